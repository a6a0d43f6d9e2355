/- Walks: triples of congruences, both sides. -/
import Derived.Test.YtnjocjfhaahmfaaGreatJVs
namespace Go.Proofs.YtnjocjfhaahmfaaGreat
open Go Go.Pv Go.Proofs
set_option maxHeartbeats 32000000
set_option maxRecDepth 100000
attribute [local bitvec_to_nat] St.put St.setObj St.ev killP killA killP1 killH mapHO renP renA ren1 killG killGA killG1 krowP krowA krow1 lendP lendA lend1 unv pinP pin1 elemsM viewM viewN viewV n_set_z n_set_s n_map_c n_map_n getD_z getD_s n_toNat n_cond_t n_cond_f n_len_c n_len_n n_app_c n_app_n n_take_s n_take_z n_drop_s n_drop_z n_get_z n_get_s view viewA view1 elems Nat.zero_add Nat.add_zero Bool.not_true Bool.not_false Nat.one_ne_zero Nat.mul_one

def gdB : Bool → Nat → List Int → List Int → List Int → Bool
  | true, n => mdlB n
  | false, n => disB n
def btL : Option (Nat × Nat × Nat) → List Nat
  | none => []
  | some (i, j, k) => [i, j, k]
def natsL (L : List Nat) : List Int := L.map fun (a : Nat) => (a : Int)
theorem sfault53_c (n : Nat) (V : List (List Int)) (md : Bool) (hn : n ≤ 1000) (hV : ∀ p ∈ V, Pt n p) (hl : V.length ≤ 1000000) :
    PCalls Tryz.prog 140 [intss V, B md] (.tup [ints (natsL (btL (btO V (gdB md n)))), B (btO V (gdB md n)).isSome]) := by
  refine pcalls2 Tryz.func140 rfl Tryz.ntmps140 rfl ?_
  refine wF ?_
  repeat' (first
| refine wO ?_
| (refine o_go rfl ?_; (first
| refine wS ?_); refine ⟨_, aA, ?_⟩))
  refine g_loopT (α := Nat) (fun i => [(6, I (i : Int))]) (fun _ => []) (fun i => i ≤ V.length ∧ ∀ l, l < i → btJ V (gdB md n) l = none) (fun i => V.length - i) 0 aF ⟨Nat.zero_le _, fun j hj => absurd hj (Nat.not_lt_zero _)⟩ ⟨rfl, trivial⟩ rfl ?_
  rintro i ⟨hi, hni⟩
  dsimp only [zZ, List.set_cons_zero, List.set_cons_succ]
  by_cases hil : i < V.length
  · have ri := rows_at hil
    have pi := hV _ (rows_mem hil)
    repeat' (first
| refine wO ?_
| (refine o_go rfl ?_; (first
| refine wS ?_); refine ⟨_, aA, ?_⟩)
| (refine zK rfl (fun hc => ?_) (fun hc => ?_) <;> try (exfalso; omega))
| refine wE ?_)
    all_goals try (exfalso; omega)
    refine g_loopT (α := Nat) (fun j => [(7, I (j : Int))]) (fun _ => []) (fun j => j ≤ V.length ∧ ∀ l, l < j → btK V (gdB md n) i l = none) (fun j => V.length - j) 0 aF ⟨Nat.zero_le _, fun j hj => absurd hj (Nat.not_lt_zero _)⟩ ⟨rfl, trivial⟩ rfl ?_
    rintro j ⟨hj, hnj⟩
    dsimp only [zZ, List.set_cons_zero, List.set_cons_succ]
    by_cases hjl : j < V.length
    · have rj := rows_at hjl
      have pj := hV _ (rows_mem hjl)
      repeat' (first
| refine wO ?_
| (refine o_go rfl ?_; (first
| refine wS ?_); refine ⟨_, aA, ?_⟩)
| (refine zK rfl (fun hc => ?_) (fun hc => ?_) <;> try (exfalso; omega))
| refine wE ?_)
      all_goals try (exfalso; omega)
      refine g_loopT (α := Nat) (fun k => [(8, I (k : Int))]) (fun _ => []) (fun k => k ≤ V.length ∧ ∀ l, l < k → gdB md n (V.getD i []) (V.getD j []) (V.getD l []) = true) (fun k => V.length - k) 0 aF ⟨Nat.zero_le _, fun j hj => absurd hj (Nat.not_lt_zero _)⟩ ⟨rfl, trivial⟩ rfl ?_
      rintro k ⟨hk, hnk⟩
      dsimp only [zZ, List.set_cons_zero, List.set_cons_succ]
      by_cases hkl : k < V.length
      · have rk := rows_at hkl
        have pk := hV _ (rows_mem hkl)
        have hO : gdB md n (V.getD i []) (V.getD j []) (V.getD k []) = false → btO V (gdB md n) = some (i, j, k) := fun hb => range_findSome_at hil (range_findSome_at hjl (btK_some hkl hb hnk) hnj) hni
        have hE : gdB md n (V.getD i []) (V.getD j []) (V.getD k []) = ((md && !fiB n (V.getD k []) (V.getD i [])) || disB n (V.getD i []) (V.getD j []) (V.getD k [])) := by cases md <;> rfl
        have b1 := sbel_c n (V.getD k []) (V.getD i []) hn pk pi.len
        have j1 := sjoin_c n (V.getD j []) (V.getD k []) (by omega) pj.len pk
        have qjk := join_pt pj pk
        have m1 := smeet6_c n (V.getD i []) _ hn pi qjk
        have m2 := smeet6_c n (V.getD i []) (V.getD j []) hn pi pj
        have m3 := smeet6_c n (V.getD i []) (V.getD k []) hn pi pk
        have q1 : Pt n (meetP n (V.getD i []) (joinP n (V.getD j []) (V.getD k []))) := meet_pt
        have q2 : Pt n (meetP n (V.getD i []) (V.getD j [])) := meet_pt
        have q3 : Pt n (meetP n (V.getD i []) (V.getD k [])) := meet_pt
        have j2 := sjoin_c n _ _ (by omega) q2.len q3
        have s1 := gsame_c (meetP n (V.getD i []) (joinP n (V.getD j []) (V.getD k []))) (joinP n (meetP n (V.getD i []) (V.getD j [])) (meetP n (V.getD i []) (V.getD k []))) (by rw [q1.len]; omega)
        have hd : disB n (V.getD i []) (V.getD j []) (V.getD k []) = decide (meetP n (V.getD i []) (joinP n (V.getD j []) (V.getD k [])) = joinP n (meetP n (V.getD i []) (V.getD j [])) (meetP n (V.getD i []) (V.getD k []))) := rfl
        rw [← hd] at s1
        clear hd q1 q2 q3 qjk
        have hnext : gdB md n (V.getD i []) (V.getD j []) (V.getD k []) = true → ∀ l, l < k + 1 → gdB md n (V.getD i []) (V.getD j []) (V.getD l []) = true := fun hg l hlk => by
          rcases Nat.lt_or_ge l k with h | h
          · exact hnk l h
          · rw [show l = k by omega]; exact hg
        generalize fiB n (V.getD k []) (V.getD i []) = fb at *
        generalize disB n (V.getD i []) (V.getD j []) (V.getD k []) = db at *
        rw [hE] at hO hnext
        cases md with
        | true =>
          cases fb with
          | false =>
            repeat' (first
| refine wO ?_
| refine zP (by kernel_rfl) (by kernel_rfl) ?_
| (refine o_go rfl ?_; (first
| refine p_p (zG rfl rfl aB (b1)) ?_
| refine p_p (zN rfl rfl rfl (by omega) ri (by exact rfl)) ?_
| refine p_p (zN rfl rfl rfl (by omega) rj (by exact rfl)) ?_
| refine p_p (zN rfl rfl rfl (by omega) rk (by exact rfl)) ?_
| refine wS ?_); refine ⟨_, aA, ?_⟩)
| (refine zK rfl (fun hc => ?_) (fun hc => ?_) <;> try (exfalso; omega))
| refine wE ?_)
            all_goals try (exfalso; omega)
            exact zT (K := fun _ _ => True) (k + 1) ⟨by omega, hnext rfl⟩ (by omega) aI ⟨rfl, trivial⟩ (zM _)
          | true =>
            cases db with
            | true =>
              repeat' (first
| refine wO ?_
| refine zP (by kernel_rfl) (by kernel_rfl) ?_
| (refine o_go rfl ?_; (first
| refine p_p (zG rfl rfl aB (b1)) ?_
| refine p_p (zG rfl rfl aB (j1)) ?_
| refine p_p (zG rfl rfl aB (m1)) ?_
| refine p_p (zG rfl rfl aB (m2)) ?_
| refine p_p (zG rfl rfl aB (m3)) ?_
| refine p_p (zG rfl rfl aB (j2)) ?_
| refine p_p (zG rfl rfl aB (s1)) ?_
| refine p_p (zN rfl rfl rfl (by omega) ri (by exact rfl)) ?_
| refine p_p (zN rfl rfl rfl (by omega) rj (by exact rfl)) ?_
| refine p_p (zN rfl rfl rfl (by omega) rk (by exact rfl)) ?_
| refine wS ?_); refine ⟨_, aA, ?_⟩)
| (refine zK rfl (fun hc => ?_) (fun hc => ?_) <;> try (exfalso; omega))
| refine wE ?_)
              all_goals try (exfalso; omega)
              exact zT (K := fun _ _ => True) (k + 1) ⟨by omega, hnext rfl⟩ (by omega) aI ⟨rfl, trivial⟩ (zM _)
            | false =>
              rw [hO rfl]
              repeat' (first
| refine wO ?_
| refine zP (by kernel_rfl) (by kernel_rfl) ?_
| (refine o_go rfl ?_; (first
| refine p_p (zG rfl rfl aB (b1)) ?_
| refine p_p (zG rfl rfl aB (j1)) ?_
| refine p_p (zG rfl rfl aB (m1)) ?_
| refine p_p (zG rfl rfl aB (m2)) ?_
| refine p_p (zG rfl rfl aB (m3)) ?_
| refine p_p (zG rfl rfl aB (j2)) ?_
| refine p_p (zG rfl rfl aB (s1)) ?_
| refine p_p (ps_lits rfl (by exact rfl) (by exact rfl) aS (by decide) (by decide)) ?_
| refine p_p (zN rfl rfl rfl (by omega) ri (by exact rfl)) ?_
| refine p_p (zN rfl rfl rfl (by omega) rj (by exact rfl)) ?_
| refine p_p (zN rfl rfl rfl (by omega) rk (by exact rfl)) ?_
| refine wS ?_); refine ⟨_, aA, ?_⟩)
| (refine zK rfl (fun hc => ?_) (fun hc => ?_) <;> try (exfalso; omega))
| refine kr2 ?_ ?_
| refine krB rfl ?_
| refine krS rfl ?_
| refine wE ?_)
              all_goals first | rfl | (exfalso; omega)
        | false =>
          cases db with
          | true =>
            repeat' (first
| refine wO ?_
| refine zP (by kernel_rfl) (by kernel_rfl) ?_
| (refine o_go rfl ?_; (first
| refine p_p (zG rfl rfl aB (j1)) ?_
| refine p_p (zG rfl rfl aB (m1)) ?_
| refine p_p (zG rfl rfl aB (m2)) ?_
| refine p_p (zG rfl rfl aB (m3)) ?_
| refine p_p (zG rfl rfl aB (j2)) ?_
| refine p_p (zG rfl rfl aB (s1)) ?_
| refine p_p (zN rfl rfl rfl (by omega) ri (by exact rfl)) ?_
| refine p_p (zN rfl rfl rfl (by omega) rj (by exact rfl)) ?_
| refine p_p (zN rfl rfl rfl (by omega) rk (by exact rfl)) ?_
| refine wS ?_); refine ⟨_, aA, ?_⟩)
| (refine o_s rfl ?_; refine ⟨_, aA, ?_⟩)
| (refine zK rfl (fun hc => ?_) (fun hc => ?_) <;> try (exfalso; omega))
| refine wE ?_)
            all_goals try (exfalso; omega)
            exact zT (K := fun _ _ => True) (k + 1) ⟨by omega, hnext rfl⟩ (by omega) aI ⟨rfl, trivial⟩ (zM _)
          | false =>
            rw [hO rfl]
            repeat' (first
| refine wO ?_
| refine zP (by kernel_rfl) (by kernel_rfl) ?_
| (refine o_go rfl ?_; (first
| refine p_p (zG rfl rfl aB (j1)) ?_
| refine p_p (zG rfl rfl aB (m1)) ?_
| refine p_p (zG rfl rfl aB (m2)) ?_
| refine p_p (zG rfl rfl aB (m3)) ?_
| refine p_p (zG rfl rfl aB (j2)) ?_
| refine p_p (zG rfl rfl aB (s1)) ?_
| refine p_p (ps_lits rfl (by exact rfl) (by exact rfl) aS (by decide) (by decide)) ?_
| refine p_p (zN rfl rfl rfl (by omega) ri (by exact rfl)) ?_
| refine p_p (zN rfl rfl rfl (by omega) rj (by exact rfl)) ?_
| refine p_p (zN rfl rfl rfl (by omega) rk (by exact rfl)) ?_
| refine wS ?_); refine ⟨_, aA, ?_⟩)
| (refine o_s rfl ?_; refine ⟨_, aA, ?_⟩)
| (refine zK rfl (fun hc => ?_) (fun hc => ?_) <;> try (exfalso; omega))
| refine kr2 ?_ ?_
| refine krB rfl ?_
| refine krS rfl ?_
| refine wE ?_)
            all_goals first | rfl | (exfalso; omega)
      · repeat' (first
| refine wO ?_
| (refine o_go rfl ?_; (first
| refine wS ?_); refine ⟨_, aA, ?_⟩)
| (refine zK rfl (fun hc => ?_) (fun hc => ?_) <;> try (exfalso; omega))
| refine wE ?_)
        all_goals try (exfalso; omega)
        refine zT (K := fun _ _ => True) (j + 1) ⟨by omega, fun l hlj => ?_⟩ (by omega) aI ⟨rfl, trivial⟩ (zM _)
        rcases Nat.lt_or_ge l j with h | h
        · exact hnj l h
        · rw [show l = j by omega]
          exact btK_none fun l hl => hnk l (by omega)
    · repeat' (first
| refine wO ?_
| (refine o_go rfl ?_; (first
| refine wS ?_); refine ⟨_, aA, ?_⟩)
| (refine zK rfl (fun hc => ?_) (fun hc => ?_) <;> try (exfalso; omega))
| refine wE ?_)
      all_goals try (exfalso; omega)
      refine zT (K := fun _ _ => True) (i + 1) ⟨by omega, fun l hlj => ?_⟩ (by omega) aI ⟨rfl, trivial⟩ (zM _)
      rcases Nat.lt_or_ge l i with h | h
      · exact hni l h
      · rw [show l = i by omega]
        exact range_findSome_none fun l hl => hnj l (by omega)
  · have hv : btO V (gdB md n) = none := range_findSome_none fun l hl => hni l (by omega)
    rw [hv]
    repeat' (first
| refine wO ?_
| (refine o_go rfl ?_; (first
| refine p_p (ps_lits rfl (by exact rfl) (by exact rfl) aS (by decide) (by decide)) ?_
| refine wS ?_); refine ⟨_, aA, ?_⟩)
| (refine zK rfl (fun hc => ?_) (fun hc => ?_) <;> try (exfalso; omega))
| refine kr2 ?_ ?_
| refine krB rfl ?_
| refine krS rfl ?_
| refine wE ?_)
    all_goals first | rfl | (exfalso; omega)
theorem imdl_c (n : Nat) (p q r : List Int) (hn : n ≤ 1000) (hp : Pt n p) (hq : Pt n q) (hr : Pt n r) : PCalls Tryz.prog 141 [ints p, ints q, ints r] (B (mdlB n p q r)) := by
  refine pcalls1 Tryz.func141 rfl Tryz.ntmps141 rfl ?_
  refine wF ?_
  have f1 := ifiner_c n r p hn hr hp.len
  cases hf : fiB n r p with
  | false =>
    rw [hf] at f1
    rw [show mdlB n p q r = true by unfold mdlB; rw [hf]; rfl]
    repeat' (first
| refine wO ?_
| (refine o_go rfl ?_; (first
| refine p_p (zG rfl rfl aB (f1)) ?_
| refine wS ?_); refine ⟨_, aA, ?_⟩)
| (refine o_s rfl ?_; refine ⟨_, aA, ?_⟩)
| refine kr1 ?_
| refine krB rfl ?_
| refine wE ?_)
    all_goals rfl
  | true =>
    rw [hf] at f1
    have j1 : PCalls Tryz.prog 147 [ints q, ints r] (ints (joinP n q r)) := rcalls_P rfl (ijoin_R n q r (by omega) hq.len hr)
    have pj := join_pt hq hr
    have m1 : PCalls Tryz.prog 148 [ints p, ints (joinP n q r)] (ints (meetP n p (joinP n q r))) := rcalls_P rfl (imeet_R n p _ hn hp pj)
    have m2 : PCalls Tryz.prog 148 [ints p, ints q] (ints (meetP n p q)) := rcalls_P rfl (imeet_R n p q hn hp hq)
    have p2 : Pt n (meetP n p q) := meet_pt
    have p4 : Pt n (meetP n p (joinP n q r)) := meet_pt
    have j2 : PCalls Tryz.prog 147 [ints r, ints (meetP n p q)] (ints (joinP n r (meetP n p q))) := rcalls_P rfl (ijoin_R n _ _ (by omega) hr.len p2)
    rw [← mdl_same hp hq hr ((fiB_iff hr hp).1 hf)] at j2
    have s1 := gisame_c (meetP n p (joinP n q r)) (joinP n (meetP n p q) (meetP n p r)) (by rw [p4.len]; omega)
    have hv : mdlB n p q r = decide (meetP n p (joinP n q r) = joinP n (meetP n p q) (meetP n p r)) := by unfold mdlB; rw [hf]; rfl
    rw [← hv] at s1
    generalize mdlB n p q r = b at *
    repeat' (first
| refine wO ?_
| (refine o_go rfl ?_; (first
| refine p_p (zG rfl rfl aB (f1)) ?_
| refine p_p (zG rfl rfl aB (j1)) ?_
| refine p_p (zG rfl rfl aB (m1)) ?_
| refine p_p (zG rfl rfl aB (m2)) ?_
| refine p_p (zG rfl rfl aB (j2)) ?_
| refine p_p (zG rfl rfl aB (s1)) ?_
| refine wS ?_); refine ⟨_, aA, ?_⟩)
| refine kr1 ?_
| refine krB rfl ?_
| refine wE ?_)
    all_goals rfl
noncomputable def tpO (md : Bool) (n : Int) (ops : List OpD) : Option (Nat × Nat × Nat) := if fcB n ops then btO (acV n ops) (gdB md n.toNat) else none
noncomputable def tpW (md : Bool) (n : Int) (ops : List OpD) : List (List Int) := (btL (tpO md n ops)).map fun a => (acV n ops).getD a []
noncomputable def gdjB (md : Bool) (n : Int) (ops : List OpD) : Bool := fcB n ops && (tpO md n ops).isNone
theorem gdj_dis (n : Int) (ops : List OpD) : disjB n ops = gdjB false n ops := by
  unfold disjB gdjB tpO
  cases fcB n ops <;> rfl
theorem btL_len : ∀ t, (btL t).length ≤ 3
  | none => Nat.zero_le _
  | some (_, _, _) => Nat.le_refl _
theorem btL_mem {V : List (List Int)} {good : List Int → List Int → List Int → Bool} : ∀ a ∈ btL (btO V good), a < V.length := fun a ha => by
  cases h : btO V good with
  | none => rw [h] at ha; cases ha
  | some t =>
    obtain ⟨i, j, k⟩ := t
    obtain ⟨h1, h2, h3, -⟩ := btO_some h
    rw [h] at ha
    simp only [btL, List.mem_cons, List.not_mem_nil, or_false] at ha
    rcases ha with rfl | rfl | rfl <;> assumption
theorem tpO_some {md : Bool} {n : Int} {ops : List OpD} (h : fcB n ops = true) : tpO md n ops = btO (acV n ops) (gdB md n.toNat) := by unfold tpO; rw [h, if_pos rfl]
theorem striple_c (n : Int) (ops : List OpD) (md : Bool) (hs : szOk ops) : PCalls Tryz.prog 146 [algP n ops, B md] (.tup [intss (tpW md n ops), B (tpO md n ops).isSome]) := by
  refine pcalls2 Tryz.func146 rfl Tryz.ntmps146 rfl ?_
  refine wF ?_
  have h1 := sfew53_c n ops hs
  cases hf : fcB n ops with
  | false =>
    have ho : tpO md n ops = none := by unfold tpO; rw [hf]; rfl
    rw [show tpW md n ops = [] by unfold tpW; rw [ho]; rfl, ho]
    rw [hf, if_neg Bool.false_ne_true] at h1
    repeat' (first
| refine wO ?_
| (refine o_go rfl ?_; (first
| refine p_p (zG rfl rfl aB (h1)) ?_
| refine p_p (ps_lits rfl (by exact rfl) (by exact rfl) aS (by decide) (by decide)) ?_
| refine wS ?_
| refine p_p (ps_load_agg rfl rfl aJ) ?_
| refine p_p (ps_box rfl rfl) ?_); refine ⟨_, aA, ?_⟩)
| refine kr2 ?_ ?_
| refine krB rfl ?_
| refine krS rfl ?_
| refine wE ?_)
    all_goals rfl
  | true =>
    obtain ⟨m, rfl, hm0, hm8, h4, ho, hg, hV, h60⟩ := fcB_facts hf
    rw [hf, if_pos rfl, hV] at h1
    have h2 := sfault53_c m (allL m ops) md (by omega) fc_pt (by omega)
    have hO := tpO_some (md := md) hf
    rw [hV, Int.toNat_natCast] at hO
    unfold tpW
    rw [hV, hO]
    have hL3 := btL_len (btO (allL m ops) (gdB md m))
    have hLm := btL_mem (V := allL m ops) (good := gdB md m)
    have hrl : ∀ p ∈ allL m ops, p.length ≤ 1048576 := fun p hp => by rw [(fc_pt p hp).len]; omega
    cases hb : (btO (allL m ops) (gdB md m)).isSome with
    | false =>
      have hno : btO (allL m ops) (gdB md m) = none := by
        cases h : btO (allL m ops) (gdB md m) with
        | none => rfl
        | some t => rw [h] at hb; cases hb
      rw [hno] at h2 ⊢
      generalize allL m ops = V at *
      change PCalls _ _ _ (.tup [_, B false]) at h2
      repeat' (first
| refine wO ?_
| (refine o_go rfl ?_; (first
| refine p_p (zG rfl rfl aB (h1)) ?_
| refine p_p (zG rfl rfl aB (h2)) ?_
| refine p_p (ps_lits rfl (by exact rfl) (by exact rfl) aS (by decide) (by decide)) ?_
| refine wS ?_
| refine p_p (ps_load_agg rfl rfl aJ) ?_
| refine p_p (ps_box rfl rfl) ?_); refine ⟨_, aA, ?_⟩)
| refine kr2 ?_ ?_
| refine krB rfl ?_
| refine krS rfl ?_
| refine wE ?_)
      all_goals rfl
    | true =>
      rw [hb] at h2
      generalize allL m ops = V at *
      generalize btL (btO V (gdB md m)) = L at *
      have hLl : (natsL L).length = L.length := List.length_map _
      repeat' (first
| refine wO ?_
| (refine o_go rfl ?_; (first
| refine p_p (zG rfl rfl aB (h1)) ?_
| refine p_p (zG rfl rfl aB (h2)) ?_
| refine p_e rfl (e_lit0T rfl (by decide)) ?_
| refine wS ?_
| refine p_p (ps_load_agg rfl rfl aJ) ?_
| refine p_p (ps_box rfl rfl) ?_); refine ⟨_, aA, ?_⟩)
| refine wE ?_)
      refine g_loopF (α := Nat) [29] (fun x => [(10, .hp 0), (11, I (x : Int))]) (fun x => [.arr true 1 41 (((L.take x).map fun a => V.getD a []).map ints)]) (fun x => x ≤ L.length) (fun x => L.length - x) 0 aF (Nat.zero_le _) ⟨rfl, rfl, trivial⟩ rfl ?_
      rintro x hx
      dsimp only [zZ, List.set_cons_zero, List.set_cons_succ]
      have hll : (((L.take x).map fun a => V.getD a []).map ints).length = x := by simp; omega
      by_cases hxl : x < L.length
      · have hLx : L.getD x 0 ∈ L := by rw [List.getD_eq_getElem?_getD, List.getElem?_eq_getElem hxl]; exact List.getElem_mem hxl
        have hax := hLm _ hLx
        have ix : ((natsL L).map I)[((x : Nat) : Int).toNat]? = some (I ((L.getD x 0 : Nat) : Int)) := by
          rw [Int.toNat_natCast, natsL, List.getElem?_map, List.getElem?_map, List.getElem?_eq_getElem hxl, List.getD_eq_getElem?_getD, List.getElem?_eq_getElem hxl]; rfl
        have hs : (L.take (x + 1)).map (fun a => V.getD a []) = (L.take x).map (fun a => V.getD a []) ++ [V.getD (L.getD x 0) []] := by rw [take_snoc 0 hxl, List.map_append]; rfl
        have hrow := rows_at hax
        have o1 := sown_c (V.getD (L.getD x 0) []) (hrl _ (rows_mem hax))
        generalize L.getD x 0 = a at *
        generalize V.getD a [] = r at *
        repeat' (first
| refine wO ?_
| (refine o_go rfl ?_; (first
| refine p_p (zG rfl rfl aB (o1)) ?_
| refine p_p (zN rfl rfl rfl (by omega) ix (by exact rfl)) ?_
| refine p_p (zN rfl rfl rfl (by omega) hrow (by exact rfl)) ?_
| refine p_e (by kernel_rfl) (e_append rfl rfl rfl rfl rfl rfl (one_one rfl) rfl (by rw [hll, n_len_c, n_len_n]; omega) (by rw [hll, n_len_c, n_len_n]; omega)) ?_
| refine wS ?_
| refine p_p (ps_lit1 rfl rfl (by rfl) (by rfl)) ?_); refine ⟨_, aA, ?_⟩)
| (refine zK rfl (fun hc => ?_) (fun hc => ?_) <;> try (exfalso; omega))
| refine wE ?_)
        all_goals try (exfalso; omega)
        refine zT (x + 1) (by omega) (by omega) aI ⟨rfl, rfl, trivial⟩ (zB ?_ (zM _))
        rw [hs, List.map_append]; rfl
      · rw [List.take_of_length_le (by omega)]
        repeat' (first
| refine wO ?_
| (refine o_go rfl ?_; (first
| refine wS ?_); refine ⟨_, aA, ?_⟩)
| (refine zK rfl (fun hc => ?_) (fun hc => ?_) <;> try (exfalso; omega))
| refine kr2 ?_ ?_
| refine krB rfl ?_
| refine krS rfl ?_
| refine wE ?_)
        all_goals first | rfl | (exfalso; omega)
theorem ifirst53_c (n : Int) (ops : List OpD) (md : Bool) (f : Nat) [FnT Tryz.prog f] (hs : szOk ops) (hc : ∀ m : Nat, m ≤ 8 → ∀ p q r, Pt m p → Pt m q → Pt m r → PCalls Tryz.prog f [ints p, ints q, ints r] (B (gdB md m p q r))) : PCalls Tryz.prog 145 [algP n ops, .fn f [] []] (.tup [intss (tpW md n ops), B (tpO md n ops).isSome]) := by
  refine pcalls2 Tryz.func145 rfl Tryz.ntmps145 rfl ?_
  refine wF ?_
  have h1 := ifew_c n ops hs
  cases hf : fcB n ops with
  | false =>
    have ho : tpO md n ops = none := by unfold tpO; rw [hf]; rfl
    rw [show tpW md n ops = [] by unfold tpW; rw [ho]; rfl, ho]
    rw [hf, if_neg Bool.false_ne_true] at h1
    have h2 : PCalls Tryz.prog 138 [nilV, .fn f [] []] nilV := pcallsA (ibad_c [] f (fun _ _ _ => true) (by decide) (fun p hp => by cases hp) (fun p hp => by cases hp)) ⟨PV.le_nil 1, PV.le_refl _, trivial⟩
    repeat' (first
| refine wO ?_
| (refine o_go rfl ?_; (first
| refine p_p (zG rfl rfl aB (h1)) ?_
| refine p_p (zG rfl rfl aB (h2)) ?_
| refine p_p (ps_lits rfl (by exact rfl) (by exact rfl) aS (by decide) (by decide)) ?_
| refine p_p (ps_eqnil_v rfl rfl rfl) ?_
| refine wS ?_
| refine p_p (ps_load_agg rfl rfl aJ) ?_
| refine p_p (ps_eqnil_v rfl rfl rfl) ?_
| refine p_p (ps_box rfl rfl) ?_); refine ⟨_, aA, ?_⟩)
| refine kr2 ?_ ?_
| refine krB rfl ?_
| refine krS rfl ?_
| refine wE ?_)
    all_goals rfl
  | true =>
    obtain ⟨m, rfl, hm0, hm8, h4, ho, hg, hV, h60⟩ := fcB_facts hf
    rw [hf, if_pos rfl, hV] at h1
    have h2 := ibad_c (allL m ops) f (gdB md m) (by omega) (fun p hp => by rw [(fc_pt p hp).len]; omega) fun p hp q hq r hr => hc m hm8 p q r (fc_pt p hp) (fc_pt q hq) (fc_pt r hr)
    have hO := tpO_some (md := md) hf
    rw [hV, Int.toNat_natCast] at hO
    unfold tpW
    rw [hV, hO]
    unfold btP at h2
    generalize allL m ops = V at *
    cases ht : btO V (gdB md m) with
    | none =>
      rw [ht] at h2
      dsimp only at h2
      repeat' (first
| refine wO ?_
| (refine o_go rfl ?_; (first
| refine p_p (zG rfl rfl aB (h1)) ?_
| refine p_p (zG rfl rfl aB (h2)) ?_
| refine p_p (ps_lits rfl (by exact rfl) (by exact rfl) aS (by decide) (by decide)) ?_
| refine p_p (ps_eqnil_v rfl rfl rfl) ?_
| refine wS ?_
| refine p_p (ps_load_agg rfl rfl aJ) ?_
| refine p_p (ps_eqnil_v rfl rfl rfl) ?_
| refine p_p (ps_box rfl rfl) ?_); refine ⟨_, aA, ?_⟩)
| refine kr2 ?_ ?_
| refine krB rfl ?_
| refine krS rfl ?_
| refine wE ?_)
      all_goals rfl
    | some t =>
      obtain ⟨i, j, k⟩ := t
      rw [ht] at h2
      dsimp only at h2
      repeat' (first
| refine wO ?_
| (refine o_go rfl ?_; (first
| refine p_p (zG rfl rfl aB (h1)) ?_
| refine p_p (zG rfl rfl aB (h2)) ?_
| refine p_p (ps_eqnil_ne rfl rfl rfl (by simp)) ?_
| refine wS ?_
| refine p_p (ps_load_agg rfl rfl aJ) ?_
| refine p_p (ps_box rfl rfl) ?_); refine ⟨_, aA, ?_⟩)
| refine kr2 ?_ ?_
| refine krB rfl ?_
| refine krS rfl ?_
| refine wE ?_)
      all_goals rfl
theorem ifund_c (n : Int) (ops : List OpD) (hs : szOk ops) : PCalls Tryz.prog 51 [algP n ops] (.tup [intss (tpW false n ops), B (tpO false n ops).isSome]) := by
  refine pcalls2 Tryz.func51 rfl Tryz.ntmps51 rfl ?_
  refine wF ?_
  have h1 := ifirst53_c n ops false 139 hs fun m hm p q r hp hq hr => idis_c m p q r (by omega) hp hq hr
  generalize tpW false n ops = W at *
  generalize (tpO false n ops).isSome = b at *
  repeat' (first
| refine wO ?_
| (refine o_go rfl ?_; (first
| refine p_p (zG rfl rfl aB (h1)) ?_
| refine wS ?_
| refine p_p (ps_load_agg rfl rfl aJ) ?_
| refine p_p (ps_box rfl rfl) ?_); refine ⟨_, aA, ?_⟩)
| refine kr2 ?_ ?_
| refine krB rfl ?_
| refine krS rfl ?_
| refine wE ?_)
  all_goals rfl
theorem ifunm_c (n : Int) (ops : List OpD) (hs : szOk ops) : PCalls Tryz.prog 54 [algP n ops] (.tup [intss (tpW true n ops), B (tpO true n ops).isSome]) := by
  refine pcalls2 Tryz.func54 rfl Tryz.ntmps54 rfl ?_
  refine wF ?_
  have h1 := ifirst53_c n ops true 141 hs fun m hm p q r hp hq hr => imdl_c m p q r (by omega) hp hq hr
  generalize tpW true n ops = W at *
  generalize (tpO true n ops).isSome = b at *
  repeat' (first
| refine wO ?_
| (refine o_go rfl ?_; (first
| refine p_p (zG rfl rfl aB (h1)) ?_
| refine wS ?_
| refine p_p (ps_load_agg rfl rfl aJ) ?_
| refine p_p (ps_box rfl rfl) ?_); refine ⟨_, aA, ?_⟩)
| refine kr2 ?_ ?_
| refine krB rfl ?_
| refine krS rfl ?_
| refine wE ?_)
  all_goals rfl
theorem sfund_c (n : Int) (ops : List OpD) (hs : szOk ops) : PCalls Tryz.prog 52 [algP n ops] (.tup [intss (tpW false n ops), B (tpO false n ops).isSome]) := by
  refine pcalls2 Tryz.func52 rfl Tryz.ntmps52 rfl ?_
  refine wF ?_
  have h1 := striple_c n ops false hs
  generalize tpW false n ops = W at *
  generalize (tpO false n ops).isSome = b at *
  repeat' (first
| refine wO ?_
| (refine o_go rfl ?_; (first
| refine p_p (zG rfl rfl aB (h1)) ?_
| refine wS ?_
| refine p_p (ps_load_agg rfl rfl aJ) ?_
| refine p_p (ps_box rfl rfl) ?_); refine ⟨_, aA, ?_⟩)
| refine kr2 ?_ ?_
| refine krB rfl ?_
| refine krS rfl ?_
| refine wE ?_)
  all_goals rfl
theorem sfunm_c (n : Int) (ops : List OpD) (hs : szOk ops) : PCalls Tryz.prog 55 [algP n ops] (.tup [intss (tpW true n ops), B (tpO true n ops).isSome]) := by
  refine pcalls2 Tryz.func55 rfl Tryz.ntmps55 rfl ?_
  refine wF ?_
  have h1 := striple_c n ops true hs
  generalize tpW true n ops = W at *
  generalize (tpO true n ops).isSome = b at *
  repeat' (first
| refine wO ?_
| (refine o_go rfl ?_; (first
| refine p_p (zG rfl rfl aB (h1)) ?_
| refine wS ?_
| refine p_p (ps_load_agg rfl rfl aJ) ?_
| refine p_p (ps_box rfl rfl) ?_); refine ⟨_, aA, ?_⟩)
| refine kr2 ?_ ?_
| refine krB rfl ?_
| refine krS rfl ?_
| refine wE ?_)
  all_goals rfl
theorem imod_c (n : Int) (ops : List OpD) (hs : szOk ops) : PCalls Tryz.prog 46 [algP n ops] (.tup [B (gdjB true n ops), B (fcB n ops)]) := by
  refine pcalls2 Tryz.func46 rfl Tryz.ntmps46 rfl ?_
  refine wF ?_
  have h1 := ifew_c n ops hs
  unfold gdjB
  cases hf : fcB n ops with
  | false =>
    rw [hf, if_neg Bool.false_ne_true] at h1
    rw [Bool.false_and]
    repeat' (first
| refine wO ?_
| (refine o_go rfl ?_; (first
| refine p_p (zG rfl rfl aB (h1)) ?_
| refine wS ?_
| refine p_p (ps_load_agg rfl rfl aJ) ?_
| refine p_p (ps_box rfl rfl) ?_); refine ⟨_, aA, ?_⟩)
| (refine o_s rfl ?_; refine ⟨_, aA, ?_⟩)
| refine kr2 ?_ ?_
| refine krB rfl ?_
| refine wE ?_)
    all_goals rfl
  | true =>
    obtain ⟨m, rfl, hm0, hm8, h4, ho, hg, hV, h60⟩ := fcB_facts hf
    rw [hf, if_pos rfl, hV] at h1
    rw [tpO_some hf, hV, Bool.true_and, Int.toNat_natCast]
    have h2 := ibad_c (allL m ops) 141 (gdB true m) (by omega) (fun p hp => by rw [(fc_pt p hp).len]; omega) fun p hp q hq r hr => imdl_c m p q r (by omega) (fc_pt p hp) (fc_pt q hq) (fc_pt r hr)
    unfold btP at h2
    generalize allL m ops = V at *
    cases ht : btO V (gdB true m) with
    | none =>
      rw [ht] at h2
      dsimp only at h2
      repeat' (first
| refine wO ?_
| (refine o_go rfl ?_; (first
| refine p_p (zG rfl rfl aB (h1)) ?_
| refine p_p (zG rfl rfl aB (h2)) ?_
| refine p_p (ps_eqnil_v rfl rfl rfl) ?_
| refine wS ?_
| refine p_p (ps_load_agg rfl rfl aJ) ?_
| refine p_p (ps_eqnil_v rfl rfl rfl) ?_
| refine p_p (ps_box rfl rfl) ?_); refine ⟨_, aA, ?_⟩)
| refine kr2 ?_ ?_
| refine krB rfl ?_
| refine wE ?_)
      all_goals rfl
    | some t =>
      obtain ⟨i, j, k⟩ := t
      rw [ht] at h2
      dsimp only at h2
      repeat' (first
| refine wO ?_
| (refine o_go rfl ?_; (first
| refine p_p (zG rfl rfl aB (h1)) ?_
| refine p_p (zG rfl rfl aB (h2)) ?_
| refine p_p (ps_eqnil_ne rfl rfl rfl (by simp)) ?_
| refine wS ?_
| refine p_p (ps_load_agg rfl rfl aJ) ?_
| refine p_p (ps_box rfl rfl) ?_); refine ⟨_, aA, ?_⟩)
| refine kr2 ?_ ?_
| refine krB rfl ?_
| refine wE ?_)
      all_goals rfl
theorem smod_c (n : Int) (ops : List OpD) (hs : szOk ops) : PCalls Tryz.prog 47 [algP n ops] (.tup [B (gdjB true n ops), B (fcB n ops)]) := by
  refine pcalls2 Tryz.func47 rfl Tryz.ntmps47 rfl ?_
  refine wF ?_
  have h1 := sfew53_c n ops hs
  unfold gdjB
  cases hf : fcB n ops with
  | false =>
    rw [hf, if_neg Bool.false_ne_true] at h1
    rw [Bool.false_and]
    repeat' (first
| refine wO ?_
| (refine o_go rfl ?_; (first
| refine p_p (zG rfl rfl aB (h1)) ?_
| refine wS ?_
| refine p_p (ps_load_agg rfl rfl aJ) ?_
| refine p_p (ps_box rfl rfl) ?_); refine ⟨_, aA, ?_⟩)
| refine kr2 ?_ ?_
| refine krB rfl ?_
| refine wE ?_)
    all_goals rfl
  | true =>
    obtain ⟨m, rfl, hm0, hm8, h4, ho, hg, hV, h60⟩ := fcB_facts hf
    rw [hf, if_pos rfl, hV] at h1
    rw [tpO_some hf, hV, Bool.true_and, Int.toNat_natCast, ← Option.not_isSome]
    have h2 := sfault53_c m (allL m ops) true (by omega) fc_pt (by omega)
    generalize allL m ops = V at *
    generalize natsL (btL (btO V (gdB true m))) = L at *
    generalize (btO V (gdB true m)).isSome = b at *
    cases b with
    | true =>
      repeat' (first
| refine wO ?_
| (refine o_go rfl ?_; (first
| refine p_p (zG rfl rfl aB (h1)) ?_
| refine p_p (zG rfl rfl aB (h2)) ?_
| refine wS ?_
| refine p_p (ps_load_agg rfl rfl aJ) ?_
| refine p_p (ps_box rfl rfl) ?_); refine ⟨_, aA, ?_⟩)
| refine kr2 ?_ ?_
| refine krB rfl ?_
| refine wE ?_)
      all_goals rfl
    | false =>
      repeat' (first
| refine wO ?_
| (refine o_go rfl ?_; (first
| refine p_p (zG rfl rfl aB (h1)) ?_
| refine p_p (zG rfl rfl aB (h2)) ?_
| refine wS ?_
| refine p_p (ps_load_agg rfl rfl aJ) ?_
| refine p_p (ps_box rfl rfl) ?_); refine ⟨_, aA, ?_⟩)
| refine kr2 ?_ ?_
| refine krB rfl ?_
| refine wE ?_)
      all_goals rfl
theorem sdis53_c (n : Int) (ops : List OpD) (hs : szOk ops) : PCalls Tryz.prog 45 [algP n ops] (.tup [B (gdjB false n ops), B (fcB n ops)]) := by
  refine pcalls2 Tryz.func45 rfl Tryz.ntmps45 rfl ?_
  refine wF ?_
  have h1 := sfew53_c n ops hs
  unfold gdjB
  cases hf : fcB n ops with
  | false =>
    rw [hf, if_neg Bool.false_ne_true] at h1
    rw [Bool.false_and]
    repeat' (first
| refine wO ?_
| (refine o_go rfl ?_; (first
| refine p_p (zG rfl rfl aB (h1)) ?_
| refine wS ?_
| refine p_p (ps_load_agg rfl rfl aJ) ?_
| refine p_p (ps_box rfl rfl) ?_); refine ⟨_, aA, ?_⟩)
| refine kr2 ?_ ?_
| refine krB rfl ?_
| refine wE ?_)
    all_goals rfl
  | true =>
    obtain ⟨m, rfl, hm0, hm8, h4, ho, hg, hV, h60⟩ := fcB_facts hf
    rw [hf, if_pos rfl, hV] at h1
    rw [tpO_some hf, hV, Bool.true_and, Int.toNat_natCast, ← Option.not_isSome]
    have h2 := sfault53_c m (allL m ops) false (by omega) fc_pt (by omega)
    generalize allL m ops = V at *
    generalize natsL (btL (btO V (gdB false m))) = L at *
    generalize (btO V (gdB false m)).isSome = b at *
    cases b with
    | true =>
      repeat' (first
| refine wO ?_
| (refine o_go rfl ?_; (first
| refine p_p (zG rfl rfl aB (h1)) ?_
| refine p_p (zG rfl rfl aB (h2)) ?_
| refine wS ?_
| refine p_p (ps_load_agg rfl rfl aJ) ?_
| refine p_p (ps_box rfl rfl) ?_); refine ⟨_, aA, ?_⟩)
| refine kr2 ?_ ?_
| refine krB rfl ?_
| refine wE ?_)
      all_goals rfl
    | false =>
      repeat' (first
| refine wO ?_
| (refine o_go rfl ?_; (first
| refine p_p (zG rfl rfl aB (h1)) ?_
| refine p_p (zG rfl rfl aB (h2)) ?_
| refine wS ?_
| refine p_p (ps_load_agg rfl rfl aJ) ?_
| refine p_p (ps_box rfl rfl) ?_); refine ⟨_, aA, ?_⟩)
| refine kr2 ?_ ?_
| refine krB rfl ?_
| refine wE ?_)
      all_goals rfl
end Go.Proofs.YtnjocjfhaahmfaaGreat
