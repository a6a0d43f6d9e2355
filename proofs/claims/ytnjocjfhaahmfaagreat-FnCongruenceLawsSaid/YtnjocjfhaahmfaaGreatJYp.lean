/- Walks: distributive and arithmetical algebras, the program's side. -/
import Derived.Test.YtnjocjfhaahmfaaGreatJYo
namespace Go.Proofs.YtnjocjfhaahmfaaGreat
open Go Go.Pv Go.Proofs
set_option maxHeartbeats 32000000
set_option maxRecDepth 100000
attribute [local bitvec_to_nat] St.put St.setObj St.ev killP killA killP1 killH mapHO renP renA ren1 killG killGA killG1 krowP krowA krow1 lendP lendA lend1 unv pinP pin1 elemsM viewM viewN viewV n_set_z n_set_s n_map_c n_map_n getD_z getD_s n_toNat n_cond_t n_cond_f n_len_c n_len_n n_app_c n_app_n n_take_s n_take_z n_drop_s n_drop_z n_get_z n_get_s view viewA view1 elems Nat.zero_add Nat.add_zero Bool.not_true Bool.not_false Nat.one_ne_zero Nat.mul_one

def btK (V : List (List Int)) (good : List Int → List Int → List Int → Bool) (i j : Nat) : Option (Nat × Nat × Nat) := ((List.range V.length).find? fun k => !good (V.getD i []) (V.getD j []) (V.getD k [])).map fun k => (i, j, k)
def btJ (V : List (List Int)) (good : List Int → List Int → List Int → Bool) (i : Nat) : Option (Nat × Nat × Nat) := (List.range V.length).findSome? (btK V good i)
def btO (V : List (List Int)) (good : List Int → List Int → List Int → Bool) : Option (Nat × Nat × Nat) := (List.range V.length).findSome? (btJ V good)
def btP (V : List (List Int)) (good : List Int → List Int → List Int → Bool) : PV := match btO V good with
  | none => nilV
  | some (i, j, k) => intss [V.getD i [], V.getD j [], V.getD k []]
theorem btK_none {V : List (List Int)} {good : List Int → List Int → List Int → Bool} {i j : Nat} (h : ∀ k, k < V.length → good (V.getD i []) (V.getD j []) (V.getD k []) = true) : btK V good i j = none := by
  unfold btK
  rw [List.find?_range_eq_none.2 fun k hk => by rw [h k hk]; rfl]; rfl
theorem btK_some {V : List (List Int)} {good : List Int → List Int → List Int → Bool} {i j k : Nat} (hk : k < V.length) (hb : good (V.getD i []) (V.getD j []) (V.getD k []) = false) (h : ∀ l, l < k → good (V.getD i []) (V.getD j []) (V.getD l []) = true) : btK V good i j = some (i, j, k) := by
  unfold btK
  rw [List.find?_range_eq_some.2 ⟨by rw [hb]; rfl, List.mem_range.2 hk, fun l hl => by rw [h l hl]; rfl⟩]; rfl
theorem btO_none {V : List (List Int)} {good : List Int → List Int → List Int → Bool} (h : btO V good = none) : ∀ p ∈ V, ∀ q ∈ V, ∀ r ∈ V, good p q r = true := fun p hp q hq r hr => by
  obtain ⟨i, hi, rfl⟩ := List.getElem_of_mem hp
  obtain ⟨j, hj, rfl⟩ := List.getElem_of_mem hq
  obtain ⟨k, hk, rfl⟩ := List.getElem_of_mem hr
  have h1 := List.findSome?_eq_none_iff.1 (List.findSome?_eq_none_iff.1 h i (List.mem_range.2 hi)) j (List.mem_range.2 hj)
  unfold btK at h1
  have h2 := List.find?_range_eq_none.1 (Option.map_eq_none_iff.1 h1) k hk
  simpa [List.getD_eq_getElem?_getD, hi, hj, hk] using h2
theorem btO_all {V : List (List Int)} {good : List Int → List Int → List Int → Bool} (h : ∀ p ∈ V, ∀ q ∈ V, ∀ r ∈ V, good p q r = true) : btO V good = none :=
  range_findSome_none fun i hi => range_findSome_none fun j hj => btK_none fun k hk => h _ (rows_mem hi) _ (rows_mem hj) _ (rows_mem hk)
theorem icrows_c (V : List (List Int)) (hl : V.length ≤ 1048576) (hV : ∀ p ∈ V, p.length ≤ 1048576) : PCalls Tryz.prog 166 [intss V] (intss V) := by
  refine pcalls1 Tryz.func166 rfl Tryz.ntmps166 rfl ?_
  refine wF ?_
  repeat' (first
| refine wO ?_
| (refine o_go rfl ?_; (first
| refine p_e rfl (e_lit0T rfl (by decide)) ?_
| refine wS ?_); refine ⟨_, aA, ?_⟩))
  refine g_loopF (α := Nat) [6] (fun i => [(3, .hp 0), (9, I (i : Int))]) (fun i => [.arr true 1 41 ((V.take i).map ints)]) (fun i => i ≤ V.length) (fun i => V.length - i) 0 aF (Nat.zero_le _) ⟨rfl, rfl, trivial⟩ rfl ?_
  rintro i hi
  dsimp only [zZ, List.set_cons_zero, List.set_cons_succ]
  have hll : ((V.take i).map ints).length = i := by simp; omega
  by_cases hil : i < V.length
  · have hrow := rows_at hil
    have h1 := iclone_c (V.getD i []) (hV _ (rows_mem hil))
    have hs : V.take (i + 1) = V.take i ++ [V.getD i []] := take_snoc [] hil
    repeat' (first
| refine wO ?_
| (refine o_go rfl ?_; (first
| refine p_p (zG rfl rfl aB (h1)) ?_
| refine p_p (zN rfl rfl rfl (by omega) hrow (by exact rfl)) ?_
| refine p_e (by kernel_rfl) (e_append rfl rfl rfl rfl rfl rfl (one_one rfl) rfl (by rw [hll, n_len_c, n_len_n]; omega) (by rw [hll, n_len_c, n_len_n]; omega)) ?_
| refine wS ?_
| refine p_p (ps_lit1 rfl rfl (by rfl) (by rfl)) ?_); refine ⟨_, aA, ?_⟩)
| (refine zK rfl (fun hc => ?_) (fun hc => ?_) <;> try (exfalso; omega))
| refine wE ?_)
    all_goals try (exfalso; omega)
    refine zT (i + 1) (by omega) (by omega) aI ⟨rfl, rfl, trivial⟩ (zB ?_ (zM _))
    rw [hs, List.map_append]; rfl
  · rw [List.take_of_length_le (by omega)]
    repeat' (first
| refine wO ?_
| (refine o_go rfl ?_; (first
| refine wS ?_); refine ⟨_, aA, ?_⟩)
| (refine zK rfl (fun hc => ?_) (fun hc => ?_) <;> try (exfalso; omega))
| refine kr1 ?_
| refine krS rfl ?_
| refine wE ?_)
    all_goals first | rfl | (exfalso; omega)
theorem ibad_c (V : List (List Int)) (f : Nat) [FnT Tryz.prog f] (good : List Int → List Int → List Int → Bool) (hl : V.length ≤ 1000000) (hV : ∀ p ∈ V, p.length ≤ 1048576) (hf : ∀ p ∈ V, ∀ q ∈ V, ∀ r ∈ V, PCalls Tryz.prog f [ints p, ints q, ints r] (B (good p q r))) :
    PCalls Tryz.prog 138 [intss V, .fn f [] []] (btP V good) := by
  refine pcalls1 Tryz.func138 rfl Tryz.ntmps138 rfl ?_
  refine wF ?_
  repeat' (first
| refine wO ?_
| (refine o_go rfl ?_; (first
| refine wS ?_); refine ⟨_, aA, ?_⟩))
  refine g_loopT (α := Nat) (fun i => [(13, I (i : Int))]) (fun _ => []) (fun i => i ≤ V.length ∧ ∀ l, l < i → btJ V good l = none) (fun i => V.length - i) 0 aF ⟨Nat.zero_le _, fun j hj => absurd hj (Nat.not_lt_zero _)⟩ ⟨rfl, trivial⟩ rfl ?_
  rintro i ⟨hi, hni⟩
  dsimp only [zZ, List.set_cons_zero, List.set_cons_succ]
  by_cases hil : i < V.length
  · have ri := rows_at hil
    have mi := rows_mem hil
    repeat' (first
| refine wO ?_
| (refine o_go rfl ?_; (first
| refine p_p (zN rfl rfl rfl (by omega) ri (by exact rfl)) ?_
| refine wS ?_); refine ⟨_, aA, ?_⟩)
| (refine zK rfl (fun hc => ?_) (fun hc => ?_) <;> try (exfalso; omega))
| refine wE ?_)
    all_goals try (exfalso; omega)
    refine g_loopT (α := Nat) (fun j => [(19, I (j : Int))]) (fun _ => []) (fun j => j ≤ V.length ∧ ∀ l, l < j → btK V good i l = none) (fun j => V.length - j) 0 aF ⟨Nat.zero_le _, fun j hj => absurd hj (Nat.not_lt_zero _)⟩ ⟨rfl, trivial⟩ rfl ?_
    rintro j ⟨hj, hnj⟩
    dsimp only [zZ, List.set_cons_zero, List.set_cons_succ]
    by_cases hjl : j < V.length
    · have rj := rows_at hjl
      have mj := rows_mem hjl
      repeat' (first
| refine wO ?_
| (refine o_go rfl ?_; (first
| refine p_p (zN rfl rfl rfl (by omega) rj (by exact rfl)) ?_
| refine wS ?_); refine ⟨_, aA, ?_⟩)
| (refine zK rfl (fun hc => ?_) (fun hc => ?_) <;> try (exfalso; omega))
| refine wE ?_)
      all_goals try (exfalso; omega)
      refine g_loopT (α := Nat) (fun k => [(25, I (k : Int))]) (fun _ => []) (fun k => k ≤ V.length ∧ ∀ l, l < k → good (V.getD i []) (V.getD j []) (V.getD l []) = true) (fun k => V.length - k) 0 aF ⟨Nat.zero_le _, fun j hj => absurd hj (Nat.not_lt_zero _)⟩ ⟨rfl, trivial⟩ rfl ?_
      rintro k ⟨hk, hnk⟩
      dsimp only [zZ, List.set_cons_zero, List.set_cons_succ]
      by_cases hkl : k < V.length
      · have rk := rows_at hkl
        have mk := rows_mem hkl
        have h1 := hf _ mi _ mj _ mk
        cases hg : good (V.getD i []) (V.getD j []) (V.getD k []) with
        | true =>
          rw [hg] at h1
          repeat' (first
| refine wO ?_
| (refine o_go rfl ?_; (first
| refine p_p (zN rfl rfl rfl (by omega) rk (by exact rfl)) ?_
| refine p_p (zG rfl rfl aB (h1)) ?_
| refine wS ?_); refine ⟨_, aA, ?_⟩)
| (refine zK rfl (fun hc => ?_) (fun hc => ?_) <;> try (exfalso; omega))
| refine wE ?_)
          all_goals try (exfalso; omega)
          refine zT (k + 1) ⟨by omega, fun l hlk => ?_⟩ (by omega) aI ⟨rfl, trivial⟩ (zM _)
          rcases Nat.lt_or_ge l k with h | h
          · exact hnk l h
          · rw [show l = k by omega]; exact hg
        | false =>
          rw [hg] at h1
          have hv : btP V good = intss [V.getD i [], V.getD j [], V.getD k []] := by
            unfold btP btO
            rw [range_findSome_at hil (range_findSome_at hjl (btK_some hkl hg hnk) hnj) hni]
          have h2 := icrows_c [V.getD i [], V.getD j [], V.getD k []] (by simp) (fun p hp => hV p (by
            simp only [List.mem_cons, List.not_mem_nil, or_false] at hp
            rcases hp with rfl | rfl | rfl
            · exact mi
            · exact mj
            · exact mk))
          rw [hv]
          repeat' (first
| refine wO ?_
| (refine o_go rfl ?_; (first
| refine p_p (zN rfl rfl rfl (by omega) rk (by exact rfl)) ?_
| refine p_p (zG rfl rfl aB (h1)) ?_
| refine p_p (zG rfl rfl aB (h2)) ?_
| refine wS ?_
| refine p_p (ps_lit3 rfl rfl rfl rfl (by rfl) (by rfl) (by rfl) (by rfl)) ?_); refine ⟨_, aA, ?_⟩)
| (refine zK rfl (fun hc => ?_) (fun hc => ?_) <;> try (exfalso; omega))
| refine kr1 ?_
| refine krS rfl ?_
| refine wE ?_)
          all_goals first | rfl | (exfalso; omega)
      · repeat' (first
| refine wO ?_
| (refine o_go rfl ?_; (first
| refine wS ?_); refine ⟨_, aA, ?_⟩)
| (refine zK rfl (fun hc => ?_) (fun hc => ?_) <;> try (exfalso; omega))
| refine wE ?_)
        all_goals try (exfalso; omega)
        refine zT (K := fun _ _ => True) (j + 1) ⟨by omega, fun l hlj => ?_⟩ (by omega) aI ⟨rfl, trivial⟩ (zM _)
        rcases Nat.lt_or_ge l j with h | h
        · exact hnj l h
        · rw [show l = j by omega]
          exact btK_none fun l hl => hnk l (by omega)
    · repeat' (first
| refine wO ?_
| (refine o_go rfl ?_; (first
| refine wS ?_); refine ⟨_, aA, ?_⟩)
| (refine zK rfl (fun hc => ?_) (fun hc => ?_) <;> try (exfalso; omega))
| refine wE ?_)
      all_goals try (exfalso; omega)
      refine zT (K := fun _ _ => True) (i + 1) ⟨by omega, fun l hlj => ?_⟩ (by omega) aI ⟨rfl, trivial⟩ (zM _)
      rcases Nat.lt_or_ge l i with h | h
      · exact hni l h
      · rw [show l = i by omega]
        exact range_findSome_none fun l hl => hnj l (by omega)
  · rw [show btP V good = nilV by unfold btP btO; rw [range_findSome_none fun l hl => hni l (by omega)]]
    repeat' (first
| refine wO ?_
| (refine o_go rfl ?_; (first
| refine wS ?_); refine ⟨_, aA, ?_⟩)
| (refine zK rfl (fun hc => ?_) (fun hc => ?_) <;> try (exfalso; omega))
| refine kr1 ?_
| refine wE ?_)
    all_goals first | rfl | exact krV rfl | (exfalso; omega)
def disB (n : Nat) (p q r : List Int) : Bool := decide (meetP n p (joinP n q r) = joinP n (meetP n p q) (meetP n p r))
theorem idis_c (n : Nat) (p q r : List Int) (hn : n ≤ 1000) (hp : Pt n p) (hq : Pt n q) (hr : Pt n r) : PCalls Tryz.prog 139 [ints p, ints q, ints r] (B (disB n p q r)) := by
  refine pcalls1 Tryz.func139 rfl Tryz.ntmps139 rfl ?_
  refine wF ?_
  have j1 : PCalls Tryz.prog 147 [ints q, ints r] (ints (joinP n q r)) := rcalls_P rfl (ijoin_R n q r (by omega) hq.len hr)
  have pj := join_pt hq hr
  have m1 : PCalls Tryz.prog 148 [ints p, ints (joinP n q r)] (ints (meetP n p (joinP n q r))) := rcalls_P rfl (imeet_R n p _ hn hp pj)
  have m2 : PCalls Tryz.prog 148 [ints p, ints q] (ints (meetP n p q)) := rcalls_P rfl (imeet_R n p q hn hp hq)
  have m3 : PCalls Tryz.prog 148 [ints p, ints r] (ints (meetP n p r)) := rcalls_P rfl (imeet_R n p r hn hp hr)
  have p2 : Pt n (meetP n p q) := meet_pt
  have p3 : Pt n (meetP n p r) := meet_pt
  have p4 : Pt n (meetP n p (joinP n q r)) := meet_pt
  have j2 : PCalls Tryz.prog 147 [ints (meetP n p q), ints (meetP n p r)] (ints (joinP n (meetP n p q) (meetP n p r))) := rcalls_P rfl (ijoin_R n _ _ (by omega) p2.len p3)
  have s1 := gisame_c (meetP n p (joinP n q r)) (joinP n (meetP n p q) (meetP n p r)) (by rw [p4.len]; omega)
  have hv : disB n p q r = decide (meetP n p (joinP n q r) = joinP n (meetP n p q) (meetP n p r)) := rfl
  rw [← hv] at s1
  generalize disB n p q r = b at *
  repeat' (first
| refine wO ?_
| (refine o_go rfl ?_; (first
| refine p_p (zG rfl rfl aB (j1)) ?_
| refine p_p (zG rfl rfl aB (m1)) ?_
| refine p_p (zG rfl rfl aB (m2)) ?_
| refine p_p (zG rfl rfl aB (m3)) ?_
| refine p_p (zG rfl rfl aB (j2)) ?_
| refine p_p (zG rfl rfl aB (s1)) ?_
| refine wS ?_); refine ⟨_, aA, ?_⟩)
| refine kr1 ?_
| refine krB rfl ?_
| refine wE ?_)
  all_goals rfl
noncomputable def permB (n : Int) (ops : List OpD) : Bool := fcB n ops && paB n.toNat (acV n ops)
noncomputable def disjB (n : Int) (ops : List OpD) : Bool := fcB n ops && (btO (acV n ops) (disB n.toNat)).isNone
theorem fcB_facts {n : Int} {ops : List OpD} (h : fcB n ops = true) : ∃ m : Nat, n = m ∧ 0 < m ∧ m ≤ 8 ∧ ops.length ≤ 4 ∧ opsIn m ops ∧ algOk n ops = true ∧ acV n ops = allL m ops ∧ (allL m ops).length ≤ 60 := by
  unfold fcB at h
  rw [Bool.and_eq_true, decide_eq_true_eq] at h
  obtain ⟨h1, h2⟩ := h
  have hV : acV n ops = allL n.toNat ops := by unfold acV; rw [h1, if_pos rfl]
  have hg : algOk n ops = true := by unfold acB at h1; rw [Bool.and_eq_true] at h1; exact h1.1
  obtain ⟨m, rfl, hm0, hm8, h4, ho⟩ := algOk_facts hg
  rw [hV, Int.toNat_natCast] at h2
  rw [Int.toNat_natCast] at hV
  exact ⟨m, rfl, hm0, hm8, h4, ho, hg, hV, h2⟩
theorem iperm_c (n : Int) (ops : List OpD) (hs : szOk ops) : PCalls Tryz.prog 42 [algP n ops] (.tup [B (permB n ops), B (fcB n ops)]) := by
  refine pcalls2 Tryz.func42 rfl Tryz.ntmps42 rfl ?_
  refine wF ?_
  have h1 := ifew_c n ops hs
  unfold permB
  cases hf : fcB n ops with
  | false =>
    rw [hf, if_neg Bool.false_ne_true] at h1
    rw [Bool.false_and]
    repeat' (first
| refine wO ?_
| (refine o_go rfl ?_; (first
| refine p_p (zG rfl rfl aB (h1)) ?_
| refine wS ?_
| refine p_p (ps_load_agg rfl rfl aJ) ?_
| refine p_p (ps_box rfl rfl) ?_); refine ⟨_, aA, ?_⟩)
| refine kr2 ?_ ?_
| refine krB rfl ?_
| refine wE ?_)
    all_goals rfl
  | true =>
    obtain ⟨m, rfl, hm0, hm8, h4, ho, hg, hV, h60⟩ := fcB_facts hf
    rw [hf, if_pos rfl] at h1
    rw [hV] at h1 ⊢
    rw [Bool.true_and, Int.toNat_natCast]
    have h2 := ipa_c m (allL m ops) (by omega) (fun p hp => (allL_mem.1 hp).1.len) (by omega)
    generalize paB m (allL m ops) = b at *
    generalize allL m ops = V at *
    cases b with
    | true =>
      repeat' (first
| refine wO ?_
| (refine o_go rfl ?_; (first
| refine p_p (zG rfl rfl aB (h1)) ?_
| refine p_p (zG rfl rfl aB (h2)) ?_
| refine wS ?_
| refine p_p (ps_load_agg rfl rfl aJ) ?_
| refine p_p (ps_box rfl rfl) ?_); refine ⟨_, aA, ?_⟩)
| refine kr2 ?_ ?_
| refine krB rfl ?_
| refine wE ?_)
      all_goals rfl
    | false =>
      repeat' (first
| refine wO ?_
| (refine o_go rfl ?_; (first
| refine p_p (zG rfl rfl aB (h1)) ?_
| refine p_p (zG rfl rfl aB (h2)) ?_
| refine wS ?_
| refine p_p (ps_load_agg rfl rfl aJ) ?_
| refine p_p (ps_box rfl rfl) ?_); refine ⟨_, aA, ?_⟩)
| refine kr2 ?_ ?_
| refine krB rfl ?_
| refine wE ?_)
      all_goals rfl
theorem idist_c (n : Int) (ops : List OpD) (hs : szOk ops) : PCalls Tryz.prog 44 [algP n ops] (.tup [B (disjB n ops), B (fcB n ops)]) := by
  refine pcalls2 Tryz.func44 rfl Tryz.ntmps44 rfl ?_
  refine wF ?_
  have h1 := ifew_c n ops hs
  unfold disjB
  cases hf : fcB n ops with
  | false =>
    rw [hf, if_neg Bool.false_ne_true] at h1
    rw [Bool.false_and]
    repeat' (first
| refine wO ?_
| (refine o_go rfl ?_; (first
| refine p_p (zG rfl rfl aB (h1)) ?_
| refine wS ?_
| refine p_p (ps_load_agg rfl rfl aJ) ?_
| refine p_p (ps_box rfl rfl) ?_); refine ⟨_, aA, ?_⟩)
| (refine o_s rfl ?_; refine ⟨_, aA, ?_⟩)
| refine kr2 ?_ ?_
| refine krB rfl ?_
| refine wE ?_)
    all_goals rfl
  | true =>
    obtain ⟨m, rfl, hm0, hm8, h4, ho, hg, hV, h60⟩ := fcB_facts hf
    rw [hf, if_pos rfl] at h1
    rw [hV] at h1 ⊢
    rw [Bool.true_and, Int.toNat_natCast]
    have hPt := fun p hp => (allL_mem (n := m) (ops := ops) (q := p)).1 hp |>.1
    have h2 := ibad_c (allL m ops) 139 (disB m) (by omega) (fun p hp => by rw [(hPt p hp).len]; omega) fun p hp q hq r hr => idis_c m p q r (by omega) (hPt p hp) (hPt q hq) (hPt r hr)
    unfold btP at h2
    generalize allL m ops = V at *
    cases ht : btO V (disB m) with
    | none =>
      rw [ht] at h2
      dsimp only at h2
      repeat' (first
| refine wO ?_
| (refine o_go rfl ?_; (first
| refine p_p (zG rfl rfl aB (h1)) ?_
| refine p_p (zG rfl rfl aB (h2)) ?_
| refine p_p (ps_eqnil_v rfl rfl rfl) ?_
| refine wS ?_
| refine p_p (ps_load_agg rfl rfl aJ) ?_
| refine p_p (ps_eqnil_v rfl rfl rfl) ?_
| refine p_p (ps_box rfl rfl) ?_); refine ⟨_, aA, ?_⟩)
| refine kr2 ?_ ?_
| refine krB rfl ?_
| refine wE ?_)
      all_goals rfl
    | some t =>
      obtain ⟨i, j, k⟩ := t
      rw [ht] at h2
      dsimp only at h2
      repeat' (first
| refine wO ?_
| (refine o_go rfl ?_; (first
| refine p_p (zG rfl rfl aB (h1)) ?_
| refine p_p (zG rfl rfl aB (h2)) ?_
| refine p_p (ps_eqnil_ne rfl rfl rfl (by simp)) ?_
| refine wS ?_
| refine p_p (ps_load_agg rfl rfl aJ) ?_
| refine p_p (ps_box rfl rfl) ?_); refine ⟨_, aA, ?_⟩)
| refine kr2 ?_ ?_
| refine krB rfl ?_
| refine wE ?_)
      all_goals rfl
theorem iarith_c (n : Int) (ops : List OpD) (hs : szOk ops) : PCalls Tryz.prog 48 [algP n ops] (.tup [B (permB n ops && disjB n ops), B (fcB n ops)]) := by
  refine pcalls2 Tryz.func48 rfl Tryz.ntmps48 rfl ?_
  refine wF ?_
  have h1 := iperm_c n ops hs
  have h2 := idist_c n ops hs
  have hp : fcB n ops = false → permB n ops = false := fun h => by unfold permB; rw [h]; rfl
  cases hf : fcB n ops with
  | false =>
    rw [hp hf] at h1 ⊢
    rw [hf] at h1
    repeat' (first
| refine wO ?_
| (refine o_go rfl ?_; (first
| refine p_p (zG rfl rfl aB (h1)) ?_
| refine wS ?_
| refine p_p (ps_load_agg rfl rfl aJ) ?_
| refine p_p (ps_box rfl rfl) ?_); refine ⟨_, aA, ?_⟩)
| refine kr2 ?_ ?_
| refine krB rfl ?_
| refine wE ?_)
    all_goals rfl
  | true =>
    rw [hf] at h1 h2
    cases hb : permB n ops with
    | false =>
      rw [hb] at h1
      repeat' (first
| refine wO ?_
| (refine o_go rfl ?_; (first
| refine p_p (zG rfl rfl aB (h1)) ?_
| refine p_p (zG rfl rfl aB (h2)) ?_
| refine wS ?_
| refine p_p (ps_load_agg rfl rfl aJ) ?_
| refine p_p (ps_box rfl rfl) ?_); refine ⟨_, aA, ?_⟩)
| (refine o_s rfl ?_; refine ⟨_, aA, ?_⟩)
| refine kr2 ?_ ?_
| refine krB rfl ?_
| refine wE ?_)
      all_goals rfl
    | true =>
      rw [hb] at h1
      repeat' (first
| refine wO ?_
| (refine o_go rfl ?_; (first
| refine p_p (zG rfl rfl aB (h1)) ?_
| refine p_p (zG rfl rfl aB (h2)) ?_
| refine wS ?_
| refine p_p (ps_load_agg rfl rfl aJ) ?_
| refine p_p (ps_box rfl rfl) ?_); refine ⟨_, aA, ?_⟩)
| refine kr2 ?_ ?_
| refine krB rfl ?_
| refine wE ?_)
      all_goals rfl
end Go.Proofs.YtnjocjfhaahmfaaGreat
