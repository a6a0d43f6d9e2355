/- Walks: elements that solve congruences together, both sides. -/
import Derived.Test.YtkdagmbgjddopaaJKn
import Derived.Test.YtkdagmbgjddopaaJKz
import Derived.Test.YtkdagmbgjddopaaJKd
namespace Go.Proofs.Ytkdagmbgjddopaa
open Go Go.Pv Go.Proofs
set_option maxHeartbeats 32000000
set_option maxRecDepth 100000
attribute [local bitvec_to_nat] St.put St.setObj St.ev killP killA killP1 killH mapHO renP renA ren1 killG killGA killG1 krowP krowA krow1 lendP lendA lend1 unv pinP pin1 elemsM viewM viewN viewV n_set_z n_set_s n_map_c n_map_n getD_z getD_s n_toNat n_cond_t n_cond_f n_len_c n_len_n n_app_c n_app_n n_take_s n_take_z n_drop_s n_drop_z n_get_z n_get_s view viewA view1 elems Nat.zero_add Nat.add_zero Bool.not_true Bool.not_false Nat.one_ne_zero Nat.mul_one

def slvX (L : List (List Int)) (E : List Int) (k x : Nat) : Bool := (List.range k).all fun i => decide ((L.getD i []).getD x 0 = (L.getD i []).getD (E.getD i 0).toNat 0)
theorem slvX_succ (L : List (List Int)) (E : List Int) (k x : Nat) : slvX L E (k + 1) x = (slvX L E k x && decide ((L.getD k []).getD x 0 = (L.getD k []).getD (E.getD k 0).toNat 0)) := by
  unfold slvX; rw [List.range_succ, List.all_append]; simp
def stB (n : Int) (ops : List OpD) (L : List (List Int)) (E : List Int) : Bool := algOk n ops && (decide (L.length ≤ 8) && (decide (E.length = L.length) && (inSizeB E n && L.all (cgB n.toNat ops))))
def stO (n : Int) (L : List (List Int)) (E : List Int) : Option Nat := (List.range n.toNat).find? (slvX L E L.length)
def stV (n : Int) (ops : List OpD) (L : List (List Int)) (E : List Int) : Int × Bool :=
  if stB n ops L E then (match stO n L E with
    | some x => ((x : Int), true)
    | none => (0, false)) else (0, false)
theorem stV_bad {n : Int} {ops : List OpD} {L : List (List Int)} {E : List Int} (h : stB n ops L E = false) : stV n ops L E = (0, false) := by unfold stV; rw [h]; rfl
theorem stV_at {n : Int} {ops : List OpD} {L : List (List Int)} {E : List Int} (h : stB n ops L E = true) {x : Nat} (hx : (x : Int) < n) (hs : slvX L E L.length x = true) (hl : ∀ y, y < x → slvX L E L.length y = false) : stV n ops L E = ((x : Int), true) := by
  have : stO n L E = some x := List.find?_range_eq_some.2 ⟨hs, List.mem_range.2 (by omega), fun j hj => by rw [hl j hj]; rfl⟩
  unfold stV; rw [h, if_pos rfl, this]
theorem stV_no {n : Int} {ops : List OpD} {L : List (List Int)} {E : List Int} (h : stB n ops L E = true) (hl : ∀ y, y < n.toNat → slvX L E L.length y = false) : stV n ops L E = (0, false) := by
  have : stO n L E = none := List.find?_range_eq_none.2 fun j hj => by rw [hl j hj]; rfl
  unfold stV; rw [h, if_pos rfl, this]
theorem stB_facts {n : Int} {ops : List OpD} {L : List (List Int)} {E : List Int} (h : stB n ops L E = true) : ∃ m : Nat, n = m ∧ 0 < m ∧ m ≤ 8 ∧ ops.length ≤ 4 ∧ opsIn m ops ∧ algOk n ops = true ∧ L.length ≤ 8 ∧ E.length = L.length ∧ inSizeB E m = true ∧ ∀ p ∈ L, cgB m ops p = true := by
  unfold stB at h
  simp only [Bool.and_eq_true, decide_eq_true_eq] at h
  obtain ⟨hg, h1, h2, h3, h4⟩ := h
  obtain ⟨m, rfl, hm0, hm8, ho4, ho⟩ := algOk_facts hg
  exact ⟨m, rfl, hm0, hm8, ho4, ho, hg, h1, h2, h3, fun p hp => List.all_eq_true.1 h4 p hp⟩
theorem inSizeB_at {E : List Int} {m : Nat} (h : inSizeB E (m : Int) = true) {i : Nat} (hi : i < E.length) : ∃ e : Nat, E.getD i 0 = (e : Int) ∧ e < m := by
  unfold inSizeB at h
  have := List.all_eq_true.1 h _ (getD_at hi)
  simp only [Bool.not_eq_true', Bool.or_eq_false_iff, decide_eq_false_iff_not] at this
  exact ⟨(E.getD i 0).toNat, by omega, by omega⟩
theorem all_false_of {L : List (List Int)} {f : List Int → Bool} {i : Nat} (hi : i < L.length) (h : f (L.getD i []) = false) : L.all f = false := by
  rw [Bool.eq_false_iff]
  intro ha
  have := List.all_eq_true.1 ha _ (rows_mem hi)
  rw [h] at this; cases this
theorem all_rows {L : List (List Int)} {f : List Int → Bool} (h : ∀ j, j < L.length → f (L.getD j []) = true) : L.all f = true := List.all_eq_true.2 fun p hp => by
  obtain ⟨i, hi, rfl⟩ := List.getElem_of_mem hp
  have := h i hi
  rwa [List.getD_eq_getElem?_getD, List.getElem?_eq_getElem hi] at this
theorem row_at {p : List Int} {x : Nat} (h : x < p.length) : (p.map I)[((x : Nat) : Int).toNat]? = some (I (p.getD x 0)) := by rw [Int.toNat_natCast]; exact idx_I h
theorem sst_c (n : Int) (ops : List OpD) (L : List (List Int)) (E : List Int) (hs : szOk ops) (hL : L.length ≤ 1048576) (hr : ∀ p ∈ L, p.length ≤ 1048576) (hE : E.length ≤ 1048576) : PCalls Try.prog 23 [algP n ops, intss L, ints E] (.tup [I (stV n ops L E).1, B (stV n ops L E).2]) := by
  refine pcalls2 Try.func23 rfl Try.ntmps23 rfl ?_
  simp only [List.length_cons, List.length_nil, Nat.reduceAdd, Nat.reduceSub, List.replicate_succ, List.replicate_zero, List.cons_append, List.nil_append]
  have h1 := sgood_c n ops hs
  cases hg : algOk n ops with
  | false =>
    rw [hg] at h1
    rw [stV_bad (show stB n ops L E = false by unfold stB; rw [hg]; rfl)]
    repeat' (first
| refine g_seq ?_
| refine zC ?_
| (refine o_go rfl ?_; (first
| refine p_p (zG rfl rfl aC (h1)) ?_
| refine p_p (zD rfl) ?_
| refine p_p (zA rfl) ?_
| refine p_p (ps_load_agg rfl rfl aK) ?_
| refine p_p (ps_not rfl rfl) ?_
| refine p_p (zQ rfl rfl) ?_
| refine p_p (ps_box rfl rfl) ?_); refine ⟨_, aA, ?_⟩)
| refine o_nil ?_
| (refine o_s rfl ?_; refine ⟨_, aA, ?_⟩)
| refine zX rfl ?_
| refine kr2 ?_ ?_
| refine krB rfl ?_
| refine krI rfl ?_
| refine g_ret ?_)
    all_goals first | rfl | (exfalso; first | omega | (simp at hc; omega) | (simp at hc; done))
  | true =>
    rw [hg] at h1
    obtain ⟨m, rfl, hm0, hm8, h4, ho⟩ := algOk_facts hg
    have h2 := elems_c m E (by omega) hE
    by_cases hb : L.length ≤ 8 ∧ E.length = L.length ∧ inSizeB E m = true
    · obtain ⟨b1, b2, b3⟩ := hb
      rw [b3] at h2
      repeat' (first
| refine g_seq ?_
| refine zJ ?_
| refine zC ?_
| (refine o_go rfl ?_; (first
| refine p_p (zG rfl rfl aC (h1)) ?_
| refine p_p (zG rfl rfl aC (h2)) ?_
| refine p_p (zD rfl) ?_
| refine p_p (zA rfl) ?_
| refine p_p (zF rfl rfl) ?_
| refine p_p (ps_load_agg rfl rfl aK) ?_
| refine p_p (zU rfl rfl rfl) ?_
| refine p_p (zL rfl rfl) ?_
| refine p_p (ps_not rfl rfl) ?_
| refine p_p (zQ rfl rfl) ?_
| refine p_p (ps_gtr rfl rfl rfl) ?_
| refine p_p (ps_neq rfl rfl rfl) ?_
| refine p_p (ps_box rfl rfl) ?_); refine ⟨_, aA, ?_⟩)
| refine o_nil ?_
| (refine o_s rfl ?_; refine ⟨_, aA, ?_⟩)
| (refine o_splitD rfl rfl rfl (fun hc => ?_) (fun hc => ?_) <;> first | (exfalso; omega) | dsimp only [List.set_cons_zero, List.set_cons_succ])
| (refine o_splitN rfl rfl rfl (fun hc => ?_) (fun hc => ?_) <;> dsimp only [List.set_cons_zero, List.set_cons_succ])
| refine zX rfl ?_
| refine zW rfl ?_
| refine kr2 ?_ ?_
| refine krB rfl ?_
| refine krI rfl ?_
| refine zR ?_
| refine g_ret ?_)
      all_goals try (exfalso; first | omega | (simp at hc; omega) | (simp at hc; done))
      refine g_loopT (α := Nat) (fun i => [(8, I (i : Int))]) (fun _ => []) (fun i => i ≤ L.length ∧ ∀ j, j < i → cgB m ops (L.getD j []) = true) (fun i => L.length - i) 0 aH ⟨Nat.zero_le _, fun j hj => absurd hj (Nat.not_lt_zero _)⟩ ⟨rfl, trivial⟩ rfl ?_
      rintro i ⟨hi, hall⟩
      dsimp only [zZ, List.set_cons_zero, List.set_cons_succ]
      by_cases hil : i < L.length
      · have hrow := rows_at hil
        have hpl := hr _ (rows_mem hil)
        have q1 := sptn_c m (L.getD i []) (by omega) hpl
        have q2 := sis_c m ops (L.getD i []) hm0 hm8 hs.1 ho hpl
        have hcg : ptB m (L.getD i []) = false → cgB m ops (L.getD i []) = false := fun h => by unfold cgB; rw [h]; rfl
        cases hp : cgB m ops (L.getD i []) with
        | true =>
          have hpt : ptB m (L.getD i []) = true := by
            cases h : ptB m (L.getD i []) with
            | true => rfl
            | false => rw [hcg h] at hp; cases hp
          rw [hpt] at q1
          rw [hp] at q2
          repeat' (first
| refine g_seq ?_
| refine zJ ?_
| refine zC ?_
| refine zP (by kernel_rfl) (by kernel_rfl) ?_
| (refine o_go rfl ?_; (first
| refine p_p (zG rfl rfl aC (q1)) ?_
| refine p_p (zG rfl rfl aC (q2)) ?_
| refine p_p (zN rfl rfl rfl (by omega) hrow (by exact rfl)) ?_
| refine p_p (zD rfl) ?_
| refine p_p (zA rfl) ?_
| refine p_p (zF rfl rfl) ?_
| refine p_p (ps_load_agg rfl rfl aK) ?_
| refine p_p (zU rfl rfl rfl) ?_
| refine p_p (zS rfl rfl rfl) ?_
| refine p_p (ps_add rfl rfl rfl aO) ?_
| refine p_p (zL rfl rfl) ?_
| refine p_p (ps_not rfl rfl) ?_
| refine p_p (zQ rfl rfl) ?_); refine ⟨_, aA, ?_⟩)
| refine o_nil ?_
| refine zW rfl ?_
| (refine zK rfl (fun hc => ?_) (fun hc => ?_) <;> try (exfalso; omega))
| refine zR ?_)
          all_goals try (exfalso; first | omega | (simp at hc; omega) | (simp at hc; done))
          refine zT (i + 1) ⟨by omega, fun j hj => ?_⟩ (by omega) aJ ⟨rfl, trivial⟩ (zM _)
          rcases Nat.lt_or_ge j i with h | h
          · exact hall j h
          · rw [show j = i by omega]; exact hp
        | false =>
          rw [hp] at q2
          rw [stV_bad (show stB m ops L E = false by unfold stB; rw [Int.toNat_natCast, all_false_of hil hp]; simp)]
          cases hpt : ptB m (L.getD i []) with
          | true =>
            rw [hpt] at q1
            repeat' (first
| refine g_seq ?_
| refine zJ ?_
| refine zC ?_
| refine zP (by kernel_rfl) (by kernel_rfl) ?_
| (refine o_go rfl ?_; (first
| refine p_p (zG rfl rfl aC (q1)) ?_
| refine p_p (zG rfl rfl aC (q2)) ?_
| refine p_p (zN rfl rfl rfl (by omega) hrow (by exact rfl)) ?_
| refine p_p (zD rfl) ?_
| refine p_p (zA rfl) ?_
| refine p_p (zF rfl rfl) ?_
| refine p_p (ps_load_agg rfl rfl aK) ?_
| refine p_p (zU rfl rfl rfl) ?_
| refine p_p (zS rfl rfl rfl) ?_
| refine p_p (zL rfl rfl) ?_
| refine p_p (ps_not rfl rfl) ?_
| refine p_p (zQ rfl rfl) ?_); refine ⟨_, aA, ?_⟩)
| refine o_nil ?_
| refine zX rfl ?_
| (refine zK rfl (fun hc => ?_) (fun hc => ?_) <;> try (exfalso; omega))
| refine kr2 ?_ ?_
| refine krB rfl ?_
| refine krI rfl ?_
| refine zR ?_
| refine g_ret ?_)
            all_goals first | rfl | (exfalso; first | omega | (simp at hc; omega) | (simp at hc; done))
          | false =>
            rw [hpt] at q1
            repeat' (first
| refine g_seq ?_
| refine zJ ?_
| refine zC ?_
| refine zP (by kernel_rfl) (by kernel_rfl) ?_
| (refine o_go rfl ?_; (first
| refine p_p (zG rfl rfl aC (q1)) ?_
| refine p_p (zN rfl rfl rfl (by omega) hrow (by exact rfl)) ?_
| refine p_p (zD rfl) ?_
| refine p_p (zA rfl) ?_
| refine p_p (zF rfl rfl) ?_
| refine p_p (zU rfl rfl rfl) ?_
| refine p_p (zS rfl rfl rfl) ?_
| refine p_p (zL rfl rfl) ?_
| refine p_p (ps_not rfl rfl) ?_
| refine p_p (zQ rfl rfl) ?_); refine ⟨_, aA, ?_⟩)
| refine o_nil ?_
| (refine o_s rfl ?_; refine ⟨_, aA, ?_⟩)
| refine zX rfl ?_
| (refine zK rfl (fun hc => ?_) (fun hc => ?_) <;> try (exfalso; omega))
| refine kr2 ?_ ?_
| refine krB rfl ?_
| refine krI rfl ?_
| refine zR ?_
| refine g_ret ?_)
            all_goals first | rfl | (exfalso; first | omega | (simp at hc; omega) | (simp at hc; done))
      · have hB : stB m ops L E = true := by
          unfold stB
          rw [hg, decide_eq_true b1, decide_eq_true b2, b3, Int.toNat_natCast, all_rows fun j hj => hall j (by omega)]; rfl
        have hPt : ∀ j, j < L.length → Pt m (L.getD j []) := fun j hj => ((cgB_iff hm0 ho).1 (hall j (by omega))).1
        repeat' (first
| refine g_seq ?_
| refine zJ ?_
| refine zC ?_
| (refine o_go rfl ?_; (first
| refine p_p (zD rfl) ?_
| refine p_p (zA rfl) ?_
| refine p_p (zU rfl rfl rfl) ?_
| refine p_p (zS rfl rfl rfl) ?_); refine ⟨_, aA, ?_⟩)
| refine o_nil ?_
| (refine zK rfl (fun hc => ?_) (fun hc => ?_) <;> try (exfalso; omega))
| refine g_exit ?_)
        all_goals try (exfalso; first | omega | (simp at hc; omega) | (simp at hc; done))
        refine g_loopT (α := Nat) (fun x => [(9, I (x : Int))]) (fun _ => []) (fun x => x ≤ m ∧ ∀ y, y < x → slvX L E L.length y = false) (fun x => m - x) 0 aH ⟨Nat.zero_le _, fun j hj => absurd hj (Nat.not_lt_zero _)⟩ ⟨rfl, trivial⟩ rfl ?_
        rintro x ⟨hx, hno⟩
        dsimp only [zZ, List.set_cons_zero, List.set_cons_succ]
        by_cases hxm : x < m
        · repeat' (first
| refine g_seq ?_
| refine zJ ?_
| refine zC ?_
| (refine o_go rfl ?_; (first
| refine p_p (zD rfl) ?_
| refine p_p (zA rfl) ?_
| refine p_p (zF rfl rfl) ?_
| refine p_p (zS rfl rfl rfl) ?_
| refine p_p (zL rfl rfl) ?_); refine ⟨_, aA, ?_⟩)
| refine o_nil ?_
| (refine zK rfl (fun hc => ?_) (fun hc => ?_) <;> try (exfalso; omega))
| refine zR ?_)
          all_goals try (exfalso; first | omega | (simp at hc; omega) | (simp at hc; done))
          refine g_loopT (α := Nat) (fun k => [(10, B (slvX L E k x)), (11, I (k : Int))]) (fun _ => []) (fun k => k ≤ L.length) (fun k => L.length - k) 0 aH (Nat.zero_le _) ⟨rfl, rfl, trivial⟩ rfl ?_
          rintro k hk
          dsimp only [zZ, List.set_cons_zero, List.set_cons_succ]
          by_cases hkl : k < L.length
          · have hrk := rows_at hkl
            have hlk := (hPt k hkl).len
            obtain ⟨e, he, hem⟩ := inSizeB_at b3 (show k < E.length by omega)
            have hEk := row_at (show k < E.length by omega)
            rw [he] at hEk
            have i1 := row_at (show x < (L.getD k []).length by omega)
            have i2 := row_at (show e < (L.getD k []).length by omega)
            have hsn := slvX_succ L E k x
            rw [he, Int.toNat_natCast] at hsn
            have hml : ((L.getD k []).map I).length = m := by rw [List.length_map, hlk]
            generalize L.getD k [] = p at *
            cases hv : slvX L E k x with
            | true =>
              rw [hv, Bool.true_and] at hsn
              repeat' (first
| refine g_seq ?_
| refine zJ ?_
| refine zC ?_
| refine zP (by kernel_rfl) (by kernel_rfl) ?_
| (refine o_go rfl ?_; (first
| refine p_p (zN rfl rfl rfl (by omega) hrk (by exact rfl)) ?_
| refine p_p (zN rfl rfl rfl (by omega) hEk (by exact rfl)) ?_
| refine p_p (zN rfl rfl rfl (by omega) i1 (by exact rfl)) ?_
| refine p_p (zN rfl rfl rfl (by omega) i2 (by exact rfl)) ?_
| refine p_p (zD rfl) ?_
| refine p_p (zA rfl) ?_
| refine p_p (zF rfl rfl) ?_
| refine p_p (zU rfl rfl rfl) ?_
| refine p_p (zS rfl rfl rfl) ?_
| refine p_p (ps_add rfl rfl rfl aO) ?_
| refine p_p (zQ rfl rfl) ?_
| refine p_p (ps_eql rfl rfl rfl) ?_); refine ⟨_, aA, ?_⟩)
| refine o_nil ?_
| (refine zK rfl (fun hc => ?_) (fun hc => ?_) <;> try (exfalso; omega))
| refine zR ?_)
              all_goals try (exfalso; first | omega | (simp at hc; omega) | (simp at hc; done))
              exact zT (k + 1) (by omega) (by omega) aJ ⟨by rw [hsn]; rfl, rfl, trivial⟩ (zM _)
            | false =>
              rw [hv, Bool.false_and] at hsn
              repeat' (first
| refine g_seq ?_
| refine zJ ?_
| refine zC ?_
| refine zP (by kernel_rfl) (by kernel_rfl) ?_
| (refine o_go rfl ?_; (first
| refine p_p (zD rfl) ?_
| refine p_p (zA rfl) ?_
| refine p_p (zU rfl rfl rfl) ?_
| refine p_p (zS rfl rfl rfl) ?_
| refine p_p (ps_add rfl rfl rfl aO) ?_
| refine p_p (zQ rfl rfl) ?_); refine ⟨_, aA, ?_⟩)
| refine o_nil ?_
| (refine o_s rfl ?_; refine ⟨_, aA, ?_⟩)
| (refine zK rfl (fun hc => ?_) (fun hc => ?_) <;> try (exfalso; omega))
| refine zR ?_)
              all_goals try (exfalso; first | omega | (simp at hc; omega) | (simp at hc; done))
              exact zT (k + 1) (by omega) (by omega) aJ ⟨by rw [hsn]; rfl, rfl, trivial⟩ (zM _)
          · rw [show k = L.length by omega]
            cases hv : slvX L E L.length x with
            | true =>
              rw [stV_at hB (by omega) hv hno]
              repeat' (first
| refine g_seq ?_
| refine zC ?_
| (refine o_go rfl ?_; (first
| refine p_p (zD rfl) ?_
| refine p_p (zA rfl) ?_
| refine p_p (zU rfl rfl rfl) ?_
| refine p_p (zS rfl rfl rfl) ?_); refine ⟨_, aA, ?_⟩)
| refine o_nil ?_
| refine zX rfl ?_
| (refine zK rfl (fun hc => ?_) (fun hc => ?_) <;> try (exfalso; omega))
| refine kr2 ?_ ?_
| refine krB rfl ?_
| refine krI rfl ?_
| refine g_exit ?_
| refine g_ret ?_)
              all_goals first | rfl | (exfalso; first | omega | (simp at hc; omega) | (simp at hc; done))
            | false =>
              repeat' (first
| refine g_seq ?_
| refine zC ?_
| (refine o_go rfl ?_; (first
| refine p_p (zD rfl) ?_
| refine p_p (zA rfl) ?_
| refine p_p (zU rfl rfl rfl) ?_
| refine p_p (zS rfl rfl rfl) ?_
| refine p_p (ps_add rfl rfl rfl aO) ?_); refine ⟨_, aA, ?_⟩)
| refine o_nil ?_
| refine zW rfl ?_
| (refine zK rfl (fun hc => ?_) (fun hc => ?_) <;> try (exfalso; omega))
| refine zR ?_
| refine g_exit ?_)
              all_goals try (exfalso; first | omega | (simp at hc; omega) | (simp at hc; done))
              refine zT (K := fun _ _ => True) (x + 1) ⟨by omega, fun y hy => ?_⟩ (by omega) aJ ⟨rfl, trivial⟩ (zM _)
              rcases Nat.lt_or_ge y x with h | h
              · exact hno y h
              · rw [show y = x by omega]; exact hv
        · rw [stV_no hB (fun y hy => hno y (by rw [Int.toNat_natCast] at hy; omega))]
          repeat' (first
| refine g_seq ?_
| refine zC ?_
| (refine o_go rfl ?_; (first
| refine p_p (zD rfl) ?_
| refine p_p (zA rfl) ?_
| refine p_p (zF rfl rfl) ?_
| refine p_p (zS rfl rfl rfl) ?_
| refine p_p (zL rfl rfl) ?_); refine ⟨_, aA, ?_⟩)
| refine o_nil ?_
| (refine zK rfl (fun hc => ?_) (fun hc => ?_) <;> try (exfalso; omega))
| refine kr2 ?_ ?_
| refine krB rfl ?_
| refine krI rfl ?_
| refine g_exit ?_
| refine g_ret ?_)
          all_goals first | rfl | (exfalso; first | omega | (simp at hc; omega) | (simp at hc; done))
    · rw [stV_bad (show stB m ops L E = false by
        rw [Bool.eq_false_iff]
        intro h
        obtain ⟨m', e', -, -, -, -, -, a1, a2, a3, -⟩ := stB_facts h
        exact hb ⟨a1, a2, by rw [e']; exact a3⟩)]
      by_cases b1 : L.length ≤ 8
      · by_cases b2 : E.length = L.length
        · have b3 : inSizeB E m = false := by
            cases h : inSizeB E m with
            | true => exact absurd ⟨b1, b2, h⟩ hb
            | false => rfl
          rw [b3] at h2
          repeat' (first
| refine g_seq ?_
| refine zC ?_
| (refine o_go rfl ?_; (first
| refine p_p (zG rfl rfl aC (h1)) ?_
| refine p_p (zG rfl rfl aC (h2)) ?_
| refine p_p (zD rfl) ?_
| refine p_p (zA rfl) ?_
| refine p_p (zF rfl rfl) ?_
| refine p_p (ps_load_agg rfl rfl aK) ?_
| refine p_p (zU rfl rfl rfl) ?_
| refine p_p (zL rfl rfl) ?_
| refine p_p (ps_not rfl rfl) ?_
| refine p_p (zQ rfl rfl) ?_
| refine p_p (ps_gtr rfl rfl rfl) ?_
| refine p_p (ps_neq rfl rfl rfl) ?_
| refine p_p (ps_box rfl rfl) ?_); refine ⟨_, aA, ?_⟩)
| refine o_nil ?_
| (refine o_s rfl ?_; refine ⟨_, aA, ?_⟩)
| (refine o_splitD rfl rfl rfl (fun hc => ?_) (fun hc => ?_) <;> first | (exfalso; omega) | dsimp only [List.set_cons_zero, List.set_cons_succ])
| (refine o_splitN rfl rfl rfl (fun hc => ?_) (fun hc => ?_) <;> dsimp only [List.set_cons_zero, List.set_cons_succ])
| refine zX rfl ?_
| refine kr2 ?_ ?_
| refine krB rfl ?_
| refine krI rfl ?_
| refine g_ret ?_)
          all_goals first | rfl | (exfalso; first | omega | (simp at hc; omega) | (simp at hc; done))
        · repeat' (first
| refine g_seq ?_
| refine zJ ?_
| refine zC ?_
| (refine o_go rfl ?_; (first
| refine p_p (zG rfl rfl aC (h1)) ?_
| refine p_p (zG rfl rfl aC (h2)) ?_
| refine p_p (zD rfl) ?_
| refine p_p (zA rfl) ?_
| refine p_p (zF rfl rfl) ?_
| refine p_p (ps_load_agg rfl rfl aK) ?_
| refine p_p (zU rfl rfl rfl) ?_
| refine p_p (zL rfl rfl) ?_
| refine p_p (ps_not rfl rfl) ?_
| refine p_p (zQ rfl rfl) ?_
| refine p_p (ps_gtr rfl rfl rfl) ?_
| refine p_p (ps_neq rfl rfl rfl) ?_
| refine p_p (ps_box rfl rfl) ?_); refine ⟨_, aA, ?_⟩)
| refine o_nil ?_
| (refine o_s rfl ?_; refine ⟨_, aA, ?_⟩)
| (refine o_splitD rfl rfl rfl (fun hc => ?_) (fun hc => ?_) <;> first | (exfalso; omega) | dsimp only [List.set_cons_zero, List.set_cons_succ])
| (refine o_splitN rfl rfl rfl (fun hc => ?_) (fun hc => ?_) <;> dsimp only [List.set_cons_zero, List.set_cons_succ])
| refine zX rfl ?_
| (refine g_condNB rfl (fun hc => ?_) (fun hc => ?_))
| refine kr2 ?_ ?_
| refine krB rfl ?_
| refine krI rfl ?_
| refine zR ?_
| refine g_ret ?_)
          all_goals first | rfl | (exfalso; first | omega | (simp_all; done) | (simp_all; omega))
      · repeat' (first
| refine g_seq ?_
| refine zC ?_
| (refine o_go rfl ?_; (first
| refine p_p (zG rfl rfl aC (h1)) ?_
| refine p_p (zD rfl) ?_
| refine p_p (zA rfl) ?_
| refine p_p (ps_load_agg rfl rfl aK) ?_
| refine p_p (zU rfl rfl rfl) ?_
| refine p_p (ps_not rfl rfl) ?_
| refine p_p (zQ rfl rfl) ?_
| refine p_p (ps_gtr rfl rfl rfl) ?_
| refine p_p (ps_box rfl rfl) ?_); refine ⟨_, aA, ?_⟩)
| refine o_nil ?_
| (refine o_s rfl ?_; refine ⟨_, aA, ?_⟩)
| (refine o_splitD rfl rfl rfl (fun hc => ?_) (fun hc => ?_) <;> first | (exfalso; omega) | dsimp only [List.set_cons_zero, List.set_cons_succ])
| refine zX rfl ?_
| refine kr2 ?_ ?_
| refine krB rfl ?_
| refine krI rfl ?_
| refine g_ret ?_)
        all_goals first | rfl | (exfalso; first | omega | (simp at hc; omega) | (simp at hc; done))
def acsB (n : Int) (ops : List OpD) (L : List (List Int)) : Bool := algOk n ops && (decide (L.length ≤ 20) && L.all (cgB n.toNat ops))
theorem iacs_c (n : Int) (ops : List OpD) (L : List (List Int)) (hs : szOk ops) (hL : L.length ≤ 1048576) (hr : ∀ p ∈ L, p.length ≤ 1048576) : PCalls Try.prog 46 [algP n ops, intss L] (B (acsB n ops L)) := by
  refine pcalls1 Try.func46 rfl Try.ntmps46 rfl ?_
  simp only [List.length_cons, List.length_nil, Nat.reduceAdd, Nat.reduceSub, List.replicate_succ, List.replicate_zero, List.cons_append, List.nil_append]
  have h1 := igood_c n ops hs
  cases hg : algOk n ops with
  | false =>
    rw [hg] at h1
    have hv : acsB n ops L = false := by unfold acsB; rw [hg]; rfl
    rw [hv]
    repeat' (first
| refine g_seq ?_
| refine zC ?_
| (refine o_go rfl ?_; (first
| refine p_p (zG rfl rfl aC (h1)) ?_
| refine p_p (zD rfl) ?_
| refine p_p (zA rfl) ?_
| refine p_p (ps_load_agg rfl rfl aK) ?_
| refine p_p (ps_not rfl rfl) ?_
| refine p_p (zQ rfl rfl) ?_
| refine p_p (ps_box rfl rfl) ?_); refine ⟨_, aA, ?_⟩)
| refine o_nil ?_
| (refine o_s rfl ?_; refine ⟨_, aA, ?_⟩)
| refine zX rfl ?_
| refine kr1 ?_
| refine krB rfl ?_
| refine g_ret ?_)
    all_goals first | rfl | (exfalso; first | omega | (simp at hc; omega) | (simp at hc; done))
  | true =>
    rw [hg] at h1
    obtain ⟨m, rfl, hm0, hm8, h4, ho⟩ := algOk_facts hg
    by_cases b1 : L.length ≤ 20
    · repeat' (first
| refine g_seq ?_
| refine zJ ?_
| refine zC ?_
| (refine o_go rfl ?_; (first
| refine p_p (zG rfl rfl aC (h1)) ?_
| refine p_p (zD rfl) ?_
| refine p_p (zA rfl) ?_
| refine p_p (ps_load_agg rfl rfl aK) ?_
| refine p_p (zU rfl rfl rfl) ?_
| refine p_p (ps_not rfl rfl) ?_
| refine p_p (zQ rfl rfl) ?_
| refine p_p (ps_gtr rfl rfl rfl) ?_
| refine p_p (ps_box rfl rfl) ?_); refine ⟨_, aA, ?_⟩)
| refine o_nil ?_
| (refine zK rfl (fun hc => ?_) (fun hc => ?_) <;> try (exfalso; omega))
| refine zR ?_)
      all_goals try (exfalso; first | omega | (simp at hc; omega) | (simp at hc; done))
      refine g_loopT (α := Nat) (fun i => [(17, I (i : Int))]) (fun _ => []) (fun i => i ≤ L.length ∧ ∀ j, j < i → cgB m ops (L.getD j []) = true) (fun i => L.length - i) 0 aH ⟨Nat.zero_le _, fun j hj => absurd hj (Nat.not_lt_zero _)⟩ ⟨rfl, trivial⟩ rfl ?_
      rintro i ⟨hi, hall⟩
      dsimp only [zZ, List.set_cons_zero, List.set_cons_succ]
      by_cases hil : i < L.length
      · have hrow := rows_at hil
        have hpl := hr _ (rows_mem hil)
        have q2 := iisc_c m ops (L.getD i []) hm0 hm8 hs.1 ho hpl
        cases hp : cgB m ops (L.getD i []) with
        | true =>
          rw [hp] at q2
          repeat' (first
| refine g_seq ?_
| refine zJ ?_
| refine zC ?_
| (refine o_go rfl ?_; (first
| refine p_p (zG rfl rfl aC (q2)) ?_
| refine p_p (zN rfl rfl rfl (by omega) hrow (by exact rfl)) ?_
| refine p_p (zD rfl) ?_
| refine p_p (zA rfl) ?_
| refine p_p (zF rfl rfl) ?_
| refine p_p (ps_load_agg rfl rfl aK) ?_
| refine p_p (zS rfl rfl rfl) ?_
| refine p_p (ps_add rfl rfl rfl aO) ?_
| refine p_p (ps_not rfl rfl) ?_); refine ⟨_, aA, ?_⟩)
| refine o_nil ?_
| refine zW rfl ?_
| (refine zK rfl (fun hc => ?_) (fun hc => ?_) <;> try (exfalso; omega))
| refine zR ?_)
          all_goals try (exfalso; first | omega | (simp at hc; omega) | (simp at hc; done))
          refine zT (i + 1) ⟨by omega, fun j hj => ?_⟩ (by omega) aJ ⟨rfl, trivial⟩ (zM _)
          rcases Nat.lt_or_ge j i with h | h
          · exact hall j h
          · rw [show j = i by omega]; exact hp
        | false =>
          rw [hp] at q2
          rw [show acsB m ops L = false by unfold acsB; rw [Int.toNat_natCast, all_false_of hil hp]; simp]
          repeat' (first
| refine g_seq ?_
| refine zJ ?_
| refine zC ?_
| (refine o_go rfl ?_; (first
| refine p_p (zG rfl rfl aC (q2)) ?_
| refine p_p (zN rfl rfl rfl (by omega) hrow (by exact rfl)) ?_
| refine p_p (zD rfl) ?_
| refine p_p (zA rfl) ?_
| refine p_p (zF rfl rfl) ?_
| refine p_p (ps_load_agg rfl rfl aK) ?_
| refine p_p (zS rfl rfl rfl) ?_
| refine p_p (ps_not rfl rfl) ?_); refine ⟨_, aA, ?_⟩)
| refine o_nil ?_
| refine zX rfl ?_
| (refine zK rfl (fun hc => ?_) (fun hc => ?_) <;> try (exfalso; omega))
| refine kr1 ?_
| refine krB rfl ?_
| refine zR ?_
| refine g_ret ?_)
          all_goals first | rfl | (exfalso; first | omega | (simp at hc; omega) | (simp at hc; done))
      · rw [show acsB m ops L = true by unfold acsB; rw [hg, decide_eq_true b1, Int.toNat_natCast, all_rows fun j hj => hall j (by omega)]; rfl]
        repeat' (first
| refine g_seq ?_
| refine zC ?_
| (refine o_go rfl ?_; (first
| refine p_p (zA rfl) ?_
| refine p_p (zS rfl rfl rfl) ?_); refine ⟨_, aA, ?_⟩)
| refine o_nil ?_
| (refine zK rfl (fun hc => ?_) (fun hc => ?_) <;> try (exfalso; omega))
| refine kr1 ?_
| refine krB rfl ?_
| refine g_exit ?_
| refine g_ret ?_)
        all_goals first | rfl | (exfalso; first | omega | (simp at hc; omega) | (simp at hc; done))
    · rw [show acsB m ops L = false by unfold acsB; rw [decide_eq_false b1]; simp]
      repeat' (first
| refine g_seq ?_
| refine zC ?_
| (refine o_go rfl ?_; (first
| refine p_p (zG rfl rfl aC (h1)) ?_
| refine p_p (zD rfl) ?_
| refine p_p (zA rfl) ?_
| refine p_p (ps_load_agg rfl rfl aK) ?_
| refine p_p (zU rfl rfl rfl) ?_
| refine p_p (ps_not rfl rfl) ?_
| refine p_p (zQ rfl rfl) ?_
| refine p_p (ps_gtr rfl rfl rfl) ?_
| refine p_p (ps_box rfl rfl) ?_); refine ⟨_, aA, ?_⟩)
| refine o_nil ?_
| (refine zK rfl (fun hc => ?_) (fun hc => ?_) <;> try (exfalso; omega))
| refine kr1 ?_
| refine krB rfl ?_
| refine g_ret ?_)
      all_goals first | rfl | (exfalso; first | omega | (simp at hc; omega) | (simp at hc; done))
theorem ist_c (n : Int) (ops : List OpD) (L : List (List Int)) (E : List Int) (hs : szOk ops) (hL : L.length ≤ 1048576) (hr : ∀ p ∈ L, p.length ≤ 1048576) (hE : E.length ≤ 1048576) : PCalls Try.prog 22 [algP n ops, intss L, ints E] (.tup [I (stV n ops L E).1, B (stV n ops L E).2]) := by
  refine pcalls2 Try.func22 rfl Try.ntmps22 rfl ?_
  simp only [List.length_cons, List.length_nil, Nat.reduceAdd, Nat.reduceSub, List.replicate_succ, List.replicate_zero, List.cons_append, List.nil_append]
  have h1 := iacs_c n ops L hs hL hr
  have h2 := inSize_c E n hE
  cases hB : stB n ops L E with
  | false =>
    rw [stV_bad hB]
    cases ha : acsB n ops L with
    | false =>
      rw [ha] at h1
      repeat' (first
| refine g_seq ?_
| refine zC ?_
| (refine o_go rfl ?_; (first
| refine p_p (zG rfl rfl aC (h1)) ?_
| refine p_p (zD rfl) ?_
| refine p_p (zA rfl) ?_
| refine p_p (ps_load_agg rfl rfl aK) ?_
| refine p_p (ps_not rfl rfl) ?_
| refine p_p (zQ rfl rfl) ?_
| refine p_p (ps_box rfl rfl) ?_); refine ⟨_, aA, ?_⟩)
| refine o_nil ?_
| (refine o_s rfl ?_; refine ⟨_, aA, ?_⟩)
| refine zX rfl ?_
| refine kr2 ?_ ?_
| refine krB rfl ?_
| refine krI rfl ?_
| refine g_ret ?_)
      all_goals first | rfl | (exfalso; first | omega | (simp at hc; omega) | (simp at hc; done))
    | true =>
      rw [ha] at h1
      by_cases b1 : L.length ≤ 8
      · by_cases b2 : E.length = L.length
        · have b3 : inSizeB E n = false := by
            unfold acsB at ha
            simp only [Bool.and_eq_true] at ha
            unfold stB at hB
            rw [ha.1, decide_eq_true b1, decide_eq_true b2, ha.2.2] at hB
            simpa using hB
          rw [b3] at h2
          repeat' (first
| refine g_seq ?_
| refine zC ?_
| (refine o_go rfl ?_; (first
| refine p_p (zG rfl rfl aC (h1)) ?_
| refine p_p (zG rfl rfl aC (h2)) ?_
| refine p_p (zD rfl) ?_
| refine p_p (zA rfl) ?_
| refine p_p (zF rfl rfl) ?_
| refine p_p (ps_load_agg rfl rfl aK) ?_
| refine p_p (zU rfl rfl rfl) ?_
| refine p_p (zL rfl rfl) ?_
| refine p_p (ps_not rfl rfl) ?_
| refine p_p (zQ rfl rfl) ?_
| refine p_p (ps_gtr rfl rfl rfl) ?_
| refine p_p (ps_neq rfl rfl rfl) ?_
| refine p_p (ps_box rfl rfl) ?_); refine ⟨_, aA, ?_⟩)
| refine o_nil ?_
| (refine o_s rfl ?_; refine ⟨_, aA, ?_⟩)
| (refine o_splitD rfl rfl rfl (fun hc => ?_) (fun hc => ?_) <;> first | (exfalso; omega) | dsimp only [List.set_cons_zero, List.set_cons_succ])
| (refine o_splitN rfl rfl rfl (fun hc => ?_) (fun hc => ?_) <;> dsimp only [List.set_cons_zero, List.set_cons_succ])
| refine zX rfl ?_
| refine kr2 ?_ ?_
| refine krB rfl ?_
| refine krI rfl ?_
| refine g_ret ?_)
          all_goals first | rfl | (exfalso; first | omega | (simp at hc; omega) | (simp at hc; done))
        · repeat' (first
| refine g_seq ?_
| refine zJ ?_
| refine zC ?_
| (refine o_go rfl ?_; (first
| refine p_p (zG rfl rfl aC (h1)) ?_
| refine p_p (zG rfl rfl aC (h2)) ?_
| refine p_p (zD rfl) ?_
| refine p_p (zA rfl) ?_
| refine p_p (zF rfl rfl) ?_
| refine p_p (ps_load_agg rfl rfl aK) ?_
| refine p_p (zU rfl rfl rfl) ?_
| refine p_p (zL rfl rfl) ?_
| refine p_p (ps_not rfl rfl) ?_
| refine p_p (zQ rfl rfl) ?_
| refine p_p (ps_gtr rfl rfl rfl) ?_
| refine p_p (ps_neq rfl rfl rfl) ?_
| refine p_p (ps_box rfl rfl) ?_); refine ⟨_, aA, ?_⟩)
| refine o_nil ?_
| (refine o_s rfl ?_; refine ⟨_, aA, ?_⟩)
| (refine o_splitD rfl rfl rfl (fun hc => ?_) (fun hc => ?_) <;> first | (exfalso; omega) | dsimp only [List.set_cons_zero, List.set_cons_succ])
| (refine o_splitN rfl rfl rfl (fun hc => ?_) (fun hc => ?_) <;> dsimp only [List.set_cons_zero, List.set_cons_succ])
| refine zX rfl ?_
| (refine g_condNB rfl (fun hc => ?_) (fun hc => ?_))
| refine kr2 ?_ ?_
| refine krB rfl ?_
| refine krI rfl ?_
| refine zR ?_
| refine g_ret ?_)
          all_goals first | rfl | (exfalso; first | omega | (simp_all; done) | (simp_all; omega))
      · repeat' (first
| refine g_seq ?_
| refine zC ?_
| (refine o_go rfl ?_; (first
| refine p_p (zG rfl rfl aC (h1)) ?_
| refine p_p (zD rfl) ?_
| refine p_p (zA rfl) ?_
| refine p_p (ps_load_agg rfl rfl aK) ?_
| refine p_p (zU rfl rfl rfl) ?_
| refine p_p (ps_not rfl rfl) ?_
| refine p_p (zQ rfl rfl) ?_
| refine p_p (ps_gtr rfl rfl rfl) ?_
| refine p_p (ps_box rfl rfl) ?_); refine ⟨_, aA, ?_⟩)
| refine o_nil ?_
| (refine o_s rfl ?_; refine ⟨_, aA, ?_⟩)
| (refine o_splitD rfl rfl rfl (fun hc => ?_) (fun hc => ?_) <;> first | (exfalso; omega) | dsimp only [List.set_cons_zero, List.set_cons_succ])
| refine zX rfl ?_
| refine kr2 ?_ ?_
| refine krB rfl ?_
| refine krI rfl ?_
| refine g_ret ?_)
        all_goals first | rfl | (exfalso; first | omega | (simp at hc; omega) | (simp at hc; done))
  | true =>
    obtain ⟨m, rfl, hm0, hm8, h4, ho, hg, b1, b2, b3, hall⟩ := stB_facts hB
    rw [b3] at h2
    rw [show acsB m ops L = true by unfold acsB; rw [hg, decide_eq_true (by omega), Int.toNat_natCast, List.all_eq_true.2 hall]; rfl] at h1
    have hPt : ∀ j, j < L.length → Pt m (L.getD j []) := fun j hj => ((cgB_iff hm0 ho).1 (hall _ (rows_mem hj))).1
    repeat' (first
| refine g_seq ?_
| refine zJ ?_
| refine zC ?_
| (refine o_go rfl ?_; (first
| refine p_p (zG rfl rfl aC (h1)) ?_
| refine p_p (zG rfl rfl aC (h2)) ?_
| refine p_p (zD rfl) ?_
| refine p_p (zA rfl) ?_
| refine p_p (zF rfl rfl) ?_
| refine p_p (ps_load_agg rfl rfl aK) ?_
| refine p_p (zU rfl rfl rfl) ?_
| refine p_p (zL rfl rfl) ?_
| refine p_p (ps_not rfl rfl) ?_
| refine p_p (zQ rfl rfl) ?_
| refine p_p (ps_gtr rfl rfl rfl) ?_
| refine p_p (ps_neq rfl rfl rfl) ?_
| refine p_p (ps_box rfl rfl) ?_); refine ⟨_, aA, ?_⟩)
| refine o_nil ?_
| (refine o_s rfl ?_; refine ⟨_, aA, ?_⟩)
| (refine o_splitD rfl rfl rfl (fun hc => ?_) (fun hc => ?_) <;> first | (exfalso; omega) | dsimp only [List.set_cons_zero, List.set_cons_succ])
| (refine o_splitN rfl rfl rfl (fun hc => ?_) (fun hc => ?_) <;> dsimp only [List.set_cons_zero, List.set_cons_succ])
| refine zX rfl ?_
| refine zW rfl ?_
| refine kr2 ?_ ?_
| refine krB rfl ?_
| refine krI rfl ?_
| refine zR ?_
| refine g_ret ?_)
    all_goals try (exfalso; first | omega | (simp at hc; omega) | (simp at hc; done))
    refine g_loopT (α := Nat) (fun x => [(8, I (x : Int))]) (fun _ => []) (fun x => x ≤ m ∧ ∀ y, y < x → slvX L E L.length y = false) (fun x => m - x) 0 aH ⟨Nat.zero_le _, fun j hj => absurd hj (Nat.not_lt_zero _)⟩ ⟨rfl, trivial⟩ rfl ?_
    rintro x ⟨hx, hno⟩
    dsimp only [zZ, List.set_cons_zero, List.set_cons_succ]
    by_cases hxm : x < m
    · repeat' (first
| refine g_seq ?_
| refine zJ ?_
| refine zC ?_
| (refine o_go rfl ?_; (first
| refine p_p (zD rfl) ?_
| refine p_p (zA rfl) ?_
| refine p_p (zF rfl rfl) ?_
| refine p_p (zU rfl rfl rfl) ?_
| refine p_p (zS rfl rfl rfl) ?_
| refine p_p (zL rfl rfl) ?_); refine ⟨_, aA, ?_⟩)
| refine o_nil ?_
| (refine zK rfl (fun hc => ?_) (fun hc => ?_) <;> try (exfalso; omega))
| refine zR ?_)
      all_goals try (exfalso; first | omega | (simp at hc; omega) | (simp at hc; done))
      refine g_loopT (α := Nat) (fun k => [(9, B (slvX L E k x)), (43, I (k : Int))]) (fun _ => []) (fun k => k ≤ L.length) (fun k => L.length - k) 0 aH (Nat.zero_le _) ⟨rfl, rfl, trivial⟩ rfl ?_
      rintro k hk
      dsimp only [zZ, List.set_cons_zero, List.set_cons_succ]
      by_cases hkl : k < L.length
      · have hrk := rows_at hkl
        have hlk := (hPt k hkl).len
        obtain ⟨e, he, hem⟩ := inSizeB_at b3 (show k < E.length by omega)
        have hEk := row_at (show k < E.length by omega)
        rw [he] at hEk
        have i1 := row_at (show x < (L.getD k []).length by omega)
        have i2 := row_at (show e < (L.getD k []).length by omega)
        have hsn := slvX_succ L E k x
        rw [he, Int.toNat_natCast] at hsn
        have hml : ((L.getD k []).map I).length = m := by rw [List.length_map, hlk]
        generalize L.getD k [] = p at *
        cases hv : slvX L E k x with
        | true =>
          rw [hv, Bool.true_and] at hsn
          repeat' (first
| refine g_seq ?_
| refine zJ ?_
| refine zC ?_
| refine zP (by kernel_rfl) (by kernel_rfl) ?_
| (refine o_go rfl ?_; (first
| refine p_p (zN rfl rfl rfl (by omega) hrk (by exact rfl)) ?_
| refine p_p (zN rfl rfl rfl (by omega) hEk (by exact rfl)) ?_
| refine p_p (zN rfl rfl rfl (by omega) i1 (by exact rfl)) ?_
| refine p_p (zN rfl rfl rfl (by omega) i2 (by exact rfl)) ?_
| refine p_p (zD rfl) ?_
| refine p_p (zA rfl) ?_
| refine p_p (zF rfl rfl) ?_
| refine p_p (zS rfl rfl rfl) ?_
| refine p_p (ps_add rfl rfl rfl aO) ?_
| refine p_p (zQ rfl rfl) ?_
| refine p_p (ps_eql rfl rfl rfl) ?_); refine ⟨_, aA, ?_⟩)
| refine o_nil ?_
| (refine zK rfl (fun hc => ?_) (fun hc => ?_) <;> try (exfalso; omega))
| refine zR ?_)
          all_goals try (exfalso; first | omega | (simp at hc; omega) | (simp at hc; done))
          exact zT (k + 1) (by omega) (by omega) aJ ⟨by rw [hsn]; rfl, rfl, trivial⟩ (zM _)
        | false =>
          rw [hv, Bool.false_and] at hsn
          repeat' (first
| refine g_seq ?_
| refine zJ ?_
| refine zC ?_
| refine zP (by kernel_rfl) (by kernel_rfl) ?_
| (refine o_go rfl ?_; (first
| refine p_p (zN rfl rfl rfl (by omega) hrk (by exact rfl)) ?_
| refine p_p (zD rfl) ?_
| refine p_p (zA rfl) ?_
| refine p_p (zF rfl rfl) ?_
| refine p_p (zS rfl rfl rfl) ?_
| refine p_p (ps_add rfl rfl rfl aO) ?_
| refine p_p (zQ rfl rfl) ?_); refine ⟨_, aA, ?_⟩)
| refine o_nil ?_
| (refine o_s rfl ?_; refine ⟨_, aA, ?_⟩)
| (refine zK rfl (fun hc => ?_) (fun hc => ?_) <;> try (exfalso; omega))
| refine zR ?_)
          all_goals try (exfalso; first | omega | (simp at hc; omega) | (simp at hc; done))
          exact zT (k + 1) (by omega) (by omega) aJ ⟨by rw [hsn]; rfl, rfl, trivial⟩ (zM _)
      · rw [show k = L.length by omega]
        cases hv : slvX L E L.length x with
        | true =>
          rw [stV_at hB (by omega) hv hno]
          repeat' (first
| refine g_seq ?_
| refine zC ?_
| (refine o_go rfl ?_; (first
| refine p_p (zD rfl) ?_
| refine p_p (zA rfl) ?_
| refine p_p (zS rfl rfl rfl) ?_); refine ⟨_, aA, ?_⟩)
| refine o_nil ?_
| refine zX rfl ?_
| (refine zK rfl (fun hc => ?_) (fun hc => ?_) <;> try (exfalso; omega))
| refine kr2 ?_ ?_
| refine krB rfl ?_
| refine krI rfl ?_
| refine g_exit ?_
| refine g_ret ?_)
          all_goals first | rfl | (exfalso; first | omega | (simp at hc; omega) | (simp at hc; done))
        | false =>
          repeat' (first
| refine g_seq ?_
| refine zC ?_
| (refine o_go rfl ?_; (first
| refine p_p (zD rfl) ?_
| refine p_p (zA rfl) ?_
| refine p_p (zS rfl rfl rfl) ?_
| refine p_p (ps_add rfl rfl rfl aO) ?_); refine ⟨_, aA, ?_⟩)
| refine o_nil ?_
| refine zW rfl ?_
| (refine zK rfl (fun hc => ?_) (fun hc => ?_) <;> try (exfalso; omega))
| refine zR ?_
| refine g_exit ?_)
          all_goals try (exfalso; first | omega | (simp at hc; omega) | (simp at hc; done))
          refine zT (K := fun _ _ => True) (x + 1) ⟨by omega, fun y hy => ?_⟩ (by omega) aJ ⟨rfl, trivial⟩ (zM _)
          rcases Nat.lt_or_ge y x with h | h
          · exact hno y h
          · rw [show y = x by omega]; exact hv
    · rw [stV_no hB (fun y hy => hno y (by rw [Int.toNat_natCast] at hy; omega))]
      repeat' (first
| refine g_seq ?_
| refine zC ?_
| (refine o_go rfl ?_; (first
| refine p_p (zD rfl) ?_
| refine p_p (zA rfl) ?_
| refine p_p (zF rfl rfl) ?_
| refine p_p (zS rfl rfl rfl) ?_
| refine p_p (zL rfl rfl) ?_); refine ⟨_, aA, ?_⟩)
| refine o_nil ?_
| (refine zK rfl (fun hc => ?_) (fun hc => ?_) <;> try (exfalso; omega))
| refine kr2 ?_ ?_
| refine krB rfl ?_
| refine krI rfl ?_
| refine g_exit ?_
| refine g_ret ?_)
      all_goals first | rfl | (exfalso; first | omega | (simp at hc; omega) | (simp at hc; done))
end Go.Proofs.Ytkdagmbgjddopaa
