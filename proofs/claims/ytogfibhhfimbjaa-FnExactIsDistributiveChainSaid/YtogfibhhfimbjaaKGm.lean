/- IsDistributiveChain: both sides. -/
import Derived.Test.YtogfibhhfimbjaaKGl
namespace Go.Proofs.Ytogfibhhfimbjaa
open Go Go.Pv Go.Proofs
attribute [local bitvec_to_nat] St.put St.setObj St.ev killP killA killP1 killH mapHO renP renA ren1 killG killGA killG1 krowP krowA krow1 lendP lendA lend1 unv pinP pin1 elemsM viewM viewN viewV n_set_z n_set_s n_map_c n_map_n getD_z getD_s n_toNat n_cond_t n_cond_f n_len_c n_len_n n_app_c n_app_n n_take_s n_take_z n_drop_s n_drop_z n_get_z n_get_s view viewA view1 elems Nat.zero_add Nat.add_zero Bool.not_true Bool.not_false Nat.one_ne_zero Nat.mul_one

/-- Whether tables are a distributive chain of functions of T. -/
def chainD (n : Nat) (T U : List (List Int)) : Bool :=
  decide (2 ≤ U.length) && ((U.all fun t => decide (t ∈ T)) && (decide (U.getD 0 [] = prjL n 3 0) && (decide (U.getD (U.length - 1) [] = prjL n 3 2) &&
    (List.range U.length).all fun i => fixB n (U.getD i []) && (decide (U.length ≤ i + 1) || nearB n (U.getD i []) (U.getD (i + 1) []) i))))
theorem placesL_eq (T : List (List Int)) (L : List OpD) : placesL T L = (tbsL L).map (placeT T) := by simp [placesL]
theorem getD_map0 {U : List (List Int)} {f : List Int → Int} {i : Nat} (h : i < U.length) : (U.map f).getD i 0 = f (U.getD i []) := by
  simp [List.getD_eq_getElem?_getD, List.getElem?_map, List.getElem?_eq_getElem h]
theorem place_eq {T : List (List Int)} {s t : List Int} (hs : s ∈ T) (ht : t ∈ T) : placeT T s = placeT T t ↔ s = t := by
  refine ⟨fun h => ?_, fun h => by rw [h]⟩
  obtain ⟨i, -, hi2, hi3⟩ := placeT_mem hs
  obtain ⟨j, -, hj2, hj3⟩ := placeT_mem ht
  obtain rfl : i = j := by omega
  rw [← hi2, ← hj2]
theorem place_get {T : List (List Int)} {s : List Int} (hs : s ∈ T) : T.getD (placeT T s).toNat [] = s := by
  obtain ⟨i, -, hi2, hi3⟩ := placeT_mem hs
  rw [hi3, Int.toNat_natCast, hi2]
abbrev bgD (n : Nat) (T : List (List Int)) (x : Int) : Bool := decide (x = placeT T (prjL n 3 0))
abbrev enD (n : Nat) (T : List (List Int)) (x : Int) : Bool := decide (x = placeT T (prjL n 3 2))
abbrev foD (n : Nat) (T : List (List Int)) (i : Nat) (x y : Int) : Bool := folD n T i x.toNat y.toNat
theorem chain_eq {n : Nat} {ops : List OpD} {T : List (List Int)} (hC : CT n ops T) (U : List (List Int)) (h13 : U.length ≤ 13) : isChV 2 13 (bgD n T) (enD n T) (foD n T) (U.map (placeT T)) = chainD n T U := by
  unfold isChV chainD
  rw [List.length_map, decide_eq_true h13, Bool.true_and]
  by_cases h2 : 2 ≤ U.length
  · rw [decide_eq_true h2, Bool.true_and, Bool.true_and]
    cases ha : U.all fun t => decide (t ∈ T) with
    | false =>
      rw [List.all_eq_false] at ha
      obtain ⟨t, ht, hn⟩ := ha
      have : (U.map (placeT T)).contains (-1) = true := List.contains_iff_mem.2 (List.mem_map.2 ⟨t, ht, placeT_no (by simpa using hn)⟩)
      rw [this]; rfl
    | true =>
      have hm : ∀ t ∈ U, t ∈ T := fun t ht => of_decide_eq_true (List.all_eq_true.1 ha t ht)
      have : (U.map (placeT T)).contains (-1) = false := by
        rw [Bool.eq_false_iff]
        intro h
        obtain ⟨t, ht, he⟩ := List.mem_map.1 (List.contains_iff_mem.1 h)
        have := placeT_pos.2 (hm t ht)
        omega
      rw [this, Bool.not_false, Bool.true_and, Bool.true_and]
      have hg : ∀ i, i < U.length → U.getD i [] ∈ T := fun i hi => hm _ (getD_mem0 hi)
      have hat : ∀ i, i < U.length → (U.map (placeT T)).getD i 0 = placeT T (U.getD i []) := fun i hi => getD_map0 hi
      have e1 : bgD n T ((U.map (placeT T)).getD 0 0) = decide (U.getD 0 [] = prjL n 3 0) := by
        rw [hat 0 (by omega)]
        exact decide_eq_decide.2 (place_eq (hg 0 (by omega)) (hC.prj 0 (by decide)))
      have e2 : enD n T ((U.map (placeT T)).getD (U.length - 1) 0) = decide (U.getD (U.length - 1) [] = prjL n 3 2) := by
        rw [hat _ (by omega)]
        exact decide_eq_decide.2 (place_eq (hg _ (by omega)) (hC.prj 2 (by decide)))
      have e3 : ((List.range (U.length - 1)).all fun i => foD n T i ((U.map (placeT T)).getD i 0) ((U.map (placeT T)).getD (i + 1) 0)) = (List.range U.length).all fun i => fixB n (U.getD i []) && (decide (U.length ≤ i + 1) || nearB n (U.getD i []) (U.getD (i + 1) []) i) := by
        have key : ∀ i, i + 1 < U.length → foD n T i ((U.map (placeT T)).getD i 0) ((U.map (placeT T)).getD (i + 1) 0) = (fixB n (U.getD i []) && (fixB n (U.getD (i + 1) []) && nearB n (U.getD i []) (U.getD (i + 1) []) i)) := fun i hi => by
          rw [hat i (by omega), hat (i + 1) hi]
          unfold foD folD
          rw [place_get (hg i (by omega)), place_get (hg (i + 1) hi)]
        rw [Bool.eq_iff_iff, List.all_eq_true, List.all_eq_true]
        constructor
        · intro h i hi
          rw [List.mem_range] at hi
          rcases Nat.lt_or_ge (i + 1) U.length with h' | h'
          · have := h i (List.mem_range.2 (by omega))
            rw [key i h'] at this
            simp only [Bool.and_eq_true] at this
            rw [this.1, this.2.2]; simp
          · rw [decide_eq_true h']
            obtain ⟨j, rfl⟩ : ∃ j, i = j + 1 := ⟨i - 1, by omega⟩
            have := h j (List.mem_range.2 (by omega))
            rw [key j hi] at this
            simp only [Bool.and_eq_true] at this
            rw [this.2.1]; rfl
        · intro h i hi
          rw [List.mem_range] at hi
          have h1 := h i (List.mem_range.2 (by omega))
          have h2 := h (i + 1) (List.mem_range.2 (by omega))
          rw [decide_eq_false (by omega), Bool.false_or] at h1
          simp only [Bool.and_eq_true] at h1 h2
          rw [key i (by omega), h1.1, h2.1, h1.2]; rfl
      rw [e1, e2, e3, Bool.and_comm, Bool.and_assoc]
  · rw [decide_eq_false h2]; rfl
/-- What both sides return. -/
def dchV (n : Int) (ops L : List OpD) : Bool × Bool :=
  match clT n ops with
  | none => (false, false)
  | some T => (listB n.toNat L && chainD n.toNat T (tbsL L), listB n.toNat L)
theorem listB_len {n : Nat} {L : List OpD} (h : listB n L = true) : L.length ≤ 13 ∧ ∀ f ∈ L, f.ar = 3 ∧ opOk n f = true := by
  unfold listB at h
  simp only [Bool.and_eq_true, decide_eq_true_eq, List.all_eq_true] at h
  exact h
set_option maxHeartbeats 2000000 in
set_option maxRecDepth 100000 in
theorem icheckD_c (n : Int) (ops L : List OpD) (ho : szOk ops) (hl : szOk L) : PCalls Try.prog 36 [algP n ops, opsP L, .fn 37 [] [], I 13] (.tup [B (dchV n ops L).1, B (dchV n ops L).2]) := by
  refine pcalls2 Try.func36 rfl Try.ntmps36 rfl ?_
  simp only [List.length_cons, List.length_nil, Nat.reduceAdd, Nat.reduceSub, List.replicate_succ, List.replicate_zero, List.cons_append, List.nil_append]
  have h1 := inewO_c n ops ho
  unfold dchV
  cases hV : clT n ops with
  | none =>
    rw [hV] at h1
    dsimp only [chO, Option.isSome] at h1
    repeat' (first
| refine g_seq ?_
| refine g_region ?_
| (refine o_go rfl ?_; (first
| refine p_p (ps_call rfl rfl (by (repeat (first | refine ⟨PV.le_refl _, ?_⟩ | refine ⟨PV.le_nn _ _ _, ?_⟩ | refine ⟨PV.le_nil _, ?_⟩ | refine ⟨PV.le_any _, ?_⟩)); exact trivial) (h1)) ?_
| refine p_p (ps_move rfl) ?_
| refine p_p (ps_assign rfl) ?_
| refine p_p (ps_load_agg rfl rfl (by exact Nat.le_of_ble_eq_true rfl)) ?_
| refine p_p (ps_extract rfl rfl rfl) ?_
| refine p_p (ps_not rfl rfl) ?_
| refine p_p (ps_box rfl rfl) ?_); refine ⟨_, (by dsimp only [bitvec_to_nat, Nat.reduceAdd, Nat.reduceMul, Nat.reduceBEq, reduceCtorEq, posI, optP, lendM1, lendMA, lendMP, killM1, killMA, killMP, hasI, getO, backM1, backMA, backMP, putL, inpM, pinM1, pinMA, pinMP]), ?_⟩)
| refine o_nil ?_
| refine g_condT rfl ?_
| refine kr2 ?_ ?_
| refine krB rfl ?_
| refine g_ret ?_)
    all_goals rfl
  | some T =>
    obtain ⟨m, rfl, hg, -, hC⟩ := clT_some hV
    rw [hV] at h1
    dsimp only [chO, Option.isSome] at h1
    rw [Int.toNat_natCast] at h1 ⊢
    have hn8 : m ≤ 8 := by have := hC.n3; omega
    have h2 := places_c m T L hn8 hC.lenOk hl
    cases hb : listB m L with
    | false =>
      rw [hb] at h2
      dsimp only [cond_false] at h2
      repeat' (first
| refine g_seq ?_
| refine g_region ?_
| (refine o_go rfl ?_; (first
| refine p_p (ps_call rfl rfl (by (repeat (first | refine ⟨PV.le_refl _, ?_⟩ | refine ⟨PV.le_nn _ _ _, ?_⟩ | refine ⟨PV.le_nil _, ?_⟩ | refine ⟨PV.le_any _, ?_⟩)); exact trivial) (h1)) ?_
| refine p_p (ps_call rfl rfl (by (repeat (first | refine ⟨PV.le_refl _, ?_⟩ | refine ⟨PV.le_nn _ _ _, ?_⟩ | refine ⟨PV.le_nil _, ?_⟩ | refine ⟨PV.le_any _, ?_⟩)); exact trivial) (h2)) ?_
| refine p_p (ps_move rfl) ?_
| refine p_p (ps_assign rfl) ?_
| refine p_p (ps_load_agg rfl rfl (by exact Nat.le_of_ble_eq_true rfl)) ?_
| refine p_p (ps_extract rfl rfl rfl) ?_
| refine p_p (ps_not rfl rfl) ?_
| refine p_p (ps_box rfl rfl) ?_); refine ⟨_, (by dsimp only [bitvec_to_nat, Nat.reduceAdd, Nat.reduceMul, Nat.reduceBEq, reduceCtorEq, posI, optP, lendM1, lendMA, lendMP, killM1, killMA, killMP, hasI, getO, backM1, backMA, backMP, putL, inpM, pinM1, pinMA, pinMP]), ?_⟩)
| refine o_nil ?_
| refine g_condT rfl ?_
| refine g_condF rfl ?_
| refine kr2 ?_ ?_
| refine krB rfl ?_
| refine g_skip ?_
| refine g_ret ?_)
      all_goals rfl
    | true =>
      rw [hb] at h2
      dsimp only [cond_true] at h2
      have hL := listB_len hb
      have h3 := distL_c m T
      have hlt : ∀ x ∈ placesL T L, x ≠ -1 → ∃ f : Nat, x = f ∧ f < T.length := fun x hx hne => by
        obtain ⟨f, hf, rfl⟩ := List.mem_map.1 hx
        by_cases hm : f.tb ∈ T
        · obtain ⟨j, hj, -, he⟩ := placeT_mem hm
          exact ⟨j, he, hj⟩
        · exact absurd (placeT_no hm) hne
      have h4 := isChain_c 2 13 61 62 63 (capP m T) (placesL T L) (bgD m T) (enD m T) (foD m T) (by decide) (by decide) (by decide) (by simp [placesL]; omega)
        (fun x _ _ => dist1_c m T x) (fun x _ _ => dist2_c m T x) (fun i x hx y hy hx1 hy1 hi => by
          obtain ⟨f, rfl, hf⟩ := hlt x hx hx1
          obtain ⟨g, rfl, hg⟩ := hlt y hy hy1
          unfold foD
          rw [Int.toNat_natCast, Int.toNat_natCast]
          exact dist3_c m T i f g hn8 hi hf hg)
      rw [placesL_eq, chain_eq hC (tbsL L) (by rw [List.length_map]; exact hL.1)] at h4
      rw [placesL_eq] at h2
      repeat' (first
| refine g_seq ?_
| refine g_region ?_
| (refine o_go rfl ?_; (first
| refine p_p (ps_call rfl rfl (by (repeat (first | refine ⟨PV.le_refl _, ?_⟩ | refine ⟨PV.le_nn _ _ _, ?_⟩ | refine ⟨PV.le_nil _, ?_⟩ | refine ⟨PV.le_any _, ?_⟩)); exact trivial) (h1)) ?_
| refine p_p (ps_call rfl rfl (by (repeat (first | refine ⟨PV.le_refl _, ?_⟩ | refine ⟨PV.le_nn _ _ _, ?_⟩ | refine ⟨PV.le_nil _, ?_⟩ | refine ⟨PV.le_any _, ?_⟩)); exact trivial) (h2)) ?_
| refine p_p (ps_call rfl rfl (by (repeat (first | refine ⟨PV.le_refl _, ?_⟩ | refine ⟨PV.le_nn _ _ _, ?_⟩ | refine ⟨PV.le_nil _, ?_⟩ | refine ⟨PV.le_any _, ?_⟩)); exact trivial) (h3)) ?_
| refine p_p (ps_call rfl rfl (by (repeat (first | refine ⟨PV.le_refl _, ?_⟩ | refine ⟨PV.le_nn _ _ _, ?_⟩ | refine ⟨PV.le_nil _, ?_⟩ | refine ⟨PV.le_any _, ?_⟩)); exact trivial) (h4)) ?_
| refine p_p (ps_move rfl) ?_
| refine p_p (ps_assign rfl) ?_
| refine p_p (ps_load_agg rfl rfl (by exact Nat.le_of_ble_eq_true rfl)) ?_
| refine p_p (ps_extract rfl rfl rfl) ?_
| refine p_p (ps_not rfl rfl) ?_
| refine p_p (ps_box rfl rfl) ?_); refine ⟨_, (by dsimp only [bitvec_to_nat, Nat.reduceAdd, Nat.reduceMul, Nat.reduceBEq, reduceCtorEq, posI, optP, lendM1, lendMA, lendMP, killM1, killMA, killMP, hasI, getO, backM1, backMA, backMP, putL, inpM, pinM1, pinMA, pinMP]), ?_⟩)
| refine o_nil ?_
| refine g_condF rfl ?_
| refine kr2 ?_ ?_
| refine krB rfl ?_
| refine g_skip ?_
| refine g_ret ?_)
      all_goals rfl
set_option maxHeartbeats 2000000 in
set_option maxRecDepth 100000 in
theorem idch_c (n : Int) (ops L : List OpD) (ho : szOk ops) (hl : szOk L) : PCalls Try.prog 12 [algP n ops, opsP L] (.tup [B (dchV n ops L).1, B (dchV n ops L).2]) := by
  refine pcalls2 Try.func12 rfl Try.ntmps12 rfl ?_
  simp only [List.length_cons, List.length_nil, Nat.reduceAdd, Nat.reduceSub, List.replicate_succ, List.replicate_zero, List.cons_append, List.nil_append]
  have h1 := icheckD_c n ops L ho hl
  repeat' (first
| refine g_seq ?_
| refine g_region ?_
| (refine o_go rfl ?_; (first
| refine p_p (ps_call rfl rfl (by (repeat (first | refine ⟨PV.le_refl _, ?_⟩ | refine ⟨PV.le_nn _ _ _, ?_⟩ | refine ⟨PV.le_nil _, ?_⟩ | refine ⟨PV.le_any _, ?_⟩)); exact trivial) (h1)) ?_
| refine p_p (ps_move rfl) ?_
| refine p_p (ps_assign rfl) ?_
| refine p_p (ps_load_agg rfl rfl (by exact Nat.le_of_ble_eq_true rfl)) ?_
| refine p_p (ps_extract rfl rfl rfl) ?_
| refine p_p (ps_box rfl rfl) ?_); refine ⟨_, (by dsimp only [bitvec_to_nat, Nat.reduceAdd, Nat.reduceMul, Nat.reduceBEq, reduceCtorEq, posI, optP, lendM1, lendMA, lendMP, killM1, killMA, killMP, hasI, getO, backM1, backMA, backMP, putL, inpM, pinM1, pinMA, pinMP]), ?_⟩)
| refine o_nil ?_
| refine kr2 ?_ ?_
| refine krB rfl ?_
| refine g_ret ?_)
  all_goals rfl
set_option maxHeartbeats 4000000 in
set_option maxRecDepth 100000 in
theorem sdch_c (n : Int) (ops L : List OpD) (ho : szOk ops) (hl : szOk L) : PCalls Try.prog 9 [algP n ops, opsP L] (.tup [B (dchV n ops L).1, B (dchV n ops L).2]) := by
  refine pcalls2 Try.func9 rfl Try.ntmps9 rfl ?_
  simp only [List.length_cons, List.length_nil, Nat.reduceAdd, Nat.reduceSub, List.replicate_succ, List.replicate_zero, List.cons_append, List.nil_append]
  unfold dchV
  cases hV : clT n ops with
  | none =>
    obtain ⟨T, -, h1⟩ := s17_none ho hV
    repeat' (first
| refine g_seq ?_
| refine g_region ?_
| (refine o_go rfl ?_; (first
| refine p_p (ps_call rfl rfl (by (repeat (first | refine ⟨PV.le_refl _, ?_⟩ | refine ⟨PV.le_nn _ _ _, ?_⟩ | refine ⟨PV.le_nil _, ?_⟩ | refine ⟨PV.le_any _, ?_⟩)); exact trivial) (h1)) ?_
| refine p_p (ps_move rfl) ?_
| refine p_p (ps_assign rfl) ?_
| refine p_p (ps_load_agg rfl rfl (by exact Nat.le_of_ble_eq_true rfl)) ?_
| refine p_p (ps_extract rfl rfl rfl) ?_
| refine p_p (ps_not rfl rfl) ?_
| refine p_p (ps_box rfl rfl) ?_); refine ⟨_, (by dsimp only [bitvec_to_nat, Nat.reduceAdd, Nat.reduceMul, Nat.reduceBEq, reduceCtorEq, posI, optP, lendM1, lendMA, lendMP, killM1, killMA, killMP, hasI, getO, backM1, backMA, backMP, putL, inpM, pinM1, pinMA, pinMP]), ?_⟩)
| refine o_nil ?_
| refine g_condT rfl ?_
| refine kr2 ?_ ?_
| refine krB rfl ?_
| refine g_ret ?_)
    all_goals rfl
  | some T =>
    have h1 := s17_some ho hV
    obtain ⟨m, rfl, hg, -, hC⟩ := clT_some hV
    dsimp only
    rw [Int.toNat_natCast]
    have hn8 : m ≤ 8 := by have := hC.n3; omega
    have h2 := stables_c m L hn8 hl
    cases hb : listB m L with
    | false =>
      rw [hb] at h2
      dsimp only [cond_false] at h2
      repeat' (first
| refine g_seq ?_
| refine g_region ?_
| (refine o_go rfl ?_; (first
| refine p_p (ps_call rfl rfl (by (repeat (first | refine ⟨PV.le_refl _, ?_⟩ | refine ⟨PV.le_nn _ _ _, ?_⟩ | refine ⟨PV.le_nil _, ?_⟩ | refine ⟨PV.le_any _, ?_⟩)); exact trivial) (h1)) ?_
| refine p_p (ps_call rfl rfl (by (repeat (first | refine ⟨PV.le_refl _, ?_⟩ | refine ⟨PV.le_nn _ _ _, ?_⟩ | refine ⟨PV.le_nil _, ?_⟩ | refine ⟨PV.le_any _, ?_⟩)); exact trivial) (h2)) ?_
| refine p_p (ps_move rfl) ?_
| refine p_p (ps_assign rfl) ?_
| refine p_p (ps_load_cell rfl rfl) ?_
| refine p_p (ps_load_agg rfl rfl (by exact Nat.le_of_ble_eq_true rfl)) ?_
| refine p_p (ps_fieldAddr rfl rfl) ?_
| refine p_p (ps_extract rfl rfl rfl) ?_
| refine p_p (ps_not rfl rfl) ?_
| refine p_p (ps_box rfl rfl) ?_); refine ⟨_, (by dsimp only [bitvec_to_nat, Nat.reduceAdd, Nat.reduceMul, Nat.reduceBEq, reduceCtorEq, posI, optP, lendM1, lendMA, lendMP, killM1, killMA, killMP, hasI, getO, backM1, backMA, backMP, putL, inpM, pinM1, pinMA, pinMP]), ?_⟩)
| refine o_nil ?_
| refine g_condT rfl ?_
| refine g_condF rfl ?_
| refine kr2 ?_ ?_
| refine krB rfl ?_
| refine g_skip ?_
| refine g_ret ?_)
      all_goals rfl
    | true =>
      rw [hb] at h2
      dsimp only [cond_true] at h2
      have hL := listB_len hb
      have hUl : (tbsL L).length ≤ 13 := by rw [List.length_map]; exact hL.1
      have hUt : ∀ t ∈ tbsL L, t.length = m ^ 3 := fun t ht => by
        obtain ⟨f, hf, rfl⟩ := List.mem_map.1 ht
        obtain ⟨h3, h4⟩ := hL.2 f hf
        unfold opOk at h4
        simp only [Bool.and_eq_true, decide_eq_true_eq] at h4
        rw [h4.2.1, h3]; rfl
      rw [Bool.true_and]
      generalize tbsL L = U at *
      have h3 := sall_c T U hC.lenOk (by omega)
      unfold chainD
      by_cases hU2 : 2 ≤ U.length
      · rw [decide_eq_true hU2, Bool.true_and]
        have p0 := sprj_c m 3 0 hC.n0 hn8 (by decide) (by decide)
        have p2 := sprj_c m 3 2 hC.n0 hn8 (by decide) (by decide)
        have g0 := gsame_c (U.getD 0 []) (prjL m 3 0) (by rw [hUt _ (getD_mem0 (by omega))]; have := hC.cube; omega)
        have g2 := gsame_c (U.getD (U.length - 1) []) (prjL m 3 2) (by rw [hUt _ (getD_mem0 (by omega))]; have := hC.cube; omega)
        have i0 : (U.map ints)[(0 : Int).toNat]? = some (ints (U.getD 0 [])) := idx_ints (by omega)
        have i2 : (U.map ints)[((U.length : Int) - 1).toNat]? = some (ints (U.getD (U.length - 1) [])) := by
          rw [show ((U.length : Int) - 1).toNat = U.length - 1 by omega]; exact idx_ints (by omega)
        generalize hb1 : (U.all fun t => decide (t ∈ T)) = b1 at *
        cases b1
        · repeat' (first
| refine g_seq ?_
| refine g_region ?_
| refine g_region_draw (by kernel_rfl) (by kernel_rfl) ?_
| (refine o_go rfl ?_; (first
| refine p_p (ps_call rfl rfl (by (repeat (first | refine ⟨PV.le_refl _, ?_⟩ | refine ⟨PV.le_nn _ _ _, ?_⟩ | refine ⟨PV.le_nil _, ?_⟩ | refine ⟨PV.le_any _, ?_⟩)); exact trivial) (h1)) ?_
| refine p_p (ps_call rfl rfl (by (repeat (first | refine ⟨PV.le_refl _, ?_⟩ | refine ⟨PV.le_nn _ _ _, ?_⟩ | refine ⟨PV.le_nil _, ?_⟩ | refine ⟨PV.le_any _, ?_⟩)); exact trivial) (h2)) ?_
| refine p_p (ps_call rfl rfl (by (repeat (first | refine ⟨PV.le_refl _, ?_⟩ | refine ⟨PV.le_nn _ _ _, ?_⟩ | refine ⟨PV.le_nil _, ?_⟩ | refine ⟨PV.le_any _, ?_⟩)); exact trivial) (h3)) ?_
| refine p_p (ps_move rfl) ?_
| refine p_p (ps_assign rfl) ?_
| refine p_p (ps_load_cell rfl rfl) ?_
| refine p_p (ps_load_agg rfl rfl (by exact Nat.le_of_ble_eq_true rfl)) ?_
| refine p_p (ps_lenM rfl rfl rfl) ?_
| refine p_p (ps_lss rfl rfl rfl) ?_
| refine p_p (ps_fieldAddr rfl rfl) ?_
| refine p_p (ps_extract rfl rfl rfl) ?_
| refine p_p (ps_not rfl rfl) ?_
| refine p_p (ps_pick rfl rfl) ?_
| refine p_p (ps_sub rfl rfl rfl (by constructor <;> omega)) ?_
| refine p_p (ps_box rfl rfl) ?_); refine ⟨_, (by dsimp only [bitvec_to_nat, Nat.reduceAdd, Nat.reduceMul, Nat.reduceBEq, reduceCtorEq, posI, optP, lendM1, lendMA, lendMP, killM1, killMA, killMP, hasI, getO, backM1, backMA, backMP, putL, inpM, pinM1, pinMA, pinMP]), ?_⟩)
| refine o_nil ?_
| (refine o_s rfl ?_; refine ⟨_, (by dsimp only [bitvec_to_nat, Nat.reduceAdd, Nat.reduceMul, Nat.reduceBEq, reduceCtorEq, posI, optP, lendM1, lendMA, lendMP, killM1, killMA, killMP, hasI, getO, backM1, backMA, backMP, putL, inpM, pinM1, pinMA, pinMP]), ?_⟩)
| (refine o_splitD rfl rfl rfl (fun hc => ?_) (fun hc => ?_) <;> first | (exfalso; omega) | dsimp only [List.set_cons_zero, List.set_cons_succ])
| refine g_condT rfl ?_
| refine g_condF rfl ?_
| refine kr2 ?_ ?_
| refine krB rfl ?_
| refine g_skip ?_
| refine g_ret ?_)
          all_goals first | rfl | (exfalso; omega)
        by_cases e0 : U.getD 0 [] = prjL m 3 0
        · rw [decide_eq_true e0] at g0 ⊢
          by_cases e2 : U.getD (U.length - 1) [] = prjL m 3 2
          · rw [decide_eq_true e2] at g2 ⊢
            rw [Bool.true_and, Bool.true_and, Bool.true_and]
            obtain ⟨P, hP⟩ : ∃ P : Nat → Bool, P = fun i => fixB m (U.getD i []) && (decide (U.length ≤ i + 1) || nearB m (U.getD i []) (U.getD (i + 1) []) i) := ⟨_, rfl⟩
            rw [← hP]
            repeat' (first
| refine g_seq ?_
| refine g_block ?_
| refine g_region ?_
| refine g_region_draw (by kernel_rfl) (by kernel_rfl) ?_
| (refine o_go rfl ?_; (first
| refine p_p (ps_call rfl rfl (by (repeat (first | refine ⟨PV.le_refl _, ?_⟩ | refine ⟨PV.le_nn _ _ _, ?_⟩ | refine ⟨PV.le_nil _, ?_⟩ | refine ⟨PV.le_any _, ?_⟩)); exact trivial) (h1)) ?_
| refine p_p (ps_call rfl rfl (by (repeat (first | refine ⟨PV.le_refl _, ?_⟩ | refine ⟨PV.le_nn _ _ _, ?_⟩ | refine ⟨PV.le_nil _, ?_⟩ | refine ⟨PV.le_any _, ?_⟩)); exact trivial) (h2)) ?_
| refine p_p (ps_call rfl rfl (by (repeat (first | refine ⟨PV.le_refl _, ?_⟩ | refine ⟨PV.le_nn _ _ _, ?_⟩ | refine ⟨PV.le_nil _, ?_⟩ | refine ⟨PV.le_any _, ?_⟩)); exact trivial) (h3)) ?_
| refine p_p (ps_call rfl rfl (by (repeat (first | refine ⟨PV.le_refl _, ?_⟩ | refine ⟨PV.le_nn _ _ _, ?_⟩ | refine ⟨PV.le_nil _, ?_⟩ | refine ⟨PV.le_any _, ?_⟩)); exact trivial) (p0)) ?_
| refine p_p (ps_call rfl rfl (by (repeat (first | refine ⟨PV.le_refl _, ?_⟩ | refine ⟨PV.le_nn _ _ _, ?_⟩ | refine ⟨PV.le_nil _, ?_⟩ | refine ⟨PV.le_any _, ?_⟩)); exact trivial) (p2)) ?_
| refine p_p (ps_call rfl rfl (by (repeat (first | refine ⟨PV.le_refl _, ?_⟩ | refine ⟨PV.le_nn _ _ _, ?_⟩ | refine ⟨PV.le_nil _, ?_⟩ | refine ⟨PV.le_any _, ?_⟩)); exact trivial) (g0)) ?_
| refine p_p (ps_call rfl rfl (by (repeat (first | refine ⟨PV.le_refl _, ?_⟩ | refine ⟨PV.le_nn _ _ _, ?_⟩ | refine ⟨PV.le_nil _, ?_⟩ | refine ⟨PV.le_any _, ?_⟩)); exact trivial) (g2)) ?_
| refine p_p (ps_index rfl rfl rfl (by omega) i0 (by exact rfl)) ?_
| refine p_p (ps_index rfl rfl rfl (by omega) i2 (by exact rfl)) ?_
| refine p_p (ps_move rfl) ?_
| refine p_p (ps_assign rfl) ?_
| refine p_p (ps_load_cell rfl rfl) ?_
| refine p_p (ps_load_agg rfl rfl (by exact Nat.le_of_ble_eq_true rfl)) ?_
| refine p_p (ps_lenM rfl rfl rfl) ?_
| refine p_p (ps_lss rfl rfl rfl) ?_
| refine p_p (ps_fieldAddr rfl rfl) ?_
| refine p_p (ps_extract rfl rfl rfl) ?_
| refine p_p (ps_not rfl rfl) ?_
| refine p_p (ps_pick rfl rfl) ?_
| refine p_p (ps_sub rfl rfl rfl (by constructor <;> omega)) ?_
| refine p_p (ps_box rfl rfl) ?_); refine ⟨_, (by dsimp only [bitvec_to_nat, Nat.reduceAdd, Nat.reduceMul, Nat.reduceBEq, reduceCtorEq, posI, optP, lendM1, lendMA, lendMP, killM1, killMA, killMP, hasI, getO, backM1, backMA, backMP, putL, inpM, pinM1, pinMA, pinMP]), ?_⟩)
| refine o_nil ?_
| (refine o_splitD rfl rfl rfl (fun hc => ?_) (fun hc => ?_) <;> first | (exfalso; omega) | dsimp only [List.set_cons_zero, List.set_cons_succ])
| refine g_condF rfl ?_
| refine g_skip ?_)
            all_goals try (exfalso; omega)
            refine g_loopT (α := Nat) (fun i => [(12, I (i : Int))]) (fun _ => []) (fun i => i ≤ U.length ∧ ((List.range i).all P) = true) (fun i => U.length - i) 0 (by simp only [havoc, dsts, List.filterMap_cons, List.filterMap_nil, List.foldl_cons, List.foldl_nil, List.cons_append, List.nil_append, List.append_nil, List.set_cons_succ, List.set_cons_zero]; exact rfl) ⟨by omega, rfl⟩ ⟨rfl, trivial⟩ rfl ?_
            rintro i ⟨hi, hall⟩
            dsimp only [setMany, List.set_cons_zero, List.set_cons_succ]
            have hr : (List.range (i + 1)).all P = ((List.range i).all P && P i) := by rw [List.range_succ, all_snoc]
            have hbad : i < U.length → P i = false → (List.range U.length).all P = false := fun hi h => by
              rw [List.all_eq_false]
              exact ⟨i, List.mem_range.2 hi, by rw [h]; decide⟩
            have hPi : P i = (fixB m (U.getD i []) && (decide (U.length ≤ i + 1) || nearB m (U.getD i []) (U.getD (i + 1) []) i)) := by rw [hP]
            by_cases hil : i < U.length
            · have h5 := sfixed_c m (U.getD i []) hC.n0 hn8 (hUt _ (getD_mem0 hil))
              have i3 : (U.map ints)[((i : Nat) : Int).toNat]? = some (ints (U.getD i [])) := by rw [Int.toNat_natCast]; exact idx_ints hil
              cases hfx : fixB m (U.getD i []) with
              | false =>
                rw [hfx] at h5 hPi
                rw [hbad hil hPi]
                repeat' (first
| refine g_seq ?_
| refine g_block ?_
| refine g_region ?_
| refine g_region_draw (by kernel_rfl) (by kernel_rfl) ?_
| (refine o_go rfl ?_; (first
| refine p_p (ps_index rfl rfl rfl (by omega) i3 (by exact rfl)) ?_
| refine p_p (ps_call rfl rfl (by (repeat (first | refine ⟨PV.le_refl _, ?_⟩ | refine ⟨PV.le_nn _ _ _, ?_⟩ | refine ⟨PV.le_nil _, ?_⟩ | refine ⟨PV.le_any _, ?_⟩)); exact trivial) (h5)) ?_
| refine p_p (ps_move rfl) ?_
| refine p_p (ps_assign rfl) ?_
| refine p_p (ps_load_cell rfl rfl) ?_
| refine p_p (ps_not rfl rfl) ?_
| refine p_p (ps_pick rfl rfl) ?_
| refine p_p (ps_leq rfl rfl rfl) ?_); refine ⟨_, (by dsimp only [bitvec_to_nat, Nat.reduceAdd, Nat.reduceMul, Nat.reduceBEq, reduceCtorEq, posI, optP, lendM1, lendMA, lendMP, killM1, killMA, killMP, hasI, getO, backM1, backMA, backMP, putL, inpM, pinM1, pinMA, pinMP]), ?_⟩)
| refine o_nil ?_
| (refine o_s rfl ?_; refine ⟨_, (by dsimp only [bitvec_to_nat, Nat.reduceAdd, Nat.reduceMul, Nat.reduceBEq, reduceCtorEq, posI, optP, lendM1, lendMA, lendMP, killM1, killMA, killMP, hasI, getO, backM1, backMA, backMP, putL, inpM, pinM1, pinMA, pinMP]), ?_⟩)
| refine g_condT rfl ?_
| (refine g_condD rfl (fun hc => ?_) (fun hc => ?_) <;> try (exfalso; omega))
| refine kr2 ?_ ?_
| refine krB rfl ?_
| refine g_skip ?_
| refine g_ret ?_)
                all_goals first | rfl | (exfalso; omega)
              | true =>
                rw [hfx] at h5 hPi
                rw [Bool.true_and] at hPi
                by_cases hl1 : i + 1 < U.length
                · have h6 := snear_c m i (U.getD i []) (U.getD (i + 1) []) hn8 (hUt _ (getD_mem0 hil)) (hUt _ (getD_mem0 hl1)) (by omega)
                  have i4 : (U.map ints)[((i : Int) + 1).toNat]? = some (ints (U.getD (i + 1) [])) := by rw [show ((i : Int) + 1).toNat = i + 1 by omega]; exact idx_ints hl1
                  rw [decide_eq_false (by omega), Bool.false_or] at hPi
                  rw [← hPi] at h6
                  cases hpp : P i with
                  | false =>
                    rw [hpp] at h6
                    rw [hbad hil hpp]
                    repeat' (first
| refine g_seq ?_
| refine g_block ?_
| refine g_region ?_
| refine g_region_draw (by kernel_rfl) (by kernel_rfl) ?_
| (refine o_go rfl ?_; (first
| refine p_p (ps_index rfl rfl rfl (by omega) i3 (by exact rfl)) ?_
| refine p_p (ps_index rfl rfl rfl (by omega) i4 (by exact rfl)) ?_
| refine p_p (ps_call rfl rfl (by (repeat (first | refine ⟨PV.le_refl _, ?_⟩ | refine ⟨PV.le_nn _ _ _, ?_⟩ | refine ⟨PV.le_nil _, ?_⟩ | refine ⟨PV.le_any _, ?_⟩)); exact trivial) (h5)) ?_
| refine p_p (ps_call rfl rfl (by (repeat (first | refine ⟨PV.le_refl _, ?_⟩ | refine ⟨PV.le_nn _ _ _, ?_⟩ | refine ⟨PV.le_nil _, ?_⟩ | refine ⟨PV.le_any _, ?_⟩)); exact trivial) (h6)) ?_
| refine p_p (ps_move rfl) ?_
| refine p_p (ps_assign rfl) ?_
| refine p_p (ps_load_cell rfl rfl) ?_
| refine p_p (ps_lss rfl rfl rfl) ?_
| refine p_p (ps_add rfl rfl rfl (by constructor <;> omega)) ?_
| refine p_p (ps_not rfl rfl) ?_
| refine p_p (ps_pick rfl rfl) ?_
| refine p_p (ps_leq rfl rfl rfl) ?_); refine ⟨_, (by dsimp only [bitvec_to_nat, Nat.reduceAdd, Nat.reduceMul, Nat.reduceBEq, reduceCtorEq, posI, optP, lendM1, lendMA, lendMP, killM1, killMA, killMP, hasI, getO, backM1, backMA, backMP, putL, inpM, pinM1, pinMA, pinMP]), ?_⟩)
| refine o_nil ?_
| (refine o_splitD rfl rfl rfl (fun hc => ?_) (fun hc => ?_) <;> first | (exfalso; omega) | dsimp only [List.set_cons_zero, List.set_cons_succ])
| refine g_condT rfl ?_
| (refine g_condD rfl (fun hc => ?_) (fun hc => ?_) <;> try (exfalso; omega))
| refine kr2 ?_ ?_
| refine krB rfl ?_
| refine g_skip ?_
| refine g_ret ?_)
                    all_goals first | rfl | (exfalso; omega)
                  | true =>
                    rw [hpp] at h6
                    repeat' (first
| refine g_seq ?_
| refine g_block ?_
| refine g_region ?_
| refine g_region_draw (by kernel_rfl) (by kernel_rfl) ?_
| (refine o_go rfl ?_; (first
| refine p_p (ps_index rfl rfl rfl (by omega) i3 (by exact rfl)) ?_
| refine p_p (ps_index rfl rfl rfl (by omega) i4 (by exact rfl)) ?_
| refine p_p (ps_call rfl rfl (by (repeat (first | refine ⟨PV.le_refl _, ?_⟩ | refine ⟨PV.le_nn _ _ _, ?_⟩ | refine ⟨PV.le_nil _, ?_⟩ | refine ⟨PV.le_any _, ?_⟩)); exact trivial) (h5)) ?_
| refine p_p (ps_call rfl rfl (by (repeat (first | refine ⟨PV.le_refl _, ?_⟩ | refine ⟨PV.le_nn _ _ _, ?_⟩ | refine ⟨PV.le_nil _, ?_⟩ | refine ⟨PV.le_any _, ?_⟩)); exact trivial) (h6)) ?_
| refine p_p (ps_move rfl) ?_
| refine p_p (ps_assign rfl) ?_
| refine p_p (ps_load_cell rfl rfl) ?_
| refine p_p (ps_lss rfl rfl rfl) ?_
| refine p_p (ps_add rfl rfl rfl (by constructor <;> omega)) ?_
| refine p_p (ps_not rfl rfl) ?_
| refine p_p (ps_pick rfl rfl) ?_
| refine p_p (ps_leq rfl rfl rfl) ?_); refine ⟨_, (by dsimp only [bitvec_to_nat, Nat.reduceAdd, Nat.reduceMul, Nat.reduceBEq, reduceCtorEq, posI, optP, lendM1, lendMA, lendMP, killM1, killMA, killMP, hasI, getO, backM1, backMA, backMP, putL, inpM, pinM1, pinMA, pinMP]), ?_⟩)
| refine o_nil ?_
| (refine o_splitD rfl rfl rfl (fun hc => ?_) (fun hc => ?_) <;> first | (exfalso; omega) | dsimp only [List.set_cons_zero, List.set_cons_succ])
| refine g_condF rfl ?_
| (refine g_condD rfl (fun hc => ?_) (fun hc => ?_) <;> try (exfalso; omega))
| refine g_skip ?_)
                    all_goals try (exfalso; omega)
                    exact k_round (i + 1) ⟨by omega, by rw [hr, hall, hpp]; rfl⟩ (by omega) (by repeat (first | exact trivial | refine ⟨.inl rfl, ?_⟩ | refine ⟨.inr rfl, ?_⟩)) ⟨rfl, trivial⟩ (hpLe_nil _)
                · rw [decide_eq_true (by omega), Bool.true_or] at hPi
                  repeat' (first
| refine g_seq ?_
| refine g_block ?_
| refine g_region ?_
| refine g_region_draw (by kernel_rfl) (by kernel_rfl) ?_
| (refine o_go rfl ?_; (first
| refine p_p (ps_index rfl rfl rfl (by omega) i3 (by exact rfl)) ?_
| refine p_p (ps_call rfl rfl (by (repeat (first | refine ⟨PV.le_refl _, ?_⟩ | refine ⟨PV.le_nn _ _ _, ?_⟩ | refine ⟨PV.le_nil _, ?_⟩ | refine ⟨PV.le_any _, ?_⟩)); exact trivial) (h5)) ?_
| refine p_p (ps_move rfl) ?_
| refine p_p (ps_assign rfl) ?_
| refine p_p (ps_load_cell rfl rfl) ?_
| refine p_p (ps_lss rfl rfl rfl) ?_
| refine p_p (ps_add rfl rfl rfl (by constructor <;> omega)) ?_
| refine p_p (ps_not rfl rfl) ?_
| refine p_p (ps_pick rfl rfl) ?_
| refine p_p (ps_leq rfl rfl rfl) ?_); refine ⟨_, (by dsimp only [bitvec_to_nat, Nat.reduceAdd, Nat.reduceMul, Nat.reduceBEq, reduceCtorEq, posI, optP, lendM1, lendMA, lendMP, killM1, killMA, killMP, hasI, getO, backM1, backMA, backMP, putL, inpM, pinM1, pinMA, pinMP]), ?_⟩)
| refine o_nil ?_
| (refine o_s rfl ?_; refine ⟨_, (by dsimp only [bitvec_to_nat, Nat.reduceAdd, Nat.reduceMul, Nat.reduceBEq, reduceCtorEq, posI, optP, lendM1, lendMA, lendMP, killM1, killMA, killMP, hasI, getO, backM1, backMA, backMP, putL, inpM, pinM1, pinMA, pinMP]), ?_⟩)
| (refine o_splitD rfl rfl rfl (fun hc => ?_) (fun hc => ?_) <;> first | (exfalso; omega) | dsimp only [List.set_cons_zero, List.set_cons_succ])
| refine g_condF rfl ?_
| (refine g_condD rfl (fun hc => ?_) (fun hc => ?_) <;> try (exfalso; omega))
| refine g_skip ?_)
                  all_goals try (exfalso; omega)
                  exact k_round (i + 1) ⟨by omega, by rw [hr, hall, hPi]; rfl⟩ (by omega) (by repeat (first | exact trivial | refine ⟨.inl rfl, ?_⟩ | refine ⟨.inr rfl, ?_⟩)) ⟨rfl, trivial⟩ (hpLe_nil _)
            · obtain rfl : i = U.length := by omega
              rw [hall]
              repeat' (first
| refine g_seq ?_
| refine g_region ?_
| (refine o_go rfl ?_; (first
| refine p_p (ps_move rfl) ?_
| refine p_p (ps_assign rfl) ?_
| refine p_p (ps_leq rfl rfl rfl) ?_); refine ⟨_, (by dsimp only [bitvec_to_nat, Nat.reduceAdd, Nat.reduceMul, Nat.reduceBEq, reduceCtorEq, posI, optP, lendM1, lendMA, lendMP, killM1, killMA, killMP, hasI, getO, backM1, backMA, backMP, putL, inpM, pinM1, pinMA, pinMP]), ?_⟩)
| refine o_nil ?_
| (refine g_condD rfl (fun hc => ?_) (fun hc => ?_) <;> try (exfalso; omega))
| refine kr2 ?_ ?_
| refine krB rfl ?_
| refine g_exit ?_
| refine g_ret ?_)
              all_goals first | rfl | (exfalso; omega)
          · rw [decide_eq_false e2] at g2 ⊢
            rw [Bool.false_and, Bool.and_false, Bool.and_false]
            repeat' (first
| refine g_seq ?_
| refine g_region ?_
| refine g_region_draw (by kernel_rfl) (by kernel_rfl) ?_
| (refine o_go rfl ?_; (first
| refine p_p (ps_call rfl rfl (by (repeat (first | refine ⟨PV.le_refl _, ?_⟩ | refine ⟨PV.le_nn _ _ _, ?_⟩ | refine ⟨PV.le_nil _, ?_⟩ | refine ⟨PV.le_any _, ?_⟩)); exact trivial) (h1)) ?_
| refine p_p (ps_call rfl rfl (by (repeat (first | refine ⟨PV.le_refl _, ?_⟩ | refine ⟨PV.le_nn _ _ _, ?_⟩ | refine ⟨PV.le_nil _, ?_⟩ | refine ⟨PV.le_any _, ?_⟩)); exact trivial) (h2)) ?_
| refine p_p (ps_call rfl rfl (by (repeat (first | refine ⟨PV.le_refl _, ?_⟩ | refine ⟨PV.le_nn _ _ _, ?_⟩ | refine ⟨PV.le_nil _, ?_⟩ | refine ⟨PV.le_any _, ?_⟩)); exact trivial) (h3)) ?_
| refine p_p (ps_call rfl rfl (by (repeat (first | refine ⟨PV.le_refl _, ?_⟩ | refine ⟨PV.le_nn _ _ _, ?_⟩ | refine ⟨PV.le_nil _, ?_⟩ | refine ⟨PV.le_any _, ?_⟩)); exact trivial) (p0)) ?_
| refine p_p (ps_call rfl rfl (by (repeat (first | refine ⟨PV.le_refl _, ?_⟩ | refine ⟨PV.le_nn _ _ _, ?_⟩ | refine ⟨PV.le_nil _, ?_⟩ | refine ⟨PV.le_any _, ?_⟩)); exact trivial) (p2)) ?_
| refine p_p (ps_call rfl rfl (by (repeat (first | refine ⟨PV.le_refl _, ?_⟩ | refine ⟨PV.le_nn _ _ _, ?_⟩ | refine ⟨PV.le_nil _, ?_⟩ | refine ⟨PV.le_any _, ?_⟩)); exact trivial) (g0)) ?_
| refine p_p (ps_call rfl rfl (by (repeat (first | refine ⟨PV.le_refl _, ?_⟩ | refine ⟨PV.le_nn _ _ _, ?_⟩ | refine ⟨PV.le_nil _, ?_⟩ | refine ⟨PV.le_any _, ?_⟩)); exact trivial) (g2)) ?_
| refine p_p (ps_index rfl rfl rfl (by omega) i0 (by exact rfl)) ?_
| refine p_p (ps_index rfl rfl rfl (by omega) i2 (by exact rfl)) ?_
| refine p_p (ps_move rfl) ?_
| refine p_p (ps_assign rfl) ?_
| refine p_p (ps_load_cell rfl rfl) ?_
| refine p_p (ps_load_agg rfl rfl (by exact Nat.le_of_ble_eq_true rfl)) ?_
| refine p_p (ps_lenM rfl rfl rfl) ?_
| refine p_p (ps_lss rfl rfl rfl) ?_
| refine p_p (ps_fieldAddr rfl rfl) ?_
| refine p_p (ps_extract rfl rfl rfl) ?_
| refine p_p (ps_not rfl rfl) ?_
| refine p_p (ps_pick rfl rfl) ?_
| refine p_p (ps_sub rfl rfl rfl (by constructor <;> omega)) ?_
| refine p_p (ps_box rfl rfl) ?_); refine ⟨_, (by dsimp only [bitvec_to_nat, Nat.reduceAdd, Nat.reduceMul, Nat.reduceBEq, reduceCtorEq, posI, optP, lendM1, lendMA, lendMP, killM1, killMA, killMP, hasI, getO, backM1, backMA, backMP, putL, inpM, pinM1, pinMA, pinMP]), ?_⟩)
| refine o_nil ?_
| (refine o_splitD rfl rfl rfl (fun hc => ?_) (fun hc => ?_) <;> first | (exfalso; omega) | dsimp only [List.set_cons_zero, List.set_cons_succ])
| refine g_condT rfl ?_
| refine g_condF rfl ?_
| refine kr2 ?_ ?_
| refine krB rfl ?_
| refine g_skip ?_
| refine g_ret ?_)
            all_goals first | rfl | (exfalso; omega)
        · rw [decide_eq_false e0] at g0 ⊢
          rw [Bool.false_and, Bool.and_false]
          repeat' (first
| refine g_seq ?_
| refine g_region ?_
| refine g_region_draw (by kernel_rfl) (by kernel_rfl) ?_
| (refine o_go rfl ?_; (first
| refine p_p (ps_call rfl rfl (by (repeat (first | refine ⟨PV.le_refl _, ?_⟩ | refine ⟨PV.le_nn _ _ _, ?_⟩ | refine ⟨PV.le_nil _, ?_⟩ | refine ⟨PV.le_any _, ?_⟩)); exact trivial) (h1)) ?_
| refine p_p (ps_call rfl rfl (by (repeat (first | refine ⟨PV.le_refl _, ?_⟩ | refine ⟨PV.le_nn _ _ _, ?_⟩ | refine ⟨PV.le_nil _, ?_⟩ | refine ⟨PV.le_any _, ?_⟩)); exact trivial) (h2)) ?_
| refine p_p (ps_call rfl rfl (by (repeat (first | refine ⟨PV.le_refl _, ?_⟩ | refine ⟨PV.le_nn _ _ _, ?_⟩ | refine ⟨PV.le_nil _, ?_⟩ | refine ⟨PV.le_any _, ?_⟩)); exact trivial) (h3)) ?_
| refine p_p (ps_call rfl rfl (by (repeat (first | refine ⟨PV.le_refl _, ?_⟩ | refine ⟨PV.le_nn _ _ _, ?_⟩ | refine ⟨PV.le_nil _, ?_⟩ | refine ⟨PV.le_any _, ?_⟩)); exact trivial) (p0)) ?_
| refine p_p (ps_call rfl rfl (by (repeat (first | refine ⟨PV.le_refl _, ?_⟩ | refine ⟨PV.le_nn _ _ _, ?_⟩ | refine ⟨PV.le_nil _, ?_⟩ | refine ⟨PV.le_any _, ?_⟩)); exact trivial) (g0)) ?_
| refine p_p (ps_index rfl rfl rfl (by omega) i0 (by exact rfl)) ?_
| refine p_p (ps_move rfl) ?_
| refine p_p (ps_assign rfl) ?_
| refine p_p (ps_load_cell rfl rfl) ?_
| refine p_p (ps_load_agg rfl rfl (by exact Nat.le_of_ble_eq_true rfl)) ?_
| refine p_p (ps_lenM rfl rfl rfl) ?_
| refine p_p (ps_lss rfl rfl rfl) ?_
| refine p_p (ps_fieldAddr rfl rfl) ?_
| refine p_p (ps_extract rfl rfl rfl) ?_
| refine p_p (ps_not rfl rfl) ?_
| refine p_p (ps_pick rfl rfl) ?_
| refine p_p (ps_sub rfl rfl rfl (by constructor <;> omega)) ?_
| refine p_p (ps_box rfl rfl) ?_); refine ⟨_, (by dsimp only [bitvec_to_nat, Nat.reduceAdd, Nat.reduceMul, Nat.reduceBEq, reduceCtorEq, posI, optP, lendM1, lendMA, lendMP, killM1, killMA, killMP, hasI, getO, backM1, backMA, backMP, putL, inpM, pinM1, pinMA, pinMP]), ?_⟩)
| refine o_nil ?_
| (refine o_s rfl ?_; refine ⟨_, (by dsimp only [bitvec_to_nat, Nat.reduceAdd, Nat.reduceMul, Nat.reduceBEq, reduceCtorEq, posI, optP, lendM1, lendMA, lendMP, killM1, killMA, killMP, hasI, getO, backM1, backMA, backMP, putL, inpM, pinM1, pinMA, pinMP]), ?_⟩)
| (refine o_splitD rfl rfl rfl (fun hc => ?_) (fun hc => ?_) <;> first | (exfalso; omega) | dsimp only [List.set_cons_zero, List.set_cons_succ])
| refine g_condT rfl ?_
| refine g_condF rfl ?_
| refine kr2 ?_ ?_
| refine krB rfl ?_
| refine g_skip ?_
| refine g_ret ?_)
          all_goals first | rfl | (exfalso; omega)
      · rw [decide_eq_false hU2]
        repeat' (first
| refine g_seq ?_
| refine g_region ?_
| refine g_region_draw (by kernel_rfl) (by kernel_rfl) ?_
| (refine o_go rfl ?_; (first
| refine p_p (ps_call rfl rfl (by (repeat (first | refine ⟨PV.le_refl _, ?_⟩ | refine ⟨PV.le_nn _ _ _, ?_⟩ | refine ⟨PV.le_nil _, ?_⟩ | refine ⟨PV.le_any _, ?_⟩)); exact trivial) (h1)) ?_
| refine p_p (ps_call rfl rfl (by (repeat (first | refine ⟨PV.le_refl _, ?_⟩ | refine ⟨PV.le_nn _ _ _, ?_⟩ | refine ⟨PV.le_nil _, ?_⟩ | refine ⟨PV.le_any _, ?_⟩)); exact trivial) (h2)) ?_
| refine p_p (ps_move rfl) ?_
| refine p_p (ps_assign rfl) ?_
| refine p_p (ps_load_cell rfl rfl) ?_
| refine p_p (ps_load_agg rfl rfl (by exact Nat.le_of_ble_eq_true rfl)) ?_
| refine p_p (ps_lenM rfl rfl rfl) ?_
| refine p_p (ps_lss rfl rfl rfl) ?_
| refine p_p (ps_fieldAddr rfl rfl) ?_
| refine p_p (ps_extract rfl rfl rfl) ?_
| refine p_p (ps_not rfl rfl) ?_
| refine p_p (ps_pick rfl rfl) ?_
| refine p_p (ps_sub rfl rfl rfl (by constructor <;> omega)) ?_
| refine p_p (ps_box rfl rfl) ?_); refine ⟨_, (by dsimp only [bitvec_to_nat, Nat.reduceAdd, Nat.reduceMul, Nat.reduceBEq, reduceCtorEq, posI, optP, lendM1, lendMA, lendMP, killM1, killMA, killMP, hasI, getO, backM1, backMA, backMP, putL, inpM, pinM1, pinMA, pinMP]), ?_⟩)
| refine o_nil ?_
| (refine o_s rfl ?_; refine ⟨_, (by dsimp only [bitvec_to_nat, Nat.reduceAdd, Nat.reduceMul, Nat.reduceBEq, reduceCtorEq, posI, optP, lendM1, lendMA, lendMP, killM1, killMA, killMP, hasI, getO, backM1, backMA, backMP, putL, inpM, pinM1, pinMA, pinMP]), ?_⟩)
| (refine o_splitD rfl rfl rfl (fun hc => ?_) (fun hc => ?_) <;> first | (exfalso; omega) | dsimp only [List.set_cons_zero, List.set_cons_succ])
| refine g_condT rfl ?_
| refine g_condF rfl ?_
| refine kr2 ?_ ?_
| refine krB rfl ?_
| refine g_skip ?_
| refine g_ret ?_)
        all_goals first | rfl | (exfalso; omega)
end Go.Proofs.Ytogfibhhfimbjaa
