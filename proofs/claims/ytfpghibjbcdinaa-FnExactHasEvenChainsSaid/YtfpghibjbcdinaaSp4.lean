/- In a lattice each two elements have their meet and join among the elements. No program here. -/
import Derived.Test.YtfpghibjbcdinaaSp3
namespace Go.Proofs.Ytfpghibjbcdinaa

theorem boundL_range (rows : List (List Int)) (some : List Int) : boundL rows some = -1 ∨ (0 ≤ boundL rows some ∧ boundL rows some < (rows.length : Int)) := by
  unfold boundL
  cases h : (lowsB rows some rows.length).find? fun l => withinB (lowsB rows some rows.length) (rows.getD l.toNat []) with
  | none => exact .inl rfl
  | some l =>
    have := upTo_mem.1 (List.mem_of_find?_eq_some h)
    exact .inr ⟨this.1, this.2.1⟩
theorem bound_same {rows : List (List Int)} {x : Int} (hx : 0 ≤ x ∧ x < (rows.length : Int)) (hr : leqB rows x x = true) : 0 ≤ boundL rows [x, x] := by
  rcases boundL_range rows [x, x] with h | h
  · exfalso
    have hxx : (x.toNat : Int) = x := by omega
    have hmem : x ∈ lowsB rows [x, x] rows.length := upTo_mem.2 ⟨hx.1, hx.2, by rw [hxx]; simp [hr]⟩
    unfold boundL at h
    cases hf : (lowsB rows [x, x] rows.length).find? fun l => withinB (lowsB rows [x, x] rows.length) (rows.getD l.toNat []) with
    | some l =>
      rw [hf] at h
      have := upTo_mem.1 (List.mem_of_find?_eq_some hf)
      simp only [Option.getD_some] at h
      omega
    | none =>
      rw [List.find?_eq_none] at hf
      refine hf x hmem ?_
      unfold withinB
      rw [List.all_eq_true]
      intro a ha
      obtain ⟨a0, a1, a2⟩ := upTo_mem.1 ha
      have haa : (a.toNat : Int) = a := by omega
      rw [haa] at a2
      simp only [List.all_cons, List.all_nil, Bool.and_true, Bool.and_self] at a2
      exact a2
  · exact h.1
theorem bound_comm (rows : List (List Int)) (x y : Int) : boundL rows [x, y] = boundL rows [y, x] := by
  have h : ∀ n, lowsB rows [x, y] n = lowsB rows [y, x] n := fun n => by
    unfold lowsB
    congr 1
    funext z
    simp [Bool.and_comm]
  unfold boundL
  rw [h]
theorem dual_getD {rows : List (List Int)} {x : Nat} (h : x < rows.length) : (dualL rows).getD x [] = upTo rows.length fun y => leqB rows (x : Int) (y : Int) := by
  unfold dualL
  rw [List.getD_eq_getElem?_getD, List.getElem?_map, List.getElem?_range h]; rfl
theorem leq_dual {rows : List (List Int)} {x y : Int} (hx : 0 ≤ x ∧ x < (rows.length : Int)) (hy : 0 ≤ y ∧ y < (rows.length : Int)) : leqB (dualL rows) x y = leqB rows y x := by
  have e1 : (x.toNat : Int) = x := by omega
  have e2 : (y.toNat : Int) = y := by omega
  rw [Bool.eq_iff_iff]
  show ((dualL rows).getD y.toNat []).contains x = true ↔ _
  rw [dual_getD (by omega), List.contains_iff_mem, upTo_mem, e1, e2]
  exact ⟨fun h => h.2.2, fun h => ⟨hx.1, hx.2, h⟩⟩

theorem goodL_P {rows : List (List Int)} (h : goodL rows = true) : goodP rows = true := by unfold goodL at h; rw [Bool.and_eq_true] at h; exact h.1
theorem goodP_1 {rows : List (List Int)} (h : goodP rows = true) {x : Nat} (hx : x < rows.length) : good1 rows x = true := by
  unfold goodP at h; simp only [Bool.and_eq_true] at h; exact allN_iff.1 h.2.1 x hx
theorem goodP_2 {rows : List (List Int)} (h : goodP rows = true) {x : Nat} (hx : x < rows.length) : good2 rows x = true := by
  unfold goodP at h; simp only [Bool.and_eq_true] at h; exact allN_iff.1 h.2.2 x hx
theorem good_mem {rows : List (List Int)} (h : goodP rows = true) {x i : Nat} (hx : x < rows.length) (hi : i < (rows.getD x []).length) : 0 ≤ (rows.getD x []).getD i 0 ∧ (rows.getD x []).getD i 0 < (rows.length : Int) := by
  have := goodP_1 h hx
  unfold good1 at this
  rw [Bool.and_eq_true] at this
  have := risB_mem this.1 hi
  omega
theorem good_refl {rows : List (List Int)} (h : goodP rows = true) {x : Int} (hx : 0 ≤ x ∧ x < (rows.length : Int)) : leqB rows x x = true := by
  have := goodP_1 h (x := x.toNat) (by omega)
  unfold good1 at this
  rw [Bool.and_eq_true, show (x.toNat : Int) = x by omega] at this
  exact this.2
theorem good_pair {rows : List (List Int)} (h : goodL rows = true) {x y : Nat} (hy : y < x) (hx : x < rows.length) : 0 ≤ boundL rows [(x : Int), (y : Int)] ∧ 0 ≤ boundL (dualL rows) [(x : Int), (y : Int)] := by
  unfold goodL at h
  simp only [Bool.and_eq_true] at h
  have := allN_iff.1 (allN_iff.1 h.2.2 x hx) y hy
  unfold pairOk at this
  simp only [Bool.and_eq_true, Bool.not_eq_true', decide_eq_false_iff_not] at this
  omega
theorem good_bounds {rows : List (List Int)} (h : goodL rows = true) {x y : Int} (hx : 0 ≤ x ∧ x < (rows.length : Int)) (hy : 0 ≤ y ∧ y < (rows.length : Int)) : 0 ≤ boundL rows [x, y] ∧ 0 ≤ boundL (dualL rows) [x, y] := by
  have hP := goodL_P h
  obtain ⟨a, rfl⟩ : ∃ a : Nat, x = (a : Int) := ⟨x.toNat, by omega⟩
  obtain ⟨b, rfl⟩ : ∃ b : Nat, y = (b : Int) := ⟨y.toNat, by omega⟩
  rcases Nat.lt_trichotomy b a with hlt | rfl | hlt
  · exact good_pair h hlt (by omega)
  · refine ⟨bound_same hx (good_refl hP hx), bound_same (by rw [length_dual]; exact hx) ?_⟩
    rw [leq_dual hx hx]; exact good_refl hP hx
  · rw [bound_comm rows, bound_comm (dualL rows)]
    exact good_pair h hlt (by omega)
theorem meet_in {rows : List (List Int)} (h : goodL rows = true) {x y : Int} (hx : 0 ≤ x ∧ x < (rows.length : Int)) (hy : 0 ≤ y ∧ y < (rows.length : Int)) : 0 ≤ meetL rows x y ∧ meetL rows x y < (rows.length : Int) := by
  have h1 := (good_bounds h hx hy).1
  unfold meetL
  rcases boundL_range rows [x, y] with h2 | h2
  · omega
  · exact h2
theorem join_in {rows : List (List Int)} (h : goodL rows = true) {x y : Int} (hx : 0 ≤ x ∧ x < (rows.length : Int)) (hy : 0 ≤ y ∧ y < (rows.length : Int)) : 0 ≤ joinL rows x y ∧ joinL rows x y < (rows.length : Int) := by
  have h1 := (good_bounds h hx hy).2
  unfold joinL
  rcases boundL_range (dualL rows) [x, y] with h2 | h2
  · omega
  · rw [length_dual] at h2; exact h2

def mpS (rows : List (List Int)) (x y : Int) : Bool := (rows.getD y.toNat []).all fun z => decide (meetL rows (joinL rows z x) y = joinL rows z (meetL rows x y))
end Go.Proofs.Ytfpghibjbcdinaa
