/- The program's tests of an order against the reference's. -/
import Derived.Test.YtfpghibjbcdinaaLw1
import Derived.Test.YtfpghibjbcdinaaB1
namespace Go.Proofs.Ytfpghibjbcdinaa

theorem ris_split (l : List Int) (n : Nat) : risB l 0 ((n : Int) - 1) = (risesB l && inSizeB l (n : Int)) := by
  rw [Bool.eq_iff_iff, Bool.and_eq_true]
  unfold risB risesB inSizeB
  rw [allN_iff, allN_iff, List.all_eq_true]
  constructor
  · intro h
    refine ⟨fun k hk => (by have := h k hk; rw [Bool.and_eq_true] at this; exact this.2), fun x hx => ?_⟩
    obtain ⟨k, hk, rfl⟩ := List.getElem_of_mem hx
    have := h k hk
    simp only [Bool.and_eq_true, inB, decide_eq_true_eq, List.getD_eq_getElem?_getD, List.getElem?_eq_getElem hk, Option.getD_some] at this
    rw [decide_eq_false (by omega), decide_eq_false (by omega)]; rfl
  · rintro ⟨h1, h2⟩ k hk
    rw [Bool.and_eq_true]
    refine ⟨?_, h1 k hk⟩
    have := h2 _ (List.getElem_mem hk)
    simp only [Bool.not_eq_true', Bool.or_eq_false_iff, decide_eq_false_iff_not] at this
    unfold inB
    simp only [List.getD_eq_getElem?_getD, List.getElem?_eq_getElem hk, Option.getD_some, Bool.and_eq_true, decide_eq_true_eq]
    omega

/-- The order's laws, on the reference's relation. -/
def Ord (rows : List (List Int)) : Prop := (∀ x, x < rows.length → leqB rows (x : Int) (x : Int) = true) ∧ (∀ x y, x < rows.length → y < rows.length → x ≠ y → leqB rows (x : Int) (y : Int) = true → leqB rows (y : Int) (x : Int) = false) ∧
  ∀ x y z, x < rows.length → y < rows.length → z < rows.length → leqB rows (x : Int) (y : Int) = true → leqB rows (y : Int) (z : Int) = true → leqB rows (x : Int) (z : Int) = true
theorem order_iff (rows : List (List Int)) : orderB (tabOf rows) = true ↔ Ord rows := by
  unfold orderB ordX ordY ordZ
  simp only [length_tabOf, allN_iff, Bool.and_eq_true]
  constructor
  · intro h
    refine ⟨fun x hx => ?_, fun x y hx hy hne hxy => ?_, fun x y z hx hy hz hxy hyz => ?_⟩
    · have := (h x hx).1
      rwa [tabB_of rows hx hx] at this
    · have := ((h x hx).2 y hy).1
      rw [tabB_of rows hx hy, tabB_of rows hy hx, hxy, decide_eq_false (by omega)] at this
      simpa using this
    · have := ((h x hx).2 y hy).2 z hz
      rw [tabB_of rows hx hy, tabB_of rows hy hz, tabB_of rows hx hz, hxy, hyz] at this
      simpa using this
  · rintro ⟨h1, h2, h3⟩ x hx
    refine ⟨by rw [tabB_of rows hx hx]; exact h1 x hx, fun y hy => ⟨?_, fun z hz => ?_⟩⟩
    · rw [tabB_of rows hx hy, tabB_of rows hy hx]
      by_cases hxy : x = y
      · subst hxy; simp
      · cases hl : leqB rows (x : Int) (y : Int) with
        | false => simp
        | true => rw [h2 x y hx hy hxy hl]; simp
    · rw [tabB_of rows hx hy, tabB_of rows hy hz, tabB_of rows hx hz]
      cases hl : leqB rows (x : Int) (y : Int) with
      | false => rfl
      | true =>
        cases hm : leqB rows (y : Int) (z : Int) with
        | false => rfl
        | true => rw [h3 x y z hx hy hz hl hm]; rfl

theorem inSize_mem {l : List Int} {n : Nat} (h : inSizeB l (n : Int) = true) {a : Int} (ha : a ∈ l) : 0 ≤ a ∧ a < (n : Int) := by
  have := List.all_eq_true.1 h a ha
  simp only [Bool.not_eq_true', Bool.or_eq_false_iff, decide_eq_false_iff_not] at this
  omega
theorem leq_mem {rows : List (List Int)} {a : Int} {x : Nat} : a ∈ rows.getD x [] ↔ leqB rows a (x : Int) = true := by
  unfold leqB
  rw [List.contains_iff_mem]; rfl
theorem good_order (rows : List (List Int)) (h10 : rows.length ≤ 10) (hri : ∀ x, x < rows.length → risesB (rows.getD x []) = true ∧ inSizeB (rows.getD x []) (rows.length : Int) = true) : goodP rows = orderB (tabOf rows) := by
  rw [Bool.eq_iff_iff, order_iff]
  unfold goodP
  rw [decide_eq_true h10, Bool.true_and, Bool.and_eq_true, allN_iff, allN_iff]
  constructor
  · rintro ⟨h1, h2⟩
    refine ⟨fun x hx => ?_, fun x y hx hy hne hxy => ?_, fun x y z hx hy hz hxy hyz => ?_⟩
    · have := h1 x hx
      unfold good1 at this
      rw [Bool.and_eq_true] at this
      exact this.2
    · have := List.all_eq_true.1 (h2 y hy) x (leq_mem.2 hxy)
      rw [Bool.and_eq_true, decide_eq_false (by omega : ¬ (x : Int) = (y : Int))] at this
      have h := this.1
      simp only [Bool.not_false, Bool.true_and, Bool.not_eq_true'] at h
      exact h
    · have := List.all_eq_true.1 (h2 z hz) y (leq_mem.2 hyz)
      rw [Bool.and_eq_true] at this
      have h := List.all_eq_true.1 this.2 x (leq_mem.2 hxy)
      exact leq_mem.1 (List.contains_iff_mem.1 h)
  · rintro ⟨h1, h2, h3⟩
    refine ⟨fun x hx => ?_, fun x hx => ?_⟩
    · unfold good1
      rw [ris_split, (hri x hx).1, (hri x hx).2]
      exact h1 x hx
    · refine List.all_eq_true.2 fun a ha => ?_
      obtain ⟨a0, a1⟩ := inSize_mem (hri x hx).2 ha
      obtain ⟨b, rfl⟩ : ∃ b : Nat, a = (b : Int) := ⟨a.toNat, by omega⟩
      have hb : b < rows.length := by omega
      have hbx := leq_mem.1 ha
      rw [Bool.and_eq_true]
      refine ⟨?_, List.all_eq_true.2 fun c hc => ?_⟩
      · by_cases hxb : b = x
        · subst hxb; simp
        · have := h2 b x hb hx hxb hbx
          have e : (rows.getD (b : Int).toNat []).contains (x : Int) = false := this
          rw [e]; simp
      · obtain ⟨c0, c1⟩ := inSize_mem (hri b hb).2 hc
        obtain ⟨d, rfl⟩ : ∃ d : Nat, c = (d : Int) := ⟨c.toNat, by omega⟩
        exact List.contains_iff_mem.2 (leq_mem.2 (h3 d b x (by omega) hb hx (leq_mem.1 hc) hbx))
end Go.Proofs.Ytfpghibjbcdinaa
