/- The program's test of a lattice against the reference's. -/
import Derived.Test.YtfpghibjbcdinaaLw2
namespace Go.Proofs.Ytfpghibjbcdinaa

theorem mOk_iff (rows : List (List Int)) : mOk (tabOf rows) = true ↔ ∀ x y, x < rows.length → y < rows.length → 0 ≤ boundL rows [(x : Int), (y : Int)] := by
  unfold mOk
  simp only [allN_iff, length_tabOf]
  constructor
  · intro h x y hx hy
    have := h x hx y hy
    rw [mT_of rows hx hy] at this
    simpa using this
  · intro h x hx y hy
    rw [mT_of rows hx hy, decide_eq_false (by have := h x y hx hy; omega)]; rfl
theorem goodL_eq (rows : List (List Int)) (hP : goodP rows = true) (hn : rows.length ≠ 0) : goodL rows = (mOk (tabOf rows) && mOk (tabOf (dualL rows))) := by
  rw [Bool.eq_iff_iff, Bool.and_eq_true, mOk_iff, mOk_iff, length_dual]
  constructor
  · intro h
    exact ⟨fun x y hx hy => (good_bounds h ⟨by omega, by omega⟩ ⟨by omega, by omega⟩).1, fun x y hx hy => (good_bounds h ⟨by omega, by omega⟩ ⟨by omega, by omega⟩).2⟩
  · rintro ⟨h1, h2⟩
    unfold goodL
    rw [hP, decide_eq_false hn, Bool.true_and, Bool.not_false, Bool.true_and, allN_iff]
    intro x hx
    rw [allN_iff]
    intro y hy
    unfold pairOk
    have a := h1 x y hx (by omega)
    have b := h2 x y hx (by omega)
    rw [decide_eq_false (by omega), decide_eq_false (by omega)]; rfl
end Go.Proofs.Ytfpghibjbcdinaa
