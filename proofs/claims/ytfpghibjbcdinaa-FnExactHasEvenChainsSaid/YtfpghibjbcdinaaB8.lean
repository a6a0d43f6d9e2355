/- Walks: the program's lattice, as tables of the reference's meets and joins; IsModularPair. -/
import Derived.Test.YtfpghibjbcdinaaB7
import Derived.Test.YtfpghibjbcdinaaSp8
namespace Go.Proofs.Ytfpghibjbcdinaa
open Go Go.Pv Go.Proofs

theorem lat_yes (rows : List (List Int)) (hok : okP rows) (hg : goodL rows = true) : PCalls Try.prog 51 [posetP rows] (.tup [latP rows, B true]) := by
  have h := latticeOf_c rows hok
  rw [if_pos hg, hg] at h
  unfold latV at h
  rwa [meets_Z, joins_Z] at h
theorem lat_no (rows : List (List Int)) (hok : okP rows) (hg : goodL rows = false) : PCalls Try.prog 51 [posetP rows] (.tup [.any, B false]) := by
  have h := latticeOf_c rows hok
  rwa [if_neg (by rw [hg]; decide), hg] at h
theorem good_10 {rows : List (List Int)} (hg : goodL rows = true) : rows.length ≤ 10 := by
  have := goodL_P hg
  unfold goodP at this
  simp only [Bool.and_eq_true, decide_eq_true_eq] at this
  exact this.1
theorem okT_Z {n : Nat} (f : Int → Int → Bool) (h : n ≤ 10) : okT (tabZ n f) := by
  refine ⟨by rw [length_tabZ]; exact h, fun x hx => ?_⟩
  rw [length_tabZ] at hx
  unfold tabZ
  rw [getD_map_range _ _ _ hx, length_rowZ]; simp
theorem lhas_c (rows : List (List Int)) (l : List Int) (hg : goodL rows = true) (hl : l.length ≤ 1048576) : PCalls Try.prog 60 [boolss (tabZ rows.length (leqB rows)), ints l] (B (inSizeB l (rows.length : Int))) := by
  have h := ohas_c (tabZ rows.length (leqB rows)) l (okT_Z _ (good_10 hg)) hl
  rwa [length_tabZ] at h

end Go.Proofs.Ytfpghibjbcdinaa
