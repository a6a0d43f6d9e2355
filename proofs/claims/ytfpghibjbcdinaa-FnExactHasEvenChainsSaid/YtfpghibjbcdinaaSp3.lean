/- Plain facts on orders and lattices as the reference has them. No program here. -/
import Derived.Test.YtfpghibjbcdinaaSp2
namespace Go.Proofs.Ytfpghibjbcdinaa

theorem risB_mem {l : List Int} {lo hi : Int} (h : risB l lo hi = true) {i : Nat} (hi' : i < l.length) : lo ≤ l.getD i 0 ∧ l.getD i 0 ≤ hi := by
  have := allN_iff.1 h i hi'
  simp only [Bool.and_eq_true, inB, decide_eq_true_eq] at this
  exact this.1
theorem okP_dual {rows : List (List Int)} (h : okP rows) : okP (dualL rows) := by
  refine ⟨by simp only [dualL, List.length_map, List.length_range]; exact h.1, fun r hr => ?_⟩
  simp only [dualL, List.mem_map] at hr
  obtain ⟨x, -, rfl⟩ := hr
  exact Nat.le_trans (upTo_length _ _) h.1
theorem length_dual (rows : List (List Int)) : (dualL rows).length = rows.length := by simp [dualL]
def pairOk (rows : List (List Int)) (x y : Nat) : Bool := !decide (boundL rows [(x : Int), (y : Int)] < 0) && !decide (boundL (dualL rows) [(x : Int), (y : Int)] < 0)
def goodL (rows : List (List Int)) : Bool := goodP rows && (!decide (rows.length = 0) && allN rows.length fun x => allN x fun y => pairOk rows x y)
def meetL (rows : List (List Int)) (x y : Int) : Int := boundL rows [x, y]
def joinL (rows : List (List Int)) (x y : Int) : Int := boundL (dualL rows) [x, y]
end Go.Proofs.Ytfpghibjbcdinaa
