/- Plain functions on tables: meets. No program here. -/
import Derived.Test.YtfpghibjbcdinaaSp5
namespace Go.Proofs.Ytfpghibjbcdinaa
def mT (t : List (List Bool)) (x y : Nat) : Int := greatL t (upTo t.length fun z => tabB t z x && tabB t z y)
def rowT (t : List (List Bool)) (x k : Nat) : List Int := (List.range k).map fun y => mT t x y
def meetsT (t : List (List Bool)) (k : Nat) : List (List Int) := (List.range k).map fun x => rowT t x t.length
def mOk (t : List (List Bool)) : Bool := allN t.length fun x => allN t.length fun y => !decide (mT t x y < 0)
theorem rowT_succ (t : List (List Bool)) (x k : Nat) : rowT t x (k + 1) = rowT t x k ++ [mT t x k] := by unfold rowT; rw [List.range_succ, List.map_append]; rfl
theorem meetsT_succ (t : List (List Bool)) (k : Nat) : meetsT t (k + 1) = meetsT t k ++ [rowT t k t.length] := by unfold meetsT; rw [List.range_succ, List.map_append]; rfl
theorem length_rowT (t : List (List Bool)) (x k : Nat) : (rowT t x k).length = k := by simp [rowT]
theorem length_meetsT (t : List (List Bool)) (k : Nat) : (meetsT t k).length = k := by simp [meetsT]
end Go.Proofs.Ytfpghibjbcdinaa
