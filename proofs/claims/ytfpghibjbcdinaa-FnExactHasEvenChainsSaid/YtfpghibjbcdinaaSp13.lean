/- Values of the lattice rows: lists and what they come with. No program here. -/
import Derived.Test.YtfpghibjbcdinaaSp11
namespace Go.Proofs.Ytfpghibjbcdinaa

def ucB (rows : List (List Int)) : Bool := allN rows.length fun x => decide ((compN rows x : Int) = 1)
def fbV (rows : List (List Int)) : List Int := bif goodL rows then list3 (bent3 rows) else []
def fuV (rows : List (List Int)) : List Int := bif goodL rows then list3 (uneven3 rows) else []
def rcO (rows : List (List Int)) (x y z : Int) : Bool := goodL rows && isB rows x && isB rows y && isB rows z && (leqB rows x y && leqB rows y z)
def rcV (rows : List (List Int)) (x y z : Int) : List Int := bif rcO rows x y z then relL rows x y z else []
def ciV (rows : List (List Int)) (x : Int) : List Int := bif goodL rows && isB rows x then relL rows (botL rows) x (topL rows) else []
def two (rows : List (List Int)) (x y : Int) : Bool := goodL rows && isB rows x && isB rows y
def liP (rows : List (List Int)) (x y : Int) (z : Nat) : Bool := leqB rows (meetL rows x y) (z : Int) && leqB rows (z : Int) x
def diP (rows : List (List Int)) (x y : Int) (z : Nat) : Bool := leqB rows y (z : Int) && leqB rows (z : Int) (joinL rows x y)
def liL (rows : List (List Int)) (x y : Int) (k : Nat) : List Int := (upTo k (liP rows x y)).map fun z => joinL rows z y
def diL (rows : List (List Int)) (x y : Int) (k : Nat) : List Int := (upTo k (diP rows x y)).map fun z => meetL rows z x
def liV (rows : List (List Int)) (x y : Int) : List Int := bif two rows x y then liL rows x y rows.length else []
def diV (rows : List (List Int)) (x y : Int) : List Int := bif two rows x y then diL rows x y rows.length else []
theorem list3_len (t : Option (Nat × Nat × Nat)) : (list3 t).length ≤ 3 := by cases t <;> simp [list3]
theorem good_10L {rows : List (List Int)} (hg : goodL rows = true) : rows.length ≤ 10 := by
  have := goodL_P hg
  unfold goodP at this
  simp only [Bool.and_eq_true, decide_eq_true_eq] at this
  exact this.1
theorem fbV_len (rows : List (List Int)) : (fbV rows).length ≤ 1048576 := by
  unfold fbV; have := list3_len (bent3 rows); cases goodL rows <;> simp <;> omega
theorem fuV_len (rows : List (List Int)) : (fuV rows).length ≤ 1048576 := by
  unfold fuV; have := list3_len (uneven3 rows); cases goodL rows <;> simp <;> omega
theorem rcV_len {rows : List (List Int)} (hok : okP rows) (x y z : Int) : (rcV rows x y z).length ≤ 1048576 := by
  unfold rcV; have := relL_len rows x y z; have := hok.1; cases rcO rows x y z <;> simp; omega
theorem ciV_len {rows : List (List Int)} (hok : okP rows) (x : Int) : (ciV rows x).length ≤ 1048576 := by
  unfold ciV; have := relL_len rows (botL rows) x (topL rows); have := hok.1; cases goodL rows && isB rows x <;> simp; omega
theorem liL_len (rows : List (List Int)) (x y : Int) (k : Nat) : (liL rows x y k).length ≤ k := by
  unfold liL; rw [List.length_map]; exact upTo_length _ _
theorem diL_len (rows : List (List Int)) (x y : Int) (k : Nat) : (diL rows x y k).length ≤ k := by
  unfold diL; rw [List.length_map]; exact upTo_length _ _
theorem liV_len {rows : List (List Int)} (hok : okP rows) (x y : Int) : (liV rows x y).length ≤ 1048576 := by
  unfold liV; have := liL_len rows x y rows.length; have := hok.1; cases two rows x y <;> simp; omega
theorem diV_len {rows : List (List Int)} (hok : okP rows) (x y : Int) : (diV rows x y).length ≤ 1048576 := by
  unfold diV; have := diL_len rows x y rows.length; have := hok.1; cases two rows x y <;> simp; omega
theorem liL_succ (rows : List (List Int)) (x y : Int) (k : Nat) : liL rows x y (k + 1) = liL rows x y k ++ (if liP rows x y k = true then [joinL rows (k : Int) y] else []) := by
  unfold liL; rw [upTo_succ, List.map_append]; split <;> rfl
theorem diL_succ (rows : List (List Int)) (x y : Int) (k : Nat) : diL rows x y (k + 1) = diL rows x y k ++ (if diP rows x y k = true then [meetL rows (k : Int) x] else []) := by
  unfold diL; rw [upTo_succ, List.map_append]; split <;> rfl
end Go.Proofs.Ytfpghibjbcdinaa
