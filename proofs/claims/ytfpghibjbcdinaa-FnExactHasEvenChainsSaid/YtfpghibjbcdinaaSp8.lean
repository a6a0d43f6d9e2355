/- Tables of a function of two whole numbers; the program's lattice tables as such. -/
import Derived.Test.YtfpghibjbcdinaaSp7
import Derived.Test.YtfpghibjbcdinaaTy
namespace Go.Proofs.Ytfpghibjbcdinaa
open Go Go.Pv

def rowZ {α : Type} (n : Nat) (f : Int → Int → α) (i : Int) : List α := (List.range n).map fun (b : Nat) => f i (b : Int)
def tabZ {α : Type} (n : Nat) (f : Int → Int → α) : List (List α) := (List.range n).map fun (a : Nat) => rowZ n f (a : Int)
theorem length_tabZ {α : Type} (n : Nat) (f : Int → Int → α) : (tabZ n f).length = n := by simp [tabZ]
theorem length_rowZ {α : Type} (n : Nat) (f : Int → Int → α) (i : Int) : (rowZ n f i).length = n := by simp [rowZ]
theorem idx_TZ {α : Type} (g : List α → PV) {n : Nat} {f : Int → Int → α} {i : Int} (h0 : 0 ≤ i) (h : i < (n : Int)) : ((tabZ n f).map g)[i.toNat]? = some (g (rowZ n f i)) := by
  unfold tabZ
  rw [List.map_map, List.getElem?_map, List.getElem?_range (by omega)]
  simp [show max i 0 = i by omega]
theorem idx_RZ {α : Type} (g : α → PV) {n : Nat} {f : Int → Int → α} {i j : Int} (h0 : 0 ≤ j) (h : j < (n : Int)) : ((rowZ n f i).map g)[j.toNat]? = some (g (f i j)) := by
  unfold rowZ
  rw [List.map_map, List.getElem?_map, List.getElem?_range (by omega)]
  simp [show max j 0 = j by omega]
theorem idx_TI {n : Nat} {f : Int → Int → Int} {i : Int} (h0 : 0 ≤ i) (h : i < (n : Int)) : ((tabZ n f).map ints)[i.toNat]? = some (ints (rowZ n f i)) := idx_TZ ints h0 h
theorem idx_TB {n : Nat} {f : Int → Int → Bool} {i : Int} (h0 : 0 ≤ i) (h : i < (n : Int)) : ((tabZ n f).map bools)[i.toNat]? = some (bools (rowZ n f i)) := idx_TZ bools h0 h
theorem idx_RI {n : Nat} {f : Int → Int → Int} {i j : Int} (h0 : 0 ≤ j) (h : j < (n : Int)) : ((rowZ n f i).map I)[j.toNat]? = some (I (f i j)) := idx_RZ I h0 h
theorem idx_RB {n : Nat} {f : Int → Int → Bool} {i j : Int} (h0 : 0 ≤ j) (h : j < (n : Int)) : ((rowZ n f i).map B)[j.toNat]? = some (B (f i j)) := idx_RZ B h0 h
theorem tabOf_Z (rows : List (List Int)) : tabOf rows = tabZ rows.length (leqB rows) := rfl
theorem meets_Z (rows : List (List Int)) : meetsT (tabOf rows) rows.length = tabZ rows.length (meetL rows) := by
  unfold meetsT tabZ rowT rowZ
  rw [length_tabOf]
  refine List.map_congr_left fun x hx => List.map_congr_left fun y hy => ?_
  exact mT_of rows (List.mem_range.1 hx) (List.mem_range.1 hy)
theorem joins_Z (rows : List (List Int)) : meetsT (dualT (tabOf rows)) rows.length = tabZ rows.length (joinL rows) := by
  rw [dual_tab]
  unfold meetsT tabZ rowT rowZ
  rw [length_tabOf, length_dual]
  refine List.map_congr_left fun x hx => List.map_congr_left fun y hy => ?_
  exact mT_of (dualL rows) (by rw [length_dual]; exact List.mem_range.1 hx) (by rw [length_dual]; exact List.mem_range.1 hy)
/-- The program's lattice: a pointer to its table, its meets and its joins. -/
abbrev latP (rows : List (List Int)) : PV := .ptr [boolss (tabZ rows.length (leqB rows)), intss (tabZ rows.length (meetL rows)), intss (tabZ rows.length (joinL rows))]

theorem meet_comm (rows : List (List Int)) (x y : Int) : meetL rows x y = meetL rows y x := bound_comm rows x y
theorem join_comm (rows : List (List Int)) (x y : Int) : joinL rows x y = joinL rows y x := bound_comm (dualL rows) x y
theorem inSize2 (x y : Int) (rows : List (List Int)) : inSizeB [x, y] (rows.length : Int) = (isB rows x && isB rows y) := by
  unfold inSizeB isB
  rw [Bool.eq_iff_iff]; simp <;> omega
theorem inSize1 (x : Int) (rows : List (List Int)) : inSizeB [x] (rows.length : Int) = isB rows x := by
  unfold inSizeB isB
  rw [Bool.eq_iff_iff]; simp
theorem inSize3 (x y z : Int) (rows : List (List Int)) : inSizeB [x, y, z] (rows.length : Int) = (isB rows x && isB rows y && isB rows z) := by
  unfold inSizeB isB
  rw [Bool.eq_iff_iff]; simp <;> omega
/-- All that are at most y are told by a test of each element. -/
theorem row_all {rows : List (List Int)} (hP : goodP rows = true) {y : Int} (hy : 0 ≤ y ∧ y < (rows.length : Int)) (p : Int → Bool) : (rows.getD y.toNat []).all p = allN rows.length fun z => !(leqB rows (z : Int) y && !p (z : Int)) := by
  rw [Bool.eq_iff_iff, List.all_eq_true, allN_iff]
  constructor
  · intro h z hz
    cases hl : leqB rows (z : Int) y with
    | false => rfl
    | true =>
      have hm : (z : Int) ∈ rows.getD y.toNat [] := List.contains_iff_mem.1 hl
      rw [h _ hm]; rfl
  · intro h a ha
    obtain ⟨i, hi, rfl⟩ := List.getElem_of_mem ha
    have hm := good_mem hP (x := y.toNat) (i := i) (by omega) hi
    have e : (rows.getD y.toNat []).getD i 0 = (rows.getD y.toNat [])[i] := by rw [List.getD_eq_getElem?_getD, List.getElem?_eq_getElem hi]; rfl
    rw [e] at hm
    have := h ((rows.getD y.toNat [])[i]).toNat (by omega)
    rw [show ((((rows.getD y.toNat [])[i]).toNat : Nat) : Int) = (rows.getD y.toNat [])[i] by omega] at this
    have hl : leqB rows ((rows.getD y.toNat [])[i]) y = true := List.contains_iff_mem.2 (List.getElem_mem hi)
    rw [hl] at this
    simpa using this
end Go.Proofs.Ytfpghibjbcdinaa
