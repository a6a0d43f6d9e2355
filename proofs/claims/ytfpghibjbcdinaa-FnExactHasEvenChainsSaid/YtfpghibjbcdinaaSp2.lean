/- Plain functions on posets as lists of lists: what the reference computes. No program here. -/
import Derived.Test.YtfpghibjbcdinaaSpec
namespace Go.Proofs.Ytfpghibjbcdinaa

/-- A poset that is not too large to be measured. -/
def okP (rows : List (List Int)) : Prop := rows.length ≤ 1048576 ∧ ∀ r ∈ rows, r.length ≤ 1048576
theorem okP.row {rows : List (List Int)} (h : okP rows) (j : Nat) : (rows.getD j []).length ≤ 1048576 := by
  rw [List.getD_eq_getElem?_getD]
  cases hj : rows[j]? with
  | none => simp
  | some r => exact h.2 r (List.mem_of_getElem? hj)

def leqB (rows : List (List Int)) (x y : Int) : Bool := (rows.getD y.toNat []).contains x
def isB (rows : List (List Int)) (x : Int) : Bool := decide (0 ≤ x) && decide (x < (rows.length : Int))
theorem isB_iff {rows : List (List Int)} {x : Int} : isB rows x = true ↔ 0 ≤ x ∧ x < (rows.length : Int) := by unfold isB; simp

def upTo (n : Nat) (p : Nat → Bool) : List Int := ((List.range n).filter p).map Int.ofNat
theorem upTo_zero (p : Nat → Bool) : upTo 0 p = [] := rfl
theorem upTo_succ (n : Nat) (p : Nat → Bool) : upTo (n + 1) p = upTo n p ++ (if p n = true then [(n : Int)] else []) := by
  unfold upTo
  rw [List.range_succ, List.filter_append, List.map_append]
  congr 1
  by_cases h : p n = true <;> simp [h]
theorem upTo_length (n : Nat) (p : Nat → Bool) : (upTo n p).length ≤ n := by
  unfold upTo
  rw [List.length_map]
  exact Nat.le_trans (List.length_filter_le _ _) (by simp)
theorem upTo_mem {n : Nat} {p : Nat → Bool} {x : Int} : x ∈ upTo n p ↔ 0 ≤ x ∧ x < (n : Int) ∧ p x.toNat = true := by
  unfold upTo
  rw [List.mem_map]
  constructor
  · rintro ⟨a, ha, rfl⟩
    rw [List.mem_filter, List.mem_range] at ha
    refine ⟨by simp, by simpa using ha.1, by simpa using ha.2⟩
  · rintro ⟨h0, h1, h2⟩
    refine ⟨x.toNat, ?_, by simp; omega⟩
    rw [List.mem_filter, List.mem_range]
    exact ⟨by omega, h2⟩
theorem upTo_getD {n : Nat} {p : Nat → Bool} {i : Nat} (h : i < (upTo n p).length) : 0 ≤ (upTo n p).getD i 0 ∧ (upTo n p).getD i 0 < (n : Int) ∧ p ((upTo n p).getD i 0).toNat = true := by
  have : (upTo n p).getD i 0 ∈ upTo n p := by
    rw [List.getD_eq_getElem?_getD, List.getElem?_eq_getElem h]; exact List.getElem_mem h
  exact upTo_mem.1 this

/-- The elements that are at most all of a list. -/
def lowsB (rows : List (List Int)) (some : List Int) (n : Nat) : List Int := upTo n fun z => some.all fun s => leqB rows (z : Int) s
theorem lowsB_getD {rows : List (List Int)} {some : List Int} {n i : Nat} (h : i < (lowsB rows some n).length) : 0 ≤ (lowsB rows some n).getD i 0 ∧ (lowsB rows some n).getD i 0 < (n : Int) ∧ (some.all fun s => leqB rows (((lowsB rows some n).getD i 0).toNat : Int) s) = true := upTo_getD h
def boundL (rows : List (List Int)) (some : List Int) : Int := ((lowsB rows some rows.length).find? fun l => withinB (lowsB rows some rows.length) (rows.getD l.toNat [])).getD (-1)
def dualL (rows : List (List Int)) : List (List Int) := (List.range rows.length).map fun (x : Nat) => upTo rows.length fun y => leqB rows (x : Int) (y : Int)
def good1 (rows : List (List Int)) (x : Nat) : Bool := risB (rows.getD x []) 0 ((rows.length : Int) - 1) && (rows.getD x []).contains (x : Int)
def good2 (rows : List (List Int)) (x : Nat) : Bool := (rows.getD x []).all fun y => !(!decide (y = (x : Int)) && (rows.getD y.toNat []).contains (x : Int)) && withinB (rows.getD y.toNat []) (rows.getD x [])
def goodP (rows : List (List Int)) : Bool := decide (rows.length ≤ 10) && (allN rows.length (good1 rows) && allN rows.length (good2 rows))

theorem find_none_take {α : Type} {l : List α} {p : α → Bool} {i : Nat} (h : (l.take i).find? p = none) (d : α) (hi : i < l.length) (hp : p (l.getD i d) = true) : l.find? p = some (l.getD i d) := by
  have e : l = l.take i ++ l.drop i := (List.take_append_drop i l).symm
  rw [e, List.find?_append, h, drop_cons' d hi, List.find?_cons_of_pos hp]
  rw [← drop_cons' d hi, ← e]; rfl
theorem find_take_succ {α : Type} {l : List α} {p : α → Bool} {i : Nat} (h : (l.take i).find? p = none) (d : α) (hi : i < l.length) (hp : p (l.getD i d) = false) : (l.take (i + 1)).find? p = none := by
  rw [take_snoc d hi, List.find?_append, h, List.find?_cons_of_neg (by rw [hp]; decide)]; rfl
end Go.Proofs.Ytfpghibjbcdinaa
