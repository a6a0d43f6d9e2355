/- Plain functions on lists: what the small functions of the program compute. No program here. -/
import Derived.WalkKit
namespace Go.Proofs.Ytfpghibjbcdinaa

theorem take_snoc {α : Type} {l : List α} {k : Nat} (d : α) (h : k < l.length) : l.take (k + 1) = l.take k ++ [l.getD k d] := by
  rw [List.take_succ_eq_append_getElem h]; simp [h]
theorem contains_snoc (l : List Int) (x n : Int) : (l ++ [x]).contains n = (l.contains n || decide (x = n)) := by
  rw [Bool.eq_iff_iff, Bool.or_eq_true, decide_eq_true_eq, List.contains_iff_mem, List.contains_iff_mem, List.mem_append, List.mem_singleton]
  exact or_congr Iff.rfl eq_comm
theorem all_snoc {α : Type} (l : List α) (x : α) (p : α → Bool) : (l ++ [x]).all p = (l.all p && p x) := by simp
theorem any_snoc {α : Type} (l : List α) (x : α) (p : α → Bool) : (l ++ [x]).any p = (l.any p || p x) := by simp
theorem take_full {α : Type} {l : List α} {k : Nat} (h1 : k ≤ l.length) (h2 : ¬ (k : Int) < (l.length : Int)) : l.take k = l ∧ k = l.length := by
  have : k = l.length := by omega
  subst this; exact ⟨List.take_length, rfl⟩
/-- Where one place says no, not all say yes. -/
theorem all_false_at {α : Type} {l : List α} {k : Nat} {p : α → Bool} (d : α) (h : k < l.length) (hp : p (l.getD k d) = false) : l.all p = false := by
  rw [List.all_eq_false]
  refine ⟨l.getD k d, ?_, by simpa using hp⟩
  simp [h]
theorem any_true_at {α : Type} {l : List α} {k : Nat} {p : α → Bool} (d : α) (h : k < l.length) (hp : p (l.getD k d) = true) : l.any p = true := by
  rw [List.any_eq_true]
  refine ⟨l.getD k d, ?_, by simpa using hp⟩
  simp [h]
theorem contains_at {l : List Int} {k : Nat} {n : Int} (h : k < l.length) (hp : l.getD k 0 = n) : l.contains n = true := by
  rw [List.contains_iff_mem, ← hp]
  simp [h]

/-- For all numbers below n. -/
def allN (n : Nat) (p : Nat → Bool) : Bool := (List.range n).all p
theorem allN_zero (p : Nat → Bool) : allN 0 p = true := rfl
theorem allN_succ (n : Nat) (p : Nat → Bool) : allN (n + 1) p = (allN n p && p n) := by simp [allN, List.range_succ]
theorem allN_false {n k : Nat} {p : Nat → Bool} (hk : k < n) (h : p k = false) : allN n p = false := by
  unfold allN; rw [List.all_eq_false]; exact ⟨k, List.mem_range.2 hk, by simp [h]⟩
theorem allN_iff {n : Nat} {p : Nat → Bool} : allN n p = true ↔ ∀ k, k < n → p k = true := by simp [allN]
theorem allN_full {n k : Nat} {p : Nat → Bool} (h : allN k p = true) (h1 : k ≤ n) (h2 : ¬ (k : Int) < (n : Int)) : allN n p = true := by
  have : k = n := by omega
  subst this; exact h

def inB (x a b : Int) : Bool := decide (a ≤ x) && decide (x ≤ b)
def risB (l : List Int) (lo hi : Int) : Bool := allN l.length fun i => inB (l.getD i 0) lo hi && (i == 0 || decide (l.getD (i - 1) 0 < l.getD i 0))
def withinB (x y : List Int) : Bool := x.all fun a => y.contains a

theorem set_fill {α : Type} {l : List α} {n k : Nat} (d : α) (hn : n = l.length) (hk : k < n) : (l.take k ++ List.replicate (n - k) d).set k (l.getD k d) = l.take (k + 1) ++ List.replicate (n - (k + 1)) d := by
  have h1 : k < l.length := by omega
  rw [take_snoc d h1, List.set_append_right _ _ (by simp; omega)]
  have h2 : k - (l.take k).length = 0 := by simp; omega
  have h3 : n - k = (n - (k + 1)) + 1 := by omega
  rw [h2, h3, List.replicate_succ, List.set_cons_zero]
  simp

theorem set_fill' {α : Type} {l : List α} {n k : Nat} {v : α} (d : α) (hn : n = l.length) (hv : l[k]? = some v) : (l.take k ++ List.replicate (n - k) d).set k v = l.take (k + 1) ++ List.replicate (n - (k + 1)) d := by
  have hk : k < l.length := (List.getElem?_eq_some_iff.1 hv).1
  have := set_fill d hn (by omega : k < n)
  rwa [show l.getD k d = v by simp [hv]] at this
theorem drop_cons' {α : Type} {l : List α} {k : Nat} (d : α) (h : k < l.length) : l.drop k = l.getD k d :: l.drop (k + 1) := by
  rw [List.drop_eq_getElem_cons h]; simp [h]
theorem fill_full {α : Type} {l : List α} {n k : Nat} (d : α) (hn : n = l.length) (h1 : k ≤ n) (h2 : ¬ (k : Int) < (n : Int)) : l.take k ++ List.replicate (n - k) d = l := by
  have : k = l.length := by omega
  subst this
  simp [hn]
theorem eq_at {α : Type} {l m : List α} {k : Nat} (d : α) (h : l.getD k d ≠ m.getD k d) : ¬ l = m := fun e => h (by rw [e])

/-- What is left of a budget behind a list: it, or -1. -/
def szL (n : Nat) (left : Int) : Int := if left - n < 0 then -1 else left - n
def szLL : List (List Int) → Int → Int
  | [], left => left
  | l :: r, left => if szL l.length left < 0 then -1 else szLL r (szL l.length left)
def szSS (rows : List (List Int)) (left : Int) : Int := if left - rows.length < 0 then -1 else szLL rows (left - rows.length)
end Go.Proofs.Ytfpghibjbcdinaa
