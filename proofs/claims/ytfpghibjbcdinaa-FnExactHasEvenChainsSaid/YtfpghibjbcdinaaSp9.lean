/- The first three numbers for which something is so. No program here. -/
import Derived.Test.YtfpghibjbcdinaaSp8
namespace Go.Proofs.Ytfpghibjbcdinaa
open Go Go.Pv

def triples (n : Nat) : List (Nat × Nat × Nat) := (List.range n).flatMap fun x => (List.range n).flatMap fun y => (List.range n).map fun z => (x, y, z)
def first3 (n : Nat) (p : Nat → Nat → Nat → Bool) : Option (Nat × Nat × Nat) := (triples n).find? fun t => p t.1 t.2.1 t.2.2
def no1 (n : Nat) (p : Nat → Nat → Nat → Bool) (x : Nat) : Bool := allN n fun y => allN n fun z => !p x y z
theorem find_flatMap_range {β : Type} (n k : Nat) (f : Nat → List β) (q : β → Bool) (h : ∀ i, i < k → (f i).find? q = none) (hk : k < n) : ((List.range n).flatMap f).find? q = ((f k).find? q).or (((List.range n).flatMap f).find? q) := by
  cases hf : (f k).find? q with
  | none => rfl
  | some b =>
    have e : List.range n = List.range k ++ (k :: (List.range n).drop (k + 1)) := by
      have h1 : (List.range n).take k = List.range k := by rw [List.take_range, Nat.min_eq_left (by omega)]
      conv => lhs; rw [← List.take_append_drop k (List.range n), h1, List.drop_eq_getElem_cons (by simpa using hk)]
      simp
    rw [e, List.flatMap_append, List.find?_append]
    have h0 : ((List.range k).flatMap f).find? q = none := by
      rw [List.find?_eq_none]
      intro b hb
      obtain ⟨i, hi, hb⟩ := List.mem_flatMap.1 hb
      exact List.find?_eq_none.1 (h i (List.mem_range.1 hi)) b hb
    rw [h0, List.flatMap_cons, List.find?_append, hf]; rfl
theorem find_flatMap_some {β : Type} {n k : Nat} {f : Nat → List β} {q : β → Bool} {b : β} (h : ∀ i, i < k → (f i).find? q = none) (hk : k < n) (hf : (f k).find? q = some b) : ((List.range n).flatMap f).find? q = some b := by
  rw [find_flatMap_range n k f q h hk, hf]; rfl
theorem find_map_range {n : Nat} {p : Nat → Bool} {x y : Nat} : ((List.range n).map fun z => (x, y, z)).find? (fun t => p t.2.2) = none ↔ allN n (fun z => !p z) = true := by
  rw [List.find?_eq_none, allN_iff]
  constructor
  · intro h z hz
    have := h (x, y, z) (List.mem_map.2 ⟨z, List.mem_range.2 hz, rfl⟩)
    simpa using this
  · intro h t ht
    obtain ⟨z, hz, rfl⟩ := List.mem_map.1 ht
    have := h z (List.mem_range.1 hz)
    simpa using this
theorem row_none {n : Nat} {p : Nat → Nat → Nat → Bool} {x y : Nat} (h : allN n (fun z => !p x y z) = true) : ((List.range n).map fun z => (x, y, z)).find? (fun t => p t.1 t.2.1 t.2.2) = none := by
  rw [List.find?_eq_none]
  intro t ht
  obtain ⟨z, hz, rfl⟩ := List.mem_map.1 ht
  have := allN_iff.1 h z (List.mem_range.1 hz)
  simpa using this
theorem col_none {n : Nat} {p : Nat → Nat → Nat → Bool} {x : Nat} (h : no1 n p x = true) : ((List.range n).flatMap fun y => (List.range n).map fun z => (x, y, z)).find? (fun t => p t.1 t.2.1 t.2.2) = none := by
  rw [List.find?_eq_none]
  intro t ht
  obtain ⟨y, hy, ht⟩ := List.mem_flatMap.1 ht
  exact List.find?_eq_none.1 (row_none (allN_iff.1 h y (List.mem_range.1 hy))) t ht
theorem first3_none {n : Nat} {p : Nat → Nat → Nat → Bool} (h : allN n (no1 n p) = true) : first3 n p = none := by
  unfold first3 triples
  rw [List.find?_eq_none]
  intro t ht
  obtain ⟨x, hx, ht⟩ := List.mem_flatMap.1 ht
  exact List.find?_eq_none.1 (col_none (allN_iff.1 h x (List.mem_range.1 hx))) t ht
theorem first3_some {n : Nat} {p : Nat → Nat → Nat → Bool} {x y z : Nat} (hx : x < n) (hy : y < n) (hz : z < n) (h1 : allN x (no1 n p) = true) (h2 : allN y (fun y => allN n fun z => !p x y z) = true) (h3 : allN z (fun z => !p x y z) = true) (h : p x y z = true) : first3 n p = some (x, y, z) := by
  unfold first3 triples
  refine find_flatMap_some (k := x) (fun i hi => col_none (allN_iff.1 h1 i hi)) hx ?_
  refine find_flatMap_some (k := y) (fun i hi => row_none (allN_iff.1 h2 i hi)) hy ?_
  have e : List.range n = List.range z ++ (z :: (List.range n).drop (z + 1)) := by
    have h1 : (List.range n).take z = List.range z := by rw [List.take_range, Nat.min_eq_left (by omega)]
    conv => lhs; rw [← List.take_append_drop z (List.range n), h1, List.drop_eq_getElem_cons (by simpa using hz)]
    simp
  rw [e, List.map_append, List.find?_append, row_none h3, List.map_cons]
  exact List.find?_cons_of_pos (p := fun t : Nat × Nat × Nat => p t.1 t.2.1 t.2.2) h
theorem first3_congr {n : Nat} {p q : Nat → Nat → Nat → Bool} (h : ∀ x y z, x < n → y < n → z < n → p x y z = q x y z) : first3 n p = first3 n q := by
  unfold first3
  refine find_congr fun t ht => ?_
  obtain ⟨x, hx, ht⟩ := List.mem_flatMap.1 ht
  obtain ⟨y, hy, ht⟩ := List.mem_flatMap.1 ht
  obtain ⟨z, hz, rfl⟩ := List.mem_map.1 ht
  exact h x y z (List.mem_range.1 hx) (List.mem_range.1 hy) (List.mem_range.1 hz)
def list3 : Option (Nat × Nat × Nat) → List Int
  | some (x, y, z) => [(x : Int), (y : Int), (z : Int)]
  | none => []

def bentP (rows : List (List Int)) (x y z : Nat) : Bool := leqB rows (x : Int) (z : Int) && !decide (joinL rows (x : Int) (meetL rows (y : Int) (z : Int)) = meetL rows (joinL rows (x : Int) (y : Int)) (z : Int))
def unevenP (rows : List (List Int)) (x y z : Nat) : Bool := !decide (meetL rows (x : Int) (joinL rows (y : Int) (z : Int)) = joinL rows (meetL rows (x : Int) (y : Int)) (meetL rows (x : Int) (z : Int)))
def bent3 (rows : List (List Int)) : Option (Nat × Nat × Nat) := first3 rows.length (bentP rows)
def uneven3 (rows : List (List Int)) : Option (Nat × Nat × Nat) := first3 rows.length (unevenP rows)
end Go.Proofs.Ytfpghibjbcdinaa
