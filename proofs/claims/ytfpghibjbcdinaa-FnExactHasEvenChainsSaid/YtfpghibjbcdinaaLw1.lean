/- The program's tables against the reference's lists. No program here. -/
import Derived.Test.YtfpghibjbcdinaaSp4
import Derived.Test.YtfpghibjbcdinaaSp6
namespace Go.Proofs.Ytfpghibjbcdinaa

def tabOf (rows : List (List Int)) : List (List Bool) := (List.range rows.length).map fun (x : Nat) => (List.range rows.length).map fun (y : Nat) => leqB rows (x : Int) (y : Int)
def dualT (t : List (List Bool)) : List (List Bool) := (List.range t.length).map fun (x : Nat) => (List.range t.length).map fun (y : Nat) => tabB t y x
theorem length_tabOf (rows : List (List Int)) : (tabOf rows).length = rows.length := by simp [tabOf]
theorem getD_map_range {α : Type} (n : Nat) (f : Nat → α) (d : α) {x : Nat} (h : x < n) : ((List.range n).map f).getD x d = f x := by
  rw [List.getD_eq_getElem?_getD, List.getElem?_map, List.getElem?_range h]; rfl
theorem tabB_of (rows : List (List Int)) {x y : Nat} (hx : x < rows.length) (hy : y < rows.length) : tabB (tabOf rows) x y = leqB rows (x : Int) (y : Int) := by
  unfold tabB tabOf
  rw [getD_map_range _ _ _ hx, getD_map_range _ _ _ hy]
theorem okT_of {rows : List (List Int)} (h : rows.length ≤ 10) : okT (tabOf rows) := by
  refine ⟨by rw [length_tabOf]; exact h, fun x hx => ?_⟩
  rw [length_tabOf] at hx
  unfold tabOf
  rw [getD_map_range _ _ _ hx]
  simp
theorem dual_tab (rows : List (List Int)) : dualT (tabOf rows) = tabOf (dualL rows) := by
  unfold dualT
  rw [length_tabOf]
  conv => rhs; unfold tabOf
  rw [length_dual]
  refine List.map_congr_left fun x hx => List.map_congr_left fun y hy => ?_
  have hx := List.mem_range.1 hx
  have hy := List.mem_range.1 hy
  rw [tabB_of rows hy hx, leq_dual ⟨by omega, by omega⟩ ⟨by omega, by omega⟩]
theorem upTo_congr {n : Nat} {p q : Nat → Bool} (h : ∀ z, z < n → p z = q z) : upTo n p = upTo n q := by
  unfold upTo
  congr 1
  exact List.filter_congr fun z hz => h z (List.mem_range.1 hz)
theorem find_congr {α : Type} {p q : α → Bool} : ∀ {l : List α}, (∀ x ∈ l, p x = q x) → l.find? p = l.find? q
  | [], _ => rfl
  | a :: l, h => by
    rw [List.find?_cons, List.find?_cons, h a (by simp), find_congr fun x hx => h x (by simp [hx])]
theorem all_congr' {α : Type} {p q : α → Bool} : ∀ {l : List α}, (∀ x ∈ l, p x = q x) → l.all p = l.all q
  | [], _ => rfl
  | a :: l, h => by
    rw [List.all_cons, List.all_cons, h a (by simp), all_congr' fun x hx => h x (by simp [hx])]
theorem mT_of (rows : List (List Int)) {x y : Nat} (hx : x < rows.length) (hy : y < rows.length) : mT (tabOf rows) x y = boundL rows [(x : Int), (y : Int)] := by
  unfold mT boundL
  rw [length_tabOf]
  have e : (upTo rows.length fun z => tabB (tabOf rows) z x && tabB (tabOf rows) z y) = lowsB rows [(x : Int), (y : Int)] rows.length := by
    refine upTo_congr fun z hz => ?_
    rw [tabB_of rows hz hx, tabB_of rows hz hy]
    simp
  rw [e]
  unfold greatL
  congr 1
  refine find_congr fun l hl => ?_
  obtain ⟨l0, l1, -⟩ := upTo_mem.1 hl
  unfold withinB
  refine all_congr' fun a ha => ?_
  obtain ⟨a0, a1, -⟩ := upTo_mem.1 ha
  rw [tabB_of rows (by omega) (by omega), show (a.toNat : Int) = a by omega, show (l.toNat : Int) = l by omega]
  rfl
end Go.Proofs.Ytfpghibjbcdinaa
