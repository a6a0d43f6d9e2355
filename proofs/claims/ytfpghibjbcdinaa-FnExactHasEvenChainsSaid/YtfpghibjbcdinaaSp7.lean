/- Tables as functions of two numbers. No program here. -/
import Derived.Test.YtfpghibjbcdinaaLw3
namespace Go.Proofs.Ytfpghibjbcdinaa

def tabF (n : Nat) (f : Nat → Nat → Bool) : List (List Bool) := (List.range n).map fun a => (List.range n).map fun b => f a b
theorem length_tabF (n : Nat) (f : Nat → Nat → Bool) : (tabF n f).length = n := by simp [tabF]
theorem getD_tabF {n : Nat} {f : Nat → Nat → Bool} {a : Nat} (h : a < n) : (tabF n f).getD a [] = (List.range n).map fun b => f a b := getD_map_range _ _ _ h
theorem tabB_F {n : Nat} {f : Nat → Nat → Bool} {a b : Nat} (ha : a < n) (hb : b < n) : tabB (tabF n f) a b = f a b := by
  unfold tabB; rw [getD_tabF ha, getD_map_range _ _ _ hb]
theorem tabF_congr {n : Nat} {f g : Nat → Nat → Bool} (h : ∀ a b, a < n → b < n → f a b = g a b) : tabF n f = tabF n g :=
  List.map_congr_left fun a ha => List.map_congr_left fun b hb => h a b (List.mem_range.1 ha) (List.mem_range.1 hb)
theorem okT_F {n : Nat} (f : Nat → Nat → Bool) (h : n ≤ 10) : okT (tabF n f) := by
  refine ⟨by rw [length_tabF]; exact h, fun x hx => ?_⟩
  rw [length_tabF] at hx
  rw [getD_tabF hx, length_tabF]; simp
theorem set_range {α : Type} (n : Nat) (f : Nat → α) (b : Nat) (v : α) : ((List.range n).map f).set b v = (List.range n).map fun i => if i = b then v else f i := by
  apply List.ext_getElem?
  intro i
  rw [List.getElem?_set, List.getElem?_map, List.getElem?_map]
  rcases Nat.lt_or_ge i n with hi | hi
  · rw [List.getElem?_range hi]
    by_cases e : b = i
    · subst e
      rw [if_pos rfl, if_pos (by simpa using hi)]; simp
    · rw [if_neg e]
      simp [Ne.symm e]
  · rw [List.getElem?_eq_none (by simpa using hi)]
    by_cases e : b = i
    · subst e
      rw [if_pos rfl, if_neg (by simpa using hi)]; rfl
    · rw [if_neg e]; rfl
theorem tabF_set {n a b : Nat} {f f' : Nat → Nat → Bool} {v : Bool} (ha : a < n) (_hb : b < n) (h : ∀ a' b', a' < n → b' < n → f' a' b' = if a' = a ∧ b' = b then v else f a' b') : (tabF n f).set a (((tabF n f).getD a []).set b v) = tabF n f' := by
  rw [getD_tabF ha, set_range]
  unfold tabF
  rw [set_range]
  refine List.map_congr_left fun a' ha' => ?_
  have ha' := List.mem_range.1 ha'
  by_cases e : a' = a
  · subst e
    rw [if_pos rfl]
    refine List.map_congr_left fun b' hb' => ?_
    rw [h a' b' ha' (List.mem_range.1 hb')]
    by_cases e' : b' = b
    · rw [if_pos e', if_pos ⟨rfl, e'⟩]
    · rw [if_neg e', if_neg (fun h => e' h.2)]
  · rw [if_neg e]
    refine List.map_congr_left fun b' hb' => ?_
    rw [h a' b' ha' (List.mem_range.1 hb'), if_neg (fun h => e h.1)]
theorem falses_F (n : Nat) : List.replicate n (List.replicate n false) = tabF n fun _ _ => false := by
  unfold tabF
  simp [List.map_const']
theorem tabOf_F (rows : List (List Int)) : tabOf rows = tabF rows.length fun x y => leqB rows (x : Int) (y : Int) := rfl
theorem dualT_F (n : Nat) (f : Nat → Nat → Bool) : dualT (tabF n f) = tabF n fun x y => f y x := by
  unfold dualT
  rw [length_tabF]
  exact tabF_congr fun a b ha hb => tabB_F hb ha
end Go.Proofs.Ytfpghibjbcdinaa
