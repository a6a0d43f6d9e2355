/- The lattice of downsets, and how many there are. No program here. -/
import Derived.Test.YtbfmjknngofleaaJSg
namespace Go.Proofs.Ytbfmjknngofleaa

theorem rfl_of {rows : List (List Int)} (h : goodP rows = true) : Rfl rows := by
  refine ⟨?_, fun x hx => good_refl h hx, fun x hx y hy => ?_⟩
  · unfold goodP at h
    rw [Bool.and_eq_true, decide_eq_true_eq] at h
    exact h.1
  · obtain ⟨i, hi, rfl⟩ := List.getElem_of_mem hy
    have := good_mem h hx hi
    rwa [List.getD_eq_getElem?_getD (l := rows.getD x []), List.getElem?_eq_getElem hi] at this
def dlP (V : List (List Int)) (i k : Nat) : Bool := withinB (V.getD k []) (V.getD i [])
/-- The lattice of lists by their elements. -/
def dlL (V : List (List Int)) (n : Nat) : List (List Int) := (List.range n).map fun i => upTo V.length (dlP V i)
theorem dlL_len (V : List (List Int)) (n : Nat) : (dlL V n).length = n := by simp [dlL]
theorem dlL_succ (V : List (List Int)) (n : Nat) : dlL V (n + 1) = dlL V n ++ [upTo V.length (dlP V n)] := by unfold dlL; rw [List.range_succ, List.map_append]; rfl
def dlB (rows : List (List Int)) : Bool := goodP rows && decide ((dsO rows).length ≤ 10)
def dlV (rows : List (List Int)) : List (List Int) := dlL (dsO rows) (dsO rows).length
theorem dlL_row {V : List (List Int)} {n : Nat} {r : List Int} (h : r ∈ dlL V n) : r.length ≤ V.length := by
  unfold dlL at h
  obtain ⟨i, -, rfl⟩ := List.mem_map.1 h
  exact upTo_length _ _
theorem dlB_10 {rows : List (List Int)} (h : dlB rows = true) : (dsO rows).length ≤ 10 := by
  unfold dlB at h
  rw [Bool.and_eq_true, decide_eq_true_eq] at h
  exact h.2
theorem okP_dlV {rows : List (List Int)} (h : dlB rows = true) : okP (dlV rows) := by
  have := dlB_10 h
  unfold dlV
  exact ⟨by rw [dlL_len]; omega, fun r hr => by have := dlL_row hr; omega⟩
theorem ds_1024 {rows : List (List Int)} (R : Rfl rows) : (dsO rows).length ≤ 1024 := by
  rw [dsO_len]
  exact Nat.le_trans (dsS_len _ _) (Nat.pow_le_pow_right (by decide) R.n)
end Go.Proofs.Ytbfmjknngofleaa
