/- Walks: the lengths of the shortest chains, in the program. -/
import Derived.Test.YtogfibhhfimbjaaDGq
import Derived.Test.YtogfibhhfimbjaaDGm
import Derived.Test.YtogfibhhfimbjaaDNd
namespace Go.Proofs.Ytogfibhhfimbjaa
open Go Go.Pv Go.Proofs

abbrev bgN (n : Nat) (T : List (List Int)) (f : Nat) : Bool := decide ((f : Int) = placeT T (prjL n 3 0))
abbrev enN (n : Nat) (T : List (List Int)) (f : Nat) : Bool := decide ((f : Int) = placeT T (prjL n 3 2))
/-- The three shortest chains, as the program finds them. -/
def dS (n : Nat) (T : List (List Int)) : Option (List Nat) := shV T.length (bgN n T) (enN n T) (fun i f g => folD n T i f g) 2 13
theorem shV_len {N least most : Nat} {bg en : Nat → Bool} {fo : Nat → Nat → Nat → Bool} {c : List Nat} (h : shV N bg en fo least most = some c) : least ≤ c.length ∧ c.length ≤ most + least ∧ ∀ f ∈ c, f < N := by
  unfold shV at h
  obtain ⟨t, ht, h2⟩ := List.exists_of_findSome?_eq_some h
  obtain ⟨h3, h4⟩ := chq_len N bg en fo h2
  rw [List.mem_range] at ht
  exact ⟨by omega, by omega, h4⟩
section
variable (n : Nat) (T : List (List Int)) (hn0 : 0 < n) (hn : n ≤ 8) (hT : T.length ≤ 1000)
include hn hT
theorem dS_c : PCalls Try.prog 44 [chP n T, linkP n T 2 61 62 63, I 13] (shP (dS n T)) :=
  short_c n T 2 13 _ _ _ (capP n T) _ _ _ (by decide) (by decide) (by decide) hT (fun f _ => dist1_c n T f) (fun f _ => dist2_c n T f) (fun i f g hi hf hg => dist3_c n T i f g hn hi hf hg)
include hn0
end
end Go.Proofs.Ytogfibhhfimbjaa
