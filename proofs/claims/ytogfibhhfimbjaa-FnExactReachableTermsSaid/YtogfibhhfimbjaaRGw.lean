/- Walks: the reference's shortest chains. -/
import Derived.Test.YtogfibhhfimbjaaRGu
import Derived.Test.YtogfibhhfimbjaaRGt
import Derived.Test.YtogfibhhfimbjaaRGl
import Derived.Test.YtogfibhhfimbjaaRNc
import Derived.Test.YtogfibhhfimbjaaRNd
namespace Go.Proofs.Ytogfibhhfimbjaa
open Go Go.Pv Go.Proofs
theorem mayL_ok (n w1 w2 : Nat) (al : List Bool) (T : List (List Int)) (N : Nat) : (mayL n w1 w2 al T N).length = N ∧ ∀ r ∈ mayL n w1 w2 al T N, r.length = N := by
  refine ⟨by simp [mayL], fun r hr => ?_⟩
  obtain ⟨f, -, rfl⟩ := List.mem_map.1 hr
  simp
theorem mayL_get {n w1 w2 : Nat} {al : List Bool} {T : List (List Int)} {N f g : Nat} (hf : f < N) (hg : g < N) : ((mayL n w1 w2 al T N).getD f []).getD g false = mayB n w1 w2 al T f g := by
  unfold mayL
  simp [List.getD_eq_getElem?_getD, List.getElem?_map, List.getElem?_range hf, List.getElem?_range hg]
theorem allL_get {n : Nat} {b : Bool} {T : List (List Int)} {f : Nat} (hf : f < T.length) : (T.map (allB n b)).getD f false = (!b || fixB n (T.getD f [])) := by
  simp [List.getD_eq_getElem?_getD, List.getElem?_map, List.getElem?_eq_getElem hf, allB]
end Go.Proofs.Ytogfibhhfimbjaa
