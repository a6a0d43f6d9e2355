/- IsDistributiveChain: both sides. -/
import Derived.Test.YtogfibhhfimbjaaDGl
namespace Go.Proofs.Ytogfibhhfimbjaa
open Go Go.Pv Go.Proofs
theorem place_eq {T : List (List Int)} {s t : List Int} (hs : s ∈ T) (ht : t ∈ T) : placeT T s = placeT T t ↔ s = t := by
  refine ⟨fun h => ?_, fun h => by rw [h]⟩
  obtain ⟨i, -, hi2, hi3⟩ := placeT_mem hs
  obtain ⟨j, -, hj2, hj3⟩ := placeT_mem ht
  obtain rfl : i = j := by omega
  rw [← hi2, ← hj2]
end Go.Proofs.Ytogfibhhfimbjaa
