/- The law of ReachableTerms, walked. -/
import Derived.Test.YtogfibhhfimbjaaDSq
import Derived.Test.YtogfibhhfimbjaaDGm
import Derived.Test.YtogfibhhfimbjaaDNh
import Derived.Test.YtogfibhhfimbjaaDGw
import Derived.Test.YtogfibhhfimbjaaDHd
namespace Go.Proofs.Ytogfibhhfimbjaa
open Go Go.Pv Go.Proofs

theorem tot_rowsO : ∀ L : List OpD, tot (rowsO L) = tot (tbsL L) + L.length
  | [] => rfl
  | f :: L => by
    have := tot_rowsO L
    simp only [tot, rowsO, tbsL, List.map_cons, List.sum_cons, List.length_cons] at this ⊢
    omega
theorem le_tot : ∀ {rows : List (List Int)} {r : List Int}, r ∈ rows → r.length ≤ tot rows
  | a :: l, r, h => by
    have e : tot (a :: l) = a.length + tot l := by simp [tot]
    rw [e]
    rcases List.mem_cons.1 h with rfl | h
    · omega
    · have := le_tot h; omega
theorem rowsO_ne (L : List OpD) : ∀ r ∈ rowsO L, r ≠ [] := fun r hr => by
  obtain ⟨f, -, rfl⟩ := List.mem_map.1 hr
  exact List.cons_ne_nil _ _
theorem sz_rowsO {L : List OpD} (hs : ¬ szSS (tbsL L) 1048576 < 0) : okP (rowsO L) ∧ tot (rowsO L) ≤ 1048576 := by
  have h1 : tot (tbsL L) + L.length ≤ 1048576 := by
    unfold szSS at hs
    split at hs
    · omega
    · have := szLL_tot (tbsL L) _ (by omega) hs
      simp only [List.length_map] at *
      omega
  rw [← tot_rowsO] at h1
  refine ⟨⟨?_, fun r hr => ?_⟩, h1⟩
  · rw [tot_rowsO] at h1; simp only [List.length_map]; omega
  · have := le_tot hr
    omega
end Go.Proofs.Ytogfibhhfimbjaa
