/- Walks: the reference's poset of points; marks of a poset that is empty. -/
import Derived.Test.YtbfmjknngofleaaJAr
import Derived.Test.YtbfmjknngofleaaJAq
namespace Go.Proofs.Ytbfmjknngofleaa
open Go Go.Pv Go.Proofs
theorem le_posetN : (PV.agg [nilV]).le (posetP []) := fun g v hv => by
  obtain ⟨vs, rfl, hl, hp⟩ := VR.agg_inv hv
  refine .agg vs _ hl fun i q hq => ?_
  rcases i with _ | i
  · have h0 := hp 0 nilV rfl
    simp at hq; subst hq
    exact PV.le_nil 1 g _ h0
  · simp at hq
theorem krC_nil {S : St} {a : Tmp} (h : viewM S.hp (S.ev (.tmp a)) = .ptr [nilV]) : KRC S a 1 (posetP []) := by
  unfold KRC
  refine ⟨_, h, Nat.le_refl _, le_posetN⟩

end Go.Proofs.Ytbfmjknngofleaa
