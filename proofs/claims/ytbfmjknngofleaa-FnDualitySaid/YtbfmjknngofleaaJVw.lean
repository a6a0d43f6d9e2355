/- The layer, more: slots of settled arrays read by value, arrays that are written no more. -/
import Derived.Test.YtbfmjknngofleaaJPq
namespace Go.Proofs.Ytbfmjknngofleaa
open Go Go.Pv Go.Proofs

section
attribute [local semireducible] Go.Pv.Goal
/-- Slots that hold an array that is settled are read by value. -/
theorem g_view {P : Program} {c : Code} {K : Exit → St → Prop} {S : St} (h : ∃ S', St.mk (S.fr.map (view S.hp)) S.hp = S' ∧ Goal P c K S') : Goal P c K S := by
  obtain ⟨S', rfl, h⟩ := h
  exact fun w0 g ρ a w Q hr hQ => h w0 g ρ a w Q ⟨hr.base, hr.dead, by simpa using hr.size, fun i p hp => by
    simp only [List.getElem?_map, Option.map_eq_some_iff] at hp
    obtain ⟨q, hq, rfl⟩ := hp
    exact .of_VR (hr.base.view (hr.fr i q hq))⟩ hQ
end
section
attribute [local semireducible] Go.Pv.Goal
/-- An array that is written no more. -/
theorem g_freeze {P : Program} {c : Code} {K : Exit → St → Prop} {S : St} (n : Nat) {s : Nat} {e : TypeId} {l : List PV} (hn : S.hp[n]? = some (.arr true s e l)) (h : Goal P c K ⟨S.fr, S.hp.set n (.arr false s e l)⟩) : Goal P c K S := by
  unfold Goal at h ⊢
  intro w0 g ρ a w Q hr hQ
  obtain ⟨g', -, hr'⟩ := rel_freeze hr hn
  exact h w0 g' ρ a w Q hr' hQ
end
end Go.Proofs.Ytbfmjknngofleaa
