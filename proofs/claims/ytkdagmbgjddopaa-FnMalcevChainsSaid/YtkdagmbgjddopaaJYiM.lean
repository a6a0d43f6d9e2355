/- Mal'cev chains: for all bytes the law FnMalcevChains answers true, and leaves its argument as it was. No condition. -/
import Derived.Test.YtkdagmbgjddopaaJYi
import Derived.Test.YtkdagmbgjddopaaJNq
import Derived.Test.YtkdagmbgjddopaaJZb
namespace Go.Proofs.Ytkdagmbgjddopaa
open Go Go.Pv Go.Proofs Go.ChangeShapes Go.WideShapes Go.ChangeAt Go.RowKit
set_option maxHeartbeats 32000000
set_option maxRecDepth 100000

theorem ownKn : ownKnob Try.prog.godebug = none := by kernel_rfl
theorem laidOut : laidOutB Try.prog = true := by kernel_rfl

theorem mc_lifted (os : Os) (started : os.Started) (H : Type) (enc : TypeId × Value → H) :
    ReturnsInHanded {} Try.checked os 3 .any (Rows.fnMalcevChainsSpec.pre6 enc Try.prog Try.f3 Rows.fnMalcevChainsRow.domain false) (Rows.fnMalcevChainsSpec.post enc Try.prog Try.f3 false true false false) := by
  refine returnsInHanded_of_change (C := Try.checked) ownKn started (by kernel_rfl) Try.func3
    (ChangeSpec.witness6 (enc := enc) (C := Try.checked) false ⟨#[], #[.slice none 0 0], []⟩ 8 (by kernel_rfl) (by kernel_rfl) (by kernel_rfl) (by kernel_rfl)) ?_
  intro W base args ds gs before hval0 hW hcnd _
  have hval : ∀ (j : Nat) t v, Try.f3.params[j]? = some t → args[j]? = some v → Value.okWide Try.prog W .any base t v := hval0
  have hW' := hW
  obtain ⟨p, q, hA0, hV, rfl, hfz, hnd⟩ := hW
  have hA : DataW.TrodAll enc Try.prog W 0 (fun _ => true) true Try.f3.params.toList args.toList ds p := hA0
  rw [Try.params3] at hA hval
  obtain ⟨v0, d0, rfl, rfl, h0⟩ := trodAll_one hA
  obtain ⟨rfl, rfl⟩ := trodVars_none hV
  obtain ⟨l, r0, l0, w0⟩ := ar_bytes Try.underlying22 Try.underlying5 (by kernel_rfl) ⟨_, _, hval 0 22 v0 rfl rfl⟩ h0
  have hvr : VRl (gW W) [v0] [bytesP l] := ⟨rfl, fun i q hq => by
    rcases i with _ | i
    · simp at hq; subst hq; exact r0
    · simp at hq⟩
  refine ((law_mc l l0 w0).use (vs := [v0]) (gW_agree W) hvr).mono fun e W' ⟨he, hb⟩ => ?_
  subst he
  exact ⟨_, rfl, law_post laidOut rfl (by kernel_rfl) (tb := 4) rfl (by kernel_rfl) rfl hW' hb⟩

theorem mc_holds : Rows.FnMalcevChainsSaid :=
  OpenClaim.holds_of_wide 3 Try.f3 rfl rfl rfl rfl rfl rfl rfl ⟨rfl, rfl, rfl, rfl, rfl⟩ rfl rfl rfl rfl rfl (by kernel_rfl) Try.func3 (by kernel_rfl)
    (of_decide_eq_true (by kernel_rfl)) (by unfold Func.isWrapper; first | (rw [if_pos (by decide +kernel)]; kernel_rfl) | (rw [if_neg (by decide +kernel)]; exact ⟨rfl, rfl⟩))
    (fun os started H enc _ => mc_lifted os started H enc)
end Go.Proofs.Ytkdagmbgjddopaa
