/- Quotients and the congruences above: for all bytes the law FnCorrespondence answers true, and leaves its argument as it was. No condition. -/
import Derived.Test.YtembaiccchgllaaGreatJVg
import Derived.Test.YtembaiccchgllaaGreatJYy
import Derived.Test.YtembaiccchgllaaGreatJKo
namespace Go.Proofs.YtembaiccchgllaaGreat
open Go Go.Pv Go.Proofs Go.ChangeShapes Go.WideShapes Go.ChangeAt Go.RowKit
set_option maxHeartbeats 32000000
set_option maxRecDepth 100000

theorem ownKn : ownKnob Tryz.prog.godebug = none := by kernel_rfl
theorem laidOut : laidOutB Tryz.prog = true := by kernel_rfl

theorem cor_lifted (os : Os) (started : os.Started) (H : Type) (enc : TypeId × Value → H) :
    ReturnsInHanded {} Tryz.checked os 4 .any (Rows.fnCorrespondenceSpec.pre6 enc Tryz.prog Tryz.f4 Rows.fnCorrespondenceRow.domain false) (Rows.fnCorrespondenceSpec.post enc Tryz.prog Tryz.f4 false true false false) := by
  refine returnsInHanded_of_change (C := Tryz.checked) ownKn started (by kernel_rfl) Tryz.func4
    (ChangeSpec.witness6 (enc := enc) (C := Tryz.checked) false ⟨#[], #[.slice none 0 0], []⟩ 8 (by kernel_rfl) (by kernel_rfl) (by kernel_rfl) (by kernel_rfl)) ?_
  intro W base args ds gs before hval0 hW hcnd _
  have hval : ∀ (j : Nat) t v, Tryz.f4.params[j]? = some t → args[j]? = some v → Value.okWide Tryz.prog W .any base t v := hval0
  have hW' := hW
  obtain ⟨p, q, hA0, hV, rfl, hfz, hnd⟩ := hW
  have hA : DataW.TrodAll enc Tryz.prog W 0 (fun _ => true) true Tryz.f4.params.toList args.toList ds p := hA0
  rw [Tryz.params4] at hA hval
  obtain ⟨v0, d0, rfl, rfl, h0⟩ := trodAll_one hA
  obtain ⟨rfl, rfl⟩ := trodVars_none hV
  obtain ⟨l, r0, l0, w0⟩ := ar_bytes Tryz.underlying22 Tryz.underlying5 (by kernel_rfl) ⟨_, _, hval 0 22 v0 rfl rfl⟩ h0
  have hvr : VRl (gW W) [v0] [bytesP l] := ⟨rfl, fun i q hq => by
    rcases i with _ | i
    · simp at hq; subst hq; exact r0
    · simp at hq⟩
  refine ((law_cor l l0 w0).use (vs := [v0]) (gW_agree W) hvr).mono fun e W' ⟨he, hb⟩ => ?_
  subst he
  exact ⟨_, rfl, law_post laidOut rfl (by kernel_rfl) (tb := 4) rfl (by kernel_rfl) rfl hW' hb⟩

theorem cor_jfA : Tryz.prog.unfollowed 4 = Rows.fnCorrespondenceRow.unfollowed := by kernel_rfl
theorem cor_jfB : Tryz.prog.recurses 4 = Rows.fnCorrespondenceRow.recurses := by kernel_rfl
theorem cor_jfC : Tryz.prog.varsNamed 4 = Rows.fnCorrespondenceRow.named := by kernel_rfl
theorem cor_jfD : Tryz.prog.inPlace 4 = Rows.fnCorrespondenceRow.inPlace := by kernel_rfl
theorem cor_jfF : mapsRowed Tryz.prog = true := by kernel_rfl
theorem cor_jf : joinedFacts Tryz.prog 4 Tryz.f4 Rows.fnCorrespondenceSpec Rows.fnCorrespondenceRow = true := by
  unfold joinedFacts
  rw [cor_jfA, cor_jfB, cor_jfC, cor_jfD, cor_jfF, laidOut]
  kernel_rfl

theorem cor_holds : Rows.FnCorrespondenceSaid :=
  OpenClaim.holds_of_wide 4 Tryz.f4 rfl rfl rfl rfl rfl rfl rfl ⟨rfl, rfl, rfl, rfl, rfl⟩ rfl rfl rfl rfl rfl (by kernel_rfl) Tryz.func4 cor_jf
    (of_decide_eq_true (by kernel_rfl)) (by unfold Func.isWrapper; first | (rw [if_pos (by decide +kernel)]; kernel_rfl) | (rw [if_neg (by decide +kernel)]; exact ⟨rfl, rfl⟩))
    (fun os started H enc _ => cor_lifted os started H enc)
end Go.Proofs.YtembaiccchgllaaGreat
