/- Factor pairs and the division of algebras: for all bytes the law FnFactorPairs answers true, and leaves its argument as it was. No condition. -/
import Derived.Test.YtepjlgilopfnpaaGreatJUm
import Derived.Test.YtepjlgilopfnpaaGreatJKo
namespace Go.Proofs.YtepjlgilopfnpaaGreat
open Go Go.Pv Go.Proofs Go.ChangeShapes Go.WideShapes Go.ChangeAt Go.RowKit
set_option maxHeartbeats 32000000
set_option maxRecDepth 100000

theorem ownKn : ownKnob Tryz.prog.godebug = none := by kernel_rfl
theorem laidOut : laidOutB Tryz.prog = true := by kernel_rfl

theorem fp_lifted (os : Os) (started : os.Started) (H : Type) (enc : TypeId × Value → H) :
 ReturnsInHanded {} Tryz.checked os 4 .any (Rows.fnFactorPairsSpec.pre6 enc Tryz.prog Tryz.f4 Rows.fnFactorPairsRow.domain false) (Rows.fnFactorPairsSpec.post enc Tryz.prog Tryz.f4 false true false false) := by
 refine returnsInHanded_of_change (C := Tryz.checked) ownKn started (by kernel_rfl) Tryz.func4
  (ChangeSpec.witness6 (enc := enc) (C := Tryz.checked) false ⟨#[], #[.slice none 0 0], []⟩ 8 (by kernel_rfl) (by kernel_rfl) (by kernel_rfl) (by kernel_rfl)) ?_
 intro W base args ds gs before hval0 hW hcnd _
 have hval : ∀ (j : Nat) t v, Tryz.f4.params[j]? = some t → args[j]? = some v → Value.okWide Tryz.prog W .any base t v := hval0
 have hW' := hW
 obtain ⟨p, q, hA0, hV, rfl, hfz, hnd⟩ := hW
 have hA : DataW.TrodAll enc Tryz.prog W 0 (fun _ => true) true Tryz.f4.params.toList args.toList ds p := hA0
 rw [Tryz.params4] at hA hval
 obtain ⟨v0, d0, rfl, rfl, h0⟩ := trodAll_one hA
 obtain ⟨rfl, rfl⟩ := trodVars_none hV
 obtain ⟨l, r0, l0, w0⟩ := ar_bytes Tryz.underlying22 Tryz.underlying5 (by kernel_rfl) ⟨_, _, hval 0 22 v0 rfl rfl⟩ h0
 have hvr : VRl (gW W) [v0] [bytesP l] := ⟨rfl, fun i q hq => by
  rcases i with _ | i
  · simp at hq; subst hq; exact r0
  · simp at hq⟩
 refine ((law_fp l l0 w0).use (vs := [v0]) (gW_agree W) hvr).mono fun e W' ⟨he, hb⟩ => ?_
 subst he
 exact ⟨_, rfl, law_post laidOut rfl (by kernel_rfl) (tb := 4) rfl (by kernel_rfl) rfl hW' hb⟩

theorem fp_jfA : Tryz.prog.unfollowed 4 = Rows.fnFactorPairsRow.unfollowed := by kernel_rfl
theorem fp_jfB : Tryz.prog.recurses 4 = Rows.fnFactorPairsRow.recurses := by kernel_rfl
theorem fp_jfC : Tryz.prog.varsNamed 4 = Rows.fnFactorPairsRow.named := by kernel_rfl
theorem fp_jfD : Tryz.prog.inPlace 4 = Rows.fnFactorPairsRow.inPlace := by kernel_rfl
theorem fp_jfF : mapsRowed Tryz.prog = true := by kernel_rfl
theorem fp_jf : joinedFacts Tryz.prog 4 Tryz.f4 Rows.fnFactorPairsSpec Rows.fnFactorPairsRow = true := by
 unfold joinedFacts
 rw [fp_jfA, fp_jfB, fp_jfC, fp_jfD, fp_jfF, laidOut]
 kernel_rfl

theorem fp_holds : Rows.FnFactorPairsSaid :=
 OpenClaim.holds_of_wide 4 Tryz.f4 rfl rfl rfl rfl rfl rfl rfl ⟨rfl, rfl, rfl, rfl, rfl⟩ rfl rfl rfl rfl rfl (by kernel_rfl) Tryz.func4 fp_jf
  (of_decide_eq_true (by kernel_rfl)) (by unfold Func.isWrapper; first | (rw [if_pos (by decide +kernel)]; kernel_rfl) | (rw [if_neg (by decide +kernel)]; exact ⟨rfl, rfl⟩))
  (fun os started H enc _ => fp_lifted os started H enc)
end Go.Proofs.YtepjlgilopfnpaaGreat
