/- Lemmas of the proof. No condition. -/
import Derived.Test.YtbohjibbgppfaaaGreatJHk
namespace Go.Proofs.YtbohjibbgppfaaaGreat
open Go Go.Pv Go.Proofs
set_option maxHeartbeats 32000000
set_option maxRecDepth 100000
attribute [local bitvec_to_nat] posI optP lendM1 lendMA lendMP killM1 killMA killMP hasI getO backM1 backMA backMP putL inpM pinM1 pinMA pinMP killR1 killRA killR
def smA (ops : List OpD) : Prop := ops.length ≤ 10 ∧ ∀ f ∈ ops, f.tb.length ≤ 100
theorem smA.ok {ops : List OpD} (h : smA ops) : szOk ops := ⟨by have := h.1; omega, fun f hf => by have := h.2 f hf; omega⟩
theorem smA_nil : smA [] := ⟨by decide, fun f hf => by simp at hf⟩
theorem smA_cons {f : OpD} {ops : List OpD} (h : smA ops) (hl : ops.length ≤ 9) (hf : f.tb.length ≤ 100) : smA (f :: ops) :=
 ⟨by rw [List.length_cons]; omega, fun g hg => by
  rcases List.mem_cons.1 hg with rfl | hg
  · exact hf
  · exact h.2 g hg⟩
theorem known0_c : PCalls Tryz.prog 193 [I 0] (algP 2 [binO ⟨#[48, 48, 48, 49]⟩]) := by
 refine pcallsC Tryz.func193 rfl Tryz.ntmps193 rfl ?_
 refine wF ?_
 repeat' (first
| refine wO ?_
| (refine o_go rfl ?_; (first
| refine p_p (zG rfl rfl aD (binary_c _ zd zd)) ?_
| refine p_p (ps_lits rfl ze ze aU zd zd) ?_
| refine wS ?_
| refine p_e rfl (zO rfl rfl rfl rfl aK rfl rfl rfl) ?_
| refine p_e rfl (e_alloc rfl) ?_
| refine p_p (ps_build rfl rfl) ?_); refine ⟨_, aA, ?_⟩)
| refine krc ?_
| refine krC rfl aK ?_
| refine wE ?_)
 all_goals first | rfl | (exfalso; omega)
theorem known1_c : PCalls Tryz.prog 193 [I 1] (algP 2 [binO ⟨#[48, 48, 48, 49]⟩, binO ⟨#[48, 49, 49, 49]⟩]) := by
 refine pcallsC Tryz.func193 rfl Tryz.ntmps193 rfl ?_
 refine wF ?_
 repeat' (first
| refine wO ?_
| (refine o_go rfl ?_; (first
| refine p_p (zG rfl rfl aD (binary_c _ zd zd)) ?_
| refine p_p (ps_lits rfl ze ze aU zd zd) ?_
| refine wS ?_
| refine p_e rfl (zO rfl rfl rfl rfl aK rfl rfl rfl) ?_
| refine p_e rfl (e_alloc rfl) ?_
| refine p_p (ps_build rfl rfl) ?_); refine ⟨_, aA, ?_⟩)
| refine krc ?_
| refine krC rfl aK ?_
| refine wE ?_)
 all_goals first | rfl | (exfalso; omega)
theorem known2_c : PCalls Tryz.prog 193 [I 2] (algP 2 [binO ⟨#[48, 48, 48, 49]⟩, binO ⟨#[48, 49, 49, 49]⟩, ⟨1, [1, 0]⟩]) := by
 refine pcallsC Tryz.func193 rfl Tryz.ntmps193 rfl ?_
 refine wF ?_
 repeat' (first
| refine wO ?_
| (refine o_go rfl ?_; (first
| refine p_p (zG rfl rfl aD (binary_c _ zd zd)) ?_
| refine p_p (ps_lits rfl ze ze aU zd zd) ?_
| refine wS ?_
| refine p_e rfl (zO rfl rfl rfl rfl aK rfl rfl rfl) ?_
| refine p_e rfl (e_alloc rfl) ?_
| refine p_p (ps_build rfl rfl) ?_); refine ⟨_, aA, ?_⟩)
| refine krc ?_
| refine krC rfl aK ?_
| refine wE ?_)
 all_goals first | rfl | (exfalso; omega)
theorem known3_c : PCalls Tryz.prog 193 [I 3] (algP 2 [affO 2]) := by
 refine pcallsC Tryz.func193 rfl Tryz.ntmps193 rfl ?_
 refine wF ?_
 repeat' (first
| refine wO ?_
| (refine o_go rfl ?_; (first
| refine p_p (zG rfl rfl aD (affine2_c)) ?_
| refine p_p (ps_lits rfl ze ze aU zd zd) ?_
| refine wS ?_
| refine p_e rfl (zO rfl rfl rfl rfl aK rfl rfl rfl) ?_
| refine p_e rfl (e_alloc rfl) ?_
| refine p_p (ps_build rfl rfl) ?_); refine ⟨_, aA, ?_⟩)
| refine krc ?_
| refine krC rfl aK ?_
| refine wE ?_)
 all_goals first | rfl | (exfalso; omega)
theorem known4_c : PCalls Tryz.prog 193 [I 4] (algP 3 [binO ⟨#[48, 49, 50, 49, 50, 48, 50, 48, 49]⟩]) := by
 refine pcallsC Tryz.func193 rfl Tryz.ntmps193 rfl ?_
 refine wF ?_
 repeat' (first
| refine wO ?_
| (refine o_go rfl ?_; (first
| refine p_p (zG rfl rfl aD (binary_c _ zd zd)) ?_
| refine p_p (ps_lits rfl ze ze aU zd zd) ?_
| refine wS ?_
| refine p_e rfl (zO rfl rfl rfl rfl aK rfl rfl rfl) ?_
| refine p_e rfl (e_alloc rfl) ?_
| refine p_p (ps_build rfl rfl) ?_); refine ⟨_, aA, ?_⟩)
| refine krc ?_
| refine krC rfl aK ?_
| refine wE ?_)
 all_goals first | rfl | (exfalso; omega)
theorem known5_c : PCalls Tryz.prog 193 [I 5] (algP 3 [binO ⟨#[48, 49, 48, 49, 49, 50, 48, 50, 50]⟩]) := by
 refine pcallsC Tryz.func193 rfl Tryz.ntmps193 rfl ?_
 refine wF ?_
 repeat' (first
| refine wO ?_
| (refine o_go rfl ?_; (first
| refine p_p (zG rfl rfl aD (binary_c _ zd zd)) ?_
| refine p_p (ps_lits rfl ze ze aU zd zd) ?_
| refine wS ?_
| refine p_e rfl (zO rfl rfl rfl rfl aK rfl rfl rfl) ?_
| refine p_e rfl (e_alloc rfl) ?_
| refine p_p (ps_build rfl rfl) ?_); refine ⟨_, aA, ?_⟩)
| refine krc ?_
| refine krC rfl aK ?_
| refine wE ?_)
 all_goals first | rfl | (exfalso; omega)
theorem known6_c : PCalls Tryz.prog 193 [I 6] (algP 4 [binO ⟨#[48, 49, 50, 51, 49, 48, 51, 50, 50, 51, 48, 49, 51, 50, 49, 48]⟩]) := by
 refine pcallsC Tryz.func193 rfl Tryz.ntmps193 rfl ?_
 refine wF ?_
 repeat' (first
| refine wO ?_
| (refine o_go rfl ?_; (first
| refine p_p (zG rfl rfl aD (binary_c _ zd zd)) ?_
| refine p_p (ps_lits rfl ze ze aU zd zd) ?_
| refine wS ?_
| refine p_e rfl (zO rfl rfl rfl rfl aK rfl rfl rfl) ?_
| refine p_e rfl (e_alloc rfl) ?_
| refine p_p (ps_build rfl rfl) ?_); refine ⟨_, aA, ?_⟩)
| refine krc ?_
| refine krC rfl aK ?_
| refine wE ?_)
 all_goals first | rfl | (exfalso; omega)
theorem known7_c : PCalls Tryz.prog 193 [I 7] (algP 3 [binO ⟨#[48, 48, 48, 48, 49, 49, 48, 49, 50]⟩, binO ⟨#[48, 49, 50, 49, 49, 50, 50, 50, 50]⟩]) := by
 refine pcallsC Tryz.func193 rfl Tryz.ntmps193 rfl ?_
 refine wF ?_
 repeat' (first
| refine wO ?_
| (refine o_go rfl ?_; (first
| refine p_p (zG rfl rfl aD (binary_c _ zd zd)) ?_
| refine p_p (ps_lits rfl ze ze aU zd zd) ?_
| refine wS ?_
| refine p_e rfl (zO rfl rfl rfl rfl aK rfl rfl rfl) ?_
| refine p_e rfl (e_alloc rfl) ?_
| refine p_p (ps_build rfl rfl) ?_); refine ⟨_, aA, ?_⟩)
| refine krc ?_
| refine krC rfl aK ?_
| refine wE ?_)
 all_goals first | rfl | (exfalso; omega)
theorem known8_c : PCalls Tryz.prog 193 [I 8] (algP 4 [⟨1, [1, 2, 3, 0]⟩]) := by
 refine pcallsC Tryz.func193 rfl Tryz.ntmps193 rfl ?_
 refine wF ?_
 repeat' (first
| refine wO ?_
| (refine o_go rfl ?_; (first
| refine p_p (ps_lits rfl ze ze aU zd zd) ?_
| refine wS ?_
| refine p_e rfl (zO rfl rfl rfl rfl aK rfl rfl rfl) ?_
| refine p_e rfl (e_alloc rfl) ?_
| refine p_p (ps_build rfl rfl) ?_); refine ⟨_, aA, ?_⟩)
| refine krc ?_
| refine krC rfl aK ?_
| refine wE ?_)
 all_goals first | rfl | (exfalso; omega)
theorem known9_c : PCalls Tryz.prog 193 [I 9] (algP 2 [⟨3, [0, 0, 0, 1, 0, 1, 1, 1]⟩]) := by
 refine pcallsC Tryz.func193 rfl Tryz.ntmps193 rfl ?_
 refine wF ?_
 repeat' (first
| refine wO ?_
| (refine o_go rfl ?_; (first
| refine p_p (ps_lits rfl ze ze aU zd zd) ?_
| refine wS ?_
| refine p_e rfl (zO rfl rfl rfl rfl aK rfl rfl rfl) ?_
| refine p_e rfl (e_alloc rfl) ?_
| refine p_p (ps_build rfl rfl) ?_); refine ⟨_, aA, ?_⟩)
| refine krc ?_
| refine krC rfl aK ?_
| refine wE ?_)
 all_goals first | rfl | (exfalso; omega)
theorem known10_c : PCalls Tryz.prog 193 [I 10] (algP 3 [binO ⟨#[48, 48, 48, 49, 49, 49, 50, 50, 50]⟩]) := by
 refine pcallsC Tryz.func193 rfl Tryz.ntmps193 rfl ?_
 refine wF ?_
 repeat' (first
| refine wO ?_
| (refine o_go rfl ?_; (first
| refine p_p (zG rfl rfl aD (binary_c _ zd zd)) ?_
| refine p_p (ps_lits rfl ze ze aU zd zd) ?_
| refine wS ?_
| refine p_e rfl (zO rfl rfl rfl rfl aK rfl rfl rfl) ?_
| refine p_e rfl (e_alloc rfl) ?_
| refine p_p (ps_build rfl rfl) ?_); refine ⟨_, aA, ?_⟩)
| refine krc ?_
| refine krC rfl aK ?_
| refine wE ?_)
 all_goals first | rfl | (exfalso; omega)
theorem known11_c : PCalls Tryz.prog 193 [I 11] (algP 5 [binO ⟨#[48, 48, 48, 48, 48, 48, 49, 48, 48, 49, 48, 48, 50, 48, 50, 48, 48, 48, 51, 51, 48, 49, 50, 51, 52]⟩, binO ⟨#[48, 49, 50, 51, 52, 49, 49, 52, 52, 52, 50, 52, 50, 52, 52, 51, 52, 52, 51, 52, 52, 52, 52, 52, 52]⟩]) := by
 refine pcallsC Tryz.func193 rfl Tryz.ntmps193 rfl ?_
 refine wF ?_
 repeat' (first
| refine wO ?_
| (refine o_go rfl ?_; (first
| refine p_p (zG rfl rfl aD (binary_c _ zd zd)) ?_
| refine p_p (ps_lits rfl ze ze aU zd zd) ?_
| refine wS ?_
| refine p_e rfl (zO rfl rfl rfl rfl aK rfl rfl rfl) ?_
| refine p_e rfl (e_alloc rfl) ?_
| refine p_p (ps_build rfl rfl) ?_); refine ⟨_, aA, ?_⟩)
| refine krc ?_
| refine krC rfl aK ?_
| refine wE ?_)
 all_goals first | rfl | (exfalso; omega)
theorem known12_c : PCalls Tryz.prog 193 [I 12] (algP 4 [binO ⟨#[48, 49, 50, 51, 49, 50, 51, 48, 50, 51, 48, 49, 51, 48, 49, 50]⟩]) := by
 refine pcallsC Tryz.func193 rfl Tryz.ntmps193 rfl ?_
 refine wF ?_
 repeat' (first
| refine wO ?_
| (refine o_go rfl ?_; (first
| refine p_p (zG rfl rfl aD (binary_c _ zd zd)) ?_
| refine p_p (ps_lits rfl ze ze aU zd zd) ?_
| refine wS ?_
| refine p_e rfl (zO rfl rfl rfl rfl aK rfl rfl rfl) ?_
| refine p_e rfl (e_alloc rfl) ?_
| refine p_p (ps_build rfl rfl) ?_); refine ⟨_, aA, ?_⟩)
| refine krc ?_
| refine krC rfl aK ?_
| refine wE ?_)
 all_goals first | rfl | (exfalso; omega)
theorem known13_c : PCalls Tryz.prog 193 [I 13] (algP 3 [⟨1, [0, 0, 1]⟩, ⟨0, [2]⟩]) := by
 refine pcallsC Tryz.func193 rfl Tryz.ntmps193 rfl ?_
 refine wF ?_
 repeat' (first
| refine wO ?_
| (refine o_go rfl ?_; (first
| refine p_p (ps_lits rfl ze ze aU zd zd) ?_
| refine wS ?_
| refine p_e rfl (zO rfl rfl rfl rfl aK rfl rfl rfl) ?_
| refine p_e rfl (e_alloc rfl) ?_
| refine p_p (ps_build rfl rfl) ?_); refine ⟨_, aA, ?_⟩)
| refine krc ?_
| refine krC rfl aK ?_
| refine wE ?_)
 all_goals first | rfl | (exfalso; omega)
theorem known14_c : PCalls Tryz.prog 193 [I 14] (algP 1 [binO ⟨#[48]⟩]) := by
 refine pcallsC Tryz.func193 rfl Tryz.ntmps193 rfl ?_
 refine wF ?_
 repeat' (first
| refine wO ?_
| (refine o_go rfl ?_; (first
| refine p_p (zG rfl rfl aD (binary_c _ zd zd)) ?_
| refine p_p (ps_lits rfl ze ze aU zd zd) ?_
| refine wS ?_
| refine p_e rfl (zO rfl rfl rfl rfl aK rfl rfl rfl) ?_
| refine p_e rfl (e_alloc rfl) ?_
| refine p_p (ps_build rfl rfl) ?_); refine ⟨_, aA, ?_⟩)
| refine krc ?_
| refine krC rfl aK ?_
| refine wE ?_)
 all_goals first | rfl | (exfalso; omega)
theorem known15_c : PCalls Tryz.prog 193 [I 15] (algP 3 [affO 3]) := by
 refine pcallsC Tryz.func193 rfl Tryz.ntmps193 rfl ?_
 refine wF ?_
 repeat' (first
| refine wO ?_
| (refine o_go rfl ?_; (first
| refine p_p (zG rfl rfl aD (affine3_c)) ?_
| refine p_p (ps_lits rfl ze ze aU zd zd) ?_
| refine wS ?_
| refine p_e rfl (zO rfl rfl rfl rfl aK rfl rfl rfl) ?_
| refine p_e rfl (e_alloc rfl) ?_
| refine p_p (ps_build rfl rfl) ?_); refine ⟨_, aA, ?_⟩)
| refine krc ?_
| refine krC rfl aK ?_
| refine wE ?_)
 all_goals first | rfl | (exfalso; omega)
theorem knownX_c (k : Int) (h : k < 0 ∨ 16 ≤ k) : PCalls Tryz.prog 193 [I k] (.agg [I 2, nilV]) := by
 refine pcallsC Tryz.func193 rfl Tryz.ntmps193 rfl ?_
 refine wF ?_
 repeat' (first
| refine wO ?_
| (refine o_go rfl ?_; (first
| refine wS ?_
| refine p_e rfl (zO rfl rfl rfl rfl aK rfl rfl rfl) ?_
| refine p_e rfl (e_alloc rfl) ?_
| refine p_p (ps_build rfl rfl) ?_); refine ⟨_, aA, ?_⟩)
| (refine zK rfl ?_ ?_ <;> intro hc <;> try omega)
| refine krc ?_
| refine krC rfl aK ?_
| refine wE ?_)
 all_goals first | rfl | (exfalso; omega)
end Go.Proofs.YtbohjibbgppfaaaGreat
