/- Walks: the reference's known algebras, each. -/
import Derived.Test.YtlgfniaakjchgaaGreatLHk
namespace Go.Proofs.YtlgfniaakjchgaaGreat
open Go Go.Pv Go.Proofs
set_option maxHeartbeats 32000000
set_option maxRecDepth 100000
attribute [local bitvec_to_nat] St.put St.setObj St.ev killP killA killP1 killH mapHO renP renA ren1 killG killGA killG1 krowP krowA krow1 lendP lendA lend1 unv pinP pin1 elemsM viewM viewN viewV n_set_z n_set_s n_map_c n_map_n getD_z getD_s n_toNat n_cond_t n_cond_f n_len_c n_len_n n_app_c n_app_n n_take_s n_take_z n_drop_s n_drop_z n_get_z n_get_s view viewA view1 elems Nat.zero_add Nat.add_zero Bool.not_true Bool.not_false Nat.one_ne_zero Nat.mul_one
attribute [local bitvec_to_nat] posI optP lendM1 lendMA lendMP killM1 killMA killMP hasI getO backM1 backMA backMP putL inpM pinM1 pinMA pinMP killR1 killRA killR

def smA (ops : List OpD) : Prop := ops.length ≤ 10 ∧ ∀ f ∈ ops, f.tb.length ≤ 100
theorem smA.ok {ops : List OpD} (h : smA ops) : szOk ops := ⟨by have := h.1; omega, fun f hf => by have := h.2 f hf; omega⟩
theorem smA_nil : smA [] := ⟨by decide, fun f hf => by simp at hf⟩
theorem smA_cons {f : OpD} {ops : List OpD} (h : smA ops) (hl : ops.length ≤ 9) (hf : f.tb.length ≤ 100) : smA (f :: ops) :=
  ⟨by rw [List.length_cons]; omega, fun g hg => by
    rcases List.mem_cons.1 hg with rfl | hg
    · exact hf
    · exact h.2 g hg⟩
theorem known0_c : PCalls Tryz.prog 51 [I 0] (algP 2 [binO ⟨#[48, 48, 48, 49]⟩]) := by
  refine pcallsC Tryz.func51 rfl Tryz.ntmps51 rfl ?_
  simp only [List.length_cons, List.length_nil, Nat.reduceAdd, Nat.reduceSub, List.replicate_succ, List.replicate_zero, List.cons_append, List.nil_append]
  repeat' (first
| refine g_seq ?_
| refine zJ ?_
| refine zC ?_
| (refine o_go rfl ?_; (first
| refine p_p (zG rfl rfl aC (binary_c _ (by decide) (by decide))) ?_
| refine p_p (ps_lits rfl (by exact rfl) (by exact rfl) aV (by decide) (by decide)) ?_
| refine p_p (zD rfl) ?_
| refine p_p (zA rfl) ?_
| refine p_p (ps_eql rfl rfl rfl) ?_
| refine p_e rfl (zO rfl rfl rfl rfl aK rfl rfl rfl) ?_
| refine p_e rfl (e_alloc rfl) ?_
| refine p_p (ps_build rfl rfl) ?_); refine ⟨_, aB, ?_⟩)
| refine o_nil ?_
| refine zX rfl ?_
| refine krc ?_
| refine krC rfl aK ?_
| refine g_ret ?_)
  all_goals first | rfl | (exfalso; omega)
theorem known1_c : PCalls Tryz.prog 51 [I 1] (algP 2 [binO ⟨#[48, 48, 48, 49]⟩, binO ⟨#[48, 49, 49, 49]⟩]) := by
  refine pcallsC Tryz.func51 rfl Tryz.ntmps51 rfl ?_
  simp only [List.length_cons, List.length_nil, Nat.reduceAdd, Nat.reduceSub, List.replicate_succ, List.replicate_zero, List.cons_append, List.nil_append]
  repeat' (first
| refine g_seq ?_
| refine zJ ?_
| refine zC ?_
| (refine o_go rfl ?_; (first
| refine p_p (zG rfl rfl aC (binary_c _ (by decide) (by decide))) ?_
| refine p_p (ps_lits rfl (by exact rfl) (by exact rfl) aV (by decide) (by decide)) ?_
| refine p_p (zD rfl) ?_
| refine p_p (zA rfl) ?_
| refine p_p (ps_eql rfl rfl rfl) ?_
| refine p_e rfl (zO rfl rfl rfl rfl aK rfl rfl rfl) ?_
| refine p_e rfl (e_alloc rfl) ?_
| refine p_p (ps_build rfl rfl) ?_); refine ⟨_, aB, ?_⟩)
| refine o_nil ?_
| refine zX rfl ?_
| refine zW rfl ?_
| refine krc ?_
| refine krC rfl aK ?_
| refine g_ret ?_)
  all_goals first | rfl | (exfalso; omega)
theorem known2_c : PCalls Tryz.prog 51 [I 2] (algP 2 [binO ⟨#[48, 48, 48, 49]⟩, binO ⟨#[48, 49, 49, 49]⟩, ⟨1, [1, 0]⟩]) := by
  refine pcallsC Tryz.func51 rfl Tryz.ntmps51 rfl ?_
  simp only [List.length_cons, List.length_nil, Nat.reduceAdd, Nat.reduceSub, List.replicate_succ, List.replicate_zero, List.cons_append, List.nil_append]
  repeat' (first
| refine g_seq ?_
| refine zJ ?_
| refine zC ?_
| (refine o_go rfl ?_; (first
| refine p_p (zG rfl rfl aC (binary_c _ (by decide) (by decide))) ?_
| refine p_p (ps_lits rfl (by exact rfl) (by exact rfl) aV (by decide) (by decide)) ?_
| refine p_p (zD rfl) ?_
| refine p_p (zA rfl) ?_
| refine p_p (ps_eql rfl rfl rfl) ?_
| refine p_e rfl (zO rfl rfl rfl rfl aK rfl rfl rfl) ?_
| refine p_e rfl (e_alloc rfl) ?_
| refine p_p (ps_build rfl rfl) ?_); refine ⟨_, aB, ?_⟩)
| refine o_nil ?_
| refine zX rfl ?_
| refine zW rfl ?_
| refine krc ?_
| refine krC rfl aK ?_
| refine g_ret ?_)
  all_goals first | rfl | (exfalso; omega)
theorem known3_c : PCalls Tryz.prog 51 [I 3] (algP 2 [affO 2]) := by
  refine pcallsC Tryz.func51 rfl Tryz.ntmps51 rfl ?_
  simp only [List.length_cons, List.length_nil, Nat.reduceAdd, Nat.reduceSub, List.replicate_succ, List.replicate_zero, List.cons_append, List.nil_append]
  repeat' (first
| refine g_seq ?_
| refine zJ ?_
| refine zC ?_
| (refine o_go rfl ?_; (first
| refine p_p (zG rfl rfl aC (affine2_c)) ?_
| refine p_p (ps_lits rfl (by exact rfl) (by exact rfl) aV (by decide) (by decide)) ?_
| refine p_p (zD rfl) ?_
| refine p_p (zA rfl) ?_
| refine p_p (ps_eql rfl rfl rfl) ?_
| refine p_e rfl (zO rfl rfl rfl rfl aK rfl rfl rfl) ?_
| refine p_e rfl (e_alloc rfl) ?_
| refine p_p (ps_build rfl rfl) ?_); refine ⟨_, aB, ?_⟩)
| refine o_nil ?_
| refine zX rfl ?_
| refine zW rfl ?_
| refine krc ?_
| refine krC rfl aK ?_
| refine g_ret ?_)
  all_goals first | rfl | (exfalso; omega)
theorem known4_c : PCalls Tryz.prog 51 [I 4] (algP 3 [binO ⟨#[48, 49, 50, 49, 50, 48, 50, 48, 49]⟩]) := by
  refine pcallsC Tryz.func51 rfl Tryz.ntmps51 rfl ?_
  simp only [List.length_cons, List.length_nil, Nat.reduceAdd, Nat.reduceSub, List.replicate_succ, List.replicate_zero, List.cons_append, List.nil_append]
  repeat' (first
| refine g_seq ?_
| refine zJ ?_
| refine zC ?_
| (refine o_go rfl ?_; (first
| refine p_p (zG rfl rfl aC (binary_c _ (by decide) (by decide))) ?_
| refine p_p (ps_lits rfl (by exact rfl) (by exact rfl) aV (by decide) (by decide)) ?_
| refine p_p (zD rfl) ?_
| refine p_p (zA rfl) ?_
| refine p_p (ps_eql rfl rfl rfl) ?_
| refine p_e rfl (zO rfl rfl rfl rfl aK rfl rfl rfl) ?_
| refine p_e rfl (e_alloc rfl) ?_
| refine p_p (ps_build rfl rfl) ?_); refine ⟨_, aB, ?_⟩)
| refine o_nil ?_
| refine zX rfl ?_
| refine zW rfl ?_
| refine krc ?_
| refine krC rfl aK ?_
| refine g_ret ?_)
  all_goals first | rfl | (exfalso; omega)
theorem known5_c : PCalls Tryz.prog 51 [I 5] (algP 3 [binO ⟨#[48, 49, 48, 49, 49, 50, 48, 50, 50]⟩]) := by
  refine pcallsC Tryz.func51 rfl Tryz.ntmps51 rfl ?_
  simp only [List.length_cons, List.length_nil, Nat.reduceAdd, Nat.reduceSub, List.replicate_succ, List.replicate_zero, List.cons_append, List.nil_append]
  repeat' (first
| refine g_seq ?_
| refine zJ ?_
| refine zC ?_
| (refine o_go rfl ?_; (first
| refine p_p (zG rfl rfl aC (binary_c _ (by decide) (by decide))) ?_
| refine p_p (ps_lits rfl (by exact rfl) (by exact rfl) aV (by decide) (by decide)) ?_
| refine p_p (zD rfl) ?_
| refine p_p (zA rfl) ?_
| refine p_p (ps_eql rfl rfl rfl) ?_
| refine p_e rfl (zO rfl rfl rfl rfl aK rfl rfl rfl) ?_
| refine p_e rfl (e_alloc rfl) ?_
| refine p_p (ps_build rfl rfl) ?_); refine ⟨_, aB, ?_⟩)
| refine o_nil ?_
| refine zX rfl ?_
| refine zW rfl ?_
| refine krc ?_
| refine krC rfl aK ?_
| refine g_ret ?_)
  all_goals first | rfl | (exfalso; omega)
theorem known6_c : PCalls Tryz.prog 51 [I 6] (algP 4 [binO ⟨#[48, 49, 50, 51, 49, 48, 51, 50, 50, 51, 48, 49, 51, 50, 49, 48]⟩]) := by
  refine pcallsC Tryz.func51 rfl Tryz.ntmps51 rfl ?_
  simp only [List.length_cons, List.length_nil, Nat.reduceAdd, Nat.reduceSub, List.replicate_succ, List.replicate_zero, List.cons_append, List.nil_append]
  repeat' (first
| refine g_seq ?_
| refine zJ ?_
| refine zC ?_
| (refine o_go rfl ?_; (first
| refine p_p (zG rfl rfl aC (binary_c _ (by decide) (by decide))) ?_
| refine p_p (ps_lits rfl (by exact rfl) (by exact rfl) aV (by decide) (by decide)) ?_
| refine p_p (zD rfl) ?_
| refine p_p (zA rfl) ?_
| refine p_p (ps_eql rfl rfl rfl) ?_
| refine p_e rfl (zO rfl rfl rfl rfl aK rfl rfl rfl) ?_
| refine p_e rfl (e_alloc rfl) ?_
| refine p_p (ps_build rfl rfl) ?_); refine ⟨_, aB, ?_⟩)
| refine o_nil ?_
| refine zX rfl ?_
| refine zW rfl ?_
| refine krc ?_
| refine krC rfl aK ?_
| refine g_ret ?_)
  all_goals first | rfl | (exfalso; omega)
theorem known7_c : PCalls Tryz.prog 51 [I 7] (algP 3 [binO ⟨#[48, 48, 48, 48, 49, 49, 48, 49, 50]⟩, binO ⟨#[48, 49, 50, 49, 49, 50, 50, 50, 50]⟩]) := by
  refine pcallsC Tryz.func51 rfl Tryz.ntmps51 rfl ?_
  simp only [List.length_cons, List.length_nil, Nat.reduceAdd, Nat.reduceSub, List.replicate_succ, List.replicate_zero, List.cons_append, List.nil_append]
  repeat' (first
| refine g_seq ?_
| refine zJ ?_
| refine zC ?_
| (refine o_go rfl ?_; (first
| refine p_p (zG rfl rfl aC (binary_c _ (by decide) (by decide))) ?_
| refine p_p (ps_lits rfl (by exact rfl) (by exact rfl) aV (by decide) (by decide)) ?_
| refine p_p (zD rfl) ?_
| refine p_p (zA rfl) ?_
| refine p_p (ps_eql rfl rfl rfl) ?_
| refine p_e rfl (zO rfl rfl rfl rfl aK rfl rfl rfl) ?_
| refine p_e rfl (e_alloc rfl) ?_
| refine p_p (ps_build rfl rfl) ?_); refine ⟨_, aB, ?_⟩)
| refine o_nil ?_
| refine zX rfl ?_
| refine zW rfl ?_
| refine krc ?_
| refine krC rfl aK ?_
| refine g_ret ?_)
  all_goals first | rfl | (exfalso; omega)
theorem known8_c : PCalls Tryz.prog 51 [I 8] (algP 4 [⟨1, [1, 2, 3, 0]⟩]) := by
  refine pcallsC Tryz.func51 rfl Tryz.ntmps51 rfl ?_
  simp only [List.length_cons, List.length_nil, Nat.reduceAdd, Nat.reduceSub, List.replicate_succ, List.replicate_zero, List.cons_append, List.nil_append]
  repeat' (first
| refine g_seq ?_
| refine zJ ?_
| refine zC ?_
| (refine o_go rfl ?_; (first
| refine p_p (ps_lits rfl (by exact rfl) (by exact rfl) aV (by decide) (by decide)) ?_
| refine p_p (zD rfl) ?_
| refine p_p (zA rfl) ?_
| refine p_p (ps_eql rfl rfl rfl) ?_
| refine p_e rfl (zO rfl rfl rfl rfl aK rfl rfl rfl) ?_
| refine p_e rfl (e_alloc rfl) ?_
| refine p_p (ps_build rfl rfl) ?_); refine ⟨_, aB, ?_⟩)
| refine o_nil ?_
| refine zX rfl ?_
| refine zW rfl ?_
| refine krc ?_
| refine krC rfl aK ?_
| refine g_ret ?_)
  all_goals first | rfl | (exfalso; omega)
theorem known9_c : PCalls Tryz.prog 51 [I 9] (algP 2 [⟨3, [0, 0, 0, 1, 0, 1, 1, 1]⟩]) := by
  refine pcallsC Tryz.func51 rfl Tryz.ntmps51 rfl ?_
  simp only [List.length_cons, List.length_nil, Nat.reduceAdd, Nat.reduceSub, List.replicate_succ, List.replicate_zero, List.cons_append, List.nil_append]
  repeat' (first
| refine g_seq ?_
| refine zJ ?_
| refine zC ?_
| (refine o_go rfl ?_; (first
| refine p_p (ps_lits rfl (by exact rfl) (by exact rfl) aV (by decide) (by decide)) ?_
| refine p_p (zD rfl) ?_
| refine p_p (zA rfl) ?_
| refine p_p (ps_eql rfl rfl rfl) ?_
| refine p_e rfl (zO rfl rfl rfl rfl aK rfl rfl rfl) ?_
| refine p_e rfl (e_alloc rfl) ?_
| refine p_p (ps_build rfl rfl) ?_); refine ⟨_, aB, ?_⟩)
| refine o_nil ?_
| refine zX rfl ?_
| refine zW rfl ?_
| refine krc ?_
| refine krC rfl aK ?_
| refine g_ret ?_)
  all_goals first | rfl | (exfalso; omega)
theorem known10_c : PCalls Tryz.prog 51 [I 10] (algP 3 [binO ⟨#[48, 48, 48, 49, 49, 49, 50, 50, 50]⟩]) := by
  refine pcallsC Tryz.func51 rfl Tryz.ntmps51 rfl ?_
  simp only [List.length_cons, List.length_nil, Nat.reduceAdd, Nat.reduceSub, List.replicate_succ, List.replicate_zero, List.cons_append, List.nil_append]
  repeat' (first
| refine g_seq ?_
| refine zJ ?_
| refine zC ?_
| (refine o_go rfl ?_; (first
| refine p_p (zG rfl rfl aC (binary_c _ (by decide) (by decide))) ?_
| refine p_p (ps_lits rfl (by exact rfl) (by exact rfl) aV (by decide) (by decide)) ?_
| refine p_p (zD rfl) ?_
| refine p_p (zA rfl) ?_
| refine p_p (ps_eql rfl rfl rfl) ?_
| refine p_e rfl (zO rfl rfl rfl rfl aK rfl rfl rfl) ?_
| refine p_e rfl (e_alloc rfl) ?_
| refine p_p (ps_build rfl rfl) ?_); refine ⟨_, aB, ?_⟩)
| refine o_nil ?_
| refine zX rfl ?_
| refine zW rfl ?_
| refine krc ?_
| refine krC rfl aK ?_
| refine g_ret ?_)
  all_goals first | rfl | (exfalso; omega)
theorem known11_c : PCalls Tryz.prog 51 [I 11] (algP 5 [binO ⟨#[48, 48, 48, 48, 48, 48, 49, 48, 48, 49, 48, 48, 50, 48, 50, 48, 48, 48, 51, 51, 48, 49, 50, 51, 52]⟩, binO ⟨#[48, 49, 50, 51, 52, 49, 49, 52, 52, 52, 50, 52, 50, 52, 52, 51, 52, 52, 51, 52, 52, 52, 52, 52, 52]⟩]) := by
  refine pcallsC Tryz.func51 rfl Tryz.ntmps51 rfl ?_
  simp only [List.length_cons, List.length_nil, Nat.reduceAdd, Nat.reduceSub, List.replicate_succ, List.replicate_zero, List.cons_append, List.nil_append]
  repeat' (first
| refine g_seq ?_
| refine zJ ?_
| refine zC ?_
| (refine o_go rfl ?_; (first
| refine p_p (zG rfl rfl aC (binary_c _ (by decide) (by decide))) ?_
| refine p_p (ps_lits rfl (by exact rfl) (by exact rfl) aV (by decide) (by decide)) ?_
| refine p_p (zD rfl) ?_
| refine p_p (zA rfl) ?_
| refine p_p (ps_eql rfl rfl rfl) ?_
| refine p_e rfl (zO rfl rfl rfl rfl aK rfl rfl rfl) ?_
| refine p_e rfl (e_alloc rfl) ?_
| refine p_p (ps_build rfl rfl) ?_); refine ⟨_, aB, ?_⟩)
| refine o_nil ?_
| refine zX rfl ?_
| refine zW rfl ?_
| refine krc ?_
| refine krC rfl aK ?_
| refine g_ret ?_)
  all_goals first | rfl | (exfalso; omega)
theorem known12_c : PCalls Tryz.prog 51 [I 12] (algP 4 [binO ⟨#[48, 49, 50, 51, 49, 50, 51, 48, 50, 51, 48, 49, 51, 48, 49, 50]⟩]) := by
  refine pcallsC Tryz.func51 rfl Tryz.ntmps51 rfl ?_
  simp only [List.length_cons, List.length_nil, Nat.reduceAdd, Nat.reduceSub, List.replicate_succ, List.replicate_zero, List.cons_append, List.nil_append]
  repeat' (first
| refine g_seq ?_
| refine zJ ?_
| refine zC ?_
| (refine o_go rfl ?_; (first
| refine p_p (zG rfl rfl aC (binary_c _ (by decide) (by decide))) ?_
| refine p_p (ps_lits rfl (by exact rfl) (by exact rfl) aV (by decide) (by decide)) ?_
| refine p_p (zD rfl) ?_
| refine p_p (zA rfl) ?_
| refine p_p (ps_eql rfl rfl rfl) ?_
| refine p_e rfl (zO rfl rfl rfl rfl aK rfl rfl rfl) ?_
| refine p_e rfl (e_alloc rfl) ?_
| refine p_p (ps_build rfl rfl) ?_); refine ⟨_, aB, ?_⟩)
| refine o_nil ?_
| refine zX rfl ?_
| refine zW rfl ?_
| refine krc ?_
| refine krC rfl aK ?_
| refine g_ret ?_)
  all_goals first | rfl | (exfalso; omega)
theorem known13_c : PCalls Tryz.prog 51 [I 13] (algP 3 [⟨1, [0, 0, 1]⟩, ⟨0, [2]⟩]) := by
  refine pcallsC Tryz.func51 rfl Tryz.ntmps51 rfl ?_
  simp only [List.length_cons, List.length_nil, Nat.reduceAdd, Nat.reduceSub, List.replicate_succ, List.replicate_zero, List.cons_append, List.nil_append]
  repeat' (first
| refine g_seq ?_
| refine zJ ?_
| refine zC ?_
| (refine o_go rfl ?_; (first
| refine p_p (ps_lits rfl (by exact rfl) (by exact rfl) aV (by decide) (by decide)) ?_
| refine p_p (zD rfl) ?_
| refine p_p (zA rfl) ?_
| refine p_p (ps_eql rfl rfl rfl) ?_
| refine p_e rfl (zO rfl rfl rfl rfl aK rfl rfl rfl) ?_
| refine p_e rfl (e_alloc rfl) ?_
| refine p_p (ps_build rfl rfl) ?_); refine ⟨_, aB, ?_⟩)
| refine o_nil ?_
| refine zX rfl ?_
| refine zW rfl ?_
| refine krc ?_
| refine krC rfl aK ?_
| refine g_ret ?_)
  all_goals first | rfl | (exfalso; omega)
theorem known14_c : PCalls Tryz.prog 51 [I 14] (algP 1 [binO ⟨#[48]⟩]) := by
  refine pcallsC Tryz.func51 rfl Tryz.ntmps51 rfl ?_
  simp only [List.length_cons, List.length_nil, Nat.reduceAdd, Nat.reduceSub, List.replicate_succ, List.replicate_zero, List.cons_append, List.nil_append]
  repeat' (first
| refine g_seq ?_
| refine zJ ?_
| refine zC ?_
| (refine o_go rfl ?_; (first
| refine p_p (zG rfl rfl aC (binary_c _ (by decide) (by decide))) ?_
| refine p_p (ps_lits rfl (by exact rfl) (by exact rfl) aV (by decide) (by decide)) ?_
| refine p_p (zD rfl) ?_
| refine p_p (zA rfl) ?_
| refine p_p (ps_eql rfl rfl rfl) ?_
| refine p_e rfl (zO rfl rfl rfl rfl aK rfl rfl rfl) ?_
| refine p_e rfl (e_alloc rfl) ?_
| refine p_p (ps_build rfl rfl) ?_); refine ⟨_, aB, ?_⟩)
| refine o_nil ?_
| refine zX rfl ?_
| refine zW rfl ?_
| refine krc ?_
| refine krC rfl aK ?_
| refine g_ret ?_)
  all_goals first | rfl | (exfalso; omega)
theorem known15_c : PCalls Tryz.prog 51 [I 15] (algP 3 [affO 3]) := by
  refine pcallsC Tryz.func51 rfl Tryz.ntmps51 rfl ?_
  simp only [List.length_cons, List.length_nil, Nat.reduceAdd, Nat.reduceSub, List.replicate_succ, List.replicate_zero, List.cons_append, List.nil_append]
  repeat' (first
| refine g_seq ?_
| refine zJ ?_
| refine zC ?_
| (refine o_go rfl ?_; (first
| refine p_p (zG rfl rfl aC (affine3_c)) ?_
| refine p_p (ps_lits rfl (by exact rfl) (by exact rfl) aV (by decide) (by decide)) ?_
| refine p_p (zD rfl) ?_
| refine p_p (zA rfl) ?_
| refine p_p (ps_eql rfl rfl rfl) ?_
| refine p_e rfl (zO rfl rfl rfl rfl aK rfl rfl rfl) ?_
| refine p_e rfl (e_alloc rfl) ?_
| refine p_p (ps_build rfl rfl) ?_); refine ⟨_, aB, ?_⟩)
| refine o_nil ?_
| refine zX rfl ?_
| refine zW rfl ?_
| refine krc ?_
| refine krC rfl aK ?_
| refine g_ret ?_)
  all_goals first | rfl | (exfalso; omega)
theorem knownX_c (k : Int) (h : k < 0 ∨ 16 ≤ k) : PCalls Tryz.prog 51 [I k] (.agg [I 2, nilV]) := by
  refine pcallsC Tryz.func51 rfl Tryz.ntmps51 rfl ?_
  simp only [List.length_cons, List.length_nil, Nat.reduceAdd, Nat.reduceSub, List.replicate_succ, List.replicate_zero, List.cons_append, List.nil_append]
  repeat' (first
| refine g_seq ?_
| refine zJ ?_
| refine zC ?_
| (refine o_go rfl ?_; (first
| refine p_p (zD rfl) ?_
| refine p_p (zA rfl) ?_
| refine p_p (ps_eql rfl rfl rfl) ?_
| refine p_e rfl (zO rfl rfl rfl rfl aK rfl rfl rfl) ?_
| refine p_e rfl (e_alloc rfl) ?_
| refine p_p (ps_build rfl rfl) ?_); refine ⟨_, aB, ?_⟩)
| refine o_nil ?_
| (refine zK rfl (fun hc => ?_) (fun hc => ?_) <;> try (exfalso; omega))
| refine krc ?_
| refine krC rfl aK ?_
| refine zR ?_
| refine g_ret ?_)
  all_goals first | rfl | (exfalso; omega)
theorem knownA_c (k : Int) : ∃ n ops, smA ops ∧ PCalls Tryz.prog 51 [I k] (algP n ops) := by
  by_cases h : k < 0 ∨ 16 ≤ k
  · refine ⟨2, [], smA_nil, ?_⟩
    exact pcalls_le2 (knownX_c k h) (agg2_le (PV.le_nil 2))
  have h16 : k = 0 ∨ k = 1 ∨ k = 2 ∨ k = 3 ∨ k = 4 ∨ k = 5 ∨ k = 6 ∨ k = 7 ∨ k = 8 ∨ k = 9 ∨ k = 10 ∨ k = 11 ∨ k = 12 ∨ k = 13 ∨ k = 14 ∨ k = 15 := by omega
  rcases h16 with rfl | rfl | rfl | rfl | rfl | rfl | rfl | rfl | rfl | rfl | rfl | rfl | rfl | rfl | rfl | rfl
  · exact ⟨_, _, smA_cons (smA_nil) (by decide) (by rw [binL_len]; decide), known0_c⟩
  · exact ⟨_, _, smA_cons (smA_cons (smA_nil) (by decide) (by rw [binL_len]; decide)) (by decide) (by rw [binL_len]; decide), known1_c⟩
  · exact ⟨_, _, smA_cons (smA_cons (smA_cons (smA_nil) (by decide) (by decide)) (by decide) (by rw [binL_len]; decide)) (by decide) (by rw [binL_len]; decide), known2_c⟩
  · exact ⟨_, _, smA_cons (smA_nil) (by decide) (by rw [affL_len]; decide), known3_c⟩
  · exact ⟨_, _, smA_cons (smA_nil) (by decide) (by rw [binL_len]; decide), known4_c⟩
  · exact ⟨_, _, smA_cons (smA_nil) (by decide) (by rw [binL_len]; decide), known5_c⟩
  · exact ⟨_, _, smA_cons (smA_nil) (by decide) (by rw [binL_len]; decide), known6_c⟩
  · exact ⟨_, _, smA_cons (smA_cons (smA_nil) (by decide) (by rw [binL_len]; decide)) (by decide) (by rw [binL_len]; decide), known7_c⟩
  · exact ⟨_, _, smA_cons (smA_nil) (by decide) (by decide), known8_c⟩
  · exact ⟨_, _, smA_cons (smA_nil) (by decide) (by decide), known9_c⟩
  · exact ⟨_, _, smA_cons (smA_nil) (by decide) (by rw [binL_len]; decide), known10_c⟩
  · exact ⟨_, _, smA_cons (smA_cons (smA_nil) (by decide) (by rw [binL_len]; decide)) (by decide) (by rw [binL_len]; decide), known11_c⟩
  · exact ⟨_, _, smA_cons (smA_nil) (by decide) (by rw [binL_len]; decide), known12_c⟩
  · exact ⟨_, _, smA_cons (smA_cons (smA_nil) (by decide) (by decide)) (by decide) (by decide), known13_c⟩
  · exact ⟨_, _, smA_cons (smA_nil) (by decide) (by rw [binL_len]; decide), known14_c⟩
  · exact ⟨_, _, smA_cons (smA_nil) (by decide) (by rw [affL_len]; decide), known15_c⟩
theorem copy2_c (f : OpD) (hf : f.tb.length ≤ 1048576) : PCalls Tryz.prog 50 [opP f] (opP f) := by
  refine pcallsC Tryz.func50 rfl Tryz.ntmps50 rfl ?_
  simp only [List.length_cons, List.length_nil, Nat.reduceAdd, Nat.reduceSub, List.replicate_succ, List.replicate_zero, List.cons_append, List.nil_append]
  have h1 := rcalls_P rfl (own_R f.tb hf)
  repeat' (first
| refine g_seq ?_
| refine zC ?_
| (refine o_go rfl ?_; (first
| refine p_e rfl (e_alloc rfl) ?_
| refine p_p (ps_box rfl rfl) ?_); refine ⟨_, aB, ?_⟩)
| refine o_nil ?_)
  refine g_region_drawZ [(0, some []), (1, some []), (2, some []), (3, some []), (4, some []), (5, some []), (6, none)] [(6, 999999)] (fun _ => True) (by kernel_rfl) rfl (by kernel_rfl) ?_
  repeat' (first
| refine z_nil ?_
| ((first
| refine zV rfl rfl (fun hp hH => zG rfl rfl aC h1) aJ aD (by decide) aA ?_
| refine zV rfl rfl (fun _ _ => zF rfl rfl) aJ aD (by decide) aA ?_
| refine zV rfl rfl (fun _ _ => zL rfl rfl) aJ aD (by decide) aA ?_
| refine zV rfl rfl (fun _ _ => ps_build rfl rfl) aJ aD (by decide) aA ?_
| refine z_eff rfl rfl aG (j_store_boxA rfl rfl rfl rfl aK rfl rfl rfl) aF ?_); refine ⟨_, aQ, ?_⟩))
  repeat' (first
| refine krc ?_
| refine krC rfl aK ?_
| refine g_ret ?_)
  all_goals first | rfl | (exfalso; omega)
end Go.Proofs.YtlgfniaakjchgaaGreat
