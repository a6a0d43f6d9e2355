/- Walks: the reference's poset of points; marks of a poset that is empty. -/
import Derived.Test.YtbfmjknngofleaaGreatLAr
import Derived.Test.YtbfmjknngofleaaGreatLAq
namespace Go.Proofs.YtbfmjknngofleaaGreat
open Go Go.Pv Go.Proofs
attribute [local bitvec_to_nat] St.put St.setObj St.ev killP killA killP1 killH mapHO renP renA ren1 killG killGA killG1 krowP krowA krow1 lendP lendA lend1 unv pinP pin1 elemsM viewM viewN viewV n_set_z n_set_s n_map_c n_map_n getD_z getD_s n_toNat n_cond_t n_cond_f n_len_c n_len_n n_app_c n_app_n n_take_s n_take_z n_drop_s n_drop_z n_get_z n_get_s view viewA view1 elems Nat.zero_add Nat.add_zero Bool.not_true Bool.not_false Nat.one_ne_zero Nat.mul_one
theorem le_posetN : (PV.agg [nilV]).le (posetP []) := fun g v hv => by
  obtain ⟨vs, rfl, hl, hp⟩ := VR.agg_inv hv
  refine .agg vs _ hl fun i q hq => ?_
  rcases i with _ | i
  · have h0 := hp 0 nilV rfl
    simp at hq; subst hq
    exact PV.le_nil 1 g _ h0
  · simp at hq
theorem krC_nil {S : St} {a : Tmp} (h : viewM S.hp (S.ev (.tmp a)) = .ptr [nilV]) : KRC S a 1 (posetP []) := by
  unfold KRC
  refine ⟨_, h, Nat.le_refl _, le_posetN⟩

set_option maxRecDepth 100000 in
theorem sppF (rows : List (List Int)) (hok : okP rows) (hg : goodL rows = false) : PCalls Tryz.prog 32 [posetP rows] (.tup [posetP [], B false]) := by
  refine pcallsCT Tryz.func32 rfl Tryz.ntmps32 rfl ?_
  simp only [List.length_cons, List.length_nil, Nat.reduceAdd, Nat.reduceSub, List.replicate_succ, List.replicate_zero, List.cons_append, List.nil_append]
  have h1 := goodL_c rows hok
  rw [hg] at h1
  repeat' (first
| refine krC_nil rfl
| refine g_seq ?_
| refine g_region ?_
| (refine o_go rfl ?_; (first
| refine p_p (ps_call rfl rfl (by (repeat (first | refine ⟨PV.le_refl _, ?_⟩ | refine ⟨PV.le_nn _ _ _, ?_⟩ | refine ⟨PV.le_nil _, ?_⟩ | refine ⟨PV.le_any _, ?_⟩)); exact trivial) (h1)) ?_
| refine p_p (ps_assign rfl) ?_
| refine p_p (ps_load_agg rfl rfl (by exact Nat.le_of_ble_eq_true rfl)) ?_
| refine p_p (ps_not rfl rfl) ?_
| refine p_e rfl (e_store_boxA rfl rfl rfl rfl (by exact Nat.le_of_ble_eq_true rfl) rfl rfl rfl) ?_
| refine p_e rfl (e_alloc rfl) ?_
| refine p_p (ps_box rfl rfl) ?_
| refine p_p (ps_build rfl rfl) ?_); refine ⟨_, (by dsimp only [bitvec_to_nat, Nat.reduceAdd, Nat.reduceMul, Nat.reduceBEq, reduceCtorEq]), ?_⟩)
| refine o_nil ?_
| refine g_condT rfl ?_
| refine krct ?_ ?_
| refine krB rfl ?_
| refine g_ret ?_)
  all_goals rfl
set_option maxRecDepth 100000 in
theorem sppT (rows : List (List Int)) (hok : okP rows) (hg : goodL rows = true) : PCalls Tryz.prog 32 [posetP rows] (.tup [posetP (ptsL rows), B true]) := by
  refine pcallsCT Tryz.func32 rfl Tryz.ntmps32 rfl ?_
  simp only [List.length_cons, List.length_nil, Nat.reduceAdd, Nat.reduceSub, List.replicate_succ, List.replicate_zero, List.cons_append, List.nil_append]
  have h1 := goodL_c rows hok
  rw [hg] at h1
  repeat' (first
| refine g_seq ?_
| refine g_region ?_
| (refine o_go rfl ?_; (first
| refine p_p (ps_call rfl rfl (by (repeat (first | refine ⟨PV.le_refl _, ?_⟩ | refine ⟨PV.le_nn _ _ _, ?_⟩ | refine ⟨PV.le_nil _, ?_⟩ | refine ⟨PV.le_any _, ?_⟩)); exact trivial) (h1)) ?_
| refine p_p (ps_call rfl rfl (by (repeat (first | refine ⟨PV.le_refl _, ?_⟩ | refine ⟨PV.le_nn _ _ _, ?_⟩ | refine ⟨PV.le_nil _, ?_⟩ | refine ⟨PV.le_any _, ?_⟩)); exact trivial) (spts_c rows hok)) ?_
| refine p_p (ps_assign rfl) ?_
| refine p_p (ps_load_agg rfl rfl (by exact Nat.le_of_ble_eq_true rfl)) ?_
| refine p_p (ps_not rfl rfl) ?_
| refine p_e rfl (e_store_boxA rfl rfl rfl rfl (by exact Nat.le_of_ble_eq_true rfl) rfl rfl rfl) ?_
| refine p_e rfl (e_alloc rfl) ?_
| refine p_p (ps_box rfl rfl) ?_); refine ⟨_, (by dsimp only [bitvec_to_nat, Nat.reduceAdd, Nat.reduceMul, Nat.reduceBEq, reduceCtorEq]), ?_⟩)
| refine o_nil ?_
| refine g_condF rfl ?_
| refine krct ?_ ?_
| refine krC rfl (by exact Nat.le_of_ble_eq_true rfl) ?_
| refine krB rfl ?_
| refine g_skip ?_
| refine g_ret ?_)
  all_goals rfl
end Go.Proofs.YtbfmjknngofleaaGreat
