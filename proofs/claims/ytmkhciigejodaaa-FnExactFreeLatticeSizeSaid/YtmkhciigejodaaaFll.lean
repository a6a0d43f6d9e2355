/- FreeLatticeSize: the program's side, and the law. -/
import Derived.Test.YtmkhciigejodaaaFlc
namespace Go.Proofs.Ytmkhciigejodaaa
open Go Go.Pv Go.Proofs
/-! ### The program's table -/
set_option maxRecDepth 100000 in
theorem flt_no (k : Int) (h : inB k 0 4 = false) : PCalls Try.prog 11 [I k] (.tup [I 0, B false]) := by
  refine pcalls2 Try.func11 rfl Try.ntmps11 rfl ?_
  simp only [List.length_cons, List.length_nil, Nat.reduceAdd, Nat.reduceSub, List.replicate_succ, List.replicate_zero, List.cons_append, List.nil_append]
  have hin : ¬ (0 ≤ k ∧ k ≤ 4) := fun hk => by unfold inB at h; rw [decide_eq_true hk.1, decide_eq_true hk.2] at h; cases h
  repeat' (first
| refine g_seq ?_
| refine g_block ?_
| refine g_region ?_
| refine g_region_draw (by kernel_rfl) (by kernel_rfl) ?_
| (refine o_go rfl ?_; (first
| refine p_p (ps_move rfl) ?_
| refine p_p (ps_assign rfl) ?_
| refine p_p (ps_load_cell rfl rfl) ?_
| refine p_p (ps_load_agg rfl rfl (by simp only [n_drop_z, n_drop_s, n_take_z, n_take_s, n_len_c, n_len_n, List.length_map]; omega)) ?_
| refine p_p (ps_load_agg rfl rfl (Nat.le_refl _)) ?_
| refine p_p (ps_index rfl rfl rfl (by omega) (by first | exact idx_I (by omega) | exact idx_B (by omega) | exact idx_ints (by omega) | exact idx_bools (by omega) | exact idx_intss (by omega) | rfl) (by exact rfl)) ?_
| refine p_p (ps_lenM rfl rfl rfl) ?_
| refine p_p (ps_len rfl rfl rfl) ?_
| refine p_p (ps_lss rfl rfl rfl) ?_
| refine p_p (ps_add rfl rfl rfl (by constructor <;> omega)) ?_
| refine p_p (ps_fieldAddr rfl rfl) ?_
| refine p_p (ps_extract rfl rfl rfl) ?_
| refine p_p (ps_not rfl rfl) ?_
| refine p_p (ps_pick rfl rfl) ?_
| refine p_p (ps_leq rfl rfl rfl) ?_
| refine p_p (ps_gtr rfl rfl rfl) ?_
| refine p_p (ps_geq rfl rfl rfl) ?_
| refine p_p (ps_eql rfl rfl rfl) ?_
| refine p_p (ps_neq rfl rfl rfl) ?_
| refine p_p (ps_sub rfl rfl rfl (by constructor <;> omega)) ?_
| refine p_p (ps_nilCheck rfl rfl) ?_
| refine p_p (ps_nilCheck_fn rfl rfl) ?_
| refine p_p (ps_field rfl rfl rfl) ?_
| refine p_p (ps_load_box rfl rfl rfl rfl) ?_
| refine p_p (ps_load_boxA rfl rfl rfl (by simp only [n_drop_z, n_drop_s, n_take_z, n_take_s, n_len_c, n_len_n, List.length_map]; omega)) ?_
| refine p_p (ps_load_row rfl rfl rfl (by omega)) ?_
| refine p_p (ps_fieldAddr_hat rfl rfl) ?_
| refine p_p (ps_index_mut rfl rfl rfl rfl (by omega) (by simp only [List.length_map, List.length_append, List.length_take, List.length_replicate, List.length_set]; omega)) ?_
| refine p_e rfl (e_make1 rfl rfl rfl (by omega) (by omega) (by omega) rfl rfl) ?_
| refine p_e rfl (e_store_arr rfl rfl rfl rfl (by simp only [List.length_map, List.length_append, List.length_take, List.length_replicate, List.length_set]; omega) rfl rfl) ?_
| refine p_e rfl (e_store_boxC rfl rfl rfl rfl (by simp only [n_drop_z, n_drop_s, n_take_z, n_take_s, n_len_c, n_len_n, List.length_map]; omega) rfl rfl) ?_
| refine p_e rfl (e_store_boxA rfl rfl rfl rfl (by simp only [n_drop_z, n_drop_s, n_take_z, n_take_s, n_len_c, n_len_n, List.length_map]; omega) rfl rfl rfl) ?_
| refine p_e rfl (e_alloc rfl) ?_
| refine p_e rfl (e_lit0 rfl (by decide)) ?_
| refine p_e rfl (e_append rfl rfl rfl rfl rfl rfl (by first | exact one_one rfl | exact one_map (fun _ => rfl) _) rfl (by simp only [List.length_cons, List.length_nil, List.length_map, List.length_append]; omega) (by simp only [List.length_cons, List.length_nil, List.length_map, List.length_append]; omega)) ?_
| refine p_p (ps_box rfl rfl) ?_
| refine p_p (ps_makeFunc rfl rfl rfl) ?_
| refine p_p (ps_buildSlice rfl rfl rfl rfl (by simp [elemsOk, PV.flat, PV.one]) (by decide) (by decide)) ?_
| refine p_p (ps_build rfl rfl) ?_); refine ⟨_, (by dsimp only [St.put, St.setObj, St.ev, killP, killP1, killH, mapHO, n_set_z, n_set_s, n_map_c, n_map_n, getD_z, getD_s, n_toNat, n_cond_t, n_cond_f, n_len_c, n_len_n, n_app_c, n_app_n, n_take_s, n_take_z, n_drop_s, n_drop_z, n_get_z, n_get_s, view, view1, elems, Nat.reduceAdd, Nat.reduceMul, Nat.zero_add, Nat.add_zero, Nat.reduceBEq, Bool.not_true, Bool.not_false, Nat.one_ne_zero, Nat.mul_one, reduceCtorEq]), ?_⟩)
| refine o_nil ?_
| (refine o_s rfl ?_; refine ⟨_, (by dsimp only [St.put, St.setObj, St.ev, killP, killP1, killH, mapHO, n_set_z, n_set_s, n_map_c, n_map_n, getD_z, getD_s, n_toNat, n_cond_t, n_cond_f, n_len_c, n_len_n, n_app_c, n_app_n, n_take_s, n_take_z, n_drop_s, n_drop_z, n_get_z, n_get_s, view, view1, elems, Nat.reduceAdd, Nat.reduceMul, Nat.zero_add, Nat.add_zero, Nat.reduceBEq, Bool.not_true, Bool.not_false, Nat.one_ne_zero, Nat.mul_one, reduceCtorEq]), ?_⟩)
| (refine o_splitD rfl rfl rfl (fun hc => ?_) (fun hc => ?_) <;> first | (exfalso; omega) | dsimp only [List.set_cons_zero, List.set_cons_succ])
| (refine o_splitN rfl rfl rfl (fun hc => ?_) (fun hc => ?_) <;> dsimp only [List.set_cons_zero, List.set_cons_succ])
| (refine o_splitA rfl rfl rfl (fun hc => ?_) (fun hc => ?_) <;> dsimp only [List.set_cons_zero, List.set_cons_succ])
| refine g_condT rfl ?_
| refine g_condF rfl ?_
| (refine g_condN rfl (fun hc => ?_) (fun hc => ?_) <;> try (exfalso; omega))
| (refine g_condD rfl (fun hc => ?_) (fun hc => ?_) <;> try (exfalso; omega))
| (refine g_condNB rfl (fun hc => ?_) (fun hc => ?_))
| (refine g_cond rfl (fun hc => ?_) (fun hc => ?_))
| refine kr1 ?_
| refine kr2 ?_ ?_
| refine kr3 ?_ ?_ ?_
| exact krAny
| refine krc ?_
| refine krct ?_ ?_
| refine krC rfl (by simp only [n_drop_z, n_drop_s, n_take_z, n_take_s, n_len_c, n_len_n, List.length_map]; omega) ?_
| refine krC_any rfl (by simp only [n_drop_z, n_drop_s, n_take_z, n_take_s, n_len_c, n_len_n, List.length_map]; omega)
| refine krB rfl ?_
| refine krI rfl ?_
| refine krS rfl ?_
| refine krN rfl ?_
| refine krA rfl ?_
| refine krP rfl ?_
| refine g_skip ?_
| refine g_exit ?_
| refine g_ret ?_)
  all_goals first | rfl | (exfalso; omega)
set_option maxRecDepth 100000 in
theorem flt_yes (n : Nat) (hn : n ≤ 4) : PCalls Try.prog 11 [I (n : Int)] (.tup [I (tab.getD n 0), B true]) := by
  refine pcalls2 Try.func11 rfl Try.ntmps11 rfl ?_
  simp only [List.length_cons, List.length_nil, Nat.reduceAdd, Nat.reduceSub, List.replicate_succ, List.replicate_zero, List.cons_append, List.nil_append]
  repeat' (first
| refine g_seq ?_
| refine g_block ?_
| refine g_region ?_
| refine g_region_draw (by kernel_rfl) (by kernel_rfl) ?_
| (refine o_go rfl ?_; (first
| refine p_p (ps_buildArr rfl rfl) ?_
| refine p_p (ps_elem rfl rfl rfl (by omega) (by omega) (by exact idx_I (l := tab) (by simp only [n_toNat]; show n < 5; omega))) ?_
| refine p_p (ps_move rfl) ?_
| refine p_p (ps_assign rfl) ?_
| refine p_p (ps_load_cell rfl rfl) ?_
| refine p_p (ps_load_agg rfl rfl (by simp only [n_drop_z, n_drop_s, n_take_z, n_take_s, n_len_c, n_len_n, List.length_map]; omega)) ?_
| refine p_p (ps_load_agg rfl rfl (Nat.le_refl _)) ?_
| refine p_p (ps_index rfl rfl rfl (by omega) (by first | exact idx_I (by omega) | exact idx_B (by omega) | exact idx_ints (by omega) | exact idx_bools (by omega) | exact idx_intss (by omega) | rfl) (by exact rfl)) ?_
| refine p_p (ps_lenM rfl rfl rfl) ?_
| refine p_p (ps_len rfl rfl rfl) ?_
| refine p_p (ps_lss rfl rfl rfl) ?_
| refine p_p (ps_add rfl rfl rfl (by constructor <;> omega)) ?_
| refine p_p (ps_fieldAddr rfl rfl) ?_
| refine p_p (ps_extract rfl rfl rfl) ?_
| refine p_p (ps_not rfl rfl) ?_
| refine p_p (ps_pick rfl rfl) ?_
| refine p_p (ps_leq rfl rfl rfl) ?_
| refine p_p (ps_gtr rfl rfl rfl) ?_
| refine p_p (ps_geq rfl rfl rfl) ?_
| refine p_p (ps_eql rfl rfl rfl) ?_
| refine p_p (ps_neq rfl rfl rfl) ?_
| refine p_p (ps_sub rfl rfl rfl (by constructor <;> omega)) ?_
| refine p_p (ps_nilCheck rfl rfl) ?_
| refine p_p (ps_nilCheck_fn rfl rfl) ?_
| refine p_p (ps_field rfl rfl rfl) ?_
| refine p_p (ps_load_box rfl rfl rfl rfl) ?_
| refine p_p (ps_load_boxA rfl rfl rfl (by simp only [n_drop_z, n_drop_s, n_take_z, n_take_s, n_len_c, n_len_n, List.length_map]; omega)) ?_
| refine p_p (ps_load_row rfl rfl rfl (by omega)) ?_
| refine p_p (ps_fieldAddr_hat rfl rfl) ?_
| refine p_p (ps_index_mut rfl rfl rfl rfl (by omega) (by simp only [List.length_map, List.length_append, List.length_take, List.length_replicate, List.length_set]; omega)) ?_
| refine p_e rfl (e_make1 rfl rfl rfl (by omega) (by omega) (by omega) rfl rfl) ?_
| refine p_e rfl (e_store_arr rfl rfl rfl rfl (by simp only [List.length_map, List.length_append, List.length_take, List.length_replicate, List.length_set]; omega) rfl rfl) ?_
| refine p_e rfl (e_store_boxC rfl rfl rfl rfl (by simp only [n_drop_z, n_drop_s, n_take_z, n_take_s, n_len_c, n_len_n, List.length_map]; omega) rfl rfl) ?_
| refine p_e rfl (e_store_boxA rfl rfl rfl rfl (by simp only [n_drop_z, n_drop_s, n_take_z, n_take_s, n_len_c, n_len_n, List.length_map]; omega) rfl rfl rfl) ?_
| refine p_e rfl (e_alloc rfl) ?_
| refine p_e rfl (e_lit0 rfl (by decide)) ?_
| refine p_e rfl (e_append rfl rfl rfl rfl rfl rfl (by first | exact one_one rfl | exact one_map (fun _ => rfl) _) rfl (by simp only [List.length_cons, List.length_nil, List.length_map, List.length_append]; omega) (by simp only [List.length_cons, List.length_nil, List.length_map, List.length_append]; omega)) ?_
| refine p_p (ps_box rfl rfl) ?_
| refine p_p (ps_makeFunc rfl rfl rfl) ?_
| refine p_p (ps_buildSlice rfl rfl rfl rfl (by simp [elemsOk, PV.flat, PV.one]) (by decide) (by decide)) ?_
| refine p_p (ps_build rfl rfl) ?_); refine ⟨_, (by dsimp only [St.put, St.setObj, St.ev, killP, killP1, killH, mapHO, n_set_z, n_set_s, n_map_c, n_map_n, getD_z, getD_s, n_toNat, n_cond_t, n_cond_f, n_len_c, n_len_n, n_app_c, n_app_n, n_take_s, n_take_z, n_drop_s, n_drop_z, n_get_z, n_get_s, view, view1, elems, Nat.reduceAdd, Nat.reduceMul, Nat.zero_add, Nat.add_zero, Nat.reduceBEq, Bool.not_true, Bool.not_false, Nat.one_ne_zero, Nat.mul_one, reduceCtorEq]), ?_⟩)
| refine o_nil ?_
| (refine o_s rfl ?_; refine ⟨_, (by dsimp only [St.put, St.setObj, St.ev, killP, killP1, killH, mapHO, n_set_z, n_set_s, n_map_c, n_map_n, getD_z, getD_s, n_toNat, n_cond_t, n_cond_f, n_len_c, n_len_n, n_app_c, n_app_n, n_take_s, n_take_z, n_drop_s, n_drop_z, n_get_z, n_get_s, view, view1, elems, Nat.reduceAdd, Nat.reduceMul, Nat.zero_add, Nat.add_zero, Nat.reduceBEq, Bool.not_true, Bool.not_false, Nat.one_ne_zero, Nat.mul_one, reduceCtorEq]), ?_⟩)
| (refine o_splitD rfl rfl rfl (fun hc => ?_) (fun hc => ?_) <;> first | (exfalso; omega) | dsimp only [List.set_cons_zero, List.set_cons_succ])
| (refine o_splitN rfl rfl rfl (fun hc => ?_) (fun hc => ?_) <;> dsimp only [List.set_cons_zero, List.set_cons_succ])
| (refine o_splitA rfl rfl rfl (fun hc => ?_) (fun hc => ?_) <;> dsimp only [List.set_cons_zero, List.set_cons_succ])
| refine g_condT rfl ?_
| refine g_condF rfl ?_
| (refine g_condN rfl (fun hc => ?_) (fun hc => ?_) <;> try (exfalso; omega))
| (refine g_condD rfl (fun hc => ?_) (fun hc => ?_) <;> try (exfalso; omega))
| (refine g_condNB rfl (fun hc => ?_) (fun hc => ?_))
| (refine g_cond rfl (fun hc => ?_) (fun hc => ?_))
| refine kr1 ?_
| refine kr2 ?_ ?_
| refine kr3 ?_ ?_ ?_
| exact krAny
| refine krc ?_
| refine krct ?_ ?_
| refine krC rfl (by simp only [n_drop_z, n_drop_s, n_take_z, n_take_s, n_len_c, n_len_n, List.length_map]; omega) ?_
| refine krC_any rfl (by simp only [n_drop_z, n_drop_s, n_take_z, n_take_s, n_len_c, n_len_n, List.length_map]; omega)
| refine krB rfl ?_
| refine krI rfl ?_
| refine krS rfl ?_
| refine krN rfl ?_
| refine krA rfl ?_
| refine krP rfl ?_
| refine g_skip ?_
| refine g_exit ?_
| refine g_ret ?_)
  all_goals first | rfl | (exfalso; omega)

/-! ### The law -/
set_option maxRecDepth 100000 in
theorem law_fls (k : Int) : PCalls Try.prog 3 [I k] (B true) := by
  refine pcalls1 Try.func3 rfl Try.ntmps3 rfl ?_
  simp only [List.length_cons, List.length_nil, Nat.reduceAdd, Nat.reduceSub, List.replicate_succ, List.replicate_zero, List.cons_append, List.nil_append]
  cases h : inB k 0 4 with
  | false =>
    have h1 := fls_no k h
    have h2 := flt_no k h
    repeat' (first
| refine g_seq ?_
| refine g_block ?_
| refine g_region ?_
| refine g_region_draw (by kernel_rfl) (by kernel_rfl) ?_
| (refine o_go rfl ?_; (first
| refine p_p (ps_call rfl rfl (by repeat (first | exact trivial | refine ⟨PV.le_refl _, ?_⟩ | refine ⟨PV.le_nn _ _ _, ?_⟩ | refine ⟨PV.le_nil _, ?_⟩ | refine ⟨PV.le_any _, ?_⟩)) (h1)) ?_
| refine p_p (ps_call rfl rfl (by repeat (first | exact trivial | refine ⟨PV.le_refl _, ?_⟩ | refine ⟨PV.le_nn _ _ _, ?_⟩ | refine ⟨PV.le_nil _, ?_⟩ | refine ⟨PV.le_any _, ?_⟩)) (h2)) ?_
| refine p_p (ps_neqB rfl rfl rfl) ?_
| refine p_p (ps_move rfl) ?_
| refine p_p (ps_assign rfl) ?_
| refine p_p (ps_load_cell rfl rfl) ?_
| refine p_p (ps_load_agg rfl rfl (by simp only [n_drop_z, n_drop_s, n_take_z, n_take_s, n_len_c, n_len_n, List.length_map]; omega)) ?_
| refine p_p (ps_load_agg rfl rfl (Nat.le_refl _)) ?_
| refine p_p (ps_index rfl rfl rfl (by omega) (by first | exact idx_I (by omega) | exact idx_B (by omega) | exact idx_ints (by omega) | exact idx_bools (by omega) | exact idx_intss (by omega) | rfl) (by exact rfl)) ?_
| refine p_p (ps_lenM rfl rfl rfl) ?_
| refine p_p (ps_len rfl rfl rfl) ?_
| refine p_p (ps_lss rfl rfl rfl) ?_
| refine p_p (ps_add rfl rfl rfl (by constructor <;> omega)) ?_
| refine p_p (ps_fieldAddr rfl rfl) ?_
| refine p_p (ps_extract rfl rfl rfl) ?_
| refine p_p (ps_not rfl rfl) ?_
| refine p_p (ps_pick rfl rfl) ?_
| refine p_p (ps_leq rfl rfl rfl) ?_
| refine p_p (ps_gtr rfl rfl rfl) ?_
| refine p_p (ps_geq rfl rfl rfl) ?_
| refine p_p (ps_eql rfl rfl rfl) ?_
| refine p_p (ps_neq rfl rfl rfl) ?_
| refine p_p (ps_sub rfl rfl rfl (by constructor <;> omega)) ?_
| refine p_p (ps_nilCheck rfl rfl) ?_
| refine p_p (ps_nilCheck_fn rfl rfl) ?_
| refine p_p (ps_field rfl rfl rfl) ?_
| refine p_p (ps_load_box rfl rfl rfl rfl) ?_
| refine p_p (ps_load_boxA rfl rfl rfl (by simp only [n_drop_z, n_drop_s, n_take_z, n_take_s, n_len_c, n_len_n, List.length_map]; omega)) ?_
| refine p_p (ps_load_row rfl rfl rfl (by omega)) ?_
| refine p_p (ps_fieldAddr_hat rfl rfl) ?_
| refine p_p (ps_index_mut rfl rfl rfl rfl (by omega) (by simp only [List.length_map, List.length_append, List.length_take, List.length_replicate, List.length_set]; omega)) ?_
| refine p_e rfl (e_make1 rfl rfl rfl (by omega) (by omega) (by omega) rfl rfl) ?_
| refine p_e rfl (e_store_arr rfl rfl rfl rfl (by simp only [List.length_map, List.length_append, List.length_take, List.length_replicate, List.length_set]; omega) rfl rfl) ?_
| refine p_e rfl (e_store_boxC rfl rfl rfl rfl (by simp only [n_drop_z, n_drop_s, n_take_z, n_take_s, n_len_c, n_len_n, List.length_map]; omega) rfl rfl) ?_
| refine p_e rfl (e_store_boxA rfl rfl rfl rfl (by simp only [n_drop_z, n_drop_s, n_take_z, n_take_s, n_len_c, n_len_n, List.length_map]; omega) rfl rfl rfl) ?_
| refine p_e rfl (e_alloc rfl) ?_
| refine p_e rfl (e_lit0 rfl (by decide)) ?_
| refine p_e rfl (e_append rfl rfl rfl rfl rfl rfl (by first | exact one_one rfl | exact one_map (fun _ => rfl) _) rfl (by simp only [List.length_cons, List.length_nil, List.length_map, List.length_append]; omega) (by simp only [List.length_cons, List.length_nil, List.length_map, List.length_append]; omega)) ?_
| refine p_p (ps_box rfl rfl) ?_
| refine p_p (ps_makeFunc rfl rfl rfl) ?_
| refine p_p (ps_buildSlice rfl rfl rfl rfl (by simp [elemsOk, PV.flat, PV.one]) (by decide) (by decide)) ?_
| refine p_p (ps_build rfl rfl) ?_); refine ⟨_, (by dsimp only [St.put, St.setObj, St.ev, killP, killP1, killH, mapHO, n_set_z, n_set_s, n_map_c, n_map_n, getD_z, getD_s, n_toNat, n_cond_t, n_cond_f, n_len_c, n_len_n, n_app_c, n_app_n, n_take_s, n_take_z, n_drop_s, n_drop_z, n_get_z, n_get_s, view, view1, elems, Nat.reduceAdd, Nat.reduceMul, Nat.zero_add, Nat.add_zero, Nat.reduceBEq, Bool.not_true, Bool.not_false, Nat.one_ne_zero, Nat.mul_one, reduceCtorEq]), ?_⟩)
| refine o_nil ?_
| (refine o_s rfl ?_; refine ⟨_, (by dsimp only [St.put, St.setObj, St.ev, killP, killP1, killH, mapHO, n_set_z, n_set_s, n_map_c, n_map_n, getD_z, getD_s, n_toNat, n_cond_t, n_cond_f, n_len_c, n_len_n, n_app_c, n_app_n, n_take_s, n_take_z, n_drop_s, n_drop_z, n_get_z, n_get_s, view, view1, elems, Nat.reduceAdd, Nat.reduceMul, Nat.zero_add, Nat.add_zero, Nat.reduceBEq, Bool.not_true, Bool.not_false, Nat.one_ne_zero, Nat.mul_one, reduceCtorEq]), ?_⟩)
| (refine o_splitD rfl rfl rfl (fun hc => ?_) (fun hc => ?_) <;> first | (exfalso; omega) | dsimp only [List.set_cons_zero, List.set_cons_succ])
| (refine o_splitN rfl rfl rfl (fun hc => ?_) (fun hc => ?_) <;> dsimp only [List.set_cons_zero, List.set_cons_succ])
| (refine o_splitA rfl rfl rfl (fun hc => ?_) (fun hc => ?_) <;> dsimp only [List.set_cons_zero, List.set_cons_succ])
| refine g_condT rfl ?_
| refine g_condF rfl ?_
| (refine g_condN rfl (fun hc => ?_) (fun hc => ?_) <;> try (exfalso; omega))
| (refine g_condD rfl (fun hc => ?_) (fun hc => ?_) <;> try (exfalso; omega))
| (refine g_condNB rfl (fun hc => ?_) (fun hc => ?_))
| (refine g_cond rfl (fun hc => ?_) (fun hc => ?_))
| refine kr1 ?_
| refine kr2 ?_ ?_
| refine kr3 ?_ ?_ ?_
| exact krAny
| refine krc ?_
| refine krct ?_ ?_
| refine krC rfl (by simp only [n_drop_z, n_drop_s, n_take_z, n_take_s, n_len_c, n_len_n, List.length_map]; omega) ?_
| refine krC_any rfl (by simp only [n_drop_z, n_drop_s, n_take_z, n_take_s, n_len_c, n_len_n, List.length_map]; omega)
| refine krB rfl ?_
| refine krI rfl ?_
| refine krS rfl ?_
| refine krN rfl ?_
| refine krA rfl ?_
| refine krP rfl ?_
| refine g_skip ?_
| refine g_exit ?_
| refine g_ret ?_)
    all_goals first | rfl | (exfalso; simp at *; done)
  | true =>
    obtain ⟨n, rfl, hn⟩ : ∃ n : Nat, k = (n : Int) ∧ n ≤ 4 := by
      unfold inB at h
      simp only [Bool.and_eq_true, decide_eq_true_eq] at h
      exact ⟨k.toNat, by omega, by omega⟩
    have h1 := fls_yes n hn
    have h2 := flt_yes n hn
    rw [law_tab n hn] at h1
    repeat' (first
| refine g_seq ?_
| refine g_block ?_
| refine g_region ?_
| refine g_region_draw (by kernel_rfl) (by kernel_rfl) ?_
| (refine o_go rfl ?_; (first
| refine p_p (ps_call rfl rfl (by repeat (first | exact trivial | refine ⟨PV.le_refl _, ?_⟩ | refine ⟨PV.le_nn _ _ _, ?_⟩ | refine ⟨PV.le_nil _, ?_⟩ | refine ⟨PV.le_any _, ?_⟩)) (h1)) ?_
| refine p_p (ps_call rfl rfl (by repeat (first | exact trivial | refine ⟨PV.le_refl _, ?_⟩ | refine ⟨PV.le_nn _ _ _, ?_⟩ | refine ⟨PV.le_nil _, ?_⟩ | refine ⟨PV.le_any _, ?_⟩)) (h2)) ?_
| refine p_p (ps_neqB rfl rfl rfl) ?_
| refine p_p (ps_move rfl) ?_
| refine p_p (ps_assign rfl) ?_
| refine p_p (ps_load_cell rfl rfl) ?_
| refine p_p (ps_load_agg rfl rfl (by simp only [n_drop_z, n_drop_s, n_take_z, n_take_s, n_len_c, n_len_n, List.length_map]; omega)) ?_
| refine p_p (ps_load_agg rfl rfl (Nat.le_refl _)) ?_
| refine p_p (ps_index rfl rfl rfl (by omega) (by first | exact idx_I (by omega) | exact idx_B (by omega) | exact idx_ints (by omega) | exact idx_bools (by omega) | exact idx_intss (by omega) | rfl) (by exact rfl)) ?_
| refine p_p (ps_lenM rfl rfl rfl) ?_
| refine p_p (ps_len rfl rfl rfl) ?_
| refine p_p (ps_lss rfl rfl rfl) ?_
| refine p_p (ps_add rfl rfl rfl (by constructor <;> omega)) ?_
| refine p_p (ps_fieldAddr rfl rfl) ?_
| refine p_p (ps_extract rfl rfl rfl) ?_
| refine p_p (ps_not rfl rfl) ?_
| refine p_p (ps_pick rfl rfl) ?_
| refine p_p (ps_leq rfl rfl rfl) ?_
| refine p_p (ps_gtr rfl rfl rfl) ?_
| refine p_p (ps_geq rfl rfl rfl) ?_
| refine p_p (ps_eql rfl rfl rfl) ?_
| refine p_p (ps_neq rfl rfl rfl) ?_
| refine p_p (ps_sub rfl rfl rfl (by constructor <;> omega)) ?_
| refine p_p (ps_nilCheck rfl rfl) ?_
| refine p_p (ps_nilCheck_fn rfl rfl) ?_
| refine p_p (ps_field rfl rfl rfl) ?_
| refine p_p (ps_load_box rfl rfl rfl rfl) ?_
| refine p_p (ps_load_boxA rfl rfl rfl (by simp only [n_drop_z, n_drop_s, n_take_z, n_take_s, n_len_c, n_len_n, List.length_map]; omega)) ?_
| refine p_p (ps_load_row rfl rfl rfl (by omega)) ?_
| refine p_p (ps_fieldAddr_hat rfl rfl) ?_
| refine p_p (ps_index_mut rfl rfl rfl rfl (by omega) (by simp only [List.length_map, List.length_append, List.length_take, List.length_replicate, List.length_set]; omega)) ?_
| refine p_e rfl (e_make1 rfl rfl rfl (by omega) (by omega) (by omega) rfl rfl) ?_
| refine p_e rfl (e_store_arr rfl rfl rfl rfl (by simp only [List.length_map, List.length_append, List.length_take, List.length_replicate, List.length_set]; omega) rfl rfl) ?_
| refine p_e rfl (e_store_boxC rfl rfl rfl rfl (by simp only [n_drop_z, n_drop_s, n_take_z, n_take_s, n_len_c, n_len_n, List.length_map]; omega) rfl rfl) ?_
| refine p_e rfl (e_store_boxA rfl rfl rfl rfl (by simp only [n_drop_z, n_drop_s, n_take_z, n_take_s, n_len_c, n_len_n, List.length_map]; omega) rfl rfl rfl) ?_
| refine p_e rfl (e_alloc rfl) ?_
| refine p_e rfl (e_lit0 rfl (by decide)) ?_
| refine p_e rfl (e_append rfl rfl rfl rfl rfl rfl (by first | exact one_one rfl | exact one_map (fun _ => rfl) _) rfl (by simp only [List.length_cons, List.length_nil, List.length_map, List.length_append]; omega) (by simp only [List.length_cons, List.length_nil, List.length_map, List.length_append]; omega)) ?_
| refine p_p (ps_box rfl rfl) ?_
| refine p_p (ps_makeFunc rfl rfl rfl) ?_
| refine p_p (ps_buildSlice rfl rfl rfl rfl (by simp [elemsOk, PV.flat, PV.one]) (by decide) (by decide)) ?_
| refine p_p (ps_build rfl rfl) ?_); refine ⟨_, (by dsimp only [St.put, St.setObj, St.ev, killP, killP1, killH, mapHO, n_set_z, n_set_s, n_map_c, n_map_n, getD_z, getD_s, n_toNat, n_cond_t, n_cond_f, n_len_c, n_len_n, n_app_c, n_app_n, n_take_s, n_take_z, n_drop_s, n_drop_z, n_get_z, n_get_s, view, view1, elems, Nat.reduceAdd, Nat.reduceMul, Nat.zero_add, Nat.add_zero, Nat.reduceBEq, Bool.not_true, Bool.not_false, Nat.one_ne_zero, Nat.mul_one, reduceCtorEq]), ?_⟩)
| refine o_nil ?_
| (refine o_s rfl ?_; refine ⟨_, (by dsimp only [St.put, St.setObj, St.ev, killP, killP1, killH, mapHO, n_set_z, n_set_s, n_map_c, n_map_n, getD_z, getD_s, n_toNat, n_cond_t, n_cond_f, n_len_c, n_len_n, n_app_c, n_app_n, n_take_s, n_take_z, n_drop_s, n_drop_z, n_get_z, n_get_s, view, view1, elems, Nat.reduceAdd, Nat.reduceMul, Nat.zero_add, Nat.add_zero, Nat.reduceBEq, Bool.not_true, Bool.not_false, Nat.one_ne_zero, Nat.mul_one, reduceCtorEq]), ?_⟩)
| (refine o_splitD rfl rfl rfl (fun hc => ?_) (fun hc => ?_) <;> first | (exfalso; omega) | dsimp only [List.set_cons_zero, List.set_cons_succ])
| (refine o_splitN rfl rfl rfl (fun hc => ?_) (fun hc => ?_) <;> dsimp only [List.set_cons_zero, List.set_cons_succ])
| (refine o_splitA rfl rfl rfl (fun hc => ?_) (fun hc => ?_) <;> dsimp only [List.set_cons_zero, List.set_cons_succ])
| refine g_condT rfl ?_
| refine g_condF rfl ?_
| (refine g_condN rfl (fun hc => ?_) (fun hc => ?_) <;> try (exfalso; omega))
| (refine g_condD rfl (fun hc => ?_) (fun hc => ?_) <;> try (exfalso; omega))
| (refine g_condNB rfl (fun hc => ?_) (fun hc => ?_))
| (refine g_cond rfl (fun hc => ?_) (fun hc => ?_))
| refine kr1 ?_
| refine kr2 ?_ ?_
| refine kr3 ?_ ?_ ?_
| exact krAny
| refine krc ?_
| refine krct ?_ ?_
| refine krC rfl (by simp only [n_drop_z, n_drop_s, n_take_z, n_take_s, n_len_c, n_len_n, List.length_map]; omega) ?_
| refine krC_any rfl (by simp only [n_drop_z, n_drop_s, n_take_z, n_take_s, n_len_c, n_len_n, List.length_map]; omega)
| refine krB rfl ?_
| refine krI rfl ?_
| refine krS rfl ?_
| refine krN rfl ?_
| refine krA rfl ?_
| refine krP rfl ?_
| refine g_skip ?_
| refine g_exit ?_
| refine g_ret ?_)
    all_goals first | rfl | (exfalso; simp at *; done)
end Go.Proofs.Ytmkhciigejodaaa
