/- Walks: the drawn arguments of the laws over lattices. -/
import Derived.Test.YtbfmjknngofleaaGreatKWb
namespace Go.Proofs.YtbfmjknngofleaaGreat
open Go Go.Pv Go.Proofs

structure bytesOk (l : List Int) : Prop where
  len : l.length ≤ 65536
  byte : ∀ i, i < l.length → 0 ≤ l.getD i 0 ∧ l.getD i 0 ≤ 255
abbrev cu0 (l : List Int) : Cu := ⟨l, 0, 0⟩
theorem cu0_ok {l : List Int} (h : bytesOk l) : (cu0 l).ok 0 := ⟨h.len, h.byte, Int.le_refl _, Int.le_refl _, Int.le_refl _⟩
set_option maxHeartbeats 1000000 in
set_option maxRecDepth 100000 in
theorem drawIsD_c {l : List Int} (h : bytesOk l) : ∃ rows, okP rows ∧ rows.length ≤ 30 ∧ PCalls Tryz.prog 46 [bytesP l] (posetP rows) := by
  obtain ⟨c', rows, -, hok, hl, hL⟩ := lattice_L (cu0_ok h) (by omega)
  refine ⟨rows, hok, hl, ?_⟩
  refine pcallsC Tryz.func46 rfl Tryz.ntmps46 rfl ?_
  simp only [List.length_cons, List.length_nil, Nat.reduceAdd, Nat.reduceSub, List.replicate_succ, List.replicate_zero, List.cons_append, List.nil_append]
  repeat' (first
| refine g_seq ?_
| refine g_region ?_
| (refine o_go rfl ?_; (first
| refine p_e rfl (e_box rfl rfl) ?_
| refine p_e rfl (e_callL (n := 1) rfl rfl rfl (by (repeat (first | refine ⟨leS_refl _, ?_⟩ | refine ⟨leS_nn _ _ _, ?_⟩ | refine ⟨leS_nil _, ?_⟩ | refine ⟨leS_any _, ?_⟩)); exact trivial) rfl (by rfl) (by first | exact ⟨rfl, rfl, rfl, by simp⟩ | exact ⟨rfl, rfl, by simp⟩ | trivial) (hL)) ?_
| refine p_p (ps_move rfl) ?_
| refine p_p (ps_assign rfl) ?_
| refine p_e rfl (e_store_boxA rfl rfl rfl rfl (by exact Nat.le_of_ble_eq_true rfl) rfl rfl rfl) ?_
| refine p_e rfl (e_alloc rfl) ?_
| refine p_p (ps_build rfl rfl) ?_); refine ⟨_, (by dsimp only [St.put, St.setObj, St.ev, killP, killA, killP1, killH, mapHO, renP, renA, ren1, killG, killGA, killG1, krowP, krowA, krow1, lendP, lendA, lend1, unv, pinP, pin1, elemsM, viewM, viewN, viewV, n_set_z, n_set_s, n_map_c, n_map_n, getD_z, getD_s, n_toNat, n_cond_t, n_cond_f, n_len_c, n_len_n, n_app_c, n_app_n, n_take_s, n_take_z, n_drop_s, n_drop_z, n_get_z, n_get_s, view, viewA, view1, elems, Nat.reduceAdd, Nat.reduceMul, Nat.zero_add, Nat.add_zero, Nat.reduceBEq, Bool.not_true, Bool.not_false, Nat.one_ne_zero, Nat.mul_one, reduceCtorEq]), ?_⟩)
| refine o_nil ?_
| refine krc ?_
| refine krC rfl (by exact Nat.le_of_ble_eq_true rfl) ?_
| refine g_ret ?_)
  rfl
set_option maxRecDepth 100000 in
theorem drawJP_c {l : List Int} (h : bytesOk l) : ∃ rows, okP rows ∧ rows.length ≤ 30 ∧ PCalls Tryz.prog 6 [bytesP l] (posetP rows) := by
  obtain ⟨rows, hok, hl, hc⟩ := drawIsD_c h
  refine ⟨rows, hok, hl, ?_⟩
  refine pcallsC Tryz.func6 rfl Tryz.ntmps6 rfl ?_
  simp only [List.length_cons, List.length_nil, Nat.reduceAdd, Nat.reduceSub, List.replicate_succ, List.replicate_zero, List.cons_append, List.nil_append]
  repeat' (first
| refine g_seq ?_
| refine g_region ?_
| (refine o_go rfl ?_; (first
| refine p_p (ps_call rfl rfl (by (repeat (first | refine ⟨PV.le_refl _, ?_⟩ | refine ⟨PV.le_nn _ _ _, ?_⟩ | refine ⟨PV.le_nil _, ?_⟩ | refine ⟨PV.le_any _, ?_⟩)); exact trivial) (hc)) ?_
| refine p_p (ps_move rfl) ?_
| refine p_e rfl (e_store_boxA rfl rfl rfl rfl (by exact Nat.le_of_ble_eq_true rfl) rfl rfl rfl) ?_
| refine p_e rfl (e_alloc rfl) ?_); refine ⟨_, (by dsimp only [St.put, St.setObj, St.ev, killP, killA, killP1, killH, mapHO, renP, renA, ren1, killG, killGA, killG1, krowP, krowA, krow1, lendP, lendA, lend1, unv, pinP, pin1, elemsM, viewM, viewN, viewV, n_set_z, n_set_s, n_map_c, n_map_n, getD_z, getD_s, n_toNat, n_cond_t, n_cond_f, n_len_c, n_len_n, n_app_c, n_app_n, n_take_s, n_take_z, n_drop_s, n_drop_z, n_get_z, n_get_s, view, viewA, view1, elems, Nat.reduceAdd, Nat.reduceMul, Nat.zero_add, Nat.add_zero, Nat.reduceBEq, Bool.not_true, Bool.not_false, Nat.one_ne_zero, Nat.mul_one, reduceCtorEq]), ?_⟩)
| refine o_nil ?_
| refine krc ?_
| refine krC rfl (by exact Nat.le_of_ble_eq_true rfl) ?_
| refine g_ret ?_)
  rfl
set_option maxRecDepth 100000 in
theorem drawFls_c {l : List Int} (h : bytesOk l) : ∃ k : Int, k ∈ [0, 1, 2, 3, 2, 1, 4, -1, 5] ∧ PCalls Tryz.prog 25 [bytesP l] (I k) := by
  obtain ⟨c', k, -, hk, hL⟩ := among_L (cu0_ok h) (by omega) [0, 1, 2, 3, 2, 1, 4, -1, 5] (by simp) (by simp)
  refine ⟨k, hk, ?_⟩
  refine pcalls1 Tryz.func25 rfl Tryz.ntmps25 rfl ?_
  simp only [List.length_cons, List.length_nil, Nat.reduceAdd, Nat.reduceSub, List.replicate_succ, List.replicate_zero, List.cons_append, List.nil_append]
  repeat' (first
| refine g_seq ?_
| refine g_region ?_
| (refine o_go rfl ?_; (first
| refine p_e rfl (e_box rfl rfl) ?_
| refine p_p (ps_lits rfl (by exact rfl) (by exact rfl) (by repeat (first | exact trivial | refine ⟨⟨_, rfl, rfl⟩, ?_⟩)) (by decide) (by decide)) ?_
| refine p_e rfl (e_callL (n := 0) rfl rfl rfl (by (repeat (first | refine ⟨leS_refl _, ?_⟩ | refine ⟨leS_nn _ _ _, ?_⟩ | refine ⟨leS_nil _, ?_⟩ | refine ⟨leS_any _, ?_⟩)); exact trivial) rfl (by rfl) (by first | exact ⟨rfl, rfl, rfl, by simp⟩ | exact ⟨rfl, rfl, by simp⟩ | trivial) (hL)) ?_
| refine p_p (ps_move rfl) ?_
| refine p_p (ps_assign rfl) ?_
| refine p_p (ps_build rfl rfl) ?_); refine ⟨_, (by dsimp only [St.put, St.setObj, St.ev, killP, killA, killP1, killH, mapHO, renP, renA, ren1, killG, killGA, killG1, krowP, krowA, krow1, lendP, lendA, lend1, unv, pinP, pin1, elemsM, viewM, viewN, viewV, n_set_z, n_set_s, n_map_c, n_map_n, getD_z, getD_s, n_toNat, n_cond_t, n_cond_f, n_len_c, n_len_n, n_app_c, n_app_n, n_take_s, n_take_z, n_drop_s, n_drop_z, n_get_z, n_get_s, view, viewA, view1, elems, Nat.reduceAdd, Nat.reduceMul, Nat.zero_add, Nat.add_zero, Nat.reduceBEq, Bool.not_true, Bool.not_false, Nat.one_ne_zero, Nat.mul_one, reduceCtorEq]), ?_⟩)
| refine o_nil ?_
| refine kr1 ?_
| refine krI rfl ?_
| refine g_ret ?_)
  rfl
set_option maxHeartbeats 1000000 in
set_option maxRecDepth 100000 in
theorem drawMed_c {l : List Int} (h : bytesOk l) : ∃ rows x y z, okP rows ∧ rows.length ≤ 30 ∧ PCalls Tryz.prog 19 [bytesP l] (.tup [posetP rows, I x, I y, I z]) := by
  obtain ⟨c1, rows, k1, hok, hl, h1⟩ := lattice_L (cu0_ok h) (by omega)
  obtain ⟨c2, x, k2, h2⟩ := point23_L k1 (by omega) rows hok (by omega)
  obtain ⟨c3, y, k3, h3⟩ := point23_L k2 (by omega) rows hok (by omega)
  obtain ⟨c4, z, k4, h4⟩ := point23_L k3 (by omega) rows hok (by omega)
  refine ⟨rows, x, y, z, hok, hl, ?_⟩
  refine pcallsCT3 Tryz.func19 rfl Tryz.ntmps19 rfl ?_
  simp only [List.length_cons, List.length_nil, Nat.reduceAdd, Nat.reduceSub, List.replicate_succ, List.replicate_zero, List.cons_append, List.nil_append]
  repeat' (first
| refine g_seq ?_
| refine g_region ?_
| (refine o_go rfl ?_; (first
| refine p_e rfl (e_box rfl rfl) ?_
| refine p_e rfl (e_callL (n := 1) rfl rfl rfl (by (repeat (first | refine ⟨leS_refl _, ?_⟩ | refine ⟨leS_nn _ _ _, ?_⟩ | refine ⟨leS_nil _, ?_⟩ | refine ⟨leS_any _, ?_⟩)); exact trivial) rfl (by rfl) (by first | exact ⟨rfl, rfl, rfl, by simp⟩ | exact ⟨rfl, rfl, by simp⟩ | trivial) (h1)) ?_
| refine p_p (ps_move rfl) ?_
| refine p_p (ps_assign rfl) ?_
| refine p_e rfl (e_store_boxA rfl rfl rfl rfl (by exact Nat.le_of_ble_eq_true rfl) rfl rfl rfl) ?_
| refine p_e rfl (e_alloc rfl) ?_
| refine p_p (ps_build rfl rfl) ?_); refine ⟨_, (by dsimp only [St.put, St.setObj, St.ev, killP, killA, killP1, killH, mapHO, renP, renA, ren1, killG, killGA, killG1, krowP, krowA, krow1, lendP, lendA, lend1, unv, pinP, pin1, elemsM, viewM, viewN, viewV, n_set_z, n_set_s, n_map_c, n_map_n, getD_z, getD_s, n_toNat, n_cond_t, n_cond_f, n_len_c, n_len_n, n_app_c, n_app_n, n_take_s, n_take_z, n_drop_s, n_drop_z, n_get_z, n_get_s, view, viewA, view1, elems, Nat.reduceAdd, Nat.reduceMul, Nat.zero_add, Nat.add_zero, Nat.reduceBEq, Bool.not_true, Bool.not_false, Nat.one_ne_zero, Nat.mul_one, reduceCtorEq]), ?_⟩)
| refine o_nil ?_)
  refine g_region_drawZ [(0, some []), (1, some []), (2, some []), (4, some []), (5, some []), (7, some []), (8, some []), (3, none), (6, none), (9, none), (10, none), (11, none), (12, none), (13, none)] [] (fun hp => hp[2]? = some (.box [intss rows])) (by kernel_rfl) rfl (by kernel_rfl) ?_
  repeat' (first
| refine z_nil ?_
| ((first
| refine z_pure rfl rfl (fun hp hH => ps_load_boxA rfl rfl hH (by exact Nat.le_of_ble_eq_true rfl)) (by repeat (first | exact trivial | refine ⟨rfl, ?_⟩)) (by first | exact fun _ _ => trivial | exact (by intro y hy; simp [Op.operands] at hy; first | (subst hy; repeat (first | exact trivial | refine ⟨rfl, ?_⟩)) | (rcases hy with rfl | rfl <;> repeat (first | exact trivial | refine ⟨rfl, ?_⟩)))) (by decide) (by first | exact trivial | exact rfl | exact ⟨rfl, rfl⟩ | exact ⟨rfl, rfl, rfl⟩ | exact ⟨rfl, .inl ⟨_, rfl, by simp only [List.length_map]; omega⟩⟩ | exact ⟨rfl, .inr ⟨_, rfl, by simp only [List.length_map]; omega⟩⟩) ?_
| refine z_pure rfl rfl (fun _ _ => ps_move rfl) (by repeat (first | exact trivial | refine ⟨rfl, ?_⟩)) (by first | exact fun _ _ => trivial | exact (by intro y hy; simp [Op.operands] at hy; first | (subst hy; repeat (first | exact trivial | refine ⟨rfl, ?_⟩)) | (rcases hy with rfl | rfl <;> repeat (first | exact trivial | refine ⟨rfl, ?_⟩)))) (by decide) (by first | exact trivial | exact rfl | exact ⟨rfl, rfl⟩ | exact ⟨rfl, rfl, rfl⟩ | exact ⟨rfl, .inl ⟨_, rfl, by simp only [List.length_map]; omega⟩⟩ | exact ⟨rfl, .inr ⟨_, rfl, by simp only [List.length_map]; omega⟩⟩) ?_
| refine z_eff rfl rfl (by first | exact trivial | exact .inl ⟨rfl, rfl⟩ | exact .inr (.inl ⟨rfl, rfl⟩) | exact .inr (.inr (.inl ⟨rfl, rfl⟩)) | exact .inr (.inr (.inr (.inl ⟨rfl, rfl⟩)))) (j_callLB (n := 1) rfl rfl rfl (by (repeat (first | refine ⟨leS_refl _, ?_⟩ | refine ⟨leS_nn _ _ _, ?_⟩ | refine ⟨leS_nil _, ?_⟩ | refine ⟨leS_any _, ?_⟩)); exact trivial) (by rfl) (by rfl) (h2)) (by first | exact .inr (by decide) | exact .inl (by first | exact trivial | exact rfl | exact ⟨rfl, rfl⟩ | exact ⟨rfl, rfl, rfl⟩ | exact ⟨rfl, .inl ⟨_, rfl, by simp only [List.length_map]; omega⟩⟩ | exact ⟨rfl, .inr ⟨_, rfl, by simp only [List.length_map]; omega⟩⟩)) ?_
| refine z_eff rfl rfl (by first | exact trivial | exact .inl ⟨rfl, rfl⟩ | exact .inr (.inl ⟨rfl, rfl⟩) | exact .inr (.inr (.inl ⟨rfl, rfl⟩)) | exact .inr (.inr (.inr (.inl ⟨rfl, rfl⟩)))) (j_callLB (n := 1) rfl rfl rfl (by (repeat (first | refine ⟨leS_refl _, ?_⟩ | refine ⟨leS_nn _ _ _, ?_⟩ | refine ⟨leS_nil _, ?_⟩ | refine ⟨leS_any _, ?_⟩)); exact trivial) (by rfl) (by rfl) (h3)) (by first | exact .inr (by decide) | exact .inl (by first | exact trivial | exact rfl | exact ⟨rfl, rfl⟩ | exact ⟨rfl, rfl, rfl⟩ | exact ⟨rfl, .inl ⟨_, rfl, by simp only [List.length_map]; omega⟩⟩ | exact ⟨rfl, .inr ⟨_, rfl, by simp only [List.length_map]; omega⟩⟩)) ?_
| refine z_eff rfl rfl (by first | exact trivial | exact .inl ⟨rfl, rfl⟩ | exact .inr (.inl ⟨rfl, rfl⟩) | exact .inr (.inr (.inl ⟨rfl, rfl⟩)) | exact .inr (.inr (.inr (.inl ⟨rfl, rfl⟩)))) (j_callLB (n := 1) rfl rfl rfl (by (repeat (first | refine ⟨leS_refl _, ?_⟩ | refine ⟨leS_nn _ _ _, ?_⟩ | refine ⟨leS_nil _, ?_⟩ | refine ⟨leS_any _, ?_⟩)); exact trivial) (by rfl) (by rfl) (h4)) (by first | exact .inr (by decide) | exact .inl (by first | exact trivial | exact rfl | exact ⟨rfl, rfl⟩ | exact ⟨rfl, rfl, rfl⟩ | exact ⟨rfl, .inl ⟨_, rfl, by simp only [List.length_map]; omega⟩⟩ | exact ⟨rfl, .inr ⟨_, rfl, by simp only [List.length_map]; omega⟩⟩)) ?_
| refine z_eff rfl rfl (by first | exact trivial | exact .inl ⟨rfl, rfl⟩ | exact .inr (.inl ⟨rfl, rfl⟩) | exact .inr (.inr (.inl ⟨rfl, rfl⟩)) | exact .inr (.inr (.inr (.inl ⟨rfl, rfl⟩)))) (j_store_boxA rfl rfl rfl rfl (by exact Nat.le_of_ble_eq_true rfl) rfl rfl rfl) (by first | exact .inr (by decide) | exact .inl (by first | exact trivial | exact rfl | exact ⟨rfl, rfl⟩ | exact ⟨rfl, rfl, rfl⟩ | exact ⟨rfl, .inl ⟨_, rfl, by simp only [List.length_map]; omega⟩⟩ | exact ⟨rfl, .inr ⟨_, rfl, by simp only [List.length_map]; omega⟩⟩)) ?_
| refine z_eff rfl rfl (by first | exact trivial | exact .inl ⟨rfl, rfl⟩ | exact .inr (.inl ⟨rfl, rfl⟩) | exact .inr (.inr (.inl ⟨rfl, rfl⟩)) | exact .inr (.inr (.inr (.inl ⟨rfl, rfl⟩)))) (j_pure (ps_assign rfl)) (by first | exact .inr (by decide) | exact .inl (by first | exact trivial | exact rfl | exact ⟨rfl, rfl⟩ | exact ⟨rfl, rfl, rfl⟩ | exact ⟨rfl, .inl ⟨_, rfl, by simp only [List.length_map]; omega⟩⟩ | exact ⟨rfl, .inr ⟨_, rfl, by simp only [List.length_map]; omega⟩⟩)) ?_); refine ⟨_, (by dsimp only [appJ, killO, St.put, St.setObj, St.ev, killP, killA, killP1, killH, mapHO, renP, renA, ren1, killG, killGA, killG1, krowP, krowA, krow1, lendP, lendA, lend1, unv, pinP, pin1, elemsM, viewM, viewN, viewV, n_set_z, n_set_s, n_map_c, n_map_n, getD_z, getD_s, n_toNat, n_cond_t, n_cond_f, n_len_c, n_len_n, n_app_c, n_app_n, n_take_s, n_take_z, n_drop_s, n_drop_z, n_get_z, n_get_s, view, viewA, view1, elems, Nat.reduceAdd, Nat.reduceMul, Nat.zero_add, Nat.add_zero, Nat.reduceBEq, Bool.not_true, Bool.not_false, Nat.one_ne_zero, Nat.mul_one, reduceCtorEq]), ?_⟩))
  repeat' (first
| refine g_ret ?_)
  refine krct3 ?_ ?_ ?_ ?_
  · exact krC rfl (by exact Nat.le_of_ble_eq_true rfl) rfl
  · exact krI rfl rfl
  · exact krI rfl rfl
  · exact krI rfl rfl
end Go.Proofs.YtbfmjknngofleaaGreat
