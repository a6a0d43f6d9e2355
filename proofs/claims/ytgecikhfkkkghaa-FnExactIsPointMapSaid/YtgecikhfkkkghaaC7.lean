/- Walks: the program's lattice maps and join-prime elements. -/
import Derived.Test.YtgecikhfkkkghaaC1
import Derived.Test.YtgecikhfkkkghaaPx
import Derived.Test.YtgecikhfkkkghaaSp15
namespace Go.Proofs.Ytgecikhfkkkghaa
open Go Go.Pv Go.Proofs

set_option maxHeartbeats 1000000 in
set_option maxRecDepth 100000 in
theorem two_no (p q : List (List Int)) (hp : okP p) (hq : okP q) (h : (goodL p && goodL q) = false) : PCalls Try.prog 53 [posetP p, posetP q] (.tup [.any, .any, B false]) := by
  refine pcalls3 Try.func53 rfl Try.ntmps53 rfl ?_
  simp only [List.length_cons, List.length_nil, Nat.reduceAdd, Nat.reduceSub, List.replicate_succ, List.replicate_zero, List.cons_append, List.nil_append]
  cases hgp : goodL p with
  | false =>
    cases hgq : goodL q with
    | false =>
      repeat' (first
| refine g_seq ?_
| refine g_region ?_
| (refine o_go rfl ?_; (first
| refine p_p (ps_call rfl rfl (by (repeat (first | refine ⟨PV.le_refl _, ?_⟩ | refine ⟨PV.le_nn _ _ _, ?_⟩ | refine ⟨PV.le_nil _, ?_⟩ | refine ⟨PV.le_any _, ?_⟩)); exact trivial) (lat_no p hp hgp)) ?_
| refine p_p (ps_call rfl rfl (by (repeat (first | refine ⟨PV.le_refl _, ?_⟩ | refine ⟨PV.le_nn _ _ _, ?_⟩ | refine ⟨PV.le_nil _, ?_⟩ | refine ⟨PV.le_any _, ?_⟩)); exact trivial) (lat_no q hq hgq)) ?_
| refine p_p (ps_move rfl) ?_
| refine p_p (ps_assign rfl) ?_
| refine p_p (ps_load_agg rfl rfl (by exact Nat.le_of_ble_eq_true rfl)) ?_
| refine p_p (ps_extract rfl rfl rfl) ?_
| refine p_p (ps_pick rfl rfl) ?_
| refine p_p (ps_box rfl rfl) ?_); refine ⟨_, (by dsimp only [St.put, St.setObj, St.ev, killP, killA, killP1, killH, mapHO, renP, renA, ren1, killG, killGA, killG1, krowP, krowA, krow1, lendP, lendA, lend1, unv, pinP, pin1, elemsM, viewM, viewN, viewV, n_set_z, n_set_s, n_map_c, n_map_n, getD_z, getD_s, n_toNat, n_cond_t, n_cond_f, n_len_c, n_len_n, n_app_c, n_app_n, n_take_s, n_take_z, n_drop_s, n_drop_z, n_get_z, n_get_s, view, viewA, view1, elems, Nat.reduceAdd, Nat.reduceMul, Nat.zero_add, Nat.add_zero, Nat.reduceBEq, Bool.not_true, Bool.not_false, Nat.one_ne_zero, Nat.mul_one, reduceCtorEq]), ?_⟩)
| refine o_nil ?_
| (refine o_s rfl ?_; refine ⟨_, (by dsimp only [St.put, St.setObj, St.ev, killP, killA, killP1, killH, mapHO, renP, renA, ren1, killG, killGA, killG1, krowP, krowA, krow1, lendP, lendA, lend1, unv, pinP, pin1, elemsM, viewM, viewN, viewV, n_set_z, n_set_s, n_map_c, n_map_n, getD_z, getD_s, n_toNat, n_cond_t, n_cond_f, n_len_c, n_len_n, n_app_c, n_app_n, n_take_s, n_take_z, n_drop_s, n_drop_z, n_get_z, n_get_s, view, viewA, view1, elems, Nat.reduceAdd, Nat.reduceMul, Nat.zero_add, Nat.add_zero, Nat.reduceBEq, Bool.not_true, Bool.not_false, Nat.one_ne_zero, Nat.mul_one, reduceCtorEq]), ?_⟩)
| refine kr3 ?_ ?_ ?_
| exact krAny
| refine krB rfl ?_
| refine g_ret ?_)
      all_goals rfl
    | true =>
      repeat' (first
| refine g_seq ?_
| refine g_region ?_
| (refine o_go rfl ?_; (first
| refine p_p (ps_call rfl rfl (by (repeat (first | refine ⟨PV.le_refl _, ?_⟩ | refine ⟨PV.le_nn _ _ _, ?_⟩ | refine ⟨PV.le_nil _, ?_⟩ | refine ⟨PV.le_any _, ?_⟩)); exact trivial) (lat_no p hp hgp)) ?_
| refine p_p (ps_call rfl rfl (by (repeat (first | refine ⟨PV.le_refl _, ?_⟩ | refine ⟨PV.le_nn _ _ _, ?_⟩ | refine ⟨PV.le_nil _, ?_⟩ | refine ⟨PV.le_any _, ?_⟩)); exact trivial) (lat_yes q hq hgq)) ?_
| refine p_p (ps_move rfl) ?_
| refine p_p (ps_assign rfl) ?_
| refine p_p (ps_load_agg rfl rfl (by exact Nat.le_of_ble_eq_true rfl)) ?_
| refine p_p (ps_extract rfl rfl rfl) ?_
| refine p_p (ps_pick rfl rfl) ?_
| refine p_p (ps_box rfl rfl) ?_); refine ⟨_, (by dsimp only [St.put, St.setObj, St.ev, killP, killA, killP1, killH, mapHO, renP, renA, ren1, killG, killGA, killG1, krowP, krowA, krow1, lendP, lendA, lend1, unv, pinP, pin1, elemsM, viewM, viewN, viewV, n_set_z, n_set_s, n_map_c, n_map_n, getD_z, getD_s, n_toNat, n_cond_t, n_cond_f, n_len_c, n_len_n, n_app_c, n_app_n, n_take_s, n_take_z, n_drop_s, n_drop_z, n_get_z, n_get_s, view, viewA, view1, elems, Nat.reduceAdd, Nat.reduceMul, Nat.zero_add, Nat.add_zero, Nat.reduceBEq, Bool.not_true, Bool.not_false, Nat.one_ne_zero, Nat.mul_one, reduceCtorEq]), ?_⟩)
| refine o_nil ?_
| (refine o_s rfl ?_; refine ⟨_, (by dsimp only [St.put, St.setObj, St.ev, killP, killA, killP1, killH, mapHO, renP, renA, ren1, killG, killGA, killG1, krowP, krowA, krow1, lendP, lendA, lend1, unv, pinP, pin1, elemsM, viewM, viewN, viewV, n_set_z, n_set_s, n_map_c, n_map_n, getD_z, getD_s, n_toNat, n_cond_t, n_cond_f, n_len_c, n_len_n, n_app_c, n_app_n, n_take_s, n_take_z, n_drop_s, n_drop_z, n_get_z, n_get_s, view, viewA, view1, elems, Nat.reduceAdd, Nat.reduceMul, Nat.zero_add, Nat.add_zero, Nat.reduceBEq, Bool.not_true, Bool.not_false, Nat.one_ne_zero, Nat.mul_one, reduceCtorEq]), ?_⟩)
| refine kr3 ?_ ?_ ?_
| exact krAny
| refine krB rfl ?_
| refine g_ret ?_)
      all_goals rfl
  | true =>
    rw [hgp, Bool.true_and] at h
    repeat' (first
| refine g_seq ?_
| refine g_region ?_
| (refine o_go rfl ?_; (first
| refine p_p (ps_call rfl rfl (by (repeat (first | refine ⟨PV.le_refl _, ?_⟩ | refine ⟨PV.le_nn _ _ _, ?_⟩ | refine ⟨PV.le_nil _, ?_⟩ | refine ⟨PV.le_any _, ?_⟩)); exact trivial) (lat_yes p hp hgp)) ?_
| refine p_p (ps_call rfl rfl (by (repeat (first | refine ⟨PV.le_refl _, ?_⟩ | refine ⟨PV.le_nn _ _ _, ?_⟩ | refine ⟨PV.le_nil _, ?_⟩ | refine ⟨PV.le_any _, ?_⟩)); exact trivial) (lat_no q hq h)) ?_
| refine p_p (ps_move rfl) ?_
| refine p_p (ps_assign rfl) ?_
| refine p_p (ps_load_agg rfl rfl (by exact Nat.le_of_ble_eq_true rfl)) ?_
| refine p_p (ps_extract rfl rfl rfl) ?_
| refine p_p (ps_pick rfl rfl) ?_
| refine p_p (ps_box rfl rfl) ?_); refine ⟨_, (by dsimp only [St.put, St.setObj, St.ev, killP, killA, killP1, killH, mapHO, renP, renA, ren1, killG, killGA, killG1, krowP, krowA, krow1, lendP, lendA, lend1, unv, pinP, pin1, elemsM, viewM, viewN, viewV, n_set_z, n_set_s, n_map_c, n_map_n, getD_z, getD_s, n_toNat, n_cond_t, n_cond_f, n_len_c, n_len_n, n_app_c, n_app_n, n_take_s, n_take_z, n_drop_s, n_drop_z, n_get_z, n_get_s, view, viewA, view1, elems, Nat.reduceAdd, Nat.reduceMul, Nat.zero_add, Nat.add_zero, Nat.reduceBEq, Bool.not_true, Bool.not_false, Nat.one_ne_zero, Nat.mul_one, reduceCtorEq]), ?_⟩)
| refine o_nil ?_
| refine kr3 ?_ ?_ ?_
| exact krAny
| refine krB rfl ?_
| refine g_ret ?_)
    all_goals rfl
set_option maxHeartbeats 1000000 in
set_option maxRecDepth 100000 in
theorem two_yes (p q : List (List Int)) (hp : okP p) (hq : okP q) (hgp : goodL p = true) (hgq : goodL q = true) : PCalls Try.prog 53 [posetP p, posetP q] (.tup [latP p, latP q, B true]) := by
  refine pcalls3 Try.func53 rfl Try.ntmps53 rfl ?_
  simp only [List.length_cons, List.length_nil, Nat.reduceAdd, Nat.reduceSub, List.replicate_succ, List.replicate_zero, List.cons_append, List.nil_append]
  repeat' (first
| refine g_seq ?_
| refine g_region ?_
| (refine o_go rfl ?_; (first
| refine p_p (ps_call rfl rfl (by (repeat (first | refine ⟨PV.le_refl _, ?_⟩ | refine ⟨PV.le_nn _ _ _, ?_⟩ | refine ⟨PV.le_nil _, ?_⟩ | refine ⟨PV.le_any _, ?_⟩)); exact trivial) (lat_yes p hp hgp)) ?_
| refine p_p (ps_call rfl rfl (by (repeat (first | refine ⟨PV.le_refl _, ?_⟩ | refine ⟨PV.le_nn _ _ _, ?_⟩ | refine ⟨PV.le_nil _, ?_⟩ | refine ⟨PV.le_any _, ?_⟩)); exact trivial) (lat_yes q hq hgq)) ?_
| refine p_p (ps_move rfl) ?_
| refine p_p (ps_assign rfl) ?_
| refine p_p (ps_load_agg rfl rfl (by exact Nat.le_of_ble_eq_true rfl)) ?_
| refine p_p (ps_extract rfl rfl rfl) ?_
| refine p_p (ps_pick rfl rfl) ?_
| refine p_p (ps_box rfl rfl) ?_); refine ⟨_, (by dsimp only [St.put, St.setObj, St.ev, killP, killA, killP1, killH, mapHO, renP, renA, ren1, killG, killGA, killG1, krowP, krowA, krow1, lendP, lendA, lend1, unv, pinP, pin1, elemsM, viewM, viewN, viewV, n_set_z, n_set_s, n_map_c, n_map_n, getD_z, getD_s, n_toNat, n_cond_t, n_cond_f, n_len_c, n_len_n, n_app_c, n_app_n, n_take_s, n_take_z, n_drop_s, n_drop_z, n_get_z, n_get_s, view, viewA, view1, elems, Nat.reduceAdd, Nat.reduceMul, Nat.zero_add, Nat.add_zero, Nat.reduceBEq, Bool.not_true, Bool.not_false, Nat.one_ne_zero, Nat.mul_one, reduceCtorEq]), ?_⟩)
| refine o_nil ?_
| refine kr3 ?_ ?_ ?_
| refine krB rfl ?_
| refine krP rfl ?_
| refine g_ret ?_)
  all_goals rfl
set_option maxHeartbeats 1000000 in
set_option maxRecDepth 100000 in
theorem ilm_c (p q : List (List Int)) (f : List Int) (hf : f.length ≤ 1048576) (hgp : goodL p = true) (hgq : goodL q = true) : PCalls Try.prog 68 [latP p, latP q, ints f] (B (lmB p q f)) := by
  refine pcalls1 Try.func68 rfl Try.ntmps68 rfl ?_
  simp only [List.length_cons, List.length_nil, Nat.reduceAdd, Nat.reduceSub, List.replicate_succ, List.replicate_zero, List.cons_append, List.nil_append]
  have hb := bot_in hgp
  have ht := top_in hgp
  have hpl := good_10 hgp
  have hql := good_10 hgq
  have hlen := length_tabZ p.length (leqB p)
  unfold inR at hb ht
  have he := lhas_c q f hgq hf
  unfold lmB lmH
  by_cases hl : (f.length : Int) = (p.length : Int)
  · rw [decide_eq_true hl, Bool.true_and]
    cases hs : inSizeB f (q.length : Int) with
    | false =>
      rw [hs] at he
      repeat' (first
| refine g_seq ?_
| refine g_region ?_
| refine g_region_draw (by kernel_rfl) (by kernel_rfl) ?_
| (refine o_go rfl ?_; (first
| refine p_p (ps_callM rfl rfl (by (repeat (first | refine ⟨PV.le_refl _, ?_⟩ | refine ⟨PV.le_nn _ _ _, ?_⟩ | refine ⟨PV.le_nil _, ?_⟩ | refine ⟨PV.le_any _, ?_⟩)); exact trivial) (by rfl) (he)) ?_
| refine p_p (ps_move rfl) ?_
| refine p_p (ps_assign rfl) ?_
| refine p_p (ps_load_cell rfl rfl) ?_
| refine p_p (ps_lenM rfl rfl rfl) ?_
| refine p_p (ps_fieldAddr rfl rfl) ?_
| refine p_p (ps_not rfl rfl) ?_
| refine p_p (ps_pick rfl rfl) ?_
| refine p_p (ps_neq rfl rfl rfl) ?_
| refine p_p (ps_nilCheck rfl rfl) ?_); refine ⟨_, (by dsimp only [St.put, St.setObj, St.ev, killP, killA, killP1, killH, mapHO, renP, renA, ren1, killG, killGA, killG1, krowP, krowA, krow1, lendP, lendA, lend1, unv, pinP, pin1, elemsM, viewM, viewN, viewV, n_set_z, n_set_s, n_map_c, n_map_n, getD_z, getD_s, n_toNat, n_cond_t, n_cond_f, n_len_c, n_len_n, n_app_c, n_app_n, n_take_s, n_take_z, n_drop_s, n_drop_z, n_get_z, n_get_s, view, viewA, view1, elems, Nat.reduceAdd, Nat.reduceMul, Nat.zero_add, Nat.add_zero, Nat.reduceBEq, Bool.not_true, Bool.not_false, Nat.one_ne_zero, Nat.mul_one, reduceCtorEq]), ?_⟩)
| refine o_nil ?_
| (refine o_s rfl ?_; refine ⟨_, (by dsimp only [St.put, St.setObj, St.ev, killP, killA, killP1, killH, mapHO, renP, renA, ren1, killG, killGA, killG1, krowP, krowA, krow1, lendP, lendA, lend1, unv, pinP, pin1, elemsM, viewM, viewN, viewV, n_set_z, n_set_s, n_map_c, n_map_n, getD_z, getD_s, n_toNat, n_cond_t, n_cond_f, n_len_c, n_len_n, n_app_c, n_app_n, n_take_s, n_take_z, n_drop_s, n_drop_z, n_get_z, n_get_s, view, viewA, view1, elems, Nat.reduceAdd, Nat.reduceMul, Nat.zero_add, Nat.add_zero, Nat.reduceBEq, Bool.not_true, Bool.not_false, Nat.one_ne_zero, Nat.mul_one, reduceCtorEq]), ?_⟩)
| (refine o_splitN rfl rfl rfl (fun hc => ?_) (fun hc => ?_) <;> dsimp only [List.set_cons_zero, List.set_cons_succ])
| refine g_condT rfl ?_
| refine kr1 ?_
| refine krB rfl ?_
| refine g_ret ?_)
      all_goals first | rfl | (exfalso; omega)
    | true =>
      rw [hs] at he
      rw [Bool.true_and]
      have hat := fun (i : Nat) (hi : i < f.length) => inSize_at hs hi
      repeat' (first
| refine g_seq ?_
| refine g_block ?_
| refine g_region ?_
| refine g_region_draw (by kernel_rfl) (by kernel_rfl) ?_
| (refine o_go rfl ?_; (first
| refine p_p (ps_callM rfl rfl (by (repeat (first | refine ⟨PV.le_refl _, ?_⟩ | refine ⟨PV.le_nn _ _ _, ?_⟩ | refine ⟨PV.le_nil _, ?_⟩ | refine ⟨PV.le_any _, ?_⟩)); exact trivial) (by rfl) (he)) ?_
| refine p_p (ps_call rfl rfl (by (repeat (first | refine ⟨PV.le_refl _, ?_⟩ | refine ⟨PV.le_nn _ _ _, ?_⟩ | refine ⟨PV.le_nil _, ?_⟩ | refine ⟨PV.le_any _, ?_⟩)); exact trivial) (ibot_c p hgp)) ?_
| refine p_p (ps_call rfl rfl (by (repeat (first | refine ⟨PV.le_refl _, ?_⟩ | refine ⟨PV.le_nn _ _ _, ?_⟩ | refine ⟨PV.le_nil _, ?_⟩ | refine ⟨PV.le_any _, ?_⟩)); exact trivial) (ibot_c q hgq)) ?_
| refine p_p (ps_call rfl rfl (by (repeat (first | refine ⟨PV.le_refl _, ?_⟩ | refine ⟨PV.le_nn _ _ _, ?_⟩ | refine ⟨PV.le_nil _, ?_⟩ | refine ⟨PV.le_any _, ?_⟩)); exact trivial) (itop_c p hgp)) ?_
| refine p_p (ps_call rfl rfl (by (repeat (first | refine ⟨PV.le_refl _, ?_⟩ | refine ⟨PV.le_nn _ _ _, ?_⟩ | refine ⟨PV.le_nil _, ?_⟩ | refine ⟨PV.le_any _, ?_⟩)); exact trivial) (itop_c q hgq)) ?_
| refine p_p (ps_move rfl) ?_
| refine p_p (ps_assign rfl) ?_
| refine p_p (ps_load_cell rfl rfl) ?_
| refine p_p (ps_index rfl rfl rfl (by omega) (by first | exact idx_I (by omega) | exact idx_B (by omega) | exact idx_ints (by omega) | exact idx_bools (by omega) | exact idx_intss (by omega) | rfl) (by exact rfl)) ?_
| refine p_p (ps_lenM rfl rfl rfl) ?_
| refine p_p (ps_fieldAddr rfl rfl) ?_
| refine p_p (ps_not rfl rfl) ?_
| refine p_p (ps_pick rfl rfl) ?_
| refine p_p (ps_neq rfl rfl rfl) ?_
| refine p_p (ps_nilCheck rfl rfl) ?_); refine ⟨_, (by dsimp only [St.put, St.setObj, St.ev, killP, killA, killP1, killH, mapHO, renP, renA, ren1, killG, killGA, killG1, krowP, krowA, krow1, lendP, lendA, lend1, unv, pinP, pin1, elemsM, viewM, viewN, viewV, n_set_z, n_set_s, n_map_c, n_map_n, getD_z, getD_s, n_toNat, n_cond_t, n_cond_f, n_len_c, n_len_n, n_app_c, n_app_n, n_take_s, n_take_z, n_drop_s, n_drop_z, n_get_z, n_get_s, view, viewA, view1, elems, Nat.reduceAdd, Nat.reduceMul, Nat.zero_add, Nat.add_zero, Nat.reduceBEq, Bool.not_true, Bool.not_false, Nat.one_ne_zero, Nat.mul_one, reduceCtorEq]), ?_⟩)
| refine o_nil ?_
| (refine o_s rfl ?_; refine ⟨_, (by dsimp only [St.put, St.setObj, St.ev, killP, killA, killP1, killH, mapHO, renP, renA, ren1, killG, killGA, killG1, krowP, krowA, krow1, lendP, lendA, lend1, unv, pinP, pin1, elemsM, viewM, viewN, viewV, n_set_z, n_set_s, n_map_c, n_map_n, getD_z, getD_s, n_toNat, n_cond_t, n_cond_f, n_len_c, n_len_n, n_app_c, n_app_n, n_take_s, n_take_z, n_drop_s, n_drop_z, n_get_z, n_get_s, view, viewA, view1, elems, Nat.reduceAdd, Nat.reduceMul, Nat.zero_add, Nat.add_zero, Nat.reduceBEq, Bool.not_true, Bool.not_false, Nat.one_ne_zero, Nat.mul_one, reduceCtorEq]), ?_⟩)
| (refine o_splitN rfl rfl rfl (fun hc => ?_) (fun hc => ?_) <;> dsimp only [List.set_cons_zero, List.set_cons_succ])
| refine g_condT rfl ?_
| (refine g_condN rfl (fun hc => ?_) (fun hc => ?_) <;> try (exfalso; omega))
| refine kr1 ?_
| refine krB rfl ?_
| refine g_skip ?_
| refine g_ret ?_)
      · exact absurd (hl.trans (by rw [hlen])) (of_decide_eq_false hc)
      · rw [show decide (im f (botL p) = botL q) = false from hc]; rfl
      · rw [show decide (im f (topL p) = topL q) = false from decide_eq_false hc, Bool.and_false]; rfl
      · rw [show decide (im f (botL p) = botL q) = true from ‹decide (f.getD (botL p).toNat 0 = botL q) = true›, show decide (im f (topL p) = topL q) = true from decide_eq_true hc, Bool.true_and]
        clear hc
        refine g_loopT (α := Nat) (fun x => [(48, I (x : Int))]) (fun _ => []) (fun x => x ≤ f.length ∧ (allN x fun x => allN f.length (lmP p q f x)) = true) (fun x => f.length - x) 0 (by simp only [havoc, dsts, List.filterMap_cons, List.filterMap_nil, List.foldl_cons, List.foldl_nil, List.cons_append, List.nil_append, List.append_nil, List.set_cons_succ, List.set_cons_zero]; exact rfl) ⟨Nat.zero_le _, rfl⟩ ⟨rfl, trivial⟩ rfl ?_
        rintro x ⟨hx, hgx⟩
        dsimp only [setMany, List.set_cons_zero, List.set_cons_succ]
        repeat' (first
| refine g_seq ?_
| refine g_block ?_
| refine g_region ?_
| (refine o_go rfl ?_; (first
| refine p_p (ps_move rfl) ?_
| refine p_p (ps_assign rfl) ?_
| refine p_p (ps_lenM rfl rfl rfl) ?_
| refine p_p (ps_lss rfl rfl rfl) ?_); refine ⟨_, (by dsimp only [St.put, St.setObj, St.ev, killP, killA, killP1, killH, mapHO, renP, renA, ren1, killG, killGA, killG1, krowP, krowA, krow1, lendP, lendA, lend1, unv, pinP, pin1, elemsM, viewM, viewN, viewV, n_set_z, n_set_s, n_map_c, n_map_n, getD_z, getD_s, n_toNat, n_cond_t, n_cond_f, n_len_c, n_len_n, n_app_c, n_app_n, n_take_s, n_take_z, n_drop_s, n_drop_z, n_get_z, n_get_s, view, viewA, view1, elems, Nat.reduceAdd, Nat.reduceMul, Nat.zero_add, Nat.add_zero, Nat.reduceBEq, Bool.not_true, Bool.not_false, Nat.one_ne_zero, Nat.mul_one, reduceCtorEq]), ?_⟩)
| refine o_nil ?_
| (refine g_condD rfl (fun hc => ?_) (fun hc => ?_) <;> try (exfalso; omega))
| refine kr1 ?_
| refine krB rfl ?_
| refine g_skip ?_
| refine g_exit ?_
| refine g_ret ?_)
        · refine g_loopT (α := Nat) (fun y => [(53, I (y : Int))]) (fun _ => []) (fun y => y ≤ f.length ∧ (allN y (lmP p q f x)) = true) (fun y => f.length - y) 0 (by simp only [havoc, dsts, List.filterMap_cons, List.filterMap_nil, List.foldl_cons, List.foldl_nil, List.cons_append, List.nil_append, List.append_nil, List.set_cons_succ, List.set_cons_zero]; exact rfl) ⟨Nat.zero_le _, rfl⟩ ⟨rfl, trivial⟩ rfl ?_
          rintro y ⟨hy, hgy⟩
          dsimp only [setMany, List.set_cons_zero, List.set_cons_succ]
          have hm : y < f.length → x < f.length → inR p (meetL p (x : Int) (y : Int)) := fun h1 h2 => meet_in hgp ⟨by omega, by omega⟩ ⟨by omega, by omega⟩
          have hj : y < f.length → x < f.length → inR p (joinL p (x : Int) (y : Int)) := fun h1 h2 => join_in hgp ⟨by omega, by omega⟩ ⟨by omega, by omega⟩
          have hatx := hat x
          have haty := hat y
          unfold inR at hm hj
          repeat' (first
| refine g_seq ?_
| refine g_block ?_
| refine g_region ?_
| refine g_region_draw (by kernel_rfl) (by kernel_rfl) ?_
| (refine o_go rfl ?_; (first
| refine p_p (ps_index rfl rfl rfl (by omega) (by exact idx_TI (by omega) (by omega)) (by exact rfl)) ?_
| refine p_p (ps_index rfl rfl rfl (by omega) (by exact idx_RI (by omega) (by omega)) (by exact rfl)) ?_
| refine p_p (ps_move rfl) ?_
| refine p_p (ps_assign rfl) ?_
| refine p_p (ps_load_cell rfl rfl) ?_
| refine p_p (ps_index rfl rfl rfl (by omega) (by first | exact idx_I (by omega) | exact idx_B (by omega) | exact idx_ints (by omega) | exact idx_bools (by omega) | exact idx_intss (by omega) | rfl) (by exact rfl)) ?_
| refine p_p (ps_lss rfl rfl rfl) ?_
| refine p_p (ps_add rfl rfl rfl (by constructor <;> omega)) ?_
| refine p_p (ps_fieldAddr rfl rfl) ?_
| refine p_p (ps_pick rfl rfl) ?_
| refine p_p (ps_neq rfl rfl rfl) ?_
| refine p_p (ps_nilCheck rfl rfl) ?_); refine ⟨_, (by dsimp only [St.put, St.setObj, St.ev, killP, killA, killP1, killH, mapHO, renP, renA, ren1, killG, killGA, killG1, krowP, krowA, krow1, lendP, lendA, lend1, unv, pinP, pin1, elemsM, viewM, viewN, viewV, n_set_z, n_set_s, n_map_c, n_map_n, getD_z, getD_s, n_toNat, n_cond_t, n_cond_f, n_len_c, n_len_n, n_app_c, n_app_n, n_take_s, n_take_z, n_drop_s, n_drop_z, n_get_z, n_get_s, view, viewA, view1, elems, Nat.reduceAdd, Nat.reduceMul, Nat.zero_add, Nat.add_zero, Nat.reduceBEq, Bool.not_true, Bool.not_false, Nat.one_ne_zero, Nat.mul_one, reduceCtorEq]), ?_⟩)
| refine o_nil ?_
| (refine o_s rfl ?_; refine ⟨_, (by dsimp only [St.put, St.setObj, St.ev, killP, killA, killP1, killH, mapHO, renP, renA, ren1, killG, killGA, killG1, krowP, krowA, krow1, lendP, lendA, lend1, unv, pinP, pin1, elemsM, viewM, viewN, viewV, n_set_z, n_set_s, n_map_c, n_map_n, getD_z, getD_s, n_toNat, n_cond_t, n_cond_f, n_len_c, n_len_n, n_app_c, n_app_n, n_take_s, n_take_z, n_drop_s, n_drop_z, n_get_z, n_get_s, view, viewA, view1, elems, Nat.reduceAdd, Nat.reduceMul, Nat.zero_add, Nat.add_zero, Nat.reduceBEq, Bool.not_true, Bool.not_false, Nat.one_ne_zero, Nat.mul_one, reduceCtorEq]), ?_⟩)
| (refine o_splitN rfl rfl rfl (fun hc => ?_) (fun hc => ?_) <;> dsimp only [List.set_cons_zero, List.set_cons_succ])
| refine g_condT rfl ?_
| (refine g_condN rfl (fun hc => ?_) (fun hc => ?_) <;> try (exfalso; omega))
| (refine g_condD rfl (fun hc => ?_) (fun hc => ?_) <;> try (exfalso; omega))
| refine kr1 ?_
| refine krB rfl ?_
| refine g_skip ?_
| refine g_exit ?_
| refine g_ret ?_)
          · refine Eq.symm ?_
            rw [Bool.true_and]
            exact allN_false (k := x) (by omega) (allN_false (k := y) (by omega) (by unfold lmP im; rw [hc]; rfl))
          · refine Eq.symm ?_
            rw [Bool.true_and]
            exact allN_false (k := x) (by omega) (allN_false (k := y) (by omega) (by unfold lmP im; rw [decide_eq_false hc, Bool.and_false]))
          · exact k_round (y + 1) ⟨by omega, by rw [allN_succ, hgy, Bool.true_and]; unfold lmP im; rw [decide_eq_true hc, ‹decide (f.getD (meetL p (x : Int) (y : Int)).toNat 0 = meetL q (f.getD x 0) (f.getD y 0)) = true›]; rfl⟩ (by omega) (by repeat (first | exact trivial | refine ⟨.inl rfl, ?_⟩ | refine ⟨.inr rfl, ?_⟩)) ⟨rfl, trivial⟩ (by first | exact hpLe_nil _ | exact hpLe_refl _)
          · rw [show y = f.length by omega] at hgy
            exact k_round (x + 1) ⟨by omega, by rw [allN_succ, hgx, hgy]; rfl⟩ (by omega) (by repeat (first | exact trivial | refine ⟨.inl rfl, ?_⟩ | refine ⟨.inr rfl, ?_⟩)) ⟨rfl, trivial⟩ (by first | exact hpLe_nil _ | exact hpLe_refl _)
        · rw [show x = f.length by omega] at hgx
          rw [Bool.true_and]
          exact hgx.symm
  · rw [decide_eq_false hl]
    repeat' (first
| refine g_seq ?_
| refine g_region ?_
| refine g_region_draw (by kernel_rfl) (by kernel_rfl) ?_
| (refine o_go rfl ?_; (first
| refine p_p (ps_move rfl) ?_
| refine p_p (ps_assign rfl) ?_
| refine p_p (ps_load_cell rfl rfl) ?_
| refine p_p (ps_lenM rfl rfl rfl) ?_
| refine p_p (ps_fieldAddr rfl rfl) ?_
| refine p_p (ps_pick rfl rfl) ?_
| refine p_p (ps_neq rfl rfl rfl) ?_
| refine p_p (ps_nilCheck rfl rfl) ?_); refine ⟨_, (by dsimp only [St.put, St.setObj, St.ev, killP, killA, killP1, killH, mapHO, renP, renA, ren1, killG, killGA, killG1, krowP, krowA, krow1, lendP, lendA, lend1, unv, pinP, pin1, elemsM, viewM, viewN, viewV, n_set_z, n_set_s, n_map_c, n_map_n, getD_z, getD_s, n_toNat, n_cond_t, n_cond_f, n_len_c, n_len_n, n_app_c, n_app_n, n_take_s, n_take_z, n_drop_s, n_drop_z, n_get_z, n_get_s, view, viewA, view1, elems, Nat.reduceAdd, Nat.reduceMul, Nat.zero_add, Nat.add_zero, Nat.reduceBEq, Bool.not_true, Bool.not_false, Nat.one_ne_zero, Nat.mul_one, reduceCtorEq]), ?_⟩)
| refine o_nil ?_
| (refine o_s rfl ?_; refine ⟨_, (by dsimp only [St.put, St.setObj, St.ev, killP, killA, killP1, killH, mapHO, renP, renA, ren1, killG, killGA, killG1, krowP, krowA, krow1, lendP, lendA, lend1, unv, pinP, pin1, elemsM, viewM, viewN, viewV, n_set_z, n_set_s, n_map_c, n_map_n, getD_z, getD_s, n_toNat, n_cond_t, n_cond_f, n_len_c, n_len_n, n_app_c, n_app_n, n_take_s, n_take_z, n_drop_s, n_drop_z, n_get_z, n_get_s, view, viewA, view1, elems, Nat.reduceAdd, Nat.reduceMul, Nat.zero_add, Nat.add_zero, Nat.reduceBEq, Bool.not_true, Bool.not_false, Nat.one_ne_zero, Nat.mul_one, reduceCtorEq]), ?_⟩)
| (refine o_splitN rfl rfl rfl (fun hc => ?_) (fun hc => ?_) <;> dsimp only [List.set_cons_zero, List.set_cons_succ])
| refine g_condT rfl ?_
| refine kr1 ?_
| refine krB rfl ?_
| refine g_ret ?_)
    all_goals first | exact absurd ((of_decide_eq_true hc).trans (by rw [hlen])) hl | rfl
set_option maxHeartbeats 1000000 in
set_option maxRecDepth 100000 in
theorem iprime_c (rows : List (List Int)) (x : Nat) (hg : goodL rows = true) (hx : x < rows.length) : PCalls Try.prog 86 ([latP rows] ++ [I (x : Int)] ++ []) (B (jpB rows x)) := by
  refine pcalls1 Try.func86 rfl Try.ntmps86 rfl ?_
  simp only [List.length_cons, List.length_nil, Nat.reduceAdd, Nat.reduceSub, List.replicate_succ, List.replicate_zero, List.cons_append, List.nil_append]
  have hlen := length_tabZ rows.length (leqB rows)
  have h10 := good_10 hg
  unfold jpB
  repeat' (first
| refine g_seq ?_
| refine g_block ?_
| refine g_region ?_
| (refine o_go rfl ?_; (first
| refine p_p (ps_call rfl rfl (by (repeat (first | refine ⟨PV.le_refl _, ?_⟩ | refine ⟨PV.le_nn _ _ _, ?_⟩ | refine ⟨PV.le_nil _, ?_⟩ | refine ⟨PV.le_any _, ?_⟩)); exact trivial) (ibot_c rows hg)) ?_
| refine p_p (ps_move rfl) ?_
| refine p_p (ps_assign rfl) ?_
| refine p_p (ps_load_cell rfl rfl) ?_
| refine p_p (ps_lenM rfl rfl rfl) ?_
| refine p_p (ps_fieldAddr rfl rfl) ?_
| refine p_p (ps_eql rfl rfl rfl) ?_
| refine p_p (ps_nilCheck rfl rfl) ?_); refine ⟨_, (by dsimp only [St.put, St.setObj, St.ev, killP, killA, killP1, killH, mapHO, renP, renA, ren1, killG, killGA, killG1, krowP, krowA, krow1, lendP, lendA, lend1, unv, pinP, pin1, elemsM, viewM, viewN, viewV, n_set_z, n_set_s, n_map_c, n_map_n, getD_z, getD_s, n_toNat, n_cond_t, n_cond_f, n_len_c, n_len_n, n_app_c, n_app_n, n_take_s, n_take_z, n_drop_s, n_drop_z, n_get_z, n_get_s, view, viewA, view1, elems, Nat.reduceAdd, Nat.reduceMul, Nat.zero_add, Nat.add_zero, Nat.reduceBEq, Bool.not_true, Bool.not_false, Nat.one_ne_zero, Nat.mul_one, reduceCtorEq]), ?_⟩)
| refine o_nil ?_
| (refine g_condD rfl (fun hc => ?_) (fun hc => ?_) <;> try (exfalso; omega))
| refine kr1 ?_
| refine krB rfl ?_
| refine g_skip ?_
| refine g_ret ?_)
  · rw [decide_eq_true hc]; rfl
  · rw [decide_eq_false hc, Bool.not_false, Bool.true_and]
    clear hc
    refine g_loopT (α := Nat) (fun y => [(16, I (y : Int))]) (fun _ => []) (fun y => y ≤ rows.length ∧ (allN y fun y => allN rows.length (jpP rows (x : Int) y)) = true) (fun y => rows.length - y) 0 (by simp only [havoc, dsts, List.filterMap_cons, List.filterMap_nil, List.foldl_cons, List.foldl_nil, List.cons_append, List.nil_append, List.append_nil, List.set_cons_succ, List.set_cons_zero]; exact rfl) ⟨Nat.zero_le _, rfl⟩ ⟨rfl, trivial⟩ rfl ?_
    rintro y ⟨hy, hgy⟩
    dsimp only [setMany, List.set_cons_zero, List.set_cons_succ]
    repeat' (first
| refine g_seq ?_
| refine g_block ?_
| refine g_region ?_
| (refine o_go rfl ?_; (first
| refine p_p (ps_move rfl) ?_
| refine p_p (ps_assign rfl) ?_
| refine p_p (ps_load_cell rfl rfl) ?_
| refine p_p (ps_lenM rfl rfl rfl) ?_
| refine p_p (ps_lss rfl rfl rfl) ?_
| refine p_p (ps_fieldAddr rfl rfl) ?_
| refine p_p (ps_nilCheck rfl rfl) ?_); refine ⟨_, (by dsimp only [St.put, St.setObj, St.ev, killP, killA, killP1, killH, mapHO, renP, renA, ren1, killG, killGA, killG1, krowP, krowA, krow1, lendP, lendA, lend1, unv, pinP, pin1, elemsM, viewM, viewN, viewV, n_set_z, n_set_s, n_map_c, n_map_n, getD_z, getD_s, n_toNat, n_cond_t, n_cond_f, n_len_c, n_len_n, n_app_c, n_app_n, n_take_s, n_take_z, n_drop_s, n_drop_z, n_get_z, n_get_s, view, viewA, view1, elems, Nat.reduceAdd, Nat.reduceMul, Nat.zero_add, Nat.add_zero, Nat.reduceBEq, Bool.not_true, Bool.not_false, Nat.one_ne_zero, Nat.mul_one, reduceCtorEq]), ?_⟩)
| refine o_nil ?_
| (refine g_condD rfl (fun hc => ?_) (fun hc => ?_) <;> try (exfalso; omega))
| refine kr1 ?_
| refine krB rfl ?_
| refine g_skip ?_
| refine g_exit ?_
| refine g_ret ?_)
    · refine g_loopT (α := Nat) (fun z => [(24, I (z : Int))]) (fun _ => []) (fun z => z ≤ rows.length ∧ (allN z (jpP rows (x : Int) y)) = true) (fun z => rows.length - z) 0 (by simp only [havoc, dsts, List.filterMap_cons, List.filterMap_nil, List.foldl_cons, List.foldl_nil, List.cons_append, List.nil_append, List.append_nil, List.set_cons_succ, List.set_cons_zero]; exact rfl) ⟨Nat.zero_le _, rfl⟩ ⟨rfl, trivial⟩ rfl ?_
      rintro z ⟨hz, hgz⟩
      dsimp only [setMany, List.set_cons_zero, List.set_cons_succ]
      have hj := fun (h : y < rows.length) (h' : z < rows.length) => join_in hg (x := (y : Int)) (y := (z : Int)) ⟨by omega, by omega⟩ ⟨by omega, by omega⟩
      repeat' (first
| refine g_seq ?_
| refine g_block ?_
| refine g_region ?_
| refine g_region_draw (by kernel_rfl) (by kernel_rfl) ?_
| (refine o_go rfl ?_; (first
| refine p_p (ps_index rfl rfl rfl (by omega) (by exact idx_TI (by omega) (by omega)) (by exact rfl)) ?_
| refine p_p (ps_index rfl rfl rfl (by omega) (by exact idx_RI (by omega) (by omega)) (by exact rfl)) ?_
| refine p_p (ps_index rfl rfl rfl (by omega) (by exact idx_TB (by omega) (by omega)) (by exact rfl)) ?_
| refine p_p (ps_index rfl rfl rfl (by omega) (by exact idx_RB (by omega) (by omega)) (by exact rfl)) ?_
| refine p_p (ps_move rfl) ?_
| refine p_p (ps_assign rfl) ?_
| refine p_p (ps_load_cell rfl rfl) ?_
| refine p_p (ps_lss rfl rfl rfl) ?_
| refine p_p (ps_add rfl rfl rfl (by constructor <;> omega)) ?_
| refine p_p (ps_fieldAddr rfl rfl) ?_
| refine p_p (ps_not rfl rfl) ?_
| refine p_p (ps_pick rfl rfl) ?_
| refine p_p (ps_nilCheck rfl rfl) ?_); refine ⟨_, (by dsimp only [St.put, St.setObj, St.ev, killP, killA, killP1, killH, mapHO, renP, renA, ren1, killG, killGA, killG1, krowP, krowA, krow1, lendP, lendA, lend1, unv, pinP, pin1, elemsM, viewM, viewN, viewV, n_set_z, n_set_s, n_map_c, n_map_n, getD_z, getD_s, n_toNat, n_cond_t, n_cond_f, n_len_c, n_len_n, n_app_c, n_app_n, n_take_s, n_take_z, n_drop_s, n_drop_z, n_get_z, n_get_s, view, viewA, view1, elems, Nat.reduceAdd, Nat.reduceMul, Nat.zero_add, Nat.add_zero, Nat.reduceBEq, Bool.not_true, Bool.not_false, Nat.one_ne_zero, Nat.mul_one, reduceCtorEq]), ?_⟩)
| refine o_nil ?_
| (refine o_s rfl ?_; refine ⟨_, (by dsimp only [St.put, St.setObj, St.ev, killP, killA, killP1, killH, mapHO, renP, renA, ren1, killG, killGA, killG1, krowP, krowA, krow1, lendP, lendA, lend1, unv, pinP, pin1, elemsM, viewM, viewN, viewV, n_set_z, n_set_s, n_map_c, n_map_n, getD_z, getD_s, n_toNat, n_cond_t, n_cond_f, n_len_c, n_len_n, n_app_c, n_app_n, n_take_s, n_take_z, n_drop_s, n_drop_z, n_get_z, n_get_s, view, viewA, view1, elems, Nat.reduceAdd, Nat.reduceMul, Nat.zero_add, Nat.add_zero, Nat.reduceBEq, Bool.not_true, Bool.not_false, Nat.one_ne_zero, Nat.mul_one, reduceCtorEq]), ?_⟩)
| (refine o_splitN rfl rfl rfl (fun hc => ?_) (fun hc => ?_) <;> dsimp only [List.set_cons_zero, List.set_cons_succ])
| (refine o_splitA rfl rfl rfl (fun hc => ?_) (fun hc => ?_) <;> dsimp only [List.set_cons_zero, List.set_cons_succ])
| refine g_condF rfl ?_
| (refine g_condD rfl (fun hc => ?_) (fun hc => ?_) <;> try (exfalso; omega))
| (refine g_condNB rfl (fun hc => ?_) (fun hc => ?_))
| refine kr1 ?_
| refine krB rfl ?_
| refine g_skip ?_
| refine g_exit ?_
| refine g_ret ?_)
      · exact Eq.symm (allN_false (k := y) (by omega) (allN_false (k := z) (by omega) (by unfold jpP; simp [*])))
      · exact k_round (z + 1) ⟨by omega, by rw [allN_succ, hgz]; unfold jpP; simp [*]⟩ (by omega) (by repeat (first | exact trivial | refine ⟨.inl rfl, ?_⟩ | refine ⟨.inr rfl, ?_⟩)) ⟨rfl, trivial⟩ (by first | exact hpLe_nil _ | exact hpLe_refl _)
      · exact k_round (z + 1) ⟨by omega, by rw [allN_succ, hgz]; unfold jpP; simp [*]⟩ (by omega) (by repeat (first | exact trivial | refine ⟨.inl rfl, ?_⟩ | refine ⟨.inr rfl, ?_⟩)) ⟨rfl, trivial⟩ (by first | exact hpLe_nil _ | exact hpLe_refl _)
      · exact k_round (z + 1) ⟨by omega, by rw [allN_succ, hgz]; unfold jpP; simp [*]⟩ (by omega) (by repeat (first | exact trivial | refine ⟨.inl rfl, ?_⟩ | refine ⟨.inr rfl, ?_⟩)) ⟨rfl, trivial⟩ (by first | exact hpLe_nil _ | exact hpLe_refl _)
      · rw [show z = rows.length by omega] at hgz
        exact k_round (y + 1) ⟨by omega, by rw [allN_succ, hgy, hgz]; rfl⟩ (by omega) (by repeat (first | exact trivial | refine ⟨.inl rfl, ?_⟩ | refine ⟨.inr rfl, ?_⟩)) ⟨rfl, trivial⟩ (by first | exact hpLe_nil _ | exact hpLe_refl _)
    · rw [show y = rows.length by omega] at hgy
      exact hgy.symm
set_option maxHeartbeats 1000000 in
set_option maxRecDepth 100000 in
theorem thoseG_c (t : List (List Bool)) (f : FuncId) [FnT Try.prog f] (first caps : List PV) (pred : Nat → Bool) (hok : okT t) (hf : ∀ x, x < t.length → PCalls Try.prog f (first ++ [I (x : Int)] ++ caps) (B (pred x))) :
    RCalls Try.prog 71 [boolss t, .fn f first caps] (.arr true 1 3 ((upTo t.length pred).map I)) (.hp 0) := by
  refine pcallsR1 Try.func71 rfl Try.ntmps71 rfl ?_
  simp only [List.length_cons, List.length_nil, Nat.reduceAdd, Nat.reduceSub, List.replicate_succ, List.replicate_zero, List.cons_append, List.nil_append]
  have htl := hok.1
  repeat' (first
| refine g_seq ?_
| refine g_block ?_
| refine g_region ?_
| (refine o_go rfl ?_; (first
| refine p_p (ps_move rfl) ?_
| refine p_p (ps_assign rfl) ?_
| refine p_p (ps_lenM rfl rfl rfl) ?_
| refine p_e rfl (e_lit0 rfl (by decide)) ?_); refine ⟨_, (by dsimp only [St.put, St.setObj, St.ev, killP, killA, killP1, killH, mapHO, renP, renA, ren1, killG, killGA, killG1, krowP, krowA, krow1, lendP, lendA, lend1, unv, pinP, pin1, elemsM, viewM, viewN, viewV, n_set_z, n_set_s, n_map_c, n_map_n, getD_z, getD_s, n_toNat, n_cond_t, n_cond_f, n_len_c, n_len_n, n_app_c, n_app_n, n_take_s, n_take_z, n_drop_s, n_drop_z, n_get_z, n_get_s, view, viewA, view1, elems, Nat.reduceAdd, Nat.reduceMul, Nat.zero_add, Nat.add_zero, Nat.reduceBEq, Bool.not_true, Bool.not_false, Nat.one_ne_zero, Nat.mul_one, reduceCtorEq]), ?_⟩)
| refine o_nil ?_)
  refine g_loopF (α := Nat) [7] (fun x => [(5, .hp 0), (10, I (x : Int))]) (fun x => [.arr false 1 3 ((upTo x pred).map I)]) (fun x => x ≤ t.length) (fun x => t.length - x) 0 (by simp only [havoc, dsts, List.filterMap_cons, List.filterMap_nil, List.foldl_cons, List.foldl_nil, List.cons_append, List.nil_append, List.append_nil, List.set_cons_succ, List.set_cons_zero]; exact rfl) (Nat.zero_le _) ⟨rfl, rfl, trivial⟩ rfl ?_
  rintro x hx
  dsimp only [setMany, List.set_cons_zero, List.set_cons_succ]
  have hul := upTo_length x pred
  have hsuc := upTo_succ x pred
  repeat' (first
| refine g_seq ?_
| refine g_block ?_
| refine g_region ?_
| (refine o_go rfl ?_; (first
| refine p_p (ps_call rfl rfl (argsLe_refl _) (hf x (by omega))) ?_
| refine p_p (ps_move rfl) ?_
| refine p_p (ps_assign rfl) ?_
| refine p_p (ps_lss rfl rfl rfl) ?_
| refine p_p (ps_add rfl rfl rfl (by constructor <;> omega)) ?_
| refine p_e rfl (e_append rfl rfl rfl rfl rfl rfl (by first | exact one_one rfl | exact one_map (fun _ => rfl) _) rfl (by first | omega | (simp; done) | (simp; omega)) (by first | omega | (simp; done) | (simp; omega))) ?_
| refine p_p (ps_lit1 rfl rfl (by rfl) (by rfl)) ?_); refine ⟨_, (by dsimp only [St.put, St.setObj, St.ev, killP, killA, killP1, killH, mapHO, renP, renA, ren1, killG, killGA, killG1, krowP, krowA, krow1, lendP, lendA, lend1, unv, pinP, pin1, elemsM, viewM, viewN, viewV, n_set_z, n_set_s, n_map_c, n_map_n, getD_z, getD_s, n_toNat, n_cond_t, n_cond_f, n_len_c, n_len_n, n_app_c, n_app_n, n_take_s, n_take_z, n_drop_s, n_drop_z, n_get_z, n_get_s, view, viewA, view1, elems, Nat.reduceAdd, Nat.reduceMul, Nat.zero_add, Nat.add_zero, Nat.reduceBEq, Bool.not_true, Bool.not_false, Nat.one_ne_zero, Nat.mul_one, reduceCtorEq]), ?_⟩)
| refine o_nil ?_
| (refine g_condD rfl (fun hc => ?_) (fun hc => ?_) <;> try (exfalso; omega))
| (refine g_cond rfl (fun hc => ?_) (fun hc => ?_))
| refine krr 0 rfl (HandOut.arr rfl ?_ (by first | exact sc_map (fun _ => rfl) _ | exact sc_maps (fun _ => rfl) _ | rfl))
| refine g_skip ?_
| refine g_exit ?_
| refine g_ret ?_)
  · rw [hc] at hsuc
    refine k_round (x + 1) (by omega) (by omega) (by repeat (first | exact trivial | refine ⟨.inl rfl, ?_⟩ | refine ⟨.inr rfl, ?_⟩)) ⟨rfl, rfl, trivial⟩ (hpLe_cons ?_ (hpLe_nil _))
    rw [hsuc]; simp
  · rw [hc] at hsuc
    refine k_round (x + 1) (by omega) (by omega) (by repeat (first | exact trivial | refine ⟨.inl rfl, ?_⟩ | refine ⟨.inr rfl, ?_⟩)) ⟨rfl, rfl, trivial⟩ (hpLe_cons ?_ (hpLe_nil _))
    rw [hsuc]; simp
  · have hxn : x = t.length := by omega
    subst hxn
    rfl

end Go.Proofs.Ytgecikhfkkkghaa
