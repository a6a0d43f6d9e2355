/- Walks: the reference's prime filters. -/
import Derived.Test.YtbfmjknngofleaaGreatKAu
import Derived.Test.YtbfmjknngofleaaGreatKAv
namespace Go.Proofs.YtbfmjknngofleaaGreat
open Go Go.Pv Go.Proofs

set_option maxHeartbeats 2000000 in
set_option maxRecDepth 100000 in
theorem fil5_c (rows : List (List Int)) (l : List Int) (hok : okP rows) (hg : goodL rows = true) (hl : l.length ≤ 1048576) : PCalls Tryz.prog 60 [posetP rows, ints l] (B (filB rows l)) := by
  refine pcalls1 Tryz.func60 rfl Tryz.ntmps60 rfl ?_
  simp only [List.length_cons, List.length_nil, Nat.reduceAdd, Nat.reduceSub, List.replicate_succ, List.replicate_zero, List.cons_append, List.nil_append]
  have hr := hok.1
  unfold filB
  repeat' (first
| refine g_seq ?_
| refine g_block ?_
| refine g_region ?_
| (refine o_go rfl ?_; (first
| refine p_p (ps_assign rfl) ?_
| refine p_p (ps_box rfl rfl) ?_); refine ⟨_, (by dsimp only [St.put, St.setObj, St.ev, killP, killA, killP1, killH, mapHO, renP, renA, ren1, killG, killGA, killG1, krowP, krowA, krow1, lendP, lendA, lend1, unv, pinP, pin1, elemsM, viewM, viewN, viewV, n_set_z, n_set_s, n_map_c, n_map_n, getD_z, getD_s, n_toNat, n_cond_t, n_cond_f, n_len_c, n_len_n, n_app_c, n_app_n, n_take_s, n_take_z, n_drop_s, n_drop_z, n_get_z, n_get_s, view, viewA, view1, elems, Nat.reduceAdd, Nat.reduceMul, Nat.zero_add, Nat.add_zero, Nat.reduceBEq, Bool.not_true, Bool.not_false, Nat.one_ne_zero, Nat.mul_one, reduceCtorEq]), ?_⟩)
| refine o_nil ?_)
  refine g_loopT (α := Nat) (fun x => [(5, I (x : Int))]) (fun _ => []) (fun x => x ≤ rows.length ∧ (allN x fun x => allN rows.length (filP rows l x)) = true) (fun x => rows.length - x) 0 (by simp only [havoc, dsts, List.filterMap_cons, List.filterMap_nil, List.foldl_cons, List.foldl_nil, List.cons_append, List.nil_append, List.append_nil, List.set_cons_succ, List.set_cons_zero]; exact rfl) ⟨Nat.zero_le _, rfl⟩ ⟨rfl, trivial⟩ rfl ?_
  rintro x ⟨hx, hgx⟩
  dsimp only [setMany, List.set_cons_zero, List.set_cons_succ]
  repeat' (first
| refine g_seq ?_
| refine g_block ?_
| refine g_region ?_
| (refine o_go rfl ?_; (first
| refine p_p (ps_move rfl) ?_
| refine p_p (ps_assign rfl) ?_
| refine p_p (ps_load_cell rfl rfl) ?_
| refine p_p (ps_lenM rfl rfl rfl) ?_
| refine p_p (ps_lss rfl rfl rfl) ?_
| refine p_p (ps_fieldAddr rfl rfl) ?_
| refine p_p (ps_pick rfl rfl) ?_
| refine p_p (ps_gtr rfl rfl rfl) ?_); refine ⟨_, (by dsimp only [St.put, St.setObj, St.ev, killP, killA, killP1, killH, mapHO, renP, renA, ren1, killG, killGA, killG1, krowP, krowA, krow1, lendP, lendA, lend1, unv, pinP, pin1, elemsM, viewM, viewN, viewV, n_set_z, n_set_s, n_map_c, n_map_n, getD_z, getD_s, n_toNat, n_cond_t, n_cond_f, n_len_c, n_len_n, n_app_c, n_app_n, n_take_s, n_take_z, n_drop_s, n_drop_z, n_get_z, n_get_s, view, viewA, view1, elems, Nat.reduceAdd, Nat.reduceMul, Nat.zero_add, Nat.add_zero, Nat.reduceBEq, Bool.not_true, Bool.not_false, Nat.one_ne_zero, Nat.mul_one, reduceCtorEq]), ?_⟩)
| refine o_nil ?_
| (refine o_s rfl ?_; refine ⟨_, (by dsimp only [St.put, St.setObj, St.ev, killP, killA, killP1, killH, mapHO, renP, renA, ren1, killG, killGA, killG1, krowP, krowA, krow1, lendP, lendA, lend1, unv, pinP, pin1, elemsM, viewM, viewN, viewV, n_set_z, n_set_s, n_map_c, n_map_n, getD_z, getD_s, n_toNat, n_cond_t, n_cond_f, n_len_c, n_len_n, n_app_c, n_app_n, n_take_s, n_take_z, n_drop_s, n_drop_z, n_get_z, n_get_s, view, viewA, view1, elems, Nat.reduceAdd, Nat.reduceMul, Nat.zero_add, Nat.add_zero, Nat.reduceBEq, Bool.not_true, Bool.not_false, Nat.one_ne_zero, Nat.mul_one, reduceCtorEq]), ?_⟩)
| (refine o_splitD rfl rfl rfl (fun hc => ?_) (fun hc => ?_) <;> first | (exfalso; omega) | dsimp only [List.set_cons_zero, List.set_cons_succ])
| (refine g_condD rfl (fun hc => ?_) (fun hc => ?_) <;> try (exfalso; omega))
| refine kr1 ?_
| refine krB rfl ?_
| refine g_skip ?_
| refine g_exit ?_
| refine g_ret ?_)
  · refine g_loopT (α := Nat) (fun y => [(6, I (y : Int))]) (fun _ => []) (fun y => y ≤ rows.length ∧ (allN y (filP rows l x)) = true) (fun y => rows.length - y) 0 (by simp only [havoc, dsts, List.filterMap_cons, List.filterMap_nil, List.foldl_cons, List.foldl_nil, List.cons_append, List.nil_append, List.append_nil, List.set_cons_succ, List.set_cons_zero]; exact rfl) ⟨Nat.zero_le _, rfl⟩ ⟨rfl, trivial⟩ rfl ?_
    rintro y ⟨hy, hgy⟩
    dsimp only [setMany, List.set_cons_zero, List.set_cons_succ]
    by_cases hye : y < rows.length
    · have hmi := meet_in hg (x := (x : Int)) (y := (y : Int)) ⟨by omega, by omega⟩ ⟨by omega, by omega⟩
      have hji := join_in hg (x := (x : Int)) (y := (y : Int)) ⟨by omega, by omega⟩ ⟨by omega, by omega⟩
      have c1 := has_c l (x : Int) (by omega)
      have c2 := has_c l (y : Int) (by omega)
      have c3 := has_c l (meetL rows (x : Int) (y : Int)) (by omega)
      have c4 := has_c l (joinL rows (x : Int) (y : Int)) (by omega)
      have c5 := leq_c rows (x : Int) (y : Int) hok (by omega) (by omega)
      have c6 := meet_c rows (x : Int) (y : Int) hok ⟨by omega, by omega⟩ ⟨by omega, by omega⟩
      have c7 := join_c rows (x : Int) (y : Int) hok ⟨by omega, by omega⟩ ⟨by omega, by omega⟩
      have hP : filP rows l x y = (!((l.contains (x : Int) && leqB rows (x : Int) (y : Int) && !l.contains (y : Int)) || (l.contains (x : Int) && l.contains (y : Int) && !l.contains (meetL rows (x : Int) (y : Int)))) && !(!l.contains (x : Int) && !l.contains (y : Int) && l.contains (joinL rows (x : Int) (y : Int)))) := rfl
      have hno : filP rows l x y = false → false = ((allN rows.length fun x => allN rows.length (filP rows l x)) && (decide (0 < (l.length : Int)) && decide ((l.length : Int) < (rows.length : Int)))) := fun h => by
        rw [allN_false (k := x) (by omega) (allN_false (k := y) hye h)]; rfl
      have hyes : filP rows l x y = true → allN (y + 1) (filP rows l x) = true := fun h => by rw [allN_succ, hgy, h]; rfl
      generalize l.contains (x : Int) = b1 at c1 hP
      generalize l.contains (y : Int) = b2 at c2 hP
      generalize l.contains (meetL rows (x : Int) (y : Int)) = b3 at c3 hP
      generalize l.contains (joinL rows (x : Int) (y : Int)) = b4 at c4 hP
      generalize leqB rows (x : Int) (y : Int) = b5 at c5 hP
      cases b1 <;> cases b2 <;> cases b5
      · repeat' (first
| refine g_seq ?_
| refine g_block ?_
| refine g_region ?_
| (refine o_go rfl ?_; (first
| refine p_p (ps_call rfl rfl (by (repeat (first | refine ⟨PV.le_refl _, ?_⟩ | refine ⟨PV.le_nn _ _ _, ?_⟩ | refine ⟨PV.le_nil _, ?_⟩ | refine ⟨PV.le_any _, ?_⟩)); exact trivial) (c1)) ?_
| refine p_p (ps_call rfl rfl (by (repeat (first | refine ⟨PV.le_refl _, ?_⟩ | refine ⟨PV.le_nn _ _ _, ?_⟩ | refine ⟨PV.le_nil _, ?_⟩ | refine ⟨PV.le_any _, ?_⟩)); exact trivial) (c2)) ?_
| refine p_p (ps_call rfl rfl (by (repeat (first | refine ⟨PV.le_refl _, ?_⟩ | refine ⟨PV.le_nn _ _ _, ?_⟩ | refine ⟨PV.le_nil _, ?_⟩ | refine ⟨PV.le_any _, ?_⟩)); exact trivial) (c4)) ?_
| refine p_p (ps_call rfl rfl (by (repeat (first | refine ⟨PV.le_refl _, ?_⟩ | refine ⟨PV.le_nn _ _ _, ?_⟩ | refine ⟨PV.le_nil _, ?_⟩ | refine ⟨PV.le_any _, ?_⟩)); exact trivial) (c7)) ?_
| refine p_p (ps_move rfl) ?_
| refine p_p (ps_assign rfl) ?_
| refine p_p (ps_load_cell rfl rfl) ?_
| refine p_p (ps_load_agg rfl rfl (by exact Nat.le_of_ble_eq_true rfl)) ?_
| refine p_p (ps_lenM rfl rfl rfl) ?_
| refine p_p (ps_lss rfl rfl rfl) ?_
| refine p_p (ps_add rfl rfl rfl (by constructor <;> omega)) ?_
| refine p_p (ps_fieldAddr rfl rfl) ?_
| refine p_p (ps_not rfl rfl) ?_
| refine p_p (ps_pick rfl rfl) ?_); refine ⟨_, (by dsimp only [St.put, St.setObj, St.ev, killP, killA, killP1, killH, mapHO, renP, renA, ren1, killG, killGA, killG1, krowP, krowA, krow1, lendP, lendA, lend1, unv, pinP, pin1, elemsM, viewM, viewN, viewV, n_set_z, n_set_s, n_map_c, n_map_n, getD_z, getD_s, n_toNat, n_cond_t, n_cond_f, n_len_c, n_len_n, n_app_c, n_app_n, n_take_s, n_take_z, n_drop_s, n_drop_z, n_get_z, n_get_s, view, viewA, view1, elems, Nat.reduceAdd, Nat.reduceMul, Nat.zero_add, Nat.add_zero, Nat.reduceBEq, Bool.not_true, Bool.not_false, Nat.one_ne_zero, Nat.mul_one, reduceCtorEq]), ?_⟩)
| refine o_nil ?_
| (refine o_s rfl ?_; refine ⟨_, (by dsimp only [St.put, St.setObj, St.ev, killP, killA, killP1, killH, mapHO, renP, renA, ren1, killG, killGA, killG1, krowP, krowA, krow1, lendP, lendA, lend1, unv, pinP, pin1, elemsM, viewM, viewN, viewV, n_set_z, n_set_s, n_map_c, n_map_n, getD_z, getD_s, n_toNat, n_cond_t, n_cond_f, n_len_c, n_len_n, n_app_c, n_app_n, n_take_s, n_take_z, n_drop_s, n_drop_z, n_get_z, n_get_s, view, viewA, view1, elems, Nat.reduceAdd, Nat.reduceMul, Nat.zero_add, Nat.add_zero, Nat.reduceBEq, Bool.not_true, Bool.not_false, Nat.one_ne_zero, Nat.mul_one, reduceCtorEq]), ?_⟩)
| refine g_condF rfl ?_
| (refine g_condD rfl (fun hc => ?_) (fun hc => ?_) <;> try (exfalso; omega))
| (refine g_cond rfl (fun hc => ?_) (fun hc => ?_))
| refine kr1 ?_
| refine krB rfl ?_
| refine g_skip ?_
| refine g_ret ?_)
        all_goals first | exact hno (by rw [hP]; first | rfl | (rw [hc]; rfl)) | exact k_round (y + 1) ⟨by omega, hyes (by rw [hP]; first | rfl | (rw [hc]; rfl))⟩ (by omega) (by repeat (first | exact trivial | refine ⟨.inl rfl, ?_⟩ | refine ⟨.inr rfl, ?_⟩)) ⟨rfl, trivial⟩ (by first | exact hpLe_nil _ | exact hpLe_refl _)
      · repeat' (first
| refine g_seq ?_
| refine g_block ?_
| refine g_region ?_
| (refine o_go rfl ?_; (first
| refine p_p (ps_call rfl rfl (by (repeat (first | refine ⟨PV.le_refl _, ?_⟩ | refine ⟨PV.le_nn _ _ _, ?_⟩ | refine ⟨PV.le_nil _, ?_⟩ | refine ⟨PV.le_any _, ?_⟩)); exact trivial) (c1)) ?_
| refine p_p (ps_call rfl rfl (by (repeat (first | refine ⟨PV.le_refl _, ?_⟩ | refine ⟨PV.le_nn _ _ _, ?_⟩ | refine ⟨PV.le_nil _, ?_⟩ | refine ⟨PV.le_any _, ?_⟩)); exact trivial) (c2)) ?_
| refine p_p (ps_call rfl rfl (by (repeat (first | refine ⟨PV.le_refl _, ?_⟩ | refine ⟨PV.le_nn _ _ _, ?_⟩ | refine ⟨PV.le_nil _, ?_⟩ | refine ⟨PV.le_any _, ?_⟩)); exact trivial) (c4)) ?_
| refine p_p (ps_call rfl rfl (by (repeat (first | refine ⟨PV.le_refl _, ?_⟩ | refine ⟨PV.le_nn _ _ _, ?_⟩ | refine ⟨PV.le_nil _, ?_⟩ | refine ⟨PV.le_any _, ?_⟩)); exact trivial) (c7)) ?_
| refine p_p (ps_move rfl) ?_
| refine p_p (ps_assign rfl) ?_
| refine p_p (ps_load_cell rfl rfl) ?_
| refine p_p (ps_load_agg rfl rfl (by exact Nat.le_of_ble_eq_true rfl)) ?_
| refine p_p (ps_lenM rfl rfl rfl) ?_
| refine p_p (ps_lss rfl rfl rfl) ?_
| refine p_p (ps_add rfl rfl rfl (by constructor <;> omega)) ?_
| refine p_p (ps_fieldAddr rfl rfl) ?_
| refine p_p (ps_not rfl rfl) ?_
| refine p_p (ps_pick rfl rfl) ?_); refine ⟨_, (by dsimp only [St.put, St.setObj, St.ev, killP, killA, killP1, killH, mapHO, renP, renA, ren1, killG, killGA, killG1, krowP, krowA, krow1, lendP, lendA, lend1, unv, pinP, pin1, elemsM, viewM, viewN, viewV, n_set_z, n_set_s, n_map_c, n_map_n, getD_z, getD_s, n_toNat, n_cond_t, n_cond_f, n_len_c, n_len_n, n_app_c, n_app_n, n_take_s, n_take_z, n_drop_s, n_drop_z, n_get_z, n_get_s, view, viewA, view1, elems, Nat.reduceAdd, Nat.reduceMul, Nat.zero_add, Nat.add_zero, Nat.reduceBEq, Bool.not_true, Bool.not_false, Nat.one_ne_zero, Nat.mul_one, reduceCtorEq]), ?_⟩)
| refine o_nil ?_
| (refine o_s rfl ?_; refine ⟨_, (by dsimp only [St.put, St.setObj, St.ev, killP, killA, killP1, killH, mapHO, renP, renA, ren1, killG, killGA, killG1, krowP, krowA, krow1, lendP, lendA, lend1, unv, pinP, pin1, elemsM, viewM, viewN, viewV, n_set_z, n_set_s, n_map_c, n_map_n, getD_z, getD_s, n_toNat, n_cond_t, n_cond_f, n_len_c, n_len_n, n_app_c, n_app_n, n_take_s, n_take_z, n_drop_s, n_drop_z, n_get_z, n_get_s, view, viewA, view1, elems, Nat.reduceAdd, Nat.reduceMul, Nat.zero_add, Nat.add_zero, Nat.reduceBEq, Bool.not_true, Bool.not_false, Nat.one_ne_zero, Nat.mul_one, reduceCtorEq]), ?_⟩)
| refine g_condF rfl ?_
| (refine g_condD rfl (fun hc => ?_) (fun hc => ?_) <;> try (exfalso; omega))
| (refine g_cond rfl (fun hc => ?_) (fun hc => ?_))
| refine kr1 ?_
| refine krB rfl ?_
| refine g_skip ?_
| refine g_ret ?_)
        all_goals first | exact hno (by rw [hP]; first | rfl | (rw [hc]; rfl)) | exact k_round (y + 1) ⟨by omega, hyes (by rw [hP]; first | rfl | (rw [hc]; rfl))⟩ (by omega) (by repeat (first | exact trivial | refine ⟨.inl rfl, ?_⟩ | refine ⟨.inr rfl, ?_⟩)) ⟨rfl, trivial⟩ (by first | exact hpLe_nil _ | exact hpLe_refl _)
      · repeat' (first
| refine g_seq ?_
| refine g_block ?_
| refine g_region ?_
| (refine o_go rfl ?_; (first
| refine p_p (ps_call rfl rfl (by (repeat (first | refine ⟨PV.le_refl _, ?_⟩ | refine ⟨PV.le_nn _ _ _, ?_⟩ | refine ⟨PV.le_nil _, ?_⟩ | refine ⟨PV.le_any _, ?_⟩)); exact trivial) (c1)) ?_
| refine p_p (ps_call rfl rfl (by (repeat (first | refine ⟨PV.le_refl _, ?_⟩ | refine ⟨PV.le_nn _ _ _, ?_⟩ | refine ⟨PV.le_nil _, ?_⟩ | refine ⟨PV.le_any _, ?_⟩)); exact trivial) (c2)) ?_
| refine p_p (ps_move rfl) ?_
| refine p_p (ps_assign rfl) ?_
| refine p_p (ps_load_cell rfl rfl) ?_
| refine p_p (ps_lenM rfl rfl rfl) ?_
| refine p_p (ps_lss rfl rfl rfl) ?_
| refine p_p (ps_add rfl rfl rfl (by constructor <;> omega)) ?_
| refine p_p (ps_fieldAddr rfl rfl) ?_
| refine p_p (ps_not rfl rfl) ?_
| refine p_p (ps_pick rfl rfl) ?_); refine ⟨_, (by dsimp only [St.put, St.setObj, St.ev, killP, killA, killP1, killH, mapHO, renP, renA, ren1, killG, killGA, killG1, krowP, krowA, krow1, lendP, lendA, lend1, unv, pinP, pin1, elemsM, viewM, viewN, viewV, n_set_z, n_set_s, n_map_c, n_map_n, getD_z, getD_s, n_toNat, n_cond_t, n_cond_f, n_len_c, n_len_n, n_app_c, n_app_n, n_take_s, n_take_z, n_drop_s, n_drop_z, n_get_z, n_get_s, view, viewA, view1, elems, Nat.reduceAdd, Nat.reduceMul, Nat.zero_add, Nat.add_zero, Nat.reduceBEq, Bool.not_true, Bool.not_false, Nat.one_ne_zero, Nat.mul_one, reduceCtorEq]), ?_⟩)
| refine o_nil ?_
| (refine o_s rfl ?_; refine ⟨_, (by dsimp only [St.put, St.setObj, St.ev, killP, killA, killP1, killH, mapHO, renP, renA, ren1, killG, killGA, killG1, krowP, krowA, krow1, lendP, lendA, lend1, unv, pinP, pin1, elemsM, viewM, viewN, viewV, n_set_z, n_set_s, n_map_c, n_map_n, getD_z, getD_s, n_toNat, n_cond_t, n_cond_f, n_len_c, n_len_n, n_app_c, n_app_n, n_take_s, n_take_z, n_drop_s, n_drop_z, n_get_z, n_get_s, view, viewA, view1, elems, Nat.reduceAdd, Nat.reduceMul, Nat.zero_add, Nat.add_zero, Nat.reduceBEq, Bool.not_true, Bool.not_false, Nat.one_ne_zero, Nat.mul_one, reduceCtorEq]), ?_⟩)
| refine g_condF rfl ?_
| (refine g_condD rfl (fun hc => ?_) (fun hc => ?_) <;> try (exfalso; omega))
| refine g_skip ?_)
        all_goals first | exact hno (by rw [hP]; first | rfl | (rw [hc]; rfl)) | exact k_round (y + 1) ⟨by omega, hyes (by rw [hP]; first | rfl | (rw [hc]; rfl))⟩ (by omega) (by repeat (first | exact trivial | refine ⟨.inl rfl, ?_⟩ | refine ⟨.inr rfl, ?_⟩)) ⟨rfl, trivial⟩ (by first | exact hpLe_nil _ | exact hpLe_refl _)
      · repeat' (first
| refine g_seq ?_
| refine g_block ?_
| refine g_region ?_
| (refine o_go rfl ?_; (first
| refine p_p (ps_call rfl rfl (by (repeat (first | refine ⟨PV.le_refl _, ?_⟩ | refine ⟨PV.le_nn _ _ _, ?_⟩ | refine ⟨PV.le_nil _, ?_⟩ | refine ⟨PV.le_any _, ?_⟩)); exact trivial) (c1)) ?_
| refine p_p (ps_call rfl rfl (by (repeat (first | refine ⟨PV.le_refl _, ?_⟩ | refine ⟨PV.le_nn _ _ _, ?_⟩ | refine ⟨PV.le_nil _, ?_⟩ | refine ⟨PV.le_any _, ?_⟩)); exact trivial) (c2)) ?_
| refine p_p (ps_move rfl) ?_
| refine p_p (ps_assign rfl) ?_
| refine p_p (ps_load_cell rfl rfl) ?_
| refine p_p (ps_lenM rfl rfl rfl) ?_
| refine p_p (ps_lss rfl rfl rfl) ?_
| refine p_p (ps_add rfl rfl rfl (by constructor <;> omega)) ?_
| refine p_p (ps_fieldAddr rfl rfl) ?_
| refine p_p (ps_not rfl rfl) ?_
| refine p_p (ps_pick rfl rfl) ?_); refine ⟨_, (by dsimp only [St.put, St.setObj, St.ev, killP, killA, killP1, killH, mapHO, renP, renA, ren1, killG, killGA, killG1, krowP, krowA, krow1, lendP, lendA, lend1, unv, pinP, pin1, elemsM, viewM, viewN, viewV, n_set_z, n_set_s, n_map_c, n_map_n, getD_z, getD_s, n_toNat, n_cond_t, n_cond_f, n_len_c, n_len_n, n_app_c, n_app_n, n_take_s, n_take_z, n_drop_s, n_drop_z, n_get_z, n_get_s, view, viewA, view1, elems, Nat.reduceAdd, Nat.reduceMul, Nat.zero_add, Nat.add_zero, Nat.reduceBEq, Bool.not_true, Bool.not_false, Nat.one_ne_zero, Nat.mul_one, reduceCtorEq]), ?_⟩)
| refine o_nil ?_
| (refine o_s rfl ?_; refine ⟨_, (by dsimp only [St.put, St.setObj, St.ev, killP, killA, killP1, killH, mapHO, renP, renA, ren1, killG, killGA, killG1, krowP, krowA, krow1, lendP, lendA, lend1, unv, pinP, pin1, elemsM, viewM, viewN, viewV, n_set_z, n_set_s, n_map_c, n_map_n, getD_z, getD_s, n_toNat, n_cond_t, n_cond_f, n_len_c, n_len_n, n_app_c, n_app_n, n_take_s, n_take_z, n_drop_s, n_drop_z, n_get_z, n_get_s, view, viewA, view1, elems, Nat.reduceAdd, Nat.reduceMul, Nat.zero_add, Nat.add_zero, Nat.reduceBEq, Bool.not_true, Bool.not_false, Nat.one_ne_zero, Nat.mul_one, reduceCtorEq]), ?_⟩)
| refine g_condF rfl ?_
| (refine g_condD rfl (fun hc => ?_) (fun hc => ?_) <;> try (exfalso; omega))
| refine g_skip ?_)
        all_goals first | exact hno (by rw [hP]; first | rfl | (rw [hc]; rfl)) | exact k_round (y + 1) ⟨by omega, hyes (by rw [hP]; first | rfl | (rw [hc]; rfl))⟩ (by omega) (by repeat (first | exact trivial | refine ⟨.inl rfl, ?_⟩ | refine ⟨.inr rfl, ?_⟩)) ⟨rfl, trivial⟩ (by first | exact hpLe_nil _ | exact hpLe_refl _)
      · repeat' (first
| refine g_seq ?_
| refine g_block ?_
| refine g_region ?_
| (refine o_go rfl ?_; (first
| refine p_p (ps_call rfl rfl (by (repeat (first | refine ⟨PV.le_refl _, ?_⟩ | refine ⟨PV.le_nn _ _ _, ?_⟩ | refine ⟨PV.le_nil _, ?_⟩ | refine ⟨PV.le_any _, ?_⟩)); exact trivial) (c1)) ?_
| refine p_p (ps_call rfl rfl (by (repeat (first | refine ⟨PV.le_refl _, ?_⟩ | refine ⟨PV.le_nn _ _ _, ?_⟩ | refine ⟨PV.le_nil _, ?_⟩ | refine ⟨PV.le_any _, ?_⟩)); exact trivial) (c2)) ?_
| refine p_p (ps_call rfl rfl (by (repeat (first | refine ⟨PV.le_refl _, ?_⟩ | refine ⟨PV.le_nn _ _ _, ?_⟩ | refine ⟨PV.le_nil _, ?_⟩ | refine ⟨PV.le_any _, ?_⟩)); exact trivial) (c5)) ?_
| refine p_p (ps_move rfl) ?_
| refine p_p (ps_assign rfl) ?_
| refine p_p (ps_load_cell rfl rfl) ?_
| refine p_p (ps_load_agg rfl rfl (by exact Nat.le_of_ble_eq_true rfl)) ?_
| refine p_p (ps_lenM rfl rfl rfl) ?_
| refine p_p (ps_lss rfl rfl rfl) ?_
| refine p_p (ps_add rfl rfl rfl (by constructor <;> omega)) ?_
| refine p_p (ps_fieldAddr rfl rfl) ?_
| refine p_p (ps_not rfl rfl) ?_
| refine p_p (ps_pick rfl rfl) ?_); refine ⟨_, (by dsimp only [St.put, St.setObj, St.ev, killP, killA, killP1, killH, mapHO, renP, renA, ren1, killG, killGA, killG1, krowP, krowA, krow1, lendP, lendA, lend1, unv, pinP, pin1, elemsM, viewM, viewN, viewV, n_set_z, n_set_s, n_map_c, n_map_n, getD_z, getD_s, n_toNat, n_cond_t, n_cond_f, n_len_c, n_len_n, n_app_c, n_app_n, n_take_s, n_take_z, n_drop_s, n_drop_z, n_get_z, n_get_s, view, viewA, view1, elems, Nat.reduceAdd, Nat.reduceMul, Nat.zero_add, Nat.add_zero, Nat.reduceBEq, Bool.not_true, Bool.not_false, Nat.one_ne_zero, Nat.mul_one, reduceCtorEq]), ?_⟩)
| refine o_nil ?_
| (refine o_s rfl ?_; refine ⟨_, (by dsimp only [St.put, St.setObj, St.ev, killP, killA, killP1, killH, mapHO, renP, renA, ren1, killG, killGA, killG1, krowP, krowA, krow1, lendP, lendA, lend1, unv, pinP, pin1, elemsM, viewM, viewN, viewV, n_set_z, n_set_s, n_map_c, n_map_n, getD_z, getD_s, n_toNat, n_cond_t, n_cond_f, n_len_c, n_len_n, n_app_c, n_app_n, n_take_s, n_take_z, n_drop_s, n_drop_z, n_get_z, n_get_s, view, viewA, view1, elems, Nat.reduceAdd, Nat.reduceMul, Nat.zero_add, Nat.add_zero, Nat.reduceBEq, Bool.not_true, Bool.not_false, Nat.one_ne_zero, Nat.mul_one, reduceCtorEq]), ?_⟩)
| refine g_condF rfl ?_
| (refine g_condD rfl (fun hc => ?_) (fun hc => ?_) <;> try (exfalso; omega))
| refine g_skip ?_)
        all_goals first | exact hno (by rw [hP]; first | rfl | (rw [hc]; rfl)) | exact k_round (y + 1) ⟨by omega, hyes (by rw [hP]; first | rfl | (rw [hc]; rfl))⟩ (by omega) (by repeat (first | exact trivial | refine ⟨.inl rfl, ?_⟩ | refine ⟨.inr rfl, ?_⟩)) ⟨rfl, trivial⟩ (by first | exact hpLe_nil _ | exact hpLe_refl _)
      · repeat' (first
| refine g_seq ?_
| refine g_block ?_
| refine g_region ?_
| (refine o_go rfl ?_; (first
| refine p_p (ps_call rfl rfl (by (repeat (first | refine ⟨PV.le_refl _, ?_⟩ | refine ⟨PV.le_nn _ _ _, ?_⟩ | refine ⟨PV.le_nil _, ?_⟩ | refine ⟨PV.le_any _, ?_⟩)); exact trivial) (c1)) ?_
| refine p_p (ps_call rfl rfl (by (repeat (first | refine ⟨PV.le_refl _, ?_⟩ | refine ⟨PV.le_nn _ _ _, ?_⟩ | refine ⟨PV.le_nil _, ?_⟩ | refine ⟨PV.le_any _, ?_⟩)); exact trivial) (c2)) ?_
| refine p_p (ps_call rfl rfl (by (repeat (first | refine ⟨PV.le_refl _, ?_⟩ | refine ⟨PV.le_nn _ _ _, ?_⟩ | refine ⟨PV.le_nil _, ?_⟩ | refine ⟨PV.le_any _, ?_⟩)); exact trivial) (c5)) ?_
| refine p_p (ps_move rfl) ?_
| refine p_p (ps_assign rfl) ?_
| refine p_p (ps_load_cell rfl rfl) ?_
| refine p_p (ps_load_agg rfl rfl (by exact Nat.le_of_ble_eq_true rfl)) ?_
| refine p_p (ps_lenM rfl rfl rfl) ?_
| refine p_p (ps_lss rfl rfl rfl) ?_
| refine p_p (ps_fieldAddr rfl rfl) ?_
| refine p_p (ps_not rfl rfl) ?_
| refine p_p (ps_pick rfl rfl) ?_); refine ⟨_, (by dsimp only [St.put, St.setObj, St.ev, killP, killA, killP1, killH, mapHO, renP, renA, ren1, killG, killGA, killG1, krowP, krowA, krow1, lendP, lendA, lend1, unv, pinP, pin1, elemsM, viewM, viewN, viewV, n_set_z, n_set_s, n_map_c, n_map_n, getD_z, getD_s, n_toNat, n_cond_t, n_cond_f, n_len_c, n_len_n, n_app_c, n_app_n, n_take_s, n_take_z, n_drop_s, n_drop_z, n_get_z, n_get_s, view, viewA, view1, elems, Nat.reduceAdd, Nat.reduceMul, Nat.zero_add, Nat.add_zero, Nat.reduceBEq, Bool.not_true, Bool.not_false, Nat.one_ne_zero, Nat.mul_one, reduceCtorEq]), ?_⟩)
| refine o_nil ?_
| (refine o_s rfl ?_; refine ⟨_, (by dsimp only [St.put, St.setObj, St.ev, killP, killA, killP1, killH, mapHO, renP, renA, ren1, killG, killGA, killG1, krowP, krowA, krow1, lendP, lendA, lend1, unv, pinP, pin1, elemsM, viewM, viewN, viewV, n_set_z, n_set_s, n_map_c, n_map_n, getD_z, getD_s, n_toNat, n_cond_t, n_cond_f, n_len_c, n_len_n, n_app_c, n_app_n, n_take_s, n_take_z, n_drop_s, n_drop_z, n_get_z, n_get_s, view, viewA, view1, elems, Nat.reduceAdd, Nat.reduceMul, Nat.zero_add, Nat.add_zero, Nat.reduceBEq, Bool.not_true, Bool.not_false, Nat.one_ne_zero, Nat.mul_one, reduceCtorEq]), ?_⟩)
| refine g_condT rfl ?_
| (refine g_condD rfl (fun hc => ?_) (fun hc => ?_) <;> try (exfalso; omega))
| refine kr1 ?_
| refine krB rfl ?_
| refine g_skip ?_
| refine g_ret ?_)
        all_goals first | exact hno (by rw [hP]; first | rfl | (rw [hc]; rfl)) | exact k_round (y + 1) ⟨by omega, hyes (by rw [hP]; first | rfl | (rw [hc]; rfl))⟩ (by omega) (by repeat (first | exact trivial | refine ⟨.inl rfl, ?_⟩ | refine ⟨.inr rfl, ?_⟩)) ⟨rfl, trivial⟩ (by first | exact hpLe_nil _ | exact hpLe_refl _)
      · repeat' (first
| refine g_seq ?_
| refine g_block ?_
| refine g_region ?_
| (refine o_go rfl ?_; (first
| refine p_p (ps_call rfl rfl (by (repeat (first | refine ⟨PV.le_refl _, ?_⟩ | refine ⟨PV.le_nn _ _ _, ?_⟩ | refine ⟨PV.le_nil _, ?_⟩ | refine ⟨PV.le_any _, ?_⟩)); exact trivial) (c1)) ?_
| refine p_p (ps_call rfl rfl (by (repeat (first | refine ⟨PV.le_refl _, ?_⟩ | refine ⟨PV.le_nn _ _ _, ?_⟩ | refine ⟨PV.le_nil _, ?_⟩ | refine ⟨PV.le_any _, ?_⟩)); exact trivial) (c2)) ?_
| refine p_p (ps_call rfl rfl (by (repeat (first | refine ⟨PV.le_refl _, ?_⟩ | refine ⟨PV.le_nn _ _ _, ?_⟩ | refine ⟨PV.le_nil _, ?_⟩ | refine ⟨PV.le_any _, ?_⟩)); exact trivial) (c3)) ?_
| refine p_p (ps_call rfl rfl (by (repeat (first | refine ⟨PV.le_refl _, ?_⟩ | refine ⟨PV.le_nn _ _ _, ?_⟩ | refine ⟨PV.le_nil _, ?_⟩ | refine ⟨PV.le_any _, ?_⟩)); exact trivial) (c5)) ?_
| refine p_p (ps_call rfl rfl (by (repeat (first | refine ⟨PV.le_refl _, ?_⟩ | refine ⟨PV.le_nn _ _ _, ?_⟩ | refine ⟨PV.le_nil _, ?_⟩ | refine ⟨PV.le_any _, ?_⟩)); exact trivial) (c6)) ?_
| refine p_p (ps_move rfl) ?_
| refine p_p (ps_assign rfl) ?_
| refine p_p (ps_load_cell rfl rfl) ?_
| refine p_p (ps_load_agg rfl rfl (by exact Nat.le_of_ble_eq_true rfl)) ?_
| refine p_p (ps_lenM rfl rfl rfl) ?_
| refine p_p (ps_lss rfl rfl rfl) ?_
| refine p_p (ps_add rfl rfl rfl (by constructor <;> omega)) ?_
| refine p_p (ps_fieldAddr rfl rfl) ?_
| refine p_p (ps_not rfl rfl) ?_
| refine p_p (ps_pick rfl rfl) ?_); refine ⟨_, (by dsimp only [St.put, St.setObj, St.ev, killP, killA, killP1, killH, mapHO, renP, renA, ren1, killG, killGA, killG1, krowP, krowA, krow1, lendP, lendA, lend1, unv, pinP, pin1, elemsM, viewM, viewN, viewV, n_set_z, n_set_s, n_map_c, n_map_n, getD_z, getD_s, n_toNat, n_cond_t, n_cond_f, n_len_c, n_len_n, n_app_c, n_app_n, n_take_s, n_take_z, n_drop_s, n_drop_z, n_get_z, n_get_s, view, viewA, view1, elems, Nat.reduceAdd, Nat.reduceMul, Nat.zero_add, Nat.add_zero, Nat.reduceBEq, Bool.not_true, Bool.not_false, Nat.one_ne_zero, Nat.mul_one, reduceCtorEq]), ?_⟩)
| refine o_nil ?_
| (refine o_s rfl ?_; refine ⟨_, (by dsimp only [St.put, St.setObj, St.ev, killP, killA, killP1, killH, mapHO, renP, renA, ren1, killG, killGA, killG1, krowP, krowA, krow1, lendP, lendA, lend1, unv, pinP, pin1, elemsM, viewM, viewN, viewV, n_set_z, n_set_s, n_map_c, n_map_n, getD_z, getD_s, n_toNat, n_cond_t, n_cond_f, n_len_c, n_len_n, n_app_c, n_app_n, n_take_s, n_take_z, n_drop_s, n_drop_z, n_get_z, n_get_s, view, viewA, view1, elems, Nat.reduceAdd, Nat.reduceMul, Nat.zero_add, Nat.add_zero, Nat.reduceBEq, Bool.not_true, Bool.not_false, Nat.one_ne_zero, Nat.mul_one, reduceCtorEq]), ?_⟩)
| refine g_condF rfl ?_
| (refine g_condD rfl (fun hc => ?_) (fun hc => ?_) <;> try (exfalso; omega))
| (refine g_condNB rfl (fun hc => ?_) (fun hc => ?_))
| refine kr1 ?_
| refine krB rfl ?_
| refine g_skip ?_
| refine g_ret ?_)
        all_goals first | exact hno (by rw [hP]; first | rfl | (rw [hc]; rfl)) | exact k_round (y + 1) ⟨by omega, hyes (by rw [hP]; first | rfl | (rw [hc]; rfl))⟩ (by omega) (by repeat (first | exact trivial | refine ⟨.inl rfl, ?_⟩ | refine ⟨.inr rfl, ?_⟩)) ⟨rfl, trivial⟩ (by first | exact hpLe_nil _ | exact hpLe_refl _)
      · repeat' (first
| refine g_seq ?_
| refine g_block ?_
| refine g_region ?_
| (refine o_go rfl ?_; (first
| refine p_p (ps_call rfl rfl (by (repeat (first | refine ⟨PV.le_refl _, ?_⟩ | refine ⟨PV.le_nn _ _ _, ?_⟩ | refine ⟨PV.le_nil _, ?_⟩ | refine ⟨PV.le_any _, ?_⟩)); exact trivial) (c1)) ?_
| refine p_p (ps_call rfl rfl (by (repeat (first | refine ⟨PV.le_refl _, ?_⟩ | refine ⟨PV.le_nn _ _ _, ?_⟩ | refine ⟨PV.le_nil _, ?_⟩ | refine ⟨PV.le_any _, ?_⟩)); exact trivial) (c2)) ?_
| refine p_p (ps_call rfl rfl (by (repeat (first | refine ⟨PV.le_refl _, ?_⟩ | refine ⟨PV.le_nn _ _ _, ?_⟩ | refine ⟨PV.le_nil _, ?_⟩ | refine ⟨PV.le_any _, ?_⟩)); exact trivial) (c3)) ?_
| refine p_p (ps_call rfl rfl (by (repeat (first | refine ⟨PV.le_refl _, ?_⟩ | refine ⟨PV.le_nn _ _ _, ?_⟩ | refine ⟨PV.le_nil _, ?_⟩ | refine ⟨PV.le_any _, ?_⟩)); exact trivial) (c5)) ?_
| refine p_p (ps_call rfl rfl (by (repeat (first | refine ⟨PV.le_refl _, ?_⟩ | refine ⟨PV.le_nn _ _ _, ?_⟩ | refine ⟨PV.le_nil _, ?_⟩ | refine ⟨PV.le_any _, ?_⟩)); exact trivial) (c6)) ?_
| refine p_p (ps_move rfl) ?_
| refine p_p (ps_assign rfl) ?_
| refine p_p (ps_load_cell rfl rfl) ?_
| refine p_p (ps_load_agg rfl rfl (by exact Nat.le_of_ble_eq_true rfl)) ?_
| refine p_p (ps_lenM rfl rfl rfl) ?_
| refine p_p (ps_lss rfl rfl rfl) ?_
| refine p_p (ps_add rfl rfl rfl (by constructor <;> omega)) ?_
| refine p_p (ps_fieldAddr rfl rfl) ?_
| refine p_p (ps_not rfl rfl) ?_
| refine p_p (ps_pick rfl rfl) ?_); refine ⟨_, (by dsimp only [St.put, St.setObj, St.ev, killP, killA, killP1, killH, mapHO, renP, renA, ren1, killG, killGA, killG1, krowP, krowA, krow1, lendP, lendA, lend1, unv, pinP, pin1, elemsM, viewM, viewN, viewV, n_set_z, n_set_s, n_map_c, n_map_n, getD_z, getD_s, n_toNat, n_cond_t, n_cond_f, n_len_c, n_len_n, n_app_c, n_app_n, n_take_s, n_take_z, n_drop_s, n_drop_z, n_get_z, n_get_s, view, viewA, view1, elems, Nat.reduceAdd, Nat.reduceMul, Nat.zero_add, Nat.add_zero, Nat.reduceBEq, Bool.not_true, Bool.not_false, Nat.one_ne_zero, Nat.mul_one, reduceCtorEq]), ?_⟩)
| refine o_nil ?_
| (refine o_s rfl ?_; refine ⟨_, (by dsimp only [St.put, St.setObj, St.ev, killP, killA, killP1, killH, mapHO, renP, renA, ren1, killG, killGA, killG1, krowP, krowA, krow1, lendP, lendA, lend1, unv, pinP, pin1, elemsM, viewM, viewN, viewV, n_set_z, n_set_s, n_map_c, n_map_n, getD_z, getD_s, n_toNat, n_cond_t, n_cond_f, n_len_c, n_len_n, n_app_c, n_app_n, n_take_s, n_take_z, n_drop_s, n_drop_z, n_get_z, n_get_s, view, viewA, view1, elems, Nat.reduceAdd, Nat.reduceMul, Nat.zero_add, Nat.add_zero, Nat.reduceBEq, Bool.not_true, Bool.not_false, Nat.one_ne_zero, Nat.mul_one, reduceCtorEq]), ?_⟩)
| refine g_condF rfl ?_
| (refine g_condD rfl (fun hc => ?_) (fun hc => ?_) <;> try (exfalso; omega))
| (refine g_condNB rfl (fun hc => ?_) (fun hc => ?_))
| refine kr1 ?_
| refine krB rfl ?_
| refine g_skip ?_
| refine g_ret ?_)
        all_goals first | exact hno (by rw [hP]; first | rfl | (rw [hc]; rfl)) | exact k_round (y + 1) ⟨by omega, hyes (by rw [hP]; first | rfl | (rw [hc]; rfl))⟩ (by omega) (by repeat (first | exact trivial | refine ⟨.inl rfl, ?_⟩ | refine ⟨.inr rfl, ?_⟩)) ⟨rfl, trivial⟩ (by first | exact hpLe_nil _ | exact hpLe_refl _)
    · repeat' (first
| refine g_seq ?_
| refine g_region ?_
| (refine o_go rfl ?_; (first
| refine p_p (ps_move rfl) ?_
| refine p_p (ps_assign rfl) ?_
| refine p_p (ps_load_cell rfl rfl) ?_
| refine p_p (ps_lenM rfl rfl rfl) ?_
| refine p_p (ps_lss rfl rfl rfl) ?_
| refine p_p (ps_add rfl rfl rfl (by constructor <;> omega)) ?_
| refine p_p (ps_fieldAddr rfl rfl) ?_); refine ⟨_, (by dsimp only [St.put, St.setObj, St.ev, killP, killA, killP1, killH, mapHO, renP, renA, ren1, killG, killGA, killG1, krowP, krowA, krow1, lendP, lendA, lend1, unv, pinP, pin1, elemsM, viewM, viewN, viewV, n_set_z, n_set_s, n_map_c, n_map_n, getD_z, getD_s, n_toNat, n_cond_t, n_cond_f, n_len_c, n_len_n, n_app_c, n_app_n, n_take_s, n_take_z, n_drop_s, n_drop_z, n_get_z, n_get_s, view, viewA, view1, elems, Nat.reduceAdd, Nat.reduceMul, Nat.zero_add, Nat.add_zero, Nat.reduceBEq, Bool.not_true, Bool.not_false, Nat.one_ne_zero, Nat.mul_one, reduceCtorEq]), ?_⟩)
| refine o_nil ?_
| (refine g_condD rfl (fun hc => ?_) (fun hc => ?_) <;> try (exfalso; omega))
| refine g_exit ?_)
      rw [show y = rows.length by omega] at hgy
      exact k_round (x + 1) ⟨by omega, by rw [allN_succ, hgx, hgy]; rfl⟩ (by omega) (by repeat (first | exact trivial | refine ⟨.inl rfl, ?_⟩ | refine ⟨.inr rfl, ?_⟩)) ⟨rfl, trivial⟩ (by first | exact hpLe_nil _ | exact hpLe_refl _)
  · rw [show x = rows.length by omega] at hgx
    rw [hgx, Bool.true_and, decide_eq_true hc, Bool.true_and]
  · rw [decide_eq_false hc, Bool.false_and, Bool.and_false]
end Go.Proofs.YtbfmjknngofleaaGreat
