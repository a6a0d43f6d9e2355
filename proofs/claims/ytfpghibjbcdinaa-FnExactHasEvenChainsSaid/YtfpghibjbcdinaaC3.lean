/- Walks: the program's complements. -/
import Derived.Test.YtfpghibjbcdinaaC1
import Derived.Test.YtfpghibjbcdinaaSp11
namespace Go.Proofs.Ytfpghibjbcdinaa
open Go Go.Pv Go.Proofs

set_option maxRecDepth 100000 in
theorem rel1_c (rows : List (List Int)) (x y z : Int) (w : Nat) (hy : inR rows y) (hw : w < rows.length) :
    PCalls Try.prog 98 ([] ++ [I (w : Int)] ++ [.ptr [latP rows], .ptr [I y], .ptr [I x], .ptr [I z]]) (B (relB rows x y z w)) := by
  refine pcalls1 Try.func98 rfl Try.ntmps98 rfl ?_
  simp only [List.length_cons, List.length_nil, Nat.reduceAdd, Nat.reduceSub, List.replicate_succ, List.replicate_zero, List.cons_append, List.nil_append]
  unfold inR at hy
  have e : relB rows x y z w = (decide (meetL rows (w : Int) y = x) && decide (joinL rows (w : Int) y = z)) := by unfold relB; rw [meet_comm, join_comm]
  rw [e]
  repeat' (first
| refine g_seq ?_
| refine g_region ?_
| refine g_region_draw (by kernel_rfl) (by kernel_rfl) ?_
| (refine o_go rfl ?_; (first
| refine p_p (ps_index rfl rfl rfl (by omega) (by exact idx_TI (by omega) (by omega)) (by exact rfl)) ?_
| refine p_p (ps_index rfl rfl rfl (by omega) (by exact idx_RI (by omega) (by omega)) (by exact rfl)) ?_
| refine p_p (ps_move rfl) ?_
| refine p_p (ps_assign rfl) ?_
| refine p_p (ps_load_cell rfl rfl) ?_
| refine p_p (ps_fieldAddr rfl rfl) ?_
| refine p_p (ps_pick rfl rfl) ?_
| refine p_p (ps_eql rfl rfl rfl) ?_
| refine p_p (ps_nilCheck rfl rfl) ?_); refine ⟨_, (by dsimp only [St.put, St.setObj, St.ev, killP, killA, killP1, killH, mapHO, renP, renA, ren1, killG, killGA, killG1, krowP, krowA, krow1, lendP, lendA, lend1, unv, pinP, pin1, elemsM, viewM, viewN, viewV, n_set_z, n_set_s, n_map_c, n_map_n, getD_z, getD_s, n_toNat, n_cond_t, n_cond_f, n_len_c, n_len_n, n_app_c, n_app_n, n_take_s, n_take_z, n_drop_s, n_drop_z, n_get_z, n_get_s, view, viewA, view1, elems, Nat.reduceAdd, Nat.reduceMul, Nat.zero_add, Nat.add_zero, Nat.reduceBEq, Bool.not_true, Bool.not_false, Nat.one_ne_zero, Nat.mul_one, reduceCtorEq]), ?_⟩)
| refine o_nil ?_
| (refine o_s rfl ?_; refine ⟨_, (by dsimp only [St.put, St.setObj, St.ev, killP, killA, killP1, killH, mapHO, renP, renA, ren1, killG, killGA, killG1, krowP, krowA, krow1, lendP, lendA, lend1, unv, pinP, pin1, elemsM, viewM, viewN, viewV, n_set_z, n_set_s, n_map_c, n_map_n, getD_z, getD_s, n_toNat, n_cond_t, n_cond_f, n_len_c, n_len_n, n_app_c, n_app_n, n_take_s, n_take_z, n_drop_s, n_drop_z, n_get_z, n_get_s, view, viewA, view1, elems, Nat.reduceAdd, Nat.reduceMul, Nat.zero_add, Nat.add_zero, Nat.reduceBEq, Bool.not_true, Bool.not_false, Nat.one_ne_zero, Nat.mul_one, reduceCtorEq]), ?_⟩)
| (refine o_splitD rfl rfl rfl (fun hc => ?_) (fun hc => ?_) <;> first | (exfalso; omega) | dsimp only [List.set_cons_zero, List.set_cons_succ])
| refine kr1 ?_
| refine krB rfl ?_
| refine g_ret ?_)
  · rw [decide_eq_true hc]; rfl
  · rw [decide_eq_false hc]; rfl
set_option maxRecDepth 100000 in
theorem irelR_c (rows : List (List Int)) (x y z : Int) (hg : goodL rows = true) (hy : inR rows y) : RCalls Try.prog 61 [latP rows, I x, I y, I z] (.arr true 1 3 ((relL rows x y z).map I)) (.hp 0) := by
  refine pcallsR1 Try.func61 rfl Try.ntmps61 rfl ?_
  simp only [List.length_cons, List.length_nil, Nat.reduceAdd, Nat.reduceSub, List.replicate_succ, List.replicate_zero, List.cons_append, List.nil_append]
  have hlen := length_tabZ rows.length (leqB rows)
  have h1 := thoseR_c (tabZ rows.length (leqB rows)) 98 [.ptr [latP rows], .ptr [I y], .ptr [I x], .ptr [I z]] (relB rows x y z) (okT_Z _ (good_10 hg)) (fun w hw => rel1_c rows x y z w hy (by omega))
  rw [hlen] at h1
  repeat' (first
| refine g_seq ?_
| refine g_region ?_
| (refine o_go rfl ?_; (first
| refine p_e rfl (e_callR rfl rfl (by (repeat (first | refine ⟨PV.le_refl _, ?_⟩ | refine ⟨PV.le_nn _ _ _, ?_⟩ | refine ⟨PV.le_nil _, ?_⟩ | refine ⟨PV.le_any _, ?_⟩)); exact trivial) rfl (h1)) ?_
| refine p_p (ps_assign rfl) ?_
| refine p_p (ps_load_cell rfl rfl) ?_
| refine p_p (ps_fieldAddr rfl rfl) ?_
| refine p_p (ps_nilCheck rfl rfl) ?_
| refine p_p (ps_box rfl rfl) ?_
| refine p_p (ps_makeFunc rfl rfl rfl) ?_); refine ⟨_, (by dsimp only [St.put, St.setObj, St.ev, killP, killA, killP1, killH, mapHO, renP, renA, ren1, killG, killGA, killG1, krowP, krowA, krow1, lendP, lendA, lend1, unv, pinP, pin1, elemsM, viewM, viewN, viewV, n_set_z, n_set_s, n_map_c, n_map_n, getD_z, getD_s, n_toNat, n_cond_t, n_cond_f, n_len_c, n_len_n, n_app_c, n_app_n, n_take_s, n_take_z, n_drop_s, n_drop_z, n_get_z, n_get_s, view, viewA, view1, elems, Nat.reduceAdd, Nat.reduceMul, Nat.zero_add, Nat.add_zero, Nat.reduceBEq, Bool.not_true, Bool.not_false, Nat.one_ne_zero, Nat.mul_one, reduceCtorEq]), ?_⟩)
| refine o_nil ?_
| refine krr 0 rfl (HandOut.arr rfl ?_ (by first | exact sc_map (fun _ => rfl) _ | exact sc_maps (fun _ => rfl) _ | rfl))
| refine g_ret ?_)
  rfl
theorem irel_c (rows : List (List Int)) (x y z : Int) (hg : goodL rows = true) (hy : inR rows y) : PCalls Try.prog 61 [latP rows, I x, I y, I z] (ints (relL rows x y z)) := (irelR_c rows x y z hg hy).plain rfl rfl
set_option maxRecDepth 100000 in
theorem icompR_c (rows : List (List Int)) (x : Int) (hg : goodL rows = true) (hx : inR rows x) : RCalls Try.prog 54 [latP rows, I x] (.arr true 1 3 ((relL rows (botL rows) x (topL rows)).map I)) (.hp 0) := by
  refine pcallsR1 Try.func54 rfl Try.ntmps54 rfl ?_
  simp only [List.length_cons, List.length_nil, Nat.reduceAdd, Nat.reduceSub, List.replicate_succ, List.replicate_zero, List.cons_append, List.nil_append]
  repeat' (first
| refine g_seq ?_
| refine g_region ?_
| (refine o_go rfl ?_; (first
| refine p_p (ps_call rfl rfl (by (repeat (first | refine ⟨PV.le_refl _, ?_⟩ | refine ⟨PV.le_nn _ _ _, ?_⟩ | refine ⟨PV.le_nil _, ?_⟩ | refine ⟨PV.le_any _, ?_⟩)); exact trivial) (ibot_c rows hg)) ?_
| refine p_p (ps_call rfl rfl (by (repeat (first | refine ⟨PV.le_refl _, ?_⟩ | refine ⟨PV.le_nn _ _ _, ?_⟩ | refine ⟨PV.le_nil _, ?_⟩ | refine ⟨PV.le_any _, ?_⟩)); exact trivial) (itop_c rows hg)) ?_
| refine p_e rfl (e_callR rfl rfl (by (repeat (first | refine ⟨PV.le_refl _, ?_⟩ | refine ⟨PV.le_nn _ _ _, ?_⟩ | refine ⟨PV.le_nil _, ?_⟩ | refine ⟨PV.le_any _, ?_⟩)); exact trivial) rfl (irelR_c rows _ _ _ hg hx)) ?_
| refine p_p (ps_move rfl) ?_
| refine p_p (ps_assign rfl) ?_); refine ⟨_, (by dsimp only [St.put, St.setObj, St.ev, killP, killA, killP1, killH, mapHO, renP, renA, ren1, killG, killGA, killG1, krowP, krowA, krow1, lendP, lendA, lend1, unv, pinP, pin1, elemsM, viewM, viewN, viewV, n_set_z, n_set_s, n_map_c, n_map_n, getD_z, getD_s, n_toNat, n_cond_t, n_cond_f, n_len_c, n_len_n, n_app_c, n_app_n, n_take_s, n_take_z, n_drop_s, n_drop_z, n_get_z, n_get_s, view, viewA, view1, elems, Nat.reduceAdd, Nat.reduceMul, Nat.zero_add, Nat.add_zero, Nat.reduceBEq, Bool.not_true, Bool.not_false, Nat.one_ne_zero, Nat.mul_one, reduceCtorEq]), ?_⟩)
| refine o_nil ?_
| refine krr 0 rfl (HandOut.arr rfl ?_ (by first | exact sc_map (fun _ => rfl) _ | exact sc_maps (fun _ => rfl) _ | rfl))
| refine g_ret ?_)
  rfl
theorem icomp_c (rows : List (List Int)) (x : Int) (hg : goodL rows = true) (hx : inR rows x) : PCalls Try.prog 54 [latP rows, I x] (ints (relL rows (botL rows) x (topL rows))) := (icompR_c rows x hg hx).plain rfl rfl
set_option maxHeartbeats 1000000 in
set_option maxRecDepth 100000 in
theorem allPairs_no (rows : List (List Int)) (f : FuncId) (caps : List PV) (hok : okP rows) (hg : goodL rows = false) : PCalls Try.prog 69 [posetP rows, .fn f [] caps] (.tup [B false, B false]) := by
  refine pcalls2 Try.func69 rfl Try.ntmps69 rfl ?_
  simp only [List.length_cons, List.length_nil, Nat.reduceAdd, Nat.reduceSub, List.replicate_succ, List.replicate_zero, List.cons_append, List.nil_append]
  repeat' (first
| refine g_seq ?_
| refine g_region ?_
| (refine o_go rfl ?_; (first
| refine p_p (ps_call rfl rfl (by (repeat (first | refine ⟨PV.le_refl _, ?_⟩ | refine ⟨PV.le_nn _ _ _, ?_⟩ | refine ⟨PV.le_nil _, ?_⟩ | refine ⟨PV.le_any _, ?_⟩)); exact trivial) (lat_no rows hok hg)) ?_
| refine p_p (ps_move rfl) ?_
| refine p_p (ps_assign rfl) ?_
| refine p_p (ps_load_agg rfl rfl (by exact Nat.le_of_ble_eq_true rfl)) ?_
| refine p_p (ps_extract rfl rfl rfl) ?_
| refine p_p (ps_not rfl rfl) ?_
| refine p_p (ps_box rfl rfl) ?_); refine ⟨_, (by dsimp only [St.put, St.setObj, St.ev, killP, killA, killP1, killH, mapHO, renP, renA, ren1, killG, killGA, killG1, krowP, krowA, krow1, lendP, lendA, lend1, unv, pinP, pin1, elemsM, viewM, viewN, viewV, n_set_z, n_set_s, n_map_c, n_map_n, getD_z, getD_s, n_toNat, n_cond_t, n_cond_f, n_len_c, n_len_n, n_app_c, n_app_n, n_take_s, n_take_z, n_drop_s, n_drop_z, n_get_z, n_get_s, view, viewA, view1, elems, Nat.reduceAdd, Nat.reduceMul, Nat.zero_add, Nat.add_zero, Nat.reduceBEq, Bool.not_true, Bool.not_false, Nat.one_ne_zero, Nat.mul_one, reduceCtorEq]), ?_⟩)
| refine o_nil ?_
| refine g_condT rfl ?_
| refine kr2 ?_ ?_
| refine krB rfl ?_
| refine g_ret ?_)
  all_goals rfl
set_option maxHeartbeats 1000000 in
set_option maxRecDepth 100000 in
theorem allPairs_c (rows : List (List Int)) (f : FuncId) [FnT Try.prog f] (caps : List PV) (pred : Nat → Nat → Bool) (hok : okP rows) (hg : goodL rows = true) (hf : ∀ x y, x < rows.length → y < rows.length → PCalls Try.prog f ([] ++ [latP rows, I (x : Int), I (y : Int)] ++ caps) (B (pred x y))) :
    PCalls Try.prog 69 [posetP rows, .fn f [] caps] (.tup [B (allN rows.length fun x => allN rows.length fun y => pred x y), B true]) := by
  refine pcalls2 Try.func69 rfl Try.ntmps69 rfl ?_
  simp only [List.length_cons, List.length_nil, Nat.reduceAdd, Nat.reduceSub, List.replicate_succ, List.replicate_zero, List.cons_append, List.nil_append]
  have hlen := length_tabZ rows.length (leqB rows)
  have h10 := good_10 hg
  repeat' (first
| refine g_seq ?_
| refine g_block ?_
| refine g_region ?_
| (refine o_go rfl ?_; (first
| refine p_p (ps_call rfl rfl (by (repeat (first | refine ⟨PV.le_refl _, ?_⟩ | refine ⟨PV.le_nn _ _ _, ?_⟩ | refine ⟨PV.le_nil _, ?_⟩ | refine ⟨PV.le_any _, ?_⟩)); exact trivial) (lat_yes rows hok hg)) ?_
| refine p_p (ps_move rfl) ?_
| refine p_p (ps_assign rfl) ?_
| refine p_p (ps_load_cell rfl rfl) ?_
| refine p_p (ps_load_agg rfl rfl (by exact Nat.le_of_ble_eq_true rfl)) ?_
| refine p_p (ps_lenM rfl rfl rfl) ?_
| refine p_p (ps_fieldAddr rfl rfl) ?_
| refine p_p (ps_extract rfl rfl rfl) ?_
| refine p_p (ps_not rfl rfl) ?_
| refine p_p (ps_nilCheck rfl rfl) ?_
| refine p_p (ps_box rfl rfl) ?_); refine ⟨_, (by dsimp only [St.put, St.setObj, St.ev, killP, killA, killP1, killH, mapHO, renP, renA, ren1, killG, killGA, killG1, krowP, krowA, krow1, lendP, lendA, lend1, unv, pinP, pin1, elemsM, viewM, viewN, viewV, n_set_z, n_set_s, n_map_c, n_map_n, getD_z, getD_s, n_toNat, n_cond_t, n_cond_f, n_len_c, n_len_n, n_app_c, n_app_n, n_take_s, n_take_z, n_drop_s, n_drop_z, n_get_z, n_get_s, view, viewA, view1, elems, Nat.reduceAdd, Nat.reduceMul, Nat.zero_add, Nat.add_zero, Nat.reduceBEq, Bool.not_true, Bool.not_false, Nat.one_ne_zero, Nat.mul_one, reduceCtorEq]), ?_⟩)
| refine o_nil ?_
| refine g_condF rfl ?_
| refine g_skip ?_)
  refine g_loopT (α := Nat) (fun x => [(22, I (x : Int))]) (fun _ => []) (fun x => x ≤ rows.length ∧ (allN x fun x => allN rows.length fun y => pred x y) = true) (fun x => rows.length - x) 0 (by simp only [havoc, dsts, List.filterMap_cons, List.filterMap_nil, List.foldl_cons, List.foldl_nil, List.cons_append, List.nil_append, List.append_nil, List.set_cons_succ, List.set_cons_zero]; exact rfl) ⟨Nat.zero_le _, rfl⟩ ⟨rfl, trivial⟩ rfl ?_
  rintro x ⟨hx, hgx⟩
  dsimp only [setMany, List.set_cons_zero, List.set_cons_succ]
  repeat' (first
| refine g_seq ?_
| refine g_block ?_
| refine g_region ?_
| (refine o_go rfl ?_; (first
| refine p_p (ps_move rfl) ?_
| refine p_p (ps_assign rfl) ?_
| refine p_p (ps_load_cell rfl rfl) ?_
| refine p_p (ps_lenM rfl rfl rfl) ?_
| refine p_p (ps_lss rfl rfl rfl) ?_
| refine p_p (ps_fieldAddr rfl rfl) ?_
| refine p_p (ps_nilCheck rfl rfl) ?_); refine ⟨_, (by dsimp only [St.put, St.setObj, St.ev, killP, killA, killP1, killH, mapHO, renP, renA, ren1, killG, killGA, killG1, krowP, krowA, krow1, lendP, lendA, lend1, unv, pinP, pin1, elemsM, viewM, viewN, viewV, n_set_z, n_set_s, n_map_c, n_map_n, getD_z, getD_s, n_toNat, n_cond_t, n_cond_f, n_len_c, n_len_n, n_app_c, n_app_n, n_take_s, n_take_z, n_drop_s, n_drop_z, n_get_z, n_get_s, view, viewA, view1, elems, Nat.reduceAdd, Nat.reduceMul, Nat.zero_add, Nat.add_zero, Nat.reduceBEq, Bool.not_true, Bool.not_false, Nat.one_ne_zero, Nat.mul_one, reduceCtorEq]), ?_⟩)
| refine o_nil ?_
| (refine g_condD rfl (fun hc => ?_) (fun hc => ?_) <;> try (exfalso; omega))
| refine kr2 ?_ ?_
| refine krB rfl ?_
| refine g_skip ?_
| refine g_exit ?_
| refine g_ret ?_)
  · refine g_loopT (α := Nat) (fun y => [(30, I (y : Int))]) (fun _ => []) (fun y => y ≤ rows.length ∧ (allN y fun y => pred x y) = true) (fun y => rows.length - y) 0 (by simp only [havoc, dsts, List.filterMap_cons, List.filterMap_nil, List.foldl_cons, List.foldl_nil, List.cons_append, List.nil_append, List.append_nil, List.set_cons_succ, List.set_cons_zero]; exact rfl) ⟨Nat.zero_le _, rfl⟩ ⟨rfl, trivial⟩ rfl ?_
    rintro y ⟨hy, hgy⟩
    dsimp only [setMany, List.set_cons_zero, List.set_cons_succ]
    repeat' (first
| refine g_seq ?_
| refine g_block ?_
| refine g_region ?_
| (refine o_go rfl ?_; (first
| refine p_p (ps_call rfl rfl (argsLe_refl _) (hf x y (by omega) (by omega))) ?_
| refine p_p (ps_move rfl) ?_
| refine p_p (ps_assign rfl) ?_
| refine p_p (ps_lss rfl rfl rfl) ?_
| refine p_p (ps_add rfl rfl rfl (by constructor <;> omega)) ?_
| refine p_p (ps_not rfl rfl) ?_); refine ⟨_, (by dsimp only [St.put, St.setObj, St.ev, killP, killA, killP1, killH, mapHO, renP, renA, ren1, killG, killGA, killG1, krowP, krowA, krow1, lendP, lendA, lend1, unv, pinP, pin1, elemsM, viewM, viewN, viewV, n_set_z, n_set_s, n_map_c, n_map_n, getD_z, getD_s, n_toNat, n_cond_t, n_cond_f, n_len_c, n_len_n, n_app_c, n_app_n, n_take_s, n_take_z, n_drop_s, n_drop_z, n_get_z, n_get_s, view, viewA, view1, elems, Nat.reduceAdd, Nat.reduceMul, Nat.zero_add, Nat.add_zero, Nat.reduceBEq, Bool.not_true, Bool.not_false, Nat.one_ne_zero, Nat.mul_one, reduceCtorEq]), ?_⟩)
| refine o_nil ?_
| (refine g_condD rfl (fun hc => ?_) (fun hc => ?_) <;> try (exfalso; omega))
| (refine g_condNB rfl (fun hc => ?_) (fun hc => ?_))
| refine kr2 ?_ ?_
| refine krB rfl ?_
| refine g_skip ?_
| refine g_exit ?_
| refine g_ret ?_)
    · exact (allN_false (k := x) (by omega) (allN_false (k := y) (by omega) hc)).symm
    · rfl
    · exact k_round (y + 1) ⟨by omega, by rw [allN_succ, hgy, hc]; rfl⟩ (by omega) (by repeat (first | exact trivial | refine ⟨.inl rfl, ?_⟩ | refine ⟨.inr rfl, ?_⟩)) ⟨rfl, trivial⟩ (by first | exact hpLe_nil _ | exact hpLe_refl _)
    · have hyn : y = rows.length := by omega
      subst hyn
      exact k_round (x + 1) ⟨by omega, by rw [allN_succ, hgx, hgy]; rfl⟩ (by omega) (by repeat (first | exact trivial | refine ⟨.inl rfl, ?_⟩ | refine ⟨.inr rfl, ?_⟩)) ⟨rfl, trivial⟩ (by first | exact hpLe_nil _ | exact hpLe_refl _)
  · have hxn : x = rows.length := by omega
    subst hxn
    exact hgx.symm
  · rfl
end Go.Proofs.Ytfpghibjbcdinaa
