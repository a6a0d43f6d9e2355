/- Walks: the program's lattice functions. -/
import Derived.Test.YtbfmjknngofleaaGreatKBq
import Derived.Test.YtbfmjknngofleaaGreatKSq
import Derived.Test.YtbfmjknngofleaaGreatKPq
namespace Go.Proofs.YtbfmjknngofleaaGreat
open Go Go.Pv Go.Proofs

set_option maxRecDepth 100000 in
theorem ibot_c (rows : List (List Int)) (hg : goodL rows = true) : PCalls Tryz.prog 98 [latP rows] (I (botL rows)) := by
  refine pcalls1 Tryz.func98 rfl Tryz.ntmps98 rfl ?_
  simp only [List.length_cons, List.length_nil, Nat.reduceAdd, Nat.reduceSub, List.replicate_succ, List.replicate_zero, List.cons_append, List.nil_append]
  have hL := goodL_lat hg
  have h0 := good_pos hg
  have h10 := good_10 hg
  have hlen := length_tabZ rows.length (leqB rows)
  repeat' (first
| refine g_seq ?_
| refine g_block ?_
| refine g_region ?_
| (refine o_go rfl ?_; (first
| refine p_p (ps_move rfl) ?_
| refine p_p (ps_assign rfl) ?_
| refine p_p (ps_load_cell rfl rfl) ?_
| refine p_p (ps_lenM rfl rfl rfl) ?_
| refine p_p (ps_fieldAddr rfl rfl) ?_
| refine p_p (ps_nilCheck rfl rfl) ?_); refine ⟨_, (by dsimp only [St.put, St.setObj, St.ev, killP, killA, killP1, killH, mapHO, renP, renA, ren1, killG, killGA, killG1, krowP, krowA, krow1, lendP, lendA, lend1, unv, pinP, pin1, elemsM, viewM, viewN, viewV, n_set_z, n_set_s, n_map_c, n_map_n, getD_z, getD_s, n_toNat, n_cond_t, n_cond_f, n_len_c, n_len_n, n_app_c, n_app_n, n_take_s, n_take_z, n_drop_s, n_drop_z, n_get_z, n_get_s, view, viewA, view1, elems, Nat.reduceAdd, Nat.reduceMul, Nat.zero_add, Nat.add_zero, Nat.reduceBEq, Bool.not_true, Bool.not_false, Nat.one_ne_zero, Nat.mul_one, reduceCtorEq]), ?_⟩)
| refine o_nil ?_)
  refine g_loopT (α := Nat) (fun x => [(3, I (botN rows x)), (10, I (x : Int))]) (fun _ => []) (fun x => x ≤ rows.length) (fun x => rows.length - x) 0 (by simp only [havoc, dsts, List.filterMap_cons, List.filterMap_nil, List.foldl_cons, List.foldl_nil, List.cons_append, List.nil_append, List.append_nil, List.set_cons_succ, List.set_cons_zero]; exact rfl) (Nat.zero_le _) ⟨rfl, rfl, trivial⟩ rfl ?_
  rintro x hx
  dsimp only [setMany, List.set_cons_zero, List.set_cons_succ]
  have hb := botN_in hL h0 x hx
  unfold inR at hb
  repeat' (first
| refine g_seq ?_
| refine g_block ?_
| refine g_region ?_
| (refine o_go rfl ?_; (first
| refine p_p (ps_index rfl rfl rfl (by omega) (by exact idx_TI (by omega) (by omega)) (by exact rfl)) ?_
| refine p_p (ps_index rfl rfl rfl (by omega) (by exact idx_RI (by omega) (by omega)) (by exact rfl)) ?_
| refine p_p (ps_move rfl) ?_
| refine p_p (ps_assign rfl) ?_
| refine p_p (ps_load_cell rfl rfl) ?_
| refine p_p (ps_lss rfl rfl rfl) ?_
| refine p_p (ps_add rfl rfl rfl (by constructor <;> omega)) ?_
| refine p_p (ps_fieldAddr rfl rfl) ?_
| refine p_p (ps_nilCheck rfl rfl) ?_); refine ⟨_, (by dsimp only [St.put, St.setObj, St.ev, killP, killA, killP1, killH, mapHO, renP, renA, ren1, killG, killGA, killG1, krowP, krowA, krow1, lendP, lendA, lend1, unv, pinP, pin1, elemsM, viewM, viewN, viewV, n_set_z, n_set_s, n_map_c, n_map_n, getD_z, getD_s, n_toNat, n_cond_t, n_cond_f, n_len_c, n_len_n, n_app_c, n_app_n, n_take_s, n_take_z, n_drop_s, n_drop_z, n_get_z, n_get_s, view, viewA, view1, elems, Nat.reduceAdd, Nat.reduceMul, Nat.zero_add, Nat.add_zero, Nat.reduceBEq, Bool.not_true, Bool.not_false, Nat.one_ne_zero, Nat.mul_one, reduceCtorEq]), ?_⟩)
| refine o_nil ?_
| (refine g_condD rfl (fun hc => ?_) (fun hc => ?_) <;> try (exfalso; omega))
| refine kr1 ?_
| refine krI rfl ?_
| refine g_skip ?_
| refine g_exit ?_
| refine g_ret ?_)
  · exact k_round (x + 1) (by omega) (by omega) (by repeat (first | exact trivial | refine ⟨.inl rfl, ?_⟩ | refine ⟨.inr rfl, ?_⟩)) ⟨rfl, rfl, trivial⟩ (hpLe_nil _)
  · rw [bot_eq hg, show x = rows.length by omega]

set_option maxRecDepth 100000 in
theorem itop_c (rows : List (List Int)) (hg : goodL rows = true) : PCalls Tryz.prog 120 [latP rows] (I (topL rows)) := by
  refine pcalls1 Tryz.func120 rfl Tryz.ntmps120 rfl ?_
  simp only [List.length_cons, List.length_nil, Nat.reduceAdd, Nat.reduceSub, List.replicate_succ, List.replicate_zero, List.cons_append, List.nil_append]
  have hL := goodL_lat hg
  have h0 := good_pos hg
  have h10 := good_10 hg
  have hlen := length_tabZ rows.length (leqB rows)
  repeat' (first
| refine g_seq ?_
| refine g_block ?_
| refine g_region ?_
| (refine o_go rfl ?_; (first
| refine p_p (ps_move rfl) ?_
| refine p_p (ps_assign rfl) ?_
| refine p_p (ps_load_cell rfl rfl) ?_
| refine p_p (ps_lenM rfl rfl rfl) ?_
| refine p_p (ps_fieldAddr rfl rfl) ?_
| refine p_p (ps_nilCheck rfl rfl) ?_); refine ⟨_, (by dsimp only [St.put, St.setObj, St.ev, killP, killA, killP1, killH, mapHO, renP, renA, ren1, killG, killGA, killG1, krowP, krowA, krow1, lendP, lendA, lend1, unv, pinP, pin1, elemsM, viewM, viewN, viewV, n_set_z, n_set_s, n_map_c, n_map_n, getD_z, getD_s, n_toNat, n_cond_t, n_cond_f, n_len_c, n_len_n, n_app_c, n_app_n, n_take_s, n_take_z, n_drop_s, n_drop_z, n_get_z, n_get_s, view, viewA, view1, elems, Nat.reduceAdd, Nat.reduceMul, Nat.zero_add, Nat.add_zero, Nat.reduceBEq, Bool.not_true, Bool.not_false, Nat.one_ne_zero, Nat.mul_one, reduceCtorEq]), ?_⟩)
| refine o_nil ?_)
  refine g_loopT (α := Nat) (fun x => [(3, I (topN rows x)), (10, I (x : Int))]) (fun _ => []) (fun x => x ≤ rows.length) (fun x => rows.length - x) 0 (by simp only [havoc, dsts, List.filterMap_cons, List.filterMap_nil, List.foldl_cons, List.foldl_nil, List.cons_append, List.nil_append, List.append_nil, List.set_cons_succ, List.set_cons_zero]; exact rfl) (Nat.zero_le _) ⟨rfl, rfl, trivial⟩ rfl ?_
  rintro x hx
  dsimp only [setMany, List.set_cons_zero, List.set_cons_succ]
  have hb := topN_in hL h0 x hx
  unfold inR at hb
  repeat' (first
| refine g_seq ?_
| refine g_block ?_
| refine g_region ?_
| (refine o_go rfl ?_; (first
| refine p_p (ps_index rfl rfl rfl (by omega) (by exact idx_TI (by omega) (by omega)) (by exact rfl)) ?_
| refine p_p (ps_index rfl rfl rfl (by omega) (by exact idx_RI (by omega) (by omega)) (by exact rfl)) ?_
| refine p_p (ps_move rfl) ?_
| refine p_p (ps_assign rfl) ?_
| refine p_p (ps_load_cell rfl rfl) ?_
| refine p_p (ps_lss rfl rfl rfl) ?_
| refine p_p (ps_add rfl rfl rfl (by constructor <;> omega)) ?_
| refine p_p (ps_fieldAddr rfl rfl) ?_
| refine p_p (ps_nilCheck rfl rfl) ?_); refine ⟨_, (by dsimp only [St.put, St.setObj, St.ev, killP, killA, killP1, killH, mapHO, renP, renA, ren1, killG, killGA, killG1, krowP, krowA, krow1, lendP, lendA, lend1, unv, pinP, pin1, elemsM, viewM, viewN, viewV, n_set_z, n_set_s, n_map_c, n_map_n, getD_z, getD_s, n_toNat, n_cond_t, n_cond_f, n_len_c, n_len_n, n_app_c, n_app_n, n_take_s, n_take_z, n_drop_s, n_drop_z, n_get_z, n_get_s, view, viewA, view1, elems, Nat.reduceAdd, Nat.reduceMul, Nat.zero_add, Nat.add_zero, Nat.reduceBEq, Bool.not_true, Bool.not_false, Nat.one_ne_zero, Nat.mul_one, reduceCtorEq]), ?_⟩)
| refine o_nil ?_
| (refine g_condD rfl (fun hc => ?_) (fun hc => ?_) <;> try (exfalso; omega))
| refine kr1 ?_
| refine krI rfl ?_
| refine g_skip ?_
| refine g_exit ?_
| refine g_ret ?_)
  · exact k_round (x + 1) (by omega) (by omega) (by repeat (first | exact trivial | refine ⟨.inl rfl, ?_⟩ | refine ⟨.inr rfl, ?_⟩)) ⟨rfl, rfl, trivial⟩ (hpLe_nil _)
  · rw [top_eq hg, show x = rows.length by omega]

theorem ijoinAll_c_in {rows : List (List Int)} (hg : goodL rows = true) : ∀ (l : List Int) (b : Int), inR rows b → (∀ x ∈ l, inR rows x) → inR rows (l.foldl (joinL rows) b)
  | [], b, hb, _ => hb
  | a :: l, b, hb, h => ijoinAll_c_in hg l _ ((goodL_lat hg).joinR _ _ hb (h a (by simp))) (fun x hx => h x (by simp [hx]))
set_option maxRecDepth 100000 in
theorem ijoinAll_c (rows : List (List Int)) (l : List Int) (hg : goodL rows = true) (hl : l.length ≤ 1048576) (hin : ∀ x ∈ l, inR rows x) : PCalls Tryz.prog 68 [latP rows, ints l] (I (l.foldl (joinL rows) (botL rows))) := by
  refine pcalls1 Tryz.func68 rfl Tryz.ntmps68 rfl ?_
  simp only [List.length_cons, List.length_nil, Nat.reduceAdd, Nat.reduceSub, List.replicate_succ, List.replicate_zero, List.cons_append, List.nil_append]
  have hs := bot_in hg
  repeat' (first
| refine g_seq ?_
| refine g_block ?_
| refine g_region ?_
| (refine o_go rfl ?_; (first
| refine p_p (ps_call rfl rfl (by (repeat (first | refine ⟨PV.le_refl _, ?_⟩ | refine ⟨PV.le_nn _ _ _, ?_⟩ | refine ⟨PV.le_nil _, ?_⟩ | refine ⟨PV.le_any _, ?_⟩)); exact trivial) (ibot_c rows hg)) ?_
| refine p_p (ps_move rfl) ?_
| refine p_p (ps_assign rfl) ?_
| refine p_p (ps_lenM rfl rfl rfl) ?_); refine ⟨_, (by dsimp only [St.put, St.setObj, St.ev, killP, killA, killP1, killH, mapHO, renP, renA, ren1, killG, killGA, killG1, krowP, krowA, krow1, lendP, lendA, lend1, unv, pinP, pin1, elemsM, viewM, viewN, viewV, n_set_z, n_set_s, n_map_c, n_map_n, getD_z, getD_s, n_toNat, n_cond_t, n_cond_f, n_len_c, n_len_n, n_app_c, n_app_n, n_take_s, n_take_z, n_drop_s, n_drop_z, n_get_z, n_get_s, view, viewA, view1, elems, Nat.reduceAdd, Nat.reduceMul, Nat.zero_add, Nat.add_zero, Nat.reduceBEq, Bool.not_true, Bool.not_false, Nat.one_ne_zero, Nat.mul_one, reduceCtorEq]), ?_⟩)
| refine o_nil ?_)
  refine g_loopT (α := Nat) (fun i => [(5, I ((l.take i).foldl (joinL rows) (botL rows))), (12, I (i : Int))]) (fun _ => []) (fun i => i ≤ l.length) (fun i => l.length - i) 0 (by simp only [havoc, dsts, List.filterMap_cons, List.filterMap_nil, List.foldl_cons, List.foldl_nil, List.cons_append, List.nil_append, List.append_nil, List.set_cons_succ, List.set_cons_zero]; exact rfl) (Nat.zero_le _) ⟨rfl, rfl, trivial⟩ rfl ?_
  rintro i hi
  dsimp only [setMany, List.set_cons_zero, List.set_cons_succ]
  have hb := ijoinAll_c_in hg (l.take i) _ hs (fun x hx => hin x (List.mem_of_mem_take hx))
  have hx : i < l.length → inR rows (l.getD i 0) := fun h => hin _ (getD_mem h)
  unfold inR at hb hx
  repeat' (first
| refine g_seq ?_
| refine g_block ?_
| refine g_region ?_
| (refine o_go rfl ?_; (first
| refine p_p (ps_index rfl rfl rfl (by omega) (by exact idx_TI (by omega) (by omega)) (by exact rfl)) ?_
| refine p_p (ps_index rfl rfl rfl (by omega) (by exact idx_RI (by omega) (by omega)) (by exact rfl)) ?_
| refine p_p (ps_move rfl) ?_
| refine p_p (ps_assign rfl) ?_
| refine p_p (ps_load_cell rfl rfl) ?_
| refine p_p (ps_index rfl rfl rfl (by omega) (by first | exact idx_I (by omega) | exact idx_B (by omega) | exact idx_ints (by omega) | exact idx_bools (by omega) | exact idx_intss (by omega) | rfl) (by exact rfl)) ?_
| refine p_p (ps_lss rfl rfl rfl) ?_
| refine p_p (ps_add rfl rfl rfl (by constructor <;> omega)) ?_
| refine p_p (ps_fieldAddr rfl rfl) ?_
| refine p_p (ps_nilCheck rfl rfl) ?_); refine ⟨_, (by dsimp only [St.put, St.setObj, St.ev, killP, killA, killP1, killH, mapHO, renP, renA, ren1, killG, killGA, killG1, krowP, krowA, krow1, lendP, lendA, lend1, unv, pinP, pin1, elemsM, viewM, viewN, viewV, n_set_z, n_set_s, n_map_c, n_map_n, getD_z, getD_s, n_toNat, n_cond_t, n_cond_f, n_len_c, n_len_n, n_app_c, n_app_n, n_take_s, n_take_z, n_drop_s, n_drop_z, n_get_z, n_get_s, view, viewA, view1, elems, Nat.reduceAdd, Nat.reduceMul, Nat.zero_add, Nat.add_zero, Nat.reduceBEq, Bool.not_true, Bool.not_false, Nat.one_ne_zero, Nat.mul_one, reduceCtorEq]), ?_⟩)
| refine o_nil ?_
| (refine g_condD rfl (fun hc => ?_) (fun hc => ?_) <;> try (exfalso; omega))
| refine kr1 ?_
| refine krI rfl ?_
| refine g_skip ?_
| refine g_exit ?_
| refine g_ret ?_)
  · refine k_round (i + 1) (by omega) (by omega) (by repeat (first | exact trivial | refine ⟨.inl rfl, ?_⟩ | refine ⟨.inr rfl, ?_⟩)) ⟨?_, rfl, trivial⟩ (hpLe_nil _)
    rw [take_snoc 0 (by omega), List.foldl_append]; rfl
  · rw [(take_full hi (by omega)).1]

end Go.Proofs.YtbfmjknngofleaaGreat

namespace Go.Proofs.YtbfmjknngofleaaGreat
open Go Go.Pv Go.Proofs

set_option maxRecDepth 100000 in
theorem imed_no (rows : List (List Int)) (x y z : Int) (hok : okP rows) (h : (goodL rows && isB rows x && isB rows y && isB rows z) = false) : PCalls Tryz.prog 20 [posetP rows, I x, I y, I z] (.tup [I 0, B false]) := by
  refine pcalls2 Tryz.func20 rfl Tryz.ntmps20 rfl ?_
  simp only [List.length_cons, List.length_nil, Nat.reduceAdd, Nat.reduceSub, List.replicate_succ, List.replicate_zero, List.cons_append, List.nil_append]
  cases hg : goodL rows with
  | false =>
    repeat' (first
| refine g_seq ?_
| refine g_region ?_
| (refine o_go rfl ?_; (first
| refine p_p (ps_call rfl rfl (by (repeat (first | refine ⟨PV.le_refl _, ?_⟩ | refine ⟨PV.le_nn _ _ _, ?_⟩ | refine ⟨PV.le_nil _, ?_⟩ | refine ⟨PV.le_any _, ?_⟩)); exact trivial) (lat_no rows hok hg)) ?_
| refine p_p (ps_move rfl) ?_
| refine p_p (ps_assign rfl) ?_
| refine p_p (ps_load_agg rfl rfl (by exact Nat.le_of_ble_eq_true rfl)) ?_
| refine p_p (ps_extract rfl rfl rfl) ?_
| refine p_p (ps_not rfl rfl) ?_
| refine p_p (ps_pick rfl rfl) ?_
| refine p_p (ps_box rfl rfl) ?_); refine ⟨_, (by dsimp only [St.put, St.setObj, St.ev, killP, killA, killP1, killH, mapHO, renP, renA, ren1, killG, killGA, killG1, krowP, krowA, krow1, lendP, lendA, lend1, unv, pinP, pin1, elemsM, viewM, viewN, viewV, n_set_z, n_set_s, n_map_c, n_map_n, getD_z, getD_s, n_toNat, n_cond_t, n_cond_f, n_len_c, n_len_n, n_app_c, n_app_n, n_take_s, n_take_z, n_drop_s, n_drop_z, n_get_z, n_get_s, view, viewA, view1, elems, Nat.reduceAdd, Nat.reduceMul, Nat.zero_add, Nat.add_zero, Nat.reduceBEq, Bool.not_true, Bool.not_false, Nat.one_ne_zero, Nat.mul_one, reduceCtorEq]), ?_⟩)
| refine o_nil ?_
| (refine o_s rfl ?_; refine ⟨_, (by dsimp only [St.put, St.setObj, St.ev, killP, killA, killP1, killH, mapHO, renP, renA, ren1, killG, killGA, killG1, krowP, krowA, krow1, lendP, lendA, lend1, unv, pinP, pin1, elemsM, viewM, viewN, viewV, n_set_z, n_set_s, n_map_c, n_map_n, getD_z, getD_s, n_toNat, n_cond_t, n_cond_f, n_len_c, n_len_n, n_app_c, n_app_n, n_take_s, n_take_z, n_drop_s, n_drop_z, n_get_z, n_get_s, view, viewA, view1, elems, Nat.reduceAdd, Nat.reduceMul, Nat.zero_add, Nat.add_zero, Nat.reduceBEq, Bool.not_true, Bool.not_false, Nat.one_ne_zero, Nat.mul_one, reduceCtorEq]), ?_⟩)
| refine g_condT rfl ?_
| refine kr2 ?_ ?_
| refine krB rfl ?_
| refine krI rfl ?_
| refine g_ret ?_)
    all_goals rfl
  | true =>
    have hs := lhas_c rows [x, y, z] hg (by simp)
    rw [hg, Bool.true_and] at h
    rw [inSize3, h] at hs
    repeat' (first
| refine g_seq ?_
| refine g_region ?_
| (refine o_go rfl ?_; (first
| refine p_p (ps_call rfl rfl (by (repeat (first | refine ⟨PV.le_refl _, ?_⟩ | refine ⟨PV.le_nn _ _ _, ?_⟩ | refine ⟨PV.le_nil _, ?_⟩ | refine ⟨PV.le_any _, ?_⟩)); exact trivial) (lat_yes rows hok hg)) ?_
| refine p_p (ps_callM rfl rfl (by (repeat (first | refine ⟨PV.le_refl _, ?_⟩ | refine ⟨PV.le_nn _ _ _, ?_⟩ | refine ⟨PV.le_nil _, ?_⟩ | refine ⟨PV.le_any _, ?_⟩)); exact trivial) (by rfl) (hs)) ?_
| refine p_p (ps_move rfl) ?_
| refine p_p (ps_assign rfl) ?_
| refine p_p (ps_load_cell rfl rfl) ?_
| refine p_p (ps_load_agg rfl rfl (by exact Nat.le_of_ble_eq_true rfl)) ?_
| refine p_p (ps_fieldAddr rfl rfl) ?_
| refine p_p (ps_extract rfl rfl rfl) ?_
| refine p_p (ps_not rfl rfl) ?_
| refine p_p (ps_pick rfl rfl) ?_
| refine p_p (ps_nilCheck rfl rfl) ?_
| refine p_p (ps_box rfl rfl) ?_
| refine p_p (ps_lit3 rfl rfl rfl rfl (by rfl) (by rfl) (by rfl) (by rfl)) ?_); refine ⟨_, (by dsimp only [St.put, St.setObj, St.ev, killP, killA, killP1, killH, mapHO, renP, renA, ren1, killG, killGA, killG1, krowP, krowA, krow1, lendP, lendA, lend1, unv, pinP, pin1, elemsM, viewM, viewN, viewV, n_set_z, n_set_s, n_map_c, n_map_n, getD_z, getD_s, n_toNat, n_cond_t, n_cond_f, n_len_c, n_len_n, n_app_c, n_app_n, n_take_s, n_take_z, n_drop_s, n_drop_z, n_get_z, n_get_s, view, viewA, view1, elems, Nat.reduceAdd, Nat.reduceMul, Nat.zero_add, Nat.add_zero, Nat.reduceBEq, Bool.not_true, Bool.not_false, Nat.one_ne_zero, Nat.mul_one, reduceCtorEq]), ?_⟩)
| refine o_nil ?_
| refine g_condT rfl ?_
| refine kr2 ?_ ?_
| refine krB rfl ?_
| refine krI rfl ?_
| refine g_ret ?_)
    all_goals rfl
set_option maxHeartbeats 1000000 in
set_option maxRecDepth 100000 in
theorem imed_yes (rows : List (List Int)) (x y z : Int) (hok : okP rows) (hg : goodL rows = true) (hx : inR rows x) (hy : inR rows y) (hz : inR rows z) : PCalls Tryz.prog 20 [posetP rows, I x, I y, I z] (.tup [I (medL rows x y z), B true]) := by
  refine pcalls2 Tryz.func20 rfl Tryz.ntmps20 rfl ?_
  simp only [List.length_cons, List.length_nil, Nat.reduceAdd, Nat.reduceSub, List.replicate_succ, List.replicate_zero, List.cons_append, List.nil_append]
  have hs := lhas_c rows [x, y, z] hg (by simp)
  rw [inSize3, isB_iff.2 hx, isB_iff.2 hy, isB_iff.2 hz] at hs
  have L := goodL_lat hg
  have hj := ijoinAll_c rows [meetL rows x y, meetL rows x z, meetL rows y z] hg (by simp) (fun a ha => by
    simp only [List.mem_cons, List.not_mem_nil, or_false] at ha
    rcases ha with rfl | rfl | rfl
    · exact L.meetR _ _ hx hy
    · exact L.meetR _ _ hx hz
    · exact L.meetR _ _ hy hz)
  rw [med_eq hg hx hy hz] at hj
  unfold inR at hx hy hz
  repeat' (first
| refine g_seq ?_
| refine g_region ?_
| refine g_region_draw (by kernel_rfl) (by kernel_rfl) ?_
| (refine o_go rfl ?_; (first
| refine p_p (ps_index rfl rfl rfl (by omega) (by exact idx_TI (by omega) (by omega)) (by exact rfl)) ?_
| refine p_p (ps_index rfl rfl rfl (by omega) (by exact idx_RI (by omega) (by omega)) (by exact rfl)) ?_
| refine p_p (ps_call rfl rfl (by (repeat (first | refine ⟨PV.le_refl _, ?_⟩ | refine ⟨PV.le_nn _ _ _, ?_⟩ | refine ⟨PV.le_nil _, ?_⟩ | refine ⟨PV.le_any _, ?_⟩)); exact trivial) (lat_yes rows hok hg)) ?_
| refine p_p (ps_callM rfl rfl (by (repeat (first | refine ⟨PV.le_refl _, ?_⟩ | refine ⟨PV.le_nn _ _ _, ?_⟩ | refine ⟨PV.le_nil _, ?_⟩ | refine ⟨PV.le_any _, ?_⟩)); exact trivial) (by rfl) (hs)) ?_
| refine p_p (ps_callM rfl rfl (by (repeat (first | refine ⟨PV.le_refl _, ?_⟩ | refine ⟨PV.le_nn _ _ _, ?_⟩ | refine ⟨PV.le_nil _, ?_⟩ | refine ⟨PV.le_any _, ?_⟩)); exact trivial) (by rfl) (hj)) ?_
| refine p_p (ps_move rfl) ?_
| refine p_p (ps_assign rfl) ?_
| refine p_p (ps_load_cell rfl rfl) ?_
| refine p_p (ps_load_agg rfl rfl (by exact Nat.le_of_ble_eq_true rfl)) ?_
| refine p_p (ps_fieldAddr rfl rfl) ?_
| refine p_p (ps_extract rfl rfl rfl) ?_
| refine p_p (ps_not rfl rfl) ?_
| refine p_p (ps_pick rfl rfl) ?_
| refine p_p (ps_nilCheck rfl rfl) ?_
| refine p_p (ps_box rfl rfl) ?_
| refine p_p (ps_lit3 rfl rfl rfl rfl (by rfl) (by rfl) (by rfl) (by rfl)) ?_); refine ⟨_, (by dsimp only [St.put, St.setObj, St.ev, killP, killA, killP1, killH, mapHO, renP, renA, ren1, killG, killGA, killG1, krowP, krowA, krow1, lendP, lendA, lend1, unv, pinP, pin1, elemsM, viewM, viewN, viewV, n_set_z, n_set_s, n_map_c, n_map_n, getD_z, getD_s, n_toNat, n_cond_t, n_cond_f, n_len_c, n_len_n, n_app_c, n_app_n, n_take_s, n_take_z, n_drop_s, n_drop_z, n_get_z, n_get_s, view, viewA, view1, elems, Nat.reduceAdd, Nat.reduceMul, Nat.zero_add, Nat.add_zero, Nat.reduceBEq, Bool.not_true, Bool.not_false, Nat.one_ne_zero, Nat.mul_one, reduceCtorEq]), ?_⟩)
| refine o_nil ?_
| refine g_condF rfl ?_
| refine kr2 ?_ ?_
| refine krB rfl ?_
| refine krI rfl ?_
| refine g_skip ?_
| refine g_ret ?_)
  all_goals rfl
set_option maxRecDepth 100000 in
theorem idist_c (rows : List (List Int)) (hok : okP rows) : PCalls Tryz.prog 14 [posetP rows] (.tup [B (goodL rows && !(uneven3 rows).isSome), B (goodL rows)]) := by
  refine pcalls2 Tryz.func14 rfl Tryz.ntmps14 rfl ?_
  simp only [List.length_cons, List.length_nil, Nat.reduceAdd, Nat.reduceSub, List.replicate_succ, List.replicate_zero, List.cons_append, List.nil_append]
  cases hg : goodL rows with
  | false =>
    repeat' (first
| refine g_seq ?_
| refine g_region ?_
| (refine o_go rfl ?_; (first
| refine p_p (ps_call rfl rfl (by (repeat (first | refine ⟨PV.le_refl _, ?_⟩ | refine ⟨PV.le_nn _ _ _, ?_⟩ | refine ⟨PV.le_nil _, ?_⟩ | refine ⟨PV.le_any _, ?_⟩)); exact trivial) (lat_no rows hok hg)) ?_
| refine p_p (ps_move rfl) ?_
| refine p_p (ps_assign rfl) ?_
| refine p_p (ps_load_agg rfl rfl (by exact Nat.le_of_ble_eq_true rfl)) ?_
| refine p_p (ps_extract rfl rfl rfl) ?_
| refine p_p (ps_pick rfl rfl) ?_
| refine p_p (ps_box rfl rfl) ?_); refine ⟨_, (by dsimp only [St.put, St.setObj, St.ev, killP, killA, killP1, killH, mapHO, renP, renA, ren1, killG, killGA, killG1, krowP, krowA, krow1, lendP, lendA, lend1, unv, pinP, pin1, elemsM, viewM, viewN, viewV, n_set_z, n_set_s, n_map_c, n_map_n, getD_z, getD_s, n_toNat, n_cond_t, n_cond_f, n_len_c, n_len_n, n_app_c, n_app_n, n_take_s, n_take_z, n_drop_s, n_drop_z, n_get_z, n_get_s, view, viewA, view1, elems, Nat.reduceAdd, Nat.reduceMul, Nat.zero_add, Nat.add_zero, Nat.reduceBEq, Bool.not_true, Bool.not_false, Nat.one_ne_zero, Nat.mul_one, reduceCtorEq]), ?_⟩)
| refine o_nil ?_
| (refine o_s rfl ?_; refine ⟨_, (by dsimp only [St.put, St.setObj, St.ev, killP, killA, killP1, killH, mapHO, renP, renA, ren1, killG, killGA, killG1, krowP, krowA, krow1, lendP, lendA, lend1, unv, pinP, pin1, elemsM, viewM, viewN, viewV, n_set_z, n_set_s, n_map_c, n_map_n, getD_z, getD_s, n_toNat, n_cond_t, n_cond_f, n_len_c, n_len_n, n_app_c, n_app_n, n_take_s, n_take_z, n_drop_s, n_drop_z, n_get_z, n_get_s, view, viewA, view1, elems, Nat.reduceAdd, Nat.reduceMul, Nat.zero_add, Nat.add_zero, Nat.reduceBEq, Bool.not_true, Bool.not_false, Nat.one_ne_zero, Nat.mul_one, reduceCtorEq]), ?_⟩)
| refine kr2 ?_ ?_
| refine krB rfl ?_
| refine g_ret ?_)
    all_goals rfl
  | true =>
    cases hb : uneven3 rows with
    | none =>
      repeat' (first
| refine g_seq ?_
| refine g_region ?_
| (refine o_go rfl ?_; (first
| refine p_p (ps_call rfl rfl (by (repeat (first | refine ⟨PV.le_refl _, ?_⟩ | refine ⟨PV.le_nn _ _ _, ?_⟩ | refine ⟨PV.le_nil _, ?_⟩ | refine ⟨PV.le_any _, ?_⟩)); exact trivial) (lat_yes rows hok hg)) ?_
| refine p_p (ps_call rfl rfl (by (repeat (first | refine ⟨PV.le_refl _, ?_⟩ | refine ⟨PV.le_nn _ _ _, ?_⟩ | refine ⟨PV.le_nil _, ?_⟩ | refine ⟨PV.le_any _, ?_⟩)); exact trivial) (iuneven_none rows hg hb)) ?_
| refine p_p (ps_move rfl) ?_
| refine p_p (ps_assign rfl) ?_
| refine p_p (ps_load_agg rfl rfl (by exact Nat.le_of_ble_eq_true rfl)) ?_
| refine p_p (ps_extract rfl rfl rfl) ?_
| refine p_p (ps_pick rfl rfl) ?_
| refine p_p (ps_eqnil_v rfl rfl rfl) ?_
| refine p_p (ps_box rfl rfl) ?_); refine ⟨_, (by dsimp only [St.put, St.setObj, St.ev, killP, killA, killP1, killH, mapHO, renP, renA, ren1, killG, killGA, killG1, krowP, krowA, krow1, lendP, lendA, lend1, unv, pinP, pin1, elemsM, viewM, viewN, viewV, n_set_z, n_set_s, n_map_c, n_map_n, getD_z, getD_s, n_toNat, n_cond_t, n_cond_f, n_len_c, n_len_n, n_app_c, n_app_n, n_take_s, n_take_z, n_drop_s, n_drop_z, n_get_z, n_get_s, view, viewA, view1, elems, Nat.reduceAdd, Nat.reduceMul, Nat.zero_add, Nat.add_zero, Nat.reduceBEq, Bool.not_true, Bool.not_false, Nat.one_ne_zero, Nat.mul_one, reduceCtorEq]), ?_⟩)
| refine o_nil ?_
| refine kr2 ?_ ?_
| refine krB rfl ?_
| refine g_ret ?_)
      all_goals rfl
    | some t =>
      repeat' (first
| refine g_seq ?_
| refine g_region ?_
| (refine o_go rfl ?_; (first
| refine p_p (ps_call rfl rfl (by (repeat (first | refine ⟨PV.le_refl _, ?_⟩ | refine ⟨PV.le_nn _ _ _, ?_⟩ | refine ⟨PV.le_nil _, ?_⟩ | refine ⟨PV.le_any _, ?_⟩)); exact trivial) (lat_yes rows hok hg)) ?_
| refine p_e rfl (e_callR rfl rfl (by (repeat (first | refine ⟨PV.le_refl _, ?_⟩ | refine ⟨PV.le_nn _ _ _, ?_⟩ | refine ⟨PV.le_nil _, ?_⟩ | refine ⟨PV.le_any _, ?_⟩)); exact trivial) rfl (iuneven_some rows hg t hb)) ?_
| refine p_p (ps_move rfl) ?_
| refine p_p (ps_assign rfl) ?_
| refine p_p (ps_load_agg rfl rfl (by exact Nat.le_of_ble_eq_true rfl)) ?_
| refine p_p (ps_extract rfl rfl rfl) ?_
| refine p_p (ps_pick rfl rfl) ?_
| refine p_p (ps_eqnil_o rfl rfl rfl rfl) ?_
| refine p_p (ps_box rfl rfl) ?_); refine ⟨_, (by dsimp only [St.put, St.setObj, St.ev, killP, killA, killP1, killH, mapHO, renP, renA, ren1, killG, killGA, killG1, krowP, krowA, krow1, lendP, lendA, lend1, unv, pinP, pin1, elemsM, viewM, viewN, viewV, n_set_z, n_set_s, n_map_c, n_map_n, getD_z, getD_s, n_toNat, n_cond_t, n_cond_f, n_len_c, n_len_n, n_app_c, n_app_n, n_take_s, n_take_z, n_drop_s, n_drop_z, n_get_z, n_get_s, view, viewA, view1, elems, Nat.reduceAdd, Nat.reduceMul, Nat.zero_add, Nat.add_zero, Nat.reduceBEq, Bool.not_true, Bool.not_false, Nat.one_ne_zero, Nat.mul_one, reduceCtorEq]), ?_⟩)
| refine o_nil ?_
| refine kr2 ?_ ?_
| refine krB rfl ?_
| refine g_ret ?_)
      all_goals rfl
end Go.Proofs.YtbfmjknngofleaaGreat

namespace Go.Proofs.YtbfmjknngofleaaGreat
open Go Go.Pv Go.Proofs
set_option maxHeartbeats 1000000 in
set_option maxRecDepth 100000 in
theorem ifu_c (rows : List (List Int)) (hok : okP rows) : RCalls Tryz.prog 15 [posetP rows] (.arr true 1 3 ((fuV rows).map I)) (.tup [.hp 0, B (goodL rows && (uneven3 rows).isSome)]) := by
  refine pcallsR2 Tryz.func15 rfl Tryz.ntmps15 rfl ?_
  simp only [List.length_cons, List.length_nil, Nat.reduceAdd, Nat.reduceSub, List.replicate_succ, List.replicate_zero, List.cons_append, List.nil_append]
  unfold fuV
  cases hg : goodL rows with
  | false =>
    repeat' (first
| refine g_seq ?_
| refine g_region ?_
| (refine o_go rfl ?_; (first
| refine p_p (ps_call rfl rfl (by (repeat (first | refine ⟨PV.le_refl _, ?_⟩ | refine ⟨PV.le_nn _ _ _, ?_⟩ | refine ⟨PV.le_nil _, ?_⟩ | refine ⟨PV.le_any _, ?_⟩)); exact trivial) (lat_no rows hok hg)) ?_
| refine p_p (ps_move rfl) ?_
| refine p_p (ps_assign rfl) ?_
| refine p_p (ps_load_agg rfl rfl (by exact Nat.le_of_ble_eq_true rfl)) ?_
| refine p_p (ps_extract rfl rfl rfl) ?_
| refine p_p (ps_not rfl rfl) ?_
| refine p_e rfl (e_lit0 rfl (by decide)) ?_
| refine p_p (ps_box rfl rfl) ?_); refine ⟨_, (by dsimp only [St.put, St.setObj, St.ev, killP, killA, killP1, killH, mapHO, renP, renA, ren1, killG, killGA, killG1, krowP, krowA, krow1, lendP, lendA, lend1, unv, pinP, pin1, elemsM, viewM, viewN, viewV, n_set_z, n_set_s, n_map_c, n_map_n, getD_z, getD_s, n_toNat, n_cond_t, n_cond_f, n_len_c, n_len_n, n_app_c, n_app_n, n_take_s, n_take_z, n_drop_s, n_drop_z, n_get_z, n_get_s, view, viewA, view1, elems, Nat.reduceAdd, Nat.reduceMul, Nat.zero_add, Nat.add_zero, Nat.reduceBEq, Bool.not_true, Bool.not_false, Nat.one_ne_zero, Nat.mul_one, reduceCtorEq]), ?_⟩)
| refine o_nil ?_
| refine g_condT rfl ?_
| refine krr2 0 rfl rfl (HandOut.arr rfl ?_ (by first | exact sc_map (fun _ => rfl) _ | exact sc_maps (fun _ => rfl) _ | rfl))
| refine g_ret ?_)
    all_goals rfl
  | true =>
    cases hb : uneven3 rows with
    | none =>
      repeat' (first
| refine g_seq ?_
| refine g_region ?_
| (refine o_go rfl ?_; (first
| refine p_p (ps_call rfl rfl (by (repeat (first | refine ⟨PV.le_refl _, ?_⟩ | refine ⟨PV.le_nn _ _ _, ?_⟩ | refine ⟨PV.le_nil _, ?_⟩ | refine ⟨PV.le_any _, ?_⟩)); exact trivial) (lat_yes rows hok hg)) ?_
| refine p_p (ps_call rfl rfl (by (repeat (first | refine ⟨PV.le_refl _, ?_⟩ | refine ⟨PV.le_nn _ _ _, ?_⟩ | refine ⟨PV.le_nil _, ?_⟩ | refine ⟨PV.le_any _, ?_⟩)); exact trivial) (iuneven_none rows hg hb)) ?_
| refine p_p (ps_move rfl) ?_
| refine p_p (ps_assign rfl) ?_
| refine p_p (ps_load_agg rfl rfl (by exact Nat.le_of_ble_eq_true rfl)) ?_
| refine p_p (ps_extract rfl rfl rfl) ?_
| refine p_p (ps_not rfl rfl) ?_
| refine p_p (ps_eqnil_v rfl rfl rfl) ?_
| refine p_e rfl (e_lit0 rfl (by decide)) ?_
| refine p_p (ps_box rfl rfl) ?_); refine ⟨_, (by dsimp only [St.put, St.setObj, St.ev, killP, killA, killP1, killH, mapHO, renP, renA, ren1, killG, killGA, killG1, krowP, krowA, krow1, lendP, lendA, lend1, unv, pinP, pin1, elemsM, viewM, viewN, viewV, n_set_z, n_set_s, n_map_c, n_map_n, getD_z, getD_s, n_toNat, n_cond_t, n_cond_f, n_len_c, n_len_n, n_app_c, n_app_n, n_take_s, n_take_z, n_drop_s, n_drop_z, n_get_z, n_get_s, view, viewA, view1, elems, Nat.reduceAdd, Nat.reduceMul, Nat.zero_add, Nat.add_zero, Nat.reduceBEq, Bool.not_true, Bool.not_false, Nat.one_ne_zero, Nat.mul_one, reduceCtorEq]), ?_⟩)
| refine o_nil ?_
| refine g_condT rfl ?_
| refine g_condF rfl ?_
| refine krr2 0 rfl rfl (HandOut.arr rfl ?_ (by first | exact sc_map (fun _ => rfl) _ | exact sc_maps (fun _ => rfl) _ | rfl))
| refine g_skip ?_
| refine g_ret ?_)
      all_goals rfl
    | some t =>
      repeat' (first
| refine g_seq ?_
| refine g_region ?_
| (refine o_go rfl ?_; (first
| refine p_p (ps_call rfl rfl (by (repeat (first | refine ⟨PV.le_refl _, ?_⟩ | refine ⟨PV.le_nn _ _ _, ?_⟩ | refine ⟨PV.le_nil _, ?_⟩ | refine ⟨PV.le_any _, ?_⟩)); exact trivial) (lat_yes rows hok hg)) ?_
| refine p_e rfl (e_callR rfl rfl (by (repeat (first | refine ⟨PV.le_refl _, ?_⟩ | refine ⟨PV.le_nn _ _ _, ?_⟩ | refine ⟨PV.le_nil _, ?_⟩ | refine ⟨PV.le_any _, ?_⟩)); exact trivial) rfl (iuneven_some rows hg t hb)) ?_
| refine p_p (ps_move rfl) ?_
| refine p_p (ps_assign rfl) ?_
| refine p_p (ps_load_agg rfl rfl (by exact Nat.le_of_ble_eq_true rfl)) ?_
| refine p_p (ps_extract rfl rfl rfl) ?_
| refine p_p (ps_not rfl rfl) ?_
| refine p_p (ps_eqnil_o rfl rfl rfl rfl) ?_
| refine p_p (ps_box rfl rfl) ?_); refine ⟨_, (by dsimp only [St.put, St.setObj, St.ev, killP, killA, killP1, killH, mapHO, renP, renA, ren1, killG, killGA, killG1, krowP, krowA, krow1, lendP, lendA, lend1, unv, pinP, pin1, elemsM, viewM, viewN, viewV, n_set_z, n_set_s, n_map_c, n_map_n, getD_z, getD_s, n_toNat, n_cond_t, n_cond_f, n_len_c, n_len_n, n_app_c, n_app_n, n_take_s, n_take_z, n_drop_s, n_drop_z, n_get_z, n_get_s, view, viewA, view1, elems, Nat.reduceAdd, Nat.reduceMul, Nat.zero_add, Nat.add_zero, Nat.reduceBEq, Bool.not_true, Bool.not_false, Nat.one_ne_zero, Nat.mul_one, reduceCtorEq]), ?_⟩)
| refine o_nil ?_
| refine g_condF rfl ?_
| refine krr2 0 rfl rfl (HandOut.arr rfl ?_ (by first | exact sc_map (fun _ => rfl) _ | exact sc_maps (fun _ => rfl) _ | rfl))
| refine g_skip ?_
| refine g_ret ?_)
      all_goals rfl
end Go.Proofs.YtbfmjknngofleaaGreat

namespace Go.Proofs.YtbfmjknngofleaaGreat
open Go Go.Pv Go.Proofs

set_option maxHeartbeats 1000000 in
set_option maxRecDepth 100000 in
theorem iless_c (rows : List (List Int)) (x y : Int) (_hg : goodL rows = true) (hx : inR rows x) (hy : inR rows y) : PCalls Tryz.prog 96 [boolss (tabZ rows.length (leqB rows)), I x, I y] (B (lessB rows x y)) := by
  refine pcalls1 Tryz.func96 rfl Tryz.ntmps96 rfl ?_
  simp only [List.length_cons, List.length_nil, Nat.reduceAdd, Nat.reduceSub, List.replicate_succ, List.replicate_zero, List.cons_append, List.nil_append]
  unfold inR at hx hy
  unfold lessB
  repeat' (first
| refine g_seq ?_
| refine g_region ?_
| (refine o_go rfl ?_; (first
| refine p_p (ps_index rfl rfl rfl (by omega) (by exact idx_TB (by omega) (by omega)) (by exact rfl)) ?_
| refine p_p (ps_index rfl rfl rfl (by omega) (by exact idx_RB (by omega) (by omega)) (by exact rfl)) ?_
| refine p_p (ps_move rfl) ?_
| refine p_p (ps_assign rfl) ?_
| refine p_p (ps_load_cell rfl rfl) ?_
| refine p_p (ps_pick rfl rfl) ?_
| refine p_p (ps_neq rfl rfl rfl) ?_); refine ⟨_, (by dsimp only [St.put, St.setObj, St.ev, killP, killA, killP1, killH, mapHO, renP, renA, ren1, killG, killGA, killG1, krowP, krowA, krow1, lendP, lendA, lend1, unv, pinP, pin1, elemsM, viewM, viewN, viewV, n_set_z, n_set_s, n_map_c, n_map_n, getD_z, getD_s, n_toNat, n_cond_t, n_cond_f, n_len_c, n_len_n, n_app_c, n_app_n, n_take_s, n_take_z, n_drop_s, n_drop_z, n_get_z, n_get_s, view, viewA, view1, elems, Nat.reduceAdd, Nat.reduceMul, Nat.zero_add, Nat.add_zero, Nat.reduceBEq, Bool.not_true, Bool.not_false, Nat.one_ne_zero, Nat.mul_one, reduceCtorEq]), ?_⟩)
| refine o_nil ?_
| (refine o_s rfl ?_; refine ⟨_, (by dsimp only [St.put, St.setObj, St.ev, killP, killA, killP1, killH, mapHO, renP, renA, ren1, killG, killGA, killG1, krowP, krowA, krow1, lendP, lendA, lend1, unv, pinP, pin1, elemsM, viewM, viewN, viewV, n_set_z, n_set_s, n_map_c, n_map_n, getD_z, getD_s, n_toNat, n_cond_t, n_cond_f, n_len_c, n_len_n, n_app_c, n_app_n, n_take_s, n_take_z, n_drop_s, n_drop_z, n_get_z, n_get_s, view, viewA, view1, elems, Nat.reduceAdd, Nat.reduceMul, Nat.zero_add, Nat.add_zero, Nat.reduceBEq, Bool.not_true, Bool.not_false, Nat.one_ne_zero, Nat.mul_one, reduceCtorEq]), ?_⟩)
| (refine o_splitN rfl rfl rfl (fun hc => ?_) (fun hc => ?_) <;> dsimp only [List.set_cons_zero, List.set_cons_succ])
| refine kr1 ?_
| refine krB rfl ?_
| refine g_ret ?_)
  all_goals simp [*]
set_option maxHeartbeats 1000000 in
set_option maxRecDepth 100000 in
theorem icov_c (rows : List (List Int)) (x y : Int) (hg : goodL rows = true) (hx : inR rows x) (hy : inR rows y) : PCalls Tryz.prog 139 [boolss (tabZ rows.length (leqB rows)), I x, I y] (B (coversB rows x y)) := by
  refine pcalls1 Tryz.func139 rfl Tryz.ntmps139 rfl ?_
  simp only [List.length_cons, List.length_nil, Nat.reduceAdd, Nat.reduceSub, List.replicate_succ, List.replicate_zero, List.cons_append, List.nil_append]
  have h10 := good_10 hg
  have hlen := length_tabZ rows.length (leqB rows)
  unfold coversB
  repeat' (first
| refine g_seq ?_
| refine g_block ?_
| refine g_region ?_
| (refine o_go rfl ?_; (first
| refine p_p (ps_call rfl rfl (by (repeat (first | refine ⟨PV.le_refl _, ?_⟩ | refine ⟨PV.le_nn _ _ _, ?_⟩ | refine ⟨PV.le_nil _, ?_⟩ | refine ⟨PV.le_any _, ?_⟩)); exact trivial) (iless_c rows _ _ hg hx hy)) ?_
| refine p_p (ps_move rfl) ?_
| refine p_p (ps_assign rfl) ?_
| refine p_p (ps_lenM rfl rfl rfl) ?_
| refine p_p (ps_not rfl rfl) ?_); refine ⟨_, (by dsimp only [St.put, St.setObj, St.ev, killP, killA, killP1, killH, mapHO, renP, renA, ren1, killG, killGA, killG1, krowP, krowA, krow1, lendP, lendA, lend1, unv, pinP, pin1, elemsM, viewM, viewN, viewV, n_set_z, n_set_s, n_map_c, n_map_n, getD_z, getD_s, n_toNat, n_cond_t, n_cond_f, n_len_c, n_len_n, n_app_c, n_app_n, n_take_s, n_take_z, n_drop_s, n_drop_z, n_get_z, n_get_s, view, viewA, view1, elems, Nat.reduceAdd, Nat.reduceMul, Nat.zero_add, Nat.add_zero, Nat.reduceBEq, Bool.not_true, Bool.not_false, Nat.one_ne_zero, Nat.mul_one, reduceCtorEq]), ?_⟩)
| refine o_nil ?_
| (refine g_condNB rfl (fun hc => ?_) (fun hc => ?_))
| refine kr1 ?_
| refine krB rfl ?_
| refine g_skip ?_
| refine g_ret ?_)
  · rw [hc]; rfl
  · rw [hc, Bool.true_and]
    refine g_loopT (α := Nat) (fun z => [(15, I (z : Int))]) (fun _ => []) (fun z => z ≤ rows.length ∧ (allN z (covP rows x y)) = true) (fun z => rows.length - z) 0 (by simp only [havoc, dsts, List.filterMap_cons, List.filterMap_nil, List.foldl_cons, List.foldl_nil, List.cons_append, List.nil_append, List.append_nil, List.set_cons_succ, List.set_cons_zero]; exact rfl) ⟨Nat.zero_le _, rfl⟩ ⟨rfl, trivial⟩ rfl ?_
    rintro z ⟨hz, hgz⟩
    dsimp only [setMany, List.set_cons_zero, List.set_cons_succ]
    repeat' (first
| refine g_seq ?_
| refine g_block ?_
| refine g_region ?_
| (refine o_go rfl ?_; (first
| refine p_p (ps_call rfl rfl (by (repeat (first | refine ⟨PV.le_refl _, ?_⟩ | refine ⟨PV.le_nn _ _ _, ?_⟩ | refine ⟨PV.le_nil _, ?_⟩ | refine ⟨PV.le_any _, ?_⟩)); exact trivial) (iless_c rows _ (z : Int) hg hx ⟨by omega, by omega⟩)) ?_
| refine p_p (ps_call rfl rfl (by (repeat (first | refine ⟨PV.le_refl _, ?_⟩ | refine ⟨PV.le_nn _ _ _, ?_⟩ | refine ⟨PV.le_nil _, ?_⟩ | refine ⟨PV.le_any _, ?_⟩)); exact trivial) (iless_c rows (z : Int) _ hg ⟨by omega, by omega⟩ hy)) ?_
| refine p_p (ps_move rfl) ?_
| refine p_p (ps_assign rfl) ?_
| refine p_p (ps_lss rfl rfl rfl) ?_
| refine p_p (ps_add rfl rfl rfl (by constructor <;> omega)) ?_
| refine p_p (ps_pick rfl rfl) ?_); refine ⟨_, (by dsimp only [St.put, St.setObj, St.ev, killP, killA, killP1, killH, mapHO, renP, renA, ren1, killG, killGA, killG1, krowP, krowA, krow1, lendP, lendA, lend1, unv, pinP, pin1, elemsM, viewM, viewN, viewV, n_set_z, n_set_s, n_map_c, n_map_n, getD_z, getD_s, n_toNat, n_cond_t, n_cond_f, n_len_c, n_len_n, n_app_c, n_app_n, n_take_s, n_take_z, n_drop_s, n_drop_z, n_get_z, n_get_s, view, viewA, view1, elems, Nat.reduceAdd, Nat.reduceMul, Nat.zero_add, Nat.add_zero, Nat.reduceBEq, Bool.not_true, Bool.not_false, Nat.one_ne_zero, Nat.mul_one, reduceCtorEq]), ?_⟩)
| refine o_nil ?_
| (refine o_s rfl ?_; refine ⟨_, (by dsimp only [St.put, St.setObj, St.ev, killP, killA, killP1, killH, mapHO, renP, renA, ren1, killG, killGA, killG1, krowP, krowA, krow1, lendP, lendA, lend1, unv, pinP, pin1, elemsM, viewM, viewN, viewV, n_set_z, n_set_s, n_map_c, n_map_n, getD_z, getD_s, n_toNat, n_cond_t, n_cond_f, n_len_c, n_len_n, n_app_c, n_app_n, n_take_s, n_take_z, n_drop_s, n_drop_z, n_get_z, n_get_s, view, viewA, view1, elems, Nat.reduceAdd, Nat.reduceMul, Nat.zero_add, Nat.add_zero, Nat.reduceBEq, Bool.not_true, Bool.not_false, Nat.one_ne_zero, Nat.mul_one, reduceCtorEq]), ?_⟩)
| (refine o_splitA rfl rfl rfl (fun hc => ?_) (fun hc => ?_) <;> dsimp only [List.set_cons_zero, List.set_cons_succ])
| refine g_condF rfl ?_
| (refine g_condD rfl (fun hc => ?_) (fun hc => ?_) <;> try (exfalso; omega))
| (refine g_cond rfl (fun hc => ?_) (fun hc => ?_))
| refine kr1 ?_
| refine krB rfl ?_
| refine g_skip ?_
| refine g_exit ?_
| refine g_ret ?_)
    · exact Eq.symm (allN_false (k := z) (by omega) (by unfold covP; simp [*]))
    · exact k_round (z + 1) ⟨by omega, by rw [allN_succ, hgz]; unfold covP; simp [*]⟩ (by omega) (by repeat (first | exact trivial | refine ⟨.inl rfl, ?_⟩ | refine ⟨.inr rfl, ?_⟩)) ⟨rfl, trivial⟩ (by first | exact hpLe_nil _ | exact hpLe_refl _)
    · exact k_round (z + 1) ⟨by omega, by rw [allN_succ, hgz]; unfold covP; simp [*]⟩ (by omega) (by repeat (first | exact trivial | refine ⟨.inl rfl, ?_⟩ | refine ⟨.inr rfl, ?_⟩)) ⟨rfl, trivial⟩ (by first | exact hpLe_nil _ | exact hpLe_refl _)
    · rw [show z = rows.length by omega] at hgz
      exact hgz.symm
end Go.Proofs.YtbfmjknngofleaaGreat

namespace Go.Proofs.YtbfmjknngofleaaGreat
open Go Go.Pv Go.Proofs
set_option maxHeartbeats 1000000 in
set_option maxRecDepth 100000 in
theorem iprime_c (rows : List (List Int)) (x : Nat) (hg : goodL rows = true) (hx : x < rows.length) : PCalls Tryz.prog 50 ([latP rows] ++ [I (x : Int)] ++ []) (B (jpB rows x)) := by
  refine pcalls1 Tryz.func50 rfl Tryz.ntmps50 rfl ?_
  simp only [List.length_cons, List.length_nil, Nat.reduceAdd, Nat.reduceSub, List.replicate_succ, List.replicate_zero, List.cons_append, List.nil_append]
  have hlen := length_tabZ rows.length (leqB rows)
  have h10 := good_10 hg
  unfold jpB
  repeat' (first
| refine g_seq ?_
| refine g_block ?_
| refine g_region ?_
| (refine o_go rfl ?_; (first
| refine p_p (ps_call rfl rfl (by (repeat (first | refine ⟨PV.le_refl _, ?_⟩ | refine ⟨PV.le_nn _ _ _, ?_⟩ | refine ⟨PV.le_nil _, ?_⟩ | refine ⟨PV.le_any _, ?_⟩)); exact trivial) (ibot_c rows hg)) ?_
| refine p_p (ps_move rfl) ?_
| refine p_p (ps_assign rfl) ?_
| refine p_p (ps_load_cell rfl rfl) ?_
| refine p_p (ps_lenM rfl rfl rfl) ?_
| refine p_p (ps_fieldAddr rfl rfl) ?_
| refine p_p (ps_eql rfl rfl rfl) ?_
| refine p_p (ps_nilCheck rfl rfl) ?_); refine ⟨_, (by dsimp only [St.put, St.setObj, St.ev, killP, killA, killP1, killH, mapHO, renP, renA, ren1, killG, killGA, killG1, krowP, krowA, krow1, lendP, lendA, lend1, unv, pinP, pin1, elemsM, viewM, viewN, viewV, n_set_z, n_set_s, n_map_c, n_map_n, getD_z, getD_s, n_toNat, n_cond_t, n_cond_f, n_len_c, n_len_n, n_app_c, n_app_n, n_take_s, n_take_z, n_drop_s, n_drop_z, n_get_z, n_get_s, view, viewA, view1, elems, Nat.reduceAdd, Nat.reduceMul, Nat.zero_add, Nat.add_zero, Nat.reduceBEq, Bool.not_true, Bool.not_false, Nat.one_ne_zero, Nat.mul_one, reduceCtorEq]), ?_⟩)
| refine o_nil ?_
| (refine g_condD rfl (fun hc => ?_) (fun hc => ?_) <;> try (exfalso; omega))
| refine kr1 ?_
| refine krB rfl ?_
| refine g_skip ?_
| refine g_ret ?_)
  · rw [decide_eq_true hc]; rfl
  · rw [decide_eq_false hc, Bool.not_false, Bool.true_and]
    clear hc
    refine g_loopT (α := Nat) (fun y => [(16, I (y : Int))]) (fun _ => []) (fun y => y ≤ rows.length ∧ (allN y fun y => allN rows.length (jpP rows (x : Int) y)) = true) (fun y => rows.length - y) 0 (by simp only [havoc, dsts, List.filterMap_cons, List.filterMap_nil, List.foldl_cons, List.foldl_nil, List.cons_append, List.nil_append, List.append_nil, List.set_cons_succ, List.set_cons_zero]; exact rfl) ⟨Nat.zero_le _, rfl⟩ ⟨rfl, trivial⟩ rfl ?_
    rintro y ⟨hy, hgy⟩
    dsimp only [setMany, List.set_cons_zero, List.set_cons_succ]
    repeat' (first
| refine g_seq ?_
| refine g_block ?_
| refine g_region ?_
| (refine o_go rfl ?_; (first
| refine p_p (ps_move rfl) ?_
| refine p_p (ps_assign rfl) ?_
| refine p_p (ps_load_cell rfl rfl) ?_
| refine p_p (ps_lenM rfl rfl rfl) ?_
| refine p_p (ps_lss rfl rfl rfl) ?_
| refine p_p (ps_fieldAddr rfl rfl) ?_
| refine p_p (ps_nilCheck rfl rfl) ?_); refine ⟨_, (by dsimp only [St.put, St.setObj, St.ev, killP, killA, killP1, killH, mapHO, renP, renA, ren1, killG, killGA, killG1, krowP, krowA, krow1, lendP, lendA, lend1, unv, pinP, pin1, elemsM, viewM, viewN, viewV, n_set_z, n_set_s, n_map_c, n_map_n, getD_z, getD_s, n_toNat, n_cond_t, n_cond_f, n_len_c, n_len_n, n_app_c, n_app_n, n_take_s, n_take_z, n_drop_s, n_drop_z, n_get_z, n_get_s, view, viewA, view1, elems, Nat.reduceAdd, Nat.reduceMul, Nat.zero_add, Nat.add_zero, Nat.reduceBEq, Bool.not_true, Bool.not_false, Nat.one_ne_zero, Nat.mul_one, reduceCtorEq]), ?_⟩)
| refine o_nil ?_
| (refine g_condD rfl (fun hc => ?_) (fun hc => ?_) <;> try (exfalso; omega))
| refine kr1 ?_
| refine krB rfl ?_
| refine g_skip ?_
| refine g_exit ?_
| refine g_ret ?_)
    · refine g_loopT (α := Nat) (fun z => [(24, I (z : Int))]) (fun _ => []) (fun z => z ≤ rows.length ∧ (allN z (jpP rows (x : Int) y)) = true) (fun z => rows.length - z) 0 (by simp only [havoc, dsts, List.filterMap_cons, List.filterMap_nil, List.foldl_cons, List.foldl_nil, List.cons_append, List.nil_append, List.append_nil, List.set_cons_succ, List.set_cons_zero]; exact rfl) ⟨Nat.zero_le _, rfl⟩ ⟨rfl, trivial⟩ rfl ?_
      rintro z ⟨hz, hgz⟩
      dsimp only [setMany, List.set_cons_zero, List.set_cons_succ]
      have hj := fun (h : y < rows.length) (h' : z < rows.length) => join_in hg (x := (y : Int)) (y := (z : Int)) ⟨by omega, by omega⟩ ⟨by omega, by omega⟩
      repeat' (first
| refine g_seq ?_
| refine g_block ?_
| refine g_region ?_
| refine g_region_draw (by kernel_rfl) (by kernel_rfl) ?_
| (refine o_go rfl ?_; (first
| refine p_p (ps_index rfl rfl rfl (by omega) (by exact idx_TI (by omega) (by omega)) (by exact rfl)) ?_
| refine p_p (ps_index rfl rfl rfl (by omega) (by exact idx_RI (by omega) (by omega)) (by exact rfl)) ?_
| refine p_p (ps_index rfl rfl rfl (by omega) (by exact idx_TB (by omega) (by omega)) (by exact rfl)) ?_
| refine p_p (ps_index rfl rfl rfl (by omega) (by exact idx_RB (by omega) (by omega)) (by exact rfl)) ?_
| refine p_p (ps_move rfl) ?_
| refine p_p (ps_assign rfl) ?_
| refine p_p (ps_load_cell rfl rfl) ?_
| refine p_p (ps_lss rfl rfl rfl) ?_
| refine p_p (ps_add rfl rfl rfl (by constructor <;> omega)) ?_
| refine p_p (ps_fieldAddr rfl rfl) ?_
| refine p_p (ps_not rfl rfl) ?_
| refine p_p (ps_pick rfl rfl) ?_
| refine p_p (ps_nilCheck rfl rfl) ?_); refine ⟨_, (by dsimp only [St.put, St.setObj, St.ev, killP, killA, killP1, killH, mapHO, renP, renA, ren1, killG, killGA, killG1, krowP, krowA, krow1, lendP, lendA, lend1, unv, pinP, pin1, elemsM, viewM, viewN, viewV, n_set_z, n_set_s, n_map_c, n_map_n, getD_z, getD_s, n_toNat, n_cond_t, n_cond_f, n_len_c, n_len_n, n_app_c, n_app_n, n_take_s, n_take_z, n_drop_s, n_drop_z, n_get_z, n_get_s, view, viewA, view1, elems, Nat.reduceAdd, Nat.reduceMul, Nat.zero_add, Nat.add_zero, Nat.reduceBEq, Bool.not_true, Bool.not_false, Nat.one_ne_zero, Nat.mul_one, reduceCtorEq]), ?_⟩)
| refine o_nil ?_
| (refine o_s rfl ?_; refine ⟨_, (by dsimp only [St.put, St.setObj, St.ev, killP, killA, killP1, killH, mapHO, renP, renA, ren1, killG, killGA, killG1, krowP, krowA, krow1, lendP, lendA, lend1, unv, pinP, pin1, elemsM, viewM, viewN, viewV, n_set_z, n_set_s, n_map_c, n_map_n, getD_z, getD_s, n_toNat, n_cond_t, n_cond_f, n_len_c, n_len_n, n_app_c, n_app_n, n_take_s, n_take_z, n_drop_s, n_drop_z, n_get_z, n_get_s, view, viewA, view1, elems, Nat.reduceAdd, Nat.reduceMul, Nat.zero_add, Nat.add_zero, Nat.reduceBEq, Bool.not_true, Bool.not_false, Nat.one_ne_zero, Nat.mul_one, reduceCtorEq]), ?_⟩)
| (refine o_splitN rfl rfl rfl (fun hc => ?_) (fun hc => ?_) <;> dsimp only [List.set_cons_zero, List.set_cons_succ])
| (refine o_splitA rfl rfl rfl (fun hc => ?_) (fun hc => ?_) <;> dsimp only [List.set_cons_zero, List.set_cons_succ])
| refine g_condF rfl ?_
| (refine g_condD rfl (fun hc => ?_) (fun hc => ?_) <;> try (exfalso; omega))
| (refine g_condNB rfl (fun hc => ?_) (fun hc => ?_))
| refine kr1 ?_
| refine krB rfl ?_
| refine g_skip ?_
| refine g_exit ?_
| refine g_ret ?_)
      · exact Eq.symm (allN_false (k := y) (by omega) (allN_false (k := z) (by omega) (by unfold jpP; simp [*])))
      · exact k_round (z + 1) ⟨by omega, by rw [allN_succ, hgz]; unfold jpP; simp [*]⟩ (by omega) (by repeat (first | exact trivial | refine ⟨.inl rfl, ?_⟩ | refine ⟨.inr rfl, ?_⟩)) ⟨rfl, trivial⟩ (by first | exact hpLe_nil _ | exact hpLe_refl _)
      · exact k_round (z + 1) ⟨by omega, by rw [allN_succ, hgz]; unfold jpP; simp [*]⟩ (by omega) (by repeat (first | exact trivial | refine ⟨.inl rfl, ?_⟩ | refine ⟨.inr rfl, ?_⟩)) ⟨rfl, trivial⟩ (by first | exact hpLe_nil _ | exact hpLe_refl _)
      · exact k_round (z + 1) ⟨by omega, by rw [allN_succ, hgz]; unfold jpP; simp [*]⟩ (by omega) (by repeat (first | exact trivial | refine ⟨.inl rfl, ?_⟩ | refine ⟨.inr rfl, ?_⟩)) ⟨rfl, trivial⟩ (by first | exact hpLe_nil _ | exact hpLe_refl _)
      · rw [show z = rows.length by omega] at hgz
        exact k_round (y + 1) ⟨by omega, by rw [allN_succ, hgy, hgz]; rfl⟩ (by omega) (by repeat (first | exact trivial | refine ⟨.inl rfl, ?_⟩ | refine ⟨.inr rfl, ?_⟩)) ⟨rfl, trivial⟩ (by first | exact hpLe_nil _ | exact hpLe_refl _)
    · rw [show y = rows.length by omega] at hgy
      exact hgy.symm
set_option maxHeartbeats 1000000 in
set_option maxRecDepth 100000 in
theorem thoseG_c (t : List (List Bool)) (f : FuncId) [FnT Tryz.prog f] (first caps : List PV) (pred : Nat → Bool) (hok : okT t) (hf : ∀ x, x < t.length → PCalls Tryz.prog f (first ++ [I (x : Int)] ++ caps) (B (pred x))) :
    RCalls Tryz.prog 49 [boolss t, .fn f first caps] (.arr true 1 3 ((upTo t.length pred).map I)) (.hp 0) := by
  refine pcallsR1 Tryz.func49 rfl Tryz.ntmps49 rfl ?_
  simp only [List.length_cons, List.length_nil, Nat.reduceAdd, Nat.reduceSub, List.replicate_succ, List.replicate_zero, List.cons_append, List.nil_append]
  have htl := hok.1
  repeat' (first
| refine g_seq ?_
| refine g_block ?_
| refine g_region ?_
| (refine o_go rfl ?_; (first
| refine p_p (ps_move rfl) ?_
| refine p_p (ps_assign rfl) ?_
| refine p_p (ps_lenM rfl rfl rfl) ?_
| refine p_e rfl (e_lit0 rfl (by decide)) ?_); refine ⟨_, (by dsimp only [St.put, St.setObj, St.ev, killP, killA, killP1, killH, mapHO, renP, renA, ren1, killG, killGA, killG1, krowP, krowA, krow1, lendP, lendA, lend1, unv, pinP, pin1, elemsM, viewM, viewN, viewV, n_set_z, n_set_s, n_map_c, n_map_n, getD_z, getD_s, n_toNat, n_cond_t, n_cond_f, n_len_c, n_len_n, n_app_c, n_app_n, n_take_s, n_take_z, n_drop_s, n_drop_z, n_get_z, n_get_s, view, viewA, view1, elems, Nat.reduceAdd, Nat.reduceMul, Nat.zero_add, Nat.add_zero, Nat.reduceBEq, Bool.not_true, Bool.not_false, Nat.one_ne_zero, Nat.mul_one, reduceCtorEq]), ?_⟩)
| refine o_nil ?_)
  refine g_loopF (α := Nat) [7] (fun x => [(5, .hp 0), (10, I (x : Int))]) (fun x => [.arr false 1 3 ((upTo x pred).map I)]) (fun x => x ≤ t.length) (fun x => t.length - x) 0 (by simp only [havoc, dsts, List.filterMap_cons, List.filterMap_nil, List.foldl_cons, List.foldl_nil, List.cons_append, List.nil_append, List.append_nil, List.set_cons_succ, List.set_cons_zero]; exact rfl) (Nat.zero_le _) ⟨rfl, rfl, trivial⟩ rfl ?_
  rintro x hx
  dsimp only [setMany, List.set_cons_zero, List.set_cons_succ]
  have hul := upTo_length x pred
  have hsuc := upTo_succ x pred
  repeat' (first
| refine g_seq ?_
| refine g_block ?_
| refine g_region ?_
| (refine o_go rfl ?_; (first
| refine p_p (ps_call rfl rfl (argsLe_refl _) (hf x (by omega))) ?_
| refine p_p (ps_move rfl) ?_
| refine p_p (ps_assign rfl) ?_
| refine p_p (ps_lss rfl rfl rfl) ?_
| refine p_p (ps_add rfl rfl rfl (by constructor <;> omega)) ?_
| refine p_e rfl (e_append rfl rfl rfl rfl rfl rfl (by first | exact one_one rfl | exact one_map (fun _ => rfl) _) rfl (by first | omega | (simp; done) | (simp; omega)) (by first | omega | (simp; done) | (simp; omega))) ?_
| refine p_p (ps_lit1 rfl rfl (by rfl) (by rfl)) ?_); refine ⟨_, (by dsimp only [St.put, St.setObj, St.ev, killP, killA, killP1, killH, mapHO, renP, renA, ren1, killG, killGA, killG1, krowP, krowA, krow1, lendP, lendA, lend1, unv, pinP, pin1, elemsM, viewM, viewN, viewV, n_set_z, n_set_s, n_map_c, n_map_n, getD_z, getD_s, n_toNat, n_cond_t, n_cond_f, n_len_c, n_len_n, n_app_c, n_app_n, n_take_s, n_take_z, n_drop_s, n_drop_z, n_get_z, n_get_s, view, viewA, view1, elems, Nat.reduceAdd, Nat.reduceMul, Nat.zero_add, Nat.add_zero, Nat.reduceBEq, Bool.not_true, Bool.not_false, Nat.one_ne_zero, Nat.mul_one, reduceCtorEq]), ?_⟩)
| refine o_nil ?_
| (refine g_condD rfl (fun hc => ?_) (fun hc => ?_) <;> try (exfalso; omega))
| (refine g_cond rfl (fun hc => ?_) (fun hc => ?_))
| refine krr 0 rfl (HandOut.arr rfl ?_ (by first | exact sc_map (fun _ => rfl) _ | exact sc_maps (fun _ => rfl) _ | rfl))
| refine g_skip ?_
| refine g_exit ?_
| refine g_ret ?_)
  · rw [hc] at hsuc
    refine k_round (x + 1) (by omega) (by omega) (by repeat (first | exact trivial | refine ⟨.inl rfl, ?_⟩ | refine ⟨.inr rfl, ?_⟩)) ⟨rfl, rfl, trivial⟩ (hpLe_cons ?_ (hpLe_nil _))
    rw [hsuc]; simp
  · rw [hc] at hsuc
    refine k_round (x + 1) (by omega) (by omega) (by repeat (first | exact trivial | refine ⟨.inl rfl, ?_⟩ | refine ⟨.inr rfl, ?_⟩)) ⟨rfl, rfl, trivial⟩ (hpLe_cons ?_ (hpLe_nil _))
    rw [hsuc]; simp
  · have hxn : x = t.length := by omega
    subst hxn
    rfl

set_option maxHeartbeats 1000000 in
set_option maxRecDepth 100000 in
theorem listOf_R (rows : List (List Int)) (f : FuncId) [FnT Tryz.prog f] (V : List Int) (hok : okP rows) (hf : goodL rows = true → RCalls Tryz.prog f ([] ++ [latP rows] ++ []) (.arr true 1 3 ((V).map I)) (.hp 0)) :
    RCalls Tryz.prog 47 [posetP rows, .fn f [] []] (.arr true 1 3 ((bif goodL rows then V else []).map I)) (.tup [.hp 0, B (goodL rows)]) := by
  refine pcallsR2 Tryz.func47 rfl Tryz.ntmps47 rfl ?_
  simp only [List.length_cons, List.length_nil, Nat.reduceAdd, Nat.reduceSub, List.replicate_succ, List.replicate_zero, List.cons_append, List.nil_append]
  cases hg : goodL rows with
  | false =>
    repeat' (first
| refine g_seq ?_
| refine g_region ?_
| (refine o_go rfl ?_; (first
| refine p_p (ps_call rfl rfl (by (repeat (first | refine ⟨PV.le_refl _, ?_⟩ | refine ⟨PV.le_nn _ _ _, ?_⟩ | refine ⟨PV.le_nil _, ?_⟩ | refine ⟨PV.le_any _, ?_⟩)); exact trivial) (lat_no rows hok hg)) ?_
| refine p_p (ps_move rfl) ?_
| refine p_p (ps_assign rfl) ?_
| refine p_p (ps_load_agg rfl rfl (by exact Nat.le_of_ble_eq_true rfl)) ?_
| refine p_p (ps_extract rfl rfl rfl) ?_
| refine p_p (ps_not rfl rfl) ?_
| refine p_e rfl (e_lit0 rfl (by decide)) ?_
| refine p_p (ps_box rfl rfl) ?_); refine ⟨_, (by dsimp only [St.put, St.setObj, St.ev, killP, killA, killP1, killH, mapHO, renP, renA, ren1, killG, killGA, killG1, krowP, krowA, krow1, lendP, lendA, lend1, unv, pinP, pin1, elemsM, viewM, viewN, viewV, n_set_z, n_set_s, n_map_c, n_map_n, getD_z, getD_s, n_toNat, n_cond_t, n_cond_f, n_len_c, n_len_n, n_app_c, n_app_n, n_take_s, n_take_z, n_drop_s, n_drop_z, n_get_z, n_get_s, view, viewA, view1, elems, Nat.reduceAdd, Nat.reduceMul, Nat.zero_add, Nat.add_zero, Nat.reduceBEq, Bool.not_true, Bool.not_false, Nat.one_ne_zero, Nat.mul_one, reduceCtorEq]), ?_⟩)
| refine o_nil ?_
| refine g_condT rfl ?_
| refine krr2 0 rfl rfl (HandOut.arr rfl ?_ (by first | exact sc_map (fun _ => rfl) _ | exact sc_maps (fun _ => rfl) _ | rfl))
| refine g_ret ?_)
    all_goals rfl
  | true =>
    repeat' (first
| refine g_seq ?_
| refine g_region ?_
| (refine o_go rfl ?_; (first
| refine p_p (ps_call rfl rfl (by (repeat (first | refine ⟨PV.le_refl _, ?_⟩ | refine ⟨PV.le_nn _ _ _, ?_⟩ | refine ⟨PV.le_nil _, ?_⟩ | refine ⟨PV.le_any _, ?_⟩)); exact trivial) (lat_yes rows hok hg)) ?_
| refine p_e rfl (e_callR rfl rfl (argsLe_refl _) rfl (hf hg)) ?_
| refine p_p (ps_move rfl) ?_
| refine p_p (ps_assign rfl) ?_
| refine p_p (ps_load_agg rfl rfl (by exact Nat.le_of_ble_eq_true rfl)) ?_
| refine p_p (ps_extract rfl rfl rfl) ?_
| refine p_p (ps_not rfl rfl) ?_
| refine p_p (ps_box rfl rfl) ?_); refine ⟨_, (by dsimp only [St.put, St.setObj, St.ev, killP, killA, killP1, killH, mapHO, renP, renA, ren1, killG, killGA, killG1, krowP, krowA, krow1, lendP, lendA, lend1, unv, pinP, pin1, elemsM, viewM, viewN, viewV, n_set_z, n_set_s, n_map_c, n_map_n, getD_z, getD_s, n_toNat, n_cond_t, n_cond_f, n_len_c, n_len_n, n_app_c, n_app_n, n_take_s, n_take_z, n_drop_s, n_drop_z, n_get_z, n_get_s, view, viewA, view1, elems, Nat.reduceAdd, Nat.reduceMul, Nat.zero_add, Nat.add_zero, Nat.reduceBEq, Bool.not_true, Bool.not_false, Nat.one_ne_zero, Nat.mul_one, reduceCtorEq]), ?_⟩)
| refine o_nil ?_
| refine g_condF rfl ?_
| refine krr2 0 rfl rfl (HandOut.arr rfl ?_ (by first | exact sc_map (fun _ => rfl) _ | exact sc_maps (fun _ => rfl) _ | rfl))
| refine g_skip ?_
| refine g_ret ?_)
    all_goals rfl
set_option maxHeartbeats 1000000 in
set_option maxRecDepth 100000 in
theorem ijp1_R (rows : List (List Int)) (hg : goodL rows = true) : RCalls Tryz.prog 48 ([] ++ [latP rows] ++ []) (.arr true 1 3 ((jpL rows).map I)) (.hp 0) := by
  refine pcallsR1 Tryz.func48 rfl Tryz.ntmps48 rfl ?_
  simp only [List.length_cons, List.length_nil, Nat.reduceAdd, Nat.reduceSub, List.replicate_succ, List.replicate_zero, List.cons_append, List.nil_append]
  have hlen := length_tabZ rows.length (leqB rows)
  have h1 := thoseG_c (tabZ rows.length (leqB rows)) 50 [latP rows] [] (jpB rows) (okT_Z _ (good_10 hg)) (fun x hx => iprime_c rows x hg (by omega))
  rw [hlen] at h1
  repeat' (first
| refine g_seq ?_
| refine g_region ?_
| (refine o_go rfl ?_; (first
| refine p_e rfl (e_callR rfl rfl (by (repeat (first | refine ⟨PV.le_refl _, ?_⟩ | refine ⟨PV.le_nn _ _ _, ?_⟩ | refine ⟨PV.le_nil _, ?_⟩ | refine ⟨PV.le_any _, ?_⟩)); exact trivial) rfl (h1)) ?_
| refine p_p (ps_move rfl) ?_
| refine p_p (ps_assign rfl) ?_
| refine p_p (ps_load_cell rfl rfl) ?_
| refine p_p (ps_fieldAddr rfl rfl) ?_
| refine p_p (ps_nilCheck rfl rfl) ?_
| refine p_p (ps_makeFunc rfl rfl rfl) ?_); refine ⟨_, (by dsimp only [St.put, St.setObj, St.ev, killP, killA, killP1, killH, mapHO, renP, renA, ren1, killG, killGA, killG1, krowP, krowA, krow1, lendP, lendA, lend1, unv, pinP, pin1, elemsM, viewM, viewN, viewV, n_set_z, n_set_s, n_map_c, n_map_n, getD_z, getD_s, n_toNat, n_cond_t, n_cond_f, n_len_c, n_len_n, n_app_c, n_app_n, n_take_s, n_take_z, n_drop_s, n_drop_z, n_get_z, n_get_s, view, viewA, view1, elems, Nat.reduceAdd, Nat.reduceMul, Nat.zero_add, Nat.add_zero, Nat.reduceBEq, Bool.not_true, Bool.not_false, Nat.one_ne_zero, Nat.mul_one, reduceCtorEq]), ?_⟩)
| refine o_nil ?_
| refine krr 0 rfl (HandOut.arr rfl ?_ (by first | exact sc_map (fun _ => rfl) _ | exact sc_maps (fun _ => rfl) _ | rfl))
| refine g_ret ?_)
  rfl
set_option maxHeartbeats 1000000 in
set_option maxRecDepth 100000 in
theorem ijp_c (rows : List (List Int)) (hok : okP rows) : RCalls Tryz.prog 7 [posetP rows] (.arr true 1 3 ((jpV rows).map I)) (.tup [.hp 0, B (goodL rows)]) := by
  refine pcallsR2 Tryz.func7 rfl Tryz.ntmps7 rfl ?_
  simp only [List.length_cons, List.length_nil, Nat.reduceAdd, Nat.reduceSub, List.replicate_succ, List.replicate_zero, List.cons_append, List.nil_append]
  repeat' (first
| refine g_seq ?_
| refine g_region ?_
| (refine o_go rfl ?_; (first
| refine p_e rfl (e_callR rfl rfl (by (repeat (first | refine ⟨PV.le_refl _, ?_⟩ | refine ⟨PV.le_nn _ _ _, ?_⟩ | refine ⟨PV.le_nil _, ?_⟩ | refine ⟨PV.le_any _, ?_⟩)); exact trivial) rfl (listOf_R rows 48 (jpL rows) hok (ijp1_R rows))) ?_
| refine p_p (ps_assign rfl) ?_
| refine p_p (ps_load_agg rfl rfl (by exact Nat.le_of_ble_eq_true rfl)) ?_
| refine p_p (ps_extract rfl rfl rfl) ?_
| refine p_p (ps_box rfl rfl) ?_); refine ⟨_, (by dsimp only [St.put, St.setObj, St.ev, killP, killA, killP1, killH, mapHO, renP, renA, ren1, killG, killGA, killG1, krowP, krowA, krow1, lendP, lendA, lend1, unv, pinP, pin1, elemsM, viewM, viewN, viewV, n_set_z, n_set_s, n_map_c, n_map_n, getD_z, getD_s, n_toNat, n_cond_t, n_cond_f, n_len_c, n_len_n, n_app_c, n_app_n, n_take_s, n_take_z, n_drop_s, n_drop_z, n_get_z, n_get_s, view, viewA, view1, elems, Nat.reduceAdd, Nat.reduceMul, Nat.zero_add, Nat.add_zero, Nat.reduceBEq, Bool.not_true, Bool.not_false, Nat.one_ne_zero, Nat.mul_one, reduceCtorEq]), ?_⟩)
| refine o_nil ?_
| refine krr2 0 rfl rfl (HandOut.arr rfl ?_ (by first | exact sc_map (fun _ => rfl) _ | exact sc_maps (fun _ => rfl) _ | rfl))
| refine g_ret ?_)
  rfl
end Go.Proofs.YtbfmjknngofleaaGreat

namespace Go.Proofs.YtbfmjknngofleaaGreat
open Go Go.Pv Go.Proofs

set_option maxHeartbeats 1000000 in
set_option maxRecDepth 100000 in
theorem ilc1_c (rows : List (List Int)) (x : Int) (y : Nat) (hg : goodL rows = true) (hx : inR rows x) (hy : y < rows.length) :
    PCalls Tryz.prog 138 ([] ++ [I (y : Int)] ++ [.ptr [boolss (tabZ rows.length (leqB rows))], .ptr [I x]]) (B (coversB rows (y : Int) x)) := by
  refine pcalls1 Tryz.func138 rfl Tryz.ntmps138 rfl ?_
  simp only [List.length_cons, List.length_nil, Nat.reduceAdd, Nat.reduceSub, List.replicate_succ, List.replicate_zero, List.cons_append, List.nil_append]
  repeat' (first
| refine g_seq ?_
| refine g_region ?_
| (refine o_go rfl ?_; (first
| refine p_p (ps_call rfl rfl (by (repeat (first | refine ⟨PV.le_refl _, ?_⟩ | refine ⟨PV.le_nn _ _ _, ?_⟩ | refine ⟨PV.le_nil _, ?_⟩ | refine ⟨PV.le_any _, ?_⟩)); exact trivial) (icov_c rows _ _ hg ⟨by omega, by omega⟩ hx)) ?_
| refine p_p (ps_move rfl) ?_
| refine p_p (ps_assign rfl) ?_
| refine p_p (ps_load_cell rfl rfl) ?_); refine ⟨_, (by dsimp only [St.put, St.setObj, St.ev, killP, killA, killP1, killH, mapHO, renP, renA, ren1, killG, killGA, killG1, krowP, krowA, krow1, lendP, lendA, lend1, unv, pinP, pin1, elemsM, viewM, viewN, viewV, n_set_z, n_set_s, n_map_c, n_map_n, getD_z, getD_s, n_toNat, n_cond_t, n_cond_f, n_len_c, n_len_n, n_app_c, n_app_n, n_take_s, n_take_z, n_drop_s, n_drop_z, n_get_z, n_get_s, view, viewA, view1, elems, Nat.reduceAdd, Nat.reduceMul, Nat.zero_add, Nat.add_zero, Nat.reduceBEq, Bool.not_true, Bool.not_false, Nat.one_ne_zero, Nat.mul_one, reduceCtorEq]), ?_⟩)
| refine o_nil ?_
| refine kr1 ?_
| refine krB rfl ?_
| refine g_ret ?_)
  rfl
set_option maxHeartbeats 1000000 in
set_option maxRecDepth 100000 in
theorem ilc_c (rows : List (List Int)) (x : Int) (hg : goodL rows = true) (hx : inR rows x) : PCalls Tryz.prog 110 [boolss (tabZ rows.length (leqB rows)), I x] (ints (upTo rows.length fun y => coversB rows (y : Int) x)) := by
  refine pcalls1 Tryz.func110 rfl Tryz.ntmps110 rfl ?_
  simp only [List.length_cons, List.length_nil, Nat.reduceAdd, Nat.reduceSub, List.replicate_succ, List.replicate_zero, List.cons_append, List.nil_append]
  have hlen := length_tabZ rows.length (leqB rows)
  have h1 := those_c (tabZ rows.length (leqB rows)) 138 [.ptr [boolss (tabZ rows.length (leqB rows))], .ptr [I x]] (fun y => coversB rows (y : Int) x) (okT_Z _ (good_10 hg)) (fun y hy => ilc1_c rows x y hg hx (by omega))
  rw [hlen] at h1
  repeat' (first
| refine g_seq ?_
| refine g_region ?_
| (refine o_go rfl ?_; (first
| refine p_p (ps_call rfl rfl (by (repeat (first | refine ⟨PV.le_refl _, ?_⟩ | refine ⟨PV.le_nn _ _ _, ?_⟩ | refine ⟨PV.le_nil _, ?_⟩ | refine ⟨PV.le_any _, ?_⟩)); exact trivial) (h1)) ?_
| refine p_p (ps_assign rfl) ?_
| refine p_p (ps_load_cell rfl rfl) ?_
| refine p_p (ps_box rfl rfl) ?_
| refine p_p (ps_makeFunc rfl rfl rfl) ?_); refine ⟨_, (by dsimp only [St.put, St.setObj, St.ev, killP, killA, killP1, killH, mapHO, renP, renA, ren1, killG, killGA, killG1, krowP, krowA, krow1, lendP, lendA, lend1, unv, pinP, pin1, elemsM, viewM, viewN, viewV, n_set_z, n_set_s, n_map_c, n_map_n, getD_z, getD_s, n_toNat, n_cond_t, n_cond_f, n_len_c, n_len_n, n_app_c, n_app_n, n_take_s, n_take_z, n_drop_s, n_drop_z, n_get_z, n_get_s, view, viewA, view1, elems, Nat.reduceAdd, Nat.reduceMul, Nat.zero_add, Nat.add_zero, Nat.reduceBEq, Bool.not_true, Bool.not_false, Nat.one_ne_zero, Nat.mul_one, reduceCtorEq]), ?_⟩)
| refine o_nil ?_
| refine kr1 ?_
| refine krS rfl ?_
| refine g_ret ?_)
  rfl
set_option maxHeartbeats 1000000 in
set_option maxRecDepth 100000 in
theorem iirr1_c (rows : List (List Int)) (x : Nat) (hg : goodL rows = true) (hx : x < rows.length) :
    PCalls Tryz.prog 109 ([] ++ [I (x : Int)] ++ [.ptr [latP rows]]) (B (irrB rows x)) := by
  refine pcalls1 Tryz.func109 rfl Tryz.ntmps109 rfl ?_
  simp only [List.length_cons, List.length_nil, Nat.reduceAdd, Nat.reduceSub, List.replicate_succ, List.replicate_zero, List.cons_append, List.nil_append]
  repeat' (first
| refine g_seq ?_
| refine g_region ?_
| (refine o_go rfl ?_; (first
| refine p_p (ps_call rfl rfl (by (repeat (first | refine ⟨PV.le_refl _, ?_⟩ | refine ⟨PV.le_nn _ _ _, ?_⟩ | refine ⟨PV.le_nil _, ?_⟩ | refine ⟨PV.le_any _, ?_⟩)); exact trivial) (ilc_c rows _ hg ⟨by omega, by omega⟩)) ?_
| refine p_p (ps_move rfl) ?_
| refine p_p (ps_assign rfl) ?_
| refine p_p (ps_load_cell rfl rfl) ?_
| refine p_p (ps_lenM rfl rfl rfl) ?_
| refine p_p (ps_fieldAddr rfl rfl) ?_
| refine p_p (ps_eql rfl rfl rfl) ?_
| refine p_p (ps_nilCheck rfl rfl) ?_); refine ⟨_, (by dsimp only [St.put, St.setObj, St.ev, killP, killA, killP1, killH, mapHO, renP, renA, ren1, killG, killGA, killG1, krowP, krowA, krow1, lendP, lendA, lend1, unv, pinP, pin1, elemsM, viewM, viewN, viewV, n_set_z, n_set_s, n_map_c, n_map_n, getD_z, getD_s, n_toNat, n_cond_t, n_cond_f, n_len_c, n_len_n, n_app_c, n_app_n, n_take_s, n_take_z, n_drop_s, n_drop_z, n_get_z, n_get_s, view, viewA, view1, elems, Nat.reduceAdd, Nat.reduceMul, Nat.zero_add, Nat.add_zero, Nat.reduceBEq, Bool.not_true, Bool.not_false, Nat.one_ne_zero, Nat.mul_one, reduceCtorEq]), ?_⟩)
| refine o_nil ?_
| refine kr1 ?_
| refine krB rfl ?_
| refine g_ret ?_)
  rfl
end Go.Proofs.YtbfmjknngofleaaGreat
