/- Walks: the program's lists of lattice elements, more. -/
import Derived.Test.YtfpghibjbcdinaaC3
import Derived.Test.YtfpghibjbcdinaaBn
import Derived.Test.YtfpghibjbcdinaaPx
import Derived.Test.YtfpghibjbcdinaaSp14
namespace Go.Proofs.Ytfpghibjbcdinaa
open Go Go.Pv Go.Proofs

set_option maxHeartbeats 1000000 in
set_option maxRecDepth 100000 in
theorem compose_R (f g : List Int) (hf : f.length ≤ 1048576) (hg : g.length ≤ 1048576) (hin : ∀ i, i < f.length → 0 ≤ f.getD i 0 ∧ f.getD i 0 < (g.length : Int)) : RCalls Try.prog 65 [ints f, ints g] (.arr true 1 3 ((f.map fun x => g.getD x.toNat 0).map I)) (.hp 0) := by
  refine pcallsR1 Try.func65 rfl Try.ntmps65 rfl ?_
  simp only [List.length_cons, List.length_nil, Nat.reduceAdd, Nat.reduceSub, List.replicate_succ, List.replicate_zero, List.cons_append, List.nil_append]
  repeat' (first
| refine g_seq ?_
| refine g_block ?_
| refine g_region ?_
| (refine o_go rfl ?_; (first
| refine p_p (ps_move rfl) ?_
| refine p_p (ps_assign rfl) ?_
| refine p_p (ps_lenM rfl rfl rfl) ?_
| refine p_e rfl (e_make1 rfl rfl rfl (by omega) (by omega) (by omega) rfl rfl) ?_); refine ⟨_, (by dsimp only [St.put, St.setObj, St.ev, killP, killA, killP1, killH, mapHO, renP, renA, ren1, killG, killGA, killG1, krowP, krowA, krow1, lendP, lendA, lend1, unv, pinP, pin1, elemsM, viewM, viewN, viewV, n_set_z, n_set_s, n_map_c, n_map_n, getD_z, getD_s, n_toNat, n_cond_t, n_cond_f, n_len_c, n_len_n, n_app_c, n_app_n, n_take_s, n_take_z, n_drop_s, n_drop_z, n_get_z, n_get_s, view, viewA, view1, elems, Nat.reduceAdd, Nat.reduceMul, Nat.zero_add, Nat.add_zero, Nat.reduceBEq, Bool.not_true, Bool.not_false, Nat.one_ne_zero, Nat.mul_one, reduceCtorEq]), ?_⟩)
| refine o_nil ?_)
  refine g_loopT (α := Nat) (fun k => [(13, I k)]) (fun k => [.arr true 1 3 (((f.map fun x => g.getD x.toNat 0).map I).take k ++ List.replicate (f.length - k) (I 0))]) (fun k => k ≤ f.length) (fun k => f.length - k) 0 (by simp only [havoc, dsts, List.filterMap_cons, List.filterMap_nil, List.foldl_cons, List.foldl_nil, List.cons_append, List.nil_append, List.append_nil, List.set_cons_succ, List.set_cons_zero]; exact rfl) (Nat.zero_le _) ⟨rfl, trivial⟩ (by simp) ?_
  rintro k hk
  dsimp only [setMany, List.set_cons_zero, List.set_cons_succ]
  have hi := hin k
  repeat' (first
| refine g_seq ?_
| refine g_block ?_
| refine g_region ?_
| (refine o_go rfl ?_; (first
| refine p_p (ps_index rfl rfl rfl (by omega) (by exact idx_I (by omega)) (by exact rfl)) ?_
| refine p_p (ps_move rfl) ?_
| refine p_p (ps_assign rfl) ?_
| refine p_p (ps_load_cell rfl rfl) ?_
| refine p_p (ps_lss rfl rfl rfl) ?_
| refine p_p (ps_add rfl rfl rfl (by constructor <;> omega)) ?_
| refine p_p (ps_index_mut rfl rfl rfl rfl (by omega) (by first | omega | (simp; done) | (simp; omega))) ?_
| refine p_e rfl (e_store_arr rfl rfl rfl rfl (by first | omega | (simp; done) | (simp; omega)) rfl rfl) ?_); refine ⟨_, (by dsimp only [St.put, St.setObj, St.ev, killP, killA, killP1, killH, mapHO, renP, renA, ren1, killG, killGA, killG1, krowP, krowA, krow1, lendP, lendA, lend1, unv, pinP, pin1, elemsM, viewM, viewN, viewV, n_set_z, n_set_s, n_map_c, n_map_n, getD_z, getD_s, n_toNat, n_cond_t, n_cond_f, n_len_c, n_len_n, n_app_c, n_app_n, n_take_s, n_take_z, n_drop_s, n_drop_z, n_get_z, n_get_s, view, viewA, view1, elems, Nat.reduceAdd, Nat.reduceMul, Nat.zero_add, Nat.add_zero, Nat.reduceBEq, Bool.not_true, Bool.not_false, Nat.one_ne_zero, Nat.mul_one, reduceCtorEq]), ?_⟩)
| refine o_nil ?_
| (refine g_condD rfl (fun hc => ?_) (fun hc => ?_) <;> try (exfalso; omega))
| refine krr 0 rfl (HandOut.arr rfl ?_ (by first | exact sc_map (fun _ => rfl) _ | exact sc_maps (fun _ => rfl) _ | rfl))
| refine g_skip ?_
| refine g_exit ?_
| refine g_ret ?_)
  · refine k_round (k + 1) (by omega) (by omega) (by repeat (first | exact trivial | refine ⟨.inl rfl, ?_⟩ | refine ⟨.inr rfl, ?_⟩)) ⟨rfl, trivial⟩ (hpLe_cons ?_ (hpLe_nil _))
    rw [Nat.mul_one, set_fill' (I 0) (by simp) (by simp [show k < f.length by omega])]
  · exact fill_full (I 0) (by simp) hk hc
set_option maxHeartbeats 1000000 in
set_option maxRecDepth 100000 in
theorem interval1_c (rows : List (List Int)) (x y : Int) (z : Nat) (hx : inR rows x) (hy : inR rows y) (hz : z < rows.length) :
    PCalls Try.prog 99 ([] ++ [I (z : Int)] ++ [.ptr [boolss (tabZ rows.length (leqB rows))], .ptr [I x], .ptr [I y]]) (B (leqB rows x (z : Int) && leqB rows (z : Int) y)) := by
  refine pcalls1 Try.func99 rfl Try.ntmps99 rfl ?_
  simp only [List.length_cons, List.length_nil, Nat.reduceAdd, Nat.reduceSub, List.replicate_succ, List.replicate_zero, List.cons_append, List.nil_append]
  unfold inR at hx hy
  repeat' (first
| refine g_seq ?_
| refine g_region ?_
| refine g_region_draw (by kernel_rfl) (by kernel_rfl) ?_
| (refine o_go rfl ?_; (first
| refine p_p (ps_index rfl rfl rfl (by omega) (by exact idx_TB (by omega) (by omega)) (by exact rfl)) ?_
| refine p_p (ps_index rfl rfl rfl (by omega) (by exact idx_RB (by omega) (by omega)) (by exact rfl)) ?_
| refine p_p (ps_move rfl) ?_
| refine p_p (ps_assign rfl) ?_
| refine p_p (ps_load_cell rfl rfl) ?_
| refine p_p (ps_pick rfl rfl) ?_); refine ⟨_, (by dsimp only [St.put, St.setObj, St.ev, killP, killA, killP1, killH, mapHO, renP, renA, ren1, killG, killGA, killG1, krowP, krowA, krow1, lendP, lendA, lend1, unv, pinP, pin1, elemsM, viewM, viewN, viewV, n_set_z, n_set_s, n_map_c, n_map_n, getD_z, getD_s, n_toNat, n_cond_t, n_cond_f, n_len_c, n_len_n, n_app_c, n_app_n, n_take_s, n_take_z, n_drop_s, n_drop_z, n_get_z, n_get_s, view, viewA, view1, elems, Nat.reduceAdd, Nat.reduceMul, Nat.zero_add, Nat.add_zero, Nat.reduceBEq, Bool.not_true, Bool.not_false, Nat.one_ne_zero, Nat.mul_one, reduceCtorEq]), ?_⟩)
| refine o_nil ?_
| (refine o_s rfl ?_; refine ⟨_, (by dsimp only [St.put, St.setObj, St.ev, killP, killA, killP1, killH, mapHO, renP, renA, ren1, killG, killGA, killG1, krowP, krowA, krow1, lendP, lendA, lend1, unv, pinP, pin1, elemsM, viewM, viewN, viewV, n_set_z, n_set_s, n_map_c, n_map_n, getD_z, getD_s, n_toNat, n_cond_t, n_cond_f, n_len_c, n_len_n, n_app_c, n_app_n, n_take_s, n_take_z, n_drop_s, n_drop_z, n_get_z, n_get_s, view, viewA, view1, elems, Nat.reduceAdd, Nat.reduceMul, Nat.zero_add, Nat.add_zero, Nat.reduceBEq, Bool.not_true, Bool.not_false, Nat.one_ne_zero, Nat.mul_one, reduceCtorEq]), ?_⟩)
| (refine o_splitA rfl rfl rfl (fun hc => ?_) (fun hc => ?_) <;> dsimp only [List.set_cons_zero, List.set_cons_succ])
| refine kr1 ?_
| refine krB rfl ?_
| refine g_ret ?_)
  all_goals simp [*]
set_option maxHeartbeats 1000000 in
set_option maxRecDepth 100000 in
theorem interval_c (rows : List (List Int)) (x y : Int) (hg : goodL rows = true) (hx : inR rows x) (hy : inR rows y) : PCalls Try.prog 66 [boolss (tabZ rows.length (leqB rows)), I x, I y] (ints (upTo rows.length fun z => leqB rows x (z : Int) && leqB rows (z : Int) y)) := by
  refine pcalls1 Try.func66 rfl Try.ntmps66 rfl ?_
  simp only [List.length_cons, List.length_nil, Nat.reduceAdd, Nat.reduceSub, List.replicate_succ, List.replicate_zero, List.cons_append, List.nil_append]
  have hlen := length_tabZ rows.length (leqB rows)
  have h1 := those_c (tabZ rows.length (leqB rows)) 99 [.ptr [boolss (tabZ rows.length (leqB rows))], .ptr [I x], .ptr [I y]] (fun z => leqB rows x (z : Int) && leqB rows (z : Int) y) (okT_Z _ (good_10 hg)) (fun z hz => interval1_c rows x y z hx hy (by omega))
  rw [hlen] at h1
  repeat' (first
| refine g_seq ?_
| refine g_region ?_
| (refine o_go rfl ?_; (first
| refine p_p (ps_call rfl rfl (by (repeat (first | refine ⟨PV.le_refl _, ?_⟩ | refine ⟨PV.le_nn _ _ _, ?_⟩ | refine ⟨PV.le_nil _, ?_⟩ | refine ⟨PV.le_any _, ?_⟩)); exact trivial) (h1)) ?_
| refine p_p (ps_assign rfl) ?_
| refine p_p (ps_load_cell rfl rfl) ?_
| refine p_p (ps_box rfl rfl) ?_
| refine p_p (ps_makeFunc rfl rfl rfl) ?_); refine ⟨_, (by dsimp only [St.put, St.setObj, St.ev, killP, killA, killP1, killH, mapHO, renP, renA, ren1, killG, killGA, killG1, krowP, krowA, krow1, lendP, lendA, lend1, unv, pinP, pin1, elemsM, viewM, viewN, viewV, n_set_z, n_set_s, n_map_c, n_map_n, getD_z, getD_s, n_toNat, n_cond_t, n_cond_f, n_len_c, n_len_n, n_app_c, n_app_n, n_take_s, n_take_z, n_drop_s, n_drop_z, n_get_z, n_get_s, view, viewA, view1, elems, Nat.reduceAdd, Nat.reduceMul, Nat.zero_add, Nat.add_zero, Nat.reduceBEq, Bool.not_true, Bool.not_false, Nat.one_ne_zero, Nat.mul_one, reduceCtorEq]), ?_⟩)
| refine o_nil ?_
| refine kr1 ?_
| refine krS rfl ?_
| refine g_ret ?_)
  rfl
set_option maxHeartbeats 1000000 in
set_option maxRecDepth 100000 in
theorem ili_c (rows : List (List Int)) (x y : Int) (hok : okP rows) : RCalls Try.prog 29 [posetP rows, I x, I y] (.arr true 1 3 ((liV rows x y).map I)) (.tup [.hp 0, B (two rows x y)]) := by
  refine pcallsR2 Try.func29 rfl Try.ntmps29 rfl ?_
  simp only [List.length_cons, List.length_nil, Nat.reduceAdd, Nat.reduceSub, List.replicate_succ, List.replicate_zero, List.cons_append, List.nil_append]
  unfold liV two
  cases hg : goodL rows with
  | false =>
    repeat' (first
| refine g_seq ?_
| refine g_region ?_
| (refine o_go rfl ?_; (first
| refine p_p (ps_call rfl rfl (by (repeat (first | refine ⟨PV.le_refl _, ?_⟩ | refine ⟨PV.le_nn _ _ _, ?_⟩ | refine ⟨PV.le_nil _, ?_⟩ | refine ⟨PV.le_any _, ?_⟩)); exact trivial) (lat_no rows hok hg)) ?_
| refine p_p (ps_move rfl) ?_
| refine p_p (ps_assign rfl) ?_
| refine p_p (ps_load_agg rfl rfl (by exact Nat.le_of_ble_eq_true rfl)) ?_
| refine p_p (ps_extract rfl rfl rfl) ?_
| refine p_p (ps_not rfl rfl) ?_
| refine p_p (ps_pick rfl rfl) ?_
| refine p_e rfl (e_lit0 rfl (by decide)) ?_
| refine p_p (ps_box rfl rfl) ?_); refine ⟨_, (by dsimp only [St.put, St.setObj, St.ev, killP, killA, killP1, killH, mapHO, renP, renA, ren1, killG, killGA, killG1, krowP, krowA, krow1, lendP, lendA, lend1, unv, pinP, pin1, elemsM, viewM, viewN, viewV, n_set_z, n_set_s, n_map_c, n_map_n, getD_z, getD_s, n_toNat, n_cond_t, n_cond_f, n_len_c, n_len_n, n_app_c, n_app_n, n_take_s, n_take_z, n_drop_s, n_drop_z, n_get_z, n_get_s, view, viewA, view1, elems, Nat.reduceAdd, Nat.reduceMul, Nat.zero_add, Nat.add_zero, Nat.reduceBEq, Bool.not_true, Bool.not_false, Nat.one_ne_zero, Nat.mul_one, reduceCtorEq]), ?_⟩)
| refine o_nil ?_
| (refine o_s rfl ?_; refine ⟨_, (by dsimp only [St.put, St.setObj, St.ev, killP, killA, killP1, killH, mapHO, renP, renA, ren1, killG, killGA, killG1, krowP, krowA, krow1, lendP, lendA, lend1, unv, pinP, pin1, elemsM, viewM, viewN, viewV, n_set_z, n_set_s, n_map_c, n_map_n, getD_z, getD_s, n_toNat, n_cond_t, n_cond_f, n_len_c, n_len_n, n_app_c, n_app_n, n_take_s, n_take_z, n_drop_s, n_drop_z, n_get_z, n_get_s, view, viewA, view1, elems, Nat.reduceAdd, Nat.reduceMul, Nat.zero_add, Nat.add_zero, Nat.reduceBEq, Bool.not_true, Bool.not_false, Nat.one_ne_zero, Nat.mul_one, reduceCtorEq]), ?_⟩)
| refine g_condT rfl ?_
| refine krr2 0 rfl rfl (HandOut.arr rfl ?_ (by first | exact sc_map (fun _ => rfl) _ | exact sc_maps (fun _ => rfl) _ | rfl))
| refine g_ret ?_)
    all_goals rfl
  | true =>
    have hs := lhas_c rows [x, y] hg (by simp)
    rw [inSize2] at hs
    cases ht : isB rows x && isB rows y with
    | false =>
      rw [ht] at hs
      simp only [Bool.true_and, ht]
      repeat' (first
| refine g_seq ?_
| refine g_region ?_
| (refine o_go rfl ?_; (first
| refine p_p (ps_call rfl rfl (by (repeat (first | refine ⟨PV.le_refl _, ?_⟩ | refine ⟨PV.le_nn _ _ _, ?_⟩ | refine ⟨PV.le_nil _, ?_⟩ | refine ⟨PV.le_any _, ?_⟩)); exact trivial) (lat_yes rows hok hg)) ?_
| refine p_p (ps_callM rfl rfl (by (repeat (first | refine ⟨PV.le_refl _, ?_⟩ | refine ⟨PV.le_nn _ _ _, ?_⟩ | refine ⟨PV.le_nil _, ?_⟩ | refine ⟨PV.le_any _, ?_⟩)); exact trivial) (by rfl) (hs)) ?_
| refine p_p (ps_move rfl) ?_
| refine p_p (ps_assign rfl) ?_
| refine p_p (ps_load_cell rfl rfl) ?_
| refine p_p (ps_load_agg rfl rfl (by exact Nat.le_of_ble_eq_true rfl)) ?_
| refine p_p (ps_fieldAddr rfl rfl) ?_
| refine p_p (ps_extract rfl rfl rfl) ?_
| refine p_p (ps_not rfl rfl) ?_
| refine p_p (ps_pick rfl rfl) ?_
| refine p_p (ps_nilCheck rfl rfl) ?_
| refine p_e rfl (e_lit0 rfl (by decide)) ?_
| refine p_p (ps_box rfl rfl) ?_
| refine p_p (ps_lit2 rfl rfl rfl (by rfl) (by rfl) (by rfl)) ?_); refine ⟨_, (by dsimp only [St.put, St.setObj, St.ev, killP, killA, killP1, killH, mapHO, renP, renA, ren1, killG, killGA, killG1, krowP, krowA, krow1, lendP, lendA, lend1, unv, pinP, pin1, elemsM, viewM, viewN, viewV, n_set_z, n_set_s, n_map_c, n_map_n, getD_z, getD_s, n_toNat, n_cond_t, n_cond_f, n_len_c, n_len_n, n_app_c, n_app_n, n_take_s, n_take_z, n_drop_s, n_drop_z, n_get_z, n_get_s, view, viewA, view1, elems, Nat.reduceAdd, Nat.reduceMul, Nat.zero_add, Nat.add_zero, Nat.reduceBEq, Bool.not_true, Bool.not_false, Nat.one_ne_zero, Nat.mul_one, reduceCtorEq]), ?_⟩)
| refine o_nil ?_
| refine g_condT rfl ?_
| refine krr2 0 rfl rfl (HandOut.arr rfl ?_ (by first | exact sc_map (fun _ => rfl) _ | exact sc_maps (fun _ => rfl) _ | rfl))
| refine g_ret ?_)
      all_goals rfl
    | true =>
      rw [ht] at hs
      simp only [Bool.true_and, ht]
      simp only [Bool.and_eq_true] at ht
      have hx := isB_iff.1 ht.1
      have hy := isB_iff.1 ht.2
      have hm := meet_in hg hx hy
      have hj := join_in hg hx hy
      have hul := upTo_length rows.length (liP rows x y)
      have hr := hok.1
      have hcm := compose_R (upTo rows.length (liP rows x y)) (rowZ rows.length (joinL rows) y) (by omega) (by rw [length_rowZ]; exact hr) (fun i hi => by rw [length_rowZ]; exact ⟨(upTo_getD hi).1, (upTo_getD hi).2.1⟩)
      rw [show (upTo rows.length (liP rows x y)).map (fun z => (rowZ rows.length (joinL rows) y).getD z.toNat 0) = liL rows x y rows.length by
        unfold liL
        refine List.map_congr_left fun z hz => ?_
        obtain ⟨h0, h1, -⟩ := upTo_mem.1 hz
        unfold rowZ
        rw [getD_map_range _ _ _ (by omega), show ((z.toNat : Nat) : Int) = z by omega]
        exact join_comm rows _ _] at hcm
      repeat' (first
| refine g_seq ?_
| refine g_region ?_
| refine g_region_draw (by kernel_rfl) (by kernel_rfl) ?_
| (refine o_go rfl ?_; (first
| refine p_p (ps_index rfl rfl rfl (by omega) (by exact idx_TI (by omega) (by omega)) (by exact rfl)) ?_
| refine p_p (ps_index rfl rfl rfl (by omega) (by exact idx_RI (by omega) (by omega)) (by exact rfl)) ?_
| refine p_p (ps_call rfl rfl (by (repeat (first | refine ⟨PV.le_refl _, ?_⟩ | refine ⟨PV.le_nn _ _ _, ?_⟩ | refine ⟨PV.le_nil _, ?_⟩ | refine ⟨PV.le_any _, ?_⟩)); exact trivial) (lat_yes rows hok hg)) ?_
| refine p_p (ps_callM rfl rfl (by (repeat (first | refine ⟨PV.le_refl _, ?_⟩ | refine ⟨PV.le_nn _ _ _, ?_⟩ | refine ⟨PV.le_nil _, ?_⟩ | refine ⟨PV.le_any _, ?_⟩)); exact trivial) (by rfl) (hs)) ?_
| refine p_p (ps_call rfl rfl (by (repeat (first | refine ⟨PV.le_refl _, ?_⟩ | refine ⟨PV.le_nn _ _ _, ?_⟩ | refine ⟨PV.le_nil _, ?_⟩ | refine ⟨PV.le_any _, ?_⟩)); exact trivial) (interval_c rows (meetL rows x y) x hg ⟨by omega, by omega⟩ ⟨by omega, by omega⟩)) ?_
| refine p_e rfl (e_callR rfl rfl (by (repeat (first | refine ⟨PV.le_refl _, ?_⟩ | refine ⟨PV.le_nn _ _ _, ?_⟩ | refine ⟨PV.le_nil _, ?_⟩ | refine ⟨PV.le_any _, ?_⟩)); exact trivial) rfl (hcm)) ?_
| refine p_p (ps_move rfl) ?_
| refine p_p (ps_assign rfl) ?_
| refine p_p (ps_load_cell rfl rfl) ?_
| refine p_p (ps_load_agg rfl rfl (by exact Nat.le_of_ble_eq_true rfl)) ?_
| refine p_p (ps_fieldAddr rfl rfl) ?_
| refine p_p (ps_extract rfl rfl rfl) ?_
| refine p_p (ps_not rfl rfl) ?_
| refine p_p (ps_pick rfl rfl) ?_
| refine p_p (ps_nilCheck rfl rfl) ?_
| refine p_p (ps_box rfl rfl) ?_
| refine p_p (ps_lit2 rfl rfl rfl (by rfl) (by rfl) (by rfl)) ?_); refine ⟨_, (by dsimp only [St.put, St.setObj, St.ev, killP, killA, killP1, killH, mapHO, renP, renA, ren1, killG, killGA, killG1, krowP, krowA, krow1, lendP, lendA, lend1, unv, pinP, pin1, elemsM, viewM, viewN, viewV, n_set_z, n_set_s, n_map_c, n_map_n, getD_z, getD_s, n_toNat, n_cond_t, n_cond_f, n_len_c, n_len_n, n_app_c, n_app_n, n_take_s, n_take_z, n_drop_s, n_drop_z, n_get_z, n_get_s, view, viewA, view1, elems, Nat.reduceAdd, Nat.reduceMul, Nat.zero_add, Nat.add_zero, Nat.reduceBEq, Bool.not_true, Bool.not_false, Nat.one_ne_zero, Nat.mul_one, reduceCtorEq]), ?_⟩)
| refine o_nil ?_
| refine g_condF rfl ?_
| refine krr2 0 rfl rfl (HandOut.arr rfl ?_ (by first | exact sc_map (fun _ => rfl) _ | exact sc_maps (fun _ => rfl) _ | rfl))
| refine g_skip ?_
| refine g_ret ?_)
      all_goals rfl
set_option maxHeartbeats 1000000 in
set_option maxRecDepth 100000 in
theorem idi_c (rows : List (List Int)) (x y : Int) (hok : okP rows) : RCalls Try.prog 27 [posetP rows, I x, I y] (.arr true 1 3 ((diV rows x y).map I)) (.tup [.hp 0, B (two rows x y)]) := by
  refine pcallsR2 Try.func27 rfl Try.ntmps27 rfl ?_
  simp only [List.length_cons, List.length_nil, Nat.reduceAdd, Nat.reduceSub, List.replicate_succ, List.replicate_zero, List.cons_append, List.nil_append]
  unfold diV two
  cases hg : goodL rows with
  | false =>
    repeat' (first
| refine g_seq ?_
| refine g_region ?_
| (refine o_go rfl ?_; (first
| refine p_p (ps_call rfl rfl (by (repeat (first | refine ⟨PV.le_refl _, ?_⟩ | refine ⟨PV.le_nn _ _ _, ?_⟩ | refine ⟨PV.le_nil _, ?_⟩ | refine ⟨PV.le_any _, ?_⟩)); exact trivial) (lat_no rows hok hg)) ?_
| refine p_p (ps_move rfl) ?_
| refine p_p (ps_assign rfl) ?_
| refine p_p (ps_load_agg rfl rfl (by exact Nat.le_of_ble_eq_true rfl)) ?_
| refine p_p (ps_extract rfl rfl rfl) ?_
| refine p_p (ps_not rfl rfl) ?_
| refine p_p (ps_pick rfl rfl) ?_
| refine p_e rfl (e_lit0 rfl (by decide)) ?_
| refine p_p (ps_box rfl rfl) ?_); refine ⟨_, (by dsimp only [St.put, St.setObj, St.ev, killP, killA, killP1, killH, mapHO, renP, renA, ren1, killG, killGA, killG1, krowP, krowA, krow1, lendP, lendA, lend1, unv, pinP, pin1, elemsM, viewM, viewN, viewV, n_set_z, n_set_s, n_map_c, n_map_n, getD_z, getD_s, n_toNat, n_cond_t, n_cond_f, n_len_c, n_len_n, n_app_c, n_app_n, n_take_s, n_take_z, n_drop_s, n_drop_z, n_get_z, n_get_s, view, viewA, view1, elems, Nat.reduceAdd, Nat.reduceMul, Nat.zero_add, Nat.add_zero, Nat.reduceBEq, Bool.not_true, Bool.not_false, Nat.one_ne_zero, Nat.mul_one, reduceCtorEq]), ?_⟩)
| refine o_nil ?_
| (refine o_s rfl ?_; refine ⟨_, (by dsimp only [St.put, St.setObj, St.ev, killP, killA, killP1, killH, mapHO, renP, renA, ren1, killG, killGA, killG1, krowP, krowA, krow1, lendP, lendA, lend1, unv, pinP, pin1, elemsM, viewM, viewN, viewV, n_set_z, n_set_s, n_map_c, n_map_n, getD_z, getD_s, n_toNat, n_cond_t, n_cond_f, n_len_c, n_len_n, n_app_c, n_app_n, n_take_s, n_take_z, n_drop_s, n_drop_z, n_get_z, n_get_s, view, viewA, view1, elems, Nat.reduceAdd, Nat.reduceMul, Nat.zero_add, Nat.add_zero, Nat.reduceBEq, Bool.not_true, Bool.not_false, Nat.one_ne_zero, Nat.mul_one, reduceCtorEq]), ?_⟩)
| refine g_condT rfl ?_
| refine krr2 0 rfl rfl (HandOut.arr rfl ?_ (by first | exact sc_map (fun _ => rfl) _ | exact sc_maps (fun _ => rfl) _ | rfl))
| refine g_ret ?_)
    all_goals rfl
  | true =>
    have hs := lhas_c rows [x, y] hg (by simp)
    rw [inSize2] at hs
    cases ht : isB rows x && isB rows y with
    | false =>
      rw [ht] at hs
      simp only [Bool.true_and, ht]
      repeat' (first
| refine g_seq ?_
| refine g_region ?_
| (refine o_go rfl ?_; (first
| refine p_p (ps_call rfl rfl (by (repeat (first | refine ⟨PV.le_refl _, ?_⟩ | refine ⟨PV.le_nn _ _ _, ?_⟩ | refine ⟨PV.le_nil _, ?_⟩ | refine ⟨PV.le_any _, ?_⟩)); exact trivial) (lat_yes rows hok hg)) ?_
| refine p_p (ps_callM rfl rfl (by (repeat (first | refine ⟨PV.le_refl _, ?_⟩ | refine ⟨PV.le_nn _ _ _, ?_⟩ | refine ⟨PV.le_nil _, ?_⟩ | refine ⟨PV.le_any _, ?_⟩)); exact trivial) (by rfl) (hs)) ?_
| refine p_p (ps_move rfl) ?_
| refine p_p (ps_assign rfl) ?_
| refine p_p (ps_load_cell rfl rfl) ?_
| refine p_p (ps_load_agg rfl rfl (by exact Nat.le_of_ble_eq_true rfl)) ?_
| refine p_p (ps_fieldAddr rfl rfl) ?_
| refine p_p (ps_extract rfl rfl rfl) ?_
| refine p_p (ps_not rfl rfl) ?_
| refine p_p (ps_pick rfl rfl) ?_
| refine p_p (ps_nilCheck rfl rfl) ?_
| refine p_e rfl (e_lit0 rfl (by decide)) ?_
| refine p_p (ps_box rfl rfl) ?_
| refine p_p (ps_lit2 rfl rfl rfl (by rfl) (by rfl) (by rfl)) ?_); refine ⟨_, (by dsimp only [St.put, St.setObj, St.ev, killP, killA, killP1, killH, mapHO, renP, renA, ren1, killG, killGA, killG1, krowP, krowA, krow1, lendP, lendA, lend1, unv, pinP, pin1, elemsM, viewM, viewN, viewV, n_set_z, n_set_s, n_map_c, n_map_n, getD_z, getD_s, n_toNat, n_cond_t, n_cond_f, n_len_c, n_len_n, n_app_c, n_app_n, n_take_s, n_take_z, n_drop_s, n_drop_z, n_get_z, n_get_s, view, viewA, view1, elems, Nat.reduceAdd, Nat.reduceMul, Nat.zero_add, Nat.add_zero, Nat.reduceBEq, Bool.not_true, Bool.not_false, Nat.one_ne_zero, Nat.mul_one, reduceCtorEq]), ?_⟩)
| refine o_nil ?_
| refine g_condT rfl ?_
| refine krr2 0 rfl rfl (HandOut.arr rfl ?_ (by first | exact sc_map (fun _ => rfl) _ | exact sc_maps (fun _ => rfl) _ | rfl))
| refine g_ret ?_)
      all_goals rfl
    | true =>
      rw [ht] at hs
      simp only [Bool.true_and, ht]
      simp only [Bool.and_eq_true] at ht
      have hx := isB_iff.1 ht.1
      have hy := isB_iff.1 ht.2
      have hm := meet_in hg hx hy
      have hj := join_in hg hx hy
      have hul := upTo_length rows.length (diP rows x y)
      have hr := hok.1
      have hcm := compose_R (upTo rows.length (diP rows x y)) (rowZ rows.length (meetL rows) x) (by omega) (by rw [length_rowZ]; exact hr) (fun i hi => by rw [length_rowZ]; exact ⟨(upTo_getD hi).1, (upTo_getD hi).2.1⟩)
      rw [show (upTo rows.length (diP rows x y)).map (fun z => (rowZ rows.length (meetL rows) x).getD z.toNat 0) = diL rows x y rows.length by
        unfold diL
        refine List.map_congr_left fun z hz => ?_
        obtain ⟨h0, h1, -⟩ := upTo_mem.1 hz
        unfold rowZ
        rw [getD_map_range _ _ _ (by omega), show ((z.toNat : Nat) : Int) = z by omega]
        exact meet_comm rows _ _] at hcm
      repeat' (first
| refine g_seq ?_
| refine g_region ?_
| refine g_region_draw (by kernel_rfl) (by kernel_rfl) ?_
| (refine o_go rfl ?_; (first
| refine p_p (ps_index rfl rfl rfl (by omega) (by exact idx_TI (by omega) (by omega)) (by exact rfl)) ?_
| refine p_p (ps_index rfl rfl rfl (by omega) (by exact idx_RI (by omega) (by omega)) (by exact rfl)) ?_
| refine p_p (ps_call rfl rfl (by (repeat (first | refine ⟨PV.le_refl _, ?_⟩ | refine ⟨PV.le_nn _ _ _, ?_⟩ | refine ⟨PV.le_nil _, ?_⟩ | refine ⟨PV.le_any _, ?_⟩)); exact trivial) (lat_yes rows hok hg)) ?_
| refine p_p (ps_callM rfl rfl (by (repeat (first | refine ⟨PV.le_refl _, ?_⟩ | refine ⟨PV.le_nn _ _ _, ?_⟩ | refine ⟨PV.le_nil _, ?_⟩ | refine ⟨PV.le_any _, ?_⟩)); exact trivial) (by rfl) (hs)) ?_
| refine p_p (ps_call rfl rfl (by (repeat (first | refine ⟨PV.le_refl _, ?_⟩ | refine ⟨PV.le_nn _ _ _, ?_⟩ | refine ⟨PV.le_nil _, ?_⟩ | refine ⟨PV.le_any _, ?_⟩)); exact trivial) (interval_c rows y (joinL rows x y) hg ⟨by omega, by omega⟩ ⟨by omega, by omega⟩)) ?_
| refine p_e rfl (e_callR rfl rfl (by (repeat (first | refine ⟨PV.le_refl _, ?_⟩ | refine ⟨PV.le_nn _ _ _, ?_⟩ | refine ⟨PV.le_nil _, ?_⟩ | refine ⟨PV.le_any _, ?_⟩)); exact trivial) rfl (hcm)) ?_
| refine p_p (ps_move rfl) ?_
| refine p_p (ps_assign rfl) ?_
| refine p_p (ps_load_cell rfl rfl) ?_
| refine p_p (ps_load_agg rfl rfl (by exact Nat.le_of_ble_eq_true rfl)) ?_
| refine p_p (ps_fieldAddr rfl rfl) ?_
| refine p_p (ps_extract rfl rfl rfl) ?_
| refine p_p (ps_not rfl rfl) ?_
| refine p_p (ps_pick rfl rfl) ?_
| refine p_p (ps_nilCheck rfl rfl) ?_
| refine p_p (ps_box rfl rfl) ?_
| refine p_p (ps_lit2 rfl rfl rfl (by rfl) (by rfl) (by rfl)) ?_); refine ⟨_, (by dsimp only [St.put, St.setObj, St.ev, killP, killA, killP1, killH, mapHO, renP, renA, ren1, killG, killGA, killG1, krowP, krowA, krow1, lendP, lendA, lend1, unv, pinP, pin1, elemsM, viewM, viewN, viewV, n_set_z, n_set_s, n_map_c, n_map_n, getD_z, getD_s, n_toNat, n_cond_t, n_cond_f, n_len_c, n_len_n, n_app_c, n_app_n, n_take_s, n_take_z, n_drop_s, n_drop_z, n_get_z, n_get_s, view, viewA, view1, elems, Nat.reduceAdd, Nat.reduceMul, Nat.zero_add, Nat.add_zero, Nat.reduceBEq, Bool.not_true, Bool.not_false, Nat.one_ne_zero, Nat.mul_one, reduceCtorEq]), ?_⟩)
| refine o_nil ?_
| refine g_condF rfl ?_
| refine krr2 0 rfl rfl (HandOut.arr rfl ?_ (by first | exact sc_map (fun _ => rfl) _ | exact sc_maps (fun _ => rfl) _ | rfl))
| refine g_skip ?_
| refine g_ret ?_)
      all_goals rfl
end Go.Proofs.Ytfpghibjbcdinaa
