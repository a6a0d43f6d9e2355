/- Walks: the program's prime filters. -/
import Derived.Test.YtbfmjknngofleaaGreatKCq
import Derived.Test.YtbfmjknngofleaaGreatKAr
import Derived.Test.YtbfmjknngofleaaGreatKAq
import Derived.Test.YtbfmjknngofleaaGreatKPq
import Derived.Test.YtbfmjknngofleaaGreatKSu
import Derived.Test.YtbfmjknngofleaaGreatKSf
namespace Go.Proofs.YtbfmjknngofleaaGreat
open Go Go.Pv Go.Proofs

set_option maxHeartbeats 1000000 in
set_option maxRecDepth 100000 in
theorem iabove1_c (rows : List (List Int)) (x : Int) (y : Nat) (hx : inR rows x) (hy : y < rows.length) :
    PCalls Tryz.prog 104 ([] ++ [I (y : Int)] ++ [.ptr [boolss (tabZ rows.length (leqB rows))], .ptr [I x]]) (B (leqB rows x (y : Int))) := by
  refine pcalls1 Tryz.func104 rfl Tryz.ntmps104 rfl ?_
  simp only [List.length_cons, List.length_nil, Nat.reduceAdd, Nat.reduceSub, List.replicate_succ, List.replicate_zero, List.cons_append, List.nil_append]
  unfold inR at hx
  repeat' (first
| refine g_seq ?_
| refine g_region ?_
| (refine o_go rfl ?_; (first
| refine p_p (ps_index rfl rfl rfl (by omega) (by exact idx_TB (by omega) (by omega)) (by exact rfl)) ?_
| refine p_p (ps_index rfl rfl rfl (by omega) (by exact idx_RB (by omega) (by omega)) (by exact rfl)) ?_
| refine p_p (ps_move rfl) ?_
| refine p_p (ps_assign rfl) ?_
| refine p_p (ps_load_cell rfl rfl) ?_); refine ⟨_, (by dsimp only [St.put, St.setObj, St.ev, killP, killA, killP1, killH, mapHO, renP, renA, ren1, killG, killGA, killG1, krowP, krowA, krow1, lendP, lendA, lend1, unv, pinP, pin1, elemsM, viewM, viewN, viewV, n_set_z, n_set_s, n_map_c, n_map_n, getD_z, getD_s, n_toNat, n_cond_t, n_cond_f, n_len_c, n_len_n, n_app_c, n_app_n, n_take_s, n_take_z, n_drop_s, n_drop_z, n_get_z, n_get_s, view, viewA, view1, elems, Nat.reduceAdd, Nat.reduceMul, Nat.zero_add, Nat.add_zero, Nat.reduceBEq, Bool.not_true, Bool.not_false, Nat.one_ne_zero, Nat.mul_one, reduceCtorEq]), ?_⟩)
| refine o_nil ?_
| refine kr1 ?_
| refine krB rfl ?_
| refine g_ret ?_)
  rfl
set_option maxHeartbeats 1000000 in
set_option maxRecDepth 100000 in
theorem iabove_R (rows : List (List Int)) (x : Int) (hg : goodL rows = true) (hx : inR rows x) : RCalls Tryz.prog 56 [boolss (tabZ rows.length (leqB rows)), I x] (.arr true 1 3 ((upS rows x).map I)) (.hp 0) := by
  refine pcallsR1 Tryz.func56 rfl Tryz.ntmps56 rfl ?_
  simp only [List.length_cons, List.length_nil, Nat.reduceAdd, Nat.reduceSub, List.replicate_succ, List.replicate_zero, List.cons_append, List.nil_append]
  have hlen := length_tabZ rows.length (leqB rows)
  have h1 := thoseR_c (tabZ rows.length (leqB rows)) 104 [.ptr [boolss (tabZ rows.length (leqB rows))], .ptr [I x]] (fun y => leqB rows x (y : Int)) (okT_Z _ (good_10 hg)) (fun y hy => iabove1_c rows x y hx (by omega))
  rw [hlen] at h1
  repeat' (first
| refine g_seq ?_
| refine g_region ?_
| (refine o_go rfl ?_; (first
| refine p_e rfl (e_callR rfl rfl (by (repeat (first | refine ⟨PV.le_refl _, ?_⟩ | refine ⟨PV.le_nn _ _ _, ?_⟩ | refine ⟨PV.le_nil _, ?_⟩ | refine ⟨PV.le_any _, ?_⟩)); exact trivial) rfl (h1)) ?_
| refine p_p (ps_assign rfl) ?_
| refine p_p (ps_load_cell rfl rfl) ?_
| refine p_p (ps_box rfl rfl) ?_
| refine p_p (ps_makeFunc rfl rfl rfl) ?_); refine ⟨_, (by dsimp only [St.put, St.setObj, St.ev, killP, killA, killP1, killH, mapHO, renP, renA, ren1, killG, killGA, killG1, krowP, krowA, krow1, lendP, lendA, lend1, unv, pinP, pin1, elemsM, viewM, viewN, viewV, n_set_z, n_set_s, n_map_c, n_map_n, getD_z, getD_s, n_toNat, n_cond_t, n_cond_f, n_len_c, n_len_n, n_app_c, n_app_n, n_take_s, n_take_z, n_drop_s, n_drop_z, n_get_z, n_get_s, view, viewA, view1, elems, Nat.reduceAdd, Nat.reduceMul, Nat.zero_add, Nat.add_zero, Nat.reduceBEq, Bool.not_true, Bool.not_false, Nat.one_ne_zero, Nat.mul_one, reduceCtorEq]), ?_⟩)
| refine o_nil ?_
| refine krr 0 rfl (HandOut.arr rfl ?_ (by first | exact sc_map (fun _ => rfl) _ | exact sc_maps (fun _ => rfl) _ | rfl))
| refine g_ret ?_)
  rfl
theorem pfA_len (rows : List (List Int)) {k : Nat} (h : k ≤ (jpL rows).length) : (pfA rows k).length = k := by simp [pfA, h]
theorem pfA_succ (rows : List (List Int)) {k : Nat} (h : k < (jpL rows).length) : pfA rows (k + 1) = pfA rows k ++ [upS rows ((jpL rows).getD k 0)] := by unfold pfA; rw [take_snoc 0 h, List.map_append]; rfl
theorem jpL_len (rows : List (List Int)) : (jpL rows).length ≤ rows.length := upTo_length _ _
set_option maxHeartbeats 2000000 in
set_option maxRecDepth 100000 in
theorem ipf_R (rows V : List (List Int)) (hok : okP rows) (hg : goodL rows = true) (hV : Asc V) (hp : (pfA rows (jpL rows).length).Perm V) : RCalls Tryz.prog 10 [posetP rows] (gridI V) (.tup [.hp 0, B true]) := by
  refine pcallsR2 Tryz.func10 rfl Tryz.ntmps10 rfl ?_
  simp only [List.length_cons, List.length_nil, Nat.reduceAdd, Nat.reduceSub, List.replicate_succ, List.replicate_zero, List.cons_append, List.nil_append]
  have h10 := good_10 hg
  have hjl := jpL_len rows
  have hji := fun (i : Nat) (h : i < (jpL rows).length) => (show inR rows ((jpL rows).getD i 0) from ⟨(upTo_getD h).1, (upTo_getD h).2.1⟩)
  have hlen := length_tabZ rows.length (leqB rows)
  have h1 := (thoseG_c (tabZ rows.length (leqB rows)) 50 [latP rows] [] (jpB rows) (okT_Z _ (good_10 hg)) (fun x hx => iprime_c rows x hg (by omega))).plain rfl rfl
  rw [hlen] at h1
  have h1' : PCalls Tryz.prog 49 [boolss (tabZ rows.length (leqB rows)), .fn 50 [latP rows] []] (ints (jpL rows)) := h1
  repeat' (first
| refine g_seq ?_
| refine g_block ?_
| refine g_region ?_
| (refine o_go rfl ?_; (first
| refine p_p (ps_call rfl rfl (by (repeat (first | refine ⟨PV.le_refl _, ?_⟩ | refine ⟨PV.le_nn _ _ _, ?_⟩ | refine ⟨PV.le_nil _, ?_⟩ | refine ⟨PV.le_any _, ?_⟩)); exact trivial) (lat_yes rows hok hg)) ?_
| refine p_p (ps_call rfl rfl (by (repeat (first | refine ⟨PV.le_refl _, ?_⟩ | refine ⟨PV.le_nn _ _ _, ?_⟩ | refine ⟨PV.le_nil _, ?_⟩ | refine ⟨PV.le_any _, ?_⟩)); exact trivial) (h1')) ?_
| refine p_e rfl (e_lit0G 3 rfl) ?_
| refine p_p (ps_move rfl) ?_
| refine p_p (ps_assign rfl) ?_
| refine p_p (ps_load_cell rfl rfl) ?_
| refine p_p (ps_load_agg rfl rfl (by exact Nat.le_of_ble_eq_true rfl)) ?_
| refine p_p (ps_lenM rfl rfl rfl) ?_
| refine p_p (ps_fieldAddr rfl rfl) ?_
| refine p_p (ps_extract rfl rfl rfl) ?_
| refine p_p (ps_not rfl rfl) ?_
| refine p_p (ps_nilCheck rfl rfl) ?_
| refine p_p (ps_box rfl rfl) ?_
| refine p_p (ps_makeFunc rfl rfl rfl) ?_); refine ⟨_, (by dsimp only [St.put, St.setObj, St.ev, killP, killA, killP1, killH, mapHO, renP, renA, ren1, killG, killGA, killG1, krowP, krowA, krow1, lendP, lendA, lend1, unv, pinP, pin1, elemsM, viewM, viewN, viewV, n_set_z, n_set_s, n_map_c, n_map_n, getD_z, getD_s, n_toNat, n_cond_t, n_cond_f, n_len_c, n_len_n, n_app_c, n_app_n, n_take_s, n_take_z, n_drop_s, n_drop_z, n_get_z, n_get_s, view, viewA, view1, elems, Nat.reduceAdd, Nat.reduceMul, Nat.zero_add, Nat.add_zero, Nat.reduceBEq, Bool.not_true, Bool.not_false, Nat.one_ne_zero, Nat.mul_one, reduceCtorEq]), ?_⟩)
| refine o_nil ?_
| refine g_condF rfl ?_
| refine g_skip ?_)
  refine g_loopF (α := Nat) [17] (fun k => [(6, .hp 0), (26, I (k : Int))]) (fun k => [gridI (pfA rows k)]) (fun k => k ≤ (jpL rows).length) (fun k => (jpL rows).length - k) 0 (by simp only [havoc, dsts, List.filterMap_cons, List.filterMap_nil, List.foldl_cons, List.foldl_nil, List.cons_append, List.nil_append, List.append_nil, List.set_cons_succ, List.set_cons_zero]; exact rfl) (Nat.zero_le _) ⟨rfl, rfl, trivial⟩ rfl ?_
  rintro k hk
  dsimp only [setMany, List.set_cons_zero, List.set_cons_succ]
  have hpl : ((pfA rows k).map fun r => r.map I).length = k := by rw [List.length_map, pfA_len rows hk]
  by_cases hke : k < (jpL rows).length
  · have hjk := hji k hke
    repeat' (first
| refine g_seq ?_
| refine g_block ?_
| refine g_region ?_
| (refine o_go rfl ?_; (first
| refine p_e rfl (e_callR rfl rfl (by (repeat (first | refine ⟨PV.le_refl _, ?_⟩ | refine ⟨PV.le_nn _ _ _, ?_⟩ | refine ⟨PV.le_nil _, ?_⟩ | refine ⟨PV.le_any _, ?_⟩)); exact trivial) rfl (iabove_R rows _ hg hjk)) ?_
| refine p_e rfl (e_lit1G rfl rfl rfl (one_all (fun _ => rfl) _)) ?_
| refine p_e rfl (e_append_grid rfl rfl rfl rfl rfl rfl rfl (by rw [hpl, n_len_c, n_len_n]; omega) (by rw [hpl, n_len_c, n_len_n]; omega)) ?_
| refine p_p (ps_move rfl) ?_
| refine p_p (ps_assign rfl) ?_
| refine p_p (ps_load_cell rfl rfl) ?_
| refine p_p (ps_index rfl rfl rfl (by omega) (by first | exact idx_I (by omega) | exact idx_B (by omega) | exact idx_ints (by omega) | exact idx_bools (by omega) | exact idx_intss (by omega) | rfl) (by exact rfl)) ?_
| refine p_p (ps_lss rfl rfl rfl) ?_
| refine p_p (ps_add rfl rfl rfl (by constructor <;> omega)) ?_
| refine p_p (ps_fieldAddr rfl rfl) ?_
| refine p_p (ps_nilCheck rfl rfl) ?_); refine ⟨_, (by dsimp only [St.put, St.setObj, St.ev, killP, killA, killP1, killH, mapHO, renP, renA, ren1, killG, killGA, killG1, krowP, krowA, krow1, lendP, lendA, lend1, unv, pinP, pin1, elemsM, viewM, viewN, viewV, n_set_z, n_set_s, n_map_c, n_map_n, getD_z, getD_s, n_toNat, n_cond_t, n_cond_f, n_len_c, n_len_n, n_app_c, n_app_n, n_take_s, n_take_z, n_drop_s, n_drop_z, n_get_z, n_get_s, view, viewA, view1, elems, Nat.reduceAdd, Nat.reduceMul, Nat.zero_add, Nat.add_zero, Nat.reduceBEq, Bool.not_true, Bool.not_false, Nat.one_ne_zero, Nat.mul_one, reduceCtorEq]), ?_⟩)
| refine o_nil ?_
| (refine g_condD rfl (fun hc => ?_) (fun hc => ?_) <;> try (exfalso; omega))
| refine g_skip ?_)
    refine k_round (k + 1) (by omega) (by omega) (by repeat (first | exact trivial | refine ⟨.inl rfl, ?_⟩ | refine ⟨.inr rfl, ?_⟩)) ⟨rfl, rfl, trivial⟩ (hpLe_cons ?_ (hpLe_nil _))
    rw [pfA_succ rows hke, gridI, List.map_append]; rfl
  · have hkl : k = (jpL rows).length := by omega
    subst hkl
    have hpl' := pfA_len rows (Nat.le_refl (jpL rows).length)
    have hs := sortRows_L _ V hV hp (by omega) (fun r hr => by
      obtain ⟨x, -, rfl⟩ := List.mem_map.1 hr
      have := upTo_length rows.length fun y => leqB rows x (y : Int)
      unfold upS; omega)
    have hln := hp.length_eq
    repeat' (first
| refine g_seq ?_
| refine g_region ?_
| (refine o_go rfl ?_; (first
| refine p_e rfl (e_callL (n := 0) rfl rfl rfl (by (repeat (first | refine ⟨leS_refl _, ?_⟩ | refine ⟨leS_nn _ _ _, ?_⟩ | refine ⟨leS_nil _, ?_⟩ | refine ⟨leS_any _, ?_⟩)); exact trivial) rfl rfl (by exact ⟨rfl, rfl, by simp; omega⟩) hs) ?_
| refine p_p (ps_move rfl) ?_
| refine p_p (ps_assign rfl) ?_
| refine p_p (ps_lss rfl rfl rfl) ?_); refine ⟨_, (by dsimp only [St.put, St.setObj, St.ev, killP, killA, killP1, killH, mapHO, renP, renA, ren1, killG, killGA, killG1, krowP, krowA, krow1, lendP, lendA, lend1, unv, pinP, pin1, elemsM, viewM, viewN, viewV, n_set_z, n_set_s, n_map_c, n_map_n, getD_z, getD_s, n_toNat, n_cond_t, n_cond_f, n_len_c, n_len_n, n_app_c, n_app_n, n_take_s, n_take_z, n_drop_s, n_drop_z, n_get_z, n_get_s, view, viewA, view1, elems, Nat.reduceAdd, Nat.reduceMul, Nat.zero_add, Nat.add_zero, Nat.reduceBEq, Bool.not_true, Bool.not_false, Nat.one_ne_zero, Nat.mul_one, reduceCtorEq]), ?_⟩)
| refine o_nil ?_
| (refine g_condD rfl (fun hc => ?_) (fun hc => ?_) <;> try (exfalso; omega))
| refine g_exit ?_
| refine g_ret ?_)
    exact krr2 0 rfl rfl (HandOut.grid rfl rfl (sc_maps (fun _ => rfl) _))
set_option maxHeartbeats 1000000 in
set_option maxRecDepth 100000 in
theorem ipfF_R (rows : List (List Int)) (hok : okP rows) (hg : goodL rows = false) : RCalls Tryz.prog 10 [posetP rows] (gridI []) (.tup [.hp 0, B false]) := by
  refine pcallsR2 Tryz.func10 rfl Tryz.ntmps10 rfl ?_
  simp only [List.length_cons, List.length_nil, Nat.reduceAdd, Nat.reduceSub, List.replicate_succ, List.replicate_zero, List.cons_append, List.nil_append]
  repeat' (first
| exact krr2 0 rfl rfl (HandOut.grid rfl rfl rfl)
| refine g_seq ?_
| refine g_region ?_
| (refine o_go rfl ?_; (first
| refine p_p (ps_call rfl rfl (by (repeat (first | refine ⟨PV.le_refl _, ?_⟩ | refine ⟨PV.le_nn _ _ _, ?_⟩ | refine ⟨PV.le_nil _, ?_⟩ | refine ⟨PV.le_any _, ?_⟩)); exact trivial) (lat_no rows hok hg)) ?_
| refine p_e rfl (e_lit0G 3 rfl) ?_
| refine p_p (ps_move rfl) ?_
| refine p_p (ps_assign rfl) ?_
| refine p_p (ps_load_agg rfl rfl (by exact Nat.le_of_ble_eq_true rfl)) ?_
| refine p_p (ps_extract rfl rfl rfl) ?_
| refine p_p (ps_not rfl rfl) ?_
| refine p_p (ps_box rfl rfl) ?_); refine ⟨_, (by dsimp only [St.put, St.setObj, St.ev, killP, killA, killP1, killH, mapHO, renP, renA, ren1, killG, killGA, killG1, krowP, krowA, krow1, lendP, lendA, lend1, unv, pinP, pin1, elemsM, viewM, viewN, viewV, n_set_z, n_set_s, n_map_c, n_map_n, getD_z, getD_s, n_toNat, n_cond_t, n_cond_f, n_len_c, n_len_n, n_app_c, n_app_n, n_take_s, n_take_z, n_drop_s, n_drop_z, n_get_z, n_get_s, view, viewA, view1, elems, Nat.reduceAdd, Nat.reduceMul, Nat.zero_add, Nat.add_zero, Nat.reduceBEq, Bool.not_true, Bool.not_false, Nat.one_ne_zero, Nat.mul_one, reduceCtorEq]), ?_⟩)
| refine o_nil ?_
| refine g_condT rfl ?_
| refine g_ret ?_)
theorem ipfs_R (rows : List (List Int)) (hok : okP rows) : RCalls Tryz.prog 10 [posetP rows] (gridI (pfV rows)) (.tup [.hp 0, B (goodL rows)]) := by
  unfold pfV
  cases hg : goodL rows with
  | false => exact ipfF_R rows hok hg
  | true => exact ipf_R rows _ hok hg (pfO_asc rows) (pfO_perm hg)
end Go.Proofs.YtbfmjknngofleaaGreat
