/- Walks: the reference's poset of points; marks of a poset that is empty. -/
import Derived.Test.YtgecikhfkkkghaaAr
import Derived.Test.YtgecikhfkkkghaaAq
namespace Go.Proofs.Ytgecikhfkkkghaa
open Go Go.Pv Go.Proofs

def scal1 : PV → Bool
  | .val _ | .any => true
  | .agg m => m.all fun q => match q with | .val _ | .any => true | _ => false
  | _ => false
def scal2 : PV → Bool
  | .tup l => l.all scal1
  | _ => false
theorem scal1_VR {g g' : Ghost} {v : Value} {p : PV} (h : VR g v p) (hs : scal1 p = true) : VR g' v p := by
  cases p with
  | val u => cases h; exact .val _
  | any => exact .any v
  | agg l =>
    obtain ⟨vs, rfl, hl, hv⟩ := VR.agg_inv h
    refine .agg vs l hl fun i q hq => ?_
    have hq' := hv i q hq
    simp only [scal1, List.all_eq_true] at hs
    have := hs q (List.mem_of_getElem? hq)
    split at this
    · rw [VR.val_inv hq']; exact .val _
    · exact .any _
    · cases this
  | _ => simp [scal1] at hs
theorem scal2_VR {g g' : Ghost} {v : Value} {p : PV} (h : VR g v p) (hs : scal2 p = true) : VR g' v p := by
  cases p with
  | tup l =>
    obtain ⟨vs, rfl, hl, hv⟩ := VR.tup_inv h
    refine .tup vs l hl fun i q hq => ?_
    simp only [scal2, List.all_eq_true] at hs
    exact scal1_VR (hv i q hq) (hs q (List.mem_of_getElem? hq))
  | _ => simp [scal2] at hs
section
attribute [local semireducible] Go.Pv.PStep Go.Pv.PCalls
variable {P : Program} {o : Oper} {ev : Operand → PV} {hp : List HO}
/-- A call that hands back numbers and structs of such. -/
theorem ps_callM2 {x : Operand} {xs : Array Operand} {tys : Array TypeId} {f : FuncId} [hf : FnT P f] {first caps args : List PV} {q : PV} (ho : o.op = .call { callee := .value x, args := xs, argTypes := tys }) (h1 : ev x = .fn f first caps)
    (h2 : argsLe (first ++ elemsM hp ev xs.toList ++ caps) args) (hq : scal2 q = true) (hc : PCalls P f args q) : PStep P o ev hp q := by
  intro w0 g ρ w a hb hx Q K hK
  have e1 := hx x (by simp [ho, Op.operands, Call.operands])
  rw [h1] at e1
  obtain ⟨fs, cs, ea, l1, l2, v1, v2⟩ := VR.fn_inv e1
  unfold Oper.wp
  rw [run_call ho ea]
  have hx' := snap_ext hb.agree w0.own
  have hargs : VRl (snap g w w0.own) (fs ++ xs.map a.eval ++ cs).toList args := by
    refine VRl.le h2 ?_
    rw [Array.toList_append, Array.toList_append]
    refine ((VRl.of_array l1 fun i q hq => (v1 i q hq).mono hx').append ?_).append (VRl.of_array l2 fun i q hq => (v2 i q hq).mono hx')
    refine ⟨by simp [elemsM], fun i q hq => ?_⟩
    simp only [elemsM, List.getElem?_map, Option.map_eq_some_iff, Array.getElem?_toList] at hq
    obtain ⟨y, hy, rfl⟩ := hq
    have : (xs.map a.eval).toList.getD i undef = a.eval y := by simp [List.getD_eq_getElem?_getD, hy]
    rw [this]
    exact hb.viewM (hx y (by simp only [ho, Op.operands, Call.operands]; exact Array.mem_append.2 (.inr (Array.mem_of_getElem? hy))))
  have := hc _ w _ (snap_agree hb.agree w0.own) hargs
  rw [Array.toArray_toList] at this
  refine this.mono fun e w' h => ?_
  obtain ⟨v, g', rfl, _, _, hbl, _, hv⟩ := h
  exact hK v g w' (GExt.refl g) (hb.step hbl (hb.agree.below hbl) (GExt.refl g) fun _ _ _ => rfl) (.of_VR (scal2_VR hv hq))
end
theorem le_posetN : (PV.agg [nilV]).le (posetP []) := fun g v hv => by
  obtain ⟨vs, rfl, hl, hp⟩ := VR.agg_inv hv
  refine .agg vs _ hl fun i q hq => ?_
  rcases i with _ | i
  · have h0 := hp 0 nilV rfl
    simp at hq; subst hq
    exact PV.le_nil 1 g _ h0
  · simp at hq
theorem krC_nil {S : St} {a : Tmp} (h : viewM S.hp (S.ev (.tmp a)) = .ptr [nilV]) : KRC S a 1 (posetP []) := by
  unfold KRC
  refine ⟨_, h, Nat.le_refl _, le_posetN⟩

set_option maxRecDepth 100000 in
theorem sppF (rows : List (List Int)) (hok : okP rows) (hg : goodL rows = false) : PCalls Try.prog 26 [posetP rows] (.tup [posetP [], B false]) := by
  refine pcallsCT Try.func26 rfl Try.ntmps26 rfl ?_
  simp only [List.length_cons, List.length_nil, Nat.reduceAdd, Nat.reduceSub, List.replicate_succ, List.replicate_zero, List.cons_append, List.nil_append]
  have h1 := goodL_c rows hok
  rw [hg] at h1
  repeat' (first
| refine krC_nil rfl
| refine g_seq ?_
| refine g_region ?_
| (refine o_go rfl ?_; (first
| refine p_p (ps_call rfl rfl (by (repeat (first | refine ⟨PV.le_refl _, ?_⟩ | refine ⟨PV.le_nn _ _ _, ?_⟩ | refine ⟨PV.le_nil _, ?_⟩ | refine ⟨PV.le_any _, ?_⟩)); exact trivial) (h1)) ?_
| refine p_p (ps_assign rfl) ?_
| refine p_p (ps_load_agg rfl rfl (by exact Nat.le_of_ble_eq_true rfl)) ?_
| refine p_p (ps_not rfl rfl) ?_
| refine p_e rfl (e_store_boxA rfl rfl rfl rfl (by exact Nat.le_of_ble_eq_true rfl) rfl rfl rfl) ?_
| refine p_e rfl (e_alloc rfl) ?_
| refine p_p (ps_box rfl rfl) ?_
| refine p_p (ps_build rfl rfl) ?_); refine ⟨_, (by dsimp only [St.put, St.setObj, St.ev, killP, killA, killP1, killH, mapHO, renP, renA, ren1, killG, killGA, killG1, krowP, krowA, krow1, lendP, lendA, lend1, unv, pinP, pin1, elemsM, viewM, viewN, viewV, n_set_z, n_set_s, n_map_c, n_map_n, getD_z, getD_s, n_toNat, n_cond_t, n_cond_f, n_len_c, n_len_n, n_app_c, n_app_n, n_take_s, n_take_z, n_drop_s, n_drop_z, n_get_z, n_get_s, view, viewA, view1, elems, Nat.reduceAdd, Nat.reduceMul, Nat.zero_add, Nat.add_zero, Nat.reduceBEq, Bool.not_true, Bool.not_false, Nat.one_ne_zero, Nat.mul_one, reduceCtorEq]), ?_⟩)
| refine o_nil ?_
| refine g_condT rfl ?_
| refine krct ?_ ?_
| refine krB rfl ?_
| refine g_ret ?_)
  all_goals rfl
set_option maxRecDepth 100000 in
theorem sppT (rows : List (List Int)) (hok : okP rows) (hg : goodL rows = true) : PCalls Try.prog 26 [posetP rows] (.tup [posetP (ptsL rows), B true]) := by
  refine pcallsCT Try.func26 rfl Try.ntmps26 rfl ?_
  simp only [List.length_cons, List.length_nil, Nat.reduceAdd, Nat.reduceSub, List.replicate_succ, List.replicate_zero, List.cons_append, List.nil_append]
  have h1 := goodL_c rows hok
  rw [hg] at h1
  repeat' (first
| refine g_seq ?_
| refine g_region ?_
| (refine o_go rfl ?_; (first
| refine p_p (ps_call rfl rfl (by (repeat (first | refine ⟨PV.le_refl _, ?_⟩ | refine ⟨PV.le_nn _ _ _, ?_⟩ | refine ⟨PV.le_nil _, ?_⟩ | refine ⟨PV.le_any _, ?_⟩)); exact trivial) (h1)) ?_
| refine p_p (ps_call rfl rfl (by (repeat (first | refine ⟨PV.le_refl _, ?_⟩ | refine ⟨PV.le_nn _ _ _, ?_⟩ | refine ⟨PV.le_nil _, ?_⟩ | refine ⟨PV.le_any _, ?_⟩)); exact trivial) (spts_c rows hok)) ?_
| refine p_p (ps_assign rfl) ?_
| refine p_p (ps_load_agg rfl rfl (by exact Nat.le_of_ble_eq_true rfl)) ?_
| refine p_p (ps_not rfl rfl) ?_
| refine p_e rfl (e_store_boxA rfl rfl rfl rfl (by exact Nat.le_of_ble_eq_true rfl) rfl rfl rfl) ?_
| refine p_e rfl (e_alloc rfl) ?_
| refine p_p (ps_box rfl rfl) ?_); refine ⟨_, (by dsimp only [St.put, St.setObj, St.ev, killP, killA, killP1, killH, mapHO, renP, renA, ren1, killG, killGA, killG1, krowP, krowA, krow1, lendP, lendA, lend1, unv, pinP, pin1, elemsM, viewM, viewN, viewV, n_set_z, n_set_s, n_map_c, n_map_n, getD_z, getD_s, n_toNat, n_cond_t, n_cond_f, n_len_c, n_len_n, n_app_c, n_app_n, n_take_s, n_take_z, n_drop_s, n_drop_z, n_get_z, n_get_s, view, viewA, view1, elems, Nat.reduceAdd, Nat.reduceMul, Nat.zero_add, Nat.add_zero, Nat.reduceBEq, Bool.not_true, Bool.not_false, Nat.one_ne_zero, Nat.mul_one, reduceCtorEq]), ?_⟩)
| refine o_nil ?_
| refine g_condF rfl ?_
| refine krct ?_ ?_
| refine krC rfl (by exact Nat.le_of_ble_eq_true rfl) ?_
| refine krB rfl ?_
| refine g_skip ?_
| refine g_ret ?_)
  all_goals rfl
set_option maxRecDepth 100000 in
theorem markPoset_nil (k : Int) : PCalls Try.prog 19 [posetP [], I k] (I k) := by
  have hm : PCalls Try.prog 20 [intss [], I k] (I k) := by
    refine pcalls1 Try.func20 rfl Try.ntmps20 rfl ?_
    simp only [List.length_cons, List.length_nil, Nat.reduceAdd, Nat.reduceSub, List.replicate_succ, List.replicate_zero, List.cons_append, List.nil_append]
    repeat' (first
| refine g_seq ?_
| refine g_block ?_
| refine g_region ?_
| (refine o_go rfl ?_; (first
| refine p_p (ps_assign rfl) ?_); refine ⟨_, (by dsimp only [St.put, St.setObj, St.ev, killP, killA, killP1, killH, mapHO, renP, renA, ren1, killG, killGA, killG1, krowP, krowA, krow1, lendP, lendA, lend1, unv, pinP, pin1, elemsM, viewM, viewN, viewV, n_set_z, n_set_s, n_map_c, n_map_n, getD_z, getD_s, n_toNat, n_cond_t, n_cond_f, n_len_c, n_len_n, n_app_c, n_app_n, n_take_s, n_take_z, n_drop_s, n_drop_z, n_get_z, n_get_s, view, viewA, view1, elems, Nat.reduceAdd, Nat.reduceMul, Nat.zero_add, Nat.add_zero, Nat.reduceBEq, Bool.not_true, Bool.not_false, Nat.one_ne_zero, Nat.mul_one, reduceCtorEq]), ?_⟩)
| refine o_nil ?_)
    refine g_loopT (α := Nat) (fun _ => [(1, I k), (5, I 0)]) (fun _ => []) (fun _ => True) (fun _ => 0) 0 (by simp only [havoc, dsts, List.filterMap_cons, List.filterMap_nil, List.foldl_cons, List.foldl_nil, List.cons_append, List.nil_append, List.append_nil, List.set_cons_succ, List.set_cons_zero]; exact rfl) trivial ⟨rfl, rfl, trivial⟩ rfl ?_
    rintro _ -
    dsimp only [setMany, List.set_cons_zero, List.set_cons_succ]
    repeat' (first
| refine g_seq ?_
| refine g_region ?_
| (refine o_go rfl ?_; (first
| refine p_p (ps_move rfl) ?_
| refine p_p (ps_assign rfl) ?_
| refine p_p (ps_lenM rfl rfl rfl) ?_
| refine p_p (ps_lss rfl rfl rfl) ?_); refine ⟨_, (by dsimp only [St.put, St.setObj, St.ev, killP, killA, killP1, killH, mapHO, renP, renA, ren1, killG, killGA, killG1, krowP, krowA, krow1, lendP, lendA, lend1, unv, pinP, pin1, elemsM, viewM, viewN, viewV, n_set_z, n_set_s, n_map_c, n_map_n, getD_z, getD_s, n_toNat, n_cond_t, n_cond_f, n_len_c, n_len_n, n_app_c, n_app_n, n_take_s, n_take_z, n_drop_s, n_drop_z, n_get_z, n_get_s, view, viewA, view1, elems, Nat.reduceAdd, Nat.reduceMul, Nat.zero_add, Nat.add_zero, Nat.reduceBEq, Bool.not_true, Bool.not_false, Nat.one_ne_zero, Nat.mul_one, reduceCtorEq]), ?_⟩)
| refine o_nil ?_
| refine g_condF rfl ?_
| refine kr1 ?_
| refine krI rfl ?_
| refine g_exit ?_
| refine g_ret ?_)
    all_goals rfl
  refine pcalls1 Try.func19 rfl Try.ntmps19 rfl ?_
  simp only [List.length_cons, List.length_nil, Nat.reduceAdd, Nat.reduceSub, List.replicate_succ, List.replicate_zero, List.cons_append, List.nil_append]
  repeat' (first
| refine g_seq ?_
| refine g_region ?_
| (refine o_go rfl ?_; (first
| refine p_p (ps_call rfl rfl (by (repeat (first | refine ⟨PV.le_refl _, ?_⟩ | refine ⟨PV.le_nn _ _ _, ?_⟩ | refine ⟨PV.le_nil _, ?_⟩ | refine ⟨PV.le_any _, ?_⟩)); exact trivial) (hm)) ?_
| refine p_p (ps_move rfl) ?_
| refine p_p (ps_assign rfl) ?_
| refine p_p (ps_load_cell rfl rfl) ?_
| refine p_p (ps_fieldAddr rfl rfl) ?_
| refine p_p (ps_box rfl rfl) ?_); refine ⟨_, (by dsimp only [St.put, St.setObj, St.ev, killP, killA, killP1, killH, mapHO, renP, renA, ren1, killG, killGA, killG1, krowP, krowA, krow1, lendP, lendA, lend1, unv, pinP, pin1, elemsM, viewM, viewN, viewV, n_set_z, n_set_s, n_map_c, n_map_n, getD_z, getD_s, n_toNat, n_cond_t, n_cond_f, n_len_c, n_len_n, n_app_c, n_app_n, n_take_s, n_take_z, n_drop_s, n_drop_z, n_get_z, n_get_s, view, viewA, view1, elems, Nat.reduceAdd, Nat.reduceMul, Nat.zero_add, Nat.add_zero, Nat.reduceBEq, Bool.not_true, Bool.not_false, Nat.one_ne_zero, Nat.mul_one, reduceCtorEq]), ?_⟩)
| refine o_nil ?_
| refine kr1 ?_
| refine krI rfl ?_
| refine g_ret ?_)
  rfl
theorem pts_tot {rows : List (List Int)} (hg : goodL rows = true) : tot (ptsL rows) ≤ 1048576 := by
  have h3 := irrL_len rows
  have h4 := good_10L hg
  refine tot_10 (by rw [length_pts]; omega) fun r hr => ?_
  obtain ⟨i, -, rfl⟩ := List.mem_map.1 hr
  have := upTo_length (irrL rows).length fun k => leqB rows (own rows k) (own rows i)
  unfold ptL; omega
end Go.Proofs.Ytgecikhfkkkghaa
