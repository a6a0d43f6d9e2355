/- Walk: the places that the program reaches. -/
import Derived.Test.YtogfibhhfimbjaaRHa
import Derived.Test.YtogfibhhfimbjaaRGl
import Derived.Test.YtogfibhhfimbjaaRNh
namespace Go.Proofs.Ytogfibhhfimbjaa
open Go Go.Pv Go.Proofs
attribute [local bitvec_to_nat] St.put St.setObj St.ev killP killA killP1 killH mapHO renP renA ren1 killG killGA killG1 krowP krowA krow1 lendP lendA lend1 unv pinP pin1 elemsM viewM viewN viewV n_set_z n_set_s n_map_c n_map_n getD_z getD_s n_toNat n_cond_t n_cond_f n_len_c n_len_n n_app_c n_app_n n_take_s n_take_z n_drop_s n_drop_z n_get_z n_get_s view viewA view1 elems Nat.zero_add Nat.add_zero Bool.not_true Bool.not_false Nat.one_ne_zero Nat.mul_one

abbrev foR (n : Nat) (T : List (List Int)) (o : Bool) (f g : Nat) : Bool := folD n T (bif o then 1 else 0) f g
abbrev prI (e : Nat × Bool) : PV := .agg [I (e.1 : Int), I (bif e.2 then 1 else 0)]
abbrev lineI (l : List (Nat × Bool)) : HO := .arr false 2 78 (l.map prI)
abbrev arB (l : List Bool) : HO := .arr true 1 4 (l.map B)
abbrev boxB : HO := .box [.hp 0, .hp 1]
theorem arB_set (l : List Bool) (g : Nat) : HO.arr true 1 4 ((l.map B).set (g * 1) (.val (.bool true))) = arB (l.set g true) := by
  show _ = HO.arr true 1 4 ((l.set g true).map B)
  rw [Nat.mul_one, List.map_set]
theorem lineI_app (ln : List (Nat × Bool)) (nw : List Nat) (g : Nat) (o : Bool) : HO.arr false 2 78 ((ln ++ nw.map fun g => (g, o)).map prI ++ [prI (g, o)]) = lineI (ln ++ (nw ++ [g]).map fun g => (g, o)) := by
  simp only [lineI, List.map_append, List.map_cons, List.map_nil, List.append_assoc]
def rtV (n : Int) (ops : List OpD) : List Nat × Bool :=
  match clT n ops with
  | none => ([], false)
  | some T => (rV T.length (foR n.toNat T) (placeT T (prjL n.toNat 3 0)).toNat, true)
theorem nwE_len (p : Nat → Bool) (h : List Bool) (k : Nat) : (nwE p h k).length ≤ k := by
  unfold nwE
  exact Nat.le_trans (List.length_filter_le ..) (by simp)
theorem filt_yes {p : Nat → Bool} {k : Nat} (h : p k = true) : (List.range (k + 1)).filter p = (List.range k).filter p ++ [k] := by
  rw [List.range_succ, List.filter_append]; simp [h]
theorem filt_no {p : Nat → Bool} {k : Nat} (h : p k = false) : (List.range (k + 1)).filter p = (List.range k).filter p := by
  rw [List.range_succ, List.filter_append]; simp [h]
theorem filt_len (p : Nat → Bool) (k : Nat) : ((List.range k).filter p).length ≤ k := Nat.le_trans (List.length_filter_le ..) (by simp)
set_option maxHeartbeats 8000000 in
set_option maxRecDepth 100000 in
theorem irt_R (n : Int) (ops : List OpD) (ho : szOk ops) : RCalls Try.prog 16 [algP n ops] (.arr true 1 3 ((rtV n ops).1.map fun (x : Nat) => I (x : Int))) (.tup [.hp 0, B (rtV n ops).2]) := by
  unfold rtV
  have h1 := inewO_c n ops ho
  cases hV : clT n ops with
  | none =>
    rw [hV] at h1
    dsimp only [chO, Option.isSome] at h1
    refine pcallsR2 Try.func16 rfl Try.ntmps16 rfl ?_
    simp only [List.length_cons, List.length_nil, Nat.reduceAdd, Nat.reduceSub, List.replicate_succ, List.replicate_zero, List.cons_append, List.nil_append]
    repeat' (first
| refine g_seq ?_
| refine g_region ?_
| (refine o_go rfl ?_; (first
| refine p_p (ps_call rfl rfl (by (repeat (first | refine ⟨PV.le_refl _, ?_⟩ | refine ⟨PV.le_nn _ _ _, ?_⟩ | refine ⟨PV.le_nil _, ?_⟩ | refine ⟨PV.le_any _, ?_⟩)); exact trivial) (h1)) ?_
| refine p_p (ps_move rfl) ?_
| refine p_p (ps_assign rfl) ?_
| refine p_p (ps_load_agg rfl rfl (by exact Nat.le_of_ble_eq_true rfl)) ?_
| refine p_p (ps_extract rfl rfl rfl) ?_
| refine p_p (ps_not rfl rfl) ?_
| refine p_e rfl (e_lit0 rfl (by decide)) ?_
| refine p_p (ps_box rfl rfl) ?_); refine ⟨_, (by dsimp only [bitvec_to_nat, Nat.reduceAdd, Nat.reduceMul, Nat.reduceBEq, reduceCtorEq, posI, optP, lendM1, lendMA, lendMP, killM1, killMA, killMP, hasI, getO, backM1, backMA, backMP, putL, inpM, pinM1, pinMA, pinMP]), ?_⟩)
| refine o_nil ?_
| refine g_condT rfl ?_
| refine krr2 0 rfl rfl (HandOut.arr rfl ?_ (by first | exact sc_map (fun _ => rfl) _ | exact sc_maps (fun _ => rfl) _ | rfl))
| refine g_ret ?_)
    all_goals rfl
  | some T =>
    obtain ⟨m, rfl, hg, -, hC⟩ := clT_some hV
    rw [hV] at h1
    dsimp only [chO, Option.isSome] at h1
    rw [Int.toNat_natCast] at h1
    dsimp only
    rw [Int.toNat_natCast]
    have hn8 : m ≤ 8 := by have := hC.n3; omega
    have hT := hC.len
    obtain ⟨p0, hp0, -, e0⟩ := placeT_mem (hC.prj 0 (by decide))
    have d1 := distL_c m T
    obtain ⟨R, hR⟩ : ∃ R, R = foR m T := ⟨_, rfl⟩
    have d30 : ∀ f g : Nat, f < T.length → g < T.length → PCalls Try.prog 63 [I 0, I (f : Int), I (g : Int), capP m T] (B (R false f g)) := fun f g hf hg => by rw [hR]; exact dist3_c m T 0 f g hn8 (by decide) hf hg
    have d31 : ∀ f g : Nat, f < T.length → g < T.length → PCalls Try.prog 63 [I 1, I (f : Int), I (g : Int), capP m T] (B (R true f g)) := fun f g hf hg => by rw [hR]; exact dist3_c m T 1 f g hn8 (by decide) hf hg
    rw [← hR, e0, Int.toNat_natCast]
    obtain ⟨N, hN⟩ : ∃ N, N = T.length := ⟨_, rfl⟩
    rw [← hN] at hp0 hT d30 d31 ⊢
    refine pcallsR2 Try.func16 rfl Try.ntmps16 rfl ?_
    simp only [List.length_cons, List.length_nil, Nat.reduceAdd, Nat.reduceSub, List.replicate_succ, List.replicate_zero, List.cons_append, List.nil_append]
    repeat' (first
| refine g_seq ?_
| refine g_region ?_
| (refine o_go rfl ?_; (first
| refine p_p (ps_call rfl rfl (by (repeat (first | refine ⟨PV.le_refl _, ?_⟩ | refine ⟨PV.le_nn _ _ _, ?_⟩ | refine ⟨PV.le_nil _, ?_⟩ | refine ⟨PV.le_any _, ?_⟩)); exact trivial) (h1)) ?_
| refine p_p (ps_call rfl rfl (by (repeat (first | refine ⟨PV.le_refl _, ?_⟩ | refine ⟨PV.le_nn _ _ _, ?_⟩ | refine ⟨PV.le_nil _, ?_⟩ | refine ⟨PV.le_any _, ?_⟩)); exact trivial) (d1)) ?_
| refine p_p (ps_move rfl) ?_
| refine p_p (ps_assign rfl) ?_
| refine p_p (ps_load_agg rfl rfl (by exact Nat.le_of_ble_eq_true rfl)) ?_
| refine p_p (ps_extract rfl rfl rfl) ?_
| refine p_p (ps_not rfl rfl) ?_
| refine p_p (ps_field rfl rfl rfl) ?_
| refine p_p (ps_box rfl rfl) ?_); refine ⟨_, (by dsimp only [bitvec_to_nat, Nat.reduceAdd, Nat.reduceMul, Nat.reduceBEq, reduceCtorEq, posI, optP, lendM1, lendMA, lendMP, killM1, killMA, killMP, hasI, getO, backM1, backMA, backMP, putL, inpM, pinM1, pinMA, pinMP]), ?_⟩)
| refine o_nil ?_
| refine g_condF rfl ?_
| refine g_skip ?_)
    refine g_region_drawX [.gone, .gone, .gone] [0, 1, 2] (by kernel_rfl) (by kernel_rfl) (by repeat (first | exact trivial | refine ⟨rfl, ?_⟩)) ?_
    refine ⟨_, (by dsimp only [appC, hpC, bitvec_to_nat, Nat.reduceAdd, Nat.reduceMul, Nat.reduceBEq, reduceCtorEq, posI, optP, lendM1, lendMA, lendMP, killM1, killMA, killMP, hasI, getO, backM1, backMA, backMP, putL, inpM, pinM1, pinMA, pinMP]), (by repeat (first | exact trivial | refine ⟨⟨rfl, rfl⟩, ?_⟩)), ?_⟩
    repeat' (first
| refine x_nil ?_
| (refine x_skip rfl ?_; refine ⟨_, (by dsimp only [appC, hpC, bitvec_to_nat, Nat.reduceAdd, Nat.reduceMul, Nat.reduceBEq, reduceCtorEq, posI, optP, lendM1, lendMA, lendMP, killM1, killMA, killMP, hasI, getO, backM1, backMA, backMP, putL, inpM, pinM1, pinMA, pinMP]), ?_⟩)
| ((first
| refine x_eff rfl (l_make (zp := B false) 0 rfl rfl rfl (by omega) (by omega) (by omega) (by decide) (by rfl) (by rfl)) rfl (by intro h; cases h) (by decide) (by repeat (first | exact trivial | refine ⟨.inl rfl, ?_⟩ | refine ⟨.inr ⟨rfl, rfl⟩, ?_⟩)) ?_
| refine x_eff rfl (l_make (zp := B false) 1 rfl rfl rfl (by omega) (by omega) (by omega) (by decide) (by rfl) (by rfl)) rfl (by intro h; cases h) (by decide) (by repeat (first | exact trivial | refine ⟨.inl rfl, ?_⟩ | refine ⟨.inr ⟨rfl, rfl⟩, ?_⟩)) ?_
| refine x_eff rfl (l_alloc 2 rfl) rfl (by intro h; cases h) (by decide) (by repeat (first | exact trivial | refine ⟨.inl rfl, ?_⟩ | refine ⟨.inr ⟨rfl, rfl⟩, ?_⟩)) ?_
| refine x_pure2 rfl (fun _ => ps_buildArr rfl rfl) (by refine ⟨.inr ⟨.tmp 31, by simp [Op.operands], fun h => ?_⟩, .inr ⟨.tmp 37, by simp [Op.operands], fun h => ?_⟩, .inl rfl, trivial⟩ <;> (have h : PV.any = PV.hp _ := h; cases h)) ?_
| refine x_bar rfl rfl (e_store_boxA rfl rfl rfl rfl (by decide) rfl rfl rfl) ?_
| refine x_pure rfl (fun _ => ps_move rfl) (by repeat (first | exact trivial | refine ⟨rfl, ?_⟩)) ?_
| refine x_pure rfl (fun _ => ps_load_cell rfl rfl) (by repeat (first | exact trivial | refine ⟨rfl, ?_⟩)) ?_
| refine x_pure rfl (fun _ => ps_lenM rfl rfl rfl) (by repeat (first | exact trivial | refine ⟨rfl, ?_⟩)) ?_
| refine x_pure rfl (fun _ => ps_fieldAddr rfl rfl) (by repeat (first | exact trivial | refine ⟨rfl, ?_⟩)) ?_
| refine x_pure rfl (fun _ => ps_nilCheck rfl rfl) (by repeat (first | exact trivial | refine ⟨rfl, ?_⟩)) ?_); refine ⟨_, (by dsimp only [appC, hpC, bitvec_to_nat, Nat.reduceAdd, Nat.reduceMul, Nat.reduceBEq, reduceCtorEq, posI, optP, lendM1, lendMA, lendMP, killM1, killMA, killMP, hasI, getO, backM1, backMA, backMP, putL, inpM, pinM1, pinMA, pinMP]), ?_⟩))
    rw [show (List.replicate T.length (B false)) = List.replicate N (B false) by rw [hN]]
    repeat' (first
| refine g_seq ?_
| refine o_nil ?_)
    refine g_region_drawZ [(0, some []), (1, some []), (2, some []), (3, some []), (4, some []), (5, some []), (6, none), (7, none)] [(7, 999999)] (fun hp => hp[2]? = some (.box [.hp 0, .hp 1])) (by kernel_rfl) rfl (by kernel_rfl) ?_
    repeat' (first
| refine z_nil ?_
| ((first
| refine z_pure rfl rfl (fun hp hH => ps_index_hatarr rfl rfl rfl (by decide) (by decide)) (by repeat (first | exact trivial | refine ⟨rfl, ?_⟩)) (by first | exact fun _ _ => trivial | exact (by intro y hy; simp [Op.operands] at hy; first | (subst hy; repeat (first | exact trivial | refine ⟨rfl, ?_⟩)) | (rcases hy with rfl | rfl <;> repeat (first | exact trivial | refine ⟨rfl, ?_⟩)))) (by decide) (by first | exact trivial | exact rfl | exact ⟨rfl, rfl⟩ | exact ⟨rfl, rfl, rfl⟩ | exact ⟨rfl, .inl ⟨_, rfl, by simp only [List.length_map]; omega⟩⟩ | exact ⟨rfl, .inr ⟨_, rfl, by simp only [List.length_map]; omega⟩⟩) ?_
| refine z_pure rfl rfl (fun hp hH => ps_load_box rfl rfl hH rfl) (by repeat (first | exact trivial | refine ⟨rfl, ?_⟩)) (by first | exact fun _ _ => trivial | exact (by intro y hy; simp [Op.operands] at hy; first | (subst hy; repeat (first | exact trivial | refine ⟨rfl, ?_⟩)) | (rcases hy with rfl | rfl <;> repeat (first | exact trivial | refine ⟨rfl, ?_⟩)))) (by decide) (by first | exact trivial | exact rfl | exact ⟨rfl, rfl⟩ | exact ⟨rfl, rfl, rfl⟩ | exact ⟨rfl, .inl ⟨_, rfl, by simp only [List.length_map]; omega⟩⟩ | exact ⟨rfl, .inr ⟨_, rfl, by simp only [List.length_map]; omega⟩⟩) ?_
| refine z_pure rfl rfl (fun _ _ => ps_move rfl) (by repeat (first | exact trivial | refine ⟨rfl, ?_⟩)) (by first | exact fun _ _ => trivial | exact (by intro y hy; simp [Op.operands] at hy; first | (subst hy; repeat (first | exact trivial | refine ⟨rfl, ?_⟩)) | (rcases hy with rfl | rfl <;> repeat (first | exact trivial | refine ⟨rfl, ?_⟩)))) (by decide) (by first | exact trivial | exact rfl | exact ⟨rfl, rfl⟩ | exact ⟨rfl, rfl, rfl⟩ | exact ⟨rfl, .inl ⟨_, rfl, by simp only [List.length_map]; omega⟩⟩ | exact ⟨rfl, .inr ⟨_, rfl, by simp only [List.length_map]; omega⟩⟩) ?_
| refine z_pure rfl rfl (fun _ _ => ps_load_cell rfl rfl) (by repeat (first | exact trivial | refine ⟨rfl, ?_⟩)) (by first | exact fun _ _ => trivial | exact (by intro y hy; simp [Op.operands] at hy; first | (subst hy; repeat (first | exact trivial | refine ⟨rfl, ?_⟩)) | (rcases hy with rfl | rfl <;> repeat (first | exact trivial | refine ⟨rfl, ?_⟩)))) (by decide) (by first | exact trivial | exact rfl | exact ⟨rfl, rfl⟩ | exact ⟨rfl, rfl, rfl⟩ | exact ⟨rfl, .inl ⟨_, rfl, by simp only [List.length_map]; omega⟩⟩ | exact ⟨rfl, .inr ⟨_, rfl, by simp only [List.length_map]; omega⟩⟩) ?_
| refine z_pure rfl rfl (fun _ _ => ps_fieldAddr rfl rfl) (by repeat (first | exact trivial | refine ⟨rfl, ?_⟩)) (by first | exact fun _ _ => trivial | exact (by intro y hy; simp [Op.operands] at hy; first | (subst hy; repeat (first | exact trivial | refine ⟨rfl, ?_⟩)) | (rcases hy with rfl | rfl <;> repeat (first | exact trivial | refine ⟨rfl, ?_⟩)))) (by decide) (by first | exact trivial | exact rfl | exact ⟨rfl, rfl⟩ | exact ⟨rfl, rfl, rfl⟩ | exact ⟨rfl, .inl ⟨_, rfl, by simp only [List.length_map]; omega⟩⟩ | exact ⟨rfl, .inr ⟨_, rfl, by simp only [List.length_map]; omega⟩⟩) ?_
| refine z_pure rfl rfl (fun _ _ => ps_nilCheck rfl rfl) (by repeat (first | exact trivial | refine ⟨rfl, ?_⟩)) (by first | exact fun _ _ => trivial | exact (by intro y hy; simp [Op.operands] at hy; first | (subst hy; repeat (first | exact trivial | refine ⟨rfl, ?_⟩)) | (rcases hy with rfl | rfl <;> repeat (first | exact trivial | refine ⟨rfl, ?_⟩)))) (by decide) (by first | exact trivial | exact rfl | exact ⟨rfl, rfl⟩ | exact ⟨rfl, rfl, rfl⟩ | exact ⟨rfl, .inl ⟨_, rfl, by simp only [List.length_map]; omega⟩⟩ | exact ⟨rfl, .inr ⟨_, rfl, by simp only [List.length_map]; omega⟩⟩) ?_
| refine z_eff rfl rfl (by first | exact trivial | exact .inl ⟨rfl, rfl⟩ | exact .inr (.inl ⟨rfl, rfl⟩) | exact .inr (.inr (.inl ⟨rfl, rfl⟩)) | exact .inr (.inr (.inr (.inl ⟨rfl, rfl⟩)))) (j_pure (ps_index_mut rfl rfl rfl rfl (by omega) (by rw [List.length_replicate]; omega))) (by first | exact .inr (by decide) | exact .inl (by first | exact trivial | exact rfl | exact ⟨rfl, rfl⟩ | exact ⟨rfl, rfl, rfl⟩ | exact ⟨rfl, .inl ⟨_, rfl, by simp only [List.length_map]; omega⟩⟩ | exact ⟨rfl, .inr ⟨_, rfl, by simp only [List.length_map]; omega⟩⟩)) ?_
| refine z_eff rfl rfl (by first | exact trivial | exact .inl ⟨rfl, rfl⟩ | exact .inr (.inl ⟨rfl, rfl⟩) | exact .inr (.inr (.inl ⟨rfl, rfl⟩)) | exact .inr (.inr (.inr (.inl ⟨rfl, rfl⟩)))) (j_store_arr rfl rfl rfl rfl (by rw [List.length_replicate]; omega) rfl rfl) (by first | exact .inr (by decide) | exact .inl (by first | exact trivial | exact rfl | exact ⟨rfl, rfl⟩ | exact ⟨rfl, rfl, rfl⟩ | exact ⟨rfl, .inl ⟨_, rfl, by simp only [List.length_map]; omega⟩⟩ | exact ⟨rfl, .inr ⟨_, rfl, by simp only [List.length_map]; omega⟩⟩)) ?_); refine ⟨_, (by dsimp only [appJ, killO, bitvec_to_nat, Nat.reduceAdd, Nat.reduceMul, Nat.reduceBEq, reduceCtorEq, posI, optP, lendM1, lendMA, lendMP, killM1, killMA, killMP, hasI, getO, backM1, backMA, backMP, putL, inpM, pinM1, pinMA, pinMP]), ?_⟩))
    repeat' (first
| refine g_seq ?_
| refine g_block ?_
| refine g_region ?_
| (refine o_go rfl ?_; (first
| refine p_p (ps_buildArr rfl rfl) ?_
| refine p_e rfl (e_lit1A [I (placeT T (prjL m 3 0)), I 0] rfl rfl (by rfl) (by decide) (by decide)) ?_
| refine p_p (ps_move rfl) ?_
| refine p_p (ps_assign rfl) ?_
| refine p_p (ps_load_cell rfl rfl) ?_
| refine p_p (ps_fieldAddr rfl rfl) ?_
| refine p_p (ps_nilCheck rfl rfl) ?_); refine ⟨_, (by dsimp only [bitvec_to_nat, Nat.reduceAdd, Nat.reduceMul, Nat.reduceBEq, reduceCtorEq, posI, optP, lendM1, lendMA, lendMP, killM1, killMA, killMP, hasI, getO, backM1, backMA, backMP, putL, inpM, pinM1, pinMA, pinMP]), ?_⟩)
| refine o_nil ?_)
    rw [e0, Int.toNat_natCast]
    refine g_loopF (α := Nat) [51] (fun i => [(8, .hp 3), (9, I (i : Int))]) (fun i => [arB (rN N R p0 i).h0, arB (rN N R p0 i).h1, boxB, lineI (rN N R p0 i).ln]) (fun i => i ≤ (rN N R p0 i).ln.length) (fun i => 2 * N - i) 0 (by simp only [havoc, dsts, List.filterMap_cons, List.filterMap_nil, List.foldl_cons, List.foldl_nil, List.cons_append, List.nil_append, List.append_nil, List.set_cons_succ, List.set_cons_zero]; exact rfl) (Nat.zero_le _) ⟨rfl, rfl, trivial⟩ ?_ ?_
    · simp only [rN, arB, lineI, List.map_set, List.map_replicate, Nat.mul_one]; rfl
    rintro i hi
    dsimp only [setMany, List.set_cons_zero, List.set_cons_succ]
    have hI := rInv (R := R) hp0 i
    have hL := rLen (R := R) (i := i) hp0
    by_cases hlt : i < (rN N R p0 i).ln.length
    · obtain ⟨⟨f, o⟩, he⟩ : ∃ e, (rN N R p0 i).ln[i]? = some e := ⟨_, List.getElem?_eq_getElem hlt⟩
      have hsucc := rSucc he
      have hmono := rNext_ln (N := N) (R := R) (rN N R p0 i) (f, o)
      rw [← hsucc] at hmono
      have hf : f < N := hI.lt _ (List.mem_of_getElem? he)
      have hq : ((rN N R p0 i).ln.map prI)[((i : Nat) : Int).toNat]? = some (prI (f, o)) := by rw [Int.toNat_natCast, List.getElem?_map, he]; rfl
      have l0 := hI.l0
      have l1 := hI.l1
      generalize rN N R p0 i = s at *
      obtain ⟨h0, h1', ln⟩ := s
      dsimp only at *
      cases o
      · have hq : (ln.map prI)[((i : Nat) : Int).toNat]? = some (.agg [I (f : Int), I 0]) := hq
        repeat' (first
| refine g_seq ?_
| refine g_block ?_
| refine g_region ?_
| refine g_region_draw (by kernel_rfl) (by kernel_rfl) ?_
| (refine o_go rfl ?_; (first
| refine p_p (ps_index rfl rfl rfl (by omega) hq (by exact rfl)) ?_
| refine p_p (ps_index_parr rfl rfl rfl (by decide) (by decide)) ?_
| refine p_p (ps_move rfl) ?_
| refine p_p (ps_assign rfl) ?_
| refine p_p (ps_load_cell rfl rfl) ?_
| refine p_p (ps_lenM rfl rfl rfl) ?_
| refine p_p (ps_lss rfl rfl rfl) ?_
| refine p_p (ps_fieldAddr rfl rfl) ?_
| refine p_p (ps_nilCheck rfl rfl) ?_); refine ⟨_, (by dsimp only [bitvec_to_nat, Nat.reduceAdd, Nat.reduceMul, Nat.reduceBEq, reduceCtorEq, posI, optP, lendM1, lendMA, lendMP, killM1, killMA, killMP, hasI, getO, backM1, backMA, backMP, putL, inpM, pinM1, pinMA, pinMP]), ?_⟩)
| refine o_nil ?_
| (refine g_condD rfl (fun hc => ?_) (fun hc => ?_) <;> try (exfalso; omega))
| refine g_skip ?_)
        all_goals try (exfalso; omega)
        rw [show (T.length : Int) = (N : Int) by rw [hN]]
        refine g_loopF (α := Nat) [53, 58, 63] (fun g => [(8, .hp 3), (73, I (g : Int))]) (fun g => [arB h0, arB (orE (R false f) h1' g), boxB, lineI (ln ++ (nwE (R false f) h1' g).map fun g => (g, true))]) (fun g => g ≤ N) (fun g => N - g) 0 (by simp only [havoc, dsts, List.filterMap_cons, List.filterMap_nil, List.foldl_cons, List.foldl_nil, List.cons_append, List.nil_append, List.append_nil, List.set_cons_succ, List.set_cons_zero]; exact rfl) (Nat.zero_le _) ⟨rfl, rfl, trivial⟩ (by rw [orE_zero, show nwE (R false f) h1' 0 = [] from rfl, List.map_nil, List.append_nil]) ?_
        rintro g hg
        dsimp only [setMany, List.set_cons_zero, List.set_cons_succ]
        have hol := orE_len (R false f) h1' g
        have hnl := nwE_len (R false f) h1' g
        have hll : ((ln ++ (nwE (R false f) h1' g).map fun g => (g, true)).map prI).length ≤ 200 := by simp; omega
        by_cases hgN : g < N
        · have hix : ((orE (R false f) h1' g).map B)[((g : Nat) : Int).toNat * 1]? = some (B (h1'.getD g false)) := by rw [Int.toNat_natCast, Nat.mul_one, ← orE_cur (p := R false f) (h := h1') (k := g) (by omega)]; exact idx_B (by omega)
          have hd := d30 f g hf hgN
          cases hb : h1'.getD g false
          · rw [hb] at hix
            cases hp : R false f g
            · rw [hp] at hd
              have hno : (!h1'.getD g false && R false f g) = false := by rw [hb, hp]; rfl
              repeat' (first
| refine g_seq ?_
| refine g_block ?_
| refine g_region ?_
| (refine o_go rfl ?_; (first
| refine p_p (ps_index_hatarr rfl rfl rfl (by decide) (by decide)) ?_
| refine p_p (ps_index_mut rfl rfl rfl rfl (by omega) (by rw [List.length_map]; omega)) ?_
| refine p_p (ps_load_arr rfl rfl rfl (by exact hix) rfl) ?_
| refine p_p (ps_call rfl rfl (by (repeat (first | refine ⟨PV.le_refl _, ?_⟩ | refine ⟨PV.le_nn _ _ _, ?_⟩ | refine ⟨PV.le_nil _, ?_⟩ | refine ⟨PV.le_any _, ?_⟩)); exact trivial) (hd)) ?_
| refine p_p (ps_move rfl) ?_
| refine p_p (ps_assign rfl) ?_
| refine p_p (ps_lss rfl rfl rfl) ?_
| refine p_p (ps_add rfl rfl rfl (by constructor <;> omega)) ?_
| refine p_p (ps_not rfl rfl) ?_
| refine p_p (ps_pick rfl rfl) ?_
| refine p_p (ps_sub rfl rfl rfl (by constructor <;> omega)) ?_
| refine p_p (ps_load_box rfl rfl rfl rfl) ?_); refine ⟨_, (by dsimp only [bitvec_to_nat, Nat.reduceAdd, Nat.reduceMul, Nat.reduceBEq, reduceCtorEq, posI, optP, lendM1, lendMA, lendMP, killM1, killMA, killMP, hasI, getO, backM1, backMA, backMP, putL, inpM, pinM1, pinMA, pinMP]), ?_⟩)
| refine o_nil ?_
| refine g_condF rfl ?_
| (refine g_condD rfl (fun hc => ?_) (fun hc => ?_) <;> try (exfalso; omega))
| refine g_skip ?_)
              all_goals try (exfalso; omega)
              exact k_round (g + 1) (by omega) (by omega) (by repeat (first | exact trivial | refine ⟨.inl rfl, ?_⟩ | refine ⟨.inr rfl, ?_⟩)) ⟨rfl, rfl, trivial⟩ (hpLe_cons rfl (hpLe_cons (by rw [orE_no hno]) (hpLe_cons rfl (hpLe_cons (by rw [nwE_no hno]) (hpLe_nil _)))))
            · rw [hp] at hd
              have hy := orE_yes (p := R false f) (h := h1') (k := g) (by omega) hb hp
              have hy' := nwE_yes (p := R false f) (h := h1') (k := g) hb hp
              repeat' (first
| refine g_seq ?_
| refine g_block ?_
| refine g_region ?_
| (refine o_go rfl ?_; (first
| refine p_p (ps_index_hatarr rfl rfl rfl (by decide) (by decide)) ?_
| refine p_p (ps_index_mut rfl rfl rfl rfl (by omega) (by rw [List.length_map]; omega)) ?_
| refine p_p (ps_load_arr rfl rfl rfl (by exact hix) rfl) ?_
| refine p_p (ps_call rfl rfl (by (repeat (first | refine ⟨PV.le_refl _, ?_⟩ | refine ⟨PV.le_nn _ _ _, ?_⟩ | refine ⟨PV.le_nil _, ?_⟩ | refine ⟨PV.le_any _, ?_⟩)); exact trivial) (hd)) ?_
| refine p_e (by kernel_rfl) (e_store_arr rfl rfl rfl rfl (by rw [List.length_map]; omega) rfl rfl) ?_
| refine p_p (ps_buildArr rfl rfl) ?_
| refine p_p (ps_litA [I (g : Int), I 1] rfl rfl (by rfl) (by decide) (by decide)) ?_
| refine p_e (by kernel_rfl) (e_append rfl rfl rfl rfl rfl rfl (one_ag rfl) rfl (by rw [n_len_c, n_len_n]; omega) (by rw [n_len_c, n_len_n]; omega)) ?_
| refine p_p (ps_move rfl) ?_
| refine p_p (ps_assign rfl) ?_
| refine p_p (ps_lss rfl rfl rfl) ?_
| refine p_p (ps_add rfl rfl rfl (by constructor <;> omega)) ?_
| refine p_p (ps_not rfl rfl) ?_
| refine p_p (ps_pick rfl rfl) ?_
| refine p_p (ps_sub rfl rfl rfl (by constructor <;> omega)) ?_
| refine p_p (ps_load_box rfl rfl rfl rfl) ?_); refine ⟨_, (by dsimp only [bitvec_to_nat, Nat.reduceAdd, Nat.reduceMul, Nat.reduceBEq, reduceCtorEq, posI, optP, lendM1, lendMA, lendMP, killM1, killMA, killMP, hasI, getO, backM1, backMA, backMP, putL, inpM, pinM1, pinMA, pinMP]), ?_⟩)
| refine o_nil ?_
| refine g_condT rfl ?_
| (refine g_condD rfl (fun hc => ?_) (fun hc => ?_) <;> try (exfalso; omega))
| refine g_skip ?_)
              all_goals try (exfalso; omega)
              exact k_round (g + 1) (by omega) (by omega) (by repeat (first | exact trivial | refine ⟨.inl rfl, ?_⟩ | refine ⟨.inr rfl, ?_⟩)) ⟨rfl, rfl, trivial⟩ (hpLe_cons rfl (hpLe_cons (by rw [← hy]; exact arB_set _ _) (hpLe_cons rfl (hpLe_cons (by rw [hy']; exact lineI_app ln _ g true) (hpLe_nil _)))))
          · rw [hb] at hix
            have hno : (!h1'.getD g false && R false f g) = false := by rw [hb]; rfl
            repeat' (first
| refine g_seq ?_
| refine g_block ?_
| refine g_region ?_
| (refine o_go rfl ?_; (first
| refine p_p (ps_index_hatarr rfl rfl rfl (by decide) (by decide)) ?_
| refine p_p (ps_index_mut rfl rfl rfl rfl (by omega) (by rw [List.length_map]; omega)) ?_
| refine p_p (ps_load_arr rfl rfl rfl (by exact hix) rfl) ?_
| refine p_p (ps_move rfl) ?_
| refine p_p (ps_assign rfl) ?_
| refine p_p (ps_lss rfl rfl rfl) ?_
| refine p_p (ps_add rfl rfl rfl (by constructor <;> omega)) ?_
| refine p_p (ps_not rfl rfl) ?_
| refine p_p (ps_pick rfl rfl) ?_
| refine p_p (ps_sub rfl rfl rfl (by constructor <;> omega)) ?_
| refine p_p (ps_load_box rfl rfl rfl rfl) ?_); refine ⟨_, (by dsimp only [bitvec_to_nat, Nat.reduceAdd, Nat.reduceMul, Nat.reduceBEq, reduceCtorEq, posI, optP, lendM1, lendMA, lendMP, killM1, killMA, killMP, hasI, getO, backM1, backMA, backMP, putL, inpM, pinM1, pinMA, pinMP]), ?_⟩)
| refine o_nil ?_
| (refine o_s rfl ?_; refine ⟨_, (by dsimp only [bitvec_to_nat, Nat.reduceAdd, Nat.reduceMul, Nat.reduceBEq, reduceCtorEq, posI, optP, lendM1, lendMA, lendMP, killM1, killMA, killMP, hasI, getO, backM1, backMA, backMP, putL, inpM, pinM1, pinMA, pinMP]), ?_⟩)
| refine g_condF rfl ?_
| (refine g_condD rfl (fun hc => ?_) (fun hc => ?_) <;> try (exfalso; omega))
| refine g_skip ?_)
            all_goals try (exfalso; omega)
            exact k_round (g + 1) (by omega) (by omega) (by repeat (first | exact trivial | refine ⟨.inl rfl, ?_⟩ | refine ⟨.inr rfl, ?_⟩)) ⟨rfl, rfl, trivial⟩ (hpLe_cons rfl (hpLe_cons (by rw [orE_no hno]) (hpLe_cons rfl (hpLe_cons (by rw [nwE_no hno]) (hpLe_nil _)))))
        · obtain rfl : g = N := by omega
          repeat' (first
| refine g_seq ?_
| refine g_region ?_
| (refine o_go rfl ?_; (first
| refine p_p (ps_move rfl) ?_
| refine p_p (ps_assign rfl) ?_
| refine p_p (ps_lss rfl rfl rfl) ?_
| refine p_p (ps_add rfl rfl rfl (by constructor <;> omega)) ?_); refine ⟨_, (by dsimp only [bitvec_to_nat, Nat.reduceAdd, Nat.reduceMul, Nat.reduceBEq, reduceCtorEq, posI, optP, lendM1, lendMA, lendMP, killM1, killMA, killMP, hasI, getO, backM1, backMA, backMP, putL, inpM, pinM1, pinMA, pinMP]), ?_⟩)
| refine o_nil ?_
| (refine g_condD rfl (fun hc => ?_) (fun hc => ?_) <;> try (exfalso; omega))
| refine g_exit ?_)
          all_goals try (exfalso; omega)
          exact k_round (i + 1) (by omega) (by omega) (by repeat (first | exact trivial | refine ⟨.inl rfl, ?_⟩ | refine ⟨.inr rfl, ?_⟩)) ⟨rfl, rfl, trivial⟩ (by rw [hsucc]; exact hpLe_refl _)
      · have hq : (ln.map prI)[((i : Nat) : Int).toNat]? = some (.agg [I (f : Int), I 1]) := hq
        repeat' (first
| refine g_seq ?_
| refine g_block ?_
| refine g_region ?_
| refine g_region_draw (by kernel_rfl) (by kernel_rfl) ?_
| (refine o_go rfl ?_; (first
| refine p_p (ps_index rfl rfl rfl (by omega) hq (by exact rfl)) ?_
| refine p_p (ps_index_parr rfl rfl rfl (by decide) (by decide)) ?_
| refine p_p (ps_move rfl) ?_
| refine p_p (ps_assign rfl) ?_
| refine p_p (ps_load_cell rfl rfl) ?_
| refine p_p (ps_lenM rfl rfl rfl) ?_
| refine p_p (ps_lss rfl rfl rfl) ?_
| refine p_p (ps_fieldAddr rfl rfl) ?_
| refine p_p (ps_nilCheck rfl rfl) ?_); refine ⟨_, (by dsimp only [bitvec_to_nat, Nat.reduceAdd, Nat.reduceMul, Nat.reduceBEq, reduceCtorEq, posI, optP, lendM1, lendMA, lendMP, killM1, killMA, killMP, hasI, getO, backM1, backMA, backMP, putL, inpM, pinM1, pinMA, pinMP]), ?_⟩)
| refine o_nil ?_
| (refine g_condD rfl (fun hc => ?_) (fun hc => ?_) <;> try (exfalso; omega))
| refine g_skip ?_)
        all_goals try (exfalso; omega)
        rw [show (T.length : Int) = (N : Int) by rw [hN]]
        refine g_loopF (α := Nat) [53, 58, 63] (fun g => [(8, .hp 3), (73, I (g : Int))]) (fun g => [arB (orE (R true f) h0 g), arB h1', boxB, lineI (ln ++ (nwE (R true f) h0 g).map fun g => (g, false))]) (fun g => g ≤ N) (fun g => N - g) 0 (by simp only [havoc, dsts, List.filterMap_cons, List.filterMap_nil, List.foldl_cons, List.foldl_nil, List.cons_append, List.nil_append, List.append_nil, List.set_cons_succ, List.set_cons_zero]; exact rfl) (Nat.zero_le _) ⟨rfl, rfl, trivial⟩ (by rw [orE_zero, show nwE (R true f) h0 0 = [] from rfl, List.map_nil, List.append_nil]) ?_
        rintro g hg
        dsimp only [setMany, List.set_cons_zero, List.set_cons_succ]
        have hol := orE_len (R true f) h0 g
        have hnl := nwE_len (R true f) h0 g
        have hll : ((ln ++ (nwE (R true f) h0 g).map fun g => (g, false)).map prI).length ≤ 200 := by simp; omega
        by_cases hgN : g < N
        · have hix : ((orE (R true f) h0 g).map B)[((g : Nat) : Int).toNat * 1]? = some (B (h0.getD g false)) := by rw [Int.toNat_natCast, Nat.mul_one, ← orE_cur (p := R true f) (h := h0) (k := g) (by omega)]; exact idx_B (by omega)
          have hd := d31 f g hf hgN
          cases hb : h0.getD g false
          · rw [hb] at hix
            cases hp : R true f g
            · rw [hp] at hd
              have hno : (!h0.getD g false && R true f g) = false := by rw [hb, hp]; rfl
              repeat' (first
| refine g_seq ?_
| refine g_block ?_
| refine g_region ?_
| (refine o_go rfl ?_; (first
| refine p_p (ps_index_hatarr rfl rfl rfl (by decide) (by decide)) ?_
| refine p_p (ps_index_mut rfl rfl rfl rfl (by omega) (by rw [List.length_map]; omega)) ?_
| refine p_p (ps_load_arr rfl rfl rfl (by exact hix) rfl) ?_
| refine p_p (ps_call rfl rfl (by (repeat (first | refine ⟨PV.le_refl _, ?_⟩ | refine ⟨PV.le_nn _ _ _, ?_⟩ | refine ⟨PV.le_nil _, ?_⟩ | refine ⟨PV.le_any _, ?_⟩)); exact trivial) (hd)) ?_
| refine p_p (ps_move rfl) ?_
| refine p_p (ps_assign rfl) ?_
| refine p_p (ps_lss rfl rfl rfl) ?_
| refine p_p (ps_add rfl rfl rfl (by constructor <;> omega)) ?_
| refine p_p (ps_not rfl rfl) ?_
| refine p_p (ps_pick rfl rfl) ?_
| refine p_p (ps_sub rfl rfl rfl (by constructor <;> omega)) ?_
| refine p_p (ps_load_box rfl rfl rfl rfl) ?_); refine ⟨_, (by dsimp only [bitvec_to_nat, Nat.reduceAdd, Nat.reduceMul, Nat.reduceBEq, reduceCtorEq, posI, optP, lendM1, lendMA, lendMP, killM1, killMA, killMP, hasI, getO, backM1, backMA, backMP, putL, inpM, pinM1, pinMA, pinMP]), ?_⟩)
| refine o_nil ?_
| refine g_condF rfl ?_
| (refine g_condD rfl (fun hc => ?_) (fun hc => ?_) <;> try (exfalso; omega))
| refine g_skip ?_)
              all_goals try (exfalso; omega)
              exact k_round (g + 1) (by omega) (by omega) (by repeat (first | exact trivial | refine ⟨.inl rfl, ?_⟩ | refine ⟨.inr rfl, ?_⟩)) ⟨rfl, rfl, trivial⟩ (hpLe_cons (by rw [orE_no hno]) (hpLe_cons rfl (hpLe_cons rfl (hpLe_cons (by rw [nwE_no hno]) (hpLe_nil _)))))
            · rw [hp] at hd
              have hy := orE_yes (p := R true f) (h := h0) (k := g) (by omega) hb hp
              have hy' := nwE_yes (p := R true f) (h := h0) (k := g) hb hp
              repeat' (first
| refine g_seq ?_
| refine g_block ?_
| refine g_region ?_
| (refine o_go rfl ?_; (first
| refine p_p (ps_index_hatarr rfl rfl rfl (by decide) (by decide)) ?_
| refine p_p (ps_index_mut rfl rfl rfl rfl (by omega) (by rw [List.length_map]; omega)) ?_
| refine p_p (ps_load_arr rfl rfl rfl (by exact hix) rfl) ?_
| refine p_p (ps_call rfl rfl (by (repeat (first | refine ⟨PV.le_refl _, ?_⟩ | refine ⟨PV.le_nn _ _ _, ?_⟩ | refine ⟨PV.le_nil _, ?_⟩ | refine ⟨PV.le_any _, ?_⟩)); exact trivial) (hd)) ?_
| refine p_e (by kernel_rfl) (e_store_arr rfl rfl rfl rfl (by rw [List.length_map]; omega) rfl rfl) ?_
| refine p_p (ps_buildArr rfl rfl) ?_
| refine p_p (ps_litA [I (g : Int), I 0] rfl rfl (by rfl) (by decide) (by decide)) ?_
| refine p_e (by kernel_rfl) (e_append rfl rfl rfl rfl rfl rfl (one_ag rfl) rfl (by rw [n_len_c, n_len_n]; omega) (by rw [n_len_c, n_len_n]; omega)) ?_
| refine p_p (ps_move rfl) ?_
| refine p_p (ps_assign rfl) ?_
| refine p_p (ps_lss rfl rfl rfl) ?_
| refine p_p (ps_add rfl rfl rfl (by constructor <;> omega)) ?_
| refine p_p (ps_not rfl rfl) ?_
| refine p_p (ps_pick rfl rfl) ?_
| refine p_p (ps_sub rfl rfl rfl (by constructor <;> omega)) ?_
| refine p_p (ps_load_box rfl rfl rfl rfl) ?_); refine ⟨_, (by dsimp only [bitvec_to_nat, Nat.reduceAdd, Nat.reduceMul, Nat.reduceBEq, reduceCtorEq, posI, optP, lendM1, lendMA, lendMP, killM1, killMA, killMP, hasI, getO, backM1, backMA, backMP, putL, inpM, pinM1, pinMA, pinMP]), ?_⟩)
| refine o_nil ?_
| refine g_condT rfl ?_
| (refine g_condD rfl (fun hc => ?_) (fun hc => ?_) <;> try (exfalso; omega))
| refine g_skip ?_)
              all_goals try (exfalso; omega)
              exact k_round (g + 1) (by omega) (by omega) (by repeat (first | exact trivial | refine ⟨.inl rfl, ?_⟩ | refine ⟨.inr rfl, ?_⟩)) ⟨rfl, rfl, trivial⟩ (hpLe_cons (by rw [← hy]; exact arB_set _ _) (hpLe_cons rfl (hpLe_cons rfl (hpLe_cons (by rw [hy']; exact lineI_app ln _ g false) (hpLe_nil _)))))
          · rw [hb] at hix
            have hno : (!h0.getD g false && R true f g) = false := by rw [hb]; rfl
            repeat' (first
| refine g_seq ?_
| refine g_block ?_
| refine g_region ?_
| (refine o_go rfl ?_; (first
| refine p_p (ps_index_hatarr rfl rfl rfl (by decide) (by decide)) ?_
| refine p_p (ps_index_mut rfl rfl rfl rfl (by omega) (by rw [List.length_map]; omega)) ?_
| refine p_p (ps_load_arr rfl rfl rfl (by exact hix) rfl) ?_
| refine p_p (ps_move rfl) ?_
| refine p_p (ps_assign rfl) ?_
| refine p_p (ps_lss rfl rfl rfl) ?_
| refine p_p (ps_add rfl rfl rfl (by constructor <;> omega)) ?_
| refine p_p (ps_not rfl rfl) ?_
| refine p_p (ps_pick rfl rfl) ?_
| refine p_p (ps_sub rfl rfl rfl (by constructor <;> omega)) ?_
| refine p_p (ps_load_box rfl rfl rfl rfl) ?_); refine ⟨_, (by dsimp only [bitvec_to_nat, Nat.reduceAdd, Nat.reduceMul, Nat.reduceBEq, reduceCtorEq, posI, optP, lendM1, lendMA, lendMP, killM1, killMA, killMP, hasI, getO, backM1, backMA, backMP, putL, inpM, pinM1, pinMA, pinMP]), ?_⟩)
| refine o_nil ?_
| (refine o_s rfl ?_; refine ⟨_, (by dsimp only [bitvec_to_nat, Nat.reduceAdd, Nat.reduceMul, Nat.reduceBEq, reduceCtorEq, posI, optP, lendM1, lendMA, lendMP, killM1, killMA, killMP, hasI, getO, backM1, backMA, backMP, putL, inpM, pinM1, pinMA, pinMP]), ?_⟩)
| refine g_condF rfl ?_
| (refine g_condD rfl (fun hc => ?_) (fun hc => ?_) <;> try (exfalso; omega))
| refine g_skip ?_)
            all_goals try (exfalso; omega)
            exact k_round (g + 1) (by omega) (by omega) (by repeat (first | exact trivial | refine ⟨.inl rfl, ?_⟩ | refine ⟨.inr rfl, ?_⟩)) ⟨rfl, rfl, trivial⟩ (hpLe_cons (by rw [orE_no hno]) (hpLe_cons rfl (hpLe_cons rfl (hpLe_cons (by rw [nwE_no hno]) (hpLe_nil _)))))
        · obtain rfl : g = N := by omega
          repeat' (first
| refine g_seq ?_
| refine g_region ?_
| (refine o_go rfl ?_; (first
| refine p_p (ps_move rfl) ?_
| refine p_p (ps_assign rfl) ?_
| refine p_p (ps_lss rfl rfl rfl) ?_
| refine p_p (ps_add rfl rfl rfl (by constructor <;> omega)) ?_); refine ⟨_, (by dsimp only [bitvec_to_nat, Nat.reduceAdd, Nat.reduceMul, Nat.reduceBEq, reduceCtorEq, posI, optP, lendM1, lendMA, lendMP, killM1, killMA, killMP, hasI, getO, backM1, backMA, backMP, putL, inpM, pinM1, pinMA, pinMP]), ?_⟩)
| refine o_nil ?_
| (refine g_condD rfl (fun hc => ?_) (fun hc => ?_) <;> try (exfalso; omega))
| refine g_exit ?_)
          all_goals try (exfalso; omega)
          exact k_round (i + 1) (by omega) (by omega) (by repeat (first | exact trivial | refine ⟨.inl rfl, ?_⟩ | refine ⟨.inr rfl, ?_⟩)) ⟨rfl, rfl, trivial⟩ (by rw [hsucc]; exact hpLe_refl _)
    · have hrV : rV N R p0 = (List.range N).filter fun x => (rN N R p0 i).h0.getD x false || (rN N R p0 i).h1.getD x false := by
        unfold rV; rw [rEnd hp0 hi (by omega)]
      rw [hrV]
      have l0 := hI.l0
      have l1 := hI.l1
      generalize rN N R p0 i = s at *
      obtain ⟨h0, h1', ln⟩ := s
      dsimp only at *
      obtain ⟨q, hqd⟩ : ∃ q : Nat → Bool, q = fun x => h0.getD x false || h1'.getD x false := ⟨_, rfl⟩
      rw [← hqd]
      repeat' (first
| refine g_seq ?_
| refine g_block ?_
| refine g_region ?_
| (refine o_go rfl ?_; (first
| refine p_p (ps_move rfl) ?_
| refine p_p (ps_assign rfl) ?_
| refine p_p (ps_load_cell rfl rfl) ?_
| refine p_p (ps_lenM rfl rfl rfl) ?_
| refine p_p (ps_lss rfl rfl rfl) ?_
| refine p_p (ps_fieldAddr rfl rfl) ?_
| refine p_p (ps_nilCheck rfl rfl) ?_
| refine p_e rfl (e_lit0 rfl (by decide)) ?_); refine ⟨_, (by dsimp only [bitvec_to_nat, Nat.reduceAdd, Nat.reduceMul, Nat.reduceBEq, reduceCtorEq, posI, optP, lendM1, lendMA, lendMP, killM1, killMA, killMP, hasI, getO, backM1, backMA, backMP, putL, inpM, pinM1, pinMA, pinMP]), ?_⟩)
| refine o_nil ?_
| (refine g_condD rfl (fun hc => ?_) (fun hc => ?_) <;> try (exfalso; omega))
| refine g_exit ?_)
      all_goals try (exfalso; omega)
      rw [show (T.length : Int) = (N : Int) by rw [hN]]
      refine g_loopF (α := Nat) [105] (fun f => [(13, .hp 4), (111, I (f : Int))]) (fun f => [arB h0, arB h1', boxB, lineI ln, .arr false 1 3 (((List.range f).filter q).map fun (x : Nat) => I (x : Int))]) (fun f => f ≤ N) (fun f => N - f) 0 (by simp only [havoc, dsts, List.filterMap_cons, List.filterMap_nil, List.foldl_cons, List.foldl_nil, List.cons_append, List.nil_append, List.append_nil, List.set_cons_succ, List.set_cons_zero]; exact rfl) (Nat.zero_le _) ⟨rfl, rfl, trivial⟩ rfl ?_
      rintro f hf
      dsimp only [setMany, List.set_cons_zero, List.set_cons_succ]
      have hfl := filt_len q f
      have hll : (((List.range f).filter q).map fun (x : Nat) => I (x : Int)).length ≤ 200 := by simp; omega
      by_cases hfN : f < N
      · have i0 : (h0.map B)[((f : Nat) : Int).toNat * 1]? = some (B (h0.getD f false)) := by rw [Int.toNat_natCast, Nat.mul_one]; exact idx_B (by omega)
        have i1 : (h1'.map B)[((f : Nat) : Int).toNat * 1]? = some (B (h1'.getD f false)) := by rw [Int.toNat_natCast, Nat.mul_one]; exact idx_B (by omega)
        have hqf : q f = (h0.getD f false || h1'.getD f false) := by rw [hqd]
        generalize h0.getD f false = b0 at *
        generalize h1'.getD f false = b1 at *
        cases b0
        · cases b1
          · repeat' (first
| refine g_seq ?_
| refine g_block ?_
| refine g_region ?_
| (refine o_go rfl ?_; (first
| refine p_p (ps_index_hatarr rfl rfl rfl (by decide) (by decide)) ?_
| refine p_p (ps_index_mut rfl rfl rfl rfl (by omega) (by rw [List.length_map]; omega)) ?_
| refine p_p (ps_load_arr rfl rfl rfl (by exact i0) rfl) ?_
| refine p_p (ps_load_arr rfl rfl rfl (by exact i1) rfl) ?_
| refine p_p (ps_move rfl) ?_
| refine p_p (ps_assign rfl) ?_
| refine p_p (ps_lss rfl rfl rfl) ?_
| refine p_p (ps_add rfl rfl rfl (by constructor <;> omega)) ?_
| refine p_p (ps_pick rfl rfl) ?_
| refine p_p (ps_load_box rfl rfl rfl rfl) ?_); refine ⟨_, (by dsimp only [bitvec_to_nat, Nat.reduceAdd, Nat.reduceMul, Nat.reduceBEq, reduceCtorEq, posI, optP, lendM1, lendMA, lendMP, killM1, killMA, killMP, hasI, getO, backM1, backMA, backMP, putL, inpM, pinM1, pinMA, pinMP]), ?_⟩)
| refine o_nil ?_
| refine g_condF rfl ?_
| (refine g_condD rfl (fun hc => ?_) (fun hc => ?_) <;> try (exfalso; omega))
| refine g_skip ?_)
            all_goals try (exfalso; omega)
            exact k_round (f + 1) (by omega) (by omega) (by repeat (first | exact trivial | refine ⟨.inl rfl, ?_⟩ | refine ⟨.inr rfl, ?_⟩)) ⟨rfl, rfl, trivial⟩ (hpLe_cons rfl (hpLe_cons rfl (hpLe_cons rfl (hpLe_cons rfl (hpLe_cons (by rw [filt_no hqf]) (hpLe_nil _))))))
          · repeat' (first
| refine g_seq ?_
| refine g_block ?_
| refine g_region ?_
| (refine o_go rfl ?_; (first
| refine p_p (ps_index_hatarr rfl rfl rfl (by decide) (by decide)) ?_
| refine p_p (ps_index_mut rfl rfl rfl rfl (by omega) (by rw [List.length_map]; omega)) ?_
| refine p_p (ps_load_arr rfl rfl rfl (by exact i0) rfl) ?_
| refine p_p (ps_load_arr rfl rfl rfl (by exact i1) rfl) ?_
| refine p_e (by kernel_rfl) (e_append rfl rfl rfl rfl rfl rfl (one_one rfl) rfl (by rw [n_len_c, n_len_n]; omega) (by rw [n_len_c, n_len_n]; omega)) ?_
| refine p_p (ps_move rfl) ?_
| refine p_p (ps_assign rfl) ?_
| refine p_p (ps_lss rfl rfl rfl) ?_
| refine p_p (ps_add rfl rfl rfl (by constructor <;> omega)) ?_
| refine p_p (ps_pick rfl rfl) ?_
| refine p_p (ps_load_box rfl rfl rfl rfl) ?_
| refine p_p (ps_lit1 rfl rfl (by rfl) (by rfl)) ?_); refine ⟨_, (by dsimp only [bitvec_to_nat, Nat.reduceAdd, Nat.reduceMul, Nat.reduceBEq, reduceCtorEq, posI, optP, lendM1, lendMA, lendMP, killM1, killMA, killMP, hasI, getO, backM1, backMA, backMP, putL, inpM, pinM1, pinMA, pinMP]), ?_⟩)
| refine o_nil ?_
| refine g_condT rfl ?_
| (refine g_condD rfl (fun hc => ?_) (fun hc => ?_) <;> try (exfalso; omega))
| refine g_skip ?_)
            all_goals try (exfalso; omega)
            exact k_round (f + 1) (by omega) (by omega) (by repeat (first | exact trivial | refine ⟨.inl rfl, ?_⟩ | refine ⟨.inr rfl, ?_⟩)) ⟨rfl, rfl, trivial⟩ (hpLe_cons rfl (hpLe_cons rfl (hpLe_cons rfl (hpLe_cons rfl (hpLe_cons (by rw [filt_yes hqf, List.map_append]; rfl) (hpLe_nil _))))))
        · repeat' (first
| refine g_seq ?_
| refine g_block ?_
| refine g_region ?_
| (refine o_go rfl ?_; (first
| refine p_p (ps_index_hatarr rfl rfl rfl (by decide) (by decide)) ?_
| refine p_p (ps_index_mut rfl rfl rfl rfl (by omega) (by rw [List.length_map]; omega)) ?_
| refine p_p (ps_load_arr rfl rfl rfl (by exact i0) rfl) ?_
| refine p_e (by kernel_rfl) (e_append rfl rfl rfl rfl rfl rfl (one_one rfl) rfl (by rw [n_len_c, n_len_n]; omega) (by rw [n_len_c, n_len_n]; omega)) ?_
| refine p_p (ps_move rfl) ?_
| refine p_p (ps_assign rfl) ?_
| refine p_p (ps_lss rfl rfl rfl) ?_
| refine p_p (ps_add rfl rfl rfl (by constructor <;> omega)) ?_
| refine p_p (ps_pick rfl rfl) ?_
| refine p_p (ps_load_box rfl rfl rfl rfl) ?_
| refine p_p (ps_lit1 rfl rfl (by rfl) (by rfl)) ?_); refine ⟨_, (by dsimp only [bitvec_to_nat, Nat.reduceAdd, Nat.reduceMul, Nat.reduceBEq, reduceCtorEq, posI, optP, lendM1, lendMA, lendMP, killM1, killMA, killMP, hasI, getO, backM1, backMA, backMP, putL, inpM, pinM1, pinMA, pinMP]), ?_⟩)
| refine o_nil ?_
| (refine o_s rfl ?_; refine ⟨_, (by dsimp only [bitvec_to_nat, Nat.reduceAdd, Nat.reduceMul, Nat.reduceBEq, reduceCtorEq, posI, optP, lendM1, lendMA, lendMP, killM1, killMA, killMP, hasI, getO, backM1, backMA, backMP, putL, inpM, pinM1, pinMA, pinMP]), ?_⟩)
| refine g_condT rfl ?_
| (refine g_condD rfl (fun hc => ?_) (fun hc => ?_) <;> try (exfalso; omega))
| refine g_skip ?_)
          all_goals try (exfalso; omega)
          exact k_round (f + 1) (by omega) (by omega) (by repeat (first | exact trivial | refine ⟨.inl rfl, ?_⟩ | refine ⟨.inr rfl, ?_⟩)) ⟨rfl, rfl, trivial⟩ (hpLe_cons rfl (hpLe_cons rfl (hpLe_cons rfl (hpLe_cons rfl (hpLe_cons (by rw [filt_yes (by rw [hqf]; rfl), List.map_append]; rfl) (hpLe_nil _))))))
      · obtain rfl : f = N := by omega
        repeat' (first
| refine krr2 4 rfl rfl (HandOut.arr rfl ?_ (by exact sc_map (fun _ => rfl) _))
| refine g_seq ?_
| refine g_region ?_
| (refine o_go rfl ?_; (first
| refine p_p (ps_move rfl) ?_
| refine p_p (ps_assign rfl) ?_
| refine p_p (ps_lss rfl rfl rfl) ?_); refine ⟨_, (by dsimp only [bitvec_to_nat, Nat.reduceAdd, Nat.reduceMul, Nat.reduceBEq, reduceCtorEq, posI, optP, lendM1, lendMA, lendMP, killM1, killMA, killMP, hasI, getO, backM1, backMA, backMP, putL, inpM, pinM1, pinMA, pinMP]), ?_⟩)
| refine o_nil ?_
| (refine g_condD rfl (fun hc => ?_) (fun hc => ?_) <;> try (exfalso; omega))
| refine g_exit ?_
| refine g_ret ?_)
        all_goals first | rfl | (exfalso; omega)
end Go.Proofs.Ytogfibhhfimbjaa
