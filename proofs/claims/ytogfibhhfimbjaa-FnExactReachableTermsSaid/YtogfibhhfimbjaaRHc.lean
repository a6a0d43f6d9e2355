/- Walk: the places that the reference reaches. -/
import Derived.Test.YtogfibhhfimbjaaRHb
import Derived.Test.YtogfibhhfimbjaaRGw
namespace Go.Proofs.Ytogfibhhfimbjaa
open Go Go.Pv Go.Proofs
attribute [local bitvec_to_nat] St.put St.setObj St.ev killP killA killP1 killH mapHO renP renA ren1 killG killGA killG1 krowP krowA krow1 lendP lendA lend1 unv pinP pin1 elemsM viewM viewN viewV n_set_z n_set_s n_map_c n_map_n getD_z getD_s n_toNat n_cond_t n_cond_f n_len_c n_len_n n_app_c n_app_n n_take_s n_take_z n_drop_s n_drop_z n_get_z n_get_s view viewA view1 elems Nat.zero_add Nat.add_zero Bool.not_true Bool.not_false Nat.one_ne_zero Nat.mul_one

abbrev prS (e : Nat × Bool) : PV := .agg [I (bif e.2 then 1 else 0), I (e.1 : Int)]
abbrev lineS (l : List (Nat × Bool)) : HO := .arr false 2 78 (l.map prS)
theorem lineS_app (ln : List (Nat × Bool)) (nw : List Nat) (g : Nat) (o : Bool) : HO.arr false 2 78 ((ln ++ nw.map fun g => (g, o)).map prS ++ [prS (g, o)]) = lineS (ln ++ (nw ++ [g]).map fun g => (g, o)) := by
  simp only [lineS, List.map_append, List.map_cons, List.map_nil, List.append_assoc]
theorem mayL_fo {n : Nat} {T : List (List Int)} {f g : Nat} (hf : f < T.length) (hg : g < T.length) :
    ((mayL n 1 1 (T.map (allB n true)) T T.length).getD f []).getD g false = foR n T false f g ∧ ((mayL n 2 2 (T.map (allB n true)) T T.length).getD f []).getD g false = foR n T true f g := by
  rw [mayL_get hf hg, mayL_get hf hg]
  unfold mayB foR folD nearB
  rw [allL_get hf, allL_get hg, Bool.not_true, Bool.false_or, Bool.false_or, Bool.and_assoc, Bool.and_assoc]
  exact ⟨rfl, rfl⟩
set_option maxHeartbeats 8000000 in
set_option maxRecDepth 100000 in
theorem sreach_c (n : Nat) (ops : List OpD) (T : List (List Int)) (hC : CT n ops T) : PCalls Try.prog 39 [I (n : Int), intss T] (.sl 1 none ((rV T.length (foR n T) (placeT T (prjL n 3 0)).toNat).map fun (x : Nat) => I (x : Int))) := by
  have hn8 : n ≤ 8 := by have := hC.n3; omega
  have hT := hC.len
  have ht : ∀ t ∈ T, t.length = n ^ 3 := fun t h => (hC.row t h).1
  obtain ⟨p0, hp0, -, e0⟩ := placeT_mem (hC.prj 0 (by decide))
  have a1 := sallowed_c n T true hC.n0 hn8 (by omega) ht
  have a2 := smay_c n 1 1 T (T.map (allB n true)) hn8 (by decide) (by decide) (by omega) (List.length_map _) ht
  have a3 := smay_c n 2 2 T (T.map (allB n true)) hn8 (by decide) (by decide) (by omega) (List.length_map _) ht
  have a4 := sprj_c n 3 0 hC.n0 hn8 (by decide) (by decide)
  have a6 := splace_c T (prjL n 3 0) hC.lenOk
  rw [e0] at a6
  have hm0 := mayL_ok n 1 1 (T.map (allB n true)) T T.length
  have hm1 := mayL_ok n 2 2 (T.map (allB n true)) T T.length
  have hfo : ∀ f g, f < T.length → g < T.length → _ := fun f g hf hg => mayL_fo (n := n) (T := T) (f := f) (g := g) hf hg
  generalize mayL n 1 1 (T.map (allB n true)) T T.length = M0 at *
  generalize mayL n 2 2 (T.map (allB n true)) T T.length = M1 at *
  obtain ⟨R, hR⟩ : ∃ R, R = foR n T := ⟨_, rfl⟩
  rw [e0, Int.toNat_natCast]
  rw [← hR] at hfo ⊢
  obtain ⟨N, hN⟩ : ∃ N, N = T.length := ⟨_, rfl⟩
  rw [← hN] at hp0 hT hfo hm0 hm1 ⊢
  refine pcalls1 Try.func39 rfl Try.ntmps39 rfl ?_
  simp only [List.length_cons, List.length_nil, Nat.reduceAdd, Nat.reduceSub, List.replicate_succ, List.replicate_zero, List.cons_append, List.nil_append]
  repeat' (first
| refine g_seq ?_
| refine g_region ?_
| (refine o_go rfl ?_; (first
| refine p_p (ps_call rfl rfl (by (repeat (first | refine ⟨PV.le_refl _, ?_⟩ | refine ⟨PV.le_nn _ _ _, ?_⟩ | refine ⟨PV.le_nil _, ?_⟩ | refine ⟨PV.le_any _, ?_⟩)); exact trivial) (a1)) ?_
| refine p_p (ps_call rfl rfl (by (repeat (first | refine ⟨PV.le_refl _, ?_⟩ | refine ⟨PV.le_nn _ _ _, ?_⟩ | refine ⟨PV.le_nil _, ?_⟩ | refine ⟨PV.le_any _, ?_⟩)); exact trivial) (a2)) ?_
| refine p_p (ps_call rfl rfl (by (repeat (first | refine ⟨PV.le_refl _, ?_⟩ | refine ⟨PV.le_nn _ _ _, ?_⟩ | refine ⟨PV.le_nil _, ?_⟩ | refine ⟨PV.le_any _, ?_⟩)); exact trivial) (a3)) ?_
| refine p_p (ps_move rfl) ?_
| refine p_p (ps_assign rfl) ?_
| refine p_p (ps_lit2 rfl rfl rfl (by rfl) (by rfl) (by rfl)) ?_); refine ⟨_, (by dsimp only [bitvec_to_nat, Nat.reduceAdd, Nat.reduceMul, Nat.reduceBEq, reduceCtorEq, posI, optP, lendM1, lendMA, lendMP, killM1, killMA, killMP, hasI, getO, backM1, backMA, backMP, putL, inpM, pinM1, pinMA, pinMP]), ?_⟩)
| refine o_nil ?_)
  refine g_region_drawX [.gone, .gone] [0, 1] (by kernel_rfl) (by kernel_rfl) (by repeat (first | exact trivial | refine ⟨rfl, ?_⟩)) ?_
  refine ⟨_, (by dsimp only [appC, hpC, bitvec_to_nat, Nat.reduceAdd, Nat.reduceMul, Nat.reduceBEq, reduceCtorEq, posI, optP, lendM1, lendMA, lendMP, killM1, killMA, killMP, hasI, getO, backM1, backMA, backMP, putL, inpM, pinM1, pinMA, pinMP]), (by repeat (first | exact trivial | refine ⟨⟨rfl, rfl⟩, ?_⟩)), ?_⟩
  repeat' (first
| refine x_nil ?_
| (refine x_skip rfl ?_; refine ⟨_, (by dsimp only [appC, hpC, bitvec_to_nat, Nat.reduceAdd, Nat.reduceMul, Nat.reduceBEq, reduceCtorEq, posI, optP, lendM1, lendMA, lendMP, killM1, killMA, killMP, hasI, getO, backM1, backMA, backMP, putL, inpM, pinM1, pinMA, pinMP]), ?_⟩)
| ((first
| refine x_eff rfl (l_make (zp := B false) 0 rfl rfl rfl (by omega) (by omega) (by omega) (by decide) (by rfl) (by rfl)) rfl (by intro h; cases h) (by decide) (by repeat (first | exact trivial | refine ⟨.inl rfl, ?_⟩ | refine ⟨.inr ⟨rfl, rfl⟩, ?_⟩)) ?_
| refine x_eff rfl (l_make (zp := B false) 1 rfl rfl rfl (by omega) (by omega) (by omega) (by decide) (by rfl) (by rfl)) rfl (by intro h; cases h) (by decide) (by repeat (first | exact trivial | refine ⟨.inl rfl, ?_⟩ | refine ⟨.inr ⟨rfl, rfl⟩, ?_⟩)) ?_
| refine x_bar rfl rfl (e_litBox2 rfl rfl rfl rfl rfl (by rfl)) ?_
| refine x_pure rfl (fun _ => ps_move rfl) (by repeat (first | exact trivial | refine ⟨rfl, ?_⟩)) ?_
| refine x_pure rfl (fun _ => ps_lenM rfl rfl rfl) (by repeat (first | exact trivial | refine ⟨rfl, ?_⟩)) ?_); refine ⟨_, (by dsimp only [appC, hpC, bitvec_to_nat, Nat.reduceAdd, Nat.reduceMul, Nat.reduceBEq, reduceCtorEq, posI, optP, lendM1, lendMA, lendMP, killM1, killMA, killMP, hasI, getO, backM1, backMA, backMP, putL, inpM, pinM1, pinMA, pinMP]), ?_⟩))
  rw [show (List.replicate T.length (B false)) = List.replicate N (B false) by rw [hN]]
  repeat' (first
| refine g_seq ?_
| refine g_block ?_
| refine g_region ?_
| (refine o_go rfl ?_; (first
| refine p_p (ps_call rfl rfl (by (repeat (first | refine ⟨PV.le_refl _, ?_⟩ | refine ⟨PV.le_nn _ _ _, ?_⟩ | refine ⟨PV.le_nil _, ?_⟩ | refine ⟨PV.le_any _, ?_⟩)); exact trivial) (a4)) ?_
| refine p_p (ps_call rfl rfl (by (repeat (first | refine ⟨PV.le_refl _, ?_⟩ | refine ⟨PV.le_nn _ _ _, ?_⟩ | refine ⟨PV.le_nil _, ?_⟩ | refine ⟨PV.le_any _, ?_⟩)); exact trivial) (a6)) ?_
| refine p_p (ps_index_box rfl rfl rfl rfl (by decide) (by decide)) ?_
| refine p_p (ps_index_mut rfl rfl rfl rfl (by omega) (by rw [List.length_replicate]; omega)) ?_
| refine p_e (by kernel_rfl) (e_store_arr rfl rfl rfl rfl (by rw [List.length_replicate]; omega) rfl rfl) ?_
| refine p_p (ps_buildArr rfl rfl) ?_
| refine p_e rfl (e_lit1A [I 0, I (p0 : Int)] rfl rfl (by rfl) (by decide) (by decide)) ?_
| refine p_p (ps_move rfl) ?_
| refine p_p (ps_assign rfl) ?_
| refine p_p (ps_load_box rfl rfl rfl rfl) ?_); refine ⟨_, (by dsimp only [bitvec_to_nat, Nat.reduceAdd, Nat.reduceMul, Nat.reduceBEq, reduceCtorEq, posI, optP, lendM1, lendMA, lendMP, killM1, killMA, killMP, hasI, getO, backM1, backMA, backMP, putL, inpM, pinM1, pinMA, pinMP]), ?_⟩)
| refine o_nil ?_)
  refine g_loopF (α := Nat) [46] (fun i => [(9, .hp 3), (10, I (i : Int))]) (fun i => [arB (rN N R p0 i).h0, arB (rN N R p0 i).h1, boxB, lineS (rN N R p0 i).ln]) (fun i => i ≤ (rN N R p0 i).ln.length) (fun i => 2 * N - i) 0 (by simp only [havoc, dsts, List.filterMap_cons, List.filterMap_nil, List.foldl_cons, List.foldl_nil, List.cons_append, List.nil_append, List.append_nil, List.set_cons_succ, List.set_cons_zero]; exact rfl) (Nat.zero_le _) ⟨rfl, rfl, trivial⟩ ?_ ?_
  · simp only [rN, arB, lineS, List.map_set, List.map_replicate, Nat.mul_one]; rfl
  rintro i hi
  dsimp only [setMany, List.set_cons_zero, List.set_cons_succ]
  have hI := rInv (R := R) hp0 i
  have hL := rLen (R := R) (i := i) hp0
  by_cases hlt : i < (rN N R p0 i).ln.length
  · obtain ⟨⟨f, o⟩, he⟩ : ∃ e, (rN N R p0 i).ln[i]? = some e := ⟨_, List.getElem?_eq_getElem hlt⟩
    have hsucc := rSucc he
    have hmono := rNext_ln (N := N) (R := R) (rN N R p0 i) (f, o)
    rw [← hsucc] at hmono
    have hf : f < N := hI.lt _ (List.mem_of_getElem? he)
    have hq : ((rN N R p0 i).ln.map prS)[((i : Nat) : Int).toNat]? = some (prS (f, o)) := by rw [Int.toNat_natCast, List.getElem?_map, he]; rfl
    have l0 := hI.l0
    have l1 := hI.l1
    have j0 : [boolss M0, boolss M1][((0 : Nat) : Int).toNat]? = some (boolss M0) := rfl
    have j1 : [boolss M0, boolss M1][((1 : Nat) : Int).toNat]? = some (boolss M1) := rfl
    have r0 : (M0.map bools)[((f : Nat) : Int).toNat]? = some (bools (M0.getD f [])) := by rw [Int.toNat_natCast]; exact idx_bools (by omega)
    have r1 : (M1.map bools)[((f : Nat) : Int).toNat]? = some (bools (M1.getD f [])) := by rw [Int.toNat_natCast]; exact idx_bools (by omega)
    have q0 : (M0.getD f []).length = N := hm0.2 _ (by rw [List.getD_eq_getElem?_getD, List.getElem?_eq_getElem (show f < M0.length by omega)]; exact List.getElem_mem _)
    have q1 : (M1.getD f []).length = N := hm1.2 _ (by rw [List.getD_eq_getElem?_getD, List.getElem?_eq_getElem (show f < M1.length by omega)]; exact List.getElem_mem _)
    generalize rN N R p0 i = s at *
    obtain ⟨h0, h1', ln⟩ := s
    dsimp only at *
    cases o
    · have hq : (ln.map prS)[((i : Nat) : Int).toNat]? = some (.agg [I 0, I (f : Int)]) := hq
      repeat' (first
| refine g_seq ?_
| refine g_block ?_
| refine g_region ?_
| refine g_region_draw (by kernel_rfl) (by kernel_rfl) ?_
| (refine o_go rfl ?_; (first
| refine p_p (ps_index rfl rfl rfl (by omega) hq (by exact rfl)) ?_
| refine p_p (ps_index_parr rfl rfl rfl (by decide) (by decide)) ?_
| refine p_p (ps_move rfl) ?_
| refine p_p (ps_assign rfl) ?_
| refine p_p (ps_load_cell rfl rfl) ?_
| refine p_p (ps_lenM rfl rfl rfl) ?_
| refine p_p (ps_lss rfl rfl rfl) ?_); refine ⟨_, (by dsimp only [bitvec_to_nat, Nat.reduceAdd, Nat.reduceMul, Nat.reduceBEq, reduceCtorEq, posI, optP, lendM1, lendMA, lendMP, killM1, killMA, killMP, hasI, getO, backM1, backMA, backMP, putL, inpM, pinM1, pinMA, pinMP]), ?_⟩)
| refine o_nil ?_
| (refine g_condD rfl (fun hc => ?_) (fun hc => ?_) <;> try (exfalso; omega))
| refine g_skip ?_)
      all_goals try (exfalso; omega)
      refine g_loopF (α := Nat) [48, 53, 58] (fun g => [(9, .hp 3), (13, I (g : Int))]) (fun g => [arB h0, arB (orE (R false f) h1' g), boxB, lineS (ln ++ (nwE (R false f) h1' g).map fun g => (g, true))]) (fun g => g ≤ N) (fun g => N - g) 0 (by simp only [havoc, dsts, List.filterMap_cons, List.filterMap_nil, List.foldl_cons, List.foldl_nil, List.cons_append, List.nil_append, List.append_nil, List.set_cons_succ, List.set_cons_zero]; exact rfl) (Nat.zero_le _) ⟨rfl, rfl, trivial⟩ (by rw [orE_zero, show nwE (R false f) h1' 0 = [] from rfl, List.map_nil, List.append_nil]) ?_
      rintro g hg
      dsimp only [setMany, List.set_cons_zero, List.set_cons_succ]
      have hol := orE_len (R false f) h1' g
      have hnl := nwE_len (R false f) h1' g
      have hll : ((ln ++ (nwE (R false f) h1' g).map fun g => (g, true)).map prS).length ≤ 200 := by simp; omega
      by_cases hgN : g < N
      · have hix : ((orE (R false f) h1' g).map B)[((g : Nat) : Int).toNat * 1]? = some (B (h1'.getD g false)) := by rw [Int.toNat_natCast, Nat.mul_one, ← orE_cur (p := R false f) (h := h1') (k := g) (by omega)]; exact idx_B (by omega)
        have hmg : ((M0.getD f []).map B)[((g : Nat) : Int).toNat]? = some (B (R false f g)) := by rw [Int.toNat_natCast, ← (hfo f g hf hgN).1]; exact idx_B (by omega)
        cases hp : R false f g
        · rw [hp] at hmg
          have hno : (!h1'.getD g false && R false f g) = false := by rw [hp, Bool.and_false]
          repeat' (first
| refine g_seq ?_
| refine g_block ?_
| refine g_region ?_
| (refine o_go rfl ?_; (first
| refine p_p (ps_index rfl rfl rfl (by decide) j0 (by exact rfl)) ?_
| refine p_p (ps_index rfl rfl rfl (by omega) r0 (by exact rfl)) ?_
| refine p_p (ps_index rfl rfl rfl (by omega) hmg (by exact rfl)) ?_
| refine p_p (ps_move rfl) ?_
| refine p_p (ps_assign rfl) ?_
| refine p_p (ps_load_cell rfl rfl) ?_
| refine p_p (ps_lenM rfl rfl rfl) ?_
| refine p_p (ps_lss rfl rfl rfl) ?_
| refine p_p (ps_add rfl rfl rfl (by constructor <;> omega)) ?_
| refine p_p (ps_pick rfl rfl) ?_); refine ⟨_, (by dsimp only [bitvec_to_nat, Nat.reduceAdd, Nat.reduceMul, Nat.reduceBEq, reduceCtorEq, posI, optP, lendM1, lendMA, lendMP, killM1, killMA, killMP, hasI, getO, backM1, backMA, backMP, putL, inpM, pinM1, pinMA, pinMP]), ?_⟩)
| refine o_nil ?_
| (refine o_s rfl ?_; refine ⟨_, (by dsimp only [bitvec_to_nat, Nat.reduceAdd, Nat.reduceMul, Nat.reduceBEq, reduceCtorEq, posI, optP, lendM1, lendMA, lendMP, killM1, killMA, killMP, hasI, getO, backM1, backMA, backMP, putL, inpM, pinM1, pinMA, pinMP]), ?_⟩)
| refine g_condF rfl ?_
| (refine g_condD rfl (fun hc => ?_) (fun hc => ?_) <;> try (exfalso; omega))
| refine g_skip ?_)
          all_goals try (exfalso; omega)
          exact k_round (g + 1) (by omega) (by omega) (by repeat (first | exact trivial | refine ⟨.inl rfl, ?_⟩ | refine ⟨.inr rfl, ?_⟩)) ⟨rfl, rfl, trivial⟩ (hpLe_cons rfl (hpLe_cons (by rw [orE_no hno]) (hpLe_cons rfl (hpLe_cons (by rw [nwE_no hno]) (hpLe_nil _)))))
        · rw [hp] at hmg
          cases hb : h1'.getD g false
          · rw [hb] at hix
            have hy := orE_yes (p := R false f) (h := h1') (k := g) (by omega) hb hp
            have hy' := nwE_yes (p := R false f) (h := h1') (k := g) hb hp
            repeat' (first
| refine g_seq ?_
| refine g_block ?_
| refine g_region ?_
| (refine o_go rfl ?_; (first
| refine p_p (ps_index rfl rfl rfl (by decide) j0 (by exact rfl)) ?_
| refine p_p (ps_index rfl rfl rfl (by omega) r0 (by exact rfl)) ?_
| refine p_p (ps_index rfl rfl rfl (by omega) hmg (by exact rfl)) ?_
| refine p_p (ps_index_box rfl rfl rfl rfl (by decide) (by decide)) ?_
| refine p_p (ps_index_mut rfl rfl rfl rfl (by omega) (by rw [List.length_map]; omega)) ?_
| refine p_p (ps_load_arr rfl rfl rfl (by exact hix) rfl) ?_
| refine p_e (by kernel_rfl) (e_store_arr rfl rfl rfl rfl (by rw [List.length_map]; omega) rfl rfl) ?_
| refine p_p (ps_buildArr rfl rfl) ?_
| refine p_p (ps_litA [I 1, I (g : Int)] rfl rfl (by rfl) (by decide) (by decide)) ?_
| refine p_e (by kernel_rfl) (e_append rfl rfl rfl rfl rfl rfl (one_ag rfl) rfl (by rw [n_len_c, n_len_n]; omega) (by rw [n_len_c, n_len_n]; omega)) ?_
| refine p_p (ps_move rfl) ?_
| refine p_p (ps_assign rfl) ?_
| refine p_p (ps_load_cell rfl rfl) ?_
| refine p_p (ps_lenM rfl rfl rfl) ?_
| refine p_p (ps_lss rfl rfl rfl) ?_
| refine p_p (ps_add rfl rfl rfl (by constructor <;> omega)) ?_
| refine p_p (ps_not rfl rfl) ?_
| refine p_p (ps_pick rfl rfl) ?_
| refine p_p (ps_sub rfl rfl rfl (by constructor <;> omega)) ?_
| refine p_p (ps_load_box rfl rfl rfl rfl) ?_); refine ⟨_, (by dsimp only [bitvec_to_nat, Nat.reduceAdd, Nat.reduceMul, Nat.reduceBEq, reduceCtorEq, posI, optP, lendM1, lendMA, lendMP, killM1, killMA, killMP, hasI, getO, backM1, backMA, backMP, putL, inpM, pinM1, pinMA, pinMP]), ?_⟩)
| refine o_nil ?_
| refine g_condT rfl ?_
| (refine g_condD rfl (fun hc => ?_) (fun hc => ?_) <;> try (exfalso; omega))
| refine g_skip ?_)
            all_goals try (exfalso; omega)
            exact k_round (g + 1) (by omega) (by omega) (by repeat (first | exact trivial | refine ⟨.inl rfl, ?_⟩ | refine ⟨.inr rfl, ?_⟩)) ⟨rfl, rfl, trivial⟩ (hpLe_cons rfl (hpLe_cons (by rw [← hy]; exact arB_set _ _) (hpLe_cons rfl (hpLe_cons (by rw [hy']; exact lineS_app ln _ g true) (hpLe_nil _)))))
          · rw [hb] at hix
            have hno : (!h1'.getD g false && R false f g) = false := by rw [hb]; rfl
            repeat' (first
| refine g_seq ?_
| refine g_block ?_
| refine g_region ?_
| (refine o_go rfl ?_; (first
| refine p_p (ps_index rfl rfl rfl (by decide) j0 (by exact rfl)) ?_
| refine p_p (ps_index rfl rfl rfl (by omega) r0 (by exact rfl)) ?_
| refine p_p (ps_index rfl rfl rfl (by omega) hmg (by exact rfl)) ?_
| refine p_p (ps_index_box rfl rfl rfl rfl (by decide) (by decide)) ?_
| refine p_p (ps_index_mut rfl rfl rfl rfl (by omega) (by rw [List.length_map]; omega)) ?_
| refine p_p (ps_load_arr rfl rfl rfl (by exact hix) rfl) ?_
| refine p_p (ps_move rfl) ?_
| refine p_p (ps_assign rfl) ?_
| refine p_p (ps_load_cell rfl rfl) ?_
| refine p_p (ps_lenM rfl rfl rfl) ?_
| refine p_p (ps_lss rfl rfl rfl) ?_
| refine p_p (ps_add rfl rfl rfl (by constructor <;> omega)) ?_
| refine p_p (ps_not rfl rfl) ?_
| refine p_p (ps_pick rfl rfl) ?_
| refine p_p (ps_sub rfl rfl rfl (by constructor <;> omega)) ?_
| refine p_p (ps_load_box rfl rfl rfl rfl) ?_); refine ⟨_, (by dsimp only [bitvec_to_nat, Nat.reduceAdd, Nat.reduceMul, Nat.reduceBEq, reduceCtorEq, posI, optP, lendM1, lendMA, lendMP, killM1, killMA, killMP, hasI, getO, backM1, backMA, backMP, putL, inpM, pinM1, pinMA, pinMP]), ?_⟩)
| refine o_nil ?_
| refine g_condF rfl ?_
| (refine g_condD rfl (fun hc => ?_) (fun hc => ?_) <;> try (exfalso; omega))
| refine g_skip ?_)
            all_goals try (exfalso; omega)
            exact k_round (g + 1) (by omega) (by omega) (by repeat (first | exact trivial | refine ⟨.inl rfl, ?_⟩ | refine ⟨.inr rfl, ?_⟩)) ⟨rfl, rfl, trivial⟩ (hpLe_cons rfl (hpLe_cons (by rw [orE_no hno]) (hpLe_cons rfl (hpLe_cons (by rw [nwE_no hno]) (hpLe_nil _)))))
      · obtain rfl : g = N := by omega
        repeat' (first
| refine g_seq ?_
| refine g_region ?_
| (refine o_go rfl ?_; (first
| refine p_p (ps_move rfl) ?_
| refine p_p (ps_assign rfl) ?_
| refine p_p (ps_lenM rfl rfl rfl) ?_
| refine p_p (ps_lss rfl rfl rfl) ?_
| refine p_p (ps_add rfl rfl rfl (by constructor <;> omega)) ?_); refine ⟨_, (by dsimp only [bitvec_to_nat, Nat.reduceAdd, Nat.reduceMul, Nat.reduceBEq, reduceCtorEq, posI, optP, lendM1, lendMA, lendMP, killM1, killMA, killMP, hasI, getO, backM1, backMA, backMP, putL, inpM, pinM1, pinMA, pinMP]), ?_⟩)
| refine o_nil ?_
| (refine g_condD rfl (fun hc => ?_) (fun hc => ?_) <;> try (exfalso; omega))
| refine g_exit ?_)
        all_goals try (exfalso; omega)
        exact k_round (i + 1) (by omega) (by omega) (by repeat (first | exact trivial | refine ⟨.inl rfl, ?_⟩ | refine ⟨.inr rfl, ?_⟩)) ⟨rfl, rfl, trivial⟩ (by rw [hsucc]; exact hpLe_refl _)
    · have hq : (ln.map prS)[((i : Nat) : Int).toNat]? = some (.agg [I 1, I (f : Int)]) := hq
      repeat' (first
| refine g_seq ?_
| refine g_block ?_
| refine g_region ?_
| refine g_region_draw (by kernel_rfl) (by kernel_rfl) ?_
| (refine o_go rfl ?_; (first
| refine p_p (ps_index rfl rfl rfl (by omega) hq (by exact rfl)) ?_
| refine p_p (ps_index_parr rfl rfl rfl (by decide) (by decide)) ?_
| refine p_p (ps_move rfl) ?_
| refine p_p (ps_assign rfl) ?_
| refine p_p (ps_load_cell rfl rfl) ?_
| refine p_p (ps_lenM rfl rfl rfl) ?_
| refine p_p (ps_lss rfl rfl rfl) ?_); refine ⟨_, (by dsimp only [bitvec_to_nat, Nat.reduceAdd, Nat.reduceMul, Nat.reduceBEq, reduceCtorEq, posI, optP, lendM1, lendMA, lendMP, killM1, killMA, killMP, hasI, getO, backM1, backMA, backMP, putL, inpM, pinM1, pinMA, pinMP]), ?_⟩)
| refine o_nil ?_
| (refine g_condD rfl (fun hc => ?_) (fun hc => ?_) <;> try (exfalso; omega))
| refine g_skip ?_)
      all_goals try (exfalso; omega)
      refine g_loopF (α := Nat) [48, 53, 58] (fun g => [(9, .hp 3), (13, I (g : Int))]) (fun g => [arB (orE (R true f) h0 g), arB h1', boxB, lineS (ln ++ (nwE (R true f) h0 g).map fun g => (g, false))]) (fun g => g ≤ N) (fun g => N - g) 0 (by simp only [havoc, dsts, List.filterMap_cons, List.filterMap_nil, List.foldl_cons, List.foldl_nil, List.cons_append, List.nil_append, List.append_nil, List.set_cons_succ, List.set_cons_zero]; exact rfl) (Nat.zero_le _) ⟨rfl, rfl, trivial⟩ (by rw [orE_zero, show nwE (R true f) h0 0 = [] from rfl, List.map_nil, List.append_nil]) ?_
      rintro g hg
      dsimp only [setMany, List.set_cons_zero, List.set_cons_succ]
      have hol := orE_len (R true f) h0 g
      have hnl := nwE_len (R true f) h0 g
      have hll : ((ln ++ (nwE (R true f) h0 g).map fun g => (g, false)).map prS).length ≤ 200 := by simp; omega
      by_cases hgN : g < N
      · have hix : ((orE (R true f) h0 g).map B)[((g : Nat) : Int).toNat * 1]? = some (B (h0.getD g false)) := by rw [Int.toNat_natCast, Nat.mul_one, ← orE_cur (p := R true f) (h := h0) (k := g) (by omega)]; exact idx_B (by omega)
        have hmg : ((M1.getD f []).map B)[((g : Nat) : Int).toNat]? = some (B (R true f g)) := by rw [Int.toNat_natCast, ← (hfo f g hf hgN).2]; exact idx_B (by omega)
        cases hp : R true f g
        · rw [hp] at hmg
          have hno : (!h0.getD g false && R true f g) = false := by rw [hp, Bool.and_false]
          repeat' (first
| refine g_seq ?_
| refine g_block ?_
| refine g_region ?_
| (refine o_go rfl ?_; (first
| refine p_p (ps_index rfl rfl rfl (by decide) j1 (by exact rfl)) ?_
| refine p_p (ps_index rfl rfl rfl (by omega) r1 (by exact rfl)) ?_
| refine p_p (ps_index rfl rfl rfl (by omega) hmg (by exact rfl)) ?_
| refine p_p (ps_move rfl) ?_
| refine p_p (ps_assign rfl) ?_
| refine p_p (ps_load_cell rfl rfl) ?_
| refine p_p (ps_lenM rfl rfl rfl) ?_
| refine p_p (ps_lss rfl rfl rfl) ?_
| refine p_p (ps_add rfl rfl rfl (by constructor <;> omega)) ?_
| refine p_p (ps_pick rfl rfl) ?_); refine ⟨_, (by dsimp only [bitvec_to_nat, Nat.reduceAdd, Nat.reduceMul, Nat.reduceBEq, reduceCtorEq, posI, optP, lendM1, lendMA, lendMP, killM1, killMA, killMP, hasI, getO, backM1, backMA, backMP, putL, inpM, pinM1, pinMA, pinMP]), ?_⟩)
| refine o_nil ?_
| (refine o_s rfl ?_; refine ⟨_, (by dsimp only [bitvec_to_nat, Nat.reduceAdd, Nat.reduceMul, Nat.reduceBEq, reduceCtorEq, posI, optP, lendM1, lendMA, lendMP, killM1, killMA, killMP, hasI, getO, backM1, backMA, backMP, putL, inpM, pinM1, pinMA, pinMP]), ?_⟩)
| refine g_condF rfl ?_
| (refine g_condD rfl (fun hc => ?_) (fun hc => ?_) <;> try (exfalso; omega))
| refine g_skip ?_)
          all_goals try (exfalso; omega)
          exact k_round (g + 1) (by omega) (by omega) (by repeat (first | exact trivial | refine ⟨.inl rfl, ?_⟩ | refine ⟨.inr rfl, ?_⟩)) ⟨rfl, rfl, trivial⟩ (hpLe_cons (by rw [orE_no hno]) (hpLe_cons rfl (hpLe_cons rfl (hpLe_cons (by rw [nwE_no hno]) (hpLe_nil _)))))
        · rw [hp] at hmg
          cases hb : h0.getD g false
          · rw [hb] at hix
            have hy := orE_yes (p := R true f) (h := h0) (k := g) (by omega) hb hp
            have hy' := nwE_yes (p := R true f) (h := h0) (k := g) hb hp
            repeat' (first
| refine g_seq ?_
| refine g_block ?_
| refine g_region ?_
| (refine o_go rfl ?_; (first
| refine p_p (ps_index rfl rfl rfl (by decide) j1 (by exact rfl)) ?_
| refine p_p (ps_index rfl rfl rfl (by omega) r1 (by exact rfl)) ?_
| refine p_p (ps_index rfl rfl rfl (by omega) hmg (by exact rfl)) ?_
| refine p_p (ps_index_box rfl rfl rfl rfl (by decide) (by decide)) ?_
| refine p_p (ps_index_mut rfl rfl rfl rfl (by omega) (by rw [List.length_map]; omega)) ?_
| refine p_p (ps_load_arr rfl rfl rfl (by exact hix) rfl) ?_
| refine p_e (by kernel_rfl) (e_store_arr rfl rfl rfl rfl (by rw [List.length_map]; omega) rfl rfl) ?_
| refine p_p (ps_buildArr rfl rfl) ?_
| refine p_p (ps_litA [I 0, I (g : Int)] rfl rfl (by rfl) (by decide) (by decide)) ?_
| refine p_e (by kernel_rfl) (e_append rfl rfl rfl rfl rfl rfl (one_ag rfl) rfl (by rw [n_len_c, n_len_n]; omega) (by rw [n_len_c, n_len_n]; omega)) ?_
| refine p_p (ps_move rfl) ?_
| refine p_p (ps_assign rfl) ?_
| refine p_p (ps_load_cell rfl rfl) ?_
| refine p_p (ps_lenM rfl rfl rfl) ?_
| refine p_p (ps_lss rfl rfl rfl) ?_
| refine p_p (ps_add rfl rfl rfl (by constructor <;> omega)) ?_
| refine p_p (ps_not rfl rfl) ?_
| refine p_p (ps_pick rfl rfl) ?_
| refine p_p (ps_sub rfl rfl rfl (by constructor <;> omega)) ?_
| refine p_p (ps_load_box rfl rfl rfl rfl) ?_); refine ⟨_, (by dsimp only [bitvec_to_nat, Nat.reduceAdd, Nat.reduceMul, Nat.reduceBEq, reduceCtorEq, posI, optP, lendM1, lendMA, lendMP, killM1, killMA, killMP, hasI, getO, backM1, backMA, backMP, putL, inpM, pinM1, pinMA, pinMP]), ?_⟩)
| refine o_nil ?_
| refine g_condT rfl ?_
| (refine g_condD rfl (fun hc => ?_) (fun hc => ?_) <;> try (exfalso; omega))
| refine g_skip ?_)
            all_goals try (exfalso; omega)
            exact k_round (g + 1) (by omega) (by omega) (by repeat (first | exact trivial | refine ⟨.inl rfl, ?_⟩ | refine ⟨.inr rfl, ?_⟩)) ⟨rfl, rfl, trivial⟩ (hpLe_cons (by rw [← hy]; exact arB_set _ _) (hpLe_cons rfl (hpLe_cons rfl (hpLe_cons (by rw [hy']; exact lineS_app ln _ g false) (hpLe_nil _)))))
          · rw [hb] at hix
            have hno : (!h0.getD g false && R true f g) = false := by rw [hb]; rfl
            repeat' (first
| refine g_seq ?_
| refine g_block ?_
| refine g_region ?_
| (refine o_go rfl ?_; (first
| refine p_p (ps_index rfl rfl rfl (by decide) j1 (by exact rfl)) ?_
| refine p_p (ps_index rfl rfl rfl (by omega) r1 (by exact rfl)) ?_
| refine p_p (ps_index rfl rfl rfl (by omega) hmg (by exact rfl)) ?_
| refine p_p (ps_index_box rfl rfl rfl rfl (by decide) (by decide)) ?_
| refine p_p (ps_index_mut rfl rfl rfl rfl (by omega) (by rw [List.length_map]; omega)) ?_
| refine p_p (ps_load_arr rfl rfl rfl (by exact hix) rfl) ?_
| refine p_p (ps_move rfl) ?_
| refine p_p (ps_assign rfl) ?_
| refine p_p (ps_load_cell rfl rfl) ?_
| refine p_p (ps_lenM rfl rfl rfl) ?_
| refine p_p (ps_lss rfl rfl rfl) ?_
| refine p_p (ps_add rfl rfl rfl (by constructor <;> omega)) ?_
| refine p_p (ps_not rfl rfl) ?_
| refine p_p (ps_pick rfl rfl) ?_
| refine p_p (ps_sub rfl rfl rfl (by constructor <;> omega)) ?_
| refine p_p (ps_load_box rfl rfl rfl rfl) ?_); refine ⟨_, (by dsimp only [bitvec_to_nat, Nat.reduceAdd, Nat.reduceMul, Nat.reduceBEq, reduceCtorEq, posI, optP, lendM1, lendMA, lendMP, killM1, killMA, killMP, hasI, getO, backM1, backMA, backMP, putL, inpM, pinM1, pinMA, pinMP]), ?_⟩)
| refine o_nil ?_
| refine g_condF rfl ?_
| (refine g_condD rfl (fun hc => ?_) (fun hc => ?_) <;> try (exfalso; omega))
| refine g_skip ?_)
            all_goals try (exfalso; omega)
            exact k_round (g + 1) (by omega) (by omega) (by repeat (first | exact trivial | refine ⟨.inl rfl, ?_⟩ | refine ⟨.inr rfl, ?_⟩)) ⟨rfl, rfl, trivial⟩ (hpLe_cons (by rw [orE_no hno]) (hpLe_cons rfl (hpLe_cons rfl (hpLe_cons (by rw [nwE_no hno]) (hpLe_nil _)))))
      · obtain rfl : g = N := by omega
        repeat' (first
| refine g_seq ?_
| refine g_region ?_
| (refine o_go rfl ?_; (first
| refine p_p (ps_move rfl) ?_
| refine p_p (ps_assign rfl) ?_
| refine p_p (ps_lenM rfl rfl rfl) ?_
| refine p_p (ps_lss rfl rfl rfl) ?_
| refine p_p (ps_add rfl rfl rfl (by constructor <;> omega)) ?_); refine ⟨_, (by dsimp only [bitvec_to_nat, Nat.reduceAdd, Nat.reduceMul, Nat.reduceBEq, reduceCtorEq, posI, optP, lendM1, lendMA, lendMP, killM1, killMA, killMP, hasI, getO, backM1, backMA, backMP, putL, inpM, pinM1, pinMA, pinMP]), ?_⟩)
| refine o_nil ?_
| (refine g_condD rfl (fun hc => ?_) (fun hc => ?_) <;> try (exfalso; omega))
| refine g_exit ?_)
        all_goals try (exfalso; omega)
        exact k_round (i + 1) (by omega) (by omega) (by repeat (first | exact trivial | refine ⟨.inl rfl, ?_⟩ | refine ⟨.inr rfl, ?_⟩)) ⟨rfl, rfl, trivial⟩ (by rw [hsucc]; exact hpLe_refl _)
  · have hrV : rV N R p0 = (List.range N).filter fun x => (rN N R p0 i).h0.getD x false || (rN N R p0 i).h1.getD x false := by
      unfold rV; rw [rEnd hp0 hi (by omega)]
    rw [hrV]
    have l0 := hI.l0
    have l1 := hI.l1
    generalize rN N R p0 i = s at *
    obtain ⟨h0, h1', ln⟩ := s
    dsimp only at *
    obtain ⟨q, hqd⟩ : ∃ q : Nat → Bool, q = fun x => h0.getD x false || h1'.getD x false := ⟨_, rfl⟩
    rw [← hqd]
    repeat' (first
| refine g_seq ?_
| refine g_block ?_
| refine g_region ?_
| (refine o_go rfl ?_; (first
| refine p_p (ps_move rfl) ?_
| refine p_p (ps_assign rfl) ?_
| refine p_p (ps_lenM rfl rfl rfl) ?_
| refine p_p (ps_lss rfl rfl rfl) ?_
| refine p_e rfl (e_lit0 rfl (by decide)) ?_); refine ⟨_, (by dsimp only [bitvec_to_nat, Nat.reduceAdd, Nat.reduceMul, Nat.reduceBEq, reduceCtorEq, posI, optP, lendM1, lendMA, lendMP, killM1, killMA, killMP, hasI, getO, backM1, backMA, backMP, putL, inpM, pinM1, pinMA, pinMP]), ?_⟩)
| refine o_nil ?_
| (refine g_condD rfl (fun hc => ?_) (fun hc => ?_) <;> try (exfalso; omega))
| refine g_exit ?_)
    all_goals try (exfalso; omega)
    refine g_loopF (α := Nat) [104] (fun f => [(14, .hp 4), (15, I (f : Int))]) (fun f => [arB h0, arB h1', boxB, lineS ln, .arr false 1 3 (((List.range f).filter q).map fun (x : Nat) => I (x : Int))]) (fun f => f ≤ N) (fun f => N - f) 0 (by simp only [havoc, dsts, List.filterMap_cons, List.filterMap_nil, List.foldl_cons, List.foldl_nil, List.cons_append, List.nil_append, List.append_nil, List.set_cons_succ, List.set_cons_zero]; exact rfl) (Nat.zero_le _) ⟨rfl, rfl, trivial⟩ rfl ?_
    rintro f hf
    dsimp only [setMany, List.set_cons_zero, List.set_cons_succ]
    have hfl := filt_len q f
    have hll : (((List.range f).filter q).map fun (x : Nat) => I (x : Int)).length ≤ 200 := by simp; omega
    by_cases hfN : f < N
    · have i0 : (h0.map B)[((f : Nat) : Int).toNat * 1]? = some (B (h0.getD f false)) := by rw [Int.toNat_natCast, Nat.mul_one]; exact idx_B (by omega)
      have i1 : (h1'.map B)[((f : Nat) : Int).toNat * 1]? = some (B (h1'.getD f false)) := by rw [Int.toNat_natCast, Nat.mul_one]; exact idx_B (by omega)
      have hqf : q f = (h0.getD f false || h1'.getD f false) := by rw [hqd]
      generalize h0.getD f false = b0 at *
      generalize h1'.getD f false = b1 at *
      cases b0
      · cases b1
        · repeat' (first
| refine g_seq ?_
| refine g_block ?_
| refine g_region ?_
| (refine o_go rfl ?_; (first
| refine p_p (ps_index_box rfl rfl rfl rfl (by decide) (by decide)) ?_
| refine p_p (ps_index_mut rfl rfl rfl rfl (by omega) (by rw [List.length_map]; omega)) ?_
| refine p_p (ps_load_arr rfl rfl rfl (by exact i0) rfl) ?_
| refine p_p (ps_load_arr rfl rfl rfl (by exact i1) rfl) ?_
| refine p_p (ps_move rfl) ?_
| refine p_p (ps_assign rfl) ?_
| refine p_p (ps_lenM rfl rfl rfl) ?_
| refine p_p (ps_lss rfl rfl rfl) ?_
| refine p_p (ps_add rfl rfl rfl (by constructor <;> omega)) ?_
| refine p_p (ps_pick rfl rfl) ?_
| refine p_p (ps_load_box rfl rfl rfl rfl) ?_); refine ⟨_, (by dsimp only [bitvec_to_nat, Nat.reduceAdd, Nat.reduceMul, Nat.reduceBEq, reduceCtorEq, posI, optP, lendM1, lendMA, lendMP, killM1, killMA, killMP, hasI, getO, backM1, backMA, backMP, putL, inpM, pinM1, pinMA, pinMP]), ?_⟩)
| refine o_nil ?_
| refine g_condF rfl ?_
| (refine g_condD rfl (fun hc => ?_) (fun hc => ?_) <;> try (exfalso; omega))
| refine g_skip ?_)
          all_goals try (exfalso; omega)
          exact k_round (f + 1) (by omega) (by omega) (by repeat (first | exact trivial | refine ⟨.inl rfl, ?_⟩ | refine ⟨.inr rfl, ?_⟩)) ⟨rfl, rfl, trivial⟩ (hpLe_cons rfl (hpLe_cons rfl (hpLe_cons rfl (hpLe_cons rfl (hpLe_cons (by rw [filt_no hqf]) (hpLe_nil _))))))
        · repeat' (first
| refine g_seq ?_
| refine g_block ?_
| refine g_region ?_
| (refine o_go rfl ?_; (first
| refine p_p (ps_index_box rfl rfl rfl rfl (by decide) (by decide)) ?_
| refine p_p (ps_index_mut rfl rfl rfl rfl (by omega) (by rw [List.length_map]; omega)) ?_
| refine p_p (ps_load_arr rfl rfl rfl (by exact i0) rfl) ?_
| refine p_p (ps_load_arr rfl rfl rfl (by exact i1) rfl) ?_
| refine p_e (by kernel_rfl) (e_append rfl rfl rfl rfl rfl rfl (one_one rfl) rfl (by rw [n_len_c, n_len_n]; omega) (by rw [n_len_c, n_len_n]; omega)) ?_
| refine p_p (ps_move rfl) ?_
| refine p_p (ps_assign rfl) ?_
| refine p_p (ps_lenM rfl rfl rfl) ?_
| refine p_p (ps_lss rfl rfl rfl) ?_
| refine p_p (ps_add rfl rfl rfl (by constructor <;> omega)) ?_
| refine p_p (ps_pick rfl rfl) ?_
| refine p_p (ps_load_box rfl rfl rfl rfl) ?_
| refine p_p (ps_lit1 rfl rfl (by rfl) (by rfl)) ?_); refine ⟨_, (by dsimp only [bitvec_to_nat, Nat.reduceAdd, Nat.reduceMul, Nat.reduceBEq, reduceCtorEq, posI, optP, lendM1, lendMA, lendMP, killM1, killMA, killMP, hasI, getO, backM1, backMA, backMP, putL, inpM, pinM1, pinMA, pinMP]), ?_⟩)
| refine o_nil ?_
| refine g_condT rfl ?_
| (refine g_condD rfl (fun hc => ?_) (fun hc => ?_) <;> try (exfalso; omega))
| refine g_skip ?_)
          all_goals try (exfalso; omega)
          exact k_round (f + 1) (by omega) (by omega) (by repeat (first | exact trivial | refine ⟨.inl rfl, ?_⟩ | refine ⟨.inr rfl, ?_⟩)) ⟨rfl, rfl, trivial⟩ (hpLe_cons rfl (hpLe_cons rfl (hpLe_cons rfl (hpLe_cons rfl (hpLe_cons (by rw [filt_yes hqf, List.map_append]; rfl) (hpLe_nil _))))))
      · repeat' (first
| refine g_seq ?_
| refine g_block ?_
| refine g_region ?_
| (refine o_go rfl ?_; (first
| refine p_p (ps_index_box rfl rfl rfl rfl (by decide) (by decide)) ?_
| refine p_p (ps_index_mut rfl rfl rfl rfl (by omega) (by rw [List.length_map]; omega)) ?_
| refine p_p (ps_load_arr rfl rfl rfl (by exact i0) rfl) ?_
| refine p_e (by kernel_rfl) (e_append rfl rfl rfl rfl rfl rfl (one_one rfl) rfl (by rw [n_len_c, n_len_n]; omega) (by rw [n_len_c, n_len_n]; omega)) ?_
| refine p_p (ps_move rfl) ?_
| refine p_p (ps_assign rfl) ?_
| refine p_p (ps_lenM rfl rfl rfl) ?_
| refine p_p (ps_lss rfl rfl rfl) ?_
| refine p_p (ps_add rfl rfl rfl (by constructor <;> omega)) ?_
| refine p_p (ps_pick rfl rfl) ?_
| refine p_p (ps_load_box rfl rfl rfl rfl) ?_
| refine p_p (ps_lit1 rfl rfl (by rfl) (by rfl)) ?_); refine ⟨_, (by dsimp only [bitvec_to_nat, Nat.reduceAdd, Nat.reduceMul, Nat.reduceBEq, reduceCtorEq, posI, optP, lendM1, lendMA, lendMP, killM1, killMA, killMP, hasI, getO, backM1, backMA, backMP, putL, inpM, pinM1, pinMA, pinMP]), ?_⟩)
| refine o_nil ?_
| (refine o_s rfl ?_; refine ⟨_, (by dsimp only [bitvec_to_nat, Nat.reduceAdd, Nat.reduceMul, Nat.reduceBEq, reduceCtorEq, posI, optP, lendM1, lendMA, lendMP, killM1, killMA, killMP, hasI, getO, backM1, backMA, backMP, putL, inpM, pinM1, pinMA, pinMP]), ?_⟩)
| refine g_condT rfl ?_
| (refine g_condD rfl (fun hc => ?_) (fun hc => ?_) <;> try (exfalso; omega))
| refine g_skip ?_)
        all_goals try (exfalso; omega)
        exact k_round (f + 1) (by omega) (by omega) (by repeat (first | exact trivial | refine ⟨.inl rfl, ?_⟩ | refine ⟨.inr rfl, ?_⟩)) ⟨rfl, rfl, trivial⟩ (hpLe_cons rfl (hpLe_cons rfl (hpLe_cons rfl (hpLe_cons rfl (hpLe_cons (by rw [filt_yes (by rw [hqf]; rfl), List.map_append]; rfl) (hpLe_nil _))))))
    · obtain rfl : f = N := by omega
      repeat' (first
| refine g_seq ?_
| refine g_region ?_
| (refine o_go rfl ?_; (first
| refine p_p (ps_move rfl) ?_
| refine p_p (ps_assign rfl) ?_
| refine p_p (ps_lenM rfl rfl rfl) ?_
| refine p_p (ps_lss rfl rfl rfl) ?_); refine ⟨_, (by dsimp only [bitvec_to_nat, Nat.reduceAdd, Nat.reduceMul, Nat.reduceBEq, reduceCtorEq, posI, optP, lendM1, lendMA, lendMP, killM1, killMA, killMP, hasI, getO, backM1, backMA, backMP, putL, inpM, pinM1, pinMA, pinMP]), ?_⟩)
| refine o_nil ?_
| (refine g_condD rfl (fun hc => ?_) (fun hc => ?_) <;> try (exfalso; omega))
| refine kr1 ?_
| refine krS rfl ?_
| refine g_exit ?_
| refine g_ret ?_)
      all_goals first | rfl | (exfalso; omega)
set_option maxHeartbeats 4000000 in
set_option maxRecDepth 100000 in
theorem srt_c (n : Int) (ops : List OpD) (ho : szOk ops) : PCalls Try.prog 15 [algP n ops] (.tup [.sl 1 none ((rtV n ops).1.map fun (x : Nat) => I (x : Int)), B (rtV n ops).2]) := by
  unfold rtV
  refine pcalls2 Try.func15 rfl Try.ntmps15 rfl ?_
  simp only [List.length_cons, List.length_nil, Nat.reduceAdd, Nat.reduceSub, List.replicate_succ, List.replicate_zero, List.cons_append, List.nil_append]
  cases hV : clT n ops with
  | none =>
    obtain ⟨T, -, h1⟩ := s17_none ho hV
    repeat' (first
| refine g_seq ?_
| refine g_region ?_
| (refine o_go rfl ?_; (first
| refine p_p (ps_call rfl rfl (by (repeat (first | refine ⟨PV.le_refl _, ?_⟩ | refine ⟨PV.le_nn _ _ _, ?_⟩ | refine ⟨PV.le_nil _, ?_⟩ | refine ⟨PV.le_any _, ?_⟩)); exact trivial) (h1)) ?_
| refine p_p (ps_move rfl) ?_
| refine p_p (ps_assign rfl) ?_
| refine p_p (ps_load_agg rfl rfl (by exact Nat.le_of_ble_eq_true rfl)) ?_
| refine p_p (ps_extract rfl rfl rfl) ?_
| refine p_p (ps_not rfl rfl) ?_
| refine p_e rfl (e_lit0 rfl (by decide)) ?_
| refine p_p (ps_box rfl rfl) ?_); refine ⟨_, (by dsimp only [bitvec_to_nat, Nat.reduceAdd, Nat.reduceMul, Nat.reduceBEq, reduceCtorEq, posI, optP, lendM1, lendMA, lendMP, killM1, killMA, killMP, hasI, getO, backM1, backMA, backMP, putL, inpM, pinM1, pinMA, pinMP]), ?_⟩)
| refine o_nil ?_
| refine g_condT rfl ?_
| refine kr2 ?_ ?_
| refine krB rfl ?_
| refine krS rfl ?_
| refine g_ret ?_)
    all_goals rfl
  | some T =>
    have h1 := s17_some ho hV
    obtain ⟨m, rfl, hg, -, hC⟩ := clT_some hV
    dsimp only
    rw [Int.toNat_natCast]
    have h2 := sreach_c m ops T hC
    repeat' (first
| refine g_seq ?_
| refine g_region ?_
| (refine o_go rfl ?_; (first
| refine p_p (ps_call rfl rfl (by (repeat (first | refine ⟨PV.le_refl _, ?_⟩ | refine ⟨PV.le_nn _ _ _, ?_⟩ | refine ⟨PV.le_nil _, ?_⟩ | refine ⟨PV.le_any _, ?_⟩)); exact trivial) (h1)) ?_
| refine p_p (ps_call rfl rfl (by (repeat (first | refine ⟨PV.le_refl _, ?_⟩ | refine ⟨PV.le_nn _ _ _, ?_⟩ | refine ⟨PV.le_nil _, ?_⟩ | refine ⟨PV.le_any _, ?_⟩)); exact trivial) (h2)) ?_
| refine p_p (ps_move rfl) ?_
| refine p_p (ps_assign rfl) ?_
| refine p_p (ps_load_cell rfl rfl) ?_
| refine p_p (ps_load_agg rfl rfl (by exact Nat.le_of_ble_eq_true rfl)) ?_
| refine p_p (ps_fieldAddr rfl rfl) ?_
| refine p_p (ps_extract rfl rfl rfl) ?_
| refine p_p (ps_not rfl rfl) ?_
| refine p_p (ps_box rfl rfl) ?_); refine ⟨_, (by dsimp only [bitvec_to_nat, Nat.reduceAdd, Nat.reduceMul, Nat.reduceBEq, reduceCtorEq, posI, optP, lendM1, lendMA, lendMP, killM1, killMA, killMP, hasI, getO, backM1, backMA, backMP, putL, inpM, pinM1, pinMA, pinMP]), ?_⟩)
| refine o_nil ?_
| refine g_condF rfl ?_
| refine kr2 ?_ ?_
| refine krB rfl ?_
| refine krS rfl ?_
| refine g_skip ?_
| refine g_ret ?_)
    all_goals rfl
end Go.Proofs.Ytogfibhhfimbjaa
