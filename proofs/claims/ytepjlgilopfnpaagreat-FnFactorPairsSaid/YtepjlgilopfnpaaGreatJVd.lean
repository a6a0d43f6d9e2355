/- Walks: quotients by a congruence, the reference's side. -/
import Derived.Test.YtepjlgilopfnpaaGreatJVc
namespace Go.Proofs.YtepjlgilopfnpaaGreat
open Go Go.Pv Go.Proofs
set_option maxHeartbeats 32000000
set_option maxRecDepth 100000
attribute [local bitvec_to_nat] posI optP lendM1 lendMA lendMP killM1 killMA killMP hasI getO backM1 backMA backMP putL inpM pinM1 pinMA pinMP killR1 killRA killR

theorem squo_c (n : Nat) (ops : List OpD) (p : List Int) (hn0 : 0 < n) (hn : n ≤ 8) (hl : ops.length ≤ 1048576) (ho : opsIn n ops) (hp : Pt n p) : PCalls Tryz.prog 78 [algP n ops, ints p] (algP ((lstN p n).length : Int) (quoL n p ops)) := by
 have hK0 := lst_pos hp hn0
 have hKn := lstN_le p n
 have h1 := sleast6_c n p (by omega) hp
 have h2 := snat_c n p (by omega) hp
 have hLs := lsI_len p n
 refine pcallsC Tryz.func78 rfl Tryz.ntmps78 rfl ?_
 refine wF ?_
 obtain ⟨K, hK⟩ : ∃ K, K = (lstN p n).length := ⟨_, rfl⟩
 rw [← hK] at hK0 hKn hLs ⊢
 repeat' (first
| refine wO ?_
| (refine o_go rfl ?_; (first
| refine p_p (zG rfl rfl aD (h1)) ?_
| refine p_p (zG rfl rfl aD (h2)) ?_
| refine wS ?_
| refine p_e rfl (zO rfl rfl rfl rfl aK rfl rfl rfl) ?_
| refine p_e rfl (e_alloc rfl) ?_
| refine p_p (ps_box rfl rfl) ?_
| refine p_p (ps_build rfl rfl) ?_); refine ⟨_, aB, ?_⟩))
 rw [hLs]
 refine g_loopT (α := Nat) (fun i => [(8, I (i : Int))]) (fun i => aQown K n p ops i) (fun i => i ≤ ops.length) (fun i => ops.length - i) 0 aH (Nat.zero_le _) ⟨rfl, trivial⟩ rfl ?_
 rintro i hi
 refine wH ?_
 have hll : ((rowsO (quoL n p (ops.take i))).map fun r => r.map I).length = i := by rw [rowsO_len]; simp [quoL]; omega
 by_cases hil : i < ops.length
 · cases i with
   | zero =>
    dsimp only [aQown]
    have hq := opsK_at (show 0 < ops.length by omega)
    have hf := opsK_mem (show 0 < ops.length by omega)
    have hsn := quo_take n p (show 0 < ops.length by omega)
    have hfA := ho _ hf
    have hst := fun j => quo_step hn0 hp ho hf j
    have v1 := fun args => sval_c n ops 0 args (by omega) hl (show 0 < ops.length by omega)
    have hFe : quoF n p (ops.getD 0 default) = ⟨(ops.getD 0 default).ar, quoT n p (ops.getD 0 default) ((lstN p n).length ^ (ops.getD 0 default).ar.toNat)⟩ := rfl
    generalize quoF n p (ops.getD 0 default) = F at *
    generalize ops.getD 0 default = f at *
    obtain ⟨a, ha⟩ : ∃ a : Nat, f.ar = a := ⟨f.ar.toNat, by omega⟩
    have haa : f.ar.toNat = a := by omega
    rw [haa] at hFe hst
    have hpw := pow_c K a (by omega) (by omega)
    have hpl := pow_le3 (show K ≤ 1000 by omega) (show a ≤ 3 by omega)
    have hpos : 0 < K ^ a := Nat.pow_pos hK0
    have hTl := fun j => quoT_len n p f j
    have hTs := fun j => quoT_succ n p f j
    rw [← hK] at hFe hst
    obtain ⟨N, hN⟩ : ∃ N, N = K ^ a := ⟨_, rfl⟩
    rw [← hN] at hpw hpl hpos hFe
    rw [← ha] at hpw
    rw [← hLs] at hpw
    repeat' (first
| refine wO ?_
| (refine o_go rfl ?_; (first
| refine p_p (zN rfl rfl rfl zz hq ze) ?_
| refine wS ?_
| refine p_e rfl (zO rfl rfl rfl rfl aK rfl rfl rfl) ?_
| refine p_e rfl (e_alloc rfl) ?_
| refine p_p (ps_build rfl rfl) ?_); refine ⟨_, aB, ?_⟩)
| (refine zK rfl ?_ ?_ <;> intro hc <;> try omega)
| refine wE ?_)
    all_goals try (exfalso; omega)
    refine g_loopT (α := Nat) (fun j => [(10, I (j : Int))]) (fun j => tQs [HO.box [I 0, nilV], HO.box [I (K : Int), nilV]] 4 f.ar (quoT n p f) j) (fun j => j ≤ N) (fun j => N - j) 0 aH (Nat.zero_le _) ⟨rfl, trivial⟩ rfl ?_
    rintro j hj
    refine wH ?_
    have hlT : ((quoT n p f j).map I).length = j := by rw [List.length_map, hTl]
    by_cases hjl : j < N
    · obtain ⟨X, v, hX, hv, e1, e2, e3⟩ := hst j
      have hal := argsL_len K a j
      have hain := argsL_in hK0 a j
      have c1 := sargs_R K a j hK0 (by omega) (by omega) (by omega)
      rw [← ha] at c1
      have c1 : RCalls Tryz.prog 131 [I ((lsI p n).length : Int), I f.ar, I (j : Int)] (.arr true 1 3 ((argsL K a j).map I)) (.hp 0) := by rw [hLs]; exact c1
      have c4 := v1 ((argsL K a j).map fun x => (lsI p n).getD x.toNat 0) (by rw [List.length_map]; omega) (fun y hy => by
       obtain ⟨x, hx, rfl⟩ := List.mem_map.1 hy
       exact least_in hp (hain x hx).1 (by rw [← hK]; exact (hain x hx).2)) (by rw [List.length_map, hal, hfA.2.2.1, haa])
      rw [e1, Int.toNat_natCast, e2] at c4
      have i6 := row_atY (p := natL n p) (x := v) (by rw [nat_len]; exact hv)
      rw [nat_getD hv, e3] at i6
      have hsT := hTs j
      generalize hLe : ((argsL K a j).map fun x => (lsI p n).getD x.toNat 0) = L at *
      generalize argsL K a j = L0 at *
      generalize quoC n p f j = q at *
      cases j with
      | zero =>
       dsimp only [tQs, List.cons_append, List.nil_append]
       repeat' (first
| refine wO ?_
| (refine o_go rfl ?_; (first
| refine p_p (zG rfl rfl aD (hpw)) ?_
| refine p_e rfl (e_callR rfl rfl aD rfl c1) ?_
| refine wS ?_); refine ⟨_, aB, ?_⟩)
| (refine zK rfl ?_ ?_ <;> intro hc <;> try omega)
| refine wE ?_)
       all_goals try (exfalso; omega)
       refine g_loopF (α := Nat) [48] (fun t => [(11, .hp 3), (12, I (t : Int))]) (fun t => [HO.box [I 0, nilV], HO.box [I (K : Int), nilV], HO.box [I f.ar, nilV], HO.arr true 1 3 (((L0.take t).map (fun x => (lsI p n).getD x.toNat 0) ++ L0.drop t).map I)]) (fun t => t ≤ a) (fun t => a - t) 0 aH (Nat.zero_le _) ⟨rfl, rfl, trivial⟩ rfl ?_
       rintro t hta
       refine wH ?_
       have hml := mid_len (p := L0) (g := fun x => (lsI p n).getD x.toNat 0) (i := t) (by omega)
       by_cases htl : t < a
       · have m1 := mid_at (p := L0) (g := fun x => (lsI p n).getD x.toNat 0) (i := t) (by omega)
         have m2 := mid_set (p := L0) (g := fun x => (lsI p n).getD x.toNat 0) (i := t) (by omega)
         have hx := hain _ (getD_at (l := L0) (i := t) (by omega))
         have m3 : ((lsI p n).map I)[(L0.getD t 0).toNat]? = some (I ((lsI p n).getD (L0.getD t 0).toNat 0)) := idx_I (by rw [hLs]; omega)
         repeat' (first
| refine wO ?_
| (refine o_go rfl ?_; (first
| refine p_p (ps_load_arr rfl rfl rfl m1 (by rfl)) ?_
| refine p_p (zN rfl rfl rfl zz m3 ze) ?_
| refine p_e zk (e_store_arr rfl rfl rfl rfl zz rfl rfl) ?_
| refine wS ?_
| refine p_p (ps_len_mut rfl rfl rfl rfl) ?_); refine ⟨_, aB, ?_⟩)
| (refine zK rfl ?_ ?_ <;> intro hc <;> try omega)
| refine wE ?_)
         all_goals try (exfalso; omega)
         exact zT (t + 1) (by omega) (by omega) aI ⟨rfl, rfl, trivial⟩ (zB rfl (zB rfl (zB rfl (zB (by rw [← m2]) (zM _)))))
       · rw [List.take_of_length_le (show L0.length ≤ t by omega), List.drop_eq_nil_of_le (show L0.length ≤ t by omega), List.append_nil, hLe] at *
         repeat' (first
| refine wO ?_
| (refine o_go rfl ?_; (first
| refine wS ?_
| refine p_p (ps_len_mut rfl rfl rfl rfl) ?_); refine ⟨_, aB, ?_⟩)
| (refine zK rfl ?_ ?_ <;> intro hc <;> try omega)
| refine wE ?_)
         all_goals try (exfalso; omega)
         refine g_freezeP 3 rfl ⟨_, by dsimp only [bitvec_to_nat, Nat.reduceAdd, Nat.reduceMul, Nat.reduceBEq, reduceCtorEq, posI, optP, lendM1, lendMA, lendMP, killM1, killMA, killMP, hasI, getO, backM1, backMA, backMP, putL, inpM, pinM1, pinMA, pinMP, killR1, killRA, killR], ?_⟩
         refine g_view1 11 ⟨_, aB, ?_⟩
         refine g_region_drawZ [(0, some [4]), (1, some [4]), (2, some [4]), (3, some [4]), (4, some [4]), (5, some [4]), (6, some [4]), (7, some [4]), (8, some [4]), (9, none), (10, none), (11, none), (12, none)] [(10, 4), (12, 999999)] (fun hp => hp[2]? = some (.box [I f.ar, nilV])) (by kernel_rfl) rfl (by kernel_rfl) ?_
         repeat' (first
| refine z_nil ?_
| ((first
| refine zV rfl rfl (fun hp hH => zH rfl rfl hH rfl) aJ aC zd aA ?_
| refine zV rfl rfl (fun hp hH => zG rfl rfl aD (c4)) aJ aM zd aA ?_
| refine zV rfl rfl (fun hp hH => zN rfl rfl rfl zz i6 ze) aJ aC zd aA ?_
| refine zV rfl rfl (fun _ _ => zD rfl) aJ aC zd aA ?_
| refine zV rfl rfl (fun _ _ => zF rfl rfl) aJ aC zd aA ?_
| refine zV rfl rfl (fun _ _ => ps_load_agg rfl rfl aK) aJ aC zd aA ?_
| refine zV rfl rfl (fun _ _ => zE rfl rfl) aJ aC zd aA ?_
| refine z_eff rfl rfl aF (j_appendNil rfl rfl rfl rfl (one_one rfl) zd rfl zn zn zn) aG ?_
| refine z_eff rfl rfl aF (j_store_boxC rfl rfl rfl rfl aK rfl rfl) aG ?_
| refine z_eff rfl rfl aF (j_pure (zE rfl rfl)) aG ?_
| refine z_eff rfl rfl aF (j_pure (ps_lit1 rfl rfl (by rfl) (by rfl))) aG ?_); refine ⟨_, aP, ?_⟩))
         repeat' (first
| refine wO ?_
| (refine o_go rfl ?_; (first
| refine wS ?_); refine ⟨_, aB, ?_⟩))
         all_goals try (exfalso; omega)
         exact zT 1 (by omega) (by omega) aI ⟨rfl, trivial⟩ (zB rfl (zB rfl (zB rfl (hpLe_gone (zB (by rw [hsT]; rfl) (zM _))))))
      | succ j =>
       dsimp only [tQs, List.cons_append, List.nil_append]
       repeat' (first
| refine wO ?_
| (refine o_go rfl ?_; (first
| refine p_p (zG rfl rfl aD (hpw)) ?_
| refine p_e rfl (e_callR rfl rfl aD rfl c1) ?_
| refine wS ?_); refine ⟨_, aB, ?_⟩)
| (refine zK rfl ?_ ?_ <;> intro hc <;> try omega)
| refine wE ?_)
       all_goals try (exfalso; omega)
       refine g_loopF (α := Nat) [48] (fun t => [(11, .hp 5), (12, I (t : Int))]) (fun t => [HO.box [I 0, nilV], HO.box [I (K : Int), nilV], HO.box [I f.ar, PV.hp 4], HO.gone, HO.arr true 1 3 ((quoT n p f (j + 1)).map I), HO.arr true 1 3 (((L0.take t).map (fun x => (lsI p n).getD x.toNat 0) ++ L0.drop t).map I)]) (fun t => t ≤ a) (fun t => a - t) 0 aH (Nat.zero_le _) ⟨rfl, rfl, trivial⟩ rfl ?_
       rintro t hta
       refine wH ?_
       have hml := mid_len (p := L0) (g := fun x => (lsI p n).getD x.toNat 0) (i := t) (by omega)
       by_cases htl : t < a
       · have m1 := mid_at (p := L0) (g := fun x => (lsI p n).getD x.toNat 0) (i := t) (by omega)
         have m2 := mid_set (p := L0) (g := fun x => (lsI p n).getD x.toNat 0) (i := t) (by omega)
         have hx := hain _ (getD_at (l := L0) (i := t) (by omega))
         have m3 : ((lsI p n).map I)[(L0.getD t 0).toNat]? = some (I ((lsI p n).getD (L0.getD t 0).toNat 0)) := idx_I (by rw [hLs]; omega)
         repeat' (first
| refine wO ?_
| (refine o_go rfl ?_; (first
| refine p_p (ps_load_arr rfl rfl rfl m1 (by rfl)) ?_
| refine p_p (zN rfl rfl rfl zz m3 ze) ?_
| refine p_e zk (e_store_arr rfl rfl rfl rfl zz rfl rfl) ?_
| refine wS ?_
| refine p_p (ps_len_mut rfl rfl rfl rfl) ?_); refine ⟨_, aB, ?_⟩)
| (refine zK rfl ?_ ?_ <;> intro hc <;> try omega)
| refine wE ?_)
         all_goals try (exfalso; omega)
         exact zT (t + 1) (by omega) (by omega) aI ⟨rfl, rfl, trivial⟩ (zB rfl (zB rfl (zB rfl (zB rfl (zB rfl (zB (by rw [← m2]) (zM _)))))))
       · rw [List.take_of_length_le (show L0.length ≤ t by omega), List.drop_eq_nil_of_le (show L0.length ≤ t by omega), List.append_nil, hLe] at *
         repeat' (first
| refine wO ?_
| (refine o_go rfl ?_; (first
| refine wS ?_
| refine p_p (ps_len_mut rfl rfl rfl rfl) ?_); refine ⟨_, aB, ?_⟩)
| (refine zK rfl ?_ ?_ <;> intro hc <;> try omega)
| refine wE ?_)
         all_goals try (exfalso; omega)
         refine g_freezeP 5 rfl ⟨_, by dsimp only [bitvec_to_nat, Nat.reduceAdd, Nat.reduceMul, Nat.reduceBEq, reduceCtorEq, posI, optP, lendM1, lendMA, lendMP, killM1, killMA, killMP, hasI, getO, backM1, backMA, backMP, putL, inpM, pinM1, pinMA, pinMP, killR1, killRA, killR], ?_⟩
         refine g_view1 11 ⟨_, aB, ?_⟩
         refine g_region_drawU [(0, some [4]), (1, some []), (2, some [4]), (3, some [4]), (4, some [4]), (5, some [4]), (6, some [4]), (7, some [4]), (8, some [4]), (9, none), (10, none), (11, none), (12, none)] [(10, 4), (12, 999999)] (fun U hp => (∃ a, hp[2]? = some (.box [I f.ar, a])) ∧ (4 ∉ U → hp[2]? = some (.box [I f.ar, .hp 4]))) (by kernel_rfl) rfl (by kernel_rfl) ?_
         repeat' (first
| refine u_nil ?_
| ((first
| refine u_pure rfl rfl (fun hp hH => zH rfl rfl (hH.2 zd) rfl) aJ aC zd aN ?_
| refine u_pure rfl rfl (fun hp hH => zG rfl rfl aD (c4)) aJ aM zd aN ?_
| refine u_pure rfl rfl (fun hp hH => zN rfl rfl rfl zz i6 ze) aJ aC zd aN ?_
| refine u_pure rfl rfl (fun _ _ => zD rfl) aJ aC zd aN ?_
| refine u_pure rfl rfl (fun _ _ => zF rfl rfl) aJ aC zd aN ?_
| refine u_pure rfl rfl (fun _ _ => ps_load_agg rfl rfl aK) aJ aC zd aN ?_
| refine u_pure rfl rfl (fun _ _ => zE rfl rfl) aJ aC zd aN ?_
| refine u_eff rfl rfl aF (j_append rfl rfl rfl rfl rfl rfl (one_one rfl) rfl (by rw [hlT, n_len_c, n_len_n]; omega) (by rw [hlT, n_len_c, n_len_n]; omega)) (by first | exact fun _ hm hF _ => absurd (hm 999999 zd) hF | exact fun _ _ _ hh => hh | exact (fun _ hm _ _ => ⟨⟨_, rfl⟩, fun h => absurd (hm 4 zd) h⟩)) ?_
| refine u_eff rfl rfl aF (j_store_boxC rfl rfl rfl rfl aK rfl rfl) (by first | exact fun _ hm hF _ => absurd (hm 999999 zd) hF | exact fun _ _ _ hh => hh | exact (fun _ hm _ _ => ⟨⟨_, rfl⟩, fun h => absurd (hm 4 zd) h⟩)) ?_
| refine u_eff rfl rfl aF (j_pure (zE rfl rfl)) (by first | exact fun _ hm hF _ => absurd (hm 999999 zd) hF | exact fun _ _ _ hh => hh | exact (fun _ hm _ _ => ⟨⟨_, rfl⟩, fun h => absurd (hm 4 zd) h⟩)) ?_
| refine u_eff rfl rfl aF (j_pure (ps_lit1 rfl rfl (by rfl) (by rfl))) (by first | exact fun _ hm hF _ => absurd (hm 999999 zd) hF | exact fun _ _ _ hh => hh | exact (fun _ hm _ _ => ⟨⟨_, rfl⟩, fun h => absurd (hm 4 zd) h⟩)) ?_); refine ⟨_, aP, ?_⟩))
         repeat' (first
| refine wO ?_
| (refine o_go rfl ?_; (first
| refine wS ?_); refine ⟨_, aB, ?_⟩))
         all_goals try (exfalso; omega)
         exact zT (j + 2) (by omega) (by omega) aI ⟨rfl, trivial⟩ (zB rfl (zB rfl (zB rfl (hpLe_gone (zB (by rw [hsT, List.map_append]; rfl) (zM _))))))
    · obtain rfl : j = N := by omega
      obtain ⟨N', rfl⟩ : ∃ N', j = N' + 1 := ⟨j - 1, by omega⟩
      dsimp only [tQs, List.cons_append, List.nil_append]
      repeat' (first
| refine wO ?_
| (refine o_go rfl ?_; (first
| refine p_p (zG rfl rfl aD (hpw)) ?_
| refine p_e rfl (e_lit1S rfl rfl rfl (one_all (fun _ => rfl) _) rfl) ?_
| refine p_e rfl (e_appendNilS rfl rfl rfl rfl rfl (by exact Nat.succ_pos _) zn zn) ?_
| refine wS ?_
| refine p_e rfl (e_store_boxC rfl rfl rfl rfl aK rfl rfl) ?_); refine ⟨_, aB, ?_⟩)
| (refine zK rfl ?_ ?_ <;> intro hc <;> try omega)
| refine wE ?_)
      all_goals try (exfalso; omega)
      refine zT 1 (by omega) (by omega) aI ⟨rfl, trivial⟩ (zB rfl (zB rfl (hpLe_gone (hpLe_gone (hpLe_gone (hpLe_gone (zB ?_ (zM _))))))))
      rw [hsn, sgI, snoc_ops, hFe]; rfl
   | succ i =>
    dsimp only [aQown]
    have hq := opsK_at (show (i + 1) < ops.length by omega)
    have hf := opsK_mem (show (i + 1) < ops.length by omega)
    have hsn := quo_take n p (show (i + 1) < ops.length by omega)
    have hfA := ho _ hf
    have hst := fun j => quo_step hn0 hp ho hf j
    have v1 := fun args => sval_c n ops (i + 1) args (by omega) hl (show (i + 1) < ops.length by omega)
    have hFe : quoF n p (ops.getD (i + 1) default) = ⟨(ops.getD (i + 1) default).ar, quoT n p (ops.getD (i + 1) default) ((lstN p n).length ^ (ops.getD (i + 1) default).ar.toNat)⟩ := rfl
    generalize quoF n p (ops.getD (i + 1) default) = F at *
    generalize ops.getD (i + 1) default = f at *
    obtain ⟨a, ha⟩ : ∃ a : Nat, f.ar = a := ⟨f.ar.toNat, by omega⟩
    have haa : f.ar.toNat = a := by omega
    rw [haa] at hFe hst
    have hpw := pow_c K a (by omega) (by omega)
    have hpl := pow_le3 (show K ≤ 1000 by omega) (show a ≤ 3 by omega)
    have hpos : 0 < K ^ a := Nat.pow_pos hK0
    have hTl := fun j => quoT_len n p f j
    have hTs := fun j => quoT_succ n p f j
    rw [← hK] at hFe hst
    obtain ⟨N, hN⟩ : ∃ N, N = K ^ a := ⟨_, rfl⟩
    rw [← hN] at hpw hpl hpos hFe
    rw [← ha] at hpw
    rw [← hLs] at hpw
    repeat' (first
| refine wO ?_
| (refine o_go rfl ?_; (first
| refine p_p (zN rfl rfl rfl zz hq ze) ?_
| refine wS ?_
| refine p_e rfl (zO rfl rfl rfl rfl aK rfl rfl rfl) ?_
| refine p_e rfl (e_alloc rfl) ?_
| refine p_p (ps_build rfl rfl) ?_); refine ⟨_, aB, ?_⟩)
| (refine zK rfl ?_ ?_ <;> intro hc <;> try omega)
| refine wE ?_)
    all_goals try (exfalso; omega)
    refine g_loopT (α := Nat) (fun j => [(10, I (j : Int))]) (fun j => tQs [HO.box [I 0, nilV], HO.box [I (K : Int), PV.hp 6], HO.gone, HO.gone, HO.gone, HO.gone, sgI (rowsO (quoL n p (ops.take (i + 1))))] 9 f.ar (quoT n p f) j) (fun j => j ≤ N) (fun j => N - j) 0 aH (Nat.zero_le _) ⟨rfl, trivial⟩ rfl ?_
    rintro j hj
    refine wH ?_
    have hlT : ((quoT n p f j).map I).length = j := by rw [List.length_map, hTl]
    by_cases hjl : j < N
    · obtain ⟨X, v, hX, hv, e1, e2, e3⟩ := hst j
      have hal := argsL_len K a j
      have hain := argsL_in hK0 a j
      have c1 := sargs_R K a j hK0 (by omega) (by omega) (by omega)
      rw [← ha] at c1
      have c1 : RCalls Tryz.prog 131 [I ((lsI p n).length : Int), I f.ar, I (j : Int)] (.arr true 1 3 ((argsL K a j).map I)) (.hp 0) := by rw [hLs]; exact c1
      have c4 := v1 ((argsL K a j).map fun x => (lsI p n).getD x.toNat 0) (by rw [List.length_map]; omega) (fun y hy => by
       obtain ⟨x, hx, rfl⟩ := List.mem_map.1 hy
       exact least_in hp (hain x hx).1 (by rw [← hK]; exact (hain x hx).2)) (by rw [List.length_map, hal, hfA.2.2.1, haa])
      rw [e1, Int.toNat_natCast, e2] at c4
      have i6 := row_atY (p := natL n p) (x := v) (by rw [nat_len]; exact hv)
      rw [nat_getD hv, e3] at i6
      have hsT := hTs j
      generalize hLe : ((argsL K a j).map fun x => (lsI p n).getD x.toNat 0) = L at *
      generalize argsL K a j = L0 at *
      generalize quoC n p f j = q at *
      cases j with
      | zero =>
       dsimp only [tQs, List.cons_append, List.nil_append]
       repeat' (first
| refine wO ?_
| (refine o_go rfl ?_; (first
| refine p_p (zG rfl rfl aD (hpw)) ?_
| refine p_e rfl (e_callR rfl rfl aD rfl c1) ?_
| refine wS ?_); refine ⟨_, aB, ?_⟩)
| (refine zK rfl ?_ ?_ <;> intro hc <;> try omega)
| refine wE ?_)
       all_goals try (exfalso; omega)
       refine g_loopF (α := Nat) [48] (fun t => [(11, .hp 8), (12, I (t : Int))]) (fun t => [HO.box [I 0, nilV], HO.box [I (K : Int), PV.hp 6], HO.gone, HO.gone, HO.gone, HO.gone, sgI (rowsO (quoL n p (ops.take (i + 1)))), HO.box [I f.ar, nilV], HO.arr true 1 3 (((L0.take t).map (fun x => (lsI p n).getD x.toNat 0) ++ L0.drop t).map I)]) (fun t => t ≤ a) (fun t => a - t) 0 aH (Nat.zero_le _) ⟨rfl, rfl, trivial⟩ rfl ?_
       rintro t hta
       refine wH ?_
       have hml := mid_len (p := L0) (g := fun x => (lsI p n).getD x.toNat 0) (i := t) (by omega)
       by_cases htl : t < a
       · have m1 := mid_at (p := L0) (g := fun x => (lsI p n).getD x.toNat 0) (i := t) (by omega)
         have m2 := mid_set (p := L0) (g := fun x => (lsI p n).getD x.toNat 0) (i := t) (by omega)
         have hx := hain _ (getD_at (l := L0) (i := t) (by omega))
         have m3 : ((lsI p n).map I)[(L0.getD t 0).toNat]? = some (I ((lsI p n).getD (L0.getD t 0).toNat 0)) := idx_I (by rw [hLs]; omega)
         repeat' (first
| refine wO ?_
| (refine o_go rfl ?_; (first
| refine p_p (ps_load_arr rfl rfl rfl m1 (by rfl)) ?_
| refine p_p (zN rfl rfl rfl zz m3 ze) ?_
| refine p_e zk (e_store_arr rfl rfl rfl rfl zz rfl rfl) ?_
| refine wS ?_
| refine p_p (ps_len_mut rfl rfl rfl rfl) ?_); refine ⟨_, aB, ?_⟩)
| (refine zK rfl ?_ ?_ <;> intro hc <;> try omega)
| refine wE ?_)
         all_goals try (exfalso; omega)
         exact zT (t + 1) (by omega) (by omega) aI ⟨rfl, rfl, trivial⟩ (zB rfl (zB rfl (zB rfl (zB rfl (zB rfl (zB rfl (zB rfl (zB rfl (zB (by rw [← m2]) (zM _))))))))))
       · rw [List.take_of_length_le (show L0.length ≤ t by omega), List.drop_eq_nil_of_le (show L0.length ≤ t by omega), List.append_nil, hLe] at *
         repeat' (first
| refine wO ?_
| (refine o_go rfl ?_; (first
| refine wS ?_
| refine p_p (ps_len_mut rfl rfl rfl rfl) ?_); refine ⟨_, aB, ?_⟩)
| (refine zK rfl ?_ ?_ <;> intro hc <;> try omega)
| refine wE ?_)
         all_goals try (exfalso; omega)
         refine g_freezeP 8 rfl ⟨_, by dsimp only [bitvec_to_nat, Nat.reduceAdd, Nat.reduceMul, Nat.reduceBEq, reduceCtorEq, posI, optP, lendM1, lendMA, lendMP, killM1, killMA, killMP, hasI, getO, backM1, backMA, backMP, putL, inpM, pinM1, pinMA, pinMP, killR1, killRA, killR], ?_⟩
         refine g_view1 11 ⟨_, aB, ?_⟩
         refine g_region_drawZ [(0, some [9]), (1, some [9]), (2, some [9]), (3, some [9]), (4, some [9]), (5, some [9]), (6, some [9]), (7, some [9]), (8, some [9]), (9, none), (10, none), (11, none), (12, none)] [(10, 9), (12, 999999)] (fun hp => hp[7]? = some (.box [I f.ar, nilV])) (by kernel_rfl) rfl (by kernel_rfl) ?_
         repeat' (first
| refine z_nil ?_
| ((first
| refine zV rfl rfl (fun hp hH => zH rfl rfl hH rfl) aJ aC zd aA ?_
| refine zV rfl rfl (fun hp hH => zG rfl rfl aD (c4)) aJ aM zd aA ?_
| refine zV rfl rfl (fun hp hH => zN rfl rfl rfl zz i6 ze) aJ aC zd aA ?_
| refine zV rfl rfl (fun _ _ => zD rfl) aJ aC zd aA ?_
| refine zV rfl rfl (fun _ _ => zF rfl rfl) aJ aC zd aA ?_
| refine zV rfl rfl (fun _ _ => ps_load_agg rfl rfl aK) aJ aC zd aA ?_
| refine zV rfl rfl (fun _ _ => zE rfl rfl) aJ aC zd aA ?_
| refine z_eff rfl rfl aF (j_appendNil rfl rfl rfl rfl (one_one rfl) zd rfl zn zn zn) aG ?_
| refine z_eff rfl rfl aF (j_store_boxC rfl rfl rfl rfl aK rfl rfl) aG ?_
| refine z_eff rfl rfl aF (j_pure (zE rfl rfl)) aG ?_
| refine z_eff rfl rfl aF (j_pure (ps_lit1 rfl rfl (by rfl) (by rfl))) aG ?_); refine ⟨_, aP, ?_⟩))
         repeat' (first
| refine wO ?_
| (refine o_go rfl ?_; (first
| refine wS ?_); refine ⟨_, aB, ?_⟩))
         all_goals try (exfalso; omega)
         exact zT 1 (by omega) (by omega) aI ⟨rfl, trivial⟩ (zB rfl (zB rfl (zB rfl (zB rfl (zB rfl (zB rfl (zB rfl (zB rfl (hpLe_gone (zB (by rw [hsT]; rfl) (zM _)))))))))))
      | succ j =>
       dsimp only [tQs, List.cons_append, List.nil_append]
       repeat' (first
| refine wO ?_
| (refine o_go rfl ?_; (first
| refine p_p (zG rfl rfl aD (hpw)) ?_
| refine p_e rfl (e_callR rfl rfl aD rfl c1) ?_
| refine wS ?_); refine ⟨_, aB, ?_⟩)
| (refine zK rfl ?_ ?_ <;> intro hc <;> try omega)
| refine wE ?_)
       all_goals try (exfalso; omega)
       refine g_loopF (α := Nat) [48] (fun t => [(11, .hp 10), (12, I (t : Int))]) (fun t => [HO.box [I 0, nilV], HO.box [I (K : Int), PV.hp 6], HO.gone, HO.gone, HO.gone, HO.gone, sgI (rowsO (quoL n p (ops.take (i + 1)))), HO.box [I f.ar, PV.hp 9], HO.gone, HO.arr true 1 3 ((quoT n p f (j + 1)).map I), HO.arr true 1 3 (((L0.take t).map (fun x => (lsI p n).getD x.toNat 0) ++ L0.drop t).map I)]) (fun t => t ≤ a) (fun t => a - t) 0 aH (Nat.zero_le _) ⟨rfl, rfl, trivial⟩ rfl ?_
       rintro t hta
       refine wH ?_
       have hml := mid_len (p := L0) (g := fun x => (lsI p n).getD x.toNat 0) (i := t) (by omega)
       by_cases htl : t < a
       · have m1 := mid_at (p := L0) (g := fun x => (lsI p n).getD x.toNat 0) (i := t) (by omega)
         have m2 := mid_set (p := L0) (g := fun x => (lsI p n).getD x.toNat 0) (i := t) (by omega)
         have hx := hain _ (getD_at (l := L0) (i := t) (by omega))
         have m3 : ((lsI p n).map I)[(L0.getD t 0).toNat]? = some (I ((lsI p n).getD (L0.getD t 0).toNat 0)) := idx_I (by rw [hLs]; omega)
         repeat' (first
| refine wO ?_
| (refine o_go rfl ?_; (first
| refine p_p (ps_load_arr rfl rfl rfl m1 (by rfl)) ?_
| refine p_p (zN rfl rfl rfl zz m3 ze) ?_
| refine p_e zk (e_store_arr rfl rfl rfl rfl zz rfl rfl) ?_
| refine wS ?_
| refine p_p (ps_len_mut rfl rfl rfl rfl) ?_); refine ⟨_, aB, ?_⟩)
| (refine zK rfl ?_ ?_ <;> intro hc <;> try omega)
| refine wE ?_)
         all_goals try (exfalso; omega)
         exact zT (t + 1) (by omega) (by omega) aI ⟨rfl, rfl, trivial⟩ (zB rfl (zB rfl (zB rfl (zB rfl (zB rfl (zB rfl (zB rfl (zB rfl (zB rfl (zB rfl (zB (by rw [← m2]) (zM _))))))))))))
       · rw [List.take_of_length_le (show L0.length ≤ t by omega), List.drop_eq_nil_of_le (show L0.length ≤ t by omega), List.append_nil, hLe] at *
         repeat' (first
| refine wO ?_
| (refine o_go rfl ?_; (first
| refine wS ?_
| refine p_p (ps_len_mut rfl rfl rfl rfl) ?_); refine ⟨_, aB, ?_⟩)
| (refine zK rfl ?_ ?_ <;> intro hc <;> try omega)
| refine wE ?_)
         all_goals try (exfalso; omega)
         refine g_freezeP 10 rfl ⟨_, by dsimp only [bitvec_to_nat, Nat.reduceAdd, Nat.reduceMul, Nat.reduceBEq, reduceCtorEq, posI, optP, lendM1, lendMA, lendMP, killM1, killMA, killMP, hasI, getO, backM1, backMA, backMP, putL, inpM, pinM1, pinMA, pinMP, killR1, killRA, killR], ?_⟩
         refine g_view1 11 ⟨_, aB, ?_⟩
         refine g_region_drawU [(0, some [9]), (1, some []), (2, some [9]), (3, some [9]), (4, some [9]), (5, some [9]), (6, some [9]), (7, some [9]), (8, some [9]), (9, none), (10, none), (11, none), (12, none)] [(10, 9), (12, 999999)] (fun U hp => (∃ a, hp[7]? = some (.box [I f.ar, a])) ∧ (9 ∉ U → hp[7]? = some (.box [I f.ar, .hp 9]))) (by kernel_rfl) rfl (by kernel_rfl) ?_
         repeat' (first
| refine u_nil ?_
| ((first
| refine u_pure rfl rfl (fun hp hH => zH rfl rfl (hH.2 zd) rfl) aJ aC zd aN ?_
| refine u_pure rfl rfl (fun hp hH => zG rfl rfl aD (c4)) aJ aM zd aN ?_
| refine u_pure rfl rfl (fun hp hH => zN rfl rfl rfl zz i6 ze) aJ aC zd aN ?_
| refine u_pure rfl rfl (fun _ _ => zD rfl) aJ aC zd aN ?_
| refine u_pure rfl rfl (fun _ _ => zF rfl rfl) aJ aC zd aN ?_
| refine u_pure rfl rfl (fun _ _ => ps_load_agg rfl rfl aK) aJ aC zd aN ?_
| refine u_pure rfl rfl (fun _ _ => zE rfl rfl) aJ aC zd aN ?_
| refine u_eff rfl rfl aF (j_append rfl rfl rfl rfl rfl rfl (one_one rfl) rfl (by rw [hlT, n_len_c, n_len_n]; omega) (by rw [hlT, n_len_c, n_len_n]; omega)) (by first | exact fun _ hm hF _ => absurd (hm 999999 zd) hF | exact fun _ _ _ hh => hh | exact (fun _ hm _ _ => ⟨⟨_, rfl⟩, fun h => absurd (hm 9 zd) h⟩)) ?_
| refine u_eff rfl rfl aF (j_store_boxC rfl rfl rfl rfl aK rfl rfl) (by first | exact fun _ hm hF _ => absurd (hm 999999 zd) hF | exact fun _ _ _ hh => hh | exact (fun _ hm _ _ => ⟨⟨_, rfl⟩, fun h => absurd (hm 9 zd) h⟩)) ?_
| refine u_eff rfl rfl aF (j_pure (zE rfl rfl)) (by first | exact fun _ hm hF _ => absurd (hm 999999 zd) hF | exact fun _ _ _ hh => hh | exact (fun _ hm _ _ => ⟨⟨_, rfl⟩, fun h => absurd (hm 9 zd) h⟩)) ?_
| refine u_eff rfl rfl aF (j_pure (ps_lit1 rfl rfl (by rfl) (by rfl))) (by first | exact fun _ hm hF _ => absurd (hm 999999 zd) hF | exact fun _ _ _ hh => hh | exact (fun _ hm _ _ => ⟨⟨_, rfl⟩, fun h => absurd (hm 9 zd) h⟩)) ?_); refine ⟨_, aP, ?_⟩))
         repeat' (first
| refine wO ?_
| (refine o_go rfl ?_; (first
| refine wS ?_); refine ⟨_, aB, ?_⟩))
         all_goals try (exfalso; omega)
         exact zT (j + 2) (by omega) (by omega) aI ⟨rfl, trivial⟩ (zB rfl (zB rfl (zB rfl (zB rfl (zB rfl (zB rfl (zB rfl (zB rfl (hpLe_gone (zB (by rw [hsT, List.map_append]; rfl) (zM _)))))))))))
    · obtain rfl : j = N := by omega
      obtain ⟨N', rfl⟩ : ∃ N', j = N' + 1 := ⟨j - 1, by omega⟩
      dsimp only [tQs, List.cons_append, List.nil_append]
      repeat' (first
| refine wO ?_
| (refine o_go rfl ?_; (first
| refine p_p (zG rfl rfl aD (hpw)) ?_
| refine p_e rfl (e_lit1S rfl rfl rfl (one_all (fun _ => rfl) _) rfl) ?_
| refine p_e rfl (e_append_sg rfl rfl rfl rfl rfl rfl zd (by rw [hll, n_len_c, n_len_n]; omega) (by rw [hll, n_len_c, n_len_n]; omega)) ?_
| refine wS ?_
| refine p_e rfl (e_store_boxC rfl rfl rfl rfl aK rfl rfl) ?_); refine ⟨_, aB, ?_⟩)
| (refine zK rfl ?_ ?_ <;> intro hc <;> try omega)
| refine wE ?_)
      all_goals try (exfalso; omega)
      refine zT (i + 2) (by omega) (by omega) aI ⟨rfl, trivial⟩ (zB rfl (zB rfl (hpLe_gone (hpLe_gone (hpLe_gone (hpLe_gone (zB ?_ (zM _))))))))
      rw [hsn, sgI, snoc_ops, hFe]
 · obtain rfl : i = ops.length := by omega
   generalize hop : ops.length = m at *
   cases m with
   | zero =>
    obtain rfl := List.length_eq_zero_iff.1 hop
    dsimp only [aQown]
    repeat' (first
| refine krc (krC_le rfl aK rfl (agg2_le (PV.le_nil 2)))
| refine wO ?_
| (refine o_go rfl ?_; (first
| refine wS ?_
| refine p_e rfl (zO rfl rfl rfl rfl aK rfl rfl rfl) ?_); refine ⟨_, aB, ?_⟩)
| refine wE ?_)
    all_goals (exfalso; omega)
   | succ m =>
    dsimp only [aQown]
    rw [← hop, List.take_length]
    repeat' (first
| refine krc (krC_le rfl aK rfl (le_algG _ _))
| refine wO ?_
| (refine o_go rfl ?_; (first
| refine wS ?_
| refine p_e rfl (zO rfl rfl rfl rfl aK rfl rfl rfl) ?_); refine ⟨_, aB, ?_⟩)
| (refine zK rfl ?_ ?_ <;> intro hc <;> try omega)
| refine wE ?_)
    all_goals (exfalso; omega)

end Go.Proofs.YtepjlgilopfnpaaGreat
