/- Walks: quotients by a congruence, both sides. -/
import Derived.Test.YtepjlgilopfnpaaGreatJYo
import Derived.Test.YtepjlgilopfnpaaGreatJKd
import Derived.Test.YtepjlgilopfnpaaGreatJSq
namespace Go.Proofs.YtepjlgilopfnpaaGreat
open Go Go.Pv Go.Proofs
set_option maxHeartbeats 32000000
set_option maxRecDepth 100000
attribute [local bitvec_to_nat] posI optP lendM1 lendMA lendMP killM1 killMA killMP hasI getO backM1 backMA backMP putL inpM pinM1 pinMA pinMP killR1 killRA killR

theorem sargs_R (n k i : Nat) (hn : 0 < n) (hn2 : n ≤ 1000000) (hk : k ≤ 1000) (hi : i ≤ 1000000000) : RCalls Tryz.prog 131 [I (n : Int), I (k : Int), I (i : Int)] (.arr true 1 3 ((argsL n k i).map I)) (.hp 0) := by
 refine pcallsR1 Tryz.func131 rfl Tryz.ntmps131 rfl ?_
 refine wF ?_
 repeat' (first
| refine wO ?_
| (refine o_go rfl ?_; (first
| refine wS ?_
| refine p_e rfl (e_make1 rfl rfl rfl zz zz zz rfl rfl) ?_); refine ⟨_, aB, ?_⟩))
 refine g_loopT (α := Nat × Nat × List Int) (fun x => [(2, I (x.2.1 : Int)), (8, I ((x.1 : Int) - 1))]) (fun x => [.arr true 1 3 ((List.replicate x.1 (0 : Int) ++ x.2.2).map I)]) (fun x => x.1 ≤ k ∧ x.2.1 ≤ 1000000000 ∧ x.1 + x.2.2.length = k ∧ argsL n k i = argsL n x.1 x.2.1 ++ x.2.2) (fun x => x.1) (k, i, []) aH ⟨Nat.le_refl _, hi, rfl, by simp⟩ ⟨rfl, rfl, trivial⟩ (by simp) ?_
 rintro ⟨j, i', s⟩ ⟨h1, h2, h3, h4⟩
 dsimp only at h1 h2 h3 h4
 refine wH ?_
 have hlen : ((List.replicate j (0 : Int) ++ s).map I).length = k := by simp; omega
 rcases j with _ | j
 · repeat' (first
| refine wO ?_
| (refine o_go rfl ?_; (first
| refine wS ?_); refine ⟨_, aB, ?_⟩)
| refine krr 0 rfl (HandOut.arr rfl ?_ aS)
| refine wE ?_)
   all_goals try (exfalso; omega)
   rw [h4]; rfl
 · have hm : (i' : Int) % (n : Int) = ((i' % n : Nat) : Int) := by omega
   have hd : (i' : Int) / (n : Int) = ((i' / n : Nat) : Int) := by omega
   have hle := Nat.div_le_self i' n
   repeat' (first
| refine wO ?_
| (refine o_go rfl ?_; (first
| refine p_p (ps_rem rfl rfl rfl zz zz) ?_
| refine p_p (ps_quo rfl rfl rfl zz zz zz) ?_
| refine p_e zk (e_store_arr rfl rfl rfl rfl zz rfl rfl) ?_
| refine wS ?_); refine ⟨_, aB, ?_⟩)
| (refine zK rfl ?_ ?_ <;> intro hc <;> try omega)
| refine wE ?_)
   all_goals try (exfalso; omega)
   refine zT (j, i' / n, ((i' % n : Nat) : Int) :: s) ⟨by dsimp only; omega, by dsimp only; omega, by simp only [List.length_cons]; omega, by rw [h4]; show argsL n j (i' / n) ++ [_] ++ s = _; rw [List.append_assoc]; rfl⟩ (by dsimp only; omega) aI ⟨vI hd, vI (by dsimp only; omega), trivial⟩ (zB ?_ (zM _))
   rw [hm, show (((j + 1 : Nat) : Int) - 1).toNat * 1 = j by omega, ← List.map_set, rep_set]
def aQown (K n : Nat) (p : List Int) (ops : List OpD) : Nat → List HO
 | 0 => [.box [I 0, nilV], .box [I (K : Int), nilV]]
 | i + 1 => [.box [I 0, nilV], .box [I (K : Int), .hp 6], .gone, .gone, .gone, .gone, sgI (rowsO (quoL n p (ops.take (i + 1))))]
def tQi (base : List HO) (R : Nat) (a : Int) (T : Nat → List Int) : Nat → List HO
 | 0 => base ++ [.gone, .box [I a, nilV]]
 | j + 1 => base ++ [.gone, .box [I a, .hp R], .arr true 1 3 ((T (j + 1)).map I)]
def tQs (base : List HO) (R : Nat) (a : Int) (T : Nat → List Int) : Nat → List HO
 | 0 => base ++ [.box [I a, nilV]]
 | j + 1 => base ++ [.box [I a, .hp R], .gone, .arr true 1 3 ((T (j + 1)).map I)]
theorem quo_take (n : Nat) (p : List Int) {ops : List OpD} {i : Nat} (hi : i < ops.length) : quoL n p (ops.take (i + 1)) = quoL n p (ops.take i) ++ [quoF n p (ops.getD i default)] := by
 unfold quoL; rw [take_snoc default hi, List.map_append]; rfl
theorem tb_valQ {n : Nat} {ops : List OpD} {f : OpD} (ho : opsIn n ops) (hf : f ∈ ops) {x : Nat} (hx : x < n ^ f.ar.toNat) : f.tb.getD x 0 = (bk f.tb x : Int) := by
 have := ((ho f hf).2.2.2 x hx).1
 unfold bk; omega
theorem quo_step {n : Nat} {p : List Int} {ops : List OpD} (hn : 0 < n) (hp : Pt n p) (ho : opsIn n ops) {f : OpD} (hf : f ∈ ops) (j : Nat) :
 ∃ X v : Nat, X < n ^ f.ar.toNat ∧ v < n ∧ idxL n ((argsL (lstN p n).length f.ar.toNat j).map fun x => (lsI p n).getD x.toNat 0) = (X : Int) ∧ f.tb.getD X 0 = (v : Int) ∧ nmN p v = quoC n p f j := by
 have hX := quo_idx hn hp f.ar.toNat j
 refine ⟨mapI (lstN p n).length n (fun x => (lstN p n).getD x 0) f.ar.toNat j, bk f.tb _, hX, ((ho f hf).2.2.2 _ hX).2, ?_, tb_valQ ho hf hX, rfl⟩
 exact idx_mapI (lst_pos hp hn) (fun x _ => by rw [Int.toNat_natCast]; exact lsI_getD p n x) _ _
theorem least_in {n : Nat} {p : List Int} (hp : Pt n p) {x : Int} (h0 : 0 ≤ x) (h1 : x < ((lstN p n).length : Int)) : 0 ≤ (lsI p n).getD x.toNat 0 ∧ (lsI p n).getD x.toNat 0 < (n : Int) := by
 have := (lst_in hp (i := x.toNat) (by omega)).1
 rw [lsI_getD]; omega

theorem iquo_c (n : Nat) (ops : List OpD) (p : List Int) (hn0 : 0 < n) (hn : n ≤ 8) (hl : ops.length ≤ 1048576) (ho : opsIn n ops) (hp : Pt n p) : PCalls Tryz.prog 57 [algP n ops, ints p] (algP ((lstN p n).length : Int) (quoL n p ops)) := by
 have hK0 := lst_pos hp hn0
 have hKn := lstN_le p n
 have h1 := ileast_c n p (by omega) hp
 have h2 := inat_c n p (by omega) hp
 have hLs := lsI_len p n
 refine pcallsC Tryz.func57 rfl Tryz.ntmps57 rfl ?_
 refine wF ?_
 obtain ⟨K, hK⟩ : ∃ K, K = (lstN p n).length := ⟨_, rfl⟩
 rw [← hK] at hK0 hKn hLs ⊢
 repeat' (first
| refine wO ?_
| (refine o_go rfl ?_; (first
| refine p_p (zG rfl rfl aD (h1)) ?_
| refine p_p (zG rfl rfl aD (h2)) ?_
| refine wS ?_
| refine p_e rfl (zO rfl rfl rfl rfl aK rfl rfl rfl) ?_
| refine p_e rfl (e_alloc rfl) ?_
| refine p_p (ps_box rfl rfl) ?_
| refine p_p (ps_build rfl rfl) ?_); refine ⟨_, aB, ?_⟩))
 rw [hLs]
 refine g_loopT (α := Nat) (fun i => [(23, I (i : Int))]) (fun i => aQown K n p ops i) (fun i => i ≤ ops.length) (fun i => ops.length - i) 0 aH (Nat.zero_le _) ⟨rfl, trivial⟩ rfl ?_
 rintro i hi
 refine wH ?_
 have hll : ((rowsO (quoL n p (ops.take i))).map fun r => r.map I).length = i := by rw [rowsO_len]; simp [quoL]; omega
 by_cases hil : i < ops.length
 · cases i with
   | zero =>
    dsimp only [aQown]
    have hq := opsK_at (show 0 < ops.length by omega)
    have hf := opsK_mem (show 0 < ops.length by omega)
    have hsn := quo_take n p (show 0 < ops.length by omega)
    have hfA := ho _ hf
    have hst := fun j => quo_step hn0 hp ho hf j
    have hFe : quoF n p (ops.getD 0 default) = ⟨(ops.getD 0 default).ar, quoT n p (ops.getD 0 default) ((lstN p n).length ^ (ops.getD 0 default).ar.toNat)⟩ := rfl
    generalize quoF n p (ops.getD 0 default) = F at *
    generalize ops.getD 0 default = f at *
    obtain ⟨a, ha⟩ : ∃ a : Nat, f.ar = a := ⟨f.ar.toNat, by omega⟩
    have haa : f.ar.toNat = a := by omega
    rw [haa] at hFe hst
    have hpw := power_c K a (by omega) (by omega)
    have hpl := pow_le3 (show K ≤ 1000 by omega) (show a ≤ 3 by omega)
    have hpos : 0 < K ^ a := Nat.pow_pos hK0
    have hTl := fun j => quoT_len n p f j
    have hTs := fun j => quoT_succ n p f j
    rw [← hK] at hFe hst
    obtain ⟨N, hN⟩ : ∃ N, N = K ^ a := ⟨_, rfl⟩
    rw [← hN] at hpw hpl hpos hFe
    rw [← ha] at hpw
    repeat' ((fail_if_success (refine at_reg1 6 ?_)); (first
| refine wO ?_
| (refine o_go rfl ?_; (first
| refine p_p (zN rfl rfl rfl zz hq ze) ?_
| refine p_p (ps_load_agg rfl rfl aK) ?_
| refine wS ?_
| refine p_e rfl (zO rfl rfl rfl rfl aK rfl rfl rfl) ?_
| refine p_e rfl (e_alloc rfl) ?_); refine ⟨_, aB, ?_⟩)
| (refine zK rfl ?_ ?_ <;> intro hc <;> try omega)
| refine zR ?_))
    all_goals try (exfalso; omega)
    refine at_reg1 6 ?_
    repeat' (first
| refine g_settle 2 rfl (by dsimp only [setlP, setl1, setlH, bitvec_to_nat, Nat.reduceAdd, Nat.reduceMul, Nat.reduceBEq, reduceCtorEq]) ?_
| refine wO ?_
| (refine o_go rfl ?_; (first
| refine wS ?_
| refine p_e rfl (zO rfl rfl rfl rfl aK rfl rfl rfl) ?_
| refine p_e rfl (e_alloc rfl) ?_
| refine p_p (ps_build rfl rfl) ?_); refine ⟨_, aB, ?_⟩))
    refine g_loopT (α := Nat) (fun j => [(11, I (j : Int))]) (fun j => tQi [HO.box [I 0, nilV], HO.box [I (K : Int), nilV]] 4 f.ar (quoT n p f) j) (fun j => j ≤ N) (fun j => N - j) 0 aH (Nat.zero_le _) ⟨rfl, trivial⟩ rfl ?_
    rintro j hj
    refine wH ?_
    have hlT : ((quoT n p f j).map I).length = j := by rw [List.length_map, hTl]
    by_cases hjl : j < N
    · obtain ⟨X, v, hX, hv, e1, e2, e3⟩ := hst j
      have hal := argsL_len K a j
      have hain := argsL_in hK0 a j
      have c1 := iargs_c K a j hK0 (by omega) (by omega) (by omega)
      rw [← ha] at c1
      have c2 := compose_c (argsL K a j) (lsI p n) (by omega) (by omega) (fun x hx => by have := hain x hx; rw [hLs]; omega)
      have hcom : comL (argsL K a j) (lsI p n) = (argsL K a j).map fun x => (lsI p n).getD x.toNat 0 := rfl
      rw [hcom] at c2
      have c4 := index_c n ((argsL K a j).map fun x => (lsI p n).getD x.toNat 0) (by omega) (by rw [List.length_map]; omega) (fun y hy => by
       obtain ⟨x, hx, rfl⟩ := List.mem_map.1 hy
       exact least_in hp (hain x hx).1 (by rw [← hK]; exact (hain x hx).2))
      rw [e1] at c4
      have i5 := row_atY (p := f.tb) (x := X) (by rw [hfA.2.2.1, haa]; exact hX)
      rw [e2] at i5
      have i6 := row_atY (p := natL n p) (x := v) (by rw [nat_len]; exact hv)
      rw [nat_getD hv, e3] at i6
      have hsT := hTs j
      generalize ((argsL K a j).map fun x => (lsI p n).getD x.toNat 0) = L at *
      generalize argsL K a j = L0 at *
      generalize quoC n p f j = q at *
      cases j with
      | zero =>
       dsimp only [tQi, List.cons_append, List.nil_append]
       repeat' (first
| refine wO ?_
| (refine o_go rfl ?_; (first
| refine p_p (zG rfl rfl aD (hpw)) ?_
| refine p_p (zG rfl rfl aD (c1)) ?_
| refine p_p (zG rfl rfl aD (c2)) ?_
| refine wS ?_); refine ⟨_, aB, ?_⟩)
| (refine zK rfl ?_ ?_ <;> intro hc <;> try omega)
| refine wE ?_)
       all_goals try (exfalso; omega)
       refine g_region_drawZ [(0, some [4]), (1, some [4]), (2, some [4]), (3, some [4]), (4, some [4]), (5, some [4]), (6, some [4]), (7, some [4]), (8, some [4]), (9, some [4]), (10, some [4]), (11, some [4]), (12, some [4]), (13, none), (14, none), (15, none), (16, none)] [(14, 4), (16, 999999)] (fun hp => hp[3]? = some (.box [I f.ar, nilV])) (by kernel_rfl) rfl (by kernel_rfl) ?_
       repeat' (first
| refine z_nil ?_
| ((first
| refine zV rfl rfl (fun hp hH => zH rfl rfl hH rfl) aJ aC zd aA ?_
| refine zV rfl rfl (fun hp hH => zG rfl rfl aD (c4)) aJ aM zd aA ?_
| refine zV rfl rfl (fun hp hH => zN rfl rfl rfl zz i5 ze) aJ aC zd aA ?_
| refine zV rfl rfl (fun hp hH => zN rfl rfl rfl zz i6 ze) aJ aC zd aA ?_
| refine zV rfl rfl (fun _ _ => zD rfl) aJ aC zd aA ?_
| refine zV rfl rfl (fun _ _ => zF rfl rfl) aJ aC zd aA ?_
| refine zV rfl rfl (fun _ _ => zL rfl rfl) aJ aC zd aA ?_
| refine zV rfl rfl (fun _ _ => zE rfl rfl) aJ aC zd aA ?_
| refine z_eff rfl rfl aF (j_appendNil rfl rfl rfl rfl (one_one rfl) zd rfl zn zn zn) aG ?_
| refine z_eff rfl rfl aF (j_store_boxC rfl rfl rfl rfl aK rfl rfl) aG ?_
| refine z_eff rfl rfl aF (j_pure (zE rfl rfl)) aG ?_
| refine z_eff rfl rfl aF (j_pure (ps_lit1 rfl rfl (by rfl) (by rfl))) aG ?_); refine ⟨_, aP, ?_⟩))
       repeat' (first
| refine wO ?_
| (refine o_go rfl ?_; (first
| refine wS ?_); refine ⟨_, aB, ?_⟩))
       all_goals try (exfalso; omega)
       exact zT 1 (by omega) (by omega) aI ⟨rfl, trivial⟩ (zB rfl (zB rfl (hpLe_gone (zB rfl (zB (by rw [hsT]; rfl) (zM _))))))
      | succ j =>
       dsimp only [tQi, List.cons_append, List.nil_append]
       repeat' (first
| refine wO ?_
| (refine o_go rfl ?_; (first
| refine p_p (zG rfl rfl aD (hpw)) ?_
| refine p_p (zG rfl rfl aD (c1)) ?_
| refine p_p (zG rfl rfl aD (c2)) ?_
| refine wS ?_); refine ⟨_, aB, ?_⟩)
| (refine zK rfl ?_ ?_ <;> intro hc <;> try omega)
| refine wE ?_)
       all_goals try (exfalso; omega)
       refine g_region_drawU [(0, some [4]), (1, some []), (2, some [4]), (3, some [4]), (4, some [4]), (5, some [4]), (6, some [4]), (7, some [4]), (8, some [4]), (9, some [4]), (10, some [4]), (11, some [4]), (12, some [4]), (13, none), (14, none), (15, none), (16, none)] [(14, 4), (16, 999999)] (fun U hp => (∃ a, hp[3]? = some (.box [I f.ar, a])) ∧ (4 ∉ U → hp[3]? = some (.box [I f.ar, .hp 4]))) (by kernel_rfl) rfl (by kernel_rfl) ?_
       repeat' (first
| refine u_nil ?_
| ((first
| refine u_pure rfl rfl (fun hp hH => zH rfl rfl (hH.2 zd) rfl) aJ aC zd aN ?_
| refine u_pure rfl rfl (fun hp hH => zG rfl rfl aD (c4)) aJ aM zd aN ?_
| refine u_pure rfl rfl (fun hp hH => zN rfl rfl rfl zz i5 ze) aJ aC zd aN ?_
| refine u_pure rfl rfl (fun hp hH => zN rfl rfl rfl zz i6 ze) aJ aC zd aN ?_
| refine u_pure rfl rfl (fun _ _ => zD rfl) aJ aC zd aN ?_
| refine u_pure rfl rfl (fun _ _ => zF rfl rfl) aJ aC zd aN ?_
| refine u_pure rfl rfl (fun _ _ => zL rfl rfl) aJ aC zd aN ?_
| refine u_pure rfl rfl (fun _ _ => zE rfl rfl) aJ aC zd aN ?_
| refine u_eff rfl rfl aF (j_append rfl rfl rfl rfl rfl rfl (one_one rfl) rfl (by rw [hlT, n_len_c, n_len_n]; omega) (by rw [hlT, n_len_c, n_len_n]; omega)) (by first | exact fun _ hm hF _ => absurd (hm 999999 zd) hF | exact fun _ _ _ hh => hh | exact (fun _ hm _ _ => ⟨⟨_, rfl⟩, fun h => absurd (hm 4 zd) h⟩)) ?_
| refine u_eff rfl rfl aF (j_store_boxC rfl rfl rfl rfl aK rfl rfl) (by first | exact fun _ hm hF _ => absurd (hm 999999 zd) hF | exact fun _ _ _ hh => hh | exact (fun _ hm _ _ => ⟨⟨_, rfl⟩, fun h => absurd (hm 4 zd) h⟩)) ?_
| refine u_eff rfl rfl aF (j_pure (zE rfl rfl)) (by first | exact fun _ hm hF _ => absurd (hm 999999 zd) hF | exact fun _ _ _ hh => hh | exact (fun _ hm _ _ => ⟨⟨_, rfl⟩, fun h => absurd (hm 4 zd) h⟩)) ?_
| refine u_eff rfl rfl aF (j_pure (ps_lit1 rfl rfl (by rfl) (by rfl))) (by first | exact fun _ hm hF _ => absurd (hm 999999 zd) hF | exact fun _ _ _ hh => hh | exact (fun _ hm _ _ => ⟨⟨_, rfl⟩, fun h => absurd (hm 4 zd) h⟩)) ?_); refine ⟨_, aP, ?_⟩))
       repeat' (first
| refine wO ?_
| (refine o_go rfl ?_; (first
| refine wS ?_); refine ⟨_, aB, ?_⟩))
       all_goals try (exfalso; omega)
       exact zT (j + 2) (by omega) (by omega) aI ⟨rfl, trivial⟩ (zB rfl (zB rfl (hpLe_gone (zB rfl (zB (by rw [hsT, List.map_append]; rfl) (zM _))))))
    · obtain rfl : j = N := by omega
      obtain ⟨N', rfl⟩ : ∃ N', j = N' + 1 := ⟨j - 1, by omega⟩
      dsimp only [tQi, List.cons_append, List.nil_append]
      repeat' (first
| refine wO ?_
| (refine o_go rfl ?_; (first
| refine p_p (zG rfl rfl aD (hpw)) ?_
| refine p_e rfl (e_lit1S rfl rfl rfl (one_all (fun _ => rfl) _) rfl) ?_
| refine p_e rfl (e_appendNilS rfl rfl rfl rfl rfl (by exact Nat.succ_pos _) zn zn) ?_
| refine wS ?_
| refine p_e rfl (e_store_boxC rfl rfl rfl rfl aK rfl rfl) ?_); refine ⟨_, aB, ?_⟩)
| (refine zK rfl ?_ ?_ <;> intro hc <;> try omega)
| refine wE ?_)
      all_goals try (exfalso; omega)
      refine zT 1 (by omega) (by omega) aI ⟨rfl, trivial⟩ (zB rfl (zB rfl (hpLe_gone (hpLe_gone (hpLe_gone (hpLe_gone (zB ?_ (zM _))))))))
      rw [hsn, sgI, snoc_ops, hFe]; rfl
   | succ i =>
    dsimp only [aQown]
    have hq := opsK_at (show (i + 1) < ops.length by omega)
    have hf := opsK_mem (show (i + 1) < ops.length by omega)
    have hsn := quo_take n p (show (i + 1) < ops.length by omega)
    have hfA := ho _ hf
    have hst := fun j => quo_step hn0 hp ho hf j
    have hFe : quoF n p (ops.getD (i + 1) default) = ⟨(ops.getD (i + 1) default).ar, quoT n p (ops.getD (i + 1) default) ((lstN p n).length ^ (ops.getD (i + 1) default).ar.toNat)⟩ := rfl
    generalize quoF n p (ops.getD (i + 1) default) = F at *
    generalize ops.getD (i + 1) default = f at *
    obtain ⟨a, ha⟩ : ∃ a : Nat, f.ar = a := ⟨f.ar.toNat, by omega⟩
    have haa : f.ar.toNat = a := by omega
    rw [haa] at hFe hst
    have hpw := power_c K a (by omega) (by omega)
    have hpl := pow_le3 (show K ≤ 1000 by omega) (show a ≤ 3 by omega)
    have hpos : 0 < K ^ a := Nat.pow_pos hK0
    have hTl := fun j => quoT_len n p f j
    have hTs := fun j => quoT_succ n p f j
    rw [← hK] at hFe hst
    obtain ⟨N, hN⟩ : ∃ N, N = K ^ a := ⟨_, rfl⟩
    rw [← hN] at hpw hpl hpos hFe
    rw [← ha] at hpw
    repeat' ((fail_if_success (refine at_reg1 6 ?_)); (first
| refine wO ?_
| (refine o_go rfl ?_; (first
| refine p_p (zN rfl rfl rfl zz hq ze) ?_
| refine p_p (ps_load_agg rfl rfl aK) ?_
| refine wS ?_
| refine p_e rfl (zO rfl rfl rfl rfl aK rfl rfl rfl) ?_
| refine p_e rfl (e_alloc rfl) ?_); refine ⟨_, aB, ?_⟩)
| (refine zK rfl ?_ ?_ <;> intro hc <;> try omega)
| refine zR ?_))
    all_goals try (exfalso; omega)
    refine at_reg1 6 ?_
    repeat' (first
| refine g_settle 7 rfl (by dsimp only [setlP, setl1, setlH, bitvec_to_nat, Nat.reduceAdd, Nat.reduceMul, Nat.reduceBEq, reduceCtorEq]) ?_
| refine wO ?_
| (refine o_go rfl ?_; (first
| refine wS ?_
| refine p_e rfl (zO rfl rfl rfl rfl aK rfl rfl rfl) ?_
| refine p_e rfl (e_alloc rfl) ?_
| refine p_p (ps_build rfl rfl) ?_); refine ⟨_, aB, ?_⟩))
    refine g_loopT (α := Nat) (fun j => [(11, I (j : Int))]) (fun j => tQi [HO.box [I 0, nilV], HO.box [I (K : Int), PV.hp 6], HO.gone, HO.gone, HO.gone, HO.gone, sgI (rowsO (quoL n p (ops.take (i + 1))))] 9 f.ar (quoT n p f) j) (fun j => j ≤ N) (fun j => N - j) 0 aH (Nat.zero_le _) ⟨rfl, trivial⟩ rfl ?_
    rintro j hj
    refine wH ?_
    have hlT : ((quoT n p f j).map I).length = j := by rw [List.length_map, hTl]
    by_cases hjl : j < N
    · obtain ⟨X, v, hX, hv, e1, e2, e3⟩ := hst j
      have hal := argsL_len K a j
      have hain := argsL_in hK0 a j
      have c1 := iargs_c K a j hK0 (by omega) (by omega) (by omega)
      rw [← ha] at c1
      have c2 := compose_c (argsL K a j) (lsI p n) (by omega) (by omega) (fun x hx => by have := hain x hx; rw [hLs]; omega)
      have hcom : comL (argsL K a j) (lsI p n) = (argsL K a j).map fun x => (lsI p n).getD x.toNat 0 := rfl
      rw [hcom] at c2
      have c4 := index_c n ((argsL K a j).map fun x => (lsI p n).getD x.toNat 0) (by omega) (by rw [List.length_map]; omega) (fun y hy => by
       obtain ⟨x, hx, rfl⟩ := List.mem_map.1 hy
       exact least_in hp (hain x hx).1 (by rw [← hK]; exact (hain x hx).2))
      rw [e1] at c4
      have i5 := row_atY (p := f.tb) (x := X) (by rw [hfA.2.2.1, haa]; exact hX)
      rw [e2] at i5
      have i6 := row_atY (p := natL n p) (x := v) (by rw [nat_len]; exact hv)
      rw [nat_getD hv, e3] at i6
      have hsT := hTs j
      generalize ((argsL K a j).map fun x => (lsI p n).getD x.toNat 0) = L at *
      generalize argsL K a j = L0 at *
      generalize quoC n p f j = q at *
      cases j with
      | zero =>
       dsimp only [tQi, List.cons_append, List.nil_append]
       repeat' (first
| refine wO ?_
| (refine o_go rfl ?_; (first
| refine p_p (zG rfl rfl aD (hpw)) ?_
| refine p_p (zG rfl rfl aD (c1)) ?_
| refine p_p (zG rfl rfl aD (c2)) ?_
| refine wS ?_); refine ⟨_, aB, ?_⟩)
| (refine zK rfl ?_ ?_ <;> intro hc <;> try omega)
| refine wE ?_)
       all_goals try (exfalso; omega)
       refine g_region_drawZ [(0, some [9]), (1, some [9]), (2, some [9]), (3, some [9]), (4, some [9]), (5, some [9]), (6, some [9]), (7, some [9]), (8, some [9]), (9, some [9]), (10, some [9]), (11, some [9]), (12, some [9]), (13, none), (14, none), (15, none), (16, none)] [(14, 9), (16, 999999)] (fun hp => hp[8]? = some (.box [I f.ar, nilV])) (by kernel_rfl) rfl (by kernel_rfl) ?_
       repeat' (first
| refine z_nil ?_
| ((first
| refine zV rfl rfl (fun hp hH => zH rfl rfl hH rfl) aJ aC zd aA ?_
| refine zV rfl rfl (fun hp hH => zG rfl rfl aD (c4)) aJ aM zd aA ?_
| refine zV rfl rfl (fun hp hH => zN rfl rfl rfl zz i5 ze) aJ aC zd aA ?_
| refine zV rfl rfl (fun hp hH => zN rfl rfl rfl zz i6 ze) aJ aC zd aA ?_
| refine zV rfl rfl (fun _ _ => zD rfl) aJ aC zd aA ?_
| refine zV rfl rfl (fun _ _ => zF rfl rfl) aJ aC zd aA ?_
| refine zV rfl rfl (fun _ _ => zL rfl rfl) aJ aC zd aA ?_
| refine zV rfl rfl (fun _ _ => zE rfl rfl) aJ aC zd aA ?_
| refine z_eff rfl rfl aF (j_appendNil rfl rfl rfl rfl (one_one rfl) zd rfl zn zn zn) aG ?_
| refine z_eff rfl rfl aF (j_store_boxC rfl rfl rfl rfl aK rfl rfl) aG ?_
| refine z_eff rfl rfl aF (j_pure (zE rfl rfl)) aG ?_
| refine z_eff rfl rfl aF (j_pure (ps_lit1 rfl rfl (by rfl) (by rfl))) aG ?_); refine ⟨_, aP, ?_⟩))
       repeat' (first
| refine wO ?_
| (refine o_go rfl ?_; (first
| refine wS ?_); refine ⟨_, aB, ?_⟩))
       all_goals try (exfalso; omega)
       exact zT 1 (by omega) (by omega) aI ⟨rfl, trivial⟩ (zB rfl (zB rfl (zB rfl (zB rfl (zB rfl (zB rfl (zB rfl (hpLe_gone (zB rfl (zB (by rw [hsT]; rfl) (zM _)))))))))))
      | succ j =>
       dsimp only [tQi, List.cons_append, List.nil_append]
       repeat' (first
| refine wO ?_
| (refine o_go rfl ?_; (first
| refine p_p (zG rfl rfl aD (hpw)) ?_
| refine p_p (zG rfl rfl aD (c1)) ?_
| refine p_p (zG rfl rfl aD (c2)) ?_
| refine wS ?_); refine ⟨_, aB, ?_⟩)
| (refine zK rfl ?_ ?_ <;> intro hc <;> try omega)
| refine wE ?_)
       all_goals try (exfalso; omega)
       refine g_region_drawU [(0, some [9]), (1, some []), (2, some [9]), (3, some [9]), (4, some [9]), (5, some [9]), (6, some [9]), (7, some [9]), (8, some [9]), (9, some [9]), (10, some [9]), (11, some [9]), (12, some [9]), (13, none), (14, none), (15, none), (16, none)] [(14, 9), (16, 999999)] (fun U hp => (∃ a, hp[8]? = some (.box [I f.ar, a])) ∧ (9 ∉ U → hp[8]? = some (.box [I f.ar, .hp 9]))) (by kernel_rfl) rfl (by kernel_rfl) ?_
       repeat' (first
| refine u_nil ?_
| ((first
| refine u_pure rfl rfl (fun hp hH => zH rfl rfl (hH.2 zd) rfl) aJ aC zd aN ?_
| refine u_pure rfl rfl (fun hp hH => zG rfl rfl aD (c4)) aJ aM zd aN ?_
| refine u_pure rfl rfl (fun hp hH => zN rfl rfl rfl zz i5 ze) aJ aC zd aN ?_
| refine u_pure rfl rfl (fun hp hH => zN rfl rfl rfl zz i6 ze) aJ aC zd aN ?_
| refine u_pure rfl rfl (fun _ _ => zD rfl) aJ aC zd aN ?_
| refine u_pure rfl rfl (fun _ _ => zF rfl rfl) aJ aC zd aN ?_
| refine u_pure rfl rfl (fun _ _ => zL rfl rfl) aJ aC zd aN ?_
| refine u_pure rfl rfl (fun _ _ => zE rfl rfl) aJ aC zd aN ?_
| refine u_eff rfl rfl aF (j_append rfl rfl rfl rfl rfl rfl (one_one rfl) rfl (by rw [hlT, n_len_c, n_len_n]; omega) (by rw [hlT, n_len_c, n_len_n]; omega)) (by first | exact fun _ hm hF _ => absurd (hm 999999 zd) hF | exact fun _ _ _ hh => hh | exact (fun _ hm _ _ => ⟨⟨_, rfl⟩, fun h => absurd (hm 9 zd) h⟩)) ?_
| refine u_eff rfl rfl aF (j_store_boxC rfl rfl rfl rfl aK rfl rfl) (by first | exact fun _ hm hF _ => absurd (hm 999999 zd) hF | exact fun _ _ _ hh => hh | exact (fun _ hm _ _ => ⟨⟨_, rfl⟩, fun h => absurd (hm 9 zd) h⟩)) ?_
| refine u_eff rfl rfl aF (j_pure (zE rfl rfl)) (by first | exact fun _ hm hF _ => absurd (hm 999999 zd) hF | exact fun _ _ _ hh => hh | exact (fun _ hm _ _ => ⟨⟨_, rfl⟩, fun h => absurd (hm 9 zd) h⟩)) ?_
| refine u_eff rfl rfl aF (j_pure (ps_lit1 rfl rfl (by rfl) (by rfl))) (by first | exact fun _ hm hF _ => absurd (hm 999999 zd) hF | exact fun _ _ _ hh => hh | exact (fun _ hm _ _ => ⟨⟨_, rfl⟩, fun h => absurd (hm 9 zd) h⟩)) ?_); refine ⟨_, aP, ?_⟩))
       repeat' (first
| refine wO ?_
| (refine o_go rfl ?_; (first
| refine wS ?_); refine ⟨_, aB, ?_⟩))
       all_goals try (exfalso; omega)
       exact zT (j + 2) (by omega) (by omega) aI ⟨rfl, trivial⟩ (zB rfl (zB rfl (zB rfl (zB rfl (zB rfl (zB rfl (zB rfl (hpLe_gone (zB rfl (zB (by rw [hsT, List.map_append]; rfl) (zM _)))))))))))
    · obtain rfl : j = N := by omega
      obtain ⟨N', rfl⟩ : ∃ N', j = N' + 1 := ⟨j - 1, by omega⟩
      dsimp only [tQi, List.cons_append, List.nil_append]
      repeat' (first
| refine wO ?_
| (refine o_go rfl ?_; (first
| refine p_p (zG rfl rfl aD (hpw)) ?_
| refine p_e rfl (e_lit1S rfl rfl rfl (one_all (fun _ => rfl) _) rfl) ?_
| refine p_e rfl (e_append_sg rfl rfl rfl rfl rfl rfl zd (by rw [hll, n_len_c, n_len_n]; omega) (by rw [hll, n_len_c, n_len_n]; omega)) ?_
| refine wS ?_
| refine p_e rfl (e_store_boxC rfl rfl rfl rfl aK rfl rfl) ?_); refine ⟨_, aB, ?_⟩)
| (refine zK rfl ?_ ?_ <;> intro hc <;> try omega)
| refine wE ?_)
      all_goals try (exfalso; omega)
      refine zT (i + 2) (by omega) (by omega) aI ⟨rfl, trivial⟩ (zB rfl (zB rfl (hpLe_gone (hpLe_gone (hpLe_gone (hpLe_gone (zB ?_ (zM _))))))))
      rw [hsn, sgI, snoc_ops, hFe]
 · obtain rfl : i = ops.length := by omega
   generalize hop : ops.length = m at *
   cases m with
   | zero =>
    obtain rfl := List.length_eq_zero_iff.1 hop
    dsimp only [aQown]
    repeat' (first
| refine krc (krC_le rfl aK rfl (agg2_le (PV.le_nil 2)))
| refine wO ?_
| (refine o_go rfl ?_; (first
| refine wS ?_
| refine p_e rfl (zO rfl rfl rfl rfl aK rfl rfl rfl) ?_); refine ⟨_, aB, ?_⟩)
| refine wE ?_)
    all_goals (exfalso; omega)
   | succ m =>
    dsimp only [aQown]
    rw [← hop, List.take_length]
    repeat' (first
| refine krc (krC_le rfl aK rfl (le_algG _ _))
| refine wO ?_
| (refine o_go rfl ?_; (first
| refine wS ?_
| refine p_e rfl (zO rfl rfl rfl rfl aK rfl rfl rfl) ?_); refine ⟨_, aB, ?_⟩)
| (refine zK rfl ?_ ?_ <;> intro hc <;> try omega)
| refine wE ?_)
    all_goals (exfalso; omega)

end Go.Proofs.YtepjlgilopfnpaaGreat
