/- Lemmas of the proof. No condition. -/
import Derived.Test.YtbohjibbgppfaaaGreatJKn
import Derived.Test.YtbohjibbgppfaaaGreatJKy
import Derived.Test.YtbohjibbgppfaaaGreatJKj
import Derived.Test.YtbohjibbgppfaaaGreatJHn
namespace Go.Proofs.YtbohjibbgppfaaaGreat
open Go Go.Pv Go.Proofs
set_option maxHeartbeats 32000000
set_option maxRecDepth 100000
attribute [local bitvec_to_nat] posI optP lendM1 lendMA lendMP killM1 killMA killMP hasI getO backM1 backMA backMP putL inpM pinM1 pinMA pinMP killR1 killRA killR
theorem snoc_ops {L : List OpD} {f : OpD} : (rowsO (L ++ [f])).map (fun r => r.map I) = (rowsO L).map (fun r => r.map I) ++ [I f.ar :: f.tb.map I] := by
 simp only [rowsO, List.map_append, List.map_cons, List.map_nil]
theorem rowsO_len (L : List OpD) : ((rowsO L).map fun r => r.map I).length = L.length := by rw [List.length_map, List.length_map]
theorem one_take {A : List OpD} {k : Nat} (hk : k < A.length) : oneL (A.take (k + 1)) = oneL (A.take k) ++ [⟨(A.getD k default).ar, [0]⟩] := by
 unfold oneL; rw [take_snoc default hk, List.map_append]; rfl
theorem sone_c (n : Int) (A : List OpD) (hl : A.length ≤ 1048576) : PCalls Tryz.prog 134 [algP n A] (algP 1 (oneL A)) := by
 refine pcallsC Tryz.func134 rfl Tryz.ntmps134 rfl ?_
 refine wF ?_
 repeat' (first
| refine wO ?_
| (refine o_go rfl ?_; (first
| refine p_e rfl (e_lit0S 3 rfl) ?_
| refine wS ?_
| refine p_e rfl (zO rfl rfl rfl rfl aK rfl rfl rfl) ?_
| refine p_e rfl (e_alloc rfl) ?_
| refine p_p (ps_box rfl rfl) ?_
| refine p_p (ps_build rfl rfl) ?_); refine ⟨_, aA, ?_⟩))
 refine g_loopF (α := Nat) [5, 6] (fun k => [(4, I (k : Int))]) (fun k => [.box [I 0, nilV], sgI (rowsO (oneL (A.take k))), .box [I 1, .hp 1]]) (fun k => k ≤ A.length) (fun k => A.length - k) 0 aH (Nat.zero_le _) ⟨rfl, trivial⟩ rfl ?_
 rintro k hk
 refine wH ?_
 have hll : ((rowsO (oneL (A.take k))).map fun r => r.map I).length = k := by rw [rowsO_len]; simp [oneL]; omega
 by_cases hkl : k < A.length
 · have hq := opsK_at hkl
   have ht := one_take hkl
   repeat' (first
| refine wO ?_
| (refine o_go rfl ?_; (first
| refine wS ?_); refine ⟨_, aA, ?_⟩)
| (refine zK rfl ?_ ?_ <;> intro hc <;> try omega)
| refine wE ?_)
   all_goals try (exfalso; omega)
   refine g_region_drawU [(0, some [1, 3, 4]), (1, some [3, 4]), (2, some [1, 3, 4]), (3, some [1, 3, 4]), (4, some [1, 3, 4]), (5, some [1, 3, 4]), (6, some [1, 3, 4]), (7, some [1, 3, 4]), (8, none), (9, none), (10, none), (11, none), (12, none), (13, none)] [(8, 3), (10, 4), (11, 1), (13, 999999)] (fun U hp => (∃ a, hp[2]? = some (.box [I 1, a])) ∧ (1 ∉ U → hp[2]? = some (.box [I 1, .hp 1]))) (by kernel_rfl) rfl (by kernel_rfl) ?_
   repeat' (first
| refine u_nil ?_
| ((first
| refine u_pure rfl rfl (fun hp hH => zH rfl rfl (hH.2 zd) rfl) aL aC zd aM ?_
| refine u_pure rfl rfl (fun hp hH => zN rfl rfl rfl zz hq ze) aL aC zd aM ?_
| refine u_pure rfl rfl (fun _ _ => zD rfl) aL aC zd aM ?_
| refine u_pure rfl rfl (fun _ _ => zF rfl rfl) aL aC zd aM ?_
| refine u_pure rfl rfl (fun _ _ => zL rfl rfl) aL aC zd aM ?_
| refine u_pure rfl rfl (fun _ _ => zE rfl rfl) aL aC zd aM ?_
| refine u_eff rfl rfl aF (j_lit1T rfl rfl rfl) (by first | exact fun _ hm hF _ => absurd (hm 999999 zd) hF | exact fun _ _ _ hh => hh | exact (fun _ hm _ _ => ⟨⟨_, rfl⟩, fun h => absurd (hm 1 zd) h⟩)) ?_
| refine u_eff rfl rfl aF (j_lit1S rfl rfl rfl rfl rfl) (by first | exact fun _ hm hF _ => absurd (hm 999999 zd) hF | exact fun _ _ _ hh => hh | exact (fun _ hm _ _ => ⟨⟨_, rfl⟩, fun h => absurd (hm 1 zd) h⟩)) ?_
| refine u_eff rfl rfl aF (j_append_sg rfl rfl rfl rfl rfl rfl zd (by rw [hll, n_len_c, n_len_n]; omega) (by rw [hll, n_len_c, n_len_n]; omega)) (by first | exact fun _ hm hF _ => absurd (hm 999999 zd) hF | exact fun _ _ _ hh => hh | exact (fun _ hm _ _ => ⟨⟨_, rfl⟩, fun h => absurd (hm 1 zd) h⟩)) ?_
| refine u_eff rfl rfl aF (j_store_boxC rfl rfl rfl rfl aK rfl rfl) (by first | exact fun _ hm hF _ => absurd (hm 999999 zd) hF | exact fun _ _ _ hh => hh | exact (fun _ hm _ _ => ⟨⟨_, rfl⟩, fun h => absurd (hm 1 zd) h⟩)) ?_
| refine u_eff rfl rfl aF (j_pure (zE rfl rfl)) (by first | exact fun _ hm hF _ => absurd (hm 999999 zd) hF | exact fun _ _ _ hh => hh | exact (fun _ hm _ _ => ⟨⟨_, rfl⟩, fun h => absurd (hm 1 zd) h⟩)) ?_
| refine u_eff rfl rfl aF (j_pure (ps_build rfl rfl)) (by first | exact fun _ hm hF _ => absurd (hm 999999 zd) hF | exact fun _ _ _ hh => hh | exact (fun _ hm _ _ => ⟨⟨_, rfl⟩, fun h => absurd (hm 1 zd) h⟩)) ?_); refine ⟨_, aS, ?_⟩))
   repeat' (first
| refine wO ?_
| (refine o_go rfl ?_; (first
| refine wS ?_); refine ⟨_, aA, ?_⟩))
   all_goals try (exfalso; omega)
   refine zT (k + 1) (by omega) (by omega) aI ⟨rfl, trivial⟩ (zB rfl (zB ?_ (zB rfl (zM _))))
   rw [ht, sgI, snoc_ops]; rfl
 · rw [List.take_of_length_le (by omega)]
   repeat' (first
| refine krc (krC_le rfl aK rfl (le_algG _ _))
| refine wO ?_
| (refine o_go rfl ?_; (first
| refine wS ?_
| refine p_e rfl (zO rfl rfl rfl rfl aK rfl rfl rfl) ?_); refine ⟨_, aA, ?_⟩)
| (refine zK rfl ?_ ?_ <;> intro hc <;> try omega)
| refine wE ?_)
   all_goals (exfalso; omega)
theorem sprod_c (n m : Nat) (A B : List OpD) (hn : 0 < n) (hm : 0 < m) (hnm : n * m ≤ 8) (hA : opsIn n A) (hB : opsIn m B) (hAl : A.length ≤ 1048576) (ht : sameT A B) : PCalls Tryz.prog 122 [algP n A, algP m B] (algP ((n * m : Nat) : Int) (prodL n m A B)) := by
 unfold prodL
 have hn8 : n ≤ 8 := Nat.le_trans (Nat.le_mul_of_pos_right n hm) hnm
 have hm8 : m ≤ 8 := Nat.le_trans (Nat.le_mul_of_pos_left m hn) hnm
 have hin := fun f g => prodC_in (f := f) (g := g) hn hm
 have hq0 := fun k i => facQ_in hn hm k i
 have hr0 := fun k i => facR_in (n := n) hm k i
 obtain ⟨N, hN⟩ : ∃ N, N = n * m := ⟨_, rfl⟩
 have hN0 : 0 < N := by rw [hN]; exact Nat.mul_pos hn hm
 have hmul : (n : Int) * (m : Int) = (N : Int) := by rw [hN, Int.natCast_mul]
 rw [← hN] at hnm hin hq0 hr0 ⊢
 have hlB := ht.len
 refine pcallsC Tryz.func122 rfl Tryz.ntmps122 rfl ?_
 refine wF ?_
 repeat' (first
| refine wO ?_
| (refine o_go rfl ?_; (first
| refine p_e rfl (e_lit0S 3 rfl) ?_
| refine p_p (ps_mulV rfl rfl rfl hmul zz) ?_
| refine wS ?_
| refine p_e rfl (zO rfl rfl rfl rfl aK rfl rfl rfl) ?_
| refine p_e rfl (e_alloc rfl) ?_
| refine p_p (ps_box rfl rfl) ?_
| refine p_p (ps_build rfl rfl) ?_); refine ⟨_, aA, ?_⟩))
 refine g_loopF (α := Nat) [18, 19] (fun i => [(6, I (i : Int))]) (fun i => [.box [I 0, nilV], sgI (rowsO (prodK N n m A B i)), .box [I (N : Int), .hp 1]]) (fun i => i ≤ A.length) (fun i => A.length - i) 0 aH (Nat.zero_le _) ⟨rfl, trivial⟩ rfl ?_
 rintro i hi
 refine wH ?_
 have hll : ((rowsO (prodK N n m A B i)).map fun r => r.map I).length = i := by rw [rowsO_len, prodK_len]
 by_cases hil : i < A.length
 · have hq := opsK_at hil
   have hsn := prodK_succ N n m A B i
   have hfA := hA _ (opsK_mem hil)
   have hfB := hB _ (opsK_mem (show i < B.length by omega))
   have hat := ht.at i
   have v1 := fun args => sval_c n A i args (by omega) hAl hil
   have v2 := fun args => sval_c m B i args (by omega) (by omega) (by omega)
   have hF : prodF N n m (A.getD i default) (B.getD i default) = ⟨(A.getD i default).ar, prodT N n m (A.getD i default) (B.getD i default) (N ^ (A.getD i default).ar.toNat)⟩ := rfl
   generalize prodF N n m (A.getD i default) (B.getD i default) = F at *
   generalize A.getD i default = f at *
   generalize B.getD i default = g at *
   obtain ⟨a, ha⟩ : ∃ a : Nat, f.ar = a := ⟨f.ar.toNat, by omega⟩
   have haa : f.ar.toNat = a := by omega
   have hpw := pow_c N a (by omega) (by omega)
   have hpl := pow_le3 (show N ≤ 1000 by omega) (show a ≤ 3 by omega)
   have hbd := hin f g hfA hfB hat
   rw [haa] at hF
   rw [← ha] at hpw
   repeat' (first
| refine wO ?_
| (refine o_go rfl ?_; (first
| refine p_p (zN rfl rfl rfl zz hq ze) ?_
| refine p_e rfl (e_lit0T rfl zd) ?_
| refine wS ?_
| refine p_e rfl (zO rfl rfl rfl rfl aK rfl rfl rfl) ?_
| refine p_e rfl (e_alloc rfl) ?_
| refine p_p (ps_build rfl rfl) ?_); refine ⟨_, aA, ?_⟩)
| (refine zK rfl ?_ ?_ <;> intro hc <;> try omega)
| refine wE ?_)
   all_goals try (exfalso; omega)
   refine g_loopF (α := Nat) [33, 34] (fun j => [(8, I (j : Int))]) (fun j => [.box [I 0, nilV], sgI (rowsO (prodK N n m A B i)), .box [I (N : Int), .hp 1], .arr true 1 3 ((prodT N n m f g j).map I), .box [I f.ar, .hp 3]]) (fun j => j ≤ N ^ a) (fun j => N ^ a - j) 0 aH (Nat.zero_le _) ⟨rfl, trivial⟩ rfl ?_
   rintro j hj
   refine wH ?_
   have hlT : ((prodT N n m f g j).map I).length = j := by rw [List.length_map, prodT_len]
   by_cases hjl : j < N ^ a
   · have h2 := sargs_c N a j hN0 (by omega) (by omega) (by omega)
     rw [← ha] at h2
     have hal := argsL_len N a j
     have hain := argsL_in hN0 a j
     have c1 := v1 (facQ N m a j) (by rw [facQ_len]; omega) (hq0 a j) (by rw [facQ_len, ← haa]; exact hfA.2.2.1)
     have c2 := v2 (facR N m a j) (by rw [facR_len]; omega) (hr0 a j) (by rw [facR_len, ← haa, hat]; exact hfB.2.2.1)
     have hsT := prodT_succ N n m f g j
     have hC := hbd j
     have hCe : prodC N n m f g j = f.tb.getD (idxL n (facQ N m a j)).toNat 0 * m + g.tb.getD (idxL m (facR N m a j)).toNat 0 := by unfold prodC; rw [haa]
     have hA1 := tb_in hfA (l := facQ N m a j) (by rw [facQ_len, haa]) (hq0 a j)
     have hB1 := tb_in hfB (l := facR N m a j) (by rw [facR_len, ← hat, haa]) (hr0 a j)
     have hQ : facQ N m a j = (argsL N a j).map fun x => x / (m : Int) := rfl
     have hR : facR N m a j = (argsL N a j).map fun x => x % (m : Int) := rfl
     generalize f.tb.getD (idxL n (facQ N m a j)).toNat 0 = va at *
     generalize g.tb.getD (idxL m (facR N m a j)).toNat 0 = vb at *
     generalize facQ N m a j = X at *
     generalize facR N m a j = Y at *
     generalize argsL N a j = L at *
     have hvm : 0 ≤ va * (m : Int) := Int.mul_nonneg (by omega) (by omega)
     repeat' (first
| refine wO ?_
| (refine o_go rfl ?_; (first
| refine p_p (zG rfl rfl aD (hpw)) ?_
| refine p_p (zG rfl rfl aD (h2)) ?_
| refine wS ?_
| refine p_e rfl (e_lit0 rfl zd) ?_); refine ⟨_, aA, ?_⟩)
| (refine zK rfl ?_ ?_ <;> intro hc <;> try omega)
| refine wE ?_)
     all_goals try (exfalso; omega)
     refine g_loopF (α := Nat) [50, 51] (fun t => [(10, .hp 5), (11, .hp 6), (12, I (t : Int))]) (fun t => [.box [I 0, nilV], sgI (rowsO (prodK N n m A B i)), .box [I (N : Int), .hp 1], .arr true 1 3 ((prodT N n m f g j).map I), .box [I f.ar, .hp 3], .arr false 1 3 ((X.take t).map I), .arr false 1 3 ((Y.take t).map I)]) (fun t => t ≤ a) (fun t => a - t) 0 aH (Nat.zero_le _) ⟨rfl, rfl, rfl, trivial⟩ rfl ?_
     rintro t hta
     refine wH ?_
     have hlX : ((X.take t).map I).length = t := by rw [hQ]; simp; omega
     have hlY : ((Y.take t).map I).length = t := by rw [hR]; simp; omega
     by_cases htl : t < a
     · have hx := hain _ (getD_at (show t < L.length by omega))
       have sX : X.take (t + 1) = X.take t ++ [L.getD t 0 / (m : Int)] := by
        rw [take_snoc 0 (by rw [hQ, List.length_map]; omega), hQ]
        congr 2
        rw [List.getD_eq_getElem?_getD, List.getElem?_map, List.getD_eq_getElem?_getD, List.getElem?_eq_getElem (by omega)]; rfl
       have sY : Y.take (t + 1) = Y.take t ++ [L.getD t 0 % (m : Int)] := by
        rw [take_snoc 0 (by rw [hR, List.length_map]; omega), hR]
        congr 2
        rw [List.getD_eq_getElem?_getD, List.getElem?_map, List.getD_eq_getElem?_getD, List.getElem?_eq_getElem (by omega)]; rfl
       repeat' (first
| refine wO ?_
| refine zP zk zk ?_
| (refine o_go rfl ?_; (first
| refine p_p (ps_quo rfl rfl rfl zz zz zz) ?_
| refine p_p (ps_rem rfl rfl rfl zz zz) ?_
| refine wS ?_
| refine p_p (zN rfl rfl rfl zz aP ze) ?_
| refine p_e rfl (e_append rfl rfl rfl rfl rfl rfl (by first | exact one_one rfl | exact one_map (fun _ => rfl) _) rfl aT aT) ?_
| refine p_p (ps_lit1 rfl rfl (by rfl) (by rfl)) ?_); refine ⟨_, aA, ?_⟩)
| (refine zK rfl ?_ ?_ <;> intro hc <;> try omega)
| refine wE ?_)
       all_goals try (exfalso; omega)
       refine zT (t + 1) (by omega) (by omega) aI ⟨rfl, rfl, rfl, trivial⟩ (zB rfl (zB rfl (zB rfl (zB rfl (zB rfl (zB ?_ (zB ?_ (zM _))))))))
       · rw [sX, List.map_append]; rfl
       · rw [sY, List.map_append]; rfl
     · rw [List.take_of_length_le (show X.length ≤ t by rw [hQ, List.length_map]; omega), List.take_of_length_le (show Y.length ≤ t by rw [hR, List.length_map]; omega)]
       repeat' (first
| refine wO ?_
| (refine o_go rfl ?_; (first
| refine wS ?_); refine ⟨_, aA, ?_⟩)
| (refine zK rfl ?_ ?_ <;> intro hc <;> try omega)
| refine wE ?_)
       all_goals try (exfalso; omega)
       refine g_view1 10 ⟨_, aA, ?_⟩
       refine g_view1 11 ⟨_, aA, ?_⟩
       refine g_region_drawU [(0, some [3]), (1, some []), (2, some [3]), (3, some [3]), (4, some [3]), (5, some [3]), (6, some [3]), (7, some [3]), (8, some [3]), (9, some [3]), (10, some [3]), (11, some [3]), (12, some [3]), (13, none), (14, none), (15, none), (16, none), (17, none)] [(15, 3), (17, 999999)] (fun U hp => (∃ a, hp[4]? = some (.box [I f.ar, a])) ∧ (3 ∉ U → hp[4]? = some (.box [I f.ar, .hp 3]))) (by kernel_rfl) rfl (by kernel_rfl) ?_
       repeat' (first
| refine u_nil ?_
| ((first
| refine u_pure rfl rfl (fun hp hH => zH rfl rfl (hH.2 zd) rfl) aL aC zd aM ?_
| refine u_pure rfl rfl (fun hp hH => zG rfl rfl aD (c1)) aL aN zd aM ?_
| refine u_pure rfl rfl (fun hp hH => zG rfl rfl aD (c2)) aL aN zd aM ?_
| refine u_pure rfl rfl (fun hp hH => ps_mul rfl rfl rfl zz) aL aC zd aM ?_
| refine u_pure rfl rfl (fun _ _ => zD rfl) aL aC zd aM ?_
| refine u_pure rfl rfl (fun _ _ => zF rfl rfl) aL aC zd aM ?_
| refine u_pure rfl rfl (fun _ _ => ps_load_agg rfl rfl aK) aL aC zd aM ?_
| refine u_pure rfl rfl (fun _ _ => zL rfl rfl) aL aC zd aM ?_
| refine u_pure rfl rfl (fun _ _ => zE rfl rfl) aL aC zd aM ?_
| refine u_eff rfl rfl aF (j_pure (ps_add rfl rfl rfl zz)) (by first | exact fun _ hm hF _ => absurd (hm 999999 zd) hF | exact fun _ _ _ hh => hh | exact (fun _ hm _ _ => ⟨⟨_, rfl⟩, fun h => absurd (hm 3 zd) h⟩)) ?_
| refine u_eff rfl rfl aF (j_append rfl rfl rfl rfl rfl rfl (one_one rfl) rfl (by rw [hlT, n_len_c, n_len_n]; omega) (by rw [hlT, n_len_c, n_len_n]; omega)) (by first | exact fun _ hm hF _ => absurd (hm 999999 zd) hF | exact fun _ _ _ hh => hh | exact (fun _ hm _ _ => ⟨⟨_, rfl⟩, fun h => absurd (hm 3 zd) h⟩)) ?_
| refine u_eff rfl rfl aF (j_store_boxC rfl rfl rfl rfl aK rfl rfl) (by first | exact fun _ hm hF _ => absurd (hm 999999 zd) hF | exact fun _ _ _ hh => hh | exact (fun _ hm _ _ => ⟨⟨_, rfl⟩, fun h => absurd (hm 3 zd) h⟩)) ?_
| refine u_eff rfl rfl aF (j_pure (zE rfl rfl)) (by first | exact fun _ hm hF _ => absurd (hm 999999 zd) hF | exact fun _ _ _ hh => hh | exact (fun _ hm _ _ => ⟨⟨_, rfl⟩, fun h => absurd (hm 3 zd) h⟩)) ?_
| refine u_eff rfl rfl aF (j_pure (ps_lit1 rfl rfl (by rfl) (by rfl))) (by first | exact fun _ hm hF _ => absurd (hm 999999 zd) hF | exact fun _ _ _ hh => hh | exact (fun _ hm _ _ => ⟨⟨_, rfl⟩, fun h => absurd (hm 3 zd) h⟩)) ?_); refine ⟨_, aS, ?_⟩))
       repeat' (first
| refine wO ?_
| (refine o_go rfl ?_; (first
| refine wS ?_); refine ⟨_, aA, ?_⟩))
       all_goals try (exfalso; omega)
       refine zT (j + 1) (by omega) (by omega) aI ⟨rfl, trivial⟩ (zB rfl (zB rfl (zB rfl (zB ?_ (zB rfl (zM _))))))
       rw [hsT, List.map_append, hCe]; rfl
   · have hje : j = N ^ a := by omega
     rw [hje] at hlT ⊢
     repeat' (first
| refine wO ?_
| (refine o_go rfl ?_; (first
| refine p_p (zG rfl rfl aD (hpw)) ?_
| refine p_e rfl (e_lit1S rfl rfl rfl (one_all (fun _ => rfl) _) rfl) ?_
| refine p_e rfl (e_append_sg rfl rfl rfl rfl rfl rfl zd (by rw [hll, n_len_c, n_len_n]; omega) (by rw [hll, n_len_c, n_len_n]; omega)) ?_
| refine wS ?_
| refine p_e rfl (e_store_boxC rfl rfl rfl rfl aK rfl rfl) ?_); refine ⟨_, aA, ?_⟩)
| (refine zK rfl ?_ ?_ <;> intro hc <;> try omega)
| refine wE ?_)
     all_goals try (exfalso; omega)
     refine zT (i + 1) (by omega) (by omega) aI ⟨rfl, trivial⟩ (zB rfl (zB ?_ (zB rfl (zM _))))
     rw [hsn, sgI, snoc_ops, hF]
 · rw [show i = A.length by omega]
   repeat' (first
| refine krc (krC_le rfl aK rfl (le_algG _ _))
| refine wO ?_
| (refine o_go rfl ?_; (first
| refine wS ?_
| refine p_e rfl (zO rfl rfl rfl rfl aK rfl rfl rfl) ?_); refine ⟨_, aA, ?_⟩)
| (refine zK rfl ?_ ?_ <;> intro hc <;> try omega)
| refine wE ?_)
   all_goals (exfalso; omega)
end Go.Proofs.YtbohjibbgppfaaaGreat
