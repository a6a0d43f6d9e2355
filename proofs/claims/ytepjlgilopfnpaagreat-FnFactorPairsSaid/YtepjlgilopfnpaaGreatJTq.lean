/- Walks: products of algebras, the program's side. -/
import Derived.Test.YtepjlgilopfnpaaGreatJVd
import Derived.Test.YtepjlgilopfnpaaGreatJTm
import Derived.Test.YtepjlgilopfnpaaGreatJVe
namespace Go.Proofs.YtepjlgilopfnpaaGreat
open Go Go.Pv Go.Proofs
set_option maxHeartbeats 32000000
set_option maxRecDepth 100000
attribute [local bitvec_to_nat] posI optP lendM1 lendMA lendMP killM1 killMA killMP hasI getO backM1 backMA backMP putL inpM pinM1 pinMA pinMP killR1 killRA killR

theorem idx_take {n : Nat} {L : List Int} (hn : n ≤ 8) (h : ∀ x ∈ L, 0 ≤ x ∧ x < (n : Int)) (hl : L.length ≤ 3) {t : Nat} (ht : t < L.length) :
 ∃ l x : Nat, idxL n (L.take t) = (l : Int) ∧ L.getD t 0 = (x : Int) ∧ x < n ∧ l ≤ 512 ∧ l * n ≤ 4096 ∧ idxL n (L.take (t + 1)) = ((l * n + x : Nat) : Int) := by
 have hx := h _ (getD_at (l := L) (i := t) ht)
 have hb := idxL_bound (L.take t) (fun x hx => h x (List.mem_of_mem_take hx))
 have hp : n ^ (L.take t).length ≤ 512 := Nat.le_trans (Nat.pow_le_pow_left hn _) (Nat.le_trans (Nat.pow_le_pow_right (by decide) (show _ ≤ 3 by rw [List.length_take]; omega)) (by decide))
 refine ⟨(idxL n (L.take t)).toNat, (L.getD t 0).toNat, by omega, by omega, by omega, by omega, Nat.le_trans (Nat.mul_le_mul (show _ ≤ 512 by omega) hn) (by decide), ?_⟩
 rw [take_snoc 0 ht, idxL_snoc, Int.natCast_add, Int.natCast_mul]
 rw [Int.toNat_of_nonneg hb.1, Int.toNat_of_nonneg hx.1]
theorem prd_step {n m : Nat} {A Z : List OpD} (hn : 0 < n) (hm : 0 < m) (hA : opsIn n A) (hZ : opsIn m Z) (ht : sameT A Z) {k : Nat} (hk : k < A.length) (j : Nat) :
 ∃ X Y u v : Nat, X < n ^ (A.getD k default).ar.toNat ∧ Y < m ^ (A.getD k default).ar.toNat ∧ idxL n (facQ (n * m) m (A.getD k default).ar.toNat j) = (X : Int) ∧ idxL m (facR (n * m) m (A.getD k default).ar.toNat j) = (Y : Int) ∧
  (A.getD k default).tb.getD X 0 = (u : Int) ∧ (Z.getD k default).tb.getD Y 0 = (v : Int) ∧ u < n ∧ v < m ∧ prodC (n * m) n m (A.getD k default) (Z.getD k default) j = ((u * m + v : Nat) : Int) := by
 have hfA := hA _ (opsK_mem hk)
 have hfZ := hZ _ (opsK_mem (show k < Z.length by rw [← ht.len]; exact hk))
 have hat := ht.at k
 generalize A.getD k default = f at *
 generalize Z.getD k default = g at *
 have b1 := idxL_bound _ (facQ_in hn hm f.ar.toNat j)
 have b2 := idxL_bound _ (facR_in (n := n) hm f.ar.toNat j)
 rw [facQ_len] at b1
 rw [facR_len] at b2
 have v1 := hfA.2.2.2 (idxL n (facQ (n * m) m f.ar.toNat j)).toNat (by omega)
 have v2 := hfZ.2.2.2 (idxL m (facR (n * m) m f.ar.toNat j)).toNat (by rw [← hat]; omega)
 unfold bk at v1 v2
 refine ⟨(idxL n (facQ (n * m) m f.ar.toNat j)).toNat, (idxL m (facR (n * m) m f.ar.toNat j)).toNat, (f.tb.getD (idxL n (facQ (n * m) m f.ar.toNat j)).toNat 0).toNat, (g.tb.getD (idxL m (facR (n * m) m f.ar.toNat j)).toNat 0).toNat, by omega, by omega, by omega, by omega, by omega, by omega, by omega, by omega, ?_⟩
 unfold prodC
 rw [Int.natCast_add, Int.natCast_mul, Int.toNat_of_nonneg v1.1, Int.toNat_of_nonneg v2.1]
def aPown (N n m : Nat) (A Z : List OpD) : Nat → List HO
 | 0 => [.box [I 0, nilV], .box [I (N : Int), nilV]]
 | i + 1 => [.box [I 0, nilV], .box [I (N : Int), .hp 6], .gone, .gone, .gone, .gone, sgI (rowsO (prodK N n m A Z (i + 1)))]

theorem iprdt_c (n m : Nat) (A Z : List OpD) (hn : 0 < n) (hm : 0 < m) (hnm : n * m ≤ 8) (hl : A.length ≤ 1048576) (hA : opsIn n A) (hZ : opsIn m Z) (ht : sameT A Z) : PCalls Tryz.prog 71 [algP n A, algP m Z] (algP ((n * m : Nat) : Int) (prodL n m A Z)) := by
 have hlZ := ht.len
 have hn8 : n ≤ 8 := Nat.le_trans (Nat.le_mul_of_pos_right n hm) hnm
 have hm8 : m ≤ 8 := Nat.le_trans (Nat.le_mul_of_pos_left m hn) hnm
 have hN0 := Nat.mul_pos hn hm
 have hNm : (n : Int) * (m : Int) = ((n * m : Nat) : Int) := by rw [Int.natCast_mul]
 refine pcallsC Tryz.func71 rfl Tryz.ntmps71 rfl ?_
 refine wF ?_
 unfold prodL
 obtain ⟨N, hNe⟩ : ∃ N, n * m = N := ⟨_, rfl⟩
 rw [hNe] at hnm hN0 hNm ⊢
 repeat' (first
| refine wO ?_
| (refine o_go rfl ?_; (first
| refine p_p (ps_mulV rfl rfl rfl hNm zz) ?_
| refine wS ?_
| refine p_e rfl (zO rfl rfl rfl rfl aK rfl rfl rfl) ?_
| refine p_e rfl (e_alloc rfl) ?_
| refine p_p (ps_box rfl rfl) ?_
| refine p_p (ps_build rfl rfl) ?_); refine ⟨_, aB, ?_⟩))
 refine g_loopT (α := Nat) (fun i => [(23, I (i : Int))]) (fun i => aPown N n m A Z i) (fun i => i ≤ A.length) (fun i => A.length - i) 0 aH (Nat.zero_le _) ⟨rfl, trivial⟩ rfl ?_
 rintro i hi
 refine wH ?_
 have hll : ((rowsO (prodK N n m A Z i)).map fun r => r.map I).length = i := by rw [rowsO_len, prodK_len]
 by_cases hil : i < A.length
 · cases i with
   | zero =>
    dsimp only [aPown]
    have hq := opsK_at (show 0 < A.length by omega)
    have hqZ := opsK_at (show 0 < Z.length by omega)
    have hsn := prodK_succ N n m A Z 0
    have hfA := hA _ (opsK_mem (show 0 < A.length by omega))
    have hfZ := hZ _ (opsK_mem (show 0 < Z.length by omega))
    have hat := ht.at 0
    have hst := fun j => prd_step hn hm hA hZ ht (show 0 < A.length by omega) j
    have hFe : prodF N n m (A.getD 0 default) (Z.getD 0 default) = ⟨(A.getD 0 default).ar, prodT N n m (A.getD 0 default) (Z.getD 0 default) (N ^ (A.getD 0 default).ar.toNat)⟩ := rfl
    generalize prodF N n m (A.getD 0 default) (Z.getD 0 default) = F at *
    generalize A.getD 0 default = f at *
    generalize Z.getD 0 default = fz at *
    obtain ⟨a, ha⟩ : ∃ a : Nat, f.ar = a := ⟨f.ar.toNat, by omega⟩
    have haa : f.ar.toNat = a := by omega
    have haZ : fz.ar.toNat = a := by omega
    rw [haa] at hFe hst
    have hpw := power_c N a (by omega) (by omega)
    have hpl := pow_le3 (show N ≤ 1000 by omega) (show a ≤ 3 by omega)
    have hpos : 0 < N ^ a := Nat.pow_pos hN0
    have hTl := fun j => prodT_len N n m f fz j
    have hTs := fun j => prodT_succ N n m f fz j
    rw [hNe] at hst
    obtain ⟨T, hT⟩ : ∃ T, T = N ^ a := ⟨_, rfl⟩
    rw [← hT] at hpw hpl hpos hFe
    rw [← ha] at hpw
    repeat' ((fail_if_success (refine at_reg1 5 ?_)); (first
| refine wO ?_
| (refine o_go rfl ?_; (first
| refine p_p (zN rfl rfl rfl zz hq ze) ?_
| refine wS ?_
| refine p_p (ps_load_agg rfl rfl aK) ?_
| refine p_e rfl (zO rfl rfl rfl rfl aK rfl rfl rfl) ?_
| refine p_e rfl (e_alloc rfl) ?_); refine ⟨_, aB, ?_⟩)
| (refine zK rfl ?_ ?_ <;> intro hc <;> try omega)
| refine zR ?_))
    all_goals try (exfalso; omega)
    refine at_reg1 5 ?_
    repeat' (first
| refine g_settle 2 rfl (by dsimp only [setlP, setl1, setlH, bitvec_to_nat, Nat.reduceAdd, Nat.reduceMul, Nat.reduceBEq, reduceCtorEq]) ?_
| refine wO ?_
| (refine o_go rfl ?_; (first
| refine wS ?_
| refine p_e rfl (zO rfl rfl rfl rfl aK rfl rfl rfl) ?_
| refine p_e rfl (e_alloc rfl) ?_
| refine p_p (ps_build rfl rfl) ?_); refine ⟨_, aB, ?_⟩))
    refine g_loopT (α := Nat) (fun j => [(9, I (j : Int))]) (fun j => tQi [HO.box [I 0, nilV], HO.box [I (N : Int), nilV]] 4 f.ar (prodT N n m f fz) j) (fun j => j ≤ T) (fun j => T - j) 0 aH (Nat.zero_le _) ⟨rfl, trivial⟩ rfl ?_
    rintro j hj
    refine wH ?_
    have hlT : ((prodT N n m f fz j).map I).length = j := by rw [List.length_map, hTl]
    by_cases hjl : j < T
    · obtain ⟨X, Y, u, v, hXl, hYl, hX, hY, e5, e6, hu, hv, hC⟩ := hst j
      have hal := argsL_len N a j
      have hain := argsL_in hN0 a j
      have c1 := iargs_c N a j hN0 (by omega) (by omega) (by omega)
      rw [← ha] at c1
      have i5 := row_atY (p := f.tb) (x := X) (by rw [hfA.2.2.1, haa]; exact hXl)
      rw [e5] at i5
      have i6 := row_atY (p := fz.tb) (x := Y) (by rw [hfZ.2.2.1, haZ]; exact hYl)
      rw [e6] at i6
      have hsT := hTs j
      rw [hC] at hsT
      have hLQi := facQ_in hn hm a j
      have hLRi := facR_in (n := n) hm a j
      have hLQl := facQ_len N m a j
      have hLRl := facR_len N m a j
      rw [hNe] at hLQi hLRi
      have hQat : ∀ t, t < a → (argsL N a j).getD t 0 / (m : Int) = (facQ N m a j).getD t 0 := fun t ht => by
       unfold facQ
       rw [List.getD_eq_getElem?_getD, List.getD_eq_getElem?_getD, List.getElem?_map, List.getElem?_eq_getElem (by omega)]; rfl
      have hRat : ∀ t, t < a → (argsL N a j).getD t 0 % (m : Int) = (facR N m a j).getD t 0 := fun t ht => by
       unfold facR
       rw [List.getD_eq_getElem?_getD, List.getD_eq_getElem?_getD, List.getElem?_map, List.getElem?_eq_getElem (by omega)]; rfl
      generalize facQ N m a j = LQ at *
      generalize facR N m a j = LR at *
      generalize argsL N a j = L0 at *
      have hum : u * m ≤ 64 := Nat.le_trans (Nat.mul_le_mul (show u ≤ 8 by omega) hm8) (by decide)
      have e1 : (u : Int) * (m : Int) = ((u * m : Nat) : Int) := by rw [Int.natCast_mul]
      have e2 : ((u * m : Nat) : Int) + (v : Int) = ((u * m + v : Nat) : Int) := by rw [Int.natCast_add]
      generalize u * m = um at *
      cases j with
      | zero =>
       dsimp only [tQi, List.cons_append, List.nil_append]
       repeat' (first
| refine wO ?_
| (refine o_go rfl ?_; (first
| refine p_p (zG rfl rfl aD (hpw)) ?_
| refine p_p (zG rfl rfl aD (c1)) ?_
| refine wS ?_); refine ⟨_, aB, ?_⟩)
| (refine zK rfl ?_ ?_ <;> intro hc <;> try omega)
| refine wE ?_)
       all_goals try (exfalso; omega)
       refine g_loopT (α := Nat) (fun t => [(10, I (idxL n (LQ.take t))), (11, I (idxL m (LR.take t))), (47, I (t : Int))]) (fun _ => [HO.box [I 0, nilV], HO.box [I (N : Int), nilV], HO.gone, HO.box [I f.ar, nilV]]) (fun t => t ≤ a) (fun t => a - t) 0 aH (Nat.zero_le _) ⟨rfl, rfl, rfl, trivial⟩ rfl ?_
       rintro t hta
       refine wH ?_
       by_cases htl : t < a
       · obtain ⟨l1, x1, k1, k2, k3, k4, k5, k6⟩ := idx_take hn8 hLQi (by omega) (t := t) (by omega)
         obtain ⟨l2, x2, r1, r2, r3, r4, r5, r6⟩ := idx_take hm8 hLRi (by omega) (t := t) (by omega)
         have i1 := row_atY (p := L0) (x := t) (by omega)
         have hx := hain _ (getD_at (l := L0) (i := t) (by omega))
         have q1 := hQat t (by omega)
         have q2 := hRat t (by omega)
         rw [k2] at q1
         rw [r2] at q2
         rw [k1, r1]
         have m1 : (l1 : Int) * (n : Int) = ((l1 * n : Nat) : Int) := by rw [Int.natCast_mul]
         have m2 : (l2 : Int) * (m : Int) = ((l2 * m : Nat) : Int) := by rw [Int.natCast_mul]
         generalize l1 * n = p1 at *
         generalize l2 * m = p2 at *
         generalize L0.getD t 0 = x at *
         have a1 : (p1 : Int) + (x1 : Int) = ((p1 + x1 : Nat) : Int) := by omega
         have a2 : (p2 : Int) + (x2 : Int) = ((p2 + x2 : Nat) : Int) := by omega
         repeat' (first
| refine wO ?_
| refine zP zk zk ?_
| (refine o_go rfl ?_; (first
| refine p_p (zN rfl rfl rfl zz i1 ze) ?_
| refine p_p (ps_mulV rfl rfl rfl m1 zz) ?_
| refine p_p (ps_mulV rfl rfl rfl m2 zz) ?_
| refine p_p (ps_quoV rfl rfl rfl q1 zz zz zz) ?_
| refine p_p (ps_remV rfl rfl rfl q2 zz zz) ?_
| refine p_p (ps_addV rfl rfl rfl a1 zz) ?_
| refine p_p (ps_addV rfl rfl rfl a2 zz) ?_
| refine wS ?_); refine ⟨_, aB, ?_⟩)
| (refine zK rfl ?_ ?_ <;> intro hc <;> try omega)
| refine wE ?_)
         all_goals try (exfalso; omega)
         exact zT (t + 1) (by omega) (by omega) aI ⟨vI k6.symm, vI r6.symm, rfl, trivial⟩ (hpLe_refl _)
       · rw [List.take_of_length_le (show LQ.length ≤ t by omega), List.take_of_length_le (show LR.length ≤ t by omega), hX, hY]
         repeat' (first
| refine wO ?_
| (refine o_go rfl ?_; (first
| refine wS ?_); refine ⟨_, aB, ?_⟩)
| (refine zK rfl ?_ ?_ <;> intro hc <;> try omega)
| refine wE ?_)
         all_goals try (exfalso; omega)
         refine g_region_drawZ [(0, some [4]), (1, some [4]), (2, some [4]), (3, some [4]), (4, some [4]), (5, some [4]), (6, some [4]), (7, some [4]), (8, some [4]), (9, some [4]), (10, some [4]), (11, some [4]), (12, some [4]), (13, some [4]), (14, some [4]), (15, some [4]), (16, some [4]), (17, some [4]), (18, some [4]), (19, some [4]), (20, none), (21, none), (22, none), (23, none)] [(21, 4), (23, 999999)] (fun hp => hp[3]? = some (.box [I f.ar, nilV])) (by kernel_rfl) rfl (by kernel_rfl) ?_
         repeat' (first
| refine z_nil ?_
| ((first
| refine zV rfl rfl (fun hp hH => zH rfl rfl hH rfl) aJ aC zd aA ?_
| refine zV rfl rfl (fun hp hH => zN rfl rfl rfl zz i5 ze) aJ aC zd aA ?_
| refine zV rfl rfl (fun hp hH => zN rfl rfl rfl zz hqZ ze) aJ aC zd aA ?_
| refine zV rfl rfl (fun hp hH => zN rfl rfl rfl zz i6 ze) aJ aC zd aA ?_
| refine zV rfl rfl (fun hp hH => ps_mulV rfl rfl rfl e1 zz) aJ aC zd aA ?_
| refine zV rfl rfl (fun hp hH => ps_addV rfl rfl rfl e2 zz) aJ aC zd aA ?_
| refine zV rfl rfl (fun _ _ => zD rfl) aJ aC zd aA ?_
| refine zV rfl rfl (fun _ _ => zF rfl rfl) aJ aC zd aA ?_
| refine zV rfl rfl (fun _ _ => zL rfl rfl) aJ aC zd aA ?_
| refine zV rfl rfl (fun _ _ => zE rfl rfl) aJ aC zd aA ?_
| refine z_eff rfl rfl aF (j_appendNil rfl rfl rfl rfl (one_one rfl) zd rfl zn zn zn) aG ?_
| refine z_eff rfl rfl aF (j_store_boxC rfl rfl rfl rfl aK rfl rfl) aG ?_
| refine z_eff rfl rfl aF (j_pure (zE rfl rfl)) aG ?_
| refine z_eff rfl rfl aF (j_pure (ps_lit1 rfl rfl (by rfl) (by rfl))) aG ?_); refine ⟨_, aP, ?_⟩))
         repeat' (first
| refine wO ?_
| (refine o_go rfl ?_; (first
| refine wS ?_); refine ⟨_, aB, ?_⟩))
         all_goals try (exfalso; omega)
         exact zT 1 (by omega) (by omega) aI ⟨rfl, trivial⟩ (zB rfl (zB rfl (hpLe_gone (zB rfl (zB (by rw [hsT]; rfl) (zM _))))))
      | succ j =>
       dsimp only [tQi, List.cons_append, List.nil_append]
       repeat' (first
| refine wO ?_
| (refine o_go rfl ?_; (first
| refine p_p (zG rfl rfl aD (hpw)) ?_
| refine p_p (zG rfl rfl aD (c1)) ?_
| refine wS ?_); refine ⟨_, aB, ?_⟩)
| (refine zK rfl ?_ ?_ <;> intro hc <;> try omega)
| refine wE ?_)
       all_goals try (exfalso; omega)
       refine g_loopT (α := Nat) (fun t => [(10, I (idxL n (LQ.take t))), (11, I (idxL m (LR.take t))), (47, I (t : Int))]) (fun _ => [HO.box [I 0, nilV], HO.box [I (N : Int), nilV], HO.gone, HO.box [I f.ar, PV.hp 4], HO.arr true 1 3 ((prodT N n m f fz (j + 1)).map I)]) (fun t => t ≤ a) (fun t => a - t) 0 aH (Nat.zero_le _) ⟨rfl, rfl, rfl, trivial⟩ rfl ?_
       rintro t hta
       refine wH ?_
       by_cases htl : t < a
       · obtain ⟨l1, x1, k1, k2, k3, k4, k5, k6⟩ := idx_take hn8 hLQi (by omega) (t := t) (by omega)
         obtain ⟨l2, x2, r1, r2, r3, r4, r5, r6⟩ := idx_take hm8 hLRi (by omega) (t := t) (by omega)
         have i1 := row_atY (p := L0) (x := t) (by omega)
         have hx := hain _ (getD_at (l := L0) (i := t) (by omega))
         have q1 := hQat t (by omega)
         have q2 := hRat t (by omega)
         rw [k2] at q1
         rw [r2] at q2
         rw [k1, r1]
         have m1 : (l1 : Int) * (n : Int) = ((l1 * n : Nat) : Int) := by rw [Int.natCast_mul]
         have m2 : (l2 : Int) * (m : Int) = ((l2 * m : Nat) : Int) := by rw [Int.natCast_mul]
         generalize l1 * n = p1 at *
         generalize l2 * m = p2 at *
         generalize L0.getD t 0 = x at *
         have a1 : (p1 : Int) + (x1 : Int) = ((p1 + x1 : Nat) : Int) := by omega
         have a2 : (p2 : Int) + (x2 : Int) = ((p2 + x2 : Nat) : Int) := by omega
         repeat' (first
| refine wO ?_
| refine zP zk zk ?_
| (refine o_go rfl ?_; (first
| refine p_p (zN rfl rfl rfl zz i1 ze) ?_
| refine p_p (ps_mulV rfl rfl rfl m1 zz) ?_
| refine p_p (ps_mulV rfl rfl rfl m2 zz) ?_
| refine p_p (ps_quoV rfl rfl rfl q1 zz zz zz) ?_
| refine p_p (ps_remV rfl rfl rfl q2 zz zz) ?_
| refine p_p (ps_addV rfl rfl rfl a1 zz) ?_
| refine p_p (ps_addV rfl rfl rfl a2 zz) ?_
| refine wS ?_); refine ⟨_, aB, ?_⟩)
| (refine zK rfl ?_ ?_ <;> intro hc <;> try omega)
| refine wE ?_)
         all_goals try (exfalso; omega)
         exact zT (t + 1) (by omega) (by omega) aI ⟨vI k6.symm, vI r6.symm, rfl, trivial⟩ (hpLe_refl _)
       · rw [List.take_of_length_le (show LQ.length ≤ t by omega), List.take_of_length_le (show LR.length ≤ t by omega), hX, hY]
         repeat' (first
| refine wO ?_
| (refine o_go rfl ?_; (first
| refine wS ?_); refine ⟨_, aB, ?_⟩)
| (refine zK rfl ?_ ?_ <;> intro hc <;> try omega)
| refine wE ?_)
         all_goals try (exfalso; omega)
         refine g_region_drawU [(0, some [4]), (1, some []), (2, some [4]), (3, some [4]), (4, some [4]), (5, some [4]), (6, some [4]), (7, some [4]), (8, some [4]), (9, some [4]), (10, some [4]), (11, some [4]), (12, some [4]), (13, some [4]), (14, some [4]), (15, some [4]), (16, some [4]), (17, some [4]), (18, some [4]), (19, some [4]), (20, none), (21, none), (22, none), (23, none)] [(21, 4), (23, 999999)] (fun U hp => (∃ a, hp[3]? = some (.box [I f.ar, a])) ∧ (4 ∉ U → hp[3]? = some (.box [I f.ar, .hp 4]))) (by kernel_rfl) rfl (by kernel_rfl) ?_
         repeat' (first
| refine u_nil ?_
| ((first
| refine u_pure rfl rfl (fun hp hH => zH rfl rfl (hH.2 zd) rfl) aJ aC zd aN ?_
| refine u_pure rfl rfl (fun hp hH => zN rfl rfl rfl zz i5 ze) aJ aC zd aN ?_
| refine u_pure rfl rfl (fun hp hH => zN rfl rfl rfl zz hqZ ze) aJ aC zd aN ?_
| refine u_pure rfl rfl (fun hp hH => zN rfl rfl rfl zz i6 ze) aJ aC zd aN ?_
| refine u_pure rfl rfl (fun hp hH => ps_mulV rfl rfl rfl e1 zz) aJ aC zd aN ?_
| refine u_pure rfl rfl (fun hp hH => ps_addV rfl rfl rfl e2 zz) aJ aC zd aN ?_
| refine u_pure rfl rfl (fun _ _ => zD rfl) aJ aC zd aN ?_
| refine u_pure rfl rfl (fun _ _ => zF rfl rfl) aJ aC zd aN ?_
| refine u_pure rfl rfl (fun _ _ => zL rfl rfl) aJ aC zd aN ?_
| refine u_pure rfl rfl (fun _ _ => zE rfl rfl) aJ aC zd aN ?_
| refine u_eff rfl rfl aF (j_append rfl rfl rfl rfl rfl rfl (one_one rfl) rfl (by rw [hlT, n_len_c, n_len_n]; omega) (by rw [hlT, n_len_c, n_len_n]; omega)) (by first | exact fun _ hm hF _ => absurd (hm 999999 zd) hF | exact fun _ _ _ hh => hh | exact (fun _ hm _ _ => ⟨⟨_, rfl⟩, fun h => absurd (hm 4 zd) h⟩)) ?_
| refine u_eff rfl rfl aF (j_store_boxC rfl rfl rfl rfl aK rfl rfl) (by first | exact fun _ hm hF _ => absurd (hm 999999 zd) hF | exact fun _ _ _ hh => hh | exact (fun _ hm _ _ => ⟨⟨_, rfl⟩, fun h => absurd (hm 4 zd) h⟩)) ?_
| refine u_eff rfl rfl aF (j_pure (zE rfl rfl)) (by first | exact fun _ hm hF _ => absurd (hm 999999 zd) hF | exact fun _ _ _ hh => hh | exact (fun _ hm _ _ => ⟨⟨_, rfl⟩, fun h => absurd (hm 4 zd) h⟩)) ?_
| refine u_eff rfl rfl aF (j_pure (ps_lit1 rfl rfl (by rfl) (by rfl))) (by first | exact fun _ hm hF _ => absurd (hm 999999 zd) hF | exact fun _ _ _ hh => hh | exact (fun _ hm _ _ => ⟨⟨_, rfl⟩, fun h => absurd (hm 4 zd) h⟩)) ?_); refine ⟨_, aP, ?_⟩))
         repeat' (first
| refine wO ?_
| (refine o_go rfl ?_; (first
| refine wS ?_); refine ⟨_, aB, ?_⟩))
         all_goals try (exfalso; omega)
         exact zT (j + 2) (by omega) (by omega) aI ⟨rfl, trivial⟩ (zB rfl (zB rfl (hpLe_gone (zB rfl (zB (by rw [hsT, List.map_append]; rfl) (zM _))))))
    · obtain rfl : j = T := by omega
      obtain ⟨T', rfl⟩ : ∃ T', j = T' + 1 := ⟨j - 1, by omega⟩
      dsimp only [tQi, List.cons_append, List.nil_append]
      repeat' (first
| refine wO ?_
| (refine o_go rfl ?_; (first
| refine p_p (zG rfl rfl aD (hpw)) ?_
| refine p_e rfl (e_lit1S rfl rfl rfl (one_all (fun _ => rfl) _) rfl) ?_
| refine p_e rfl (e_appendNilS rfl rfl rfl rfl rfl (by exact Nat.succ_pos _) zn zn) ?_
| refine wS ?_
| refine p_e rfl (e_store_boxC rfl rfl rfl rfl aK rfl rfl) ?_); refine ⟨_, aB, ?_⟩)
| (refine zK rfl ?_ ?_ <;> intro hc <;> try omega)
| refine wE ?_)
      all_goals try (exfalso; omega)
      refine zT 1 (by omega) (by omega) aI ⟨rfl, trivial⟩ (zB rfl (zB rfl (hpLe_gone (hpLe_gone (hpLe_gone (hpLe_gone (zB ?_ (zM _))))))))
      rw [hsn, sgI, snoc_ops, hFe]; rfl
   | succ i =>
    dsimp only [aPown]
    have hq := opsK_at (show (i + 1) < A.length by omega)
    have hqZ := opsK_at (show (i + 1) < Z.length by omega)
    have hsn := prodK_succ N n m A Z (i + 1)
    have hfA := hA _ (opsK_mem (show (i + 1) < A.length by omega))
    have hfZ := hZ _ (opsK_mem (show (i + 1) < Z.length by omega))
    have hat := ht.at (i + 1)
    have hst := fun j => prd_step hn hm hA hZ ht (show (i + 1) < A.length by omega) j
    have hFe : prodF N n m (A.getD (i + 1) default) (Z.getD (i + 1) default) = ⟨(A.getD (i + 1) default).ar, prodT N n m (A.getD (i + 1) default) (Z.getD (i + 1) default) (N ^ (A.getD (i + 1) default).ar.toNat)⟩ := rfl
    generalize prodF N n m (A.getD (i + 1) default) (Z.getD (i + 1) default) = F at *
    generalize A.getD (i + 1) default = f at *
    generalize Z.getD (i + 1) default = fz at *
    obtain ⟨a, ha⟩ : ∃ a : Nat, f.ar = a := ⟨f.ar.toNat, by omega⟩
    have haa : f.ar.toNat = a := by omega
    have haZ : fz.ar.toNat = a := by omega
    rw [haa] at hFe hst
    have hpw := power_c N a (by omega) (by omega)
    have hpl := pow_le3 (show N ≤ 1000 by omega) (show a ≤ 3 by omega)
    have hpos : 0 < N ^ a := Nat.pow_pos hN0
    have hTl := fun j => prodT_len N n m f fz j
    have hTs := fun j => prodT_succ N n m f fz j
    rw [hNe] at hst
    obtain ⟨T, hT⟩ : ∃ T, T = N ^ a := ⟨_, rfl⟩
    rw [← hT] at hpw hpl hpos hFe
    rw [← ha] at hpw
    repeat' ((fail_if_success (refine at_reg1 5 ?_)); (first
| refine wO ?_
| (refine o_go rfl ?_; (first
| refine p_p (zN rfl rfl rfl zz hq ze) ?_
| refine wS ?_
| refine p_p (ps_load_agg rfl rfl aK) ?_
| refine p_e rfl (zO rfl rfl rfl rfl aK rfl rfl rfl) ?_
| refine p_e rfl (e_alloc rfl) ?_); refine ⟨_, aB, ?_⟩)
| (refine zK rfl ?_ ?_ <;> intro hc <;> try omega)
| refine zR ?_))
    all_goals try (exfalso; omega)
    refine at_reg1 5 ?_
    repeat' (first
| refine g_settle 7 rfl (by dsimp only [setlP, setl1, setlH, bitvec_to_nat, Nat.reduceAdd, Nat.reduceMul, Nat.reduceBEq, reduceCtorEq]) ?_
| refine wO ?_
| (refine o_go rfl ?_; (first
| refine wS ?_
| refine p_e rfl (zO rfl rfl rfl rfl aK rfl rfl rfl) ?_
| refine p_e rfl (e_alloc rfl) ?_
| refine p_p (ps_build rfl rfl) ?_); refine ⟨_, aB, ?_⟩))
    refine g_loopT (α := Nat) (fun j => [(9, I (j : Int))]) (fun j => tQi [HO.box [I 0, nilV], HO.box [I (N : Int), PV.hp 6], HO.gone, HO.gone, HO.gone, HO.gone, sgI (rowsO (prodK N n m A Z (i + 1)))] 9 f.ar (prodT N n m f fz) j) (fun j => j ≤ T) (fun j => T - j) 0 aH (Nat.zero_le _) ⟨rfl, trivial⟩ rfl ?_
    rintro j hj
    refine wH ?_
    have hlT : ((prodT N n m f fz j).map I).length = j := by rw [List.length_map, hTl]
    by_cases hjl : j < T
    · obtain ⟨X, Y, u, v, hXl, hYl, hX, hY, e5, e6, hu, hv, hC⟩ := hst j
      have hal := argsL_len N a j
      have hain := argsL_in hN0 a j
      have c1 := iargs_c N a j hN0 (by omega) (by omega) (by omega)
      rw [← ha] at c1
      have i5 := row_atY (p := f.tb) (x := X) (by rw [hfA.2.2.1, haa]; exact hXl)
      rw [e5] at i5
      have i6 := row_atY (p := fz.tb) (x := Y) (by rw [hfZ.2.2.1, haZ]; exact hYl)
      rw [e6] at i6
      have hsT := hTs j
      rw [hC] at hsT
      have hLQi := facQ_in hn hm a j
      have hLRi := facR_in (n := n) hm a j
      have hLQl := facQ_len N m a j
      have hLRl := facR_len N m a j
      rw [hNe] at hLQi hLRi
      have hQat : ∀ t, t < a → (argsL N a j).getD t 0 / (m : Int) = (facQ N m a j).getD t 0 := fun t ht => by
       unfold facQ
       rw [List.getD_eq_getElem?_getD, List.getD_eq_getElem?_getD, List.getElem?_map, List.getElem?_eq_getElem (by omega)]; rfl
      have hRat : ∀ t, t < a → (argsL N a j).getD t 0 % (m : Int) = (facR N m a j).getD t 0 := fun t ht => by
       unfold facR
       rw [List.getD_eq_getElem?_getD, List.getD_eq_getElem?_getD, List.getElem?_map, List.getElem?_eq_getElem (by omega)]; rfl
      generalize facQ N m a j = LQ at *
      generalize facR N m a j = LR at *
      generalize argsL N a j = L0 at *
      have hum : u * m ≤ 64 := Nat.le_trans (Nat.mul_le_mul (show u ≤ 8 by omega) hm8) (by decide)
      have e1 : (u : Int) * (m : Int) = ((u * m : Nat) : Int) := by rw [Int.natCast_mul]
      have e2 : ((u * m : Nat) : Int) + (v : Int) = ((u * m + v : Nat) : Int) := by rw [Int.natCast_add]
      generalize u * m = um at *
      cases j with
      | zero =>
       dsimp only [tQi, List.cons_append, List.nil_append]
       repeat' (first
| refine wO ?_
| (refine o_go rfl ?_; (first
| refine p_p (zG rfl rfl aD (hpw)) ?_
| refine p_p (zG rfl rfl aD (c1)) ?_
| refine wS ?_); refine ⟨_, aB, ?_⟩)
| (refine zK rfl ?_ ?_ <;> intro hc <;> try omega)
| refine wE ?_)
       all_goals try (exfalso; omega)
       refine g_loopT (α := Nat) (fun t => [(10, I (idxL n (LQ.take t))), (11, I (idxL m (LR.take t))), (47, I (t : Int))]) (fun _ => [HO.box [I 0, nilV], HO.box [I (N : Int), PV.hp 6], HO.gone, HO.gone, HO.gone, HO.gone, sgI (rowsO (prodK N n m A Z (i + 1))), HO.gone, HO.box [I f.ar, nilV]]) (fun t => t ≤ a) (fun t => a - t) 0 aH (Nat.zero_le _) ⟨rfl, rfl, rfl, trivial⟩ rfl ?_
       rintro t hta
       refine wH ?_
       by_cases htl : t < a
       · obtain ⟨l1, x1, k1, k2, k3, k4, k5, k6⟩ := idx_take hn8 hLQi (by omega) (t := t) (by omega)
         obtain ⟨l2, x2, r1, r2, r3, r4, r5, r6⟩ := idx_take hm8 hLRi (by omega) (t := t) (by omega)
         have i1 := row_atY (p := L0) (x := t) (by omega)
         have hx := hain _ (getD_at (l := L0) (i := t) (by omega))
         have q1 := hQat t (by omega)
         have q2 := hRat t (by omega)
         rw [k2] at q1
         rw [r2] at q2
         rw [k1, r1]
         have m1 : (l1 : Int) * (n : Int) = ((l1 * n : Nat) : Int) := by rw [Int.natCast_mul]
         have m2 : (l2 : Int) * (m : Int) = ((l2 * m : Nat) : Int) := by rw [Int.natCast_mul]
         generalize l1 * n = p1 at *
         generalize l2 * m = p2 at *
         generalize L0.getD t 0 = x at *
         have a1 : (p1 : Int) + (x1 : Int) = ((p1 + x1 : Nat) : Int) := by omega
         have a2 : (p2 : Int) + (x2 : Int) = ((p2 + x2 : Nat) : Int) := by omega
         repeat' (first
| refine wO ?_
| refine zP zk zk ?_
| (refine o_go rfl ?_; (first
| refine p_p (zN rfl rfl rfl zz i1 ze) ?_
| refine p_p (ps_mulV rfl rfl rfl m1 zz) ?_
| refine p_p (ps_mulV rfl rfl rfl m2 zz) ?_
| refine p_p (ps_quoV rfl rfl rfl q1 zz zz zz) ?_
| refine p_p (ps_remV rfl rfl rfl q2 zz zz) ?_
| refine p_p (ps_addV rfl rfl rfl a1 zz) ?_
| refine p_p (ps_addV rfl rfl rfl a2 zz) ?_
| refine wS ?_); refine ⟨_, aB, ?_⟩)
| (refine zK rfl ?_ ?_ <;> intro hc <;> try omega)
| refine wE ?_)
         all_goals try (exfalso; omega)
         exact zT (t + 1) (by omega) (by omega) aI ⟨vI k6.symm, vI r6.symm, rfl, trivial⟩ (hpLe_refl _)
       · rw [List.take_of_length_le (show LQ.length ≤ t by omega), List.take_of_length_le (show LR.length ≤ t by omega), hX, hY]
         repeat' (first
| refine wO ?_
| (refine o_go rfl ?_; (first
| refine wS ?_); refine ⟨_, aB, ?_⟩)
| (refine zK rfl ?_ ?_ <;> intro hc <;> try omega)
| refine wE ?_)
         all_goals try (exfalso; omega)
         refine g_region_drawZ [(0, some [9]), (1, some [9]), (2, some [9]), (3, some [9]), (4, some [9]), (5, some [9]), (6, some [9]), (7, some [9]), (8, some [9]), (9, some [9]), (10, some [9]), (11, some [9]), (12, some [9]), (13, some [9]), (14, some [9]), (15, some [9]), (16, some [9]), (17, some [9]), (18, some [9]), (19, some [9]), (20, none), (21, none), (22, none), (23, none)] [(21, 9), (23, 999999)] (fun hp => hp[8]? = some (.box [I f.ar, nilV])) (by kernel_rfl) rfl (by kernel_rfl) ?_
         repeat' (first
| refine z_nil ?_
| ((first
| refine zV rfl rfl (fun hp hH => zH rfl rfl hH rfl) aJ aC zd aA ?_
| refine zV rfl rfl (fun hp hH => zN rfl rfl rfl zz i5 ze) aJ aC zd aA ?_
| refine zV rfl rfl (fun hp hH => zN rfl rfl rfl zz hqZ ze) aJ aC zd aA ?_
| refine zV rfl rfl (fun hp hH => zN rfl rfl rfl zz i6 ze) aJ aC zd aA ?_
| refine zV rfl rfl (fun hp hH => ps_mulV rfl rfl rfl e1 zz) aJ aC zd aA ?_
| refine zV rfl rfl (fun hp hH => ps_addV rfl rfl rfl e2 zz) aJ aC zd aA ?_
| refine zV rfl rfl (fun _ _ => zD rfl) aJ aC zd aA ?_
| refine zV rfl rfl (fun _ _ => zF rfl rfl) aJ aC zd aA ?_
| refine zV rfl rfl (fun _ _ => zL rfl rfl) aJ aC zd aA ?_
| refine zV rfl rfl (fun _ _ => zE rfl rfl) aJ aC zd aA ?_
| refine z_eff rfl rfl aF (j_appendNil rfl rfl rfl rfl (one_one rfl) zd rfl zn zn zn) aG ?_
| refine z_eff rfl rfl aF (j_store_boxC rfl rfl rfl rfl aK rfl rfl) aG ?_
| refine z_eff rfl rfl aF (j_pure (zE rfl rfl)) aG ?_
| refine z_eff rfl rfl aF (j_pure (ps_lit1 rfl rfl (by rfl) (by rfl))) aG ?_); refine ⟨_, aP, ?_⟩))
         repeat' (first
| refine wO ?_
| (refine o_go rfl ?_; (first
| refine wS ?_); refine ⟨_, aB, ?_⟩))
         all_goals try (exfalso; omega)
         exact zT 1 (by omega) (by omega) aI ⟨rfl, trivial⟩ (zB rfl (zB rfl (zB rfl (zB rfl (zB rfl (zB rfl (zB rfl (hpLe_gone (zB rfl (zB (by rw [hsT]; rfl) (zM _)))))))))))
      | succ j =>
       dsimp only [tQi, List.cons_append, List.nil_append]
       repeat' (first
| refine wO ?_
| (refine o_go rfl ?_; (first
| refine p_p (zG rfl rfl aD (hpw)) ?_
| refine p_p (zG rfl rfl aD (c1)) ?_
| refine wS ?_); refine ⟨_, aB, ?_⟩)
| (refine zK rfl ?_ ?_ <;> intro hc <;> try omega)
| refine wE ?_)
       all_goals try (exfalso; omega)
       refine g_loopT (α := Nat) (fun t => [(10, I (idxL n (LQ.take t))), (11, I (idxL m (LR.take t))), (47, I (t : Int))]) (fun _ => [HO.box [I 0, nilV], HO.box [I (N : Int), PV.hp 6], HO.gone, HO.gone, HO.gone, HO.gone, sgI (rowsO (prodK N n m A Z (i + 1))), HO.gone, HO.box [I f.ar, PV.hp 9], HO.arr true 1 3 ((prodT N n m f fz (j + 1)).map I)]) (fun t => t ≤ a) (fun t => a - t) 0 aH (Nat.zero_le _) ⟨rfl, rfl, rfl, trivial⟩ rfl ?_
       rintro t hta
       refine wH ?_
       by_cases htl : t < a
       · obtain ⟨l1, x1, k1, k2, k3, k4, k5, k6⟩ := idx_take hn8 hLQi (by omega) (t := t) (by omega)
         obtain ⟨l2, x2, r1, r2, r3, r4, r5, r6⟩ := idx_take hm8 hLRi (by omega) (t := t) (by omega)
         have i1 := row_atY (p := L0) (x := t) (by omega)
         have hx := hain _ (getD_at (l := L0) (i := t) (by omega))
         have q1 := hQat t (by omega)
         have q2 := hRat t (by omega)
         rw [k2] at q1
         rw [r2] at q2
         rw [k1, r1]
         have m1 : (l1 : Int) * (n : Int) = ((l1 * n : Nat) : Int) := by rw [Int.natCast_mul]
         have m2 : (l2 : Int) * (m : Int) = ((l2 * m : Nat) : Int) := by rw [Int.natCast_mul]
         generalize l1 * n = p1 at *
         generalize l2 * m = p2 at *
         generalize L0.getD t 0 = x at *
         have a1 : (p1 : Int) + (x1 : Int) = ((p1 + x1 : Nat) : Int) := by omega
         have a2 : (p2 : Int) + (x2 : Int) = ((p2 + x2 : Nat) : Int) := by omega
         repeat' (first
| refine wO ?_
| refine zP zk zk ?_
| (refine o_go rfl ?_; (first
| refine p_p (zN rfl rfl rfl zz i1 ze) ?_
| refine p_p (ps_mulV rfl rfl rfl m1 zz) ?_
| refine p_p (ps_mulV rfl rfl rfl m2 zz) ?_
| refine p_p (ps_quoV rfl rfl rfl q1 zz zz zz) ?_
| refine p_p (ps_remV rfl rfl rfl q2 zz zz) ?_
| refine p_p (ps_addV rfl rfl rfl a1 zz) ?_
| refine p_p (ps_addV rfl rfl rfl a2 zz) ?_
| refine wS ?_); refine ⟨_, aB, ?_⟩)
| (refine zK rfl ?_ ?_ <;> intro hc <;> try omega)
| refine wE ?_)
         all_goals try (exfalso; omega)
         exact zT (t + 1) (by omega) (by omega) aI ⟨vI k6.symm, vI r6.symm, rfl, trivial⟩ (hpLe_refl _)
       · rw [List.take_of_length_le (show LQ.length ≤ t by omega), List.take_of_length_le (show LR.length ≤ t by omega), hX, hY]
         repeat' (first
| refine wO ?_
| (refine o_go rfl ?_; (first
| refine wS ?_); refine ⟨_, aB, ?_⟩)
| (refine zK rfl ?_ ?_ <;> intro hc <;> try omega)
| refine wE ?_)
         all_goals try (exfalso; omega)
         refine g_region_drawU [(0, some [9]), (1, some []), (2, some [9]), (3, some [9]), (4, some [9]), (5, some [9]), (6, some [9]), (7, some [9]), (8, some [9]), (9, some [9]), (10, some [9]), (11, some [9]), (12, some [9]), (13, some [9]), (14, some [9]), (15, some [9]), (16, some [9]), (17, some [9]), (18, some [9]), (19, some [9]), (20, none), (21, none), (22, none), (23, none)] [(21, 9), (23, 999999)] (fun U hp => (∃ a, hp[8]? = some (.box [I f.ar, a])) ∧ (9 ∉ U → hp[8]? = some (.box [I f.ar, .hp 9]))) (by kernel_rfl) rfl (by kernel_rfl) ?_
         repeat' (first
| refine u_nil ?_
| ((first
| refine u_pure rfl rfl (fun hp hH => zH rfl rfl (hH.2 zd) rfl) aJ aC zd aN ?_
| refine u_pure rfl rfl (fun hp hH => zN rfl rfl rfl zz i5 ze) aJ aC zd aN ?_
| refine u_pure rfl rfl (fun hp hH => zN rfl rfl rfl zz hqZ ze) aJ aC zd aN ?_
| refine u_pure rfl rfl (fun hp hH => zN rfl rfl rfl zz i6 ze) aJ aC zd aN ?_
| refine u_pure rfl rfl (fun hp hH => ps_mulV rfl rfl rfl e1 zz) aJ aC zd aN ?_
| refine u_pure rfl rfl (fun hp hH => ps_addV rfl rfl rfl e2 zz) aJ aC zd aN ?_
| refine u_pure rfl rfl (fun _ _ => zD rfl) aJ aC zd aN ?_
| refine u_pure rfl rfl (fun _ _ => zF rfl rfl) aJ aC zd aN ?_
| refine u_pure rfl rfl (fun _ _ => zL rfl rfl) aJ aC zd aN ?_
| refine u_pure rfl rfl (fun _ _ => zE rfl rfl) aJ aC zd aN ?_
| refine u_eff rfl rfl aF (j_append rfl rfl rfl rfl rfl rfl (one_one rfl) rfl (by rw [hlT, n_len_c, n_len_n]; omega) (by rw [hlT, n_len_c, n_len_n]; omega)) (by first | exact fun _ hm hF _ => absurd (hm 999999 zd) hF | exact fun _ _ _ hh => hh | exact (fun _ hm _ _ => ⟨⟨_, rfl⟩, fun h => absurd (hm 9 zd) h⟩)) ?_
| refine u_eff rfl rfl aF (j_store_boxC rfl rfl rfl rfl aK rfl rfl) (by first | exact fun _ hm hF _ => absurd (hm 999999 zd) hF | exact fun _ _ _ hh => hh | exact (fun _ hm _ _ => ⟨⟨_, rfl⟩, fun h => absurd (hm 9 zd) h⟩)) ?_
| refine u_eff rfl rfl aF (j_pure (zE rfl rfl)) (by first | exact fun _ hm hF _ => absurd (hm 999999 zd) hF | exact fun _ _ _ hh => hh | exact (fun _ hm _ _ => ⟨⟨_, rfl⟩, fun h => absurd (hm 9 zd) h⟩)) ?_
| refine u_eff rfl rfl aF (j_pure (ps_lit1 rfl rfl (by rfl) (by rfl))) (by first | exact fun _ hm hF _ => absurd (hm 999999 zd) hF | exact fun _ _ _ hh => hh | exact (fun _ hm _ _ => ⟨⟨_, rfl⟩, fun h => absurd (hm 9 zd) h⟩)) ?_); refine ⟨_, aP, ?_⟩))
         repeat' (first
| refine wO ?_
| (refine o_go rfl ?_; (first
| refine wS ?_); refine ⟨_, aB, ?_⟩))
         all_goals try (exfalso; omega)
         exact zT (j + 2) (by omega) (by omega) aI ⟨rfl, trivial⟩ (zB rfl (zB rfl (zB rfl (zB rfl (zB rfl (zB rfl (zB rfl (hpLe_gone (zB rfl (zB (by rw [hsT, List.map_append]; rfl) (zM _)))))))))))
    · obtain rfl : j = T := by omega
      obtain ⟨T', rfl⟩ : ∃ T', j = T' + 1 := ⟨j - 1, by omega⟩
      dsimp only [tQi, List.cons_append, List.nil_append]
      repeat' (first
| refine wO ?_
| (refine o_go rfl ?_; (first
| refine p_p (zG rfl rfl aD (hpw)) ?_
| refine p_e rfl (e_lit1S rfl rfl rfl (one_all (fun _ => rfl) _) rfl) ?_
| refine p_e rfl (e_append_sg rfl rfl rfl rfl rfl rfl zd (by rw [hll, n_len_c, n_len_n]; omega) (by rw [hll, n_len_c, n_len_n]; omega)) ?_
| refine wS ?_
| refine p_e rfl (e_store_boxC rfl rfl rfl rfl aK rfl rfl) ?_); refine ⟨_, aB, ?_⟩)
| (refine zK rfl ?_ ?_ <;> intro hc <;> try omega)
| refine wE ?_)
      all_goals try (exfalso; omega)
      refine zT (i + 2) (by omega) (by omega) aI ⟨rfl, trivial⟩ (zB rfl (zB rfl (hpLe_gone (hpLe_gone (hpLe_gone (hpLe_gone (zB ?_ (zM _))))))))
      rw [hsn, sgI, snoc_ops, hFe]
 · obtain rfl : i = A.length := by omega
   generalize hop : A.length = k at *
   cases k with
   | zero =>
    dsimp only [aPown]
    repeat' (first
| refine krc (krC_le rfl aK rfl (agg2_le (PV.le_nil 2)))
| refine wO ?_
| (refine o_go rfl ?_; (first
| refine wS ?_
| refine p_e rfl (zO rfl rfl rfl rfl aK rfl rfl rfl) ?_); refine ⟨_, aB, ?_⟩)
| refine wE ?_)
    all_goals (exfalso; omega)
   | succ k =>
    dsimp only [aPown]
    repeat' (first
| refine krc (krC_le rfl aK rfl (le_algG _ _))
| refine wO ?_
| (refine o_go rfl ?_; (first
| refine wS ?_
| refine p_e rfl (zO rfl rfl rfl rfl aK rfl rfl rfl) ?_); refine ⟨_, aB, ?_⟩)
| (refine zK rfl ?_ ?_ <;> intro hc <;> try omega)
| refine wE ?_)
    all_goals (exfalso; omega)

end Go.Proofs.YtepjlgilopfnpaaGreat
