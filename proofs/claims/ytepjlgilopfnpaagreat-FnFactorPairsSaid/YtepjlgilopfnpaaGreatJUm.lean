/- The law of factor pairs. -/
import Derived.Test.YtepjlgilopfnpaaGreatJUj
import Derived.Test.YtepjlgilopfnpaaGreatJSq
import Derived.Test.YtepjlgilopfnpaaGreatJTc
import Derived.Test.YtepjlgilopfnpaaGreatJTm
import Derived.Test.YtepjlgilopfnpaaGreatJSt
import Derived.Test.YtepjlgilopfnpaaGreatJKd
namespace Go.Proofs.YtepjlgilopfnpaaGreat
open Go Go.Pv Go.Proofs
set_option maxHeartbeats 32000000
set_option maxRecDepth 100000

theorem ps_neqIF {P : Program} {o : Oper} {ev : Operand → PV} {hp : List HO} {t rt : TypeId} {x y : Operand} {a : Int} {k : IntKind} (ho : o.op = .binOp .neq t x y rt) (h1 : ev x = .val (.int k a)) (h2 : ev y = .val (.int k a)) : PStep P o ev hp (B false) := by
 have := ps_neq (P := P) (hp := hp) ho h1 h2
 rwa [decide_eq_true rfl] at this
theorem drawIA8_c {l : List Int} (h : bytesOk l) : ∃ n ops, smA ops ∧ szN n ∧ PCalls Tryz.prog 61 [bytesP l] (algP n ops) := by
 obtain ⟨c', n, ops, -, hs, hz, hL⟩ := algebra_B (cu0_ok h) (by omega)
 refine ⟨n, ops, hs, hz, ?_⟩
 refine pcallsC Tryz.func61 rfl Tryz.ntmps61 rfl ?_
 refine wF ?_
 repeat' (first
| refine wO ?_
| (refine o_go rfl ?_; (first
| refine p_e rfl (e_box rfl rfl) ?_
| refine p_e rfl (e_callL (n := 1) rfl rfl rfl aL rfl (by rfl) aT (hL)) ?_
| refine wS ?_
| refine p_e rfl (zO rfl rfl rfl rfl aK rfl rfl rfl) ?_
| refine p_e rfl (e_alloc rfl) ?_
| refine p_p (ps_build rfl rfl) ?_); refine ⟨_, aB, ?_⟩)
| refine krc ?_
| refine krC rfl aK ?_
| refine wE ?_)
 rfl
theorem drawFP_c {l : List Int} (h : bytesOk l) : ∃ n ops, smA ops ∧ szN n ∧ PCalls Tryz.prog 19 [bytesP l] (algP n ops) := by
 obtain ⟨n, ops, hs, hz, hc⟩ := drawIA8_c h
 refine ⟨n, ops, hs, hz, ?_⟩
 refine pcallsC Tryz.func19 rfl Tryz.ntmps19 rfl ?_
 refine wF ?_
 repeat' (first
| refine wO ?_
| (refine o_go rfl ?_; (first
| refine p_p (zG rfl rfl aD (hc)) ?_
| refine wS ?_
| refine p_e rfl (zO rfl rfl rfl rfl aK rfl rfl rfl) ?_
| refine p_e rfl (e_alloc rfl) ?_); refine ⟨_, aB, ?_⟩)
| refine krc ?_
| refine krC rfl aK ?_
| refine wE ?_)
 rfl
theorem ind_facts {m : Nat} {ops : List OpD} {p : List Int} (hm0 : 0 < m) (hm8 : m ≤ 8) (h4 : ops.length ≤ 4) (ho : opsIn m ops) (hg : algOk (m : Int) ops = true) (h200 : (allL m ops).length ≤ 200) (hp : p ∈ allL m ops) (h1 : 1 < cnt m p) (hsp : splO m ops p = none) :
 ∃ (K : Nat) (Q : List OpD), quN (m : Int) ops p = (K : Int) ∧ quO (m : Int) ops p = Q ∧ tkB (m : Int) ops p = true ∧ szOk Q ∧ indB (K : Int) Q = true ∧ acB (K : Int) Q = true ∧ K = cnt m p := by
 obtain ⟨pt, cp⟩ := allL_mem.1 hp
 have hk := cgB_tk hm0 hg ho hp
 have hqi := quo_in hm0 pt ho
 have l1 := lst_pos pt hm0
 have l2 := lstN_le p m
 have hql : (quoL m p ops).length = ops.length := quo_len m p ops
 have hqg := algOk_of l1 (by omega) (by omega) hqi
 have ha : acB ((lstN p m).length : Int) (quoL m p ops) = true := acB_of hqg (Nat.le_trans (quo_few hm0 ho hp) h200)
 refine ⟨(lstN p m).length, quoL m p ops, by unfold quN; rw [hk, if_pos rfl, Int.toNat_natCast], by unfold quO; rw [hk, if_pos rfl, Int.toNat_natCast], hk, szOk_in (show (lstN p m).length ≤ 8 by omega) (by omega) hqi, ?_, ha, (cnt_lst m p).symm⟩
 unfold indB
 rw [ha, Int.toNat_natCast]
 have hn : ppO (lstN p m).length (allL (lstN p m).length (quoL m p ops)) = none := by
  unfold splO at hsp
  exact Option.map_eq_none_iff.1 hsp
 rw [hn]
 rw [cnt_lst] at h1
 simp; omega
theorem fp_t30 (m : Nat) (ops : List OpD) (hs : szOk ops) (hm0 : 0 < m) (hm8 : m ≤ 8) (h4 : ops.length ≤ 4) (ho : opsIn m ops) (hg : algOk (m : Int) ops = true) (hb : acB (m : Int) ops = true) (h200 : (allL m ops).length ≤ 200) :
 Goal Tryz.prog (tailAt 30 (bodyC Tryz.f4)) (KRets [2] [B true]) ⟨zZ (List.replicate 265 .any) [(3, .ptr [I (m : Int), opsP ops])], []⟩ := by
 conv => arg 2; whnf
 simp only [List.replicate_succ, List.replicate_zero]
 refine wH ?_
 have a1 := iidl_c (m : Int) ops hs
 have a2 := sidl_c (m : Int) ops hs
 have e : idcW (m : Int) ops = idcV m ops := by unfold idcW; rw [hb, if_pos rfl, Int.toNat_natCast]
 rw [hb, e] at a1 a2
 obtain ⟨f1, f2, f3⟩ := idcV_facts hm0 hm8 ho
 have v1 := rtable_c (idcV m ops) (by omega) (fun r hr => by rw [(fc_pt _ (f1 r hr).1).len]; omega)
 have hst := fun (p : List Int) (hp : p ∈ idcV m ops) => ind_facts hm0 hm8 h4 ho hg h200 (f1 p hp).1 (f1 p hp).2.1 (f1 p hp).2.2
 have hin := fun (p : List Int) (hp : p ∈ idcV m ops) => f1 p hp
 generalize idcV m ops = L at *
 have hpr := fun i => prU_le (n := m) (L := L) i (fun p hp => by have := (hin p hp).2.1; omega) f2
 repeat' (first
| refine wO ?_
| (refine o_go rfl ?_; (first
| refine p_p (zG rfl rfl aD (a1)) ?_
| refine p_p (zG rfl rfl aD (a2)) ?_
| refine p_p (zG rfl rfl aD (v1)) ?_
| refine p_p (ps_neqBY rfl rfl rfl (by rfl)) ?_
| refine wS ?_
| refine p_p (ps_load_agg rfl rfl aK) ?_); refine ⟨_, aB, ?_⟩)
| refine wE ?_)
 refine g_loopT (α := Nat) (fun i => [(31, I (prU m L i : Int)), (32, I (i : Int))]) (fun _ => []) (fun i => i ≤ L.length) (fun i => L.length - i) 0 aH (Nat.zero_le _) ⟨vI (by simp [prU]), rfl, trivial⟩ rfl ?_
 rintro i hi
 refine wH ?_
 by_cases hil : i < L.length
 · have ri := rows_at hil
   have hp := rows_mem hil
   obtain ⟨K, Q, q1, q2, q3, q4, q5, q6, q7⟩ := hst _ hp
   have c1 := iqa_c (m : Int) ops (L.getD i []) hs (by rw [(fc_pt _ (hin _ hp).1).len]; omega)
   rw [q1, q2, q3] at c1
   have c2 := iind_c (K : Int) Q q4
   rw [q5, q6] at c2
   have e1 : (prU m L i : Int) * (K : Int) = ((prU m L (i + 1) : Nat) : Int) := by rw [prU_succ hil, ← q7, Int.natCast_mul]
   have b1 := hpr (i + 1)
   generalize L.getD i [] = p at *
   generalize hu : prU m L (i + 1) = u at *
   clear q1 q2 q3 hst hin hpr
   repeat' (first
| refine wO ?_
| (refine o_go rfl ?_; (first
| refine wS ?_); refine ⟨_, aB, ?_⟩)
| (refine zK rfl ?_ ?_ <;> intro hc <;> try omega)
| refine wE ?_)
   all_goals try (exfalso; omega)
   refine g_region_drawZ [(0, some [0]), (1, some [0]), (2, some [0]), (3, some [0]), (4, some [0]), (5, some [0]), (6, some [0]), (7, some [0]), (8, some [0]), (9, none), (10, none), (11, none)] [(9, 0), (10, 0)] (fun _ => True) (by kernel_rfl) rfl (by kernel_rfl) ?_
   repeat' (first
| refine z_nil ?_
| ((first
| refine zV rfl rfl (fun hp hH => zN rfl rfl rfl zz ri ze) aJ aC zd aA ?_
| refine zV rfl rfl (fun hp hH => zG rfl rfl aD (c1)) aJ aM zd aA ?_
| refine zV rfl rfl (fun _ _ => zD rfl) aJ aC zd aA ?_
| refine zV rfl rfl (fun _ _ => zF rfl rfl) aJ aC zd aA ?_
| refine zV rfl rfl (fun _ _ => ps_load_agg rfl rfl aK) aJ aC zd aA ?_
| refine zV rfl rfl (fun _ _ => ps_extract rfl rfl rfl) aJ aC zd aA ?_
| refine z_eff rfl rfl aF (j_allocV rfl) aG ?_
| refine z_eff rfl rfl aF (j_store_boxA rfl rfl rfl rfl aK rfl rfl rfl) aG ?_
| refine z_eff rfl rfl aF (j_pure (zA rfl)) aG ?_); refine ⟨_, aP, ?_⟩))
   repeat' (first
| refine g_settle 0 rfl (by dsimp only [setlP, setl1, setlH, bitvec_to_nat, Nat.reduceAdd, Nat.reduceMul, Nat.reduceBEq, reduceCtorEq]) ?_
| refine wO ?_
| (refine o_go rfl ?_; (first
| refine p_p (zG rfl rfl aD (c2)) ?_
| refine p_p (ps_mulV rfl rfl rfl e1 zz) ?_
| refine wS ?_
| refine p_p (ps_load_agg rfl rfl aK) ?_); refine ⟨_, aB, ?_⟩)
| refine wE ?_)
   all_goals try (exfalso; omega)
   exact zT (i + 1) (by omega) (by omega) aI ⟨vI (by rw [hu]), rfl, trivial⟩ (zM _)
 · obtain rfl : i = L.length := by omega
   rw [prU_all, f2]
   repeat' (first
| refine wO ?_
| (refine o_go rfl ?_; (first
| refine wS ?_); refine ⟨_, aB, ?_⟩)
| (refine zK rfl ?_ ?_ <;> intro hc <;> try omega)
| refine kr1 ?_
| refine krB rfl ?_
| refine wE ?_)
   all_goals first | rfl | (exfalso; omega) | (rw [decide_eq_true rfl])
theorem fp_t14 (m : Nat) (ops : List OpD) (hs : szOk ops) (hm0 : 0 < m) (hm8 : m ≤ 8) (h4 : ops.length ≤ 4) (ho : opsIn m ops) (hg : algOk (m : Int) ops = true) (hb : acB (m : Int) ops = true) (h200 : (allL m ops).length ≤ 200) :
 Goal Tryz.prog (tailAt 14 (bodyC Tryz.f4)) (KRets [2] [B true]) ⟨zZ (List.replicate 265 .any) [(3, .ptr [I (m : Int), opsP ops]), (4, prsL6 (fpLi m (allL m ops))), (6, prsL6 (fpLi m (allL m ops))), (8, intss (allL m ops))], []⟩ := by
 have hpart := fp_t30 m ops hs hm0 hm8 h4 ho hg hb h200
 conv => arg 2; whnf
 simp only [List.replicate_succ, List.replicate_zero]
 refine wH ?_
 have hall := fun (ik : Nat × Nat) (h : ik ∈ fpLi m (allL m ops)) => fpLi_mem h
 have hl : (fpLi m (allL m ops)).length ≤ 40000 := Nat.le_trans (fpK_len m (allL m ops) (allL m ops).length) (Nat.le_trans (Nat.mul_le_mul h200 h200) (by decide))
 generalize fpLi m (allL m ops) = F at *
 have hFl : (F.map prP).length = F.length := List.length_map _
 repeat' (first
| refine wO ?_
| (refine o_go rfl ?_; (first
| refine wS ?_); refine ⟨_, aB, ?_⟩))
 refine g_loopT (α := Nat) (fun i => [(12, I (i : Int))]) (fun _ => []) (fun i => i ≤ F.length) (fun i => F.length - i) 0 aH (Nat.zero_le _) ⟨rfl, trivial⟩ rfl ?_
 rintro i hi
 refine wH ?_
 by_cases hil : i < F.length
 · have ri := prs_at hil
   have hmem : F.getD i (0, 0) ∈ F := by rw [List.getD_eq_getElem?_getD, List.getElem?_eq_getElem hil]; exact List.getElem_mem hil
   obtain ⟨k1, k2, k3⟩ := hall _ hmem
   generalize F.getD i (0, 0) = ik at *
   obtain ⟨a, b⟩ := ik
   change _ = some (PV.agg [I (a : Int), I (b : Int)]) at ri
   dsimp only at k1 k2 k3
   have ra := rows_at (show a < (allL m ops).length by omega)
   have rb := rows_at k2
   have hp := rows_mem (show a < (allL m ops).length by omega)
   have hq := rows_mem k2
   have pt := (allL_mem.1 hp).1
   have qt := (allL_mem.1 hq).1
   have hd := fp_dir pt qt k3
   obtain ⟨P, Q, W, x, y, p1, p2, q1, q2, sP, sQ, sW, w1, w2, w3, hk1, hiso⟩ := dir_facts hm0 hm8 h4 hg ho hp hq hd
   have c0 := iisfp_c m ops _ _ hs hm0 hm8 h4 ho hg hp hq
   rw [k3] at c0
   have ct : twB (m : Int) ((allL m ops).getD a []) ((allL m ops).getD b []) = true := by
    unfold twB
    rw [Int.toNat_natCast, ptB_iff.2 pt, ptB_iff.2 qt, inB_iff.2 ⟨by omega, by omega⟩]; rfl
   have c6 := idop_c (m : Int) _ _ (by rw [pt.len]; omega) (by rw [qt.len]; omega) ct
   rw [Int.toNat_natCast, (prmB_iff pt qt).2 (fp_prm pt qt k3)] at c6
   have c1 := iqa_c (m : Int) ops ((allL m ops).getD a []) hs (by rw [pt.len]; omega)
   have c2 := iqa_c (m : Int) ops ((allL m ops).getD b []) hs (by rw [qt.len]; omega)
   rw [p1, p2, cgB_tk hm0 hg ho hp] at c1
   rw [q1, q2, cgB_tk hm0 hg ho hq] at c2
   have c3 := ipo_c (x : Int) (y : Int) P Q sP sQ
   rw [w1, w2, w3] at c3
   have c4 := iari_c (m : Int) (m : Int) ops W hs sW
   rw [hk1, decide_eq_true rfl, Int.toNat_natCast, Bool.true_and, Bool.true_and, Bool.true_and, Bool.not_true, Bool.false_or] at c4
   clear hall p1 p2 q1 q2 w1 w2 w3 hk1 hd pt qt ct k3 hp hq hmem
   generalize isoR m m ops W = ir at *
   generalize isoK m m ops W = ik at *
   generalize (allL m ops).getD a [] = p at *
   generalize (allL m ops).getD b [] = q at *
   generalize allL m ops = V at *
   have hVl : (V.map ints).length = V.length := List.length_map _
   repeat' (first
| refine g_settle 0 rfl (by dsimp only [setlP, setl1, setlH, bitvec_to_nat, Nat.reduceAdd, Nat.reduceMul, Nat.reduceBEq, reduceCtorEq]) ?_
| refine g_settle 1 rfl (by dsimp only [setlP, setl1, setlH, bitvec_to_nat, Nat.reduceAdd, Nat.reduceMul, Nat.reduceBEq, reduceCtorEq]) ?_
| refine g_settle 2 rfl (by dsimp only [setlP, setl1, setlH, bitvec_to_nat, Nat.reduceAdd, Nat.reduceMul, Nat.reduceBEq, reduceCtorEq]) ?_
| refine wO ?_
| refine zP zk zk ?_
| (refine o_go rfl ?_; (first
| refine p_p (ps_neqPair (k := .i64) (by exact Tryz.underlying3) zk rfl rfl rfl) ?_
| refine p_p (ps_index_parr rfl rfl rfl zz zd) ?_
| refine p_p (zN rfl rfl rfl zz ri ze) ?_
| refine p_p (zN rfl rfl rfl zz ra ze) ?_
| refine p_p (zN rfl rfl rfl zz rb ze) ?_
| refine p_p (zG rfl rfl aD (c0)) ?_
| refine p_p (zG rfl rfl aD (c6)) ?_
| refine p_p (zG rfl rfl aD (c1)) ?_
| refine p_p (zG rfl rfl aD (c2)) ?_
| refine p_p (zG rfl rfl aD (c3)) ?_
| refine p_p (ps_neqIF rfl rfl rfl) ?_
| refine wS ?_
| refine p_p (ps_load_agg rfl rfl aK) ?_
| refine p_e rfl (zO rfl rfl rfl rfl aK rfl rfl rfl) ?_
| refine p_e rfl (e_alloc rfl) ?_); refine ⟨_, aB, ?_⟩)
| (refine zK rfl ?_ ?_ <;> intro hc <;> try omega)
| refine wE ?_)
   all_goals try (exfalso; omega)
   cases ik with
   | false =>
    repeat' (first
| refine wO ?_
| (refine o_go rfl ?_; (first
| refine p_p (zG rfl rfl aD (c4)) ?_
| refine wS ?_); refine ⟨_, aB, ?_⟩)
| (refine o_s rfl ?_; refine ⟨_, aB, ?_⟩)
| refine wE ?_)
    all_goals try (exfalso; omega)
    exact zT (i + 1) (by omega) (by omega) aI ⟨rfl, trivial⟩ (zM _)
   | true =>
    have hir := hiso rfl
    subst hir
    repeat' (first
| refine wO ?_
| (refine o_go rfl ?_; (first
| refine p_p (zG rfl rfl aD (c4)) ?_
| refine wS ?_); refine ⟨_, aB, ?_⟩)
| refine wE ?_)
    all_goals try (exfalso; omega)
    exact zT (i + 1) (by omega) (by omega) aI ⟨rfl, trivial⟩ (zM _)
 · repeat' ((fail_if_success (refine at_reg1 30 ?_)); (first
| refine wO ?_
| (refine o_go rfl ?_; (first
| refine wS ?_); refine ⟨_, aB, ?_⟩)
| (refine zK rfl ?_ ?_ <;> intro hc <;> try omega)
| refine g_exit ?_))
   all_goals try (exfalso; omega)
   refine at_reg1 30 ?_
   exact g_tail rfl ⟨aI, zM _⟩ hpart
theorem law_fp (l : List Int) (hl : l.length ≤ maxLen) (hby : ∀ i, i < l.length → 0 ≤ l.getD i 0 ∧ l.getD i 0 ≤ 255) : PCalls Tryz.prog 4 [bytesP l] (B true) := by
 refine pcalls1 Tryz.func4 rfl Tryz.ntmps4 rfl ?_
 refine wF ?_
 have hv := rbigV_c l (Nat.le_trans hl (by decide))
 by_cases hbig : 65536 < (l.length : Int)
 · rw [decide_eq_true hbig] at hv
   repeat' (first
| refine wO ?_
| (refine o_go rfl ?_; (first
| refine p_p (zG rfl rfl aD (hv)) ?_
| refine wS ?_); refine ⟨_, aB, ?_⟩)
| refine kr1 ?_
| refine krB rfl ?_
| refine wE ?_)
   all_goals rfl
 rw [decide_eq_false hbig] at hv
 have hB : bytesOk l := ⟨by omega, hby⟩
 obtain ⟨n, ops, hsm, hz, d1⟩ := drawFP_c hB
 have hs := hsm.ok
 have a1 := ifpa6_c n ops hs
 have a2 := sfpa6_c n ops hs
 cases hb : acB n ops with
 | false =>
  rw [hb] at a1 a2
  have e1 : fpV n ops = [] := by unfold fpV; rw [hb]; rfl
  rw [e1] at a1 a2
  repeat' (first
| refine g_settle 0 rfl (by dsimp only [setlP, setl1, setlH, bitvec_to_nat, Nat.reduceAdd, Nat.reduceMul, Nat.reduceBEq, reduceCtorEq]) ?_
| refine wO ?_
| (refine o_go rfl ?_; (first
| refine p_p (zG rfl rfl aD (hv)) ?_
| refine p_p (zG rfl rfl aD (d1)) ?_
| refine p_p (zG rfl rfl aD (a1)) ?_
| refine p_p (zG rfl rfl aD (a2)) ?_
| refine p_p (ps_neqBY rfl rfl rfl (by rfl)) ?_
| refine p_p (ps_neqIF rfl rfl rfl) ?_
| refine wS ?_
| refine p_p (ps_load_agg rfl rfl aK) ?_
| refine p_e rfl (zO rfl rfl rfl rfl aK rfl rfl rfl) ?_
| refine p_e rfl (e_alloc rfl) ?_); refine ⟨_, aB, ?_⟩)
| refine kr1 ?_
| refine krB rfl ?_
| refine wE ?_)
  all_goals rfl
 | true =>
  obtain ⟨m, rfl, hm0, hm8, h4, ho, hg, h200⟩ := acB_facts hb
  have a3 := iac_c (m : Int) ops hs
  have a4 := sac_c (m : Int) ops hs
  have e1 : fpV (m : Int) ops = fpLi m (allL m ops) := by unfold fpV; rw [hb, if_pos rfl, acV_all hb, Int.toNat_natCast]
  rw [hb, e1] at a1 a2
  rw [hb, acV_all hb, Int.toNat_natCast] at a3 a4
  have hpart := fp_t14 m ops hs hm0 hm8 h4 ho hg hb h200
  have v1 := rtable_c (allL m ops) (by omega) (fun r hr => by rw [(fc_pt _ hr).len]; omega)
  generalize fpLi m (allL m ops) = F at *
  generalize allL m ops = V at *
  repeat' ((fail_if_success (refine at_reg 14 ?_)); (first
| refine g_settle 0 rfl (by dsimp only [setlP, setl1, setlH, bitvec_to_nat, Nat.reduceAdd, Nat.reduceMul, Nat.reduceBEq, reduceCtorEq]) ?_
| refine wO ?_
| (refine o_go rfl ?_; (first
| refine p_p (zG rfl rfl aD (hv)) ?_
| refine p_p (zG rfl rfl aD (d1)) ?_
| refine p_p (zG rfl rfl aD (a1)) ?_
| refine p_p (zG rfl rfl aD (a2)) ?_
| refine p_p (zG rfl rfl aD (a3)) ?_
| refine p_p (zG rfl rfl aD (a4)) ?_
| refine p_p (zG rfl rfl aD (v1)) ?_
| refine p_p (ps_neqBY rfl rfl rfl (by rfl)) ?_
| refine p_p (ps_neqIF rfl rfl rfl) ?_
| refine wS ?_
| refine p_p (ps_load_agg rfl rfl aK) ?_
| refine p_e rfl (zO rfl rfl rfl rfl aK rfl rfl rfl) ?_
| refine p_e rfl (e_alloc rfl) ?_); refine ⟨_, aB, ?_⟩)
| refine zR ?_))
  all_goals try (exfalso; first | omega | (simp at hc; done))
  refine at_reg 14 ?_
  exact g_tail rfl ⟨aI, zM _⟩ hpart
end Go.Proofs.YtepjlgilopfnpaaGreat
