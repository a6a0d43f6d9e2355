/- The law of subdirect decompositions. -/
import Derived.Test.YtbohjibbgppfaaaGreatJTh
import Derived.Test.YtbohjibbgppfaaaGreatJVr
import Derived.Test.YtbohjibbgppfaaaGreatJYc
import Derived.Test.YtbohjibbgppfaaaGreatJZb
namespace Go.Proofs.YtbohjibbgppfaaaGreat
open Go Go.Pv Go.Proofs
set_option maxHeartbeats 32000000
set_option maxRecDepth 100000
attribute [local bitvec_to_nat] St.put St.setObj St.ev killP killA killP1 killH mapHO renP renA ren1 killG killGA killG1 krowP krowA krow1 lendP lendA lend1 unv pinP pin1 elemsM viewM viewN viewV n_set_z n_set_s n_map_c n_map_n getD_z getD_s n_toNat n_cond_t n_cond_f n_len_c n_len_n n_app_c n_app_n n_take_s n_take_z n_drop_s n_drop_z n_get_z n_get_s view viewA view1 elems Nat.zero_add Nat.add_zero Bool.not_true Bool.not_false Nat.one_ne_zero Nat.mul_one

theorem drawIA9_c {l : List Int} (h : bytesOk l) : ∃ n ops, smA ops ∧ szN n ∧ PCalls Tryz.prog 85 [bytesP l] (algP n ops) := by
  obtain ⟨c', n, ops, -, hs, hz, hL⟩ := algebra_B (cu0_ok h) (by omega)
  refine ⟨n, ops, hs, hz, ?_⟩
  refine pcallsC Tryz.func85 rfl Tryz.ntmps85 rfl ?_
  refine wF ?_
  repeat' (first
| refine wO ?_
| (refine o_go rfl ?_; (first
| refine p_e rfl (e_box rfl rfl) ?_
| refine p_e rfl (e_callL (n := 1) rfl rfl rfl aL rfl (by rfl) aS (hL)) ?_
| refine wS ?_
| refine p_e rfl (zO rfl rfl rfl rfl aK rfl rfl rfl) ?_
| refine p_e rfl (e_alloc rfl) ?_
| refine p_p (ps_build rfl rfl) ?_); refine ⟨_, aA, ?_⟩)
| refine krc ?_
| refine krC rfl aK ?_
| refine wE ?_)
  rfl
theorem drawSL_c {l : List Int} (h : bytesOk l) : ∃ n ops, smA ops ∧ szN n ∧ PCalls Tryz.prog 21 [bytesP l] (algP n ops) := by
  obtain ⟨n, ops, hs, hz, hc⟩ := drawIA9_c h
  refine ⟨n, ops, hs, hz, ?_⟩
  refine pcallsC Tryz.func21 rfl Tryz.ntmps21 rfl ?_
  refine wF ?_
  repeat' (first
| refine wO ?_
| (refine o_go rfl ?_; (first
| refine p_p (zG rfl rfl aB (hc)) ?_
| refine wS ?_
| refine p_e rfl (zO rfl rfl rfl rfl aK rfl rfl rfl) ?_
| refine p_e rfl (e_alloc rfl) ?_); refine ⟨_, aA, ?_⟩)
| refine krc ?_
| refine krC rfl aK ?_
| refine wE ?_)
  rfl
theorem drawCP_c {l : List Int} (h : bytesOk l) : ∃ n ops x y, smA ops ∧ szN n ∧ PCalls Tryz.prog 103 [bytesP l] (.tup [algP n ops, I x, I y]) := by
  obtain ⟨c1, n, ops, k1, hs, hz, h1⟩ := algebra_B (cu0_ok h) (by omega)
  have hz9 : n ≤ 9 := by unfold szN at hz; omega
  obtain ⟨c2, x, k2, h2⟩ := element_L k1 (by omega) n ops hz9
  obtain ⟨c3, y, k3, h3⟩ := element_L k2 (by omega) n ops hz9
  refine ⟨n, ops, x, y, hs, hz, ?_⟩
  refine pcalls_CTT Tryz.func103 rfl Tryz.ntmps103 rfl ?_
  refine wF ?_
  repeat' (first
| refine wO ?_
| (refine o_go rfl ?_; (first
| refine p_e rfl (e_box rfl rfl) ?_
| refine p_e rfl (e_callL (n := 1) rfl rfl rfl aL rfl (by rfl) aS (h1)) ?_
| refine wS ?_
| refine p_e rfl (zO rfl rfl rfl rfl aK rfl rfl rfl) ?_
| refine p_e rfl (e_alloc rfl) ?_
| refine p_p (ps_build rfl rfl) ?_); refine ⟨_, aA, ?_⟩))
  refine g_region_drawZ [(0, some []), (1, some []), (2, some []), (4, some []), (5, some []), (3, none), (6, none), (7, none), (8, none), (9, none)] [] (fun hp => hp[2]? = some (.box [I n, opsP ops])) (by kernel_rfl) rfl (by kernel_rfl) ?_
  repeat' (first
| refine z_nil ?_
| ((first
| refine zV rfl rfl (fun hp hH => zY rfl rfl hH aK) aJ aD (by decide) aC ?_
| refine zV rfl rfl (fun _ _ => zD rfl) aJ aD (by decide) aC ?_
| refine z_eff rfl rfl aG (j_callLB (n := 1) rfl rfl rfl aL (by rfl) (by rfl) (h2)) aH ?_
| refine z_eff rfl rfl aG (j_callLB (n := 1) rfl rfl rfl aL (by rfl) (by rfl) (h3)) aH ?_
| refine z_eff rfl rfl aG (j_store_boxA rfl rfl rfl rfl aK rfl rfl rfl) aH ?_
| refine z_eff rfl rfl aG (j_pure (zA rfl)) aH ?_); refine ⟨_, aQ, ?_⟩))
  repeat' (first
| refine wE ?_)
  exact krg_CTT (krC rfl aK rfl) (krI rfl rfl) (krI rfl rfl)
theorem drawSF_c {l : List Int} (h : bytesOk l) : ∃ n ops x y, smA ops ∧ szN n ∧ PCalls Tryz.prog 34 [bytesP l] (.tup [algP n ops, I x, I y]) := by
  obtain ⟨n, ops, x, y, hs, hz, hc⟩ := drawCP_c h
  refine ⟨n, ops, x, y, hs, hz, ?_⟩
  refine pcalls_CTT Tryz.func34 rfl Tryz.ntmps34 rfl ?_
  refine wF ?_
  repeat' (first
| refine wO ?_
| (refine o_go rfl ?_; (first
| refine p_p (zG rfl rfl aB (hc)) ?_
| refine wS ?_
| refine p_e rfl (zO rfl rfl rfl rfl aK rfl rfl rfl) ?_
| refine p_e rfl (e_alloc rfl) ?_); refine ⟨_, aA, ?_⟩)
| refine wE ?_)
  exact krg_CTT (krC rfl aK rfl) (krI rfl rfl) (krI rfl rfl)
theorem sfO_len (n : Int) (ops : List OpD) (x y : Int) : ((sfO n ops x y).getD []).length ≤ 8 := by
  unfold sfO
  cases hb : acB n ops with
  | false => exact Nat.zero_le _
  | true =>
    obtain ⟨m, rfl, hm0, hm8, h4, ho, hg, h2⟩ := acB_facts hb
    rw [Int.toNat_natCast, Bool.true_and]
    split
    · cases hO : sepO (irrC m (allL m ops) (allL m ops)) x.toNat y.toNat with
      | none => exact Nat.zero_le _
      | some i =>
        unfold sepO at hO
        have hi := List.mem_range.1 (List.mem_of_find?_eq_some hO)
        show ((irrC m (allL m ops) (allL m ops)).getD i []).length ≤ 8
        have pt : Pt m ((irrC m (allL m ops) (allL m ops)).getD i []) := fc_pt _ (List.mem_filter.1 (rows_mem hi)).1
        rw [pt.len]; exact hm8
    · exact Nat.zero_le _
theorem sfO_told {n : Int} {ops : List OpD} {x y : Int} (hg : algOk n ops = true) (hz : szN n) (h : (sfO n ops x y).isSome = false) : ¬ (0 ≤ x ∧ 0 ≤ y ∧ x < n ∧ y < n ∧ x ≠ y) := by
  rintro ⟨x0, y0, xn, yn, hne⟩
  obtain ⟨m, rfl, hm0, hm8, h4, ho⟩ := algOk_facts hg
  have hm5 : m ≤ 5 := by unfold szN at hz; omega
  have hac := acB_of hg (by have := allL_few hm5 ops; omega)
  have hin : inSizeB [x, y] (m : Int) = true := inSz2.2 ⟨⟨x0, xn⟩, y0, yn⟩
  obtain ⟨x, rfl⟩ : ∃ a : Nat, x = a := ⟨x.toNat, by omega⟩
  obtain ⟨y, rfl⟩ : ∃ a : Nat, y = a := ⟨y.toNat, by omega⟩
  obtain ⟨p, hp, hb⟩ := irr_sep ho (x := x) (y := y) (by omega) (by omega) (by omega)
  unfold sfO at h
  rw [hac, hin, Int.toNat_natCast, Int.toNat_natCast, Int.toNat_natCast] at h
  have pt := fc_pt _ (List.mem_filter.1 hp).1
  obtain ⟨i, hi, e⟩ := List.getElem_of_mem hp
  have hO : (sepO (irrC m (allL m ops) (allL m ops)) x y).isSome = true := by
    unfold sepO
    rw [List.find?_isSome]
    refine ⟨i, List.mem_range.2 hi, ?_⟩
    rw [rows_get hi, e, pt.val (by omega), pt.val (by omega), Bool.not_eq_true', decide_eq_false_iff_not]
    omega
  rw [Bool.true_and, if_pos rfl, Option.isSome_map, hO] at h
  cases h
theorem sd_t48 (l : List Int) (hB : bytesOk l) :
    Goal Tryz.prog (tailAt 48 (bodyC Tryz.f4)) (KRets [2] [B true]) ⟨zZ (List.replicate 331 .any) [(0, bytesP l)], []⟩ := by
  conv => arg 2; whnf
  simp only [List.replicate_succ, List.replicate_zero]
  dsimp only [zZ, List.set_cons_zero, List.set_cons_succ]
  obtain ⟨n, ops, x, y, hsm, hz, d1⟩ := drawSF_c hB
  have hs := hsm.ok
  have h1 := isepf_c n ops x y hs
  have h2 := ssepf_c n ops x y hs
  have hlen := sfO_len n ops x y
  have v1 := rintsY_c ((sfO n ops x y).getD []) ((sfO n ops x y).getD []) (by omega) (by omega)
  rw [decide_eq_true rfl] at v1
  have g1 := igood_c n ops hs
  have hno := fun hg => sfO_told (n := n) (ops := ops) (x := x) (y := y) hg hz
  generalize (sfO n ops x y).getD [] = P at *
  generalize (sfO n ops x y).isSome = T at *
  cases T with
  | true =>
    cases hg : algOk n ops with
    | true =>
      rw [hg] at g1
      repeat' (first
| refine g_settle 0 rfl (by dsimp only [setlP, setl1, setlH, bitvec_to_nat, Nat.reduceAdd, Nat.reduceMul, Nat.reduceBEq, reduceCtorEq]) ?_
| refine wO ?_
| (refine o_go rfl ?_; (first
| refine p_p (zG rfl rfl aB (d1)) ?_
| refine p_p (zG rfl rfl aB (h1)) ?_
| refine p_p (zG rfl rfl aB (h2)) ?_
| refine p_p (zG rfl rfl aB (v1)) ?_
| refine p_p (zG rfl rfl aB (g1)) ?_
| refine p_p (ps_neqBY rfl rfl rfl (by rfl)) ?_
| refine wS ?_
| refine p_p (ps_load_agg rfl rfl aK) ?_
| refine p_e rfl (zO rfl rfl rfl rfl aK rfl rfl rfl) ?_
| refine p_e rfl (e_alloc rfl) ?_); refine ⟨_, aA, ?_⟩)
| (refine o_s rfl ?_; refine ⟨_, aA, ?_⟩)
| (refine o_splitD rfl rfl rfl (fun hc => ?_) (fun hc => ?_) <;> first | (exfalso; omega) | dsimp only [List.set_cons_zero, List.set_cons_succ])
| (refine o_splitN rfl rfl rfl (fun hc => ?_) (fun hc => ?_) <;> dsimp only [List.set_cons_zero, List.set_cons_succ])
| refine kr1 ?_
| refine krB rfl ?_
| refine wE ?_)
      all_goals first | rfl | (exfalso; omega) | (exfalso; have hc2 := of_decide_eq_false hc; omega)
    | false =>
      rw [hg] at g1
      repeat' (first
| refine g_settle 0 rfl (by dsimp only [setlP, setl1, setlH, bitvec_to_nat, Nat.reduceAdd, Nat.reduceMul, Nat.reduceBEq, reduceCtorEq]) ?_
| refine wO ?_
| (refine o_go rfl ?_; (first
| refine p_p (zG rfl rfl aB (d1)) ?_
| refine p_p (zG rfl rfl aB (h1)) ?_
| refine p_p (zG rfl rfl aB (h2)) ?_
| refine p_p (zG rfl rfl aB (v1)) ?_
| refine p_p (zG rfl rfl aB (g1)) ?_
| refine p_p (ps_neqBY rfl rfl rfl (by rfl)) ?_
| refine wS ?_
| refine p_p (ps_load_agg rfl rfl aK) ?_
| refine p_e rfl (zO rfl rfl rfl rfl aK rfl rfl rfl) ?_
| refine p_e rfl (e_alloc rfl) ?_); refine ⟨_, aA, ?_⟩)
| (refine o_s rfl ?_; refine ⟨_, aA, ?_⟩)
| (refine o_splitD rfl rfl rfl (fun hc => ?_) (fun hc => ?_) <;> first | (exfalso; omega) | dsimp only [List.set_cons_zero, List.set_cons_succ])
| refine kr1 ?_
| refine krB rfl ?_
| refine wE ?_)
      all_goals first | rfl | (exfalso; omega) | (exfalso; have hc2 := of_decide_eq_false hc; omega)
  | false =>
    cases hg : algOk n ops with
    | true =>
      rw [hg] at g1
      have hno := hno hg rfl
      repeat' (first
| refine g_settle 0 rfl (by dsimp only [setlP, setl1, setlH, bitvec_to_nat, Nat.reduceAdd, Nat.reduceMul, Nat.reduceBEq, reduceCtorEq]) ?_
| refine wO ?_
| (refine o_go rfl ?_; (first
| refine p_p (zG rfl rfl aB (d1)) ?_
| refine p_p (zG rfl rfl aB (h1)) ?_
| refine p_p (zG rfl rfl aB (h2)) ?_
| refine p_p (zG rfl rfl aB (v1)) ?_
| refine p_p (zG rfl rfl aB (g1)) ?_
| refine p_p (ps_neqBY rfl rfl rfl (by rfl)) ?_
| refine wS ?_
| refine p_p (ps_load_agg rfl rfl aK) ?_
| refine p_e rfl (zO rfl rfl rfl rfl aK rfl rfl rfl) ?_
| refine p_e rfl (e_alloc rfl) ?_); refine ⟨_, aA, ?_⟩)
| (refine o_s rfl ?_; refine ⟨_, aA, ?_⟩)
| (refine o_splitD rfl rfl rfl (fun hc => ?_) (fun hc => ?_) <;> first | (exfalso; omega) | dsimp only [List.set_cons_zero, List.set_cons_succ])
| (refine o_splitN rfl rfl rfl (fun hc => ?_) (fun hc => ?_) <;> dsimp only [List.set_cons_zero, List.set_cons_succ])
| refine kr1 ?_
| refine krB rfl ?_
| refine wE ?_)
      all_goals first | rfl | (exfalso; omega) | (exfalso; have hc2 := of_decide_eq_false hc; omega)
    | false =>
      rw [hg] at g1
      repeat' (first
| refine g_settle 0 rfl (by dsimp only [setlP, setl1, setlH, bitvec_to_nat, Nat.reduceAdd, Nat.reduceMul, Nat.reduceBEq, reduceCtorEq]) ?_
| refine wO ?_
| (refine o_go rfl ?_; (first
| refine p_p (zG rfl rfl aB (d1)) ?_
| refine p_p (zG rfl rfl aB (h1)) ?_
| refine p_p (zG rfl rfl aB (h2)) ?_
| refine p_p (zG rfl rfl aB (v1)) ?_
| refine p_p (zG rfl rfl aB (g1)) ?_
| refine p_p (ps_neqBY rfl rfl rfl (by rfl)) ?_
| refine wS ?_
| refine p_p (ps_load_agg rfl rfl aK) ?_
| refine p_e rfl (zO rfl rfl rfl rfl aK rfl rfl rfl) ?_
| refine p_e rfl (e_alloc rfl) ?_); refine ⟨_, aA, ?_⟩)
| (refine o_s rfl ?_; refine ⟨_, aA, ?_⟩)
| (refine o_splitD rfl rfl rfl (fun hc => ?_) (fun hc => ?_) <;> first | (exfalso; omega) | dsimp only [List.set_cons_zero, List.set_cons_succ])
| refine kr1 ?_
| refine krB rfl ?_
| refine wE ?_)
      all_goals first | rfl | (exfalso; omega) | (exfalso; have hc2 := of_decide_eq_false hc; omega)
/-! ### The factors -/
theorem fac_facts {m : Nat} {ops : List OpD} {p : List Int} (hm0 : 0 < m) (hm5 : m ≤ 5) (h4 : ops.length ≤ 4) (ho : opsIn m ops) (hp : p ∈ irrC m (allL m ops) (allL m ops)) :
    Pt m p ∧ Cong m ops p ∧ 0 < (lstN p m).length ∧ (lstN p m).length ≤ 5 ∧ szOk (quoL m p ops) ∧ algOk ((lstN p m).length : Int) (quoL m p ops) = true ∧ acB ((lstN p m).length : Int) (quoL m p ops) = true ∧ (monO (lstN p m).length ((allL (lstN p m).length (quoL m p ops)).drop 1)).isSome = true := by
  obtain ⟨pt, cg⟩ := allL_mem.1 (List.mem_filter.1 hp).1
  have hk0 := lst_pos pt hm0
  have hk5 : (lstN p m).length ≤ 5 := by have := lstN_le p m; omega
  have hqi := quo_in hm0 pt ho
  have hq4 : (quoL m p ops).length ≤ 4 := by simp [quoL]; omega
  have hqg := algOk_of hk0 (by omega) hq4 hqi
  refine ⟨pt, cg, hk0, hk5, szOk_in (show (lstN p m).length ≤ 8 by omega) hq4 hqi, hqg, acB_of hqg (by have := allL_few hk5 (quoL m p ops); omega), quo_mono hm0 ho hp⟩
theorem blX_get {n : Nat} {L : List (List Int)} {x i : Nat} (hx : x < n) (hi : i < L.length) : (blX n L x).getD i 0 = (nmN (L.getD i []) x : Int) := by
  unfold blX
  rw [List.getD_eq_getElem?_getD, List.getElem?_map, List.getElem?_eq_getElem hi]
  show (natL n L[i]).getD x 0 = _
  rw [nat_getD hx, rows_get hi]
theorem blR_get {n : Nat} {L : List (List Int)} {x k : Nat} (hx : x < k) : (blR n L k).getD x [] = blX n L x := getD_map_range _ _ _ hx
theorem blX_len (n : Nat) (L : List (List Int)) (x : Nat) : (blX n L x).length = L.length := by simp [blX]
theorem blX_ne {m : Nat} {L : List (List Int)} (hPt : ∀ p ∈ L, Pt m p) (hc : cnt m (mtF m (fullL m) L) = m) {x y : Nat} (hx : x < m) (hy : y < m) (hxy : x ≠ y) : blX m L x ≠ blX m L y := fun e => by
  obtain ⟨p, hp, hb⟩ := sep_cnt.1 hc x y hx hy hxy
  obtain ⟨i, hi, rfl⟩ := List.getElem_of_mem hp
  have h1 := blX_get (n := m) hx hi
  have h2 := blX_get (n := m) hy hi
  rw [e, h2, rows_get hi] at h1
  have h3 : nmN L[i] y = nmN L[i] x := by omega
  exact hb ((nm_eq (hPt _ hp) hx hy).1 h3.symm)
theorem fac_at {m : Nat} {ops : List OpD} {L : List (List Int)} {k : Nat} (h : k < L.length) : (L.map fun p => algP ((lstN p m).length : Int) (quoL m p ops))[((k : Nat) : Int).toNat]? = some (algP ((lstN (L.getD k []) m).length : Int) (quoL m (L.getD k []) ops)) := by
  rw [Int.toNat_natCast, List.getElem?_map, List.getElem?_eq_getElem h, rows_get h]; rfl
end Go.Proofs.YtbohjibbgppfaaaGreat
