/- Walks: translated pairs, the program's side. -/
import Derived.Test.YtkdagmbgjddopaaJKp
import Derived.Test.YtkdagmbgjddopaaJNr
namespace Go.Proofs.Ytkdagmbgjddopaa
open Go Go.Pv Go.Proofs
set_option maxHeartbeats 32000000
set_option maxRecDepth 100000
attribute [local bitvec_to_nat] St.put St.setObj St.ev killP killA killP1 killH mapHO renP renA ren1 killG killGA killG1 krowP krowA krow1 lendP lendA lend1 unv pinP pin1 elemsM viewM viewN viewV n_set_z n_set_s n_map_c n_map_n getD_z getD_s n_toNat n_cond_t n_cond_f n_len_c n_len_n n_app_c n_app_n n_take_s n_take_z n_drop_s n_drop_z n_get_z n_get_s view viewA view1 elems Nat.zero_add Nat.add_zero Bool.not_true Bool.not_false Nat.one_ne_zero Nat.mul_one
attribute [local bitvec_to_nat] posI optP lendM1 lendMA lendMP killM1 killMA killMP hasI getO backM1 backMA backMP putL inpM pinM1 pinMA pinMP

noncomputable def trH (n : Nat) (ops : List OpD) (x y : Nat) : List Bool := (List.range (n * n)).map fun k => decide (k / n ≤ k % n) && trB n ops x y (k / n) (k % n)
theorem trH_len (n : Nat) (ops : List OpD) (x y : Nat) : (trH n ops x y).length = n * n := by simp [trH]
theorem hv_trH {n : Nat} {ops : List OpD} {x y : Nat} {L : List (Nat × Nat)} (hL : ∀ pr ∈ L, pr.1 < n ∧ pr.2 < n) (h : ∀ s t, s < n → t < n → hasP n L s t = trB n ops x y s t) : hvL n L = trH n ops x y := by
  unfold hvL trH
  refine List.map_congr_left fun k hk => ?_
  have hk := List.mem_range.1 hk
  have hn : 0 < n := by
    rcases Nat.eq_zero_or_pos n with e | e
    · subst e; simp at hk
    · exact e
  have h1 : k / n < n := Nat.div_lt_of_lt_mul hk
  have h2 : k % n < n := Nat.mod_lt _ hn
  rw [← h _ _ h1 h2]
  have hdm := Nat.div_add_mod k n
  by_cases hle : k / n ≤ k % n
  · have hky : kyP n (k / n) (k % n) = k := by
      unfold kyP
      rw [show min (k / n) (k % n) = k / n by omega, show max (k / n) (k % n) = k % n by omega, Nat.mul_comm]; exact hdm
    rw [decide_eq_true hle, Bool.true_and]
    unfold hasP
    rw [hky]
  · rw [decide_eq_false hle, Bool.false_and, List.contains_eq_mem, decide_eq_false_iff_not]
    intro hm
    obtain ⟨pr, hp, e⟩ := List.mem_map.1 hm
    obtain ⟨p1, p2⟩ := hL pr hp
    have := kyP_div p1 p2
    rw [e] at this
    omega
theorem itrans_c (n : Nat) (ops : List OpD) (x y : Nat) (hn : n ≤ 8) (hl : ops.length ≤ 1048576) (ho : opsIn n ops) (hx : x < n) (hy : y < n) : PCalls Try.prog 28 [algP n ops, I (x : Int), I (y : Int)] (.sl 1 none ((trH n ops x y).map B)) := by
  refine pcalls1 Try.func28 rfl Try.ntmps28 rfl ?_
  simp only [List.length_cons, List.length_nil, Nat.reduceAdd, Nat.reduceSub, List.replicate_succ, List.replicate_zero, List.cons_append, List.nil_append]
  have hn0 : 0 < n := by omega
  have hnn : n * n ≤ 64 := Nat.le_trans (Nat.mul_le_mul hn hn) (by decide)
  have hm1 : (n : Int) * (n : Int) = ((n * n : Nat) : Int) := by push_cast; rfl
  have h0 := tr0_c n x y hn hx hy
  have hmk := hvL_nil n
  have hrep : List.replicate (n * n) (PV.val (Value.bool false)) = (hvL n []).map B := hmk.symm
  repeat' ((fail_if_success (refine at_reg1 3 ?_)); (first
| refine g_seq ?_
| refine g_region ?_
| (refine o_go rfl ?_; (first
| refine p_p (ps_mulV rfl rfl rfl hm1 (by omega)) ?_
| refine p_p (ps_assign rfl) ?_
| refine p_p (ps_load_cell rfl rfl) ?_
| refine p_p (ps_fieldAddr rfl rfl) ?_
| refine p_p (ps_load_box rfl rfl rfl rfl) ?_
| refine p_e rfl (e_make1 rfl rfl rfl (by omega) (by omega) (by omega) rfl rfl) ?_
| refine p_e rfl (e_store_boxC rfl rfl rfl rfl aK rfl rfl) ?_
| refine p_e rfl (e_alloc rfl) ?_
| refine p_p (ps_box rfl rfl) ?_); refine ⟨_, aA, ?_⟩)
| refine o_nil ?_))
  rw [hrep]
  refine g_pin 7 0 rfl fun bn dn => ⟨_, by dsimp only [bitvec_to_nat, Nat.reduceAdd, Nat.reduceMul, Nat.reduceBEq, reduceCtorEq, posI, optP, lendM1, lendMA, lendMP, killM1, killMA, killMP, hasI, getO, backM1, backMA, backMP, putL, inpM, pinM1, pinMA, pinMP, List.set_cons_zero, List.set_cons_succ], ?_⟩
  refine g_pin 8 2 rfl fun bh dh => ⟨_, by dsimp only [bitvec_to_nat, Nat.reduceAdd, Nat.reduceMul, Nat.reduceBEq, reduceCtorEq, posI, optP, lendM1, lendMA, lendMP, killM1, killMA, killMP, hasI, getO, backM1, backMA, backMP, putL, inpM, pinM1, pinMA, pinMP, List.set_cons_zero, List.set_cons_succ], ?_⟩
  refine g_gones [.gone] ⟨rfl, trivial⟩ ⟨_, by dsimp only [bitvec_to_nat, Nat.reduceAdd, Nat.reduceMul, Nat.reduceBEq, reduceCtorEq, posI, optP, lendM1, lendMA, lendMP, killM1, killMA, killMP, hasI, getO, backM1, backMA, backMP, putL, inpM, pinM1, pinMA, pinMP], ?_⟩
  repeat' (first
| refine g_seq ?_
| refine g_block ?_
| refine g_region ?_
| (refine o_go rfl ?_; (first
| refine p_p (ps_makeFuncV rfl rfl rfl) ?_
| refine p_e (by kernel_rfl) (e_callMV (ids := [2, 1, 0, 3]) (j1 := 8) (j2 := 7) (k1 := 0) (k2 := 2) rfl rfl ⟨rfl, rfl, rfl, rfl⟩ rfl rfl (by rfl) aJ rfl h0) ?_
| refine p_p (ps_move rfl) ?_
| refine p_p (ps_assign rfl) ?_); refine ⟨_, aA, ?_⟩)
| refine o_nil ?_)
  have hT0 : TInv n ops x y [(min x y, max x y)] := .start (by
    rcases Nat.le_total x y with h | h
    · left; rw [show min x y = x by omega, show max x y = y by omega]
    · right; rw [show min x y = y by omega, show max x y = x by omega])
  clear h0 hmk hrep
  refine g_loopF (α := Nat × List (Nat × Nat)) [30] (fun z => [(10, .hp 3), (11, I (z.1 : Int))]) (fun z => [.box [I (n : Int)], hvO n z.2, .box [.hp 1], prO z.2]) (fun z => z.1 ≤ z.2.length ∧ TInv n ops x y z.2 ∧ ∀ j, j < z.1 → ClP n ops z.2 (z.2.getD j (0, 0))) (fun z => n * n - z.1) (0, [(min x y, max x y)]) aH ⟨Nat.zero_le _, hT0, fun j hj => absurd hj (Nat.not_lt_zero _)⟩ ⟨rfl, rfl, trivial⟩ rfl ?_
  clear hT0
  rintro ⟨m, L⟩ ⟨hml, hT, hC⟩
  dsimp only at hml hT hC
  dsimp only [setMany, List.set_cons_zero, List.set_cons_succ]
  have hLl := hT.len ho hx hy
  have hLlt := hT.lt ho hx hy
  have hLml : (L.map prP).length = L.length := List.length_map _
  by_cases hmi : m < L.length
  · have hst := hT.ok _ (prmem hmi)
    have hstl := hLlt _ (prmem hmi)
    have hq := prO_at hmi
    obtain ⟨s, t, hde⟩ : ∃ s t, L.getD m (0, 0) = (s, t) := ⟨_, _, rfl⟩
    rw [hde] at hst hstl hq
    dsimp only at hst hstl
    repeat' (first
| refine g_seq ?_
| refine g_block ?_
| refine g_region ?_
| refine g_region_draw (by kernel_rfl) (by kernel_rfl) ?_
| (refine o_go rfl ?_; (first
| refine p_p (ps_index_mut rfl rfl rfl rfl (by omega) (by rw [n_toNat]; omega)) ?_
| refine p_p (ps_index_hatarr rfl rfl rfl (by decide) (by decide)) ?_
| refine p_p (ps_load_arrS (i := m) (j := 0) rfl rfl rfl (by first | rfl | omega) hq rfl rfl) ?_
| refine p_p (ps_load_arrS (i := m) (j := 1) rfl rfl rfl (by first | rfl | omega) hq rfl rfl) ?_
| refine p_p (ps_move rfl) ?_
| refine p_p (ps_assign rfl) ?_
| refine p_p (ps_load_cell rfl rfl) ?_
| refine p_p (ps_lenM rfl rfl rfl) ?_
| refine p_p (ps_lss rfl rfl rfl) ?_
| refine p_p (ps_fieldAddr rfl rfl) ?_
| refine p_p (ps_len_mut rfl rfl rfl rfl) ?_); refine ⟨_, aA, ?_⟩)
| refine o_nil ?_
| (refine g_condD rfl (fun hc => ?_) (fun hc => ?_) <;> try (exfalso; omega))
| refine g_skip ?_)
    all_goals try (exfalso; omega)
    refine g_loopF (α := Nat × List (Nat × Nat)) [32, 37, 39, 40, 42, 44, 45] (fun z => [(10, .hp 3), (50, I (z.1 : Int))]) (fun z => [.box [I (n : Int)], hvO n z.2, .box [.hp 1], prO z.2]) (fun z => z.1 ≤ ops.length ∧ TInv n ops x y z.2 ∧ Gw L z.2 ∧ ∀ f ∈ ops.take z.1, ∀ k, k < f.ar.toNat → ∀ j, j < n ^ f.ar.toNat → Ti n z.2 f s t k j) (fun z => ops.length - z.1) (0, L) aH ⟨Nat.zero_le _, hT, .refl L, fun f hf => (by simp at hf)⟩ ⟨rfl, rfl, trivial⟩ rfl ?_
    rintro ⟨o, M1⟩ ⟨hol, hT1, hG1, hD1⟩
    dsimp only at hol hT1 hG1 hD1
    dsimp only [setMany, List.set_cons_zero, List.set_cons_succ]
    by_cases hoi : o < ops.length
    · have hqo := opsK_at hoi
      have hfm := opsK_mem hoi
      have htk : ops.take (o + 1) = ops.take o ++ [ops.getD o default] := take_snoc default hoi
      obtain ⟨ha0, ha3, htl, hvl⟩ := ho _ hfm
      generalize hf : ops.getD o default = f at *
      obtain ⟨a, ha⟩ : ∃ a : Nat, f.ar = a := ⟨f.ar.toNat, by omega⟩
      have haa : f.ar.toNat = a := by omega
      have hpw := pow_le3 (show n ≤ 1000 by omega) (show a ≤ 3 by omega)
      rw [haa] at htl hvl
      repeat' (first
| refine g_seq ?_
| refine g_block ?_
| refine g_region ?_
| (refine o_go rfl ?_; (first
| refine p_p (ps_index rfl rfl rfl (by omega) hqo (by exact rfl)) ?_
| refine p_p (ps_assign rfl) ?_
| refine p_p (ps_load_agg rfl rfl aK) ?_
| refine p_p (ps_lss rfl rfl rfl) ?_
| refine p_e rfl (e_store_boxA rfl rfl rfl rfl aK rfl rfl rfl) ?_
| refine p_e rfl (e_alloc rfl) ?_); refine ⟨_, aA, ?_⟩)
| refine o_nil ?_
| (refine g_condD rfl (fun hc => ?_) (fun hc => ?_) <;> try (exfalso; omega))
| refine g_skip ?_)
      all_goals try (exfalso; omega)
      refine g_loopF (α := Nat × List (Nat × Nat)) [] (fun z => [(10, .hp 3), (16, I ((n ^ z.1 : Nat) : Int)), (17, I (z.1 : Int))]) (fun z => [.box [I (n : Int)], hvO n z.2, .box [.hp 1], prO z.2, .box [I f.ar, ints f.tb]]) (fun z => z.1 ≤ a ∧ TInv n ops x y z.2 ∧ Gw M1 z.2 ∧ ∀ k, k < z.1 → ∀ j, j < n ^ a → Ti n z.2 f s t k j) (fun z => a - z.1) (0, M1) aH ⟨Nat.zero_le _, hT1, .refl M1, fun j hj => absurd hj (Nat.not_lt_zero _)⟩ ⟨rfl, rfl, rfl, trivial⟩ rfl ?_
      rintro ⟨k, M2⟩ ⟨hk, hT2, hG2, hD2⟩
      dsimp only at hk hT2 hG2 hD2
      dsimp only [setMany, List.set_cons_zero, List.set_cons_succ]
      have hpk := pow_le3 (show n ≤ 1000 by omega) (show k ≤ 3 by omega)
      have hpk0 : 0 < n ^ k := Nat.pow_pos hn0
      by_cases hka : k < a
      · have hpk1 := pow_le3 (show n ≤ 1000 by omega) (show k + 1 ≤ 3 by omega)
        have hps : ((n ^ k : Nat) : Int) * (n : Int) = ((n ^ (k + 1) : Nat) : Int) := by rw [Nat.pow_succ]; push_cast; rfl
        repeat' (first
| refine g_seq ?_
| refine g_block ?_
| refine g_region ?_
| (refine o_go rfl ?_; (first
| refine p_p (ps_move rfl) ?_
| refine p_p (ps_lenM rfl rfl rfl) ?_
| refine p_p (ps_lss rfl rfl rfl) ?_
| refine p_p (ps_load_box rfl rfl rfl rfl) ?_
| refine p_p (ps_fieldAddr_hat rfl rfl) ?_); refine ⟨_, aA, ?_⟩)
| refine o_nil ?_
| (refine g_condD rfl (fun hc => ?_) (fun hc => ?_) <;> try (exfalso; omega))
| refine g_skip ?_)
        all_goals try (exfalso; omega)
        refine g_loopF (α := Nat × List (Nat × Nat)) [] (fun z => [(10, .hp 3), (63, I (z.1 : Int))]) (fun z => [.box [I (n : Int)], hvO n z.2, .box [.hp 1], prO z.2, .box [I f.ar, ints f.tb]]) (fun z => z.1 ≤ n ^ a ∧ TInv n ops x y z.2 ∧ Gw M2 z.2 ∧ ∀ j, j < z.1 → Ti n z.2 f s t k j) (fun z => n ^ a - z.1) (0, M2) aH ⟨Nat.zero_le _, hT2, .refl M2, fun j hj => absurd hj (Nat.not_lt_zero _)⟩ ⟨rfl, rfl, trivial⟩ rfl ?_
        rintro ⟨i, M⟩ ⟨hi, hTM, hGM, hDM⟩
        dsimp only at hi hTM hGM hDM
        dsimp only [setMany, List.set_cons_zero, List.set_cons_succ]
        by_cases hil : i < n ^ a
        · have hix1 : (f.tb.map I)[((i : Nat) : Int).toNat]? = some (I (bk f.tb i : Int)) := by rw [← tb_val ho hfm (by rw [haa]; exact hil)]; exact idx_I (by omega)
          have hq1 : (i : Int) / ((n ^ k : Nat) : Int) = ((i / n ^ k : Nat) : Int) := by omega
          have hq2 : ((i / n ^ k : Nat) : Int) % (n : Int) = (digN n i k : Int) := by unfold digN; omega
          have hdv := Nat.div_le_self i (n ^ k)
          by_cases hds : digN n i k = s
          · have hsl := sub_lt hil hka hstl.2
            have hix3 : (f.tb.map I)[((subN n i k t : Nat) : Int).toNat]? = some (I (bk f.tb (subN n i k t) : Int)) := by rw [← tb_val ho hfm (by rw [haa]; exact hsl)]; exact idx_I (by omega)
            have hsi := sub_int (n := n) i k t
            rw [hds] at hsi
            have hmul : ((t : Int) - (s : Int)) * ((n ^ k : Nat) : Int) = (subN n i k t : Int) - (i : Int) := by omega
            have hadd : (i : Int) + ((subN n i k t : Int) - (i : Int)) = (subN n i k t : Int) := by omega
            have htr : TrP n ops x y (bk f.tb i) (bk f.tb (subN n i k t)) := hst.tr hfm (by rw [haa]; exact hka) (by rw [haa]; exact hil) hds
            have hTi : ∀ N, Gw M N → hasP n N (bk f.tb i) (bk f.tb (subN n i k t)) = true → ∀ j, j < i + 1 → Ti n N f s t k j := fun N hN hh j hj => by
              rcases Nat.lt_or_ge j i with h | h
              · exact hN.ti (hDM j h)
              · rw [show j = i by omega]; exact fun _ => hh
            have hul := (hvl i hil).2
            have hwl := (hvl _ hsl).2
            rw [hds] at hq2
            have hsub9 : (subN n i k t : Int) ≤ 1000000000 := by omega
            generalize subN n i k t = sb at *
            generalize bk f.tb sb = w at *
            generalize bk f.tb i = u at *
            have hMl := hTM.len ho hx hy
            have hcall := tr1_c n M u w hn hul hwl (by omega)
            have hnx : TInv n ops x y (insT n M u w) ∧ Gw M (insT n M u w) ∧ hasP n (insT n M u w) u w = true := by
              unfold insT
              cases hb : hasP n M u w with
              | true => exact ⟨hTM, .refl M, hb⟩
              | false =>
                have hw : (min u w, max u w) = (u, w) ∨ (min u w, max u w) = (w, u) := by
                  rcases Nat.le_total u w with h | h
                  · left; rw [show min u w = u by omega, show max u w = w by omega]
                  · right; rw [show min u w = w by omega, show max u w = u by omega]
                obtain ⟨h1, h2⟩ := hTM.add htr hw hb
                exact ⟨h1, .app M _, h2⟩
            generalize insT n M u w = M' at *
            repeat' (first
| refine g_seq ?_
| refine g_block ?_
| refine g_region ?_
| refine g_region_draw (by kernel_rfl) (by kernel_rfl) ?_
| (refine o_go rfl ?_; (first
| refine p_p (ps_unv (ps_load_box rfl rfl rfl rfl)) ?_
| refine p_p (ps_quoV rfl rfl rfl hq1 (by omega) (by omega) (by omega)) ?_
| refine p_p (ps_remV rfl rfl rfl hq2 (Int.natCast_nonneg _) (by omega)) ?_
| refine p_p (ps_mulV rfl rfl rfl hmul (by omega)) ?_
| refine p_p (ps_addV rfl rfl rfl hadd (by omega)) ?_
| refine p_p (ps_index rfl rfl rfl (by omega) hix1 (by exact rfl)) ?_
| refine p_p (ps_index rfl rfl rfl (by omega) hix3 (by exact rfl)) ?_
| refine p_e (by kernel_rfl) (e_callMV (ids := [2, 1, 0, 3]) (j1 := 8) (j2 := 7) (k1 := 0) (k2 := 2) rfl rfl ⟨rfl, rfl, rfl, rfl⟩ rfl rfl (by rfl) aJ rfl hcall) ?_
| refine p_p (ps_move rfl) ?_
| refine p_p (ps_assign rfl) ?_
| refine p_p (ps_load_cell rfl rfl) ?_
| refine p_p (ps_lss rfl rfl rfl) ?_
| refine p_p (ps_add rfl rfl rfl aM) ?_
| refine p_p (ps_eql rfl rfl rfl) ?_
| refine p_p (ps_sub rfl rfl rfl aM) ?_
| refine p_p (ps_fieldAddr_hat rfl rfl) ?_); refine ⟨_, aA, ?_⟩)
| refine o_nil ?_
| (refine g_condD rfl (fun hc => ?_) (fun hc => ?_) <;> try (exfalso; omega))
| refine g_skip ?_)
            all_goals try (exfalso; omega)
            exact k_round (i + 1, M') ⟨by dsimp only; omega, hnx.1, hGM.trans hnx.2.1, hTi M' hnx.2.1 hnx.2.2⟩ (by dsimp only; omega) aI ⟨rfl, rfl, trivial⟩ (hpLe_refl _)
          · repeat' (first
| refine g_seq ?_
| refine g_block ?_
| refine g_region ?_
| refine g_region_draw (by kernel_rfl) (by kernel_rfl) ?_
| (refine o_go rfl ?_; (first
| refine p_p (ps_unv (ps_load_box rfl rfl rfl rfl)) ?_
| refine p_p (ps_quoV rfl rfl rfl hq1 (by omega) (by omega) (by omega)) ?_
| refine p_p (ps_remV rfl rfl rfl hq2 (Int.natCast_nonneg _) (by omega)) ?_
| refine p_p (ps_index rfl rfl rfl (by omega) hix1 (by exact rfl)) ?_
| refine p_p (ps_move rfl) ?_
| refine p_p (ps_assign rfl) ?_
| refine p_p (ps_load_cell rfl rfl) ?_
| refine p_p (ps_lss rfl rfl rfl) ?_
| refine p_p (ps_add rfl rfl rfl aM) ?_
| refine p_p (ps_eql rfl rfl rfl) ?_); refine ⟨_, aA, ?_⟩)
| refine o_nil ?_
| (refine g_condD rfl (fun hc => ?_) (fun hc => ?_) <;> try (exfalso; omega))
| refine g_skip ?_)
            all_goals try (exfalso; omega)
            refine k_round (i + 1, M) ⟨by dsimp only; omega, hTM, hGM, fun j hj => ?_⟩ (by dsimp only; omega) aI ⟨rfl, rfl, trivial⟩ (hpLe_refl _)
            dsimp only at hj ⊢
            rcases Nat.lt_or_ge j i with h | h
            · exact hDM j h
            · rw [show j = i by omega]; exact fun h => absurd h hds
        · repeat' (first
| refine g_seq ?_
| refine g_region ?_
| (refine o_go rfl ?_; (first
| refine p_p (ps_unv (ps_load_box rfl rfl rfl rfl)) ?_
| refine p_p (ps_mulV rfl rfl rfl hps (by omega)) ?_
| refine p_p (ps_move rfl) ?_
| refine p_p (ps_assign rfl) ?_
| refine p_p (ps_lss rfl rfl rfl) ?_
| refine p_p (ps_add rfl rfl rfl aM) ?_); refine ⟨_, aA, ?_⟩)
| refine o_nil ?_
| (refine g_condD rfl (fun hc => ?_) (fun hc => ?_) <;> try (exfalso; omega))
| refine g_exit ?_)
          all_goals try (exfalso; omega)
          refine k_round (k + 1, M) ⟨by dsimp only; omega, hTM, hG2.trans hGM, fun k' hk' j hj => ?_⟩ (by dsimp only; omega) aI ⟨rfl, rfl, rfl, trivial⟩ (hpLe_refl _)
          dsimp only at hk' ⊢
          rcases Nat.lt_or_ge k' k with h | h
          · exact hGM.ti (hD2 k' h j hj)
          · rw [show k' = k by omega]; exact hDM j (by omega)
      · repeat' (first
| refine g_seq ?_
| refine g_region ?_
| (refine o_go rfl ?_; (first
| refine p_p (ps_move rfl) ?_
| refine p_p (ps_lss rfl rfl rfl) ?_
| refine p_p (ps_add rfl rfl rfl aM) ?_
| refine p_p (ps_load_box rfl rfl rfl rfl) ?_
| refine p_p (ps_fieldAddr_hat rfl rfl) ?_); refine ⟨_, aA, ?_⟩)
| refine o_nil ?_
| (refine g_condD rfl (fun hc => ?_) (fun hc => ?_) <;> try (exfalso; omega))
| refine g_exit ?_)
        all_goals try (exfalso; omega)
        refine k_round (o + 1, M2) ⟨by dsimp only; omega, hT2, hG1.trans hG2, fun g hg k' hk' j hj => ?_⟩ (by dsimp only; omega) aI ⟨rfl, rfl, trivial⟩ (hpLe_cons rfl (hpLe_cons rfl (hpLe_cons rfl (hpLe_cons rfl (hpLe_nil _)))))
        dsimp only at hg ⊢
        rw [htk, List.mem_append, List.mem_singleton] at hg
        rcases hg with hg | rfl
        · exact hG2.ti (hD1 g hg k' hk' j hj)
        · rw [haa] at hk' hj
          exact hD2 k' (by omega) j hj
    · repeat' (first
| refine g_seq ?_
| refine g_region ?_
| (refine o_go rfl ?_; (first
| refine p_p (ps_move rfl) ?_
| refine p_p (ps_assign rfl) ?_
| refine p_p (ps_lss rfl rfl rfl) ?_
| refine p_p (ps_add rfl rfl rfl aM) ?_); refine ⟨_, aA, ?_⟩)
| refine o_nil ?_
| (refine g_condD rfl (fun hc => ?_) (fun hc => ?_) <;> try (exfalso; omega))
| refine g_exit ?_)
      all_goals try (exfalso; omega)
      refine k_round (K := fun _ _ => True) (m + 1, M1) ⟨?_, hT1, fun j hj => ?_⟩ ?_ aI ⟨rfl, rfl, trivial⟩ (hpLe_refl _)
      · have := hG1.len; dsimp only; omega
      · dsimp only at hj ⊢
        rcases Nat.lt_or_ge j m with h | h
        · rw [hG1.at (by omega)]; exact hG1.clp (hC j h)
        · rw [show j = m by omega, hG1.at hmi, hde]
          intro f hf k hk j' hj'
          exact hD1 f (by rw [List.take_of_length_le (by omega)]; exact hf) k hk j' hj'
      · dsimp only; omega
  · have hall : hvL n L = trH n ops x y := hv_trH hLlt fun s t hs ht => tr_all ho hx hy hT (cl_all fun j hj => hC j (by omega)) hs ht
    repeat' (first
| refine g_seq ?_
| refine g_region ?_
| (refine o_go rfl ?_; (first
| refine p_p (ps_unv (ps_load_box rfl rfl rfl rfl)) ?_
| refine p_p (ps_move rfl) ?_
| refine p_p (ps_assign rfl) ?_
| refine p_p (ps_lss rfl rfl rfl) ?_
| refine p_p (ps_len_mut rfl rfl rfl rfl) ?_); refine ⟨_, aA, ?_⟩)
| refine o_nil ?_
| (refine g_condD rfl (fun hc => ?_) (fun hc => ?_) <;> try (exfalso; omega))
| refine kr1 ?_
| refine krS rfl ?_
| refine g_exit ?_
| refine g_ret ?_)
    all_goals first | (rw [← hall]; done) | (rw [← hall]; rfl) | (exfalso; omega)
end Go.Proofs.Ytkdagmbgjddopaa
