/- The reference's draw of an algebra of at most three elements, mostly a known one. -/
import Derived.Test.YtlgfniaakjchgaaGreatLHp
import Derived.Test.YtlgfniaakjchgaaGreatLNe
namespace Go.Proofs.YtlgfniaakjchgaaGreat
open Go Go.Pv Go.Proofs
set_option maxHeartbeats 32000000
set_option maxRecDepth 100000
attribute [local bitvec_to_nat] St.put St.setObj St.ev killP killA killP1 killH mapHO renP renA ren1 killG killGA killG1 krowP krowA krow1 lendP lendA lend1 unv pinP pin1 elemsM viewM viewN viewV n_set_z n_set_s n_map_c n_map_n getD_z getD_s n_toNat n_cond_t n_cond_f n_len_c n_len_n n_app_c n_app_n n_take_s n_take_z n_drop_s n_drop_z n_get_z n_get_s view viewA view1 elems Nat.zero_add Nat.add_zero Bool.not_true Bool.not_false Nat.one_ne_zero Nat.mul_one

theorem algebra17_L {c : Cu} {M : Int} (h : c.ok M) (hM : M ≤ 500000) : ∃ c' n ops, c'.ok (M + 1010) ∧ smA ops ∧ LCalls Tryz.prog 56 (cuB c) [.hat 0 0] (cuB c') (algP n ops) := by
  obtain ⟨c1, b, k1, h1⟩ := one_L h (by omega) 6 (by decide)
  cases b with
  | true =>
    obtain ⟨c2, n, ops, k2, hs, h2⟩ := algebra_L k1 (by omega)
    refine ⟨c2, n, ops, k2.up (by omega), hs, ?_⟩
    refine pcallsLC Tryz.func56 rfl Tryz.ntmps56 rfl rfl rfl (by simp) fun b d => ?_
    simp only [List.length_cons, List.length_nil, Nat.reduceAdd, Nat.reduceSub, List.replicate_succ, List.replicate_zero]
    repeat' (first
| refine g_seq ?_
| refine zC ?_
| (refine o_go rfl ?_; (first
| refine p_e rfl (e_callL (n := 0) rfl rfl rfl aM rfl (by rfl) aT (h1)) ?_
| refine p_e rfl (e_callL (n := 0) rfl rfl rfl aM rfl (by rfl) aT (h2)) ?_
| refine p_p (zD rfl) ?_
| refine p_e rfl (zO rfl rfl rfl rfl aK rfl rfl rfl) ?_
| refine p_e rfl (e_alloc rfl) ?_); refine ⟨_, aB, ?_⟩)
| refine o_nil ?_
| refine zX rfl ?_
| refine g_ret ?_)
    change KRLC _ _ _ _ _ _ .ret _
    exact krlc 0 0 rfl rfl rfl (krC rfl aK rfl)
  | false =>
    obtain ⟨c2, x, k2, -, h2⟩ := among_L k1 (by omega) [0, 1, 2, 3, 4, 5, 7, 9, 9, 10, 13, 14, 15, 16, 3, 1] (by decide) (by decide)
    obtain ⟨n, ops, hs, h3⟩ := knownA_c x
    refine ⟨c2, n, ops, k2.up (by omega), hs, ?_⟩
    refine pcallsLC Tryz.func56 rfl Tryz.ntmps56 rfl rfl rfl (by simp) fun b d => ?_
    simp only [List.length_cons, List.length_nil, Nat.reduceAdd, Nat.reduceSub, List.replicate_succ, List.replicate_zero]
    repeat' (first
| refine g_seq ?_
| refine zC ?_
| (refine o_go rfl ?_; (first
| refine p_e rfl (e_callL (n := 0) rfl rfl rfl aM rfl (by rfl) aT (h1)) ?_
| refine p_p (ps_lits rfl (by exact rfl) (by exact rfl) aV (by decide) (by decide)) ?_
| refine p_e rfl (e_callL (n := 0) rfl rfl rfl aM rfl (by rfl) aT (h2)) ?_
| refine p_p (zG rfl rfl aC (h3)) ?_
| refine p_p (zD rfl) ?_
| refine p_e rfl (zO rfl rfl rfl rfl aK rfl rfl rfl) ?_
| refine p_e rfl (e_alloc rfl) ?_); refine ⟨_, aB, ?_⟩)
| refine o_nil ?_
| refine zW rfl ?_
| refine zR ?_
| refine g_ret ?_)
    change KRLC _ _ _ _ _ _ .ret _
    exact krlc 0 0 rfl rfl rfl (krC rfl aK rfl)
theorem drawDC_c {l : List Int} (h : bytesOk l) : ∃ n ops, smA ops ∧ PCalls Tryz.prog 19 [bytesP l] (algP n ops) := by
  obtain ⟨c', n, ops, -, hs, hL⟩ := algebra17_L (cu0_ok h) (by omega)
  refine ⟨n, ops, hs, ?_⟩
  refine pcallsC Tryz.func19 rfl Tryz.ntmps19 rfl ?_
  simp only [List.length_cons, List.length_nil, Nat.reduceAdd, Nat.reduceSub, List.replicate_succ, List.replicate_zero, List.cons_append, List.nil_append]
  repeat' (first
| refine g_seq ?_
| refine zC ?_
| (refine o_go rfl ?_; (first
| refine p_e rfl (e_box rfl rfl) ?_
| refine p_e rfl (e_callL (n := 1) rfl rfl rfl aM rfl (by rfl) aT (hL)) ?_
| refine p_p (zD rfl) ?_
| refine p_p (zA rfl) ?_
| refine p_e rfl (zO rfl rfl rfl rfl aK rfl rfl rfl) ?_
| refine p_e rfl (e_alloc rfl) ?_
| refine p_p (ps_build rfl rfl) ?_); refine ⟨_, aB, ?_⟩)
| refine o_nil ?_
| refine krc ?_
| refine krC rfl aK ?_
| refine g_ret ?_)
  rfl
theorem drawPT_c {l : List Int} (h : bytesOk l) : ∃ n ops, smA ops ∧ PCalls Tryz.prog 5 [bytesP l] (algP n ops) := by
  obtain ⟨n, ops, hs, hc⟩ := drawDC_c h
  refine ⟨n, ops, hs, ?_⟩
  refine pcallsC Tryz.func5 rfl Tryz.ntmps5 rfl ?_
  simp only [List.length_cons, List.length_nil, Nat.reduceAdd, Nat.reduceSub, List.replicate_succ, List.replicate_zero, List.cons_append, List.nil_append]
  repeat' (first
| refine g_seq ?_
| refine zC ?_
| (refine o_go rfl ?_; (first
| refine p_p (zG rfl rfl aC (hc)) ?_
| refine p_p (zD rfl) ?_
| refine p_e rfl (zO rfl rfl rfl rfl aK rfl rfl rfl) ?_
| refine p_e rfl (e_alloc rfl) ?_); refine ⟨_, aB, ?_⟩)
| refine o_nil ?_
| refine krc ?_
| refine krC rfl aK ?_
| refine g_ret ?_)
  rfl
theorem smostA_c (a b : Int) : PCalls Tryz.prog 47 [I a, I b] (I (if b < a then a else b)) := by
  refine pcalls1 Tryz.func47 rfl Tryz.ntmps47 rfl ?_
  simp only [List.length_cons, List.length_nil, Nat.reduceAdd, Nat.reduceSub, List.replicate_succ, List.replicate_zero, List.cons_append, List.nil_append]
  by_cases h : b < a
  · rw [if_pos h]
    repeat' (first
| refine g_seq ?_
| refine zC ?_
| (refine o_go rfl ?_; (first
| refine p_p (zD rfl) ?_
| refine p_p (zA rfl) ?_
| refine p_p (ps_gtr rfl rfl rfl) ?_); refine ⟨_, aB, ?_⟩)
| refine o_nil ?_
| (refine zK rfl (fun hc => ?_) (fun hc => ?_) <;> try (exfalso; omega))
| refine kr1 ?_
| refine krI rfl ?_
| refine g_ret ?_)
    all_goals first | rfl | (exfalso; omega)
  · rw [if_neg h]
    repeat' (first
| refine g_seq ?_
| refine zC ?_
| (refine o_go rfl ?_; (first
| refine p_p (zD rfl) ?_
| refine p_p (zA rfl) ?_
| refine p_p (ps_gtr rfl rfl rfl) ?_); refine ⟨_, aB, ?_⟩)
| refine o_nil ?_
| (refine zK rfl (fun hc => ?_) (fun hc => ?_) <;> try (exfalso; omega))
| refine kr1 ?_
| refine krI rfl ?_
| refine zR ?_
| refine g_ret ?_)
    all_goals first | rfl | (exfalso; omega)
theorem sleastA_c (a b : Int) : PCalls Tryz.prog 46 [I a, I b] (I (if a < b then a else b)) := by
  refine pcalls1 Tryz.func46 rfl Tryz.ntmps46 rfl ?_
  simp only [List.length_cons, List.length_nil, Nat.reduceAdd, Nat.reduceSub, List.replicate_succ, List.replicate_zero, List.cons_append, List.nil_append]
  by_cases h : a < b
  · rw [if_pos h]
    repeat' (first
| refine g_seq ?_
| refine zC ?_
| (refine o_go rfl ?_; (first
| refine p_p (zD rfl) ?_
| refine p_p (zA rfl) ?_
| refine p_p (zS rfl rfl rfl) ?_); refine ⟨_, aB, ?_⟩)
| refine o_nil ?_
| (refine zK rfl (fun hc => ?_) (fun hc => ?_) <;> try (exfalso; omega))
| refine kr1 ?_
| refine krI rfl ?_
| refine g_ret ?_)
    all_goals first | rfl | (exfalso; omega)
  · rw [if_neg h]
    repeat' (first
| refine g_seq ?_
| refine zC ?_
| (refine o_go rfl ?_; (first
| refine p_p (zD rfl) ?_
| refine p_p (zA rfl) ?_
| refine p_p (zS rfl rfl rfl) ?_); refine ⟨_, aB, ?_⟩)
| refine o_nil ?_
| (refine zK rfl (fun hc => ?_) (fun hc => ?_) <;> try (exfalso; omega))
| refine kr1 ?_
| refine krI rfl ?_
| refine zR ?_
| refine g_ret ?_)
    all_goals first | rfl | (exfalso; omega)
def pdH (F : Nat → Cu × List Int × List Int) : Nat → List HO
  | 0 => [resB, resB, cuB (F 0).1, .box [I 3, nilV], .box [I 3, nilV]]
  | j + 1 => [resB, resB, cuB (F (j + 1)).1, .box [I 3, .hp 5], .box [I 3, .hp 6], .arr true 1 3 ((F (j + 1)).2.1.map I), .arr true 1 3 ((F (j + 1)).2.2.map I)]
theorem take46 (x : Int) (x0 : 0 ≤ x) (x1 : x < 24) : ∃ L : List Int, [I 1, I 2, I 2, I 3, I 0, I 9].take (4 + x / 11).toNat = L.map I ∧ 0 < L.length ∧ L.length ≤ 6 ∧ ∀ y ∈ L, y = 1 ∨ y = 2 ∨ y = 3 ∨ y = 0 ∨ y = 9 := by
  have h : x / 11 = 0 ∨ x / 11 = 1 ∨ x / 11 = 2 := by omega
  rcases h with h | h | h <;> rw [h]
  · exact ⟨[1, 2, 2, 3], rfl, by decide, by decide, by decide⟩
  · exact ⟨[1, 2, 2, 3, 0], rfl, by decide, by decide, by decide⟩
  · exact ⟨[1, 2, 2, 3, 0, 9], rfl, by decide, by decide, by decide⟩
theorem drawPF_c {l : List Int} (h : bytesOk l) : ∃ (n : Nat) (f g : OpD), n ≤ 9 ∧ f.tb.length ≤ 27 ∧ g.tb.length ≤ 27 ∧ PCalls Tryz.prog 17 [bytesP l] (.tup [I (n : Int), opP f, opP g]) := by
  obtain ⟨c1, x, k1, x0, x1, h1⟩ := pick_L (cu0_ok h) (by omega) 24 (by decide)
  obtain ⟨L, hL, L0, L6, hLm⟩ := take46 x x0 (by omega)
  obtain ⟨c2, y, k2, hy, h2⟩ := among_L k1 (by omega) L L0 (by omega)
  obtain ⟨n, rfl, hn⟩ : ∃ n : Nat, y = (n : Int) ∧ (n = 1 ∨ n = 2 ∨ n = 3 ∨ n = 0 ∨ n = 9) := ⟨y.toNat, by have := hLm y hy; omega, by have := hLm y hy; omega⟩
  rw [show ints L = PV.sl 1 none ([I 1, I 2, I 2, I 3, I 0, I 9].take (4 + x / 11).toNat) by rw [hL]] at h2
  obtain ⟨m, hm⟩ : ∃ m : Nat, m = if n < 3 then n else 3 := ⟨_, rfl⟩
  have g1 := sleastA_c (n : Int) 3
  rw [show (if (n : Int) < 3 then (n : Int) else 3) = (m : Int) by rw [hm]; split <;> split <;> omega] at g1
  have hm3 : m ≤ 3 := by rw [hm]; split <;> omega
  have g2 : PCalls Tryz.prog 45 [I (m : Int), I 3] (I ((m ^ 3 : Nat) : Int)) := pow_c m 3 (by omega) (by omega)
  have hN27 : m ^ 3 ≤ 27 := Nat.le_trans (Nat.pow_le_pow_left hm3 3) (by decide)
  generalize hN : m ^ 3 = N at *
  have g3 := smostA_c (n : Int) 1
  obtain ⟨mx, hmx⟩ : ∃ mx : Int, mx = (if (1 : Int) < (n : Int) then (n : Int) else 1) := ⟨_, rfl⟩
  rw [← hmx] at g3
  have hmx9 : mx ≤ 9 := by rw [hmx]; split <;> omega
  obtain ⟨F, F0, F1, F2⟩ := seq_of (fun i (s : Cu × List Int × List Int) => s.1.ok (0 + 2 + 2 + 4 * (i : Int)) ∧ s.2.1.length = i ∧ s.2.2.length = i)
    (fun i s s' => ∃ ca x y, LCalls Tryz.prog 44 (cuB s.1) [.hat 0 0, I mx] (cuB ca) (I x) ∧ LCalls Tryz.prog 44 (cuB ca) [.hat 0 0, I mx] (cuB s'.1) (I y) ∧ s'.2.1 = s.2.1 ++ [x] ∧ s'.2.2 = s.2.2 ++ [y]) (c2, [], []) N ⟨by simpa using k2, rfl, rfl⟩ fun i s hi ⟨s1, s2, s3⟩ => by
      obtain ⟨ca, x, ka, -, -, ha⟩ := pick_L s1 (by omega) mx (by omega)
      obtain ⟨cb, y, kb, -, -, hb⟩ := pick_L ka (by omega) mx (by omega)
      exact ⟨(cb, s.2.1 ++ [x], s.2.2 ++ [y]), ⟨kb.up (by omega), by simp [s2], by simp [s3]⟩, ca, x, y, ha, hb, rfl, rfl⟩
  obtain ⟨q1, q2, q3⟩ := F1 N (Nat.le_refl _)
  obtain ⟨c4, b, -, h4⟩ := one_L q1 (by omega) 2 (by decide)
  obtain ⟨Kn, hKn⟩ : ∃ b', b' = (decide (n = 2) && b) := ⟨_, rfl⟩
  have g5 := affine2_c
  have g6 := known9_c
  have g7 := copy2_c ⟨3, [0, 0, 0, 1, 0, 1, 1, 1]⟩ (by decide)
  refine ⟨n, bif Kn then affO 2 else ⟨3, (F N).2.1⟩, bif Kn then ⟨3, [0, 0, 0, 1, 0, 1, 1, 1]⟩ else ⟨3, (F N).2.2⟩, by omega, by cases Kn <;> simp [q2, hN27, affO, affL_len], by cases Kn <;> simp [q3, hN27], ?_⟩
  refine pcalls_TCC Tryz.func17 rfl Tryz.ntmps17 rfl ?_
  simp only [List.length_cons, List.length_nil, Nat.reduceAdd, Nat.reduceSub, List.replicate_succ, List.replicate_zero, List.cons_append, List.nil_append]
  repeat' (first
| refine g_seq ?_
| refine zJ ?_
| refine zC ?_
| (refine o_go rfl ?_; (first
| refine p_e rfl (e_box rfl rfl) ?_
| refine p_p (ps_lits rfl (by exact rfl) (by exact rfl) aV (by decide) (by decide)) ?_
| refine p_e rfl (e_callL (n := 2) rfl rfl rfl aM rfl (by rfl) aT (h1)) ?_
| refine p_p (ps_quo rfl rfl rfl (by omega) (by omega) (by omega)) ?_
| refine p_p (ps_sliceTo rfl rfl rfl (by omega) (by simp only [List.length_cons, List.length_nil]; omega)) ?_
| refine p_e rfl (e_callL (n := 2) rfl rfl rfl aM rfl (by rfl) aT (h2)) ?_
| refine p_p (zG rfl rfl aC (g1)) ?_
| refine p_p (zG rfl rfl aC (g2)) ?_
| refine p_p (zD rfl) ?_
| refine p_p (zA rfl) ?_
| refine p_p (ps_add rfl rfl rfl aN) ?_
| refine p_e rfl (zO rfl rfl rfl rfl aK rfl rfl rfl) ?_
| refine p_e rfl (e_alloc rfl) ?_
| refine p_p (ps_build rfl rfl) ?_); refine ⟨_, aB, ?_⟩)
| refine o_nil ?_)
  refine g_loopT (α := Nat) (fun j => [(9, I ((N : Int) - (j : Int)))]) (fun j => pdH F j) (fun j => j ≤ N) (fun j => N - j) 0 aH (Nat.zero_le _) ⟨vI (by omega), trivial⟩ (by rw [pdH, F0]) ?_
  rintro j hj
  dsimp only [zZ, List.set_cons_zero, List.set_cons_succ]
  obtain ⟨-, hl1, hl2⟩ := F1 j hj
  have hlj1 : ((F j).2.1.map I).length = j := by rw [List.length_map]; exact hl1
  have hlj2 : ((F j).2.2.map I).length = j := by rw [List.length_map]; exact hl2
  by_cases hjN : j < N
  · obtain ⟨ca, x, y, p1, p2, e1, e2⟩ := F2 j hjN
    cases j with
    | zero =>
      have z1 : (F 0).2.1 = [] := by rw [F0]
      have z2 : (F 0).2.2 = [] := by rw [F0]
      rw [z1, List.nil_append] at e1
      rw [z2, List.nil_append] at e2
      dsimp only [pdH]
      repeat' (first
| refine g_seq ?_
| refine zJ ?_
| refine zC ?_
| (refine o_go rfl ?_; (first
| refine p_p (zD rfl) ?_
| refine p_p (ps_gtr rfl rfl rfl) ?_); refine ⟨_, aB, ?_⟩)
| refine o_nil ?_
| (refine zK rfl (fun hc => ?_) (fun hc => ?_) <;> try (exfalso; omega))
| refine zR ?_)
      all_goals try (exfalso; omega)
      refine g_region_drawZ [(0, some [2, 5]), (1, some [2]), (2, some [5]), (3, some [2, 5]), (4, some [5]), (5, none), (6, none), (7, none), (8, none), (9, none)] [(5, 2), (7, 5), (9, 999999)] (fun hp => hp[3]? = some (.box [I 3, nilV])) (by kernel_rfl) rfl (by kernel_rfl) ?_
      repeat' (first
| refine z_nil ?_
| ((first
| refine zV rfl rfl (fun hp hH => zG rfl rfl aC (g3)) aJ aS (by decide) aA ?_
| refine zV rfl rfl (fun hp hH => zH rfl rfl hH rfl) aJ aD (by decide) aA ?_
| refine zV rfl rfl (fun _ _ => zD rfl) aJ aD (by decide) aA ?_
| refine zV rfl rfl (fun _ _ => zE rfl rfl) aJ aD (by decide) aA ?_
| refine z_eff rfl rfl aG (j_callLB (n := 2) rfl rfl rfl aM (by rfl) (by rfl) (p1)) aF ?_
| refine z_eff rfl rfl aG (j_appendNil rfl rfl rfl rfl (one_one rfl) (by decide) rfl aP aP aP) aF ?_
| refine z_eff rfl rfl aG (j_store_boxC rfl rfl rfl rfl aK rfl rfl) aF ?_
| refine z_eff rfl rfl aG (j_pure (zE rfl rfl)) aF ?_
| refine z_eff rfl rfl aG (j_pure (ps_lit1 rfl rfl (by rfl) (by rfl))) aF ?_); refine ⟨_, aQ, ?_⟩))
      repeat' (first
| ((refine g_seq ?_); trace "@Wf2f8416518f642f1.o65f97fd403")
| ((refine zJ ?_); trace "@Wf2f8416518f642f1.ob498b46fe7")
| ((refine zC ?_); trace "@Wf2f8416518f642f1.o244684d497")
| (refine o_go rfl ?_; (first
| (refine p_p (zD rfl) ?_; trace "@Wf2f8416518f642f1.i88afafc5ed")
| (refine p_p (zA rfl) ?_; trace "@Wf2f8416518f642f1.i8ba5b8203b")
| (refine p_p (zF rfl rfl) ?_; trace "@Wf2f8416518f642f1.ide9392a449")
| (refine p_p (ps_load_agg rfl rfl aK) ?_; trace "@Wf2f8416518f642f1.id5e9fce031")
| (refine p_p (ps_load_agg rfl rfl (Nat.le_refl _)) ?_; trace "@Wf2f8416518f642f1.i7357a97840")
| (refine p_p (zN rfl rfl rfl (by omega) aR (by exact rfl)) ?_; trace "@Wf2f8416518f642f1.ifd94cb0229")
| (refine p_p (zU rfl rfl rfl) ?_; trace "@Wf2f8416518f642f1.i651e23b408")
| (refine p_p (ps_len rfl rfl rfl) ?_; trace "@Wf2f8416518f642f1.i48953a2eae")
| (refine p_p (zS rfl rfl rfl) ?_; trace "@Wf2f8416518f642f1.iece3698938")
| (refine p_p (ps_add rfl rfl rfl aN) ?_; trace "@Wf2f8416518f642f1.iab4644b76d")
| (refine p_p (zL rfl rfl) ?_; trace "@Wf2f8416518f642f1.ia51eaa1f88")
| (refine p_p (ps_extract rfl rfl rfl) ?_; trace "@Wf2f8416518f642f1.i71d836e875")
| (refine p_p (ps_not rfl rfl) ?_; trace "@Wf2f8416518f642f1.i6306b71400")
| (refine p_p (zQ rfl rfl) ?_; trace "@Wf2f8416518f642f1.i07da16aa24")
| (refine p_p (ps_leq rfl rfl rfl) ?_; trace "@Wf2f8416518f642f1.id13d0d2e36")
| (refine p_p (ps_gtr rfl rfl rfl) ?_; trace "@Wf2f8416518f642f1.ief6e49898e")
| (refine p_p (ps_geq rfl rfl rfl) ?_; trace "@Wf2f8416518f642f1.ie4d9949433")
| (refine p_p (ps_eql rfl rfl rfl) ?_; trace "@Wf2f8416518f642f1.if2e43d169a")
| (refine p_p (ps_neq rfl rfl rfl) ?_; trace "@Wf2f8416518f642f1.i9d1f50cfeb")
| (refine p_p (ps_sub rfl rfl rfl aN) ?_; trace "@Wf2f8416518f642f1.i99d1030057")
| (refine p_p (ps_nilCheck rfl rfl) ?_; trace "@Wf2f8416518f642f1.i922a565813")
| (refine p_p (ps_nilCheck_fn rfl rfl) ?_; trace "@Wf2f8416518f642f1.i4dd2db0b95")
| (refine p_p (ps_field rfl rfl rfl) ?_; trace "@Wf2f8416518f642f1.ic88f26a11b")
| (refine p_p (ps_eqnil rfl rfl rfl) ?_; trace "@Wf2f8416518f642f1.i47e580ed5f")
| (refine p_p (ps_eqnil_v rfl rfl rfl) ?_; trace "@Wf2f8416518f642f1.i9fbbd4fa49")
| (refine p_p (ps_eqnil_o rfl rfl rfl rfl) ?_; trace "@Wf2f8416518f642f1.i1223e0e181")
| (refine p_p (ps_len_mut rfl rfl rfl rfl) ?_; trace "@Wf2f8416518f642f1.i8a6735b410")
| (refine p_p (ps_len_grid rfl rfl rfl rfl) ?_; trace "@Wf2f8416518f642f1.i318c95d166")
| (refine p_p (ps_len_pg rfl rfl rfl rfl) ?_; trace "@Wf2f8416518f642f1.i4ef8d11fcb")
| (refine p_p (ps_index_pg rfl rfl rfl rfl (by omega) (by first | omega | (rw [n_toNat]; omega))) ?_; trace "@Wf2f8416518f642f1.idf722618c6")
| (refine p_p (ps_index_grid rfl rfl rfl rfl (by omega) aU) ?_; trace "@Wf2f8416518f642f1.iff64d9ecd7")
| (refine p_e rfl (e_store_row rfl rfl rfl rfl aU (by omega) rfl rfl rfl (by first | exact one_all (fun _ => rfl) _ | exact one_rep rfl _ | rfl)) ?_; trace "@Wf2f8416518f642f1.i711dd71843")
| (refine p_p (zH rfl rfl rfl rfl) ?_; trace "@Wf2f8416518f642f1.i68f3c2d5ad")
| (refine p_p (zY rfl rfl rfl aK) ?_; trace "@Wf2f8416518f642f1.if8f792c19e")
| (refine p_p (ps_load_row rfl rfl rfl (by omega)) ?_; trace "@Wf2f8416518f642f1.ib8c2b88593")
| (refine p_p (zE rfl rfl) ?_; trace "@Wf2f8416518f642f1.i47032e2e0f")
| (refine p_p (yA rfl rfl rfl rfl (by omega) aU) ?_; trace "@Wf2f8416518f642f1.i8f2952d551")
| (refine p_e rfl (e_make1 rfl rfl rfl (by omega) (by omega) (by omega) rfl rfl) ?_; trace "@Wf2f8416518f642f1.if4afeff1b2")
| (refine p_e rfl (e_store_arr rfl rfl rfl rfl aU rfl rfl) ?_; trace "@Wf2f8416518f642f1.i907d8262d4")
| (refine p_e rfl (e_store_boxC rfl rfl rfl rfl aK rfl rfl) ?_; trace "@Wf2f8416518f642f1.id7908f556e")
| (refine p_e rfl (zO rfl rfl rfl rfl aK rfl rfl rfl) ?_; trace "@Wf2f8416518f642f1.ic728ce408c")
| (refine p_e rfl (e_alloc rfl) ?_; trace "@Wf2f8416518f642f1.i5e1a309ada")
| (refine p_e rfl (e_lit0 rfl (by decide)) ?_; trace "@Wf2f8416518f642f1.if2e4d4ba44")
| (refine p_e rfl (e_append rfl rfl rfl rfl rfl rfl (by first | exact one_one rfl | exact one_map (fun _ => rfl) _) rfl aU aU) ?_; trace "@Wf2f8416518f642f1.id7271af66f")
| (refine p_p (ps_box rfl rfl) ?_; trace "@Wf2f8416518f642f1.i34a392b571")
| (refine p_p (ps_makeFunc rfl rfl rfl) ?_; trace "@Wf2f8416518f642f1.ia900154b8d")
| (refine p_p (ps_lit1 rfl rfl (by rfl) (by rfl)) ?_; trace "@Wf2f8416518f642f1.i8f202a48dc")
| (refine p_p (ps_lit2 rfl rfl rfl (by rfl) (by rfl) (by rfl)) ?_; trace "@Wf2f8416518f642f1.i07bd212676")
| (refine p_p (ps_lit3 rfl rfl rfl rfl (by rfl) (by rfl) (by rfl) (by rfl)) ?_; trace "@Wf2f8416518f642f1.i5480dac4e8")
| (refine p_p (ps_build rfl rfl) ?_; trace "@Wf2f8416518f642f1.i7cef79f103")); refine ⟨_, aB, ?_⟩)
| ((refine o_nil ?_); trace "@Wf2f8416518f642f1.ocdf983927a")
| (((refine o_s rfl ?_; refine ⟨_, aB, ?_⟩)); trace "@Wf2f8416518f642f1.o7ee5af373e")
| (((refine o_splitD rfl rfl rfl (fun hc => ?_) (fun hc => ?_) <;> first | (exfalso; omega) | dsimp only [List.set_cons_zero, List.set_cons_succ])); trace "@Wf2f8416518f642f1.o20c7b17272")
| (((refine o_splitN rfl rfl rfl (fun hc => ?_) (fun hc => ?_) <;> dsimp only [List.set_cons_zero, List.set_cons_succ])); trace "@Wf2f8416518f642f1.o39a797b970")
| (((refine o_splitA rfl rfl rfl (fun hc => ?_) (fun hc => ?_) <;> dsimp only [List.set_cons_zero, List.set_cons_succ])); trace "@Wf2f8416518f642f1.oabd4d77a95")
| ((refine zX rfl ?_); trace "@Wf2f8416518f642f1.oc154c16280")
| ((refine zW rfl ?_); trace "@Wf2f8416518f642f1.o3282fba877")
| (((refine g_condN rfl (fun hc => ?_) (fun hc => ?_) <;> try (exfalso; omega))); trace "@Wf2f8416518f642f1.o83258699ff")
| (((refine zK rfl (fun hc => ?_) (fun hc => ?_) <;> try (exfalso; omega))); trace "@Wf2f8416518f642f1.o1e04d83f15")
| (((refine g_condNB rfl (fun hc => ?_) (fun hc => ?_))); trace "@Wf2f8416518f642f1.oee4790fb4c")
| (((refine g_cond rfl (fun hc => ?_) (fun hc => ?_))); trace "@Wf2f8416518f642f1.oe00bf9e6d2")
| ((refine krr 0 rfl (HandOut.arr rfl ?_ aL)); trace "@Wf2f8416518f642f1.oad12103aab")
| ((refine krr 1 rfl (HandOut.arr rfl ?_ aL)); trace "@Wf2f8416518f642f1.o8cd57cde5f")
| ((refine krr 2 rfl (HandOut.arr rfl ?_ aL)); trace "@Wf2f8416518f642f1.o9aece4f3a6")
| ((refine krr 3 rfl (HandOut.arr rfl ?_ aL)); trace "@Wf2f8416518f642f1.o44eb9ac1ef")
| ((refine krr 4 rfl (HandOut.arr rfl ?_ aL)); trace "@Wf2f8416518f642f1.o3def1745a9")
| ((refine krr 5 rfl (HandOut.arr rfl ?_ aL)); trace "@Wf2f8416518f642f1.o91e959740c")
| ((refine krr 6 rfl (HandOut.arr rfl ?_ aL)); trace "@Wf2f8416518f642f1.o6c86d56a3b")
| ((refine krr 7 rfl (HandOut.arr rfl ?_ aL)); trace "@Wf2f8416518f642f1.o5942104d0a")
| ((refine krr2 0 rfl rfl (HandOut.arr rfl ?_ aL)); trace "@Wf2f8416518f642f1.o07e09161d5")
| ((refine krr2 1 rfl rfl (HandOut.arr rfl ?_ aL)); trace "@Wf2f8416518f642f1.o68c0e5d197")
| ((refine krr2 2 rfl rfl (HandOut.arr rfl ?_ aL)); trace "@Wf2f8416518f642f1.o4485c85a1b")
| ((refine krr2 3 rfl rfl (HandOut.arr rfl ?_ aL)); trace "@Wf2f8416518f642f1.of9329e0cd7")
| ((refine krr2 4 rfl rfl (HandOut.arr rfl ?_ aL)); trace "@Wf2f8416518f642f1.o8147e01ded")
| ((refine krr2 5 rfl rfl (HandOut.arr rfl ?_ aL)); trace "@Wf2f8416518f642f1.oc99a9905e6")
| ((refine krr2 6 rfl rfl (HandOut.arr rfl ?_ aL)); trace "@Wf2f8416518f642f1.o09a527e8de")
| ((refine krr2 7 rfl rfl (HandOut.arr rfl ?_ aL)); trace "@Wf2f8416518f642f1.o8c6c5d1db5")
| ((refine krr2e 0 rfl rfl (eB ?_) (HandOut.arr rfl ?_ aL)); trace "@Wf2f8416518f642f1.o5669d76986")
| ((refine krr2e 1 rfl rfl (eB ?_) (HandOut.arr rfl ?_ aL)); trace "@Wf2f8416518f642f1.ocb3ac67a4e")
| ((refine krr2e 2 rfl rfl (eB ?_) (HandOut.arr rfl ?_ aL)); trace "@Wf2f8416518f642f1.o4b9fa834c1")
| ((refine krr2e 3 rfl rfl (eB ?_) (HandOut.arr rfl ?_ aL)); trace "@Wf2f8416518f642f1.o1092c2ee44")
| ((refine krr2e 4 rfl rfl (eB ?_) (HandOut.arr rfl ?_ aL)); trace "@Wf2f8416518f642f1.oe579cf6fc6")
| ((refine kr1 ?_); trace "@Wf2f8416518f642f1.oe1eb9f8bd6")
| ((refine kr2 ?_ ?_); trace "@Wf2f8416518f642f1.oaec1875011")
| ((refine kr3 ?_ ?_ ?_); trace "@Wf2f8416518f642f1.o5e3ee917a2")
| ((exact krAny); trace "@Wf2f8416518f642f1.oe74fd368ad")
| ((refine krc ?_); trace "@Wf2f8416518f642f1.o18a8ee30ba")
| ((refine krct ?_ ?_); trace "@Wf2f8416518f642f1.o685f809f50")
| ((refine krC rfl aK ?_); trace "@Wf2f8416518f642f1.o4f0533aaec")
| ((refine krC_any rfl aK); trace "@Wf2f8416518f642f1.o7c23d5e8bd")
| ((refine krB rfl ?_); trace "@Wf2f8416518f642f1.o7d5857dacb")
| ((refine krI rfl ?_); trace "@Wf2f8416518f642f1.o7513cb2e80")
| ((refine krS rfl ?_); trace "@Wf2f8416518f642f1.o4f5aa5cfca")
| ((refine krN rfl ?_); trace "@Wf2f8416518f642f1.oe3bc73c9ca")
| ((refine krA rfl ?_); trace "@Wf2f8416518f642f1.o0c8896477d")
| ((refine krP rfl ?_); trace "@Wf2f8416518f642f1.o23c9c87ff3")
| ((refine zR ?_); trace "@Wf2f8416518f642f1.o0cc4b7aaff")
| ((refine g_exit ?_); trace "@Wf2f8416518f642f1.o8861bbd0ca")
| ((refine g_ret ?_); trace "@Wf2f8416518f642f1.o5f22f2e9d7"))
      refine g_region_drawZ [(0, some [2, 6]), (1, some [2]), (2, some [6]), (3, some [2, 6]), (4, some [6]), (5, none), (6, none), (7, none), (8, none), (9, none)] [(5, 2), (7, 6), (9, 999999)] (fun hp => hp[4]? = some (.box [I 3, nilV])) (by kernel_rfl) rfl (by kernel_rfl) ?_
      repeat' (first
| refine z_nil ?_
| ((first
| refine zV rfl rfl (fun hp hH => zG rfl rfl aC (g3)) aJ aS (by decide) aA ?_
| refine zV rfl rfl (fun hp hH => zH rfl rfl hH rfl) aJ aD (by decide) aA ?_
| refine zV rfl rfl (fun _ _ => zD rfl) aJ aD (by decide) aA ?_
| refine zV rfl rfl (fun _ _ => zE rfl rfl) aJ aD (by decide) aA ?_
| refine z_eff rfl rfl aG (j_callLB (n := 2) rfl rfl rfl aM (by rfl) (by rfl) (p2)) aF ?_
| refine z_eff rfl rfl aG (j_appendNil rfl rfl rfl rfl (one_one rfl) (by decide) rfl aP aP aP) aF ?_
| refine z_eff rfl rfl aG (j_store_boxC rfl rfl rfl rfl aK rfl rfl) aF ?_
| refine z_eff rfl rfl aG (j_pure (zE rfl rfl)) aF ?_
| refine z_eff rfl rfl aG (j_pure (ps_lit1 rfl rfl (by rfl) (by rfl))) aF ?_); refine ⟨_, aQ, ?_⟩))
      repeat' (first
| refine zC ?_
| (refine o_go rfl ?_; (first
| refine p_p (zD rfl) ?_
| refine p_p (zA rfl) ?_
| refine p_p (ps_sub rfl rfl rfl aN) ?_); refine ⟨_, aB, ?_⟩)
| refine o_nil ?_)
      exact zT 1 (by omega) (by omega) aI ⟨vI (by omega), trivial⟩ (zB rfl (zB rfl (zB rfl (zB rfl (zB rfl (zB (by rw [e1]; rfl) (zB (by rw [e2]; rfl) (zM _))))))))
    | succ j =>
      dsimp only [pdH]
      repeat' (first
| refine g_seq ?_
| refine zJ ?_
| refine zC ?_
| (refine o_go rfl ?_; (first
| refine p_p (zD rfl) ?_
| refine p_p (ps_gtr rfl rfl rfl) ?_); refine ⟨_, aB, ?_⟩)
| refine o_nil ?_
| (refine zK rfl (fun hc => ?_) (fun hc => ?_) <;> try (exfalso; omega))
| refine zR ?_)
      all_goals try (exfalso; omega)
      refine g_region_drawU [(0, some [2, 5]), (1, some [2]), (2, some [5]), (3, some [2, 5]), (4, some [5]), (5, none), (6, none), (7, none), (8, none), (9, none)] [(5, 2), (7, 5), (9, 999999)] (fun U hp => (∃ a, hp[3]? = some (.box [I 3, a])) ∧ (5 ∉ U → hp[3]? = some (.box [I 3, .hp 5]))) (by kernel_rfl) rfl (by kernel_rfl) ?_
      repeat' (first
| refine u_nil ?_
| ((first
| refine u_pure rfl rfl (fun hp hH => zG rfl rfl aC (g3)) aJ aS (by decide) aO ?_
| refine u_pure rfl rfl (fun hp hH => zH rfl rfl (hH.2 (by decide)) rfl) aJ aD (by decide) aO ?_
| refine u_pure rfl rfl (fun _ _ => zD rfl) aJ aD (by decide) aO ?_
| refine u_pure rfl rfl (fun _ _ => zE rfl rfl) aJ aD (by decide) aO ?_
| refine u_eff rfl rfl aG (j_callLB (n := 2) rfl rfl rfl aM (by rfl) (by rfl) (p1)) (by first | exact fun _ hm hF _ => absurd (hm 999999 (by decide)) hF | exact fun _ _ _ hh => hh | exact (fun _ hm _ _ => ⟨⟨_, rfl⟩, fun h => absurd (hm 5 (by decide)) h⟩)) ?_
| refine u_eff rfl rfl aG (j_append rfl rfl rfl rfl rfl rfl (one_one rfl) rfl (by rw [hlj1, n_len_c, n_len_n]; omega) (by rw [hlj1, n_len_c, n_len_n]; omega)) (by first | exact fun _ hm hF _ => absurd (hm 999999 (by decide)) hF | exact fun _ _ _ hh => hh | exact (fun _ hm _ _ => ⟨⟨_, rfl⟩, fun h => absurd (hm 5 (by decide)) h⟩)) ?_
| refine u_eff rfl rfl aG (j_store_boxC rfl rfl rfl rfl aK rfl rfl) (by first | exact fun _ hm hF _ => absurd (hm 999999 (by decide)) hF | exact fun _ _ _ hh => hh | exact (fun _ hm _ _ => ⟨⟨_, rfl⟩, fun h => absurd (hm 5 (by decide)) h⟩)) ?_
| refine u_eff rfl rfl aG (j_pure (zE rfl rfl)) (by first | exact fun _ hm hF _ => absurd (hm 999999 (by decide)) hF | exact fun _ _ _ hh => hh | exact (fun _ hm _ _ => ⟨⟨_, rfl⟩, fun h => absurd (hm 5 (by decide)) h⟩)) ?_
| refine u_eff rfl rfl aG (j_pure (ps_lit1 rfl rfl (by rfl) (by rfl))) (by first | exact fun _ hm hF _ => absurd (hm 999999 (by decide)) hF | exact fun _ _ _ hh => hh | exact (fun _ hm _ _ => ⟨⟨_, rfl⟩, fun h => absurd (hm 5 (by decide)) h⟩)) ?_); refine ⟨_, aQ, ?_⟩))
      repeat' (first
| ((refine g_seq ?_); trace "@W12061f1dd9422ae2.o65f97fd403")
| ((refine zJ ?_); trace "@W12061f1dd9422ae2.ob498b46fe7")
| ((refine zC ?_); trace "@W12061f1dd9422ae2.o244684d497")
| (refine o_go rfl ?_; (first
| (refine p_p (zD rfl) ?_; trace "@W12061f1dd9422ae2.i88afafc5ed")
| (refine p_p (zA rfl) ?_; trace "@W12061f1dd9422ae2.i8ba5b8203b")
| (refine p_p (zF rfl rfl) ?_; trace "@W12061f1dd9422ae2.ide9392a449")
| (refine p_p (ps_load_agg rfl rfl aK) ?_; trace "@W12061f1dd9422ae2.id5e9fce031")
| (refine p_p (ps_load_agg rfl rfl (Nat.le_refl _)) ?_; trace "@W12061f1dd9422ae2.i7357a97840")
| (refine p_p (zN rfl rfl rfl (by omega) aR (by exact rfl)) ?_; trace "@W12061f1dd9422ae2.ifd94cb0229")
| (refine p_p (zU rfl rfl rfl) ?_; trace "@W12061f1dd9422ae2.i651e23b408")
| (refine p_p (ps_len rfl rfl rfl) ?_; trace "@W12061f1dd9422ae2.i48953a2eae")
| (refine p_p (zS rfl rfl rfl) ?_; trace "@W12061f1dd9422ae2.iece3698938")
| (refine p_p (ps_add rfl rfl rfl aN) ?_; trace "@W12061f1dd9422ae2.iab4644b76d")
| (refine p_p (zL rfl rfl) ?_; trace "@W12061f1dd9422ae2.ia51eaa1f88")
| (refine p_p (ps_extract rfl rfl rfl) ?_; trace "@W12061f1dd9422ae2.i71d836e875")
| (refine p_p (ps_not rfl rfl) ?_; trace "@W12061f1dd9422ae2.i6306b71400")
| (refine p_p (zQ rfl rfl) ?_; trace "@W12061f1dd9422ae2.i07da16aa24")
| (refine p_p (ps_leq rfl rfl rfl) ?_; trace "@W12061f1dd9422ae2.id13d0d2e36")
| (refine p_p (ps_gtr rfl rfl rfl) ?_; trace "@W12061f1dd9422ae2.ief6e49898e")
| (refine p_p (ps_geq rfl rfl rfl) ?_; trace "@W12061f1dd9422ae2.ie4d9949433")
| (refine p_p (ps_eql rfl rfl rfl) ?_; trace "@W12061f1dd9422ae2.if2e43d169a")
| (refine p_p (ps_neq rfl rfl rfl) ?_; trace "@W12061f1dd9422ae2.i9d1f50cfeb")
| (refine p_p (ps_sub rfl rfl rfl aN) ?_; trace "@W12061f1dd9422ae2.i99d1030057")
| (refine p_p (ps_nilCheck rfl rfl) ?_; trace "@W12061f1dd9422ae2.i922a565813")
| (refine p_p (ps_nilCheck_fn rfl rfl) ?_; trace "@W12061f1dd9422ae2.i4dd2db0b95")
| (refine p_p (ps_field rfl rfl rfl) ?_; trace "@W12061f1dd9422ae2.ic88f26a11b")
| (refine p_p (ps_eqnil rfl rfl rfl) ?_; trace "@W12061f1dd9422ae2.i47e580ed5f")
| (refine p_p (ps_eqnil_v rfl rfl rfl) ?_; trace "@W12061f1dd9422ae2.i9fbbd4fa49")
| (refine p_p (ps_eqnil_o rfl rfl rfl rfl) ?_; trace "@W12061f1dd9422ae2.i1223e0e181")
| (refine p_p (ps_len_mut rfl rfl rfl rfl) ?_; trace "@W12061f1dd9422ae2.i8a6735b410")
| (refine p_p (ps_len_grid rfl rfl rfl rfl) ?_; trace "@W12061f1dd9422ae2.i318c95d166")
| (refine p_p (ps_len_pg rfl rfl rfl rfl) ?_; trace "@W12061f1dd9422ae2.i4ef8d11fcb")
| (refine p_p (ps_index_pg rfl rfl rfl rfl (by omega) (by first | omega | (rw [n_toNat]; omega))) ?_; trace "@W12061f1dd9422ae2.idf722618c6")
| (refine p_p (ps_index_grid rfl rfl rfl rfl (by omega) aU) ?_; trace "@W12061f1dd9422ae2.iff64d9ecd7")
| (refine p_e rfl (e_store_row rfl rfl rfl rfl aU (by omega) rfl rfl rfl (by first | exact one_all (fun _ => rfl) _ | exact one_rep rfl _ | rfl)) ?_; trace "@W12061f1dd9422ae2.i711dd71843")
| (refine p_p (zH rfl rfl rfl rfl) ?_; trace "@W12061f1dd9422ae2.i68f3c2d5ad")
| (refine p_p (zY rfl rfl rfl aK) ?_; trace "@W12061f1dd9422ae2.if8f792c19e")
| (refine p_p (ps_load_row rfl rfl rfl (by omega)) ?_; trace "@W12061f1dd9422ae2.ib8c2b88593")
| (refine p_p (zE rfl rfl) ?_; trace "@W12061f1dd9422ae2.i47032e2e0f")
| (refine p_p (yA rfl rfl rfl rfl (by omega) aU) ?_; trace "@W12061f1dd9422ae2.i8f2952d551")
| (refine p_e rfl (e_make1 rfl rfl rfl (by omega) (by omega) (by omega) rfl rfl) ?_; trace "@W12061f1dd9422ae2.if4afeff1b2")
| (refine p_e rfl (e_store_arr rfl rfl rfl rfl aU rfl rfl) ?_; trace "@W12061f1dd9422ae2.i907d8262d4")
| (refine p_e rfl (e_store_boxC rfl rfl rfl rfl aK rfl rfl) ?_; trace "@W12061f1dd9422ae2.id7908f556e")
| (refine p_e rfl (zO rfl rfl rfl rfl aK rfl rfl rfl) ?_; trace "@W12061f1dd9422ae2.ic728ce408c")
| (refine p_e rfl (e_alloc rfl) ?_; trace "@W12061f1dd9422ae2.i5e1a309ada")
| (refine p_e rfl (e_lit0 rfl (by decide)) ?_; trace "@W12061f1dd9422ae2.if2e4d4ba44")
| (refine p_e rfl (e_append rfl rfl rfl rfl rfl rfl (by first | exact one_one rfl | exact one_map (fun _ => rfl) _) rfl aU aU) ?_; trace "@W12061f1dd9422ae2.id7271af66f")
| (refine p_p (ps_box rfl rfl) ?_; trace "@W12061f1dd9422ae2.i34a392b571")
| (refine p_p (ps_makeFunc rfl rfl rfl) ?_; trace "@W12061f1dd9422ae2.ia900154b8d")
| (refine p_p (ps_lit1 rfl rfl (by rfl) (by rfl)) ?_; trace "@W12061f1dd9422ae2.i8f202a48dc")
| (refine p_p (ps_lit2 rfl rfl rfl (by rfl) (by rfl) (by rfl)) ?_; trace "@W12061f1dd9422ae2.i07bd212676")
| (refine p_p (ps_lit3 rfl rfl rfl rfl (by rfl) (by rfl) (by rfl) (by rfl)) ?_; trace "@W12061f1dd9422ae2.i5480dac4e8")
| (refine p_p (ps_build rfl rfl) ?_; trace "@W12061f1dd9422ae2.i7cef79f103")); refine ⟨_, aB, ?_⟩)
| ((refine o_nil ?_); trace "@W12061f1dd9422ae2.ocdf983927a")
| (((refine o_s rfl ?_; refine ⟨_, aB, ?_⟩)); trace "@W12061f1dd9422ae2.o7ee5af373e")
| (((refine o_splitD rfl rfl rfl (fun hc => ?_) (fun hc => ?_) <;> first | (exfalso; omega) | dsimp only [List.set_cons_zero, List.set_cons_succ])); trace "@W12061f1dd9422ae2.o20c7b17272")
| (((refine o_splitN rfl rfl rfl (fun hc => ?_) (fun hc => ?_) <;> dsimp only [List.set_cons_zero, List.set_cons_succ])); trace "@W12061f1dd9422ae2.o39a797b970")
| (((refine o_splitA rfl rfl rfl (fun hc => ?_) (fun hc => ?_) <;> dsimp only [List.set_cons_zero, List.set_cons_succ])); trace "@W12061f1dd9422ae2.oabd4d77a95")
| ((refine zX rfl ?_); trace "@W12061f1dd9422ae2.oc154c16280")
| ((refine zW rfl ?_); trace "@W12061f1dd9422ae2.o3282fba877")
| (((refine g_condN rfl (fun hc => ?_) (fun hc => ?_) <;> try (exfalso; omega))); trace "@W12061f1dd9422ae2.o83258699ff")
| (((refine zK rfl (fun hc => ?_) (fun hc => ?_) <;> try (exfalso; omega))); trace "@W12061f1dd9422ae2.o1e04d83f15")
| (((refine g_condNB rfl (fun hc => ?_) (fun hc => ?_))); trace "@W12061f1dd9422ae2.oee4790fb4c")
| (((refine g_cond rfl (fun hc => ?_) (fun hc => ?_))); trace "@W12061f1dd9422ae2.oe00bf9e6d2")
| ((refine krr 0 rfl (HandOut.arr rfl ?_ aL)); trace "@W12061f1dd9422ae2.oad12103aab")
| ((refine krr 1 rfl (HandOut.arr rfl ?_ aL)); trace "@W12061f1dd9422ae2.o8cd57cde5f")
| ((refine krr 2 rfl (HandOut.arr rfl ?_ aL)); trace "@W12061f1dd9422ae2.o9aece4f3a6")
| ((refine krr 3 rfl (HandOut.arr rfl ?_ aL)); trace "@W12061f1dd9422ae2.o44eb9ac1ef")
| ((refine krr 4 rfl (HandOut.arr rfl ?_ aL)); trace "@W12061f1dd9422ae2.o3def1745a9")
| ((refine krr 5 rfl (HandOut.arr rfl ?_ aL)); trace "@W12061f1dd9422ae2.o91e959740c")
| ((refine krr 6 rfl (HandOut.arr rfl ?_ aL)); trace "@W12061f1dd9422ae2.o6c86d56a3b")
| ((refine krr 7 rfl (HandOut.arr rfl ?_ aL)); trace "@W12061f1dd9422ae2.o5942104d0a")
| ((refine krr2 0 rfl rfl (HandOut.arr rfl ?_ aL)); trace "@W12061f1dd9422ae2.o07e09161d5")
| ((refine krr2 1 rfl rfl (HandOut.arr rfl ?_ aL)); trace "@W12061f1dd9422ae2.o68c0e5d197")
| ((refine krr2 2 rfl rfl (HandOut.arr rfl ?_ aL)); trace "@W12061f1dd9422ae2.o4485c85a1b")
| ((refine krr2 3 rfl rfl (HandOut.arr rfl ?_ aL)); trace "@W12061f1dd9422ae2.of9329e0cd7")
| ((refine krr2 4 rfl rfl (HandOut.arr rfl ?_ aL)); trace "@W12061f1dd9422ae2.o8147e01ded")
| ((refine krr2 5 rfl rfl (HandOut.arr rfl ?_ aL)); trace "@W12061f1dd9422ae2.oc99a9905e6")
| ((refine krr2 6 rfl rfl (HandOut.arr rfl ?_ aL)); trace "@W12061f1dd9422ae2.o09a527e8de")
| ((refine krr2 7 rfl rfl (HandOut.arr rfl ?_ aL)); trace "@W12061f1dd9422ae2.o8c6c5d1db5")
| ((refine krr2e 0 rfl rfl (eB ?_) (HandOut.arr rfl ?_ aL)); trace "@W12061f1dd9422ae2.o5669d76986")
| ((refine krr2e 1 rfl rfl (eB ?_) (HandOut.arr rfl ?_ aL)); trace "@W12061f1dd9422ae2.ocb3ac67a4e")
| ((refine krr2e 2 rfl rfl (eB ?_) (HandOut.arr rfl ?_ aL)); trace "@W12061f1dd9422ae2.o4b9fa834c1")
| ((refine krr2e 3 rfl rfl (eB ?_) (HandOut.arr rfl ?_ aL)); trace "@W12061f1dd9422ae2.o1092c2ee44")
| ((refine krr2e 4 rfl rfl (eB ?_) (HandOut.arr rfl ?_ aL)); trace "@W12061f1dd9422ae2.oe579cf6fc6")
| ((refine kr1 ?_); trace "@W12061f1dd9422ae2.oe1eb9f8bd6")
| ((refine kr2 ?_ ?_); trace "@W12061f1dd9422ae2.oaec1875011")
| ((refine kr3 ?_ ?_ ?_); trace "@W12061f1dd9422ae2.o5e3ee917a2")
| ((exact krAny); trace "@W12061f1dd9422ae2.oe74fd368ad")
| ((refine krc ?_); trace "@W12061f1dd9422ae2.o18a8ee30ba")
| ((refine krct ?_ ?_); trace "@W12061f1dd9422ae2.o685f809f50")
| ((refine krC rfl aK ?_); trace "@W12061f1dd9422ae2.o4f0533aaec")
| ((refine krC_any rfl aK); trace "@W12061f1dd9422ae2.o7c23d5e8bd")
| ((refine krB rfl ?_); trace "@W12061f1dd9422ae2.o7d5857dacb")
| ((refine krI rfl ?_); trace "@W12061f1dd9422ae2.o7513cb2e80")
| ((refine krS rfl ?_); trace "@W12061f1dd9422ae2.o4f5aa5cfca")
| ((refine krN rfl ?_); trace "@W12061f1dd9422ae2.oe3bc73c9ca")
| ((refine krA rfl ?_); trace "@W12061f1dd9422ae2.o0c8896477d")
| ((refine krP rfl ?_); trace "@W12061f1dd9422ae2.o23c9c87ff3")
| ((refine zR ?_); trace "@W12061f1dd9422ae2.o0cc4b7aaff")
| ((refine g_exit ?_); trace "@W12061f1dd9422ae2.o8861bbd0ca")
| ((refine g_ret ?_); trace "@W12061f1dd9422ae2.o5f22f2e9d7"))
      refine g_region_drawU [(0, some [2, 6]), (1, some [2]), (2, some [6]), (3, some [2, 6]), (4, some [6]), (5, none), (6, none), (7, none), (8, none), (9, none)] [(5, 2), (7, 6), (9, 999999)] (fun U hp => (∃ a, hp[4]? = some (.box [I 3, a])) ∧ (6 ∉ U → hp[4]? = some (.box [I 3, .hp 6]))) (by kernel_rfl) rfl (by kernel_rfl) ?_
      repeat' (first
| refine u_nil ?_
| ((first
| refine u_pure rfl rfl (fun hp hH => zG rfl rfl aC (g3)) aJ aS (by decide) aO ?_
| refine u_pure rfl rfl (fun hp hH => zH rfl rfl (hH.2 (by decide)) rfl) aJ aD (by decide) aO ?_
| refine u_pure rfl rfl (fun _ _ => zD rfl) aJ aD (by decide) aO ?_
| refine u_pure rfl rfl (fun _ _ => zE rfl rfl) aJ aD (by decide) aO ?_
| refine u_eff rfl rfl aG (j_callLB (n := 2) rfl rfl rfl aM (by rfl) (by rfl) (p2)) (by first | exact fun _ hm hF _ => absurd (hm 999999 (by decide)) hF | exact fun _ _ _ hh => hh | exact (fun _ hm _ _ => ⟨⟨_, rfl⟩, fun h => absurd (hm 6 (by decide)) h⟩)) ?_
| refine u_eff rfl rfl aG (j_append rfl rfl rfl rfl rfl rfl (one_one rfl) rfl (by rw [hlj2, n_len_c, n_len_n]; omega) (by rw [hlj2, n_len_c, n_len_n]; omega)) (by first | exact fun _ hm hF _ => absurd (hm 999999 (by decide)) hF | exact fun _ _ _ hh => hh | exact (fun _ hm _ _ => ⟨⟨_, rfl⟩, fun h => absurd (hm 6 (by decide)) h⟩)) ?_
| refine u_eff rfl rfl aG (j_store_boxC rfl rfl rfl rfl aK rfl rfl) (by first | exact fun _ hm hF _ => absurd (hm 999999 (by decide)) hF | exact fun _ _ _ hh => hh | exact (fun _ hm _ _ => ⟨⟨_, rfl⟩, fun h => absurd (hm 6 (by decide)) h⟩)) ?_
| refine u_eff rfl rfl aG (j_pure (zE rfl rfl)) (by first | exact fun _ hm hF _ => absurd (hm 999999 (by decide)) hF | exact fun _ _ _ hh => hh | exact (fun _ hm _ _ => ⟨⟨_, rfl⟩, fun h => absurd (hm 6 (by decide)) h⟩)) ?_
| refine u_eff rfl rfl aG (j_pure (ps_lit1 rfl rfl (by rfl) (by rfl))) (by first | exact fun _ hm hF _ => absurd (hm 999999 (by decide)) hF | exact fun _ _ _ hh => hh | exact (fun _ hm _ _ => ⟨⟨_, rfl⟩, fun h => absurd (hm 6 (by decide)) h⟩)) ?_); refine ⟨_, aQ, ?_⟩))
      repeat' (first
| refine zC ?_
| (refine o_go rfl ?_; (first
| refine p_p (zD rfl) ?_
| refine p_p (zA rfl) ?_
| refine p_p (ps_sub rfl rfl rfl aN) ?_); refine ⟨_, aB, ?_⟩)
| refine o_nil ?_)
      exact zT (j + 2) (by omega) (by omega) aI ⟨vI (by omega), trivial⟩ (zB rfl (zB rfl (zB rfl (zB rfl (zB rfl (zB (by rw [e1, List.map_append]; rfl) (zB (by rw [e2, List.map_append]; rfl) (zM _))))))))
  · obtain rfl : j = N := by omega
    rcases Nat.eq_zero_or_pos j with h0 | h0
    · subst h0
      have hn2 : n ≠ 2 := by
        intro e; subst e
        rw [if_pos (by decide)] at hm
        subst hm; simp at hN
      have hK : Kn = false := by rw [hKn, decide_eq_false hn2]; rfl
      rw [hK, cond_false, cond_false, F0]
      dsimp only [pdH]
      repeat' (first
| refine g_seq ?_
| refine zC ?_
| (refine o_go rfl ?_; (first
| refine p_p (zD rfl) ?_
| refine p_p (zQ rfl rfl) ?_
| refine p_p (ps_gtr rfl rfl rfl) ?_
| refine p_p (ps_eql rfl rfl rfl) ?_); refine ⟨_, aB, ?_⟩)
| refine o_nil ?_
| (refine o_s rfl ?_; refine ⟨_, aB, ?_⟩)
| (refine o_splitD rfl rfl rfl (fun hc => ?_) (fun hc => ?_) <;> first | (exfalso; omega) | dsimp only [List.set_cons_zero, List.set_cons_succ])
| refine zW rfl ?_
| refine zR ?_
| refine g_exit ?_)
      all_goals try (exfalso; omega)
      refine g_region_drawZ [(0, some []), (1, some []), (2, some [0]), (3, none), (4, none), (5, none)] [(4, 0), (5, 999999)] (fun hp => hp[3]? = some (.box [I 3, nilV]) ∧ hp[4]? = some (.box [I 3, nilV])) (by kernel_rfl) rfl (by kernel_rfl) ?_
      repeat' (first
| refine z_nil ?_
| ((first
| refine zV rfl rfl (fun hp hH => zY rfl rfl hH.1 aK) aJ aD (by decide) aA ?_
| refine zV rfl rfl (fun hp hH => zY rfl rfl hH.2 aK) aJ aD (by decide) aA ?_
| refine zV rfl rfl (fun _ _ => zD rfl) aJ aD (by decide) aA ?_
| refine z_eff rfl rfl aG (j_store_boxA rfl rfl rfl rfl aK rfl rfl rfl) aF ?_
| refine z_eff rfl rfl aG (j_pure (zA rfl)) aF ?_); refine ⟨_, aQ, ?_⟩))
      repeat' (first
| refine g_ret ?_)
      exact krg_TCC (krI rfl rfl) (krC_le rfl aK rfl (agg2_le (PV.le_nil 1))) (krC_le rfl aK rfl (agg2_le (PV.le_nil 1)))
    · obtain ⟨j, rfl⟩ : ∃ k, j = k + 1 := ⟨j - 1, by omega⟩
      dsimp only [pdH]
      by_cases hn2 : n = 2
      · cases b with
        | true =>
          have hK : Kn = true := by rw [hKn, decide_eq_true hn2]; rfl
          rw [hK, cond_true, cond_true]
          repeat' (first
| refine g_seq ?_
| refine zC ?_
| (refine o_go rfl ?_; (first
| refine p_e rfl (e_callL (n := 2) rfl rfl rfl aM rfl (by rfl) aT (h4)) ?_
| refine p_p (zG rfl rfl aC (g5)) ?_
| refine p_p (zG rfl rfl aC (g6)) ?_
| refine p_p (zG rfl rfl aC (g7)) ?_
| refine p_p (zD rfl) ?_
| refine p_p (zA rfl) ?_
| refine p_p (ps_load_agg rfl rfl aK) ?_
| refine p_p (zN rfl rfl rfl (by omega) aR (by exact rfl)) ?_
| refine p_p (zQ rfl rfl) ?_
| refine p_p (ps_gtr rfl rfl rfl) ?_
| refine p_p (ps_eql rfl rfl rfl) ?_
| refine p_p (ps_field rfl rfl rfl) ?_
| refine p_e rfl (zO rfl rfl rfl rfl aK rfl rfl rfl) ?_); refine ⟨_, aB, ?_⟩)
| refine o_nil ?_
| (refine o_splitD rfl rfl rfl (fun hc => ?_) (fun hc => ?_) <;> first | (exfalso; omega) | dsimp only [List.set_cons_zero, List.set_cons_succ])
| refine zX rfl ?_
| (refine zK rfl (fun hc => ?_) (fun hc => ?_) <;> try (exfalso; omega))
| refine g_exit ?_
| refine g_ret ?_)
          all_goals try (exfalso; omega)
          subst hn2
          exact krg_TCC (krI rfl rfl) (krC rfl aK rfl) (krC rfl aK rfl)
        | false =>
          have hK : Kn = false := by rw [hKn, Bool.and_false]
          rw [hK, cond_false, cond_false]
          repeat' (first
| refine g_seq ?_
| refine zC ?_
| (refine o_go rfl ?_; (first
| refine p_e rfl (e_callL (n := 2) rfl rfl rfl aM rfl (by rfl) aT (h4)) ?_
| refine p_p (zD rfl) ?_
| refine p_p (zQ rfl rfl) ?_
| refine p_p (ps_gtr rfl rfl rfl) ?_
| refine p_p (ps_eql rfl rfl rfl) ?_); refine ⟨_, aB, ?_⟩)
| refine o_nil ?_
| (refine o_splitD rfl rfl rfl (fun hc => ?_) (fun hc => ?_) <;> first | (exfalso; omega) | dsimp only [List.set_cons_zero, List.set_cons_succ])
| refine zW rfl ?_
| (refine zK rfl (fun hc => ?_) (fun hc => ?_) <;> try (exfalso; omega))
| refine zR ?_
| refine g_exit ?_)
          all_goals try (exfalso; omega)
          refine g_region_drawZ [(0, some []), (1, some []), (2, some [0]), (3, none), (4, none), (5, none)] [(4, 0), (5, 999999)] (fun hp => hp[3]? = some (.box [I 3, .hp 5]) ∧ hp[4]? = some (.box [I 3, .hp 6])) (by kernel_rfl) rfl (by kernel_rfl) ?_
          repeat' (first
| refine z_nil ?_
| ((first
| refine zV rfl rfl (fun hp hH => zY rfl rfl hH.1 aK) aJ aD (by decide) aA ?_
| refine zV rfl rfl (fun hp hH => zY rfl rfl hH.2 aK) aJ aD (by decide) aA ?_
| refine zV rfl rfl (fun _ _ => zD rfl) aJ aD (by decide) aA ?_
| refine z_eff rfl rfl aG (j_store_boxA rfl rfl rfl rfl aK rfl rfl rfl) aF ?_
| refine z_eff rfl rfl aG (j_pure (zA rfl)) aF ?_); refine ⟨_, aQ, ?_⟩))
          repeat' (first
| refine g_ret ?_)
          exact krg_TCC (krI rfl rfl) (krC rfl aK rfl) (krC rfl aK rfl)
      · have hK : Kn = false := by rw [hKn, decide_eq_false hn2]; rfl
        rw [hK, cond_false, cond_false]
        repeat' (first
| refine g_seq ?_
| refine zC ?_
| (refine o_go rfl ?_; (first
| refine p_p (zD rfl) ?_
| refine p_p (zQ rfl rfl) ?_
| refine p_p (ps_gtr rfl rfl rfl) ?_
| refine p_p (ps_eql rfl rfl rfl) ?_); refine ⟨_, aB, ?_⟩)
| refine o_nil ?_
| (refine o_s rfl ?_; refine ⟨_, aB, ?_⟩)
| (refine o_splitD rfl rfl rfl (fun hc => ?_) (fun hc => ?_) <;> first | (exfalso; omega) | dsimp only [List.set_cons_zero, List.set_cons_succ])
| refine zW rfl ?_
| (refine zK rfl (fun hc => ?_) (fun hc => ?_) <;> try (exfalso; omega))
| refine zR ?_
| refine g_exit ?_)
        all_goals try (exfalso; omega)
        refine g_region_drawZ [(0, some []), (1, some []), (2, some [0]), (3, none), (4, none), (5, none)] [(4, 0), (5, 999999)] (fun hp => hp[3]? = some (.box [I 3, .hp 5]) ∧ hp[4]? = some (.box [I 3, .hp 6])) (by kernel_rfl) rfl (by kernel_rfl) ?_
        repeat' (first
| refine z_nil ?_
| ((first
| refine zV rfl rfl (fun hp hH => zY rfl rfl hH.1 aK) aJ aD (by decide) aA ?_
| refine zV rfl rfl (fun hp hH => zY rfl rfl hH.2 aK) aJ aD (by decide) aA ?_
| refine zV rfl rfl (fun _ _ => zD rfl) aJ aD (by decide) aA ?_
| refine z_eff rfl rfl aG (j_store_boxA rfl rfl rfl rfl aK rfl rfl rfl) aF ?_
| refine z_eff rfl rfl aG (j_pure (zA rfl)) aF ?_); refine ⟨_, aQ, ?_⟩))
        repeat' (first
| refine g_ret ?_)
        exact krg_TCC (krI rfl rfl) (krC rfl aK rfl) (krC rfl aK rfl)
end Go.Proofs.YtlgfniaakjchgaaGreat
