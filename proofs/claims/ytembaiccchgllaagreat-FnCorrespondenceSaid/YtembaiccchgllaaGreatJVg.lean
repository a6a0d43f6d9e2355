/- The law of quotients and the congruences above a congruence. -/
import Derived.Test.YtembaiccchgllaaGreatJVf
import Derived.Test.YtembaiccchgllaaGreatJYk
import Derived.Test.YtembaiccchgllaaGreatJYc
import Derived.Test.YtembaiccchgllaaGreatJKo
import Derived.Test.YtembaiccchgllaaGreatJYy
import Derived.Test.YtembaiccchgllaaGreatJYa
set_option linter.unusedSectionVars false
namespace Go.Pv
open Go
attribute [local semireducible] Go.Pv.PStep
section
variable {P : Program} {o : Oper} {ev : Operand → PV} {hp : List HO}
theorem j_allocV {t : TypeId} {zs : List Value} [hz : ZeroT P t zs] (ho : o.op = .alloc t) : JStep P o ev hp (some hp.length) (killH hp.length hp ++ [.box (zs.map .val)]) (.hat hp.length 0) := fun fr _ => e_alloc (S := ⟨fr, hp⟩) (hz := hz) ho
end
end Go.Pv
namespace Go.Proofs.YtembaiccchgllaaGreat
open Go Go.Pv Go.Proofs
set_option maxHeartbeats 32000000
set_option maxRecDepth 100000
attribute [local bitvec_to_nat] St.put St.setObj St.ev killP killA killP1 killH mapHO renP renA ren1 killG killGA killG1 krowP krowA krow1 lendP lendA lend1 unv pinP pin1 elemsM viewM viewN viewV n_set_z n_set_s n_map_c n_map_n getD_z getD_s n_toNat n_cond_t n_cond_f n_len_c n_len_n n_app_c n_app_n n_take_s n_take_z n_drop_s n_drop_z n_get_z n_get_s view viewA view1 elems Nat.zero_add Nat.add_zero Bool.not_true Bool.not_false Nat.one_ne_zero Nat.mul_one

theorem algOk_of {m : Nat} {ops : List OpD} (h0 : 0 < m) (h8 : m ≤ 8) (h4 : ops.length ≤ 4) (ho : opsIn m ops) : algOk (m : Int) ops = true := by
  unfold algOk
  rw [inB_iff.2 (by omega), decide_eq_true h4, Int.toNat_natCast, Bool.true_and, Bool.true_and]
  refine List.all_eq_true.2 fun f hf => ?_
  obtain ⟨h1, h2, h3, h5⟩ := ho f hf
  unfold opOk
  rw [inB_iff.2 ⟨h1, h2⟩, decide_eq_true h3, Bool.true_and, Bool.true_and]
  unfold inSizeB
  refine List.all_eq_true.2 fun x hx => ?_
  obtain ⟨i, hi, rfl⟩ := List.getElem_of_mem hx
  have := h5 i (by omega)
  have hb : bk f.tb i = (f.tb.getD i 0).toNat := rfl
  rw [List.getD_eq_getElem?_getD, List.getElem?_eq_getElem hi] at this hb
  simp only [Option.getD_some] at this hb
  simp only [Bool.not_eq_true', Bool.or_eq_false_iff, decide_eq_false_iff_not]
  omega
theorem szOk_in {m : Nat} {ops : List OpD} (h8 : m ≤ 8) (h4 : ops.length ≤ 4) (ho : opsIn m ops) : szOk ops := by
  refine ⟨by omega, fun f hf => ?_⟩
  obtain ⟨h1, h2, h3, -⟩ := ho f hf
  rw [h3]
  exact Nat.le_trans (Nat.pow_le_pow_left h8 _) (Nat.le_trans (Nat.pow_le_pow_right (by decide) (show f.ar.toNat ≤ 3 by omega)) (by decide))
theorem acB_of {m : Nat} {ops : List OpD} (hg : algOk (m : Int) ops = true) (h : (allL m ops).length ≤ 200) : acB (m : Int) ops = true := by
  unfold acB
  rw [hg, Int.toNat_natCast, decide_eq_true h]; rfl
theorem drawIC_c {l : List Int} (h : bytesOk l) : ∃ n ops p, smA ops ∧ szN n ∧ p.length ≤ 10 ∧ PCalls Tryz.prog 132 [bytesP l] (.tup [algP n ops, ints p]) := by
  obtain ⟨c1, n, ops, k1, hs, hz, h1⟩ := algebra_B (cu0_ok h) (by omega)
  obtain ⟨c2, p, k2, hp, h2⟩ := cong6_L k1 (by omega) n ops hs.ok
  refine ⟨n, ops, p, hs, hz, hp, ?_⟩
  refine pcallsCT Tryz.func132 rfl Tryz.ntmps132 rfl ?_
  simp only [List.length_cons, List.length_nil, Nat.reduceAdd, Nat.reduceSub, List.replicate_succ, List.replicate_zero, List.cons_append, List.nil_append]
  repeat' (first
| refine g_seq ?_
| refine zC ?_
| (refine o_go rfl ?_; (first
| refine p_e rfl (e_box rfl rfl) ?_
| refine p_e rfl (e_callL (n := 1) rfl rfl rfl aK rfl (by rfl) aR (h1)) ?_
| refine p_p (zD rfl) ?_
| refine p_p (zA rfl) ?_
| refine p_e rfl (zO rfl rfl rfl rfl aL rfl rfl rfl) ?_
| refine p_e rfl (e_alloc rfl) ?_
| refine p_p (ps_build rfl rfl) ?_); refine ⟨_, aB, ?_⟩)
| refine o_nil ?_)
  refine g_region_drawZ [(0, some []), (1, some []), (2, some []), (3, none), (4, none), (5, none)] [] (fun hp => hp[2]? = some (.box [I n, opsP ops])) (by kernel_rfl) rfl (by kernel_rfl) ?_
  repeat' (first
| refine z_nil ?_
| ((first
| refine zV rfl rfl (fun hp hH => zY rfl rfl hH aL) aJ aD (by decide) aA ?_
| refine zV rfl rfl (fun _ _ => zD rfl) aJ aD (by decide) aA ?_
| refine z_eff rfl rfl aF (j_callLB (n := 1) rfl rfl rfl aK (by rfl) (by rfl) (h2)) aG ?_
| refine z_eff rfl rfl aF (j_store_boxA rfl rfl rfl rfl aL rfl rfl rfl) aG ?_
| refine z_eff rfl rfl aF (j_pure (zA rfl)) aG ?_); refine ⟨_, aQ, ?_⟩))
  repeat' (first
| refine krct ?_ ?_
| refine krC rfl aL ?_
| refine krS rfl ?_
| refine g_ret ?_)
  all_goals rfl
theorem drawQA_c {l : List Int} (h : bytesOk l) : ∃ n ops p, smA ops ∧ szN n ∧ p.length ≤ 10 ∧ PCalls Tryz.prog 28 [bytesP l] (.tup [algP n ops, ints p]) := by
  obtain ⟨n, ops, p, hs, hz, hp, hc⟩ := drawIC_c h
  refine ⟨n, ops, p, hs, hz, hp, ?_⟩
  refine pcallsCT Tryz.func28 rfl Tryz.ntmps28 rfl ?_
  simp only [List.length_cons, List.length_nil, Nat.reduceAdd, Nat.reduceSub, List.replicate_succ, List.replicate_zero, List.cons_append, List.nil_append]
  repeat' (first
| refine g_seq ?_
| refine zC ?_
| (refine o_go rfl ?_; (first
| refine p_p (zG rfl rfl aC (hc)) ?_
| refine p_p (zD rfl) ?_
| refine p_p (zA rfl) ?_
| refine p_p (ps_extract rfl rfl rfl) ?_
| refine p_e rfl (zO rfl rfl rfl rfl aL rfl rfl rfl) ?_
| refine p_e rfl (e_alloc rfl) ?_); refine ⟨_, aB, ?_⟩)
| refine o_nil ?_
| refine krct ?_ ?_
| refine krC rfl aL ?_
| refine krS rfl ?_
| refine g_ret ?_)
  all_goals rfl
theorem rbigV_c (l : List Int) (_hl : l.length ≤ 9223372036854775807) : PCalls Tryz.prog 11 [bytesP l] (B (decide (65536 < (l.length : Int)))) := by
  refine pcalls1 Tryz.func11 rfl Tryz.ntmps11 rfl ?_
  simp only [List.length_cons, List.length_nil, Nat.reduceAdd, Nat.reduceSub, List.replicate_succ, List.replicate_zero, List.cons_append, List.nil_append]
  repeat' (first
| refine g_seq ?_
| refine zC ?_
| (refine o_go rfl ?_; (first
| refine p_p (zD rfl) ?_
| refine p_p (zA rfl) ?_
| refine p_p (zU rfl rfl rfl) ?_
| refine p_p (ps_gtr rfl rfl rfl) ?_); refine ⟨_, aB, ?_⟩)
| refine o_nil ?_
| refine kr1 ?_
| refine krB rfl ?_
| refine g_ret ?_)
  all_goals first | rfl | (exfalso; omega)
theorem ropV_c (f : OpD) (hf : f.tb.length ≤ 1048576) : PCalls Tryz.prog 236 [opP f, opP f] (B true) := by
  refine pcalls1 Tryz.func236 rfl Tryz.ntmps236 rfl ?_
  simp only [List.length_cons, List.length_nil, Nat.reduceAdd, Nat.reduceSub, List.replicate_succ, List.replicate_zero, List.cons_append, List.nil_append]
  have h1 := rintsY_c f.tb f.tb (by omega) (by omega)
  rw [decide_eq_true rfl] at h1
  repeat' (first
| refine g_seq ?_
| refine zC ?_
| (refine o_go rfl ?_; (first
| refine p_p (zG rfl rfl aC (h1)) ?_
| refine p_p (zD rfl) ?_
| refine p_p (zA rfl) ?_
| refine p_p (zF rfl rfl) ?_
| refine p_p (zL rfl rfl) ?_
| refine p_p (zQ rfl rfl) ?_
| refine p_p (ps_eql rfl rfl rfl) ?_
| refine p_p (ps_box rfl rfl) ?_); refine ⟨_, aB, ?_⟩)
| refine o_nil ?_
| (refine o_splitD rfl rfl rfl (fun hc => ?_) (fun hc => ?_) <;> first | (exfalso; omega) | dsimp only [List.set_cons_zero, List.set_cons_succ])
| refine kr1 ?_
| refine krB rfl ?_
| refine g_ret ?_)
  all_goals first | rfl | (exfalso; omega)
theorem ropsV_c (L : List OpD) (hs : szOk L) : PCalls Tryz.prog 137 [opsP L, opsP L] (B true) := by
  refine pcalls1 Tryz.func137 rfl Tryz.ntmps137 rfl ?_
  simp only [List.length_cons, List.length_nil, Nat.reduceAdd, Nat.reduceSub, List.replicate_succ, List.replicate_zero, List.cons_append, List.nil_append]
  have hl := hs.1
  repeat' (first
| refine g_seq ?_
| refine zJ ?_
| refine zC ?_
| (refine o_go rfl ?_; (first
| refine p_p (zD rfl) ?_
| refine p_p (zA rfl) ?_
| refine p_p (zU rfl rfl rfl) ?_
| refine p_p (ps_neq rfl rfl rfl) ?_); refine ⟨_, aB, ?_⟩)
| refine o_nil ?_
| (refine g_condN rfl (fun hc => ?_) (fun hc => ?_) <;> try (exfalso; omega))
| refine zR ?_)
  all_goals try (exfalso; omega)
  refine g_loopT (α := Nat) (fun k => [(5, I (k : Int))]) (fun _ => []) (fun k => k ≤ L.length) (fun k => L.length - k) 0 aH (Nat.zero_le _) ⟨rfl, trivial⟩ rfl ?_
  rintro k hk
  dsimp only [zZ, List.set_cons_zero, List.set_cons_succ]
  by_cases hkl : k < L.length
  · have hq := opsK_at hkl
    have h1 := ropV_c (L.getD k default) (hs.2 _ (opsK_mem hkl))
    repeat' (first
| refine g_seq ?_
| refine zJ ?_
| refine zC ?_
| refine zP (by kernel_rfl) (by kernel_rfl) ?_
| (refine o_go rfl ?_; (first
| refine p_p (zN rfl rfl rfl (by omega) hq (by exact rfl)) ?_
| refine p_p (zG rfl rfl aC (h1)) ?_
| refine p_p (zD rfl) ?_
| refine p_p (zA rfl) ?_
| refine p_p (ps_load_agg rfl rfl aL) ?_
| refine p_p (zU rfl rfl rfl) ?_
| refine p_p (zS rfl rfl rfl) ?_
| refine p_p (ps_add rfl rfl rfl aO) ?_
| refine p_p (ps_not rfl rfl) ?_); refine ⟨_, aB, ?_⟩)
| refine o_nil ?_
| refine zW rfl ?_
| (refine zK rfl (fun hc => ?_) (fun hc => ?_) <;> try (exfalso; omega))
| refine zR ?_)
    all_goals try (exfalso; omega)
    exact zT (k + 1) (by omega) (by omega) aI ⟨rfl, trivial⟩ (zM _)
  · repeat' (first
| refine g_seq ?_
| refine zC ?_
| (refine o_go rfl ?_; (first
| refine p_p (zD rfl) ?_
| refine p_p (zA rfl) ?_
| refine p_p (zU rfl rfl rfl) ?_
| refine p_p (zS rfl rfl rfl) ?_); refine ⟨_, aB, ?_⟩)
| refine o_nil ?_
| (refine zK rfl (fun hc => ?_) (fun hc => ?_) <;> try (exfalso; omega))
| refine kr1 ?_
| refine krB rfl ?_
| refine g_exit ?_
| refine g_ret ?_)
    all_goals first | rfl | (exfalso; omega)
theorem ralgV_c (n : Int) (L : List OpD) (hs : szOk L) : PCalls Tryz.prog 31 [algP n L, algP n L] (B true) := by
  refine pcalls1 Tryz.func31 rfl Tryz.ntmps31 rfl ?_
  simp only [List.length_cons, List.length_nil, Nat.reduceAdd, Nat.reduceSub, List.replicate_succ, List.replicate_zero, List.cons_append, List.nil_append]
  have h1 := ropsV_c L hs
  repeat' (first
| refine g_seq ?_
| refine zC ?_
| (refine o_go rfl ?_; (first
| refine p_p (zG rfl rfl aC (h1)) ?_
| refine p_p (zD rfl) ?_
| refine p_p (zA rfl) ?_
| refine p_p (zF rfl rfl) ?_
| refine p_p (zL rfl rfl) ?_
| refine p_p (zQ rfl rfl) ?_
| refine p_p (ps_eql rfl rfl rfl) ?_
| refine p_p (ps_box rfl rfl) ?_); refine ⟨_, aB, ?_⟩)
| refine o_nil ?_
| (refine o_splitD rfl rfl rfl (fun hc => ?_) (fun hc => ?_) <;> first | (exfalso; omega) | dsimp only [List.set_cons_zero, List.set_cons_succ])
| refine kr1 ?_
| refine krB rfl ?_
| refine g_ret ?_)
  all_goals first | rfl | (exfalso; omega)
theorem cor_t27 (m K : Nat) (ops Q : List OpD) (p : List Int) (hm0 : 0 < m) (hm8 : m ≤ 8) (h4 : ops.length ≤ 4) (ho : opsIn m ops) (hb : tkB (m : Int) ops p = true) (hK : K = (lstN p m).length) (hQ : Q = quoL m p ops) (V A : List (List Int)) (hV : V = allL K Q) (hVl : V.length ≤ 200) (hAl : A.length ≤ 200) (hA : A = (allL m ops).filter (fiB m p)) :
    Goal Tryz.prog (tailAt 27 (bodyC Tryz.f4)) (KRets [2] [B true]) ⟨zZ (List.replicate 265 .any) [(3, .ptr [I (m : Int), opsP ops]), (4, ints p), (5, .ptr [I (K : Int), opsP Q]), (19, intss A), (23, intss V)], []⟩ := by
  obtain ⟨m', hmm, -, -, -, -, hg, pt, cg⟩ := tkB_facts hb
  obtain rfl : m' = m := by omega
  clear hmm
  have hs := szOk_in hm8 h4 ho
  have hk0 : 0 < K := by rw [hK]; exact lst_pos pt hm0
  have hk8 : K ≤ 8 := by have := lstN_le p m'; omega
  have hqi : opsIn K Q := by rw [hK, hQ]; exact quo_in hm0 pt ho
  have hq4 : Q.length ≤ 4 := by rw [hQ]; simp [quoL]; omega
  have hqs := szOk_in hk8 hq4 hqi
  have hqg := algOk_of hk0 hk8 hq4 hqi
  have hmem : ∀ q, q ∈ V → Pt K q ∧ Cong K Q q := fun q hq => by rw [hV] at hq; exact allL_mem.1 hq
  have hAr : ∀ r ∈ A, r.length ≤ 1048576 := fun r hr => by
    rw [hA] at hr
    have := (allL_mem.1 (List.mem_filter.1 hr).1).1.len
    omega
  have fact : ∀ q, q ∈ V → ∃ (k2 : Int) (Q2 : List OpD), szOk Q2 ∧ PCalls Tryz.prog 39 [algP m' ops, ints p, ints q] (.tup [ints (liftP m' p q), B true]) ∧ PCalls Tryz.prog 40 [algP m' ops, ints p, ints (liftP m' p q)] (.tup [ints q, B true])
      ∧ 0 ≤ plV (liftP m' p q) A ∧ (liftP m' p q).length ≤ 8 ∧ q.length ≤ 8 ∧ PCalls Tryz.prog 29 [algP K Q, ints q] (.tup [algP k2 Q2, B true]) ∧ PCalls Tryz.prog 29 [algP m' ops, ints (liftP m' p q)] (.tup [algP k2 Q2, B true]) := fun q hq => by
    obtain ⟨hq1, hq2⟩ := hmem q hq
    subst hK hQ
    have hlp : Pt m' (liftP m' p q) := lift_pt
    have hlc := lift_cong pt hm0 ho cg hq1 hq2
    have hlf := lift_fi pt hq1
    have hll := hlp.len
    have hql := hq1.len
    have e1 := ilift_c m' ops p q hs hb hqs.1 hq1 hq2
    have e2 := ipush_c m' ops p (liftP m' p q) hs hb hlp hlc hlf
    rw [push_lift pt hq1] at e2
    have e3 : liftP m' p q ∈ A := by
      rw [hA]
      exact List.mem_filter.2 ⟨allL_mem.2 ⟨hlp, hlc⟩, (fiB_iff pt hlp).2 hlf⟩
    have t1 := tkB_of hk0 hqi hqg hq1 hq2
    have t2 := tkB_of hm0 ho hg hlp hlc
    have e5 := iqa_c ((lstN p m').length : Int) (quoL m' p ops) q hqs (by omega)
    have e6 := iqa_c (m' : Int) ops (liftP m' p q) hs (by omega)
    rw [t1, quN_ok t1, quO_ok t1, quo_quo pt hq1 hm0 ho] at e5
    rw [t2, quN_ok t2, quO_ok t2, lift_lst pt hq1, List.length_map] at e6
    refine ⟨_, _, ?_, e1, e2, plV_in e3, by omega, by omega, e5, e6⟩
    have h8 := lstN_le (liftP m' p q) m'
    exact szOk_in (show (lstN (liftP m' p q) m').length ≤ 8 by omega) (by simp [quoL]; omega) (quo_in hm0 hlp ho)
  conv => arg 2; whnf
  simp only [List.replicate_succ, List.replicate_zero]
  dsimp only [zZ, List.set_cons_zero, List.set_cons_succ]
  clear hA hV hK hQ
  repeat' (first
| refine g_seq ?_
| refine zJ ?_
| refine zC ?_
| (refine o_go rfl ?_; (first
| refine p_p (zA rfl) ?_); refine ⟨_, aB, ?_⟩)
| refine o_nil ?_)
  refine g_loopT (α := Nat) (fun i => [(27, I (i : Int))]) (fun _ => []) (fun i => i ≤ V.length) (fun i => V.length - i) 0 aH (Nat.zero_le _) ⟨rfl, trivial⟩ rfl ?_
  rintro i hi
  dsimp only [zZ, List.set_cons_zero, List.set_cons_succ]
  by_cases hil : i < V.length
  · have ri := rows_at hil
    obtain ⟨k2, Q2, hz, e1, e2, e3, e4, e5, e6, e7⟩ := fact _ (rows_mem hil)
    have e8 := rplace_c A (liftP m' p (V.getD i [])) (by omega) hAr (by omega)
    have e9 := rintsY_c (V.getD i []) (V.getD i []) (by omega) (by omega)
    rw [decide_eq_true rfl] at e9
    have e10 := ralgV_c k2 Q2 hz
    generalize plV (liftP m' p (V.getD i [])) A = w at *
    generalize liftP m' p (V.getD i []) = u at *
    generalize V.getD i [] = q at *
    repeat' ((fail_if_success (refine at_reg1 34 ?_)); (first
| refine g_seq ?_
| refine zJ ?_
| refine zC ?_
| refine zP (by kernel_rfl) (by kernel_rfl) ?_
| (refine o_go rfl ?_; (first
| refine p_p (zN rfl rfl rfl (by omega) ri (by exact rfl)) ?_
| refine p_p (zG rfl rfl aC (e1)) ?_
| refine p_p (zG rfl rfl aC (e2)) ?_
| refine p_p (zG rfl rfl aC (e8)) ?_
| refine p_p (zG rfl rfl aC (e9)) ?_
| refine p_p (ps_lssFY rfl rfl rfl (by omega)) ?_
| refine p_p (zD rfl) ?_
| refine p_p (zA rfl) ?_
| refine p_p (zF rfl rfl) ?_
| refine p_p (ps_load_agg rfl rfl aL) ?_
| refine p_p (zU rfl rfl rfl) ?_
| refine p_p (zS rfl rfl rfl) ?_
| refine p_p (ps_extract rfl rfl rfl) ?_
| refine p_p (ps_not rfl rfl) ?_
| refine p_p (zQ rfl rfl) ?_); refine ⟨_, aB, ?_⟩)
| refine o_nil ?_
| refine zW rfl ?_
| (refine zK rfl (fun hc => ?_) (fun hc => ?_) <;> try (exfalso; omega))
| refine zR ?_))
    all_goals try (exfalso; omega)
    refine at_reg1 34 ?_
    refine g_seq ?_
    refine g_region_drawZ [(0, some [0]), (1, some [0]), (2, some [0]), (3, some [0]), (4, some [0]), (5, some [0]), (6, some [0]), (7, some [0]), (8, some [0]), (9, none), (10, none), (11, none)] [(9, 0), (10, 0)] (fun _ => True) (by kernel_rfl) rfl (by kernel_rfl) ?_
    repeat' (first
| refine z_nil ?_
| ((first
| refine zV rfl rfl (fun hp hH => zN rfl rfl rfl (by omega) ri (by exact rfl)) aJ aD (by decide) aA ?_
| refine zV rfl rfl (fun hp hH => zG rfl rfl aC (e6)) aJ aM (by decide) aA ?_
| refine zV rfl rfl (fun _ _ => zD rfl) aJ aD (by decide) aA ?_
| refine zV rfl rfl (fun _ _ => zF rfl rfl) aJ aD (by decide) aA ?_
| refine zV rfl rfl (fun _ _ => ps_load_agg rfl rfl aL) aJ aD (by decide) aA ?_
| refine zV rfl rfl (fun _ _ => ps_extract rfl rfl rfl) aJ aD (by decide) aA ?_
| refine z_eff rfl rfl aF (j_allocV rfl) aG ?_
| refine z_eff rfl rfl aF (j_store_boxA rfl rfl rfl rfl aL rfl rfl rfl) aG ?_
| refine z_eff rfl rfl aF (j_pure (zA rfl)) aG ?_); refine ⟨_, aQ, ?_⟩))
    repeat' (first
| refine g_settle 0 rfl (by dsimp only [setlP, setl1, setlH, bitvec_to_nat, Nat.reduceAdd, Nat.reduceMul, Nat.reduceBEq, reduceCtorEq]) ?_
| refine g_settle 1 rfl (by dsimp only [setlP, setl1, setlH, bitvec_to_nat, Nat.reduceAdd, Nat.reduceMul, Nat.reduceBEq, reduceCtorEq]) ?_
| refine g_seq ?_
| refine zC ?_
| (refine o_go rfl ?_; (first
| refine p_p (zG rfl rfl aC (e7)) ?_
| refine p_p (zG rfl rfl aC (e10)) ?_
| refine p_p (zD rfl) ?_
| refine p_p (zA rfl) ?_
| refine p_p (ps_load_agg rfl rfl aL) ?_
| refine p_p (ps_add rfl rfl rfl aO) ?_
| refine p_p (ps_extract rfl rfl rfl) ?_
| refine p_p (ps_not rfl rfl) ?_
| refine p_p (zQ rfl rfl) ?_
| refine p_e rfl (zO rfl rfl rfl rfl aL rfl rfl rfl) ?_
| refine p_e rfl (e_alloc rfl) ?_); refine ⟨_, aB, ?_⟩)
| refine o_nil ?_
| refine zW rfl ?_
| refine zR ?_)
    all_goals try (exfalso; omega)
    exact zT (i + 1) (by omega) (by omega) aI ⟨rfl, trivial⟩ (zM _)
  · repeat' (first
| refine g_seq ?_
| refine zC ?_
| (refine o_go rfl ?_; (first
| refine p_p (zD rfl) ?_
| refine p_p (zA rfl) ?_
| refine p_p (zU rfl rfl rfl) ?_
| refine p_p (zS rfl rfl rfl) ?_); refine ⟨_, aB, ?_⟩)
| refine o_nil ?_
| (refine zK rfl (fun hc => ?_) (fun hc => ?_) <;> try (exfalso; omega))
| refine kr1 ?_
| refine krB rfl ?_
| refine g_exit ?_
| refine g_ret ?_)
    all_goals first | rfl | (exfalso; omega)
theorem law_cor (l : List Int) (hl : l.length ≤ maxLen) (hby : ∀ i, i < l.length → 0 ≤ l.getD i 0 ∧ l.getD i 0 ≤ 255) : PCalls Tryz.prog 4 [bytesP l] (B true) := by
  refine pcalls1 Tryz.func4 rfl Tryz.ntmps4 rfl ?_
  simp only [List.length_cons, List.length_nil, Nat.reduceAdd, Nat.reduceSub, List.replicate_succ, List.replicate_zero, List.cons_append, List.nil_append]
  have hv := rbigV_c l (Nat.le_trans hl (by decide))
  by_cases hbig : 65536 < (l.length : Int)
  · rw [decide_eq_true hbig] at hv
    repeat' (first
| refine g_seq ?_
| refine zC ?_
| (refine o_go rfl ?_; (first
| refine p_p (zG rfl rfl aC (hv)) ?_
| refine p_p (zD rfl) ?_
| refine p_p (zA rfl) ?_); refine ⟨_, aB, ?_⟩)
| refine o_nil ?_
| refine zX rfl ?_
| refine kr1 ?_
| refine krB rfl ?_
| refine g_ret ?_)
    all_goals rfl
  rw [decide_eq_false hbig] at hv
  have hB : bytesOk l := ⟨by omega, hby⟩
  obtain ⟨n, ops, p, hsm, hz, hp, d1⟩ := drawQA_c hB
  have hs := hsm.ok
  have a1 := iqa_c n ops p hs (by omega)
  have a2 := sqa_c n ops p hs (by omega)
  have hqo : szOk (quO n ops p) := by
    cases hb : tkB n ops p with
    | false => rw [quO_bad hb]; exact smA_nil.ok
    | true =>
      obtain ⟨m, rfl, hm0, hm8, h4, ho, hg, pt, cg⟩ := tkB_facts hb
      rw [quO_ok hb]
      have := lstN_le p m
      exact szOk_in (show (lstN p m).length ≤ 8 by omega) (by simp [quoL]; omega) (quo_in hm0 pt ho)
  have v1 := ralgV_c (quN n ops p) (quO n ops p) hqo
  cases hb : tkB n ops p with
  | false =>
    rw [hb] at a1 a2
    generalize quN n ops p = k at *
    generalize quO n ops p = Q at *
    repeat' (first
| refine g_settle 0 rfl (by dsimp only [setlP, setl1, setlH, bitvec_to_nat, Nat.reduceAdd, Nat.reduceMul, Nat.reduceBEq, reduceCtorEq]) ?_
| refine g_settle 1 rfl (by dsimp only [setlP, setl1, setlH, bitvec_to_nat, Nat.reduceAdd, Nat.reduceMul, Nat.reduceBEq, reduceCtorEq]) ?_
| refine g_settle 2 rfl (by dsimp only [setlP, setl1, setlH, bitvec_to_nat, Nat.reduceAdd, Nat.reduceMul, Nat.reduceBEq, reduceCtorEq]) ?_
| refine g_seq ?_
| refine zC ?_
| (refine o_go rfl ?_; (first
| refine p_p (zG rfl rfl aC (hv)) ?_
| refine p_p (zG rfl rfl aC (d1)) ?_
| refine p_p (zG rfl rfl aC (a1)) ?_
| refine p_p (zG rfl rfl aC (a2)) ?_
| refine p_p (zG rfl rfl aC (v1)) ?_
| refine p_p (ps_neqBY rfl rfl rfl (by rfl)) ?_
| refine p_p (zD rfl) ?_
| refine p_p (zA rfl) ?_
| refine p_p (ps_load_agg rfl rfl aL) ?_
| refine p_p (ps_extract rfl rfl rfl) ?_
| refine p_p (ps_not rfl rfl) ?_
| refine p_p (zQ rfl rfl) ?_
| refine p_e rfl (zO rfl rfl rfl rfl aL rfl rfl rfl) ?_
| refine p_e rfl (e_alloc rfl) ?_); refine ⟨_, aB, ?_⟩)
| refine o_nil ?_
| refine zX rfl ?_
| refine zW rfl ?_
| refine kr1 ?_
| refine krB rfl ?_
| refine zR ?_
| refine g_ret ?_)
    all_goals rfl
  | true =>
    obtain ⟨m, rfl, hm0, hm8, h4, ho, hg, pt, cg⟩ := tkB_facts hb
    have hm5 : m ≤ 5 := by unfold szN at hz; omega
    have hfew := allL_few hm5 ops
    have hac := acB_of hg (by omega)
    rw [hb, quN_ok hb, quO_ok hb] at a1 a2
    rw [quN_ok hb, quO_ok hb] at v1
    rw [quO_ok hb] at hqo
    have hk0 := lst_pos pt hm0
    have hk8 : (lstN p m).length ≤ 8 := by have := lstN_le p m; omega
    have hqi := quo_in hm0 pt ho
    have hq4 : (quoL m p ops).length ≤ 4 := by simp [quoL]; omega
    have hqg := algOk_of hk0 hk8 hq4 hqi
    have b1 := inm_c m ops p hs (by omega)
    have b2 := snm_c m ops p hs (by omega)
    have hna : naV (m : Int) ops p = natL m p := by unfold naV; rw [hb, if_pos rfl, Int.toNat_natCast]
    rw [hb, hna] at b1 b2
    have hnl := nat_len m p
    have hal : alkB (m : Int) ops ((lstN p m).length : Int) (quoL m p ops) = true := by
      unfold alkB
      rw [hg, hqg, tyL_quo, decide_eq_true rfl]; rfl
    have hhm : hmB (m : Int) ops ((lstN p m).length : Int) (quoL m p ops) (natL m p) = true := by
      unfold hmB
      rw [hal, Int.toNat_natCast, Int.toNat_natCast, nat_hom pt hm0 ho cg]; rfl
    have c1 := iishom_c m (lstN p m).length ops (quoL m p ops) (natL m p) hs hqo (by omega)
    have c2 := ikern_c m (lstN p m).length ops (quoL m p ops) (natL m p) hs hqo (by omega)
    have c3 := iimg_c m (lstN p m).length ops (quoL m p ops) (natL m p) hs hqo (by omega)
    have hke : kerV6 (m : Int) ops ((lstN p m).length : Int) (quoL m p ops) (natL m p) = p := by unfold kerV6; rw [hhm, if_pos rfl, nat_ker pt]
    have him : imgV (m : Int) ops ((lstN p m).length : Int) (quoL m p ops) (natL m p) = imgL (natL m p) (lstN p m).length := by unfold imgV; rw [hhm, if_pos rfl, Int.toNat_natCast]
    rw [hhm, hal] at c1
    rw [hhm, hke] at c2
    rw [hhm, him] at c3
    have hil := nat_img (n := m) (p := p) pt
    have v2 := rintsY_c (natL m p) (natL m p) (by omega) (by omega)
    have v3 := rintsY_c p p (by omega) (by omega)
    rw [decide_eq_true rfl] at v2 v3
    have d2 := icab_c m ops p hs (by omega)
    have d3 := scab_c m ops p hs (by omega)
    have hcb : caB (m : Int) ops p = true := by unfold caB; rw [hac, Int.toNat_natCast, (cgB_iff hm0 ho).2 ⟨pt, cg⟩]; rfl
    have hcv : caV (m : Int) ops p = (allL m ops).filter (fiB m p) := by unfold caV; rw [hcb, if_pos rfl, Int.toNat_natCast]
    rw [hcb, hcv] at d2 d3
    have hAl : ((allL m ops).filter (fiB m p)).length ≤ 120 := Nat.le_trans (List.length_filter_le _ _) hfew
    have hAr : ∀ r ∈ (allL m ops).filter (fiB m p), r.length ≤ 1048576 := fun r hr => by
      have := (allL_mem.1 (List.mem_filter.1 hr).1).1.len
      omega
    have hlen := above_len pt hm0 ho cg (A := (allL m ops).filter (fiB m p)) ((ascC_nodup (allL_all m ops).1).sublist List.filter_sublist) (fun r => by
      rw [List.mem_filter]
      exact and_congr_right fun hr => fiB_iff pt (allL_mem.1 hr).1)
    have v4 := rtable_c ((allL m ops).filter (fiB m p)) (by omega) hAr
    have hacq : acB ((lstN p m).length : Int) (quoL m p ops) = true := acB_of hqg (by omega)
    have f1 := iac_c ((lstN p m).length : Int) (quoL m p ops) hqo
    have f2 := sac_c ((lstN p m).length : Int) (quoL m p ops) hqo
    have hav : acV ((lstN p m).length : Int) (quoL m p ops) = allL (lstN p m).length (quoL m p ops) := by unfold acV; rw [hacq, if_pos rfl, Int.toNat_natCast]
    rw [hacq, hav] at f1 f2
    have v5 := rtable_c (allL (lstN p m).length (quoL m p ops)) (by omega) (fun r hr => by rw [(allL_mem.1 hr).1.len]; omega)
    have hpart := cor_t27 m _ ops _ p hm0 hm8 h4 ho hb rfl rfl _ _ rfl (by omega) (by omega) rfl
    generalize hAe : (allL m ops).filter (fiB m p) = A at *
    generalize allL (lstN p m).length (quoL m p ops) = V at *
    generalize imgL (natL m p) (lstN p m).length = W at *
    generalize natL m p = G at *
    generalize quoL m p ops = Q at *
    generalize (lstN p m).length = K at *
    have hVA : (V.length : Int) = (A.length : Int) := by omega
    have hWK : (W.length : Int) = (K : Int) := by omega
    repeat' ((fail_if_success (refine at_reg 27 ?_)); (first
| refine g_settle 0 rfl (by dsimp only [setlP, setl1, setlH, bitvec_to_nat, Nat.reduceAdd, Nat.reduceMul, Nat.reduceBEq, reduceCtorEq]) ?_
| refine g_settle 1 rfl (by dsimp only [setlP, setl1, setlH, bitvec_to_nat, Nat.reduceAdd, Nat.reduceMul, Nat.reduceBEq, reduceCtorEq]) ?_
| refine g_settle 2 rfl (by dsimp only [setlP, setl1, setlH, bitvec_to_nat, Nat.reduceAdd, Nat.reduceMul, Nat.reduceBEq, reduceCtorEq]) ?_
| refine g_seq ?_
| refine zC ?_
| (refine o_go rfl ?_; (first
| refine p_p (zG rfl rfl aC (hv)) ?_
| refine p_p (zG rfl rfl aC (d1)) ?_
| refine p_p (zG rfl rfl aC (a1)) ?_
| refine p_p (zG rfl rfl aC (a2)) ?_
| refine p_p (zG rfl rfl aC (v1)) ?_
| refine p_p (zG rfl rfl aC (b1)) ?_
| refine p_p (zG rfl rfl aC (b2)) ?_
| refine p_p (zG rfl rfl aC (v2)) ?_
| refine p_p (zG rfl rfl aC (c1)) ?_
| refine p_p (zG rfl rfl aC (c2)) ?_
| refine p_p (zG rfl rfl aC (c3)) ?_
| refine p_p (zG rfl rfl aC (v3)) ?_
| refine p_p (zG rfl rfl aC (d2)) ?_
| refine p_p (zG rfl rfl aC (d3)) ?_
| refine p_p (zG rfl rfl aC (v4)) ?_
| refine p_p (zG rfl rfl aC (f1)) ?_
| refine p_p (zG rfl rfl aC (f2)) ?_
| refine p_p (zG rfl rfl aC (v5)) ?_
| refine p_p (ps_neqBY rfl rfl rfl (by rfl)) ?_
| refine p_p (zD rfl) ?_
| refine p_p (zA rfl) ?_
| refine p_p (zF rfl rfl) ?_
| refine p_p (ps_load_agg rfl rfl aL) ?_
| refine p_p (zU rfl rfl rfl) ?_
| refine p_p (zL rfl rfl) ?_
| refine p_p (ps_extract rfl rfl rfl) ?_
| refine p_p (ps_not rfl rfl) ?_
| refine p_p (zQ rfl rfl) ?_
| refine p_p (ps_neq rfl rfl rfl) ?_
| refine p_e rfl (zO rfl rfl rfl rfl aL rfl rfl rfl) ?_
| refine p_e rfl (e_alloc rfl) ?_); refine ⟨_, aB, ?_⟩)
| refine o_nil ?_
| refine zW rfl ?_
| (refine g_condN rfl (fun hc => ?_) (fun hc => ?_) <;> try (exfalso; omega))
| refine zR ?_))
    all_goals try (exfalso; omega)
    all_goals exact g_tail rfl ⟨aI, zM _⟩ hpart
end Go.Proofs.YtembaiccchgllaaGreat
