/- The law of Mal'cev chains, its last part. -/
import Derived.Test.YtkdagmbgjddopaaJYa
import Derived.Test.YtkdagmbgjddopaaJYc
import Derived.Test.YtkdagmbgjddopaaJNq
namespace Go.Pv
open Go
attribute [local semireducible] Go.Pv.PStep
section
variable {P : Program} {o : Oper} {ev : Operand → PV} {hp : List HO}
theorem ps_lssFY {t rt : TypeId} {x y : Operand} {a b : Int} {k : IntKind} (ho : o.op = .binOp .lss t x y rt) (h1 : ev x = .val (.int k a)) (h2 : ev y = .val (.int k b)) (h : ¬ a < b) : PStep P o ev hp (B false) := by
  have := ps_lss (P := P) (hp := hp) ho h1 h2; rwa [decide_eq_false h] at this
theorem ps_neqBY {t rt : TypeId} [ht : BoolT P t] {x y : Operand} {a b c : Bool} (ho : o.op = .binOp .neq t x y rt) (h1 : ev x = B a) (h2 : ev y = B b) (h : (a != b) = c) : PStep P o ev hp (B c) := by
  have := ps_neqB (P := P) (hp := hp) (ht := ht) ho h1 h2; rwa [h] at this
end
end Go.Pv
namespace Go.Proofs.Ytkdagmbgjddopaa
open Go Go.Pv Go.Proofs
set_option maxHeartbeats 32000000
set_option maxRecDepth 100000
attribute [local bitvec_to_nat] St.put St.setObj St.ev killP killA killP1 killH mapHO renP renA ren1 killG killGA killG1 krowP krowA krow1 lendP lendA lend1 unv pinP pin1 elemsM viewM viewN viewV n_set_z n_set_s n_map_c n_map_n getD_z getD_s n_toNat n_cond_t n_cond_f n_len_c n_len_n n_app_c n_app_n n_take_s n_take_z n_drop_s n_drop_z n_get_z n_get_s view viewA view1 elems Nat.zero_add Nat.add_zero Bool.not_true Bool.not_false Nat.one_ne_zero Nat.mul_one

theorem inB_nat {m : Nat} (h0 : 0 < m) (h8 : m ≤ 8) : inB (m : Int) 1 8 = true := inB_iff.2 (by omega)
theorem ijpN_c {m : Nat} {p q : List Int} (h0 : 0 < m) (h8 : m ≤ 8) (hp : Pt m p) (hq : Pt m q) : PCalls Try.prog 18 [I (m : Int), ints p, ints q] (.tup [ints (joinP m p q), B true]) := by
  have h := ijp_c m p q (by rw [hp.len]; omega) (by rw [hq.len]; omega)
  have hb : twB m p q = true := by unfold twB; rw [inB_nat h0 h8, Int.toNat_natCast, ptB_iff.2 hp, ptB_iff.2 hq]; rfl
  unfold jnV at h
  rw [hb, if_pos rfl, Int.toNat_natCast] at h
  exact h
theorem impN_c {m : Nat} {p q : List Int} (h0 : 0 < m) (h8 : m ≤ 8) (hp : Pt m p) (hq : Pt m q) : PCalls Try.prog 19 [I (m : Int), ints p, ints q] (.tup [ints (meetP m p q), B true]) := by
  have h := imp_c m p q (by rw [hp.len]; omega) (by rw [hq.len]; omega)
  have hb : twB m p q = true := by unfold twB; rw [inB_nat h0 h8, Int.toNat_natCast, ptB_iff.2 hp, ptB_iff.2 hq]; rfl
  unfold mtV at h
  rw [hb, if_pos rfl, Int.toNat_natCast] at h
  exact h
theorem mc_t33 (m : Nat) (ops : List OpD) (p : List Int) (hm0 : 0 < m) (hm8 : m ≤ 8) (hs : szOk ops) (ho : opsIn m ops) (hb : acB m ops = true) (hp : p ∈ allL m ops) :
    Goal Try.prog (tailAt 33 (bodyC Try.f3)) (KRets [2] [B true]) ⟨setMany (List.replicate 313 .any) [(3, .ptr [I (m : Int), opsP ops]), (12, ints p)], []⟩ := by
  conv => arg 2; whnf
  simp only [List.replicate_succ, List.replicate_zero]
  dsimp only [setMany, List.set_cons_zero, List.set_cons_succ]
  have h1 := iac_c m ops hs
  have h2 := sac_c m ops hs
  rw [show acV (m : Int) ops = allL m ops by unfold acV; rw [hb, if_pos rfl, Int.toNat_natCast], hb] at h1 h2
  have hl : (allL m ops).length ≤ 200 := by
    unfold acB at hb
    rw [Bool.and_eq_true, decide_eq_true_eq, Int.toNat_natCast] at hb
    exact hb.2
  have hrl : ∀ r ∈ allL m ops, r.length ≤ 1048576 := fun r hr => by rw [(allL_mem.1 hr).1.len]; omega
  have h3 := rtable_c (allL m ops) (by omega) hrl
  have hpp := allL_mem.1 hp
  have h4 := rplace_c (allL m ops) p (by omega) hrl (hrl p hp)
  have hp0 := plV_in hp
  have hJ : ∀ q ∈ allL m ops, joinP m q p ∈ allL m ops := fun q hq => by
    have hq' := allL_mem.1 hq
    exact allL_mem.2 ⟨join_pt hq'.1 hpp.1, join_cong ho hq'.1 hpp.1 hq'.2 hpp.2⟩
  have hM : ∀ q ∈ allL m ops, meetP m q p ∈ allL m ops := fun q hq => by
    have hq' := allL_mem.1 hq
    exact allL_mem.2 ⟨meet_pt, meet_cong ho hq'.1 hpp.1 hq'.2 hpp.2⟩
  have hV : ∀ q ∈ allL m ops, Pt m q := fun q hq => (allL_mem.1 hq).1
  clear hb hs
  generalize allL m ops = V at *
  repeat' (first
| refine g_seq ?_
| refine g_block ?_
| refine g_region ?_
| (refine o_go rfl ?_; (first
| refine p_p (ps_call rfl rfl aC (h1)) ?_
| refine p_p (ps_call rfl rfl aC (h2)) ?_
| refine p_p (ps_call rfl rfl aC (h3)) ?_
| refine p_p (ps_call rfl rfl aC (h4)) ?_
| refine p_p (ps_neqBY rfl rfl rfl (by rfl)) ?_
| refine p_p (ps_lssFY rfl rfl rfl (by omega)) ?_
| refine p_p (ps_move rfl) ?_
| refine p_p (ps_assign rfl) ?_
| refine p_p (ps_load_agg rfl rfl aK) ?_
| refine p_p (ps_extract rfl rfl rfl) ?_
| refine p_p (ps_not rfl rfl) ?_
| refine p_p (ps_pick rfl rfl) ?_); refine ⟨_, aA, ?_⟩)
| refine o_nil ?_
| refine g_condF rfl ?_
| refine g_skip ?_)
  all_goals try (exfalso; omega)
  refine g_loopT (α := Nat) (fun i => [(27, I (i : Int))]) (fun _ => []) (fun i => i ≤ V.length) (fun i => V.length - i) 0 aH (Nat.zero_le _) ⟨rfl, trivial⟩ rfl ?_
  rintro i hi
  dsimp only [setMany, List.set_cons_zero, List.set_cons_succ]
  by_cases hil : i < V.length
  · have hrow := rows_at hil
    have hqm := rows_mem hil
    have j1 := ijpN_c hm0 hm8 (hV _ hqm) hpp.1
    have j2 := impN_c hm0 hm8 (hV _ hqm) hpp.1
    have j3 := rplace_c V _ (by omega) hrl (hrl _ (hJ _ hqm))
    have j4 := rplace_c V _ (by omega) hrl (hrl _ (hM _ hqm))
    have p3 := plV_in (hJ _ hqm)
    have p4 := plV_in (hM _ hqm)
    repeat' (first
| refine g_seq ?_
| refine g_block ?_
| refine g_region ?_
| refine g_region_draw (by kernel_rfl) (by kernel_rfl) ?_
| (refine o_go rfl ?_; (first
| refine p_p (ps_index rfl rfl rfl (by omega) hrow (by exact rfl)) ?_
| refine p_p (ps_call rfl rfl aC (j1)) ?_
| refine p_p (ps_call rfl rfl aC (j2)) ?_
| refine p_p (ps_call rfl rfl aC (j3)) ?_
| refine p_p (ps_call rfl rfl aC (j4)) ?_
| refine p_p (ps_lssFY rfl rfl rfl (by omega)) ?_
| refine p_p (ps_move rfl) ?_
| refine p_p (ps_assign rfl) ?_
| refine p_p (ps_load_cell rfl rfl) ?_
| refine p_p (ps_lenM rfl rfl rfl) ?_
| refine p_p (ps_lss rfl rfl rfl) ?_
| refine p_p (ps_add rfl rfl rfl aM) ?_
| refine p_p (ps_fieldAddr rfl rfl) ?_
| refine p_p (ps_extract rfl rfl rfl) ?_
| refine p_p (ps_not rfl rfl) ?_
| refine p_p (ps_pick rfl rfl) ?_); refine ⟨_, aA, ?_⟩)
| refine o_nil ?_
| refine g_condF rfl ?_
| (refine g_condD rfl (fun hc => ?_) (fun hc => ?_) <;> try (exfalso; omega))
| refine g_skip ?_)
    all_goals try (exfalso; omega)
    exact k_round (i + 1) (by omega) (by omega) aI ⟨rfl, trivial⟩ (hpLe_nil _)
  · repeat' (first
| refine g_seq ?_
| refine g_region ?_
| (refine o_go rfl ?_; (first
| refine p_p (ps_move rfl) ?_
| refine p_p (ps_assign rfl) ?_
| refine p_p (ps_lenM rfl rfl rfl) ?_
| refine p_p (ps_lss rfl rfl rfl) ?_); refine ⟨_, aA, ?_⟩)
| refine o_nil ?_
| (refine g_condD rfl (fun hc => ?_) (fun hc => ?_) <;> try (exfalso; omega))
| refine kr1 ?_
| refine krB rfl ?_
| refine g_exit ?_
| refine g_ret ?_)
    all_goals first | rfl | (exfalso; omega)
end Go.Proofs.Ytkdagmbgjddopaa
/- The reference's draw of an algebra and four elements. -/
namespace Go.Proofs.Ytkdagmbgjddopaa
open Go Go.Pv Go.Proofs
set_option maxHeartbeats 32000000
set_option maxRecDepth 100000
attribute [local bitvec_to_nat] St.put St.setObj St.ev killP killA killP1 killH mapHO renP renA ren1 killG killGA killG1 krowP krowA krow1 lendP lendA lend1 unv pinP pin1 elemsM viewM viewN viewV n_set_z n_set_s n_map_c n_map_n getD_z getD_s n_toNat n_cond_t n_cond_f n_len_c n_len_n n_app_c n_app_n n_take_s n_take_z n_drop_s n_drop_z n_get_z n_get_s view viewA view1 elems Nat.zero_add Nat.add_zero Bool.not_true Bool.not_false Nat.one_ne_zero Nat.mul_one

theorem element_L {c : Cu} {M : Int} (h : c.ok M) (hM : M ≤ 900000) (n : Int) (ops : List OpD) (hn : szN n) : ∃ c' x, c'.ok (M + 4) ∧ LCalls Try.prog 26 (cuB c) [.hat 0 0, algP n ops] (cuB c') (I x) := by
  have hn9 : n ≤ 9 := by unfold szN at hn; omega
  by_cases h1 : n < 1
  · obtain ⟨c1, x, k1, -, h2⟩ := among_L h (by omega) [-1, n] (by simp) (by simp)
    refine ⟨c1, x, k1.up (by omega), ?_⟩
    refine pcallsL1 Try.func26 rfl Try.ntmps26 rfl rfl rfl (by simp) fun b d => ?_
    simp only [List.length_cons, List.length_nil, Nat.reduceAdd, Nat.reduceSub, List.replicate_succ, List.replicate_zero]
    repeat' (first
| refine g_seq ?_
| refine g_region ?_
| (refine o_go rfl ?_; (first
| refine p_p (ps_lits rfl (by exact rfl) (by exact rfl) aS (by decide) (by decide)) ?_
| refine p_e rfl (e_callL (n := 0) rfl rfl rfl aJ rfl (by rfl) aQ (h2)) ?_
| refine p_p (ps_move rfl) ?_
| refine p_p (ps_assign rfl) ?_
| refine p_p (ps_load_cell rfl rfl) ?_
| refine p_p (ps_lss rfl rfl rfl) ?_
| refine p_p (ps_fieldAddr rfl rfl) ?_
| refine p_p (ps_pick rfl rfl) ?_
| refine p_p (ps_box rfl rfl) ?_); refine ⟨_, aA, ?_⟩)
| refine o_nil ?_
| (refine o_s rfl ?_; refine ⟨_, aA, ?_⟩)
| (refine o_splitD rfl rfl rfl (fun hc => ?_) (fun hc => ?_) <;> first | (exfalso; omega) | dsimp only [List.set_cons_zero, List.set_cons_succ])
| refine g_condT rfl ?_
| refine g_ret ?_)
    all_goals first | exact krlh 0 0 rfl rfl rfl (krI rfl rfl) | (exfalso; omega)
  · obtain ⟨c1, b, k1, h2⟩ := one_L h (by omega) 24 (by decide)
    cases b with
    | true =>
      obtain ⟨c2, x, k2, -, h3⟩ := among_L k1 (by omega) [-1, n] (by simp) (by simp)
      refine ⟨c2, x, k2.up (by omega), ?_⟩
      refine pcallsL1 Try.func26 rfl Try.ntmps26 rfl rfl rfl (by simp) fun b d => ?_
      simp only [List.length_cons, List.length_nil, Nat.reduceAdd, Nat.reduceSub, List.replicate_succ, List.replicate_zero]
      repeat' (first
| refine g_seq ?_
| refine g_region ?_
| (refine o_go rfl ?_; (first
| refine p_p (ps_lits rfl (by exact rfl) (by exact rfl) aS (by decide) (by decide)) ?_
| refine p_e rfl (e_callL (n := 0) rfl rfl rfl aJ rfl (by rfl) aQ (h2)) ?_
| refine p_e rfl (e_callL (n := 0) rfl rfl rfl aJ rfl (by rfl) aQ (h3)) ?_
| refine p_p (ps_move rfl) ?_
| refine p_p (ps_assign rfl) ?_
| refine p_p (ps_load_cell rfl rfl) ?_
| refine p_p (ps_lss rfl rfl rfl) ?_
| refine p_p (ps_fieldAddr rfl rfl) ?_
| refine p_p (ps_pick rfl rfl) ?_
| refine p_p (ps_box rfl rfl) ?_); refine ⟨_, aA, ?_⟩)
| refine o_nil ?_
| (refine o_splitD rfl rfl rfl (fun hc => ?_) (fun hc => ?_) <;> first | (exfalso; omega) | dsimp only [List.set_cons_zero, List.set_cons_succ])
| refine g_condT rfl ?_
| refine g_ret ?_)
      all_goals first | exact krlh 0 0 rfl rfl rfl (krI rfl rfl) | (exfalso; omega)
    | false =>
      obtain ⟨c2, x, k2, -, -, h3⟩ := pick_L k1 (by omega) n (by omega)
      refine ⟨c2, x, k2.up (by omega), ?_⟩
      refine pcallsL1 Try.func26 rfl Try.ntmps26 rfl rfl rfl (by simp) fun b d => ?_
      simp only [List.length_cons, List.length_nil, Nat.reduceAdd, Nat.reduceSub, List.replicate_succ, List.replicate_zero]
      repeat' (first
| refine g_seq ?_
| refine g_region ?_
| (refine o_go rfl ?_; (first
| refine p_e rfl (e_callL (n := 0) rfl rfl rfl aJ rfl (by rfl) aQ (h2)) ?_
| refine p_e rfl (e_callL (n := 0) rfl rfl rfl aJ rfl (by rfl) aQ (h3)) ?_
| refine p_p (ps_move rfl) ?_
| refine p_p (ps_assign rfl) ?_
| refine p_p (ps_load_cell rfl rfl) ?_
| refine p_p (ps_lss rfl rfl rfl) ?_
| refine p_p (ps_fieldAddr rfl rfl) ?_
| refine p_p (ps_pick rfl rfl) ?_
| refine p_p (ps_box rfl rfl) ?_); refine ⟨_, aA, ?_⟩)
| refine o_nil ?_
| (refine o_splitD rfl rfl rfl (fun hc => ?_) (fun hc => ?_) <;> first | (exfalso; omega) | dsimp only [List.set_cons_zero, List.set_cons_succ])
| refine g_condF rfl ?_
| refine g_skip ?_
| refine g_ret ?_)
      all_goals first | exact krlh 0 0 rfl rfl rfl (krI rfl rfl) | (exfalso; omega)
theorem drawCC_c {l : List Int} (h : bytesOk l) : ∃ n ops x y u v, smA ops ∧ szN n ∧ PCalls Try.prog 6 [bytesP l] (.tup [algP n ops, I x, I y, I u, I v]) := by
  obtain ⟨c1, n, ops, k1, hs, hz, h1⟩ := algebra_B (cu0_ok h) (by omega)
  obtain ⟨c2, x, k2, h2⟩ := element_L k1 (by omega) n ops hz
  obtain ⟨c3, y, k3, h3⟩ := element_L k2 (by omega) n ops hz
  obtain ⟨c4, u, k4, h4⟩ := element_L k3 (by omega) n ops hz
  obtain ⟨c5, v, k5, h5⟩ := element_L k4 (by omega) n ops hz
  refine ⟨n, ops, x, y, u, v, hs, hz, ?_⟩
  refine pcalls_CTTTT Try.func6 rfl Try.ntmps6 rfl ?_
  simp only [List.length_cons, List.length_nil, Nat.reduceAdd, Nat.reduceSub, List.replicate_succ, List.replicate_zero, List.cons_append, List.nil_append]
  repeat' (first
| refine g_seq ?_
| refine g_region ?_
| (refine o_go rfl ?_; (first
| refine p_e rfl (e_box rfl rfl) ?_
| refine p_e rfl (e_callL (n := 1) rfl rfl rfl aJ rfl (by rfl) aQ (h1)) ?_
| refine p_p (ps_move rfl) ?_
| refine p_p (ps_assign rfl) ?_
| refine p_e rfl (e_store_boxA rfl rfl rfl rfl aK rfl rfl rfl) ?_
| refine p_e rfl (e_alloc rfl) ?_
| refine p_p (ps_build rfl rfl) ?_); refine ⟨_, aA, ?_⟩)
| refine o_nil ?_)
  refine g_region_drawZ [(0, some []), (1, some []), (2, some []), (4, some []), (5, some []), (7, some []), (8, some []), (10, some []), (11, some []), (3, none), (6, none), (9, none), (12, none), (13, none), (14, none), (15, none), (16, none), (17, none)] [] (fun hp => hp[2]? = some (.box [I n, opsP ops])) (by kernel_rfl) rfl (by kernel_rfl) ?_
  repeat' (first
| refine z_nil ?_
| ((first
| refine z_pure rfl rfl (fun hp hH => ps_load_boxA rfl rfl hH aK) aL aD (by decide) aB ?_
| refine z_pure rfl rfl (fun _ _ => ps_move rfl) aL aD (by decide) aB ?_
| refine z_eff rfl rfl aG (j_callLB (n := 1) rfl rfl rfl aJ (by rfl) (by rfl) (h2)) aF ?_
| refine z_eff rfl rfl aG (j_callLB (n := 1) rfl rfl rfl aJ (by rfl) (by rfl) (h3)) aF ?_
| refine z_eff rfl rfl aG (j_callLB (n := 1) rfl rfl rfl aJ (by rfl) (by rfl) (h4)) aF ?_
| refine z_eff rfl rfl aG (j_callLB (n := 1) rfl rfl rfl aJ (by rfl) (by rfl) (h5)) aF ?_
| refine z_eff rfl rfl aG (j_store_boxA rfl rfl rfl rfl aK rfl rfl rfl) aF ?_
| refine z_eff rfl rfl aG (j_pure (ps_assign rfl)) aF ?_); refine ⟨_, aP, ?_⟩))
  repeat' (first
| refine g_ret ?_)
  exact krg_CTTTT (krC rfl aK rfl) (krI rfl rfl) (krI rfl rfl) (krI rfl rfl) (krI rfl rfl)
end Go.Proofs.Ytkdagmbgjddopaa
