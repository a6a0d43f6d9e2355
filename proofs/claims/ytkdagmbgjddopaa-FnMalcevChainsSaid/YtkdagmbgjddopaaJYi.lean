/- The law of Mal'cev chains. -/
import Derived.Test.YtkdagmbgjddopaaJYf
import Derived.Test.YtkdagmbgjddopaaJYe
namespace Go.Proofs.Ytkdagmbgjddopaa
open Go Go.Pv Go.Proofs
set_option maxHeartbeats 32000000
set_option maxRecDepth 100000
attribute [local bitvec_to_nat] St.put St.setObj St.ev killP killA killP1 killH mapHO renP renA ren1 killG killGA killG1 krowP krowA krow1 lendP lendA lend1 unv pinP pin1 elemsM viewM viewN viewV n_set_z n_set_s n_map_c n_map_n getD_z getD_s n_toNat n_cond_t n_cond_f n_len_c n_len_n n_app_c n_app_n n_take_s n_take_z n_drop_s n_drop_z n_get_z n_get_s view viewA view1 elems Nat.zero_add Nat.add_zero Bool.not_true Bool.not_false Nat.one_ne_zero Nat.mul_one

theorem cpV_len {n : Int} {ops : List OpD} {x y : Int} : (cpV n ops x y).length ≤ 8 := by
  unfold cpV
  cases h : cpB n ops x y with
  | false => simp
  | true =>
    obtain ⟨m, x, y, rfl, rfl, rfl, hm8, h4, ho, hx, hy, hg⟩ := cpB_facts h
    rw [if_pos rfl, Int.toNat_natCast, Int.toNat_natCast, Int.toNat_natCast, (cg_lst ho hx hy).pt.len]
    exact hm8
theorem chV_len {n : Int} {ops : List OpD} {x y u v : Int} : (chV n ops x y u v).1.length ≤ 1048576 := by
  unfold chV
  cases h : ccB n ops x y u v with
  | false => simp
  | true =>
    obtain ⟨m, x, y, u, v, rfl, rfl, rfl, rfl, rfl, hm8, h4, ho, hx, hy, hu, hv, hg, hc1, hc2⟩ := ccB_facts h
    rw [if_pos rfl, Int.toNat_natCast, Int.toNat_natCast, Int.toNat_natCast, Int.toNat_natCast, Int.toNat_natCast]
    unfold chN
    by_cases hf : (farL (trB m ops x y) m v).getD u 0 < 0
    · rw [if_pos hf]; simp
    · rw [if_neg hf]
      have hfb : (farL (trB m ops x y) m v).getD u 0 < (m : Int) := by
        obtain ⟨hF, -⟩ := far_facts (lk := trB m ops x y) hv
        have h1 : (farL (trB m ops x y) m v).getD u 0 < _ := (hF.neg u hu).2
        have h2 := nodup_lt_len hF.nd hF.lt
        omega
      dsimp only
      rw [List.length_map, way_len]
      omega
theorem cn_map {p q : Nat → Nat → Prop} (h : ∀ a b, p a b → q a b) {u v : Nat} (hc : Cn p u v) : Cn q u v := by
  induction hc with
  | refl => exact .refl
  | step _ hl ih => exact .step ih (h _ _ hl)
theorem rbigY_c (l : List Int) (hl : l.length ≤ 9223372036854775807) : PCalls Try.prog 5 [bytesP l] (B (decide (65536 < (l.length : Int)))) := by
  refine pcalls1 Try.func5 rfl Try.ntmps5 rfl ?_
  simp only [List.length_cons, List.length_nil, Nat.reduceAdd, Nat.reduceSub, List.replicate_succ, List.replicate_zero, List.cons_append, List.nil_append]
  repeat' (first
| refine g_seq ?_
| refine g_region ?_
| (refine o_go rfl ?_; (first
| refine p_p (ps_move rfl) ?_
| refine p_p (ps_assign rfl) ?_
| refine p_p (ps_lenM rfl rfl rfl) ?_
| refine p_p (ps_gtr rfl rfl rfl) ?_); refine ⟨_, aA, ?_⟩)
| refine o_nil ?_
| refine kr1 ?_
| refine krB rfl ?_
| refine g_ret ?_)
  all_goals first | rfl | (exfalso; omega)
theorem ch_same {n : Int} {ops : List OpD} {x y u v : Int} (h : ccB n ops x y u v = true) : (chV n ops x y u v).2 = decide ((cpV n ops x y).getD u.toNat 0 = (cpV n ops x y).getD v.toNat 0) := by
  obtain ⟨m, x, y, u, v, rfl, rfl, rfl, rfl, rfl, hm8, h4, ho, hx, hy, hu, hv, hg, hc1, hc2⟩ := ccB_facts h
  unfold chV cpV
  rw [h, hc1, if_pos rfl, if_pos rfl, Int.toNat_natCast, Int.toNat_natCast, Int.toNat_natCast, Int.toNat_natCast, Int.toNat_natCast]
  have hp := (cg_lst ho hx hy).pt
  have hfc := far_cn (lk := trB m ops x y) hv hu
  have hlt : ∀ {a b : Nat}, TrP m ops x y a b → a < m ∧ b < m := fun h => TrP.lt ho hx hy h
  have hmal := malcev ho hx hy hu hv
  have e1 : 0 ≤ (farL (trB m ops x y) m v).getD u 0 ↔ (cgL m ops x y).getD u 0 = (cgL m ops x y).getD v 0 := by
    rw [hfc, hp.val hu, hp.val hv]
    constructor
    · intro hc
      have hc' : Cn (TrP m ops x y) v u := cn_map (fun a b hl => trB_iff.1 hl.2) hc
      exact congrArg Int.ofNat (hmal.2 (hc'.symm fun _ _ h => .sym h))
    · intro he
      have hc := (hmal.1 (Int.ofNat.inj he)).symm fun _ _ h => .sym h
      exact cn_map (fun a b hl => ⟨(hlt hl).2, trB_iff.2 hl⟩) hc
  unfold chN
  by_cases hf : (farL (trB m ops x y) m v).getD u 0 < 0
  · rw [if_pos hf]
    exact Eq.symm (decide_eq_false fun e => absurd (e1.2 e) (by omega))
  · rw [if_neg hf]
    exact Eq.symm (decide_eq_true (e1.1 (by omega)))
theorem law_mc (l : List Int) (hl : l.length ≤ maxLen) (hby : ∀ i, i < l.length → 0 ≤ l.getD i 0 ∧ l.getD i 0 ≤ 255) : PCalls Try.prog 3 [bytesP l] (B true) := by
  refine pcalls1 Try.func3 rfl Try.ntmps3 rfl ?_
  simp only [List.length_cons, List.length_nil, Nat.reduceAdd, Nat.reduceSub, List.replicate_succ, List.replicate_zero, List.cons_append, List.nil_append]
  have hv := rbigY_c l (Nat.le_trans hl (by decide))
  by_cases hbig : 65536 < (l.length : Int)
  · rw [decide_eq_true hbig] at hv
    repeat' (first
| refine g_seq ?_
| refine g_region ?_
| (refine o_go rfl ?_; (first
| refine p_p (ps_call rfl rfl aC (hv)) ?_
| refine p_p (ps_move rfl) ?_
| refine p_p (ps_assign rfl) ?_); refine ⟨_, aA, ?_⟩)
| refine o_nil ?_
| refine g_condT rfl ?_
| refine kr1 ?_
| refine krB rfl ?_
| refine g_ret ?_)
    all_goals rfl
  rw [decide_eq_false hbig] at hv
  have hB : bytesOk l := ⟨by omega, hby⟩
  obtain ⟨n, ops, x, y, u, v, hsm, hz, d1⟩ := drawCC_c hB
  have ho := hsm.ok
  have a1 := icc_c n ops x y u v ho
  have a2 := scc_c n ops x y u v ho
  have a3 := icop_c n ops x y ho
  have a4 := scop_c n ops x y ho
  have hpart := mc_t14 n ops x y u v ho hz
  have hC := chV_len (n := n) (ops := ops) (x := x) (y := y) (u := u) (v := v)
  have hP := cpV_len (n := n) (ops := ops) (x := x) (y := y)
  have hsame := ch_same (n := n) (ops := ops) (x := x) (y := y) (u := u) (v := v)
  have hin : ccB n ops x y u v = true → cpB n ops x y = true ∧ 0 ≤ u ∧ u < n ∧ 0 ≤ v ∧ v < n ∧ (cpV n ops x y).length = n.toNat := fun h => by
    obtain ⟨m, x, y, u, v, rfl, rfl, rfl, rfl, rfl, hm8, h4, ho, hx, hy, hu, hv, hg, hc1, hc2⟩ := ccB_facts h
    refine ⟨hc1, by omega, by omega, by omega, by omega, ?_⟩
    unfold cpV
    rw [hc1, if_pos rfl, Int.toNat_natCast, Int.toNat_natCast, Int.toNat_natCast, (cg_lst ho hx hy).pt.len]
  have hout : cpB n ops x y = true → 0 ≤ u → u < n → 0 ≤ v → v < n → ccB n ops x y u v = true := fun h u0 u1 v0 v1 => by
    have hg : algOk n ops = true := by unfold cpB at h; rw [Bool.and_eq_true] at h; exact h.1
    unfold ccB
    rw [h, Bool.true_and]
    unfold cpB
    rw [hg, inE_iff.2 ⟨u0, u1⟩, inE_iff.2 ⟨v0, v1⟩]; rfl
  generalize (chV n ops x y u v).2 = ok at *
  generalize (chV n ops x y u v).1 = C at *
  generalize cpV n ops x y = P at *
  have v1 := rintsY_c C C (by omega) (by omega)
  have v2 := rintsY_c P P (by omega) (by omega)
  rw [decide_eq_true rfl] at v1 v2
  cases hcp : cpB n ops x y with
  | false =>
    rw [hcp] at a3 a4 hpart
    repeat' ((fail_if_success (refine at_reg 14 ?_)); (first
| refine g_settle 0 rfl (by dsimp only [setlP, setl1, setlH, bitvec_to_nat, Nat.reduceAdd, Nat.reduceMul, Nat.reduceBEq, reduceCtorEq]) ?_
| refine g_seq ?_
| refine g_region ?_
| refine g_region_draw (by kernel_rfl) (by kernel_rfl) ?_
| (refine o_go rfl ?_; (first
| refine p_p (ps_call rfl rfl aC (hv)) ?_
| refine p_p (ps_call rfl rfl aC (d1)) ?_
| refine p_p (ps_call rfl rfl aC (a1)) ?_
| refine p_p (ps_call rfl rfl aC (a2)) ?_
| refine p_p (ps_call rfl rfl aC (a3)) ?_
| refine p_p (ps_call rfl rfl aC (a4)) ?_
| refine p_p (ps_call rfl rfl aC (v1)) ?_
| refine p_p (ps_call rfl rfl aC (v2)) ?_
| refine p_p (ps_neqBY rfl rfl rfl (by first | exact bne_self_eq_false _ | rfl)) ?_
| refine p_p (ps_move rfl) ?_
| refine p_p (ps_assign rfl) ?_
| refine p_p (ps_load_agg rfl rfl aK) ?_
| refine p_p (ps_extract rfl rfl rfl) ?_
| refine p_p (ps_not rfl rfl) ?_
| refine p_p (ps_pick rfl rfl) ?_
| refine p_e rfl (e_store_boxA rfl rfl rfl rfl aK rfl rfl rfl) ?_
| refine p_e rfl (e_alloc rfl) ?_); refine ⟨_, aA, ?_⟩)
| refine o_nil ?_
| (refine o_s rfl ?_; refine ⟨_, aA, ?_⟩)
| refine g_condF rfl ?_
| refine g_skip ?_))
    all_goals try (exfalso; omega)
    exact g_tail rfl ⟨aI, hpLe_nil _⟩ hpart
  | true =>
    rw [hcp] at a3 a4 hpart
    by_cases hcc : ccB n ops x y u v = true
    · have hne : (ok != decide (P.getD u.toNat 0 = P.getD v.toNat 0)) = false := by rw [hsame hcc]; exact bne_self_eq_false _
      obtain ⟨-, u0, u1, w0, w1, hPl⟩ := hin hcc
      repeat' ((fail_if_success (refine at_reg 14 ?_)); (first
| refine g_settle 0 rfl (by dsimp only [setlP, setl1, setlH, bitvec_to_nat, Nat.reduceAdd, Nat.reduceMul, Nat.reduceBEq, reduceCtorEq]) ?_
| refine g_seq ?_
| refine g_region ?_
| refine g_region_draw (by kernel_rfl) (by kernel_rfl) ?_
| (refine o_go rfl ?_; (first
| refine p_p (ps_call rfl rfl aC (hv)) ?_
| refine p_p (ps_call rfl rfl aC (d1)) ?_
| refine p_p (ps_call rfl rfl aC (a1)) ?_
| refine p_p (ps_call rfl rfl aC (a2)) ?_
| refine p_p (ps_call rfl rfl aC (a3)) ?_
| refine p_p (ps_call rfl rfl aC (a4)) ?_
| refine p_p (ps_call rfl rfl aC (v1)) ?_
| refine p_p (ps_call rfl rfl aC (v2)) ?_
| refine p_p (ps_neqBY rfl rfl rfl (by first | exact bne_self_eq_false _ | exact hne)) ?_
| refine p_p (ps_move rfl) ?_
| refine p_p (ps_assign rfl) ?_
| refine p_p (ps_load_cell rfl rfl) ?_
| refine p_p (ps_load_agg rfl rfl aK) ?_
| refine p_p (ps_index rfl rfl rfl (by omega) aN (by exact rfl)) ?_
| refine p_p (ps_lss rfl rfl rfl) ?_
| refine p_p (ps_fieldAddr rfl rfl) ?_
| refine p_p (ps_extract rfl rfl rfl) ?_
| refine p_p (ps_not rfl rfl) ?_
| refine p_p (ps_pick rfl rfl) ?_
| refine p_p (ps_geq rfl rfl rfl) ?_
| refine p_p (ps_eql rfl rfl rfl) ?_
| refine p_e rfl (e_store_boxA rfl rfl rfl rfl aK rfl rfl rfl) ?_
| refine p_e rfl (e_alloc rfl) ?_); refine ⟨_, aA, ?_⟩)
| refine o_nil ?_
| (refine o_splitD rfl rfl rfl (fun hc => ?_) (fun hc => ?_) <;> first | (exfalso; omega) | dsimp only [List.set_cons_zero, List.set_cons_succ])
| refine g_condF rfl ?_
| refine g_skip ?_))
      all_goals try (exfalso; omega)
      exact g_tail rfl ⟨aI, hpLe_nil _⟩ hpart
    · have hno : ¬ (0 ≤ u ∧ u < n ∧ 0 ≤ v ∧ v < n) := fun h => hcc (hout hcp h.1 h.2.1 h.2.2.1 h.2.2.2)
      repeat' ((fail_if_success (refine at_reg 14 ?_)); (first
| refine g_settle 0 rfl (by dsimp only [setlP, setl1, setlH, bitvec_to_nat, Nat.reduceAdd, Nat.reduceMul, Nat.reduceBEq, reduceCtorEq]) ?_
| refine g_seq ?_
| refine g_region ?_
| refine g_region_draw (by kernel_rfl) (by kernel_rfl) ?_
| (refine o_go rfl ?_; (first
| refine p_p (ps_call rfl rfl aC (hv)) ?_
| refine p_p (ps_call rfl rfl aC (d1)) ?_
| refine p_p (ps_call rfl rfl aC (a1)) ?_
| refine p_p (ps_call rfl rfl aC (a2)) ?_
| refine p_p (ps_call rfl rfl aC (a3)) ?_
| refine p_p (ps_call rfl rfl aC (a4)) ?_
| refine p_p (ps_call rfl rfl aC (v1)) ?_
| refine p_p (ps_call rfl rfl aC (v2)) ?_
| refine p_p (ps_neqBY rfl rfl rfl (by exact bne_self_eq_false _)) ?_
| refine p_p (ps_move rfl) ?_
| refine p_p (ps_assign rfl) ?_
| refine p_p (ps_load_cell rfl rfl) ?_
| refine p_p (ps_load_agg rfl rfl aK) ?_
| refine p_p (ps_lss rfl rfl rfl) ?_
| refine p_p (ps_fieldAddr rfl rfl) ?_
| refine p_p (ps_extract rfl rfl rfl) ?_
| refine p_p (ps_not rfl rfl) ?_
| refine p_p (ps_pick rfl rfl) ?_
| refine p_p (ps_geq rfl rfl rfl) ?_
| refine p_e rfl (e_store_boxA rfl rfl rfl rfl aK rfl rfl rfl) ?_
| refine p_e rfl (e_alloc rfl) ?_); refine ⟨_, aA, ?_⟩)
| refine o_nil ?_
| (refine o_s rfl ?_; refine ⟨_, aA, ?_⟩)
| (refine o_splitD rfl rfl rfl (fun hc => ?_) (fun hc => ?_) <;> first | (exfalso; omega) | dsimp only [List.set_cons_zero, List.set_cons_succ])
| refine g_condF rfl ?_
| refine g_skip ?_))
      all_goals try (exfalso; omega)
      all_goals exact g_tail rfl ⟨aI, hpLe_nil _⟩ hpart
end Go.Proofs.Ytkdagmbgjddopaa
