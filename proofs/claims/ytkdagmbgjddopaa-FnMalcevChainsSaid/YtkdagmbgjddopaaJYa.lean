/- Walks: all congruences and chains as they are told. -/
import Derived.Test.YtkdagmbgjddopaaJKt
import Derived.Test.YtkdagmbgjddopaaJKw
namespace Go.Proofs.Ytkdagmbgjddopaa
open Go Go.Pv Go.Proofs
set_option maxHeartbeats 32000000
set_option maxRecDepth 100000
attribute [local bitvec_to_nat] St.put St.setObj St.ev killP killA killP1 killH mapHO renP renA ren1 killG killGA killG1 krowP krowA krow1 lendP lendA lend1 unv pinP pin1 elemsM viewM viewN viewV n_set_z n_set_s n_map_c n_map_n getD_z getD_s n_toNat n_cond_t n_cond_f n_len_c n_len_n n_app_c n_app_n n_take_s n_take_z n_drop_s n_drop_z n_get_z n_get_s view viewA view1 elems Nat.zero_add Nat.add_zero Bool.not_true Bool.not_false Nat.one_ne_zero Nat.mul_one

theorem icongs_c (n : Int) (ops : List OpD) (hs : szOk ops) : PCalls Try.prog 36 [algP n ops] (.tup [if acB n ops then intss (acV n ops) else nilV, B (acB n ops)]) := by
  refine pcalls2 Try.func36 rfl Try.ntmps36 rfl ?_
  simp only [List.length_cons, List.length_nil, Nat.reduceAdd, Nat.reduceSub, List.replicate_succ, List.replicate_zero, List.cons_append, List.nil_append]
  have h1 := igood_c n ops hs
  cases hg : algOk n ops with
  | false =>
    have hb : acB n ops = false := by unfold acB; rw [hg]; rfl
    rw [hg] at h1
    rw [hb, if_neg (by decide)]
    repeat' (first
| refine g_seq ?_
| refine g_region ?_
| (refine o_go rfl ?_; (first
| refine p_p (ps_call rfl rfl aC (h1)) ?_
| refine p_p (ps_assign rfl) ?_
| refine p_p (ps_load_agg rfl rfl aK) ?_
| refine p_p (ps_not rfl rfl) ?_
| refine p_p (ps_box rfl rfl) ?_); refine ⟨_, aA, ?_⟩)
| refine o_nil ?_
| refine g_condT rfl ?_
| refine kr2 ?_ ?_
| refine krB rfl ?_
| refine g_ret ?_)
    all_goals first | rfl | (exfalso; omega) | exact krV rfl | exact krB rfl rfl
  | true =>
    rw [hg] at h1
    obtain ⟨m, rfl, hm0, hm8, h4, ho⟩ := algOk_facts hg
    have h2 := iallc_c m ops hm0 hm8 (by omega) ho
    by_cases hle : (allL m ops).length ≤ 200
    · have hb : acB m ops = true := by unfold acB; rw [hg, Int.toNat_natCast, decide_eq_true hle]; rfl
      rw [if_pos hle, decide_eq_true hle] at h2
      rw [show acV (m : Int) ops = allL m ops by unfold acV; rw [hb, if_pos rfl, Int.toNat_natCast], hb, if_pos rfl]
      repeat' (first
| refine g_seq ?_
| refine g_region ?_
| (refine o_go rfl ?_; (first
| refine p_p (ps_call rfl rfl aC (h1)) ?_
| refine p_p (ps_call rfl rfl aC (h2)) ?_
| refine p_p (ps_assign rfl) ?_
| refine p_p (ps_load_agg rfl rfl aK) ?_
| refine p_p (ps_extract rfl rfl rfl) ?_
| refine p_p (ps_not rfl rfl) ?_
| refine p_p (ps_box rfl rfl) ?_); refine ⟨_, aA, ?_⟩)
| refine o_nil ?_
| refine g_condF rfl ?_
| refine kr2 ?_ ?_
| refine krB rfl ?_
| refine krS rfl ?_
| refine g_skip ?_
| refine g_ret ?_)
      all_goals first | rfl | (exfalso; omega) | exact krV rfl | exact krB rfl rfl
    · have hb : acB m ops = false := by unfold acB; rw [hg, Int.toNat_natCast, decide_eq_false hle]; rfl
      rw [if_neg hle, decide_eq_false hle] at h2
      rw [hb, if_neg (by decide)]
      repeat' (first
| refine g_seq ?_
| refine g_region ?_
| (refine o_go rfl ?_; (first
| refine p_p (ps_call rfl rfl aC (h1)) ?_
| refine p_p (ps_call rfl rfl aC (h2)) ?_
| refine p_p (ps_assign rfl) ?_
| refine p_p (ps_load_agg rfl rfl aK) ?_
| refine p_p (ps_extract rfl rfl rfl) ?_
| refine p_p (ps_not rfl rfl) ?_
| refine p_p (ps_box rfl rfl) ?_); refine ⟨_, aA, ?_⟩)
| refine o_nil ?_
| refine g_condF rfl ?_
| refine kr2 ?_ ?_
| refine krB rfl ?_
| refine g_skip ?_
| refine g_ret ?_)
      all_goals first | rfl | (exfalso; omega) | exact krV rfl | exact krB rfl rfl
theorem iac_c (n : Int) (ops : List OpD) (hs : szOk ops) : PCalls Try.prog 14 [algP n ops] (.tup [intss (acV n ops), B (acB n ops)]) := by
  refine pcalls2 Try.func14 rfl Try.ntmps14 rfl ?_
  simp only [List.length_cons, List.length_nil, Nat.reduceAdd, Nat.reduceSub, List.replicate_succ, List.replicate_zero, List.cons_append, List.nil_append]
  have h1 := icongs_c n ops hs
  cases hb : acB n ops with
  | false =>
    rw [hb, if_neg (by decide)] at h1
    rw [show acV n ops = [] by unfold acV; rw [hb]; rfl]
    repeat' (first
| refine g_seq ?_
| refine g_region ?_
| (refine o_go rfl ?_; (first
| refine p_p (ps_call rfl rfl aC (h1)) ?_
| refine p_p (ps_move rfl) ?_
| refine p_p (ps_assign rfl) ?_
| refine p_p (ps_load_agg rfl rfl aK) ?_
| refine p_p (ps_extract rfl rfl rfl) ?_
| refine p_p (ps_not rfl rfl) ?_
| refine p_e rfl (e_lit0 rfl (by decide)) ?_
| refine p_p (ps_box rfl rfl) ?_); refine ⟨_, aA, ?_⟩)
| refine o_nil ?_
| refine g_condT rfl ?_
| refine kr2 ?_ ?_
| refine krB rfl ?_
| refine krS rfl ?_
| refine g_ret ?_)
    all_goals first | rfl | (exfalso; omega) | exact krV rfl | exact krB rfl rfl
  | true =>
    rw [hb, if_pos rfl] at h1
    repeat' (first
| refine g_seq ?_
| refine g_region ?_
| (refine o_go rfl ?_; (first
| refine p_p (ps_call rfl rfl aC (h1)) ?_
| refine p_p (ps_move rfl) ?_
| refine p_p (ps_assign rfl) ?_
| refine p_p (ps_load_agg rfl rfl aK) ?_
| refine p_p (ps_extract rfl rfl rfl) ?_
| refine p_p (ps_not rfl rfl) ?_
| refine p_p (ps_box rfl rfl) ?_); refine ⟨_, aA, ?_⟩)
| refine o_nil ?_
| refine g_condF rfl ?_
| refine kr2 ?_ ?_
| refine krB rfl ?_
| refine krS rfl ?_
| refine g_skip ?_
| refine g_ret ?_)
    all_goals first | rfl | (exfalso; omega) | exact krV rfl | exact krB rfl rfl
theorem icc_c (n : Int) (ops : List OpD) (x y u v : Int) (hs : szOk ops) : PCalls Try.prog 7 [algP n ops, I x, I y, I u, I v] (.tup [ints (chV n ops x y u v).1, B (chV n ops x y u v).2]) := by
  cases hb : ccB n ops x y u v with
  | true =>
    obtain ⟨m, x, y, u, v, rfl, rfl, rfl, rfl, rfl, h8, h4, ho, hx, hy, hu, hv, hg, h1, h2⟩ := ccB_facts hb
    have h := iccN_c m ops x y u v hs h8 h4 ho hx hy hu hv h1 h2
    unfold chV
    rw [hb, if_pos rfl]
    simp only [Int.toNat_natCast]
    exact h
  | false =>
    refine pcalls2 Try.func7 rfl Try.ntmps7 rfl ?_
    simp only [List.length_cons, List.length_nil, Nat.reduceAdd, Nat.reduceSub, List.replicate_succ, List.replicate_zero, List.cons_append, List.nil_append]
    have h1 := ipair_c n ops x y hs
    have h2 := ipair_c n ops u v hs
    unfold chV
    rw [hb, if_neg (by decide)]
    unfold ccB at hb
    cases h3 : cpB n ops x y with
    | false =>
      rw [h3] at h1
      repeat' (first
| refine g_seq ?_
| refine g_region ?_
| (refine o_go rfl ?_; (first
| refine p_p (ps_call rfl rfl aC (h1)) ?_
| refine p_p (ps_move rfl) ?_
| refine p_p (ps_assign rfl) ?_
| refine p_p (ps_load_agg rfl rfl aK) ?_
| refine p_p (ps_not rfl rfl) ?_
| refine p_p (ps_pick rfl rfl) ?_
| refine p_e rfl (e_lit0 rfl (by decide)) ?_
| refine p_p (ps_box rfl rfl) ?_); refine ⟨_, aA, ?_⟩)
| refine o_nil ?_
| (refine o_s rfl ?_; refine ⟨_, aA, ?_⟩)
| refine g_condT rfl ?_
| refine kr2 ?_ ?_
| refine krB rfl ?_
| refine krS rfl ?_
| refine g_ret ?_)
      all_goals first | rfl | (exfalso; omega)
    | true =>
      rw [h3, Bool.true_and] at hb
      rw [h3] at h1
      rw [hb] at h2
      repeat' (first
| refine g_seq ?_
| refine g_region ?_
| (refine o_go rfl ?_; (first
| refine p_p (ps_call rfl rfl aC (h1)) ?_
| refine p_p (ps_call rfl rfl aC (h2)) ?_
| refine p_p (ps_move rfl) ?_
| refine p_p (ps_assign rfl) ?_
| refine p_p (ps_load_agg rfl rfl aK) ?_
| refine p_p (ps_not rfl rfl) ?_
| refine p_p (ps_pick rfl rfl) ?_
| refine p_e rfl (e_lit0 rfl (by decide)) ?_
| refine p_p (ps_box rfl rfl) ?_); refine ⟨_, aA, ?_⟩)
| refine o_nil ?_
| refine g_condT rfl ?_
| refine kr2 ?_ ?_
| refine krB rfl ?_
| refine krS rfl ?_
| refine g_ret ?_)
      all_goals first | rfl | (exfalso; omega)
theorem inSize4 (n x y u v : Int) : inSizeB [x, y, u, v] n = ((inE n x && inE n y) && (inE n u && inE n v)) := by
  unfold inSizeB
  rw [Bool.eq_iff_iff]
  simp only [Bool.and_eq_true, inE_iff]
  simp
  constructor
  · rintro ⟨h1, h2, h3, h4⟩; exact ⟨⟨by omega, by omega⟩, by omega, by omega⟩
  · rintro ⟨⟨h1, h2⟩, h3, h4⟩; exact ⟨by omega, by omega, by omega, by omega⟩
theorem scc_c (n : Int) (ops : List OpD) (x y u v : Int) (hs : szOk ops) : PCalls Try.prog 8 [algP n ops, I x, I y, I u, I v] (.tup [ints (chV n ops x y u v).1, B (chV n ops x y u v).2]) := by
  cases hb : ccB n ops x y u v with
  | true =>
    obtain ⟨m, x, y, u, v, rfl, rfl, rfl, rfl, rfl, h8, h4, ho, hx, hy, hu, hv, hg, h1, h2⟩ := ccB_facts hb
    have h := sccN_c m ops x y u v hs h8 h4 ho hx hy hu hv hg
    unfold chV
    rw [hb, if_pos rfl]
    simp only [Int.toNat_natCast]
    exact h
  | false =>
    refine pcalls2 Try.func8 rfl Try.ntmps8 rfl ?_
    simp only [List.length_cons, List.length_nil, Nat.reduceAdd, Nat.reduceSub, List.replicate_succ, List.replicate_zero, List.cons_append, List.nil_append]
    have h1 := sgood_c n ops hs
    unfold chV
    rw [hb, if_neg (by decide)]
    unfold ccB cpB at hb
    cases hg : algOk n ops with
    | false =>
      rw [hg] at h1
      repeat' (first
| refine g_seq ?_
| refine g_region ?_
| (refine o_go rfl ?_; (first
| refine p_p (ps_call rfl rfl aC (h1)) ?_
| refine p_p (ps_move rfl) ?_
| refine p_p (ps_assign rfl) ?_
| refine p_p (ps_load_agg rfl rfl aK) ?_
| refine p_p (ps_not rfl rfl) ?_
| refine p_p (ps_pick rfl rfl) ?_
| refine p_e rfl (e_lit0 rfl (by decide)) ?_
| refine p_p (ps_box rfl rfl) ?_); refine ⟨_, aA, ?_⟩)
| refine o_nil ?_
| (refine o_s rfl ?_; refine ⟨_, aA, ?_⟩)
| refine g_condT rfl ?_
| refine kr2 ?_ ?_
| refine krB rfl ?_
| refine krS rfl ?_
| refine g_ret ?_)
      all_goals first | rfl | (exfalso; omega)
    | true =>
      rw [hg] at h1 hb
      rw [Bool.true_and, Bool.true_and] at hb
      obtain ⟨m, rfl, hm0, hm8, h4, ho⟩ := algOk_facts hg
      have h2 := elems_c m [x, y, u, v] (by omega) (by simp)
      rw [inSize4, hb] at h2
      repeat' (first
| refine g_seq ?_
| refine g_region ?_
| (refine o_go rfl ?_; (first
| refine p_p (ps_call rfl rfl aC (h1)) ?_
| refine p_p (ps_lits rfl (by exact rfl) (by exact rfl) aS (by decide) (by decide)) ?_
| refine p_p (ps_call rfl rfl aC (h2)) ?_
| refine p_p (ps_move rfl) ?_
| refine p_p (ps_assign rfl) ?_
| refine p_p (ps_load_cell rfl rfl) ?_
| refine p_p (ps_load_agg rfl rfl aK) ?_
| refine p_p (ps_fieldAddr rfl rfl) ?_
| refine p_p (ps_not rfl rfl) ?_
| refine p_p (ps_pick rfl rfl) ?_
| refine p_p (ps_box rfl rfl) ?_); refine ⟨_, aA, ?_⟩)
| refine o_nil ?_
| refine g_condT rfl ?_
| refine kr2 ?_ ?_
| refine krB rfl ?_
| refine krS rfl ?_
| refine g_ret ?_)
      all_goals first | rfl | (exfalso; omega)
end Go.Proofs.Ytkdagmbgjddopaa
