/- The law of congruences that permute, are distributive or modular. -/
import Derived.Test.YtnjocjfhaahmfaaGreatJVt
import Derived.Test.YtnjocjfhaahmfaaGreatJVu
import Derived.Test.YtnjocjfhaahmfaaGreatJYa
set_option linter.unusedSectionVars false
namespace Go.Pv
open Go
attribute [local semireducible] Go.Pv.PStep
section
variable {P : Program} {o : Oper} {ev : Operand → PV} {hp : List HO}
theorem ps_neqIX {t rt : TypeId} {x y : Operand} {a : Int} {k : IntKind} (ho : o.op = .binOp .neq t x y rt) (h1 : ev x = .val (.int k a)) (h2 : ev y = .val (.int k a)) : PStep P o ev hp (B false) := by
  have := ps_neq (P := P) (hp := hp) ho h1 h2
  rwa [decide_eq_true rfl] at this
theorem ps_eqlIX {t rt : TypeId} {x y : Operand} {a : Int} {k : IntKind} (ho : o.op = .binOp .eql t x y rt) (h1 : ev x = .val (.int k a)) (h2 : ev y = .val (.int k a)) : PStep P o ev hp (B true) := by
  have := ps_eql (P := P) (hp := hp) ho h1 h2
  rwa [decide_eq_true rfl] at this
theorem ps_leqVX {t rt : TypeId} {x y : Operand} {a b : Int} {k : IntKind} {c : Bool} (ho : o.op = .binOp .leq t x y rt) (h1 : ev x = .val (.int k a)) (h2 : ev y = .val (.int k b)) (h : decide (a ≤ b) = c) : PStep P o ev hp (B c) := by
  subst h; exact ps_leq ho h1 h2
end
end Go.Pv
namespace Go.Proofs.YtnjocjfhaahmfaaGreat
open Go Go.Pv Go.Proofs
set_option maxHeartbeats 32000000
set_option maxRecDepth 100000
attribute [local bitvec_to_nat] St.put St.setObj St.ev killP killA killP1 killH mapHO renP renA ren1 killG killGA killG1 krowP krowA krow1 lendP lendA lend1 unv pinP pin1 elemsM viewM viewN viewV n_set_z n_set_s n_map_c n_map_n getD_z getD_s n_toNat n_cond_t n_cond_f n_len_c n_len_n n_app_c n_app_n n_take_s n_take_z n_drop_s n_drop_z n_get_z n_get_s view viewA view1 elems Nat.zero_add Nat.add_zero Bool.not_true Bool.not_false Nat.one_ne_zero Nat.mul_one

theorem fp_isSome (n : Int) (ops : List OpD) : (fpO n ops).isSome = (fcB n ops && !permB n ops) := by
  unfold fpO permB
  cases hf : fcB n ops with
  | false => rfl
  | true =>
    obtain ⟨m, rfl, hm0, hm8, h4, ho, hg, hV, h60⟩ := fcB_facts hf
    rw [if_pos rfl, hV, Int.toNat_natCast, paB_ap fc_pt]
    cases apO m (allL m ops) <;> rfl
theorem tp_isSome (md : Bool) (n : Int) (ops : List OpD) : (tpO md n ops).isSome = (fcB n ops && !gdjB md n ops) := by
  unfold gdjB
  cases hf : fcB n ops with
  | false =>
    have : tpO md n ops = none := by unfold tpO; rw [hf]; rfl
    rw [this]; rfl
  | true => cases tpO md n ops <;> rfl
theorem perm_mod {n : Int} {ops : List OpD} (h : permB n ops = true) : gdjB true n ops = true := by
  unfold permB at h
  rw [Bool.and_eq_true] at h
  obtain ⟨hf, hp⟩ := h
  obtain ⟨m, rfl, hm0, hm8, h4, ho, hg, hV, h60⟩ := fcB_facts hf
  rw [hV, Int.toNat_natCast] at hp
  unfold gdjB
  rw [tpO_some hf, hV, Int.toNat_natCast, hf]
  show (btO (allL m ops) (mdlB m)).isNone = true
  rw [mdl_of_prm fc_pt hp]; rfl
theorem dis_mod {n : Int} {ops : List OpD} (h : gdjB false n ops = true) : gdjB true n ops = true := by
  unfold gdjB at h ⊢
  rw [Bool.and_eq_true] at h
  obtain ⟨hf, hp⟩ := h
  obtain ⟨m, rfl, hm0, hm8, h4, ho, hg, hV, h60⟩ := fcB_facts hf
  rw [tpO_some hf, hV, Int.toNat_natCast] at hp ⊢
  rw [hf]
  show (btO (allL m ops) (mdlB m)).isNone = true
  rw [mdl_of_dis (Option.isNone_iff_eq_none.1 hp)]; rfl
theorem no_fc {n : Int} {ops : List OpD} (h : fcB n ops = false) : permB n ops = false ∧ (∀ md, gdjB md n ops = false) ∧ rkN n ops = 0 := by
  refine ⟨by unfold permB; rw [h]; rfl, fun md => by unfold gdjB; rw [h]; rfl, by unfold rkN; rw [h]; rfl⟩
theorem rk_leq {n : Int} {ops : List OpD} (h : fcB n ops = true) : decide ((rkN n ops : Int) ≤ 2) = permB n ops := by
  obtain ⟨m, rfl, hm0, hm8, h4, ho, hg, hV, h60⟩ := fcB_facts h
  unfold rkN permB
  rw [h, if_pos rfl, hV, Int.toNat_natCast, Bool.true_and, ← rk_two hm0 fc_pt, decide_eq_decide]
  omega
theorem tpW_rows {md : Bool} {n : Int} {ops : List OpD} : (tpW md n ops).length ≤ 1048576 ∧ ∀ r ∈ tpW md n ops, r.length ≤ 1048576 := by
  cases hf : fcB n ops with
  | false =>
    have ho : tpO md n ops = none := by unfold tpO; rw [hf]; rfl
    have : tpW md n ops = [] := by unfold tpW; rw [ho]; rfl
    rw [this]
    exact ⟨by decide, fun r hr => by cases hr⟩
  | true =>
    obtain ⟨m, rfl, hm0, hm8, h4, ho, hg, hV, h60⟩ := fcB_facts hf
    unfold tpW
    rw [tpO_some hf, hV, Int.toNat_natCast]
    refine ⟨by rw [List.length_map]; exact Nat.le_trans (btL_len _) (by decide), fun r hr => ?_⟩
    obtain ⟨a, ha, rfl⟩ := List.mem_map.1 hr
    rw [(fc_pt _ (rows_mem (btL_mem a ha))).len]; omega
theorem fp_lens (n : Int) (ops : List OpD) : (fpL n ops).length ≤ 1048576 ∧ (fpR n ops).length ≤ 1048576 := by
  cases hO : fpO n ops with
  | none =>
    rw [show fpL n ops = [] by unfold fpL; rw [hO], show fpR n ops = [] by unfold fpR; rw [hO]]
    exact ⟨by decide, by decide⟩
  | some ik =>
    obtain ⟨i, k⟩ := ik
    cases hf : fcB n ops with
    | false => unfold fpO at hO; rw [hf] at hO; cases hO
    | true =>
      obtain ⟨m, rfl, hm0, hm8, h4, ho, hg, hV, h60⟩ := fcB_facts hf
      have hO2 := hO
      unfold fpO at hO2
      rw [hf, if_pos rfl, hV, Int.toNat_natCast] at hO2
      obtain ⟨hi, hk⟩ := apO_some hO2
      rw [show fpL (m : Int) ops = (allL m ops).getD i [] by unfold fpL; rw [hO, hV], show fpR (m : Int) ops = (allL m ops).getD k [] by unfold fpR; rw [hO, hV], (fc_pt _ (rows_mem hi)).len, (fc_pt _ (rows_mem hk)).len]
      omega
theorem cl_t39 (n : Int) (ops : List OpD) (hs : szOk ops) :
    Goal Tryz.prog (tailAt 39 (bodyC Tryz.f5)) (KRets [2] [B true]) ⟨zZ (List.replicate 372 .any) [(3, .ptr [I n, opsP ops]), (4, B (permB n ops)), (5, B (fcB n ops))], []⟩ := by
  conv => arg 2; whnf
  simp only [List.replicate_succ, List.replicate_zero]
  dsimp only [zZ, List.set_cons_zero, List.set_cons_succ]
  have h1 := ifpa_c n ops hs
  have h2 := sfpa_c n ops hs
  have h3 := ihgt_c n ops hs
  have h4 := shgt_c n ops hs
  obtain ⟨l1, l2⟩ := fp_lens n ops
  have v1 := vints53_c (fpL n ops) (fpL n ops) (by omega) (by omega)
  have v2 := vints53_c (fpR n ops) (fpR n ops) (by omega) (by omega)
  rw [decide_eq_true rfl] at v1 v2
  rw [fp_isSome] at h1 h2
  have hno := fun h => (no_fc (n := n) (ops := ops) h).1
  generalize fpL n ops = L at *
  generalize fpR n ops = R at *
  generalize htI n ops = H at *
  generalize permB n ops = P at *
  generalize fcB n ops = F at *
  cases F with
  | false =>
    obtain rfl := hno rfl
    rw [Bool.false_and] at h1 h2
    repeat' (first
| refine wO ?_
| (refine o_go rfl ?_; (first
| refine p_p (zG rfl rfl aB (h1)) ?_
| refine p_p (zG rfl rfl aB (h2)) ?_
| refine p_p (zG rfl rfl aB (h3)) ?_
| refine p_p (zG rfl rfl aB (h4)) ?_
| refine p_p (zG rfl rfl aB (v1)) ?_
| refine p_p (zG rfl rfl aB (v2)) ?_
| refine p_p (ps_neqBY rfl rfl rfl (by rfl)) ?_
| refine p_p (ps_eqlBY rfl rfl rfl (by rfl)) ?_
| refine p_p (ps_eqlIX rfl rfl rfl) ?_
| refine wS ?_
| refine p_p (ps_load_agg rfl rfl aJ) ?_); refine ⟨_, aA, ?_⟩)
| (refine o_s rfl ?_; refine ⟨_, aA, ?_⟩)
| refine kr1 ?_
| refine krB rfl ?_
| refine wE ?_)
    all_goals rfl
  | true =>
    rw [Bool.true_and] at h1 h2
    cases P with
    | false =>
      repeat' (first
| refine wO ?_
| (refine o_go rfl ?_; (first
| refine p_p (zG rfl rfl aB (h1)) ?_
| refine p_p (zG rfl rfl aB (h2)) ?_
| refine p_p (zG rfl rfl aB (h3)) ?_
| refine p_p (zG rfl rfl aB (h4)) ?_
| refine p_p (zG rfl rfl aB (v1)) ?_
| refine p_p (zG rfl rfl aB (v2)) ?_
| refine p_p (ps_neqBY rfl rfl rfl (by rfl)) ?_
| refine p_p (ps_eqlBY rfl rfl rfl (by rfl)) ?_
| refine p_p (ps_eqlIX rfl rfl rfl) ?_
| refine wS ?_
| refine p_p (ps_load_agg rfl rfl aJ) ?_); refine ⟨_, aA, ?_⟩)
| refine kr1 ?_
| refine krB rfl ?_
| refine wE ?_)
      all_goals rfl
    | true =>
      repeat' (first
| refine wO ?_
| (refine o_go rfl ?_; (first
| refine p_p (zG rfl rfl aB (h1)) ?_
| refine p_p (zG rfl rfl aB (h2)) ?_
| refine p_p (zG rfl rfl aB (h3)) ?_
| refine p_p (zG rfl rfl aB (h4)) ?_
| refine p_p (zG rfl rfl aB (v1)) ?_
| refine p_p (zG rfl rfl aB (v2)) ?_
| refine p_p (ps_neqBY rfl rfl rfl (by rfl)) ?_
| refine p_p (ps_eqlBY rfl rfl rfl (by rfl)) ?_
| refine p_p (ps_eqlIX rfl rfl rfl) ?_
| refine wS ?_
| refine p_p (ps_load_agg rfl rfl aJ) ?_); refine ⟨_, aA, ?_⟩)
| refine kr1 ?_
| refine krB rfl ?_
| refine wE ?_)
      all_goals rfl
theorem twB_of {m : Nat} {p q : List Int} (h0 : 0 < m) (h8 : m ≤ 8) (hp : Pt m p) (hq : Pt m q) : twB (m : Int) p q = true := by
  unfold twB
  rw [Int.toNat_natCast, (ptB_iff).2 hp, (ptB_iff).2 hq, Bool.and_eq_true]
  refine ⟨?_, rfl⟩
  unfold inB
  rw [Bool.and_eq_true, decide_eq_true_eq, decide_eq_true_eq]
  omega
theorem cl_t31 (n : Int) (ops : List OpD) (hs : szOk ops) :
    Goal Tryz.prog (tailAt 31 (bodyC Tryz.f5)) (KRets [2] [B true]) ⟨zZ (List.replicate 372 .any) [(3, .ptr [I n, opsP ops]), (4, B (permB n ops)), (5, B (fcB n ops)), (22, intss (tpW false n ops)), (23, B (tpO false n ops).isSome)], []⟩ := by
  conv => arg 2; whnf
  simp only [List.replicate_succ, List.replicate_zero]
  dsimp only [zZ, List.set_cons_zero, List.set_cons_succ]
  have hpart := cl_t39 n ops hs
  cases ht : tpO false n ops with
  | none =>
    rw [Option.isSome_none]
    generalize tpW false n ops = T at *
    generalize permB n ops = P at *
    generalize fcB n ops = F at *
    repeat' ((fail_if_success (refine at_reg1 39 ?_)); (first
| refine wO ?_
| (refine o_go rfl ?_; (first
| refine wS ?_); refine ⟨_, aA, ?_⟩)
| refine zR ?_))
    refine at_reg1 39 ?_
    exact g_tail rfl ⟨aI, zM _⟩ hpart
  | some t =>
    obtain ⟨i, j, k⟩ := t
    cases hf : fcB n ops with
    | false => unfold tpO at ht; rw [hf] at ht; cases ht
    | true =>
      rw [hf] at hpart
      obtain ⟨m, rfl, hm0, hm8, h4, ho, hg, hV, h60⟩ := fcB_facts hf
      have hT : tpW false (m : Int) ops = [(allL m ops).getD i [], (allL m ops).getD j [], (allL m ops).getD k []] := by unfold tpW; rw [ht, hV]; rfl
      rw [hT]
      rw [tpO_some hf, hV, Int.toNat_natCast] at ht
      obtain ⟨hi, hj, hk, hbad⟩ := btO_some ht
      have pi := fc_pt _ (rows_mem hi)
      have pj := fc_pt _ (rows_mem hj)
      have pk := fc_pt _ (rows_mem hk)
      change disB m _ _ _ = false at hbad
      unfold disB at hbad
      generalize (allL m ops).getD i [] = p at *
      generalize (allL m ops).getD j [] = q at *
      generalize (allL m ops).getD k [] = r at *
      have e1 := ijp_c (m : Int) q r (by rw [pj.len]; omega) (by rw [pk.len]; omega)
      have qjk := join_pt pj pk
      have e2 := imp_c (m : Int) p (joinP m q r) (by rw [pi.len]; omega) (by rw [qjk.len]; omega)
      have e3 := imp_c (m : Int) p q (by rw [pi.len]; omega) (by rw [pj.len]; omega)
      have e4 := imp_c (m : Int) p r (by rw [pi.len]; omega) (by rw [pk.len]; omega)
      have q2 : Pt m (meetP m p q) := meet_pt
      have q3 : Pt m (meetP m p r) := meet_pt
      have q4 : Pt m (meetP m p (joinP m q r)) := meet_pt
      have q5 := join_pt q2 q3
      have e5 := ijp_c (m : Int) (meetP m p q) (meetP m p r) (by rw [q2.len]; omega) (by rw [q3.len]; omega)
      unfold jnV at e1 e5
      unfold mtV at e2 e3 e4
      rw [twB_of hm0 hm8 pj pk, if_pos rfl, Int.toNat_natCast] at e1
      rw [twB_of hm0 hm8 pi qjk, if_pos rfl, Int.toNat_natCast] at e2
      rw [twB_of hm0 hm8 pi pj, if_pos rfl, Int.toNat_natCast] at e3
      rw [twB_of hm0 hm8 pi pk, if_pos rfl, Int.toNat_natCast] at e4
      rw [twB_of hm0 hm8 q2 q3, if_pos rfl, Int.toNat_natCast] at e5
      have v1 := vints53_c (meetP m p (joinP m q r)) (joinP m (meetP m p q) (meetP m p r)) (by rw [q4.len]; omega) (by rw [q5.len]; omega)
      rw [hbad] at v1
      clear hbad ht hT q2 q3 q4 q5 qjk hg ho
      generalize permB (m : Int) ops = P at *
      generalize meetP m p (joinP m q r) = a1 at *
      generalize joinP m (meetP m p q) (meetP m p r) = a2 at *
      generalize joinP m q r = a3 at *
      generalize meetP m p q = a4 at *
      generalize meetP m p r = a5 at *
      rw [Option.isSome_some]
      have i0 : ([p, q, r].map ints)[((0 : Int)).toNat]? = some (ints p) := rfl
      have i1 : ([p, q, r].map ints)[((1 : Int)).toNat]? = some (ints q) := rfl
      have i2 : ([p, q, r].map ints)[((2 : Int)).toNat]? = some (ints r) := rfl
      repeat' ((fail_if_success (refine at_reg1 39 ?_)); (first
| refine wO ?_
| refine zP (by kernel_rfl) (by kernel_rfl) ?_
| (refine o_go rfl ?_; (first
| refine p_p (zN rfl rfl rfl (by decide) i0 (by exact rfl)) ?_
| refine p_p (zN rfl rfl rfl (by decide) i1 (by exact rfl)) ?_
| refine p_p (zN rfl rfl rfl (by decide) i2 (by exact rfl)) ?_
| refine p_p (zG rfl rfl aB (e1)) ?_
| refine p_p (zG rfl rfl aB (e2)) ?_
| refine p_p (zG rfl rfl aB (e3)) ?_
| refine p_p (zG rfl rfl aB (e4)) ?_
| refine p_p (zG rfl rfl aB (e5)) ?_
| refine p_p (zG rfl rfl aB (v1)) ?_
| refine wS ?_); refine ⟨_, aA, ?_⟩)
| refine zR ?_))
      refine at_reg1 39 ?_
      exact g_tail rfl ⟨aI, zM _⟩ hpart
theorem cl_t27 (n : Int) (ops : List OpD) (hs : szOk ops) :
    Goal Tryz.prog (tailAt 27 (bodyC Tryz.f5)) (KRets [2] [B true]) ⟨zZ (List.replicate 372 .any) [(3, .ptr [I n, opsP ops]), (4, B (permB n ops)), (5, B (fcB n ops)), (12, B (gdjB true n ops)), (22, intss (tpW false n ops)), (23, B (tpO false n ops).isSome)], []⟩ := by
  conv => arg 2; whnf
  simp only [List.replicate_succ, List.replicate_zero]
  dsimp only [zZ, List.set_cons_zero, List.set_cons_succ]
  have hpart := cl_t31 n ops hs
  have h1 := ifunm_c n ops hs
  have h2 := sfunm_c n ops hs
  obtain ⟨l1, l2⟩ := tpW_rows (md := true) (n := n) (ops := ops)
  have v1 := vtable53_c (tpW true n ops) l1 l2
  rw [tp_isSome true] at h1 h2
  have hno := fun h => (no_fc (n := n) (ops := ops) h).2.1 true
  generalize tpW true n ops = W at *
  generalize tpW false n ops = T at *
  generalize (tpO false n ops).isSome = five at *
  generalize gdjB true n ops = M at *
  generalize permB n ops = P at *
  generalize fcB n ops = F at *
  cases F with
  | false =>
    obtain rfl := hno rfl
    rw [Bool.false_and] at h1 h2
    repeat' ((fail_if_success (refine at_reg 31 ?_)); (first
| refine wO ?_
| (refine o_go rfl ?_; (first
| refine p_p (zG rfl rfl aB (h1)) ?_
| refine p_p (zG rfl rfl aB (h2)) ?_
| refine p_p (zG rfl rfl aB (v1)) ?_
| refine p_p (ps_neqBY rfl rfl rfl (by rfl)) ?_
| refine wS ?_
| refine p_p (ps_load_agg rfl rfl aJ) ?_); refine ⟨_, aA, ?_⟩)
| (refine o_s rfl ?_; refine ⟨_, aA, ?_⟩)
| refine zR ?_))
    refine at_reg 31 ?_
    exact g_tail rfl ⟨aI, zM _⟩ hpart
  | true =>
    rw [Bool.true_and] at h1 h2
    cases M with
    | false =>
      repeat' ((fail_if_success (refine at_reg 31 ?_)); (first
| refine wO ?_
| (refine o_go rfl ?_; (first
| refine p_p (zG rfl rfl aB (h1)) ?_
| refine p_p (zG rfl rfl aB (h2)) ?_
| refine p_p (zG rfl rfl aB (v1)) ?_
| refine p_p (ps_neqBY rfl rfl rfl (by rfl)) ?_
| refine wS ?_
| refine p_p (ps_load_agg rfl rfl aJ) ?_); refine ⟨_, aA, ?_⟩)
| refine zR ?_))
      refine at_reg 31 ?_
      exact g_tail rfl ⟨aI, zM _⟩ hpart
    | true =>
      repeat' ((fail_if_success (refine at_reg 31 ?_)); (first
| refine wO ?_
| (refine o_go rfl ?_; (first
| refine p_p (zG rfl rfl aB (h1)) ?_
| refine p_p (zG rfl rfl aB (h2)) ?_
| refine p_p (zG rfl rfl aB (v1)) ?_
| refine p_p (ps_neqBY rfl rfl rfl (by rfl)) ?_
| refine wS ?_
| refine p_p (ps_load_agg rfl rfl aJ) ?_); refine ⟨_, aA, ?_⟩)
| refine zR ?_))
      refine at_reg 31 ?_
      exact g_tail rfl ⟨aI, zM _⟩ hpart
theorem cl_t23 (n : Int) (ops : List OpD) (hs : szOk ops) :
    Goal Tryz.prog (tailAt 23 (bodyC Tryz.f5)) (KRets [2] [B true]) ⟨zZ (List.replicate 372 .any) [(3, .ptr [I n, opsP ops]), (4, B (permB n ops)), (5, B (fcB n ops)), (8, B (gdjB false n ops)), (12, B (gdjB true n ops))], []⟩ := by
  conv => arg 2; whnf
  simp only [List.replicate_succ, List.replicate_zero]
  dsimp only [zZ, List.set_cons_zero, List.set_cons_succ]
  have hpart := cl_t27 n ops hs
  have h1 := ifund_c n ops hs
  have h2 := sfund_c n ops hs
  obtain ⟨l1, l2⟩ := tpW_rows (md := false) (n := n) (ops := ops)
  have v1 := vtable53_c (tpW false n ops) l1 l2
  rw [tp_isSome false] at h1 h2 hpart
  have hno := fun h => (no_fc (n := n) (ops := ops) h).2.1 false
  generalize tpW false n ops = W at *
  generalize gdjB false n ops = D at *
  generalize gdjB true n ops = M at *
  generalize permB n ops = P at *
  generalize fcB n ops = F at *
  cases F with
  | false =>
    obtain rfl := hno rfl
    rw [Bool.false_and] at h1 h2 hpart
    repeat' ((fail_if_success (refine at_reg1 27 ?_)); (first
| refine wO ?_
| (refine o_go rfl ?_; (first
| refine p_p (zG rfl rfl aB (h1)) ?_
| refine p_p (zG rfl rfl aB (h2)) ?_
| refine p_p (zG rfl rfl aB (v1)) ?_
| refine p_p (ps_neqBY rfl rfl rfl (by rfl)) ?_
| refine wS ?_
| refine p_p (ps_load_agg rfl rfl aJ) ?_); refine ⟨_, aA, ?_⟩)
| (refine o_s rfl ?_; refine ⟨_, aA, ?_⟩)
| refine zR ?_))
    refine at_reg1 27 ?_
    exact g_tail rfl ⟨aI, zM _⟩ hpart
  | true =>
    rw [Bool.true_and] at h1 h2 hpart
    cases D with
    | false =>
      repeat' ((fail_if_success (refine at_reg1 27 ?_)); (first
| refine wO ?_
| (refine o_go rfl ?_; (first
| refine p_p (zG rfl rfl aB (h1)) ?_
| refine p_p (zG rfl rfl aB (h2)) ?_
| refine p_p (zG rfl rfl aB (v1)) ?_
| refine p_p (ps_neqBY rfl rfl rfl (by rfl)) ?_
| refine wS ?_
| refine p_p (ps_load_agg rfl rfl aJ) ?_); refine ⟨_, aA, ?_⟩)
| refine zR ?_))
      refine at_reg1 27 ?_
      exact g_tail rfl ⟨aI, zM _⟩ hpart
    | true =>
      repeat' ((fail_if_success (refine at_reg1 27 ?_)); (first
| refine wO ?_
| (refine o_go rfl ?_; (first
| refine p_p (zG rfl rfl aB (h1)) ?_
| refine p_p (zG rfl rfl aB (h2)) ?_
| refine p_p (zG rfl rfl aB (v1)) ?_
| refine p_p (ps_neqBY rfl rfl rfl (by rfl)) ?_
| refine wS ?_
| refine p_p (ps_load_agg rfl rfl aJ) ?_); refine ⟨_, aA, ?_⟩)
| refine zR ?_))
      refine at_reg1 27 ?_
      exact g_tail rfl ⟨aI, zM _⟩ hpart
theorem cl_t19 (n : Int) (ops : List OpD) (hs : szOk ops) :
    Goal Tryz.prog (tailAt 19 (bodyC Tryz.f5)) (KRets [2] [B true]) ⟨zZ (List.replicate 372 .any) [(3, .ptr [I n, opsP ops]), (4, B (permB n ops)), (5, B (fcB n ops)), (8, B (gdjB false n ops)), (12, B (gdjB true n ops))], []⟩ := by
  conv => arg 2; whnf
  simp only [List.replicate_succ, List.replicate_zero]
  dsimp only [zZ, List.set_cons_zero, List.set_cons_succ]
  have hpart := cl_t23 n ops hs
  have h1 := irank_c n ops hs
  have h2 := srank_c n ops hs
  have hno := fun h => (no_fc (n := n) (ops := ops) h).1
  have hrk := fun h => rk_leq (n := n) (ops := ops) h
  generalize gdjB false n ops = D at *
  generalize gdjB true n ops = M at *
  generalize permB n ops = P at *
  generalize fcB n ops = F at *
  generalize rkN n ops = K at *
  cases F with
  | false =>
    obtain rfl := hno rfl
    repeat' ((fail_if_success (refine at_reg1 23 ?_)); (first
| refine wO ?_
| (refine o_go rfl ?_; (first
| refine p_p (zG rfl rfl aB (h1)) ?_
| refine p_p (zG rfl rfl aB (h2)) ?_
| refine p_p (ps_neqIX rfl rfl rfl) ?_
| refine p_p (ps_neqBY rfl rfl rfl (by rfl)) ?_
| refine wS ?_
| refine p_p (ps_load_agg rfl rfl aJ) ?_); refine ⟨_, aA, ?_⟩)
| (refine o_s rfl ?_; refine ⟨_, aA, ?_⟩)
| refine zR ?_))
    refine at_reg1 23 ?_
    exact g_tail rfl ⟨aI, zM _⟩ hpart
  | true =>
    have hle := hrk rfl
    cases P with
    | false =>
      repeat' ((fail_if_success (refine at_reg1 23 ?_)); (first
| refine wO ?_
| (refine o_go rfl ?_; (first
| refine p_p (zG rfl rfl aB (h1)) ?_
| refine p_p (zG rfl rfl aB (h2)) ?_
| refine p_p (ps_neqIX rfl rfl rfl) ?_
| refine p_p (ps_leqVX rfl rfl rfl hle) ?_
| refine p_p (ps_neqBY rfl rfl rfl (by rfl)) ?_
| refine wS ?_
| refine p_p (ps_load_agg rfl rfl aJ) ?_); refine ⟨_, aA, ?_⟩)
| refine zR ?_))
      refine at_reg1 23 ?_
      exact g_tail rfl ⟨aI, zM _⟩ hpart
    | true =>
      repeat' ((fail_if_success (refine at_reg1 23 ?_)); (first
| refine wO ?_
| (refine o_go rfl ?_; (first
| refine p_p (zG rfl rfl aB (h1)) ?_
| refine p_p (zG rfl rfl aB (h2)) ?_
| refine p_p (ps_neqIX rfl rfl rfl) ?_
| refine p_p (ps_leqVX rfl rfl rfl hle) ?_
| refine p_p (ps_neqBY rfl rfl rfl (by rfl)) ?_
| refine wS ?_
| refine p_p (ps_load_agg rfl rfl aJ) ?_); refine ⟨_, aA, ?_⟩)
| refine zR ?_))
      refine at_reg1 23 ?_
      exact g_tail rfl ⟨aI, zM _⟩ hpart
theorem cl_t16 (n : Int) (ops : List OpD) (hs : szOk ops) :
    Goal Tryz.prog (tailAt 16 (bodyC Tryz.f5)) (KRets [2] [B true]) ⟨zZ (List.replicate 372 .any) [(3, .ptr [I n, opsP ops]), (4, B (permB n ops)), (5, B (fcB n ops)), (8, B (gdjB false n ops)), (12, B (gdjB true n ops))], []⟩ := by
  conv => arg 2; whnf
  simp only [List.replicate_succ, List.replicate_zero]
  dsimp only [zZ, List.set_cons_zero, List.set_cons_succ]
  have hpart := cl_t19 n ops hs
  have h1 := iarith_c n ops hs
  rw [gdj_dis] at h1
  have hn1 := fun h => (no_fc (n := n) (ops := ops) h).1
  have hn2 := fun h => (no_fc (n := n) (ops := ops) h).2.1
  have hp := fun h => perm_mod (n := n) (ops := ops) h
  have hd := fun h => dis_mod (n := n) (ops := ops) h
  have hn3 : fcB n ops = false → gdjB false n ops = false := fun h => hn2 h false
  clear hn2
  generalize gdjB false n ops = D at *
  generalize gdjB true n ops = M at *
  generalize permB n ops = P at *
  generalize fcB n ops = F at *
  cases F with
  | false =>
    obtain rfl := hn1 rfl
    obtain rfl := hn3 rfl
    rw [Bool.false_and] at h1
    repeat' ((fail_if_success (refine at_reg1 19 ?_)); (first
| refine wO ?_
| (refine o_go rfl ?_; (first
| refine p_p (zG rfl rfl aB (h1)) ?_
| refine p_p (ps_neqBY rfl rfl rfl (by rfl)) ?_
| refine wS ?_
| refine p_p (ps_load_agg rfl rfl aJ) ?_); refine ⟨_, aA, ?_⟩)
| (refine o_s rfl ?_; refine ⟨_, aA, ?_⟩)
| refine zR ?_))
    refine at_reg1 19 ?_
    exact g_tail rfl ⟨aI, zM _⟩ hpart
  | true =>
    cases P with
    | false =>
      rw [Bool.false_and] at h1
      cases D with
      | false =>
        repeat' ((fail_if_success (refine at_reg1 19 ?_)); (first
| refine wO ?_
| (refine o_go rfl ?_; (first
| refine p_p (zG rfl rfl aB (h1)) ?_
| refine p_p (ps_neqBY rfl rfl rfl (by rfl)) ?_
| refine wS ?_
| refine p_p (ps_load_agg rfl rfl aJ) ?_); refine ⟨_, aA, ?_⟩)
| (refine o_s rfl ?_; refine ⟨_, aA, ?_⟩)
| refine zR ?_))
        refine at_reg1 19 ?_
        exact g_tail rfl ⟨aI, zM _⟩ hpart
      | true =>
        obtain rfl := hd rfl
        repeat' ((fail_if_success (refine at_reg1 19 ?_)); (first
| refine wO ?_
| (refine o_go rfl ?_; (first
| refine p_p (zG rfl rfl aB (h1)) ?_
| refine p_p (ps_neqBY rfl rfl rfl (by rfl)) ?_
| refine wS ?_
| refine p_p (ps_load_agg rfl rfl aJ) ?_); refine ⟨_, aA, ?_⟩)
| (refine o_s rfl ?_; refine ⟨_, aA, ?_⟩)
| refine zR ?_))
        refine at_reg1 19 ?_
        exact g_tail rfl ⟨aI, zM _⟩ hpart
    | true =>
      obtain rfl := hp rfl
      rw [Bool.true_and] at h1
      cases D with
      | false =>
        repeat' ((fail_if_success (refine at_reg1 19 ?_)); (first
| refine wO ?_
| (refine o_go rfl ?_; (first
| refine p_p (zG rfl rfl aB (h1)) ?_
| refine p_p (ps_neqBY rfl rfl rfl (by rfl)) ?_
| refine wS ?_
| refine p_p (ps_load_agg rfl rfl aJ) ?_); refine ⟨_, aA, ?_⟩)
| (refine o_s rfl ?_; refine ⟨_, aA, ?_⟩)
| refine zR ?_))
        refine at_reg1 19 ?_
        exact g_tail rfl ⟨aI, zM _⟩ hpart
      | true =>
        repeat' ((fail_if_success (refine at_reg1 19 ?_)); (first
| refine wO ?_
| (refine o_go rfl ?_; (first
| refine p_p (zG rfl rfl aB (h1)) ?_
| refine p_p (ps_neqBY rfl rfl rfl (by rfl)) ?_
| refine wS ?_
| refine p_p (ps_load_agg rfl rfl aJ) ?_); refine ⟨_, aA, ?_⟩)
| (refine o_s rfl ?_; refine ⟨_, aA, ?_⟩)
| refine zR ?_))
        refine at_reg1 19 ?_
        exact g_tail rfl ⟨aI, zM _⟩ hpart
theorem law_clw (l : List Int) (hl : l.length ≤ maxLen) (hby : ∀ i, i < l.length → 0 ≤ l.getD i 0 ∧ l.getD i 0 ≤ 255) : PCalls Tryz.prog 5 [bytesP l] (B true) := by
  refine pcalls1 Tryz.func5 rfl Tryz.ntmps5 rfl ?_
  refine wF ?_
  have hv := vbig53_c l (Nat.le_trans hl (by decide))
  by_cases hbig : 65536 < (l.length : Int)
  · rw [decide_eq_true hbig] at hv
    repeat' (first
| refine wO ?_
| (refine o_go rfl ?_; (first
| refine p_p (zG rfl rfl aB (hv)) ?_
| refine wS ?_); refine ⟨_, aA, ?_⟩)
| refine kr1 ?_
| refine krB rfl ?_
| refine wE ?_)
    all_goals rfl
  rw [decide_eq_false hbig] at hv
  have hB : bytesOk l := ⟨by omega, hby⟩
  obtain ⟨n, ops, hs, d1⟩ := drawAM_c hB
  have hpart := cl_t16 n ops hs
  have a1 := iperm_c n ops hs
  have a2 := sperm53_c n ops hs
  have a3 := idist_c n ops hs
  have a4 := sdis53_c n ops hs
  have a5 := imod_c n ops hs
  have a6 := smod_c n ops hs
  rw [gdj_dis] at a3
  generalize gdjB false n ops = D at *
  generalize gdjB true n ops = M at *
  generalize permB n ops = P at *
  generalize fcB n ops = F at *
  repeat' ((fail_if_success (refine at_reg1 16 ?_)); (first
| refine g_settle 0 rfl (by dsimp only [setlP, setl1, setlH, bitvec_to_nat, Nat.reduceAdd, Nat.reduceMul, Nat.reduceBEq, reduceCtorEq]) ?_
| refine wO ?_
| (refine o_go rfl ?_; (first
| refine p_p (zG rfl rfl aB (hv)) ?_
| refine p_p (zG rfl rfl aB (d1)) ?_
| refine p_p (zG rfl rfl aB (a1)) ?_
| refine p_p (zG rfl rfl aB (a2)) ?_
| refine p_p (zG rfl rfl aB (a3)) ?_
| refine p_p (zG rfl rfl aB (a4)) ?_
| refine p_p (zG rfl rfl aB (a5)) ?_
| refine p_p (zG rfl rfl aB (a6)) ?_
| refine p_p (ps_neqBY rfl rfl rfl (by exact bne_self_eq_false _)) ?_
| refine wS ?_
| refine p_p (ps_load_agg rfl rfl aJ) ?_
| refine p_e rfl (zO rfl rfl rfl rfl aJ rfl rfl rfl) ?_
| refine p_e rfl (e_alloc rfl) ?_); refine ⟨_, aA, ?_⟩)
| refine zR ?_))
  refine at_reg1 16 ?_
  exact g_tail rfl ⟨aI, zM _⟩ hpart
end Go.Proofs.YtnjocjfhaahmfaaGreat
