/- Walks: few congruences, the first pair apart, both sides. -/
import Derived.Test.YtnjocjfhaahmfaaGreatJVq
import Derived.Test.YtnjocjfhaahmfaaGreatJVj
import Derived.Test.YtnjocjfhaahmfaaGreatJYa
namespace Go.Proofs.YtnjocjfhaahmfaaGreat
open Go Go.Pv Go.Proofs
set_option maxHeartbeats 32000000
set_option maxRecDepth 100000
attribute [local bitvec_to_nat] St.put St.setObj St.ev killP killA killP1 killH mapHO renP renA ren1 killG killGA killG1 krowP krowA krow1 lendP lendA lend1 unv pinP pin1 elemsM viewM viewN viewV n_set_z n_set_s n_map_c n_map_n getD_z getD_s n_toNat n_cond_t n_cond_f n_len_c n_len_n n_app_c n_app_n n_take_s n_take_z n_drop_s n_drop_z n_get_z n_get_s view viewA view1 elems Nat.zero_add Nat.add_zero Bool.not_true Bool.not_false Nat.one_ne_zero Nat.mul_one

theorem pcallsA {f : FuncId} {args args' : List PV} {q : PV} (h : PCalls Tryz.prog f args q) (ha : argsLe args' args) : PCalls Tryz.prog f args' q := by
  unfold PCalls at h ⊢
  exact fun g w vs hA hv => h g w vs hA (VRl.le ha hv)
theorem fc_pt {m : Nat} {ops : List OpD} : ∀ p ∈ allL m ops, Pt m p := fun p hp => (allL_mem.1 hp).1
theorem fc_most {m : Nat} {ops : List OpD} (hg : algOk m ops = true) (ho : opsIn m ops) : fcB (m : Int) ops = decide ((mostV m ops 60).length ≤ 60) := by
  have h60 := mostV_few (n := m) (most := 60) ho
  unfold fcB acV acB
  rw [hg, Int.toNat_natCast, Bool.true_and]
  by_cases h : (allL m ops).length ≤ 200
  · rw [decide_eq_true h, if_pos rfl, Bool.true_and, decide_eq_decide]
    exact h60.symm
  · rw [decide_eq_false h, if_neg Bool.false_ne_true, Bool.false_and]
    symm
    rw [decide_eq_false_iff_not, h60]; omega
theorem sfew53_c (n : Int) (ops : List OpD) (hs : szOk ops) : PCalls Tryz.prog 136 [algP n ops] (.tup [if fcB n ops then intss (acV n ops) else .any, B (fcB n ops)]) := by
  refine pcalls2 Tryz.func136 rfl Tryz.ntmps136 rfl ?_
  refine wF ?_
  have g1 := sgood_c n ops hs
  cases hg : algOk n ops with
  | false =>
    have hf : fcB n ops = false := by unfold fcB acB; rw [hg]; rfl
    rw [hf, if_neg Bool.false_ne_true]
    rw [hg] at g1
    repeat' (first
| refine wO ?_
| (refine o_go rfl ?_; (first
| refine p_p (zG rfl rfl aB (g1)) ?_
| refine p_p (ps_lits rfl (by exact rfl) (by exact rfl) aS (by decide) (by decide)) ?_
| refine wS ?_
| refine p_p (ps_load_agg rfl rfl aJ) ?_
| refine p_p (ps_box rfl rfl) ?_); refine ⟨_, aA, ?_⟩)
| refine kr2 ?_ ?_
| exact krAny
| refine krB rfl ?_
| refine wE ?_)
    all_goals rfl
  | true =>
    obtain ⟨m, rfl, hm0, hm8, h4, ho⟩ := algOk_facts hg
    rw [hg] at g1
    have h1 := smost_cg m ops 60 hm0 hm8 (by decide) (by omega) ho
    have hml := (mostV_inv (most := 60) ho).2.2.1
    have hma := (mostV_inv (most := 60) ho).2.2.2
    have hfm := fc_most hg ho
    by_cases h6 : (mostV m ops 60).length ≤ 60
    · rw [decide_eq_true h6] at hfm
      obtain ⟨m', e, -, -, -, -, -, hV, -⟩ := fcB_facts hfm
      obtain rfl : m' = m := by omega
      rw [hfm, if_pos rfl, hV, ← hma h6]
      generalize mostV m' ops 60 = V at *
      repeat' (first
| refine wO ?_
| (refine o_go rfl ?_; (first
| refine p_p (zG rfl rfl aB (g1)) ?_
| refine p_p (zG rfl rfl aB (h1)) ?_
| refine wS ?_
| refine p_p (ps_load_agg rfl rfl aJ) ?_
| refine p_p (ps_box rfl rfl) ?_); refine ⟨_, aA, ?_⟩)
| refine kr2 ?_ ?_
| refine krB rfl ?_
| refine krS rfl ?_
| refine wE ?_)
      all_goals first | rfl | (exfalso; omega) | (rw [decide_eq_true (by omega)])
    · rw [decide_eq_false h6] at hfm
      rw [hfm, if_neg Bool.false_ne_true]
      generalize mostV m ops 60 = V at *
      repeat' (first
| refine wO ?_
| (refine o_go rfl ?_; (first
| refine p_p (zG rfl rfl aB (g1)) ?_
| refine p_p (zG rfl rfl aB (h1)) ?_
| refine wS ?_
| refine p_p (ps_load_agg rfl rfl aJ) ?_
| refine p_p (ps_box rfl rfl) ?_); refine ⟨_, aA, ?_⟩)
| refine kr2 ?_ ?_
| exact krAny
| refine krB rfl ?_
| refine wE ?_)
      all_goals first | rfl | (exfalso; omega) | (rw [decide_eq_false (by omega)])
def apP (n : Nat) (V : List (List Int)) : Nat × Nat := (apO n V).getD (0, 0)
theorem sapart53_c (n : Nat) (V : List (List Int)) (hn : n ≤ 1000) (hV : ∀ p ∈ V, Pt n p) (hl : V.length ≤ 1000000) : PCalls Tryz.prog 137 [intss V] (.tup [I ((apP n V).1 : Int), I ((apP n V).2 : Int), B (apO n V).isSome]) := by
  refine pcalls3 Tryz.func137 rfl Tryz.ntmps137 rfl ?_
  refine wF ?_
  repeat' (first
| refine wO ?_
| (refine o_go rfl ?_; (first
| refine wS ?_); refine ⟨_, aA, ?_⟩))
  refine g_loopT (α := Nat) (fun i => [(5, I (i : Int))]) (fun _ => []) (fun i => i ≤ V.length ∧ ∀ l, l < i → apK n V l = none) (fun i => V.length - i) 0 aF ⟨Nat.zero_le _, fun j hj => absurd hj (Nat.not_lt_zero _)⟩ ⟨rfl, trivial⟩ rfl ?_
  rintro i ⟨hi, hni⟩
  dsimp only [zZ, List.set_cons_zero, List.set_cons_succ]
  by_cases hil : i < V.length
  · have ri := rows_at hil
    have pi := hV _ (rows_mem hil)
    repeat' (first
| refine wO ?_
| (refine o_go rfl ?_; (first
| refine wS ?_); refine ⟨_, aA, ?_⟩)
| (refine zK rfl (fun hc => ?_) (fun hc => ?_) <;> try (exfalso; omega))
| refine wE ?_)
    all_goals try (exfalso; omega)
    refine g_loopT (α := Nat) (fun k => [(6, I (k : Int))]) (fun _ => []) (fun k => k ≤ V.length ∧ ∀ l, l < k → prmB (V.getD i []) (V.getD l []) n = true) (fun k => V.length - k) 0 aF ⟨Nat.zero_le _, fun j hj => absurd hj (Nat.not_lt_zero _)⟩ ⟨rfl, trivial⟩ rfl ?_
    rintro k ⟨hk, hnk⟩
    dsimp only [zZ, List.set_cons_zero, List.set_cons_succ]
    by_cases hkl : k < V.length
    · have rk := rows_at hkl
      have pk := hV _ (rows_mem hkl)
      have h1 := sprm_c6 n _ _ hn pi pk
      cases hb : prmB (V.getD i []) (V.getD k []) n with
      | true =>
        rw [hb] at h1
        repeat' (first
| refine wO ?_
| refine zP (by kernel_rfl) (by kernel_rfl) ?_
| (refine o_go rfl ?_; (first
| refine p_p (zG rfl rfl aB (h1)) ?_
| refine p_p (zN rfl rfl rfl (by omega) ri (by exact rfl)) ?_
| refine p_p (zN rfl rfl rfl (by omega) rk (by exact rfl)) ?_
| refine wS ?_); refine ⟨_, aA, ?_⟩)
| (refine zK rfl (fun hc => ?_) (fun hc => ?_) <;> try (exfalso; omega))
| refine wE ?_)
        all_goals try (exfalso; omega)
        refine zT (k + 1) ⟨by omega, fun l hlk => ?_⟩ (by omega) aI ⟨rfl, trivial⟩ (zM _)
        rcases Nat.lt_or_ge l k with h | h
        · exact hnk l h
        · rw [show l = k by omega]; exact hb
      | false =>
        rw [hb] at h1
        have hv : apO n V = some (i, k) := range_findSome_at hil (apK_some hkl hb hnk) hni
        rw [show apP n V = (i, k) by unfold apP; rw [hv]; rfl, hv]
        repeat' (first
| refine wO ?_
| refine zP (by kernel_rfl) (by kernel_rfl) ?_
| (refine o_go rfl ?_; (first
| refine p_p (zG rfl rfl aB (h1)) ?_
| refine p_p (zN rfl rfl rfl (by omega) ri (by exact rfl)) ?_
| refine p_p (zN rfl rfl rfl (by omega) rk (by exact rfl)) ?_
| refine wS ?_); refine ⟨_, aA, ?_⟩)
| (refine zK rfl (fun hc => ?_) (fun hc => ?_) <;> try (exfalso; omega))
| refine kr3 ?_ ?_ ?_
| refine krB rfl ?_
| refine krI rfl ?_
| refine wE ?_)
        all_goals first | rfl | (exfalso; omega)
    · repeat' (first
| refine wO ?_
| (refine o_go rfl ?_; (first
| refine wS ?_); refine ⟨_, aA, ?_⟩)
| (refine zK rfl (fun hc => ?_) (fun hc => ?_) <;> try (exfalso; omega))
| refine wE ?_)
      all_goals try (exfalso; omega)
      refine zT (K := fun _ _ => True) (i + 1) ⟨by omega, fun l hlj => ?_⟩ (by omega) aI ⟨rfl, trivial⟩ (zM _)
      rcases Nat.lt_or_ge l i with h | h
      · exact hni l h
      · rw [show l = i by omega]
        exact apK_none fun l hl => hnk l (by omega)
  · have hv : apO n V = none := range_findSome_none fun l hl => hni l (by omega)
    rw [show apP n V = (0, 0) by unfold apP; rw [hv]; rfl, hv]
    repeat' (first
| refine wO ?_
| (refine o_go rfl ?_; (first
| refine wS ?_); refine ⟨_, aA, ?_⟩)
| (refine zK rfl (fun hc => ?_) (fun hc => ?_) <;> try (exfalso; omega))
| refine kr3 ?_ ?_ ?_
| refine krB rfl ?_
| refine krI rfl ?_
| refine wE ?_)
    all_goals first | rfl | (exfalso; omega)
def apL (n : Nat) (V : List (List Int)) : PV := match apO n V with
  | none => nilV
  | some (i, _) => ints (V.getD i [])
def apR (n : Nat) (V : List (List Int)) : PV := match apO n V with
  | none => nilV
  | some (_, k) => ints (V.getD k [])
theorem ipa53_c (n : Nat) (V : List (List Int)) (hn : n ≤ 1000) (hV : ∀ p ∈ V, Pt n p) (hl : V.length ≤ 1000000) : PCalls Tryz.prog 135 [intss V] (.tup [apL n V, apR n V, B (apO n V).isSome]) := by
  refine pcalls3 Tryz.func135 rfl Tryz.ntmps135 rfl ?_
  refine wF ?_
  repeat' (first
| refine wO ?_
| (refine o_go rfl ?_; (first
| refine wS ?_); refine ⟨_, aA, ?_⟩))
  refine g_loopT (α := Nat) (fun x => [(11, I (x : Int))]) (fun _ => []) (fun x => x ≤ V.length ∧ ∀ y, y < x → apK n V y = none) (fun x => V.length - x) 0 aF ⟨Nat.zero_le _, fun j hj => absurd hj (Nat.not_lt_zero _)⟩ ⟨rfl, trivial⟩ rfl ?_
  rintro x ⟨hx, hno⟩
  dsimp only [zZ, List.set_cons_zero, List.set_cons_succ]
  by_cases hxn : x < V.length
  · have r1 := rows_at hxn
    have px := hV _ (rows_mem hxn)
    have hW : (V.drop (x + 1)).length = V.length - (x + 1) := List.length_drop ..
    have hWg : ∀ z, (V.drop (x + 1)).getD z [] = V.getD (x + 1 + z) [] := fun z => by rw [List.getD_eq_getElem?_getD, List.getD_eq_getElem?_getD, List.getElem?_drop]
    have hpre : ∀ k, k ≤ x → prmB (V.getD x []) (V.getD k []) n = true := fun k hk => by
      rcases Nat.lt_or_ge k x with h | h
      · rw [prmB_comm px (hV _ (rows_mem (by omega)))]
        exact apK_row (hno k h) x hxn
      · rw [show k = x by omega]; exact prmB_self px
    have hidx : (x : Int) + 1 = ((x + 1 : Nat) : Int) := by omega
    repeat' (first
| refine wO ?_
| (refine o_go rfl ?_; (first
| refine p_p (zN rfl rfl rfl (by omega) r1 (by exact rfl)) ?_
| refine p_p (ps_addV rfl rfl rfl hidx (by omega)) ?_
| refine p_p (ps_sliceFromM rfl rfl rfl (by omega) (by omega)) ?_
| refine wS ?_); refine ⟨_, aA, ?_⟩)
| (refine zK rfl (fun hc => ?_) (fun hc => ?_) <;> try (exfalso; omega))
| refine wE ?_)
    all_goals try (exfalso; omega)
    try dsimp only [Int.toNat_natCast]
    generalize hWe : V.drop (x + 1) = W at *
    generalize hpe : V.getD x [] = p at *
    refine g_loopT (α := Nat) (fun z => [(21, I (z : Int))]) (fun _ => []) (fun z => z ≤ W.length ∧ ∀ y, y < z → prmB p (W.getD y []) n = true) (fun z => W.length - z) 0 aF ⟨Nat.zero_le _, fun j hj => absurd hj (Nat.not_lt_zero _)⟩ ⟨rfl, trivial⟩ rfl ?_
    rintro z ⟨hz, hnz⟩
    dsimp only [zZ, List.set_cons_zero, List.set_cons_succ]
    by_cases hzn : z < W.length
    · have r2 := rows_at hzn
      have hgz := hWg z
      have pz : Pt n (W.getD z []) := by rw [hgz]; exact hV _ (rows_mem (by omega))
      have h1 := iprm_c n p (W.getD z []) hn px.len pz.len
      cases k1 : prmB p (W.getD z []) n with
      | true =>
        rw [k1] at h1
        repeat' (first
| refine wO ?_
| (refine o_go rfl ?_; (first
| refine p_p (zG rfl rfl aB (h1)) ?_
| refine p_p (zN rfl rfl rfl (by omega) r2 (by exact rfl)) ?_
| refine wS ?_); refine ⟨_, aA, ?_⟩)
| (refine zK rfl (fun hc => ?_) (fun hc => ?_) <;> try (exfalso; omega))
| refine wE ?_)
        all_goals try (exfalso; omega)
        refine zT (z + 1) ⟨by omega, fun y hy => ?_⟩ (by omega) aI ⟨rfl, trivial⟩ (zM _)
        rcases Nat.lt_or_ge y z with h | h
        · exact hnz y h
        · rw [show y = z by omega]; exact k1
      | false =>
        rw [k1] at h1
        have hv : apO n V = some (x, x + 1 + z) := range_findSome_at hxn (apK_some (by omega) (by rw [hpe, ← hgz]; exact k1) fun l hl => by
          rw [hpe]
          rcases Nat.lt_or_ge x l with h | h
          · have := hnz (l - (x + 1)) (by omega)
            rwa [hWg, show x + 1 + (l - (x + 1)) = l by omega] at this
          · exact hpre l h) hno
        rw [show apL n V = ints p by unfold apL; rw [hv]; exact congrArg ints hpe, show apR n V = ints (W.getD z []) by unfold apR; rw [hv]; exact congrArg ints hgz.symm, hv]
        repeat' (first
| refine wO ?_
| (refine o_go rfl ?_; (first
| refine p_p (zG rfl rfl aB (h1)) ?_
| refine p_p (zN rfl rfl rfl (by omega) r2 (by exact rfl)) ?_
| refine wS ?_); refine ⟨_, aA, ?_⟩)
| (refine zK rfl (fun hc => ?_) (fun hc => ?_) <;> try (exfalso; omega))
| refine kr3 ?_ ?_ ?_
| refine krB rfl ?_
| refine krS rfl ?_
| refine wE ?_)
        all_goals first | rfl | (exfalso; omega)
    · repeat' (first
| refine wO ?_
| (refine o_go rfl ?_; (first
| refine wS ?_); refine ⟨_, aA, ?_⟩)
| (refine zK rfl (fun hc => ?_) (fun hc => ?_) <;> try (exfalso; omega))
| refine wE ?_)
      all_goals try (exfalso; omega)
      refine zT (K := fun _ _ => True) (x + 1) ⟨by omega, fun y hy => ?_⟩ (by omega) aI ⟨rfl, trivial⟩ (zM _)
      rcases Nat.lt_or_ge y x with h | h
      · exact hno y h
      · rw [show y = x by omega]
        refine apK_none fun l hl => ?_
        rw [hpe]
        rcases Nat.lt_or_ge x l with h | h
        · have := hnz (l - (x + 1)) (by omega)
          rwa [hWg, show x + 1 + (l - (x + 1)) = l by omega] at this
        · exact hpre l h
  · have hv : apO n V = none := range_findSome_none fun l hl => hno l (by omega)
    rw [show apL n V = nilV by unfold apL; rw [hv], show apR n V = nilV by unfold apR; rw [hv], hv]
    repeat' (first
| refine wO ?_
| (refine o_go rfl ?_; (first
| refine wS ?_); refine ⟨_, aA, ?_⟩)
| (refine zK rfl (fun hc => ?_) (fun hc => ?_) <;> try (exfalso; omega))
| refine kr3 ?_ ?_ ?_
| refine krB rfl ?_
| refine wE ?_)
    all_goals first | rfl | exact krV rfl | (exfalso; omega)
theorem sperm53_c (n : Int) (ops : List OpD) (hs : szOk ops) : PCalls Tryz.prog 43 [algP n ops] (.tup [B (permB n ops), B (fcB n ops)]) := by
  refine pcalls2 Tryz.func43 rfl Tryz.ntmps43 rfl ?_
  refine wF ?_
  have h1 := sfew53_c n ops hs
  unfold permB
  cases hf : fcB n ops with
  | false =>
    rw [hf, if_neg Bool.false_ne_true] at h1
    rw [Bool.false_and]
    repeat' (first
| refine wO ?_
| (refine o_go rfl ?_; (first
| refine p_p (zG rfl rfl aB (h1)) ?_
| refine wS ?_
| refine p_p (ps_load_agg rfl rfl aJ) ?_
| refine p_p (ps_box rfl rfl) ?_); refine ⟨_, aA, ?_⟩)
| refine kr2 ?_ ?_
| refine krB rfl ?_
| refine wE ?_)
    all_goals rfl
  | true =>
    obtain ⟨m, rfl, hm0, hm8, h4, ho, hg, hV, h60⟩ := fcB_facts hf
    rw [hf, if_pos rfl, hV] at h1
    rw [hV, Bool.true_and, Int.toNat_natCast, paB_ap fc_pt, ← Option.not_isSome]
    have h2 := sapart53_c m (allL m ops) (by omega) fc_pt (by omega)
    generalize apP m (allL m ops) = ik at *
    generalize (apO m (allL m ops)).isSome = b at *
    generalize allL m ops = V at *
    cases b with
    | true =>
      repeat' (first
| refine wO ?_
| (refine o_go rfl ?_; (first
| refine p_p (zG rfl rfl aB (h1)) ?_
| refine p_p (zG rfl rfl aB (h2)) ?_
| refine wS ?_
| refine p_p (ps_load_agg rfl rfl aJ) ?_
| refine p_p (ps_box rfl rfl) ?_); refine ⟨_, aA, ?_⟩)
| refine kr2 ?_ ?_
| refine krB rfl ?_
| refine wE ?_)
      all_goals rfl
    | false =>
      repeat' (first
| refine wO ?_
| (refine o_go rfl ?_; (first
| refine p_p (zG rfl rfl aB (h1)) ?_
| refine p_p (zG rfl rfl aB (h2)) ?_
| refine wS ?_
| refine p_p (ps_load_agg rfl rfl aJ) ?_
| refine p_p (ps_box rfl rfl) ?_); refine ⟨_, aA, ?_⟩)
| refine kr2 ?_ ?_
| refine krB rfl ?_
| refine wE ?_)
      all_goals rfl
noncomputable def fpO (n : Int) (ops : List OpD) : Option (Nat × Nat) := if fcB n ops then apO n.toNat (acV n ops) else none
noncomputable def fpL (n : Int) (ops : List OpD) : List Int := match fpO n ops with
  | none => []
  | some (i, _) => (acV n ops).getD i []
noncomputable def fpR (n : Int) (ops : List OpD) : List Int := match fpO n ops with
  | none => []
  | some (_, k) => (acV n ops).getD k []
theorem sfpa_c (n : Int) (ops : List OpD) (hs : szOk ops) : PCalls Tryz.prog 60 [algP n ops] (.tup [ints (fpL n ops), ints (fpR n ops), B (fpO n ops).isSome]) := by
  refine pcalls3 Tryz.func60 rfl Tryz.ntmps60 rfl ?_
  refine wF ?_
  have h1 := sfew53_c n ops hs
  cases hf : fcB n ops with
  | false =>
    have ho : fpO n ops = none := by unfold fpO; rw [hf]; rfl
    rw [show fpL n ops = [] by unfold fpL; rw [ho], show fpR n ops = [] by unfold fpR; rw [ho], ho]
    rw [hf, if_neg Bool.false_ne_true] at h1
    repeat' (first
| refine wO ?_
| (refine o_go rfl ?_; (first
| refine p_p (zG rfl rfl aB (h1)) ?_
| refine p_p (ps_lits rfl (by exact rfl) (by exact rfl) aS (by decide) (by decide)) ?_
| refine wS ?_
| refine p_p (ps_load_agg rfl rfl aJ) ?_
| refine p_p (ps_box rfl rfl) ?_); refine ⟨_, aA, ?_⟩)
| refine kr3 ?_ ?_ ?_
| refine krB rfl ?_
| refine krS rfl ?_
| refine wE ?_)
    all_goals rfl
  | true =>
    obtain ⟨m, rfl, hm0, hm8, h4, ho, hg, hV, h60⟩ := fcB_facts hf
    have hO : fpO (m : Int) ops = apO m (allL m ops) := by unfold fpO; rw [hf, if_pos rfl, hV, Int.toNat_natCast]
    rw [hf, if_pos rfl, hV] at h1
    have h2 := sapart53_c m (allL m ops) (by omega) fc_pt (by omega)
    unfold apP at h2
    cases hap : apO m (allL m ops) with
    | none =>
      rw [hap] at hO h2
      rw [show fpL (m : Int) ops = [] by unfold fpL; rw [hO], show fpR (m : Int) ops = [] by unfold fpR; rw [hO], hO]
      generalize allL m ops = V at *
      repeat' (first
| refine wO ?_
| (refine o_go rfl ?_; (first
| refine p_p (zG rfl rfl aB (h1)) ?_
| refine p_p (zG rfl rfl aB (h2)) ?_
| refine p_p (ps_lits rfl (by exact rfl) (by exact rfl) aS (by decide) (by decide)) ?_
| refine wS ?_
| refine p_p (ps_load_agg rfl rfl aJ) ?_
| refine p_p (ps_box rfl rfl) ?_); refine ⟨_, aA, ?_⟩)
| refine kr3 ?_ ?_ ?_
| refine krB rfl ?_
| refine krS rfl ?_
| refine wE ?_)
      all_goals rfl
    | some ik =>
      obtain ⟨i, k⟩ := ik
      obtain ⟨hi, hk⟩ := apO_some hap
      rw [hap] at hO h2
      rw [show fpL (m : Int) ops = (allL m ops).getD i [] by unfold fpL; rw [hO, hV], show fpR (m : Int) ops = (allL m ops).getD k [] by unfold fpR; rw [hO, hV], hO]
      have ri := rows_at hi
      have rk := rows_at hk
      change PCalls _ _ _ (.tup [I (i : Int), I (k : Int), B true]) at h2
      generalize allL m ops = V at *
      repeat' (first
| refine wO ?_
| refine zP (by kernel_rfl) (by kernel_rfl) ?_
| (refine o_go rfl ?_; (first
| refine p_p (zG rfl rfl aB (h1)) ?_
| refine p_p (zG rfl rfl aB (h2)) ?_
| refine p_p (zN rfl rfl rfl (by omega) ri (by exact rfl)) ?_
| refine p_p (zN rfl rfl rfl (by omega) rk (by exact rfl)) ?_
| refine wS ?_
| refine p_p (ps_load_agg rfl rfl aJ) ?_
| refine p_p (ps_box rfl rfl) ?_); refine ⟨_, aA, ?_⟩)
| refine kr3 ?_ ?_ ?_
| refine krB rfl ?_
| refine krS rfl ?_
| refine wE ?_)
      all_goals first | rfl | (exfalso; omega)
theorem ifpa_c (n : Int) (ops : List OpD) (hs : szOk ops) : PCalls Tryz.prog 59 [algP n ops] (.tup [ints (fpL n ops), ints (fpR n ops), B (fpO n ops).isSome]) := by
  refine pcalls3 Tryz.func59 rfl Tryz.ntmps59 rfl ?_
  refine wF ?_
  have h1 := ifew_c n ops hs
  cases hf : fcB n ops with
  | false =>
    have ho : fpO n ops = none := by unfold fpO; rw [hf]; rfl
    rw [show fpL n ops = [] by unfold fpL; rw [ho], show fpR n ops = [] by unfold fpR; rw [ho], ho]
    rw [hf, if_neg Bool.false_ne_true] at h1
    have h2 : PCalls Tryz.prog 135 [nilV] (.tup [nilV, nilV, B false]) := pcallsA (ipa53_c 0 [] (by decide) (fun p hp => by cases hp) (by decide)) ⟨PV.le_nil 1, trivial⟩
    repeat' (first
| refine wO ?_
| (refine o_go rfl ?_; (first
| refine p_p (zG rfl rfl aB (h1)) ?_
| refine p_p (zG rfl rfl aB (h2)) ?_
| refine p_p (ps_lits rfl (by exact rfl) (by exact rfl) aS (by decide) (by decide)) ?_
| refine wS ?_
| refine p_p (ps_load_agg rfl rfl aJ) ?_
| refine p_p (ps_box rfl rfl) ?_); refine ⟨_, aA, ?_⟩)
| refine kr3 ?_ ?_ ?_
| refine krB rfl ?_
| refine krS rfl ?_
| refine wE ?_)
    all_goals rfl
  | true =>
    obtain ⟨m, rfl, hm0, hm8, h4, ho, hg, hV, h60⟩ := fcB_facts hf
    have hO : fpO (m : Int) ops = apO m (allL m ops) := by unfold fpO; rw [hf, if_pos rfl, hV, Int.toNat_natCast]
    rw [hf, if_pos rfl, hV] at h1
    have h2 := ipa53_c m (allL m ops) (by omega) fc_pt (by omega)
    unfold apL apR at h2
    cases hap : apO m (allL m ops) with
    | none =>
      rw [hap] at hO h2
      rw [show fpL (m : Int) ops = [] by unfold fpL; rw [hO], show fpR (m : Int) ops = [] by unfold fpR; rw [hO], hO]
      generalize allL m ops = V at *
      change PCalls _ _ _ (.tup [nilV, nilV, B false]) at h2
      repeat' (first
| refine wO ?_
| (refine o_go rfl ?_; (first
| refine p_p (zG rfl rfl aB (h1)) ?_
| refine p_p (zG rfl rfl aB (h2)) ?_
| refine p_p (ps_lits rfl (by exact rfl) (by exact rfl) aS (by decide) (by decide)) ?_
| refine wS ?_
| refine p_p (ps_load_agg rfl rfl aJ) ?_
| refine p_p (ps_box rfl rfl) ?_); refine ⟨_, aA, ?_⟩)
| refine kr3 ?_ ?_ ?_
| refine krB rfl ?_
| refine krS rfl ?_
| refine wE ?_)
      all_goals rfl
    | some ik =>
      obtain ⟨i, k⟩ := ik
      rw [hap] at hO h2
      rw [show fpL (m : Int) ops = (allL m ops).getD i [] by unfold fpL; rw [hO, hV], show fpR (m : Int) ops = (allL m ops).getD k [] by unfold fpR; rw [hO, hV], hO]
      generalize allL m ops = V at *
      change PCalls _ _ _ (.tup [ints (V.getD i []), ints (V.getD k []), B true]) at h2
      repeat' (first
| refine wO ?_
| (refine o_go rfl ?_; (first
| refine p_p (zG rfl rfl aB (h1)) ?_
| refine p_p (zG rfl rfl aB (h2)) ?_
| refine wS ?_
| refine p_p (ps_load_agg rfl rfl aJ) ?_
| refine p_p (ps_box rfl rfl) ?_); refine ⟨_, aA, ?_⟩)
| refine kr3 ?_ ?_ ?_
| refine krB rfl ?_
| refine krS rfl ?_
| refine wE ?_)
      all_goals first | rfl | (exfalso; omega)
end Go.Proofs.YtnjocjfhaahmfaaGreat
