/- Walks: the reference's clones. -/
import Derived.Test.YtlgfniaakjchgaaGreatLGc
import Derived.Test.YtlgfniaakjchgaaGreatLPr
namespace Go.Pv
theorem one_ag {c : List PV} (h : c.all PV.one = true) : ∀ q ∈ [PV.agg c], ∀ c', q.flat = some c' → c'.all PV.one = true := fun q hq c' hc => by
  simp only [List.mem_singleton] at hq
  subst hq
  simp only [PV.flat, Option.some.injEq] at hc
  subst hc
  exact h
end Go.Pv
namespace Go.Proofs.YtlgfniaakjchgaaGreat
open Go Go.Pv Go.Proofs
set_option maxHeartbeats 32000000
set_option maxRecDepth 100000
attribute [local bitvec_to_nat] St.put St.setObj St.ev killP killA killP1 killH mapHO renP renA ren1 killG killGA killG1 krowP krowA krow1 lendP lendA lend1 unv pinP pin1 elemsM viewM viewN viewV n_set_z n_set_s n_map_c n_map_n getD_z getD_s n_toNat n_cond_t n_cond_f n_len_c n_len_n n_app_c n_app_n n_take_s n_take_z n_drop_s n_drop_z n_get_z n_get_s view viewA view1 elems Nat.zero_add Nat.add_zero Bool.not_true Bool.not_false Nat.one_ne_zero Nat.mul_one
attribute [local bitvec_to_nat] posI optP lendM1 lendMA lendMP killM1 killMA killMP hasI getO backM1 backMA backMP putL inpM pinM1 pinMA pinMP

theorem fresh_c (n k i before : Nat) (hn : 0 < n) (hn2 : n ≤ 1000000) (hk : k ≤ 1000) (hi : i ≤ 1000000000) : PCalls Tryz.prog 105 [I (n : Int), I (k : Int), I (i : Int), I (before : Int)] (B (freshB n k i before)) := by
  refine pcalls1 Tryz.func105 rfl Tryz.ntmps105 rfl ?_
  simp only [List.length_cons, List.length_nil, Nat.reduceAdd, Nat.reduceSub, List.replicate_succ, List.replicate_zero, List.cons_append, List.nil_append]
  repeat' (first
| refine g_seq ?_
| refine zJ ?_
| refine zC ?_
| (refine o_go rfl ?_; (first
| refine p_p (zA rfl) ?_); refine ⟨_, aB, ?_⟩)
| refine o_nil ?_)
  refine g_loopT (α := Nat × Nat × List Int) (fun x => [(2, I (x.2.1 : Int)), (9, I ((k - x.1 : Nat) : Int))]) (fun _ => []) (fun x => x.1 ≤ k ∧ x.2.1 ≤ 1000000000 ∧ argsL n k i = argsL n x.1 x.2.1 ++ x.2.2 ∧ x.2.2.any (fun y => decide ((before : Int) ≤ y)) = false) (fun x => x.1) (k, i, []) aH ⟨Nat.le_refl _, hi, by simp, rfl⟩ ⟨rfl, vI (by simp), trivial⟩ rfl ?_
  rintro ⟨j, i', s⟩ ⟨h1, h2, h3, h4⟩
  dsimp only at h1 h2 h3 h4
  dsimp only [zZ, List.set_cons_zero, List.set_cons_succ]
  rcases j with _ | j
  · repeat' (first
| refine g_seq ?_
| refine zC ?_
| (refine o_go rfl ?_; (first
| refine p_p (zD rfl) ?_
| refine p_p (zA rfl) ?_
| refine p_p (zS rfl rfl rfl) ?_
| refine p_p (ps_eql rfl rfl rfl) ?_); refine ⟨_, aB, ?_⟩)
| refine o_nil ?_
| (refine zK rfl (fun hc => ?_) (fun hc => ?_) <;> try (exfalso; omega))
| refine kr1 ?_
| refine krB rfl ?_
| refine g_exit ?_
| refine g_ret ?_)
    all_goals try (exfalso; omega)
    show _ = freshB n k i before
    unfold freshB
    rw [h3, show argsL n 0 i' = [] from rfl, List.nil_append, h4, Bool.false_or]
    by_cases hb : before = 0
    · subst hb; rfl
    · rw [decide_eq_false (by omega)]; simp [hb]
  · have hm : (i' : Int) % (n : Int) = ((i' % n : Nat) : Int) := by omega
    have hd : (i' : Int) / (n : Int) = ((i' / n : Nat) : Int) := by omega
    have hle := Nat.div_le_self i' n
    have hs : argsL n k i = argsL n j (i' / n) ++ (((i' % n : Nat) : Int) :: s) := by rw [h3]; show argsL n j (i' / n) ++ [_] ++ s = _; rw [List.append_assoc]; rfl
    repeat' (first
| refine g_seq ?_
| refine zJ ?_
| refine zC ?_
| (refine o_go rfl ?_; (first
| refine p_p (ps_rem rfl rfl rfl (by omega) (by omega)) ?_
| refine p_p (ps_quo rfl rfl rfl (by omega) (by omega) (by omega)) ?_
| refine p_p (zD rfl) ?_
| refine p_p (zA rfl) ?_
| refine p_p (zS rfl rfl rfl) ?_
| refine p_p (ps_add rfl rfl rfl aN) ?_
| refine p_p (ps_geq rfl rfl rfl) ?_); refine ⟨_, aB, ?_⟩)
| refine o_nil ?_
| (refine zK rfl (fun hc => ?_) (fun hc => ?_) <;> try (exfalso; omega))
| refine kr1 ?_
| refine krB rfl ?_
| refine zR ?_
| refine g_ret ?_)
    all_goals try (exfalso; omega)
    · show _ = freshB n k i before
      unfold freshB
      rw [hs, List.any_append, List.any_cons, decide_eq_true (show (before : Int) ≤ ((i' % n : Nat) : Int) by omega)]
      simp
    · refine zT (j, i' / n, ((i' % n : Nat) : Int) :: s) ⟨by dsimp only; omega, by dsimp only; omega, hs, by rw [List.any_cons, h4, decide_eq_false (by omega)]; rfl⟩ (by dsimp only; omega) aI ⟨vI hd, vI (by dsimp only; omega), trivial⟩ (zM _)
theorem tabsE_snoc (E : List Ent) (e : Ent) : tabsE (E ++ [e]) = tabsE E ++ [e.1] := List.map_append
theorem stepsE_snoc (E : List Ent) (e : Ent) : stepsE (E ++ [e]) = stepsE E ++ [e.2] := List.map_append
abbrev tabO (T : List (List Int)) : HO := .arr true 1 31 (T.map ints)
abbrev stpO (S : List Stp) : HO := .arr true 2 113 (S.map stpP)
theorem sadd_c (E : List Ent) (lg : Bool) (e : Ent) (hE : E.length ≤ 1000) (hT : ∀ c ∈ E, c.1.length ≤ 1048576) :
    MCalls Tryz.prog 102 [tabO (tabsE E), stpO (stepsE E)] [.agg [.hp 0, .hp 1, B lg], ints e.1, stpP e.2] [tabO (tabsE (addL (E, lg) e).1), stpO (stepsE (addL (E, lg) e).1)] [] (.agg [.hp 0, .hp 1, B (addL (E, lg) e).2]) := by
  refine pcallsMC Tryz.func102 rfl Tryz.ntmps102 rfl rfl fun bd => ?_
  simp only [List.length_cons, List.length_nil, Nat.reduceAdd, Nat.reduceSub, List.replicate_succ, List.replicate_zero, List.map_cons, List.map_nil, List.cons_append, List.nil_append]; dsimp only [pinMP, pinMA, pinM1, hasI, List.map_cons, List.map_nil, Nat.reduceBEq, n_cond_t, n_cond_f]
  have hTl : (tabsE E).length ≤ 1048576 := by rw [tabs_len]; omega
  have hp := splace_c (tabsE E) e.1 ⟨hTl, fun t ht => by obtain ⟨c, hc, rfl⟩ := List.mem_map.1 ht; exact hT c hc⟩
  cases lg with
  | true =>
    rw [addL_large]
    repeat' (first
| refine g_seq ?_
| refine zC ?_
| (refine o_go rfl ?_; (first
| refine p_e rfl (e_box rfl rfl) ?_
| refine p_p (zD rfl) ?_
| refine p_p (zQ rfl rfl) ?_
| refine p_p (zH rfl rfl rfl rfl) ?_
| refine p_p (zY rfl rfl rfl aK) ?_
| refine p_p (zE rfl rfl) ?_
| refine p_e rfl (zO rfl rfl rfl rfl aK rfl rfl rfl) ?_
| refine p_e rfl (e_alloc rfl) ?_); refine ⟨_, aB, ?_⟩)
| refine o_nil ?_
| (refine o_s rfl ?_; refine ⟨_, aB, ?_⟩)
| refine zX rfl ?_
| refine g_ret ?_)
    exact krmc 4 (zB rfl (zB rfl (zM _))) trivial rfl rfl rfl (leS_refl _)
  | false =>
    by_cases hm : e.1 ∈ tabsE E
    · rw [show addL (E, false) e = (E, false) from if_pos (.inr hm)]
      have hpl := placeT_pos.2 hm
      repeat' (first
| refine g_seq ?_
| refine zC ?_
| (refine o_go rfl ?_; (first
| refine p_e rfl (e_box rfl rfl) ?_
| refine p_p (ps_callM rfl rfl aC (by rfl) (hp)) ?_
| refine p_p (zD rfl) ?_
| refine p_p (zQ rfl rfl) ?_
| refine p_p (ps_geq rfl rfl rfl) ?_
| refine p_p (zH rfl rfl rfl rfl) ?_
| refine p_p (zY rfl rfl rfl aK) ?_
| refine p_p (zE rfl rfl) ?_
| refine p_e rfl (zO rfl rfl rfl rfl aK rfl rfl rfl) ?_
| refine p_e rfl (e_alloc rfl) ?_); refine ⟨_, aB, ?_⟩)
| refine o_nil ?_
| (refine zK rfl (fun hc => ?_) (fun hc => ?_) <;> try (exfalso; omega))
| refine g_ret ?_)
      all_goals try (exfalso; omega)
      all_goals exact krmc 4 (zB rfl (zB rfl (zM _))) trivial rfl rfl rfl (leS_refl _)
    · have hpl : ¬ 0 ≤ placeT (tabsE E) e.1 := fun h => hm (placeT_pos.1 h)
      by_cases h60 : E.length = 60
      · rw [show addL (E, false) e = (E, true) by unfold addL; rw [if_neg (by simp [hm]), if_pos h60]]
        have hl60 : ((tabsE E).map ints).length = 60 := by rw [List.length_map, tabs_len]; exact h60
        repeat' (first
| refine g_seq ?_
| refine zC ?_
| (refine o_go rfl ?_; (first
| refine p_e rfl (e_box rfl rfl) ?_
| refine p_p (ps_callM rfl rfl aC (by rfl) (hp)) ?_
| refine p_p (zD rfl) ?_
| refine p_p (zQ rfl rfl) ?_
| refine p_p (ps_geq rfl rfl rfl) ?_
| refine p_p (ps_eql rfl rfl rfl) ?_
| refine p_p (ps_len_mut rfl rfl rfl rfl) ?_
| refine p_p (zH rfl rfl rfl rfl) ?_
| refine p_p (zY rfl rfl rfl aK) ?_
| refine p_p (zE rfl rfl) ?_
| refine p_e rfl (e_store_boxC rfl rfl rfl rfl aK rfl rfl) ?_
| refine p_e rfl (zO rfl rfl rfl rfl aK rfl rfl rfl) ?_
| refine p_e rfl (e_alloc rfl) ?_); refine ⟨_, aB, ?_⟩)
| refine o_nil ?_
| (refine zK rfl (fun hc => ?_) (fun hc => ?_) <;> try (exfalso; omega))
| refine zR ?_
| refine g_ret ?_)
        all_goals try (exfalso; omega)
        all_goals exact krmc 4 (zB rfl (zB rfl (zM _))) trivial rfl rfl rfl (leS_refl _)
      · rw [show addL (E, false) e = (E ++ [e], false) by unfold addL; rw [if_neg (by simp [hm]), if_neg h60]]
        have hl60 : ((tabsE E).map ints).length = E.length := by rw [List.length_map, tabs_len]
        have hs60 : ((stepsE E).map stpP).length = E.length := by rw [List.length_map, List.length_map]
        repeat' (first
| refine g_seq ?_
| refine zC ?_
| (refine o_go rfl ?_; (first
| refine p_e rfl (e_box rfl rfl) ?_
| refine p_p (ps_callM rfl rfl aC (by rfl) (hp)) ?_
| refine p_p (ps_lits rfl (by exact rfl) (by exact rfl) aV (by decide) (by decide)) ?_
| refine p_e (by kernel_rfl) (e_append rfl rfl rfl rfl rfl rfl (one_one rfl) rfl aP aP) ?_
| refine p_e (by kernel_rfl) (e_append rfl rfl rfl rfl rfl rfl (one_ag rfl) rfl aP aP) ?_
| refine p_p (zD rfl) ?_
| refine p_p (zQ rfl rfl) ?_
| refine p_p (ps_geq rfl rfl rfl) ?_
| refine p_p (ps_eql rfl rfl rfl) ?_
| refine p_p (ps_len_mut rfl rfl rfl rfl) ?_
| refine p_p (zH rfl rfl rfl rfl) ?_
| refine p_p (zY rfl rfl rfl aK) ?_
| refine p_p (zE rfl rfl) ?_
| refine p_e rfl (e_store_boxC rfl rfl rfl rfl aK rfl rfl) ?_
| refine p_e rfl (zO rfl rfl rfl rfl aK rfl rfl rfl) ?_
| refine p_e rfl (e_alloc rfl) ?_); refine ⟨_, aB, ?_⟩)
| refine o_nil ?_
| (refine zK rfl (fun hc => ?_) (fun hc => ?_) <;> try (exfalso; omega))
| refine zR ?_
| refine g_ret ?_)
        all_goals try (exfalso; omega)
        refine krmc 4 (zB ?_ (zB ?_ (zM _))) trivial rfl rfl rfl (leS_refl _)
        · show HO.arr _ _ _ _ = HO.arr _ _ _ ((tabsE (E ++ [e])).map ints)
          rw [tabsE_snoc, List.map_append]; rfl
        · show HO.arr _ _ _ _ = HO.arr _ _ _ ((stepsE (E ++ [e])).map stpP)
          rw [stepsE_snoc, List.map_append]; rfl
theorem sadd0_c (e : Ent) : MCalls Tryz.prog 102 [.gone, .gone] [.agg [nilV, nilV, B false], ints e.1, stpP e.2] [tabO [e.1], stpO [e.2]] [] (.agg [.hp 0, .hp 1, B false]) := by
  refine pcallsMC Tryz.func102 rfl Tryz.ntmps102 rfl rfl fun bd => ?_
  simp only [List.length_cons, List.length_nil, Nat.reduceAdd, Nat.reduceSub, List.replicate_succ, List.replicate_zero, List.map_cons, List.map_nil, List.cons_append, List.nil_append]; dsimp only [pinMP, pinMA, pinM1, hasI, List.map_cons, List.map_nil, Nat.reduceBEq, n_cond_t, n_cond_f]
  have hp : PCalls Tryz.prog 88 [intss [], ints e.1] (I (-1)) := splace_c [] e.1 ⟨Nat.zero_le _, fun t ht => by cases ht⟩
  repeat' (first
| refine g_seq ?_
| refine zC ?_
| (refine o_go rfl ?_; (first
| refine p_e rfl (e_box rfl rfl) ?_
| refine p_p (zG rfl rfl aC (hp)) ?_
| refine p_p (ps_len_nil rfl rfl rfl) ?_
| refine p_p (ps_lits rfl (by exact rfl) (by exact rfl) aV (by decide) (by decide)) ?_
| refine p_e (by kernel_rfl) (e_appendNil rfl rfl rfl rfl (one_one rfl) (by decide) rfl aP aP aP) ?_
| refine p_e (by kernel_rfl) (e_appendNil rfl rfl rfl rfl (one_ag rfl) (by decide) rfl aP aP aP) ?_
| refine p_p (zD rfl) ?_
| refine p_p (zQ rfl rfl) ?_
| refine p_p (ps_geq rfl rfl rfl) ?_
| refine p_p (ps_eql rfl rfl rfl) ?_
| refine p_p (zH rfl rfl rfl rfl) ?_
| refine p_p (zY rfl rfl rfl aK) ?_
| refine p_p (zE rfl rfl) ?_
| refine p_e rfl (e_store_boxC rfl rfl rfl rfl aK rfl rfl) ?_
| refine p_e rfl (zO rfl rfl rfl rfl aK rfl rfl rfl) ?_
| refine p_e rfl (e_alloc rfl) ?_); refine ⟨_, aB, ?_⟩)
| refine o_nil ?_
| refine zW rfl ?_
| refine zR ?_
| refine g_ret ?_)
  all_goals try (exfalso; omega)
  exact krmcT _ ((Turns.move 5 0 (by decide) rfl).trans (Turns.move 6 1 (by decide) rfl)) 4 (zB rfl (zB rfl (zM _))) trivial rfl rfl rfl (leS_refl _)
theorem tabsE_pre {E F : List Ent} (h : E <+: F) : tabsE E <+: tabsE F := List.IsPrefix.map _ h
theorem pre_getD {T U : List (List Int)} (h : T <+: U) {i : Nat} (hi : i < T.length) : U.getD i [] = T.getD i [] := by
  obtain ⟨r, rfl⟩ := h
  rw [List.getD_eq_getElem?_getD, List.getElem?_append_left hi, ← List.getD_eq_getElem?_getD]
theorem idx_ints {T : List (List Int)} {i : Nat} (hi : i < T.length) : (T.map ints)[i]? = some (ints (T.getD i [])) := by
  rw [List.getElem?_map, List.getElem?_eq_getElem hi, List.getD_eq_getElem?_getD, List.getElem?_eq_getElem hi]; rfl
def stL (n size : Nat) (T : List (List Int)) (f : OpD) (num before : Nat) (s : List Ent × Bool) (i : Nat) : List Ent × Bool := ((candsO n size T f num i).filter (pE before)).foldl addL s
theorem stL_succ (n size : Nat) (T : List (List Int)) (f : OpD) (num before : Nat) (s : List Ent × Bool) (i : Nat) : stL n size T f num before s (i + 1) = bif pE before (candA n size T f num i) then addL (stL n size T f num before s i) (candA n size T f num i) else stL n size T f num before s i := by
  unfold stL
  rw [candsO_succ, List.filter_append, List.foldl_append]
  cases h : pE before (candA n size T f num i) with
  | true => rw [List.filter_cons_of_pos h]; rfl
  | false => rw [List.filter_cons_of_neg (by rw [h]; decide)]; rfl
theorem stL_large {n size : Nat} {T : List (List Int)} {f : OpD} {num before : Nat} {s : List Ent × Bool} {i : Nat} (h : (stL n size T f num before s i).2 = true) : ∀ {j : Nat}, i ≤ j → stL n size T f num before s j = stL n size T f num before s i := by
  intro j hj
  induction hj with
  | refl => rfl
  | step _ ih =>
    rw [stL_succ, ih]
    cases pE before (candA n size T f num _) with
    | false => rfl
    | true =>
      show addL _ _ = _
      generalize stL n size T f num before s i = q at *
      obtain ⟨q1, q2⟩ := q
      have h : q2 = true := h
      subst h
      exact addL_large _ _
theorem sround_c (n size num before : Nat) (f : OpD) (T : List (List Int)) (E : List Ent) (lg : Bool) (hn0 : 0 < n) (hn : n ≤ 8) (hs : size ≤ 1000) (hf : opOk n f = true) (hT0 : 0 < T.length) (hT6 : T.length ≤ 60) (hE : E.length ≤ 60) (hTE : T <+: tabsE E) (hok : ∀ c ∈ E, entOk n size c) :
    MCalls Tryz.prog 103 [tabO (tabsE E), stpO (stepsE E)] [I (n : Int), .agg [.hp 0, .hp 1, B lg], opP f, I (num : Int), I (T.length : Int), I (before : Int), I (size : Int)]
      [tabO (tabsE (stL n size T f num before (E, lg) (T.length ^ f.ar.toNat)).1), stpO (stepsE (stL n size T f num before (E, lg) (T.length ^ f.ar.toNat)).1)] [] (.agg [.hp 0, .hp 1, B (stL n size T f num before (E, lg) (T.length ^ f.ar.toNat)).2]) := by
  refine pcallsMC Tryz.func103 rfl Tryz.ntmps103 rfl rfl fun bd => ?_
  simp only [List.length_cons, List.length_nil, Nat.reduceAdd, Nat.reduceSub, List.replicate_succ, List.replicate_zero, List.map_cons, List.map_nil, List.cons_append, List.nil_append]; dsimp only [pinMP, pinMA, pinM1, hasI, List.map_cons, List.map_nil, Nat.reduceBEq, n_cond_t, n_cond_f]
  have hf' := hf
  unfold opOk at hf'
  simp only [Bool.and_eq_true, decide_eq_true_eq] at hf'
  have har := inB_iff.1 hf'.1
  obtain ⟨k, hk⟩ : ∃ k : Nat, f.ar = k := ⟨f.ar.toNat, by omega⟩
  have hk' : f.ar.toNat = k := by omega
  have hft := hf'.2.1
  rw [hk'] at hft ⊢
  have hpw := pow_le3 (show T.length ≤ 1000 by omega) (show k ≤ 3 by omega)
  have h1 := pow_c T.length k (by omega) (by omega)
  rw [← hk] at h1
  obtain ⟨S, hS⟩ : ∃ S : Nat → List Ent × Bool, S = stL n size T f num before (E, lg) := ⟨_, rfl⟩
  rw [← hS]
  have hS0 : S 0 = (E, lg) := by rw [hS]; rfl
  have hSl : ∀ i, (S i).1.length ≤ 60 := fun i => by rw [hS]; exact foldL_len _ _ hE
  have hSok : ∀ i, ∀ c ∈ (S i).1, entOk n size c := fun i => by rw [hS]; exact foldL_all (fun c hc => candsO_ok hn0 hf T num i c (List.mem_filter.1 hc).1) hok
  have hSp : ∀ i, T <+: tabsE (S i).1 := fun i => by rw [hS]; exact hTE.trans (tabsE_pre (foldL_pre _ (E, lg)))
  have hSs : ∀ i, S (i + 1) = bif pE before (candA n size T f num i) then addL (S i) (candA n size T f num i) else S i := fun i => by rw [hS]; exact stL_succ ..
  have hSL : ∀ i, (S i).2 = true → ∀ j, i ≤ j → S j = S i := fun i h j hj => by rw [hS] at h ⊢; exact stL_large h hj
  clear hS
  repeat' (first
| refine g_seq ?_
| refine zJ ?_
| refine zC ?_
| (refine o_go rfl ?_; (first
| refine p_e rfl (e_box rfl rfl) ?_
| refine p_p (zA rfl) ?_
| refine p_e rfl (e_alloc rfl) ?_); refine ⟨_, aB, ?_⟩)
| refine o_nil ?_)
  refine g_loopF (α := Nat) [1] (fun i => [(15, I (i : Int))]) (fun i => [tabO (tabsE (S i).1), stpO (stepsE (S i).1), .box [.hp 0, .hp 1, B (S i).2], .box [I f.ar, ints f.tb], .box [nilV, nilV, B false]]) (fun i => i ≤ T.length ^ k) (fun i => T.length ^ k - i) 0 aH (Nat.zero_le _) ⟨rfl, trivial⟩ (by rw [hS0]) ?_
  rintro i hi
  dsimp only [zZ, List.set_cons_zero, List.set_cons_succ]
  by_cases hil : i < T.length ^ k
  · cases hlg : (S i).2 with
    | true =>
      have hfin := hSL i hlg (T.length ^ k) hi
      rw [hfin, hlg]
      repeat' (first
| refine g_seq ?_
| refine zC ?_
| (refine o_go rfl ?_; (first
| refine p_p (zG rfl rfl aC (h1)) ?_
| refine p_p (zD rfl) ?_
| refine p_p (zS rfl rfl rfl) ?_
| refine p_p (ps_not rfl rfl) ?_
| refine p_p (zQ rfl rfl) ?_
| refine p_p (zH rfl rfl rfl rfl) ?_
| refine p_p (zY rfl rfl rfl aK) ?_
| refine p_p (zE rfl rfl) ?_
| refine p_e rfl (zO rfl rfl rfl rfl aK rfl rfl rfl) ?_); refine ⟨_, aB, ?_⟩)
| refine o_nil ?_
| (refine o_splitD rfl rfl rfl (fun hc => ?_) (fun hc => ?_) <;> first | (exfalso; omega) | dsimp only [List.set_cons_zero, List.set_cons_succ])
| refine zW rfl ?_
| refine g_exit ?_
| refine g_ret ?_)
      all_goals try (exfalso; omega)
      exact krmc 4 (zB rfl (zB rfl (zM _))) trivial rfl rfl rfl (leS_refl _)
    | false =>
      have h2 := fresh_c T.length k i before hT0 (by omega) (by omega) (by omega)
      rw [← hk] at h2
      have hfr : freshB T.length k i before = pE before (candA n size T f num i) := by unfold freshB pE candA; rw [hk']
      rw [hfr] at h2
      have hsuc := hSs i
      cases hp : pE before (candA n size T f num i) with
      | false =>
        rw [hp] at h2 hsuc
        repeat' (first
| refine g_seq ?_
| refine zJ ?_
| refine zC ?_
| (refine o_go rfl ?_; (first
| refine p_p (zG rfl rfl aC (h1)) ?_
| refine p_p (zG rfl rfl aC (h2)) ?_
| refine p_p (zD rfl) ?_
| refine p_p (zA rfl) ?_
| refine p_p (zS rfl rfl rfl) ?_
| refine p_p (ps_add rfl rfl rfl aN) ?_
| refine p_p (ps_not rfl rfl) ?_
| refine p_p (zQ rfl rfl) ?_
| refine p_p (zH rfl rfl rfl rfl) ?_
| refine p_p (zE rfl rfl) ?_); refine ⟨_, aB, ?_⟩)
| refine o_nil ?_
| (refine o_splitD rfl rfl rfl (fun hc => ?_) (fun hc => ?_) <;> first | (exfalso; omega) | dsimp only [List.set_cons_zero, List.set_cons_succ])
| refine zX rfl ?_
| refine zR ?_
| refine g_exit ?_)
        all_goals try (exfalso; omega)
        exact zT (i + 1) (by omega) (by omega) aI ⟨rfl, trivial⟩ (zB (by rw [hsuc]; rfl) (zB (by rw [hsuc]; rfl) (zB (by rw [hsuc]; exact congrArg (fun b => HO.box [.hp 0, .hp 1, B b]) hlg.symm) (zB rfl (zB rfl (zM _))))))
      | true =>
        rw [hp] at h2 hsuc
        have h3 := sargs_c T.length k i hT0 (by omega) (by omega) (by omega)
        rw [← hk] at h3
        have hal := argsL_len T.length k i
        have hain := argsL_in hT0 k i
        obtain ⟨A, hA⟩ : ∃ A, A = argsL T.length k i := ⟨_, rfl⟩
        rw [← hA] at h3 hal hain
        have hcA : candA n size T f num i = (cmpL n f.tb (A.map fun x => T.getD x.toNat []) size, ((num : Int), A)) := by unfold candA; rw [hk', ← hA]
        have hTl : ∀ t ∈ tabsE (S i).1, t.length = size ∧ ∀ x ∈ t, 0 ≤ x ∧ x < (n : Int) := fun t ht => by
          obtain ⟨c, hc, rfl⟩ := List.mem_map.1 ht
          exact hSok i c hc
        have hpre := hSp i
        have hgl := hpre.length_le
        rw [tabs_len] at hgl
        have h5 := sadd_c (S i).1 false (candA n size T f num i) (Nat.le_trans (hSl i) (by decide)) (fun c hc => by rw [(hSok i c hc).1]; omega)
        rw [show ((S i).1, false) = S i from by rw [← hlg]] at h5
        rw [cond_true] at hsuc
        rw [← hsuc, hcA] at h5
        have h4 := scmp_c n size f.ar f.tb (A.map fun x => T.getD x.toNat []) hn (by omega) (by rw [List.length_map, hal]; omega) (by rw [List.length_map, hal]; exact hft) (fun t ht => by
          obtain ⟨x, hx, rfl⟩ := List.mem_map.1 ht
          have hxx := hain x hx
          exact hTl _ (hpre.subset (getD_mem0 (by omega))))
        generalize hC : cmpL (↑n) f.tb (A.map fun x => T.getD x.toNat []) size = C at *
        generalize hE1 : (S i).1 = Ei at *
        repeat' (first
| refine g_seq ?_
| refine zJ ?_
| refine zC ?_
| (refine o_go rfl ?_; (first
| refine p_p (zG rfl rfl aC (h1)) ?_
| refine p_p (zG rfl rfl aC (h2)) ?_
| refine p_p (zG rfl rfl aC (h3)) ?_
| refine p_e rfl (e_lit0T rfl (by decide)) ?_
| refine p_p (zD rfl) ?_
| refine p_p (zA rfl) ?_
| refine p_p (zS rfl rfl rfl) ?_
| refine p_p (ps_not rfl rfl) ?_
| refine p_p (zQ rfl rfl) ?_
| refine p_p (zH rfl rfl rfl rfl) ?_
| refine p_p (zE rfl rfl) ?_); refine ⟨_, aB, ?_⟩)
| refine o_nil ?_
| (refine o_splitD rfl rfl rfl (fun hc => ?_) (fun hc => ?_) <;> first | (exfalso; omega) | dsimp only [List.set_cons_zero, List.set_cons_succ])
| refine zX rfl ?_
| refine zW rfl ?_
| refine zR ?_)
        all_goals try (exfalso; omega)
        refine g_loopF (α := Nat) [44] (fun j => [(17, .hp 5), (18, I (j : Int))]) (fun j => [tabO (tabsE Ei), stpO (stepsE Ei), .box [.hp 0, .hp 1, B false], .box [I f.ar, ints f.tb], .box [nilV, nilV, B false], .arr true 1 31 (((A.take j).map fun x => T.getD x.toNat []).map ints)]) (fun j => j ≤ k) (fun j => k - j) 0 aH (Nat.zero_le _) ⟨rfl, rfl, trivial⟩ rfl ?_
        rintro j hj
        dsimp only [zZ, List.set_cons_zero, List.set_cons_succ]
        by_cases hjk : j < k
        · have hx := hain _ (getD_at (show j < A.length by omega))
          have hix : ((tabsE Ei).map ints)[(A.getD j 0).toNat * 1]? = some (ints (T.getD (A.getD j 0).toNat [])) := by
            rw [Nat.mul_one, idx_ints (by rw [tabs_len]; omega), pre_getD hpre (by omega)]
          have hlE : ((tabsE Ei).map ints).length = Ei.length := by rw [List.length_map, tabs_len]
          have hlA : (((A.take j).map fun x => T.getD x.toNat []).map ints).length = j := by simp; omega
          repeat' (first
| refine g_seq ?_
| refine zJ ?_
| refine zC ?_
| refine zP (by kernel_rfl) (by kernel_rfl) ?_
| (refine o_go rfl ?_; (first
| refine p_p (yA rfl rfl rfl rfl (by omega) (by omega)) ?_
| refine p_p (ps_load_arr rfl rfl rfl (by exact hix) rfl) ?_
| refine p_e (by kernel_rfl) (e_append rfl rfl rfl rfl rfl rfl (one_one rfl) rfl aP aP) ?_
| refine p_p (zD rfl) ?_
| refine p_p (zA rfl) ?_
| refine p_p (zF rfl rfl) ?_
| refine p_p (zN rfl rfl rfl (by omega) aR (by exact rfl)) ?_
| refine p_p (zU rfl rfl rfl) ?_
| refine p_p (zS rfl rfl rfl) ?_
| refine p_p (ps_add rfl rfl rfl aN) ?_
| refine p_p (zH rfl rfl rfl rfl) ?_
| refine p_p (zE rfl rfl) ?_
| refine p_p (ps_lit1 rfl rfl (by rfl) (by rfl)) ?_); refine ⟨_, aB, ?_⟩)
| refine o_nil ?_
| (refine zK rfl (fun hc => ?_) (fun hc => ?_) <;> try (exfalso; omega))
| refine zR ?_)
          all_goals try (exfalso; omega)
          refine zT (j + 1) (by omega) (by omega) aI ⟨rfl, rfl, trivial⟩ (zB rfl (zB rfl (zB rfl (zB rfl (zB rfl (zB ?_ (zM _)))))))
          rw [take_snoc 0 (by omega), List.map_append, List.map_append]; rfl
        · rw [show A.take j = A from List.take_of_length_le (by omega)]
          refine g_freezeP 5 rfl ⟨_, by dsimp only [bitvec_to_nat, Nat.reduceAdd, Nat.reduceMul, Nat.reduceBEq, reduceCtorEq, posI, optP, lendM1, lendMA, lendMP, killM1, killMA, killMP, hasI, getO, backM1, backMA, backMP, putL, inpM, pinM1, pinMA, pinMP], ?_⟩
          repeat' (first
| refine g_seq ?_
| refine zC ?_
| refine zP (by kernel_rfl) (by kernel_rfl) ?_
| (refine o_go rfl ?_; (first
| refine p_p (zG rfl rfl aC (h4)) ?_
| refine p_e (by kernel_rfl) (e_callM (ids := [0, 1]) rfl rfl rfl rfl (by rfl) aM rfl (h5)) ?_
| refine p_p (zD rfl) ?_
| refine p_p (zA rfl) ?_
| refine p_p (zU rfl rfl rfl) ?_
| refine p_p (zS rfl rfl rfl) ?_
| refine p_p (ps_add rfl rfl rfl aN) ?_
| refine p_p (zY rfl rfl rfl aK) ?_
| refine p_e rfl (zO rfl rfl rfl rfl aK rfl rfl rfl) ?_
| refine p_p (ps_build rfl rfl) ?_); refine ⟨_, aB, ?_⟩)
| refine o_nil ?_
| (refine zK rfl (fun hc => ?_) (fun hc => ?_) <;> try (exfalso; omega))
| refine g_exit ?_)
          all_goals try (exfalso; omega)
          exact zT (i + 1) (by omega) (by omega) aI ⟨rfl, trivial⟩ (zB rfl (zB rfl (zB rfl (zB rfl (zB rfl (zM _))))))
  · have hie : i = T.length ^ k := by omega
    rw [← hie]
    repeat' (first
| refine g_seq ?_
| refine zC ?_
| (refine o_go rfl ?_; (first
| refine p_p (zG rfl rfl aC (h1)) ?_
| refine p_p (zD rfl) ?_
| refine p_p (zS rfl rfl rfl) ?_
| refine p_p (zQ rfl rfl) ?_
| refine p_p (zH rfl rfl rfl rfl) ?_
| refine p_p (zY rfl rfl rfl aK) ?_
| refine p_p (zE rfl rfl) ?_
| refine p_e rfl (zO rfl rfl rfl rfl aK rfl rfl rfl) ?_); refine ⟨_, aB, ?_⟩)
| refine o_nil ?_
| (refine o_s rfl ?_; refine ⟨_, aB, ?_⟩)
| (refine o_splitD rfl rfl rfl (fun hc => ?_) (fun hc => ?_) <;> first | (exfalso; omega) | dsimp only [List.set_cons_zero, List.set_cons_succ])
| refine zW rfl ?_
| refine g_exit ?_
| refine g_ret ?_)
    all_goals try (exfalso; omega)
    all_goals exact krmc 4 (zB rfl (zB rfl (zM _))) trivial rfl rfl rfl (leS_refl _)
end Go.Proofs.YtlgfniaakjchgaaGreat
