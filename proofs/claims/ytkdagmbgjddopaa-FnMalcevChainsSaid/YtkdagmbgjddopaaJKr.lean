/- Walks: the lists of translated pairs; plain: steps of the shortest way. -/
import Derived.Test.YtkdagmbgjddopaaJKq
namespace Go.Proofs.Ytkdagmbgjddopaa
open Go Go.Pv Go.Proofs
set_option maxHeartbeats 32000000
set_option maxRecDepth 100000
attribute [local bitvec_to_nat] St.put St.setObj St.ev killP killA killP1 killH mapHO renP renA ren1 killG killGA killG1 krowP krowA krow1 lendP lendA lend1 unv pinP pin1 elemsM viewM viewN viewV n_set_z n_set_s n_map_c n_map_n getD_z getD_s n_toNat n_cond_t n_cond_f n_len_c n_len_n n_app_c n_app_n n_take_s n_take_z n_drop_s n_drop_z n_get_z n_get_s view viewA view1 elems Nat.zero_add Nat.add_zero Bool.not_true Bool.not_false Nat.one_ne_zero Nat.mul_one
attribute [local bitvec_to_nat] posI optP lendM1 lendMA lendMP killM1 killMA killMP hasI getO backM1 backMA backMP putL inpM pinM1 pinMA pinMP

theorem trK_skip {n : Nat} {ops : List OpD} {x y s : Nat} (hs : s < n) : ∀ j, j ≤ s + 1 → trK n ops x y (s * n + j) = trK n ops x y (s * n)
  | 0, _ => rfl
  | j + 1, h => by
    have hd : (s * n + j) / n = s := by rw [Nat.mul_comm, Nat.mul_add_div (by omega), Nat.div_eq_of_lt (by omega), Nat.add_zero]
    have hm : (s * n + j) % n = j := by rw [Nat.mul_comm, Nat.mul_add_mod, Nat.mod_eq_of_lt (by omega)]
    rw [← Nat.add_assoc, trK_succ, hd, hm, decide_eq_false (by omega), Bool.false_and, if_neg (by decide), List.append_nil, trK_skip hs j (by omega)]
theorem trK_step {n : Nat} {ops : List OpD} {x y s t : Nat} (hst : s < t) (ht : t < n) : trK n ops x y (s * n + (t + 1)) = trK n ops x y (s * n + t) ++ if trB n ops x y s t = true then [(s, t)] else [] := by
  have hd : (s * n + t) / n = s := by rw [Nat.mul_comm, Nat.mul_add_div (by omega), Nat.div_eq_of_lt ht, Nat.add_zero]
  have hm : (s * n + t) % n = t := by rw [Nat.mul_comm, Nat.mul_add_mod, Nat.mod_eq_of_lt ht]
  rw [← Nat.add_assoc, trK_succ, hd, hm, decide_eq_true hst, Bool.true_and]
noncomputable def trpV (n : Int) (ops : List OpD) (x y : Int) : List (Nat × Nat) := if cpB n ops x y then trK n.toNat ops x.toNat y.toNat (n.toNat * n.toNat) else []
theorem gFs_at {n s : Nat} {f : Nat → Nat → Bool} (hs : s < n) : ((gF n f).map slR)[((s : Nat) : Int).toNat]? = some (slR ((List.range n).map fun t => B (f s t))) := by
  rw [Int.toNat_natCast, List.getElem?_map, gF_at hs]; rfl
theorem gRs_at {n s t : Nat} {f : Nat → Nat → Bool} (ht : t < n) : ((List.range n).map fun t => B (f s t))[((t : Nat) : Int).toNat]? = some (B (f s t)) := by
  rw [Int.toNat_natCast, gR_at ht]
theorem cpB_facts {n : Int} {ops : List OpD} {x y : Int} (h : cpB n ops x y = true) : ∃ m x' y' : Nat, n = m ∧ x = x' ∧ y = y' ∧ m ≤ 8 ∧ ops.length ≤ 4 ∧ opsIn m ops ∧ x' < m ∧ y' < m ∧ algOk n ops = true := by
  unfold cpB at h
  simp only [Bool.and_eq_true] at h
  obtain ⟨hg, hx, hy⟩ := h
  obtain ⟨m, rfl, hm0, hm8, h4, ho⟩ := algOk_facts hg
  have ex := inE_iff.1 hx
  have ey := inE_iff.1 hy
  exact ⟨m, x.toNat, y.toNat, rfl, by omega, by omega, hm8, h4, ho, by omega, by omega, hg⟩
theorem strp_c (n : Int) (ops : List OpD) (x y : Int) (hs : szOk ops) : PCalls Try.prog 13 [algP n ops, I x, I y] (.tup [prsP (trpV n ops x y), B (cpB n ops x y)]) := by
  refine pcalls2 Try.func13 rfl Try.ntmps13 rfl ?_
  simp only [List.length_cons, List.length_nil, Nat.reduceAdd, Nat.reduceSub, List.replicate_succ, List.replicate_zero, List.cons_append, List.nil_append]
  have h1 := sgood_c n ops hs
  cases hb : cpB n ops x y with
  | false =>
    unfold trpV
    rw [hb]
    cases hg : algOk n ops with
    | false =>
      rw [hg] at h1
      repeat' (first
| refine g_seq ?_
| refine g_region ?_
| (refine o_go rfl ?_; (first
| refine p_p (ps_call rfl rfl aC (h1)) ?_
| refine p_p (ps_move rfl) ?_
| refine p_p (ps_assign rfl) ?_
| refine p_p (ps_load_agg rfl rfl aK) ?_
| refine p_p (ps_not rfl rfl) ?_
| refine p_p (ps_pick rfl rfl) ?_
| refine p_e rfl (e_lit0 rfl (by decide)) ?_
| refine p_p (ps_box rfl rfl) ?_); refine ⟨_, aA, ?_⟩)
| refine o_nil ?_
| (refine o_s rfl ?_; refine ⟨_, aA, ?_⟩)
| refine g_condT rfl ?_
| refine kr2 ?_ ?_
| refine krB rfl ?_
| refine krS rfl ?_
| refine g_ret ?_)
      all_goals first | rfl | (exfalso; omega)
    | true =>
      rw [hg] at h1
      have h2 := in_c x 0 (n - 1)
      have h3 := in_c y 0 (n - 1)
      rw [inE_inB] at h2 h3
      obtain ⟨m, rfl, hm0, hm8, h4, ho⟩ := algOk_facts hg
      unfold cpB at hb
      rw [hg, Bool.true_and] at hb
      cases hx : inE m x with
      | false =>
        rw [hx] at h2
        repeat' (first
| refine g_seq ?_
| refine g_region ?_
| (refine o_go rfl ?_; (first
| refine p_p (ps_call rfl rfl aC (h1)) ?_
| refine p_p (ps_call rfl rfl aC (h2)) ?_
| refine p_p (ps_move rfl) ?_
| refine p_p (ps_assign rfl) ?_
| refine p_p (ps_load_cell rfl rfl) ?_
| refine p_p (ps_load_agg rfl rfl aK) ?_
| refine p_p (ps_fieldAddr rfl rfl) ?_
| refine p_p (ps_not rfl rfl) ?_
| refine p_p (ps_pick rfl rfl) ?_
| refine p_p (ps_sub rfl rfl rfl aM) ?_
| refine p_e rfl (e_lit0 rfl (by decide)) ?_
| refine p_p (ps_box rfl rfl) ?_); refine ⟨_, aA, ?_⟩)
| refine o_nil ?_
| (refine o_s rfl ?_; refine ⟨_, aA, ?_⟩)
| refine g_condT rfl ?_
| refine kr2 ?_ ?_
| refine krB rfl ?_
| refine krS rfl ?_
| refine g_ret ?_)
        all_goals first | rfl | (exfalso; omega)
      | true =>
        rw [hx] at h2 hb
        rw [Bool.true_and] at hb
        rw [hb] at h3
        repeat' (first
| refine g_seq ?_
| refine g_region ?_
| (refine o_go rfl ?_; (first
| refine p_p (ps_call rfl rfl aC (h1)) ?_
| refine p_p (ps_call rfl rfl aC (h2)) ?_
| refine p_p (ps_call rfl rfl aC (h3)) ?_
| refine p_p (ps_move rfl) ?_
| refine p_p (ps_assign rfl) ?_
| refine p_p (ps_load_cell rfl rfl) ?_
| refine p_p (ps_load_agg rfl rfl aK) ?_
| refine p_p (ps_fieldAddr rfl rfl) ?_
| refine p_p (ps_not rfl rfl) ?_
| refine p_p (ps_pick rfl rfl) ?_
| refine p_p (ps_sub rfl rfl rfl aM) ?_
| refine p_e rfl (e_lit0 rfl (by decide)) ?_
| refine p_p (ps_box rfl rfl) ?_); refine ⟨_, aA, ?_⟩)
| refine o_nil ?_
| refine g_condT rfl ?_
| refine kr2 ?_ ?_
| refine krB rfl ?_
| refine krS rfl ?_
| refine g_ret ?_)
        all_goals first | rfl | (exfalso; omega)
  | true =>
    obtain ⟨m, x, y, rfl, rfl, rfl, hm8, h4, ho, hx, hy, hg⟩ := cpB_facts hb
    unfold trpV
    rw [hb, if_pos rfl, Int.toNat_natCast, Int.toNat_natCast, Int.toNat_natCast]
    rw [hg] at h1
    have h2 := in_c (x : Int) 0 ((m : Int) - 1)
    have h3 := in_c (y : Int) 0 ((m : Int) - 1)
    rw [inE_inB, inE_iff.2 (by omega)] at h2 h3
    have h5 := spairs_c m ops x y hm8 (by omega) ho hx hy
    have hmm : m * m ≤ 64 := Nat.le_trans (Nat.mul_le_mul hm8 hm8) (by decide)
    repeat' (first
| refine g_seq ?_
| refine g_block ?_
| refine g_region ?_
| (refine o_go rfl ?_; (first
| refine p_p (ps_call rfl rfl aC (h1)) ?_
| refine p_p (ps_call rfl rfl aC (h2)) ?_
| refine p_p (ps_call rfl rfl aC (h3)) ?_
| refine p_p (ps_call rfl rfl aC (h5)) ?_
| refine p_p (ps_move rfl) ?_
| refine p_p (ps_assign rfl) ?_
| refine p_p (ps_load_cell rfl rfl) ?_
| refine p_p (ps_load_agg rfl rfl aK) ?_
| refine p_p (ps_fieldAddr rfl rfl) ?_
| refine p_p (ps_not rfl rfl) ?_
| refine p_p (ps_pick rfl rfl) ?_
| refine p_p (ps_sub rfl rfl rfl aM) ?_
| refine p_e rfl (e_lit0 rfl (by decide)) ?_
| refine p_p (ps_box rfl rfl) ?_); refine ⟨_, aA, ?_⟩)
| refine o_nil ?_
| refine g_condF rfl ?_
| refine g_skip ?_)
    all_goals try (exfalso; omega)
    refine g_loopF (α := Nat) [12] (fun s => [(8, .hp 0), (10, I (s : Int))]) (fun s => [prOF (trK m ops x y (s * m))]) (fun s => s ≤ m) (fun s => m - s) 0 aH (Nat.zero_le _) ⟨rfl, rfl, trivial⟩ (by rw [Nat.zero_mul]; rfl) ?_
    rintro s hs
    dsimp only [setMany, List.set_cons_zero, List.set_cons_succ]
    by_cases hsm : s < m
    · have hsk := trK_skip (ops := ops) (x := x) (y := y) hsm
      have hsmm : (s + 1) * m ≤ m * m := Nat.mul_le_mul_right _ (by omega)
      rw [Nat.add_mul, Nat.one_mul] at hsmm
      repeat' (first
| refine g_seq ?_
| refine g_block ?_
| refine g_region ?_
| (refine o_go rfl ?_; (first
| refine p_p (ps_move rfl) ?_
| refine p_p (ps_assign rfl) ?_
| refine p_p (ps_load_cell rfl rfl) ?_
| refine p_p (ps_lss rfl rfl rfl) ?_
| refine p_p (ps_add rfl rfl rfl aM) ?_
| refine p_p (ps_fieldAddr rfl rfl) ?_); refine ⟨_, aA, ?_⟩)
| refine o_nil ?_
| (refine g_condD rfl (fun hc => ?_) (fun hc => ?_) <;> try (exfalso; omega))
| refine g_skip ?_)
      all_goals try (exfalso; omega)
      refine g_loopF (α := Nat) [] (fun t => [(8, .hp 0), (11, I (t : Int))]) (fun t => [prOF (trK m ops x y (s * m + t))]) (fun t => s < t ∧ t ≤ m) (fun t => m - t) (s + 1) aH ⟨by omega, by omega⟩ ⟨rfl, rfl, trivial⟩ (by rw [hsk (s + 1) (by omega)]) ?_
      rintro t ⟨hst, htm⟩
      dsimp only [setMany, List.set_cons_zero, List.set_cons_succ]
      by_cases htl : t < m
      · have hstp := trK_step (ops := ops) (x := x) (y := y) hst htl
        have hq1 := gFs_at (f := trB m ops x y) hsm
        have hq2 := gRs_at (f := trB m ops x y) (s := s) htl
        have hlen := trK_len (n := m) (ops := ops) (x := x) (y := y) (k := s * m + t)
        have hll : ((trK m ops x y (s * m + t)).map prP).length = (trK m ops x y (s * m + t)).length := List.length_map _
        cases hv : trB m ops x y s t with
        | true =>
          rw [hv] at hq2
          rw [hv, if_pos rfl] at hstp
          repeat' (first
| refine g_seq ?_
| refine g_block ?_
| refine g_region ?_
| (refine o_go rfl ?_; (first
| refine p_p (ps_index rfl rfl rfl (by omega) hq1 (by exact rfl)) ?_
| refine p_p (ps_index rfl rfl rfl (by omega) hq2 (by exact rfl)) ?_
| refine p_p (ps_buildArr rfl rfl) ?_
| refine p_p (ps_litA [I (s : Int), I (t : Int)] rfl rfl (by rfl) (by decide) (by decide)) ?_
| refine p_e (by kernel_rfl) (e_append rfl rfl rfl rfl rfl rfl (one_ag rfl) rfl aO aO) ?_
| refine p_p (ps_move rfl) ?_
| refine p_p (ps_assign rfl) ?_
| refine p_p (ps_load_cell rfl rfl) ?_
| refine p_p (ps_lss rfl rfl rfl) ?_
| refine p_p (ps_add rfl rfl rfl aM) ?_
| refine p_p (ps_fieldAddr rfl rfl) ?_); refine ⟨_, aA, ?_⟩)
| refine o_nil ?_
| refine g_condT rfl ?_
| (refine g_condD rfl (fun hc => ?_) (fun hc => ?_) <;> try (exfalso; omega))
| refine g_skip ?_)
          all_goals try (exfalso; omega)
          refine k_round (t + 1) ⟨by omega, by omega⟩ (by omega) aI ⟨rfl, rfl, trivial⟩ (hpLe_cons ?_ (hpLe_nil _))
          rw [hstp]
          show HO.arr false 2 _ _ = HO.arr false 2 _ ((trK m ops x y (s * m + t) ++ [(s, t)]).map prP)
          rw [List.map_append]; rfl
        | false =>
          rw [hv] at hq2
          rw [hv, if_neg (by decide), List.append_nil] at hstp
          repeat' (first
| refine g_seq ?_
| refine g_block ?_
| refine g_region ?_
| (refine o_go rfl ?_; (first
| refine p_p (ps_index rfl rfl rfl (by omega) hq1 (by exact rfl)) ?_
| refine p_p (ps_index rfl rfl rfl (by omega) hq2 (by exact rfl)) ?_
| refine p_p (ps_move rfl) ?_
| refine p_p (ps_assign rfl) ?_
| refine p_p (ps_load_cell rfl rfl) ?_
| refine p_p (ps_lss rfl rfl rfl) ?_
| refine p_p (ps_add rfl rfl rfl aM) ?_
| refine p_p (ps_fieldAddr rfl rfl) ?_); refine ⟨_, aA, ?_⟩)
| refine o_nil ?_
| refine g_condF rfl ?_
| (refine g_condD rfl (fun hc => ?_) (fun hc => ?_) <;> try (exfalso; omega))
| refine g_skip ?_)
          all_goals try (exfalso; omega)
          refine k_round (t + 1) ⟨by omega, by omega⟩ (by omega) aI ⟨rfl, rfl, trivial⟩ (hpLe_cons ?_ (hpLe_nil _))
          rw [hstp]
      · repeat' (first
| refine g_seq ?_
| refine g_region ?_
| (refine o_go rfl ?_; (first
| refine p_p (ps_move rfl) ?_
| refine p_p (ps_assign rfl) ?_
| refine p_p (ps_load_cell rfl rfl) ?_
| refine p_p (ps_lss rfl rfl rfl) ?_
| refine p_p (ps_add rfl rfl rfl aM) ?_
| refine p_p (ps_fieldAddr rfl rfl) ?_); refine ⟨_, aA, ?_⟩)
| refine o_nil ?_
| (refine g_condD rfl (fun hc => ?_) (fun hc => ?_) <;> try (exfalso; omega))
| refine g_exit ?_)
        all_goals try (exfalso; omega)
        refine k_round (K := fun _ _ => True) (s + 1) (by omega) (by omega) aI ⟨rfl, rfl, trivial⟩ (hpLe_cons ?_ (hpLe_nil _))
        rw [show t = m by omega, Nat.add_mul, Nat.one_mul]
    · repeat' (first
| refine g_seq ?_
| refine g_region ?_
| (refine o_go rfl ?_; (first
| refine p_p (ps_move rfl) ?_
| refine p_p (ps_assign rfl) ?_
| refine p_p (ps_load_cell rfl rfl) ?_
| refine p_p (ps_lss rfl rfl rfl) ?_
| refine p_p (ps_fieldAddr rfl rfl) ?_); refine ⟨_, aA, ?_⟩)
| refine o_nil ?_
| (refine g_condD rfl (fun hc => ?_) (fun hc => ?_) <;> try (exfalso; omega))
| refine kr2 ?_ ?_
| refine krB rfl ?_
| refine krS rfl ?_
| refine g_exit ?_
| refine g_ret ?_)
      all_goals try (exfalso; omega)
      all_goals first | rfl | (rw [show s = m by omega]; done) | (rw [show s = m by omega]; rfl)
theorem itp_c (n : Int) (ops : List OpD) (x y : Int) (hs : szOk ops) : PCalls Try.prog 12 [algP n ops, I x, I y] (.tup [prsP (trpV n ops x y), B (cpB n ops x y)]) := by
  refine pcalls2 Try.func12 rfl Try.ntmps12 rfl ?_
  simp only [List.length_cons, List.length_nil, Nat.reduceAdd, Nat.reduceSub, List.replicate_succ, List.replicate_zero, List.cons_append, List.nil_append]
  have h1 := ipair_c n ops x y hs
  cases hb : cpB n ops x y with
  | false =>
    unfold trpV
    rw [hb] at h1 ⊢
    repeat' (first
| refine g_seq ?_
| refine g_region ?_
| (refine o_go rfl ?_; (first
| refine p_p (ps_call rfl rfl aC (h1)) ?_
| refine p_p (ps_move rfl) ?_
| refine p_p (ps_assign rfl) ?_
| refine p_p (ps_load_agg rfl rfl aK) ?_
| refine p_p (ps_not rfl rfl) ?_
| refine p_e rfl (e_lit0 rfl (by decide)) ?_
| refine p_p (ps_box rfl rfl) ?_); refine ⟨_, aA, ?_⟩)
| refine o_nil ?_
| refine g_condT rfl ?_
| refine kr2 ?_ ?_
| refine krB rfl ?_
| refine krS rfl ?_
| refine g_ret ?_)
    all_goals first | rfl | (exfalso; omega)
  | true =>
    obtain ⟨m, x, y, rfl, rfl, rfl, hm8, h4, ho, hx, hy, hg⟩ := cpB_facts hb
    unfold trpV
    rw [hb, if_pos rfl, Int.toNat_natCast, Int.toNat_natCast, Int.toNat_natCast]
    rw [hb] at h1
    have h5 := itrans_c m ops x y hm8 (by omega) ho hx hy
    have hmm : m * m ≤ 64 := Nat.le_trans (Nat.mul_le_mul hm8 hm8) (by decide)
    have htl := trH_len m ops x y
    have hbl : ((trH m ops x y).map B).length = m * m := by rw [List.length_map, trH_len]
    repeat' (first
| refine g_seq ?_
| refine g_block ?_
| refine g_region ?_
| (refine o_go rfl ?_; (first
| refine p_p (ps_call rfl rfl aC (h1)) ?_
| refine p_p (ps_call rfl rfl aC (h5)) ?_
| refine p_p (ps_move rfl) ?_
| refine p_p (ps_assign rfl) ?_
| refine p_p (ps_load_agg rfl rfl aK) ?_
| refine p_p (ps_lenM rfl rfl rfl) ?_
| refine p_p (ps_not rfl rfl) ?_
| refine p_e rfl (e_lit0 rfl (by decide)) ?_
| refine p_p (ps_box rfl rfl) ?_); refine ⟨_, aA, ?_⟩)
| refine o_nil ?_
| refine g_condF rfl ?_
| refine g_skip ?_)
    all_goals try (exfalso; omega)
    refine g_loopF (α := Nat) [17] (fun i => [(8, .hp 0), (23, I (i : Int))]) (fun i => [prOF (trK m ops x y i)]) (fun i => i ≤ m * m) (fun i => m * m - i) 0 aH (Nat.zero_le _) ⟨rfl, rfl, trivial⟩ rfl ?_
    rintro i hi
    dsimp only [setMany, List.set_cons_zero, List.set_cons_succ]
    by_cases him : i < m * m
    · have hix : ((trH m ops x y).map B)[((i : Nat) : Int).toNat]? = some (B (decide (i / m ≤ i % m) && trB m ops x y (i / m) (i % m))) := by
        rw [Int.toNat_natCast, List.getElem?_map]
        unfold trH
        rw [List.getElem?_map, List.getElem?_range him]; rfl
      have hd : (i : Int) / (m : Int) = ((i / m : Nat) : Int) := by omega
      have hr : (i : Int) % (m : Int) = ((i % m : Nat) : Int) := by omega
      have hsc := trK_succ (n := m) (ops := ops) (x := x) (y := y) (k := i)
      have hlen := trK_len (n := m) (ops := ops) (x := x) (y := y) (k := i)
      have hll : ((trK m ops x y i).map prP).length = (trK m ops x y i).length := List.length_map _
      have hd0 : (0 : Int) ≤ ((i / m : Nat) : Int) := Int.natCast_nonneg _
      have hr0 : (0 : Int) ≤ ((i % m : Nat) : Int) := Int.natCast_nonneg _
      cases hv : (decide (i / m ≤ i % m) && trB m ops x y (i / m) (i % m)) with
      | false =>
        rw [hv] at hix
        have hno : (decide (i / m < i % m) && trB m ops x y (i / m) (i % m)) = false := by
          rw [Bool.and_eq_false_iff] at hv ⊢
          rcases hv with h | h
          · left; have := of_decide_eq_false h; exact decide_eq_false (by omega)
          · exact .inr h
        rw [hno, if_neg (by decide), List.append_nil] at hsc
        repeat' (first
| refine g_seq ?_
| refine g_block ?_
| refine g_region ?_
| refine g_region_draw (by kernel_rfl) (by kernel_rfl) ?_
| (refine o_go rfl ?_; (first
| refine p_p (ps_index rfl rfl rfl (by omega) hix (by exact rfl)) ?_
| refine p_p (ps_move rfl) ?_
| refine p_p (ps_assign rfl) ?_
| refine p_p (ps_load_cell rfl rfl) ?_
| refine p_p (ps_lss rfl rfl rfl) ?_
| refine p_p (ps_add rfl rfl rfl aM) ?_
| refine p_p (ps_pick rfl rfl) ?_); refine ⟨_, aA, ?_⟩)
| refine o_nil ?_
| (refine o_s rfl ?_; refine ⟨_, aA, ?_⟩)
| refine g_condF rfl ?_
| (refine g_condD rfl (fun hc => ?_) (fun hc => ?_) <;> try (exfalso; omega))
| refine g_skip ?_)
        all_goals try (exfalso; omega)
        refine k_round (i + 1) (by omega) (by omega) aI ⟨rfl, rfl, trivial⟩ (hpLe_cons ?_ (hpLe_nil _))
        rw [hsc]
      | true =>
        rw [hv] at hix
        rw [Bool.and_eq_true, decide_eq_true_eq] at hv
        generalize hdq : i / m = d at *
        generalize hrq : i % m = r at *
        by_cases hne : d = r
        · rw [decide_eq_false (by omega), Bool.false_and, if_neg (by decide), List.append_nil] at hsc
          repeat' (first
| refine g_seq ?_
| refine g_block ?_
| refine g_region ?_
| refine g_region_draw (by kernel_rfl) (by kernel_rfl) ?_
| (refine o_go rfl ?_; (first
| refine p_p (ps_index rfl rfl rfl (by omega) hix (by exact rfl)) ?_
| refine p_p (ps_quoV rfl rfl rfl hd (by omega) (by omega) (by omega)) ?_
| refine p_p (ps_remV rfl rfl rfl hr (by omega) (by omega)) ?_
| refine p_p (ps_move rfl) ?_
| refine p_p (ps_assign rfl) ?_
| refine p_p (ps_load_cell rfl rfl) ?_
| refine p_p (ps_lss rfl rfl rfl) ?_
| refine p_p (ps_add rfl rfl rfl aM) ?_
| refine p_p (ps_fieldAddr rfl rfl) ?_
| refine p_p (ps_pick rfl rfl) ?_
| refine p_p (ps_neq rfl rfl rfl) ?_); refine ⟨_, aA, ?_⟩)
| refine o_nil ?_
| (refine g_condN rfl (fun hc => ?_) (fun hc => ?_) <;> try (exfalso; omega))
| (refine g_condD rfl (fun hc => ?_) (fun hc => ?_) <;> try (exfalso; omega))
| refine g_skip ?_)
          all_goals try (exfalso; omega)
          refine k_round (i + 1) (by omega) (by omega) aI ⟨rfl, rfl, trivial⟩ (hpLe_cons ?_ (hpLe_nil _))
          rw [hsc]
        · rw [decide_eq_true (by omega), hv.2, Bool.true_and, if_pos rfl] at hsc
          repeat' (first
| refine g_seq ?_
| refine g_block ?_
| refine g_region ?_
| refine g_region_draw (by kernel_rfl) (by kernel_rfl) ?_
| (refine o_go rfl ?_; (first
| refine p_p (ps_index rfl rfl rfl (by omega) hix (by exact rfl)) ?_
| refine p_p (ps_quoV rfl rfl rfl hd (by omega) (by omega) (by omega)) ?_
| refine p_p (ps_remV rfl rfl rfl hr (by omega) (by omega)) ?_
| refine p_p (ps_buildArr rfl rfl) ?_
| refine p_p (ps_litA [I (d : Int), I (r : Int)] rfl rfl (by rfl) (by decide) (by decide)) ?_
| refine p_e (by kernel_rfl) (e_append rfl rfl rfl rfl rfl rfl (one_ag rfl) rfl aO aO) ?_
| refine p_p (ps_move rfl) ?_
| refine p_p (ps_assign rfl) ?_
| refine p_p (ps_load_cell rfl rfl) ?_
| refine p_p (ps_lss rfl rfl rfl) ?_
| refine p_p (ps_add rfl rfl rfl aM) ?_
| refine p_p (ps_fieldAddr rfl rfl) ?_
| refine p_p (ps_pick rfl rfl) ?_
| refine p_p (ps_neq rfl rfl rfl) ?_); refine ⟨_, aA, ?_⟩)
| refine o_nil ?_
| (refine g_condN rfl (fun hc => ?_) (fun hc => ?_) <;> try (exfalso; omega))
| (refine g_condD rfl (fun hc => ?_) (fun hc => ?_) <;> try (exfalso; omega))
| refine g_skip ?_)
          all_goals try (exfalso; omega)
          refine k_round (i + 1) (by omega) (by omega) aI ⟨rfl, rfl, trivial⟩ (hpLe_cons ?_ (hpLe_nil _))
          rw [hsc]
          show HO.arr false 2 _ _ = HO.arr false 2 _ ((trK m ops x y i ++ [(d, r)]).map prP)
          rw [List.map_append]; rfl
    · repeat' (first
| refine g_seq ?_
| refine g_region ?_
| (refine o_go rfl ?_; (first
| refine p_p (ps_move rfl) ?_
| refine p_p (ps_assign rfl) ?_
| refine p_p (ps_lss rfl rfl rfl) ?_); refine ⟨_, aA, ?_⟩)
| refine o_nil ?_
| (refine g_condD rfl (fun hc => ?_) (fun hc => ?_) <;> try (exfalso; omega))
| refine kr2 ?_ ?_
| refine krB rfl ?_
| refine krS rfl ?_
| refine g_exit ?_
| refine g_ret ?_)
      all_goals try (exfalso; omega)
      all_goals first | rfl | (rw [show i = m * m by omega]; done) | (rw [show i = m * m by omega]; rfl)
/-! ### Steps of the way -/
section
variable {lk : Nat → Nat → Bool} {n v : Nat}
theorem way_next (hv : v < n) (hs : ∀ a b, lk a b = lk b a) : ∀ (d u : Nat), u < n → (farL lk n v).getD u 0 = (d : Int) → ∀ k, k ≤ d → (wayE lk n v d u).getD k 0 < n ∧ (farL lk n v).getD ((wayE lk n v d u).getD k 0) 0 = ((d - k : Nat) : Int) ∧ (k < d → (wayE lk n v d u).getD (k + 1) 0 = nxtE lk n v ((wayE lk n v d u).getD k 0))
  | 0, u, hu, h, k, hk => by
    have : k = 0 := by omega
    subst this
    exact ⟨hu, h, fun h => absurd h (Nat.not_lt_zero _)⟩
  | d + 1, u, hu, h, k, hk => by
    obtain ⟨g1, g2, -, -⟩ := nxt_spec hv hs hu (by omega)
    cases k with
    | zero =>
      refine ⟨hu, h, fun _ => ?_⟩
      show (wayE lk n v d (nxtE lk n v u)).getD 0 0 = nxtE lk n v u
      cases d <;> rfl
    | succ k =>
      obtain ⟨i1, i2, i3⟩ := way_next hv hs d (nxtE lk n v u) g1 (by omega) k (by omega)
      exact ⟨i1, by rw [show d + 1 - (k + 1) = d - k by omega]; exact i2, fun h => i3 (by omega)⟩
theorem bInn_at (hv : v < n) {m : Nat} (hm : m < (bRun lk n v m).1.length) {s : Nat} (hs : s ≤ n) : BInv lk n v (bInn lk ((bRun lk n v m).1.getD m 0) (bRun lk n v m) s) ∧ (bInn lk ((bRun lk n v m).1.getD m 0) (bRun lk n v m) s).1[m]? = some ((bRun lk n v m).1.getD m 0) := by
  have hI := (bRun_inv (lk := lk) hv m).1
  have hc : (bRun lk n v m).1.getD m 0 ∈ (bRun lk n v m).1 := by rw [List.getD_eq_getElem?_getD, List.getElem?_eq_getElem hm]; exact List.getElem_mem _
  obtain ⟨h1, ⟨⟨l, hl⟩, -⟩, -⟩ := bInn_inv hI hc s hs
  refine ⟨h1, ?_⟩
  rw [hl, List.getElem?_append_left hm, List.getElem?_eq_getElem hm, List.getD_eq_getElem?_getD, List.getElem?_eq_getElem hm]; rfl
theorem bRun_next {m : Nat} (hm : m < (bRun lk n v m).1.length) : bRun lk n v (m + 1) = bInn lk ((bRun lk n v m).1.getD m 0) (bRun lk n v m) n := by
  rw [bRun, if_pos hm]
end
end Go.Proofs.Ytkdagmbgjddopaa
