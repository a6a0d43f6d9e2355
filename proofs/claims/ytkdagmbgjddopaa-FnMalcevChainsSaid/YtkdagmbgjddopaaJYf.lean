/- The law of Mal'cev chains, the part behind the chain. -/
import Derived.Test.YtkdagmbgjddopaaJYe
import Derived.Test.YtkdagmbgjddopaaJYc
import Derived.Test.YtkdagmbgjddopaaJNq
namespace Go.Proofs.Ytkdagmbgjddopaa
open Go Go.Pv Go.Proofs
set_option maxHeartbeats 32000000
set_option maxRecDepth 100000
attribute [local bitvec_to_nat] St.put St.setObj St.ev killP killA killP1 killH mapHO renP renA ren1 killG killGA killG1 krowP krowA krow1 lendP lendA lend1 unv pinP pin1 elemsM viewM viewN viewV n_set_z n_set_s n_map_c n_map_n getD_z getD_s n_toNat n_cond_t n_cond_f n_len_c n_len_n n_app_c n_app_n n_take_s n_take_z n_drop_s n_drop_z n_get_z n_get_s view viewA view1 elems Nat.zero_add Nat.add_zero Bool.not_true Bool.not_false Nat.one_ne_zero Nat.mul_one

theorem mc_t31 (n : Int) (ops : List OpD) (x y : Int) (hs : szOk ops) (hz : szN n) :
    Goal Try.prog (tailAt 31 (bodyC Try.f3)) (KRets [2] [B true]) ⟨setMany (List.replicate 313 .any) [(3, .ptr [I n, opsP ops]), (12, ints (cpV n ops x y)), (13, B (cpB n ops x y))], []⟩ := by
  conv => arg 2; whnf
  simp only [List.replicate_succ, List.replicate_zero]
  dsimp only [setMany, List.set_cons_zero, List.set_cons_succ]
  cases hb : cpB n ops x y with
  | false =>
    repeat' (first
| refine g_seq ?_
| refine g_region ?_
| (refine o_go rfl ?_; (first
| refine p_p (ps_move rfl) ?_
| refine p_p (ps_assign rfl) ?_
| refine p_p (ps_not rfl rfl) ?_); refine ⟨_, aA, ?_⟩)
| refine o_nil ?_
| refine g_condT rfl ?_
| refine kr1 ?_
| refine krB rfl ?_
| refine g_ret ?_)
    all_goals first | rfl | (exfalso; omega)
  | true =>
    obtain ⟨m, x, y, rfl, rfl, rfl, hm8, h4, ho, hx, hy, hg⟩ := cpB_facts hb
    have hm5 : m ≤ 5 := by unfold szN at hz; omega
    have hac : acB m ops = true := by
      have := allL_few hm5 ops
      unfold acB
      rw [hg, Int.toNat_natCast, decide_eq_true (by omega)]; rfl
    have hcl := cg_lst ho hx hy
    have hpart := mc_t33 m ops (cgL m ops x y) (by omega) hm8 hs ho hac (allL_mem.2 ⟨hcl.pt, hcl.cong⟩)
    rw [show cpV (m : Int) ops x y = cgL m ops x y by unfold cpV; rw [hb, if_pos rfl, Int.toNat_natCast, Int.toNat_natCast, Int.toNat_natCast]]
    repeat' ((fail_if_success (refine at_reg1 33 ?_)); (first
| refine g_seq ?_
| refine g_region ?_
| (refine o_go rfl ?_; (first
| refine p_p (ps_move rfl) ?_
| refine p_p (ps_not rfl rfl) ?_); refine ⟨_, aA, ?_⟩)
| refine o_nil ?_
| refine g_condF rfl ?_
| refine g_skip ?_))
    all_goals try (exfalso; omega)
    exact g_tail rfl ⟨aI, hpLe_nil _⟩ hpart
def fndK (K : List (Nat × Nat)) (a b k : Nat) : Bool := (List.range k).any fun j => decide (K.getD j (0, 0) = (a, b)) || decide (K.getD j (0, 0) = (b, a))
theorem fndK_succ (K : List (Nat × Nat)) (a b k : Nat) : fndK K a b (k + 1) = (fndK K a b k || (decide (K.getD k (0, 0) = (a, b)) || decide (K.getD k (0, 0) = (b, a)))) := by
  unfold fndK; rw [List.range_succ, List.any_append]; simp
theorem fndK_full {K : List (Nat × Nat)} {a b : Nat} (h : (a, b) ∈ K ∨ (b, a) ∈ K) : fndK K a b K.length = true := by
  have key : ∀ q, q ∈ K → ∃ j, j < K.length ∧ K.getD j (0, 0) = q := fun q hq => by
    obtain ⟨j, hj, rfl⟩ := List.getElem_of_mem hq
    exact ⟨j, hj, by rw [List.getD_eq_getElem?_getD, List.getElem?_eq_getElem hj]; rfl⟩
  refine List.any_eq_true.2 ?_
  rcases h with h | h
  · obtain ⟨j, hj, e⟩ := key _ h
    exact ⟨j, List.mem_range.2 hj, by rw [e]; simp⟩
  · obtain ⟨j, hj, e⟩ := key _ h
    exact ⟨j, List.mem_range.2 hj, by rw [e]; simp⟩
theorem mc_t14 (n : Int) (ops : List OpD) (x y u v : Int) (hs : szOk ops) (hz : szN n) :
    Goal Try.prog (tailAt 14 (bodyC Try.f3)) (KRets [2] [B true]) ⟨setMany (List.replicate 313 .any) [(3, .ptr [I n, opsP ops]), (4, I x), (5, I y), (6, I u), (7, I v), (8, ints (chV n ops x y u v).1), (9, B (chV n ops x y u v).2), (12, ints (cpV n ops x y)), (13, B (cpB n ops x y))], []⟩ := by
  conv => arg 2; whnf
  simp only [List.replicate_succ, List.replicate_zero]
  dsimp only [setMany, List.set_cons_zero, List.set_cons_succ]
  have hpart := mc_t31 n ops x y hs hz
  by_cases hok : (chV n ops x y u v).2 = true
  · have hcb : ccB n ops x y u v = true := by
      cases h : ccB n ops x y u v with
      | true => rfl
      | false => unfold chV at hok; rw [h] at hok; cases hok
    rw [hok]
    obtain ⟨m, x, y, u, v, rfl, rfl, rfl, rfl, rfl, hm8, h4, ho, hx, hy, hu, hv, hg, hc1, hc2⟩ := ccB_facts hcb
    have t1 := itp_c m ops x y hs
    have t2 := strp_c m ops x y hs
    rw [show trpV (m : Int) ops x y = trK m ops x y (m * m) by unfold trpV; rw [hc1, if_pos rfl]; rfl, hc1] at t1 t2
    have hsym : ∀ a b, trB m ops x y a b = trB m ops x y b a := trB_symm
    have hch : chV (m : Int) ops x y u v = chN m ops x y u v := by unfold chV; rw [hcb, if_pos rfl]; rfl
    rw [hch] at hok ⊢
    have hfar : ¬ (farL (trB m ops x y) m v).getD u 0 < 0 := fun h => by unfold chN at hok; rw [if_pos h] at hok; cases hok
    obtain ⟨d, hd⟩ : ∃ d : Nat, (farL (trB m ops x y) m v).getD u 0 = d := ⟨((farL (trB m ops x y) m v).getD u 0).toNat, by omega⟩
    rw [show (chN m ops x y u v).1 = (wayE (trB m ops x y) m v d u).map (fun (z : Nat) => (z : Int)) by unfold chN; rw [if_neg hfar, hd]; rfl]
    obtain ⟨w0, w1, w2, w3⟩ := way_facts hv hsym d u hu hd
    have hWl := way_len (lk := trB m ops x y) (n := m) (v := v) d u
    have hfb : (farL (trB m ops x y) m v).getD u 0 < (m : Int) := by
      obtain ⟨hF, -⟩ := far_facts (lk := trB m ops x y) hv
      have h1 : (farL (trB m ops x y) m v).getD u 0 < _ := (hF.neg u hu).2
      have h2 := nodup_lt_len hF.nd hF.lt
      omega
    have hin : ∀ i, i < d → ((wayE (trB m ops x y) m v d u).getD i 0, (wayE (trB m ops x y) m v d u).getD (i + 1) 0) ∈ trK m ops x y (m * m) ∨ ((wayE (trB m ops x y) m v d u).getD (i + 1) 0, (wayE (trB m ops x y) m v d u).getD i 0) ∈ trK m ops x y (m * m) := fun i hi => by
      obtain ⟨l1, l2⟩ := w3 i hi
      have hm : ∀ j, j ≤ d → (wayE (trB m ops x y) m v d u).getD j 0 < m := fun j hj => w2 _ (by rw [List.getD_eq_getElem?_getD, List.getElem?_eq_getElem (by omega)]; exact List.getElem_mem _)
      have ha := hm i (by omega)
      have hb := hm (i + 1) (by omega)
      rcases Nat.lt_or_gt_of_ne l2 with h | h
      · exact .inl (trK_mem ha hb h (trB_iff.1 l1))
      · exact .inr (trK_mem hb ha h (trB_iff.1 (by rw [hsym]; exact l1)))
    have hKl : (trK m ops x y (m * m)).length ≤ 64 := Nat.le_trans trK_len (Nat.le_trans (Nat.mul_le_mul hm8 hm8) (by decide))
    generalize trK m ops x y (m * m) = K at *
    generalize wayE (trB m ops x y) m v d u = W at *
    have hat : ∀ i, i < W.length → ((W.map fun (z : Nat) => (z : Int)).map I)[((i : Nat) : Int).toNat]? = some (I (W.getD i 0 : Int)) := fun i hi => by
      rw [Int.toNat_natCast, List.getElem?_map, List.getElem?_map, List.getElem?_eq_getElem hi, List.getD_eq_getElem?_getD, List.getElem?_eq_getElem hi]; rfl
    have hWm : (W.map fun (z : Nat) => (z : Int)).length = d + 1 := by rw [List.length_map]; exact hWl
    have hq0 := hat 0 (by omega)
    rw [w0] at hq0
    have hqd := hat d (by omega)
    rw [w1] at hqd
    have hsubd : ((W.map fun (z : Nat) => (z : Int)).length : Int) - 1 = (d : Int) := by omega
    have hlast : (W.map fun (z : Nat) => (z : Int)).getD (((W.map fun (z : Nat) => (z : Int)).length : Int) - 1).toNat 0 = (v : Int) := by
      have h := idx_I (l := W.map fun (z : Nat) => (z : Int)) (i := d) (by omega)
      rw [Int.toNat_natCast] at hqd
      rw [hqd] at h
      rw [hsubd, Int.toNat_natCast]
      simpa using h.symm
    repeat' (first
| refine g_seq ?_
| refine g_block ?_
| refine g_region ?_
| (refine o_go rfl ?_; (first
| refine p_p (ps_call rfl rfl aC (t1)) ?_
| refine p_p (ps_call rfl rfl aC (t2)) ?_
| refine p_p (ps_neqBY rfl rfl rfl (by rfl)) ?_
| refine p_p (ps_index rfl rfl rfl (by decide) hq0 (by exact rfl)) ?_
| refine p_p (ps_move rfl) ?_
| refine p_p (ps_assign rfl) ?_
| refine p_p (ps_load_cell rfl rfl) ?_
| refine p_p (ps_load_agg rfl rfl aK) ?_
| refine p_p (ps_index rfl rfl rfl (by omega) aN (by exact rfl)) ?_
| refine p_p (ps_lenM rfl rfl rfl) ?_
| refine p_p (ps_extract rfl rfl rfl) ?_
| refine p_p (ps_not rfl rfl) ?_
| refine p_p (ps_pick rfl rfl) ?_
| refine p_p (ps_eql rfl rfl rfl) ?_
| refine p_p (ps_neq rfl rfl rfl) ?_
| refine p_p (ps_sub rfl rfl rfl aM) ?_); refine ⟨_, aA, ?_⟩)
| refine o_nil ?_
| (refine o_s rfl ?_; refine ⟨_, aA, ?_⟩)
| (refine o_splitD rfl rfl rfl (fun hc => ?_) (fun hc => ?_) <;> first | (exfalso; omega) | dsimp only [List.set_cons_zero, List.set_cons_succ])
| (refine o_splitN rfl rfl rfl (fun hc => ?_) (fun hc => ?_) <;> dsimp only [List.set_cons_zero, List.set_cons_succ])
| refine g_condT rfl ?_
| (refine g_condN rfl (fun hc => ?_) (fun hc => ?_) <;> try (exfalso; omega))
| refine kr1 ?_
| refine krB rfl ?_
| refine g_skip ?_
| refine g_ret ?_)
    all_goals try (exfalso; first | omega | exact hc hlast | (simp at hc; done))
    refine g_loopT (α := Nat) (fun i => [(20, I (i : Int))]) (fun _ => []) (fun i => i ≤ d) (fun i => d - i) 0 aH (Nat.zero_le _) ⟨rfl, trivial⟩ rfl ?_
    rintro i hi
    dsimp only [setMany, List.set_cons_zero, List.set_cons_succ]
    by_cases hid : i < d
    · have hi1 := hat i (by omega)
      have hi2 := hat (i + 1) (by omega)
      have hfull := fndK_full (hin i hid)
      have hidx : (i : Int) + 1 = ((i + 1 : Nat) : Int) := by omega
      generalize W.getD i 0 = a at *
      generalize W.getD (i + 1) 0 = b at *
      repeat' (first
| refine g_seq ?_
| refine g_block ?_
| refine g_region ?_
| (refine o_go rfl ?_; (first
| refine p_p (ps_move rfl) ?_
| refine p_p (ps_assign rfl) ?_
| refine p_p (ps_lenM rfl rfl rfl) ?_
| refine p_p (ps_lss rfl rfl rfl) ?_
| refine p_p (ps_add rfl rfl rfl aM) ?_); refine ⟨_, aA, ?_⟩)
| refine o_nil ?_
| (refine g_condD rfl (fun hc => ?_) (fun hc => ?_) <;> try (exfalso; omega))
| refine g_skip ?_)
      all_goals try (exfalso; omega)
      refine g_loopT (α := Nat) (fun k => [(21, B (fndK K a b k)), (22, I (k : Int))]) (fun _ => []) (fun k => k ≤ K.length) (fun k => K.length - k) 0 aH (Nat.zero_le _) ⟨rfl, rfl, trivial⟩ rfl ?_
      rintro k hk
      dsimp only [setMany, List.set_cons_zero, List.set_cons_succ]
      by_cases hkl : k < K.length
      · have hfs := fndK_succ K a b k
        have hqk : (K.map fun xy => PV.agg [I (xy.1 : Int), I (xy.2 : Int)])[((k : Nat) : Int).toNat]? = some (.agg [I ((K.getD k (0, 0)).1 : Int), I ((K.getD k (0, 0)).2 : Int)]) := by
          rw [Int.toNat_natCast, List.getElem?_map, List.getElem?_eq_getElem hkl, List.getD_eq_getElem?_getD, List.getElem?_eq_getElem hkl]; rfl
        obtain ⟨s, t, hde⟩ : ∃ s t, K.getD k (0, 0) = (s, t) := ⟨_, _, rfl⟩
        rw [hde] at hqk hfs
        have e0 : (!(decide ((s : Int) = (s : Int)) && decide ((t : Int) = (t : Int)))) = false := by simp
        have e1 : (decide ((s : Int) = (a : Int)) && decide ((t : Int) = (b : Int))) = decide ((s, t) = (a, b)) := by rw [Bool.eq_iff_iff]; simp; omega
        have e2 : (decide ((s : Int) = (b : Int)) && decide ((t : Int) = (a : Int))) = decide ((s, t) = (b, a)) := by rw [Bool.eq_iff_iff]; simp; omega
        cases hf : fndK K a b k with
        | true =>
          rw [hf, Bool.true_or] at hfs
          repeat' (first
| refine g_seq ?_
| refine g_block ?_
| refine g_region ?_
| refine g_region_draw (by kernel_rfl) (by kernel_rfl) ?_
| (refine o_go rfl ?_; (first
| refine p_p (ps_index rfl rfl rfl (by omega) hqk (by exact rfl)) ?_
| refine p_p (ps_neqPr rfl rfl rfl e0) ?_
| refine p_p (ps_move rfl) ?_
| refine p_p (ps_assign rfl) ?_
| refine p_p (ps_load_agg rfl rfl aK) ?_
| refine p_p (ps_lenM rfl rfl rfl) ?_
| refine p_p (ps_lss rfl rfl rfl) ?_
| refine p_p (ps_add rfl rfl rfl aM) ?_
| refine p_p (ps_pick rfl rfl) ?_); refine ⟨_, aA, ?_⟩)
| refine o_nil ?_
| (refine o_s rfl ?_; refine ⟨_, aA, ?_⟩)
| refine g_condF rfl ?_
| (refine g_condD rfl (fun hc => ?_) (fun hc => ?_) <;> try (exfalso; omega))
| refine g_skip ?_)
          all_goals try (exfalso; omega)
          exact k_round (k + 1) (by omega) (by omega) aI ⟨by rw [hfs]; rfl, rfl, trivial⟩ (hpLe_nil _)
        | false =>
          rw [hf, Bool.false_or] at hfs
          by_cases g1 : (s, t) = (a, b)
          · rw [decide_eq_true g1] at e1 hfs
            rw [Bool.true_or] at hfs
            repeat' (first
| refine g_seq ?_
| refine g_block ?_
| refine g_region ?_
| refine g_region_draw (by kernel_rfl) (by kernel_rfl) ?_
| (refine o_go rfl ?_; (first
| refine p_p (ps_index rfl rfl rfl (by omega) hqk (by exact rfl)) ?_
| refine p_p (ps_neqPr rfl rfl rfl e0) ?_
| refine p_p (ps_addV rfl rfl rfl hidx (by omega)) ?_
| refine p_p (ps_index rfl rfl rfl (by omega) hi1 (by exact rfl)) ?_
| refine p_p (ps_index rfl rfl rfl (by omega) hi2 (by exact rfl)) ?_
| refine p_p (ps_buildArr rfl rfl) ?_
| refine p_p (ps_eqlPr rfl rfl rfl e1) ?_
| refine p_p (ps_move rfl) ?_
| refine p_p (ps_assign rfl) ?_
| refine p_p (ps_load_cell rfl rfl) ?_
| refine p_p (ps_load_agg rfl rfl aK) ?_
| refine p_p (ps_lenM rfl rfl rfl) ?_
| refine p_p (ps_lss rfl rfl rfl) ?_
| refine p_p (ps_add rfl rfl rfl aM) ?_
| refine p_p (ps_pick rfl rfl) ?_); refine ⟨_, aA, ?_⟩)
| refine o_nil ?_
| (refine o_s rfl ?_; refine ⟨_, aA, ?_⟩)
| refine g_condF rfl ?_
| (refine g_condD rfl (fun hc => ?_) (fun hc => ?_) <;> try (exfalso; omega))
| refine g_skip ?_)
            all_goals try (exfalso; omega)
            exact k_round (k + 1) (by omega) (by omega) aI ⟨by rw [hfs]; rfl, rfl, trivial⟩ (hpLe_nil _)
          · rw [decide_eq_false g1] at e1 hfs
            rw [Bool.false_or] at hfs
            repeat' (first
| refine g_seq ?_
| refine g_block ?_
| refine g_region ?_
| refine g_region_draw (by kernel_rfl) (by kernel_rfl) ?_
| (refine o_go rfl ?_; (first
| refine p_p (ps_index rfl rfl rfl (by omega) hqk (by exact rfl)) ?_
| refine p_p (ps_neqPr rfl rfl rfl e0) ?_
| refine p_p (ps_addV rfl rfl rfl hidx (by omega)) ?_
| refine p_p (ps_index rfl rfl rfl (by omega) hi1 (by exact rfl)) ?_
| refine p_p (ps_index rfl rfl rfl (by omega) hi2 (by exact rfl)) ?_
| refine p_p (ps_buildArr rfl rfl) ?_
| refine p_p (ps_eqlPr rfl rfl rfl e1) ?_
| refine p_p (ps_eqlPr rfl rfl rfl e2) ?_
| refine p_p (ps_move rfl) ?_
| refine p_p (ps_assign rfl) ?_
| refine p_p (ps_load_cell rfl rfl) ?_
| refine p_p (ps_load_agg rfl rfl aK) ?_
| refine p_p (ps_lenM rfl rfl rfl) ?_
| refine p_p (ps_lss rfl rfl rfl) ?_
| refine p_p (ps_add rfl rfl rfl aM) ?_
| refine p_p (ps_pick rfl rfl) ?_); refine ⟨_, aA, ?_⟩)
| refine o_nil ?_
| refine g_condF rfl ?_
| (refine g_condD rfl (fun hc => ?_) (fun hc => ?_) <;> try (exfalso; omega))
| refine g_skip ?_)
            all_goals try (exfalso; omega)
            exact k_round (k + 1) (by omega) (by omega) aI ⟨by rw [hfs]; rfl, rfl, trivial⟩ (hpLe_nil _)
      · rw [show k = K.length by omega, hfull]
        repeat' (first
| refine g_seq ?_
| refine g_region ?_
| (refine o_go rfl ?_; (first
| refine p_p (ps_move rfl) ?_
| refine p_p (ps_assign rfl) ?_
| refine p_p (ps_lenM rfl rfl rfl) ?_
| refine p_p (ps_lss rfl rfl rfl) ?_
| refine p_p (ps_add rfl rfl rfl aM) ?_
| refine p_p (ps_not rfl rfl) ?_); refine ⟨_, aA, ?_⟩)
| refine o_nil ?_
| refine g_condF rfl ?_
| (refine g_condD rfl (fun hc => ?_) (fun hc => ?_) <;> try (exfalso; omega))
| refine g_skip ?_
| refine g_exit ?_)
        all_goals try (exfalso; omega)
        exact k_round (K := fun _ _ => True) (i + 1) (by omega) (by omega) aI ⟨rfl, trivial⟩ (hpLe_nil _)
    · repeat' ((fail_if_success (refine at_reg 31 ?_)); (first
| refine g_seq ?_
| refine g_region ?_
| (refine o_go rfl ?_; (first
| refine p_p (ps_move rfl) ?_
| refine p_p (ps_lenM rfl rfl rfl) ?_
| refine p_p (ps_lss rfl rfl rfl) ?_
| refine p_p (ps_add rfl rfl rfl aM) ?_); refine ⟨_, aA, ?_⟩)
| refine o_nil ?_
| (refine g_condD rfl (fun hc => ?_) (fun hc => ?_) <;> try (exfalso; omega))
| refine g_exit ?_))
      all_goals try (exfalso; omega)
      exact g_tail rfl ⟨aI, hpLe_nil _⟩ hpart
  · have hokf : (chV n ops x y u v).2 = false := by simpa using hok
    rw [hokf]
    repeat' ((fail_if_success (refine at_reg 31 ?_)); (first
| refine g_seq ?_
| refine g_region ?_
| (refine o_go rfl ?_; (first
| refine p_p (ps_move rfl) ?_); refine ⟨_, aA, ?_⟩)
| refine o_nil ?_
| refine g_condF rfl ?_
| refine g_skip ?_))
    all_goals try (exfalso; omega)
    exact g_tail rfl ⟨aI, hpLe_nil _⟩ hpart
end Go.Proofs.Ytkdagmbgjddopaa
