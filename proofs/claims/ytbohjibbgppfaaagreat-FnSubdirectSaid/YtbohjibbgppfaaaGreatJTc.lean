/- Walks: lists of places whose meet is the identity, both sides; the subdirect list. -/
import Derived.Test.YtbohjibbgppfaaaGreatJTb
namespace Go.Proofs.YtbohjibbgppfaaaGreat
open Go Go.Pv Go.Proofs
set_option maxHeartbeats 32000000
set_option maxRecDepth 100000
attribute [local bitvec_to_nat] St.put St.setObj St.ev killP killA killP1 killH mapHO renP renA ren1 killG killGA killG1 krowP krowA krow1 lendP lendA lend1 unv pinP pin1 elemsM viewM viewN viewV n_set_z n_set_s n_map_c n_map_n getD_z getD_s n_toNat n_cond_t n_cond_f n_len_c n_len_n n_app_c n_app_n n_take_s n_take_z n_drop_s n_drop_z n_get_z n_get_s view viewA view1 elems Nat.zero_add Nat.add_zero Bool.not_true Bool.not_false Nat.one_ne_zero Nat.mul_one

def natsT (L : List Nat) : List Int := L.map fun (a : Nat) => (a : Int)
theorem natsT_at {L : List Nat} {x : Nat} (h : x < L.length) : ((natsT L).map I)[((x : Nat) : Int).toNat]? = some (I ((L.getD x 0 : Nat) : Int)) := by
  rw [Int.toNat_natCast, natsT, List.getElem?_map, List.getElem?_map, List.getElem?_eq_getElem h, List.getD_eq_getElem?_getD, List.getElem?_eq_getElem h]; rfl
theorem schs_c (n : Nat) (W : List (List Int)) (hn : n ≤ 1000) (hW : ∀ p ∈ W, Pt n p) (hl : W.length ≤ 1000) : ∀ (k fr : Nat) (met : List Int), Pt n met → k ≤ 1000 → fr ≤ W.length →
    PCalls Tryz.prog 167 [intss W, I (fr : Int), I (k : Int), ints met] (.tup [ints (natsT ((chs n W k fr met).getD [])), B (chs n W k fr met).isSome]) := by
  intro k
  induction k with
  | zero =>
    intro fr met hm hk hf
    refine pcalls2 Tryz.func167 rfl Tryz.ntmps167 rfl ?_
    refine wF ?_
    have c1 := scount_c n met (by omega) hm.okC
    have hml := hm.len
    by_cases hc0 : cnt n met = n
    · rw [show chs n W 0 fr met = some [] from if_pos hc0]
      repeat' (first
| refine wO ?_
| (refine o_go rfl ?_; (first
| refine p_p (zG rfl rfl aB (c1)) ?_
| refine p_p (ps_lits rfl (by exact rfl) (by exact rfl) aR (by decide) (by decide)) ?_
| refine wS ?_); refine ⟨_, aA, ?_⟩)
| refine kr2 ?_ ?_
| refine krB rfl ?_
| refine krS rfl ?_
| refine wE ?_)
      all_goals first | rfl | (exfalso; omega) | (rw [decide_eq_true (by omega)]; rfl) | (rw [decide_eq_true (by omega)])
    · rw [show chs n W 0 fr met = none from if_neg hc0]
      repeat' (first
| refine wO ?_
| (refine o_go rfl ?_; (first
| refine p_p (zG rfl rfl aB (c1)) ?_
| refine p_p (ps_lits rfl (by exact rfl) (by exact rfl) aR (by decide) (by decide)) ?_
| refine wS ?_); refine ⟨_, aA, ?_⟩)
| refine kr2 ?_ ?_
| refine krB rfl ?_
| refine krS rfl ?_
| refine wE ?_)
      all_goals first | rfl | (exfalso; omega) | (rw [decide_eq_false (by omega)]; rfl) | (rw [decide_eq_false (by omega)])
  | succ k ih =>
    intro fr met hm hk hf
    refine pcalls2 Tryz.func167 rfl Tryz.ntmps167 rfl ?_
    refine wF ?_
    repeat' (first
| refine wO ?_
| (refine o_go rfl ?_; (first
| refine wS ?_); refine ⟨_, aA, ?_⟩)
| refine wE ?_)
    all_goals try (exfalso; omega)
    refine g_loopT (α := Nat) (fun i => [(10, I (i : Int))]) (fun _ => []) (fun i => fr ≤ i ∧ i ≤ W.length ∧ ∀ j, fr ≤ j → j < i → chs n W k (j + 1) (meetP n met (W.getD j [])) = none) (fun i => W.length - i) fr aF ⟨Nat.le_refl _, hf, fun j h1 h2 => absurd h1 (by omega)⟩ ⟨rfl, trivial⟩ rfl ?_
    rintro i ⟨hfi, hi, hno⟩
    dsimp only [zZ, List.set_cons_zero, List.set_cons_succ]
    by_cases hil : i < W.length
    · have ri := rows_at hil
      have pi := hW _ (rows_mem hil)
      have m1 := smeet6_c n met (W.getD i []) hn hm pi
      have h2 := ih (i + 1) (meetP n met (W.getD i [])) meet_pt (by omega) (by omega)
      have a1 : (i : Int) + 1 = ((i + 1 : Nat) : Int) := by omega
      have a2 : ((k + 1 : Nat) : Int) - 1 = (k : Int) := by omega
      cases hv : chs n W k (i + 1) (meetP n met (W.getD i [])) with
      | none =>
        rw [hv] at h2
        change PCalls _ _ _ (.tup [ints [], B false]) at h2
        repeat' (first
| refine wO ?_
| (refine o_go rfl ?_; (first
| refine p_p (ps_addV rfl rfl rfl a1 (by omega)) ?_
| refine p_p (ps_subV rfl rfl rfl a2 (by omega)) ?_
| refine p_p (zN rfl rfl rfl (by omega) ri (by exact rfl)) ?_
| refine p_p (zG rfl rfl aB (m1)) ?_
| refine p_p (zG rfl rfl aB (h2)) ?_
| refine wS ?_); refine ⟨_, aA, ?_⟩)
| (refine zK rfl (fun hc => ?_) (fun hc => ?_) <;> try (exfalso; omega))
| refine wE ?_)
        all_goals try (exfalso; omega)
        refine zT (i + 1) ⟨by omega, by omega, fun j h1 h2 => ?_⟩ (by omega) aI ⟨rfl, trivial⟩ (zM _)
        rcases Nat.lt_or_ge j i with h | h
        · exact hno j h1 h
        · rw [show j = i by omega]; exact hv
      | some L =>
        rw [hv] at h2
        obtain ⟨l1, l2, -⟩ := chs_len hv
        have hO : chs n W (k + 1) fr met = some (i :: L) := range_findSome_at hil (by rw [if_pos hfi, hv]; rfl) fun j hj => by
          split
          · rename_i h; rw [hno j h hj]; rfl
          · rfl
        rw [hO]
        change PCalls _ _ _ (.tup [ints (natsT L), B true]) at h2
        repeat' (first
| refine wO ?_
| (refine o_go rfl ?_; (first
| refine p_p (ps_addV rfl rfl rfl a1 (by omega)) ?_
| refine p_p (ps_subV rfl rfl rfl a2 (by omega)) ?_
| refine p_p (zN rfl rfl rfl (by omega) ri (by exact rfl)) ?_
| refine p_p (zG rfl rfl aB (m1)) ?_
| refine p_p (zG rfl rfl aB (h2)) ?_
| refine p_e rfl (e_lit1N rfl rfl rfl) ?_
| refine p_e (by kernel_rfl) (e_append rfl rfl rfl rfl rfl rfl (one_map (fun _ => rfl) _) rfl (by simp only [natsT, List.length_map, List.length_cons, List.length_nil]; omega) (by simp only [natsT, List.length_map, List.length_cons, List.length_nil]; omega)) ?_
| refine wS ?_); refine ⟨_, aA, ?_⟩)
| (refine zK rfl (fun hc => ?_) (fun hc => ?_) <;> try (exfalso; omega))
| refine kr2 ?_ ?_
| refine krB rfl ?_
| refine krS rfl ?_
| refine wE ?_)
        all_goals first | rfl | (exfalso; omega)
    · have hO : chs n W (k + 1) fr met = none := range_findSome_none fun j hj => by
        split
        · rename_i h; rw [hno j h (by omega)]; rfl
        · rfl
      rw [hO]
      repeat' (first
| refine wO ?_
| (refine o_go rfl ?_; (first
| refine p_p (ps_lits rfl (by exact rfl) (by exact rfl) aR (by decide) (by decide)) ?_
| refine wS ?_); refine ⟨_, aA, ?_⟩)
| (refine zK rfl (fun hc => ?_) (fun hc => ?_) <;> try (exfalso; omega))
| refine kr2 ?_ ?_
| refine krB rfl ?_
| refine krS rfl ?_
| refine wE ?_)
      all_goals first | rfl | (exfalso; omega)
theorem ssub10_c (m : Nat) (ops : List OpD) (hm0 : 0 < m) (hm8 : m ≤ 8) (hl : ops.length ≤ 1048576) (ho : opsIn m ops) (h : (allL m ops).length ≤ 200) : PCalls Tryz.prog 89 [algP m ops] (intss (sdL m (irrC m (allL m ops) (allL m ops)))) := by
  refine pcalls1 Tryz.func89 rfl Tryz.ntmps89 rfl ?_
  refine wF ?_
  have a1 := sirr6_c m ops hm0 hm8 hl ho h
  have a2 := sfull_c m (by omega)
  have hW : ∀ p ∈ irrC m (allL m ops) (allL m ops), Pt m p := fun p hp => fc_pt p (List.mem_filter.1 hp).1
  have hWl : (irrC m (allL m ops) (allL m ops)).length ≤ 200 := Nat.le_trans (List.length_filter_le _ _) h
  obtain ⟨k0, L0, hk0, hL0, -, -⟩ := sdO_some (irr_all ho)
  generalize irrC m (allL m ops) (allL m ops) = W at *
  have hch := schs_c m W (by omega) hW (by omega)
  repeat' (first
| refine wO ?_
| (refine o_go rfl ?_; (first
| refine p_p (zG rfl rfl aB (a1)) ?_
| refine wS ?_
| refine p_p (ps_load_agg rfl rfl aK) ?_
| refine p_p (ps_box rfl rfl) ?_); refine ⟨_, aA, ?_⟩))
  refine g_loopT (α := Nat) (fun k => [(4, I (k : Int))]) (fun _ => []) (fun k => k ≤ W.length + 1 ∧ ∀ j, j < k → chs m W j 0 (fullL m) = none) (fun k => W.length + 1 - k) 0 aF ⟨Nat.zero_le _, fun j hj => absurd hj (Nat.not_lt_zero _)⟩ ⟨rfl, trivial⟩ rfl ?_
  rintro k ⟨hk, hno⟩
  dsimp only [zZ, List.set_cons_zero, List.set_cons_succ]
  by_cases hkl : k ≤ W.length
  · have h2 := hch k 0 (fullL m) (full_pt m) (by omega) (by omega)
    cases hv : chs m W k 0 (fullL m) with
    | none =>
      rw [hv] at h2
      change PCalls _ _ [_, I 0, _, _] (.tup [ints [], B false]) at h2
      repeat' (first
| refine wO ?_
| (refine o_go rfl ?_; (first
| refine p_p (zG rfl rfl aB (a2)) ?_
| refine p_p (zG rfl rfl aB (h2)) ?_
| refine wS ?_); refine ⟨_, aA, ?_⟩)
| (refine zK rfl (fun hc => ?_) (fun hc => ?_) <;> try (exfalso; omega))
| refine wE ?_)
      all_goals try (exfalso; omega)
      refine zT (K := fun _ _ => True) (k + 1) ⟨by omega, fun j hj => ?_⟩ (by omega) aI ⟨rfl, trivial⟩ (zM _)
      rcases Nat.lt_or_ge j k with h | h
      · exact hno j h
      · rw [show j = k by omega]; exact hv
    | some L =>
      rw [hv] at h2
      obtain ⟨l1, l2, -⟩ := chs_len hv
      have hO : sdO m W = some L := range_findSome_at (by omega) hv hno
      rw [show sdL m W = L.map fun a => W.getD a [] by unfold sdL; rw [hO]; rfl]
      change PCalls _ _ [_, I 0, _, _] (.tup [ints (natsT L), B true]) at h2
      have hLl : (natsT L).length = L.length := List.length_map _
      repeat' (first
| refine wO ?_
| (refine o_go rfl ?_; (first
| refine p_p (zG rfl rfl aB (a2)) ?_
| refine p_p (zG rfl rfl aB (h2)) ?_
| refine p_e rfl (e_lit0T rfl (by decide)) ?_
| refine wS ?_); refine ⟨_, aA, ?_⟩)
| (refine zK rfl (fun hc => ?_) (fun hc => ?_) <;> try (exfalso; omega))
| refine wE ?_)
      all_goals try (exfalso; omega)
      refine g_loopF (α := Nat) [28] (fun x => [(7, .hp 0), (8, I (x : Int))]) (fun x => [.arr true 1 27 (((L.take x).map fun a => W.getD a []).map ints)]) (fun x => x ≤ L.length) (fun x => L.length - x) 0 aF (Nat.zero_le _) ⟨rfl, rfl, trivial⟩ rfl ?_
      rintro x hx
      dsimp only [zZ, List.set_cons_zero, List.set_cons_succ]
      have hll : (((L.take x).map fun a => W.getD a []).map ints).length = x := by simp; omega
      by_cases hxl : x < L.length
      · have hLx : L.getD x 0 ∈ L := by rw [List.getD_eq_getElem?_getD, List.getElem?_eq_getElem hxl]; exact List.getElem_mem hxl
        have hax := (l2 _ hLx).2
        have ix := natsT_at hxl
        have hs : (L.take (x + 1)).map (fun a => W.getD a []) = (L.take x).map (fun a => W.getD a []) ++ [W.getD (L.getD x 0) []] := by rw [take_snoc 0 hxl, List.map_append]; rfl
        have hrow := rows_at hax
        generalize L.getD x 0 = a at *
        generalize W.getD a [] = r at *
        repeat' (first
| refine wO ?_
| (refine o_go rfl ?_; (first
| refine p_p (zN rfl rfl rfl (by omega) ix (by exact rfl)) ?_
| refine p_p (zN rfl rfl rfl (by omega) hrow (by exact rfl)) ?_
| refine p_e (by kernel_rfl) (e_append rfl rfl rfl rfl rfl rfl (one_one rfl) rfl (by rw [hll, n_len_c, n_len_n]; omega) (by rw [hll, n_len_c, n_len_n]; omega)) ?_
| refine wS ?_
| refine p_p (ps_lit1 rfl rfl (by rfl) (by rfl)) ?_); refine ⟨_, aA, ?_⟩)
| (refine zK rfl (fun hc => ?_) (fun hc => ?_) <;> try (exfalso; omega))
| refine wE ?_)
        all_goals try (exfalso; omega)
        refine zT (x + 1) (by omega) (by omega) aI ⟨rfl, rfl, trivial⟩ (zB ?_ (zM _))
        rw [hs, List.map_append]; rfl
      · rw [List.take_of_length_le (by omega)]
        repeat' (first
| refine wO ?_
| (refine o_go rfl ?_; (first
| refine wS ?_); refine ⟨_, aA, ?_⟩)
| (refine zK rfl (fun hc => ?_) (fun hc => ?_) <;> try (exfalso; omega))
| refine kr1 ?_
| refine krS rfl ?_
| refine wE ?_)
        all_goals first | rfl | (exfalso; omega)
  · exfalso
    have := hno k0 (by omega)
    rw [this] at hL0; cases hL0
noncomputable def sbV (n : Int) (ops : List OpD) : List (List Int) := if acB n ops then sdL n.toNat (irrC n.toNat (allL n.toNat ops) (allL n.toNat ops)) else []
theorem acB_facts {n : Int} {ops : List OpD} (h : acB n ops = true) : ∃ m : Nat, n = m ∧ 0 < m ∧ m ≤ 8 ∧ ops.length ≤ 4 ∧ opsIn m ops ∧ algOk n ops = true ∧ (allL m ops).length ≤ 200 := by
  unfold acB at h
  rw [Bool.and_eq_true, decide_eq_true_eq] at h
  obtain ⟨hg, h2⟩ := h
  obtain ⟨m, rfl, hm0, hm8, h4, ho⟩ := algOk_facts hg
  rw [Int.toNat_natCast] at h2
  exact ⟨m, rfl, hm0, hm8, h4, ho, hg, h2⟩
theorem ssdl_c (n : Int) (ops : List OpD) (hs : szOk ops) : PCalls Tryz.prog 23 [algP n ops] (.tup [intss (sbV n ops), B (acB n ops)]) := by
  refine pcalls2 Tryz.func23 rfl Tryz.ntmps23 rfl ?_
  refine wF ?_
  have h1 := sfew_c n ops hs
  unfold sbV
  cases hb : acB n ops with
  | false =>
    rw [hb] at h1
    rw [if_neg Bool.false_ne_true]
    repeat' (first
| refine wO ?_
| (refine o_go rfl ?_; (first
| refine p_p (zG rfl rfl aB (h1)) ?_
| refine p_p (ps_lits rfl (by exact rfl) (by exact rfl) aR (by decide) (by decide)) ?_
| refine wS ?_
| refine p_p (ps_load_agg rfl rfl aK) ?_
| refine p_p (ps_box rfl rfl) ?_); refine ⟨_, aA, ?_⟩)
| refine kr2 ?_ ?_
| refine krB rfl ?_
| refine krS rfl ?_
| refine wE ?_)
    all_goals rfl
  | true =>
    rw [hb] at h1
    obtain ⟨m, rfl, hm0, hm8, h4, ho, hg, h2⟩ := acB_facts hb
    have h3 := ssub10_c m ops hm0 hm8 (by omega) ho h2
    rw [if_pos rfl, Int.toNat_natCast]
    repeat' (first
| refine wO ?_
| (refine o_go rfl ?_; (first
| refine p_p (zG rfl rfl aB (h1)) ?_
| refine p_p (zG rfl rfl aB (h3)) ?_
| refine wS ?_
| refine p_p (ps_load_agg rfl rfl aK) ?_
| refine p_p (ps_box rfl rfl) ?_); refine ⟨_, aA, ?_⟩)
| refine kr2 ?_ ?_
| refine krB rfl ?_
| refine krS rfl ?_
| refine wE ?_)
    all_goals rfl
end Go.Proofs.YtbohjibbgppfaaaGreat
