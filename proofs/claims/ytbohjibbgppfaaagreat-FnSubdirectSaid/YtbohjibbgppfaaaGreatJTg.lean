/- Walks: blocks, the reference's side; the first separating congruence, both sides; draws. -/
import Derived.Test.YtbohjibbgppfaaaGreatJTf
namespace Go.Proofs.YtbohjibbgppfaaaGreat
open Go Go.Pv Go.Proofs
set_option maxHeartbeats 32000000
set_option maxRecDepth 100000
attribute [local bitvec_to_nat] St.put St.setObj St.ev killP killA killP1 killH mapHO renP renA ren1 killG killGA killG1 krowP krowA krow1 lendP lendA lend1 unv pinP pin1 elemsM viewM viewN viewV n_set_z n_set_s n_map_c n_map_n getD_z getD_s n_toNat n_cond_t n_cond_f n_len_c n_len_n n_app_c n_app_n n_take_s n_take_z n_drop_s n_drop_z n_get_z n_get_s view viewA view1 elems Nat.zero_add Nat.add_zero Bool.not_true Bool.not_false Nat.one_ne_zero Nat.mul_one

def blX (n : Nat) (L : List (List Int)) (x : Nat) : List Int := L.map fun p => (natL n p).getD x 0
def blR (n : Nat) (L : List (List Int)) (k : Nat) : List (List Int) := (List.range k).map (blX n L)
theorem blR_succ (n : Nat) (L : List (List Int)) (k : Nat) : blR n L (k + 1) = blR n L k ++ [blX n L k] := range_snoc _ k
theorem nat_rowT {n : Nat} {p : List Int} {x : Nat} (h : x < n) : ((natL n p).map I)[((x : Nat) : Int).toNat]? = some (I ((natL n p).getD x 0)) := row_atY (by rw [nat_len]; exact h)
theorem slist10_c (m : Nat) (ops : List OpD) (L : List (List Int)) (hs : szOk ops) (hb : acsB (m : Int) ops L = true) (hm0 : 0 < m) (hm8 : m ≤ 8) (hL : ∀ p ∈ L, p ∈ allL m ops) (ho : opsIn m ops) : PCalls Tryz.prog 98 [algP m ops, intss L] (B true) := by
  refine pcalls1 Tryz.func98 rfl Tryz.ntmps98 rfl ?_
  refine wF ?_
  have hb2 := hb
  unfold acsB at hb2
  rw [Bool.and_eq_true, Bool.and_eq_true, decide_eq_true_eq] at hb2
  have h1 := sgood_c m ops hs
  rw [hb2.1] at h1
  have h20 := hb2.2.1
  repeat' (first
| refine wO ?_
| (refine o_go rfl ?_; (first
| refine p_p (zG rfl rfl aB (h1)) ?_
| refine wS ?_
| refine p_p (ps_load_agg rfl rfl aK) ?_
| refine p_p (ps_box rfl rfl) ?_); refine ⟨_, aA, ?_⟩)
| (refine zK rfl (fun hc => ?_) (fun hc => ?_) <;> try (exfalso; omega))
| refine wE ?_)
  all_goals try (exfalso; omega)
  refine g_loopT (α := Nat) (fun k => [(5, I (k : Int))]) (fun _ => []) (fun k => k ≤ L.length) (fun k => L.length - k) 0 aF (Nat.zero_le _) ⟨rfl, trivial⟩ rfl ?_
  rintro k hk
  dsimp only [zZ, List.set_cons_zero, List.set_cons_succ]
  by_cases hkl : k < L.length
  · have rk := rows_at hkl
    have pk := allL_mem.1 (hL _ (rows_mem hkl))
    have c1 := sis_c m ops (L.getD k []) hm0 hm8 hs.1 ho (by rw [pk.1.len]; omega)
    rw [(cgB_iff hm0 ho).2 pk] at c1
    repeat' (first
| refine wO ?_
| refine zP (by kernel_rfl) (by kernel_rfl) ?_
| (refine o_go rfl ?_; (first
| refine p_p (zN rfl rfl rfl (by omega) rk (by exact rfl)) ?_
| refine p_p (zG rfl rfl aB (c1)) ?_
| refine wS ?_
| refine p_p (ps_load_agg rfl rfl aK) ?_); refine ⟨_, aA, ?_⟩)
| (refine zK rfl (fun hc => ?_) (fun hc => ?_) <;> try (exfalso; omega))
| refine wE ?_)
    all_goals try (exfalso; omega)
    exact zT (k + 1) (by omega) (by omega) aI ⟨rfl, trivial⟩ (zM _)
  · repeat' (first
| refine wO ?_
| (refine o_go rfl ?_; (first
| refine wS ?_); refine ⟨_, aA, ?_⟩)
| (refine zK rfl (fun hc => ?_) (fun hc => ?_) <;> try (exfalso; omega))
| refine kr1 ?_
| refine krB rfl ?_
| refine wE ?_)
    all_goals first | rfl | (exfalso; omega)
theorem sblk_c (m : Nat) (ops : List OpD) (L : List (List Int)) (hs : szOk ops) (hb : acsB (m : Int) ops L = true) (hm0 : 0 < m) (hm8 : m ≤ 8) (hL : ∀ p ∈ L, p ∈ allL m ops) (ho : opsIn m ops) : PCalls Tryz.prog 31 [algP m ops, intss L] (.tup [intss (blR m L m), B true]) := by
  refine pcalls2 Tryz.func31 rfl Tryz.ntmps31 rfl ?_
  refine wF ?_
  have h1 := slist10_c m ops L hs hb hm0 hm8 hL ho
  have h20 : L.length ≤ 20 := by
    unfold acsB at hb
    rw [Bool.and_eq_true, Bool.and_eq_true, decide_eq_true_eq] at hb
    exact hb.2.1
  have hPt : ∀ p ∈ L, Pt m p := fun p hp => (allL_mem.1 (hL p hp)).1
  clear hL hb
  repeat' (first
| refine wO ?_
| (refine o_go rfl ?_; (first
| refine p_p (zG rfl rfl aB (h1)) ?_
| refine p_e rfl (e_lit0T rfl (by decide)) ?_
| refine wS ?_
| refine p_p (ps_load_agg rfl rfl aK) ?_
| refine p_p (ps_box rfl rfl) ?_); refine ⟨_, aA, ?_⟩)
| refine wE ?_)
  refine g_loopF (α := Nat) [10] (fun x => [(6, .hp 0), (7, I (x : Int))]) (fun x => [.arr true 1 27 ((blR m L x).map ints)]) (fun x => x ≤ m) (fun x => m - x) 0 aF (Nat.zero_le _) ⟨rfl, rfl, trivial⟩ rfl ?_
  rintro x hx
  dsimp only [zZ, List.set_cons_zero, List.set_cons_succ]
  have hll : ((blR m L x).map ints).length = x := by simp [blR]
  by_cases hxm : x < m
  · have hsn := blR_succ m L x
    generalize blR m L x = A at *
    repeat' (first
| refine wO ?_
| (refine o_go rfl ?_; (first
| refine p_e rfl (e_lit0T rfl (by decide)) ?_
| refine wS ?_); refine ⟨_, aA, ?_⟩)
| (refine zK rfl (fun hc => ?_) (fun hc => ?_) <;> try (exfalso; omega))
| refine wE ?_)
    all_goals try (exfalso; omega)
    refine g_loopF (α := Nat) [22] (fun i => [(8, .hp 1), (9, I (i : Int))]) (fun i => [.arr true 1 27 (A.map ints), .arr true 1 3 ((blX m (L.take i) x).map I)]) (fun i => i ≤ L.length) (fun i => L.length - i) 0 aF (Nat.zero_le _) ⟨rfl, rfl, trivial⟩ rfl ?_
    rintro i hi
    dsimp only [zZ, List.set_cons_zero, List.set_cons_succ]
    have hrl : ((blX m (L.take i) x).map I).length = i := by simp [blX]; omega
    by_cases hil : i < L.length
    · have ri := rows_at hil
      have pi := hPt _ (rows_mem hil)
      have n1 := snat_c m (L.getD i []) (by omega) pi
      have ix := nat_rowT (p := L.getD i []) hxm
      have hs2 : blX m (L.take (i + 1)) x = blX m (L.take i) x ++ [(natL m (L.getD i [])).getD x 0] := by unfold blX; rw [take_snoc [] hil, List.map_append]; rfl
      generalize blX m (L.take i) x = r at *
      generalize natL m (L.getD i []) = G at *
      repeat' (first
| refine wO ?_
| (refine o_go rfl ?_; (first
| refine p_p (zN rfl rfl rfl (by omega) ri (by exact rfl)) ?_
| refine p_p (zN rfl rfl rfl (by omega) ix (by exact rfl)) ?_
| refine p_p (zG rfl rfl aB (n1)) ?_
| refine p_e (by kernel_rfl) (e_append rfl rfl rfl rfl rfl rfl (one_one rfl) rfl (by rw [hrl, n_len_c, n_len_n]; omega) (by rw [hrl, n_len_c, n_len_n]; omega)) ?_
| refine wS ?_
| refine p_p (ps_lit1 rfl rfl (by rfl) (by rfl)) ?_); refine ⟨_, aA, ?_⟩)
| (refine zK rfl (fun hc => ?_) (fun hc => ?_) <;> try (exfalso; omega))
| refine wE ?_)
      all_goals try (exfalso; omega)
      exact zT (i + 1) (by omega) (by omega) aI ⟨rfl, rfl, trivial⟩ (zB rfl (zB (by rw [hs2, List.map_append]; rfl) (zM _)))
    · rw [List.take_of_length_le (show L.length ≤ i by omega)] at hrl ⊢
      repeat' ((fail_if_success (refine at_reg0 12 ?_)); (first
| refine wO ?_
| (refine o_go rfl ?_; (first
| refine wS ?_); refine ⟨_, aA, ?_⟩)
| (refine zK rfl (fun hc => ?_) (fun hc => ?_) <;> try (exfalso; omega))
| refine g_exit ?_))
      all_goals try (exfalso; omega)
      refine at_reg0 12 ?_
      refine g_freezeP 1 rfl ⟨_, by dsimp only [bitvec_to_nat, Nat.reduceAdd, Nat.reduceMul, Nat.reduceBEq, reduceCtorEq], ?_⟩
      refine g_view1 8 ⟨_, aA, ?_⟩
      repeat' (first
| refine wO ?_
| (refine o_go rfl ?_; (first
| refine p_e (by kernel_rfl) (e_append rfl rfl rfl rfl rfl rfl (one_one rfl) rfl (by rw [hll, n_len_c, n_len_n]; omega) (by rw [hll, n_len_c, n_len_n]; omega)) ?_
| refine wS ?_
| refine p_p (ps_lit1 rfl rfl (by rfl) (by rfl)) ?_); refine ⟨_, aA, ?_⟩))
      all_goals try (exfalso; omega)
      exact zT (K := fun _ _ => True) (x + 1) (by omega) (by omega) aI ⟨rfl, rfl, trivial⟩ (zB (by rw [hsn, List.map_append]; rfl) (zM _))
  · obtain rfl : x = m := by omega
    repeat' (first
| refine wO ?_
| (refine o_go rfl ?_; (first
| refine wS ?_); refine ⟨_, aA, ?_⟩)
| (refine zK rfl (fun hc => ?_) (fun hc => ?_) <;> try (exfalso; omega))
| refine kr2 ?_ ?_
| refine krB rfl ?_
| refine krS rfl ?_
| refine wE ?_)
    all_goals first | rfl | (exfalso; omega)
/-! ### The first congruence that separates two elements -/
def sepO (W : List (List Int)) (x y : Nat) : Option Nat := (List.range W.length).find? fun i => !decide ((W.getD i []).getD x 0 = (W.getD i []).getD y 0)
noncomputable def sfO (n : Int) (ops : List OpD) (x y : Int) : Option (List Int) := if acB n ops && inSizeB [x, y] n then (sepO (irrC n.toNat (allL n.toNat ops) (allL n.toNat ops)) x.toNat y.toNat).map fun i => (irrC n.toNat (allL n.toNat ops) (allL n.toNat ops)).getD i [] else none
theorem inSz2 {x y n : Int} : inSizeB [x, y] n = true ↔ (0 ≤ x ∧ x < n) ∧ (0 ≤ y ∧ y < n) := by
  unfold inSizeB
  simp only [List.all_cons, List.all_nil, Bool.and_true, Bool.and_eq_true, Bool.not_eq_true', Bool.or_eq_false_iff, decide_eq_false_iff_not]
  omega
theorem sepO_none {W : List (List Int)} {x y : Nat} (h : ∀ i, i < W.length → (W.getD i []).getD x 0 = (W.getD i []).getD y 0) : sepO W x y = none := by
  unfold sepO
  exact List.find?_range_eq_none.2 fun i hi => by rw [decide_eq_true (h i hi)]; rfl
theorem sepO_some {W : List (List Int)} {x y i : Nat} (hi : i < W.length) (h1 : ¬ (W.getD i []).getD x 0 = (W.getD i []).getD y 0) (h : ∀ l, l < i → (W.getD l []).getD x 0 = (W.getD l []).getD y 0) : sepO W x y = some i := by
  unfold sepO
  exact List.find?_range_eq_some.2 ⟨by rw [decide_eq_false h1]; rfl, List.mem_range.2 hi, fun l hl => by rw [decide_eq_true (h l hl)]; rfl⟩
theorem isepf_c (n : Int) (ops : List OpD) (x y : Int) (hs : szOk ops) : PCalls Tryz.prog 35 [algP n ops, I x, I y] (.tup [ints ((sfO n ops x y).getD []), B (sfO n ops x y).isSome]) := by
  refine pcalls2 Tryz.func35 rfl Tryz.ntmps35 rfl ?_
  refine wF ?_
  cases hb : acB n ops with
  | false =>
    have h1 := iirc0_c n ops hs hb
    rw [show sfO n ops x y = none by unfold sfO; rw [hb]; rfl]
    repeat' (first
| refine wO ?_
| (refine o_go rfl ?_; (first
| refine p_p (zG rfl rfl aB (h1)) ?_
| refine p_p (ps_lits rfl (by exact rfl) (by exact rfl) aR (by decide) (by decide)) ?_
| refine wS ?_
| refine p_p (ps_load_agg rfl rfl aK) ?_
| refine p_p (ps_box rfl rfl) ?_); refine ⟨_, aA, ?_⟩)
| (refine o_s rfl ?_; refine ⟨_, aA, ?_⟩)
| refine kr2 ?_ ?_
| refine krB rfl ?_
| refine krS rfl ?_
| refine wE ?_)
    all_goals rfl
  | true =>
    obtain ⟨m, rfl, hm0, hm8, h4, ho, hg, h2⟩ := acB_facts hb
    have h1 := iirc_c m ops hs hb
    have e1 := inSize_c [x, y] (m : Int) (by simp)
    cases hin : inSizeB [x, y] (m : Int) with
    | false =>
      rw [hin] at e1
      rw [show sfO (m : Int) ops x y = none by unfold sfO; rw [hb, hin]; rfl]
      repeat' (first
| refine wO ?_
| (refine o_go rfl ?_; (first
| refine p_p (zG rfl rfl aB (h1)) ?_
| refine p_p (zG rfl rfl aB (e1)) ?_
| refine p_p (ps_lits rfl (by exact rfl) (by exact rfl) aR (by decide) (by decide)) ?_
| refine wS ?_
| refine p_p (ps_load_agg rfl rfl aK) ?_
| refine p_p (ps_box rfl rfl) ?_); refine ⟨_, aA, ?_⟩)
| refine kr2 ?_ ?_
| refine krB rfl ?_
| refine krS rfl ?_
| refine wE ?_)
      all_goals rfl
    | true =>
      rw [hin] at e1
      have hO : sfO (m : Int) ops x y = (sepO (irrC m (allL m ops) (allL m ops)) x.toNat y.toNat).map fun i => (irrC m (allL m ops) (allL m ops)).getD i [] := by unfold sfO; rw [hb, hin, Int.toNat_natCast]; rfl
      rw [hO]
      obtain ⟨⟨x0, xm⟩, y0, ym⟩ := inSz2.1 hin
      have hW : ∀ p ∈ irrC m (allL m ops) (allL m ops), Pt m p := fun p hp => fc_pt p (List.mem_filter.1 hp).1
      have hWl : (irrC m (allL m ops) (allL m ops)).length ≤ 200 := Nat.le_trans (List.length_filter_le _ _) h2
      generalize irrC m (allL m ops) (allL m ops) = W at *
      clear hO hin
      obtain ⟨x, rfl⟩ : ∃ a : Nat, x = a := ⟨x.toNat, by omega⟩
      obtain ⟨y, rfl⟩ : ∃ a : Nat, y = a := ⟨y.toNat, by omega⟩
      rw [Int.toNat_natCast, Int.toNat_natCast]
      repeat' (first
| refine wO ?_
| (refine o_go rfl ?_; (first
| refine p_p (zG rfl rfl aB (h1)) ?_
| refine p_p (zG rfl rfl aB (e1)) ?_
| refine wS ?_
| refine p_p (ps_load_agg rfl rfl aK) ?_
| refine p_p (ps_box rfl rfl) ?_
| refine p_p (ps_lit2 rfl rfl rfl (by rfl) (by rfl) (by rfl)) ?_); refine ⟨_, aA, ?_⟩)
| refine wE ?_)
      refine g_loopT (α := Nat) (fun i => [(31, I (i : Int))]) (fun _ => []) (fun i => i ≤ W.length ∧ ∀ l, l < i → (W.getD l []).getD x 0 = (W.getD l []).getD y 0) (fun i => W.length - i) 0 aF ⟨Nat.zero_le _, fun j hj => absurd hj (Nat.not_lt_zero _)⟩ ⟨rfl, trivial⟩ rfl ?_
      rintro i ⟨hi, hno⟩
      dsimp only [zZ, List.set_cons_zero, List.set_cons_succ]
      by_cases hil : i < W.length
      · have ri := rows_at hil
        have pl := (hW _ (rows_mem hil)).len
        have ix := row_atY (p := W.getD i []) (x := x) (by omega)
        have iy := row_atY (p := W.getD i []) (x := y) (by omega)
        have hml : ((W.getD i []).map I).length = m := by rw [List.length_map, pl]
        by_cases he : (W.getD i []).getD x 0 = (W.getD i []).getD y 0
        · repeat' (first
| refine wO ?_
| refine zP (by kernel_rfl) (by kernel_rfl) ?_
| (refine o_go rfl ?_; (first
| refine p_p (zN rfl rfl rfl (by omega) ri (by exact rfl)) ?_
| refine p_p (zN rfl rfl rfl (by omega) ix (by exact rfl)) ?_
| refine p_p (zN rfl rfl rfl (by omega) iy (by exact rfl)) ?_
| refine wS ?_); refine ⟨_, aA, ?_⟩)
| (refine g_condN rfl (fun hc => ?_) (fun hc => ?_) <;> try (exfalso; omega))
| (refine zK rfl (fun hc => ?_) (fun hc => ?_) <;> try (exfalso; omega))
| refine wE ?_)
          all_goals try (exfalso; first | omega | exact hc he)
          refine zT (i + 1) ⟨by omega, fun l hl => ?_⟩ (by omega) aI ⟨rfl, trivial⟩ (zM _)
          rcases Nat.lt_or_ge l i with h | h
          · exact hno l h
          · rw [show l = i by omega]; exact he
        · rw [sepO_some hil he hno]
          repeat' (first
| refine wO ?_
| refine zP (by kernel_rfl) (by kernel_rfl) ?_
| (refine o_go rfl ?_; (first
| refine p_p (zN rfl rfl rfl (by omega) ri (by exact rfl)) ?_
| refine p_p (zN rfl rfl rfl (by omega) ix (by exact rfl)) ?_
| refine p_p (zN rfl rfl rfl (by omega) iy (by exact rfl)) ?_
| refine wS ?_); refine ⟨_, aA, ?_⟩)
| (refine g_condN rfl (fun hc => ?_) (fun hc => ?_) <;> try (exfalso; omega))
| (refine zK rfl (fun hc => ?_) (fun hc => ?_) <;> try (exfalso; omega))
| refine kr2 ?_ ?_
| refine krB rfl ?_
| refine krS rfl ?_
| refine wE ?_)
          all_goals first | rfl | (exfalso; first | omega | exact he hc)
      · rw [sepO_none fun l hl => hno l (by omega)]
        repeat' (first
| refine wO ?_
| (refine o_go rfl ?_; (first
| refine p_p (ps_lits rfl (by exact rfl) (by exact rfl) aR (by decide) (by decide)) ?_
| refine wS ?_); refine ⟨_, aA, ?_⟩)
| (refine zK rfl (fun hc => ?_) (fun hc => ?_) <;> try (exfalso; omega))
| refine kr2 ?_ ?_
| refine krB rfl ?_
| refine krS rfl ?_
| refine wE ?_)
        all_goals first | rfl | (exfalso; omega)
theorem ssepf_c (n : Int) (ops : List OpD) (x y : Int) (hs : szOk ops) : PCalls Tryz.prog 36 [algP n ops, I x, I y] (.tup [ints ((sfO n ops x y).getD []), B (sfO n ops x y).isSome]) := by
  refine pcalls2 Tryz.func36 rfl Tryz.ntmps36 rfl ?_
  refine wF ?_
  have h1 := sfew_c n ops hs
  cases hb : acB n ops with
  | false =>
    rw [hb] at h1
    rw [show sfO n ops x y = none by unfold sfO; rw [hb]; rfl]
    repeat' (first
| refine wO ?_
| (refine o_go rfl ?_; (first
| refine p_p (zG rfl rfl aB (h1)) ?_
| refine p_p (ps_lits rfl (by exact rfl) (by exact rfl) aR (by decide) (by decide)) ?_
| refine wS ?_
| refine p_p (ps_load_agg rfl rfl aK) ?_
| refine p_p (ps_box rfl rfl) ?_); refine ⟨_, aA, ?_⟩)
| (refine o_s rfl ?_; refine ⟨_, aA, ?_⟩)
| refine kr2 ?_ ?_
| refine krB rfl ?_
| refine krS rfl ?_
| refine wE ?_)
    all_goals rfl
  | true =>
    rw [hb] at h1
    obtain ⟨m, rfl, hm0, hm8, h4, ho, hg, h2⟩ := acB_facts hb
    have e1 := in_c x 0 ((m : Int) - 1)
    have e2 := in_c y 0 ((m : Int) - 1)
    have hm1 : (m : Int) - 1 = ((m - 1 : Nat) : Int) := by omega
    have hib : ∀ z : Int, inB z 0 ((m : Int) - 1) = true ↔ 0 ≤ z ∧ z < m := fun z => by
      unfold inB
      rw [Bool.and_eq_true, decide_eq_true_eq, decide_eq_true_eq]; omega
    by_cases hx : inB x 0 ((m : Int) - 1) = true
    · by_cases hy : inB y 0 ((m : Int) - 1) = true
      · rw [hx] at e1
        rw [hy] at e2
        rw [hib] at hx hy
        have hin : inSizeB [x, y] (m : Int) = true := inSz2.2 ⟨hx, hy⟩
        have hO : sfO (m : Int) ops x y = (sepO (irrC m (allL m ops) (allL m ops)) x.toNat y.toNat).map fun i => (irrC m (allL m ops) (allL m ops)).getD i [] := by unfold sfO; rw [hb, hin, Int.toNat_natCast]; rfl
        rw [hO]
        have a1 := sirr6_c m ops hm0 hm8 (by omega) ho h2
        have hW : ∀ p ∈ irrC m (allL m ops) (allL m ops), Pt m p := fun p hp => fc_pt p (List.mem_filter.1 hp).1
        have hWl : (irrC m (allL m ops) (allL m ops)).length ≤ 200 := Nat.le_trans (List.length_filter_le _ _) h2
        generalize irrC m (allL m ops) (allL m ops) = W at *
        clear hO hin
        obtain ⟨x, rfl⟩ : ∃ a : Nat, x = a := ⟨x.toNat, by omega⟩
        obtain ⟨y, rfl⟩ : ∃ a : Nat, y = a := ⟨y.toNat, by omega⟩
        rw [Int.toNat_natCast, Int.toNat_natCast]
        by_cases hxy : x = y
        · subst hxy
          rw [sepO_none fun l hl => rfl]
          repeat' (first
| refine wO ?_
| (refine o_go rfl ?_; (first
| refine p_p (zG rfl rfl aB (h1)) ?_
| refine p_p (zG rfl rfl aB (e1)) ?_
| refine p_p (ps_lits rfl (by exact rfl) (by exact rfl) aR (by decide) (by decide)) ?_
| refine wS ?_
| refine p_p (ps_load_agg rfl rfl aK) ?_
| refine p_p (ps_box rfl rfl) ?_); refine ⟨_, aA, ?_⟩)
| (refine zK rfl (fun hc => ?_) (fun hc => ?_) <;> try (exfalso; omega))
| refine kr2 ?_ ?_
| refine krB rfl ?_
| refine krS rfl ?_
| refine wE ?_)
          all_goals first | rfl | (exfalso; omega)
        · repeat' (first
| refine wO ?_
| (refine o_go rfl ?_; (first
| refine p_p (zG rfl rfl aB (h1)) ?_
| refine p_p (zG rfl rfl aB (e1)) ?_
| refine p_p (zG rfl rfl aB (e2)) ?_
| refine p_p (zG rfl rfl aB (a1)) ?_
| refine wS ?_
| refine p_p (ps_load_agg rfl rfl aK) ?_
| refine p_p (ps_box rfl rfl) ?_); refine ⟨_, aA, ?_⟩)
| (refine zK rfl (fun hc => ?_) (fun hc => ?_) <;> try (exfalso; omega))
| refine wE ?_)
          all_goals try (exfalso; omega)
          refine g_loopT (α := Nat) (fun i => [(9, I (i : Int))]) (fun _ => []) (fun i => i ≤ W.length ∧ ∀ l, l < i → (W.getD l []).getD x 0 = (W.getD l []).getD y 0) (fun i => W.length - i) 0 aF ⟨Nat.zero_le _, fun j hj => absurd hj (Nat.not_lt_zero _)⟩ ⟨rfl, trivial⟩ rfl ?_
          rintro i ⟨hi, hno⟩
          dsimp only [zZ, List.set_cons_zero, List.set_cons_succ]
          by_cases hil : i < W.length
          · have ri := rows_at hil
            have pl := (hW _ (rows_mem hil)).len
            have ix := row_atY (p := W.getD i []) (x := x) (by omega)
            have iy := row_atY (p := W.getD i []) (x := y) (by omega)
            have hml : ((W.getD i []).map I).length = m := by rw [List.length_map, pl]
            by_cases he : (W.getD i []).getD x 0 = (W.getD i []).getD y 0
            · repeat' (first
| refine wO ?_
| refine zP (by kernel_rfl) (by kernel_rfl) ?_
| (refine o_go rfl ?_; (first
| refine p_p (zN rfl rfl rfl (by omega) ri (by exact rfl)) ?_
| refine p_p (zN rfl rfl rfl (by omega) ix (by exact rfl)) ?_
| refine p_p (zN rfl rfl rfl (by omega) iy (by exact rfl)) ?_
| refine wS ?_); refine ⟨_, aA, ?_⟩)
| (refine g_condN rfl (fun hc => ?_) (fun hc => ?_) <;> try (exfalso; omega))
| (refine zK rfl (fun hc => ?_) (fun hc => ?_) <;> try (exfalso; omega))
| refine wE ?_)
              all_goals try (exfalso; first | omega | exact hc he)
              refine zT (i + 1) ⟨by omega, fun l hl => ?_⟩ (by omega) aI ⟨rfl, trivial⟩ (zM _)
              rcases Nat.lt_or_ge l i with h | h
              · exact hno l h
              · rw [show l = i by omega]; exact he
            · rw [sepO_some hil he hno]
              repeat' (first
| refine wO ?_
| refine zP (by kernel_rfl) (by kernel_rfl) ?_
| (refine o_go rfl ?_; (first
| refine p_p (zN rfl rfl rfl (by omega) ri (by exact rfl)) ?_
| refine p_p (zN rfl rfl rfl (by omega) ix (by exact rfl)) ?_
| refine p_p (zN rfl rfl rfl (by omega) iy (by exact rfl)) ?_
| refine wS ?_); refine ⟨_, aA, ?_⟩)
| (refine g_condN rfl (fun hc => ?_) (fun hc => ?_) <;> try (exfalso; omega))
| (refine zK rfl (fun hc => ?_) (fun hc => ?_) <;> try (exfalso; omega))
| refine kr2 ?_ ?_
| refine krB rfl ?_
| refine krS rfl ?_
| refine wE ?_)
              all_goals first | rfl | (exfalso; first | omega | exact he hc)
          · rw [sepO_none fun l hl => hno l (by omega)]
            repeat' (first
| refine wO ?_
| (refine o_go rfl ?_; (first
| refine p_p (ps_lits rfl (by exact rfl) (by exact rfl) aR (by decide) (by decide)) ?_
| refine wS ?_); refine ⟨_, aA, ?_⟩)
| (refine zK rfl (fun hc => ?_) (fun hc => ?_) <;> try (exfalso; omega))
| refine kr2 ?_ ?_
| refine krB rfl ?_
| refine krS rfl ?_
| refine wE ?_)
            all_goals first | rfl | (exfalso; omega)
      · rw [Bool.not_eq_true] at hy
        rw [hx] at e1
        rw [hy] at e2
        have hO : sfO (m : Int) ops x y = none := by
          unfold sfO
          rw [hb, Bool.true_and, if_neg]
          intro h
          have := (hib y).2 (inSz2.1 h).2
          rw [hy] at this; cases this
        rw [hO]
        repeat' (first
| refine wO ?_
| (refine o_go rfl ?_; (first
| refine p_p (zG rfl rfl aB (h1)) ?_
| refine p_p (zG rfl rfl aB (e1)) ?_
| refine p_p (zG rfl rfl aB (e2)) ?_
| refine p_p (ps_lits rfl (by exact rfl) (by exact rfl) aR (by decide) (by decide)) ?_
| refine wS ?_
| refine p_p (ps_load_agg rfl rfl aK) ?_
| refine p_p (ps_box rfl rfl) ?_); refine ⟨_, aA, ?_⟩)
| (refine o_s rfl ?_; refine ⟨_, aA, ?_⟩)
| refine kr2 ?_ ?_
| refine krB rfl ?_
| refine krS rfl ?_
| refine wE ?_)
        all_goals rfl
    · rw [Bool.not_eq_true] at hx
      rw [hx] at e1
      have hO : sfO (m : Int) ops x y = none := by
        unfold sfO
        rw [hb, Bool.true_and, if_neg]
        intro h
        have := (hib x).2 (inSz2.1 h).1
        rw [hx] at this; cases this
      rw [hO]
      repeat' (first
| refine wO ?_
| (refine o_go rfl ?_; (first
| refine p_p (zG rfl rfl aB (h1)) ?_
| refine p_p (zG rfl rfl aB (e1)) ?_
| refine p_p (ps_lits rfl (by exact rfl) (by exact rfl) aR (by decide) (by decide)) ?_
| refine wS ?_
| refine p_p (ps_load_agg rfl rfl aK) ?_
| refine p_p (ps_box rfl rfl) ?_); refine ⟨_, aA, ?_⟩)
| (refine o_s rfl ?_; refine ⟨_, aA, ?_⟩)
| refine kr2 ?_ ?_
| refine krB rfl ?_
| refine krS rfl ?_
| refine wE ?_)
      all_goals rfl
end Go.Proofs.YtbohjibbgppfaaaGreat
