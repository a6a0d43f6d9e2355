/- Walks: separating lists, monoliths, values of operations, factors, blocks (the reference's side), the first separating congruence. -/
import Derived.Test.YtbohjibbgppfaaaGreatJTd
import Derived.Test.YtbohjibbgppfaaaGreatJTa
import Derived.Test.YtbohjibbgppfaaaGreatJVb
import Derived.Test.YtbohjibbgppfaaaGreatJVd
import Derived.Test.YtbohjibbgppfaaaGreatJYc
namespace Go.Proofs.YtbohjibbgppfaaaGreat
open Go Go.Pv Go.Proofs
set_option maxHeartbeats 32000000
set_option maxRecDepth 100000
attribute [local bitvec_to_nat] St.put St.setObj St.ev killP killA killP1 killH mapHO renP renA ren1 killG killGA killG1 krowP krowA krow1 lendP lendA lend1 unv pinP pin1 elemsM viewM viewN viewV n_set_z n_set_s n_map_c n_map_n getD_z getD_s n_toNat n_cond_t n_cond_f n_len_c n_len_n n_app_c n_app_n n_take_s n_take_z n_drop_s n_drop_z n_get_z n_get_s view viewA view1 elems Nat.zero_add Nat.add_zero Bool.not_true Bool.not_false Nat.one_ne_zero Nat.mul_one

theorem acs_of {m : Nat} {ops : List OpD} {L : List (List Int)} (hm0 : 0 < m) (ho : opsIn m ops) (hg : algOk m ops = true) (hl : L.length ≤ 20) (hL : ∀ p ∈ L, p ∈ allL m ops) : acsB (m : Int) ops L = true := by
  unfold acsB
  rw [hg, decide_eq_true hl, Int.toNat_natCast, Bool.true_and, Bool.true_and]
  exact List.all_eq_true.2 fun p hp => (cgB_iff hm0 ho).2 (allL_mem.1 (hL p hp))
theorem iissep_c (m : Nat) (ops : List OpD) (L : List (List Int)) (hs : szOk ops) (hm8 : m ≤ 8) (hb : acsB (m : Int) ops L = true) (hL : ∀ p ∈ L, Pt m p) (hl : L.length ≤ 20) : PCalls Tryz.prog 29 [algP m ops, intss L] (.tup [B (decide (cnt m (mtF m (fullL m) L) = m)), B true]) := by
  refine pcalls2 Tryz.func29 rfl Tryz.ntmps29 rfl ?_
  refine wF ?_
  have h1 := iacs_c m ops L hs (by omega) (fun p hp => by rw [(hL p hp).len]; omega)
  rw [hb] at h1
  have h2 := imall_c m L (by omega) hL (by omega)
  have h3 := ibcnt_c m (mtF m (fullL m) L) (by omega) (mtF_pt L (full_pt m))
  generalize mtF m (fullL m) L = M at *
  by_cases hc0 : cnt m M = m
  · rw [decide_eq_true hc0]
    repeat' (first
| refine wO ?_
| refine zP (by kernel_rfl) (by kernel_rfl) ?_
| (refine o_go rfl ?_; (first
| refine p_p (zG rfl rfl aB (h1)) ?_
| refine p_p (zG rfl rfl aB (h2)) ?_
| refine p_p (zG rfl rfl aB (h3)) ?_
| refine wS ?_
| refine p_p (ps_load_agg rfl rfl aK) ?_
| refine p_p (ps_box rfl rfl) ?_); refine ⟨_, aA, ?_⟩)
| refine kr2 ?_ ?_
| refine krB rfl ?_
| refine wE ?_)
    all_goals first | rfl | (exfalso; omega) | (rw [decide_eq_true (by omega)])
  · rw [decide_eq_false hc0]
    repeat' (first
| refine wO ?_
| refine zP (by kernel_rfl) (by kernel_rfl) ?_
| (refine o_go rfl ?_; (first
| refine p_p (zG rfl rfl aB (h1)) ?_
| refine p_p (zG rfl rfl aB (h2)) ?_
| refine p_p (zG rfl rfl aB (h3)) ?_
| refine wS ?_
| refine p_p (ps_load_agg rfl rfl aK) ?_
| refine p_p (ps_box rfl rfl) ?_); refine ⟨_, aA, ?_⟩)
| refine kr2 ?_ ?_
| refine krB rfl ?_
| refine wE ?_)
    all_goals first | rfl | (exfalso; omega) | (rw [decide_eq_false (by omega)])
theorem imono_c (n : Nat) (V : List (List Int)) (hn0 : 0 < n) (hn : n ≤ 1000) (hV : ∀ p ∈ V, Pt n p) (h0 : 0 < V.length) (hl : V.length ≤ 1000) : PCalls Tryz.prog 93 [intss V] (match monO n (V.drop 1) with
    | none => nilV
    | some i => ints ((V.drop 1).getD i [])) := by
  refine pcalls1 Tryz.func93 rfl Tryz.ntmps93 rfl ?_
  refine wF ?_
  have hTl : (V.drop 1).length = V.length - 1 := List.length_drop ..
  have hT : ∀ p ∈ V.drop 1, Pt n p := fun p hp => hV p (List.mem_of_mem_drop hp)
  repeat' (first
| refine wO ?_
| (refine o_go rfl ?_; (first
| refine p_p (ps_sliceFromM rfl rfl rfl (by omega) (by omega)) ?_
| refine wS ?_); refine ⟨_, aA, ?_⟩))
  obtain ⟨T, hTe⟩ : ∃ T, T = V.drop 1 := ⟨_, rfl⟩
  rw [show (1 : Int).toNat = 1 from rfl]
  rw [← hTe] at hTl hT ⊢
  refine g_loopT (α := Nat) (fun i => [(11, I (i : Int))]) (fun _ => []) (fun i => i ≤ T.length ∧ ∀ l, l < i → undB n T (T.getD l []) = false) (fun i => T.length - i) 0 aF ⟨Nat.zero_le _, fun j hj => absurd hj (Nat.not_lt_zero _)⟩ ⟨rfl, trivial⟩ rfl ?_
  rintro i ⟨hi, hno⟩
  dsimp only [zZ, List.set_cons_zero, List.set_cons_succ]
  by_cases hil : i < T.length
  · have ri := rows_at hil
    have pi := hT _ (rows_mem hil)
    repeat' (first
| refine wO ?_
| (refine o_go rfl ?_; (first
| refine p_p (zN rfl rfl rfl (by omega) ri (by exact rfl)) ?_
| refine p_p (ps_sliceFromM rfl rfl rfl (by omega) (by omega)) ?_
| refine wS ?_); refine ⟨_, aA, ?_⟩)
| (refine zK rfl (fun hc => ?_) (fun hc => ?_) <;> try (exfalso; omega))
| refine wE ?_)
    all_goals try (exfalso; omega)
    rw [show (1 : Int).toNat = 1 from rfl]
    rw [← hTe]
    refine g_loopT (α := Nat) (fun k => [(5, B (undK n T (T.getD i []) k)), (18, I (k : Int))]) (fun _ => []) (fun k => k ≤ T.length) (fun k => T.length - k) 0 aF (Nat.zero_le _) ⟨rfl, rfl, trivial⟩ rfl ?_
    rintro k hk
    dsimp only [zZ, List.set_cons_zero, List.set_cons_succ]
    by_cases hkl : k < T.length
    · have rk := rows_at hkl
      have pk := hT _ (rows_mem hkl)
      have f1 := ifiner_c n (T.getD i []) (T.getD k []) hn pi pk.len
      have hs := undK_succ (n := n) (p := T.getD i []) hkl
      cases hu : undK n T (T.getD i []) k with
      | false =>
        rw [hu, Bool.false_and] at hs
        repeat' (first
| refine wO ?_
| (refine o_go rfl ?_; (first
| refine p_p (zN rfl rfl rfl (by omega) rk (by exact rfl)) ?_
| refine wS ?_); refine ⟨_, aA, ?_⟩)
| (refine o_s rfl ?_; refine ⟨_, aA, ?_⟩)
| (refine zK rfl (fun hc => ?_) (fun hc => ?_) <;> try (exfalso; omega))
| refine wE ?_)
        all_goals try (exfalso; omega)
        exact zT (k + 1) (by omega) (by omega) aI ⟨by rw [hs]; rfl, rfl, trivial⟩ (zM _)
      | true =>
        rw [hu, Bool.true_and] at hs
        rw [← hs] at f1
        repeat' (first
| refine wO ?_
| (refine o_go rfl ?_; (first
| refine p_p (zN rfl rfl rfl (by omega) rk (by exact rfl)) ?_
| refine p_p (zG rfl rfl aB (f1)) ?_
| refine wS ?_); refine ⟨_, aA, ?_⟩)
| (refine zK rfl (fun hc => ?_) (fun hc => ?_) <;> try (exfalso; omega))
| refine wE ?_)
        all_goals try (exfalso; omega)
        exact zT (k + 1) (by omega) (by omega) aI ⟨rfl, rfl, trivial⟩ (zM _)
    · have hfull : undK n T (T.getD i []) k = undB n T (T.getD i []) := by unfold undK; rw [List.take_of_length_le (by omega)]
      rw [hfull]
      cases hu : undB n T (T.getD i []) with
      | false =>
        repeat' (first
| refine wO ?_
| (refine o_go rfl ?_; (first
| refine wS ?_); refine ⟨_, aA, ?_⟩)
| (refine zK rfl (fun hc => ?_) (fun hc => ?_) <;> try (exfalso; omega))
| refine wE ?_)
        all_goals try (exfalso; omega)
        refine zT (K := fun _ _ => True) (i + 1) ⟨by omega, fun l hlj => ?_⟩ (by omega) aI ⟨rfl, trivial⟩ (zM _)
        rcases Nat.lt_or_ge l i with h | h
        · exact hno l h
        · rw [show l = i by omega]; exact hu
      | true =>
        have hv : monO n T = some i := by
          unfold monO
          exact List.find?_range_eq_some.2 ⟨hu, List.mem_range.2 hil, fun l hl => by rw [hno l hl]; rfl⟩
        rw [hv]
        dsimp only
        repeat' (first
| refine wO ?_
| (refine o_go rfl ?_; (first
| refine wS ?_); refine ⟨_, aA, ?_⟩)
| (refine zK rfl (fun hc => ?_) (fun hc => ?_) <;> try (exfalso; omega))
| refine kr1 ?_
| refine krS rfl ?_
| refine wE ?_)
        all_goals first | rfl | (exfalso; omega)
  · have hv : monO n T = none := by
      unfold monO
      exact List.find?_range_eq_none.2 fun l hl => by rw [hno l (by omega)]; rfl
    rw [hv]
    dsimp only
    repeat' (first
| refine wO ?_
| (refine o_go rfl ?_; (first
| refine wS ?_); refine ⟨_, aA, ?_⟩)
| (refine zK rfl (fun hc => ?_) (fun hc => ?_) <;> try (exfalso; omega))
| refine kr1 ?_
| refine wE ?_)
    all_goals first | rfl | exact krV rfl | (exfalso; omega)
theorem iirra_c (m : Nat) (ops : List OpD) (hs : szOk ops) (hb : acB (m : Int) ops = true) (hm : (monO m ((allL m ops).drop 1)).isSome = true) : PCalls Tryz.prog 28 [algP m ops] (.tup [B true, B true]) := by
  refine pcalls2 Tryz.func28 rfl Tryz.ntmps28 rfl ?_
  refine wF ?_
  have h1 := icongs_c m ops hs
  obtain ⟨m', e, hm0, hm8, h4, ho, hg, h2⟩ := acB_facts hb
  obtain rfl : m' = m := by omega
  have hV : acV (m' : Int) ops = allL m' ops := by unfold acV; rw [hb, if_pos rfl, Int.toNat_natCast]
  rw [hb, if_pos rfl, hV] at h1
  have h3 := imono_c m' (allL m' ops) hm0 (by omega) fc_pt (allL_pos m' ops) (by omega)
  obtain ⟨i, hi⟩ := Option.isSome_iff_exists.1 hm
  have hil : i < ((allL m' ops).drop 1).length := by
    unfold monO at hi
    exact List.mem_range.1 (List.mem_of_find?_eq_some hi)
  have pi := fc_pt _ (List.mem_of_mem_drop (rows_mem hil))
  rw [hi] at h3
  dsimp only at h3
  have hne : ((allL m' ops).drop 1).getD i [] ≠ [] := fun e => by
    have := pi.len
    rw [e] at this
    simp at this; omega
  generalize ((allL m' ops).drop 1).getD i [] = p at *
  generalize allL m' ops = V at *
  repeat' (first
| refine wO ?_
| (refine o_go rfl ?_; (first
| refine p_p (zG rfl rfl aB (h1)) ?_
| refine p_p (zG rfl rfl aB (h3)) ?_
| refine p_p (ps_neqnil_ne rfl rfl rfl (by intro e; exact hne (List.map_eq_nil_iff.1 e))) ?_
| refine wS ?_
| refine p_p (ps_load_agg rfl rfl aK) ?_
| refine p_p (ps_box rfl rfl) ?_); refine ⟨_, aA, ?_⟩)
| refine kr2 ?_ ?_
| refine krB rfl ?_
| refine wE ?_)
  all_goals first | rfl | (exfalso; omega)
/-! ### Values of operations -/
theorem ihop_c (m : Nat) (ops : List OpD) (o : Nat) (hs : szOk ops) (hg : algOk m ops = true) (ho : o < ops.length) : PCalls Tryz.prog 100 [algP m ops, I (o : Int)] (B true) := by
  refine pcalls1 Tryz.func100 rfl Tryz.ntmps100 rfl ?_
  refine wF ?_
  have h1 := igood_c m ops hs
  rw [hg] at h1
  have hl : (ops.map opP).length = ops.length := List.length_map _
  repeat' (first
| refine wO ?_
| (refine o_go rfl ?_; (first
| refine p_p (zG rfl rfl aB (h1)) ?_
| refine wS ?_
| refine p_p (ps_load_agg rfl rfl aK) ?_
| refine p_p (ps_box rfl rfl) ?_); refine ⟨_, aA, ?_⟩)
| refine kr1 ?_
| refine krB rfl ?_
| refine wE ?_)
  all_goals first | rfl | (exfalso; omega) | (rw [decide_eq_true (by omega)])
theorem ops_atT {ops : List OpD} {k : Nat} (h : k < ops.length) : (ops.map opP)[((k : Nat) : Int).toNat]? = some (opP (ops.getD k default)) := by
  rw [Int.toNat_natCast, List.getElem?_map, List.getElem?_eq_getElem h, List.getD_eq_getElem?_getD, List.getElem?_eq_getElem h]; rfl
theorem ivo2_c (m : Nat) (ops : List OpD) (o x y : Nat) (hs : szOk ops) (hg : algOk m ops = true) (hol : o < ops.length) (h2 : (ops.getD o default).ar = 2) (hx : x < m) (hy : y < m) :
    PCalls Tryz.prog 33 [algP m ops, I (o : Int), ints [(x : Int), (y : Int)]] (.tup [I (bk (ops.getD o default).tb (x * m + y) : Int), B true]) := by
  refine pcalls2 Tryz.func33 rfl Tryz.ntmps33 rfl ?_
  refine wF ?_
  obtain ⟨m', e, hm0, hm8, h4, ho⟩ := algOk_facts hg
  obtain rfl : m' = m := by omega
  have h1 := ihop_c m' ops o hs hg hol
  have hin : inSizeB [(x : Int), (y : Int)] (m' : Int) = true := by
    unfold inSizeB
    simp only [List.all_cons, List.all_nil, Bool.and_true, Bool.and_eq_true, Bool.not_eq_true', Bool.or_eq_false_iff, decide_eq_false_iff_not]
    omega
  have e1 := inSize_c [(x : Int), (y : Int)] (m' : Int) (by simp)
  rw [hin] at e1
  have e2 := index_c m' [(x : Int), (y : Int)] (by omega) (by simp) (fun z hz => by
    simp only [List.mem_cons, List.not_mem_nil, or_false] at hz
    rcases hz with rfl | rfl <;> omega)
  have hix : idxL (m' : Int) [(x : Int), (y : Int)] = ((x * m' + y : Nat) : Int) := by
    unfold idxL
    simp only [List.foldl_cons, List.foldl_nil, Int.zero_mul, Int.zero_add, Int.natCast_add, Int.natCast_mul]
  rw [hix] at e2
  have hf : ops.getD o default ∈ ops := by rw [List.getD_eq_getElem?_getD, List.getElem?_eq_getElem hol]; exact List.getElem_mem hol
  obtain ⟨-, -, htl, htv⟩ := ho _ hf
  have hlt : x * m' + y < m' ^ (ops.getD o default).ar.toNat := by
    rw [h2]
    show x * m' + y < m' ^ 2
    rw [Nat.pow_two]
    calc x * m' + y < x * m' + m' := by omega
      _ = (x + 1) * m' := by rw [Nat.add_mul]; omega
      _ ≤ m' * m' := Nat.mul_le_mul_right _ hx
  have hv := htv _ hlt
  have ro := ops_atT hol
  generalize ops.getD o default = f at *
  have it : (f.tb.map I)[((x * m' + y : Nat) : Int).toNat]? = some (I (bk f.tb (x * m' + y) : Int)) := by
    rw [row_atY (p := f.tb) (x := x * m' + y) (by omega)]
    unfold bk; rw [Int.toNat_of_nonneg hv.1]
  have h2' : f.ar = 2 := h2
  obtain ⟨ar, tb⟩ := f
  subst h2'
  dsimp only at it htl ⊢
  generalize x * m' + y = z at *
  have htb : ((tb.map I).length : Int) = (tb.length : Int) := by rw [List.length_map]
  have hzl : z < tb.length := by rw [htl]; exact hlt
  repeat' (first
| refine wO ?_
| refine zP (by kernel_rfl) (by kernel_rfl) ?_
| (refine o_go rfl ?_; (first
| refine p_p (zG rfl rfl aB (h1)) ?_
| refine p_p (zG rfl rfl aB (e1)) ?_
| refine p_p (zG rfl rfl aB (e2)) ?_
| refine p_p (zN rfl rfl rfl (by omega) ro (by exact rfl)) ?_
| refine p_p (zN rfl rfl rfl (by omega) it (by exact rfl)) ?_
| refine wS ?_
| refine p_p (ps_load_agg rfl rfl aK) ?_
| refine p_p (ps_box rfl rfl) ?_); refine ⟨_, aA, ?_⟩)
| refine kr2 ?_ ?_
| refine krB rfl ?_
| refine krI rfl ?_
| refine wE ?_)
  all_goals first | rfl | (exfalso; omega)
theorem quo_two {n : Nat} {p : List Int} (hn : 0 < n) (hp : Pt n p) {ops : List OpD} (ho : opsIn n ops) (hc : Cong n ops p) {f : OpD} (hf : f ∈ ops) (h2 : f.ar = 2) {x y : Nat} (hx : x < n) (hy : y < n) :
    nmN p (bk f.tb (x * n + y)) = bk (quoF n p f).tb (nmN p x * (lstN p n).length + nmN p y) := by
  have hlt : x * n + y < n ^ f.ar.toNat := by
    rw [h2]
    show x * n + y < n ^ 2
    rw [Nat.pow_two]
    calc x * n + y < x * n + n := by omega
      _ = (x + 1) * n := by rw [Nat.add_mul]; omega
      _ ≤ n * n := Nat.mul_le_mul_right _ hx
  rw [quo_hom hn hp ho hc hf hlt, h2]
  congr 1
  show (0 * _ + nmN p ((x * n + y) / n % n)) * (lstN p n).length + nmN p ((x * n + y) % n) = _
  have h1 : (x * n + y) / n = x := by rw [Nat.mul_comm, Nat.mul_add_div hn, Nat.div_eq_of_lt hy, Nat.add_zero]
  have h3 : (x * n + y) % n = y := by rw [Nat.mul_comm, Nat.mul_add_mod]; exact Nat.mod_eq_of_lt hy
  rw [h1, h3, Nat.mod_eq_of_lt hx, Nat.zero_mul, Nat.zero_add]
/-! ### Factors -/
def facP (n : Nat) (ops : List OpD) (L : List (List Int)) : PV := .sl 2 none (L.map fun p => algP ((lstN p n).length : Int) (quoL n p ops))
noncomputable def sfP (n : Int) (ops : List OpD) : PV := facP n.toNat ops (sbV n ops)
theorem sbV_facts {m : Nat} {ops : List OpD} (hb : acB (m : Int) ops = true) : (∀ p ∈ sbV (m : Int) ops, p ∈ irrC m (allL m ops) (allL m ops)) ∧ (sbV (m : Int) ops).length ≤ m ∧ cnt m (mtF m (fullL m) (sbV (m : Int) ops)) = m := by
  obtain ⟨m', e, hm0, hm8, h4, ho, hg, h2⟩ := acB_facts hb
  obtain rfl : m' = m := by omega
  have hall := irr_all (n := m') ho
  obtain ⟨a1, -, a3⟩ := sdL_mem hall
  have a2 := sdL_short (n := m') (W := irrC m' (allL m' ops) (allL m' ops)) (fun p hp => fc_pt p (List.mem_filter.1 hp).1) hall
  unfold sbV
  rw [hb, if_pos rfl, Int.toNat_natCast]
  exact ⟨a1, a2, a3⟩
theorem isfac_c (n : Int) (ops : List OpD) (hs : szOk ops) : PCalls Tryz.prog 25 [algP n ops] (.tup [sfP n ops, B (acB n ops)]) := by
  refine pcalls2 Tryz.func25 rfl Tryz.ntmps25 rfl ?_
  refine wF ?_
  have h1 := isdl_c n ops hs
  cases hb : acB n ops with
  | false =>
    rw [hb] at h1
    rw [show sfP n ops = .sl 2 none [] by unfold sfP sbV; rw [hb]; rfl]
    repeat' (first
| refine wO ?_
| (refine o_go rfl ?_; (first
| refine p_p (zG rfl rfl aB (h1)) ?_
| refine p_p (ps_lits rfl (by exact rfl) (by exact rfl) aR (by decide) (by decide)) ?_
| refine wS ?_
| refine p_p (ps_load_agg rfl rfl aK) ?_
| refine p_p (ps_box rfl rfl) ?_); refine ⟨_, aA, ?_⟩)
| refine kr2 ?_ ?_
| refine krB rfl ?_
| refine krS rfl ?_
| refine wE ?_)
    all_goals rfl
  | true =>
    rw [hb] at h1
    obtain ⟨m, rfl, hm0, hm8, h4, ho, hg, h2⟩ := acB_facts hb
    obtain ⟨f1, f2, -⟩ := sbV_facts hb
    unfold sfP
    rw [Int.toNat_natCast]
    have hL : ∀ p ∈ sbV (m : Int) ops, Pt m p := fun p hp => fc_pt p (List.mem_filter.1 (f1 p hp)).1
    generalize sbV (m : Int) ops = L at *
    repeat' (first
| refine wO ?_
| (refine o_go rfl ?_; (first
| refine p_p (zG rfl rfl aB (h1)) ?_
| refine p_e rfl (e_lit0T rfl (by decide)) ?_
| refine wS ?_
| refine p_p (ps_load_agg rfl rfl aK) ?_
| refine p_p (ps_box rfl rfl) ?_); refine ⟨_, aA, ?_⟩)
| refine wE ?_)
    refine g_loopF (α := Nat) [17] (fun k => [(6, .hp 0), (20, I (k : Int))]) (fun k => [.arr true 2 26 ((L.take k).map fun p => algP ((lstN p m).length : Int) (quoL m p ops))]) (fun k => k ≤ L.length) (fun k => L.length - k) 0 aF (Nat.zero_le _) ⟨rfl, rfl, trivial⟩ rfl ?_
    rintro k hk
    dsimp only [zZ, List.set_cons_zero, List.set_cons_succ]
    have hll : ((L.take k).map fun p => algP ((lstN p m).length : Int) (quoL m p ops)).length = k := by simp; omega
    by_cases hkl : k < L.length
    · have rk := rows_at hkl
      have pk := hL _ (rows_mem hkl)
      have q1 := iquo_c m ops (L.getD k []) hm0 hm8 (by omega) ho pk
      have hsn : (L.take (k + 1)).map (fun p => algP ((lstN p m).length : Int) (quoL m p ops)) = (L.take k).map (fun p => algP ((lstN p m).length : Int) (quoL m p ops)) ++ [algP ((lstN (L.getD k []) m).length : Int) (quoL m (L.getD k []) ops)] := by rw [take_snoc [] hkl, List.map_append]; rfl
      generalize (L.take k).map (fun p => algP ((lstN p m).length : Int) (quoL m p ops)) = A at *
      generalize quoL m (L.getD k []) ops = Q at *
      generalize (lstN (L.getD k []) m).length = K at *
      repeat' (first
| refine wO ?_
| (refine o_go rfl ?_; (first
| refine p_p (zN rfl rfl rfl (by omega) rk (by exact rfl)) ?_
| refine p_p (zG rfl rfl aB (q1)) ?_
| refine p_p (ps_litA [I (K : Int), opsP Q] rfl rfl (by rfl) (by decide) (by decide)) ?_
| refine p_e (by kernel_rfl) (e_append rfl rfl rfl rfl rfl rfl (one_ag rfl) rfl (by rw [hll, n_len_c, n_len_n]; omega) (by rw [hll, n_len_c, n_len_n]; omega)) ?_
| refine wS ?_
| refine p_p (ps_load_agg rfl rfl aK) ?_); refine ⟨_, aA, ?_⟩)
| (refine zK rfl (fun hc => ?_) (fun hc => ?_) <;> try (exfalso; omega))
| refine wE ?_)
      all_goals try (exfalso; omega)
      exact zT (k + 1) (by omega) (by omega) aI ⟨rfl, rfl, trivial⟩ (zB (by rw [hsn]) (zM _))
    · rw [List.take_of_length_le (by omega)]
      repeat' (first
| refine wO ?_
| (refine o_go rfl ?_; (first
| refine wS ?_); refine ⟨_, aA, ?_⟩)
| (refine zK rfl (fun hc => ?_) (fun hc => ?_) <;> try (exfalso; omega))
| refine kr2 ?_ ?_
| refine krB rfl ?_
| refine krS rfl ?_
| refine wE ?_)
      all_goals first | rfl | (exfalso; omega)
theorem ssfac_c (n : Int) (ops : List OpD) (hs : szOk ops) : PCalls Tryz.prog 26 [algP n ops] (.tup [sfP n ops, B (acB n ops)]) := by
  refine pcalls2 Tryz.func26 rfl Tryz.ntmps26 rfl ?_
  refine wF ?_
  have h1 := sfew_c n ops hs
  cases hb : acB n ops with
  | false =>
    rw [hb] at h1
    rw [show sfP n ops = .sl 2 none [] by unfold sfP sbV; rw [hb]; rfl]
    repeat' (first
| refine wO ?_
| (refine o_go rfl ?_; (first
| refine p_p (zG rfl rfl aB (h1)) ?_
| refine p_p (ps_lits rfl (by exact rfl) (by exact rfl) aR (by decide) (by decide)) ?_
| refine wS ?_
| refine p_p (ps_load_agg rfl rfl aK) ?_
| refine p_p (ps_box rfl rfl) ?_); refine ⟨_, aA, ?_⟩)
| refine kr2 ?_ ?_
| refine krB rfl ?_
| refine krS rfl ?_
| refine wE ?_)
    all_goals rfl
  | true =>
    rw [hb] at h1
    obtain ⟨m, rfl, hm0, hm8, h4, ho, hg, h2⟩ := acB_facts hb
    obtain ⟨f1, f2, -⟩ := sbV_facts hb
    have h3 := ssub10_c m ops hm0 hm8 (by omega) ho h2
    rw [show sdL m (irrC m (allL m ops) (allL m ops)) = sbV (m : Int) ops by unfold sbV; rw [hb, if_pos rfl, Int.toNat_natCast]] at h3
    unfold sfP
    rw [Int.toNat_natCast]
    have hL : ∀ p ∈ sbV (m : Int) ops, Pt m p := fun p hp => fc_pt p (List.mem_filter.1 (f1 p hp)).1
    generalize sbV (m : Int) ops = L at *
    repeat' (first
| refine wO ?_
| (refine o_go rfl ?_; (first
| refine p_p (zG rfl rfl aB (h1)) ?_
| refine p_p (zG rfl rfl aB (h3)) ?_
| refine p_e rfl (e_lit0T rfl (by decide)) ?_
| refine wS ?_
| refine p_p (ps_load_agg rfl rfl aK) ?_
| refine p_p (ps_box rfl rfl) ?_); refine ⟨_, aA, ?_⟩)
| refine wE ?_)
    refine g_loopF (α := Nat) [7] (fun k => [(4, .hp 0), (6, I (k : Int))]) (fun k => [.arr true 2 26 ((L.take k).map fun p => algP ((lstN p m).length : Int) (quoL m p ops))]) (fun k => k ≤ L.length) (fun k => L.length - k) 0 aF (Nat.zero_le _) ⟨rfl, rfl, trivial⟩ rfl ?_
    rintro k hk
    dsimp only [zZ, List.set_cons_zero, List.set_cons_succ]
    have hll : ((L.take k).map fun p => algP ((lstN p m).length : Int) (quoL m p ops)).length = k := by simp; omega
    by_cases hkl : k < L.length
    · have rk := rows_at hkl
      have pk := hL _ (rows_mem hkl)
      have q1 := squo_c m ops (L.getD k []) hm0 hm8 (by omega) ho pk
      have hsn : (L.take (k + 1)).map (fun p => algP ((lstN p m).length : Int) (quoL m p ops)) = (L.take k).map (fun p => algP ((lstN p m).length : Int) (quoL m p ops)) ++ [algP ((lstN (L.getD k []) m).length : Int) (quoL m (L.getD k []) ops)] := by rw [take_snoc [] hkl, List.map_append]; rfl
      generalize (L.take k).map (fun p => algP ((lstN p m).length : Int) (quoL m p ops)) = A at *
      generalize quoL m (L.getD k []) ops = Q at *
      generalize (lstN (L.getD k []) m).length = K at *
      repeat' (first
| refine wO ?_
| refine zP (by kernel_rfl) (by kernel_rfl) ?_
| (refine o_go rfl ?_; (first
| refine p_p (zN rfl rfl rfl (by omega) rk (by exact rfl)) ?_
| refine p_p (zG rfl rfl aB (q1)) ?_
| refine p_p (ps_litA [I (K : Int), opsP Q] rfl rfl (by rfl) (by decide) (by decide)) ?_
| refine p_e (by kernel_rfl) (e_append rfl rfl rfl rfl rfl rfl (one_ag rfl) rfl (by rw [hll, n_len_c, n_len_n]; omega) (by rw [hll, n_len_c, n_len_n]; omega)) ?_
| refine wS ?_
| refine p_p (ps_load_agg rfl rfl aK) ?_); refine ⟨_, aA, ?_⟩)
| (refine zK rfl (fun hc => ?_) (fun hc => ?_) <;> try (exfalso; omega))
| refine wE ?_)
      all_goals try (exfalso; omega)
      exact zT (k + 1) (by omega) (by omega) aI ⟨rfl, rfl, trivial⟩ (zB (by rw [hsn]) (zM _))
    · rw [List.take_of_length_le (by omega)]
      repeat' (first
| refine wO ?_
| (refine o_go rfl ?_; (first
| refine wS ?_); refine ⟨_, aA, ?_⟩)
| (refine zK rfl (fun hc => ?_) (fun hc => ?_) <;> try (exfalso; omega))
| refine kr2 ?_ ?_
| refine krB rfl ?_
| refine krS rfl ?_
| refine wE ?_)
      all_goals first | rfl | (exfalso; omega)
end Go.Proofs.YtbohjibbgppfaaaGreat
