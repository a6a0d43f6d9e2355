/- Walks: the Pixley operation made of two operations, on both sides. -/
import Derived.Test.YtlgfniaakjchgaaGreatLHi
import Derived.Test.YtlgfniaakjchgaaGreatLZc
import Derived.Test.YtlgfniaakjchgaaGreatLGg
import Derived.Test.YtlgfniaakjchgaaGreatLHk
namespace Go.Proofs.YtlgfniaakjchgaaGreat
open Go Go.Pv Go.Proofs
set_option maxHeartbeats 32000000
set_option maxRecDepth 100000
attribute [local bitvec_to_nat] St.put St.setObj St.ev killP killA killP1 killH mapHO renP renA ren1 killG killGA killG1 krowP krowA krow1 lendP lendA lend1 unv pinP pin1 elemsM viewM viewN viewV n_set_z n_set_s n_map_c n_map_n getD_z getD_s n_toNat n_cond_t n_cond_f n_len_c n_len_n n_app_c n_app_n n_take_s n_take_z n_drop_s n_drop_z n_get_z n_get_s view viewA view1 elems Nat.zero_add Nat.add_zero Bool.not_true Bool.not_false Nat.one_ne_zero Nat.mul_one
attribute [local bitvec_to_nat] posI optP lendM1 lendMA lendMP killM1 killMA killMP hasI getO backM1 backMA backMP putL inpM pinM1 pinMA pinMP

def pfB (n : Nat) (m j : OpD) : Bool := inB (n : Int) 1 8 && (decide (m.ar = 3) && (decide (j.ar = 3) && (opOk n m && opOk n j)))
def pfV (n : Nat) (m j : OpD) : OpD := if pfB n m j then ⟨3, pixL n m.tb j.tb⟩ else ⟨0, []⟩
theorem pfV_f {n : Nat} {m j : OpD} (h : pfB n m j = false) : pfV n m j = ⟨0, []⟩ := by unfold pfV; rw [h]; rfl
theorem pfV_t {n : Nat} {m j : OpD} (h : pfB n m j = true) : pfV n m j = ⟨3, pixL n m.tb j.tb⟩ := by unfold pfV; rw [h]; rfl
theorem opOk_3 {n : Nat} {f : OpD} (h3 : f.ar = 3) (h : opOk n f = true) : f.tb.length = n ^ 3 ∧ ∀ x ∈ f.tb, 0 ≤ x ∧ x < (n : Int) := by
  unfold opOk at h
  rw [h3] at h
  simp only [Bool.and_eq_true, decide_eq_true_eq] at h
  exact ⟨h.2.1, inSz_mem h.2.2⟩
theorem pix_at {n i : Nat} (hi : i < n ^ 3) (m j : List Int) : (pixL n m j).getD i 0 = j.getD ((i : Int) / ((n : Int) * (n : Int)) * (n : Int) * (n : Int) + m.getD i 0 * (n : Int) + (i : Int) % (n : Int)).toNat 0 := by
  have g : ∀ p, (prjL n 3 p).getD i 0 = (argsL n 3 i).getD p 0 := fun p => by
    simp only [prjL, List.getD_eq_getElem?_getD, List.getElem?_map, List.getElem?_range hi, Option.map_some, Option.getD_some]
  have ea : argsL n 3 i = [((i / n / n % n : Nat) : Int), ((i / n % n : Nat) : Int), ((i % n : Nat) : Int)] := rfl
  have e1 : i / n / n % n = i / (n * n) := by
    rw [Nat.div_div_eq_div_mul, Nat.mod_eq_of_lt]
    exact Nat.div_lt_of_lt_mul (by rw [show n * n * n = n ^ 3 by rw [Nat.pow_succ, Nat.pow_succ, Nat.pow_one]]; exact hi)
  have er : rowAt [prjL n 3 0, m, prjL n 3 2] i = [((i / (n * n) : Nat) : Int), m.getD i 0, ((i % n : Nat) : Int)] := by
    unfold rowAt
    rw [List.map_cons, List.map_cons, List.map_cons, List.map_nil, g 0, g 2, ea, ← e1]; rfl
  rw [cmp_getD hi, er]
  congr 2
  unfold idxL
  simp only [List.foldl_cons, List.foldl_nil, Int.zero_mul, Int.zero_add, Int.add_mul]
  push_cast
  rfl
theorem idx_pix {n i : Nat} (hn : 0 < n) (hi : i < n ^ 3) {v : Int} (h0 : 0 ≤ v) (h1 : v < (n : Int)) : 0 ≤ (i : Int) / ((n : Int) * (n : Int)) * (n : Int) * (n : Int) + v * (n : Int) + (i : Int) % (n : Int) ∧ (i : Int) / ((n : Int) * (n : Int)) * (n : Int) * (n : Int) + v * (n : Int) + (i : Int) % (n : Int) < ((n ^ 3 : Nat) : Int) := by
  have e : (i : Int) / ((n : Int) * (n : Int)) * (n : Int) * (n : Int) + v * (n : Int) + (i : Int) % (n : Int) = idxL n [((i / (n * n) : Nat) : Int), v, ((i % n : Nat) : Int)] := by
    unfold idxL
    simp only [List.foldl_cons, List.foldl_nil, Int.zero_mul, Int.zero_add, Int.add_mul]
    push_cast
    rfl
  rw [e]
  refine idxL_bound (n := n) [((i / (n * n) : Nat) : Int), v, ((i % n : Nat) : Int)] fun x hx => ?_
  have hd : i / (n * n) < n := Nat.div_lt_of_lt_mul (by rw [show n * n * n = n ^ 3 by rw [Nat.pow_succ, Nat.pow_succ, Nat.pow_one]]; exact hi)
  have hr : i % n < n := Nat.mod_lt _ hn
  simp only [List.mem_cons, List.not_mem_nil, or_false] at hx
  rcases hx with rfl | rfl | rfl
  · exact ⟨Int.natCast_nonneg _, Int.ofNat_lt.2 hd⟩
  · exact ⟨h0, h1⟩
  · exact ⟨Int.natCast_nonneg _, Int.ofNat_lt.2 hr⟩
theorem pix_nums {n i : Nat} (hn : 0 < n) (hn8 : n ≤ 8) (hi : i < n ^ 3) {v : Int} (h0 : 0 ≤ v) (h1 : v < (n : Int)) :
    (0 < (n : Int) * (n : Int) ∧ (n : Int) * (n : Int) ≤ 64) ∧ (0 ≤ (i : Int) / ((n : Int) * (n : Int)) ∧ (i : Int) / ((n : Int) * (n : Int)) ≤ 8) ∧ (0 ≤ (i : Int) / ((n : Int) * (n : Int)) * (n : Int) ∧ (i : Int) / ((n : Int) * (n : Int)) * (n : Int) ≤ 64) ∧
    (0 ≤ (i : Int) / ((n : Int) * (n : Int)) * (n : Int) * (n : Int) ∧ (i : Int) / ((n : Int) * (n : Int)) * (n : Int) * (n : Int) ≤ 512) ∧ (0 ≤ v * (n : Int) ∧ v * (n : Int) ≤ 64) ∧ (0 ≤ (i : Int) % (n : Int) ∧ (i : Int) % (n : Int) < 8) ∧ (i : Int) ≤ 512 := by
  have hd : i / (n * n) < n := Nat.div_lt_of_lt_mul (by rw [show n * n * n = n ^ 3 by rw [Nat.pow_succ, Nat.pow_succ, Nat.pow_one]]; exact hi)
  have hr : i % n < n := Nat.mod_lt _ hn
  obtain ⟨q, hq⟩ : ∃ q, q = i / (n * n) := ⟨_, rfl⟩
  have e : (i : Int) / ((n : Int) * (n : Int)) = (q : Int) := by rw [hq]; push_cast; rfl
  have e2 : (i : Int) % (n : Int) = ((i % n : Nat) : Int) := by push_cast; rfl
  obtain ⟨w, rfl⟩ : ∃ w : Nat, v = (w : Int) := ⟨v.toNat, by omega⟩
  rw [e, e2]
  rw [← hq] at hd
  have n1 : n * n ≤ 8 * 8 := Nat.mul_le_mul hn8 hn8
  have n2 : q * n ≤ 8 * 8 := Nat.mul_le_mul (by omega) hn8
  have n3 : q * n * n ≤ 64 * 8 := Nat.mul_le_mul n2 hn8
  have n4 : w * n ≤ 8 * 8 := Nat.mul_le_mul (by omega) hn8
  have n5 : 0 < n * n := Nat.mul_pos hn hn
  have n6 : i < 512 := Nat.lt_of_lt_of_le hi (Nat.le_trans (Nat.pow_le_pow_left hn8 3) (by decide))
  have c1 : ((n * n : Nat) : Int) = (n : Int) * (n : Int) := Int.natCast_mul _ _
  have c2 : ((q * n : Nat) : Int) = (q : Int) * (n : Int) := Int.natCast_mul _ _
  have c3 : ((q * n * n : Nat) : Int) = (q : Int) * (n : Int) * (n : Int) := by rw [Int.natCast_mul, c2]
  have c4 : ((w * n : Nat) : Int) = (w : Int) * (n : Int) := Int.natCast_mul _ _
  rw [← c1, ← c3, ← c2, ← c4]
  refine ⟨⟨by omega, by omega⟩, ⟨by omega, by omega⟩, ⟨Int.natCast_nonneg _, Int.ofNat_le.2 n2⟩, ⟨Int.natCast_nonneg _, Int.ofNat_le.2 n3⟩, ⟨Int.natCast_nonneg _, Int.ofNat_le.2 n4⟩, ⟨Int.natCast_nonneg _, by omega⟩, by omega⟩
theorem isz_c (n : Int) : PCalls Tryz.prog 33 [I n] (B (inB n 1 8)) := by
  refine pcalls1 Tryz.func33 rfl Tryz.ntmps33 rfl ?_
  simp only [List.length_cons, List.length_nil, Nat.reduceAdd, Nat.reduceSub, List.replicate_succ, List.replicate_zero, List.cons_append, List.nil_append]
  unfold inB
  repeat' (first
| refine g_seq ?_
| refine zC ?_
| (refine o_go rfl ?_; (first
| refine p_p (zD rfl) ?_
| refine p_p (zA rfl) ?_
| refine p_p (zQ rfl rfl) ?_
| refine p_p (ps_leq rfl rfl rfl) ?_
| refine p_p (ps_geq rfl rfl rfl) ?_); refine ⟨_, aB, ?_⟩)
| refine o_nil ?_
| (refine o_s rfl ?_; refine ⟨_, aB, ?_⟩)
| (refine o_splitD rfl rfl rfl (fun hc => ?_) (fun hc => ?_) <;> first | (exfalso; omega) | dsimp only [List.set_cons_zero, List.set_cons_succ])
| refine kr1 ?_
| refine krB rfl ?_
| refine g_ret ?_)
  · rw [decide_eq_true hc]; rfl
  · rw [decide_eq_false hc]; rfl
theorem ssz_c (n : Int) : PCalls Tryz.prog 52 [I n] (B (inB n 1 8)) := by
  refine pcalls1 Tryz.func52 rfl Tryz.ntmps52 rfl ?_
  simp only [List.length_cons, List.length_nil, Nat.reduceAdd, Nat.reduceSub, List.replicate_succ, List.replicate_zero, List.cons_append, List.nil_append]
  have h1 := in_c n 1 8
  repeat' (first
| refine g_seq ?_
| refine zC ?_
| (refine o_go rfl ?_; (first
| refine p_p (zG rfl rfl aC (h1)) ?_
| refine p_p (zD rfl) ?_
| refine p_p (zA rfl) ?_); refine ⟨_, aB, ?_⟩)
| refine o_nil ?_
| refine kr1 ?_
| refine krB rfl ?_
| refine g_ret ?_)
  all_goals rfl
theorem pf_true {n : Nat} {m j : OpD} (h : pfB n m j = true) : (1 ≤ n ∧ n ≤ 8) ∧ m.ar = 3 ∧ j.ar = 3 ∧ opOk n m = true ∧ opOk n j = true := by
  unfold pfB at h
  simp only [Bool.and_eq_true, decide_eq_true_eq] at h
  obtain ⟨h1, h2, h3, h4, h5⟩ := h
  have := inB_iff.1 h1
  exact ⟨by omega, h2, h3, h4, h5⟩
theorem pf_cases (n : Nat) (m j : OpD) : (inB (n : Int) 1 8 = false ∧ pfB n m j = false) ∨ (inB (n : Int) 1 8 = true ∧ (¬ m.ar = 3 ∧ pfB n m j = false ∨ m.ar = 3 ∧ (¬ j.ar = 3 ∧ pfB n m j = false ∨ j.ar = 3 ∧ (opOk n m = false ∧ pfB n m j = false ∨ opOk n m = true ∧ (opOk n j = false ∧ pfB n m j = false ∨ opOk n j = true ∧ pfB n m j = true))))) := by
  unfold pfB
  cases inB (n : Int) 1 8 with
  | false => exact .inl ⟨rfl, rfl⟩
  | true =>
    refine .inr ⟨rfl, ?_⟩
    by_cases h1 : m.ar = 3
    · refine .inr ⟨h1, ?_⟩
      by_cases h2 : j.ar = 3
      · refine .inr ⟨h2, ?_⟩
        rw [decide_eq_true h1, decide_eq_true h2]
        cases opOk n m with
        | false => exact .inl ⟨rfl, rfl⟩
        | true =>
          refine .inr ⟨rfl, ?_⟩
          cases opOk n j with
          | false => exact .inl ⟨rfl, rfl⟩
          | true => exact .inr ⟨rfl, rfl⟩
      · exact .inl ⟨h2, by rw [decide_eq_true h1, decide_eq_false h2]; rfl⟩
    · exact .inl ⟨h1, by rw [decide_eq_false h1]; rfl⟩
theorem krC_opnil {S : St} {a : Tmp} {x : Int} (h : viewM S.hp (S.ev (.tmp a)) = .ptr [I x, nilV]) : KRC S a 2 (opP ⟨x, []⟩) := krC_le h (Nat.le_refl _) rfl (agg2_le (PV.le_nil 1))
theorem spf_c (n : Nat) (m j : OpD) (hn : n ≤ 1000) (hm : m.tb.length ≤ 1048576) (hj : j.tb.length ≤ 1048576) : PCalls Tryz.prog 18 [I (n : Int), opP m, opP j] (.tup [opP (pfV n m j), B (pfB n m j)]) := by
  refine pcallsCT Tryz.func18 rfl Tryz.ntmps18 rfl ?_
  simp only [List.length_cons, List.length_nil, Nat.reduceAdd, Nat.reduceSub, List.replicate_succ, List.replicate_zero, List.cons_append, List.nil_append]
  have h1 := ssz_c n
  have h2 := sop_c n m hn hm
  have h3 := sop_c n j hn hj
  rcases pf_cases n m j with ⟨e1, e⟩ | ⟨e1, ⟨e2, e⟩ | ⟨e2, ⟨e3, e⟩ | ⟨e3, ⟨e4, e⟩ | ⟨e4, ⟨e5, e⟩ | ⟨e5, e⟩⟩⟩⟩⟩
  · rw [e1] at h1
    rw [pfV_f e, e]
    repeat' (first
| refine krC_opnil rfl
| refine g_seq ?_
| refine zC ?_
| (refine o_go rfl ?_; (first
| refine p_p (zG rfl rfl aC (h1)) ?_
| refine p_p (zD rfl) ?_
| refine p_p (zA rfl) ?_
| refine p_p (ps_not rfl rfl) ?_
| refine p_p (zQ rfl rfl) ?_
| refine p_e rfl (zO rfl rfl rfl rfl aK rfl rfl rfl) ?_
| refine p_e rfl (e_alloc rfl) ?_
| refine p_p (ps_box rfl rfl) ?_
| refine p_p (ps_build rfl rfl) ?_); refine ⟨_, aB, ?_⟩)
| refine o_nil ?_
| (refine o_s rfl ?_; refine ⟨_, aB, ?_⟩)
| refine zX rfl ?_
| refine krct ?_ ?_
| refine krB rfl ?_
| refine g_ret ?_)
    all_goals try (exfalso; first | omega | (simp only [decide_eq_true_eq, decide_eq_false_iff_not] at *; omega))
    all_goals rfl
  · rw [e1] at h1
    rw [pfV_f e, e]
    repeat' (first
| refine krC_opnil rfl
| refine g_seq ?_
| refine zC ?_
| (refine o_go rfl ?_; (first
| refine p_p (zG rfl rfl aC (h1)) ?_
| refine p_p (zD rfl) ?_
| refine p_p (zA rfl) ?_
| refine p_p (zF rfl rfl) ?_
| refine p_p (ps_load_agg rfl rfl aK) ?_
| refine p_p (zL rfl rfl) ?_
| refine p_p (ps_not rfl rfl) ?_
| refine p_p (zQ rfl rfl) ?_
| refine p_p (ps_neq rfl rfl rfl) ?_
| refine p_e rfl (zO rfl rfl rfl rfl aK rfl rfl rfl) ?_
| refine p_e rfl (e_alloc rfl) ?_
| refine p_p (ps_box rfl rfl) ?_
| refine p_p (ps_build rfl rfl) ?_); refine ⟨_, aB, ?_⟩)
| refine o_nil ?_
| (refine o_s rfl ?_; refine ⟨_, aB, ?_⟩)
| (refine o_splitN rfl rfl rfl (fun hc => ?_) (fun hc => ?_) <;> dsimp only [List.set_cons_zero, List.set_cons_succ])
| refine zX rfl ?_
| refine krct ?_ ?_
| refine krB rfl ?_
| refine g_ret ?_)
    all_goals try (exfalso; first | omega | (simp only [decide_eq_true_eq, decide_eq_false_iff_not] at *; omega))
    all_goals rfl
  · rw [e1] at h1
    rw [pfV_f e, e]
    repeat' (first
| refine krC_opnil rfl
| refine g_seq ?_
| refine zC ?_
| (refine o_go rfl ?_; (first
| refine p_p (zG rfl rfl aC (h1)) ?_
| refine p_p (zD rfl) ?_
| refine p_p (zA rfl) ?_
| refine p_p (zF rfl rfl) ?_
| refine p_p (ps_load_agg rfl rfl aK) ?_
| refine p_p (zL rfl rfl) ?_
| refine p_p (ps_not rfl rfl) ?_
| refine p_p (zQ rfl rfl) ?_
| refine p_p (ps_neq rfl rfl rfl) ?_
| refine p_e rfl (zO rfl rfl rfl rfl aK rfl rfl rfl) ?_
| refine p_e rfl (e_alloc rfl) ?_
| refine p_p (ps_box rfl rfl) ?_
| refine p_p (ps_build rfl rfl) ?_); refine ⟨_, aB, ?_⟩)
| refine o_nil ?_
| (refine o_s rfl ?_; refine ⟨_, aB, ?_⟩)
| (refine o_splitN rfl rfl rfl (fun hc => ?_) (fun hc => ?_) <;> dsimp only [List.set_cons_zero, List.set_cons_succ])
| refine zX rfl ?_
| refine krct ?_ ?_
| refine krB rfl ?_
| refine g_ret ?_)
    all_goals try (exfalso; first | omega | (simp only [decide_eq_true_eq, decide_eq_false_iff_not] at *; omega))
    all_goals rfl
  · rw [e1] at h1; rw [e4] at h2
    rw [pfV_f e, e]
    repeat' (first
| refine krC_opnil rfl
| refine g_seq ?_
| refine zC ?_
| (refine o_go rfl ?_; (first
| refine p_p (zG rfl rfl aC (h1)) ?_
| refine p_p (zG rfl rfl aC (h2)) ?_
| refine p_p (zD rfl) ?_
| refine p_p (zA rfl) ?_
| refine p_p (zF rfl rfl) ?_
| refine p_p (ps_load_agg rfl rfl aK) ?_
| refine p_p (zL rfl rfl) ?_
| refine p_p (ps_not rfl rfl) ?_
| refine p_p (zQ rfl rfl) ?_
| refine p_p (ps_neq rfl rfl rfl) ?_
| refine p_e rfl (zO rfl rfl rfl rfl aK rfl rfl rfl) ?_
| refine p_e rfl (e_alloc rfl) ?_
| refine p_p (ps_box rfl rfl) ?_
| refine p_p (ps_build rfl rfl) ?_); refine ⟨_, aB, ?_⟩)
| refine o_nil ?_
| (refine o_s rfl ?_; refine ⟨_, aB, ?_⟩)
| (refine o_splitN rfl rfl rfl (fun hc => ?_) (fun hc => ?_) <;> dsimp only [List.set_cons_zero, List.set_cons_succ])
| refine zX rfl ?_
| refine krct ?_ ?_
| refine krB rfl ?_
| refine g_ret ?_)
    all_goals try (exfalso; first | omega | (simp only [decide_eq_true_eq, decide_eq_false_iff_not] at *; omega))
    all_goals rfl
  · rw [e1] at h1; rw [e4] at h2; rw [e5] at h3
    rw [pfV_f e, e]
    repeat' (first
| refine krC_opnil rfl
| refine g_seq ?_
| refine zC ?_
| (refine o_go rfl ?_; (first
| refine p_p (zG rfl rfl aC (h1)) ?_
| refine p_p (zG rfl rfl aC (h2)) ?_
| refine p_p (zG rfl rfl aC (h3)) ?_
| refine p_p (zD rfl) ?_
| refine p_p (zA rfl) ?_
| refine p_p (zF rfl rfl) ?_
| refine p_p (ps_load_agg rfl rfl aK) ?_
| refine p_p (zL rfl rfl) ?_
| refine p_p (ps_not rfl rfl) ?_
| refine p_p (zQ rfl rfl) ?_
| refine p_p (ps_neq rfl rfl rfl) ?_
| refine p_e rfl (zO rfl rfl rfl rfl aK rfl rfl rfl) ?_
| refine p_e rfl (e_alloc rfl) ?_
| refine p_p (ps_box rfl rfl) ?_
| refine p_p (ps_build rfl rfl) ?_); refine ⟨_, aB, ?_⟩)
| refine o_nil ?_
| (refine o_s rfl ?_; refine ⟨_, aB, ?_⟩)
| (refine o_splitN rfl rfl rfl (fun hc => ?_) (fun hc => ?_) <;> dsimp only [List.set_cons_zero, List.set_cons_succ])
| refine zX rfl ?_
| refine krct ?_ ?_
| refine krB rfl ?_
| refine g_ret ?_)
    all_goals try (exfalso; first | omega | (simp only [decide_eq_true_eq, decide_eq_false_iff_not] at *; omega))
    all_goals rfl
  · rw [e1] at h1; rw [e4] at h2; rw [e5] at h3
    rw [pfV_t e, e]
    obtain ⟨⟨n1, n8⟩, -⟩ := pf_true e
    obtain ⟨m1, m2⟩ := opOk_3 e2 e4
    obtain ⟨j1, j2⟩ := opOk_3 e3 e5
    have g1 := sprj_c n 3 0 n1 n8 (by decide) (by decide)
    have g2 := sprj_c n 3 2 n1 n8 (by decide) (by decide)
    have hpn := Nat.pow_le_pow_left n8 3
    have g3 := scmp_c n (n ^ 3) j.ar j.tb [prjL n 3 0, m.tb, prjL n 3 2] n8 (by omega) (Nat.le_refl _) j1 (fun t ht => by
      simp only [List.mem_cons, List.not_mem_nil, or_false] at ht
      rcases ht with rfl | rfl | rfl
      · exact (prj_ok (k := 3) n1 default)
      · exact ⟨m1, m2⟩
      · exact (prj_ok (k := 3) n1 default))
    have e9 : ((n ^ 3 : Nat) : Int) = (n : Int) * (n : Int) * (n : Int) := by rw [Nat.pow_succ, Nat.pow_succ, Nat.pow_one, Int.natCast_mul, Int.natCast_mul]
    rw [e9] at g3
    have hnn : (n : Int) * (n : Int) ≤ 64 ∧ 0 ≤ (n : Int) * (n : Int) := by
      have : n * n ≤ 8 * 8 := Nat.mul_le_mul n8 n8
      rw [← Int.natCast_mul]; omega
    have hnnn : (n : Int) * (n : Int) * (n : Int) ≤ 512 ∧ 0 ≤ (n : Int) * (n : Int) * (n : Int) := by rw [← e9]; omega
    repeat' (first
| refine g_seq ?_
| refine zC ?_
| refine zP (by kernel_rfl) (by kernel_rfl) ?_
| (refine o_go rfl ?_; (first
| refine p_p (zG rfl rfl aC (h1)) ?_
| refine p_p (zG rfl rfl aC (h2)) ?_
| refine p_p (zG rfl rfl aC (h3)) ?_
| refine p_p (zG rfl rfl aC (g1)) ?_
| refine p_p (zG rfl rfl aC (g2)) ?_
| refine p_p (zG rfl rfl aC (g3)) ?_
| refine p_p (ps_mul rfl rfl rfl aN) ?_
| refine p_p (zD rfl) ?_
| refine p_p (zA rfl) ?_
| refine p_p (zF rfl rfl) ?_
| refine p_p (ps_load_agg rfl rfl aK) ?_
| refine p_p (zL rfl rfl) ?_
| refine p_p (ps_not rfl rfl) ?_
| refine p_p (zQ rfl rfl) ?_
| refine p_p (ps_neq rfl rfl rfl) ?_
| refine p_e rfl (zO rfl rfl rfl rfl aK rfl rfl rfl) ?_
| refine p_e rfl (e_alloc rfl) ?_
| refine p_p (ps_box rfl rfl) ?_
| refine p_p (ps_lit3 rfl rfl rfl rfl (by rfl) (by rfl) (by rfl) (by rfl)) ?_
| refine p_p (ps_build rfl rfl) ?_); refine ⟨_, aB, ?_⟩)
| refine o_nil ?_
| (refine o_s rfl ?_; refine ⟨_, aB, ?_⟩)
| (refine o_splitN rfl rfl rfl (fun hc => ?_) (fun hc => ?_) <;> dsimp only [List.set_cons_zero, List.set_cons_succ])
| refine zX rfl ?_
| refine zW rfl ?_
| refine krct ?_ ?_
| refine krC rfl aK ?_
| refine krB rfl ?_
| refine zR ?_
| refine g_ret ?_)
    all_goals try (exfalso; first | omega | (simp only [decide_eq_true_eq, decide_eq_false_iff_not] at *; omega))
    all_goals rfl
def pfH (T : List Int) : Nat → List HO
  | 0 => [.box [I 0, nilV], .box [I 3, nilV]]
  | i + 1 => [.box [I 0, nilV], .box [I 3, .hp 2], .arr true 1 3 ((T.take (i + 1)).map I)]
theorem ipf_c (n : Nat) (m j : OpD) (hn : n ≤ 1000) (hm : m.tb.length ≤ 1048576) (hj : j.tb.length ≤ 1048576) : PCalls Tryz.prog 13 [I (n : Int), opP m, opP j] (.tup [opP (pfV n m j), B (pfB n m j)]) := by
  refine pcallsCT Tryz.func13 rfl Tryz.ntmps13 rfl ?_
  simp only [List.length_cons, List.length_nil, Nat.reduceAdd, Nat.reduceSub, List.replicate_succ, List.replicate_zero, List.cons_append, List.nil_append]
  have h1 := isz_c n
  have h2 := iop_c n m hn hm
  have h3 := iop_c n j hn hj
  rcases pf_cases n m j with ⟨e1, e⟩ | ⟨e1, ⟨e2, e⟩ | ⟨e2, ⟨e3, e⟩ | ⟨e3, ⟨e4, e⟩ | ⟨e4, ⟨e5, e⟩ | ⟨e5, e⟩⟩⟩⟩⟩
  · rw [e1] at h1
    rw [pfV_f e, e]
    repeat' (first
| refine krC_opnil rfl
| refine g_seq ?_
| refine zC ?_
| (refine o_go rfl ?_; (first
| refine p_p (zG rfl rfl aC (h1)) ?_
| refine p_p (zD rfl) ?_
| refine p_p (zA rfl) ?_
| refine p_p (ps_not rfl rfl) ?_
| refine p_p (zQ rfl rfl) ?_
| refine p_e rfl (zO rfl rfl rfl rfl aK rfl rfl rfl) ?_
| refine p_e rfl (e_alloc rfl) ?_
| refine p_p (ps_box rfl rfl) ?_
| refine p_p (ps_build rfl rfl) ?_); refine ⟨_, aB, ?_⟩)
| refine o_nil ?_
| (refine o_s rfl ?_; refine ⟨_, aB, ?_⟩)
| refine zX rfl ?_
| refine krct ?_ ?_
| refine krB rfl ?_
| refine g_ret ?_)
    all_goals try (exfalso; first | omega | (simp only [decide_eq_true_eq, decide_eq_false_iff_not] at *; omega))
    all_goals rfl
  · rw [e1] at h1
    rw [pfV_f e, e]
    repeat' (first
| refine krC_opnil rfl
| refine g_seq ?_
| refine zC ?_
| (refine o_go rfl ?_; (first
| refine p_p (zG rfl rfl aC (h1)) ?_
| refine p_p (zD rfl) ?_
| refine p_p (zA rfl) ?_
| refine p_p (zF rfl rfl) ?_
| refine p_p (ps_load_agg rfl rfl aK) ?_
| refine p_p (zL rfl rfl) ?_
| refine p_p (ps_not rfl rfl) ?_
| refine p_p (zQ rfl rfl) ?_
| refine p_p (ps_neq rfl rfl rfl) ?_
| refine p_e rfl (zO rfl rfl rfl rfl aK rfl rfl rfl) ?_
| refine p_e rfl (e_alloc rfl) ?_
| refine p_p (ps_box rfl rfl) ?_
| refine p_p (ps_build rfl rfl) ?_); refine ⟨_, aB, ?_⟩)
| refine o_nil ?_
| (refine o_s rfl ?_; refine ⟨_, aB, ?_⟩)
| (refine o_splitN rfl rfl rfl (fun hc => ?_) (fun hc => ?_) <;> dsimp only [List.set_cons_zero, List.set_cons_succ])
| refine zX rfl ?_
| refine krct ?_ ?_
| refine krB rfl ?_
| refine g_ret ?_)
    all_goals try (exfalso; first | omega | (simp only [decide_eq_true_eq, decide_eq_false_iff_not] at *; omega))
    all_goals rfl
  · rw [e1] at h1
    rw [pfV_f e, e]
    repeat' (first
| refine krC_opnil rfl
| refine g_seq ?_
| refine zC ?_
| (refine o_go rfl ?_; (first
| refine p_p (zG rfl rfl aC (h1)) ?_
| refine p_p (zD rfl) ?_
| refine p_p (zA rfl) ?_
| refine p_p (zF rfl rfl) ?_
| refine p_p (ps_load_agg rfl rfl aK) ?_
| refine p_p (zL rfl rfl) ?_
| refine p_p (ps_not rfl rfl) ?_
| refine p_p (zQ rfl rfl) ?_
| refine p_p (ps_neq rfl rfl rfl) ?_
| refine p_e rfl (zO rfl rfl rfl rfl aK rfl rfl rfl) ?_
| refine p_e rfl (e_alloc rfl) ?_
| refine p_p (ps_box rfl rfl) ?_
| refine p_p (ps_build rfl rfl) ?_); refine ⟨_, aB, ?_⟩)
| refine o_nil ?_
| (refine o_s rfl ?_; refine ⟨_, aB, ?_⟩)
| (refine o_splitN rfl rfl rfl (fun hc => ?_) (fun hc => ?_) <;> dsimp only [List.set_cons_zero, List.set_cons_succ])
| refine zX rfl ?_
| refine krct ?_ ?_
| refine krB rfl ?_
| refine g_ret ?_)
    all_goals try (exfalso; first | omega | (simp only [decide_eq_true_eq, decide_eq_false_iff_not] at *; omega))
    all_goals rfl
  · rw [e1] at h1; rw [e4] at h2
    rw [pfV_f e, e]
    repeat' (first
| refine krC_opnil rfl
| refine g_seq ?_
| refine zC ?_
| (refine o_go rfl ?_; (first
| refine p_p (zG rfl rfl aC (h1)) ?_
| refine p_p (zG rfl rfl aC (h2)) ?_
| refine p_p (zD rfl) ?_
| refine p_p (zA rfl) ?_
| refine p_p (zF rfl rfl) ?_
| refine p_p (ps_load_agg rfl rfl aK) ?_
| refine p_p (zL rfl rfl) ?_
| refine p_p (ps_not rfl rfl) ?_
| refine p_p (zQ rfl rfl) ?_
| refine p_p (ps_neq rfl rfl rfl) ?_
| refine p_e rfl (zO rfl rfl rfl rfl aK rfl rfl rfl) ?_
| refine p_e rfl (e_alloc rfl) ?_
| refine p_p (ps_box rfl rfl) ?_
| refine p_p (ps_build rfl rfl) ?_); refine ⟨_, aB, ?_⟩)
| refine o_nil ?_
| (refine o_s rfl ?_; refine ⟨_, aB, ?_⟩)
| (refine o_splitN rfl rfl rfl (fun hc => ?_) (fun hc => ?_) <;> dsimp only [List.set_cons_zero, List.set_cons_succ])
| refine zX rfl ?_
| refine krct ?_ ?_
| refine krB rfl ?_
| refine g_ret ?_)
    all_goals try (exfalso; first | omega | (simp only [decide_eq_true_eq, decide_eq_false_iff_not] at *; omega))
    all_goals rfl
  · rw [e1] at h1; rw [e4] at h2; rw [e5] at h3
    rw [pfV_f e, e]
    repeat' (first
| refine krC_opnil rfl
| refine g_seq ?_
| refine zC ?_
| (refine o_go rfl ?_; (first
| refine p_p (zG rfl rfl aC (h1)) ?_
| refine p_p (zG rfl rfl aC (h2)) ?_
| refine p_p (zG rfl rfl aC (h3)) ?_
| refine p_p (zD rfl) ?_
| refine p_p (zA rfl) ?_
| refine p_p (zF rfl rfl) ?_
| refine p_p (ps_load_agg rfl rfl aK) ?_
| refine p_p (zL rfl rfl) ?_
| refine p_p (ps_not rfl rfl) ?_
| refine p_p (zQ rfl rfl) ?_
| refine p_p (ps_neq rfl rfl rfl) ?_
| refine p_e rfl (zO rfl rfl rfl rfl aK rfl rfl rfl) ?_
| refine p_e rfl (e_alloc rfl) ?_
| refine p_p (ps_box rfl rfl) ?_
| refine p_p (ps_build rfl rfl) ?_); refine ⟨_, aB, ?_⟩)
| refine o_nil ?_
| (refine o_s rfl ?_; refine ⟨_, aB, ?_⟩)
| (refine o_splitN rfl rfl rfl (fun hc => ?_) (fun hc => ?_) <;> dsimp only [List.set_cons_zero, List.set_cons_succ])
| refine zX rfl ?_
| refine krct ?_ ?_
| refine krB rfl ?_
| refine g_ret ?_)
    all_goals try (exfalso; first | omega | (simp only [decide_eq_true_eq, decide_eq_false_iff_not] at *; omega))
    all_goals rfl
  · rw [e1] at h1; rw [e4] at h2; rw [e5] at h3
    rw [pfV_t e, e]
    obtain ⟨⟨n1, n8⟩, -⟩ := pf_true e
    obtain ⟨m1, m2⟩ := opOk_3 e2 e4
    obtain ⟨j1, j2⟩ := opOk_3 e3 e5
    obtain ⟨T, hT⟩ : ∃ T, T = pixL n m.tb j.tb := ⟨_, rfl⟩
    rw [← hT]
    have hTl : T.length = n ^ 3 := by rw [hT]; exact com3_len _ _ _ _ _
    have hpn := Nat.pow_le_pow_left n8 3
    have hp0 : 0 < n ^ 3 := Nat.pow_pos n1
    have hml : (m.tb.map I).length = n ^ 3 := by rw [List.length_map]; exact m1
    repeat' (first
| refine g_seq ?_
| refine zJ ?_
| refine zC ?_
| (refine o_go rfl ?_; (first
| refine p_p (zG rfl rfl aC (h1)) ?_
| refine p_p (zG rfl rfl aC (h2)) ?_
| refine p_p (zG rfl rfl aC (h3)) ?_
| refine p_p (zD rfl) ?_
| refine p_p (zA rfl) ?_
| refine p_p (zF rfl rfl) ?_
| refine p_p (ps_load_agg rfl rfl aK) ?_
| refine p_p (zU rfl rfl rfl) ?_
| refine p_p (zL rfl rfl) ?_
| refine p_p (ps_not rfl rfl) ?_
| refine p_p (zQ rfl rfl) ?_
| refine p_p (ps_neq rfl rfl rfl) ?_
| refine p_e rfl (zO rfl rfl rfl rfl aK rfl rfl rfl) ?_
| refine p_e rfl (e_alloc rfl) ?_
| refine p_p (ps_box rfl rfl) ?_
| refine p_p (ps_build rfl rfl) ?_); refine ⟨_, aB, ?_⟩)
| refine o_nil ?_
| (refine o_s rfl ?_; refine ⟨_, aB, ?_⟩)
| (refine o_splitN rfl rfl rfl (fun hc => ?_) (fun hc => ?_) <;> dsimp only [List.set_cons_zero, List.set_cons_succ])
| refine zX rfl ?_
| refine zW rfl ?_
| refine krct ?_ ?_
| refine krC rfl aK ?_
| refine krB rfl ?_
| refine zR ?_
| refine g_ret ?_)
    all_goals try (exfalso; first | omega | (simp only [decide_eq_true_eq, decide_eq_false_iff_not] at *; omega))
    refine g_loopT (α := Nat) (fun i => [(41, I (i : Int))]) (fun i => pfH T i) (fun i => i ≤ n ^ 3) (fun i => n ^ 3 - i) 0 aH (Nat.zero_le _) ⟨rfl, trivial⟩ rfl ?_
    rintro i hi
    dsimp only [zZ, List.set_cons_zero, List.set_cons_succ]
    by_cases hin : i < n ^ 3
    · obtain ⟨v, hv⟩ : ∃ v, v = m.tb.getD i 0 := ⟨_, rfl⟩
      have hvm : v ∈ m.tb := by rw [hv, List.getD_eq_getElem?_getD, List.getElem?_eq_getElem (by omega)]; exact List.getElem_mem _
      obtain ⟨v0, v1⟩ := m2 v hvm
      have hvi : (m.tb.map I)[((i : Int)).toNat]? = some (I v) := by
        rw [Int.toNat_natCast, List.getElem?_map, List.getElem?_eq_getElem (by omega), hv, List.getD_eq_getElem?_getD, List.getElem?_eq_getElem (by omega)]; rfl
      obtain ⟨p1, p2, p3, p4, p5, p6, p7⟩ := pix_nums n1 n8 hin v0 v1
      have hx := idx_pix n1 hin v0 v1
      have hat := pix_at (n := n) hin m.tb j.tb
      rw [← hT, ← hv] at hat
      have hq : (j.tb.map I)[((i : Int) / ((n : Int) * (n : Int)) * (n : Int) * (n : Int) + v * (n : Int) + (i : Int) % (n : Int)).toNat]? = some (I (T.getD i 0)) := by
        rw [hat, List.getElem?_map, List.getElem?_eq_getElem (by omega), List.getD_eq_getElem?_getD, List.getElem?_eq_getElem (by omega)]; rfl
      have htk : T.take (i + 1) = T.take i ++ [T.getD i 0] := by rw [take_snoc 0 (by omega)]
      have htl : ((T.take i).map I).length = i := by rw [List.length_map, List.length_take]; omega
      cases i with
      | zero =>
        dsimp only [pfH]
        repeat' (first
| refine g_seq ?_
| refine zJ ?_
| refine zC ?_
| (refine o_go rfl ?_; (first
| refine p_p (zN rfl rfl rfl (by omega) hvi (by exact rfl)) ?_
| refine p_p (zD rfl) ?_
| refine p_p (zA rfl) ?_
| refine p_p (zF rfl rfl) ?_
| refine p_p (zS rfl rfl rfl) ?_); refine ⟨_, aB, ?_⟩)
| refine o_nil ?_
| (refine zK rfl (fun hc => ?_) (fun hc => ?_) <;> try (exfalso; omega))
| refine zR ?_)
        all_goals try (exfalso; omega)
        refine g_region_drawZ [(0, some [2]), (1, some []), (2, some [2]), (3, some [2]), (4, some [2]), (5, some [2]), (6, some [2]), (7, some [2]), (8, some [2]), (9, some [2]), (10, some [2]), (11, some [2]), (12, some [2]), (13, some [2]), (14, some [2]), (15, some [2]), (16, some [2]), (17, some [2]), (18, some [2]), (19, some [2]), (20, some [2]), (21, none), (22, none), (23, none), (24, none), (25, none), (26, none)] [(24, 2), (26, 999999)] (fun hp => hp[1]? = some (.box [I 3, nilV])) (by kernel_rfl) rfl (by kernel_rfl) ?_
        repeat' (first
| refine z_nil ?_
| ((first
| refine zV rfl rfl (fun hp hH => zH rfl rfl hH rfl) aJ aD (by decide) aA ?_
| refine zV rfl rfl (fun hp hH => ps_mul rfl rfl rfl aN) aJ aD (by decide) aA ?_
| refine zV rfl rfl (fun hp hH => ps_quo rfl rfl rfl (by omega) (by omega) (by omega)) aJ aD (by decide) aA ?_
| refine zV rfl rfl (fun hp hH => ps_rem rfl rfl rfl (by omega) (by omega)) aJ aD (by decide) aA ?_
| refine zV rfl rfl (fun _ _ => zD rfl) aJ aD (by decide) aA ?_
| refine zV rfl rfl (fun _ _ => zF rfl rfl) aJ aD (by decide) aA ?_
| refine zV rfl rfl (fun _ _ => ps_add rfl rfl rfl aN) aJ aD (by decide) aA ?_
| refine zV rfl rfl (fun _ _ => zL rfl rfl) aJ aD (by decide) aA ?_
| refine zV rfl rfl (fun _ _ => zE rfl rfl) aJ aD (by decide) aA ?_
| refine z_eff rfl rfl aG (j_pure (zN rfl rfl rfl hx.1 hq (by exact rfl))) aF ?_
| refine z_eff rfl rfl aG (j_appendNil rfl rfl rfl rfl (one_one rfl) (by decide) rfl aP aP aP) aF ?_
| refine z_eff rfl rfl aG (j_store_boxC rfl rfl rfl rfl aK rfl rfl) aF ?_
| refine z_eff rfl rfl aG (j_pure (zF rfl rfl)) aF ?_
| refine z_eff rfl rfl aG (j_pure (zE rfl rfl)) aF ?_
| refine z_eff rfl rfl aG (j_pure (ps_lit1 rfl rfl (by rfl) (by rfl))) aF ?_); refine ⟨_, aQ, ?_⟩))
        repeat' (first
| refine zC ?_
| (refine o_go rfl ?_; (first
| refine p_p (zD rfl) ?_
| refine p_p (ps_add rfl rfl rfl aN) ?_); refine ⟨_, aB, ?_⟩)
| refine o_nil ?_)
        exact zT 1 (by omega) (by omega) aI ⟨vI (by omega), trivial⟩ (zB rfl (zB rfl (zB (by rw [htk]; rfl) (zM _))))
      | succ i =>
        dsimp only [pfH]
        repeat' (first
| refine g_seq ?_
| refine zJ ?_
| refine zC ?_
| (refine o_go rfl ?_; (first
| refine p_p (zN rfl rfl rfl (by omega) hvi (by exact rfl)) ?_
| refine p_p (zD rfl) ?_
| refine p_p (zA rfl) ?_
| refine p_p (zF rfl rfl) ?_
| refine p_p (zS rfl rfl rfl) ?_); refine ⟨_, aB, ?_⟩)
| refine o_nil ?_
| (refine zK rfl (fun hc => ?_) (fun hc => ?_) <;> try (exfalso; omega))
| refine zR ?_)
        all_goals try (exfalso; omega)
        refine g_region_drawU [(0, some [2]), (1, some []), (2, some [2]), (3, some [2]), (4, some [2]), (5, some [2]), (6, some [2]), (7, some [2]), (8, some [2]), (9, some [2]), (10, some [2]), (11, some [2]), (12, some [2]), (13, some [2]), (14, some [2]), (15, some [2]), (16, some [2]), (17, some [2]), (18, some [2]), (19, some [2]), (20, some [2]), (21, none), (22, none), (23, none), (24, none), (25, none), (26, none)] [(24, 2), (26, 999999)] (fun U hp => (∃ a, hp[1]? = some (.box [I 3, a])) ∧ (2 ∉ U → hp[1]? = some (.box [I 3, .hp 2]))) (by kernel_rfl) rfl (by kernel_rfl) ?_
        repeat' (first
| refine u_nil ?_
| ((first
| refine u_pure rfl rfl (fun hp hH => zH rfl rfl (hH.2 (by decide)) rfl) aJ aD (by decide) aO ?_
| refine u_pure rfl rfl (fun hp hH => ps_mul rfl rfl rfl aN) aJ aD (by decide) aO ?_
| refine u_pure rfl rfl (fun hp hH => ps_quo rfl rfl rfl (by omega) (by omega) (by omega)) aJ aD (by decide) aO ?_
| refine u_pure rfl rfl (fun hp hH => ps_rem rfl rfl rfl (by omega) (by omega)) aJ aD (by decide) aO ?_
| refine u_pure rfl rfl (fun _ _ => zD rfl) aJ aD (by decide) aO ?_
| refine u_pure rfl rfl (fun _ _ => zF rfl rfl) aJ aD (by decide) aO ?_
| refine u_pure rfl rfl (fun _ _ => ps_add rfl rfl rfl aN) aJ aD (by decide) aO ?_
| refine u_pure rfl rfl (fun _ _ => zL rfl rfl) aJ aD (by decide) aO ?_
| refine u_pure rfl rfl (fun _ _ => zE rfl rfl) aJ aD (by decide) aO ?_
| refine u_eff rfl rfl aG (j_pure (zN rfl rfl rfl hx.1 hq (by exact rfl))) (by first | exact fun _ hm hF _ => absurd (hm 999999 (by decide)) hF | exact fun _ _ _ hh => hh | exact (fun _ hm _ _ => ⟨⟨_, rfl⟩, fun h => absurd (hm 2 (by decide)) h⟩)) ?_
| refine u_eff rfl rfl aG (j_append rfl rfl rfl rfl rfl rfl (one_one rfl) rfl (by rw [htl, n_len_c, n_len_n]; omega) (by rw [htl, n_len_c, n_len_n]; omega)) (by first | exact fun _ hm hF _ => absurd (hm 999999 (by decide)) hF | exact fun _ _ _ hh => hh | exact (fun _ hm _ _ => ⟨⟨_, rfl⟩, fun h => absurd (hm 2 (by decide)) h⟩)) ?_
| refine u_eff rfl rfl aG (j_store_boxC rfl rfl rfl rfl aK rfl rfl) (by first | exact fun _ hm hF _ => absurd (hm 999999 (by decide)) hF | exact fun _ _ _ hh => hh | exact (fun _ hm _ _ => ⟨⟨_, rfl⟩, fun h => absurd (hm 2 (by decide)) h⟩)) ?_
| refine u_eff rfl rfl aG (j_pure (zF rfl rfl)) (by first | exact fun _ hm hF _ => absurd (hm 999999 (by decide)) hF | exact fun _ _ _ hh => hh | exact (fun _ hm _ _ => ⟨⟨_, rfl⟩, fun h => absurd (hm 2 (by decide)) h⟩)) ?_
| refine u_eff rfl rfl aG (j_pure (zE rfl rfl)) (by first | exact fun _ hm hF _ => absurd (hm 999999 (by decide)) hF | exact fun _ _ _ hh => hh | exact (fun _ hm _ _ => ⟨⟨_, rfl⟩, fun h => absurd (hm 2 (by decide)) h⟩)) ?_
| refine u_eff rfl rfl aG (j_pure (ps_lit1 rfl rfl (by rfl) (by rfl))) (by first | exact fun _ hm hF _ => absurd (hm 999999 (by decide)) hF | exact fun _ _ _ hh => hh | exact (fun _ hm _ _ => ⟨⟨_, rfl⟩, fun h => absurd (hm 2 (by decide)) h⟩)) ?_); refine ⟨_, aQ, ?_⟩))
        repeat' (first
| refine zC ?_
| (refine o_go rfl ?_; (first
| refine p_p (zD rfl) ?_
| refine p_p (ps_add rfl rfl rfl aN) ?_); refine ⟨_, aB, ?_⟩)
| refine o_nil ?_)
        exact zT (i + 2) (by omega) (by omega) aI ⟨vI (by omega), trivial⟩ (zB rfl (zB rfl (zB (by rw [htk, List.map_append]; rfl) (zM _))))
    · obtain ⟨k, hk⟩ : ∃ k, i = k + 1 := ⟨i - 1, by omega⟩
      subst hk
      dsimp only [pfH]
      repeat' (first
| refine g_seq ?_
| refine zC ?_
| (refine o_go rfl ?_; (first
| refine p_p (zA rfl) ?_
| refine p_p (zS rfl rfl rfl) ?_
| refine p_p (zY rfl rfl rfl aK) ?_
| refine p_e rfl (zO rfl rfl rfl rfl aK rfl rfl rfl) ?_); refine ⟨_, aB, ?_⟩)
| refine o_nil ?_
| (refine zK rfl (fun hc => ?_) (fun hc => ?_) <;> try (exfalso; omega))
| refine krct ?_ ?_
| refine krC rfl aK ?_
| refine krB rfl ?_
| refine g_exit ?_
| refine g_ret ?_)
      all_goals try (exfalso; omega)
      rw [show T.take (k + 1) = T from List.take_of_length_le (by omega)]
      all_goals rfl
end Go.Proofs.YtlgfniaakjchgaaGreat
