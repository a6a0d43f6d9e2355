/- Walks: homomorphisms, kernels and images, the program's side. -/
import Derived.Test.YtembaiccchgllaaGreatJVe
import Derived.Test.YtembaiccchgllaaGreatJYa
namespace Go.Proofs.YtembaiccchgllaaGreat
open Go Go.Pv Go.Proofs
set_option maxHeartbeats 32000000
set_option maxRecDepth 100000
attribute [local bitvec_to_nat] St.put St.setObj St.ev killP killA killP1 killH mapHO renP renA ren1 killG killGA killG1 krowP krowA krow1 lendP lendA lend1 unv pinP pin1 elemsM viewM viewN viewV n_set_z n_set_s n_map_c n_map_n getD_z getD_s n_toNat n_cond_t n_cond_f n_len_c n_len_n n_app_c n_app_n n_take_s n_take_z n_drop_s n_drop_z n_get_z n_get_s view viewA view1 elems Nat.zero_add Nat.add_zero Bool.not_true Bool.not_false Nat.one_ne_zero Nat.mul_one

def tyL (A : List OpD) : List Int := A.map fun f => f.ar
theorem tyL_take {A : List OpD} {i : Nat} (h : i < A.length) : tyL (A.take (i + 1)) = tyL (A.take i) ++ [(A.getD i default).ar] := by unfold tyL; rw [take_snoc default h, List.map_append]; rfl
theorem tyL_quo (n : Nat) (p : List Int) (ops : List OpD) : tyL (quoL n p ops) = tyL ops := by unfold tyL quoL; rw [List.map_map]; rfl
theorem ityp_c (n : Int) (A : List OpD) (hl : A.length ≤ 1048576) : PCalls Tryz.prog 331 [algP n A] (ints (tyL A)) := by
  refine pcalls1 Tryz.func331 rfl Tryz.ntmps331 rfl ?_
  simp only [List.length_cons, List.length_nil, Nat.reduceAdd, Nat.reduceSub, List.replicate_succ, List.replicate_zero, List.cons_append, List.nil_append]
  repeat' (first
| refine g_seq ?_
| refine zJ ?_
| refine zC ?_
| (refine o_go rfl ?_; (first
| refine p_p (zD rfl) ?_
| refine p_p (zA rfl) ?_
| refine p_p (zF rfl rfl) ?_
| refine p_p (zU rfl rfl rfl) ?_
| refine p_p (zL rfl rfl) ?_
| refine p_e rfl (e_lit0 rfl (by decide)) ?_
| refine p_p (ps_box rfl rfl) ?_); refine ⟨_, aB, ?_⟩)
| refine o_nil ?_)
  refine g_loopF (α := Nat) [6] (fun i => [(3, .hp 0), (10, I (i : Int))]) (fun i => [.arr false 1 3 ((tyL (A.take i)).map I)]) (fun i => i ≤ A.length) (fun i => A.length - i) 0 aH (Nat.zero_le _) ⟨rfl, rfl, trivial⟩ rfl ?_
  rintro i hi
  dsimp only [zZ, List.set_cons_zero, List.set_cons_succ]
  have hll : ((tyL (A.take i)).map I).length = i := by simp [tyL]; omega
  by_cases hil : i < A.length
  · have hq := opsK_at hil
    have hsn := tyL_take hil
    repeat' (first
| refine g_seq ?_
| refine zJ ?_
| refine zC ?_
| (refine o_go rfl ?_; (first
| refine p_p (zN rfl rfl rfl (by omega) hq (by exact rfl)) ?_
| refine p_e (by kernel_rfl) (e_append rfl rfl rfl rfl rfl rfl (one_one rfl) rfl (by rw [hll, n_len_c, n_len_n]; omega) (by rw [hll, n_len_c, n_len_n]; omega)) ?_
| refine p_p (zD rfl) ?_
| refine p_p (zA rfl) ?_
| refine p_p (ps_load_agg rfl rfl aL) ?_
| refine p_p (zS rfl rfl rfl) ?_
| refine p_p (ps_add rfl rfl rfl aO) ?_
| refine p_p (zH rfl rfl rfl rfl) ?_
| refine p_p (zE rfl rfl) ?_
| refine p_e rfl (zO rfl rfl rfl rfl aL rfl rfl rfl) ?_
| refine p_e rfl (e_alloc rfl) ?_
| refine p_p (ps_lit1 rfl rfl (by rfl) (by rfl)) ?_); refine ⟨_, aB, ?_⟩)
| refine o_nil ?_
| (refine zK rfl (fun hc => ?_) (fun hc => ?_) <;> try (exfalso; omega))
| refine zR ?_)
    all_goals try (exfalso; omega)
    exact zT (i + 1) (by omega) (by omega) aI ⟨rfl, rfl, trivial⟩ (zB (by rw [hsn, List.map_append]; rfl) (zM _))
  · rw [List.take_of_length_le (by omega)]
    repeat' (first
| refine g_seq ?_
| refine zC ?_
| (refine o_go rfl ?_; (first
| refine p_p (zD rfl) ?_
| refine p_p (zA rfl) ?_
| refine p_p (zS rfl rfl rfl) ?_); refine ⟨_, aB, ?_⟩)
| refine o_nil ?_
| (refine zK rfl (fun hc => ?_) (fun hc => ?_) <;> try (exfalso; omega))
| refine kr1 ?_
| refine krS rfl ?_
| refine g_exit ?_
| refine g_ret ?_)
    all_goals first | rfl | (exfalso; omega)
def alkB (n : Int) (A : List OpD) (m : Int) (B : List OpD) : Bool := algOk n A && (algOk m B && decide (tyL A = tyL B))
theorem istp_c (n m : Int) (A B : List OpD) (hA : szOk A) (hB : szOk B) : PCalls Tryz.prog 301 [algP n A, algP m B] (.tup [Go.Pv.B (alkB n A m B), Go.Pv.B (algOk n A && algOk m B)]) := by
  refine pcalls2 Tryz.func301 rfl Tryz.ntmps301 rfl ?_
  simp only [List.length_cons, List.length_nil, Nat.reduceAdd, Nat.reduceSub, List.replicate_succ, List.replicate_zero, List.cons_append, List.nil_append]
  have h1 := igood_c n A hA
  have h2 := igood_c m B hB
  have h3 := ityp_c n A hA.1
  have h4 := ityp_c m B hB.1
  have h5 := gisame_c (tyL A) (tyL B) (by unfold tyL; rw [List.length_map]; exact hA.1)
  unfold alkB
  generalize decide (tyL A = tyL B) = e at *
  cases hg : algOk n A with
  | false =>
    rw [hg] at h1
    repeat' (first
| refine g_seq ?_
| refine zC ?_
| (refine o_go rfl ?_; (first
| refine p_p (zG rfl rfl aC (h1)) ?_
| refine p_p (zD rfl) ?_
| refine p_p (zA rfl) ?_
| refine p_p (ps_load_agg rfl rfl aL) ?_
| refine p_p (ps_not rfl rfl) ?_
| refine p_p (zQ rfl rfl) ?_
| refine p_p (ps_box rfl rfl) ?_); refine ⟨_, aB, ?_⟩)
| refine o_nil ?_
| (refine o_s rfl ?_; refine ⟨_, aB, ?_⟩)
| refine zX rfl ?_
| refine kr2 ?_ ?_
| refine krB rfl ?_
| refine g_ret ?_)
    all_goals rfl
  | true =>
    rw [hg] at h1
    cases hk : algOk m B with
    | false =>
      rw [hk] at h2
      repeat' (first
| refine g_seq ?_
| refine zC ?_
| (refine o_go rfl ?_; (first
| refine p_p (zG rfl rfl aC (h1)) ?_
| refine p_p (zG rfl rfl aC (h2)) ?_
| refine p_p (zD rfl) ?_
| refine p_p (zA rfl) ?_
| refine p_p (ps_load_agg rfl rfl aL) ?_
| refine p_p (ps_not rfl rfl) ?_
| refine p_p (zQ rfl rfl) ?_
| refine p_p (ps_box rfl rfl) ?_); refine ⟨_, aB, ?_⟩)
| refine o_nil ?_
| refine zX rfl ?_
| refine kr2 ?_ ?_
| refine krB rfl ?_
| refine g_ret ?_)
      all_goals rfl
    | true =>
      rw [hk] at h2
      repeat' (first
| refine g_seq ?_
| refine zC ?_
| refine zP (by kernel_rfl) (by kernel_rfl) ?_
| (refine o_go rfl ?_; (first
| refine p_p (zG rfl rfl aC (h1)) ?_
| refine p_p (zG rfl rfl aC (h2)) ?_
| refine p_p (zG rfl rfl aC (h3)) ?_
| refine p_p (zG rfl rfl aC (h4)) ?_
| refine p_p (zG rfl rfl aC (h5)) ?_
| refine p_p (zD rfl) ?_
| refine p_p (zA rfl) ?_
| refine p_p (ps_load_agg rfl rfl aL) ?_
| refine p_p (ps_not rfl rfl) ?_
| refine p_p (zQ rfl rfl) ?_
| refine p_p (ps_box rfl rfl) ?_); refine ⟨_, aB, ?_⟩)
| refine o_nil ?_
| refine zW rfl ?_
| refine kr2 ?_ ?_
| refine krB rfl ?_
| refine zR ?_
| refine g_ret ?_)
      all_goals rfl
theorem ialk_c (n m : Int) (A B : List OpD) (hA : szOk A) (hB : szOk B) : PCalls Tryz.prog 237 [algP n A, algP m B] (Go.Pv.B (alkB n A m B)) := by
  refine pcalls1 Tryz.func237 rfl Tryz.ntmps237 rfl ?_
  simp only [List.length_cons, List.length_nil, Nat.reduceAdd, Nat.reduceSub, List.replicate_succ, List.replicate_zero, List.cons_append, List.nil_append]
  have h1 := istp_c n m A B hA hB
  have hab : (algOk n A && algOk m B) = false → alkB n A m B = false := fun h => by
    unfold alkB
    rw [← Bool.and_assoc, h, Bool.false_and]
  cases hb : (algOk n A && algOk m B) with
  | false =>
    rw [hab hb] at h1 ⊢
    rw [hb] at h1
    repeat' (first
| refine g_seq ?_
| refine zC ?_
| (refine o_go rfl ?_; (first
| refine p_p (zG rfl rfl aC (h1)) ?_
| refine p_p (zD rfl) ?_
| refine p_p (zA rfl) ?_
| refine p_p (ps_load_agg rfl rfl aL) ?_
| refine p_p (ps_extract rfl rfl rfl) ?_
| refine p_p (zQ rfl rfl) ?_
| refine p_p (ps_box rfl rfl) ?_); refine ⟨_, aB, ?_⟩)
| refine o_nil ?_
| (refine o_s rfl ?_; refine ⟨_, aB, ?_⟩)
| refine kr1 ?_
| refine krB rfl ?_
| refine g_ret ?_)
    all_goals rfl
  | true =>
    rw [hb] at h1
    generalize alkB n A m B = e at *
    repeat' (first
| refine g_seq ?_
| refine zC ?_
| (refine o_go rfl ?_; (first
| refine p_p (zG rfl rfl aC (h1)) ?_
| refine p_p (zD rfl) ?_
| refine p_p (zA rfl) ?_
| refine p_p (ps_load_agg rfl rfl aL) ?_
| refine p_p (ps_extract rfl rfl rfl) ?_
| refine p_p (zQ rfl rfl) ?_
| refine p_p (ps_box rfl rfl) ?_); refine ⟨_, aB, ?_⟩)
| refine o_nil ?_
| refine kr1 ?_
| refine krB rfl ?_
| refine g_ret ?_)
    all_goals rfl
theorem iaa_c (n m : Int) (A B : List OpD) (hA : szOk A) (hB : szOk B) : PCalls Tryz.prog 140 [algP n A, algP m B] (Go.Pv.B (alkB n A m B)) := by
  refine pcalls1 Tryz.func140 rfl Tryz.ntmps140 rfl ?_
  simp only [List.length_cons, List.length_nil, Nat.reduceAdd, Nat.reduceSub, List.replicate_succ, List.replicate_zero, List.cons_append, List.nil_append]
  have h1 := igood_c n A hA
  have h2 := igood_c m B hB
  have h3 := ialk_c n m A B hA hB
  cases hg : algOk n A with
  | false =>
    have e : alkB n A m B = false := by unfold alkB; rw [hg]; rfl
    rw [hg] at h1
    rw [e]
    repeat' (first
| refine g_seq ?_
| refine zC ?_
| (refine o_go rfl ?_; (first
| refine p_p (zG rfl rfl aC (h1)) ?_
| refine p_p (zD rfl) ?_
| refine p_p (zA rfl) ?_
| refine p_p (ps_load_agg rfl rfl aL) ?_
| refine p_p (zQ rfl rfl) ?_
| refine p_p (ps_box rfl rfl) ?_); refine ⟨_, aB, ?_⟩)
| refine o_nil ?_
| (refine o_s rfl ?_; refine ⟨_, aB, ?_⟩)
| refine kr1 ?_
| refine krB rfl ?_
| refine g_ret ?_)
    all_goals rfl
  | true =>
    rw [hg] at h1
    cases hk : algOk m B with
    | false =>
      have e : alkB n A m B = false := by unfold alkB; rw [hk, Bool.false_and, Bool.and_false]
      rw [hk] at h2
      rw [e]
      repeat' (first
| refine g_seq ?_
| refine zC ?_
| (refine o_go rfl ?_; (first
| refine p_p (zG rfl rfl aC (h1)) ?_
| refine p_p (zG rfl rfl aC (h2)) ?_
| refine p_p (zD rfl) ?_
| refine p_p (zA rfl) ?_
| refine p_p (ps_load_agg rfl rfl aL) ?_
| refine p_p (zQ rfl rfl) ?_
| refine p_p (ps_box rfl rfl) ?_); refine ⟨_, aB, ?_⟩)
| refine o_nil ?_
| (refine o_s rfl ?_; refine ⟨_, aB, ?_⟩)
| refine kr1 ?_
| refine krB rfl ?_
| refine g_ret ?_)
      all_goals rfl
    | true =>
      rw [hk] at h2
      generalize alkB n A m B = e at *
      repeat' (first
| refine g_seq ?_
| refine zC ?_
| (refine o_go rfl ?_; (first
| refine p_p (zG rfl rfl aC (h1)) ?_
| refine p_p (zG rfl rfl aC (h2)) ?_
| refine p_p (zG rfl rfl aC (h3)) ?_
| refine p_p (zD rfl) ?_
| refine p_p (zA rfl) ?_
| refine p_p (ps_load_agg rfl rfl aL) ?_
| refine p_p (zQ rfl rfl) ?_
| refine p_p (ps_box rfl rfl) ?_); refine ⟨_, aB, ?_⟩)
| refine o_nil ?_
| refine kr1 ?_
| refine krB rfl ?_
| refine g_ret ?_)
      all_goals rfl
theorem alkB_facts {n m : Int} {A B : List OpD} (h : alkB n A m B = true) : ∃ a b : Nat, n = a ∧ m = b ∧ 0 < a ∧ a ≤ 8 ∧ 0 < b ∧ b ≤ 8 ∧ A.length ≤ 4 ∧ opsIn a A ∧ opsIn b B ∧ sameT A B ∧ algOk (a : Int) A = true ∧ algOk (b : Int) B = true := by
  unfold alkB at h
  simp only [Bool.and_eq_true, decide_eq_true_eq] at h
  obtain ⟨h1, h2, h3⟩ := h
  obtain ⟨a, rfl, a0, a8, a4, ao⟩ := algOk_facts h1
  obtain ⟨b, rfl, b0, b8, b4, bo⟩ := algOk_facts h2
  exact ⟨a, b, rfl, rfl, a0, a8, b0, b8, a4, ao, bo, h3, h1, h2⟩
theorem ismap_c (n m : Nat) (A B : List OpD) (g : List Int) (hg : g.length ≤ 1048576) : PCalls Tryz.prog 238 [algP n A, algP m B, ints g] (Go.Pv.B (mapB n m g)) := by
  refine pcalls1 Tryz.func238 rfl Tryz.ntmps238 rfl ?_
  simp only [List.length_cons, List.length_nil, Nat.reduceAdd, Nat.reduceSub, List.replicate_succ, List.replicate_zero, List.cons_append, List.nil_append]
  have h1 := inSize_c g (m : Int) hg
  unfold mapB
  by_cases hl : g.length = n
  · rw [decide_eq_true hl, Bool.true_and]
    generalize inSizeB g (m : Int) = e at *
    repeat' (first
| refine g_seq ?_
| refine zC ?_
| (refine o_go rfl ?_; (first
| refine p_p (zG rfl rfl aC (h1)) ?_
| refine p_p (zD rfl) ?_
| refine p_p (zA rfl) ?_
| refine p_p (zF rfl rfl) ?_
| refine p_p (zU rfl rfl rfl) ?_
| refine p_p (zL rfl rfl) ?_
| refine p_p (zQ rfl rfl) ?_
| refine p_p (ps_eql rfl rfl rfl) ?_
| refine p_p (ps_box rfl rfl) ?_); refine ⟨_, aB, ?_⟩)
| refine o_nil ?_
| (refine o_splitD rfl rfl rfl (fun hc => ?_) (fun hc => ?_) <;> first | (exfalso; omega) | dsimp only [List.set_cons_zero, List.set_cons_succ])
| refine kr1 ?_
| refine krB rfl ?_
| refine g_ret ?_)
    all_goals first | rfl | (exfalso; omega)
  · rw [decide_eq_false hl, Bool.false_and]
    repeat' (first
| refine g_seq ?_
| refine zC ?_
| (refine o_go rfl ?_; (first
| refine p_p (zD rfl) ?_
| refine p_p (zA rfl) ?_
| refine p_p (zF rfl rfl) ?_
| refine p_p (zU rfl rfl rfl) ?_
| refine p_p (zL rfl rfl) ?_
| refine p_p (zQ rfl rfl) ?_
| refine p_p (ps_eql rfl rfl rfl) ?_
| refine p_p (ps_box rfl rfl) ?_); refine ⟨_, aB, ?_⟩)
| refine o_nil ?_
| (refine o_s rfl ?_; refine ⟨_, aB, ?_⟩)
| (refine o_splitD rfl rfl rfl (fun hc => ?_) (fun hc => ?_) <;> first | (exfalso; omega) | dsimp only [List.set_cons_zero, List.set_cons_succ])
| refine kr1 ?_
| refine krB rfl ?_
| refine g_ret ?_)
    all_goals first | rfl | (exfalso; omega)
theorem inSizeB_atF {E : List Int} {m : Nat} (h : inSizeB E (m : Int) = true) {i : Nat} (hi : i < E.length) : ∃ e : Nat, E.getD i 0 = (e : Int) ∧ e < m := by
  unfold inSizeB at h
  have := List.all_eq_true.1 h _ (getD_at hi)
  simp only [Bool.not_eq_true', Bool.or_eq_false_iff, decide_eq_false_iff_not] at this
  exact ⟨(E.getD i 0).toNat, by omega, by omega⟩
theorem mapB_facts {n m : Nat} {g : List Int} (h : mapB n m g = true) : g.length = n ∧ ∀ x, x < n → g.getD x 0 = (bk g x : Int) ∧ bk g x < m := by
  unfold mapB at h
  rw [Bool.and_eq_true, decide_eq_true_eq] at h
  refine ⟨h.1, fun x hx => ?_⟩
  obtain ⟨e, h1, h2⟩ := inSizeB_atF h.2 (i := x) (by omega)
  unfold bk
  rw [h1, Int.toNat_natCast]
  exact ⟨rfl, h2⟩
theorem mapI_step {n m : Nat} {g : Nat → Nat} {a k i' at_ s t : Nat} (hk : k < a) (h : at_ + mapI n m g (a - k) i' * s = t) : at_ + g (i' % n) * s + mapI n m g (a - (k + 1)) (i' / n) * (s * m) = t := by
  rw [show a - k = (a - (k + 1)) + 1 by omega] at h
  have h : at_ + (mapI n m g (a - (k + 1)) (i' / n) * m + g (i' % n)) * s = t := h
  rw [Nat.add_mul, Nat.mul_assoc, Nat.mul_comm m s] at h
  omega
theorem iimi_c (n m : Nat) (A B : List OpD) (g : List Int) (a i : Nat) (hn0 : 0 < n) (hn : n ≤ 8) (hm : m ≤ 8) (ha : a ≤ 3) (hi : i ≤ 1000000) (hg : mapB n m g = true) : PCalls Tryz.prog 302 [I (i : Int), I (a : Int), algP n A, algP m B, ints g] (I ((mapI n m (bk g) a i : Nat) : Int)) := by
  obtain ⟨hgl, hgi⟩ := mapB_facts hg
  have hlt : ∀ i, mapI n m (bk g) a i < m ^ a := fun i => mapI_lt hn0 (fun x hx => (hgi x hx).2) a i
  have hT := hlt i
  have hP : m ^ a ≤ 512 := Nat.le_trans (Nat.pow_le_pow_left hm a) (Nat.le_trans (Nat.pow_le_pow_right (by decide) ha) (by decide))
  generalize hTe : mapI n m (bk g) a i = T at *
  refine pcalls1 Tryz.func302 rfl Tryz.ntmps302 rfl ?_
  simp only [List.length_cons, List.length_nil, Nat.reduceAdd, Nat.reduceSub, List.replicate_succ, List.replicate_zero, List.cons_append, List.nil_append]
  repeat' (first
| refine g_seq ?_
| refine zJ ?_
| refine zC ?_
| (refine o_go rfl ?_; (first
| refine p_p (zA rfl) ?_
| refine p_p (ps_box rfl rfl) ?_); refine ⟨_, aB, ?_⟩)
| refine o_nil ?_)
  refine g_loopT (α := Nat × Nat × Nat × Nat) (fun x => [(0, I (x.2.1 : Int)), (11, I (x.2.2.1 : Int)), (12, I (x.2.2.2 : Int)), (13, I (x.1 : Int))]) (fun _ => []) (fun x => x.1 ≤ a ∧ x.2.1 ≤ 1000000 ∧ x.2.2.2 ≤ 512 ∧ x.2.2.2 = m ^ x.1 ∧ x.2.2.1 + mapI n m (bk g) (a - x.1) x.2.1 * x.2.2.2 = T) (fun x => a - x.1) (0, i, 0, 1) aH ⟨Nat.zero_le _, hi, Nat.le_of_ble_eq_true rfl, rfl, by dsimp only; rw [Nat.zero_add, Nat.mul_one]; exact hTe⟩ ⟨rfl, rfl, rfl, rfl, trivial⟩ rfl ?_
  rintro ⟨k, i', at_, s⟩ ⟨h1, h2, h3, h4, h5⟩
  dsimp only at h1 h2 h3 h4 h5
  dsimp only [zZ, List.set_cons_zero, List.set_cons_succ]
  by_cases hk : k < a
  · have hst := mapI_step hk h5
    have hr : i' % n < n := Nat.mod_lt _ hn0
    obtain ⟨v1, v2⟩ := hgi _ hr
    have hrm : (i' : Int) % (n : Int) = ((i' % n : Nat) : Int) := by omega
    have hdv : (i' : Int) / (n : Int) = ((i' / n : Nat) : Int) := by omega
    have hle := Nat.div_le_self i' n
    have i1 := row_atY (p := g) (x := i' % n) (by omega)
    rw [v1] at i1
    have hs2 : s * m ≤ 512 := by
      rw [h4, ← Nat.pow_succ]
      exact Nat.le_trans (Nat.pow_le_pow_left hm _) (Nat.le_trans (Nat.pow_le_pow_right (by decide) (show k + 1 ≤ 3 by omega)) (by decide))
    have hvs : bk g (i' % n) * s ≤ 4096 := Nat.le_trans (Nat.mul_le_mul (show _ ≤ 8 by omega) h3) (by decide)
    have e1 : ((bk g (i' % n) : Nat) : Int) * (s : Int) = ((bk g (i' % n) * s : Nat) : Int) := by rw [Int.natCast_mul]
    have e2 : (s : Int) * (m : Int) = ((s * m : Nat) : Int) := by rw [Int.natCast_mul]
    have hsm : s * m = m ^ (k + 1) := by rw [h4, Nat.pow_succ]
    generalize bk g (i' % n) * s = V at *
    generalize s * m = s' at *
    generalize bk g (i' % n) = v at *
    repeat' (first
| refine g_seq ?_
| refine zJ ?_
| refine zC ?_
| (refine o_go rfl ?_; (first
| refine p_p (ps_remV rfl rfl rfl hrm (by omega) (by omega)) ?_
| refine p_p (ps_quoV rfl rfl rfl hdv (by omega) (by omega) (by omega)) ?_
| refine p_p (ps_mulV rfl rfl rfl e1 (by omega)) ?_
| refine p_p (ps_mulV rfl rfl rfl e2 (by omega)) ?_
| refine p_p (zN rfl rfl rfl (by omega) i1 (by exact rfl)) ?_
| refine p_p (zD rfl) ?_
| refine p_p (zA rfl) ?_
| refine p_p (zF rfl rfl) ?_
| refine p_p (zS rfl rfl rfl) ?_
| refine p_p (ps_add rfl rfl rfl aO) ?_
| refine p_p (zL rfl rfl) ?_); refine ⟨_, aB, ?_⟩)
| refine o_nil ?_
| (refine zK rfl (fun hc => ?_) (fun hc => ?_) <;> try (exfalso; omega))
| refine zR ?_)
    all_goals try (exfalso; omega)
    exact zT (k + 1, i' / n, at_ + V, s') ⟨by dsimp only; omega, by dsimp only; omega, hs2, hsm, hst⟩ (by dsimp only; omega) aI ⟨rfl, vI (by dsimp only; omega), rfl, vI (by dsimp only; omega), trivial⟩ (zM _)
  · have hka : k = a := by omega
    have hTt : at_ = T := by
      rw [hka, Nat.sub_self] at h5
      simpa [mapI] using h5
    repeat' (first
| refine g_seq ?_
| refine zC ?_
| (refine o_go rfl ?_; (first
| refine p_p (zD rfl) ?_
| refine p_p (zA rfl) ?_
| refine p_p (zS rfl rfl rfl) ?_); refine ⟨_, aB, ?_⟩)
| refine o_nil ?_
| (refine zK rfl (fun hc => ?_) (fun hc => ?_) <;> try (exfalso; omega))
| refine kr1 ?_
| refine krI rfl ?_
| refine g_exit ?_
| refine g_ret ?_)
    all_goals first | (rw [hTt]) | (exfalso; omega)
def ffO (m k : Nat) (A B : List OpD) (g : List Int) : Option Nat := (List.range A.length).find? fun o => !homO m k A B g o
def ffV (m k : Nat) (A B : List OpD) (g : List Int) : Int := match ffO m k A B g with
  | some o => (o : Int)
  | none => -1
theorem ff_neg (m k : Nat) (A B : List OpD) (g : List Int) : decide (ffV m k A B g < 0) = (List.range A.length).all (homO m k A B g) := by
  unfold ffV
  cases h : ffO m k A B g with
  | none =>
    have := List.find?_range_eq_none.1 h
    rw [decide_eq_true (by decide)]
    refine Eq.symm (List.all_eq_true.2 fun o ho => ?_)
    have := this o (List.mem_range.1 ho)
    simpa using this
  | some o =>
    obtain ⟨h1, h2, -⟩ := List.find?_range_eq_some.1 h
    show decide ((o : Int) < 0) = _
    rw [decide_eq_false (by omega)]
    refine Eq.symm (Bool.eq_false_iff.2 fun ha => ?_)
    have := List.all_eq_true.1 ha o h2
    rw [this] at h1; cases h1
theorem ifault_c (m k : Nat) (A B : List OpD) (g : List Int) (hm0 : 0 < m) (hm : m ≤ 8) (hk : k ≤ 8) (hl : A.length ≤ 1048576) (hA : opsIn m A) (hB : opsIn k B) (ht : sameT A B) (hg : mapB m k g = true) : PCalls Tryz.prog 239 [algP m A, algP k B, ints g] (.tup [I (ffV m k A B g), .any]) := by
  obtain ⟨hgl, hgi⟩ := mapB_facts hg
  have hlB := ht.len
  refine pcalls2 Tryz.func239 rfl Tryz.ntmps239 rfl ?_
  simp only [List.length_cons, List.length_nil, Nat.reduceAdd, Nat.reduceSub, List.replicate_succ, List.replicate_zero, List.cons_append, List.nil_append]
  repeat' (first
| refine g_seq ?_
| refine zJ ?_
| refine zC ?_
| (refine o_go rfl ?_; (first
| refine p_p (zD rfl) ?_
| refine p_p (zA rfl) ?_
| refine p_p (zF rfl rfl) ?_
| refine p_p (zU rfl rfl rfl) ?_
| refine p_p (zL rfl rfl) ?_
| refine p_p (ps_box rfl rfl) ?_); refine ⟨_, aB, ?_⟩)
| refine o_nil ?_)
  refine g_loopT (α := Nat) (fun i => [(15, I (i : Int))]) (fun _ => []) (fun i => i ≤ A.length ∧ ∀ l, l < i → homO m k A B g l = true) (fun i => A.length - i) 0 aH ⟨Nat.zero_le _, fun j hj => absurd hj (Nat.not_lt_zero _)⟩ ⟨rfl, trivial⟩ rfl ?_
  rintro i ⟨hi, hno⟩
  dsimp only [zZ, List.set_cons_zero, List.set_cons_succ]
  by_cases hil : i < A.length
  · have hq := opsK_at hil
    have hqB := opsK_at (show i < B.length by omega)
    have hfA := hA _ (opsK_mem hil)
    have hfB := hB _ (opsK_mem (show i < B.length by omega))
    have hat := ht.at i
    have hO : homO m k A B g i = (List.range (A.getD i default).tb.length).all (homC m k g (A.getD i default) (B.getD i default)) := rfl
    have tvA := fun {x : Nat} (hx : x < m ^ (A.getD i default).ar.toNat) => tb_valQ hA (opsK_mem hil) hx
    generalize A.getD i default = f at *
    generalize B.getD i default = f2 at *
    obtain ⟨a, ha⟩ : ∃ a : Nat, f.ar = a := ⟨f.ar.toNat, by omega⟩
    have haa : f.ar.toNat = a := by omega
    have haB : f2.ar.toNat = a := by omega
    have hP : m ^ a ≤ 512 := Nat.le_trans (Nat.pow_le_pow_left hm a) (Nat.le_trans (Nat.pow_le_pow_right (by decide) (show a ≤ 3 by omega)) (by decide))
    have hfl := hfA.2.2.1
    have hfl2 := hfB.2.2.1
    rw [haa] at hfl
    rw [haB] at hfl2
    repeat' ((fail_if_success (refine at_reg1 4 ?_)); (first
| refine g_seq ?_
| refine zJ ?_
| refine zC ?_
| (refine o_go rfl ?_; (first
| refine p_p (zN rfl rfl rfl (by omega) hq (by exact rfl)) ?_
| refine p_p (zD rfl) ?_
| refine p_p (zA rfl) ?_
| refine p_p (ps_load_agg rfl rfl aL) ?_
| refine p_p (zS rfl rfl rfl) ?_
| refine p_e rfl (zO rfl rfl rfl rfl aL rfl rfl rfl) ?_
| refine p_e rfl (e_alloc rfl) ?_); refine ⟨_, aB, ?_⟩)
| refine o_nil ?_
| (refine zK rfl (fun hc => ?_) (fun hc => ?_) <;> try (exfalso; omega))
| refine zR ?_))
    all_goals try (exfalso; omega)
    refine at_reg1 4 ?_
    repeat' (first
| refine g_settle 0 rfl (by dsimp only [setlP, setl1, setlH, bitvec_to_nat, Nat.reduceAdd, Nat.reduceMul, Nat.reduceBEq, reduceCtorEq]) ?_
| refine g_seq ?_
| refine zJ ?_
| refine zC ?_
| (refine o_go rfl ?_; (first
| refine p_p (zD rfl) ?_
| refine p_p (zF rfl rfl) ?_
| refine p_p (zU rfl rfl rfl) ?_
| refine p_p (zL rfl rfl) ?_); refine ⟨_, aB, ?_⟩)
| refine o_nil ?_)
    refine g_loopT (α := Nat) (fun j => [(23, I (j : Int))]) (fun _ => [.gone]) (fun j => j ≤ f.tb.length ∧ ∀ l, l < j → homC m k g f f2 l = true) (fun j => f.tb.length - j) 0 aH ⟨Nat.zero_le _, fun j hj => absurd hj (Nat.not_lt_zero _)⟩ ⟨rfl, trivial⟩ rfl ?_
    rintro j ⟨hj, hnj⟩
    dsimp only [zZ, List.set_cons_zero, List.set_cons_succ]
    by_cases hjl : j < f.tb.length
    · have hjm : j < m ^ f.ar.toNat := by rw [haa]; omega
      have hb := (hfA.2.2.2 j hjm).2
      have hv := tvA hjm
      have i1 := row_atY (p := f.tb) (x := j) hjl
      rw [hv] at i1
      have i2 := row_atY (p := g) (x := bk f.tb j) (by omega)
      have c1 := iimi_c m k A B g a j hm0 hm hk (by omega) (by omega) hg
      rw [← ha] at c1
      have hX : mapI m k (bk g) a j < k ^ a := mapI_lt hm0 (fun x hx => (hgi x hx).2) a j
      have i3 := row_atY (p := f2.tb) (x := mapI m k (bk g) a j) (by omega)
      have hC : homC m k g f f2 j = decide (g.getD (bk f.tb j) 0 = f2.tb.getD (mapI m k (bk g) a j) 0) := by unfold homC; rw [haa]
      generalize g.getD (bk f.tb j) 0 = v1 at *
      generalize f2.tb.getD (mapI m k (bk g) a j) 0 = v2 at *
      by_cases he : v1 = v2
      · rw [decide_eq_true he] at hC
        repeat' (first
| refine g_seq ?_
| refine zJ ?_
| refine zC ?_
| refine zP (by kernel_rfl) (by kernel_rfl) ?_
| (refine o_go rfl ?_; (first
| refine p_p (zG rfl rfl aC (c1)) ?_
| refine p_p (zN rfl rfl rfl (by omega) i1 (by exact rfl)) ?_
| refine p_p (zN rfl rfl rfl (by omega) i2 (by exact rfl)) ?_
| refine p_p (zN rfl rfl rfl (by omega) hqB (by exact rfl)) ?_
| refine p_p (zN rfl rfl rfl (by omega) i3 (by exact rfl)) ?_
| refine p_p (zD rfl) ?_
| refine p_p (zA rfl) ?_
| refine p_p (zF rfl rfl) ?_
| refine p_p (ps_load_agg rfl rfl aL) ?_
| refine p_p (zS rfl rfl rfl) ?_
| refine p_p (ps_add rfl rfl rfl aO) ?_
| refine p_p (zL rfl rfl) ?_
| refine p_p (ps_neq rfl rfl rfl) ?_); refine ⟨_, aB, ?_⟩)
| refine o_nil ?_
| (refine g_condN rfl (fun hc => ?_) (fun hc => ?_) <;> try (exfalso; omega))
| (refine zK rfl (fun hc => ?_) (fun hc => ?_) <;> try (exfalso; omega))
| refine zR ?_)
        all_goals try (exfalso; first | omega | exact hc he)
        refine zT (j + 1) ⟨by omega, fun l hlj => ?_⟩ (by omega) aI ⟨rfl, trivial⟩ (hpLe_gone (zM _))
        rcases Nat.lt_or_ge l j with h | h
        · exact hnj l h
        · rw [show l = j by omega]; exact hC
      · rw [decide_eq_false he] at hC
        have hOf : homO m k A B g i = false := by
          rw [hO, Bool.eq_false_iff]
          intro h
          have := List.all_eq_true.1 h j (List.mem_range.2 hjl)
          rw [hC] at this; cases this
        have hV : ffV m k A B g = (i : Int) := by
          have : ffO m k A B g = some i := List.find?_range_eq_some.2 ⟨by rw [hOf]; rfl, List.mem_range.2 hil, fun l hl => by rw [hno l hl]; rfl⟩
          unfold ffV; rw [this]
        rw [hV]
        repeat' (first
| refine g_seq ?_
| refine zJ ?_
| refine zC ?_
| refine zP (by kernel_rfl) (by kernel_rfl) ?_
| (refine o_go rfl ?_; (first
| refine p_p (zG rfl rfl aC (c1)) ?_
| refine p_p (zN rfl rfl rfl (by omega) i1 (by exact rfl)) ?_
| refine p_p (zN rfl rfl rfl (by omega) i2 (by exact rfl)) ?_
| refine p_p (zN rfl rfl rfl (by omega) hqB (by exact rfl)) ?_
| refine p_p (zN rfl rfl rfl (by omega) i3 (by exact rfl)) ?_
| refine p_p (zD rfl) ?_
| refine p_p (zA rfl) ?_
| refine p_p (zF rfl rfl) ?_
| refine p_p (ps_load_agg rfl rfl aL) ?_
| refine p_p (zS rfl rfl rfl) ?_
| refine p_p (zL rfl rfl) ?_
| refine p_p (ps_neq rfl rfl rfl) ?_); refine ⟨_, aB, ?_⟩)
| refine o_nil ?_
| (refine g_condN rfl (fun hc => ?_) (fun hc => ?_) <;> try (exfalso; omega))
| (refine zK rfl (fun hc => ?_) (fun hc => ?_) <;> try (exfalso; omega))
| refine kr2 ?_ ?_
| exact krAny
| refine krI rfl ?_
| refine zR ?_
| refine g_ret ?_)
        all_goals first | rfl | exact krAny | (exfalso; first | omega | exact he hc)
    · repeat' (first
| refine g_seq ?_
| refine zC ?_
| (refine o_go rfl ?_; (first
| refine p_p (zD rfl) ?_
| refine p_p (zS rfl rfl rfl) ?_
| refine p_p (ps_add rfl rfl rfl aO) ?_); refine ⟨_, aB, ?_⟩)
| refine o_nil ?_
| (refine zK rfl (fun hc => ?_) (fun hc => ?_) <;> try (exfalso; omega))
| refine g_exit ?_)
      all_goals try (exfalso; omega)
      refine zT (K := fun _ _ => True) (i + 1) ⟨by omega, fun l hlj => ?_⟩ (by omega) aI ⟨rfl, trivial⟩ (zM _)
      rcases Nat.lt_or_ge l i with h | h
      · exact hno l h
      · rw [show l = i by omega, hO]
        exact List.all_eq_true.2 fun l hl => hnj l (by have := List.mem_range.1 hl; omega)
  · have hV : ffV m k A B g = -1 := by
      have : ffO m k A B g = none := List.find?_range_eq_none.2 fun l hl => by rw [hno l (by omega)]; rfl
      unfold ffV; rw [this]
    rw [hV]
    repeat' (first
| refine g_seq ?_
| refine zC ?_
| (refine o_go rfl ?_; (first
| refine p_p (zA rfl) ?_
| refine p_p (zS rfl rfl rfl) ?_); refine ⟨_, aB, ?_⟩)
| refine o_nil ?_
| (refine zK rfl (fun hc => ?_) (fun hc => ?_) <;> try (exfalso; omega))
| refine kr2 ?_ ?_
| exact krAny
| refine krI rfl ?_
| refine g_exit ?_
| refine g_ret ?_)
    all_goals first | rfl | exact krAny | (exfalso; omega)
theorem iishm_c (m k : Nat) (A B : List OpD) (g : List Int) (hm0 : 0 < m) (hm : m ≤ 8) (hk : k ≤ 8) (hl : A.length ≤ 1048576) (hA : opsIn m A) (hB : opsIn k B) (ht : sameT A B) (hg : g.length ≤ 1048576) : PCalls Tryz.prog 141 [algP m A, algP k B, ints g] (Go.Pv.B (homB m A k B g)) := by
  refine pcalls1 Tryz.func141 rfl Tryz.ntmps141 rfl ?_
  simp only [List.length_cons, List.length_nil, Nat.reduceAdd, Nat.reduceSub, List.replicate_succ, List.replicate_zero, List.cons_append, List.nil_append]
  have h1 := ismap_c m k A B g hg
  unfold homB
  cases hb : mapB m k g with
  | false =>
    rw [hb] at h1
    repeat' (first
| refine g_seq ?_
| refine zC ?_
| (refine o_go rfl ?_; (first
| refine p_p (zG rfl rfl aC (h1)) ?_
| refine p_p (zD rfl) ?_
| refine p_p (zA rfl) ?_
| refine p_p (ps_load_agg rfl rfl aL) ?_
| refine p_p (ps_not rfl rfl) ?_
| refine p_p (ps_box rfl rfl) ?_); refine ⟨_, aB, ?_⟩)
| refine o_nil ?_
| refine zX rfl ?_
| refine kr1 ?_
| refine krB rfl ?_
| refine g_ret ?_)
    all_goals rfl
  | true =>
    rw [hb] at h1
    have h2 := ifault_c m k A B g hm0 hm hk hl hA hB ht hb
    rw [← ff_neg, Bool.true_and]
    repeat' (first
| refine g_seq ?_
| refine zC ?_
| (refine o_go rfl ?_; (first
| refine p_p (zG rfl rfl aC (h1)) ?_
| refine p_p (zG rfl rfl aC (h2)) ?_
| refine p_p (zD rfl) ?_
| refine p_p (zA rfl) ?_
| refine p_p (ps_load_agg rfl rfl aL) ?_
| refine p_p (zS rfl rfl rfl) ?_
| refine p_p (ps_extract rfl rfl rfl) ?_
| refine p_p (ps_not rfl rfl) ?_
| refine p_p (ps_box rfl rfl) ?_); refine ⟨_, aB, ?_⟩)
| refine o_nil ?_
| refine zW rfl ?_
| refine kr1 ?_
| refine krB rfl ?_
| refine zR ?_
| refine g_ret ?_)
    all_goals rfl
def hmB (n : Int) (A : List OpD) (m : Int) (B : List OpD) (g : List Int) : Bool := alkB n A m B && homB n.toNat A m.toNat B g
theorem iishom_c (n m : Int) (A B : List OpD) (g : List Int) (hA : szOk A) (hB : szOk B) (hg : g.length ≤ 1048576) : PCalls Tryz.prog 34 [algP n A, algP m B, ints g] (.tup [Go.Pv.B (hmB n A m B g), Go.Pv.B (alkB n A m B)]) := by
  refine pcalls2 Tryz.func34 rfl Tryz.ntmps34 rfl ?_
  simp only [List.length_cons, List.length_nil, Nat.reduceAdd, Nat.reduceSub, List.replicate_succ, List.replicate_zero, List.cons_append, List.nil_append]
  have h1 := iaa_c n m A B hA hB
  unfold hmB
  cases hb : alkB n A m B with
  | false =>
    rw [hb] at h1
    repeat' (first
| refine g_seq ?_
| refine zC ?_
| (refine o_go rfl ?_; (first
| refine p_p (zG rfl rfl aC (h1)) ?_
| refine p_p (zA rfl) ?_
| refine p_p (ps_load_agg rfl rfl aL) ?_
| refine p_p (ps_not rfl rfl) ?_
| refine p_p (ps_box rfl rfl) ?_); refine ⟨_, aB, ?_⟩)
| refine o_nil ?_
| refine zX rfl ?_
| refine kr2 ?_ ?_
| refine krB rfl ?_
| refine g_ret ?_)
    all_goals rfl
  | true =>
    rw [hb] at h1
    obtain ⟨a, b, rfl, rfl, a0, a8, b0, b8, a4, ao, bo, hs, -, -⟩ := alkB_facts hb
    have h2 := iishm_c a b A B g a0 a8 b8 hA.1 ao bo hs hg
    rw [Int.toNat_natCast, Int.toNat_natCast]
    generalize homB a A b B g = e at *
    repeat' (first
| refine g_seq ?_
| refine zC ?_
| (refine o_go rfl ?_; (first
| refine p_p (zG rfl rfl aC (h1)) ?_
| refine p_p (zG rfl rfl aC (h2)) ?_
| refine p_p (zD rfl) ?_
| refine p_p (zA rfl) ?_
| refine p_p (ps_load_agg rfl rfl aL) ?_
| refine p_p (ps_not rfl rfl) ?_
| refine p_p (ps_box rfl rfl) ?_); refine ⟨_, aB, ?_⟩)
| refine o_nil ?_
| refine zW rfl ?_
| refine kr2 ?_ ?_
| refine krB rfl ?_
| refine zR ?_
| refine g_ret ?_)
    all_goals rfl
def kerV6 (n : Int) (A : List OpD) (m : Int) (B : List OpD) (g : List Int) : List Int := if hmB n A m B g then kerL g else []
theorem ikern_c (n m : Int) (A B : List OpD) (g : List Int) (hA : szOk A) (hB : szOk B) (hg : g.length ≤ 1048576) : PCalls Tryz.prog 35 [algP n A, algP m B, ints g] (.tup [ints (kerV6 n A m B g), Go.Pv.B (hmB n A m B g)]) := by
  refine pcalls2 Tryz.func35 rfl Tryz.ntmps35 rfl ?_
  simp only [List.length_cons, List.length_nil, Nat.reduceAdd, Nat.reduceSub, List.replicate_succ, List.replicate_zero, List.cons_append, List.nil_append]
  have h1 := iaa_c n m A B hA hB
  have h3 : PCalls Tryz.prog 142 [ints g] (ints (kerL g)) := rcalls_P rfl (kernel_R g hg)
  unfold kerV6 hmB
  cases hb : alkB n A m B with
  | false =>
    rw [hb] at h1
    rw [Bool.false_and, if_neg Bool.false_ne_true]
    repeat' (first
| refine g_seq ?_
| refine zC ?_
| (refine o_go rfl ?_; (first
| refine p_p (zG rfl rfl aC (h1)) ?_
| refine p_p (zD rfl) ?_
| refine p_p (zA rfl) ?_
| refine p_p (ps_load_agg rfl rfl aL) ?_
| refine p_p (ps_not rfl rfl) ?_
| refine p_p (zQ rfl rfl) ?_
| refine p_e rfl (e_lit0 rfl (by decide)) ?_
| refine p_p (ps_box rfl rfl) ?_); refine ⟨_, aB, ?_⟩)
| refine o_nil ?_
| (refine o_s rfl ?_; refine ⟨_, aB, ?_⟩)
| refine zX rfl ?_
| refine kr2 ?_ ?_
| refine krB rfl ?_
| refine krS rfl ?_
| refine g_ret ?_)
    all_goals rfl
  | true =>
    rw [hb] at h1
    obtain ⟨a, b, rfl, rfl, a0, a8, b0, b8, a4, ao, bo, hs, -, -⟩ := alkB_facts hb
    have h2 := iishm_c a b A B g a0 a8 b8 hA.1 ao bo hs hg
    rw [Int.toNat_natCast, Int.toNat_natCast, Bool.true_and]
    cases he : homB a A b B g with
    | false =>
      rw [he] at h2
      repeat' (first
| refine g_seq ?_
| refine zC ?_
| (refine o_go rfl ?_; (first
| refine p_p (zG rfl rfl aC (h1)) ?_
| refine p_p (zG rfl rfl aC (h2)) ?_
| refine p_p (zD rfl) ?_
| refine p_p (zA rfl) ?_
| refine p_p (ps_load_agg rfl rfl aL) ?_
| refine p_p (ps_not rfl rfl) ?_
| refine p_p (zQ rfl rfl) ?_
| refine p_e rfl (e_lit0 rfl (by decide)) ?_
| refine p_p (ps_box rfl rfl) ?_); refine ⟨_, aB, ?_⟩)
| refine o_nil ?_
| refine zX rfl ?_
| refine kr2 ?_ ?_
| refine krB rfl ?_
| refine krS rfl ?_
| refine g_ret ?_)
      all_goals rfl
    | true =>
      rw [he] at h2
      rw [if_pos rfl]
      repeat' (first
| refine g_seq ?_
| refine zC ?_
| (refine o_go rfl ?_; (first
| refine p_p (zG rfl rfl aC (h1)) ?_
| refine p_p (zG rfl rfl aC (h2)) ?_
| refine p_p (zG rfl rfl aC (h3)) ?_
| refine p_p (zD rfl) ?_
| refine p_p (zA rfl) ?_
| refine p_p (ps_load_agg rfl rfl aL) ?_
| refine p_p (ps_not rfl rfl) ?_
| refine p_p (zQ rfl rfl) ?_
| refine p_p (ps_box rfl rfl) ?_); refine ⟨_, aB, ?_⟩)
| refine o_nil ?_
| refine zW rfl ?_
| refine kr2 ?_ ?_
| refine krB rfl ?_
| refine krS rfl ?_
| refine zR ?_
| refine g_ret ?_)
      all_goals rfl
theorem imkd_c (r : List Bool) (hl : r.length ≤ 1048576) : PCalls Tryz.prog 240 [bools r] (ints (upTo r.length fun y => r.getD y false)) := by
  refine pcalls1 Tryz.func240 rfl Tryz.ntmps240 rfl ?_
  simp only [List.length_cons, List.length_nil, Nat.reduceAdd, Nat.reduceSub, List.replicate_succ, List.replicate_zero, List.cons_append, List.nil_append]
  repeat' (first
| refine g_seq ?_
| refine zJ ?_
| refine zC ?_
| (refine o_go rfl ?_; (first
| refine p_p (zD rfl) ?_
| refine p_p (zA rfl) ?_
| refine p_p (zU rfl rfl rfl) ?_
| refine p_e rfl (e_lit0 rfl (by decide)) ?_); refine ⟨_, aB, ?_⟩)
| refine o_nil ?_)
  refine g_loopF (α := Nat) [6] (fun i => [(3, .hp 0), (9, I (i : Int))]) (fun i => [.arr false 1 3 ((upTo i fun y => r.getD y false).map I)]) (fun i => i ≤ r.length) (fun i => r.length - i) 0 aH (Nat.zero_le _) ⟨rfl, rfl, trivial⟩ rfl ?_
  rintro i hi
  dsimp only [zZ, List.set_cons_zero, List.set_cons_succ]
  have hul : (upTo i fun y => r.getD y false).length ≤ i := upTo_length _ _
  have hll : ((upTo i fun y => r.getD y false).map I).length = (upTo i fun y => r.getD y false).length := List.length_map ..
  have hsn := upTo_succ i fun y => r.getD y false
  by_cases hil : i < r.length
  · have ri : (r.map Go.Pv.B)[((i : Nat) : Int).toNat]? = some (Go.Pv.B (r.getD i false)) := by rw [Int.toNat_natCast]; exact idx_B hil
    cases hb : r.getD i false with
    | true =>
      rw [hb] at ri
      rw [hb, if_pos rfl] at hsn
      repeat' (first
| refine g_seq ?_
| refine zJ ?_
| refine zC ?_
| (refine o_go rfl ?_; (first
| refine p_p (zN rfl rfl rfl (by omega) ri (by exact rfl)) ?_
| refine p_e (by kernel_rfl) (e_append rfl rfl rfl rfl rfl rfl (one_one rfl) rfl (by rw [hll, n_len_c, n_len_n]; omega) (by rw [hll, n_len_c, n_len_n]; omega)) ?_
| refine p_p (zD rfl) ?_
| refine p_p (zA rfl) ?_
| refine p_p (zF rfl rfl) ?_
| refine p_p (zS rfl rfl rfl) ?_
| refine p_p (ps_add rfl rfl rfl aO) ?_
| refine p_p (ps_lit1 rfl rfl (by rfl) (by rfl)) ?_); refine ⟨_, aB, ?_⟩)
| refine o_nil ?_
| refine zX rfl ?_
| (refine zK rfl (fun hc => ?_) (fun hc => ?_) <;> try (exfalso; omega))
| refine zR ?_)
      all_goals try (exfalso; omega)
      exact zT (i + 1) (by omega) (by omega) aI ⟨rfl, rfl, trivial⟩ (zB (by rw [hsn, List.map_append]; rfl) (zM _))
    | false =>
      rw [hb] at ri
      rw [hb, if_neg Bool.false_ne_true, List.append_nil] at hsn
      repeat' (first
| refine g_seq ?_
| refine zJ ?_
| refine zC ?_
| (refine o_go rfl ?_; (first
| refine p_p (zN rfl rfl rfl (by omega) ri (by exact rfl)) ?_
| refine p_p (zD rfl) ?_
| refine p_p (zA rfl) ?_
| refine p_p (zF rfl rfl) ?_
| refine p_p (zS rfl rfl rfl) ?_
| refine p_p (ps_add rfl rfl rfl aO) ?_); refine ⟨_, aB, ?_⟩)
| refine o_nil ?_
| refine zW rfl ?_
| (refine zK rfl (fun hc => ?_) (fun hc => ?_) <;> try (exfalso; omega))
| refine zR ?_)
      all_goals try (exfalso; omega)
      exact zT (i + 1) (by omega) (by omega) aI ⟨rfl, rfl, trivial⟩ (zB (by rw [hsn]) (zM _))
  · rw [show i = r.length by omega]
    repeat' (first
| refine g_seq ?_
| refine zC ?_
| (refine o_go rfl ?_; (first
| refine p_p (zD rfl) ?_
| refine p_p (zA rfl) ?_
| refine p_p (zS rfl rfl rfl) ?_); refine ⟨_, aB, ?_⟩)
| refine o_nil ?_
| (refine zK rfl (fun hc => ?_) (fun hc => ?_) <;> try (exfalso; omega))
| refine kr1 ?_
| refine krS rfl ?_
| refine g_exit ?_
| refine g_ret ?_)
    all_goals first | rfl | (exfalso; omega)
theorem upTo_congrF {n : Nat} {f g : Nat → Bool} (h : ∀ x, x < n → f x = g x) : upTo n f = upTo n g := by
  unfold upTo
  congr 1
  exact List.filter_congr fun x hx => h x (List.mem_range.1 hx)
theorem iimgs_c (g : List Int) (n : Nat) (hn : n ≤ 1048576) (hg : ∀ i, i < g.length → 0 ≤ g.getD i 0 ∧ g.getD i 0 < (n : Int)) (hl : g.length ≤ 1048576) : PCalls Tryz.prog 143 [ints g, I (n : Int)] (ints (imgL g n)) := by
  refine pcalls1 Tryz.func143 rfl Tryz.ntmps143 rfl ?_
  simp only [List.length_cons, List.length_nil, Nat.reduceAdd, Nat.reduceSub, List.replicate_succ, List.replicate_zero, List.cons_append, List.nil_append]
  have h1 := imarks_c g n hn hg hl
  have h2 := imkd_c ((List.range n).map fun y : Nat => g.contains (y : Int)) (by simp; omega)
  have e : upTo ((List.range n).map fun y : Nat => g.contains (y : Int)).length (fun y => ((List.range n).map fun y : Nat => g.contains (y : Int)).getD y false) = imgL g n := by
    rw [List.length_map, List.length_range]
    exact upTo_congrF fun x hx => getD_map_range n (fun y : Nat => g.contains (y : Int)) false hx
  rw [e] at h2
  repeat' (first
| refine g_seq ?_
| refine zC ?_
| (refine o_go rfl ?_; (first
| refine p_p (zG rfl rfl aC (h1)) ?_
| refine p_p (zG rfl rfl aC (h2)) ?_
| refine p_p (zD rfl) ?_
| refine p_p (zA rfl) ?_); refine ⟨_, aB, ?_⟩)
| refine o_nil ?_
| refine kr1 ?_
| refine krS rfl ?_
| refine g_ret ?_)
  all_goals rfl
def imgV (n : Int) (A : List OpD) (m : Int) (B : List OpD) (g : List Int) : List Int := if hmB n A m B g then imgL g m.toNat else []
theorem iimg_c (n m : Int) (A B : List OpD) (g : List Int) (hA : szOk A) (hB : szOk B) (hg : g.length ≤ 1048576) : PCalls Tryz.prog 36 [algP n A, algP m B, ints g] (.tup [ints (imgV n A m B g), Go.Pv.B (hmB n A m B g)]) := by
  refine pcalls2 Tryz.func36 rfl Tryz.ntmps36 rfl ?_
  simp only [List.length_cons, List.length_nil, Nat.reduceAdd, Nat.reduceSub, List.replicate_succ, List.replicate_zero, List.cons_append, List.nil_append]
  have h1 := iaa_c n m A B hA hB
  unfold imgV hmB
  cases hb : alkB n A m B with
  | false =>
    rw [hb] at h1
    rw [Bool.false_and, if_neg Bool.false_ne_true]
    repeat' (first
| refine g_seq ?_
| refine zC ?_
| (refine o_go rfl ?_; (first
| refine p_p (zG rfl rfl aC (h1)) ?_
| refine p_p (zD rfl) ?_
| refine p_p (zA rfl) ?_
| refine p_p (ps_load_agg rfl rfl aL) ?_
| refine p_p (ps_not rfl rfl) ?_
| refine p_p (zQ rfl rfl) ?_
| refine p_e rfl (e_lit0 rfl (by decide)) ?_
| refine p_p (ps_box rfl rfl) ?_); refine ⟨_, aB, ?_⟩)
| refine o_nil ?_
| (refine o_s rfl ?_; refine ⟨_, aB, ?_⟩)
| refine zX rfl ?_
| refine kr2 ?_ ?_
| refine krB rfl ?_
| refine krS rfl ?_
| refine g_ret ?_)
    all_goals rfl
  | true =>
    rw [hb] at h1
    obtain ⟨a, b, rfl, rfl, a0, a8, b0, b8, a4, ao, bo, hs, -, -⟩ := alkB_facts hb
    have h2 := iishm_c a b A B g a0 a8 b8 hA.1 ao bo hs hg
    rw [Int.toNat_natCast, Int.toNat_natCast, Bool.true_and]
    cases he : homB a A b B g with
    | false =>
      rw [he] at h2
      repeat' (first
| refine g_seq ?_
| refine zC ?_
| (refine o_go rfl ?_; (first
| refine p_p (zG rfl rfl aC (h1)) ?_
| refine p_p (zG rfl rfl aC (h2)) ?_
| refine p_p (zD rfl) ?_
| refine p_p (zA rfl) ?_
| refine p_p (ps_load_agg rfl rfl aL) ?_
| refine p_p (ps_not rfl rfl) ?_
| refine p_p (zQ rfl rfl) ?_
| refine p_e rfl (e_lit0 rfl (by decide)) ?_
| refine p_p (ps_box rfl rfl) ?_); refine ⟨_, aB, ?_⟩)
| refine o_nil ?_
| refine zX rfl ?_
| refine kr2 ?_ ?_
| refine krB rfl ?_
| refine krS rfl ?_
| refine g_ret ?_)
      all_goals rfl
    | true =>
      rw [he] at h2
      have hmb : mapB a b g = true := by unfold homB at he; rw [Bool.and_eq_true] at he; exact he.1
      obtain ⟨hgl, hgi⟩ := mapB_facts hmb
      have h3 := iimgs_c g b (by omega) (fun i hi => by have := hgi i (by omega); omega) hg
      rw [if_pos rfl]
      repeat' (first
| refine g_seq ?_
| refine zC ?_
| (refine o_go rfl ?_; (first
| refine p_p (zG rfl rfl aC (h1)) ?_
| refine p_p (zG rfl rfl aC (h2)) ?_
| refine p_p (zG rfl rfl aC (h3)) ?_
| refine p_p (zD rfl) ?_
| refine p_p (zA rfl) ?_
| refine p_p (zF rfl rfl) ?_
| refine p_p (ps_load_agg rfl rfl aL) ?_
| refine p_p (zL rfl rfl) ?_
| refine p_p (ps_not rfl rfl) ?_
| refine p_p (zQ rfl rfl) ?_
| refine p_p (ps_box rfl rfl) ?_); refine ⟨_, aB, ?_⟩)
| refine o_nil ?_
| refine zW rfl ?_
| refine kr2 ?_ ?_
| refine krB rfl ?_
| refine krS rfl ?_
| refine zR ?_
| refine g_ret ?_)
      all_goals rfl
end Go.Proofs.YtembaiccchgllaaGreat
