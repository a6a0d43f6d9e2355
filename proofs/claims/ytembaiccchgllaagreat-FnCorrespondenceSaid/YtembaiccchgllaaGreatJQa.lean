/- Walks: the cursor that reads choices from bytes. -/
import Derived.Test.YtembaiccchgllaaGreatJPr
import Derived.Test.YtembaiccchgllaaGreatJSq
namespace Go.Proofs.YtembaiccchgllaaGreat
open Go Go.Pv Go.Proofs
set_option maxHeartbeats 32000000
set_option maxRecDepth 100000
attribute [local bitvec_to_nat] St.put St.setObj St.ev killP killA killP1 killH mapHO renP renA ren1 killG killGA killG1 krowP krowA krow1 lendP lendA lend1 unv pinP pin1 elemsM viewM viewN viewV n_set_z n_set_s n_map_c n_map_n getD_z getD_s n_toNat n_cond_t n_cond_f n_len_c n_len_n n_app_c n_app_n n_take_s n_take_z n_drop_s n_drop_z n_get_z n_get_s view viewA view1 elems Nat.zero_add Nat.add_zero Bool.not_true Bool.not_false Nat.one_ne_zero Nat.mul_one

theorem seq_of {α : Type} (P : Nat → α → Prop) (R : Nat → α → α → Prop) (x0 : α) (n : Nat) (h0 : P 0 x0) (h : ∀ k x, k < n → P k x → ∃ x', P (k + 1) x' ∧ R k x x') : ∃ F : Nat → α, F 0 = x0 ∧ (∀ k, k ≤ n → P k (F k)) ∧ ∀ k, k < n → R k (F k) (F (k + 1)) := by
  obtain ⟨f, hf⟩ : ∃ f : Nat × α → α, ∀ p, p.1 < n → P p.1 p.2 → P (p.1 + 1) (f p) ∧ R p.1 p.2 (f p) := Classical.axiomOfChoice (r := fun (p : Nat × α) (x' : α) => p.1 < n → P p.1 p.2 → P (p.1 + 1) x' ∧ R p.1 p.2 x') fun (p : Nat × α) => by
    rcases Classical.em (p.1 < n ∧ P p.1 p.2) with hp | hp
    · obtain ⟨x', hx⟩ := h p.1 p.2 hp.1 hp.2
      exact ⟨x', fun _ _ => hx⟩
    · exact ⟨p.2, fun h1 h2 => absurd ⟨h1, h2⟩ hp⟩
  have hP : ∀ k, k ≤ n → P k (Nat.rec x0 (fun k x => f (k, x)) k) := fun k => by
    induction k with
    | zero => exact fun _ => h0
    | succ k ih => exact fun hk => (hf (k, _) hk (ih (by omega))).1
  exact ⟨fun k => Nat.rec x0 (fun k x => f (k, x)) k, rfl, hP, fun k hk => (hf (k, _) hk (hP k (by omega))).2⟩
abbrev bytesP (l : List Int) : PV := .sl 1 none (l.map Y)
structure Cu where
  code : List Int
  pos : Int
  sd : Int
structure Cu.ok (c : Cu) (m : Int) : Prop where
  len : c.code.length ≤ 65536
  byte : ∀ i, i < c.code.length → 0 ≤ c.code.getD i 0 ∧ c.code.getD i 0 ≤ 255
  lo : 0 ≤ c.pos
  hi : c.pos ≤ m
  sd0 : 0 ≤ c.sd
structure bytesOk (l : List Int) : Prop where
  len : l.length ≤ 65536
  byte : ∀ i, i < l.length → 0 ≤ l.getD i 0 ∧ l.getD i 0 ≤ 255
abbrev cu0 (l : List Int) : Cu := ⟨l, 0, 0⟩
theorem cu0_ok {l : List Int} (h : bytesOk l) : (cu0 l).ok 0 := ⟨h.len, h.byte, Int.le_refl _, Int.le_refl _, Int.le_refl _⟩
abbrev cuB (c : Cu) : HO := .box [bytesP c.code, I c.pos, U c.sd]
def nextB (c : Cu) : Int := if c.pos < (c.code.length : Int) then IntKind.i64.wrap (c.code.getD c.pos.toNat 0) else 0
def nextS (c : Cu) : Int := IntKind.u64.wrap (IntKind.u64.wrap (IntKind.u64.wrap (c.sd * 6364136223846793005) + IntKind.u64.wrap (nextB c)) + 550289)
def nextX (c : Cu) : Int := if c.pos + 1 ≤ (c.code.length : Int) then nextB c else IntKind.i64.wrap (bits .and .u64 (nextS c / 1099511627776) 255)
def nextC (c : Cu) : Cu := ⟨c.code, c.pos + 1, nextS c⟩
theorem wrap_u64 (a : Int) : 0 ≤ IntKind.u64.wrap a ∧ IntKind.u64.wrap a ≤ 18446744073709551615 := by
  simp [IntKind.wrap, IntKind.bits, IntKind.signed]; omega
theorem nextB_in {c : Cu} {m : Int} (h : c.ok m) : 0 ≤ nextB c ∧ nextB c ≤ 255 := by
  unfold nextB
  have := h.lo
  split
  · have := h.byte c.pos.toNat (by omega)
    rw [IntWalk.i64_in _ (by omega)]
    exact this
  · omega
theorem nextC_ok {c : Cu} {m : Int} (h : c.ok m) : (nextC c).ok (m + 1) := by
  have h1 := h.lo
  have h2 := h.hi
  exact ⟨h.len, h.byte, by show 0 ≤ c.pos + 1; omega, by show c.pos + 1 ≤ m + 1; omega, (wrap_u64 _).1⟩
theorem nextX_in {c : Cu} {m : Int} (h : c.ok m) : 0 ≤ nextX c ∧ nextX c ≤ 255 := by
  unfold nextX
  split
  · exact nextB_in h
  · obtain ⟨s0, s1⟩ := wrap_u64 (IntKind.u64.wrap (IntKind.u64.wrap (c.sd * 6364136223846793005) + IntKind.u64.wrap (nextB c)) + 550289)
    have s0 : 0 ≤ nextS c := s0
    have s1 : nextS c ≤ 18446744073709551615 := s1
    obtain ⟨n, hn⟩ : ∃ n : Nat, nextS c / 1099511627776 = (n : Int) := ⟨(nextS c / 1099511627776).toNat, by omega⟩
    rw [hn, show (255 : Int) = ((255 : Nat) : Int) by rfl, bits_and_u64_nat n 255 (by omega) (by omega)]
    have := Nat.and_le_right (n := n) (m := 255)
    rw [IntWalk.i64_in _ (by omega)]
    omega
theorem idx_Y {l : List Int} {k : Nat} (h : k < l.length) : (l.map Y)[k]? = some (Y (l.getD k 0)) := by simp [h]
theorem next_L {c : Cu} {m : Int} (h : c.ok m) (hm : m ≤ 1000000) : LCalls Tryz.prog 313 (cuB c) [.hat 0 0] (cuB (nextC c)) (I (nextX c)) := by
  refine pcallsL1 Tryz.func313 rfl Tryz.ntmps313 rfl rfl rfl (by simp) fun b d => ?_
  simp only [List.length_cons, List.length_nil, Nat.reduceAdd, Nat.reduceSub, List.replicate_succ, List.replicate_zero]
  have h1 := h.len
  have h2 := h.lo
  have h3 := h.hi
  repeat' (first
| refine g_seq ?_
| refine zC ?_
| refine zP (by kernel_rfl) (by kernel_rfl) ?_
| (refine o_go rfl ?_; (first
| refine p_p (ps_unv (ps_nilCheck_hat rfl rfl)) ?_
| refine p_p (ps_unv (zE rfl rfl)) ?_
| refine p_p (ps_unv (zH rfl rfl rfl rfl)) ?_
| refine p_p (ps_conv rfl Tryz.underlying3 rfl rfl) ?_
| refine p_p (ps_conv rfl Tryz.underlying151 rfl rfl) ?_
| refine p_p (ps_mulU rfl rfl rfl) ?_
| refine p_p (ps_addU rfl rfl rfl) ?_
| refine p_p (ps_shrU rfl rfl rfl (by omega) (by omega)) ?_
| refine p_p (ps_andU rfl rfl rfl) ?_
| refine p_p (zN rfl rfl rfl (by omega) (by exact idx_Y (by omega)) (by exact rfl)) ?_
| refine p_p (zD rfl) ?_
| refine p_p (zA rfl) ?_
| refine p_p (zF rfl rfl) ?_
| refine p_p (zU rfl rfl rfl) ?_
| refine p_p (zS rfl rfl rfl) ?_
| refine p_p (ps_add rfl rfl rfl aO) ?_
| refine p_p (ps_leq rfl rfl rfl) ?_
| refine p_e rfl (e_store_boxC rfl rfl rfl rfl aL rfl rfl) ?_); refine ⟨_, aB, ?_⟩)
| refine o_nil ?_
| (refine zK rfl (fun hc => ?_) (fun hc => ?_) <;> try (exfalso; omega))
| refine zR ?_
| refine g_ret ?_)
  · refine krlh 0 0 rfl ?_ rfl (krI rfl ?_)
    · unfold nextC nextS nextB; rw [if_pos (by assumption)]
    · unfold nextX nextB; rw [if_pos hc, if_pos (by assumption)]
  · refine krlh 0 0 rfl ?_ rfl (krI rfl ?_)
    · unfold nextC nextS nextB; rw [if_neg (by assumption)]
    · unfold nextX nextS nextB; rw [if_neg hc, if_neg (by assumption)]; rfl
theorem pick_L {c : Cu} {m : Int} (h : c.ok m) (hm : m ≤ 999000) (n : Int) (hn : n ≤ 1000000) : ∃ c' x, c'.ok (m + 2) ∧ 0 ≤ x ∧ (n ≤ 1 ∧ x = 0 ∨ x < n) ∧ LCalls Tryz.prog 266 (cuB c) [.hat 0 0, I n] (cuB c') (I x) := by
  by_cases h1 : n ≤ 1
  · refine ⟨c, 0, ⟨h.len, h.byte, h.lo, by have := h.hi; omega, h.sd0⟩, Int.le_refl _, .inl ⟨h1, rfl⟩, ?_⟩
    refine pcallsL1 Tryz.func266 rfl Tryz.ntmps266 rfl rfl rfl (by simp) fun b d => ?_
    simp only [List.length_cons, List.length_nil, Nat.reduceAdd, Nat.reduceSub, List.replicate_succ, List.replicate_zero]
    repeat' (first
| refine g_seq ?_
| refine zC ?_
| (refine o_go rfl ?_; (first
| refine p_p (zD rfl) ?_
| refine p_p (zA rfl) ?_
| refine p_p (ps_leq rfl rfl rfl) ?_); refine ⟨_, aB, ?_⟩)
| refine o_nil ?_
| (refine zK rfl (fun hc => ?_) (fun hc => ?_) <;> try (exfalso; omega))
| refine g_ret ?_)
    exact krlh 0 0 rfl rfl rfl (krI rfl rfl)
  · have n1 := next_L h (by omega)
    have k1 := nextC_ok h
    have x1 := nextX_in h
    by_cases h2 : 200 < n
    · have n2 := next_L k1 (by omega)
      have k2 := nextC_ok k1
      have x2 := nextX_in k1
      have e0 : 0 ≤ (nextX c * 256 + nextX (nextC c)) % n := Int.emod_nonneg _ (by omega)
      have e1 : (nextX c * 256 + nextX (nextC c)) % n < n := Int.emod_lt_of_pos _ (by omega)
      refine ⟨nextC (nextC c), (nextX c * 256 + nextX (nextC c)) % n, by rw [show m + 2 = m + 1 + 1 by omega]; exact k2, e0, .inr e1, ?_⟩
      refine pcallsL1 Tryz.func266 rfl Tryz.ntmps266 rfl rfl rfl (by simp) fun b d => ?_
      simp only [List.length_cons, List.length_nil, Nat.reduceAdd, Nat.reduceSub, List.replicate_succ, List.replicate_zero]
      repeat' (first
| refine g_seq ?_
| refine zC ?_
| (refine o_go rfl ?_; (first
| refine p_e rfl (e_callL (n := 0) rfl rfl rfl aK rfl (by rfl) aR (n1)) ?_
| refine p_e rfl (e_callL (n := 0) rfl rfl rfl aK rfl (by rfl) aR (n2)) ?_
| refine p_p (ps_mul rfl rfl rfl aO) ?_
| refine p_p (ps_rem rfl rfl rfl (by omega) (by omega)) ?_
| refine p_p (zD rfl) ?_
| refine p_p (zA rfl) ?_
| refine p_p (ps_add rfl rfl rfl aO) ?_
| refine p_p (ps_leq rfl rfl rfl) ?_
| refine p_p (ps_gtr rfl rfl rfl) ?_); refine ⟨_, aB, ?_⟩)
| refine o_nil ?_
| (refine zK rfl (fun hc => ?_) (fun hc => ?_) <;> try (exfalso; omega))
| refine zR ?_
| refine g_ret ?_)
      exact krlh 0 0 rfl rfl rfl (krI rfl rfl)
    · have e0 : 0 ≤ nextX c % n := Int.emod_nonneg _ (by omega)
      have e1 : nextX c % n < n := Int.emod_lt_of_pos _ (by omega)
      refine ⟨nextC c, nextX c % n, ⟨k1.len, k1.byte, k1.lo, by have := k1.hi; omega, k1.sd0⟩, e0, .inr e1, ?_⟩
      refine pcallsL1 Tryz.func266 rfl Tryz.ntmps266 rfl rfl rfl (by simp) fun b d => ?_
      simp only [List.length_cons, List.length_nil, Nat.reduceAdd, Nat.reduceSub, List.replicate_succ, List.replicate_zero]
      repeat' (first
| refine g_seq ?_
| refine zC ?_
| (refine o_go rfl ?_; (first
| refine p_e rfl (e_callL (n := 0) rfl rfl rfl aK rfl (by rfl) aR (n1)) ?_
| refine p_p (ps_rem rfl rfl rfl (by omega) (by omega)) ?_
| refine p_p (zD rfl) ?_
| refine p_p (zA rfl) ?_
| refine p_p (ps_leq rfl rfl rfl) ?_
| refine p_p (ps_gtr rfl rfl rfl) ?_); refine ⟨_, aB, ?_⟩)
| refine o_nil ?_
| (refine zK rfl (fun hc => ?_) (fun hc => ?_) <;> try (exfalso; omega))
| refine zR ?_
| refine g_ret ?_)
      exact krlh 0 0 rfl rfl rfl (krI rfl rfl)
theorem one_L {c : Cu} {m : Int} (h : c.ok m) (hm : m ≤ 999000) (n : Int) (hn : n ≤ 1000000) : ∃ c' b, c'.ok (m + 2) ∧ LCalls Tryz.prog 265 (cuB c) [.hat 0 0, I n] (cuB c') (B b) := by
  obtain ⟨c', x, k, x0, -, hc⟩ := pick_L h hm n hn
  refine ⟨c', decide (x = 0), k, ?_⟩
  refine pcallsL1 Tryz.func265 rfl Tryz.ntmps265 rfl rfl rfl (by simp) fun b d => ?_
  simp only [List.length_cons, List.length_nil, Nat.reduceAdd, Nat.reduceSub, List.replicate_succ, List.replicate_zero]
  repeat' (first
| refine g_seq ?_
| refine zC ?_
| (refine o_go rfl ?_; (first
| refine p_e rfl (e_callL (n := 0) rfl rfl rfl aK rfl (by rfl) aR (hc)) ?_
| refine p_p (zD rfl) ?_
| refine p_p (zA rfl) ?_
| refine p_p (ps_eql rfl rfl rfl) ?_); refine ⟨_, aB, ?_⟩)
| refine o_nil ?_
| refine g_ret ?_)
  exact krlh 0 0 rfl rfl rfl (krB rfl rfl)
theorem among_L {c : Cu} {m : Int} (h : c.ok m) (hm : m ≤ 999000) (l : List Int) (hl : 0 < l.length) (hl2 : l.length ≤ 1000) : ∃ c' x, c'.ok (m + 2) ∧ x ∈ l ∧ LCalls Tryz.prog 197 (cuB c) [.hat 0 0, ints l] (cuB c') (I x) := by
  obtain ⟨c', x, k, x0, x1, hc⟩ := pick_L h hm (l.length : Int) (by omega)
  have hx : x < (l.length : Int) := by omega
  refine ⟨c', l.getD x.toNat 0, k, ?_, ?_⟩
  · rw [List.getD_eq_getElem?_getD, List.getElem?_eq_getElem (show x.toNat < l.length by omega)]
    exact List.getElem_mem _
  refine pcallsL1 Tryz.func197 rfl Tryz.ntmps197 rfl rfl rfl (by simp) fun b d => ?_
  simp only [List.length_cons, List.length_nil, Nat.reduceAdd, Nat.reduceSub, List.replicate_succ, List.replicate_zero]
  repeat' (first
| refine g_seq ?_
| refine zC ?_
| (refine o_go rfl ?_; (first
| refine p_e rfl (e_callL (n := 0) rfl rfl rfl aK rfl (by rfl) aR (hc)) ?_
| refine p_p (zN rfl rfl rfl (by omega) (by exact idx_I (by omega)) (by exact rfl)) ?_
| refine p_p (zD rfl) ?_
| refine p_p (zA rfl) ?_
| refine p_p (zF rfl rfl) ?_
| refine p_p (zU rfl rfl rfl) ?_); refine ⟨_, aB, ?_⟩)
| refine o_nil ?_
| refine g_ret ?_)
  exact krlh 0 0 rfl rfl rfl (krI rfl rfl)
end Go.Proofs.YtembaiccchgllaaGreat
