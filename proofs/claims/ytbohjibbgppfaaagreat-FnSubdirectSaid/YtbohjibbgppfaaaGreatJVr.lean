/- Plain: the first pair apart, the greatest number of factors, heights, triples. -/
import Derived.Test.YtbohjibbgppfaaaGreatJSq
import Derived.Test.YtbohjibbgppfaaaGreatJKd
import Derived.Test.YtbohjibbgppfaaaGreatJKg
import Derived.Test.YtbohjibbgppfaaaGreatJYa
import Derived.Test.YtbohjibbgppfaaaGreatJGb
import Derived.Test.YtbohjibbgppfaaaGreatJVd
import Derived.Test.YtbohjibbgppfaaaGreatJYc
import Derived.Test.YtbohjibbgppfaaaGreatJYt
import Derived.Test.YtbohjibbgppfaaaGreatJKo
import Derived.Test.YtbohjibbgppfaaaGreatJTy
import Derived.Test.YtbohjibbgppfaaaGreatJPq
import Derived.Test.YtbohjibbgppfaaaGreatJZb
import Derived.Test.YtbohjibbgppfaaaGreatJLy
import Derived.Test.YtbohjibbgppfaaaGreatJAu
import Derived.Test.YtbohjibbgppfaaaGreatJKz
set_option linter.unusedSectionVars false
namespace Go.Proofs.YtbohjibbgppfaaaGreat
open Go Go.Pv Go.Proofs

theorem rows_get {V : List (List Int)} {k : Nat} (h : k < V.length) : V.getD k [] = V[k] := by rw [List.getD_eq_getElem?_getD, List.getElem?_eq_getElem h]; rfl
/-! ### The first pair that does not permute -/
/-! ### The greatest number of factors -/
/-! ### Heights -/
theorem allL_pos (n : Nat) (ops : List OpD) : 0 < (allL n ops).length := List.length_pos_of_mem (allL_mem.2 ⟨full_pt n, full_cong ops⟩)
/-! ### Triples -/
end Go.Proofs.YtbohjibbgppfaaaGreat
/- Walks: quotient algebras, natural maps, congruences above, lifted and pushed congruences. -/
namespace Go.Proofs.YtbohjibbgppfaaaGreat
open Go Go.Pv Go.Proofs
set_option maxHeartbeats 32000000
set_option maxRecDepth 100000
attribute [local bitvec_to_nat] St.put St.setObj St.ev killP killA killP1 killH mapHO renP renA ren1 killG killGA killG1 krowP krowA krow1 lendP lendA lend1 unv pinP pin1 elemsM viewM viewN viewV n_set_z n_set_s n_map_c n_map_n getD_z getD_s n_toNat n_cond_t n_cond_f n_len_c n_len_n n_app_c n_app_n n_take_s n_take_z n_drop_s n_drop_z n_get_z n_get_s view viewA view1 elems Nat.zero_add Nat.add_zero Bool.not_true Bool.not_false Nat.one_ne_zero Nat.mul_one
theorem sbel_c (n : Nat) (p q : List Int) (hn : n ≤ 1000) (hp : Pt n p) (hq : q.length = n) : PCalls Tryz.prog 221 [ints p, ints q] (B (fiB n p q)) := by
  refine pcalls1 Tryz.func221 rfl Tryz.ntmps221 rfl ?_
  refine wF ?_
  have hpl := hp.len
  repeat' (first
| refine wO ?_
| (refine o_go rfl ?_; (first
| refine wS ?_); refine ⟨_, aA, ?_⟩))
  refine g_loopT (α := Nat) (fun i => [(5, I (i : Int))]) (fun _ => []) (fun i => i ≤ n ∧ ∀ y, y < i → q.getD (bk p y) 0 = q.getD y 0) (fun i => n - i) 0 aF ⟨Nat.zero_le _, fun j hj => absurd hj (Nat.not_lt_zero _)⟩ ⟨rfl, trivial⟩ rfl ?_
  rintro i ⟨hi, hno⟩
  dsimp only [zZ, List.set_cons_zero, List.set_cons_succ]
  by_cases hil : i < n
  · have hb := hp.lt hil
    have i1 := row_atY (p := p) (x := i) (by omega)
    rw [hp.val hil] at i1
    have i2 := row_atY (p := q) (x := bk p i) (by omega)
    have i3 := row_atY (p := q) (x := i) (by omega)
    have hql : (q.map I).length = n := by rw [List.length_map, hq]
    by_cases he : q.getD (bk p i) 0 = q.getD i 0
    · repeat' (first
| refine wO ?_
| refine zP (by kernel_rfl) (by kernel_rfl) ?_
| (refine o_go rfl ?_; (first
| refine p_p (zN rfl rfl rfl (by omega) i1 (by exact rfl)) ?_
| refine p_p (zN rfl rfl rfl (by omega) i2 (by exact rfl)) ?_
| refine p_p (zN rfl rfl rfl (by omega) i3 (by exact rfl)) ?_
| refine wS ?_); refine ⟨_, aA, ?_⟩)
| (refine g_condN rfl (fun hc => ?_) (fun hc => ?_) <;> try (exfalso; omega))
| (refine zK rfl (fun hc => ?_) (fun hc => ?_) <;> try (exfalso; omega))
| refine wE ?_)
      all_goals try (exfalso; first | omega | exact hc he)
      refine zT (i + 1) ⟨by omega, fun y hy => ?_⟩ (by omega) aI ⟨rfl, trivial⟩ (zM _)
      rcases Nat.lt_or_ge y i with h | h
      · exact hno y h
      · rw [show y = i by omega]; exact he
    · have hv : fiB n p q = false := by
        rw [Bool.eq_false_iff]
        intro h
        have := List.all_eq_true.1 h i (List.mem_range.2 hil)
        exact he (by simpa using this)
      rw [hv]
      repeat' (first
| refine wO ?_
| refine zP (by kernel_rfl) (by kernel_rfl) ?_
| (refine o_go rfl ?_; (first
| refine p_p (zN rfl rfl rfl (by omega) i1 (by exact rfl)) ?_
| refine p_p (zN rfl rfl rfl (by omega) i2 (by exact rfl)) ?_
| refine p_p (zN rfl rfl rfl (by omega) i3 (by exact rfl)) ?_
| refine wS ?_); refine ⟨_, aA, ?_⟩)
| (refine g_condN rfl (fun hc => ?_) (fun hc => ?_) <;> try (exfalso; omega))
| (refine zK rfl (fun hc => ?_) (fun hc => ?_) <;> try (exfalso; omega))
| refine kr1 ?_
| refine krB rfl ?_
| refine wE ?_)
      all_goals first | rfl | (exfalso; first | omega | exact he hc)
  · rw [show fiB n p q = true from List.all_eq_true.2 fun y hy => decide_eq_true (hno y (by have := List.mem_range.1 hy; omega))]
    repeat' (first
| refine wO ?_
| (refine o_go rfl ?_; (first
| refine wS ?_); refine ⟨_, aA, ?_⟩)
| (refine zK rfl (fun hc => ?_) (fun hc => ?_) <;> try (exfalso; omega))
| refine kr1 ?_
| refine krB rfl ?_
| refine wE ?_)
    all_goals first | rfl | (exfalso; omega)
end Go.Proofs.YtbohjibbgppfaaaGreat
/- Walks: few congruences, the first pair apart, both sides. -/
namespace Go.Proofs.YtbohjibbgppfaaaGreat
open Go Go.Pv Go.Proofs
theorem fc_pt {m : Nat} {ops : List OpD} : ∀ p ∈ allL m ops, Pt m p := fun p hp => (allL_mem.1 hp).1
end Go.Proofs.YtbohjibbgppfaaaGreat
/- The law of Mal'cev chains, its last part. -/
namespace Go.Pv
open Go
attribute [local semireducible] Go.Pv.PStep
section
variable {P : Program} {o : Oper} {ev : Operand → PV} {hp : List HO}
theorem ps_neqBY {t rt : TypeId} [ht : BoolT P t] {x y : Operand} {a b c : Bool} (ho : o.op = .binOp .neq t x y rt) (h1 : ev x = B a) (h2 : ev y = B b) (h : (a != b) = c) : PStep P o ev hp (B c) := by
  have := ps_neqB (P := P) (hp := hp) (ht := ht) ho h1 h2; rwa [h] at this
end
end Go.Pv
/- The law of quotients and the congruences above a congruence. -/
namespace Go.Proofs.YtbohjibbgppfaaaGreat
open Go Go.Pv Go.Proofs
set_option maxHeartbeats 32000000
set_option maxRecDepth 100000
attribute [local bitvec_to_nat] St.put St.setObj St.ev killP killA killP1 killH mapHO renP renA ren1 killG killGA killG1 krowP krowA krow1 lendP lendA lend1 unv pinP pin1 elemsM viewM viewN viewV n_set_z n_set_s n_map_c n_map_n getD_z getD_s n_toNat n_cond_t n_cond_f n_len_c n_len_n n_app_c n_app_n n_take_s n_take_z n_drop_s n_drop_z n_get_z n_get_s view viewA view1 elems Nat.zero_add Nat.add_zero Bool.not_true Bool.not_false Nat.one_ne_zero Nat.mul_one

theorem algOk_of {m : Nat} {ops : List OpD} (h0 : 0 < m) (h8 : m ≤ 8) (h4 : ops.length ≤ 4) (ho : opsIn m ops) : algOk (m : Int) ops = true := by
  unfold algOk
  rw [inB_iff.2 (by omega), decide_eq_true h4, Int.toNat_natCast, Bool.true_and, Bool.true_and]
  refine List.all_eq_true.2 fun f hf => ?_
  obtain ⟨h1, h2, h3, h5⟩ := ho f hf
  unfold opOk
  rw [inB_iff.2 ⟨h1, h2⟩, decide_eq_true h3, Bool.true_and, Bool.true_and]
  unfold inSizeB
  refine List.all_eq_true.2 fun x hx => ?_
  obtain ⟨i, hi, rfl⟩ := List.getElem_of_mem hx
  have := h5 i (by omega)
  have hb : bk f.tb i = (f.tb.getD i 0).toNat := rfl
  rw [List.getD_eq_getElem?_getD, List.getElem?_eq_getElem hi] at this hb
  simp only [Option.getD_some] at this hb
  simp only [Bool.not_eq_true', Bool.or_eq_false_iff, decide_eq_false_iff_not]
  omega
theorem szOk_in {m : Nat} {ops : List OpD} (h8 : m ≤ 8) (h4 : ops.length ≤ 4) (ho : opsIn m ops) : szOk ops := by
  refine ⟨by omega, fun f hf => ?_⟩
  obtain ⟨h1, h2, h3, -⟩ := ho f hf
  rw [h3]
  exact Nat.le_trans (Nat.pow_le_pow_left h8 _) (Nat.le_trans (Nat.pow_le_pow_right (by decide) (show f.ar.toNat ≤ 3 by omega)) (by decide))
theorem acB_of {m : Nat} {ops : List OpD} (hg : algOk (m : Int) ops = true) (h : (allL m ops).length ≤ 200) : acB (m : Int) ops = true := by
  unfold acB
  rw [hg, Int.toNat_natCast, decide_eq_true h]; rfl
theorem rbigV_c (l : List Int) (_hl : l.length ≤ 9223372036854775807) : PCalls Tryz.prog 20 [bytesP l] (B (decide (65536 < (l.length : Int)))) := by
  refine pcalls1 Tryz.func20 rfl Tryz.ntmps20 rfl ?_
  refine wF ?_
  repeat' (first
| refine wO ?_
| (refine o_go rfl ?_; (first
| refine wS ?_); refine ⟨_, aA, ?_⟩)
| refine kr1 ?_
| refine krB rfl ?_
| refine wE ?_)
  all_goals first | rfl | (exfalso; omega)
theorem ropV_c (f : OpD) (hf : f.tb.length ≤ 1048576) : PCalls Tryz.prog 172 [opP f, opP f] (B true) := by
  refine pcalls1 Tryz.func172 rfl Tryz.ntmps172 rfl ?_
  refine wF ?_
  have h1 := rintsY_c f.tb f.tb (by omega) (by omega)
  rw [decide_eq_true rfl] at h1
  repeat' (first
| refine wO ?_
| (refine o_go rfl ?_; (first
| refine p_p (zG rfl rfl aB (h1)) ?_
| refine wS ?_
| refine p_p (ps_box rfl rfl) ?_); refine ⟨_, aA, ?_⟩)
| (refine o_splitD rfl rfl rfl (fun hc => ?_) (fun hc => ?_) <;> first | (exfalso; omega) | dsimp only [List.set_cons_zero, List.set_cons_succ])
| refine kr1 ?_
| refine krB rfl ?_
| refine wE ?_)
  all_goals first | rfl | (exfalso; omega)
theorem ropsV_c (L : List OpD) (hs : szOk L) : PCalls Tryz.prog 91 [opsP L, opsP L] (B true) := by
  refine pcalls1 Tryz.func91 rfl Tryz.ntmps91 rfl ?_
  refine wF ?_
  have hl := hs.1
  repeat' (first
| refine wO ?_
| (refine o_go rfl ?_; (first
| refine wS ?_); refine ⟨_, aA, ?_⟩)
| (refine g_condN rfl (fun hc => ?_) (fun hc => ?_) <;> try (exfalso; omega))
| refine wE ?_)
  all_goals try (exfalso; omega)
  refine g_loopT (α := Nat) (fun k => [(5, I (k : Int))]) (fun _ => []) (fun k => k ≤ L.length) (fun k => L.length - k) 0 aF (Nat.zero_le _) ⟨rfl, trivial⟩ rfl ?_
  rintro k hk
  dsimp only [zZ, List.set_cons_zero, List.set_cons_succ]
  by_cases hkl : k < L.length
  · have hq := opsK_at hkl
    have h1 := ropV_c (L.getD k default) (hs.2 _ (opsK_mem hkl))
    repeat' (first
| refine wO ?_
| refine zP (by kernel_rfl) (by kernel_rfl) ?_
| (refine o_go rfl ?_; (first
| refine p_p (zN rfl rfl rfl (by omega) hq (by exact rfl)) ?_
| refine p_p (zG rfl rfl aB (h1)) ?_
| refine wS ?_
| refine p_p (ps_load_agg rfl rfl aK) ?_); refine ⟨_, aA, ?_⟩)
| (refine zK rfl (fun hc => ?_) (fun hc => ?_) <;> try (exfalso; omega))
| refine wE ?_)
    all_goals try (exfalso; omega)
    exact zT (k + 1) (by omega) (by omega) aI ⟨rfl, trivial⟩ (zM _)
  · repeat' (first
| refine wO ?_
| (refine o_go rfl ?_; (first
| refine wS ?_); refine ⟨_, aA, ?_⟩)
| (refine zK rfl (fun hc => ?_) (fun hc => ?_) <;> try (exfalso; omega))
| refine kr1 ?_
| refine krB rfl ?_
| refine wE ?_)
    all_goals first | rfl | (exfalso; omega)
theorem ralgV_c (n : Int) (L : List OpD) (hs : szOk L) : PCalls Tryz.prog 27 [algP n L, algP n L] (B true) := by
  refine pcalls1 Tryz.func27 rfl Tryz.ntmps27 rfl ?_
  refine wF ?_
  have h1 := ropsV_c L hs
  repeat' (first
| refine wO ?_
| (refine o_go rfl ?_; (first
| refine p_p (zG rfl rfl aB (h1)) ?_
| refine wS ?_
| refine p_p (ps_box rfl rfl) ?_); refine ⟨_, aA, ?_⟩)
| (refine o_splitD rfl rfl rfl (fun hc => ?_) (fun hc => ?_) <;> first | (exfalso; omega) | dsimp only [List.set_cons_zero, List.set_cons_succ])
| refine kr1 ?_
| refine krB rfl ?_
| refine wE ?_)
  all_goals first | rfl | (exfalso; omega)
end Go.Proofs.YtbohjibbgppfaaaGreat
