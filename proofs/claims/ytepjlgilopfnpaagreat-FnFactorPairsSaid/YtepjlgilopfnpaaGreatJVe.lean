/- Walks: quotient algebras, natural maps, congruences above, lifted and pushed congruences. -/
import Derived.Laws.Cover3
import Derived.Laws.Small
import Derived.Test.YtepjlgilopfnpaaGreatJVd
import Derived.Test.YtepjlgilopfnpaaGreatJKd
import Derived.Test.YtepjlgilopfnpaaGreatJYa
import Derived.Test.YtepjlgilopfnpaaGreatJSt
import Derived.Test.YtepjlgilopfnpaaGreatJKf
import Derived.Test.YtepjlgilopfnpaaGreatJYo
import Derived.Test.YtepjlgilopfnpaaGreatJKc
import Derived.Test.YtepjlgilopfnpaaGreatJNb
import Derived.Test.YtepjlgilopfnpaaGreatJKy
import Derived.Test.YtepjlgilopfnpaaGreatJKz
import Derived.Test.YtepjlgilopfnpaaGreatJLy
import Derived.Test.YtepjlgilopfnpaaGreatJKt
import Derived.Test.YtepjlgilopfnpaaGreatJKn
import Derived.Test.YtepjlgilopfnpaaGreatJKi
import Derived.Test.YtepjlgilopfnpaaGreatJSq
import Derived.Test.YtepjlgilopfnpaaGreatJTy
import Derived.Test.YtepjlgilopfnpaaGreatJPq
import Derived.Test.YtepjlgilopfnpaaGreatJKo
set_option linter.unusedSectionVars false
namespace Go.Proofs.YtepjlgilopfnpaaGreat
open Go Go.Pv Go.Proofs
set_option maxHeartbeats 32000000
set_option maxRecDepth 100000

noncomputable def quN (n : Int) (ops : List OpD) (p : List Int) : Int := if tkB n ops p then ((lstN p n.toNat).length : Int) else 0
noncomputable def quO (n : Int) (ops : List OpD) (p : List Int) : List OpD := if tkB n ops p then quoL n.toNat p ops else []
theorem quN_bad {n : Int} {ops : List OpD} {p : List Int} (h : tkB n ops p = false) : quN n ops p = 0 := by unfold quN; rw [h]; rfl
theorem quO_bad {n : Int} {ops : List OpD} {p : List Int} (h : tkB n ops p = false) : quO n ops p = [] := by unfold quO; rw [h]; rfl
theorem quN_ok {n : Nat} {ops : List OpD} {p : List Int} (h : tkB (n : Int) ops p = true) : quN (n : Int) ops p = ((lstN p n).length : Int) := by unfold quN; rw [h, if_pos rfl, Int.toNat_natCast]
theorem quO_ok {n : Nat} {ops : List OpD} {p : List Int} (h : tkB (n : Int) ops p = true) : quO (n : Int) ops p = quoL n p ops := by unfold quO; rw [h, if_pos rfl, Int.toNat_natCast]
theorem iqa_c (n : Int) (ops : List OpD) (p : List Int) (hs : szOk ops) (hp : p.length ≤ 1048576) : PCalls Tryz.prog 15 [algP n ops, ints p] (.tup [algP (quN n ops p) (quO n ops p), B (tkB n ops p)]) := by
 refine pcallsCT Tryz.func15 rfl Tryz.ntmps15 rfl ?_
 have h1 := iisct_c n ops p hs hp
 refine wF ?_
 cases hb : tkB n ops p with
 | false =>
  rw [hb] at h1
  rw [quN_bad hb, quO_bad hb]
  repeat' (first
| refine krct (krC_le rfl aK rfl (agg2_le (PV.le_nil 2))) ?_
| refine wO ?_
| (refine o_go rfl ?_; (first
| refine p_p (zG rfl rfl aD (h1)) ?_
| refine wS ?_
| refine p_p (ps_load_agg rfl rfl aK) ?_
| refine p_e rfl (zO rfl rfl rfl rfl aK rfl rfl rfl) ?_
| refine p_e rfl (e_alloc rfl) ?_
| refine p_p (ps_box rfl rfl) ?_
| refine p_p (ps_build rfl rfl) ?_); refine ⟨_, aB, ?_⟩)
| refine krB rfl ?_
| refine wE ?_)
  all_goals rfl
 | true =>
  rw [hb] at h1
  obtain ⟨m, rfl, hm0, hm8, h4, ho, hg, pt, cg⟩ := tkB_facts hb
  have h2 := iquo_c m ops p hm0 hm8 hs.1 ho pt
  rw [quN_ok hb, quO_ok hb]
  generalize quoL m p ops = Q at *
  repeat' (first
| refine wO ?_
| (refine o_go rfl ?_; (first
| refine p_p (zG rfl rfl aD (h1)) ?_
| refine p_p (zG rfl rfl aD (h2)) ?_
| refine wS ?_
| refine p_p (ps_load_agg rfl rfl aK) ?_
| refine p_e rfl (zO rfl rfl rfl rfl aK rfl rfl rfl) ?_
| refine p_e rfl (e_alloc rfl) ?_
| refine p_p (ps_box rfl rfl) ?_); refine ⟨_, aB, ?_⟩)
| refine krct ?_ ?_
| refine krC rfl aK ?_
| refine krB rfl ?_
| refine wE ?_)
  all_goals rfl
theorem com_lft (n : Nat) (p q : List Int) : comL (natL n p) q = lftV n p q := by
 unfold comL natL lftV
 rw [List.map_map]
 exact List.map_congr_left fun x _ => by simp
end Go.Proofs.YtepjlgilopfnpaaGreat
/- Walks: few congruences, the first pair apart, both sides. -/
namespace Go.Proofs.YtepjlgilopfnpaaGreat
open Go Go.Pv Go.Proofs
theorem fc_pt {m : Nat} {ops : List OpD} : ∀ p ∈ allL m ops, Pt m p := fun p hp => (allL_mem.1 hp).1
end Go.Proofs.YtepjlgilopfnpaaGreat
/- Plain: covers as the reference finds them, meet-irreducible congruences separate, lists of places whose meet is the identity. -/
namespace Go.Proofs.YtepjlgilopfnpaaGreat
open Go Go.Pv Go.Proofs
/-! ### Covers -/
/-! ### Irreducible congruences separate -/
/-! ### Places whose meet is the identity -/
theorem cnt_id {n : Nat} {p : List Int} : cnt n p = n ↔ ∀ x, x < n → bk p x = x := by
 unfold cnt
 constructor
 · intro h x hx
   have h1 : ((List.range n).filter fun x => decide (bk p x = x)).length = (List.range n).length := by rw [h, List.length_range]
   have := List.length_filter_eq_length_iff.1 h1 x (List.mem_range.2 hx)
   simpa using this
 · intro h
   rw [List.filter_eq_self.2 fun x hx => by rw [decide_eq_true_eq]; exact h x (List.mem_range.1 hx), List.length_range]
end Go.Proofs.YtepjlgilopfnpaaGreat
/- The layer: slices that are not nil; walks: covers, irreducible congruences, the reference's side. -/
namespace Go.Pv
open Go
attribute [local semireducible] Go.Pv.Goal Go.Pv.Ops Go.Pv.PStep Go.Pv.EStep Go.Pv.KRets Go.Pv.PCalls Go.Pv.OpsG Go.Pv.KR
section
variable {P : Program} {o : Oper} {S : St} {ev : Operand → PV} {hp : List HO}
theorem neqnil_run {t e : TypeId} {s by_ : Nat} (ht : SlT P t e s by_) {x y : Operand} (a : Option Addr) (n c : Nat) (w : World) : (do eqGuard .neq t x y (.slice a n c) (.slice none 0 0); binOp .neq t (.slice a n c) (.slice none 0 0) : Sem Value).run P w = .ok (.bool (!a.isNone)) w := by
 have h := run_neq_slice_nil (P := P) (w := w) t e a n c ht.hu
 simp [go_sem, h]
theorem ps_neqnil_v {t e : TypeId} {s by_ : Nat} [ht : SlT P t e s by_] {rt : TypeId} {x y : Operand} (ho : o.op = .binOp .neq t x y rt) (h1 : ev x = nilV) (h2 : ev y = nilV) : PStep P o ev hp (B false) :=
 ps_bin ho h1 h2 fun w => neqnil_run ht none 0 0 w
theorem ps_neqnil_ne {t e : TypeId} {s by_ : Nat} [ht : SlT P t e s by_] {rt : TypeId} {x y : Operand} {s' : Nat} {nn : Option Bool} {l : List PV} (ho : o.op = .binOp .neq t x y rt) (h1 : view hp (ev x) = .sl s' nn l) (h2 : ev y = nilV) (hl : l ≠ []) : PStep P o ev hp (B true) :=
 .of_run fun w0 g ρ w av hb hx => by
  have e1 := hb.view (hx x (by simp [ho, Op.operands]))
  have e2 := val_of (hx y (by simp [ho, Op.operands])) h2
  rw [h1] at e1
  have key : ∃ a n c, av x = .slice a n c ∧ a.isNone = false := by
   rcases VR.sl_inv e1 with ⟨ea, h', hn⟩ | ⟨a, cap, ea, h', hn⟩ | ⟨b', off, cap, cc, cs, ea, -⟩
   · exact absurd h' hl
   · exact absurd h' hl
   · exact ⟨_, _, _, ea, rfl⟩
  obtain ⟨a, n, c, ea, hab⟩ := key
  refine ⟨.bool true, ?_, .of_VR (.val _)⟩
  have h := neqnil_run (P := P) ht (x := x) (y := y) a n c w
  simp only [execOp, ho, ea, e2]
  rw [Sem.run_bind, h, hab]; rfl
end
end Go.Pv
/- Walks: homomorphisms, kernels and images, the program's side. -/
namespace Go.Proofs.YtepjlgilopfnpaaGreat
open Go Go.Pv Go.Proofs
set_option maxHeartbeats 32000000
set_option maxRecDepth 100000

def tyL (A : List OpD) : List Int := A.map fun f => f.ar
theorem tyL_take {A : List OpD} {i : Nat} (h : i < A.length) : tyL (A.take (i + 1)) = tyL (A.take i) ++ [(A.getD i default).ar] := by unfold tyL; rw [take_snoc default h, List.map_append]; rfl
theorem tyL_quo (n : Nat) (p : List Int) (ops : List OpD) : tyL (quoL n p ops) = tyL ops := by unfold tyL quoL; rw [List.map_map]; rfl
theorem ityp_c (n : Int) (A : List OpD) (hl : A.length ≤ 1048576) : PCalls Tryz.prog 182 [algP n A] (ints (tyL A)) := by
 refine pcalls1 Tryz.func182 rfl Tryz.ntmps182 rfl ?_
 refine wF ?_
 repeat' (first
| refine wO ?_
| (refine o_go rfl ?_; (first
| refine wS ?_
| refine p_e rfl (e_lit0 rfl zd) ?_
| refine p_p (ps_box rfl rfl) ?_); refine ⟨_, aB, ?_⟩))
 refine g_loopF (α := Nat) [6] (fun i => [(3, .hp 0), (10, I (i : Int))]) (fun i => [.arr false 1 3 ((tyL (A.take i)).map I)]) (fun i => i ≤ A.length) (fun i => A.length - i) 0 aH (Nat.zero_le _) ⟨rfl, rfl, trivial⟩ rfl ?_
 rintro i hi
 refine wH ?_
 have hll : ((tyL (A.take i)).map I).length = i := by simp [tyL]; omega
 by_cases hil : i < A.length
 · have hq := opsK_at hil
   have hsn := tyL_take hil
   repeat' (first
| refine wO ?_
| (refine o_go rfl ?_; (first
| refine p_p (zN rfl rfl rfl zz hq ze) ?_
| refine p_e zk (e_append rfl rfl rfl rfl rfl rfl (one_one rfl) rfl (by rw [hll, n_len_c, n_len_n]; omega) (by rw [hll, n_len_c, n_len_n]; omega)) ?_
| refine wS ?_
| refine p_p (ps_load_agg rfl rfl aK) ?_
| refine p_e rfl (zO rfl rfl rfl rfl aK rfl rfl rfl) ?_
| refine p_e rfl (e_alloc rfl) ?_
| refine p_p (ps_lit1 rfl rfl (by rfl) (by rfl)) ?_); refine ⟨_, aB, ?_⟩)
| (refine zK rfl ?_ ?_ <;> intro hc <;> try omega)
| refine wE ?_)
   all_goals try (exfalso; omega)
   exact zT (i + 1) (by omega) (by omega) aI ⟨rfl, rfl, trivial⟩ (zB (by rw [hsn, List.map_append]; rfl) (zM _))
 · rw [List.take_of_length_le (by omega)]
   repeat' (first
| refine wO ?_
| (refine o_go rfl ?_; (first
| refine wS ?_); refine ⟨_, aB, ?_⟩)
| (refine zK rfl ?_ ?_ <;> intro hc <;> try omega)
| refine kr1 ?_
| refine krS rfl ?_
| refine wE ?_)
   all_goals first | rfl | (exfalso; omega)
def alkB (n : Int) (A : List OpD) (m : Int) (B : List OpD) : Bool := algOk n A && (algOk m B && decide (tyL A = tyL B))
theorem istp_c (n m : Int) (A B : List OpD) (hA : szOk A) (hB : szOk B) : PCalls Tryz.prog 151 [algP n A, algP m B] (.tup [Go.Pv.B (alkB n A m B), Go.Pv.B (algOk n A && algOk m B)]) := by
 refine pcalls2 Tryz.func151 rfl Tryz.ntmps151 rfl ?_
 refine wF ?_
 have h1 := igood_c n A hA
 have h2 := igood_c m B hB
 have h3 := ityp_c n A hA.1
 have h4 := ityp_c m B hB.1
 have h5 := gisame_c (tyL A) (tyL B) (by unfold tyL; rw [List.length_map]; exact hA.1)
 unfold alkB
 generalize decide (tyL A = tyL B) = e at *
 cases hg : algOk n A with
 | false =>
  rw [hg] at h1
  repeat' (first
| refine wO ?_
| (refine o_go rfl ?_; (first
| refine p_p (zG rfl rfl aD (h1)) ?_
| refine wS ?_
| refine p_p (ps_load_agg rfl rfl aK) ?_
| refine p_p (ps_box rfl rfl) ?_); refine ⟨_, aB, ?_⟩)
| (refine o_s rfl ?_; refine ⟨_, aB, ?_⟩)
| refine kr2 ?_ ?_
| refine krB rfl ?_
| refine wE ?_)
  all_goals rfl
 | true =>
  rw [hg] at h1
  cases hk : algOk m B with
  | false =>
   rw [hk] at h2
   repeat' (first
| refine wO ?_
| (refine o_go rfl ?_; (first
| refine p_p (zG rfl rfl aD (h1)) ?_
| refine p_p (zG rfl rfl aD (h2)) ?_
| refine wS ?_
| refine p_p (ps_load_agg rfl rfl aK) ?_
| refine p_p (ps_box rfl rfl) ?_); refine ⟨_, aB, ?_⟩)
| refine kr2 ?_ ?_
| refine krB rfl ?_
| refine wE ?_)
   all_goals rfl
  | true =>
   rw [hk] at h2
   repeat' (first
| refine wO ?_
| refine zP zk zk ?_
| (refine o_go rfl ?_; (first
| refine p_p (zG rfl rfl aD (h1)) ?_
| refine p_p (zG rfl rfl aD (h2)) ?_
| refine p_p (zG rfl rfl aD (h3)) ?_
| refine p_p (zG rfl rfl aD (h4)) ?_
| refine p_p (zG rfl rfl aD (h5)) ?_
| refine wS ?_
| refine p_p (ps_load_agg rfl rfl aK) ?_
| refine p_p (ps_box rfl rfl) ?_); refine ⟨_, aB, ?_⟩)
| refine kr2 ?_ ?_
| refine krB rfl ?_
| refine wE ?_)
   all_goals rfl
theorem ialk_c (n m : Int) (A B : List OpD) (hA : szOk A) (hB : szOk B) : PCalls Tryz.prog 97 [algP n A, algP m B] (Go.Pv.B (alkB n A m B)) := by
 refine pcalls1 Tryz.func97 rfl Tryz.ntmps97 rfl ?_
 refine wF ?_
 have h1 := istp_c n m A B hA hB
 have hab : (algOk n A && algOk m B) = false → alkB n A m B = false := fun h => by
  unfold alkB
  rw [← Bool.and_assoc, h, Bool.false_and]
 cases hb : (algOk n A && algOk m B) with
 | false =>
  rw [hab hb] at h1 ⊢
  rw [hb] at h1
  repeat' (first
| refine wO ?_
| (refine o_go rfl ?_; (first
| refine p_p (zG rfl rfl aD (h1)) ?_
| refine wS ?_
| refine p_p (ps_load_agg rfl rfl aK) ?_
| refine p_p (ps_box rfl rfl) ?_); refine ⟨_, aB, ?_⟩)
| (refine o_s rfl ?_; refine ⟨_, aB, ?_⟩)
| refine kr1 ?_
| refine krB rfl ?_
| refine wE ?_)
  all_goals rfl
 | true =>
  rw [hb] at h1
  generalize alkB n A m B = e at *
  repeat' (first
| refine wO ?_
| (refine o_go rfl ?_; (first
| refine p_p (zG rfl rfl aD (h1)) ?_
| refine wS ?_
| refine p_p (ps_load_agg rfl rfl aK) ?_
| refine p_p (ps_box rfl rfl) ?_); refine ⟨_, aB, ?_⟩)
| refine kr1 ?_
| refine krB rfl ?_
| refine wE ?_)
  all_goals rfl
theorem iaa_c (n m : Int) (A B : List OpD) (hA : szOk A) (hB : szOk B) : PCalls Tryz.prog 45 [algP n A, algP m B] (Go.Pv.B (alkB n A m B)) := by
 refine pcalls1 Tryz.func45 rfl Tryz.ntmps45 rfl ?_
 refine wF ?_
 have h1 := igood_c n A hA
 have h2 := igood_c m B hB
 have h3 := ialk_c n m A B hA hB
 cases hg : algOk n A with
 | false =>
  have e : alkB n A m B = false := by unfold alkB; rw [hg]; rfl
  rw [hg] at h1
  rw [e]
  repeat' (first
| refine wO ?_
| (refine o_go rfl ?_; (first
| refine p_p (zG rfl rfl aD (h1)) ?_
| refine wS ?_
| refine p_p (ps_load_agg rfl rfl aK) ?_
| refine p_p (ps_box rfl rfl) ?_); refine ⟨_, aB, ?_⟩)
| (refine o_s rfl ?_; refine ⟨_, aB, ?_⟩)
| refine kr1 ?_
| refine krB rfl ?_
| refine wE ?_)
  all_goals rfl
 | true =>
  rw [hg] at h1
  cases hk : algOk m B with
  | false =>
   have e : alkB n A m B = false := by unfold alkB; rw [hk, Bool.false_and, Bool.and_false]
   rw [hk] at h2
   rw [e]
   repeat' (first
| refine wO ?_
| (refine o_go rfl ?_; (first
| refine p_p (zG rfl rfl aD (h1)) ?_
| refine p_p (zG rfl rfl aD (h2)) ?_
| refine wS ?_
| refine p_p (ps_load_agg rfl rfl aK) ?_
| refine p_p (ps_box rfl rfl) ?_); refine ⟨_, aB, ?_⟩)
| (refine o_s rfl ?_; refine ⟨_, aB, ?_⟩)
| refine kr1 ?_
| refine krB rfl ?_
| refine wE ?_)
   all_goals rfl
  | true =>
   rw [hk] at h2
   generalize alkB n A m B = e at *
   repeat' (first
| refine wO ?_
| (refine o_go rfl ?_; (first
| refine p_p (zG rfl rfl aD (h1)) ?_
| refine p_p (zG rfl rfl aD (h2)) ?_
| refine p_p (zG rfl rfl aD (h3)) ?_
| refine wS ?_
| refine p_p (ps_load_agg rfl rfl aK) ?_
| refine p_p (ps_box rfl rfl) ?_); refine ⟨_, aB, ?_⟩)
| refine kr1 ?_
| refine krB rfl ?_
| refine wE ?_)
   all_goals rfl
theorem alkB_facts {n m : Int} {A B : List OpD} (h : alkB n A m B = true) : ∃ a b : Nat, n = a ∧ m = b ∧ 0 < a ∧ a ≤ 8 ∧ 0 < b ∧ b ≤ 8 ∧ A.length ≤ 4 ∧ opsIn a A ∧ opsIn b B ∧ sameT A B ∧ algOk (a : Int) A = true ∧ algOk (b : Int) B = true := by
 unfold alkB at h
 simp only [Bool.and_eq_true, decide_eq_true_eq] at h
 obtain ⟨h1, h2, h3⟩ := h
 obtain ⟨a, rfl, a0, a8, a4, ao⟩ := algOk_facts h1
 obtain ⟨b, rfl, b0, b8, b4, bo⟩ := algOk_facts h2
 exact ⟨a, b, rfl, rfl, a0, a8, b0, b8, a4, ao, bo, h3, h1, h2⟩
theorem mapI_step {n m : Nat} {g : Nat → Nat} {a k i' at_ s t : Nat} (hk : k < a) (h : at_ + mapI n m g (a - k) i' * s = t) : at_ + g (i' % n) * s + mapI n m g (a - (k + 1)) (i' / n) * (s * m) = t := by
 rw [show a - k = (a - (k + 1)) + 1 by omega] at h
 have h : at_ + (mapI n m g (a - (k + 1)) (i' / n) * m + g (i' % n)) * s = t := h
 rw [Nat.add_mul, Nat.mul_assoc, Nat.mul_comm m s] at h
 omega
end Go.Proofs.YtepjlgilopfnpaaGreat
