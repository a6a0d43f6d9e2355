/- Plain: lists that are partitions; translated pairs in order. -/
import Derived.Laws.Small
import Derived.Test.YtkdagmbgjddopaaJKc
import Derived.Test.YtkdagmbgjddopaaJZb
import Derived.Test.YtkdagmbgjddopaaJTy
import Derived.Test.YtkdagmbgjddopaaJPq
import Derived.Test.YtkdagmbgjddopaaJSt
import Derived.Test.YtkdagmbgjddopaaJPr
import Derived.Test.YtkdagmbgjddopaaJGf
namespace Go.Proofs.Ytkdagmbgjddopaa
open Go Go.Pv Go.Proofs

def ptX (p : List Int) (x : Nat) : Bool := decide (0 ≤ p.getD x 0) && (decide (p.getD x 0 ≤ (x : Int)) && decide (p.getD (p.getD x 0).toNat 0 = p.getD x 0))
def ptB (n : Nat) (p : List Int) : Bool := decide (p.length = n) && (List.range n).all (ptX p)
theorem ptX_iff {p : List Int} {x : Nat} : ptX p x = true ↔ 0 ≤ p.getD x 0 ∧ p.getD x 0 ≤ (x : Int) ∧ p.getD (p.getD x 0).toNat 0 = p.getD x 0 := by
  unfold ptX; simp only [Bool.and_eq_true, decide_eq_true_eq]
theorem ptB_iff {n : Nat} {p : List Int} : ptB n p = true ↔ Pt n p := by
  unfold ptB
  rw [Bool.and_eq_true, decide_eq_true_iff, List.all_eq_true]
  constructor
  · rintro ⟨h1, h2⟩
    have h := fun x (hx : x < n) => ptX_iff.1 (h2 x (List.mem_range.2 hx))
    refine ⟨h1, fun x hx => (h x hx).1, fun x hx => ?_, fun x hx => ?_⟩
    · have := h x hx; unfold bk; omega
    · have := (h x hx).2.2; unfold bk; rw [this]
  · intro h
    refine ⟨h.len, fun x hx => ptX_iff.2 ?_⟩
    have hx := List.mem_range.1 hx
    refine ⟨h.nn x hx, ?_, ?_⟩
    · have := h.le x hx; rw [h.val hx]; omega
    · have := h.id x hx
      rw [h.val hx, Int.toNat_natCast, h.val (h.lt hx), this]
noncomputable def trB (n : Nat) (ops : List OpD) (x y s t : Nat) : Bool := @decide (TrP n ops x y s t) (Classical.propDecidable _)
theorem trB_iff {n : Nat} {ops : List OpD} {x y s t : Nat} : trB n ops x y s t = true ↔ TrP n ops x y s t := by unfold trB; exact @decide_eq_true_iff _ (Classical.propDecidable _)
theorem trB_symm {n : Nat} {ops : List OpD} {x y : Nat} (s t : Nat) : trB n ops x y s t = trB n ops x y t s := by
  rw [Bool.eq_iff_iff, trB_iff, trB_iff]; exact ⟨.sym, .sym⟩
noncomputable def trK (n : Nat) (ops : List OpD) (x y k : Nat) : List (Nat × Nat) := ((List.range k).filter fun i => decide (i / n < i % n) && trB n ops x y (i / n) (i % n)).map fun i => (i / n, i % n)
theorem trK_succ {n : Nat} {ops : List OpD} {x y k : Nat} : trK n ops x y (k + 1) = trK n ops x y k ++ if (decide (k / n < k % n) && trB n ops x y (k / n) (k % n)) = true then [(k / n, k % n)] else [] := by
  unfold trK
  rw [List.range_succ, List.filter_append, List.map_append]
  congr 1
  rw [List.filter_cons]
  split <;> rfl
theorem trK_len {n : Nat} {ops : List OpD} {x y k : Nat} : (trK n ops x y k).length ≤ k := by
  unfold trK
  rw [List.length_map]
  exact Nat.le_trans (List.length_filter_le ..) (by simp)
theorem trK_mem {n : Nat} {ops : List OpD} {x y : Nat} {s t : Nat} (hs : s < n) (ht : t < n) (hlt : s < t) (h : TrP n ops x y s t) : (s, t) ∈ trK n ops x y (n * n) := by
  have hd : (s * n + t) / n = s := by rw [Nat.mul_comm, Nat.mul_add_div (by omega), Nat.div_eq_of_lt ht, Nat.add_zero]
  have hm : (s * n + t) % n = t := by rw [Nat.mul_comm, Nat.mul_add_mod, Nat.mod_eq_of_lt ht]
  refine List.mem_map.2 ⟨s * n + t, List.mem_filter.2 ⟨List.mem_range.2 ?_, ?_⟩, by rw [hd, hm]⟩
  · have : (s + 1) * n ≤ n * n := Nat.mul_le_mul_right _ hs
    rw [Nat.add_mul, Nat.one_mul] at this; omega
  · show (decide _ && _) = true
    rw [hd, hm, decide_eq_true hlt, trB_iff.2 h]; rfl
end Go.Proofs.Ytkdagmbgjddopaa
/- Walks: the reference's posets, lattices and their laws' helpers. -/

namespace Go.Proofs.Ytkdagmbgjddopaa
open Go Go.Pv Go.Proofs
abbrev gridI (t : List (List Int)) : HO := .grid 29 3 (t.map fun r => r.map I)
theorem idx_gridI {t : List (List Int)} {i : Nat} (h : i < t.length) : (t.map fun r => r.map I)[i]? = some ((t.getD i []).map I) := by simp [h]
end Go.Proofs.Ytkdagmbgjddopaa
/- Walks: the reference's lattice maps, points and chains. -/
namespace Go.Proofs.Ytkdagmbgjddopaa
open Go Go.Pv Go.Proofs
set_option maxHeartbeats 32000000
set_option maxRecDepth 100000
attribute [local bitvec_to_nat] St.put St.setObj St.ev killP killA killP1 killH mapHO renP renA ren1 killG killGA killG1 krowP krowA krow1 lendP lendA lend1 unv pinP pin1 elemsM viewM viewN viewV n_set_z n_set_s n_map_c n_map_n getD_z getD_s n_toNat n_cond_t n_cond_f n_len_c n_len_n n_app_c n_app_n n_take_s n_take_z n_drop_s n_drop_z n_get_z n_get_s view viewA view1 elems Nat.zero_add Nat.add_zero Bool.not_true Bool.not_false Nat.one_ne_zero Nat.mul_one

theorem elems_c (n : Nat) (l : List Int) (hn : n ≤ 1048576) (hl : l.length ≤ 1048576) : PCalls Try.prog 31 [I (n : Int), ints l] (B (inSizeB l (n : Int))) := by
  refine pcalls1 Try.func31 rfl Try.ntmps31 rfl ?_
  simp only [List.length_cons, List.length_nil, Nat.reduceAdd, Nat.reduceSub, List.replicate_succ, List.replicate_zero, List.cons_append, List.nil_append]
  repeat' (first
| refine g_seq ?_
| refine g_block ?_
| refine g_region ?_
| (refine o_go rfl ?_; (first
| refine p_p (ps_assign rfl) ?_); refine ⟨_, aA, ?_⟩)
| refine o_nil ?_)
  refine g_loopT (α := Nat) (fun k => [(5, I (k : Int))]) (fun _ => []) (fun k => k ≤ l.length ∧ (l.take k).all (fun x => !(decide (x < 0) || decide ((n : Int) ≤ x))) = true) (fun k => l.length - k) 0 aH ⟨by omega, rfl⟩ ⟨rfl, trivial⟩ rfl ?_
  rintro k ⟨hk, hall⟩
  dsimp only [setMany, List.set_cons_zero, List.set_cons_succ]
  repeat' (first
| refine g_seq ?_
| refine g_block ?_
| refine g_region ?_
| (refine o_go rfl ?_; (first
| refine p_p (ps_call rfl rfl aC (in_c _ _ _)) ?_
| refine p_p (ps_move rfl) ?_
| refine p_p (ps_assign rfl) ?_
| refine p_p (ps_load_cell rfl rfl) ?_
| refine p_p (ps_index rfl rfl rfl (by omega) aN (by exact rfl)) ?_
| refine p_p (ps_lenM rfl rfl rfl) ?_
| refine p_p (ps_lss rfl rfl rfl) ?_
| refine p_p (ps_add rfl rfl rfl aM) ?_
| refine p_p (ps_not rfl rfl) ?_
| refine p_p (ps_sub rfl rfl rfl aM) ?_); refine ⟨_, aA, ?_⟩)
| refine o_nil ?_
| (refine g_condD rfl (fun hc => ?_) (fun hc => ?_) <;> try (exfalso; omega))
| (refine g_condNB rfl (fun hc => ?_) (fun hc => ?_))
| refine kr1 ?_
| refine krB rfl ?_
| refine g_skip ?_
| refine g_exit ?_
| refine g_ret ?_)
  · refine Eq.symm (all_false_at (k := k) 0 (by omega) ?_)
    unfold inB at hc
    rw [← hc, Bool.eq_iff_iff]; simp; omega
  · refine k_round (k + 1) ⟨by omega, ?_⟩ (by omega) aI ⟨rfl, trivial⟩ (hpLe_nil _)
    unfold inB at hc
    rw [take_snoc 0 (by omega), all_snoc, hall, Bool.true_and, ← hc, Bool.eq_iff_iff]; simp; omega
  · rw [(take_full hk hc).1] at hall
    exact hall.symm
theorem own_R (l : List Int) (hl : l.length ≤ 1048576) : RCalls Try.prog 59 [ints l] (.arr true 1 3 (l.map I)) (.hp 0) := by
  refine pcallsR1 Try.func59 rfl Try.ntmps59 rfl ?_
  simp only [List.length_cons, List.length_nil, Nat.reduceAdd, Nat.reduceSub, List.replicate_succ, List.replicate_zero, List.cons_append, List.nil_append]
  repeat' (first
| refine g_seq ?_
| refine g_region ?_
| (refine o_go rfl ?_; (first
| refine p_p (ps_move rfl) ?_
| refine p_p (ps_assign rfl) ?_
| refine p_e rfl (e_lit0 rfl (by decide)) ?_
| refine p_e rfl (e_append rfl rfl rfl rfl rfl rfl (by first | exact one_one rfl | exact one_map (fun _ => rfl) _) rfl aU aU) ?_); refine ⟨_, aA, ?_⟩)
| refine o_nil ?_
| refine krr 0 rfl (HandOut.arr rfl ?_ aR)
| refine g_ret ?_)
  rfl
end Go.Proofs.Ytkdagmbgjddopaa
/- The layer: a literal of two that names objects, the greater of two numbers, a slice that is not nil. -/
namespace Go.Pv
open Go
attribute [local semireducible] Go.Pv.Goal Go.Pv.Ops Go.Pv.PStep Go.Pv.EStep Go.Pv.KRets Go.Pv.PCalls Go.Pv.OpsG Go.Pv.KR
section
variable {P : Program} {o : Oper} {S : St} {ev : Operand → PV} {hp : List HO}
theorem ps_max {x y : Operand} {tys : Array TypeId} {a b : Int} (ho : o.op = .call { callee := .builtin .max, args := #[x, y], argTypes := tys }) (h1 : ev x = I a) (h2 : ev y = I b) : PStep P o ev hp (I (if b > a then b else a)) :=
  .of_run fun w0 g ρ w av hb hx => by
    have e1 := val_of (hx x (by simp [ho, Op.operands, Call.operands])) h1
    have e2 := val_of (hx y (by simp [ho, Op.operands, Call.operands])) h2
    exact ⟨.int .i64 (if b > a then b else a), by simp [execOp, ho, resolve, invoke, builtin, e1, e2, run_max_int2, go_sem], .of_VR (.val _)⟩
end
end Go.Pv
/- Walks: the reference's sorted lists of lists, lists of bits, prime filters. -/
namespace Go.Proofs.Ytkdagmbgjddopaa
open Go Go.Pv Go.Proofs
set_option maxHeartbeats 32000000
set_option maxRecDepth 100000
attribute [local bitvec_to_nat] St.put St.setObj St.ev killP killA killP1 killH mapHO renP renA ren1 killG killGA killG1 krowP krowA krow1 lendP lendA lend1 unv pinP pin1 elemsM viewM viewN viewV n_set_z n_set_s n_map_c n_map_n getD_z getD_s n_toNat n_cond_t n_cond_f n_len_c n_len_n n_app_c n_app_n n_take_s n_take_z n_drop_s n_drop_z n_get_z n_get_s view viewA view1 elems Nat.zero_add Nat.add_zero Bool.not_true Bool.not_false Nat.one_ne_zero Nat.mul_one

theorem less5_c (s t : List Int) (he : s.length = t.length) (hs : s.length ≤ 1048576) : PCalls Try.prog 104 [ints s, ints t] (B (decide (cmpX s t < 0))) := by
  refine pcalls1 Try.func104 rfl Try.ntmps104 rfl ?_
  simp only [List.length_cons, List.length_nil, Nat.reduceAdd, Nat.reduceSub, List.replicate_succ, List.replicate_zero, List.cons_append, List.nil_append]
  repeat' (first
| refine g_seq ?_
| refine g_block ?_
| refine g_region ?_
| (refine o_go rfl ?_; (first
| refine p_p (ps_assign rfl) ?_); refine ⟨_, aA, ?_⟩)
| refine o_nil ?_)
  refine g_loopT (α := Nat) (fun i => [(5, I (i : Int))]) (fun _ => []) (fun i => i ≤ s.length ∧ cmpX (s.drop i) (t.drop i) = cmpX s t) (fun i => s.length - i) 0 aH ⟨Nat.zero_le _, rfl⟩ ⟨rfl, trivial⟩ rfl ?_
  rintro i ⟨hi, hcm⟩
  dsimp only [setMany, List.set_cons_zero, List.set_cons_succ]
  by_cases hin : i < s.length
  · rw [drop_cons' 0 hin, drop_cons' 0 (show i < t.length by omega)] at hcm
    simp only [cmpX] at hcm
    repeat' (first
| refine g_seq ?_
| refine g_block ?_
| refine g_region ?_
| refine g_region_draw (by kernel_rfl) (by kernel_rfl) ?_
| (refine o_go rfl ?_; (first
| refine p_p (ps_move rfl) ?_
| refine p_p (ps_assign rfl) ?_
| refine p_p (ps_load_cell rfl rfl) ?_
| refine p_p (ps_index rfl rfl rfl (by omega) aN (by exact rfl)) ?_
| refine p_p (ps_lenM rfl rfl rfl) ?_
| refine p_p (ps_lss rfl rfl rfl) ?_
| refine p_p (ps_add rfl rfl rfl aM) ?_
| refine p_p (ps_neq rfl rfl rfl) ?_); refine ⟨_, aA, ?_⟩)
| refine o_nil ?_
| (refine g_condN rfl (fun hc => ?_) (fun hc => ?_) <;> try (exfalso; omega))
| (refine g_condD rfl (fun hc => ?_) (fun hc => ?_) <;> try (exfalso; omega))
| refine kr1 ?_
| refine krB rfl ?_
| refine g_skip ?_
| refine g_ret ?_)
    · rw [if_neg hc] at hcm
      rw [← hcm]
      by_cases h : s.getD i 0 < t.getD i 0
      · rw [if_pos h, decide_eq_true h]; rfl
      · rw [if_neg h, decide_eq_false h]; rfl
    · rw [if_pos hc] at hcm
      exact k_round (i + 1) ⟨by omega, hcm⟩ (by omega) aI ⟨rfl, trivial⟩ (hpLe_nil _)
  · rw [List.drop_of_length_le (by omega), List.drop_of_length_le (by omega)] at hcm
    repeat' (first
| refine g_seq ?_
| refine g_region ?_
| (refine o_go rfl ?_; (first
| refine p_p (ps_move rfl) ?_
| refine p_p (ps_assign rfl) ?_
| refine p_p (ps_lenM rfl rfl rfl) ?_
| refine p_p (ps_lss rfl rfl rfl) ?_); refine ⟨_, aA, ?_⟩)
| refine o_nil ?_
| (refine g_condD rfl (fun hc => ?_) (fun hc => ?_) <;> try (exfalso; omega))
| refine kr1 ?_
| refine krB rfl ?_
| refine g_exit ?_
| refine g_ret ?_)
    rw [← hcm]; rfl
end Go.Proofs.Ytkdagmbgjddopaa
/- Walks: the program's clones, whole. -/
namespace Go.Proofs.Ytkdagmbgjddopaa
open Go Go.Pv Go.Proofs
theorem entOk.small {n size : Nat} (hn : n ≤ 8) {E : List Ent} (h : ∀ c ∈ E, entOk n size c) : smallE E := fun c hc x hx => by
  have := (h c hc).2 x hx
  omega
end Go.Proofs.Ytkdagmbgjddopaa
/- Walks: the ternary term functions of a small algebra, on both sides, with what is known of them. -/
namespace Go.Proofs.Ytkdagmbgjddopaa
open Go Go.Pv Go.Proofs
structure CT (n : Nat) (ops : List OpD) (T : List (List Int)) : Prop where
  n0 : 0 < n
  n3 : n ≤ 3
  ops4 : ops.length ≤ 4
  op : ∀ f ∈ ops, opOk n f = true
  len0 : 0 < T.length
  len : T.length ≤ 60
  row : ∀ t ∈ T, t.length = n ^ 3 ∧ ∀ x ∈ t, 0 ≤ x ∧ x < (n : Int)
  nd : T.Nodup
  prj : ∀ p, p < 3 → prjL n 3 p ∈ T
  clo : closedT n (n ^ 3) ops T T.length
theorem CT.lenOk {n : Nat} {ops : List OpD} {T : List (List Int)} (h : CT n ops T) : lenOk T := ⟨by have := h.len; omega, fun t ht => by
  have h27 : n ^ 3 ≤ 27 := Nat.pow_le_pow_left h.n3 3
  rw [(h.row t ht).1]; omega⟩
end Go.Proofs.Ytkdagmbgjddopaa
