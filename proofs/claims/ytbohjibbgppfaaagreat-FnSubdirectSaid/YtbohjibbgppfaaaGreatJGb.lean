/- Algebras: arguments, places, compositions of tables on both sides. -/
import Derived.Laws.Small
import Derived.Test.YtbohjibbgppfaaaGreatJGa
import Derived.Test.YtbohjibbgppfaaaGreatJZb
import Derived.Test.YtbohjibbgppfaaaGreatJSq
import Derived.Test.YtbohjibbgppfaaaGreatJPq
import Derived.Test.YtbohjibbgppfaaaGreatJKd
import Derived.Test.YtbohjibbgppfaaaGreatJKg
set_option linter.unusedSectionVars false
namespace Go.Proofs.YtbohjibbgppfaaaGreat
open Go Go.Pv Go.Proofs
set_option maxHeartbeats 32000000
set_option maxRecDepth 100000
attribute [local bitvec_to_nat] St.put St.setObj St.ev killP killA killP1 killH mapHO renP renA ren1 killG killGA killG1 krowP krowA krow1 lendP lendA lend1 unv pinP pin1 elemsM viewM viewN viewV n_set_z n_set_s n_map_c n_map_n getD_z getD_s n_toNat n_cond_t n_cond_f n_len_c n_len_n n_app_c n_app_n n_take_s n_take_z n_drop_s n_drop_z n_get_z n_get_s view viewA view1 elems Nat.zero_add Nat.add_zero Bool.not_true Bool.not_false Nat.one_ne_zero Nat.mul_one

theorem gsame_c (xs ys : List Int) (hl : xs.length ≤ 9223372036854775807) : PCalls Tryz.prog 200 [ints xs, ints ys] (B (decide (xs = ys))) := by
  refine pcalls1 Tryz.func200 rfl Tryz.ntmps200 rfl ?_
  refine wF ?_
  repeat' (first
| refine wO ?_
| (refine o_go rfl ?_; (first
| refine wS ?_); refine ⟨_, aA, ?_⟩)
| (refine g_condN rfl (fun hc => ?_) (fun hc => ?_) <;> try (exfalso; omega))
| refine kr1 ?_
| refine krB rfl ?_
| refine wE ?_)
  · exact Eq.symm (decide_eq_false fun e => hc (by rw [e]))
  have hlen : xs.length = ys.length := by omega
  refine g_loopT (α := Nat) (fun k => [(5, I k)]) (fun _ => []) (fun k => k ≤ xs.length ∧ xs.take k = ys.take k) (fun k => xs.length - k) 0 aF ⟨Nat.zero_le _, by simp⟩ ⟨rfl, trivial⟩ rfl ?_
  clear hc
  rintro k ⟨hk, hno⟩
  dsimp only [zZ, List.set_cons_zero, List.set_cons_succ]
  repeat' (first
| refine wO ?_
| refine zP (by kernel_rfl) (by kernel_rfl) ?_
| (refine o_go rfl ?_; (first
| refine wS ?_
| refine p_p (zN rfl rfl rfl (by omega) aP (by exact rfl)) ?_); refine ⟨_, aA, ?_⟩)
| (refine g_condN rfl (fun hc => ?_) (fun hc => ?_) <;> try (exfalso; omega))
| (refine zK rfl (fun hc => ?_) (fun hc => ?_) <;> try (exfalso; omega))
| refine kr1 ?_
| refine krB rfl ?_
| refine wE ?_)
  · exact Eq.symm (decide_eq_false (eq_at (k := k) 0 hc))
  · refine zT (k + 1) ⟨by omega, ?_⟩ (by omega) aI ⟨rfl, trivial⟩ (zM _)
    rw [take_snoc 0 (by omega), take_snoc 0 (by omega), hno, hc]
  · rw [(take_full hk hc).1, show k = ys.length by omega, List.take_length] at hno
    exact Eq.symm (decide_eq_true hno)
theorem gisame_c (xs ys : List Int) (hl : xs.length ≤ 1048576) : PCalls Tryz.prog 243 [ints xs, ints ys] (B (decide (xs = ys))) := by
  refine pcalls1 Tryz.func243 rfl Tryz.ntmps243 rfl ?_
  refine wF ?_
  repeat' (first
| refine wO ?_
| (refine o_go rfl ?_; (first
| refine wS ?_); refine ⟨_, aA, ?_⟩)
| (refine g_condN rfl (fun hc => ?_) (fun hc => ?_) <;> try (exfalso; omega))
| refine kr1 ?_
| refine krB rfl ?_
| refine wE ?_)
  · exact Eq.symm (decide_eq_false fun e => hc (by rw [e]))
  have hlen : xs.length = ys.length := by omega
  refine g_loopT (α := Nat) (fun k => [(14, I k)]) (fun _ => []) (fun k => k ≤ xs.length ∧ xs.take k = ys.take k) (fun k => xs.length - k) 0 aF ⟨Nat.zero_le _, by simp⟩ ⟨rfl, trivial⟩ rfl ?_
  clear hc
  rintro k ⟨hk, hno⟩
  dsimp only [zZ, List.set_cons_zero, List.set_cons_succ]
  repeat' (first
| refine wO ?_
| (refine o_go rfl ?_; (first
| refine wS ?_
| refine p_p (zN rfl rfl rfl (by omega) aP (by exact rfl)) ?_); refine ⟨_, aA, ?_⟩)
| (refine g_condN rfl (fun hc => ?_) (fun hc => ?_) <;> try (exfalso; omega))
| (refine zK rfl (fun hc => ?_) (fun hc => ?_) <;> try (exfalso; omega))
| refine kr1 ?_
| refine krB rfl ?_
| refine wE ?_)
  · exact Eq.symm (decide_eq_false (eq_at (k := k) 0 fun e => hc e.symm))
  · refine zT (k + 1) ⟨by omega, ?_⟩ (by omega) aI ⟨rfl, trivial⟩ (zM _)
    rw [take_snoc 0 (by omega), take_snoc 0 (by omega), hno, hc]
  · rw [(take_full hk hc).1, show k = ys.length by omega, List.take_length] at hno
    exact Eq.symm (decide_eq_true hno)
theorem iargs_c (n k i : Nat) (hn : 0 < n) (hn2 : n ≤ 1000000) (hk : k ≤ 1000) (hi : i ≤ 1000000000) : PCalls Tryz.prog 161 [I (i : Int), I (k : Int), I (n : Int)] (ints (argsL n k i)) := by
  refine pcalls1 Tryz.func161 rfl Tryz.ntmps161 rfl ?_
  refine wF ?_
  repeat' (first
| refine wO ?_
| (refine o_go rfl ?_; (first
| refine wS ?_
| refine p_e rfl (e_make1 rfl rfl rfl (by omega) (by omega) (by omega) rfl rfl) ?_); refine ⟨_, aA, ?_⟩))
  refine g_loopT (α := Nat × Nat × List Int) (fun x => [(0, I (x.2.1 : Int)), (8, I ((x.1 : Int) - 1))]) (fun x => [.arr true 1 3 ((List.replicate x.1 (0 : Int) ++ x.2.2).map I)]) (fun x => x.1 ≤ k ∧ x.2.1 ≤ 1000000000 ∧ x.1 + x.2.2.length = k ∧ argsL n k i = argsL n x.1 x.2.1 ++ x.2.2) (fun x => x.1) (k, i, []) aF ⟨Nat.le_refl _, hi, rfl, by simp⟩ ⟨rfl, rfl, trivial⟩ (by simp) ?_
  rintro ⟨j, i', s⟩ ⟨h1, h2, h3, h4⟩
  dsimp only at h1 h2 h3 h4
  dsimp only [zZ, List.set_cons_zero, List.set_cons_succ]
  have hlen : ((List.replicate j (0 : Int) ++ s).map I).length = k := by simp; omega
  rcases j with _ | j
  · repeat' (first
| refine wO ?_
| (refine o_go rfl ?_; (first
| refine wS ?_); refine ⟨_, aA, ?_⟩)
| refine kr1 ?_
| refine krS rfl ?_
| refine wE ?_)
    all_goals try (exfalso; omega)
    rw [h4]; rfl
  · have hm : (i' : Int) % (n : Int) = ((i' % n : Nat) : Int) := by omega
    have hd : (i' : Int) / (n : Int) = ((i' / n : Nat) : Int) := by omega
    have hle := Nat.div_le_self i' n
    repeat' (first
| refine wO ?_
| (refine o_go rfl ?_; (first
| refine p_p (ps_rem rfl rfl rfl (by omega) (by omega)) ?_
| refine p_p (ps_quo rfl rfl rfl (by omega) (by omega) (by omega)) ?_
| refine p_e (by kernel_rfl) (e_store_arr rfl rfl rfl rfl (by omega) rfl rfl) ?_
| refine wS ?_); refine ⟨_, aA, ?_⟩)
| (refine zK rfl (fun hc => ?_) (fun hc => ?_) <;> try (exfalso; omega))
| refine wE ?_)
    all_goals try (exfalso; omega)
    refine zT (j, i' / n, ((i' % n : Nat) : Int) :: s) ⟨by dsimp only; omega, by dsimp only; omega, by simp only [List.length_cons]; omega, by rw [h4]; show argsL n j (i' / n) ++ [_] ++ s = _; rw [List.append_assoc]; rfl⟩ (by dsimp only; omega) aI ⟨vI hd, vI (by dsimp only; omega), trivial⟩ (zB ?_ (zM _))
    rw [hm, show (((j + 1 : Nat) : Int) - 1).toNat * 1 = j by omega, ← List.map_set, rep_set]
theorem mul_bound {a n b : Int} {N : Nat} (h0 : 0 ≤ a) (h1 : a ≤ 1000000000) (hn0 : 0 ≤ n) (hn : n ≤ 1000) (_hb : b = a * n) (_ : N = 0) : 0 ≤ a * n ∧ a * n ≤ 1000000000000 :=
  ⟨Int.mul_nonneg h0 hn0, by calc a * n ≤ 1000000000 * n := Int.mul_le_mul_of_nonneg_right h1 hn0
                              _ ≤ 1000000000 * 1000 := Int.mul_le_mul_of_nonneg_left hn (by decide)
                              _ = 1000000000000 := by decide⟩
theorem idxL_le {n : Nat} {l : List Int} (hn : n ≤ 1000) (hl : l.length ≤ 3) (h : ∀ x ∈ l, 0 ≤ x ∧ x < (n : Int)) : 0 ≤ idxL n l ∧ idxL n l ≤ 1000000000 := by
  obtain ⟨h1, h2⟩ := idxL_bound l h
  have := pow_le3 hn hl
  omega
theorem getD_at {l : List Int} {i : Nat} (h : i < l.length) : l.getD i 0 ∈ l := by
  rw [List.getD_eq_getElem?_getD, List.getElem?_eq_getElem h]; exact List.getElem_mem _
theorem index_c (n : Nat) (l : List Int) (hn : n ≤ 1000) (hl : l.length ≤ 3) (h : ∀ x ∈ l, 0 ≤ x ∧ x < (n : Int)) : PCalls Tryz.prog 102 [ints l, I (n : Int)] (I (idxL n l)) := by
  refine pcalls1 Tryz.func102 rfl Tryz.ntmps102 rfl ?_
  refine wF ?_
  repeat' (first
| refine wO ?_
| (refine o_go rfl ?_; (first
| refine wS ?_); refine ⟨_, aA, ?_⟩))
  refine g_loopT (α := Nat) (fun i => [(5, I (idxL n (l.take i))), (10, I (i : Int))]) (fun _ => []) (fun i => i ≤ l.length) (fun i => l.length - i) 0 aF (Nat.zero_le _) ⟨rfl, rfl, trivial⟩ rfl ?_
  rintro i hi
  dsimp only [zZ, List.set_cons_zero, List.set_cons_succ]
  have hb := idxL_le (l := l.take i) hn (by rw [List.length_take]; omega) (fun x hx => h x (List.mem_of_mem_take hx))
  by_cases hil : i < l.length
  · have hx := h _ (getD_at hil)
    have hm := mul_bound (n := (n : Int)) hb.1 hb.2 (by omega) (by omega) rfl (N := 0) rfl
    have hsuc : idxL n (l.take (i + 1)) = idxL n (l.take i) * n + l.getD i 0 := by rw [take_snoc 0 hil, idxL_snoc]
    generalize idxL n (l.take i) = a at *
    repeat' (first
| refine wO ?_
| (refine o_go rfl ?_; (first
| refine p_p (ps_mul rfl rfl rfl (by omega)) ?_
| refine wS ?_
| refine p_p (zN rfl rfl rfl (by omega) aP (by exact rfl)) ?_); refine ⟨_, aA, ?_⟩)
| (refine zK rfl (fun hc => ?_) (fun hc => ?_) <;> try (exfalso; omega))
| refine wE ?_)
    all_goals try (exfalso; omega)
    exact zT (i + 1) (by omega) (by omega) aI ⟨vI hsuc.symm, rfl, trivial⟩ (zM _)
  · repeat' (first
| refine wO ?_
| (refine o_go rfl ?_; (first
| refine wS ?_); refine ⟨_, aA, ?_⟩)
| (refine zK rfl (fun hc => ?_) (fun hc => ?_) <;> try (exfalso; omega))
| refine kr1 ?_
| refine krI rfl ?_
| refine wE ?_)
    all_goals try (exfalso; omega)
    rw [show i = l.length by omega, List.take_length]
def comL (f g : List Int) : List Int := f.map fun x => g.getD x.toNat 0
theorem compose_c (f g : List Int) (hf : f.length ≤ 1048576) (hg : g.length ≤ 1048576) (h : ∀ x ∈ f, 0 ≤ x ∧ x < (g.length : Int)) : PCalls Tryz.prog 117 [ints f, ints g] (ints (comL f g)) := by
  refine pcalls1 Tryz.func117 rfl Tryz.ntmps117 rfl ?_
  refine wF ?_
  repeat' (first
| refine wO ?_
| (refine o_go rfl ?_; (first
| refine wS ?_
| refine p_e rfl (e_make1 rfl rfl rfl (by omega) (by omega) (by omega) rfl rfl) ?_); refine ⟨_, aA, ?_⟩))
  refine g_loopT (α := Nat) (fun i => [(13, I (i : Int))]) (fun i => [.arr true 1 3 ((comL (f.take i) g ++ List.replicate (f.length - i) 0).map I)]) (fun i => i ≤ f.length) (fun i => f.length - i) 0 aF (Nat.zero_le _) ⟨rfl, trivial⟩ (by simp [comL]) ?_
  rintro i hi
  dsimp only [zZ, List.set_cons_zero, List.set_cons_succ]
  have hcl : (comL (f.take i) g).length = i := by simp [comL]; omega
  have hlen : ((comL (f.take i) g ++ List.replicate (f.length - i) 0).map I).length = f.length := by simp [hcl]; omega
  by_cases hil : i < f.length
  · have hx := h _ (getD_at hil)
    have hix : (g.map I)[(f.getD i 0).toNat]? = some (I (g.getD (f.getD i 0).toNat 0)) := idx_I (by omega)
    repeat' (first
| refine wO ?_
| (refine o_go rfl ?_; (first
| refine p_p (zN rfl rfl rfl (by omega) hix (by exact rfl)) ?_
| refine p_e (by kernel_rfl) (e_store_arr rfl rfl rfl rfl (by omega) rfl rfl) ?_
| refine wS ?_
| refine p_p (zN rfl rfl rfl (by omega) aP (by exact rfl)) ?_); refine ⟨_, aA, ?_⟩)
| (refine zK rfl (fun hc => ?_) (fun hc => ?_) <;> try (exfalso; omega))
| refine wE ?_)
    all_goals try (exfalso; omega)
    refine zT (i + 1) (by omega) (by omega) aI ⟨rfl, trivial⟩ (zB ?_ (zM _))
    rw [Nat.mul_one, ← List.map_set, List.set_append_right _ _ (by omega), hcl, Nat.sub_self, show f.length - i = (f.length - (i + 1)) + 1 by omega, List.replicate_succ]
    have : comL (f.take (i + 1)) g = comL (f.take i) g ++ [g.getD (f.getD i 0).toNat 0] := by rw [take_snoc 0 hil]; unfold comL; rw [List.map_append]; rfl
    rw [this, List.append_assoc]; rfl
  · repeat' (first
| refine wO ?_
| (refine o_go rfl ?_; (first
| refine wS ?_); refine ⟨_, aA, ?_⟩)
| (refine zK rfl (fun hc => ?_) (fun hc => ?_) <;> try (exfalso; omega))
| refine kr1 ?_
| refine krS rfl ?_
| refine wE ?_)
    all_goals try (exfalso; omega)
    rw [show i = f.length by omega, List.take_length, Nat.sub_self]
    simp
theorem drop_cons {α : Type} {l : List α} {i : Nat} (d : α) (h : i < l.length) : l.drop i = l.getD i d :: l.drop (i + 1) := by
  rw [List.drop_eq_getElem_cons h, List.getD_eq_getElem?_getD, List.getElem?_eq_getElem h]; rfl
def lenOk (T : List (List Int)) : Prop := T.length ≤ 1048576 ∧ ∀ t ∈ T, t.length ≤ 1048576
theorem lenOk.at {T : List (List Int)} (h : lenOk T) {i : Nat} (hi : i < T.length) : (T.getD i []).length ≤ 1048576 := by
  rw [List.getD_eq_getElem?_getD, List.getElem?_eq_getElem hi]; exact h.2 _ (List.getElem_mem _)
def prjL (n k place : Nat) : List Int := (List.range (n ^ k)).map fun i => (argsL n k i).getD place 0
theorem range_snoc {α : Type} (f : Nat → α) (i : Nat) : (List.range (i + 1)).map f = (List.range i).map f ++ [f i] := by rw [List.range_succ, List.map_append]; rfl
def rowAt (ts : List (List Int)) (i : Nat) : List Int := ts.map fun t => t.getD i 0
def cmpL (n : Int) (f : List Int) (ts : List (List Int)) (size : Nat) : List Int := (List.range size).map fun i => f.getD (idxL n (rowAt ts i)).toNat 0
def tabsOk (n size : Nat) (ts : List (List Int)) : Prop := ∀ t ∈ ts, t.length = size ∧ ∀ x ∈ t, 0 ≤ x ∧ x < (n : Int)
theorem tabsOk.row {n size i : Nat} {ts : List (List Int)} (h : tabsOk n size ts) (hi : i < size) : ∀ x ∈ rowAt ts i, 0 ≤ x ∧ x < (n : Int) := fun x hx => by
  obtain ⟨t, ht, rfl⟩ := List.mem_map.1 hx
  obtain ⟨h1, h2⟩ := h t ht
  exact h2 _ (getD_at (by omega))
end Go.Proofs.YtbohjibbgppfaaaGreat
/- Walks: the reference's lattice maps, points and chains. -/

namespace Go.Proofs.YtbohjibbgppfaaaGreat
open Go Go.Pv Go.Proofs
set_option maxHeartbeats 32000000
set_option maxRecDepth 100000
attribute [local bitvec_to_nat] St.put St.setObj St.ev killP killA killP1 killH mapHO renP renA ren1 killG killGA killG1 krowP krowA krow1 lendP lendA lend1 unv pinP pin1 elemsM viewM viewN viewV n_set_z n_set_s n_map_c n_map_n getD_z getD_s n_toNat n_cond_t n_cond_f n_len_c n_len_n n_app_c n_app_n n_take_s n_take_z n_drop_s n_drop_z n_get_z n_get_s view viewA view1 elems Nat.zero_add Nat.add_zero Bool.not_true Bool.not_false Nat.one_ne_zero Nat.mul_one
theorem own_R (l : List Int) (hl : l.length ≤ 1048576) : RCalls Tryz.prog 140 [ints l] (.arr true 1 3 (l.map I)) (.hp 0) := by
  refine pcallsR1 Tryz.func140 rfl Tryz.ntmps140 rfl ?_
  refine wF ?_
  repeat' (first
| refine wO ?_
| (refine o_go rfl ?_; (first
| refine wS ?_
| refine p_e rfl (e_lit0 rfl (by decide)) ?_
| refine p_e rfl (e_append rfl rfl rfl rfl rfl rfl (by first | exact one_one rfl | exact one_map (fun _ => rfl) _) rfl aU aU) ?_); refine ⟨_, aA, ?_⟩)
| refine krr 0 rfl (HandOut.arr rfl ?_ aT)
| refine wE ?_)
  rfl
end Go.Proofs.YtbohjibbgppfaaaGreat
/- Clones: found tables, round by round (plain). -/
namespace Go.Proofs.YtbohjibbgppfaaaGreat
open Go Go.Pv Go.Proofs

abbrev Stp := Int × List Int
abbrev Ent := List Int × Stp
def entOk (n size : Nat) (e : Ent) : Prop := e.1.length = size ∧ ∀ x ∈ e.1, 0 ≤ x ∧ x < (n : Int)
/-! ### One round after another -/
/-! ### The reference's rounds -/
def closedT (n size : Nat) (ops : List OpD) (T : List (List Int)) (b : Nat) : Prop := ∀ f ∈ ops, ∀ args : List Int, args.length = f.ar.toNat → (∀ x ∈ args, 0 ≤ x ∧ x < (b : Int)) → cmpL n f.tb (args.map fun x => T.getD x.toNat []) size ∈ T
end Go.Proofs.YtbohjibbgppfaaaGreat
/- Walks: the reference's clones. -/
namespace Go.Pv
theorem one_ag {c : List PV} (h : c.all PV.one = true) : ∀ q ∈ [PV.agg c], ∀ c', q.flat = some c' → c'.all PV.one = true := fun q hq c' hc => by
  simp only [List.mem_singleton] at hq
  subst hq
  simp only [PV.flat, Option.some.injEq] at hc
  subst hc
  exact h
end Go.Pv
namespace Go.Proofs.YtbohjibbgppfaaaGreat
open Go Go.Pv Go.Proofs
theorem idx_ints {T : List (List Int)} {i : Nat} (hi : i < T.length) : (T.map ints)[i]? = some (ints (T.getD i [])) := by
  rw [List.getElem?_map, List.getElem?_eq_getElem hi, List.getD_eq_getElem?_getD, List.getElem?_eq_getElem hi]; rfl
end Go.Proofs.YtbohjibbgppfaaaGreat
/- The layer: a slice of structs, each of a number and a row that the call owns. -/
namespace Go.Pv
open Go
attribute [local semireducible] Go.Pv.Goal Go.Pv.Ops Go.Pv.PStep Go.Pv.EStep Go.Pv.KRets Go.Pv.PCalls Go.Pv.OpsG Go.Pv.LCalls
def killR1 (k : Nat) : PV → PV
  | .gat _ _ _ => .any
  | .gr _ _ => .any
  | p => killP1 k p
def killRA (k : Nat) : PV → PV
  | .agg l => .agg (l.map (killR1 k))
  | p => killR1 k p
def killR (k : Nat) : PV → PV
  | .tup l => .tup (l.map (killRA k))
  | .agg l => .agg (l.map (killR1 k))
  | p => killR1 k p
section
variable {P : Program} {o : Oper} {S : St}
theorem e_store_sg0 {t : TypeId} [ht : CellT P t] {x v : Operand} {id i k : Nat} {e1 e2 : TypeId} {n : Nat} {rows : List (List PV)} {r : List PV} {h0 p : PV} (ho : o.op = .store t x v) (hd : o.dst = none) (h1 : S.ev x = .hat id k) (hh : S.hp[id]? = some (.sg e1 e2 n rows))
    (hk : k = i * 2) (hr : rows[i]? = some (h0 :: r)) (h2 : view S.hp (S.ev v) = p) (hp1 : p.one = true) : EStep P o S ⟨S.fr, S.hp.set id (.sg e1 e2 n (rows.set i (p :: r)))⟩ := by
  subst hk
  have hi : i < rows.length := (List.getElem?_eq_some_iff.1 hr).1
  have hrows : ∀ (k : Nat) (r' : List PV), (rows.set i (p :: r))[k]? = some r' → ∃ r'' : List PV, rows[k]? = some r'' ∧ r''.tail.length = r'.tail.length := fun k r' hk => by
    rw [List.getElem?_set] at hk
    split at hk
    · rename_i e; subst e
      simp only [Option.some.injEq] at hk
      subst hk
      exact ⟨_, hr, rfl⟩
    · exact ⟨r', hk, rfl⟩
  refine EStep.of_store ht.hs ho hd hh (fun m s e l h => by cases h) (fun e1' e2' rows' h => by cases h) (fun e1 e2 n rows h => by cases h) (fun L b h => by simpa [foot] using h) (fun w0 g ρ a w hrel _ => ?_) (fun l h => by cases h) (fun e1' e2' n' rows' h => by cases h; exact ⟨_, _, _, rfl, by simp, hrows⟩)
  obtain ⟨cur, rc, og⟩ := hrel.base.own id _ hh
  have ea : a.eval x = .pointer (some ⟨(ρ id).blk, i * 2, none⟩) := by have := hrel.ev x; rw [h1] at this; exact this
  have ev := hrel.base.view (hrel.ev v)
  rw [h2] at ev
  obtain ⟨hc1, hc2⟩ := ev.oneCell hp1
  have hcap := og.hcap
  refine ⟨_, i * 2, cur, e1, ea, .inl rfl, og.hB, og.hw, og.hg, by rw [og.hsz]; omega, by rw [hc1]; rfl, by rw [hc1]; simpa using hc2, fun cur' hs' hk' => ?_⟩
  refine ⟨cur', rc, og.hB, setRow_heap w _ _ _ _ _ og.hw, hs'.trans og.hsz, by simpa using og.hcap, og.hmax, fun k hk => og.hB' k (by simpa using hk), fun k r' hk => ?_, fun k r' hk => ?_, fun k r' m q hk hm => ?_, og.hg, fun k o hk => og.hg' k o (by simpa using hk), fun k hk => og.hne k (by simpa using hk), fun k m hk hm => og.hinj k m (by simpa using hk) (by simpa using hm)⟩
  · have hkl : k < rows.length := by simpa using (List.getElem?_eq_some_iff.1 hk).1
    rw [hk' (k * 2 + 1), if_neg (by omega)]
    have key : ∃ r'', rows[k]? = some r'' ∧ r''.tail = r'.tail := by
      by_cases e : k = i
      · subst e
        rw [List.getElem?_set_self hi] at hk
        cases hk
        exact ⟨_, hr, rfl⟩
      · rw [List.getElem?_set_ne (Ne.symm e)] at hk
        exact ⟨r', hk, rfl⟩
    obtain ⟨r'', hk2, het⟩ := key
    obtain ⟨b1, b2, b3, b4⟩ := og.hrow k r'' hk2
    rw [het] at b1 b2
    exact ⟨b1, b2, by rw [setRow_other w _ _ _ (og.hne k hkl)]; exact b3, b4⟩
  · by_cases e : k = i
    · subst e
      rw [List.getElem?_set_self hi] at hk
      cases hk
      rw [hk', if_pos (by omega)]
      refine ⟨hp1, ?_⟩
      rw [hc1]
      simpa using ev
    · rw [List.getElem?_set_ne (Ne.symm e)] at hk
      rw [hk', if_neg (by omega)]
      exact og.hh k r' hk
  · by_cases e : k = i
    · subst e
      rw [List.getElem?_set_self hi] at hk
      cases hk
      exact og.hv k _ m q hr hm
    · rw [List.getElem?_set_ne (Ne.symm e)] at hk
      exact og.hv k r' m q hk hm

end

section
variable {P : Program} {o : Oper} {ev : Operand → PV} {hp : List HO}
theorem ps_len_sg {t e : TypeId} {s by_ : Nat} [ht : SlT P t e s by_] {x : Operand} {e1 e2 id n : Nat} {rows : List (List PV)} {tys : Array TypeId} (ho : o.op = .call { callee := .builtin .len, args := #[x], argTypes := tys }) (htys : tys = #[t])
    (h1 : ev x = .hp id) (hh : hp[id]? = some (.sg e1 e2 n rows)) : PStep P o ev hp (I (rows.length + n : Nat)) :=
  .of_run fun w0 g ρ w av hb hx => by
    have e1 := hx x (by simp [ho, Op.operands, Call.operands])
    subst htys
    rw [h1] at e1
    have ea := HpV.sg e1 _ _ _ _ hh
    exact ⟨.int .i64 (rows.length + n : Nat), by simp [execOp, ho, resolve, invoke, builtin, Builtin.len_, ea, run_underlying ht.hu, goInt, go_sem], .val _⟩
theorem ps_index_sg {t e : TypeId} {by_ : Nat} [ht : SlT P t e 2 by_] {x ix : Operand} {e1 e2 : TypeId} {n : Nat} {rows : List (List PV)} {i : Int} {id : Nat} (ho : o.op = .indexAddr t x ix) (h1 : ev x = .hp id)
    (hh : hp[id]? = some (.sg e1 e2 n rows)) (h2 : ev ix = I i) (h0 : 0 ≤ i) (hq : i.toNat < rows.length + n) : PStep P o ev hp (.hat id (i.toNat * 2)) :=
  .of_run fun w0 g ρ w av hb hx => by
    have e1 := hx x (by simp [ho, Op.operands])
    have e2 := val_of (hx ix (by simp [ho, Op.operands])) h2
    rw [h1] at e1
    have ea := HpV.sg e1 _ _ _ _ hh
    refine ⟨.pointer (some ⟨(ρ id).blk, i.toNat * 2, none⟩), ?_, rfl⟩
    have hi : i < (rows.length : Int) + (n : Int) := by omega
    simp [execOp, ho, ea, e2, Instr.indexAt, asIntOf, run_underlying ht.hu, ht.hs, h0, hi, Addr.add_n, go_sem]
theorem ps_load_sg {t : TypeId} [ht : CellT P t] {x : Operand} {id i k n : Nat} {e1 e2 : TypeId} {rows : List (List PV)} (ho : o.op = .load t x) (h1 : ev x = .hat id k) (hh : hp[id]? = some (.sg e1 e2 n rows)) (hk : k = i * 2 + 1) (hi : i < rows.length) : PStep P o ev hp (.gr id i) :=
  .of_run fun w0 g ρ w av hb hx => by
    subst hk
    have ea : av x = .pointer (some ⟨(ρ id).blk, i * 2 + 1, none⟩) := by have := hx x (by simp [ho, Op.operands]); rw [h1] at this; exact this
    obtain ⟨cur, rc, hown⟩ := hb.own id _ hh
    have hcap := hown.hcap
    have hc := own_load hown.hw (i := i * 2 + 1) (by rw [hown.hsz]; omega)
    refine ⟨cur.getD (i * 2 + 1) undef, ?_, (⟨⟨_, _, _, (hown.hrow i _ (List.getElem?_eq_getElem hi)).1⟩, fun e1' e2' rows' r hid hr => (by rw [hh] at hid; cases hid), fun e1' e2' k' rows' r hid hr => ?_⟩ : GrV _ _ _ _ _)⟩
    · simp only [execOp, ho, ea]
      refine run_value ?_
      unfold Instr.loadAt Instr.sureAddr loadVar
      simp only [Sem.run_bind, run_pure, Result.andThen, ht.ha]
      simp [load, Sem.run, hc]
    · rw [hh] at hid
      cases hid
      exact (hown.hrow i r hr).1
end
end Go.Pv
/- Plain: the congruences in their order by fineness are a lattice. -/
namespace Go.Proofs.YtbohjibbgppfaaaGreat
open Go Go.Pv Go.Proofs

def fiB (n : Nat) (p q : List Int) : Bool := (List.range n).all fun x => decide (q.getD (bk p x) 0 = q.getD x 0)
theorem fiB_iff {n : Nat} {p q : List Int} (hp : Pt n p) (hq : Pt n q) : fiB n p q = true ↔ Fi n p q := by
  unfold fiB Fi
  rw [List.all_eq_true]
  constructor
  · intro h x hx
    have := h x (List.mem_range.2 hx)
    rw [decide_eq_true_eq, hq.val (hp.lt hx), hq.val hx] at this
    exact Int.ofNat.inj this
  · intro h x hx
    have hx := List.mem_range.1 hx
    rw [decide_eq_true_eq, hq.val (hp.lt hx), hq.val hx, h x hx]
/-! ### Rows of a list for which no other one is beyond -/
theorem nd_inj {α : Type} {l : List α} (h : l.Nodup) {i j : Nat} (hi : i < l.length) (hj : j < l.length) (e : l[i] = l[j]) : i = j := by
  have hp := List.pairwise_iff_getElem.1 h
  rcases Nat.lt_trichotomy i j with hl | hl | hl
  · exact absurd e (hp i j hi hj hl)
  · exact hl
  · exact absurd e.symm (hp j i hj hi hl)
def minX (n : Nat) (W : List (List Int)) (i : Nat) : Bool := (List.range W.length).all fun k => k == i || !fiB n (W.getD k []) (W.getD i [])
def minL (n : Nat) (W : List (List Int)) : List (List Int) := ((List.range W.length).filter (minX n W)).map fun i => W.getD i []
def abvP (n : Nat) (V : List (List Int)) (p : List Int) : List (List Int) := V.filter fun q => fiB n p q && !decide (p = q)
def covP6 (n : Nat) (V : List (List Int)) (p : List Int) : List (List Int) := minL n (abvP n V p)
theorem range_getD {V : List (List Int)} : (List.range V.length).map (fun i => V.getD i []) = V := by
  refine List.ext_getElem (by simp) fun i h1 h2 => ?_
  rw [List.getElem_map, List.getElem_range, List.getD_eq_getElem?_getD, List.getElem?_eq_getElem h2]; rfl
theorem minL_mem {n : Nat} {W : List (List Int)} (hW : W.Nodup) {p : List Int} : p ∈ minL n W ↔ p ∈ W ∧ ∀ q ∈ W, q ≠ p → fiB n q p = false := by
  unfold minL
  rw [List.mem_map]
  constructor
  · rintro ⟨i, hi, rfl⟩
    obtain ⟨hi, hm⟩ := List.mem_filter.1 hi
    have hi := List.mem_range.1 hi
    have hp : W.getD i [] = W[i] := by rw [List.getD_eq_getElem?_getD, List.getElem?_eq_getElem hi]; rfl
    refine ⟨by rw [hp]; exact List.getElem_mem _, fun q hq hne => ?_⟩
    obtain ⟨k, hk, rfl⟩ := List.getElem_of_mem hq
    have := List.all_eq_true.1 hm k (List.mem_range.2 hk)
    have hkp : W.getD k [] = W[k] := by rw [List.getD_eq_getElem?_getD, List.getElem?_eq_getElem hk]; rfl
    rw [hkp] at this
    rw [Bool.or_eq_true, beq_iff_eq, Bool.not_eq_true'] at this
    rcases this with rfl | h
    · exact absurd hp.symm hne
    · exact h
  · rintro ⟨hp, hno⟩
    obtain ⟨i, hi, rfl⟩ := List.getElem_of_mem hp
    have hpi : W.getD i [] = W[i] := by rw [List.getD_eq_getElem?_getD, List.getElem?_eq_getElem hi]; rfl
    refine ⟨i, List.mem_filter.2 ⟨List.mem_range.2 hi, List.all_eq_true.2 fun k hk => ?_⟩, hpi⟩
    have hk := List.mem_range.1 hk
    have hpk : W.getD k [] = W[k] := by rw [List.getD_eq_getElem?_getD, List.getElem?_eq_getElem hk]; rfl
    rw [Bool.or_eq_true, beq_iff_eq, Bool.not_eq_true']
    by_cases e : k = i
    · exact .inl e
    · refine .inr ?_
      rw [hpk, hpi]
      exact hno _ (List.getElem_mem _) fun he => e (nd_inj hW _ _ he)
theorem minL_sub (n : Nat) (W : List (List Int)) : (minL n W).Sublist W := by
  unfold minL
  conv => rhs; rw [← range_getD (V := W)]
  exact (List.filter_sublist).map _
end Go.Proofs.YtbohjibbgppfaaaGreat
