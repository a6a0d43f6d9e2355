/- Algebras: arguments, places, compositions of tables on both sides. -/
import Derived.Test.YtembaiccchgllaaGreatJGa
namespace Go.Proofs.YtembaiccchgllaaGreat
open Go Go.Pv Go.Proofs
set_option maxHeartbeats 32000000
set_option maxRecDepth 100000
attribute [local bitvec_to_nat] St.put St.setObj St.ev killP killA killP1 killH mapHO renP renA ren1 killG killGA killG1 krowP krowA krow1 lendP lendA lend1 unv pinP pin1 elemsM viewM viewN viewV n_set_z n_set_s n_map_c n_map_n getD_z getD_s n_toNat n_cond_t n_cond_f n_len_c n_len_n n_app_c n_app_n n_take_s n_take_z n_drop_s n_drop_z n_get_z n_get_s view viewA view1 elems Nat.zero_add Nat.add_zero Bool.not_true Bool.not_false Nat.one_ne_zero Nat.mul_one

theorem gsame_c (xs ys : List Int) (hl : xs.length ≤ 9223372036854775807) : PCalls Tryz.prog 257 [ints xs, ints ys] (B (decide (xs = ys))) := by
  refine pcalls1 Tryz.func257 rfl Tryz.ntmps257 rfl ?_
  simp only [List.length_cons, List.length_nil, Nat.reduceAdd, Nat.reduceSub, List.replicate_succ, List.replicate_zero, List.cons_append, List.nil_append]
  repeat' (first
| refine g_seq ?_
| refine zJ ?_
| refine zC ?_
| (refine o_go rfl ?_; (first
| refine p_p (zD rfl) ?_
| refine p_p (zA rfl) ?_
| refine p_p (zU rfl rfl rfl) ?_
| refine p_p (ps_neq rfl rfl rfl) ?_); refine ⟨_, aB, ?_⟩)
| refine o_nil ?_
| (refine g_condN rfl (fun hc => ?_) (fun hc => ?_) <;> try (exfalso; omega))
| refine kr1 ?_
| refine krB rfl ?_
| refine zR ?_
| refine g_ret ?_)
  · exact Eq.symm (decide_eq_false fun e => hc (by rw [e]))
  have hlen : xs.length = ys.length := by omega
  refine g_loopT (α := Nat) (fun k => [(5, I k)]) (fun _ => []) (fun k => k ≤ xs.length ∧ xs.take k = ys.take k) (fun k => xs.length - k) 0 aH ⟨Nat.zero_le _, by simp⟩ ⟨rfl, trivial⟩ rfl ?_
  clear hc
  rintro k ⟨hk, hno⟩
  dsimp only [zZ, List.set_cons_zero, List.set_cons_succ]
  repeat' (first
| refine g_seq ?_
| refine zJ ?_
| refine zC ?_
| refine zP (by kernel_rfl) (by kernel_rfl) ?_
| (refine o_go rfl ?_; (first
| refine p_p (zD rfl) ?_
| refine p_p (zA rfl) ?_
| refine p_p (zF rfl rfl) ?_
| refine p_p (zN rfl rfl rfl (by omega) aP (by exact rfl)) ?_
| refine p_p (zU rfl rfl rfl) ?_
| refine p_p (zS rfl rfl rfl) ?_
| refine p_p (ps_add rfl rfl rfl aO) ?_
| refine p_p (ps_neq rfl rfl rfl) ?_); refine ⟨_, aB, ?_⟩)
| refine o_nil ?_
| (refine g_condN rfl (fun hc => ?_) (fun hc => ?_) <;> try (exfalso; omega))
| (refine zK rfl (fun hc => ?_) (fun hc => ?_) <;> try (exfalso; omega))
| refine kr1 ?_
| refine krB rfl ?_
| refine zR ?_
| refine g_exit ?_
| refine g_ret ?_)
  · exact Eq.symm (decide_eq_false (eq_at (k := k) 0 hc))
  · refine zT (k + 1) ⟨by omega, ?_⟩ (by omega) aI ⟨rfl, trivial⟩ (zM _)
    rw [take_snoc 0 (by omega), take_snoc 0 (by omega), hno, hc]
  · rw [(take_full hk hc).1, show k = ys.length by omega, List.take_length] at hno
    exact Eq.symm (decide_eq_true hno)
theorem gisame_c (xs ys : List Int) (hl : xs.length ≤ 1048576) : PCalls Tryz.prog 256 [ints xs, ints ys] (B (decide (xs = ys))) := by
  refine pcalls1 Tryz.func256 rfl Tryz.ntmps256 rfl ?_
  simp only [List.length_cons, List.length_nil, Nat.reduceAdd, Nat.reduceSub, List.replicate_succ, List.replicate_zero, List.cons_append, List.nil_append]
  repeat' (first
| refine g_seq ?_
| refine zJ ?_
| refine zC ?_
| (refine o_go rfl ?_; (first
| refine p_p (zD rfl) ?_
| refine p_p (zA rfl) ?_
| refine p_p (zU rfl rfl rfl) ?_
| refine p_p (ps_neq rfl rfl rfl) ?_); refine ⟨_, aB, ?_⟩)
| refine o_nil ?_
| (refine g_condN rfl (fun hc => ?_) (fun hc => ?_) <;> try (exfalso; omega))
| refine kr1 ?_
| refine krB rfl ?_
| refine zR ?_
| refine g_ret ?_)
  · exact Eq.symm (decide_eq_false fun e => hc (by rw [e]))
  have hlen : xs.length = ys.length := by omega
  refine g_loopT (α := Nat) (fun k => [(14, I k)]) (fun _ => []) (fun k => k ≤ xs.length ∧ xs.take k = ys.take k) (fun k => xs.length - k) 0 aH ⟨Nat.zero_le _, by simp⟩ ⟨rfl, trivial⟩ rfl ?_
  clear hc
  rintro k ⟨hk, hno⟩
  dsimp only [zZ, List.set_cons_zero, List.set_cons_succ]
  repeat' (first
| refine g_seq ?_
| refine zJ ?_
| refine zC ?_
| (refine o_go rfl ?_; (first
| refine p_p (zD rfl) ?_
| refine p_p (zA rfl) ?_
| refine p_p (zF rfl rfl) ?_
| refine p_p (zN rfl rfl rfl (by omega) aP (by exact rfl)) ?_
| refine p_p (zS rfl rfl rfl) ?_
| refine p_p (ps_add rfl rfl rfl aO) ?_
| refine p_p (ps_neq rfl rfl rfl) ?_); refine ⟨_, aB, ?_⟩)
| refine o_nil ?_
| (refine g_condN rfl (fun hc => ?_) (fun hc => ?_) <;> try (exfalso; omega))
| (refine zK rfl (fun hc => ?_) (fun hc => ?_) <;> try (exfalso; omega))
| refine kr1 ?_
| refine krB rfl ?_
| refine zR ?_
| refine g_exit ?_
| refine g_ret ?_)
  · exact Eq.symm (decide_eq_false (eq_at (k := k) 0 fun e => hc e.symm))
  · refine zT (k + 1) ⟨by omega, ?_⟩ (by omega) aI ⟨rfl, trivial⟩ (zM _)
    rw [take_snoc 0 (by omega), take_snoc 0 (by omega), hno, hc]
  · rw [(take_full hk hc).1, show k = ys.length by omega, List.take_length] at hno
    exact Eq.symm (decide_eq_true hno)
theorem iargs_c (n k i : Nat) (hn : 0 < n) (hn2 : n ≤ 1000000) (hk : k ≤ 1000) (hi : i ≤ 1000000000) : PCalls Tryz.prog 232 [I (i : Int), I (k : Int), I (n : Int)] (ints (argsL n k i)) := by
  refine pcalls1 Tryz.func232 rfl Tryz.ntmps232 rfl ?_
  simp only [List.length_cons, List.length_nil, Nat.reduceAdd, Nat.reduceSub, List.replicate_succ, List.replicate_zero, List.cons_append, List.nil_append]
  repeat' (first
| refine g_seq ?_
| refine zJ ?_
| refine zC ?_
| (refine o_go rfl ?_; (first
| refine p_p (zD rfl) ?_
| refine p_p (zA rfl) ?_
| refine p_p (ps_sub rfl rfl rfl aO) ?_
| refine p_e rfl (e_make1 rfl rfl rfl (by omega) (by omega) (by omega) rfl rfl) ?_); refine ⟨_, aB, ?_⟩)
| refine o_nil ?_)
  refine g_loopT (α := Nat × Nat × List Int) (fun x => [(0, I (x.2.1 : Int)), (8, I ((x.1 : Int) - 1))]) (fun x => [.arr true 1 3 ((List.replicate x.1 (0 : Int) ++ x.2.2).map I)]) (fun x => x.1 ≤ k ∧ x.2.1 ≤ 1000000000 ∧ x.1 + x.2.2.length = k ∧ argsL n k i = argsL n x.1 x.2.1 ++ x.2.2) (fun x => x.1) (k, i, []) aH ⟨Nat.le_refl _, hi, rfl, by simp⟩ ⟨rfl, rfl, trivial⟩ (by simp) ?_
  rintro ⟨j, i', s⟩ ⟨h1, h2, h3, h4⟩
  dsimp only at h1 h2 h3 h4
  dsimp only [zZ, List.set_cons_zero, List.set_cons_succ]
  have hlen : ((List.replicate j (0 : Int) ++ s).map I).length = k := by simp; omega
  rcases j with _ | j
  · repeat' (first
| refine g_seq ?_
| refine zC ?_
| (refine o_go rfl ?_; (first
| refine p_p (zD rfl) ?_
| refine p_p (zA rfl) ?_
| refine p_p (ps_geq rfl rfl rfl) ?_); refine ⟨_, aB, ?_⟩)
| refine o_nil ?_
| refine zW rfl ?_
| refine kr1 ?_
| refine krS rfl ?_
| refine g_exit ?_
| refine g_ret ?_)
    all_goals try (exfalso; omega)
    rw [h4]; rfl
  · have hm : (i' : Int) % (n : Int) = ((i' % n : Nat) : Int) := by omega
    have hd : (i' : Int) / (n : Int) = ((i' / n : Nat) : Int) := by omega
    have hle := Nat.div_le_self i' n
    repeat' (first
| refine g_seq ?_
| refine zJ ?_
| refine zC ?_
| (refine o_go rfl ?_; (first
| refine p_p (ps_rem rfl rfl rfl (by omega) (by omega)) ?_
| refine p_p (ps_quo rfl rfl rfl (by omega) (by omega) (by omega)) ?_
| refine p_e (by kernel_rfl) (e_store_arr rfl rfl rfl rfl (by omega) rfl rfl) ?_
| refine p_p (zD rfl) ?_
| refine p_p (zA rfl) ?_
| refine p_p (ps_geq rfl rfl rfl) ?_
| refine p_p (ps_sub rfl rfl rfl aO) ?_
| refine p_p (yA rfl rfl rfl rfl (by omega) aT) ?_); refine ⟨_, aB, ?_⟩)
| refine o_nil ?_
| (refine zK rfl (fun hc => ?_) (fun hc => ?_) <;> try (exfalso; omega))
| refine zR ?_)
    all_goals try (exfalso; omega)
    refine zT (j, i' / n, ((i' % n : Nat) : Int) :: s) ⟨by dsimp only; omega, by dsimp only; omega, by simp only [List.length_cons]; omega, by rw [h4]; show argsL n j (i' / n) ++ [_] ++ s = _; rw [List.append_assoc]; rfl⟩ (by dsimp only; omega) aI ⟨vI hd, vI (by dsimp only; omega), trivial⟩ (zB ?_ (zM _))
    rw [hm, show (((j + 1 : Nat) : Int) - 1).toNat * 1 = j by omega, ← List.map_set, rep_set]
theorem mul_bound {a n b : Int} {N : Nat} (h0 : 0 ≤ a) (h1 : a ≤ 1000000000) (hn0 : 0 ≤ n) (hn : n ≤ 1000) (_hb : b = a * n) (_ : N = 0) : 0 ≤ a * n ∧ a * n ≤ 1000000000000 :=
  ⟨Int.mul_nonneg h0 hn0, by calc a * n ≤ 1000000000 * n := Int.mul_le_mul_of_nonneg_right h1 hn0
                              _ ≤ 1000000000 * 1000 := Int.mul_le_mul_of_nonneg_left hn (by decide)
                              _ = 1000000000000 := by decide⟩
theorem idxL_le {n : Nat} {l : List Int} (hn : n ≤ 1000) (hl : l.length ≤ 3) (h : ∀ x ∈ l, 0 ≤ x ∧ x < (n : Int)) : 0 ≤ idxL n l ∧ idxL n l ≤ 1000000000 := by
  obtain ⟨h1, h2⟩ := idxL_bound l h
  have := pow_le3 hn hl
  omega
theorem getD_at {l : List Int} {i : Nat} (h : i < l.length) : l.getD i 0 ∈ l := by
  rw [List.getD_eq_getElem?_getD, List.getElem?_eq_getElem h]; exact List.getElem_mem _
theorem index_c (n : Nat) (l : List Int) (hn : n ≤ 1000) (hl : l.length ≤ 3) (h : ∀ x ∈ l, 0 ≤ x ∧ x < (n : Int)) : PCalls Tryz.prog 157 [ints l, I (n : Int)] (I (idxL n l)) := by
  refine pcalls1 Tryz.func157 rfl Tryz.ntmps157 rfl ?_
  simp only [List.length_cons, List.length_nil, Nat.reduceAdd, Nat.reduceSub, List.replicate_succ, List.replicate_zero, List.cons_append, List.nil_append]
  repeat' (first
| refine g_seq ?_
| refine zJ ?_
| refine zC ?_
| (refine o_go rfl ?_; (first
| refine p_p (zD rfl) ?_
| refine p_p (zA rfl) ?_
| refine p_p (zU rfl rfl rfl) ?_); refine ⟨_, aB, ?_⟩)
| refine o_nil ?_)
  refine g_loopT (α := Nat) (fun i => [(5, I (idxL n (l.take i))), (10, I (i : Int))]) (fun _ => []) (fun i => i ≤ l.length) (fun i => l.length - i) 0 aH (Nat.zero_le _) ⟨rfl, rfl, trivial⟩ rfl ?_
  rintro i hi
  dsimp only [zZ, List.set_cons_zero, List.set_cons_succ]
  have hb := idxL_le (l := l.take i) hn (by rw [List.length_take]; omega) (fun x hx => h x (List.mem_of_mem_take hx))
  by_cases hil : i < l.length
  · have hx := h _ (getD_at hil)
    have hm := mul_bound (n := (n : Int)) hb.1 hb.2 (by omega) (by omega) rfl (N := 0) rfl
    have hsuc : idxL n (l.take (i + 1)) = idxL n (l.take i) * n + l.getD i 0 := by rw [take_snoc 0 hil, idxL_snoc]
    generalize idxL n (l.take i) = a at *
    repeat' (first
| refine g_seq ?_
| refine zJ ?_
| refine zC ?_
| (refine o_go rfl ?_; (first
| refine p_p (ps_mul rfl rfl rfl (by omega)) ?_
| refine p_p (zD rfl) ?_
| refine p_p (zA rfl) ?_
| refine p_p (zF rfl rfl) ?_
| refine p_p (zN rfl rfl rfl (by omega) aP (by exact rfl)) ?_
| refine p_p (zS rfl rfl rfl) ?_
| refine p_p (ps_add rfl rfl rfl aO) ?_); refine ⟨_, aB, ?_⟩)
| refine o_nil ?_
| (refine zK rfl (fun hc => ?_) (fun hc => ?_) <;> try (exfalso; omega))
| refine zR ?_)
    all_goals try (exfalso; omega)
    exact zT (i + 1) (by omega) (by omega) aI ⟨vI hsuc.symm, rfl, trivial⟩ (zM _)
  · repeat' (first
| refine g_seq ?_
| refine zC ?_
| (refine o_go rfl ?_; (first
| refine p_p (zD rfl) ?_
| refine p_p (zA rfl) ?_
| refine p_p (zS rfl rfl rfl) ?_); refine ⟨_, aB, ?_⟩)
| refine o_nil ?_
| (refine zK rfl (fun hc => ?_) (fun hc => ?_) <;> try (exfalso; omega))
| refine kr1 ?_
| refine krI rfl ?_
| refine g_exit ?_
| refine g_ret ?_)
    all_goals try (exfalso; omega)
    rw [show i = l.length by omega, List.take_length]
def comL (f g : List Int) : List Int := f.map fun x => g.getD x.toNat 0
theorem compose_c (f g : List Int) (hf : f.length ≤ 1048576) (hg : g.length ≤ 1048576) (h : ∀ x ∈ f, 0 ≤ x ∧ x < (g.length : Int)) : PCalls Tryz.prog 146 [ints f, ints g] (ints (comL f g)) := by
  refine pcalls1 Tryz.func146 rfl Tryz.ntmps146 rfl ?_
  simp only [List.length_cons, List.length_nil, Nat.reduceAdd, Nat.reduceSub, List.replicate_succ, List.replicate_zero, List.cons_append, List.nil_append]
  repeat' (first
| refine g_seq ?_
| refine zJ ?_
| refine zC ?_
| (refine o_go rfl ?_; (first
| refine p_p (zD rfl) ?_
| refine p_p (zA rfl) ?_
| refine p_p (zU rfl rfl rfl) ?_
| refine p_e rfl (e_make1 rfl rfl rfl (by omega) (by omega) (by omega) rfl rfl) ?_); refine ⟨_, aB, ?_⟩)
| refine o_nil ?_)
  refine g_loopT (α := Nat) (fun i => [(13, I (i : Int))]) (fun i => [.arr true 1 3 ((comL (f.take i) g ++ List.replicate (f.length - i) 0).map I)]) (fun i => i ≤ f.length) (fun i => f.length - i) 0 aH (Nat.zero_le _) ⟨rfl, trivial⟩ (by simp [comL]) ?_
  rintro i hi
  dsimp only [zZ, List.set_cons_zero, List.set_cons_succ]
  have hcl : (comL (f.take i) g).length = i := by simp [comL]; omega
  have hlen : ((comL (f.take i) g ++ List.replicate (f.length - i) 0).map I).length = f.length := by simp [hcl]; omega
  by_cases hil : i < f.length
  · have hx := h _ (getD_at hil)
    have hix : (g.map I)[(f.getD i 0).toNat]? = some (I (g.getD (f.getD i 0).toNat 0)) := idx_I (by omega)
    repeat' (first
| refine g_seq ?_
| refine zJ ?_
| refine zC ?_
| (refine o_go rfl ?_; (first
| refine p_p (zN rfl rfl rfl (by omega) hix (by exact rfl)) ?_
| refine p_e (by kernel_rfl) (e_store_arr rfl rfl rfl rfl (by omega) rfl rfl) ?_
| refine p_p (zD rfl) ?_
| refine p_p (zA rfl) ?_
| refine p_p (zF rfl rfl) ?_
| refine p_p (zN rfl rfl rfl (by omega) aP (by exact rfl)) ?_
| refine p_p (zS rfl rfl rfl) ?_
| refine p_p (ps_add rfl rfl rfl aO) ?_
| refine p_p (yA rfl rfl rfl rfl (by omega) aT) ?_); refine ⟨_, aB, ?_⟩)
| refine o_nil ?_
| (refine zK rfl (fun hc => ?_) (fun hc => ?_) <;> try (exfalso; omega))
| refine zR ?_)
    all_goals try (exfalso; omega)
    refine zT (i + 1) (by omega) (by omega) aI ⟨rfl, trivial⟩ (zB ?_ (zM _))
    rw [Nat.mul_one, ← List.map_set, List.set_append_right _ _ (by omega), hcl, Nat.sub_self, show f.length - i = (f.length - (i + 1)) + 1 by omega, List.replicate_succ]
    have : comL (f.take (i + 1)) g = comL (f.take i) g ++ [g.getD (f.getD i 0).toNat 0] := by rw [take_snoc 0 hil]; unfold comL; rw [List.map_append]; rfl
    rw [this, List.append_assoc]; rfl
  · repeat' (first
| refine g_seq ?_
| refine zC ?_
| (refine o_go rfl ?_; (first
| refine p_p (zD rfl) ?_
| refine p_p (zA rfl) ?_
| refine p_p (zS rfl rfl rfl) ?_); refine ⟨_, aB, ?_⟩)
| refine o_nil ?_
| (refine zK rfl (fun hc => ?_) (fun hc => ?_) <;> try (exfalso; omega))
| refine kr1 ?_
| refine krS rfl ?_
| refine g_exit ?_
| refine g_ret ?_)
    all_goals try (exfalso; omega)
    rw [show i = f.length by omega, List.take_length, Nat.sub_self]
    simp
theorem drop_cons {α : Type} {l : List α} {i : Nat} (d : α) (h : i < l.length) : l.drop i = l.getD i d :: l.drop (i + 1) := by
  rw [List.drop_eq_getElem_cons h, List.getD_eq_getElem?_getD, List.getElem?_eq_getElem h]; rfl
def lenOk (T : List (List Int)) : Prop := T.length ≤ 1048576 ∧ ∀ t ∈ T, t.length ≤ 1048576
theorem lenOk.at {T : List (List Int)} (h : lenOk T) {i : Nat} (hi : i < T.length) : (T.getD i []).length ≤ 1048576 := by
  rw [List.getD_eq_getElem?_getD, List.getElem?_eq_getElem hi]; exact h.2 _ (List.getElem_mem _)
def prjL (n k place : Nat) : List Int := (List.range (n ^ k)).map fun i => (argsL n k i).getD place 0
theorem range_snoc {α : Type} (f : Nat → α) (i : Nat) : (List.range (i + 1)).map f = (List.range i).map f ++ [f i] := by rw [List.range_succ, List.map_append]; rfl
def rowAt (ts : List (List Int)) (i : Nat) : List Int := ts.map fun t => t.getD i 0
def cmpL (n : Int) (f : List Int) (ts : List (List Int)) (size : Nat) : List Int := (List.range size).map fun i => f.getD (idxL n (rowAt ts i)).toNat 0
def tabsOk (n size : Nat) (ts : List (List Int)) : Prop := ∀ t ∈ ts, t.length = size ∧ ∀ x ∈ t, 0 ≤ x ∧ x < (n : Int)
theorem tabsOk.row {n size i : Nat} {ts : List (List Int)} (h : tabsOk n size ts) (hi : i < size) : ∀ x ∈ rowAt ts i, 0 ≤ x ∧ x < (n : Int) := fun x hx => by
  obtain ⟨t, ht, rfl⟩ := List.mem_map.1 hx
  obtain ⟨h1, h2⟩ := h t ht
  exact h2 _ (getD_at (by omega))
end Go.Proofs.YtembaiccchgllaaGreat
