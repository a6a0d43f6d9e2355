/- Plain: translated pairs, Mal'cev chains, the shortest way between two elements. -/
import Derived.Test.YtepjlgilopfnpaaGreatJKb
import Derived.Test.YtepjlgilopfnpaaGreatJGa
import Derived.Test.YtepjlgilopfnpaaGreatJSt
import Derived.Test.YtepjlgilopfnpaaGreatJSq
import Derived.Test.YtepjlgilopfnpaaGreatJPq
import Derived.Test.YtepjlgilopfnpaaGreatJNb
set_option linter.unusedSectionVars false
namespace Go.Proofs.YtepjlgilopfnpaaGreat
open Go Go.Pv Go.Proofs

inductive TrP (n : Nat) (ops : List OpD) (x y : Nat) : Nat → Nat → Prop
 | base : TrP n ops x y x y
 | sym {s t : Nat} (h : TrP n ops x y s t) : TrP n ops x y t s
 | step {s t : Nat} (h : TrP n ops x y s t) (f : OpD) (hf : f ∈ ops) (i : Nat) (hi : i < n ^ f.ar.toNat) (j : Nat) (hj : j < f.ar.toNat) (hd : digN n i j = s) : TrP n ops x y (bk f.tb i) (bk f.tb (subN n i j t))
theorem TrP.lt {n : Nat} {ops : List OpD} (ho : opsIn n ops) {x y : Nat} (hx : x < n) (hy : y < n) {s t : Nat} (h : TrP n ops x y s t) : s < n ∧ t < n := by
 induction h with
 | base => exact ⟨hx, hy⟩
 | sym _ ih => exact ⟨ih.2, ih.1⟩
 | step _ f hf i hi j hj _ ih =>
  have h := (ho f hf).2.2.2
  exact ⟨(h i hi).2, (h _ (sub_lt hi hj ih.2)).2⟩
theorem TrP.cg {n : Nat} {ops : List OpD} (ho : opsIn n ops) {x y : Nat} (hx : x < n) (hy : y < n) {r : List Int} (hr : Pt n r) (hc : Cong n ops r) (he : bk r x = bk r y) {s t : Nat} (h : TrP n ops x y s t) : bk r s = bk r t := by
 induction h with
 | base => exact he
 | sym _ ih => exact ih.symm
 | step h f hf i hi j hj hd ih =>
  obtain ⟨hs, ht⟩ := h.lt ho hx hy
  have := (cong_keeps hr).1 hc f hf i hi j hj _ _ hs ht ih
  rw [← hd, subN_self] at this
  exact this
inductive Cn (lk : Nat → Nat → Prop) (u : Nat) : Nat → Prop
 | refl : Cn lk u u
 | step {w z : Nat} (h : Cn lk u w) (hl : lk w z) : Cn lk u z
theorem Cn.trans {lk : Nat → Nat → Prop} {u v w : Nat} (h : Cn lk u v) (g : Cn lk v w) : Cn lk u w := by
 induction g with
 | refl => exact h
 | step _ hl ih => exact .step ih hl
theorem Cn.symm {lk : Nat → Nat → Prop} (hs : ∀ a b, lk a b → lk b a) {u v : Nat} (h : Cn lk u v) : Cn lk v u := by
 induction h with
 | refl => exact .refl
 | step _ hl ih => exact (Cn.step .refl (hs _ _ hl)).trans ih
/-! ### Breadth first -/
section
variable (lk : Nat → Nat → Bool) (n v : Nat)
abbrev BSt := List Nat × List Int
def BLe (a b : BSt) : Prop := (∃ l, b.1 = a.1 ++ l) ∧ ∀ s, 0 ≤ a.2.getD s 0 → s < n → b.2.getD s 0 = a.2.getD s 0
variable {lk n v}
theorem BLe.refl (a : BSt) : BLe n a a := ⟨⟨[], (List.append_nil _).symm⟩, fun _ _ _ => rfl⟩
theorem BLe.trans {a b c : BSt} (h : BLe n a b) (g : BLe n b c) : BLe n a c := by
 obtain ⟨⟨l, h1⟩, h2⟩ := h
 obtain ⟨⟨m, g1⟩, g2⟩ := g
 exact ⟨⟨l ++ m, by rw [g1, h1, List.append_assoc]⟩, fun s hs hn => by rw [g2 s (by rw [h2 s hs hn]; exact hs) hn, h2 s hs hn]⟩
theorem nodup_lt_len : ∀ {l : List Nat} {n : Nat}, l.Nodup → (∀ s ∈ l, s < n) → l.length ≤ n := fun {l n} hd h => by
 have := len_le_sub hd (m := List.range n) fun a ha => List.mem_range.2 (h a ha)
 simpa using this
end
end Go.Proofs.YtepjlgilopfnpaaGreat
/- Plain: lists that are partitions; translated pairs in order. -/
namespace Go.Proofs.YtepjlgilopfnpaaGreat
open Go Go.Pv Go.Proofs

def ptX (p : List Int) (x : Nat) : Bool := decide (0 ≤ p.getD x 0) && (decide (p.getD x 0 ≤ (x : Int)) && decide (p.getD (p.getD x 0).toNat 0 = p.getD x 0))
def ptB (n : Nat) (p : List Int) : Bool := decide (p.length = n) && (List.range n).all (ptX p)
theorem ptX_iff {p : List Int} {x : Nat} : ptX p x = true ↔ 0 ≤ p.getD x 0 ∧ p.getD x 0 ≤ (x : Int) ∧ p.getD (p.getD x 0).toNat 0 = p.getD x 0 := by
 unfold ptX; simp only [Bool.and_eq_true, decide_eq_true_eq]
theorem ptB_iff {n : Nat} {p : List Int} : ptB n p = true ↔ Pt n p := by
 unfold ptB
 rw [Bool.and_eq_true, decide_eq_true_iff, List.all_eq_true]
 constructor
 · rintro ⟨h1, h2⟩
   have h := fun x (hx : x < n) => ptX_iff.1 (h2 x (List.mem_range.2 hx))
   refine ⟨h1, fun x hx => (h x hx).1, fun x hx => ?_, fun x hx => ?_⟩
   · have := h x hx; unfold bk; omega
   · have := (h x hx).2.2; unfold bk; rw [this]
 · intro h
   refine ⟨h.len, fun x hx => ptX_iff.2 ?_⟩
   have hx := List.mem_range.1 hx
   refine ⟨h.nn x hx, ?_, ?_⟩
   · have := h.le x hx; rw [h.val hx]; omega
   · have := h.id x hx
     rw [h.val hx, Int.toNat_natCast, h.val (h.lt hx), this]
end Go.Proofs.YtepjlgilopfnpaaGreat
/- Algebras: arguments, places, compositions of tables on both sides. -/
namespace Go.Proofs.YtepjlgilopfnpaaGreat
open Go Go.Pv Go.Proofs
set_option maxHeartbeats 32000000
set_option maxRecDepth 100000

theorem gsame_c (xs ys : List Int) (hl : xs.length ≤ 9223372036854775807) : PCalls Tryz.prog 153 [ints xs, ints ys] (B (decide (xs = ys))) := by
 refine pcalls1 Tryz.func153 rfl Tryz.ntmps153 rfl ?_
 refine wF ?_
 repeat' (first
| refine wO ?_
| (refine o_go rfl ?_; (first
| refine wS ?_); refine ⟨_, aB, ?_⟩)
| (refine g_condN rfl ?_ ?_ <;> intro hc <;> try omega)
| refine kr1 ?_
| refine krB rfl ?_
| refine wE ?_)
 · exact Eq.symm (decide_eq_false fun e => hc (by rw [e]))
 have hlen : xs.length = ys.length := by omega
 refine g_loopT (α := Nat) (fun k => [(5, I k)]) (fun _ => []) (fun k => k ≤ xs.length ∧ xs.take k = ys.take k) (fun k => xs.length - k) 0 aH ⟨Nat.zero_le _, by simp⟩ ⟨rfl, trivial⟩ rfl ?_
 clear hc
 rintro k ⟨hk, hno⟩
 refine wH ?_
 repeat' (first
| refine wO ?_
| refine zP zk zk ?_
| (refine o_go rfl ?_; (first
| refine wS ?_
| refine p_p (zN rfl rfl rfl zz aQ ze) ?_); refine ⟨_, aB, ?_⟩)
| (refine g_condN rfl ?_ ?_ <;> intro hc <;> try omega)
| (refine zK rfl ?_ ?_ <;> intro hc <;> try omega)
| refine kr1 ?_
| refine krB rfl ?_
| refine wE ?_)
 · exact Eq.symm (decide_eq_false (eq_at (k := k) 0 hc))
 · refine zT (k + 1) ⟨by omega, ?_⟩ (by omega) aI ⟨rfl, trivial⟩ (zM _)
   rw [take_snoc 0 (by omega), take_snoc 0 (by omega), hno, hc]
 · rw [(take_full hk hc).1, show k = ys.length by omega, List.take_length] at hno
   exact Eq.symm (decide_eq_true hno)
theorem gisame_c (xs ys : List Int) (hl : xs.length ≤ 1048576) : PCalls Tryz.prog 181 [ints xs, ints ys] (B (decide (xs = ys))) := by
 refine pcalls1 Tryz.func181 rfl Tryz.ntmps181 rfl ?_
 refine wF ?_
 repeat' (first
| refine wO ?_
| (refine o_go rfl ?_; (first
| refine wS ?_); refine ⟨_, aB, ?_⟩)
| (refine g_condN rfl ?_ ?_ <;> intro hc <;> try omega)
| refine kr1 ?_
| refine krB rfl ?_
| refine wE ?_)
 · exact Eq.symm (decide_eq_false fun e => hc (by rw [e]))
 have hlen : xs.length = ys.length := by omega
 refine g_loopT (α := Nat) (fun k => [(14, I k)]) (fun _ => []) (fun k => k ≤ xs.length ∧ xs.take k = ys.take k) (fun k => xs.length - k) 0 aH ⟨Nat.zero_le _, by simp⟩ ⟨rfl, trivial⟩ rfl ?_
 clear hc
 rintro k ⟨hk, hno⟩
 refine wH ?_
 repeat' (first
| refine wO ?_
| (refine o_go rfl ?_; (first
| refine wS ?_
| refine p_p (zN rfl rfl rfl zz aQ ze) ?_); refine ⟨_, aB, ?_⟩)
| (refine g_condN rfl ?_ ?_ <;> intro hc <;> try omega)
| (refine zK rfl ?_ ?_ <;> intro hc <;> try omega)
| refine kr1 ?_
| refine krB rfl ?_
| refine wE ?_)
 · exact Eq.symm (decide_eq_false (eq_at (k := k) 0 fun e => hc e.symm))
 · refine zT (k + 1) ⟨by omega, ?_⟩ (by omega) aI ⟨rfl, trivial⟩ (zM _)
   rw [take_snoc 0 (by omega), take_snoc 0 (by omega), hno, hc]
 · rw [(take_full hk hc).1, show k = ys.length by omega, List.take_length] at hno
   exact Eq.symm (decide_eq_true hno)
theorem iargs_c (n k i : Nat) (hn : 0 < n) (hn2 : n ≤ 1000000) (hk : k ≤ 1000) (hi : i ≤ 1000000000) : PCalls Tryz.prog 114 [I (i : Int), I (k : Int), I (n : Int)] (ints (argsL n k i)) := by
 refine pcalls1 Tryz.func114 rfl Tryz.ntmps114 rfl ?_
 refine wF ?_
 repeat' (first
| refine wO ?_
| (refine o_go rfl ?_; (first
| refine wS ?_
| refine p_e rfl (e_make1 rfl rfl rfl zz zz zz rfl rfl) ?_); refine ⟨_, aB, ?_⟩))
 refine g_loopT (α := Nat × Nat × List Int) (fun x => [(0, I (x.2.1 : Int)), (8, I ((x.1 : Int) - 1))]) (fun x => [.arr true 1 3 ((List.replicate x.1 (0 : Int) ++ x.2.2).map I)]) (fun x => x.1 ≤ k ∧ x.2.1 ≤ 1000000000 ∧ x.1 + x.2.2.length = k ∧ argsL n k i = argsL n x.1 x.2.1 ++ x.2.2) (fun x => x.1) (k, i, []) aH ⟨Nat.le_refl _, hi, rfl, by simp⟩ ⟨rfl, rfl, trivial⟩ (by simp) ?_
 rintro ⟨j, i', s⟩ ⟨h1, h2, h3, h4⟩
 dsimp only at h1 h2 h3 h4
 refine wH ?_
 have hlen : ((List.replicate j (0 : Int) ++ s).map I).length = k := by simp; omega
 rcases j with _ | j
 · repeat' (first
| refine wO ?_
| (refine o_go rfl ?_; (first
| refine wS ?_); refine ⟨_, aB, ?_⟩)
| refine kr1 ?_
| refine krS rfl ?_
| refine wE ?_)
   all_goals try (exfalso; omega)
   rw [h4]; rfl
 · have hm : (i' : Int) % (n : Int) = ((i' % n : Nat) : Int) := by omega
   have hd : (i' : Int) / (n : Int) = ((i' / n : Nat) : Int) := by omega
   have hle := Nat.div_le_self i' n
   repeat' (first
| refine wO ?_
| (refine o_go rfl ?_; (first
| refine p_p (ps_rem rfl rfl rfl zz zz) ?_
| refine p_p (ps_quo rfl rfl rfl zz zz zz) ?_
| refine p_e zk (e_store_arr rfl rfl rfl rfl zz rfl rfl) ?_
| refine wS ?_); refine ⟨_, aB, ?_⟩)
| (refine zK rfl ?_ ?_ <;> intro hc <;> try omega)
| refine wE ?_)
   all_goals try (exfalso; omega)
   refine zT (j, i' / n, ((i' % n : Nat) : Int) :: s) ⟨by dsimp only; omega, by dsimp only; omega, by simp only [List.length_cons]; omega, by rw [h4]; show argsL n j (i' / n) ++ [_] ++ s = _; rw [List.append_assoc]; rfl⟩ (by dsimp only; omega) aI ⟨vI hd, vI (by dsimp only; omega), trivial⟩ (zB ?_ (zM _))
   rw [hm, show (((j + 1 : Nat) : Int) - 1).toNat * 1 = j by omega, ← List.map_set, rep_set]
theorem mul_bound {a n b : Int} {N : Nat} (h0 : 0 ≤ a) (h1 : a ≤ 1000000000) (hn0 : 0 ≤ n) (hn : n ≤ 1000) (_hb : b = a * n) (_ : N = 0) : 0 ≤ a * n ∧ a * n ≤ 1000000000000 :=
 ⟨Int.mul_nonneg h0 hn0, by calc a * n ≤ 1000000000 * n := Int.mul_le_mul_of_nonneg_right h1 hn0
  _ ≤ 1000000000 * 1000 := Int.mul_le_mul_of_nonneg_left hn (by decide)
  _ = 1000000000000 := by decide⟩
theorem idxL_le {n : Nat} {l : List Int} (hn : n ≤ 1000) (hl : l.length ≤ 3) (h : ∀ x ∈ l, 0 ≤ x ∧ x < (n : Int)) : 0 ≤ idxL n l ∧ idxL n l ≤ 1000000000 := by
 obtain ⟨h1, h2⟩ := idxL_bound l h
 have := pow_le3 hn hl
 omega
theorem getD_at {l : List Int} {i : Nat} (h : i < l.length) : l.getD i 0 ∈ l := by
 rw [List.getD_eq_getElem?_getD, List.getElem?_eq_getElem h]; exact List.getElem_mem _
theorem index_c (n : Nat) (l : List Int) (hn : n ≤ 1000) (hl : l.length ≤ 3) (h : ∀ x ∈ l, 0 ≤ x ∧ x < (n : Int)) : PCalls Tryz.prog 115 [ints l, I (n : Int)] (I (idxL n l)) := by
 refine pcalls1 Tryz.func115 rfl Tryz.ntmps115 rfl ?_
 refine wF ?_
 repeat' (first
| refine wO ?_
| (refine o_go rfl ?_; (first
| refine wS ?_); refine ⟨_, aB, ?_⟩))
 refine g_loopT (α := Nat) (fun i => [(5, I (idxL n (l.take i))), (10, I (i : Int))]) (fun _ => []) (fun i => i ≤ l.length) (fun i => l.length - i) 0 aH (Nat.zero_le _) ⟨rfl, rfl, trivial⟩ rfl ?_
 rintro i hi
 refine wH ?_
 have hb := idxL_le (l := l.take i) hn (by rw [List.length_take]; omega) (fun x hx => h x (List.mem_of_mem_take hx))
 by_cases hil : i < l.length
 · have hx := h _ (getD_at hil)
   have hm := mul_bound (n := (n : Int)) hb.1 hb.2 (by omega) (by omega) rfl (N := 0) rfl
   have hsuc : idxL n (l.take (i + 1)) = idxL n (l.take i) * n + l.getD i 0 := by rw [take_snoc 0 hil, idxL_snoc]
   generalize idxL n (l.take i) = a at *
   repeat' (first
| refine wO ?_
| (refine o_go rfl ?_; (first
| refine p_p (ps_mul rfl rfl rfl zz) ?_
| refine wS ?_
| refine p_p (zN rfl rfl rfl zz aQ ze) ?_); refine ⟨_, aB, ?_⟩)
| (refine zK rfl ?_ ?_ <;> intro hc <;> try omega)
| refine wE ?_)
   all_goals try (exfalso; omega)
   exact zT (i + 1) (by omega) (by omega) aI ⟨vI hsuc.symm, rfl, trivial⟩ (zM _)
 · repeat' (first
| refine wO ?_
| (refine o_go rfl ?_; (first
| refine wS ?_); refine ⟨_, aB, ?_⟩)
| (refine zK rfl ?_ ?_ <;> intro hc <;> try omega)
| refine kr1 ?_
| refine krI rfl ?_
| refine wE ?_)
   all_goals try (exfalso; omega)
   rw [show i = l.length by omega, List.take_length]
def comL (f g : List Int) : List Int := f.map fun x => g.getD x.toNat 0
theorem compose_c (f g : List Int) (hf : f.length ≤ 1048576) (hg : g.length ≤ 1048576) (h : ∀ x ∈ f, 0 ≤ x ∧ x < (g.length : Int)) : PCalls Tryz.prog 76 [ints f, ints g] (ints (comL f g)) := by
 refine pcalls1 Tryz.func76 rfl Tryz.ntmps76 rfl ?_
 refine wF ?_
 repeat' (first
| refine wO ?_
| (refine o_go rfl ?_; (first
| refine wS ?_
| refine p_e rfl (e_make1 rfl rfl rfl zz zz zz rfl rfl) ?_); refine ⟨_, aB, ?_⟩))
 refine g_loopT (α := Nat) (fun i => [(13, I (i : Int))]) (fun i => [.arr true 1 3 ((comL (f.take i) g ++ List.replicate (f.length - i) 0).map I)]) (fun i => i ≤ f.length) (fun i => f.length - i) 0 aH (Nat.zero_le _) ⟨rfl, trivial⟩ (by simp [comL]) ?_
 rintro i hi
 refine wH ?_
 have hcl : (comL (f.take i) g).length = i := by simp [comL]; omega
 have hlen : ((comL (f.take i) g ++ List.replicate (f.length - i) 0).map I).length = f.length := by simp [hcl]; omega
 by_cases hil : i < f.length
 · have hx := h _ (getD_at hil)
   have hix : (g.map I)[(f.getD i 0).toNat]? = some (I (g.getD (f.getD i 0).toNat 0)) := idx_I (by omega)
   repeat' (first
| refine wO ?_
| (refine o_go rfl ?_; (first
| refine p_p (zN rfl rfl rfl zz hix ze) ?_
| refine p_e zk (e_store_arr rfl rfl rfl rfl zz rfl rfl) ?_
| refine wS ?_
| refine p_p (zN rfl rfl rfl zz aQ ze) ?_); refine ⟨_, aB, ?_⟩)
| (refine zK rfl ?_ ?_ <;> intro hc <;> try omega)
| refine wE ?_)
   all_goals try (exfalso; omega)
   refine zT (i + 1) (by omega) (by omega) aI ⟨rfl, trivial⟩ (zB ?_ (zM _))
   rw [Nat.mul_one, ← List.map_set, List.set_append_right _ _ (by omega), hcl, Nat.sub_self, show f.length - i = (f.length - (i + 1)) + 1 by omega, List.replicate_succ]
   have : comL (f.take (i + 1)) g = comL (f.take i) g ++ [g.getD (f.getD i 0).toNat 0] := by rw [take_snoc 0 hil]; unfold comL; rw [List.map_append]; rfl
   rw [this, List.append_assoc]; rfl
 · repeat' (first
| refine wO ?_
| (refine o_go rfl ?_; (first
| refine wS ?_); refine ⟨_, aB, ?_⟩)
| (refine zK rfl ?_ ?_ <;> intro hc <;> try omega)
| refine kr1 ?_
| refine krS rfl ?_
| refine wE ?_)
   all_goals try (exfalso; omega)
   rw [show i = f.length by omega, List.take_length, Nat.sub_self]
   simp
theorem drop_cons {α : Type} {l : List α} {i : Nat} (d : α) (h : i < l.length) : l.drop i = l.getD i d :: l.drop (i + 1) := by
 rw [List.drop_eq_getElem_cons h, List.getD_eq_getElem?_getD, List.getElem?_eq_getElem h]; rfl
def lenOk (T : List (List Int)) : Prop := T.length ≤ 1048576 ∧ ∀ t ∈ T, t.length ≤ 1048576
theorem lenOk.at {T : List (List Int)} (h : lenOk T) {i : Nat} (hi : i < T.length) : (T.getD i []).length ≤ 1048576 := by
 rw [List.getD_eq_getElem?_getD, List.getElem?_eq_getElem hi]; exact h.2 _ (List.getElem_mem _)
def prjL (n k place : Nat) : List Int := (List.range (n ^ k)).map fun i => (argsL n k i).getD place 0
theorem range_snoc {α : Type} (f : Nat → α) (i : Nat) : (List.range (i + 1)).map f = (List.range i).map f ++ [f i] := by rw [List.range_succ, List.map_append]; rfl
def rowAt (ts : List (List Int)) (i : Nat) : List Int := ts.map fun t => t.getD i 0
def cmpL (n : Int) (f : List Int) (ts : List (List Int)) (size : Nat) : List Int := (List.range size).map fun i => f.getD (idxL n (rowAt ts i)).toNat 0
def tabsOk (n size : Nat) (ts : List (List Int)) : Prop := ∀ t ∈ ts, t.length = size ∧ ∀ x ∈ t, 0 ≤ x ∧ x < (n : Int)
theorem tabsOk.row {n size i : Nat} {ts : List (List Int)} (h : tabsOk n size ts) (hi : i < size) : ∀ x ∈ rowAt ts i, 0 ≤ x ∧ x < (n : Int) := fun x hx => by
 obtain ⟨t, ht, rfl⟩ := List.mem_map.1 hx
 obtain ⟨h1, h2⟩ := h t ht
 exact h2 _ (getD_at (by omega))
end Go.Proofs.YtepjlgilopfnpaaGreat
/- Walks: the reference's lattice maps, points and chains. -/

namespace Go.Proofs.YtepjlgilopfnpaaGreat
open Go Go.Pv Go.Proofs
set_option maxHeartbeats 32000000
set_option maxRecDepth 100000
theorem own_R (l : List Int) (hl : l.length ≤ 1048576) : RCalls Tryz.prog 150 [ints l] (.arr true 1 3 (l.map I)) (.hp 0) := by
 refine pcallsR1 Tryz.func150 rfl Tryz.ntmps150 rfl ?_
 refine wF ?_
 repeat' (first
| refine wO ?_
| (refine o_go rfl ?_; (first
| refine wS ?_
| refine p_e rfl (e_lit0 rfl zd) ?_
| refine p_e rfl (e_append rfl rfl rfl rfl rfl rfl (by first | exact one_one rfl | exact one_map (fun _ => rfl) _) rfl aR aR) ?_); refine ⟨_, aB, ?_⟩)
| refine krr 0 rfl (HandOut.arr rfl ?_ aS)
| refine wE ?_)
 rfl
end Go.Proofs.YtepjlgilopfnpaaGreat
/- Clones: found tables, round by round (plain). -/
namespace Go.Proofs.YtepjlgilopfnpaaGreat
open Go Go.Pv Go.Proofs

abbrev Stp := Int × List Int
abbrev Ent := List Int × Stp
def entOk (n size : Nat) (e : Ent) : Prop := e.1.length = size ∧ ∀ x ∈ e.1, 0 ≤ x ∧ x < (n : Int)
/-! ### One round after another -/
/-! ### The reference's rounds -/
def closedT (n size : Nat) (ops : List OpD) (T : List (List Int)) (b : Nat) : Prop := ∀ f ∈ ops, ∀ args : List Int, args.length = f.ar.toNat → (∀ x ∈ args, 0 ≤ x ∧ x < (b : Int)) → cmpL n f.tb (args.map fun x => T.getD x.toNat []) size ∈ T
end Go.Proofs.YtepjlgilopfnpaaGreat
/- Walks: the reference's clones. -/
namespace Go.Pv
theorem one_ag {c : List PV} (h : c.all PV.one = true) : ∀ q ∈ [PV.agg c], ∀ c', q.flat = some c' → c'.all PV.one = true := fun q hq c' hc => by
 simp only [List.mem_singleton] at hq
 subst hq
 simp only [PV.flat, Option.some.injEq] at hc
 subst hc
 exact h
end Go.Pv
namespace Go.Proofs.YtepjlgilopfnpaaGreat
open Go Go.Pv Go.Proofs
theorem idx_ints {T : List (List Int)} {i : Nat} (hi : i < T.length) : (T.map ints)[i]? = some (ints (T.getD i [])) := by
 rw [List.getElem?_map, List.getElem?_eq_getElem hi, List.getD_eq_getElem?_getD, List.getElem?_eq_getElem hi]; rfl
end Go.Proofs.YtepjlgilopfnpaaGreat
/- The layer: an entry of a map's literal. -/
namespace Go.Pv
open Go Go.MapKept
attribute [local semireducible] Go.Pv.Goal Go.Pv.PStep Go.Pv.EStep Go.Pv.KRets Go.Pv.PCalls Go.Pv.Ops Go.Pv.OpsG
section
variable {P : Program} {o : Oper} {S : St}
theorem e_mapInsert {t kt e : TypeId} {z : Value} [ht : MapT P t kt e z] {x y v : Operand} {b id : Nat} {l : List (ByteArray × PV)} {k : ByteArray} {p : PV} (ho : o.op = .insert t x y v) (hd : o.dst = none) (h1 : S.ev x = .val (.map (some b))) (hh : S.hp[id]? = some (.mp b l)) (h2 : S.ev y = .val (.string k)) (h3 : view S.hp (S.ev v) = p) :
 EStep P o S ⟨S.fr, S.hp.set id (.mp b (mpPut l k p))⟩ := by
 intro w0 g ρ a w hr Q K hK
 have e1 := val_of (hr.ev x) h1
 have e2 := val_of (hr.ev y) h2
 have ev3 := hr.base.view (hr.ev v)
 rw [h3] at ev3
 obtain ⟨es, cl, hm⟩ := hr.base.own id _ hh
 have hkey : IsKey .string (.string k) := trivial
 have hck : (Instr.checkKey false 10000 kt (.string k)).run P w = .ok () w := run_checkKey ht.hk hkey _ 9999
 have hsame : ∀ (l' : List (ByteArray × PV)) (v : Value) (p : PV), VRS1 g ρ S.hp v p → VRS1 g ρ (S.hp.set id (.mp b l')) v p := fun l' v p h => same_set hh (fun _ _ _ _ h => by cases h) (fun _ _ _ h => by cases h) (fun _ _ _ _ h => by cases h) (GExt.refl g) h
 have fin : ∀ (es' : Array MapEntry) (cl' : Nat) (l' : List (ByteArray × PV)), (Instr.mapUpdate t (.map (some b)) (.string k) (a.eval v)).run P w = .ok () { w with heap := w.heap.setIfInBounds b (.map es' cl') } → MpRel g es'.toList l' → mpPut l k p = l' → o.wp P a w K Q := fun es' cl' l' hrun hrel hl => by
  have hbase := hr.base.upd hh (x' := .mp b l') (ρ id) (GExt.refl g) _root_.id (by rw [upd_id, map_mapHO_id]; exact hsame l') (hr.base.agree.setB hm.hg hm.hw (y := .map es' cl')) (hr.base.below.setB hm.hB hm.hw) (fun _ _ _ => rfl)
   (by rw [upd_id, map_mapHO_id]; exact ⟨es', cl', hm.hblk, hm.hB, (heap_set hm.hw).1, hrel, hm.hg⟩) (fun b' hb' => .inl hb')
   (fun b' hb' hnf => ⟨(heap_set hm.hw).2 b' (fun e => hnf (by rw [e]; exact hm.hblk.symm)), fun _ => rfl⟩)
  rw [upd_id, map_mapHO_id] at hbase
  unfold Oper.wp
  simp only [execOp, ho, e1, e2]
  have hrun' : (do Instr.mapUpdate t (.map (some b)) (.string k) (a.eval v); pure Next.skip : Sem Next).run P w = .ok .skip { w with heap := w.heap.setIfInBounds b (.map es' cl') } := by
   rw [Sem.run_bind, hrun]; rfl
  rw [hrun']
  simp only [Oper.upon, hd]
  rw [hl] at hK
  exact hK g ρ a _ (GExt.refl g) (hr.same hbase (hsame l'))
 rcases findNow_mp k 0 hm.hk with ⟨q1, -, q3⟩ | ⟨j, en, p', q1, q2, q3, -, -, -, q7⟩
 · refine fin (es.push { key := .string k, val := a.eval v, born := cl }) (cl + 1) (l ++ [(k, p)]) ?_ ?_ (q3 p)
   · unfold Instr.mapUpdate
     simp [run_underlying ht.hu, Go.MapKept.run_getObj_map hm.hw, hck, Go.MapKept.run_findKey ht.hk q1, Go.MapKept.run_setObj_map _ hm.hw, Result.andThen]
   · rw [Array.toList_push]
     exact hm.hk.snoc rfl ev3
 · have hj : es[j]? = some en := by simpa using q2
   refine fin (es.modify j fun e => { e with key := .string k, val := a.eval v }) cl (l.set j (k, p)) ?_ ?_ (q7 p)
   · unfold Instr.mapUpdate
     simp [run_underlying ht.hu, Go.MapKept.run_getObj_map hm.hw, hck, Go.MapKept.run_findKey ht.hk q1, Go.MapKept.run_setObj_map _ hm.hw, Result.andThen, hj, q3, run_keyThatStays (P := P) (w := w) hkey]
   · have : (es.modify j fun e => { e with key := .string k, val := a.eval v }).toList = es.toList.set j { en with key := .string k, val := a.eval v } := by
      apply List.ext_getElem?
      intro i
      rw [Array.getElem?_toList, Array.getElem?_modify, List.getElem?_set, Array.getElem?_toList]
      by_cases e : j = i
      · subst e
        have hlt : j < es.toList.length := (List.getElem?_eq_some_iff.1 q2).1
        have hlt' : j < es.size := by simpa using hlt
        have hje : es[j] = en := by simpa [Array.getElem?_eq_getElem hlt'] using hj
        simp [hlt', hje]
      · simp [e]
     rw [this]
     exact MpRel.set (e := { en with key := .string k, val := a.eval v }) rfl ev3 j hm.hk
end
end Go.Pv
/- The layer: the bytes of a text. -/
namespace Go.Pv
open Go
attribute [local semireducible] Go.Pv.Goal Go.Pv.Ops Go.Pv.PStep Go.Pv.EStep Go.Pv.KRets Go.Pv.PCalls Go.Pv.OpsG
section
variable {P : Program} {o : Oper} {ev : Operand → PV} {hp : List HO}
abbrev strP (s : ByteArray) : PV := .val (.string s)
def byteAt (s : ByteArray) (i : Nat) : Int := match s[i]? with
 | some b => (b.toNat : Int)
 | none => 0
theorem ps_len_str {t : TypeId} {x : Operand} {s : ByteArray} {tys : Array TypeId} (hu : P.underlying t = some .string) (ho : o.op = .call { callee := .builtin .len, args := #[x], argTypes := tys }) (htys : tys = #[t]) (h1 : ev x = strP s) : PStep P o ev hp (I s.size) :=
 .of_run fun w0 g ρ w av hb hx => by
  subst htys
  have e1 := val_of (hx x (by simp [ho, Op.operands, Call.operands])) h1
  exact ⟨.int .i64 s.size, by simp [execOp, ho, resolve, invoke, builtin, Builtin.len_, e1, run_underlying hu, goInt, go_sem], .val _⟩
theorem ps_index_str {t : TypeId} {x ix : Operand} {s : ByteArray} {i : Int} (hu : P.underlying t = some .string) (ho : o.op = .index t x ix) (h1 : ev x = strP s) (h2 : ev ix = I i) (h0 : 0 ≤ i) (hq : i.toNat < s.size) : PStep P o ev hp (Y (byteAt s i.toNat)) :=
 .of_run fun w0 g ρ w av hb hx => by
  have e1 := val_of (hx x (by simp [ho, Op.operands])) h1
  have e2 := val_of (hx ix (by simp [ho, Op.operands])) h2
  have e3 : s[i.toNat]? = some s[i.toNat] := getElem?_pos s i.toNat hq
  refine ⟨.int .u8 (byteAt s i.toNat), ?_, .val _⟩
  unfold byteAt
  rw [e3]
  simp [execOp, ho, e1, e2, Instr.index, asIntOf, run_underlying hu, h0, e3, go_sem]
theorem ps_subY {t rt : TypeId} {x y : Operand} {a b : Int} (ho : o.op = .binOp .sub t x y rt) (h1 : ev x = Y a) (h2 : ev y = Y b) : PStep P o ev hp (Y (IntKind.u8.wrap (a - b))) := ps_bin ho h1 h2 fun w => by simp [go_sem]
end
end Go.Pv
