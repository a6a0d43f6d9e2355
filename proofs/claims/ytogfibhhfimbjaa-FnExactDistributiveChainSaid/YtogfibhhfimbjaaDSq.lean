/- The plain laws of posets, lattices and points, and the values of the rows; the first walks. -/
import Derived.WalkKit
import Derived.Test.YtogfibhhfimbjaaDTy
namespace Go.Proofs.Ytogfibhhfimbjaa

theorem take_snoc {α : Type} {l : List α} {k : Nat} (d : α) (h : k < l.length) : l.take (k + 1) = l.take k ++ [l.getD k d] := by
  rw [List.take_succ_eq_append_getElem h]; simp [h]
theorem all_snoc {α : Type} (l : List α) (x : α) (p : α → Bool) : (l ++ [x]).all p = (l.all p && p x) := by simp
theorem any_snoc {α : Type} (l : List α) (x : α) (p : α → Bool) : (l ++ [x]).any p = (l.any p || p x) := by simp
theorem take_full {α : Type} {l : List α} {k : Nat} (h1 : k ≤ l.length) (h2 : ¬ (k : Int) < (l.length : Int)) : l.take k = l ∧ k = l.length := by
  have : k = l.length := by omega
  subst this; exact ⟨List.take_length, rfl⟩
/-- Where one place says no, not all say yes. -/
theorem all_false_at {α : Type} {l : List α} {k : Nat} {p : α → Bool} (d : α) (h : k < l.length) (hp : p (l.getD k d) = false) : l.all p = false := by
  rw [List.all_eq_false]
  refine ⟨l.getD k d, ?_, by simpa using hp⟩
  simp [h]
/-- For all numbers below n. -/
def allN (n : Nat) (p : Nat → Bool) : Bool := (List.range n).all p
def inB (x a b : Int) : Bool := decide (a ≤ x) && decide (x ≤ b)
def risB (l : List Int) (lo hi : Int) : Bool := allN l.length fun i => inB (l.getD i 0) lo hi && (i == 0 || decide (l.getD (i - 1) 0 < l.getD i 0))
def withinB (x y : List Int) : Bool := x.all fun a => y.contains a

theorem set_fill {α : Type} {l : List α} {n k : Nat} (d : α) (hn : n = l.length) (hk : k < n) : (l.take k ++ List.replicate (n - k) d).set k (l.getD k d) = l.take (k + 1) ++ List.replicate (n - (k + 1)) d := by
  have h1 : k < l.length := by omega
  rw [take_snoc d h1, List.set_append_right _ _ (by simp; omega)]
  have h2 : k - (l.take k).length = 0 := by simp; omega
  have h3 : n - k = (n - (k + 1)) + 1 := by omega
  rw [h2, h3, List.replicate_succ, List.set_cons_zero]
  simp

theorem set_fill' {α : Type} {l : List α} {n k : Nat} {v : α} (d : α) (hn : n = l.length) (hv : l[k]? = some v) : (l.take k ++ List.replicate (n - k) d).set k v = l.take (k + 1) ++ List.replicate (n - (k + 1)) d := by
  have hk : k < l.length := (List.getElem?_eq_some_iff.1 hv).1
  have := set_fill d hn (by omega : k < n)
  rwa [show l.getD k d = v by simp [hv]] at this
theorem drop_cons' {α : Type} {l : List α} {k : Nat} (d : α) (h : k < l.length) : l.drop k = l.getD k d :: l.drop (k + 1) := by
  rw [List.drop_eq_getElem_cons h]; simp [h]
theorem fill_full {α : Type} {l : List α} {n k : Nat} (d : α) (hn : n = l.length) (h1 : k ≤ n) (h2 : ¬ (k : Int) < (n : Int)) : l.take k ++ List.replicate (n - k) d = l := by
  have : k = l.length := by omega
  subst this
  simp [hn]
theorem eq_at {α : Type} {l m : List α} {k : Nat} (d : α) (h : l.getD k d ≠ m.getD k d) : ¬ l = m := fun e => h (by rw [e])

/-- What is left of a budget behind a list: it, or -1. -/
def szL (n : Nat) (left : Int) : Int := if left - n < 0 then -1 else left - n
def szLL : List (List Int) → Int → Int
  | [], left => left
  | l :: r, left => if szL l.length left < 0 then -1 else szLL r (szL l.length left)
def szSS (rows : List (List Int)) (left : Int) : Int := if left - rows.length < 0 then -1 else szLL rows (left - rows.length)
end Go.Proofs.Ytogfibhhfimbjaa

namespace Go.Proofs.Ytogfibhhfimbjaa

/-- A poset that is not too large to be measured. -/
def okP (rows : List (List Int)) : Prop := rows.length ≤ 1048576 ∧ ∀ r ∈ rows, r.length ≤ 1048576
theorem okP.row {rows : List (List Int)} (h : okP rows) (j : Nat) : (rows.getD j []).length ≤ 1048576 := by
  rw [List.getD_eq_getElem?_getD]
  cases hj : rows[j]? with
  | none => simp
  | some r => exact h.2 r (List.mem_of_getElem? hj)

def leqB (rows : List (List Int)) (x y : Int) : Bool := (rows.getD y.toNat []).contains x
def isB (rows : List (List Int)) (x : Int) : Bool := decide (0 ≤ x) && decide (x < (rows.length : Int))
def upTo (n : Nat) (p : Nat → Bool) : List Int := ((List.range n).filter p).map Int.ofNat
/-- The elements that are at most all of a list. -/
def lowsB (rows : List (List Int)) (some : List Int) (n : Nat) : List Int := upTo n fun z => some.all fun s => leqB rows (z : Int) s
def boundL (rows : List (List Int)) (some : List Int) : Int := ((lowsB rows some rows.length).find? fun l => withinB (lowsB rows some rows.length) (rows.getD l.toNat [])).getD (-1)
def dualL (rows : List (List Int)) : List (List Int) := (List.range rows.length).map fun (x : Nat) => upTo rows.length fun y => leqB rows (x : Int) (y : Int)
def good1 (rows : List (List Int)) (x : Nat) : Bool := risB (rows.getD x []) 0 ((rows.length : Int) - 1) && (rows.getD x []).contains (x : Int)
def good2 (rows : List (List Int)) (x : Nat) : Bool := (rows.getD x []).all fun y => !(!decide (y = (x : Int)) && (rows.getD y.toNat []).contains (x : Int)) && withinB (rows.getD y.toNat []) (rows.getD x [])
def goodP (rows : List (List Int)) : Bool := decide (rows.length ≤ 10) && (allN rows.length (good1 rows) && allN rows.length (good2 rows))

end Go.Proofs.Ytogfibhhfimbjaa

namespace Go.Proofs.Ytogfibhhfimbjaa
def pairOk (rows : List (List Int)) (x y : Nat) : Bool := !decide (boundL rows [(x : Int), (y : Int)] < 0) && !decide (boundL (dualL rows) [(x : Int), (y : Int)] < 0)
def goodL (rows : List (List Int)) : Bool := goodP rows && (!decide (rows.length = 0) && allN rows.length fun x => allN x fun y => pairOk rows x y)
end Go.Proofs.Ytogfibhhfimbjaa

namespace Go.Proofs.Ytogfibhhfimbjaa
open Go Go.Pv Go.Proofs
attribute [local bitvec_to_nat] St.put St.setObj St.ev killP killA killP1 killH mapHO renP renA ren1 killG killGA killG1 krowP krowA krow1 lendP lendA lend1 unv pinP pin1 elemsM viewM viewN viewV n_set_z n_set_s n_map_c n_map_n getD_z getD_s n_toNat n_cond_t n_cond_f n_len_c n_len_n n_app_c n_app_n n_take_s n_take_z n_drop_s n_drop_z n_get_z n_get_s view viewA view1 elems Nat.zero_add Nat.add_zero Bool.not_true Bool.not_false Nat.one_ne_zero Nat.mul_one

set_option maxRecDepth 100000 in
theorem in_c (x a b : Int) : PCalls Try.prog 86 [I x, I a, I b] (B (inB x a b)) := by
  refine pcalls1 Try.func86 rfl Try.ntmps86 rfl ?_
  simp only [List.length_cons, List.length_nil, Nat.reduceAdd, Nat.reduceSub, List.replicate_succ, List.replicate_zero, List.cons_append, List.nil_append]
  repeat' (first
| refine g_seq ?_
| refine g_region ?_
| (refine o_go rfl ?_; (first
| refine p_p (ps_move rfl) ?_
| refine p_p (ps_assign rfl) ?_
| refine p_p (ps_pick rfl rfl) ?_
| refine p_p (ps_leq rfl rfl rfl) ?_
| refine p_p (ps_geq rfl rfl rfl) ?_); refine ⟨_, (by dsimp only [bitvec_to_nat, Nat.reduceAdd, Nat.reduceMul, Nat.reduceBEq, reduceCtorEq]), ?_⟩)
| refine o_nil ?_
| (refine o_s rfl ?_; refine ⟨_, (by dsimp only [bitvec_to_nat, Nat.reduceAdd, Nat.reduceMul, Nat.reduceBEq, reduceCtorEq]), ?_⟩)
| (refine o_splitD rfl rfl rfl (fun hc => ?_) (fun hc => ?_) <;> first | (exfalso; omega) | dsimp only [List.set_cons_zero, List.set_cons_succ])
| refine kr1 ?_
| refine krB rfl ?_
| refine g_ret ?_)
  · unfold inB; rw [decide_eq_true hc]; rfl
  · unfold inB; rw [decide_eq_false hc]; rfl

def inSizeB (xs : List Int) (n : Int) : Bool := xs.all fun x => !(decide (x < 0) || decide (n ≤ x))
set_option maxRecDepth 100000 in
theorem inSize_c (xs : List Int) (n : Int) (hl : xs.length ≤ 1048576) : PCalls Try.prog 100 [ints xs, I n] (B (inSizeB xs n)) := by
  refine pcalls1 Try.func100 rfl Try.ntmps100 rfl ?_
  simp only [List.length_cons, List.length_nil, Nat.reduceAdd, Nat.reduceSub, List.replicate_succ, List.replicate_zero, List.cons_append, List.nil_append]
  repeat' (first
| refine g_seq ?_
| refine g_block ?_
| refine g_region ?_
| (refine o_go rfl ?_; (first
| refine p_p (ps_move rfl) ?_
| refine p_p (ps_assign rfl) ?_
| refine p_p (ps_lenM rfl rfl rfl) ?_); refine ⟨_, (by dsimp only [bitvec_to_nat, Nat.reduceAdd, Nat.reduceMul, Nat.reduceBEq, reduceCtorEq]), ?_⟩)
| refine o_nil ?_)
  refine g_loopT (α := Nat) (fun k => [(9, I (k : Int))]) (fun _ => []) (fun k => k ≤ xs.length ∧ (xs.take k).all (fun x => !(decide (x < 0) || decide (n ≤ x))) = true) (fun k => xs.length - k) 0 (by simp only [havoc, dsts, List.filterMap_cons, List.filterMap_nil, List.foldl_cons, List.foldl_nil, List.cons_append, List.nil_append, List.append_nil, List.set_cons_succ, List.set_cons_zero]; exact rfl) ⟨by omega, rfl⟩ ⟨rfl, trivial⟩ rfl ?_
  rintro k ⟨hk, hall⟩
  dsimp only [setMany, List.set_cons_zero, List.set_cons_succ]
  repeat' (first
| refine g_seq ?_
| refine g_block ?_
| refine g_region ?_
| (refine o_go rfl ?_; (first
| refine p_p (ps_move rfl) ?_
| refine p_p (ps_assign rfl) ?_
| refine p_p (ps_load_cell rfl rfl) ?_
| refine p_p (ps_index rfl rfl rfl (by omega) (by first | exact idx_I (by omega) | exact idx_B (by omega) | exact idx_ints (by omega) | exact idx_bools (by omega) | exact idx_intss (by omega) | rfl) (by exact rfl)) ?_
| refine p_p (ps_lss rfl rfl rfl) ?_
| refine p_p (ps_add rfl rfl rfl (by constructor <;> omega)) ?_
| refine p_p (ps_pick rfl rfl) ?_
| refine p_p (ps_geq rfl rfl rfl) ?_); refine ⟨_, (by dsimp only [bitvec_to_nat, Nat.reduceAdd, Nat.reduceMul, Nat.reduceBEq, reduceCtorEq]), ?_⟩)
| refine o_nil ?_
| (refine o_s rfl ?_; refine ⟨_, (by dsimp only [bitvec_to_nat, Nat.reduceAdd, Nat.reduceMul, Nat.reduceBEq, reduceCtorEq]), ?_⟩)
| (refine o_splitD rfl rfl rfl (fun hc => ?_) (fun hc => ?_) <;> first | (exfalso; omega) | dsimp only [List.set_cons_zero, List.set_cons_succ])
| refine g_condT rfl ?_
| (refine g_condD rfl (fun hc => ?_) (fun hc => ?_) <;> try (exfalso; omega))
| refine kr1 ?_
| refine krB rfl ?_
| refine g_skip ?_
| refine g_exit ?_
| refine g_ret ?_)
  · exact Eq.symm (all_false_at (k := k) 0 (by omega) (by rw [decide_eq_true hc]; rfl))
  · exact Eq.symm (all_false_at (k := k) 0 (by omega) (by rw [decide_eq_true hc, Bool.or_true]; rfl))
  · rename_i h2
    refine k_round (k + 1) ⟨by omega, ?_⟩ (by omega) (by repeat (first | exact trivial | refine ⟨.inl rfl, ?_⟩ | refine ⟨.inr rfl, ?_⟩)) ⟨rfl, trivial⟩ (hpLe_nil _)
    rw [take_snoc 0 (by omega), all_snoc, hall, decide_eq_false h2, decide_eq_false hc]; rfl
  · rw [(take_full hk hc).1] at hall
    exact hall.symm
end Go.Proofs.Ytogfibhhfimbjaa

namespace Go.Proofs.Ytogfibhhfimbjaa

theorem szLL_ok : ∀ (rows : List (List Int)) (left : Int), left ≤ 1048576 → 0 ≤ szLL rows left → ∀ r ∈ rows, r.length ≤ 1048576
  | [], _, _, _, r, hr => by simp at hr
  | a :: rows, left, hl, h, r, hr => by
    unfold szLL at h
    split at h
    · omega
    · rename_i h1
      have hb : szL a.length left ≤ 1048576 ∧ a.length ≤ 1048576 := by unfold szL at *; split at h1 <;> omega
      rcases List.mem_cons.1 hr with rfl | hr
      · exact hb.2
      · exact szLL_ok rows _ hb.1 h r hr
end Go.Proofs.Ytogfibhhfimbjaa

namespace Go.Proofs.Ytogfibhhfimbjaa

def marks (k : Int) (n : Nat) : List Int := (List.range n).map fun (i : Nat) => k + (i : Int)
theorem length_marks (k : Int) (n : Nat) : (marks k n).length = n := by simp [marks]
theorem marks_succ (k : Int) (n : Nat) : marks k (n + 1) = marks k n ++ [k + (n : Int)] := by simp [marks, List.range_succ]
theorem getD_marks (k : Int) {n i : Nat} (h : i < n) : (marks k n).getD i 0 = k + (i : Int) := by simp [marks, h]
/-- How many numbers lie in lists of numbers. -/
def tot (rows : List (List Int)) : Nat := (rows.map List.length).sum
theorem tot_snoc (l : List (List Int)) (r : List Int) : tot (l ++ [r]) = tot l + r.length := by simp [tot]
theorem tot_app (l m : List (List Int)) : tot (l ++ m) = tot l + tot m := by simp [tot]
theorem tot_take {rows : List (List Int)} {i : Nat} (h : i < rows.length) : tot (rows.take (i + 1)) = tot (rows.take i) + (rows.getD i []).length := by
  rw [take_snoc [] h, tot_snoc]
theorem tot_take_le (rows : List (List Int)) (i : Nat) : tot (rows.take i) ≤ tot rows := by
  have := tot_app (rows.take i) (rows.drop i)
  rw [List.take_append_drop] at this
  omega
def marksS : Int → List (List Int) → List (List Int)
  | _, [] => []
  | k, r :: rs => marks k r.length :: marksS (k + (r.length : Int)) rs
theorem length_marksS : ∀ (k : Int) (rows : List (List Int)), (marksS k rows).length = rows.length
  | _, [] => rfl
  | k, r :: rs => by simp only [marksS, List.length_cons, length_marksS]
theorem marksS_snoc : ∀ (k : Int) (l : List (List Int)) (r : List Int), marksS k (l ++ [r]) = marksS k l ++ [marks (k + (tot l : Int)) r.length]
  | k, [], r => by simp [marksS, tot]
  | k, a :: l, r => by
    have e : k + (tot (a :: l) : Int) = k + (a.length : Int) + (tot l : Int) := by simp [tot]; omega
    rw [e, List.cons_append, marksS, marksS_snoc _ l r]
    rfl
theorem set_mid {α : Type} (l m : List α) (a b : α) : (l ++ a :: m).set l.length b = l ++ b :: m := by simp
/-- One more row is marked. -/
theorem marksS_set {k : Int} {rows : List (List Int)} {i : Nat} (h : i < rows.length) :
    (marksS k (rows.take i) ++ rows.drop i).set i (marks (k + (tot (rows.take i) : Int)) (rows.getD i []).length) = marksS k (rows.take (i + 1)) ++ rows.drop (i + 1) := by
  have hl : (marksS k (rows.take i)).length = i := by rw [length_marksS]; simp; omega
  rw [take_snoc [] h, marksS_snoc, drop_cons' [] h, List.append_assoc]
  have := set_mid (marksS k (rows.take i)) (rows.drop (i + 1)) (rows.getD i []) (marks (k + (tot (rows.take i) : Int)) (rows.getD i []).length)
  rw [hl] at this
  exact this
theorem marksS_at {k : Int} {rows : List (List Int)} {i : Nat} (h : i < rows.length) : (marksS k (rows.take i) ++ rows.drop i).getD i [] = rows.getD i [] := by
  have hl : (marksS k (rows.take i)).length = i := by rw [length_marksS]; simp; omega
  rw [List.getD_eq_getElem?_getD, List.getElem?_append_right (by omega), hl, Nat.sub_self, drop_cons' [] h]; rfl
theorem marksS_get : ∀ (k : Int) (rows : List (List Int)) (i : Nat), i < rows.length → (marksS k rows).getD i [] = marks (k + (tot (rows.take i) : Int)) (rows.getD i []).length
  | k, [], i, h => by simp at h
  | k, r :: rs, 0, _ => by simp [marksS, tot]
  | k, r :: rs, i + 1, h => by
    have := marksS_get (k + (r.length : Int)) rs i (by simpa using h)
    simp only [marksS, List.getD_cons_succ, this, List.take_succ_cons]
    congr 1
    simp [tot]; omega
theorem szLL_tot : ∀ (rows : List (List Int)) (left : Int), 0 ≤ left → ¬ szLL rows left < 0 → (tot rows : Int) ≤ left
  | [], left, h, _ => by simp [tot]; exact h
  | r :: rs, left, h, h' => by
    simp only [szLL] at h'
    split at h'
    · omega
    · rename_i hs
      have h0 : 0 ≤ szL r.length left := by omega
      have := szLL_tot rs _ h0 h'
      unfold szL at this h0
      have e : tot (r :: rs) = r.length + tot rs := by simp [tot]
      split at this <;> omega
theorem sz_okL {rows : List (List Int)} {left : Int} (h0 : 0 ≤ left) (h1 : left ≤ 1048576) (h : ¬ szSS rows left < 0) : okP rows := by
  unfold szSS at h
  split at h
  · omega
  · rename_i h2
    exact ⟨by omega, szLL_ok rows (left - rows.length) (by omega) (by omega)⟩
end Go.Proofs.Ytogfibhhfimbjaa

namespace Go.Proofs.Ytogfibhhfimbjaa
def two (rows : List (List Int)) (x y : Int) : Bool := goodL rows && isB rows x && isB rows y
end Go.Proofs.Ytogfibhhfimbjaa

namespace Go.Proofs.Ytogfibhhfimbjaa
def lessB (rows : List (List Int)) (x y : Int) : Bool := !decide (x = y) && leqB rows x y
def covP (rows : List (List Int)) (x y : Int) (z : Nat) : Bool := !(lessB rows x (z : Int) && lessB rows (z : Int) y)
def coversB (rows : List (List Int)) (x y : Int) : Bool := lessB rows x y && allN rows.length (covP rows x y)
end Go.Proofs.Ytogfibhhfimbjaa

namespace Go.Proofs.Ytogfibhhfimbjaa
/-- How many elements are above one. -/
def hN (rows : List (List Int)) (x : Int) : Nat := (List.range rows.length).countP fun (z : Nat) => lessB rows x (z : Int)
end Go.Proofs.Ytogfibhhfimbjaa

namespace Go.Proofs.Ytogfibhhfimbjaa

def irrB (rows : List (List Int)) (y : Nat) : Bool := decide (((upTo rows.length fun x => coversB rows (x : Int) (y : Int)).length : Int) = 1)
def irrL (rows : List (List Int)) : List Int := upTo rows.length (irrB rows)
def own (rows : List (List Int)) (i : Nat) : Int := (irrL rows).getD i 0
end Go.Proofs.Ytogfibhhfimbjaa

namespace Go.Proofs.Ytogfibhhfimbjaa
theorem tot_le {m : Nat} : ∀ {rows : List (List Int)}, (∀ r ∈ rows, r.length ≤ m) → tot rows ≤ rows.length * m
  | [], _ => by simp [tot]
  | r :: l, h => by
    have h1 := h r (List.mem_cons_self ..)
    have h2 := tot_le (rows := l) fun r hr => h r (List.mem_cons_of_mem _ hr)
    have e : tot (r :: l) = r.length + tot l := by simp [tot]
    rw [e, List.length_cons, Nat.add_mul]
    omega
end Go.Proofs.Ytogfibhhfimbjaa
