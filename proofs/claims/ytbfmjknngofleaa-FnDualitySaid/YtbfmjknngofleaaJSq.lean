/- The plain laws of posets, lattices and points, and the values of the rows; the first walks. -/
import Derived.WalkKit
import Derived.Test.YtbfmjknngofleaaJTy
namespace Go.Proofs.Ytbfmjknngofleaa

theorem take_snoc {α : Type} {l : List α} {k : Nat} (d : α) (h : k < l.length) : l.take (k + 1) = l.take k ++ [l.getD k d] := by
  rw [List.take_succ_eq_append_getElem h]; simp [h]
theorem contains_snoc (l : List Int) (x n : Int) : (l ++ [x]).contains n = (l.contains n || decide (x = n)) := by
  rw [Bool.eq_iff_iff, Bool.or_eq_true, decide_eq_true_eq, List.contains_iff_mem, List.contains_iff_mem, List.mem_append, List.mem_singleton]
  exact or_congr Iff.rfl eq_comm
theorem all_snoc {α : Type} (l : List α) (x : α) (p : α → Bool) : (l ++ [x]).all p = (l.all p && p x) := by simp
theorem any_snoc {α : Type} (l : List α) (x : α) (p : α → Bool) : (l ++ [x]).any p = (l.any p || p x) := by simp
theorem take_full {α : Type} {l : List α} {k : Nat} (h1 : k ≤ l.length) (h2 : ¬ (k : Int) < (l.length : Int)) : l.take k = l ∧ k = l.length := by
  have : k = l.length := by omega
  subst this; exact ⟨List.take_length, rfl⟩
/-- Where one place says no, not all say yes. -/
theorem all_false_at {α : Type} {l : List α} {k : Nat} {p : α → Bool} (d : α) (h : k < l.length) (hp : p (l.getD k d) = false) : l.all p = false := by
  rw [List.all_eq_false]
  refine ⟨l.getD k d, ?_, by simpa using hp⟩
  simp [h]
theorem contains_at {l : List Int} {k : Nat} {n : Int} (h : k < l.length) (hp : l.getD k 0 = n) : l.contains n = true := by
  rw [List.contains_iff_mem, ← hp]
  simp [h]

/-- For all numbers below n. -/
def allN (n : Nat) (p : Nat → Bool) : Bool := (List.range n).all p
theorem allN_succ (n : Nat) (p : Nat → Bool) : allN (n + 1) p = (allN n p && p n) := by simp [allN, List.range_succ]
theorem allN_false {n k : Nat} {p : Nat → Bool} (hk : k < n) (h : p k = false) : allN n p = false := by
  unfold allN; rw [List.all_eq_false]; exact ⟨k, List.mem_range.2 hk, by simp [h]⟩
theorem allN_iff {n : Nat} {p : Nat → Bool} : allN n p = true ↔ ∀ k, k < n → p k = true := by simp [allN]
theorem allN_full {n k : Nat} {p : Nat → Bool} (h : allN k p = true) (h1 : k ≤ n) (h2 : ¬ (k : Int) < (n : Int)) : allN n p = true := by
  have : k = n := by omega
  subst this; exact h

def inB (x a b : Int) : Bool := decide (a ≤ x) && decide (x ≤ b)
def risB (l : List Int) (lo hi : Int) : Bool := allN l.length fun i => inB (l.getD i 0) lo hi && (i == 0 || decide (l.getD (i - 1) 0 < l.getD i 0))
def withinB (x y : List Int) : Bool := x.all fun a => y.contains a

theorem drop_cons' {α : Type} {l : List α} {k : Nat} (d : α) (h : k < l.length) : l.drop k = l.getD k d :: l.drop (k + 1) := by
  rw [List.drop_eq_getElem_cons h]; simp [h]
theorem eq_at {α : Type} {l m : List α} {k : Nat} (d : α) (h : l.getD k d ≠ m.getD k d) : ¬ l = m := fun e => h (by rw [e])

end Go.Proofs.Ytbfmjknngofleaa

namespace Go.Proofs.Ytbfmjknngofleaa

/-- A poset that is not too large to be measured. -/
def okP (rows : List (List Int)) : Prop := rows.length ≤ 1048576 ∧ ∀ r ∈ rows, r.length ≤ 1048576
theorem okP.row {rows : List (List Int)} (h : okP rows) (j : Nat) : (rows.getD j []).length ≤ 1048576 := by
  rw [List.getD_eq_getElem?_getD]
  cases hj : rows[j]? with
  | none => simp
  | some r => exact h.2 r (List.mem_of_getElem? hj)

def leqB (rows : List (List Int)) (x y : Int) : Bool := (rows.getD y.toNat []).contains x
def isB (rows : List (List Int)) (x : Int) : Bool := decide (0 ≤ x) && decide (x < (rows.length : Int))
def upTo (n : Nat) (p : Nat → Bool) : List Int := ((List.range n).filter p).map Int.ofNat
theorem upTo_succ (n : Nat) (p : Nat → Bool) : upTo (n + 1) p = upTo n p ++ (if p n = true then [(n : Int)] else []) := by
  unfold upTo
  rw [List.range_succ, List.filter_append, List.map_append]
  congr 1
  by_cases h : p n = true <;> simp [h]
theorem upTo_length (n : Nat) (p : Nat → Bool) : (upTo n p).length ≤ n := by
  unfold upTo
  rw [List.length_map]
  exact Nat.le_trans (List.length_filter_le _ _) (by simp)
theorem upTo_mem {n : Nat} {p : Nat → Bool} {x : Int} : x ∈ upTo n p ↔ 0 ≤ x ∧ x < (n : Int) ∧ p x.toNat = true := by
  unfold upTo
  rw [List.mem_map]
  constructor
  · rintro ⟨a, ha, rfl⟩
    rw [List.mem_filter, List.mem_range] at ha
    refine ⟨by simp, by simpa using ha.1, by simpa using ha.2⟩
  · rintro ⟨h0, h1, h2⟩
    refine ⟨x.toNat, ?_, by simp; omega⟩
    rw [List.mem_filter, List.mem_range]
    exact ⟨by omega, h2⟩
theorem upTo_getD {n : Nat} {p : Nat → Bool} {i : Nat} (h : i < (upTo n p).length) : 0 ≤ (upTo n p).getD i 0 ∧ (upTo n p).getD i 0 < (n : Int) ∧ p ((upTo n p).getD i 0).toNat = true := by
  have : (upTo n p).getD i 0 ∈ upTo n p := by
    rw [List.getD_eq_getElem?_getD, List.getElem?_eq_getElem h]; exact List.getElem_mem h
  exact upTo_mem.1 this

/-- The elements that are at most all of a list. -/
def lowsB (rows : List (List Int)) (some : List Int) (n : Nat) : List Int := upTo n fun z => some.all fun s => leqB rows (z : Int) s
theorem lowsB_getD {rows : List (List Int)} {some : List Int} {n i : Nat} (h : i < (lowsB rows some n).length) : 0 ≤ (lowsB rows some n).getD i 0 ∧ (lowsB rows some n).getD i 0 < (n : Int) ∧ (some.all fun s => leqB rows (((lowsB rows some n).getD i 0).toNat : Int) s) = true := upTo_getD h
def boundL (rows : List (List Int)) (some : List Int) : Int := ((lowsB rows some rows.length).find? fun l => withinB (lowsB rows some rows.length) (rows.getD l.toNat [])).getD (-1)
def dualL (rows : List (List Int)) : List (List Int) := (List.range rows.length).map fun (x : Nat) => upTo rows.length fun y => leqB rows (x : Int) (y : Int)
def good1 (rows : List (List Int)) (x : Nat) : Bool := risB (rows.getD x []) 0 ((rows.length : Int) - 1) && (rows.getD x []).contains (x : Int)
def good2 (rows : List (List Int)) (x : Nat) : Bool := (rows.getD x []).all fun y => !(!decide (y = (x : Int)) && (rows.getD y.toNat []).contains (x : Int)) && withinB (rows.getD y.toNat []) (rows.getD x [])
def goodP (rows : List (List Int)) : Bool := decide (rows.length ≤ 10) && (allN rows.length (good1 rows) && allN rows.length (good2 rows))

theorem find_none_take {α : Type} {l : List α} {p : α → Bool} {i : Nat} (h : (l.take i).find? p = none) (d : α) (hi : i < l.length) (hp : p (l.getD i d) = true) : l.find? p = some (l.getD i d) := by
  have e : l = l.take i ++ l.drop i := (List.take_append_drop i l).symm
  rw [e, List.find?_append, h, drop_cons' d hi, List.find?_cons_of_pos hp]
  rw [← drop_cons' d hi, ← e]; rfl
theorem find_take_succ {α : Type} {l : List α} {p : α → Bool} {i : Nat} (h : (l.take i).find? p = none) (d : α) (hi : i < l.length) (hp : p (l.getD i d) = false) : (l.take (i + 1)).find? p = none := by
  rw [take_snoc d hi, List.find?_append, h, List.find?_cons_of_neg (by rw [hp]; decide)]; rfl
end Go.Proofs.Ytbfmjknngofleaa

namespace Go.Proofs.Ytbfmjknngofleaa

theorem risB_mem {l : List Int} {lo hi : Int} (h : risB l lo hi = true) {i : Nat} (hi' : i < l.length) : lo ≤ l.getD i 0 ∧ l.getD i 0 ≤ hi := by
  have := allN_iff.1 h i hi'
  simp only [Bool.and_eq_true, inB, decide_eq_true_eq] at this
  exact this.1
theorem okP_dual {rows : List (List Int)} (h : okP rows) : okP (dualL rows) := by
  refine ⟨by simp only [dualL, List.length_map, List.length_range]; exact h.1, fun r hr => ?_⟩
  simp only [dualL, List.mem_map] at hr
  obtain ⟨x, -, rfl⟩ := hr
  exact Nat.le_trans (upTo_length _ _) h.1
theorem length_dual (rows : List (List Int)) : (dualL rows).length = rows.length := by simp [dualL]
def pairOk (rows : List (List Int)) (x y : Nat) : Bool := !decide (boundL rows [(x : Int), (y : Int)] < 0) && !decide (boundL (dualL rows) [(x : Int), (y : Int)] < 0)
def goodL (rows : List (List Int)) : Bool := goodP rows && (!decide (rows.length = 0) && allN rows.length fun x => allN x fun y => pairOk rows x y)
def meetL (rows : List (List Int)) (x y : Int) : Int := boundL rows [x, y]
def joinL (rows : List (List Int)) (x y : Int) : Int := boundL (dualL rows) [x, y]
end Go.Proofs.Ytbfmjknngofleaa

namespace Go.Proofs.Ytbfmjknngofleaa

theorem boundL_range (rows : List (List Int)) (some : List Int) : boundL rows some = -1 ∨ (0 ≤ boundL rows some ∧ boundL rows some < (rows.length : Int)) := by
  unfold boundL
  cases h : (lowsB rows some rows.length).find? fun l => withinB (lowsB rows some rows.length) (rows.getD l.toNat []) with
  | none => exact .inl rfl
  | some l =>
    have := upTo_mem.1 (List.mem_of_find?_eq_some h)
    exact .inr ⟨this.1, this.2.1⟩
theorem bound_same {rows : List (List Int)} {x : Int} (hx : 0 ≤ x ∧ x < (rows.length : Int)) (hr : leqB rows x x = true) : 0 ≤ boundL rows [x, x] := by
  rcases boundL_range rows [x, x] with h | h
  · exfalso
    have hxx : (x.toNat : Int) = x := by omega
    have hmem : x ∈ lowsB rows [x, x] rows.length := upTo_mem.2 ⟨hx.1, hx.2, by rw [hxx]; simp [hr]⟩
    unfold boundL at h
    cases hf : (lowsB rows [x, x] rows.length).find? fun l => withinB (lowsB rows [x, x] rows.length) (rows.getD l.toNat []) with
    | some l =>
      rw [hf] at h
      have := upTo_mem.1 (List.mem_of_find?_eq_some hf)
      simp only [Option.getD_some] at h
      omega
    | none =>
      rw [List.find?_eq_none] at hf
      refine hf x hmem ?_
      unfold withinB
      rw [List.all_eq_true]
      intro a ha
      obtain ⟨a0, a1, a2⟩ := upTo_mem.1 ha
      have haa : (a.toNat : Int) = a := by omega
      rw [haa] at a2
      simp only [List.all_cons, List.all_nil, Bool.and_true, Bool.and_self] at a2
      exact a2
  · exact h.1
theorem bound_comm (rows : List (List Int)) (x y : Int) : boundL rows [x, y] = boundL rows [y, x] := by
  have h : ∀ n, lowsB rows [x, y] n = lowsB rows [y, x] n := fun n => by
    unfold lowsB
    congr 1
    funext z
    simp [Bool.and_comm]
  unfold boundL
  rw [h]
theorem dual_getD {rows : List (List Int)} {x : Nat} (h : x < rows.length) : (dualL rows).getD x [] = upTo rows.length fun y => leqB rows (x : Int) (y : Int) := by
  unfold dualL
  rw [List.getD_eq_getElem?_getD, List.getElem?_map, List.getElem?_range h]; rfl
theorem leq_dual {rows : List (List Int)} {x y : Int} (hx : 0 ≤ x ∧ x < (rows.length : Int)) (hy : 0 ≤ y ∧ y < (rows.length : Int)) : leqB (dualL rows) x y = leqB rows y x := by
  have e1 : (x.toNat : Int) = x := by omega
  have e2 : (y.toNat : Int) = y := by omega
  rw [Bool.eq_iff_iff]
  show ((dualL rows).getD y.toNat []).contains x = true ↔ _
  rw [dual_getD (by omega), List.contains_iff_mem, upTo_mem, e1, e2]
  exact ⟨fun h => h.2.2, fun h => ⟨hx.1, hx.2, h⟩⟩

theorem goodL_P {rows : List (List Int)} (h : goodL rows = true) : goodP rows = true := by unfold goodL at h; rw [Bool.and_eq_true] at h; exact h.1
theorem goodP_1 {rows : List (List Int)} (h : goodP rows = true) {x : Nat} (hx : x < rows.length) : good1 rows x = true := by
  unfold goodP at h; simp only [Bool.and_eq_true] at h; exact allN_iff.1 h.2.1 x hx
theorem good_mem {rows : List (List Int)} (h : goodP rows = true) {x i : Nat} (hx : x < rows.length) (hi : i < (rows.getD x []).length) : 0 ≤ (rows.getD x []).getD i 0 ∧ (rows.getD x []).getD i 0 < (rows.length : Int) := by
  have := goodP_1 h hx
  unfold good1 at this
  rw [Bool.and_eq_true] at this
  have := risB_mem this.1 hi
  omega
theorem good_refl {rows : List (List Int)} (h : goodP rows = true) {x : Int} (hx : 0 ≤ x ∧ x < (rows.length : Int)) : leqB rows x x = true := by
  have := goodP_1 h (x := x.toNat) (by omega)
  unfold good1 at this
  rw [Bool.and_eq_true, show (x.toNat : Int) = x by omega] at this
  exact this.2
theorem good_pair {rows : List (List Int)} (h : goodL rows = true) {x y : Nat} (hy : y < x) (hx : x < rows.length) : 0 ≤ boundL rows [(x : Int), (y : Int)] ∧ 0 ≤ boundL (dualL rows) [(x : Int), (y : Int)] := by
  unfold goodL at h
  simp only [Bool.and_eq_true] at h
  have := allN_iff.1 (allN_iff.1 h.2.2 x hx) y hy
  unfold pairOk at this
  simp only [Bool.and_eq_true, Bool.not_eq_true', decide_eq_false_iff_not] at this
  omega
theorem good_bounds {rows : List (List Int)} (h : goodL rows = true) {x y : Int} (hx : 0 ≤ x ∧ x < (rows.length : Int)) (hy : 0 ≤ y ∧ y < (rows.length : Int)) : 0 ≤ boundL rows [x, y] ∧ 0 ≤ boundL (dualL rows) [x, y] := by
  have hP := goodL_P h
  obtain ⟨a, rfl⟩ : ∃ a : Nat, x = (a : Int) := ⟨x.toNat, by omega⟩
  obtain ⟨b, rfl⟩ : ∃ b : Nat, y = (b : Int) := ⟨y.toNat, by omega⟩
  rcases Nat.lt_trichotomy b a with hlt | rfl | hlt
  · exact good_pair h hlt (by omega)
  · refine ⟨bound_same hx (good_refl hP hx), bound_same (by rw [length_dual]; exact hx) ?_⟩
    rw [leq_dual hx hx]; exact good_refl hP hx
  · rw [bound_comm rows, bound_comm (dualL rows)]
    exact good_pair h hlt (by omega)
theorem meet_in {rows : List (List Int)} (h : goodL rows = true) {x y : Int} (hx : 0 ≤ x ∧ x < (rows.length : Int)) (hy : 0 ≤ y ∧ y < (rows.length : Int)) : 0 ≤ meetL rows x y ∧ meetL rows x y < (rows.length : Int) := by
  have h1 := (good_bounds h hx hy).1
  unfold meetL
  rcases boundL_range rows [x, y] with h2 | h2
  · omega
  · exact h2
theorem join_in {rows : List (List Int)} (h : goodL rows = true) {x y : Int} (hx : 0 ≤ x ∧ x < (rows.length : Int)) (hy : 0 ≤ y ∧ y < (rows.length : Int)) : 0 ≤ joinL rows x y ∧ joinL rows x y < (rows.length : Int) := by
  have h1 := (good_bounds h hx hy).2
  unfold joinL
  rcases boundL_range (dualL rows) [x, y] with h2 | h2
  · omega
  · rw [length_dual] at h2; exact h2

end Go.Proofs.Ytbfmjknngofleaa

namespace Go.Proofs.Ytbfmjknngofleaa

def tabB (t : List (List Bool)) (x y : Nat) : Bool := (t.getD x []).getD y false
/-- A square table that is not large. -/
def okT (t : List (List Bool)) : Prop := t.length ≤ 10 ∧ ∀ x, x < t.length → (t.getD x []).length = t.length
def ordZ (t : List (List Bool)) (x y z : Nat) : Bool := !(tabB t x y && tabB t y z && !tabB t x z)
def ordY (t : List (List Bool)) (x y : Nat) : Bool := !(!decide ((x : Int) = (y : Int)) && tabB t x y && tabB t y x) && allN t.length fun z => ordZ t x y z
def ordX (t : List (List Bool)) (x : Nat) : Bool := tabB t x x && allN t.length fun y => ordY t x y
def orderB (t : List (List Bool)) : Bool := allN t.length fun x => ordX t x
/-- The greatest of a list. -/
def greatL (t : List (List Bool)) (l : List Int) : Int := (l.find? fun x => l.all fun y => tabB t y.toNat x.toNat).getD (-1)
end Go.Proofs.Ytbfmjknngofleaa

namespace Go.Proofs.Ytbfmjknngofleaa
def mT (t : List (List Bool)) (x y : Nat) : Int := greatL t (upTo t.length fun z => tabB t z x && tabB t z y)
def rowT (t : List (List Bool)) (x k : Nat) : List Int := (List.range k).map fun y => mT t x y
def meetsT (t : List (List Bool)) (k : Nat) : List (List Int) := (List.range k).map fun x => rowT t x t.length
def mOk (t : List (List Bool)) : Bool := allN t.length fun x => allN t.length fun y => !decide (mT t x y < 0)
theorem rowT_succ (t : List (List Bool)) (x k : Nat) : rowT t x (k + 1) = rowT t x k ++ [mT t x k] := by unfold rowT; rw [List.range_succ, List.map_append]; rfl
theorem meetsT_succ (t : List (List Bool)) (k : Nat) : meetsT t (k + 1) = meetsT t k ++ [rowT t k t.length] := by unfold meetsT; rw [List.range_succ, List.map_append]; rfl
theorem length_rowT (t : List (List Bool)) (x k : Nat) : (rowT t x k).length = k := by simp [rowT]
theorem length_meetsT (t : List (List Bool)) (k : Nat) : (meetsT t k).length = k := by simp [meetsT]
end Go.Proofs.Ytbfmjknngofleaa

namespace Go.Proofs.Ytbfmjknngofleaa

def tabOf (rows : List (List Int)) : List (List Bool) := (List.range rows.length).map fun (x : Nat) => (List.range rows.length).map fun (y : Nat) => leqB rows (x : Int) (y : Int)
def dualT (t : List (List Bool)) : List (List Bool) := (List.range t.length).map fun (x : Nat) => (List.range t.length).map fun (y : Nat) => tabB t y x
theorem length_tabOf (rows : List (List Int)) : (tabOf rows).length = rows.length := by simp [tabOf]
theorem getD_map_range {α : Type} (n : Nat) (f : Nat → α) (d : α) {x : Nat} (h : x < n) : ((List.range n).map f).getD x d = f x := by
  rw [List.getD_eq_getElem?_getD, List.getElem?_map, List.getElem?_range h]; rfl
theorem tabB_of (rows : List (List Int)) {x y : Nat} (hx : x < rows.length) (hy : y < rows.length) : tabB (tabOf rows) x y = leqB rows (x : Int) (y : Int) := by
  unfold tabB tabOf
  rw [getD_map_range _ _ _ hx, getD_map_range _ _ _ hy]
theorem okT_of {rows : List (List Int)} (h : rows.length ≤ 10) : okT (tabOf rows) := by
  refine ⟨by rw [length_tabOf]; exact h, fun x hx => ?_⟩
  rw [length_tabOf] at hx
  unfold tabOf
  rw [getD_map_range _ _ _ hx]
  simp
theorem dual_tab (rows : List (List Int)) : dualT (tabOf rows) = tabOf (dualL rows) := by
  unfold dualT
  rw [length_tabOf]
  conv => rhs; unfold tabOf
  rw [length_dual]
  refine List.map_congr_left fun x hx => List.map_congr_left fun y hy => ?_
  have hx := List.mem_range.1 hx
  have hy := List.mem_range.1 hy
  rw [tabB_of rows hy hx, leq_dual ⟨by omega, by omega⟩ ⟨by omega, by omega⟩]
theorem upTo_congr {n : Nat} {p q : Nat → Bool} (h : ∀ z, z < n → p z = q z) : upTo n p = upTo n q := by
  unfold upTo
  congr 1
  exact List.filter_congr fun z hz => h z (List.mem_range.1 hz)
theorem find_congr {α : Type} {p q : α → Bool} : ∀ {l : List α}, (∀ x ∈ l, p x = q x) → l.find? p = l.find? q
  | [], _ => rfl
  | a :: l, h => by
    rw [List.find?_cons, List.find?_cons, h a (by simp), find_congr fun x hx => h x (by simp [hx])]
theorem all_congr' {α : Type} {p q : α → Bool} : ∀ {l : List α}, (∀ x ∈ l, p x = q x) → l.all p = l.all q
  | [], _ => rfl
  | a :: l, h => by
    rw [List.all_cons, List.all_cons, h a (by simp), all_congr' fun x hx => h x (by simp [hx])]
theorem mT_of (rows : List (List Int)) {x y : Nat} (hx : x < rows.length) (hy : y < rows.length) : mT (tabOf rows) x y = boundL rows [(x : Int), (y : Int)] := by
  unfold mT boundL
  rw [length_tabOf]
  have e : (upTo rows.length fun z => tabB (tabOf rows) z x && tabB (tabOf rows) z y) = lowsB rows [(x : Int), (y : Int)] rows.length := by
    refine upTo_congr fun z hz => ?_
    rw [tabB_of rows hz hx, tabB_of rows hz hy]
    simp
  rw [e]
  unfold greatL
  congr 1
  refine find_congr fun l hl => ?_
  obtain ⟨l0, l1, -⟩ := upTo_mem.1 hl
  unfold withinB
  refine all_congr' fun a ha => ?_
  obtain ⟨a0, a1, -⟩ := upTo_mem.1 ha
  rw [tabB_of rows (by omega) (by omega), show (a.toNat : Int) = a by omega, show (l.toNat : Int) = l by omega]
  rfl
end Go.Proofs.Ytbfmjknngofleaa

namespace Go.Proofs.Ytbfmjknngofleaa
open Go Go.Pv Go.Proofs
attribute [local bitvec_to_nat] St.put St.setObj St.ev killP killA killP1 killH mapHO renP renA ren1 killG killGA killG1 krowP krowA krow1 lendP lendA lend1 unv pinP pin1 elemsM viewM viewN viewV n_set_z n_set_s n_map_c n_map_n getD_z getD_s n_toNat n_cond_t n_cond_f n_len_c n_len_n n_app_c n_app_n n_take_s n_take_z n_drop_s n_drop_z n_get_z n_get_s view viewA view1 elems Nat.zero_add Nat.add_zero Bool.not_true Bool.not_false Nat.one_ne_zero Nat.mul_one

set_option maxRecDepth 100000 in
theorem in_c (x a b : Int) : PCalls Try.prog 79 [I x, I a, I b] (B (inB x a b)) := by
  refine pcalls1 Try.func79 rfl Try.ntmps79 rfl ?_
  simp only [List.length_cons, List.length_nil, Nat.reduceAdd, Nat.reduceSub, List.replicate_succ, List.replicate_zero, List.cons_append, List.nil_append]
  repeat' (first
| refine g_seq ?_
| refine g_region ?_
| (refine o_go rfl ?_; (first
| refine p_p (ps_move rfl) ?_
| refine p_p (ps_assign rfl) ?_
| refine p_p (ps_pick rfl rfl) ?_
| refine p_p (ps_leq rfl rfl rfl) ?_
| refine p_p (ps_geq rfl rfl rfl) ?_); refine ⟨_, (by dsimp only [bitvec_to_nat, Nat.reduceAdd, Nat.reduceMul, Nat.reduceBEq, reduceCtorEq]), ?_⟩)
| refine o_nil ?_
| (refine o_s rfl ?_; refine ⟨_, (by dsimp only [bitvec_to_nat, Nat.reduceAdd, Nat.reduceMul, Nat.reduceBEq, reduceCtorEq]), ?_⟩)
| (refine o_splitD rfl rfl rfl (fun hc => ?_) (fun hc => ?_) <;> first | (exfalso; omega) | dsimp only [List.set_cons_zero, List.set_cons_succ])
| refine kr1 ?_
| refine krB rfl ?_
| refine g_ret ?_)
  · unfold inB; rw [decide_eq_true hc]; rfl
  · unfold inB; rw [decide_eq_false hc]; rfl

set_option maxRecDepth 100000 in
theorem has_c (xs : List Int) (n : Int) (hl : xs.length ≤ 9223372036854775807) : PCalls Try.prog 59 [ints xs, I n] (B (xs.contains n)) := by
  refine pcalls1 Try.func59 rfl Try.ntmps59 rfl ?_
  simp only [List.length_cons, List.length_nil, Nat.reduceAdd, Nat.reduceSub, List.replicate_succ, List.replicate_zero, List.cons_append, List.nil_append]
  repeat' (first
| refine g_seq ?_
| refine g_block ?_
| refine g_region ?_
| (refine o_go rfl ?_; (first
| refine p_p (ps_assign rfl) ?_); refine ⟨_, (by dsimp only [bitvec_to_nat, Nat.reduceAdd, Nat.reduceMul, Nat.reduceBEq, reduceCtorEq]), ?_⟩)
| refine o_nil ?_)
  refine g_loopT (α := Nat) (fun k => [(5, I k)]) (fun _ => []) (fun k => k ≤ xs.length ∧ (xs.take k).contains n = false) (fun k => xs.length - k) 0 (by simp only [havoc, dsts, List.filterMap_cons, List.filterMap_nil, List.foldl_cons, List.foldl_nil, List.cons_append, List.nil_append, List.append_nil, List.set_cons_succ, List.set_cons_zero]; exact rfl) ⟨Nat.zero_le _, by simp⟩ ⟨rfl, trivial⟩ rfl ?_
  rintro k ⟨hk, hno⟩
  dsimp only [setMany, List.set_cons_zero, List.set_cons_succ]
  repeat' (first
| refine g_seq ?_
| refine g_block ?_
| refine g_region ?_
| (refine o_go rfl ?_; (first
| refine p_p (ps_move rfl) ?_
| refine p_p (ps_assign rfl) ?_
| refine p_p (ps_load_cell rfl rfl) ?_
| refine p_p (ps_index rfl rfl rfl (by omega) (by first | exact idx_I (by omega) | exact idx_B (by omega) | exact idx_ints (by omega) | exact idx_bools (by omega) | exact idx_intss (by omega) | rfl) (by exact rfl)) ?_
| refine p_p (ps_lenM rfl rfl rfl) ?_
| refine p_p (ps_lss rfl rfl rfl) ?_
| refine p_p (ps_add rfl rfl rfl (by constructor <;> omega)) ?_
| refine p_p (ps_eql rfl rfl rfl) ?_); refine ⟨_, (by dsimp only [bitvec_to_nat, Nat.reduceAdd, Nat.reduceMul, Nat.reduceBEq, reduceCtorEq]), ?_⟩)
| refine o_nil ?_
| (refine g_condD rfl (fun hc => ?_) (fun hc => ?_) <;> try (exfalso; omega))
| refine kr1 ?_
| refine krB rfl ?_
| refine g_skip ?_
| refine g_exit ?_
| refine g_ret ?_)
  · exact Eq.symm (contains_at (by omega) hc)
  · refine k_round (k + 1) ⟨by omega, ?_⟩ (by omega) (by repeat (first | exact trivial | refine ⟨.inl rfl, ?_⟩ | refine ⟨.inr rfl, ?_⟩)) ⟨rfl, trivial⟩ (hpLe_nil _)
    rw [take_snoc 0 (by omega), contains_snoc, hno, decide_eq_false hc]; rfl
  · rw [(take_full hk hc).1] at hno
    exact hno.symm

set_option maxRecDepth 100000 in
theorem within_c (xs ys : List Int) (hl : xs.length ≤ 9223372036854775807) (hm : ys.length ≤ 9223372036854775807) : PCalls Try.prog 60 [ints xs, ints ys] (B (withinB xs ys)) := by
  refine pcalls1 Try.func60 rfl Try.ntmps60 rfl ?_
  simp only [List.length_cons, List.length_nil, Nat.reduceAdd, Nat.reduceSub, List.replicate_succ, List.replicate_zero, List.cons_append, List.nil_append]
  repeat' (first
| refine g_seq ?_
| refine g_block ?_
| refine g_region ?_
| (refine o_go rfl ?_; (first
| refine p_p (ps_assign rfl) ?_); refine ⟨_, (by dsimp only [bitvec_to_nat, Nat.reduceAdd, Nat.reduceMul, Nat.reduceBEq, reduceCtorEq]), ?_⟩)
| refine o_nil ?_)
  refine g_loopT (α := Nat) (fun k => [(5, I k)]) (fun _ => []) (fun k => k ≤ xs.length ∧ (xs.take k).all (fun a => ys.contains a) = true) (fun k => xs.length - k) 0 (by simp only [havoc, dsts, List.filterMap_cons, List.filterMap_nil, List.foldl_cons, List.foldl_nil, List.cons_append, List.nil_append, List.append_nil, List.set_cons_succ, List.set_cons_zero]; exact rfl) ⟨Nat.zero_le _, by simp⟩ ⟨rfl, trivial⟩ rfl ?_
  rintro k ⟨hk, hno⟩
  dsimp only [setMany, List.set_cons_zero, List.set_cons_succ]
  repeat' (first
| refine g_seq ?_
| refine g_block ?_
| refine g_region ?_
| (refine o_go rfl ?_; (first
| refine p_p (ps_callM rfl rfl (by (repeat (first | refine ⟨PV.le_refl _, ?_⟩ | refine ⟨PV.le_nn _ _ _, ?_⟩ | refine ⟨PV.le_nil _, ?_⟩ | refine ⟨PV.le_any _, ?_⟩)); exact trivial) (by rfl) (has_c _ _ (by omega))) ?_
| refine p_p (ps_move rfl) ?_
| refine p_p (ps_assign rfl) ?_
| refine p_p (ps_load_cell rfl rfl) ?_
| refine p_p (ps_index rfl rfl rfl (by omega) (by first | exact idx_I (by omega) | exact idx_B (by omega) | exact idx_ints (by omega) | exact idx_bools (by omega) | exact idx_intss (by omega) | rfl) (by exact rfl)) ?_
| refine p_p (ps_lenM rfl rfl rfl) ?_
| refine p_p (ps_lss rfl rfl rfl) ?_
| refine p_p (ps_add rfl rfl rfl (by constructor <;> omega)) ?_
| refine p_p (ps_not rfl rfl) ?_); refine ⟨_, (by dsimp only [bitvec_to_nat, Nat.reduceAdd, Nat.reduceMul, Nat.reduceBEq, reduceCtorEq]), ?_⟩)
| refine o_nil ?_
| (refine g_condD rfl (fun hc => ?_) (fun hc => ?_) <;> try (exfalso; omega))
| (refine g_condNB rfl (fun hc => ?_) (fun hc => ?_))
| refine kr1 ?_
| refine krB rfl ?_
| refine g_skip ?_
| refine g_exit ?_
| refine g_ret ?_)
  · exact Eq.symm (all_false_at (k := k) 0 (by omega) hc)
  · refine k_round (k + 1) ⟨by omega, ?_⟩ (by omega) (by repeat (first | exact trivial | refine ⟨.inl rfl, ?_⟩ | refine ⟨.inr rfl, ?_⟩)) ⟨rfl, trivial⟩ (hpLe_nil _)
    rw [take_snoc 0 (by omega), all_snoc, hno, Bool.true_and]; exact hc
  · rw [(take_full hk hc).1] at hno
    exact hno.symm

set_option maxRecDepth 100000 in
theorem rising_c (xs : List Int) (lo hi : Int) (hl : xs.length ≤ 9223372036854775807) : PCalls Try.prog 85 [ints xs, I lo, I hi] (B (risB xs lo hi)) := by
  refine pcalls1 Try.func85 rfl Try.ntmps85 rfl ?_
  simp only [List.length_cons, List.length_nil, Nat.reduceAdd, Nat.reduceSub, List.replicate_succ, List.replicate_zero, List.cons_append, List.nil_append]
  repeat' (first
| refine g_seq ?_
| refine g_block ?_
| refine g_region ?_
| (refine o_go rfl ?_; (first
| refine p_p (ps_assign rfl) ?_); refine ⟨_, (by dsimp only [bitvec_to_nat, Nat.reduceAdd, Nat.reduceMul, Nat.reduceBEq, reduceCtorEq]), ?_⟩)
| refine o_nil ?_)
  refine g_loopT (α := Nat) (fun k => [(7, I k)]) (fun _ => []) (fun k => k ≤ xs.length ∧ allN k (fun i => inB (xs.getD i 0) lo hi && (i == 0 || decide (xs.getD (i - 1) 0 < xs.getD i 0))) = true) (fun k => xs.length - k) 0 (by simp only [havoc, dsts, List.filterMap_cons, List.filterMap_nil, List.foldl_cons, List.foldl_nil, List.cons_append, List.nil_append, List.append_nil, List.set_cons_succ, List.set_cons_zero]; exact rfl) ⟨Nat.zero_le _, rfl⟩ ⟨rfl, trivial⟩ rfl ?_
  rintro k ⟨hk, hno⟩
  dsimp only [setMany, List.set_cons_zero, List.set_cons_succ]
  repeat' (first
| refine g_seq ?_
| refine g_block ?_
| refine g_region ?_
| refine g_region_draw (by kernel_rfl) (by kernel_rfl) ?_
| (refine o_go rfl ?_; (first
| refine p_p (ps_call rfl rfl (by (repeat (first | refine ⟨PV.le_refl _, ?_⟩ | refine ⟨PV.le_nn _ _ _, ?_⟩ | refine ⟨PV.le_nil _, ?_⟩ | refine ⟨PV.le_any _, ?_⟩)); exact trivial) (in_c _ _ _)) ?_
| refine p_p (ps_move rfl) ?_
| refine p_p (ps_assign rfl) ?_
| refine p_p (ps_load_cell rfl rfl) ?_
| refine p_p (ps_index rfl rfl rfl (by omega) (by first | exact idx_I (by omega) | exact idx_B (by omega) | exact idx_ints (by omega) | exact idx_bools (by omega) | exact idx_intss (by omega) | rfl) (by exact rfl)) ?_
| refine p_p (ps_lenM rfl rfl rfl) ?_
| refine p_p (ps_lss rfl rfl rfl) ?_
| refine p_p (ps_add rfl rfl rfl (by constructor <;> omega)) ?_
| refine p_p (ps_not rfl rfl) ?_
| refine p_p (ps_pick rfl rfl) ?_
| refine p_p (ps_gtr rfl rfl rfl) ?_
| refine p_p (ps_geq rfl rfl rfl) ?_
| refine p_p (ps_sub rfl rfl rfl (by constructor <;> omega)) ?_); refine ⟨_, (by dsimp only [bitvec_to_nat, Nat.reduceAdd, Nat.reduceMul, Nat.reduceBEq, reduceCtorEq]), ?_⟩)
| refine o_nil ?_
| (refine o_s rfl ?_; refine ⟨_, (by dsimp only [bitvec_to_nat, Nat.reduceAdd, Nat.reduceMul, Nat.reduceBEq, reduceCtorEq]), ?_⟩)
| (refine o_splitD rfl rfl rfl (fun hc => ?_) (fun hc => ?_) <;> first | (exfalso; omega) | dsimp only [List.set_cons_zero, List.set_cons_succ])
| (refine o_splitN rfl rfl rfl (fun hc => ?_) (fun hc => ?_) <;> dsimp only [List.set_cons_zero, List.set_cons_succ])
| refine g_condT rfl ?_
| refine g_condF rfl ?_
| (refine g_condD rfl (fun hc => ?_) (fun hc => ?_) <;> try (exfalso; omega))
| refine kr1 ?_
| refine krB rfl ?_
| refine g_skip ?_
| refine g_exit ?_
| refine g_ret ?_)
  · exact Eq.symm (allN_false (k := k) (by omega) (by rw [hc]; rfl))
  · refine Eq.symm (allN_false (k := k) (by omega) ?_)
    rename_i h1 h2 h3
    rw [show ((k : Int) - 1).toNat = k - 1 by omega] at hc
    rw [decide_eq_false (by omega : ¬ xs.getD (k - 1) 0 < xs.getD k 0), show (k == 0) = false by simp; omega]
    simp
  · rename_i h1 h2 h3
    refine k_round (k + 1) ⟨by omega, ?_⟩ (by omega) (by repeat (first | exact trivial | refine ⟨.inl rfl, ?_⟩ | refine ⟨.inr rfl, ?_⟩)) ⟨rfl, trivial⟩ (hpLe_nil _)
    rw [show ((k : Int) - 1).toNat = k - 1 by omega] at hc
    rw [allN_succ, hno, h2, decide_eq_true (by omega : xs.getD (k - 1) 0 < xs.getD k 0)]
    simp
  · rename_i h1 h2
    refine k_round (k + 1) ⟨by omega, ?_⟩ (by omega) (by repeat (first | exact trivial | refine ⟨.inl rfl, ?_⟩ | refine ⟨.inr rfl, ?_⟩)) ⟨rfl, trivial⟩ (hpLe_nil _)
    rw [allN_succ, hno, h2, show (k == 0) = true by simp; omega]
    rfl
  · exact Eq.symm (allN_full hno hk hc)

def risesB (xs : List Int) : Bool := allN xs.length fun i => i == 0 || decide (xs.getD (i - 1) 0 < xs.getD i 0)
set_option maxRecDepth 100000 in
theorem rises_c (xs : List Int) (hl : xs.length ≤ 1048576) : PCalls Try.prog 92 [ints xs] (B (risesB xs)) := by
  refine pcalls1 Try.func92 rfl Try.ntmps92 rfl ?_
  simp only [List.length_cons, List.length_nil, Nat.reduceAdd, Nat.reduceSub, List.replicate_succ, List.replicate_zero, List.cons_append, List.nil_append]
  repeat' (first
| refine g_seq ?_
| refine g_block ?_
| refine g_region ?_
| (refine o_go rfl ?_; (first
| refine p_p (ps_assign rfl) ?_); refine ⟨_, (by dsimp only [bitvec_to_nat, Nat.reduceAdd, Nat.reduceMul, Nat.reduceBEq, reduceCtorEq]), ?_⟩)
| refine o_nil ?_)
  refine g_loopT (α := Nat) (fun k => [(3, I (k : Int))]) (fun _ => []) (fun k => 1 ≤ k ∧ k ≤ xs.length + 1 ∧ (allN k fun i => i == 0 || decide (xs.getD (i - 1) 0 < xs.getD i 0)) = true) (fun k => xs.length + 1 - k) 1 (by simp only [havoc, dsts, List.filterMap_cons, List.filterMap_nil, List.foldl_cons, List.foldl_nil, List.cons_append, List.nil_append, List.append_nil, List.set_cons_succ, List.set_cons_zero]; exact rfl) ⟨by omega, by omega, rfl⟩ ⟨rfl, trivial⟩ rfl ?_
  rintro k ⟨h1, hk, hall⟩
  dsimp only [setMany, List.set_cons_zero, List.set_cons_succ]
  have hk0 : (k == 0) = false := by rw [beq_eq_false_iff_ne]; omega
  repeat' (first
| refine g_seq ?_
| refine g_block ?_
| refine g_region ?_
| refine g_region_draw (by kernel_rfl) (by kernel_rfl) ?_
| (refine o_go rfl ?_; (first
| refine p_p (ps_move rfl) ?_
| refine p_p (ps_assign rfl) ?_
| refine p_p (ps_load_cell rfl rfl) ?_
| refine p_p (ps_index rfl rfl rfl (by omega) (by first | exact idx_I (by omega) | exact idx_B (by omega) | exact idx_ints (by omega) | exact idx_bools (by omega) | exact idx_intss (by omega) | rfl) (by exact rfl)) ?_
| refine p_p (ps_lenM rfl rfl rfl) ?_
| refine p_p (ps_lss rfl rfl rfl) ?_
| refine p_p (ps_add rfl rfl rfl (by constructor <;> omega)) ?_
| refine p_p (ps_geq rfl rfl rfl) ?_
| refine p_p (ps_sub rfl rfl rfl (by constructor <;> omega)) ?_); refine ⟨_, (by dsimp only [bitvec_to_nat, Nat.reduceAdd, Nat.reduceMul, Nat.reduceBEq, reduceCtorEq]), ?_⟩)
| refine o_nil ?_
| (refine g_condD rfl (fun hc => ?_) (fun hc => ?_) <;> try (exfalso; omega))
| refine kr1 ?_
| refine krB rfl ?_
| refine g_skip ?_
| refine g_exit ?_
| refine g_ret ?_)
  · rw [show ((k : Int) - 1).toNat = k - 1 by omega] at hc
    refine Eq.symm (allN_false (k := k) (by omega) ?_)
    rw [hk0, decide_eq_false (by omega)]; rfl
  · rw [show ((k : Int) - 1).toNat = k - 1 by omega] at hc
    refine k_round (k + 1) ⟨by omega, by omega, ?_⟩ (by omega) (by repeat (first | exact trivial | refine ⟨.inl rfl, ?_⟩ | refine ⟨.inr rfl, ?_⟩)) ⟨rfl, trivial⟩ (hpLe_nil _)
    rw [allN_succ, hall, hk0, decide_eq_true (by omega)]; rfl
  · refine Eq.symm (allN_iff.2 fun i hi => allN_iff.1 hall i (by omega))

def inSizeB (xs : List Int) (n : Int) : Bool := xs.all fun x => !(decide (x < 0) || decide (n ≤ x))
set_option maxRecDepth 100000 in
theorem inSize_c (xs : List Int) (n : Int) (hl : xs.length ≤ 1048576) : PCalls Try.prog 76 [ints xs, I n] (B (inSizeB xs n)) := by
  refine pcalls1 Try.func76 rfl Try.ntmps76 rfl ?_
  simp only [List.length_cons, List.length_nil, Nat.reduceAdd, Nat.reduceSub, List.replicate_succ, List.replicate_zero, List.cons_append, List.nil_append]
  repeat' (first
| refine g_seq ?_
| refine g_block ?_
| refine g_region ?_
| (refine o_go rfl ?_; (first
| refine p_p (ps_move rfl) ?_
| refine p_p (ps_assign rfl) ?_
| refine p_p (ps_lenM rfl rfl rfl) ?_); refine ⟨_, (by dsimp only [bitvec_to_nat, Nat.reduceAdd, Nat.reduceMul, Nat.reduceBEq, reduceCtorEq]), ?_⟩)
| refine o_nil ?_)
  refine g_loopT (α := Nat) (fun k => [(9, I (k : Int))]) (fun _ => []) (fun k => k ≤ xs.length ∧ (xs.take k).all (fun x => !(decide (x < 0) || decide (n ≤ x))) = true) (fun k => xs.length - k) 0 (by simp only [havoc, dsts, List.filterMap_cons, List.filterMap_nil, List.foldl_cons, List.foldl_nil, List.cons_append, List.nil_append, List.append_nil, List.set_cons_succ, List.set_cons_zero]; exact rfl) ⟨by omega, rfl⟩ ⟨rfl, trivial⟩ rfl ?_
  rintro k ⟨hk, hall⟩
  dsimp only [setMany, List.set_cons_zero, List.set_cons_succ]
  repeat' (first
| refine g_seq ?_
| refine g_block ?_
| refine g_region ?_
| (refine o_go rfl ?_; (first
| refine p_p (ps_move rfl) ?_
| refine p_p (ps_assign rfl) ?_
| refine p_p (ps_load_cell rfl rfl) ?_
| refine p_p (ps_index rfl rfl rfl (by omega) (by first | exact idx_I (by omega) | exact idx_B (by omega) | exact idx_ints (by omega) | exact idx_bools (by omega) | exact idx_intss (by omega) | rfl) (by exact rfl)) ?_
| refine p_p (ps_lss rfl rfl rfl) ?_
| refine p_p (ps_add rfl rfl rfl (by constructor <;> omega)) ?_
| refine p_p (ps_pick rfl rfl) ?_
| refine p_p (ps_geq rfl rfl rfl) ?_); refine ⟨_, (by dsimp only [bitvec_to_nat, Nat.reduceAdd, Nat.reduceMul, Nat.reduceBEq, reduceCtorEq]), ?_⟩)
| refine o_nil ?_
| (refine o_s rfl ?_; refine ⟨_, (by dsimp only [bitvec_to_nat, Nat.reduceAdd, Nat.reduceMul, Nat.reduceBEq, reduceCtorEq]), ?_⟩)
| (refine o_splitD rfl rfl rfl (fun hc => ?_) (fun hc => ?_) <;> first | (exfalso; omega) | dsimp only [List.set_cons_zero, List.set_cons_succ])
| refine g_condT rfl ?_
| (refine g_condD rfl (fun hc => ?_) (fun hc => ?_) <;> try (exfalso; omega))
| refine kr1 ?_
| refine krB rfl ?_
| refine g_skip ?_
| refine g_exit ?_
| refine g_ret ?_)
  · exact Eq.symm (all_false_at (k := k) 0 (by omega) (by rw [decide_eq_true hc]; rfl))
  · exact Eq.symm (all_false_at (k := k) 0 (by omega) (by rw [decide_eq_true hc, Bool.or_true]; rfl))
  · rename_i h2
    refine k_round (k + 1) ⟨by omega, ?_⟩ (by omega) (by repeat (first | exact trivial | refine ⟨.inl rfl, ?_⟩ | refine ⟨.inr rfl, ?_⟩)) ⟨rfl, trivial⟩ (hpLe_nil _)
    rw [take_snoc 0 (by omega), all_snoc, hall, decide_eq_false h2, decide_eq_false hc]; rfl
  · rw [(take_full hk hc).1] at hall
    exact hall.symm
end Go.Proofs.Ytbfmjknngofleaa

namespace Go.Proofs.Ytbfmjknngofleaa

theorem ris_split (l : List Int) (n : Nat) : risB l 0 ((n : Int) - 1) = (risesB l && inSizeB l (n : Int)) := by
  rw [Bool.eq_iff_iff, Bool.and_eq_true]
  unfold risB risesB inSizeB
  rw [allN_iff, allN_iff, List.all_eq_true]
  constructor
  · intro h
    refine ⟨fun k hk => (by have := h k hk; rw [Bool.and_eq_true] at this; exact this.2), fun x hx => ?_⟩
    obtain ⟨k, hk, rfl⟩ := List.getElem_of_mem hx
    have := h k hk
    simp only [Bool.and_eq_true, inB, decide_eq_true_eq, List.getD_eq_getElem?_getD, List.getElem?_eq_getElem hk, Option.getD_some] at this
    rw [decide_eq_false (by omega), decide_eq_false (by omega)]; rfl
  · rintro ⟨h1, h2⟩ k hk
    rw [Bool.and_eq_true]
    refine ⟨?_, h1 k hk⟩
    have := h2 _ (List.getElem_mem hk)
    simp only [Bool.not_eq_true', Bool.or_eq_false_iff, decide_eq_false_iff_not] at this
    unfold inB
    simp only [List.getD_eq_getElem?_getD, List.getElem?_eq_getElem hk, Option.getD_some, Bool.and_eq_true, decide_eq_true_eq]
    omega

/-- The order's laws, on the reference's relation. -/
def Ord (rows : List (List Int)) : Prop := (∀ x, x < rows.length → leqB rows (x : Int) (x : Int) = true) ∧ (∀ x y, x < rows.length → y < rows.length → x ≠ y → leqB rows (x : Int) (y : Int) = true → leqB rows (y : Int) (x : Int) = false) ∧
  ∀ x y z, x < rows.length → y < rows.length → z < rows.length → leqB rows (x : Int) (y : Int) = true → leqB rows (y : Int) (z : Int) = true → leqB rows (x : Int) (z : Int) = true
theorem order_iff (rows : List (List Int)) : orderB (tabOf rows) = true ↔ Ord rows := by
  unfold orderB ordX ordY ordZ
  simp only [length_tabOf, allN_iff, Bool.and_eq_true]
  constructor
  · intro h
    refine ⟨fun x hx => ?_, fun x y hx hy hne hxy => ?_, fun x y z hx hy hz hxy hyz => ?_⟩
    · have := (h x hx).1
      rwa [tabB_of rows hx hx] at this
    · have := ((h x hx).2 y hy).1
      rw [tabB_of rows hx hy, tabB_of rows hy hx, hxy, decide_eq_false (by omega)] at this
      simpa using this
    · have := ((h x hx).2 y hy).2 z hz
      rw [tabB_of rows hx hy, tabB_of rows hy hz, tabB_of rows hx hz, hxy, hyz] at this
      simpa using this
  · rintro ⟨h1, h2, h3⟩ x hx
    refine ⟨by rw [tabB_of rows hx hx]; exact h1 x hx, fun y hy => ⟨?_, fun z hz => ?_⟩⟩
    · rw [tabB_of rows hx hy, tabB_of rows hy hx]
      by_cases hxy : x = y
      · subst hxy; simp
      · cases hl : leqB rows (x : Int) (y : Int) with
        | false => simp
        | true => rw [h2 x y hx hy hxy hl]; simp
    · rw [tabB_of rows hx hy, tabB_of rows hy hz, tabB_of rows hx hz]
      cases hl : leqB rows (x : Int) (y : Int) with
      | false => rfl
      | true =>
        cases hm : leqB rows (y : Int) (z : Int) with
        | false => rfl
        | true => rw [h3 x y z hx hy hz hl hm]; rfl

theorem inSize_mem {l : List Int} {n : Nat} (h : inSizeB l (n : Int) = true) {a : Int} (ha : a ∈ l) : 0 ≤ a ∧ a < (n : Int) := by
  have := List.all_eq_true.1 h a ha
  simp only [Bool.not_eq_true', Bool.or_eq_false_iff, decide_eq_false_iff_not] at this
  omega
theorem leq_mem {rows : List (List Int)} {a : Int} {x : Nat} : a ∈ rows.getD x [] ↔ leqB rows a (x : Int) = true := by
  unfold leqB
  rw [List.contains_iff_mem]; rfl
theorem good_order (rows : List (List Int)) (h10 : rows.length ≤ 10) (hri : ∀ x, x < rows.length → risesB (rows.getD x []) = true ∧ inSizeB (rows.getD x []) (rows.length : Int) = true) : goodP rows = orderB (tabOf rows) := by
  rw [Bool.eq_iff_iff, order_iff]
  unfold goodP
  rw [decide_eq_true h10, Bool.true_and, Bool.and_eq_true, allN_iff, allN_iff]
  constructor
  · rintro ⟨h1, h2⟩
    refine ⟨fun x hx => ?_, fun x y hx hy hne hxy => ?_, fun x y z hx hy hz hxy hyz => ?_⟩
    · have := h1 x hx
      unfold good1 at this
      rw [Bool.and_eq_true] at this
      exact this.2
    · have := List.all_eq_true.1 (h2 y hy) x (leq_mem.2 hxy)
      rw [Bool.and_eq_true, decide_eq_false (by omega : ¬ (x : Int) = (y : Int))] at this
      have h := this.1
      simp only [Bool.not_false, Bool.true_and, Bool.not_eq_true'] at h
      exact h
    · have := List.all_eq_true.1 (h2 z hz) y (leq_mem.2 hyz)
      rw [Bool.and_eq_true] at this
      have h := List.all_eq_true.1 this.2 x (leq_mem.2 hxy)
      exact leq_mem.1 (List.contains_iff_mem.1 h)
  · rintro ⟨h1, h2, h3⟩
    refine ⟨fun x hx => ?_, fun x hx => ?_⟩
    · unfold good1
      rw [ris_split, (hri x hx).1, (hri x hx).2]
      exact h1 x hx
    · refine List.all_eq_true.2 fun a ha => ?_
      obtain ⟨a0, a1⟩ := inSize_mem (hri x hx).2 ha
      obtain ⟨b, rfl⟩ : ∃ b : Nat, a = (b : Int) := ⟨a.toNat, by omega⟩
      have hb : b < rows.length := by omega
      have hbx := leq_mem.1 ha
      rw [Bool.and_eq_true]
      refine ⟨?_, List.all_eq_true.2 fun c hc => ?_⟩
      · by_cases hxb : b = x
        · subst hxb; simp
        · have := h2 b x hb hx hxb hbx
          have e : (rows.getD (b : Int).toNat []).contains (x : Int) = false := this
          rw [e]; simp
      · obtain ⟨c0, c1⟩ := inSize_mem (hri b hb).2 hc
        obtain ⟨d, rfl⟩ : ∃ d : Nat, c = (d : Int) := ⟨c.toNat, by omega⟩
        exact List.contains_iff_mem.2 (leq_mem.2 (h3 d b x (by omega) hb hx (leq_mem.1 hc) hbx))
end Go.Proofs.Ytbfmjknngofleaa

namespace Go.Proofs.Ytbfmjknngofleaa

theorem mOk_iff (rows : List (List Int)) : mOk (tabOf rows) = true ↔ ∀ x y, x < rows.length → y < rows.length → 0 ≤ boundL rows [(x : Int), (y : Int)] := by
  unfold mOk
  simp only [allN_iff, length_tabOf]
  constructor
  · intro h x y hx hy
    have := h x hx y hy
    rw [mT_of rows hx hy] at this
    simpa using this
  · intro h x hx y hy
    rw [mT_of rows hx hy, decide_eq_false (by have := h x y hx hy; omega)]; rfl
theorem goodL_eq (rows : List (List Int)) (hP : goodP rows = true) (hn : rows.length ≠ 0) : goodL rows = (mOk (tabOf rows) && mOk (tabOf (dualL rows))) := by
  rw [Bool.eq_iff_iff, Bool.and_eq_true, mOk_iff, mOk_iff, length_dual]
  constructor
  · intro h
    exact ⟨fun x y hx hy => (good_bounds h ⟨by omega, by omega⟩ ⟨by omega, by omega⟩).1, fun x y hx hy => (good_bounds h ⟨by omega, by omega⟩ ⟨by omega, by omega⟩).2⟩
  · rintro ⟨h1, h2⟩
    unfold goodL
    rw [hP, decide_eq_false hn, Bool.true_and, Bool.not_false, Bool.true_and, allN_iff]
    intro x hx
    rw [allN_iff]
    intro y hy
    unfold pairOk
    have a := h1 x y hx (by omega)
    have b := h2 x y hx (by omega)
    rw [decide_eq_false (by omega), decide_eq_false (by omega)]; rfl
end Go.Proofs.Ytbfmjknngofleaa

namespace Go.Proofs.Ytbfmjknngofleaa

def tabF (n : Nat) (f : Nat → Nat → Bool) : List (List Bool) := (List.range n).map fun a => (List.range n).map fun b => f a b
theorem length_tabF (n : Nat) (f : Nat → Nat → Bool) : (tabF n f).length = n := by simp [tabF]
theorem getD_tabF {n : Nat} {f : Nat → Nat → Bool} {a : Nat} (h : a < n) : (tabF n f).getD a [] = (List.range n).map fun b => f a b := getD_map_range _ _ _ h
theorem tabF_congr {n : Nat} {f g : Nat → Nat → Bool} (h : ∀ a b, a < n → b < n → f a b = g a b) : tabF n f = tabF n g :=
  List.map_congr_left fun a ha => List.map_congr_left fun b hb => h a b (List.mem_range.1 ha) (List.mem_range.1 hb)
theorem okT_F {n : Nat} (f : Nat → Nat → Bool) (h : n ≤ 10) : okT (tabF n f) := by
  refine ⟨by rw [length_tabF]; exact h, fun x hx => ?_⟩
  rw [length_tabF] at hx
  rw [getD_tabF hx, length_tabF]; simp
theorem set_range {α : Type} (n : Nat) (f : Nat → α) (b : Nat) (v : α) : ((List.range n).map f).set b v = (List.range n).map fun i => if i = b then v else f i := by
  apply List.ext_getElem?
  intro i
  rw [List.getElem?_set, List.getElem?_map, List.getElem?_map]
  rcases Nat.lt_or_ge i n with hi | hi
  · rw [List.getElem?_range hi]
    by_cases e : b = i
    · subst e
      rw [if_pos rfl, if_pos (by simpa using hi)]; simp
    · rw [if_neg e]
      simp [Ne.symm e]
  · rw [List.getElem?_eq_none (by simpa using hi)]
    by_cases e : b = i
    · subst e
      rw [if_pos rfl, if_neg (by simpa using hi)]; rfl
    · rw [if_neg e]; rfl
theorem tabF_set {n a b : Nat} {f f' : Nat → Nat → Bool} {v : Bool} (ha : a < n) (_hb : b < n) (h : ∀ a' b', a' < n → b' < n → f' a' b' = if a' = a ∧ b' = b then v else f a' b') : (tabF n f).set a (((tabF n f).getD a []).set b v) = tabF n f' := by
  rw [getD_tabF ha, set_range]
  unfold tabF
  rw [set_range]
  refine List.map_congr_left fun a' ha' => ?_
  have ha' := List.mem_range.1 ha'
  by_cases e : a' = a
  · subst e
    rw [if_pos rfl]
    refine List.map_congr_left fun b' hb' => ?_
    rw [h a' b' ha' (List.mem_range.1 hb')]
    by_cases e' : b' = b
    · rw [if_pos e', if_pos ⟨rfl, e'⟩]
    · rw [if_neg e', if_neg (fun h => e' h.2)]
  · rw [if_neg e]
    refine List.map_congr_left fun b' hb' => ?_
    rw [h a' b' ha' (List.mem_range.1 hb'), if_neg (fun h => e h.1)]
theorem falses_F (n : Nat) : List.replicate n (List.replicate n false) = tabF n fun _ _ => false := by
  unfold tabF
  simp [List.map_const']
end Go.Proofs.Ytbfmjknngofleaa

namespace Go.Proofs.Ytbfmjknngofleaa
open Go Go.Pv

def rowZ {α : Type} (n : Nat) (f : Int → Int → α) (i : Int) : List α := (List.range n).map fun (b : Nat) => f i (b : Int)
def tabZ {α : Type} (n : Nat) (f : Int → Int → α) : List (List α) := (List.range n).map fun (a : Nat) => rowZ n f (a : Int)
theorem length_tabZ {α : Type} (n : Nat) (f : Int → Int → α) : (tabZ n f).length = n := by simp [tabZ]
theorem length_rowZ {α : Type} (n : Nat) (f : Int → Int → α) (i : Int) : (rowZ n f i).length = n := by simp [rowZ]
theorem idx_TZ {α : Type} (g : List α → PV) {n : Nat} {f : Int → Int → α} {i : Int} (h0 : 0 ≤ i) (h : i < (n : Int)) : ((tabZ n f).map g)[i.toNat]? = some (g (rowZ n f i)) := by
  unfold tabZ
  rw [List.map_map, List.getElem?_map, List.getElem?_range (by omega)]
  simp [show max i 0 = i by omega]
theorem idx_RZ {α : Type} (g : α → PV) {n : Nat} {f : Int → Int → α} {i j : Int} (h0 : 0 ≤ j) (h : j < (n : Int)) : ((rowZ n f i).map g)[j.toNat]? = some (g (f i j)) := by
  unfold rowZ
  rw [List.map_map, List.getElem?_map, List.getElem?_range (by omega)]
  simp [show max j 0 = j by omega]
theorem idx_TI {n : Nat} {f : Int → Int → Int} {i : Int} (h0 : 0 ≤ i) (h : i < (n : Int)) : ((tabZ n f).map ints)[i.toNat]? = some (ints (rowZ n f i)) := idx_TZ ints h0 h
theorem idx_TB {n : Nat} {f : Int → Int → Bool} {i : Int} (h0 : 0 ≤ i) (h : i < (n : Int)) : ((tabZ n f).map bools)[i.toNat]? = some (bools (rowZ n f i)) := idx_TZ bools h0 h
theorem idx_RI {n : Nat} {f : Int → Int → Int} {i j : Int} (h0 : 0 ≤ j) (h : j < (n : Int)) : ((rowZ n f i).map I)[j.toNat]? = some (I (f i j)) := idx_RZ I h0 h
theorem idx_RB {n : Nat} {f : Int → Int → Bool} {i j : Int} (h0 : 0 ≤ j) (h : j < (n : Int)) : ((rowZ n f i).map B)[j.toNat]? = some (B (f i j)) := idx_RZ B h0 h
theorem meets_Z (rows : List (List Int)) : meetsT (tabOf rows) rows.length = tabZ rows.length (meetL rows) := by
  unfold meetsT tabZ rowT rowZ
  rw [length_tabOf]
  refine List.map_congr_left fun x hx => List.map_congr_left fun y hy => ?_
  exact mT_of rows (List.mem_range.1 hx) (List.mem_range.1 hy)
theorem joins_Z (rows : List (List Int)) : meetsT (dualT (tabOf rows)) rows.length = tabZ rows.length (joinL rows) := by
  rw [dual_tab]
  unfold meetsT tabZ rowT rowZ
  rw [length_tabOf, length_dual]
  refine List.map_congr_left fun x hx => List.map_congr_left fun y hy => ?_
  exact mT_of (dualL rows) (by rw [length_dual]; exact List.mem_range.1 hx) (by rw [length_dual]; exact List.mem_range.1 hy)
/-- The program's lattice: a pointer to its table, its meets and its joins. -/
abbrev latP (rows : List (List Int)) : PV := .ptr [boolss (tabZ rows.length (leqB rows)), intss (tabZ rows.length (meetL rows)), intss (tabZ rows.length (joinL rows))]

theorem meet_comm (rows : List (List Int)) (x y : Int) : meetL rows x y = meetL rows y x := bound_comm rows x y
theorem join_comm (rows : List (List Int)) (x y : Int) : joinL rows x y = joinL rows y x := bound_comm (dualL rows) x y

def triples (n : Nat) : List (Nat × Nat × Nat) := (List.range n).flatMap fun x => (List.range n).flatMap fun y => (List.range n).map fun z => (x, y, z)
def first3 (n : Nat) (p : Nat → Nat → Nat → Bool) : Option (Nat × Nat × Nat) := (triples n).find? fun t => p t.1 t.2.1 t.2.2
def no1 (n : Nat) (p : Nat → Nat → Nat → Bool) (x : Nat) : Bool := allN n fun y => allN n fun z => !p x y z
theorem find_flatMap_range {β : Type} (n k : Nat) (f : Nat → List β) (q : β → Bool) (h : ∀ i, i < k → (f i).find? q = none) (hk : k < n) : ((List.range n).flatMap f).find? q = ((f k).find? q).or (((List.range n).flatMap f).find? q) := by
  cases hf : (f k).find? q with
  | none => rfl
  | some b =>
    have e : List.range n = List.range k ++ (k :: (List.range n).drop (k + 1)) := by
      have h1 : (List.range n).take k = List.range k := by rw [List.take_range, Nat.min_eq_left (by omega)]
      conv => lhs; rw [← List.take_append_drop k (List.range n), h1, List.drop_eq_getElem_cons (by simpa using hk)]
      simp
    rw [e, List.flatMap_append, List.find?_append]
    have h0 : ((List.range k).flatMap f).find? q = none := by
      rw [List.find?_eq_none]
      intro b hb
      obtain ⟨i, hi, hb⟩ := List.mem_flatMap.1 hb
      exact List.find?_eq_none.1 (h i (List.mem_range.1 hi)) b hb
    rw [h0, List.flatMap_cons, List.find?_append, hf]; rfl
theorem find_flatMap_some {β : Type} {n k : Nat} {f : Nat → List β} {q : β → Bool} {b : β} (h : ∀ i, i < k → (f i).find? q = none) (hk : k < n) (hf : (f k).find? q = some b) : ((List.range n).flatMap f).find? q = some b := by
  rw [find_flatMap_range n k f q h hk, hf]; rfl
theorem row_none {n : Nat} {p : Nat → Nat → Nat → Bool} {x y : Nat} (h : allN n (fun z => !p x y z) = true) : ((List.range n).map fun z => (x, y, z)).find? (fun t => p t.1 t.2.1 t.2.2) = none := by
  rw [List.find?_eq_none]
  intro t ht
  obtain ⟨z, hz, rfl⟩ := List.mem_map.1 ht
  have := allN_iff.1 h z (List.mem_range.1 hz)
  simpa using this
theorem col_none {n : Nat} {p : Nat → Nat → Nat → Bool} {x : Nat} (h : no1 n p x = true) : ((List.range n).flatMap fun y => (List.range n).map fun z => (x, y, z)).find? (fun t => p t.1 t.2.1 t.2.2) = none := by
  rw [List.find?_eq_none]
  intro t ht
  obtain ⟨y, hy, ht⟩ := List.mem_flatMap.1 ht
  exact List.find?_eq_none.1 (row_none (allN_iff.1 h y (List.mem_range.1 hy))) t ht
theorem first3_none {n : Nat} {p : Nat → Nat → Nat → Bool} (h : allN n (no1 n p) = true) : first3 n p = none := by
  unfold first3 triples
  rw [List.find?_eq_none]
  intro t ht
  obtain ⟨x, hx, ht⟩ := List.mem_flatMap.1 ht
  exact List.find?_eq_none.1 (col_none (allN_iff.1 h x (List.mem_range.1 hx))) t ht
theorem first3_some {n : Nat} {p : Nat → Nat → Nat → Bool} {x y z : Nat} (hx : x < n) (hy : y < n) (hz : z < n) (h1 : allN x (no1 n p) = true) (h2 : allN y (fun y => allN n fun z => !p x y z) = true) (h3 : allN z (fun z => !p x y z) = true) (h : p x y z = true) : first3 n p = some (x, y, z) := by
  unfold first3 triples
  refine find_flatMap_some (k := x) (fun i hi => col_none (allN_iff.1 h1 i hi)) hx ?_
  refine find_flatMap_some (k := y) (fun i hi => row_none (allN_iff.1 h2 i hi)) hy ?_
  have e : List.range n = List.range z ++ (z :: (List.range n).drop (z + 1)) := by
    have h1 : (List.range n).take z = List.range z := by rw [List.take_range, Nat.min_eq_left (by omega)]
    conv => lhs; rw [← List.take_append_drop z (List.range n), h1, List.drop_eq_getElem_cons (by simpa using hz)]
    simp
  rw [e, List.map_append, List.find?_append, row_none h3, List.map_cons]
  exact List.find?_cons_of_pos (p := fun t : Nat × Nat × Nat => p t.1 t.2.1 t.2.2) h
def list3 : Option (Nat × Nat × Nat) → List Int
  | some (x, y, z) => [(x : Int), (y : Int), (z : Int)]
  | none => []

def unevenP (rows : List (List Int)) (x y z : Nat) : Bool := !decide (meetL rows (x : Int) (joinL rows (y : Int) (z : Int)) = joinL rows (meetL rows (x : Int) (y : Int)) (meetL rows (x : Int) (z : Int)))
def uneven3 (rows : List (List Int)) : Option (Nat × Nat × Nat) := first3 rows.length (unevenP rows)
end Go.Proofs.Ytbfmjknngofleaa

namespace Go.Proofs.Ytbfmjknngofleaa

def inR (rows : List (List Int)) (x : Int) : Prop := 0 ≤ x ∧ x < (rows.length : Int)
structure Lat (rows : List (List Int)) : Prop where
  refl : ∀ x, inR rows x → leqB rows x x = true
  anti : ∀ x y, inR rows x → inR rows y → leqB rows x y = true → leqB rows y x = true → x = y
  trans : ∀ x y z, inR rows x → inR rows y → inR rows z → leqB rows x y = true → leqB rows y z = true → leqB rows x z = true
  meetR : ∀ x y, inR rows x → inR rows y → inR rows (meetL rows x y)
  joinR : ∀ x y, inR rows x → inR rows y → inR rows (joinL rows x y)
  meet1 : ∀ x y, inR rows x → inR rows y → leqB rows (meetL rows x y) x = true
  meet2 : ∀ x y, inR rows x → inR rows y → leqB rows (meetL rows x y) y = true
  meetG : ∀ x y z, inR rows x → inR rows y → inR rows z → leqB rows z x = true → leqB rows z y = true → leqB rows z (meetL rows x y) = true
  join1 : ∀ x y, inR rows x → inR rows y → leqB rows x (joinL rows x y) = true
  join2 : ∀ x y, inR rows x → inR rows y → leqB rows y (joinL rows x y) = true
  joinG : ∀ x y z, inR rows x → inR rows y → inR rows z → leqB rows x z = true → leqB rows y z = true → leqB rows (joinL rows x y) z = true
theorem bound_spec {rows : List (List Int)} {some : List Int} (h : 0 ≤ boundL rows some) : inR rows (boundL rows some) ∧ (∀ s ∈ some, leqB rows (boundL rows some) s = true) ∧ ∀ z, inR rows z → (∀ s ∈ some, leqB rows z s = true) → leqB rows z (boundL rows some) = true := by
  unfold boundL at h ⊢
  cases hf : (lowsB rows some rows.length).find? fun l => withinB (lowsB rows some rows.length) (rows.getD l.toNat []) with
  | none => rw [hf] at h; simp at h
  | some l =>
    rw [hf] at h
    simp only [Option.getD_some] at h ⊢
    obtain ⟨l0, l1, l2⟩ := upTo_mem.1 (List.mem_of_find?_eq_some hf)
    have hw := List.find?_some hf
    rw [show (l.toNat : Int) = l by omega] at l2
    refine ⟨⟨l0, l1⟩, fun s hs => List.all_eq_true.1 l2 s hs, fun z hz hall => ?_⟩
    have hm : z ∈ lowsB rows some rows.length := upTo_mem.2 ⟨hz.1, hz.2, by
      rw [show (z.toNat : Int) = z by have := hz.1; omega]
      exact List.all_eq_true.2 hall⟩
    exact List.all_eq_true.1 hw z hm
theorem two_all {x y : Int} {p : Int → Prop} : (∀ s ∈ [x, y], p s) ↔ p x ∧ p y := by simp
theorem good_Ord {rows : List (List Int)} (h : goodP rows = true) : Ord rows := by
  have h10 : rows.length ≤ 10 := by unfold goodP at h; simp only [Bool.and_eq_true, decide_eq_true_eq] at h; exact h.1
  have hri : ∀ x, x < rows.length → risesB (rows.getD x []) = true ∧ inSizeB (rows.getD x []) (rows.length : Int) = true := fun x hx => by
    have := goodP_1 h hx
    unfold good1 at this
    rw [Bool.and_eq_true, ris_split, Bool.and_eq_true] at this
    exact this.1
  rw [good_order rows h10 hri] at h
  exact (order_iff rows).1 h
theorem goodL_lat {rows : List (List Int)} (hg : goodL rows = true) : Lat rows := by
  obtain ⟨o1, o2, o3⟩ := good_Ord (goodL_P hg)
  have nat : ∀ {x}, inR rows x → ∃ a : Nat, x = (a : Int) ∧ a < rows.length := fun {x} hx => ⟨x.toNat, by have := hx.1; omega, by have := hx.1; have := hx.2; omega⟩
  have hd : ∀ {x y}, inR rows x → inR rows y → leqB (dualL rows) x y = leqB rows y x := fun hx hy => leq_dual hx hy
  have hdr : ∀ {x}, inR (dualL rows) x ↔ inR rows x := fun {x} => by unfold inR; rw [length_dual]
  have hm := fun x y (hx : inR rows x) (hy : inR rows y) => bound_spec (rows := rows) (some := [x, y]) (good_bounds hg hx hy).1
  have hj := fun x y (hx : inR rows x) (hy : inR rows y) => bound_spec (rows := dualL rows) (some := [x, y]) (good_bounds hg hx hy).2
  have hmr : ∀ x y, inR rows x → inR rows y → inR rows (meetL rows x y) := fun x y hx hy => (hm x y hx hy).1
  have hjr : ∀ x y, inR rows x → inR rows y → inR rows (joinL rows x y) := fun x y hx hy => hdr.1 (hj x y hx hy).1
  refine ⟨fun x hx => ?_, fun x y hx hy h1 h2 => ?_, fun x y z hx hy hz h1 h2 => ?_, hmr, hjr, fun x y hx hy => (two_all.1 (hm x y hx hy).2.1).1, fun x y hx hy => (two_all.1 (hm x y hx hy).2.1).2, fun x y z hx hy hz h1 h2 => (hm x y hx hy).2.2 z hz (two_all.2 ⟨h1, h2⟩), fun x y hx hy => ?_, fun x y hx hy => ?_, fun x y z hx hy hz h1 h2 => ?_⟩
  · obtain ⟨a, rfl, ha⟩ := nat hx; exact o1 a ha
  · obtain ⟨a, rfl, ha⟩ := nat hx
    obtain ⟨b, rfl, hb⟩ := nat hy
    by_cases e : a = b
    · rw [e]
    · have := o2 a b ha hb e h1
      rw [this] at h2; cases h2
  · obtain ⟨a, rfl, ha⟩ := nat hx
    obtain ⟨b, rfl, hb⟩ := nat hy
    obtain ⟨c, rfl, hc⟩ := nat hz
    exact o3 a b c ha hb hc h1 h2
  · rw [← hd (hjr x y hx hy) hx]; exact (two_all.1 (hj x y hx hy).2.1).1
  · rw [← hd (hjr x y hx hy) hy]; exact (two_all.1 (hj x y hx hy).2.1).2
  · have := (hj x y hx hy).2.2 z (hdr.2 hz) (two_all.2 ⟨by rw [hd hz hx]; exact h1, by rw [hd hz hy]; exact h2⟩)
    rwa [← hd hz (hjr x y hx hy)]

section
variable {rows : List (List Int)} (L : Lat rows)
include L
theorem Lat.join_le {x y : Int} (hx : inR rows x) (hy : inR rows y) (h : leqB rows x y = true) : joinL rows x y = y :=
  L.anti _ _ (L.joinR _ _ hx hy) hy (L.joinG _ _ _ hx hy hy h (L.refl _ hy)) (L.join2 _ _ hx hy)
theorem Lat.meet_le {x y : Int} (hx : inR rows x) (hy : inR rows y) (h : leqB rows x y = true) : meetL rows x y = x :=
  L.anti _ _ (L.meetR _ _ hx hy) hx (L.meet1 _ _ hx hy) (L.meetG _ _ _ hx hy hx (L.refl _ hx) h)
end

/-- The meet of the first k elements, and their join. -/
def botN (rows : List (List Int)) : Nat → Int
  | 0 => 0
  | k + 1 => meetL rows (botN rows k) (k : Int)
def topN (rows : List (List Int)) : Nat → Int
  | 0 => 0
  | k + 1 => joinL rows (topN rows k) (k : Int)
def botL (rows : List (List Int)) : Int := boundL (dualL rows) []
def topL (rows : List (List Int)) : Int := boundL rows []
theorem botN_in {rows : List (List Int)} (L : Lat rows) (h0 : 0 < rows.length) : ∀ k, k ≤ rows.length → inR rows (botN rows k)
  | 0, _ => ⟨by simp [botN], by simp [botN]; omega⟩
  | k + 1, h => L.meetR _ _ (botN_in L h0 k (by omega)) ⟨by omega, by omega⟩
theorem topN_in {rows : List (List Int)} (L : Lat rows) (h0 : 0 < rows.length) : ∀ k, k ≤ rows.length → inR rows (topN rows k)
  | 0, _ => ⟨by simp [topN], by simp [topN]; omega⟩
  | k + 1, h => L.joinR _ _ (topN_in L h0 k (by omega)) ⟨by omega, by omega⟩
theorem botN_le {rows : List (List Int)} (L : Lat rows) (h0 : 0 < rows.length) : ∀ k, k ≤ rows.length → ∀ i, i < k → leqB rows (botN rows k) (i : Int) = true
  | 0, _, i, hi => by omega
  | k + 1, h, i, hi => by
    have hk := botN_in L h0 k (by omega)
    have hkk : inR rows (k : Int) := ⟨by omega, by omega⟩
    have hii : inR rows (i : Int) := ⟨by omega, by omega⟩
    have hm := L.meetR _ _ hk hkk
    by_cases e : i = k
    · subst e; exact L.meet2 _ _ hk hkk
    · exact L.trans _ _ _ hm hk hii (L.meet1 _ _ hk hkk) (botN_le L h0 k (by omega) i (by omega))
theorem topN_le {rows : List (List Int)} (L : Lat rows) (h0 : 0 < rows.length) : ∀ k, k ≤ rows.length → ∀ i, i < k → leqB rows (i : Int) (topN rows k) = true
  | 0, _, i, hi => by omega
  | k + 1, h, i, hi => by
    have hk := topN_in L h0 k (by omega)
    have hkk : inR rows (k : Int) := ⟨by omega, by omega⟩
    have hii : inR rows (i : Int) := ⟨by omega, by omega⟩
    have hm := L.joinR _ _ hk hkk
    by_cases e : i = k
    · subst e; exact L.join2 _ _ hk hkk
    · exact L.trans _ _ _ hii hk hm (topN_le L h0 k (by omega) i (by omega)) (L.join1 _ _ hk hkk)
theorem good_pos {rows : List (List Int)} (hg : goodL rows = true) : 0 < rows.length := by
  unfold goodL at hg
  simp only [Bool.and_eq_true, Bool.not_eq_true', decide_eq_false_iff_not] at hg
  omega
theorem bound_nil {rows : List (List Int)} {b : Int} (hb : inR rows b) (hle : ∀ i, i < rows.length → leqB rows (i : Int) b = true) (anti : ∀ x y, inR rows x → inR rows y → leqB rows x y = true → leqB rows y x = true → x = y) : boundL rows [] = b := by
  have hin : ∀ z, z ∈ lowsB rows [] rows.length ↔ inR rows z := fun z => by
    unfold lowsB
    rw [upTo_mem]
    exact ⟨fun h => ⟨h.1, h.2.1⟩, fun h => ⟨h.1, h.2, rfl⟩⟩
  have h0 : 0 ≤ boundL rows [] := by
    rcases boundL_range rows [] with h | h
    · exfalso
      unfold boundL at h
      cases hf : (lowsB rows [] rows.length).find? fun l => withinB (lowsB rows [] rows.length) (rows.getD l.toNat []) with
      | some l =>
        rw [hf] at h
        have := (hin l).1 (List.mem_of_find?_eq_some hf)
        simp only [Option.getD_some] at h
        have := this.1
        omega
      | none =>
        rw [List.find?_eq_none] at hf
        refine hf b ((hin b).2 hb) ?_
        unfold withinB
        rw [List.all_eq_true]
        intro a ha
        have ha := (hin a).1 ha
        have := hle a.toNat (by have := ha.1; have := ha.2; omega)
        rwa [show (a.toNat : Int) = a by have := ha.1; omega] at this
    · exact h.1
  obtain ⟨s1, -, s3⟩ := bound_spec h0
  have e1 := s3 b hb (fun s hs => by simp at hs)
  have e2 := hle (boundL rows []).toNat (by have := s1.2; omega)
  rw [show ((boundL rows []).toNat : Int) = boundL rows [] by omega] at e2
  exact anti _ _ s1 hb e2 e1
theorem top_eq {rows : List (List Int)} (hg : goodL rows = true) : topL rows = topN rows rows.length := by
  have L := goodL_lat hg
  have h0 := good_pos hg
  exact bound_nil (topN_in L h0 _ (Nat.le_refl _)) (fun i hi => topN_le L h0 _ (Nat.le_refl _) i hi) L.anti
theorem bot_eq {rows : List (List Int)} (hg : goodL rows = true) : botL rows = botN rows rows.length := by
  have L := goodL_lat hg
  have h0 := good_pos hg
  have hdr : ∀ {x}, inR (dualL rows) x ↔ inR rows x := fun {x} => by unfold inR; rw [length_dual]
  refine bound_nil (hdr.2 (botN_in L h0 _ (Nat.le_refl _))) (fun i hi => ?_) (fun x y hx hy h1 h2 => ?_)
  · rw [length_dual] at hi
    rw [leq_dual ⟨by omega, by omega⟩ (botN_in L h0 _ (Nat.le_refl _))]
    exact botN_le L h0 _ (Nat.le_refl _) i hi
  · rw [leq_dual (hdr.1 hx) (hdr.1 hy)] at h1
    rw [leq_dual (hdr.1 hy) (hdr.1 hx)] at h2
    exact L.anti _ _ (hdr.1 hx) (hdr.1 hy) h2 h1
theorem bot_in {rows : List (List Int)} (hg : goodL rows = true) : inR rows (botL rows) := by
  rw [bot_eq hg]; exact botN_in (goodL_lat hg) (good_pos hg) _ (Nat.le_refl _)
theorem top_in {rows : List (List Int)} (hg : goodL rows = true) : inR rows (topL rows) := by
  rw [top_eq hg]; exact topN_in (goodL_lat hg) (good_pos hg) _ (Nat.le_refl _)
theorem bot_le {rows : List (List Int)} (hg : goodL rows = true) {x : Int} (hx : inR rows x) : leqB rows (botL rows) x = true := by
  rw [bot_eq hg]
  have := botN_le (goodL_lat hg) (good_pos hg) _ (Nat.le_refl _) x.toNat (by have := hx.1; have := hx.2; omega)
  rwa [show (x.toNat : Int) = x by have := hx.1; omega] at this
theorem le_top {rows : List (List Int)} (hg : goodL rows = true) {x : Int} (hx : inR rows x) : leqB rows x (topL rows) = true := by
  rw [top_eq hg]
  have := topN_le (goodL_lat hg) (good_pos hg) _ (Nat.le_refl _) x.toNat (by have := hx.1; have := hx.2; omega)
  rwa [show (x.toNat : Int) = x by have := hx.1; omega] at this
end Go.Proofs.Ytbfmjknngofleaa

namespace Go.Proofs.Ytbfmjknngofleaa
def two (rows : List (List Int)) (x y : Int) : Bool := goodL rows && isB rows x && isB rows y
theorem good_10L {rows : List (List Int)} (hg : goodL rows = true) : rows.length ≤ 10 := by
  have := goodL_P hg
  unfold goodP at this
  simp only [Bool.and_eq_true, decide_eq_true_eq] at this
  exact this.1
end Go.Proofs.Ytbfmjknngofleaa

namespace Go.Proofs.Ytbfmjknngofleaa

theorem sorted_ext : ∀ (l m : List Int), l.Pairwise (· < ·) → m.Pairwise (· < ·) → (∀ x, x ∈ l ↔ x ∈ m) → l = m
  | [], [], _, _, _ => rfl
  | [], b :: m, _, _, h => by have := (h b).2 (by simp); simp at this
  | a :: l, [], _, _, h => by have := (h a).1 (by simp); simp at this
  | a :: l, b :: m, hl, hm, h => by
    rw [List.pairwise_cons] at hl hm
    have hab : a = b := by
      have h1 := (h a).1 (by simp)
      have h2 := (h b).2 (by simp)
      rcases List.mem_cons.1 h1 with e | h1
      · exact e
      · rcases List.mem_cons.1 h2 with e | h2
        · exact e.symm
        · have := hl.1 b h2
          have := hm.1 a h1
          omega
    subst hab
    congr 1
    refine sorted_ext l m hl.2 hm.2 fun x => ⟨fun hx => ?_, fun hx => ?_⟩
    · rcases List.mem_cons.1 ((h x).1 (List.mem_cons_of_mem _ hx)) with e | h'
      · have := hl.1 x hx; omega
      · exact h'
    · rcases List.mem_cons.1 ((h x).2 (List.mem_cons_of_mem _ hx)) with e | h'
      · have := hm.1 x hx; omega
      · exact h'
theorem upTo_sorted (n : Nat) (p : Nat → Bool) : (upTo n p).Pairwise (· < ·) := by
  unfold upTo
  rw [List.pairwise_map]
  refine List.Pairwise.filter _ ?_
  exact List.pairwise_lt_range.imp fun h => by simpa using h
def lessB (rows : List (List Int)) (x y : Int) : Bool := !decide (x = y) && leqB rows x y
def covP (rows : List (List Int)) (x y : Int) (z : Nat) : Bool := !(lessB rows x (z : Int) && lessB rows (z : Int) y)
def coversB (rows : List (List Int)) (x y : Int) : Bool := lessB rows x y && allN rows.length (covP rows x y)
end Go.Proofs.Ytbfmjknngofleaa

namespace Go.Proofs.Ytbfmjknngofleaa

/-- A test of all pairs need look at those of two different ones alone, in one order. -/
theorem allN_pairs {n : Nat} {p : Nat → Nat → Bool} (hs : ∀ x y, x < n → y < n → p x y = p y x) (hr : ∀ x, x < n → p x x = true) : (allN n fun x => allN n (p x)) = allN n fun x => allN x (p x) := by
  rw [Bool.eq_iff_iff, allN_iff, allN_iff]
  constructor
  · intro h x hx
    have := h x hx
    rw [allN_iff] at this ⊢
    exact fun y hy => this y (by omega)
  · intro h x hx
    rw [allN_iff]
    intro y hy
    rcases Nat.lt_trichotomy x y with h' | h' | h'
    · rw [hs x y hx hy]; exact allN_iff.1 (h y hy) x h'
    · subst h'; exact hr x hx
    · exact allN_iff.1 (h x hx) y h'
theorem Lat.meet_idem {rows : List (List Int)} (L : Lat rows) {x : Int} (hx : inR rows x) : meetL rows x x = x := L.meet_le hx hx (L.refl x hx)
theorem Lat.join_idem {rows : List (List Int)} (L : Lat rows) {x : Int} (hx : inR rows x) : joinL rows x x = x := L.join_le hx hx (L.refl x hx)

def im (f : List Int) (x : Int) : Int := f.getD x.toNat 0
def lmP (p q : List (List Int)) (f : List Int) (x y : Nat) : Bool :=
  decide (im f (meetL p (x : Int) (y : Int)) = meetL q (f.getD x 0) (f.getD y 0)) && decide (im f (joinL p (x : Int) (y : Int)) = joinL q (f.getD x 0) (f.getD y 0))
def lmH (p q : List (List Int)) (f : List Int) : Bool :=
  decide ((f.length : Int) = (p.length : Int)) && inSizeB f (q.length : Int) && (decide (im f (botL p) = botL q) && decide (im f (topL p) = topL q))
def lmB (p q : List (List Int)) (f : List Int) : Bool := lmH p q f && allN f.length fun x => allN f.length (lmP p q f x)
def lmS (p q : List (List Int)) (f : List Int) : Bool := lmH p q f && allN f.length fun x => allN x (lmP p q f x)
theorem inSize_at {l : List Int} {n : Nat} (h : inSizeB l (n : Int) = true) {i : Nat} (hi : i < l.length) : 0 ≤ l.getD i 0 ∧ l.getD i 0 < (n : Int) := by
  have := List.all_eq_true.1 h (l.getD i 0) (by rw [List.getD_eq_getElem?_getD, List.getElem?_eq_getElem hi]; exact List.getElem_mem hi)
  simp only [Bool.not_eq_true', Bool.or_eq_false_iff, decide_eq_false_iff_not] at this
  omega
theorem lm_eq {p q : List (List Int)} {f : List Int} (hp : goodL p = true) (hq : goodL q = true) : lmS p q f = lmB p q f := by
  unfold lmS lmB
  cases hh : lmH p q f with
  | false => rfl
  | true =>
    rw [Bool.true_and, Bool.true_and]
    unfold lmH at hh
    simp only [Bool.and_eq_true, decide_eq_true_eq] at hh
    have hl : f.length = p.length := by omega
    have Lp := goodL_lat hp
    have Lq := goodL_lat hq
    refine (allN_pairs (fun x y hx hy => ?_) (fun x hx => ?_)).symm
    · unfold lmP
      rw [meet_comm p, meet_comm q, join_comm p, join_comm q]
    · have hx' : inR p (x : Int) := ⟨by omega, by omega⟩
      have hfx : inR q (f.getD x 0) := inSize_at hh.1.2 hx
      unfold lmP
      rw [Lp.meet_idem hx', Lp.join_idem hx', Lq.meet_idem hfx, Lq.join_idem hfx]
      unfold im
      simp

end Go.Proofs.Ytbfmjknngofleaa

namespace Go.Proofs.Ytbfmjknngofleaa
/-- How many elements are above one. -/
def hN (rows : List (List Int)) (x : Int) : Nat := (List.range rows.length).countP fun (z : Nat) => lessB rows x (z : Int)
theorem countP_lt {α : Type} {p q : α → Bool} : ∀ (l : List α), (∀ a ∈ l, p a = true → q a = true) → (∃ a ∈ l, q a = true ∧ p a = false) → l.countP p < l.countP q
  | [], _, h => by obtain ⟨a, ha, -⟩ := h; simp at ha
  | b :: l, h, ⟨a, ha, hq, hp⟩ => by
    have hle : l.countP p ≤ l.countP q := List.countP_mono_left fun x hx => h x (by simp [hx])
    rw [List.countP_cons, List.countP_cons]
    rcases List.mem_cons.1 ha with rfl | ha
    · rw [hq, hp]; simp; omega
    · have := countP_lt l (fun x hx => h x (by simp [hx])) ⟨a, ha, hq, hp⟩
      have hb := h b (by simp)
      cases hpb : p b with
      | true => rw [hb hpb]; simp; omega
      | false => cases q b <;> simp <;> omega
theorem less_trans {rows : List (List Int)} (L : Lat rows) {x y z : Int} (hx : inR rows x) (hy : inR rows y) (hz : inR rows z) (h1 : lessB rows x y = true) (h2 : lessB rows y z = true) : lessB rows x z = true := by
  unfold lessB at *
  simp only [Bool.and_eq_true, Bool.not_eq_true', decide_eq_false_iff_not] at *
  refine ⟨fun e => ?_, L.trans x y z hx hy hz h1.2 h2.2⟩
  subst e
  exact h1.1 (L.anti x y hx hy h1.2 h2.2)
theorem hN_lt {rows : List (List Int)} (L : Lat rows) {x y : Int} (hx : inR rows x) (hy : inR rows y) (h : lessB rows x y = true) : hN rows y < hN rows x := by
  refine countP_lt _ (fun z hz hyz => less_trans L hx hy ⟨by omega, by have := List.mem_range.1 hz; omega⟩ h hyz) ⟨y.toNat, List.mem_range.2 (by have := hy.2; have := hy.1; omega), ?_, ?_⟩
  · rw [show ((y.toNat : Nat) : Int) = y by have := hy.1; omega]; exact h
  · rw [show ((y.toNat : Nat) : Int) = y by have := hy.1; omega]; unfold lessB; rw [decide_eq_true rfl]; rfl
theorem hN_top {rows : List (List Int)} {x : Int} (hx : inR rows x) : hN rows x < rows.length := by
  have h1 : (List.range rows.length).countP (fun (z : Nat) => lessB rows x (z : Int)) < (List.range rows.length).countP fun _ => true := by
    refine countP_lt _ (fun _ _ _ => rfl) ⟨x.toNat, List.mem_range.2 (by have := hx.2; have := hx.1; omega), rfl, ?_⟩
    rw [show ((x.toNat : Nat) : Int) = x by have := hx.1; omega]; unfold lessB; rw [decide_eq_true rfl]; rfl
  have h2 : ((List.range rows.length).countP fun _ => true) = rows.length := by simp
  unfold hN; omega
theorem cov_less {rows : List (List Int)} {x y : Int} (h : coversB rows x y = true) : lessB rows x y = true := by
  unfold coversB at h; rw [Bool.and_eq_true] at h; exact h.1
end Go.Proofs.Ytbfmjknngofleaa

namespace Go.Proofs.Ytbfmjknngofleaa

def irrB (rows : List (List Int)) (y : Nat) : Bool := decide (((upTo rows.length fun x => coversB rows (x : Int) (y : Int)).length : Int) = 1)
def irrL (rows : List (List Int)) : List Int := upTo rows.length (irrB rows)
def own (rows : List (List Int)) (i : Nat) : Int := (irrL rows).getD i 0
def ptL (rows : List (List Int)) (i : Nat) : List Int := upTo (irrL rows).length fun k => leqB rows (own rows k) (own rows i)
def ptsL (rows : List (List Int)) : List (List Int) := (List.range (irrL rows).length).map (ptL rows)
theorem irrL_len (rows : List (List Int)) : (irrL rows).length ≤ rows.length := upTo_length _ _
theorem own_in {rows : List (List Int)} {i : Nat} (h : i < (irrL rows).length) : inR rows (own rows i) := ⟨(upTo_getD h).1, (upTo_getD h).2.1⟩
theorem length_pts (rows : List (List Int)) : (ptsL rows).length = (irrL rows).length := by simp [ptsL]
theorem pts_getD {rows : List (List Int)} {i : Nat} (h : i < (irrL rows).length) : (ptsL rows).getD i [] = ptL rows i := getD_map_range _ _ _ h
theorem pts_leq {rows : List (List Int)} {i k : Int} (hi : 0 ≤ i ∧ i < ((irrL rows).length : Int)) (hk : 0 ≤ k ∧ k < ((irrL rows).length : Int)) : leqB (ptsL rows) i k = leqB rows (own rows i.toNat) (own rows k.toNat) := by
  unfold leqB
  rw [pts_getD (by omega), Bool.eq_iff_iff, List.contains_iff_mem]
  unfold ptL
  rw [upTo_mem]
  exact ⟨fun h => h.2.2, fun h => ⟨hi.1, hi.2, h⟩⟩
theorem okP_pts {rows : List (List Int)} (hok : okP rows) : okP (ptsL rows) := by
  have := irrL_len rows
  refine ⟨by rw [length_pts]; have := hok.1; omega, fun r hr => ?_⟩
  obtain ⟨i, -, rfl⟩ := List.mem_map.1 hr
  have := upTo_length (irrL rows).length fun k => leqB rows (own rows k) (own rows i)
  have := hok.1
  unfold ptL; omega
theorem own_inj {rows : List (List Int)} {i k : Nat} (hi : i < (irrL rows).length) (hk : k < (irrL rows).length) (h : own rows i = own rows k) : i = k := by
  have hs := upTo_sorted rows.length (irrB rows)
  rw [List.pairwise_iff_getElem] at hs
  have ei : own rows i = (irrL rows)[i] := by unfold own; simp [hi]
  have ek : own rows k = (irrL rows)[k] := by unfold own; simp [hk]
  rw [ei, ek] at h
  rcases Nat.lt_trichotomy i k with h' | h' | h'
  · have := hs i k hi hk h'; unfold irrL at h; omega
  · exact h'
  · have := hs k i hk hi h'; unfold irrL at h; omega
/-- Point maps. -/
def pmP (p q : List (List Int)) (g : List Int) (i k : Nat) : Bool := !(leqB (ptsL p) (i : Int) (k : Int) && !leqB (ptsL q) (g.getD i 0) (g.getD k 0))
def pmH (p q : List (List Int)) (g : List Int) : Bool := decide ((g.length : Int) = ((irrL p).length : Int)) && inSizeB g ((irrL q).length : Int)
def pmB (p q : List (List Int)) (g : List Int) : Bool := pmH p q g && allN g.length fun i => allN g.length (pmP p q g i)

theorem filter_snoc {α : Type} (l : List α) (x : α) (p : α → Bool) : (l ++ [x]).filter p = l.filter p ++ (if p x = true then [x] else []) := by
  rw [List.filter_append]
  congr 1
  cases h : p x <;> simp [h]
end Go.Proofs.Ytbfmjknngofleaa
