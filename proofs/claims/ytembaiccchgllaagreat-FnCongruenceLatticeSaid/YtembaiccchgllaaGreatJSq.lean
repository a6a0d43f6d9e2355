/- The plain laws of posets, lattices and points, and the values of the rows; the first walks. -/
import Derived.WalkKit
import Derived.Test.YtembaiccchgllaaGreatJTy
set_option linter.unusedSectionVars false
namespace Go.Proofs.YtembaiccchgllaaGreat

theorem take_snoc {α : Type} {l : List α} {k : Nat} (d : α) (h : k < l.length) : l.take (k + 1) = l.take k ++ [l.getD k d] := by
  rw [List.take_succ_eq_append_getElem h]; simp [h]
theorem contains_snoc (l : List Int) (x n : Int) : (l ++ [x]).contains n = (l.contains n || decide (x = n)) := by
  rw [Bool.eq_iff_iff, Bool.or_eq_true, decide_eq_true_eq, List.contains_iff_mem, List.contains_iff_mem, List.mem_append, List.mem_singleton]
  exact or_congr Iff.rfl eq_comm
theorem all_snoc {α : Type} (l : List α) (x : α) (p : α → Bool) : (l ++ [x]).all p = (l.all p && p x) := by simp
theorem take_full {α : Type} {l : List α} {k : Nat} (h1 : k ≤ l.length) (h2 : ¬ (k : Int) < (l.length : Int)) : l.take k = l ∧ k = l.length := by
  have : k = l.length := by omega
  subst this; exact ⟨List.take_length, rfl⟩
theorem all_false_at {α : Type} {l : List α} {k : Nat} {p : α → Bool} (d : α) (h : k < l.length) (hp : p (l.getD k d) = false) : l.all p = false := by
  rw [List.all_eq_false]
  refine ⟨l.getD k d, ?_, by simpa using hp⟩
  simp [h]
theorem contains_at {l : List Int} {k : Nat} {n : Int} (h : k < l.length) (hp : l.getD k 0 = n) : l.contains n = true := by
  rw [List.contains_iff_mem, ← hp]
  simp [h]

def allN (n : Nat) (p : Nat → Bool) : Bool := (List.range n).all p
theorem allN_succ (n : Nat) (p : Nat → Bool) : allN (n + 1) p = (allN n p && p n) := by simp [allN, List.range_succ]
theorem allN_false {n k : Nat} {p : Nat → Bool} (hk : k < n) (h : p k = false) : allN n p = false := by
  unfold allN; rw [List.all_eq_false]; exact ⟨k, List.mem_range.2 hk, by simp [h]⟩
theorem allN_iff {n : Nat} {p : Nat → Bool} : allN n p = true ↔ ∀ k, k < n → p k = true := by simp [allN]
theorem allN_full {n k : Nat} {p : Nat → Bool} (h : allN k p = true) (h1 : k ≤ n) (h2 : ¬ (k : Int) < (n : Int)) : allN n p = true := by
  have : k = n := by omega
  subst this; exact h

def inB (x a b : Int) : Bool := decide (a ≤ x) && decide (x ≤ b)
def risB (l : List Int) (lo hi : Int) : Bool := allN l.length fun i => inB (l.getD i 0) lo hi && (i == 0 || decide (l.getD (i - 1) 0 < l.getD i 0))
def withinB (x y : List Int) : Bool := x.all fun a => y.contains a

theorem drop_cons' {α : Type} {l : List α} {k : Nat} (d : α) (h : k < l.length) : l.drop k = l.getD k d :: l.drop (k + 1) := by
  rw [List.drop_eq_getElem_cons h]; simp [h]
theorem eq_at {α : Type} {l m : List α} {k : Nat} (d : α) (h : l.getD k d ≠ m.getD k d) : ¬ l = m := fun e => h (by rw [e])

def okP (rows : List (List Int)) : Prop := rows.length ≤ 1048576 ∧ ∀ r ∈ rows, r.length ≤ 1048576
theorem okP.row {rows : List (List Int)} (h : okP rows) (j : Nat) : (rows.getD j []).length ≤ 1048576 := by
  rw [List.getD_eq_getElem?_getD]
  cases hj : rows[j]? with
  | none => simp
  | some r => exact h.2 r (List.mem_of_getElem? hj)

def leqB (rows : List (List Int)) (x y : Int) : Bool := (rows.getD y.toNat []).contains x
def isB (rows : List (List Int)) (x : Int) : Bool := decide (0 ≤ x) && decide (x < (rows.length : Int))
theorem isB_iff {rows : List (List Int)} {x : Int} : isB rows x = true ↔ 0 ≤ x ∧ x < (rows.length : Int) := by unfold isB; simp

def upTo (n : Nat) (p : Nat → Bool) : List Int := ((List.range n).filter p).map Int.ofNat
theorem upTo_succ (n : Nat) (p : Nat → Bool) : upTo (n + 1) p = upTo n p ++ (if p n = true then [(n : Int)] else []) := by
  unfold upTo
  rw [List.range_succ, List.filter_append, List.map_append]
  congr 1
  by_cases h : p n = true <;> simp [h]
theorem upTo_length (n : Nat) (p : Nat → Bool) : (upTo n p).length ≤ n := by
  unfold upTo
  rw [List.length_map]
  exact Nat.le_trans (List.length_filter_le _ _) (by simp)
theorem upTo_mem {n : Nat} {p : Nat → Bool} {x : Int} : x ∈ upTo n p ↔ 0 ≤ x ∧ x < (n : Int) ∧ p x.toNat = true := by
  unfold upTo
  rw [List.mem_map]
  constructor
  · rintro ⟨a, ha, rfl⟩
    rw [List.mem_filter, List.mem_range] at ha
    refine ⟨by simp, by simpa using ha.1, by simpa using ha.2⟩
  · rintro ⟨h0, h1, h2⟩
    refine ⟨x.toNat, ?_, by simp; omega⟩
    rw [List.mem_filter, List.mem_range]
    exact ⟨by omega, h2⟩
theorem upTo_getD {n : Nat} {p : Nat → Bool} {i : Nat} (h : i < (upTo n p).length) : 0 ≤ (upTo n p).getD i 0 ∧ (upTo n p).getD i 0 < (n : Int) ∧ p ((upTo n p).getD i 0).toNat = true := by
  have : (upTo n p).getD i 0 ∈ upTo n p := by
    rw [List.getD_eq_getElem?_getD, List.getElem?_eq_getElem h]; exact List.getElem_mem h
  exact upTo_mem.1 this

def lowsB (rows : List (List Int)) (some : List Int) (n : Nat) : List Int := upTo n fun z => some.all fun s => leqB rows (z : Int) s
theorem lowsB_getD {rows : List (List Int)} {some : List Int} {n i : Nat} (h : i < (lowsB rows some n).length) : 0 ≤ (lowsB rows some n).getD i 0 ∧ (lowsB rows some n).getD i 0 < (n : Int) ∧ (some.all fun s => leqB rows (((lowsB rows some n).getD i 0).toNat : Int) s) = true := upTo_getD h
def boundL (rows : List (List Int)) (some : List Int) : Int := ((lowsB rows some rows.length).find? fun l => withinB (lowsB rows some rows.length) (rows.getD l.toNat [])).getD (-1)
def dualL (rows : List (List Int)) : List (List Int) := (List.range rows.length).map fun (x : Nat) => upTo rows.length fun y => leqB rows (x : Int) (y : Int)
def good1 (rows : List (List Int)) (x : Nat) : Bool := risB (rows.getD x []) 0 ((rows.length : Int) - 1) && (rows.getD x []).contains (x : Int)
def good2 (rows : List (List Int)) (x : Nat) : Bool := (rows.getD x []).all fun y => !(!decide (y = (x : Int)) && (rows.getD y.toNat []).contains (x : Int)) && withinB (rows.getD y.toNat []) (rows.getD x [])
def goodP (rows : List (List Int)) : Bool := decide (rows.length ≤ 10) && (allN rows.length (good1 rows) && allN rows.length (good2 rows))

theorem find_none_take {α : Type} {l : List α} {p : α → Bool} {i : Nat} (h : (l.take i).find? p = none) (d : α) (hi : i < l.length) (hp : p (l.getD i d) = true) : l.find? p = some (l.getD i d) := by
  have e : l = l.take i ++ l.drop i := (List.take_append_drop i l).symm
  rw [e, List.find?_append, h, drop_cons' d hi, List.find?_cons_of_pos hp]
  rw [← drop_cons' d hi, ← e]; rfl
theorem find_take_succ {α : Type} {l : List α} {p : α → Bool} {i : Nat} (h : (l.take i).find? p = none) (d : α) (hi : i < l.length) (hp : p (l.getD i d) = false) : (l.take (i + 1)).find? p = none := by
  rw [take_snoc d hi, List.find?_append, h, List.find?_cons_of_neg (by rw [hp]; decide)]; rfl
theorem risB_mem {l : List Int} {lo hi : Int} (h : risB l lo hi = true) {i : Nat} (hi' : i < l.length) : lo ≤ l.getD i 0 ∧ l.getD i 0 ≤ hi := by
  have := allN_iff.1 h i hi'
  simp only [Bool.and_eq_true, inB, decide_eq_true_eq] at this
  exact this.1
theorem okP_dual {rows : List (List Int)} (h : okP rows) : okP (dualL rows) := by
  refine ⟨by simp only [dualL, List.length_map, List.length_range]; exact h.1, fun r hr => ?_⟩
  simp only [dualL, List.mem_map] at hr
  obtain ⟨x, -, rfl⟩ := hr
  exact Nat.le_trans (upTo_length _ _) h.1
theorem length_dual (rows : List (List Int)) : (dualL rows).length = rows.length := by simp [dualL]
def pairOk (rows : List (List Int)) (x y : Nat) : Bool := !decide (boundL rows [(x : Int), (y : Int)] < 0) && !decide (boundL (dualL rows) [(x : Int), (y : Int)] < 0)
def goodL (rows : List (List Int)) : Bool := goodP rows && (!decide (rows.length = 0) && allN rows.length fun x => allN x fun y => pairOk rows x y)
def meetL (rows : List (List Int)) (x y : Int) : Int := boundL rows [x, y]
def joinL (rows : List (List Int)) (x y : Int) : Int := boundL (dualL rows) [x, y]
theorem boundL_range (rows : List (List Int)) (some : List Int) : boundL rows some = -1 ∨ (0 ≤ boundL rows some ∧ boundL rows some < (rows.length : Int)) := by
  unfold boundL
  cases h : (lowsB rows some rows.length).find? fun l => withinB (lowsB rows some rows.length) (rows.getD l.toNat []) with
  | none => exact .inl rfl
  | some l =>
    have := upTo_mem.1 (List.mem_of_find?_eq_some h)
    exact .inr ⟨this.1, this.2.1⟩
theorem bound_same {rows : List (List Int)} {x : Int} (hx : 0 ≤ x ∧ x < (rows.length : Int)) (hr : leqB rows x x = true) : 0 ≤ boundL rows [x, x] := by
  rcases boundL_range rows [x, x] with h | h
  · exfalso
    have hxx : (x.toNat : Int) = x := by omega
    have hmem : x ∈ lowsB rows [x, x] rows.length := upTo_mem.2 ⟨hx.1, hx.2, by rw [hxx]; simp [hr]⟩
    unfold boundL at h
    cases hf : (lowsB rows [x, x] rows.length).find? fun l => withinB (lowsB rows [x, x] rows.length) (rows.getD l.toNat []) with
    | some l =>
      rw [hf] at h
      have := upTo_mem.1 (List.mem_of_find?_eq_some hf)
      simp only [Option.getD_some] at h
      omega
    | none =>
      rw [List.find?_eq_none] at hf
      refine hf x hmem ?_
      unfold withinB
      rw [List.all_eq_true]
      intro a ha
      obtain ⟨a0, a1, a2⟩ := upTo_mem.1 ha
      have haa : (a.toNat : Int) = a := by omega
      rw [haa] at a2
      simp only [List.all_cons, List.all_nil, Bool.and_true, Bool.and_self] at a2
      exact a2
  · exact h.1
theorem bound_comm (rows : List (List Int)) (x y : Int) : boundL rows [x, y] = boundL rows [y, x] := by
  have h : ∀ n, lowsB rows [x, y] n = lowsB rows [y, x] n := fun n => by
    unfold lowsB
    congr 1
    funext z
    simp [Bool.and_comm]
  unfold boundL
  rw [h]
theorem dual_getD {rows : List (List Int)} {x : Nat} (h : x < rows.length) : (dualL rows).getD x [] = upTo rows.length fun y => leqB rows (x : Int) (y : Int) := by
  unfold dualL
  rw [List.getD_eq_getElem?_getD, List.getElem?_map, List.getElem?_range h]; rfl
theorem leq_dual {rows : List (List Int)} {x y : Int} (hx : 0 ≤ x ∧ x < (rows.length : Int)) (hy : 0 ≤ y ∧ y < (rows.length : Int)) : leqB (dualL rows) x y = leqB rows y x := by
  have e1 : (x.toNat : Int) = x := by omega
  have e2 : (y.toNat : Int) = y := by omega
  rw [Bool.eq_iff_iff]
  show ((dualL rows).getD y.toNat []).contains x = true ↔ _
  rw [dual_getD (by omega), List.contains_iff_mem, upTo_mem, e1, e2]
  exact ⟨fun h => h.2.2, fun h => ⟨hx.1, hx.2, h⟩⟩

theorem goodL_P {rows : List (List Int)} (h : goodL rows = true) : goodP rows = true := by unfold goodL at h; rw [Bool.and_eq_true] at h; exact h.1
theorem goodP_1 {rows : List (List Int)} (h : goodP rows = true) {x : Nat} (hx : x < rows.length) : good1 rows x = true := by
  unfold goodP at h; simp only [Bool.and_eq_true] at h; exact allN_iff.1 h.2.1 x hx
theorem good_refl {rows : List (List Int)} (h : goodP rows = true) {x : Int} (hx : 0 ≤ x ∧ x < (rows.length : Int)) : leqB rows x x = true := by
  have := goodP_1 h (x := x.toNat) (by omega)
  unfold good1 at this
  rw [Bool.and_eq_true, show (x.toNat : Int) = x by omega] at this
  exact this.2
theorem good_pair {rows : List (List Int)} (h : goodL rows = true) {x y : Nat} (hy : y < x) (hx : x < rows.length) : 0 ≤ boundL rows [(x : Int), (y : Int)] ∧ 0 ≤ boundL (dualL rows) [(x : Int), (y : Int)] := by
  unfold goodL at h
  simp only [Bool.and_eq_true] at h
  have := allN_iff.1 (allN_iff.1 h.2.2 x hx) y hy
  unfold pairOk at this
  simp only [Bool.and_eq_true, Bool.not_eq_true', decide_eq_false_iff_not] at this
  omega
theorem good_bounds {rows : List (List Int)} (h : goodL rows = true) {x y : Int} (hx : 0 ≤ x ∧ x < (rows.length : Int)) (hy : 0 ≤ y ∧ y < (rows.length : Int)) : 0 ≤ boundL rows [x, y] ∧ 0 ≤ boundL (dualL rows) [x, y] := by
  have hP := goodL_P h
  obtain ⟨a, rfl⟩ : ∃ a : Nat, x = (a : Int) := ⟨x.toNat, by omega⟩
  obtain ⟨b, rfl⟩ : ∃ b : Nat, y = (b : Int) := ⟨y.toNat, by omega⟩
  rcases Nat.lt_trichotomy b a with hlt | rfl | hlt
  · exact good_pair h hlt (by omega)
  · refine ⟨bound_same hx (good_refl hP hx), bound_same (by rw [length_dual]; exact hx) ?_⟩
    rw [leq_dual hx hx]; exact good_refl hP hx
  · rw [bound_comm rows, bound_comm (dualL rows)]
    exact good_pair h hlt (by omega)
def tabB (t : List (List Bool)) (x y : Nat) : Bool := (t.getD x []).getD y false
def okT (t : List (List Bool)) : Prop := t.length ≤ 10 ∧ ∀ x, x < t.length → (t.getD x []).length = t.length
def ordZ (t : List (List Bool)) (x y z : Nat) : Bool := !(tabB t x y && tabB t y z && !tabB t x z)
def ordY (t : List (List Bool)) (x y : Nat) : Bool := !(!decide ((x : Int) = (y : Int)) && tabB t x y && tabB t y x) && allN t.length fun z => ordZ t x y z
def ordX (t : List (List Bool)) (x : Nat) : Bool := tabB t x x && allN t.length fun y => ordY t x y
def orderB (t : List (List Bool)) : Bool := allN t.length fun x => ordX t x
def greatL (t : List (List Bool)) (l : List Int) : Int := (l.find? fun x => l.all fun y => tabB t y.toNat x.toNat).getD (-1)
end Go.Proofs.YtembaiccchgllaaGreat

namespace Go.Proofs.YtembaiccchgllaaGreat
def mT (t : List (List Bool)) (x y : Nat) : Int := greatL t (upTo t.length fun z => tabB t z x && tabB t z y)
def rowT (t : List (List Bool)) (x k : Nat) : List Int := (List.range k).map fun y => mT t x y
def meetsT (t : List (List Bool)) (k : Nat) : List (List Int) := (List.range k).map fun x => rowT t x t.length
def mOk (t : List (List Bool)) : Bool := allN t.length fun x => allN t.length fun y => !decide (mT t x y < 0)
theorem rowT_succ (t : List (List Bool)) (x k : Nat) : rowT t x (k + 1) = rowT t x k ++ [mT t x k] := by unfold rowT; rw [List.range_succ, List.map_append]; rfl
theorem meetsT_succ (t : List (List Bool)) (k : Nat) : meetsT t (k + 1) = meetsT t k ++ [rowT t k t.length] := by unfold meetsT; rw [List.range_succ, List.map_append]; rfl
theorem length_rowT (t : List (List Bool)) (x k : Nat) : (rowT t x k).length = k := by simp [rowT]
theorem length_meetsT (t : List (List Bool)) (k : Nat) : (meetsT t k).length = k := by simp [meetsT]
end Go.Proofs.YtembaiccchgllaaGreat

namespace Go.Proofs.YtembaiccchgllaaGreat

def tabOf (rows : List (List Int)) : List (List Bool) := (List.range rows.length).map fun (x : Nat) => (List.range rows.length).map fun (y : Nat) => leqB rows (x : Int) (y : Int)
def dualT (t : List (List Bool)) : List (List Bool) := (List.range t.length).map fun (x : Nat) => (List.range t.length).map fun (y : Nat) => tabB t y x
theorem length_tabOf (rows : List (List Int)) : (tabOf rows).length = rows.length := by simp [tabOf]
theorem getD_map_range {α : Type} (n : Nat) (f : Nat → α) (d : α) {x : Nat} (h : x < n) : ((List.range n).map f).getD x d = f x := by
  rw [List.getD_eq_getElem?_getD, List.getElem?_map, List.getElem?_range h]; rfl
theorem tabB_of (rows : List (List Int)) {x y : Nat} (hx : x < rows.length) (hy : y < rows.length) : tabB (tabOf rows) x y = leqB rows (x : Int) (y : Int) := by
  unfold tabB tabOf
  rw [getD_map_range _ _ _ hx, getD_map_range _ _ _ hy]
theorem okT_of {rows : List (List Int)} (h : rows.length ≤ 10) : okT (tabOf rows) := by
  refine ⟨by rw [length_tabOf]; exact h, fun x hx => ?_⟩
  rw [length_tabOf] at hx
  unfold tabOf
  rw [getD_map_range _ _ _ hx]
  simp
theorem dual_tab (rows : List (List Int)) : dualT (tabOf rows) = tabOf (dualL rows) := by
  unfold dualT
  rw [length_tabOf]
  conv => rhs; unfold tabOf
  rw [length_dual]
  refine List.map_congr_left fun x hx => List.map_congr_left fun y hy => ?_
  have hx := List.mem_range.1 hx
  have hy := List.mem_range.1 hy
  rw [tabB_of rows hy hx, leq_dual ⟨by omega, by omega⟩ ⟨by omega, by omega⟩]
theorem upTo_congr {n : Nat} {p q : Nat → Bool} (h : ∀ z, z < n → p z = q z) : upTo n p = upTo n q := by
  unfold upTo
  congr 1
  exact List.filter_congr fun z hz => h z (List.mem_range.1 hz)
theorem find_congr {α : Type} {p q : α → Bool} : ∀ {l : List α}, (∀ x ∈ l, p x = q x) → l.find? p = l.find? q
  | [], _ => rfl
  | a :: l, h => by
    rw [List.find?_cons, List.find?_cons, h a (by simp), find_congr fun x hx => h x (by simp [hx])]
theorem all_congr' {α : Type} {p q : α → Bool} : ∀ {l : List α}, (∀ x ∈ l, p x = q x) → l.all p = l.all q
  | [], _ => rfl
  | a :: l, h => by
    rw [List.all_cons, List.all_cons, h a (by simp), all_congr' fun x hx => h x (by simp [hx])]
theorem mT_of (rows : List (List Int)) {x y : Nat} (hx : x < rows.length) (hy : y < rows.length) : mT (tabOf rows) x y = boundL rows [(x : Int), (y : Int)] := by
  unfold mT boundL
  rw [length_tabOf]
  have e : (upTo rows.length fun z => tabB (tabOf rows) z x && tabB (tabOf rows) z y) = lowsB rows [(x : Int), (y : Int)] rows.length := by
    refine upTo_congr fun z hz => ?_
    rw [tabB_of rows hz hx, tabB_of rows hz hy]
    simp
  rw [e]
  unfold greatL
  congr 1
  refine find_congr fun l hl => ?_
  obtain ⟨l0, l1, -⟩ := upTo_mem.1 hl
  unfold withinB
  refine all_congr' fun a ha => ?_
  obtain ⟨a0, a1, -⟩ := upTo_mem.1 ha
  rw [tabB_of rows (by omega) (by omega), show (a.toNat : Int) = a by omega, show (l.toNat : Int) = l by omega]
  rfl
end Go.Proofs.YtembaiccchgllaaGreat

namespace Go.Proofs.YtembaiccchgllaaGreat
open Go Go.Pv Go.Proofs
set_option maxHeartbeats 32000000
set_option maxRecDepth 100000
attribute [local bitvec_to_nat] St.put St.setObj St.ev killP killA killP1 killH mapHO renP renA ren1 killG killGA killG1 krowP krowA krow1 lendP lendA lend1 unv pinP pin1 elemsM viewM viewN viewV n_set_z n_set_s n_map_c n_map_n getD_z getD_s n_toNat n_cond_t n_cond_f n_len_c n_len_n n_app_c n_app_n n_take_s n_take_z n_drop_s n_drop_z n_get_z n_get_s view viewA view1 elems Nat.zero_add Nat.add_zero Bool.not_true Bool.not_false Nat.one_ne_zero Nat.mul_one

theorem in_c (x a b : Int) : PCalls Tryz.prog 159 [I x, I a, I b] (B (inB x a b)) := by
  refine pcalls1 Tryz.func159 rfl Tryz.ntmps159 rfl ?_
  simp only [List.length_cons, List.length_nil, Nat.reduceAdd, Nat.reduceSub, List.replicate_succ, List.replicate_zero, List.cons_append, List.nil_append]
  repeat' (first
| refine g_seq ?_
| refine zC ?_
| (refine o_go rfl ?_; (first
| refine p_p (zD rfl) ?_
| refine p_p (zA rfl) ?_
| refine p_p (zQ rfl rfl) ?_
| refine p_p (ps_leq rfl rfl rfl) ?_
| refine p_p (ps_geq rfl rfl rfl) ?_); refine ⟨_, aA, ?_⟩)
| refine o_nil ?_
| (refine o_s rfl ?_; refine ⟨_, aA, ?_⟩)
| (refine o_splitD rfl rfl rfl (fun hc => ?_) (fun hc => ?_) <;> first | (exfalso; omega) | dsimp only [List.set_cons_zero, List.set_cons_succ])
| refine kr1 ?_
| refine krB rfl ?_
| refine g_ret ?_)
  · unfold inB; rw [decide_eq_true hc]; rfl
  · unfold inB; rw [decide_eq_false hc]; rfl

theorem has_c (xs : List Int) (n : Int) (hl : xs.length ≤ 9223372036854775807) : PCalls Tryz.prog 296 [ints xs, I n] (B (xs.contains n)) := by
  refine pcalls1 Tryz.func296 rfl Tryz.ntmps296 rfl ?_
  simp only [List.length_cons, List.length_nil, Nat.reduceAdd, Nat.reduceSub, List.replicate_succ, List.replicate_zero, List.cons_append, List.nil_append]
  repeat' (first
| refine g_seq ?_
| refine zJ ?_
| refine zC ?_
| (refine o_go rfl ?_; (first
| refine p_p (zA rfl) ?_); refine ⟨_, aA, ?_⟩)
| refine o_nil ?_)
  refine g_loopT (α := Nat) (fun k => [(5, I k)]) (fun _ => []) (fun k => k ≤ xs.length ∧ (xs.take k).contains n = false) (fun k => xs.length - k) 0 aF ⟨Nat.zero_le _, by simp⟩ ⟨rfl, trivial⟩ rfl ?_
  rintro k ⟨hk, hno⟩
  dsimp only [zZ, List.set_cons_zero, List.set_cons_succ]
  repeat' (first
| refine g_seq ?_
| refine zJ ?_
| refine zC ?_
| (refine o_go rfl ?_; (first
| refine p_p (zD rfl) ?_
| refine p_p (zA rfl) ?_
| refine p_p (zF rfl rfl) ?_
| refine p_p (zN rfl rfl rfl (by omega) aM (by exact rfl)) ?_
| refine p_p (zU rfl rfl rfl) ?_
| refine p_p (zS rfl rfl rfl) ?_
| refine p_p (ps_add rfl rfl rfl aN) ?_
| refine p_p (ps_eql rfl rfl rfl) ?_); refine ⟨_, aA, ?_⟩)
| refine o_nil ?_
| (refine zK rfl (fun hc => ?_) (fun hc => ?_) <;> try (exfalso; omega))
| refine kr1 ?_
| refine krB rfl ?_
| refine zR ?_
| refine g_exit ?_
| refine g_ret ?_)
  · exact Eq.symm (contains_at (by omega) hc)
  · refine zT (k + 1) ⟨by omega, ?_⟩ (by omega) aI ⟨rfl, trivial⟩ (zM _)
    rw [take_snoc 0 (by omega), contains_snoc, hno, decide_eq_false hc]; rfl
  · rw [(take_full hk hc).1] at hno
    exact hno.symm

theorem within_c (xs ys : List Int) (hl : xs.length ≤ 9223372036854775807) (hm : ys.length ≤ 9223372036854775807) : PCalls Tryz.prog 297 [ints xs, ints ys] (B (withinB xs ys)) := by
  refine pcalls1 Tryz.func297 rfl Tryz.ntmps297 rfl ?_
  simp only [List.length_cons, List.length_nil, Nat.reduceAdd, Nat.reduceSub, List.replicate_succ, List.replicate_zero, List.cons_append, List.nil_append]
  repeat' (first
| refine g_seq ?_
| refine zJ ?_
| refine zC ?_
| (refine o_go rfl ?_; (first
| refine p_p (zA rfl) ?_); refine ⟨_, aA, ?_⟩)
| refine o_nil ?_)
  refine g_loopT (α := Nat) (fun k => [(5, I k)]) (fun _ => []) (fun k => k ≤ xs.length ∧ (xs.take k).all (fun a => ys.contains a) = true) (fun k => xs.length - k) 0 aF ⟨Nat.zero_le _, by simp⟩ ⟨rfl, trivial⟩ rfl ?_
  rintro k ⟨hk, hno⟩
  dsimp only [zZ, List.set_cons_zero, List.set_cons_succ]
  repeat' (first
| refine g_seq ?_
| refine zJ ?_
| refine zC ?_
| (refine o_go rfl ?_; (first
| refine p_p (ps_callM rfl rfl aB (by rfl) (has_c _ _ (by omega))) ?_
| refine p_p (zD rfl) ?_
| refine p_p (zA rfl) ?_
| refine p_p (zF rfl rfl) ?_
| refine p_p (zN rfl rfl rfl (by omega) aM (by exact rfl)) ?_
| refine p_p (zU rfl rfl rfl) ?_
| refine p_p (zS rfl rfl rfl) ?_
| refine p_p (ps_add rfl rfl rfl aN) ?_
| refine p_p (ps_not rfl rfl) ?_); refine ⟨_, aA, ?_⟩)
| refine o_nil ?_
| (refine zK rfl (fun hc => ?_) (fun hc => ?_) <;> try (exfalso; omega))
| (refine g_condNB rfl (fun hc => ?_) (fun hc => ?_))
| refine kr1 ?_
| refine krB rfl ?_
| refine zR ?_
| refine g_exit ?_
| refine g_ret ?_)
  · exact Eq.symm (all_false_at (k := k) 0 (by omega) hc)
  · refine zT (k + 1) ⟨by omega, ?_⟩ (by omega) aI ⟨rfl, trivial⟩ (zM _)
    rw [take_snoc 0 (by omega), all_snoc, hno, Bool.true_and]; exact hc
  · rw [(take_full hk hc).1] at hno
    exact hno.symm

theorem rising_c (xs : List Int) (lo hi : Int) (hl : xs.length ≤ 9223372036854775807) : PCalls Tryz.prog 295 [ints xs, I lo, I hi] (B (risB xs lo hi)) := by
  refine pcalls1 Tryz.func295 rfl Tryz.ntmps295 rfl ?_
  simp only [List.length_cons, List.length_nil, Nat.reduceAdd, Nat.reduceSub, List.replicate_succ, List.replicate_zero, List.cons_append, List.nil_append]
  repeat' (first
| refine g_seq ?_
| refine zJ ?_
| refine zC ?_
| (refine o_go rfl ?_; (first
| refine p_p (zA rfl) ?_); refine ⟨_, aA, ?_⟩)
| refine o_nil ?_)
  refine g_loopT (α := Nat) (fun k => [(7, I k)]) (fun _ => []) (fun k => k ≤ xs.length ∧ allN k (fun i => inB (xs.getD i 0) lo hi && (i == 0 || decide (xs.getD (i - 1) 0 < xs.getD i 0))) = true) (fun k => xs.length - k) 0 aF ⟨Nat.zero_le _, rfl⟩ ⟨rfl, trivial⟩ rfl ?_
  rintro k ⟨hk, hno⟩
  dsimp only [zZ, List.set_cons_zero, List.set_cons_succ]
  repeat' (first
| refine g_seq ?_
| refine zJ ?_
| refine zC ?_
| refine zP (by kernel_rfl) (by kernel_rfl) ?_
| (refine o_go rfl ?_; (first
| refine p_p (zG rfl rfl aB (in_c _ _ _)) ?_
| refine p_p (zD rfl) ?_
| refine p_p (zA rfl) ?_
| refine p_p (zF rfl rfl) ?_
| refine p_p (zN rfl rfl rfl (by omega) aM (by exact rfl)) ?_
| refine p_p (zU rfl rfl rfl) ?_
| refine p_p (zS rfl rfl rfl) ?_
| refine p_p (ps_add rfl rfl rfl aN) ?_
| refine p_p (ps_not rfl rfl) ?_
| refine p_p (zQ rfl rfl) ?_
| refine p_p (ps_gtr rfl rfl rfl) ?_
| refine p_p (ps_geq rfl rfl rfl) ?_
| refine p_p (ps_sub rfl rfl rfl aN) ?_); refine ⟨_, aA, ?_⟩)
| refine o_nil ?_
| (refine o_s rfl ?_; refine ⟨_, aA, ?_⟩)
| (refine o_splitD rfl rfl rfl (fun hc => ?_) (fun hc => ?_) <;> first | (exfalso; omega) | dsimp only [List.set_cons_zero, List.set_cons_succ])
| (refine o_splitN rfl rfl rfl (fun hc => ?_) (fun hc => ?_) <;> dsimp only [List.set_cons_zero, List.set_cons_succ])
| refine zX rfl ?_
| refine zW rfl ?_
| (refine zK rfl (fun hc => ?_) (fun hc => ?_) <;> try (exfalso; omega))
| refine kr1 ?_
| refine krB rfl ?_
| refine zR ?_
| refine g_exit ?_
| refine g_ret ?_)
  · exact Eq.symm (allN_false (k := k) (by omega) (by rw [hc]; rfl))
  · refine Eq.symm (allN_false (k := k) (by omega) ?_)
    rename_i h1 h2 h3
    rw [show ((k : Int) - 1).toNat = k - 1 by omega] at hc
    rw [decide_eq_false (by omega : ¬ xs.getD (k - 1) 0 < xs.getD k 0), show (k == 0) = false by simp; omega]
    simp
  · rename_i h1 h2 h3
    refine zT (k + 1) ⟨by omega, ?_⟩ (by omega) aI ⟨rfl, trivial⟩ (zM _)
    rw [show ((k : Int) - 1).toNat = k - 1 by omega] at hc
    rw [allN_succ, hno, h2, decide_eq_true (by omega : xs.getD (k - 1) 0 < xs.getD k 0)]
    simp
  · rename_i h1 h2
    refine zT (k + 1) ⟨by omega, ?_⟩ (by omega) aI ⟨rfl, trivial⟩ (zM _)
    rw [allN_succ, hno, h2, show (k == 0) = true by simp; omega]
    rfl
  · exact Eq.symm (allN_full hno hk hc)

def risesB (xs : List Int) : Bool := allN xs.length fun i => i == 0 || decide (xs.getD (i - 1) 0 < xs.getD i 0)
theorem rises_c (xs : List Int) (hl : xs.length ≤ 1048576) : PCalls Tryz.prog 287 [ints xs] (B (risesB xs)) := by
  refine pcalls1 Tryz.func287 rfl Tryz.ntmps287 rfl ?_
  simp only [List.length_cons, List.length_nil, Nat.reduceAdd, Nat.reduceSub, List.replicate_succ, List.replicate_zero, List.cons_append, List.nil_append]
  repeat' (first
| refine g_seq ?_
| refine zJ ?_
| refine zC ?_
| (refine o_go rfl ?_; (first
| refine p_p (zA rfl) ?_); refine ⟨_, aA, ?_⟩)
| refine o_nil ?_)
  refine g_loopT (α := Nat) (fun k => [(3, I (k : Int))]) (fun _ => []) (fun k => 1 ≤ k ∧ k ≤ xs.length + 1 ∧ (allN k fun i => i == 0 || decide (xs.getD (i - 1) 0 < xs.getD i 0)) = true) (fun k => xs.length + 1 - k) 1 aF ⟨by omega, by omega, rfl⟩ ⟨rfl, trivial⟩ rfl ?_
  rintro k ⟨h1, hk, hall⟩
  dsimp only [zZ, List.set_cons_zero, List.set_cons_succ]
  have hk0 : (k == 0) = false := by rw [beq_eq_false_iff_ne]; omega
  repeat' (first
| refine g_seq ?_
| refine zJ ?_
| refine zC ?_
| refine zP (by kernel_rfl) (by kernel_rfl) ?_
| (refine o_go rfl ?_; (first
| refine p_p (zD rfl) ?_
| refine p_p (zA rfl) ?_
| refine p_p (zF rfl rfl) ?_
| refine p_p (zN rfl rfl rfl (by omega) aM (by exact rfl)) ?_
| refine p_p (zU rfl rfl rfl) ?_
| refine p_p (zS rfl rfl rfl) ?_
| refine p_p (ps_add rfl rfl rfl aN) ?_
| refine p_p (ps_geq rfl rfl rfl) ?_
| refine p_p (ps_sub rfl rfl rfl aN) ?_); refine ⟨_, aA, ?_⟩)
| refine o_nil ?_
| (refine zK rfl (fun hc => ?_) (fun hc => ?_) <;> try (exfalso; omega))
| refine kr1 ?_
| refine krB rfl ?_
| refine zR ?_
| refine g_exit ?_
| refine g_ret ?_)
  · rw [show ((k : Int) - 1).toNat = k - 1 by omega] at hc
    refine Eq.symm (allN_false (k := k) (by omega) ?_)
    rw [hk0, decide_eq_false (by omega)]; rfl
  · rw [show ((k : Int) - 1).toNat = k - 1 by omega] at hc
    refine zT (k + 1) ⟨by omega, by omega, ?_⟩ (by omega) aI ⟨rfl, trivial⟩ (zM _)
    rw [allN_succ, hall, hk0, decide_eq_true (by omega)]; rfl
  · refine Eq.symm (allN_iff.2 fun i hi => allN_iff.1 hall i (by omega))

def inSizeB (xs : List Int) (n : Int) : Bool := xs.all fun x => !(decide (x < 0) || decide (n ≤ x))
theorem inSize_c (xs : List Int) (n : Int) (hl : xs.length ≤ 1048576) : PCalls Tryz.prog 156 [ints xs, I n] (B (inSizeB xs n)) := by
  refine pcalls1 Tryz.func156 rfl Tryz.ntmps156 rfl ?_
  simp only [List.length_cons, List.length_nil, Nat.reduceAdd, Nat.reduceSub, List.replicate_succ, List.replicate_zero, List.cons_append, List.nil_append]
  repeat' (first
| refine g_seq ?_
| refine zJ ?_
| refine zC ?_
| (refine o_go rfl ?_; (first
| refine p_p (zD rfl) ?_
| refine p_p (zA rfl) ?_
| refine p_p (zU rfl rfl rfl) ?_); refine ⟨_, aA, ?_⟩)
| refine o_nil ?_)
  refine g_loopT (α := Nat) (fun k => [(9, I (k : Int))]) (fun _ => []) (fun k => k ≤ xs.length ∧ (xs.take k).all (fun x => !(decide (x < 0) || decide (n ≤ x))) = true) (fun k => xs.length - k) 0 aF ⟨by omega, rfl⟩ ⟨rfl, trivial⟩ rfl ?_
  rintro k ⟨hk, hall⟩
  dsimp only [zZ, List.set_cons_zero, List.set_cons_succ]
  repeat' (first
| refine g_seq ?_
| refine zJ ?_
| refine zC ?_
| (refine o_go rfl ?_; (first
| refine p_p (zD rfl) ?_
| refine p_p (zA rfl) ?_
| refine p_p (zF rfl rfl) ?_
| refine p_p (zN rfl rfl rfl (by omega) aM (by exact rfl)) ?_
| refine p_p (zS rfl rfl rfl) ?_
| refine p_p (ps_add rfl rfl rfl aN) ?_
| refine p_p (zQ rfl rfl) ?_
| refine p_p (ps_geq rfl rfl rfl) ?_); refine ⟨_, aA, ?_⟩)
| refine o_nil ?_
| (refine o_s rfl ?_; refine ⟨_, aA, ?_⟩)
| (refine o_splitD rfl rfl rfl (fun hc => ?_) (fun hc => ?_) <;> first | (exfalso; omega) | dsimp only [List.set_cons_zero, List.set_cons_succ])
| refine zX rfl ?_
| (refine zK rfl (fun hc => ?_) (fun hc => ?_) <;> try (exfalso; omega))
| refine kr1 ?_
| refine krB rfl ?_
| refine zR ?_
| refine g_exit ?_
| refine g_ret ?_)
  · exact Eq.symm (all_false_at (k := k) 0 (by omega) (by rw [decide_eq_true hc]; rfl))
  · exact Eq.symm (all_false_at (k := k) 0 (by omega) (by rw [decide_eq_true hc, Bool.or_true]; rfl))
  · rename_i h2
    refine zT (k + 1) ⟨by omega, ?_⟩ (by omega) aI ⟨rfl, trivial⟩ (zM _)
    rw [take_snoc 0 (by omega), all_snoc, hall, decide_eq_false h2, decide_eq_false hc]; rfl
  · rw [(take_full hk hc).1] at hall
    exact hall.symm
end Go.Proofs.YtembaiccchgllaaGreat

namespace Go.Proofs.YtembaiccchgllaaGreat

theorem ris_split (l : List Int) (n : Nat) : risB l 0 ((n : Int) - 1) = (risesB l && inSizeB l (n : Int)) := by
  rw [Bool.eq_iff_iff, Bool.and_eq_true]
  unfold risB risesB inSizeB
  rw [allN_iff, allN_iff, List.all_eq_true]
  constructor
  · intro h
    refine ⟨fun k hk => (by have := h k hk; rw [Bool.and_eq_true] at this; exact this.2), fun x hx => ?_⟩
    obtain ⟨k, hk, rfl⟩ := List.getElem_of_mem hx
    have := h k hk
    simp only [Bool.and_eq_true, inB, decide_eq_true_eq, List.getD_eq_getElem?_getD, List.getElem?_eq_getElem hk, Option.getD_some] at this
    rw [decide_eq_false (by omega), decide_eq_false (by omega)]; rfl
  · rintro ⟨h1, h2⟩ k hk
    rw [Bool.and_eq_true]
    refine ⟨?_, h1 k hk⟩
    have := h2 _ (List.getElem_mem hk)
    simp only [Bool.not_eq_true', Bool.or_eq_false_iff, decide_eq_false_iff_not] at this
    unfold inB
    simp only [List.getD_eq_getElem?_getD, List.getElem?_eq_getElem hk, Option.getD_some, Bool.and_eq_true, decide_eq_true_eq]
    omega

def Ord (rows : List (List Int)) : Prop := (∀ x, x < rows.length → leqB rows (x : Int) (x : Int) = true) ∧ (∀ x y, x < rows.length → y < rows.length → x ≠ y → leqB rows (x : Int) (y : Int) = true → leqB rows (y : Int) (x : Int) = false) ∧
  ∀ x y z, x < rows.length → y < rows.length → z < rows.length → leqB rows (x : Int) (y : Int) = true → leqB rows (y : Int) (z : Int) = true → leqB rows (x : Int) (z : Int) = true
theorem order_iff (rows : List (List Int)) : orderB (tabOf rows) = true ↔ Ord rows := by
  unfold orderB ordX ordY ordZ
  simp only [length_tabOf, allN_iff, Bool.and_eq_true]
  constructor
  · intro h
    refine ⟨fun x hx => ?_, fun x y hx hy hne hxy => ?_, fun x y z hx hy hz hxy hyz => ?_⟩
    · have := (h x hx).1
      rwa [tabB_of rows hx hx] at this
    · have := ((h x hx).2 y hy).1
      rw [tabB_of rows hx hy, tabB_of rows hy hx, hxy, decide_eq_false (by omega)] at this
      simpa using this
    · have := ((h x hx).2 y hy).2 z hz
      rw [tabB_of rows hx hy, tabB_of rows hy hz, tabB_of rows hx hz, hxy, hyz] at this
      simpa using this
  · rintro ⟨h1, h2, h3⟩ x hx
    refine ⟨by rw [tabB_of rows hx hx]; exact h1 x hx, fun y hy => ⟨?_, fun z hz => ?_⟩⟩
    · rw [tabB_of rows hx hy, tabB_of rows hy hx]
      by_cases hxy : x = y
      · subst hxy; simp
      · cases hl : leqB rows (x : Int) (y : Int) with
        | false => simp
        | true => rw [h2 x y hx hy hxy hl]; simp
    · rw [tabB_of rows hx hy, tabB_of rows hy hz, tabB_of rows hx hz]
      cases hl : leqB rows (x : Int) (y : Int) with
      | false => rfl
      | true =>
        cases hm : leqB rows (y : Int) (z : Int) with
        | false => rfl
        | true => rw [h3 x y z hx hy hz hl hm]; rfl

theorem inSize_mem {l : List Int} {n : Nat} (h : inSizeB l (n : Int) = true) {a : Int} (ha : a ∈ l) : 0 ≤ a ∧ a < (n : Int) := by
  have := List.all_eq_true.1 h a ha
  simp only [Bool.not_eq_true', Bool.or_eq_false_iff, decide_eq_false_iff_not] at this
  omega
theorem leq_mem {rows : List (List Int)} {a : Int} {x : Nat} : a ∈ rows.getD x [] ↔ leqB rows a (x : Int) = true := by
  unfold leqB
  rw [List.contains_iff_mem]; rfl
theorem good_order (rows : List (List Int)) (h10 : rows.length ≤ 10) (hri : ∀ x, x < rows.length → risesB (rows.getD x []) = true ∧ inSizeB (rows.getD x []) (rows.length : Int) = true) : goodP rows = orderB (tabOf rows) := by
  rw [Bool.eq_iff_iff, order_iff]
  unfold goodP
  rw [decide_eq_true h10, Bool.true_and, Bool.and_eq_true, allN_iff, allN_iff]
  constructor
  · rintro ⟨h1, h2⟩
    refine ⟨fun x hx => ?_, fun x y hx hy hne hxy => ?_, fun x y z hx hy hz hxy hyz => ?_⟩
    · have := h1 x hx
      unfold good1 at this
      rw [Bool.and_eq_true] at this
      exact this.2
    · have := List.all_eq_true.1 (h2 y hy) x (leq_mem.2 hxy)
      rw [Bool.and_eq_true, decide_eq_false (by omega : ¬ (x : Int) = (y : Int))] at this
      have h := this.1
      simp only [Bool.not_false, Bool.true_and, Bool.not_eq_true'] at h
      exact h
    · have := List.all_eq_true.1 (h2 z hz) y (leq_mem.2 hyz)
      rw [Bool.and_eq_true] at this
      have h := List.all_eq_true.1 this.2 x (leq_mem.2 hxy)
      exact leq_mem.1 (List.contains_iff_mem.1 h)
  · rintro ⟨h1, h2, h3⟩
    refine ⟨fun x hx => ?_, fun x hx => ?_⟩
    · unfold good1
      rw [ris_split, (hri x hx).1, (hri x hx).2]
      exact h1 x hx
    · refine List.all_eq_true.2 fun a ha => ?_
      obtain ⟨a0, a1⟩ := inSize_mem (hri x hx).2 ha
      obtain ⟨b, rfl⟩ : ∃ b : Nat, a = (b : Int) := ⟨a.toNat, by omega⟩
      have hb : b < rows.length := by omega
      have hbx := leq_mem.1 ha
      rw [Bool.and_eq_true]
      refine ⟨?_, List.all_eq_true.2 fun c hc => ?_⟩
      · by_cases hxb : b = x
        · subst hxb; simp
        · have := h2 b x hb hx hxb hbx
          have e : (rows.getD (b : Int).toNat []).contains (x : Int) = false := this
          rw [e]; simp
      · obtain ⟨c0, c1⟩ := inSize_mem (hri b hb).2 hc
        obtain ⟨d, rfl⟩ : ∃ d : Nat, c = (d : Int) := ⟨c.toNat, by omega⟩
        exact List.contains_iff_mem.2 (leq_mem.2 (h3 d b x (by omega) hb hx (leq_mem.1 hc) hbx))
theorem mOk_iff (rows : List (List Int)) : mOk (tabOf rows) = true ↔ ∀ x y, x < rows.length → y < rows.length → 0 ≤ boundL rows [(x : Int), (y : Int)] := by
  unfold mOk
  simp only [allN_iff, length_tabOf]
  constructor
  · intro h x y hx hy
    have := h x hx y hy
    rw [mT_of rows hx hy] at this
    simpa using this
  · intro h x hx y hy
    rw [mT_of rows hx hy, decide_eq_false (by have := h x y hx hy; omega)]; rfl
theorem goodL_eq (rows : List (List Int)) (hP : goodP rows = true) (hn : rows.length ≠ 0) : goodL rows = (mOk (tabOf rows) && mOk (tabOf (dualL rows))) := by
  rw [Bool.eq_iff_iff, Bool.and_eq_true, mOk_iff, mOk_iff, length_dual]
  constructor
  · intro h
    exact ⟨fun x y hx hy => (good_bounds h ⟨by omega, by omega⟩ ⟨by omega, by omega⟩).1, fun x y hx hy => (good_bounds h ⟨by omega, by omega⟩ ⟨by omega, by omega⟩).2⟩
  · rintro ⟨h1, h2⟩
    unfold goodL
    rw [hP, decide_eq_false hn, Bool.true_and, Bool.not_false, Bool.true_and, allN_iff]
    intro x hx
    rw [allN_iff]
    intro y hy
    unfold pairOk
    have a := h1 x y hx (by omega)
    have b := h2 x y hx (by omega)
    rw [decide_eq_false (by omega), decide_eq_false (by omega)]; rfl
def tabF (n : Nat) (f : Nat → Nat → Bool) : List (List Bool) := (List.range n).map fun a => (List.range n).map fun b => f a b
theorem length_tabF (n : Nat) (f : Nat → Nat → Bool) : (tabF n f).length = n := by simp [tabF]
theorem getD_tabF {n : Nat} {f : Nat → Nat → Bool} {a : Nat} (h : a < n) : (tabF n f).getD a [] = (List.range n).map fun b => f a b := getD_map_range _ _ _ h
theorem tabF_congr {n : Nat} {f g : Nat → Nat → Bool} (h : ∀ a b, a < n → b < n → f a b = g a b) : tabF n f = tabF n g :=
  List.map_congr_left fun a ha => List.map_congr_left fun b hb => h a b (List.mem_range.1 ha) (List.mem_range.1 hb)
theorem okT_F {n : Nat} (f : Nat → Nat → Bool) (h : n ≤ 10) : okT (tabF n f) := by
  refine ⟨by rw [length_tabF]; exact h, fun x hx => ?_⟩
  rw [length_tabF] at hx
  rw [getD_tabF hx, length_tabF]; simp
theorem set_range {α : Type} (n : Nat) (f : Nat → α) (b : Nat) (v : α) : ((List.range n).map f).set b v = (List.range n).map fun i => if i = b then v else f i := by
  apply List.ext_getElem?
  intro i
  rw [List.getElem?_set, List.getElem?_map, List.getElem?_map]
  rcases Nat.lt_or_ge i n with hi | hi
  · rw [List.getElem?_range hi]
    by_cases e : b = i
    · subst e
      rw [if_pos rfl, if_pos (by simpa using hi)]; simp
    · rw [if_neg e]
      simp [Ne.symm e]
  · rw [List.getElem?_eq_none (by simpa using hi)]
    by_cases e : b = i
    · subst e
      rw [if_pos rfl, if_neg (by simpa using hi)]; rfl
    · rw [if_neg e]; rfl
theorem tabF_set {n a b : Nat} {f f' : Nat → Nat → Bool} {v : Bool} (ha : a < n) (_hb : b < n) (h : ∀ a' b', a' < n → b' < n → f' a' b' = if a' = a ∧ b' = b then v else f a' b') : (tabF n f).set a (((tabF n f).getD a []).set b v) = tabF n f' := by
  rw [getD_tabF ha, set_range]
  unfold tabF
  rw [set_range]
  refine List.map_congr_left fun a' ha' => ?_
  have ha' := List.mem_range.1 ha'
  by_cases e : a' = a
  · subst e
    rw [if_pos rfl]
    refine List.map_congr_left fun b' hb' => ?_
    rw [h a' b' ha' (List.mem_range.1 hb')]
    by_cases e' : b' = b
    · rw [if_pos e', if_pos ⟨rfl, e'⟩]
    · rw [if_neg e', if_neg (fun h => e' h.2)]
  · rw [if_neg e]
    refine List.map_congr_left fun b' hb' => ?_
    rw [h a' b' ha' (List.mem_range.1 hb'), if_neg (fun h => e h.1)]
theorem falses_F (n : Nat) : List.replicate n (List.replicate n false) = tabF n fun _ _ => false := by
  unfold tabF
  simp [List.map_const']
end Go.Proofs.YtembaiccchgllaaGreat

namespace Go.Proofs.YtembaiccchgllaaGreat
open Go Go.Pv

def rowZ {α : Type} (n : Nat) (f : Int → Int → α) (i : Int) : List α := (List.range n).map fun (b : Nat) => f i (b : Int)
def tabZ {α : Type} (n : Nat) (f : Int → Int → α) : List (List α) := (List.range n).map fun (a : Nat) => rowZ n f (a : Int)
theorem length_tabZ {α : Type} (n : Nat) (f : Int → Int → α) : (tabZ n f).length = n := by simp [tabZ]
theorem length_rowZ {α : Type} (n : Nat) (f : Int → Int → α) (i : Int) : (rowZ n f i).length = n := by simp [rowZ]
theorem idx_TZ {α : Type} (g : List α → PV) {n : Nat} {f : Int → Int → α} {i : Int} (h0 : 0 ≤ i) (h : i < (n : Int)) : ((tabZ n f).map g)[i.toNat]? = some (g (rowZ n f i)) := by
  unfold tabZ
  rw [List.map_map, List.getElem?_map, List.getElem?_range (by omega)]
  simp [show max i 0 = i by omega]
theorem idx_RZ {α : Type} (g : α → PV) {n : Nat} {f : Int → Int → α} {i j : Int} (h0 : 0 ≤ j) (h : j < (n : Int)) : ((rowZ n f i).map g)[j.toNat]? = some (g (f i j)) := by
  unfold rowZ
  rw [List.map_map, List.getElem?_map, List.getElem?_range (by omega)]
  simp [show max j 0 = j by omega]
theorem idx_TI {n : Nat} {f : Int → Int → Int} {i : Int} (h0 : 0 ≤ i) (h : i < (n : Int)) : ((tabZ n f).map ints)[i.toNat]? = some (ints (rowZ n f i)) := idx_TZ ints h0 h
theorem idx_TB {n : Nat} {f : Int → Int → Bool} {i : Int} (h0 : 0 ≤ i) (h : i < (n : Int)) : ((tabZ n f).map bools)[i.toNat]? = some (bools (rowZ n f i)) := idx_TZ bools h0 h
theorem idx_RI {n : Nat} {f : Int → Int → Int} {i j : Int} (h0 : 0 ≤ j) (h : j < (n : Int)) : ((rowZ n f i).map I)[j.toNat]? = some (I (f i j)) := idx_RZ I h0 h
theorem idx_RB {n : Nat} {f : Int → Int → Bool} {i j : Int} (h0 : 0 ≤ j) (h : j < (n : Int)) : ((rowZ n f i).map B)[j.toNat]? = some (B (f i j)) := idx_RZ B h0 h
theorem meets_Z (rows : List (List Int)) : meetsT (tabOf rows) rows.length = tabZ rows.length (meetL rows) := by
  unfold meetsT tabZ rowT rowZ
  rw [length_tabOf]
  refine List.map_congr_left fun x hx => List.map_congr_left fun y hy => ?_
  exact mT_of rows (List.mem_range.1 hx) (List.mem_range.1 hy)
theorem joins_Z (rows : List (List Int)) : meetsT (dualT (tabOf rows)) rows.length = tabZ rows.length (joinL rows) := by
  rw [dual_tab]
  unfold meetsT tabZ rowT rowZ
  rw [length_tabOf, length_dual]
  refine List.map_congr_left fun x hx => List.map_congr_left fun y hy => ?_
  exact mT_of (dualL rows) (by rw [length_dual]; exact List.mem_range.1 hx) (by rw [length_dual]; exact List.mem_range.1 hy)
abbrev latP (rows : List (List Int)) : PV := .ptr [boolss (tabZ rows.length (leqB rows)), intss (tabZ rows.length (meetL rows)), intss (tabZ rows.length (joinL rows))]

theorem inSize2 (x y : Int) (rows : List (List Int)) : inSizeB [x, y] (rows.length : Int) = (isB rows x && isB rows y) := by
  unfold inSizeB isB
  rw [Bool.eq_iff_iff]; simp <;> omega
end Go.Proofs.YtembaiccchgllaaGreat

namespace Go.Proofs.YtembaiccchgllaaGreat

def inR (rows : List (List Int)) (x : Int) : Prop := 0 ≤ x ∧ x < (rows.length : Int)
structure Lat (rows : List (List Int)) : Prop where
  refl : ∀ x, inR rows x → leqB rows x x = true
  anti : ∀ x y, inR rows x → inR rows y → leqB rows x y = true → leqB rows y x = true → x = y
  trans : ∀ x y z, inR rows x → inR rows y → inR rows z → leqB rows x y = true → leqB rows y z = true → leqB rows x z = true
  meetR : ∀ x y, inR rows x → inR rows y → inR rows (meetL rows x y)
  joinR : ∀ x y, inR rows x → inR rows y → inR rows (joinL rows x y)
  meet1 : ∀ x y, inR rows x → inR rows y → leqB rows (meetL rows x y) x = true
  meet2 : ∀ x y, inR rows x → inR rows y → leqB rows (meetL rows x y) y = true
  meetG : ∀ x y z, inR rows x → inR rows y → inR rows z → leqB rows z x = true → leqB rows z y = true → leqB rows z (meetL rows x y) = true
  join1 : ∀ x y, inR rows x → inR rows y → leqB rows x (joinL rows x y) = true
  join2 : ∀ x y, inR rows x → inR rows y → leqB rows y (joinL rows x y) = true
  joinG : ∀ x y z, inR rows x → inR rows y → inR rows z → leqB rows x z = true → leqB rows y z = true → leqB rows (joinL rows x y) z = true
theorem bound_spec {rows : List (List Int)} {some : List Int} (h : 0 ≤ boundL rows some) : inR rows (boundL rows some) ∧ (∀ s ∈ some, leqB rows (boundL rows some) s = true) ∧ ∀ z, inR rows z → (∀ s ∈ some, leqB rows z s = true) → leqB rows z (boundL rows some) = true := by
  unfold boundL at h ⊢
  cases hf : (lowsB rows some rows.length).find? fun l => withinB (lowsB rows some rows.length) (rows.getD l.toNat []) with
  | none => rw [hf] at h; simp at h
  | some l =>
    rw [hf] at h
    simp only [Option.getD_some] at h ⊢
    obtain ⟨l0, l1, l2⟩ := upTo_mem.1 (List.mem_of_find?_eq_some hf)
    have hw := List.find?_some hf
    rw [show (l.toNat : Int) = l by omega] at l2
    refine ⟨⟨l0, l1⟩, fun s hs => List.all_eq_true.1 l2 s hs, fun z hz hall => ?_⟩
    have hm : z ∈ lowsB rows some rows.length := upTo_mem.2 ⟨hz.1, hz.2, by
      rw [show (z.toNat : Int) = z by have := hz.1; omega]
      exact List.all_eq_true.2 hall⟩
    exact List.all_eq_true.1 hw z hm
theorem two_all {x y : Int} {p : Int → Prop} : (∀ s ∈ [x, y], p s) ↔ p x ∧ p y := by simp
theorem good_Ord {rows : List (List Int)} (h : goodP rows = true) : Ord rows := by
  have h10 : rows.length ≤ 10 := by unfold goodP at h; simp only [Bool.and_eq_true, decide_eq_true_eq] at h; exact h.1
  have hri : ∀ x, x < rows.length → risesB (rows.getD x []) = true ∧ inSizeB (rows.getD x []) (rows.length : Int) = true := fun x hx => by
    have := goodP_1 h hx
    unfold good1 at this
    rw [Bool.and_eq_true, ris_split, Bool.and_eq_true] at this
    exact this.1
  rw [good_order rows h10 hri] at h
  exact (order_iff rows).1 h
theorem goodL_lat {rows : List (List Int)} (hg : goodL rows = true) : Lat rows := by
  obtain ⟨o1, o2, o3⟩ := good_Ord (goodL_P hg)
  have nat : ∀ {x}, inR rows x → ∃ a : Nat, x = (a : Int) ∧ a < rows.length := fun {x} hx => ⟨x.toNat, by have := hx.1; omega, by have := hx.1; have := hx.2; omega⟩
  have hd : ∀ {x y}, inR rows x → inR rows y → leqB (dualL rows) x y = leqB rows y x := fun hx hy => leq_dual hx hy
  have hdr : ∀ {x}, inR (dualL rows) x ↔ inR rows x := fun {x} => by unfold inR; rw [length_dual]
  have hm := fun x y (hx : inR rows x) (hy : inR rows y) => bound_spec (rows := rows) (some := [x, y]) (good_bounds hg hx hy).1
  have hj := fun x y (hx : inR rows x) (hy : inR rows y) => bound_spec (rows := dualL rows) (some := [x, y]) (good_bounds hg hx hy).2
  have hmr : ∀ x y, inR rows x → inR rows y → inR rows (meetL rows x y) := fun x y hx hy => (hm x y hx hy).1
  have hjr : ∀ x y, inR rows x → inR rows y → inR rows (joinL rows x y) := fun x y hx hy => hdr.1 (hj x y hx hy).1
  refine ⟨fun x hx => ?_, fun x y hx hy h1 h2 => ?_, fun x y z hx hy hz h1 h2 => ?_, hmr, hjr, fun x y hx hy => (two_all.1 (hm x y hx hy).2.1).1, fun x y hx hy => (two_all.1 (hm x y hx hy).2.1).2, fun x y z hx hy hz h1 h2 => (hm x y hx hy).2.2 z hz (two_all.2 ⟨h1, h2⟩), fun x y hx hy => ?_, fun x y hx hy => ?_, fun x y z hx hy hz h1 h2 => ?_⟩
  · obtain ⟨a, rfl, ha⟩ := nat hx; exact o1 a ha
  · obtain ⟨a, rfl, ha⟩ := nat hx
    obtain ⟨b, rfl, hb⟩ := nat hy
    by_cases e : a = b
    · rw [e]
    · have := o2 a b ha hb e h1
      rw [this] at h2; cases h2
  · obtain ⟨a, rfl, ha⟩ := nat hx
    obtain ⟨b, rfl, hb⟩ := nat hy
    obtain ⟨c, rfl, hc⟩ := nat hz
    exact o3 a b c ha hb hc h1 h2
  · rw [← hd (hjr x y hx hy) hx]; exact (two_all.1 (hj x y hx hy).2.1).1
  · rw [← hd (hjr x y hx hy) hy]; exact (two_all.1 (hj x y hx hy).2.1).2
  · have := (hj x y hx hy).2.2 z (hdr.2 hz) (two_all.2 ⟨by rw [hd hz hx]; exact h1, by rw [hd hz hy]; exact h2⟩)
    rwa [← hd hz (hjr x y hx hy)]

section
variable {rows : List (List Int)} (L : Lat rows)
include L
theorem Lat.meet_le {x y : Int} (hx : inR rows x) (hy : inR rows y) (h : leqB rows x y = true) : meetL rows x y = x :=
  L.anti _ _ (L.meetR _ _ hx hy) hx (L.meet1 _ _ hx hy) (L.meetG _ _ _ hx hy hx (L.refl _ hx) h)
end

def botN (rows : List (List Int)) : Nat → Int
  | 0 => 0
  | k + 1 => meetL rows (botN rows k) (k : Int)
def botL (rows : List (List Int)) : Int := boundL (dualL rows) []
def topL (rows : List (List Int)) : Int := boundL rows []
theorem botN_in {rows : List (List Int)} (L : Lat rows) (h0 : 0 < rows.length) : ∀ k, k ≤ rows.length → inR rows (botN rows k)
  | 0, _ => ⟨by simp [botN], by simp [botN]; omega⟩
  | k + 1, h => L.meetR _ _ (botN_in L h0 k (by omega)) ⟨by omega, by omega⟩
theorem botN_le {rows : List (List Int)} (L : Lat rows) (h0 : 0 < rows.length) : ∀ k, k ≤ rows.length → ∀ i, i < k → leqB rows (botN rows k) (i : Int) = true
  | 0, _, i, hi => by omega
  | k + 1, h, i, hi => by
    have hk := botN_in L h0 k (by omega)
    have hkk : inR rows (k : Int) := ⟨by omega, by omega⟩
    have hii : inR rows (i : Int) := ⟨by omega, by omega⟩
    have hm := L.meetR _ _ hk hkk
    by_cases e : i = k
    · subst e; exact L.meet2 _ _ hk hkk
    · exact L.trans _ _ _ hm hk hii (L.meet1 _ _ hk hkk) (botN_le L h0 k (by omega) i (by omega))
theorem good_pos {rows : List (List Int)} (hg : goodL rows = true) : 0 < rows.length := by
  unfold goodL at hg
  simp only [Bool.and_eq_true, Bool.not_eq_true', decide_eq_false_iff_not] at hg
  omega
theorem bound_nil {rows : List (List Int)} {b : Int} (hb : inR rows b) (hle : ∀ i, i < rows.length → leqB rows (i : Int) b = true) (anti : ∀ x y, inR rows x → inR rows y → leqB rows x y = true → leqB rows y x = true → x = y) : boundL rows [] = b := by
  have hin : ∀ z, z ∈ lowsB rows [] rows.length ↔ inR rows z := fun z => by
    unfold lowsB
    rw [upTo_mem]
    exact ⟨fun h => ⟨h.1, h.2.1⟩, fun h => ⟨h.1, h.2, rfl⟩⟩
  have h0 : 0 ≤ boundL rows [] := by
    rcases boundL_range rows [] with h | h
    · exfalso
      unfold boundL at h
      cases hf : (lowsB rows [] rows.length).find? fun l => withinB (lowsB rows [] rows.length) (rows.getD l.toNat []) with
      | some l =>
        rw [hf] at h
        have := (hin l).1 (List.mem_of_find?_eq_some hf)
        simp only [Option.getD_some] at h
        have := this.1
        omega
      | none =>
        rw [List.find?_eq_none] at hf
        refine hf b ((hin b).2 hb) ?_
        unfold withinB
        rw [List.all_eq_true]
        intro a ha
        have ha := (hin a).1 ha
        have := hle a.toNat (by have := ha.1; have := ha.2; omega)
        rwa [show (a.toNat : Int) = a by have := ha.1; omega] at this
    · exact h.1
  obtain ⟨s1, -, s3⟩ := bound_spec h0
  have e1 := s3 b hb (fun s hs => by simp at hs)
  have e2 := hle (boundL rows []).toNat (by have := s1.2; omega)
  rw [show ((boundL rows []).toNat : Int) = boundL rows [] by omega] at e2
  exact anti _ _ s1 hb e2 e1
theorem bot_eq {rows : List (List Int)} (hg : goodL rows = true) : botL rows = botN rows rows.length := by
  have L := goodL_lat hg
  have h0 := good_pos hg
  have hdr : ∀ {x}, inR (dualL rows) x ↔ inR rows x := fun {x} => by unfold inR; rw [length_dual]
  refine bound_nil (hdr.2 (botN_in L h0 _ (Nat.le_refl _))) (fun i hi => ?_) (fun x y hx hy h1 h2 => ?_)
  · rw [length_dual] at hi
    rw [leq_dual ⟨by omega, by omega⟩ (botN_in L h0 _ (Nat.le_refl _))]
    exact botN_le L h0 _ (Nat.le_refl _) i hi
  · rw [leq_dual (hdr.1 hx) (hdr.1 hy)] at h1
    rw [leq_dual (hdr.1 hy) (hdr.1 hx)] at h2
    exact L.anti _ _ (hdr.1 hx) (hdr.1 hy) h2 h1
end Go.Proofs.YtembaiccchgllaaGreat

namespace Go.Proofs.YtembaiccchgllaaGreat
def two (rows : List (List Int)) (x y : Int) : Bool := goodL rows && isB rows x && isB rows y
end Go.Proofs.YtembaiccchgllaaGreat

namespace Go.Proofs.YtembaiccchgllaaGreat
theorem upTo_sorted (n : Nat) (p : Nat → Bool) : (upTo n p).Pairwise (· < ·) := by
  unfold upTo
  rw [List.pairwise_map]
  refine List.Pairwise.filter _ ?_
  exact List.pairwise_lt_range.imp fun h => by simpa using h
def lessB (rows : List (List Int)) (x y : Int) : Bool := !decide (x = y) && leqB rows x y
def covP (rows : List (List Int)) (x y : Int) (z : Nat) : Bool := !(lessB rows x (z : Int) && lessB rows (z : Int) y)
def coversB (rows : List (List Int)) (x y : Int) : Bool := lessB rows x y && allN rows.length (covP rows x y)
end Go.Proofs.YtembaiccchgllaaGreat

namespace Go.Proofs.YtembaiccchgllaaGreat
def im (f : List Int) (x : Int) : Int := f.getD x.toNat 0
end Go.Proofs.YtembaiccchgllaaGreat

namespace Go.Proofs.YtembaiccchgllaaGreat

def upsL (rows : List (List Int)) (x : Int) (n : Nat) : List Int := upTo n fun y => coversB rows x (y : Int)
def hN (rows : List (List Int)) (x : Int) : Nat := (List.range rows.length).countP fun (z : Nat) => lessB rows x (z : Int)
def irrB (rows : List (List Int)) (y : Nat) : Bool := decide (((upTo rows.length fun x => coversB rows (x : Int) (y : Int)).length : Int) = 1)
def irrL (rows : List (List Int)) : List Int := upTo rows.length (irrB rows)
def own (rows : List (List Int)) (i : Nat) : Int := (irrL rows).getD i 0
end Go.Proofs.YtembaiccchgllaaGreat
