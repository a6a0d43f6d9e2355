/- The plain laws of posets, lattices and points, and the values of the rows; the first walks. -/
import Derived.WalkKit
import Derived.Test.YtbohjibbgppfaaaGreatJTy
import Derived.Test.YtbohjibbgppfaaaGreatJZa
set_option linter.unusedSectionVars false
namespace Go.Proofs.YtbohjibbgppfaaaGreat

theorem take_snoc {α : Type} {l : List α} {k : Nat} (d : α) (h : k < l.length) : l.take (k + 1) = l.take k ++ [l.getD k d] := by
 rw [List.take_succ_eq_append_getElem h]; simp [h]
theorem all_snoc {α : Type} (l : List α) (x : α) (p : α → Bool) : (l ++ [x]).all p = (l.all p && p x) := by simp
theorem take_full {α : Type} {l : List α} {k : Nat} (h1 : k ≤ l.length) (h2 : ¬ (k : Int) < (l.length : Int)) : l.take k = l ∧ k = l.length := by
 have : k = l.length := by omega
 subst this; exact ⟨List.take_length, rfl⟩
theorem all_false_at {α : Type} {l : List α} {k : Nat} {p : α → Bool} (d : α) (h : k < l.length) (hp : p (l.getD k d) = false) : l.all p = false := by
 rw [List.all_eq_false]
 refine ⟨l.getD k d, ?_, by simpa using hp⟩
 simp [h]
def allN (n : Nat) (p : Nat → Bool) : Bool := (List.range n).all p
def inB (x a b : Int) : Bool := decide (a ≤ x) && decide (x ≤ b)
def risB (l : List Int) (lo hi : Int) : Bool := allN l.length fun i => inB (l.getD i 0) lo hi && (i == 0 || decide (l.getD (i - 1) 0 < l.getD i 0))
def withinB (x y : List Int) : Bool := x.all fun a => y.contains a

theorem drop_cons' {α : Type} {l : List α} {k : Nat} (d : α) (h : k < l.length) : l.drop k = l.getD k d :: l.drop (k + 1) := by
 rw [List.drop_eq_getElem_cons h]; simp [h]
theorem eq_at {α : Type} {l m : List α} {k : Nat} (d : α) (h : l.getD k d ≠ m.getD k d) : ¬ l = m := fun e => h (by rw [e])

def okP (rows : List (List Int)) : Prop := rows.length ≤ 1048576 ∧ ∀ r ∈ rows, r.length ≤ 1048576
theorem okP.row {rows : List (List Int)} (h : okP rows) (j : Nat) : (rows.getD j []).length ≤ 1048576 := by
 rw [List.getD_eq_getElem?_getD]
 cases hj : rows[j]? with
 | none => simp
 | some r => exact h.2 r (List.mem_of_getElem? hj)

def leqB (rows : List (List Int)) (x y : Int) : Bool := (rows.getD y.toNat []).contains x
def isB (rows : List (List Int)) (x : Int) : Bool := decide (0 ≤ x) && decide (x < (rows.length : Int))
def upTo (n : Nat) (p : Nat → Bool) : List Int := ((List.range n).filter p).map Int.ofNat
def lowsB (rows : List (List Int)) (some : List Int) (n : Nat) : List Int := upTo n fun z => some.all fun s => leqB rows (z : Int) s
def boundL (rows : List (List Int)) (some : List Int) : Int := ((lowsB rows some rows.length).find? fun l => withinB (lowsB rows some rows.length) (rows.getD l.toNat [])).getD (-1)
def dualL (rows : List (List Int)) : List (List Int) := (List.range rows.length).map fun (x : Nat) => upTo rows.length fun y => leqB rows (x : Int) (y : Int)
def good1 (rows : List (List Int)) (x : Nat) : Bool := risB (rows.getD x []) 0 ((rows.length : Int) - 1) && (rows.getD x []).contains (x : Int)
def good2 (rows : List (List Int)) (x : Nat) : Bool := (rows.getD x []).all fun y => !(!decide (y = (x : Int)) && (rows.getD y.toNat []).contains (x : Int)) && withinB (rows.getD y.toNat []) (rows.getD x [])
def goodP (rows : List (List Int)) : Bool := decide (rows.length ≤ 10) && (allN rows.length (good1 rows) && allN rows.length (good2 rows))

end Go.Proofs.YtbohjibbgppfaaaGreat

namespace Go.Proofs.YtbohjibbgppfaaaGreat
def pairOk (rows : List (List Int)) (x y : Nat) : Bool := !decide (boundL rows [(x : Int), (y : Int)] < 0) && !decide (boundL (dualL rows) [(x : Int), (y : Int)] < 0)
def goodL (rows : List (List Int)) : Bool := goodP rows && (!decide (rows.length = 0) && allN rows.length fun x => allN x fun y => pairOk rows x y)
def meetL (rows : List (List Int)) (x y : Int) : Int := boundL rows [x, y]
def joinL (rows : List (List Int)) (x y : Int) : Int := boundL (dualL rows) [x, y]
end Go.Proofs.YtbohjibbgppfaaaGreat

namespace Go.Proofs.YtbohjibbgppfaaaGreat
theorem getD_map_range {α : Type} (n : Nat) (f : Nat → α) (d : α) {x : Nat} (h : x < n) : ((List.range n).map f).getD x d = f x := by
 rw [List.getD_eq_getElem?_getD, List.getElem?_map, List.getElem?_range h]; rfl
end Go.Proofs.YtbohjibbgppfaaaGreat

namespace Go.Proofs.YtbohjibbgppfaaaGreat
open Go Go.Pv Go.Proofs
set_option maxHeartbeats 32000000
set_option maxRecDepth 100000

theorem in_c (x a b : Int) : PCalls Tryz.prog 104 [I x, I a, I b] (B (inB x a b)) := by
 refine pcalls1 Tryz.func104 rfl Tryz.ntmps104 rfl ?_
 refine wF ?_
 repeat' (first
| refine wO ?_
| (refine o_go rfl ?_; (first
| refine wS ?_); refine ⟨_, aA, ?_⟩)
| (refine o_s rfl ?_; refine ⟨_, aA, ?_⟩)
| (refine o_splitD rfl rfl rfl ?_ ?_ <;> intro hc <;> first | omega | dsimp only [List.set_cons_zero, List.set_cons_succ])
| refine kr1 ?_
| refine krB rfl ?_
| refine wE ?_)
 · unfold inB; rw [decide_eq_true hc]; rfl
 · unfold inB; rw [decide_eq_false hc]; rfl

def inSizeB (xs : List Int) (n : Int) : Bool := xs.all fun x => !(decide (x < 0) || decide (n ≤ x))
theorem inSize_c (xs : List Int) (n : Int) (hl : xs.length ≤ 1048576) : PCalls Tryz.prog 101 [ints xs, I n] (B (inSizeB xs n)) := by
 refine pcalls1 Tryz.func101 rfl Tryz.ntmps101 rfl ?_
 refine wF ?_
 repeat' (first
| refine wO ?_
| (refine o_go rfl ?_; (first
| refine wS ?_); refine ⟨_, aA, ?_⟩))
 refine g_loopT (α := Nat) (fun k => [(9, I (k : Int))]) (fun _ => []) (fun k => k ≤ xs.length ∧ (xs.take k).all (fun x => !(decide (x < 0) || decide (n ≤ x))) = true) (fun k => xs.length - k) 0 aH ⟨by omega, rfl⟩ ⟨rfl, trivial⟩ rfl ?_
 rintro k ⟨hk, hall⟩
 refine wH ?_
 repeat' (first
| refine wO ?_
| (refine o_go rfl ?_; (first
| refine wS ?_
| refine p_p (zN rfl rfl rfl zz aP ze) ?_); refine ⟨_, aA, ?_⟩)
| (refine o_s rfl ?_; refine ⟨_, aA, ?_⟩)
| (refine o_splitD rfl rfl rfl ?_ ?_ <;> intro hc <;> first | omega | dsimp only [List.set_cons_zero, List.set_cons_succ])
| (refine zK rfl ?_ ?_ <;> intro hc <;> try omega)
| refine kr1 ?_
| refine krB rfl ?_
| refine wE ?_)
 · exact Eq.symm (all_false_at (k := k) 0 (by omega) (by rw [decide_eq_true hc]; rfl))
 · exact Eq.symm (all_false_at (k := k) 0 (by omega) (by rw [decide_eq_true hc, Bool.or_true]; rfl))
 · rename_i h2
   refine zT (k + 1) ⟨by omega, ?_⟩ (by omega) aI ⟨rfl, trivial⟩ (zM _)
   rw [take_snoc 0 (by omega), all_snoc, hall, decide_eq_false h2, decide_eq_false hc]; rfl
 · rw [(take_full hk hc).1] at hall
   exact hall.symm
end Go.Proofs.YtbohjibbgppfaaaGreat

namespace Go.Proofs.YtbohjibbgppfaaaGreat

def inR (rows : List (List Int)) (x : Int) : Prop := 0 ≤ x ∧ x < (rows.length : Int)
structure Lat (rows : List (List Int)) : Prop where
 refl : ∀ x, inR rows x → leqB rows x x = true
 anti : ∀ x y, inR rows x → inR rows y → leqB rows x y = true → leqB rows y x = true → x = y
 trans : ∀ x y z, inR rows x → inR rows y → inR rows z → leqB rows x y = true → leqB rows y z = true → leqB rows x z = true
 meetR : ∀ x y, inR rows x → inR rows y → inR rows (meetL rows x y)
 joinR : ∀ x y, inR rows x → inR rows y → inR rows (joinL rows x y)
 meet1 : ∀ x y, inR rows x → inR rows y → leqB rows (meetL rows x y) x = true
 meet2 : ∀ x y, inR rows x → inR rows y → leqB rows (meetL rows x y) y = true
 meetG : ∀ x y z, inR rows x → inR rows y → inR rows z → leqB rows z x = true → leqB rows z y = true → leqB rows z (meetL rows x y) = true
 join1 : ∀ x y, inR rows x → inR rows y → leqB rows x (joinL rows x y) = true
 join2 : ∀ x y, inR rows x → inR rows y → leqB rows y (joinL rows x y) = true
 joinG : ∀ x y z, inR rows x → inR rows y → inR rows z → leqB rows x z = true → leqB rows y z = true → leqB rows (joinL rows x y) z = true
section
variable {rows : List (List Int)} (L : Lat rows)
include L
theorem Lat.meet_le {x y : Int} (hx : inR rows x) (hy : inR rows y) (h : leqB rows x y = true) : meetL rows x y = x :=
 L.anti _ _ (L.meetR _ _ hx hy) hx (L.meet1 _ _ hx hy) (L.meetG _ _ _ hx hy hx (L.refl _ hx) h)
end
def botL (rows : List (List Int)) : Int := boundL (dualL rows) []
def topL (rows : List (List Int)) : Int := boundL rows []
end Go.Proofs.YtbohjibbgppfaaaGreat

namespace Go.Proofs.YtbohjibbgppfaaaGreat
def two (rows : List (List Int)) (x y : Int) : Bool := goodL rows && isB rows x && isB rows y
end Go.Proofs.YtbohjibbgppfaaaGreat

namespace Go.Proofs.YtbohjibbgppfaaaGreat
def lessB (rows : List (List Int)) (x y : Int) : Bool := !decide (x = y) && leqB rows x y
def covP (rows : List (List Int)) (x y : Int) (z : Nat) : Bool := !(lessB rows x (z : Int) && lessB rows (z : Int) y)
def coversB (rows : List (List Int)) (x y : Int) : Bool := lessB rows x y && allN rows.length (covP rows x y)
end Go.Proofs.YtbohjibbgppfaaaGreat

namespace Go.Proofs.YtbohjibbgppfaaaGreat
def im (f : List Int) (x : Int) : Int := f.getD x.toNat 0
end Go.Proofs.YtbohjibbgppfaaaGreat

namespace Go.Proofs.YtbohjibbgppfaaaGreat
def hN (rows : List (List Int)) (x : Int) : Nat := (List.range rows.length).countP fun (z : Nat) => lessB rows x (z : Int)
end Go.Proofs.YtbohjibbgppfaaaGreat

namespace Go.Proofs.YtbohjibbgppfaaaGreat

def irrB (rows : List (List Int)) (y : Nat) : Bool := decide (((upTo rows.length fun x => coversB rows (x : Int) (y : Int)).length : Int) = 1)
def irrL (rows : List (List Int)) : List Int := upTo rows.length (irrB rows)
def own (rows : List (List Int)) (i : Nat) : Int := (irrL rows).getD i 0
end Go.Proofs.YtbohjibbgppfaaaGreat
/- The order of lists by length, then by their members; lists in this order without repeats are determined by their members. No program here. -/
namespace Go.Proofs.YtbohjibbgppfaaaGreat

def cmpX : List Int → List Int → Int
 | [], [] => 0
 | [], _ :: _ => -1
 | _ :: _, [] => 1
 | a :: s, b :: t => if a = b then cmpX s t else if a < b then -1 else 1
theorem cmpX_self : ∀ a : List Int, cmpX a a = 0
 | [] => rfl
 | a :: s => by simp only [cmpX, if_true]; exact cmpX_self s
theorem cmpX_eq : ∀ {a b : List Int}, cmpX a b = 0 → a = b
 | [], [], _ => rfl
 | [], _ :: _, h => by simp [cmpX] at h
 | _ :: _, [], h => by simp [cmpX] at h
 | a :: s, b :: t, h => by
  simp only [cmpX] at h
  split at h
  · rename_i e; rw [e, cmpX_eq h]
  · split at h <;> simp at h
theorem cmpX_flip : ∀ (a b : List Int), cmpX b a = -cmpX a b
 | [], [] => rfl
 | [], _ :: _ => rfl
 | _ :: _, [] => rfl
 | a :: s, b :: t => by
  simp only [cmpX]
  by_cases e : a = b
  · rw [if_pos e, if_pos e.symm]; exact cmpX_flip s t
  · rw [if_neg e, if_neg (Ne.symm e)]
    by_cases h : a < b
    · rw [if_pos h, if_neg (by omega)]; rfl
    · rw [if_neg h, if_pos (by omega)]
theorem cmpX_trans : ∀ {a b c : List Int}, cmpX a b < 0 → cmpX b c < 0 → cmpX a c < 0
 | [], [], _, h, _ => by simp [cmpX] at h
 | [], _ :: _, [], _, h => by simp [cmpX] at h
 | [], _ :: _, _ :: _, _, _ => by simp [cmpX]
 | _ :: _, [], _, h, _ => by simp [cmpX] at h
 | _ :: _, _ :: _, [], _, h => by simp [cmpX] at h
 | a :: s, b :: t, c :: u, h1, h2 => by
  simp only [cmpX] at *
  by_cases e1 : a = b
  · subst e1
    rw [if_pos rfl] at h1
    by_cases e2 : a = c
    · subst e2
      rw [if_pos rfl] at h2 ⊢
      exact cmpX_trans h1 h2
    · rw [if_neg e2] at h2 ⊢; exact h2
  · rw [if_neg e1] at h1
    have hab : a < b := by
     by_cases h : a < b
     · exact h
     · rw [if_neg h] at h1; omega
    by_cases e2 : b = c
    · subst e2
      rw [if_neg e1, if_pos hab]; decide
    · rw [if_neg e2] at h2
      have hbc : b < c := by
       by_cases h : b < c
       · exact h
       · rw [if_neg h] at h2; omega
      rw [if_neg (by omega), if_pos (by omega)]; decide
end Go.Proofs.YtbohjibbgppfaaaGreat
/- Plain: lists in order without repeats; pairs in order. -/
namespace Go.Proofs.YtbohjibbgppfaaaGreat

def AscX (l : List (List Int)) : Prop := l.Pairwise fun a b => cmpX a b < 0
theorem ascX_mem_eq {V W : List (List Int)} (hV : AscX V) (hW : AscX W) (h : ∀ t, t ∈ V ↔ t ∈ W) : V = W := by
 have ne : ∀ {l : List (List Int)}, AscX l → l.Nodup := fun hl => hl.imp fun {a b} hab e => by rw [e, cmpX_self] at hab; omega
 exact List.Perm.eq_of_pairwise (fun a b _ _ h1 h2 => absurd (cmpX_trans h1 h2) (by rw [cmpX_self]; omega)) hV hW ((List.perm_ext_iff_of_nodup (ne hV) (ne hW)).2 h)
/-! ### Pairs -/
def reR (R : Nat → Nat → Bool) (x k : Nat) : List (List Int) := ((List.range k).filter (R x)).map fun (y : Nat) => [(x : Int), (y : Int)]
def reP (n : Nat) (R : Nat → Nat → Bool) : Nat → List (List Int)
 | 0 => []
 | x + 1 => reP n R x ++ reR R x n
def reL (n : Nat) (R : Nat → Nat → Bool) : List (List Int) := reP n R n
theorem reR_succ (R : Nat → Nat → Bool) (x k : Nat) : reR R x (k + 1) = reR R x k ++ if R x k then [[(x : Int), (k : Int)]] else [] := by
 unfold reR
 rw [List.range_succ, List.filter_append, List.map_append]
 congr 1
 rw [List.filter_cons, List.filter_nil]
 split <;> rfl
theorem reR_len (R : Nat → Nat → Bool) (x k : Nat) : (reR R x k).length ≤ k := by
 unfold reR; rw [List.length_map]; exact Nat.le_trans (List.length_filter_le _ _) (by simp)
theorem reP_len (n : Nat) (R : Nat → Nat → Bool) : ∀ x, (reP n R x).length ≤ x * n
 | 0 => by simp [reP]
 | x + 1 => by
  have h1 := reP_len n R x
  have h2 := reR_len R x n
  show (reP n R x ++ reR R x n).length ≤ _
  rw [List.length_append, Nat.add_mul]; omega
theorem reR_mem {R : Nat → Nat → Bool} {x k : Nat} {t : List Int} : t ∈ reR R x k ↔ ∃ y, y < k ∧ R x y = true ∧ t = [(x : Int), (y : Int)] := by
 unfold reR
 rw [List.mem_map]
 constructor
 · rintro ⟨y, hy, rfl⟩
   obtain ⟨h1, h2⟩ := List.mem_filter.1 hy
   exact ⟨y, List.mem_range.1 h1, h2, rfl⟩
 · rintro ⟨y, h1, h2, rfl⟩
   exact ⟨y, List.mem_filter.2 ⟨List.mem_range.2 h1, h2⟩, rfl⟩
theorem reP_mem {n : Nat} {R : Nat → Nat → Bool} {t : List Int} : ∀ {k : Nat}, t ∈ reP n R k ↔ ∃ x y, x < k ∧ y < n ∧ R x y = true ∧ t = [(x : Int), (y : Int)]
 | 0 => by simp [reP]
 | k + 1 => by
  show t ∈ reP n R k ++ reR R k n ↔ _
  rw [List.mem_append, reP_mem, reR_mem]
  constructor
  · rintro (⟨x, y, h1, h2, h3, h4⟩ | ⟨y, h2, h3, h4⟩)
    · exact ⟨x, y, by omega, h2, h3, h4⟩
    · exact ⟨k, y, by omega, h2, h3, h4⟩
  · rintro ⟨x, y, h1, h2, h3, h4⟩
    rcases Nat.lt_or_ge x k with h | h
    · exact .inl ⟨x, y, h, h2, h3, h4⟩
    · obtain rfl : x = k := by omega
      exact .inr ⟨y, h2, h3, h4⟩
theorem cmpX_pair {a b c d : Int} : cmpX [a, b] [c, d] < 0 ↔ a < c ∨ (a = c ∧ b < d) := by
 simp only [cmpX]
 by_cases h : a = c
 · subst h
   rw [if_pos rfl]
   by_cases h2 : b = d
   · subst h2; rw [if_pos rfl]; omega
   · rw [if_neg h2]; split <;> omega
 · rw [if_neg h]; split <;> omega
theorem reR_asc (R : Nat → Nat → Bool) (x k : Nat) : AscX (reR R x k) := by
 unfold reR AscX
 exact List.pairwise_map.2 ((List.pairwise_lt_range.sublist List.filter_sublist).imp fun {a b} h => cmpX_pair.2 (.inr ⟨rfl, by omega⟩))
theorem reP_asc (n : Nat) (R : Nat → Nat → Bool) : ∀ k, AscX (reP n R k)
 | 0 => List.Pairwise.nil
 | k + 1 => List.pairwise_append.2 ⟨reP_asc n R k, reR_asc R k n, fun a ha b hb => by
  obtain ⟨x, y, h1, -, -, rfl⟩ := reP_mem.1 ha
  obtain ⟨z, -, -, rfl⟩ := reR_mem.1 hb
  exact cmpX_pair.2 (.inl (by omega))⟩
theorem reL_asc (n : Nat) (R : Nat → Nat → Bool) : AscX (reL n R) := reP_asc n R n
theorem reL_len (n : Nat) (R : Nat → Nat → Bool) : (reL n R).length ≤ n * n := reP_len n R n
theorem reL_mem {n : Nat} {R : Nat → Nat → Bool} {t : List Int} : t ∈ reL n R ↔ ∃ x y, x < n ∧ y < n ∧ R x y = true ∧ t = [(x : Int), (y : Int)] := reP_mem
theorem reL_pair {n : Nat} {R : Nat → Nat → Bool} {x y : Nat} (hx : x < n) (hy : y < n) : [(x : Int), (y : Int)] ∈ reL n R ↔ R x y = true := by
 rw [reL_mem]
 constructor
 · rintro ⟨a, b, -, -, h, e⟩
   injection e with e1 e2
   injection e2 with e2
   have e1 : x = a := by omega
   have e2 : y = b := by omega
   rw [e1, e2]; exact h
 · intro h; exact ⟨x, y, hx, hy, h, rfl⟩
theorem reL_congr {n : Nat} {R S : Nat → Nat → Bool} (h : ∀ x y, x < n → y < n → R x y = S x y) : reL n R = reL n S := ascX_mem_eq (reL_asc n R) (reL_asc n S) fun t => by
 rw [reL_mem, reL_mem]
 constructor <;> rintro ⟨x, y, h1, h2, h3, h4⟩
 · exact ⟨x, y, h1, h2, by rw [← h x y h1 h2]; exact h3, h4⟩
 · exact ⟨x, y, h1, h2, by rw [h x y h1 h2]; exact h3, h4⟩
theorem reL_iff {n : Nat} {R S : Nat → Nat → Bool} : reL n R = reL n S ↔ ∀ x y, x < n → y < n → R x y = S x y := by
 refine ⟨fun h x y hx hy => ?_, reL_congr⟩
 rw [Bool.eq_iff_iff, ← reL_pair hx hy, ← reL_pair hx hy, h]
end Go.Proofs.YtbohjibbgppfaaaGreat
/- The layer, more: branches that meet again. -/
namespace Go.Pv
open Go
attribute [local semireducible] Go.Pv.Goal
section
variable {P : Program} {K : Exit → St → Prop} {S : St}
theorem at_reg {x y : Code} {ops : Array Oper} {dr : Bool} (id : Nat) (h : Goal P (((Code.region id ops dr).seq x).seq y) K S) : Goal P (((Code.region id ops dr).seq x).seq y) K S := h
end
end Go.Pv
/- Walks: the reference's posets, lattices and their laws' helpers. -/

namespace Go.Proofs.YtbohjibbgppfaaaGreat
open Go Go.Pv Go.Proofs
abbrev gridI (t : List (List Int)) : HO := .grid 27 3 (t.map fun r => r.map I)
theorem idx_gridI {t : List (List Int)} {i : Nat} (h : i < t.length) : (t.map fun r => r.map I)[i]? = some ((t.getD i []).map I) := by simp [h]
end Go.Proofs.YtbohjibbgppfaaaGreat
/- The layer: the rest of a function's text, behind one of its statements. -/
namespace Go.Pv
open Go
attribute [local semireducible] Go.Pv.Goal
def headReg : Code → Option Nat
 | .region id _ _ => some id
 | .seq a _ => headReg a
 | .block _ c => headReg c
 | _ => none
def tailAt (id : Nat) : Code → Code
 | .seq a b => bif headReg a == some id then .seq a b else tailAt id b
 | .block _ c => tailAt id c
 | c => c
abbrev bodyC (f : Func) : Code := f.body.getD .skip
theorem g_tail {P : Program} {c c' : Code} {K : Exit → St → Prop} {S S' : St} (hc : c = c') (hl : S.le S') (h : Goal P c' K S') : Goal P c K S := hc ▸ g_weaken hl h
theorem at_reg1 {P : Program} {K : Exit → St → Prop} {S : St} {x : Code} {ops : Array Oper} {dr : Bool} (id : Nat) (h : Goal P ((Code.region id ops dr).seq x) K S) : Goal P ((Code.region id ops dr).seq x) K S := h
end Go.Pv
