/- The plain laws of posets, lattices and points, and the values of the rows; the first walks. -/
import Derived.WalkKit
import Derived.Shelf.Abstract
import Derived.Laws.StructEq
import Derived.Test.YtepjlgilopfnpaaGreatJTy
import Derived.Test.YtepjlgilopfnpaaGreatJPq
import Derived.Test.YtepjlgilopfnpaaGreatJPw
set_option linter.unusedSectionVars false
namespace Go.Proofs.YtepjlgilopfnpaaGreat

theorem take_snoc {α : Type} {l : List α} {k : Nat} (d : α) (h : k < l.length) : l.take (k + 1) = l.take k ++ [l.getD k d] := by
 rw [List.take_succ_eq_append_getElem h]; simp [h]
theorem all_snoc {α : Type} (l : List α) (x : α) (p : α → Bool) : (l ++ [x]).all p = (l.all p && p x) := by simp
theorem take_full {α : Type} {l : List α} {k : Nat} (h1 : k ≤ l.length) (h2 : ¬ (k : Int) < (l.length : Int)) : l.take k = l ∧ k = l.length := by
 have : k = l.length := by omega
 subst this; exact ⟨List.take_length, rfl⟩
theorem all_false_at {α : Type} {l : List α} {k : Nat} {p : α → Bool} (d : α) (h : k < l.length) (hp : p (l.getD k d) = false) : l.all p = false := by
 rw [List.all_eq_false]
 refine ⟨l.getD k d, ?_, by simpa using hp⟩
 simp [h]
def allN (n : Nat) (p : Nat → Bool) : Bool := (List.range n).all p
def inB (x a b : Int) : Bool := decide (a ≤ x) && decide (x ≤ b)
def risB (l : List Int) (lo hi : Int) : Bool := allN l.length fun i => inB (l.getD i 0) lo hi && (i == 0 || decide (l.getD (i - 1) 0 < l.getD i 0))
def withinB (x y : List Int) : Bool := x.all fun a => y.contains a

theorem drop_cons' {α : Type} {l : List α} {k : Nat} (d : α) (h : k < l.length) : l.drop k = l.getD k d :: l.drop (k + 1) := by
 rw [List.drop_eq_getElem_cons h]; simp [h]
theorem eq_at {α : Type} {l m : List α} {k : Nat} (d : α) (h : l.getD k d ≠ m.getD k d) : ¬ l = m := fun e => h (by rw [e])

def okP (rows : List (List Int)) : Prop := rows.length ≤ 1048576 ∧ ∀ r ∈ rows, r.length ≤ 1048576
theorem okP.row {rows : List (List Int)} (h : okP rows) (j : Nat) : (rows.getD j []).length ≤ 1048576 := by
 rw [List.getD_eq_getElem?_getD]
 cases hj : rows[j]? with
 | none => simp
 | some r => exact h.2 r (List.mem_of_getElem? hj)

def leqB (rows : List (List Int)) (x y : Int) : Bool := (rows.getD y.toNat []).contains x
def isB (rows : List (List Int)) (x : Int) : Bool := decide (0 ≤ x) && decide (x < (rows.length : Int))
def upTo (n : Nat) (p : Nat → Bool) : List Int := ((List.range n).filter p).map Int.ofNat
def lowsB (rows : List (List Int)) (some : List Int) (n : Nat) : List Int := upTo n fun z => some.all fun s => leqB rows (z : Int) s
def boundL (rows : List (List Int)) (some : List Int) : Int := ((lowsB rows some rows.length).find? fun l => withinB (lowsB rows some rows.length) (rows.getD l.toNat [])).getD (-1)
def dualL (rows : List (List Int)) : List (List Int) := (List.range rows.length).map fun (x : Nat) => upTo rows.length fun y => leqB rows (x : Int) (y : Int)
def good1 (rows : List (List Int)) (x : Nat) : Bool := risB (rows.getD x []) 0 ((rows.length : Int) - 1) && (rows.getD x []).contains (x : Int)
def good2 (rows : List (List Int)) (x : Nat) : Bool := (rows.getD x []).all fun y => !(!decide (y = (x : Int)) && (rows.getD y.toNat []).contains (x : Int)) && withinB (rows.getD y.toNat []) (rows.getD x [])
def goodP (rows : List (List Int)) : Bool := decide (rows.length ≤ 10) && (allN rows.length (good1 rows) && allN rows.length (good2 rows))

end Go.Proofs.YtepjlgilopfnpaaGreat

namespace Go.Proofs.YtepjlgilopfnpaaGreat
def pairOk (rows : List (List Int)) (x y : Nat) : Bool := !decide (boundL rows [(x : Int), (y : Int)] < 0) && !decide (boundL (dualL rows) [(x : Int), (y : Int)] < 0)
def goodL (rows : List (List Int)) : Bool := goodP rows && (!decide (rows.length = 0) && allN rows.length fun x => allN x fun y => pairOk rows x y)
def meetL (rows : List (List Int)) (x y : Int) : Int := boundL rows [x, y]
def joinL (rows : List (List Int)) (x y : Int) : Int := boundL (dualL rows) [x, y]
end Go.Proofs.YtepjlgilopfnpaaGreat

namespace Go.Proofs.YtepjlgilopfnpaaGreat
theorem getD_map_range {α : Type} (n : Nat) (f : Nat → α) (d : α) {x : Nat} (h : x < n) : ((List.range n).map f).getD x d = f x := by
 rw [List.getD_eq_getElem?_getD, List.getElem?_map, List.getElem?_range h]; rfl
end Go.Proofs.YtepjlgilopfnpaaGreat

namespace Go.Proofs.YtepjlgilopfnpaaGreat
open Go Go.Pv Go.Proofs
set_option maxHeartbeats 32000000
set_option maxRecDepth 100000

theorem in_c (x a b : Int) : PCalls Tryz.prog 93 [I x, I a, I b] (B (inB x a b)) := by
 refine pcalls1 Tryz.func93 rfl Tryz.ntmps93 rfl ?_
 refine wF ?_
 repeat' (first
| refine wO ?_
| (refine o_go rfl ?_; (first
| refine wS ?_); refine ⟨_, aB, ?_⟩)
| (refine o_s rfl ?_; refine ⟨_, aB, ?_⟩)
| (refine o_splitD rfl rfl rfl ?_ ?_ <;> intro hc <;> first | omega | dsimp only [List.set_cons_zero, List.set_cons_succ])
| refine kr1 ?_
| refine krB rfl ?_
| refine wE ?_)
 · unfold inB; rw [decide_eq_true hc]; rfl
 · unfold inB; rw [decide_eq_false hc]; rfl

def inSizeB (xs : List Int) (n : Int) : Bool := xs.all fun x => !(decide (x < 0) || decide (n ≤ x))
theorem inSize_c (xs : List Int) (n : Int) (hl : xs.length ≤ 1048576) : PCalls Tryz.prog 110 [ints xs, I n] (B (inSizeB xs n)) := by
 refine pcalls1 Tryz.func110 rfl Tryz.ntmps110 rfl ?_
 refine wF ?_
 repeat' (first
| refine wO ?_
| (refine o_go rfl ?_; (first
| refine wS ?_); refine ⟨_, aB, ?_⟩))
 refine g_loopT (α := Nat) (fun k => [(9, I (k : Int))]) (fun _ => []) (fun k => k ≤ xs.length ∧ (xs.take k).all (fun x => !(decide (x < 0) || decide (n ≤ x))) = true) (fun k => xs.length - k) 0 aH ⟨by omega, rfl⟩ ⟨rfl, trivial⟩ rfl ?_
 rintro k ⟨hk, hall⟩
 refine wH ?_
 repeat' (first
| refine wO ?_
| (refine o_go rfl ?_; (first
| refine wS ?_
| refine p_p (zN rfl rfl rfl zz aQ ze) ?_); refine ⟨_, aB, ?_⟩)
| (refine o_s rfl ?_; refine ⟨_, aB, ?_⟩)
| (refine o_splitD rfl rfl rfl ?_ ?_ <;> intro hc <;> first | omega | dsimp only [List.set_cons_zero, List.set_cons_succ])
| (refine zK rfl ?_ ?_ <;> intro hc <;> try omega)
| refine kr1 ?_
| refine krB rfl ?_
| refine wE ?_)
 · exact Eq.symm (all_false_at (k := k) 0 (by omega) (by rw [decide_eq_true hc]; rfl))
 · exact Eq.symm (all_false_at (k := k) 0 (by omega) (by rw [decide_eq_true hc, Bool.or_true]; rfl))
 · rename_i h2
   refine zT (k + 1) ⟨by omega, ?_⟩ (by omega) aI ⟨rfl, trivial⟩ (zM _)
   rw [take_snoc 0 (by omega), all_snoc, hall, decide_eq_false h2, decide_eq_false hc]; rfl
 · rw [(take_full hk hc).1] at hall
   exact hall.symm
end Go.Proofs.YtepjlgilopfnpaaGreat

namespace Go.Proofs.YtepjlgilopfnpaaGreat

def inR (rows : List (List Int)) (x : Int) : Prop := 0 ≤ x ∧ x < (rows.length : Int)
structure Lat (rows : List (List Int)) : Prop where
 refl : ∀ x, inR rows x → leqB rows x x = true
 anti : ∀ x y, inR rows x → inR rows y → leqB rows x y = true → leqB rows y x = true → x = y
 trans : ∀ x y z, inR rows x → inR rows y → inR rows z → leqB rows x y = true → leqB rows y z = true → leqB rows x z = true
 meetR : ∀ x y, inR rows x → inR rows y → inR rows (meetL rows x y)
 joinR : ∀ x y, inR rows x → inR rows y → inR rows (joinL rows x y)
 meet1 : ∀ x y, inR rows x → inR rows y → leqB rows (meetL rows x y) x = true
 meet2 : ∀ x y, inR rows x → inR rows y → leqB rows (meetL rows x y) y = true
 meetG : ∀ x y z, inR rows x → inR rows y → inR rows z → leqB rows z x = true → leqB rows z y = true → leqB rows z (meetL rows x y) = true
 join1 : ∀ x y, inR rows x → inR rows y → leqB rows x (joinL rows x y) = true
 join2 : ∀ x y, inR rows x → inR rows y → leqB rows y (joinL rows x y) = true
 joinG : ∀ x y z, inR rows x → inR rows y → inR rows z → leqB rows x z = true → leqB rows y z = true → leqB rows (joinL rows x y) z = true
section
variable {rows : List (List Int)} (L : Lat rows)
include L
theorem Lat.meet_le {x y : Int} (hx : inR rows x) (hy : inR rows y) (h : leqB rows x y = true) : meetL rows x y = x :=
 L.anti _ _ (L.meetR _ _ hx hy) hx (L.meet1 _ _ hx hy) (L.meetG _ _ _ hx hy hx (L.refl _ hx) h)
end
def botL (rows : List (List Int)) : Int := boundL (dualL rows) []
def topL (rows : List (List Int)) : Int := boundL rows []
end Go.Proofs.YtepjlgilopfnpaaGreat

namespace Go.Proofs.YtepjlgilopfnpaaGreat
def two (rows : List (List Int)) (x y : Int) : Bool := goodL rows && isB rows x && isB rows y
end Go.Proofs.YtepjlgilopfnpaaGreat

namespace Go.Proofs.YtepjlgilopfnpaaGreat
def lessB (rows : List (List Int)) (x y : Int) : Bool := !decide (x = y) && leqB rows x y
def covP (rows : List (List Int)) (x y : Int) (z : Nat) : Bool := !(lessB rows x (z : Int) && lessB rows (z : Int) y)
def coversB (rows : List (List Int)) (x y : Int) : Bool := lessB rows x y && allN rows.length (covP rows x y)
end Go.Proofs.YtepjlgilopfnpaaGreat

namespace Go.Proofs.YtepjlgilopfnpaaGreat
def im (f : List Int) (x : Int) : Int := f.getD x.toNat 0
end Go.Proofs.YtepjlgilopfnpaaGreat

namespace Go.Proofs.YtepjlgilopfnpaaGreat
def hN (rows : List (List Int)) (x : Int) : Nat := (List.range rows.length).countP fun (z : Nat) => lessB rows x (z : Int)
end Go.Proofs.YtepjlgilopfnpaaGreat

namespace Go.Proofs.YtepjlgilopfnpaaGreat

def irrB (rows : List (List Int)) (y : Nat) : Bool := decide (((upTo rows.length fun x => coversB rows (x : Int) (y : Int)).length : Int) = 1)
def irrL (rows : List (List Int)) : List Int := upTo rows.length (irrB rows)
def own (rows : List (List Int)) (i : Nat) : Int := (irrL rows).getD i 0
end Go.Proofs.YtepjlgilopfnpaaGreat
/- The layer, more: slices of slices that are known by value. -/
namespace Go.Pv
open Go
attribute [local semireducible] Go.Pv.PStep

section
variable {P : Program} {o : Oper} {ev : Operand → PV} {hp : List HO}
theorem elem_slT {t e : TypeId} {s by_ : Nat} (ht : SlT P t e s by_) : P.elem t = e := by
 simp [Program.elem, ht.hu]
theorem run_to {t e : TypeId} {s by_ : Nat} (ht : SlT P t e s by_) {x y : Operand} {av : Operand → Value} {a : Option Addr} {n cap : Nat} {k : Int} (ho : o.op = .slice t x none (some y) none) (ea : av x = .slice a n cap) (e2 : av y = .int .i64 k) (h0 : 0 ≤ k) (hk : k ≤ (cap : Int)) (w : World) :
 (execOp av o).run P w = .ok (.value (sliced a 0 k.toNat cap s)) w := by
 have hel := elem_slT ht
 have hu : P.underlying t = some (.slice (P.elem t)) := by rw [hel]; exact ht.hu
 have hsz := ht.hs w
 rw [← hel] at hsz
 have hr : (Instr.sliceAt t (av x) none (some (av y)) none).run P w = .ok (sliced a 0 k.toNat cap s) w := by
  rw [ea, e2, run_sliceAt_slice (h := hu), run_slice_h w t a n cap hu _ _ h0 hk, hsz]; rfl
 simp only [execOp, ho]
 exact run_value hr
theorem run_from {t e : TypeId} {s by_ : Nat} (ht : SlT P t e s by_) {x y : Operand} {av : Operand → Value} {a : Option Addr} {n cap : Nat} {k : Int} (ho : o.op = .slice t x (some y) none none) (ea : av x = .slice a n cap) (e2 : av y = .int .i64 k) (h0 : 0 ≤ k) (hk : k ≤ (n : Int)) (w : World) :
 (execOp av o).run P w = .ok (.value (sliced a k.toNat n cap s)) w := by
 have hel := elem_slT ht
 have hu : P.underlying t = some (.slice (P.elem t)) := by rw [hel]; exact ht.hu
 have hsz := ht.hs w
 rw [← hel] at hsz
 have hr : (Instr.sliceAt t (av x) (some (av y)) none none).run P w = .ok (sliced a k.toNat n cap s) w := by
  rw [ea, e2, run_sliceAt_slice (h := hu), run_slice_l w t a n cap hu _ _ h0 hk, hsz]; rfl
 simp only [execOp, ho]
 exact run_value hr
theorem ps_sliceTo {t e : TypeId} {s by_ : Nat} [ht : SlT P t e s by_] {x y : Operand} {nn : Option Bool} {l : List PV} {k : Int} (ho : o.op = .slice t x none (some y) none) (h1 : view hp (ev x) = .sl s nn l) (h2 : ev y = I k) (h0 : 0 ≤ k) (hk : k ≤ (l.length : Int)) :
 PStep P o ev hp (.sl s none (l.take k.toNat)) :=
 .of_run fun w0 g ρ w av hb hx => by
  have e1 := hb.view (hx x (by simp [ho, Op.operands]))
  have e2 := val_of (hx y (by simp [ho, Op.operands])) h2
  rw [h1] at e1
  rcases VR.sl_inv e1 with ⟨ea, rfl, _⟩ | ⟨a, cap, ea, rfl, _⟩ | ⟨b, off, cap, cc, cs, ea, hs, hnn, hcap, hmax, hf, hg, hv⟩
  · have hk0 : k = 0 := by simp at hk; omega
    subst hk0
    exact ⟨.slice none 0 0, (run_to ht ho ea e2 (by omega) (by omega) w).trans (by simp [sliced]), .of_VR (.nilsl _ _ (by simp))⟩
  · have hk0 : k = 0 := by simp at hk; omega
    subst hk0
    exact ⟨.slice (some (if cap = 0 then a else a.add 0)) 0 cap, (run_to ht ho ea e2 (by omega) (by omega) w).trans (by simp only [sliced, Int.toNat_zero]; split <;> simp_all), .of_VR (.esl _ _ _ _ (by simp))⟩
  · refine ⟨.slice (some ⟨b, off, none⟩) k.toNat cap, ?_, ?_⟩
    · exact (run_to ht ho ea e2 h0 (by omega) w).trans (by simp only [sliced]; split <;> simp [Addr.add_n])
    · have hl : (l.take k.toNat).length = k.toNat := by simp; omega
      have := VR.sl (g := g) s none b off cap (l.take k.toNat) cc cs hs (by simp) (by omega) hmax (fun i p hi => hf i p (by rw [List.getElem?_take] at hi; split at hi; exact hi; cases hi)) (fun j hj => hg j (by rw [hl] at hj; exact Nat.lt_of_lt_of_le hj (Nat.mul_le_mul_right _ (by omega)))) (fun i j q hi hq => hv i j q (by omega) hq)
      rw [hl] at this
      exact .of_VR this
theorem ps_sliceFrom {t e : TypeId} {s by_ : Nat} [ht : SlT P t e s by_] {x y : Operand} {nn : Option Bool} {l : List PV} {k : Int} (ho : o.op = .slice t x (some y) none none) (h1 : view hp (ev x) = .sl s nn l) (h2 : ev y = I k) (h0 : 0 ≤ k) (hk : k ≤ (l.length : Int)) :
 PStep P o ev hp (.sl s none (l.drop k.toNat)) :=
 .of_run fun w0 g ρ w av hb hx => by
  have e1 := hb.view (hx x (by simp [ho, Op.operands]))
  have e2 := val_of (hx y (by simp [ho, Op.operands])) h2
  rw [h1] at e1
  rcases VR.sl_inv e1 with ⟨ea, rfl, _⟩ | ⟨a, cap, ea, rfl, _⟩ | ⟨b, off, cap, cc, cs, ea, hs, hnn, hcap, hmax, hf, hg, hv⟩
  · have hk0 : k = 0 := by simp at hk; omega
    subst hk0
    exact ⟨.slice none 0 0, (run_from ht ho ea e2 (by omega) (by omega) w).trans (by simp [sliced]), .of_VR (.nilsl _ _ (by simp))⟩
  · have hk0 : k = 0 := by simp at hk; omega
    subst hk0
    exact ⟨.slice (some (if cap = 0 then a else a.add 0)) 0 cap, (run_from ht ho ea e2 (by omega) (by omega) w).trans (by simp only [sliced, Int.toNat_zero]; split <;> simp_all), .of_VR (.esl _ _ _ _ (by simp))⟩
  · by_cases hc : cap = k.toNat
    · have hkl : k.toNat = l.length := by omega
      refine ⟨.slice (some ⟨b, off, none⟩) 0 0, ?_, .of_VR ?_⟩
      · exact (run_from ht ho ea e2 h0 hk w).trans (by rw [sliced, if_pos hc, hc, hkl]; simp)
      · rw [hkl, List.drop_length]; exact .esl _ _ _ _ (by simp)
    · refine ⟨.slice (some ⟨b, off + k.toNat * s, none⟩) (l.length - k.toNat) (cap - k.toNat), ?_, ?_⟩
      · exact (run_from ht ho ea e2 h0 hk w).trans (by rw [sliced, if_neg hc]; simp [Addr.add_n])
      · have hl : (l.drop k.toNat).length = l.length - k.toNat := by simp
        have := VR.sl (g := g) s none b (off + k.toNat * s) (cap - k.toNat) (l.drop k.toNat) (fun i => cc (k.toNat + i)) (fun j => cs (k.toNat * s + j)) hs (by simp) (by omega) (by omega) (fun i p hi => hf _ p (by rw [List.getElem?_drop] at hi; exact hi)) (fun j hj => by
         rw [Nat.add_assoc]
         refine hg _ ?_
         rw [hl, Nat.sub_mul] at hj
         omega) (fun i j q hi hq => by
         have := hv (k.toNat + i) j q (by omega) hq
         rwa [Nat.add_mul, Nat.add_assoc] at this)
        rw [hl] at this
        exact .of_VR this
theorem ps_sliceToM {α : Type} {f : α → PV} {t e : TypeId} {s by_ : Nat} [ht : SlT P t e s by_] {x y : Operand} {nn : Option Bool} {l : List α} {k : Int} (ho : o.op = .slice t x none (some y) none) (h1 : view hp (ev x) = .sl s nn (l.map f)) (h2 : ev y = I k) (h0 : 0 ≤ k) (hk : k ≤ (l.length : Int)) :
 PStep P o ev hp (.sl s none ((l.take k.toNat).map f)) := by
 rw [List.map_take]
 exact ps_sliceTo ho h1 h2 h0 (by simpa using hk)
theorem ps_sliceFromM {α : Type} {f : α → PV} {t e : TypeId} {s by_ : Nat} [ht : SlT P t e s by_] {x y : Operand} {nn : Option Bool} {l : List α} {k : Int} (ho : o.op = .slice t x (some y) none none) (h1 : view hp (ev x) = .sl s nn (l.map f)) (h2 : ev y = I k) (h0 : 0 ≤ k) (hk : k ≤ (l.length : Int)) :
 PStep P o ev hp (.sl s none ((l.drop k.toNat).map f)) := by
 rw [List.map_drop]
 exact ps_sliceFrom ho h1 h2 h0 (by simpa using hk)
end
end Go.Pv
/- The layer, more: an object that takes another's place. -/
namespace Go.Pv
open Go
attribute [local semireducible] Go.Pv.Goal

def mv1 (i j : Nat) : PV → PV
 | .hp k => bif k == i then .hp j else bif k == j then .any else .hp k
 | .hpv k b c => bif k == i || k == j then .any else .hpv k b c
 | .hat k l => bif k == i || k == j then .any else .hat k l
 | .hatv k l b c => bif k == i || k == j then .any else .hatv k l b c
 | .gr k l => bif k == i || k == j then .any else .gr k l
 | .gat k l m => bif k == i || k == j then .any else .gat k l m
 | p => p
def mvA (i j : Nat) : PV → PV
 | .agg l => .agg (l.map (mv1 i j))
 | p => mv1 i j p
def mvP (i j : Nat) : PV → PV
 | .tup l => .tup (l.map (mvA i j))
 | .agg l => .agg (l.map (mv1 i j))
 | p => mv1 i j p
theorem mvA_map (i j : Nat) : mvA i j = mapA (mv1 i j) := by funext p; cases p <;> rfl
theorem mvP_map (i j : Nat) (p : PV) : mvP i j p = mapT (mv1 i j) p := by cases p <;> first | rfl | simp only [mvP, mapT, mvA_map]
def mvH (i j : Nat) (ho : HO) (hp : List HO) : List HO := ((hp.map (mapHO (mv1 i j))).set j ho).set i .gone
theorem mvH_back {i j : Nat} {ho : HO} {hp : List HO} (hij : i ≠ j) {k : Nat} {y : HO} (h : (mvH i j ho hp)[k]? = some y) : (k = i ∧ y = .gone) ∨ (k = j ∧ y = ho) ∨ (k ≠ i ∧ k ≠ j ∧ ∃ y0, hp[k]? = some y0 ∧ mapHO (mv1 i j) y0 = y) := by
 unfold mvH at h
 by_cases e1 : k = i
 · subst e1
   rw [List.getElem?_set] at h
   simp only [if_true] at h
   split at h
   · exact .inl ⟨rfl, (Option.some.inj h).symm⟩
   · cases h
 · rw [List.getElem?_set_ne (Ne.symm e1)] at h
   by_cases e2 : k = j
   · subst e2
     rw [List.getElem?_set] at h
     simp only [if_true] at h
     split at h
     · exact .inr (.inl ⟨rfl, (Option.some.inj h).symm⟩)
     · cases h
   · rw [List.getElem?_set_ne (Ne.symm e2), List.getElem?_map, Option.map_eq_some_iff] at h
     exact .inr (.inr ⟨e1, e2, h⟩)
theorem mv_arr {i j : Nat} {y : HO} {m : Bool} {s : Nat} {e : TypeId} {l : List PV} (h : mapHO (mv1 i j) y = .arr m s e l) : y = .arr m s e l := by cases y <;> simp_all [mapHO]
theorem mv_grid {i j : Nat} {y : HO} {e1 e2 : TypeId} {l : List (List PV)} (h : mapHO (mv1 i j) y = .grid e1 e2 l) : y = .grid e1 e2 l := by cases y <;> simp_all [mapHO]
theorem mv_pg {i j n : Nat} {y : HO} {e1 e2 : TypeId} {l : List (List PV)} (h : mapHO (mv1 i j) y = .pg e1 e2 n l) : y = .pg e1 e2 n l := by cases y <;> simp_all [mapHO]
theorem mv_sg {i j n : Nat} {y : HO} {e1 e2 : TypeId} {l : List (List PV)} (h : mapHO (mv1 i j) y = .sg e1 e2 n l) : y = .sg e1 e2 n l := by cases y <;> simp_all [mapHO]
theorem mv_box {i j : Nat} {y : HO} {l : List PV} (h : mapHO (mv1 i j) y = .box l) : ∃ l0 : List PV, y = .box l0 ∧ l0.length = l.length := by
 cases y <;> simp [mapHO] at h
 subst h
 exact ⟨_, rfl, by simp⟩
theorem rel_move {w0 : Ini} {S : St} {g : Ghost} {ρ : Nat → Loc} {a : Act} {w : World} (h : Rel w0 S g ρ a w) {i j : Nat} (hij : i ≠ j) {m : Bool} {s : Nat} {e : TypeId} {l : List PV} (hi : S.hp[i]? = some (.arr m s e l)) :
 Rel w0 ⟨S.fr.map (mvP i j), mvH i j (.arr m s e l) S.hp⟩ g (upd ρ j (ρ i)) a w := by
 have hφ : ∀ v p, VRS1 g ρ S.hp v p → VRS1 g (upd ρ j (ρ i)) (mvH i j (.arr m s e l) S.hp) v (mv1 i j p) := fun v p hv => by
  have keep : ∀ {k}, k ≠ i → k ≠ j → HpV ρ S.hp v k → HpV (upd ρ j (ρ i)) (mvH i j (.arr m s e l) S.hp) v k := fun {k} k1 k2 hv =>
   { sl := hv.sl
     arr := fun m s e l hid => by
      rcases mvH_back hij hid with ⟨e, -⟩ | ⟨e, -⟩ | ⟨-, -, y0, h0, h1⟩
      · exact absurd e k1
      · exact absurd e k2
      · rw [upd_ne _ _ k2]; exact hv.arr _ _ _ _ (mv_arr h1 ▸ h0)
     grid := fun e1 e2 rows hid => by
      rcases mvH_back hij hid with ⟨e, -⟩ | ⟨e, -⟩ | ⟨-, -, y0, h0, h1⟩
      · exact absurd e k1
      · exact absurd e k2
      · rw [upd_ne _ _ k2]; exact hv.grid _ _ _ (mv_grid h1 ▸ h0)
     sg := fun e1 e2 n rows hid => by
      rcases mvH_back hij hid with ⟨e, -⟩ | ⟨e, -⟩ | ⟨-, -, y0, h0, h1⟩
      · exact absurd e k1
      · exact absurd e k2
      · rw [upd_ne _ _ k2]; exact hv.sg _ _ _ _ (mv_sg h1 ▸ h0)
     pg := fun e1 e2 n rows hid => by
      rcases mvH_back hij hid with ⟨e, -⟩ | ⟨e, -⟩ | ⟨-, -, y0, h0, h1⟩
      · exact absurd e k1
      · exact absurd e k2
      · rw [upd_ne _ _ k2]; exact hv.pg _ _ _ _ (mv_pg h1 ▸ h0)
     box := fun l' hid => by
      rcases mvH_back hij hid with ⟨e, -⟩ | ⟨e, -⟩ | ⟨-, -, y0, h0, h1⟩
      · exact absurd e k1
      · exact absurd e k2
      · obtain ⟨l0, rfl, hl⟩ := mv_box h1
        rw [upd_ne _ _ k2, ← hl]; exact hv.box _ h0 }
  cases p with
  | hp k =>
   simp only [mv1]
   cases h1 : (k == i) with
   | true =>
    have e1 : k = i := by simpa using h1
    subst e1
    refine (⟨HpV.sl hv, fun m' s' e' l' hid => ?_, fun e1 e2 rows hid => ?_, fun e1 e2 n rows hid => ?_, fun l' hid => ?_, fun e1 e2 n rows hid => ?_⟩ : HpV _ _ _ _)
    · rcases mvH_back hij hid with ⟨e, -⟩ | ⟨-, e⟩ | ⟨-, e, -⟩
      · exact absurd e.symm hij
      · cases e; rw [upd_same]; exact HpV.arr hv _ _ _ _ hi
      · exact absurd rfl e
    · rcases mvH_back hij hid with ⟨e, -⟩ | ⟨-, e⟩ | ⟨-, e, -⟩
      · exact absurd e.symm hij
      · cases e
      · exact absurd rfl e
    · rcases mvH_back hij hid with ⟨e, -⟩ | ⟨-, e⟩ | ⟨-, e, -⟩
      · exact absurd e.symm hij
      · cases e
      · exact absurd rfl e
    · rcases mvH_back hij hid with ⟨e, -⟩ | ⟨-, e⟩ | ⟨-, e, -⟩
      · exact absurd e.symm hij
      · cases e
      · exact absurd rfl e
    · rcases mvH_back hij hid with ⟨e, -⟩ | ⟨-, e⟩ | ⟨-, e, -⟩
      · exact absurd e.symm hij
      · cases e
      · exact absurd rfl e
   | false =>
    cases h2 : (k == j) with
    | true => exact .any v
    | false => exact keep (by simpa using h1) (by simpa using h2) hv
  | hpv k b c =>
   simp only [mv1]
   cases h1 : (k == i || k == j) with
   | true => exact .any v
   | false =>
    simp only [Bool.or_eq_false_iff, beq_eq_false_iff_ne] at h1
    exact ⟨keep h1.1 h1.2 hv.1, by rw [upd_ne _ _ h1.2]; exact hv.2⟩
  | hat k o =>
   simp only [mv1]
   cases h1 : (k == i || k == j) with
   | true => exact .any v
   | false =>
    simp only [Bool.or_eq_false_iff, beq_eq_false_iff_ne] at h1
    show v = _
    rw [upd_ne _ _ h1.2]; exact hv
  | hatv k o b c =>
   simp only [mv1]
   cases h1 : (k == i || k == j) with
   | true => exact .any v
   | false =>
    simp only [Bool.or_eq_false_iff, beq_eq_false_iff_ne] at h1
    show v = _ ∧ _
    rw [upd_ne _ _ h1.2]; exact hv
  | gr k o =>
   simp only [mv1]
   cases h1 : (k == i || k == j) with
   | true => exact .any v
   | false =>
    simp only [Bool.or_eq_false_iff, beq_eq_false_iff_ne] at h1
    refine (⟨GrV.sl hv, fun e1 e2 rows r hid hr => ?_, fun e1 e2 _n rows r hid hr => ?_⟩ : GrV _ _ _ _ _)
    rotate_left
    · rcases mvH_back hij hid with ⟨e, -⟩ | ⟨e, -⟩ | ⟨-, -, y0, h0, h2⟩
      · exact absurd e h1.1
      · exact absurd e h1.2
      · rw [upd_ne _ _ h1.2]; exact GrV.sg hv _ _ _ _ _ (mv_sg h2 ▸ h0) hr
    rcases mvH_back hij hid with ⟨e, -⟩ | ⟨e, -⟩ | ⟨-, -, y0, h0, h2⟩
    · exact absurd e h1.1
    · exact absurd e h1.2
    · rw [upd_ne _ _ h1.2]; exact GrV.grid hv _ _ _ _ (mv_grid h2 ▸ h0) hr
  | gat k o n =>
   simp only [mv1]
   cases h1 : (k == i || k == j) with
   | true => exact .any v
   | false =>
    simp only [Bool.or_eq_false_iff, beq_eq_false_iff_ne] at h1
    show v = _
    rw [upd_ne _ _ h1.2]; exact hv
  | _ => exact hv
 refine ⟨⟨h.base.below, h.base.agree, h.base.old, fun k y hk => ?_, fun k k' y z b hkk hy hz fy fz => ?_⟩, h.dead, by simpa using h.size, fun k p hp => ?_⟩
 · rcases mvH_back hij hk with ⟨-, rfl⟩ | ⟨rfl, rfl⟩ | ⟨k1, k2, y0, h0, rfl⟩
   · trivial
   · rw [upd_same]; exact h.base.own i _ hi
   · rw [upd_ne _ _ k2]
     exact (h.base.own k y0 h0).keep (GExt.refl g) (mv1 i j) hφ fun b _ => ⟨rfl, fun _ => rfl⟩
 · rcases mvH_back hij hy with ⟨-, rfl⟩ | ⟨rfl, rfl⟩ | ⟨k1, k2, y0, h0, rfl⟩
   · exact fy
   · rcases mvH_back hij hz with ⟨-, rfl⟩ | ⟨e', -⟩ | ⟨k1', k2', z0, h0', rfl⟩
     · exact fz
     · exact hkk e'.symm
     · rw [upd_same] at fy
       rw [upd_ne _ _ k2', foot_map] at fz
       exact h.base.sep i k' _ _ b (Ne.symm k1') hi h0' fy fz
   · rw [upd_ne _ _ k2, foot_map] at fy
     rcases mvH_back hij hz with ⟨-, rfl⟩ | ⟨rfl, rfl⟩ | ⟨k1', k2', z0, h0', rfl⟩
     · exact fz
     · rw [upd_same] at fz
       exact h.base.sep k i _ _ b k1 h0 hi fy fz
     · rw [upd_ne _ _ k2', foot_map] at fz
       exact h.base.sep k k' _ _ b hkk h0 h0' fy fz
 · simp only [List.getElem?_map, Option.map_eq_some_iff] at hp
   obtain ⟨p, hp, rfl⟩ := hp
   rw [mvP_map]
   exact (h.fr k p hp).map hφ
theorem g_move {P : Program} {c : Code} {K : Exit → St → Prop} {S : St} (i j : Nat) {m : Bool} {s : Nat} {e : TypeId} {l : List PV} (hij : i ≠ j) (hi : S.hp[i]? = some (.arr m s e l)) (h : ∃ S', St.mk (S.fr.map (mvP i j)) (mvH i j (.arr m s e l) S.hp) = S' ∧ Goal P c K S') : Goal P c K S := by
 obtain ⟨S', rfl, h⟩ := h
 unfold Goal at h ⊢
 intro w0 g ρ a w Q hr hQ
 exact h w0 g _ a w Q (rel_move hr hij hi) hQ
section
attribute [local semireducible] Go.Pv.PStep
theorem j_lit0T {P : Program} {o : Oper} {ev : Operand → PV} {hp : List HO} {t e : TypeId} {s by_ : Nat} [ht : SlT P t e s by_] {zs : List Value} [hz : ZeroT P e zs] (ho : o.op = .buildSlice t 0 #[]) (hs : 0 < s) : JStep P o ev hp (some hp.length) (killH hp.length hp ++ [.arr true s e []]) (.hp hp.length) := fun fr _ =>
 e_lit0T (S := ⟨fr, hp⟩) (ht := ht) ho hs
end
theorem g_freezeP {P : Program} {c : Code} {K : Exit → St → Prop} {S : St} (n : Nat) {s : Nat} {e : TypeId} {l : List PV} (hn : S.hp[n]? = some (.arr true s e l)) (h : ∃ S', St.mk S.fr (S.hp.set n (.arr false s e l)) = S' ∧ Goal P c K S') : Goal P c K S := by
 obtain ⟨S', rfl, h⟩ := h
 unfold Goal at h ⊢
 intro w0 g ρ a w Q hr hQ
 obtain ⟨g', -, hr'⟩ := rel_freeze hr hn
 exact h w0 g' ρ a w Q hr' hQ
theorem g_view1 {P : Program} {c : Code} {K : Exit → St → Prop} {S : St} (i : Nat) (h : ∃ S', St.mk (S.fr.set i (view S.hp (S.fr.getD i .any))) S.hp = S' ∧ Goal P c K S') : Goal P c K S := by
 obtain ⟨S', rfl, h⟩ := h
 unfold Goal at h ⊢
 intro w0 g ρ a w Q hr hQ
 refine h w0 g ρ a w Q ⟨hr.base, hr.dead, by simpa using hr.size, fun k p hp => ?_⟩ hQ
 rw [List.getElem?_set] at hp
 split at hp
 · rename_i e
   subst e
   split at hp
   · rename_i hlt
     cases hp
     have := hr.fr i _ (List.getElem?_eq_getElem hlt)
     rw [List.getD_eq_getElem?_getD, List.getElem?_eq_getElem hlt]
     exact .of_VR (hr.base.view this)
   · cases hp
 · exact hr.fr k p hp
end Go.Pv
/- The layer, more: unsigned words, bytes, conversions, literals of numbers. -/
namespace Go.Pv
open Go
attribute [local semireducible] Go.Pv.PStep Go.Pv.EStep

abbrev U (z : Int) : PV := .val (.int .u64 z)
abbrev Y (z : Int) : PV := .val (.int .u8 z)
section
variable {P : Program} {o : Oper} {ev : Operand → PV} {hp : List HO}
theorem ps_mulU {t rt : TypeId} {x y : Operand} {a b : Int} (ho : o.op = .binOp .mul t x y rt) (h1 : ev x = U a) (h2 : ev y = U b) : PStep P o ev hp (U (IntKind.u64.wrap (a * b))) := ps_bin ho h1 h2 fun w => by simp [go_sem]
theorem ps_addU {t rt : TypeId} {x y : Operand} {a b : Int} (ho : o.op = .binOp .add t x y rt) (h1 : ev x = U a) (h2 : ev y = U b) : PStep P o ev hp (U (IntKind.u64.wrap (a + b))) := ps_bin ho h1 h2 fun w => by simp [go_sem]
theorem ps_shrU {t rt : TypeId} {x y : Operand} {a b : Int} {k : IntKind} (ho : o.op = .binOp .shr t x y rt) (h1 : ev x = U a) (h2 : ev y = .val (.int k b)) (h0 : 0 ≤ b) (hb : b ≤ 64) : PStep P o ev hp (U (a / 2 ^ b.toNat)) :=
 ps_bin ho h1 h2 fun w => by
  have h := shift_shr .u64 k a b h0 (by show b ≤ (64 : Nat); omega)
  simp only [eqGuard_shr, binOp_shr, h, Sem.run_bind, run_pure, Result.andThen]
theorem ps_andU {t rt : TypeId} {x y : Operand} {a b : Int} (ho : o.op = .binOp .and t x y rt) (h1 : ev x = U a) (h2 : ev y = U b) : PStep P o ev hp (U (bits .and .u64 a b)) := ps_bin ho h1 h2 fun w => by simp [go_sem]
theorem ps_rem {t rt : TypeId} {x y : Operand} {a b : Int} (ho : o.op = .binOp .rem t x y rt) (h1 : ev x = I a) (h2 : ev y = I b) (h0 : 0 ≤ a) (hb : 0 < b) : PStep P o ev hp (I (a % b)) :=
 ps_bin ho h1 h2 fun w => by
  simp only [eqGuard_rem, binOp_rem, Op.intDiv, if_neg (show ¬ b = 0 by omega), IntWalk.rem_in a b h0]; rfl
theorem ps_conv {src dst : TypeId} {x : Operand} {k k' : IntKind} {n : Int} (hs : (P.underlying src).isSome = true) (hd : P.underlying dst = some (.int k')) (ho : o.op = .convert src dst x) (h1 : ev x = .val (.int k n)) : PStep P o ev hp (.val (.int k' (k'.wrap n))) :=
 .of_run fun w0 g ρ w av hb hx => by
  have e1 := val_of (hx x (by simp [ho, Op.operands])) h1
  have hk : P.intKind dst = k' := by simp [Program.intKind, hd]
  refine ⟨.int k' (k'.wrap n), ?_, .val _⟩
  simp only [execOp, ho, e1]
  refine run_value ?_
  have := run_convert_int (P := P) w src dst k n hs (by rw [hk]; exact hd)
  rwa [hk] at this
end
end Go.Pv
/- The layer: arrays of two numbers compared. -/
namespace Go.Pv
open Go
attribute [local semireducible] Go.Pv.PStep
section
variable {P : Program} {o : Oper} {ev : Operand → PV} {hp : List HO}
theorem agg2_of {g : Ghost} {ρ : Nat → Loc} {v : Value} {a b : Int} (h : VRS g ρ hp v (.agg [I a, I b])) : v = .agg #[.int .i64 a, .int .i64 b] := by
 obtain ⟨arr, rfl, h2, h3⟩ := h
 have e0 := VR.val_inv (show VR g _ (I a) from h3 0 _ rfl)
 have e1 := VR.val_inv (show VR g _ (I b) from h3 1 _ rfl)
 have h2 : arr.size = 2 := h2
 congr 1
 apply Array.ext
 · rw [h2]; rfl
 · intro i hi hj
   have hi2 : i < 2 := by omega
   rcases i with _ | _ | i
   · rw [← e0]; simp [Array.getD_eq_getD_getElem?, h2]
   · rw [← e1]; simp [Array.getD_eq_getD_getElem?, h2]
   · omega
theorem run_part_int {e : TypeId} {k : IntKind} (hu : P.underlying e = some (.int k)) {xs : Array Value} {i : Nat} {v : Value} (hx : xs[i]? = some v) (w : World) : (part e xs i).run P w = .ok v w := by
 unfold part
 rw [Sem.run_bind, Go.Proofs.run_isAgg_plain hu rfl]
 simp [Result.andThen, hx]
theorem ps_neqPair {t e rt : TypeId} [ht : ArrT P t 2 e 1] {k : IntKind} (hu : P.underlying e = some (.int k)) (hg : P.eqGuardType P.depth t = false) {x y : Operand} {a b : Int} (ho : o.op = .binOp .neq t x y rt) (h1 : ev x = .agg [I a, I b]) (h2 : ev y = .agg [I a, I b]) : PStep P o ev hp (B false) :=
 .of_run fun w0 g ρ w av hb hx => by
  have e1 := hx x (by simp [ho, Op.operands])
  rw [h1] at e1
  have e2 := hx y (by simp [ho, Op.operands])
  rw [h2] at e2
  have e1 := agg2_of e1
  have e2 := agg2_of e2
  refine ⟨.bool false, ?_, .of_VR (.val _)⟩
  simp only [execOp, ho, e1, e2]
  refine run_value ?_
  have hq : ∀ d, (Op.equalIn (d + 1 + 1) t (.agg #[.int .i64 a, .int .i64 b]) (.agg #[.int .i64 a, .int .i64 b])).run P w = .ok true w := fun d => by
   rw [Op.equalIn]
   simp only [Sem.run_bind, run_underlying ht.hu, Result.andThen_ok, ht.hs]
   simp [Std.Legacy.Range.forIn_eq_forIn_range', Std.Legacy.Range.size, List.range', run_part_int hu, run_equalIn_int w d e .i64 k _ _ hu, Result.andThen]
  rw [Sem.run_bind, run_eqGuard_agg w _ _ _ _ _ _ hg]
  show ((binOp .neq t (.agg #[.int .i64 a, .int .i64 b]) (.agg #[.int .i64 a, .int .i64 b])).run P w) = _
  rw [run_neq_struct, hq 9998]; rfl
end
end Go.Pv
