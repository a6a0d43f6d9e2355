/- The layer, more: branches that meet again. -/
import Derived.Test.YtembaiccchgllaaGreatJZa
import Derived.Test.YtembaiccchgllaaGreatJSq
import Derived.Test.YtembaiccchgllaaGreatJTy
set_option linter.unusedSectionVars false
namespace Go.Pv
open Go
attribute [local semireducible] Go.Pv.Goal
section
variable {P : Program} {K : Exit → St → Prop} {S : St}
theorem at_reg {x y : Code} {ops : Array Oper} {dr : Bool} (id : Nat) (h : Goal P (((Code.region id ops dr).seq x).seq y) K S) : Goal P (((Code.region id ops dr).seq x).seq y) K S := h
end
end Go.Pv
/- The layer, more: calls that are lent several objects, which may grow and move, and hand objects back. -/
namespace Go.Pv
open Go
attribute [local semireducible] Go.Pv.Goal Go.Pv.PStep Go.Pv.EStep Go.Pv.KRets Go.Pv.PCalls

def posI : List Nat → Nat → Nat → Option Nat
  | [], _, _ => none
  | i :: is, j, k => bif i == j then some k else posI is j (k + 1)
def optP : Option Nat → (Nat → PV) → PV → PV
  | some k, f, _ => f k
  | none, _, d => d
def apart : List Nat → Bool
  | [] => true
  | i :: is => is.all (fun j => !(i == j)) && apart is
def lendM1 (ids : List Nat) (hp : List HO) : PV → PV
  | .hp j => optP (posI ids j 0) .hp (view1 hp (.hp j))
  | .hat j i => optP (posI ids j 0) (.hat · i) .any
  | .hpv j _ _ => optP (posI ids j 0) .hp .any
  | .hatv j i _ _ => optP (posI ids j 0) (.hat · i) .any
  | .gr _ _ | .gat _ _ _ => .any
  | p => p
def lendMA (ids : List Nat) (hp : List HO) : PV → PV
  | .agg l => .agg (l.map (lendM1 ids hp))
  | p => lendM1 ids hp p
def lendMP (ids : List Nat) (hp : List HO) : PV → PV
  | .tup l => .tup (l.map (lendMA ids hp))
  | .agg l => .agg (l.map (lendM1 ids hp))
  | p => lendM1 ids hp p
def hasI : List Nat → Nat → Bool
  | [], _ => false
  | i :: is, k => bif i == k then true else hasI is k
def killM1 (ids fix : List Nat) : PV → PV
  | .hp j => optP (posI ids j 0) (fun _ => .any) (.hp j)
  | .hat j i => optP (posI ids j 0) (fun k => bif hasI fix k then .hat j i else .any) (.hat j i)
  | .hpv j b c => optP (posI ids j 0) (fun _ => .any) (.hpv j b c)
  | .hatv j i b c => optP (posI ids j 0) (fun k => bif hasI fix k then .hatv j i b c else .any) (.hatv j i b c)
  | .gr j i => optP (posI ids j 0) (fun _ => .any) (.gr j i)
  | .gat j i m => optP (posI ids j 0) (fun _ => .any) (.gat j i m)
  | p => p
def killMA (ids fix : List Nat) : PV → PV
  | .agg l => .agg (l.map (killM1 ids fix))
  | p => killM1 ids fix p
def killMP (ids fix : List Nat) : PV → PV
  | .tup l => .tup (l.map (killMA ids fix))
  | .agg l => .agg (l.map (killM1 ids fix))
  | p => killM1 ids fix p
def getO : List Nat → Nat → Option Nat
  | [], _ => none
  | i :: _, 0 => some i
  | _ :: is, k + 1 => getO is k
def backM1 (ids : List Nat) : PV → PV
  | .hp k => optP (getO ids k) .hp .any
  | .hat k i => optP (getO ids k) (.hat · i) .any
  | .hpv k _ _ => optP (getO ids k) .hp .any
  | .hatv k i _ _ => optP (getO ids k) (.hat · i) .any
  | .gr k i => optP (getO ids k) (.gr · i) .any
  | .gat k i j => optP (getO ids k) (.gat · i j) .any
  | p => p
def backMA (ids : List Nat) : PV → PV
  | .agg l => .agg (l.map (backM1 ids))
  | p => backM1 ids p
def backMP (ids : List Nat) : PV → PV
  | .tup l => .tup (l.map (backMA ids))
  | .agg l => .agg (l.map (backM1 ids))
  | p => backM1 ids p
def putL : List Nat → List HO → List HO → List HO
  | i :: is, x :: xs, hp => putL is xs (hp.set i x)
  | _, _, hp => hp
def inpM (ids : List Nat) (hp : List HO) : List HO := ids.map fun i => mapHO (lendM1 ids hp) (hp.getD i .gone)
theorem VRSl.append {g : Ghost} {ρ : Nat → Loc} {hp : List HO} {us vs : List Value} {l m : List PV} (h : VRSl g ρ hp us l) (k : VRSl g ρ hp vs m) : VRSl g ρ hp (us ++ vs) (l ++ m) := by
  refine ⟨by simp [h.1, k.1], fun i q hq => ?_⟩
  rcases Nat.lt_or_ge i l.length with hlt | hge
  · rw [List.getElem?_append_left hlt] at hq
    have := h.2 i q hq
    simpa [List.getD_eq_getElem?_getD, List.getElem?_append_left (show i < us.length by rw [h.1]; exact hlt)] using this
  · rw [List.getElem?_append_right hge] at hq
    have := k.2 _ q hq
    simpa [List.getD_eq_getElem?_getD, List.getElem?_append_right (show us.length ≤ i by rw [h.1]; exact hge), h.1] using this
theorem VRSl.of_array {g : Ghost} {ρ : Nat → Loc} {hp : List HO} {us : Array Value} {l : List PV} (h1 : us.size = l.length) (h2 : ∀ i q, l[i]? = some q → VR g (us.getD i undef) q) : VRSl g ρ hp us.toList l := by
  have := VRl.of_array h1 h2
  exact ⟨this.1, fun i q hq => .of_VR (this.2 i q hq)⟩

/-! ### The end of such a call -/
def pinM1 (fix : List Nat) (bd : Nat → Nat × Nat) : PV → PV
  | .hat j i => bif hasI fix j then .hatv j i (bd j).1 (bd j).2 else .hat j i
  | p => p
def pinMA (fix : List Nat) (bd : Nat → Nat × Nat) : PV → PV
  | .agg l => .agg (l.map (pinM1 fix bd))
  | p => pinM1 fix bd p
def pinMP (fix : List Nat) (bd : Nat → Nat × Nat) : PV → PV
  | .tup l => .tup (l.map (pinMA fix bd))
  | .agg l => .agg (l.map (pinM1 fix bd))
  | p => pinM1 fix bd p
def mutHO : HO → Bool
  | .arr mt _ _ _ => mt
  | _ => true
theorem HOwn.none {g : Ghost} {ρ : Nat → Loc} {hp : List HO} {w : World} {D : Nat → Bool} {ho : HO} {L : Loc} (h : HOwn g ρ hp w D ho L) (hm : mutHO ho = true) {b : Nat} (hf : foot ho L b) (o : Nat) : g b o = none := by
  cases ho with
  | gone => exact hf.elim
  | arr mt s e l =>
    have hm : mt = true := hm
    subst hm
    obtain ⟨cur, c, h⟩ := h
    have hf : b = L.blk := hf
    rw [hf, h.hg o]; simp
  | box l =>
    obtain ⟨cur, e, h⟩ := h
    have hf : b = L.blk := hf
    rw [hf]; exact h.hg o
  | grid e1 e2 rows =>
    obtain ⟨cur, rc, h⟩ := h
    rcases hf with rfl | ⟨i, hi, rfl⟩
    · exact h.hg o
    · exact h.hg' i o hi
  | pg e1 e2 n rows =>
    obtain ⟨cur, rc, h⟩ := h
    rcases hf with rfl | ⟨i, hi, rfl⟩
    · exact h.hg o
    · exact h.hg' i o hi
  | sg e1 e2 n rows =>
    obtain ⟨cur, rc, h⟩ := h
    rcases hf with rfl | ⟨i, hi, rfl⟩
    · exact h.hg o
    · exact h.hg' i o hi
  | mp k l =>
    obtain ⟨es, cl, h⟩ := h
    have hf : b = L.blk := hf
    rw [hf, h.hblk]; exact h.hg o
def Turns (S S' : St) : Prop := ∀ w0 g ρ a w, Rel w0 S g ρ a w → ∃ ρ', Rel w0 S' g ρ' a w
theorem Turns.refl (S : St) : Turns S S := fun _ _ ρ _ _ h => ⟨ρ, h⟩
theorem Turns.trans {S S' S2 : St} (h : Turns S S') (k : Turns S' S2) : Turns S S2 := fun w0 g ρ a w hr => (h w0 g ρ a w hr).elim fun ρ' hr' => k w0 g ρ' a w hr'
end Go.Pv
/- The order of lists by length, then by their members; lists in this order without repeats are determined by their members. No program here. -/
namespace Go.Proofs.YtembaiccchgllaaGreat

def cmpX : List Int → List Int → Int
  | [], [] => 0
  | [], _ :: _ => -1
  | _ :: _, [] => 1
  | a :: s, b :: t => if a = b then cmpX s t else if a < b then -1 else 1
theorem cmpX_self : ∀ a : List Int, cmpX a a = 0
  | [] => rfl
  | a :: s => by simp only [cmpX, if_true]; exact cmpX_self s
theorem cmpX_eq : ∀ {a b : List Int}, cmpX a b = 0 → a = b
  | [], [], _ => rfl
  | [], _ :: _, h => by simp [cmpX] at h
  | _ :: _, [], h => by simp [cmpX] at h
  | a :: s, b :: t, h => by
    simp only [cmpX] at h
    split at h
    · rename_i e; rw [e, cmpX_eq h]
    · split at h <;> simp at h
theorem cmpX_flip : ∀ (a b : List Int), cmpX b a = -cmpX a b
  | [], [] => rfl
  | [], _ :: _ => rfl
  | _ :: _, [] => rfl
  | a :: s, b :: t => by
    simp only [cmpX]
    by_cases e : a = b
    · rw [if_pos e, if_pos e.symm]; exact cmpX_flip s t
    · rw [if_neg e, if_neg (Ne.symm e)]
      by_cases h : a < b
      · rw [if_pos h, if_neg (by omega)]; rfl
      · rw [if_neg h, if_pos (by omega)]
theorem cmpX_trans : ∀ {a b c : List Int}, cmpX a b < 0 → cmpX b c < 0 → cmpX a c < 0
  | [], [], _, h, _ => by simp [cmpX] at h
  | [], _ :: _, [], _, h => by simp [cmpX] at h
  | [], _ :: _, _ :: _, _, _ => by simp [cmpX]
  | _ :: _, [], _, h, _ => by simp [cmpX] at h
  | _ :: _, _ :: _, [], _, h => by simp [cmpX] at h
  | a :: s, b :: t, c :: u, h1, h2 => by
    simp only [cmpX] at *
    by_cases e1 : a = b
    · subst e1
      rw [if_pos rfl] at h1
      by_cases e2 : a = c
      · subst e2
        rw [if_pos rfl] at h2 ⊢
        exact cmpX_trans h1 h2
      · rw [if_neg e2] at h2 ⊢; exact h2
    · rw [if_neg e1] at h1
      have hab : a < b := by
        by_cases h : a < b
        · exact h
        · rw [if_neg h] at h1; omega
      by_cases e2 : b = c
      · subst e2
        rw [if_neg e1, if_pos hab]; decide
      · rw [if_neg e2] at h2
        have hbc : b < c := by
          by_cases h : b < c
          · exact h
          · rw [if_neg h] at h2; omega
        rw [if_neg (by omega), if_pos (by omega)]; decide
end Go.Proofs.YtembaiccchgllaaGreat
/- Walks: the reference's posets, lattices and their laws' helpers. -/

namespace Go.Proofs.YtembaiccchgllaaGreat
open Go Go.Pv Go.Proofs
abbrev gridI (t : List (List Int)) : HO := .grid 34 3 (t.map fun r => r.map I)
theorem idx_gridI {t : List (List Int)} {i : Nat} (h : i < t.length) : (t.map fun r => r.map I)[i]? = some ((t.getD i []).map I) := by simp [h]
end Go.Proofs.YtembaiccchgllaaGreat
/- Distributive lattices: irreducible elements are prime; point maps of lattice maps, lattice maps of point maps. No program here. -/
namespace Go.Proofs.YtembaiccchgllaaGreat
structure LMap (p q : List (List Int)) (f : List Int) : Prop where
  len : f.length = p.length
  mem : ∀ x, inR p x → inR q (im f x)
  bot : im f (botL p) = botL q
  top : im f (topL p) = topL q
  meet : ∀ x y, inR p x → inR p y → im f (meetL p x y) = meetL q (im f x) (im f y)
  join : ∀ x y, inR p x → inR p y → im f (joinL p x y) = joinL q (im f x) (im f y)
theorem LMap.mono {p q : List (List Int)} {f : List Int} (F : LMap p q f) (Lp : Lat p) (Lq : Lat q) {x y : Int} (hx : inR p x) (hy : inR p y) (h : leqB p x y = true) : leqB q (im f x) (im f y) = true := by
  have e := F.meet x y hx hy
  rw [Lp.meet_le hx hy h] at e
  rw [e]
  exact Lq.meet2 _ _ (F.mem x hx) (F.mem y hy)
end Go.Proofs.YtembaiccchgllaaGreat
