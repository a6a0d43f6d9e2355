/- The layer, more: branches that meet again. -/
import Derived.Test.YtkdagmbgjddopaaRows
import Derived.ProofKit
import Derived.Test.YtkdagmbgjddopaaJZa
import Derived.Test.YtkdagmbgjddopaaJMv
import Derived.Test.YtkdagmbgjddopaaJMg
import Derived.Test.YtkdagmbgjddopaaJTy
namespace Go.Pv
open Go
attribute [local semireducible] Go.Pv.Goal
section
variable {P : Program} {K : Exit → St → Prop} {S : St}
theorem at_reg {x y : Code} {ops : Array Oper} {dr : Bool} (id : Nat) (h : Goal P (((Code.region id ops dr).seq x).seq y) K S) : Goal P (((Code.region id ops dr).seq x).seq y) K S := h
end
end Go.Pv
/- The layer, more: calls that are lent several objects, which may grow and move, and hand objects back. -/
namespace Go.Pv
open Go
attribute [local semireducible] Go.Pv.Goal Go.Pv.PStep Go.Pv.EStep Go.Pv.KRets Go.Pv.PCalls

def posI : List Nat → Nat → Nat → Option Nat
  | [], _, _ => none
  | i :: is, j, k => bif i == j then some k else posI is j (k + 1)
def optP : Option Nat → (Nat → PV) → PV → PV
  | some k, f, _ => f k
  | none, _, d => d
def apart : List Nat → Bool
  | [] => true
  | i :: is => is.all (fun j => !(i == j)) && apart is
def lendM1 (ids : List Nat) (hp : List HO) : PV → PV
  | .hp j => optP (posI ids j 0) .hp (view1 hp (.hp j))
  | .hat j i => optP (posI ids j 0) (.hat · i) .any
  | .hpv j _ _ => optP (posI ids j 0) .hp .any
  | .hatv j i _ _ => optP (posI ids j 0) (.hat · i) .any
  | .gr _ _ | .gat _ _ _ => .any
  | p => p
def lendMA (ids : List Nat) (hp : List HO) : PV → PV
  | .agg l => .agg (l.map (lendM1 ids hp))
  | p => lendM1 ids hp p
def lendMP (ids : List Nat) (hp : List HO) : PV → PV
  | .tup l => .tup (l.map (lendMA ids hp))
  | .agg l => .agg (l.map (lendM1 ids hp))
  | p => lendM1 ids hp p
def hasI : List Nat → Nat → Bool
  | [], _ => false
  | i :: is, k => bif i == k then true else hasI is k
def killM1 (ids fix : List Nat) : PV → PV
  | .hp j => optP (posI ids j 0) (fun _ => .any) (.hp j)
  | .hat j i => optP (posI ids j 0) (fun k => bif hasI fix k then .hat j i else .any) (.hat j i)
  | .hpv j b c => optP (posI ids j 0) (fun _ => .any) (.hpv j b c)
  | .hatv j i b c => optP (posI ids j 0) (fun k => bif hasI fix k then .hatv j i b c else .any) (.hatv j i b c)
  | .gr j i => optP (posI ids j 0) (fun _ => .any) (.gr j i)
  | .gat j i m => optP (posI ids j 0) (fun _ => .any) (.gat j i m)
  | p => p
def killMA (ids fix : List Nat) : PV → PV
  | .agg l => .agg (l.map (killM1 ids fix))
  | p => killM1 ids fix p
def killMP (ids fix : List Nat) : PV → PV
  | .tup l => .tup (l.map (killMA ids fix))
  | .agg l => .agg (l.map (killM1 ids fix))
  | p => killM1 ids fix p
def getO : List Nat → Nat → Option Nat
  | [], _ => none
  | i :: _, 0 => some i
  | _ :: is, k + 1 => getO is k
def backM1 (ids : List Nat) : PV → PV
  | .hp k => optP (getO ids k) .hp .any
  | .hat k i => optP (getO ids k) (.hat · i) .any
  | .hpv k _ _ => optP (getO ids k) .hp .any
  | .hatv k i _ _ => optP (getO ids k) (.hat · i) .any
  | .gr k i => optP (getO ids k) (.gr · i) .any
  | .gat k i j => optP (getO ids k) (.gat · i j) .any
  | p => p
def backMA (ids : List Nat) : PV → PV
  | .agg l => .agg (l.map (backM1 ids))
  | p => backM1 ids p
def backMP (ids : List Nat) : PV → PV
  | .tup l => .tup (l.map (backMA ids))
  | .agg l => .agg (l.map (backM1 ids))
  | p => backM1 ids p
def putL : List Nat → List HO → List HO → List HO
  | i :: is, x :: xs, hp => putL is xs (hp.set i x)
  | _, _, hp => hp
def inpM (ids : List Nat) (hp : List HO) : List HO := ids.map fun i => mapHO (lendM1 ids hp) (hp.getD i .gone)
theorem VRSl.append {g : Ghost} {ρ : Nat → Loc} {hp : List HO} {us vs : List Value} {l m : List PV} (h : VRSl g ρ hp us l) (k : VRSl g ρ hp vs m) : VRSl g ρ hp (us ++ vs) (l ++ m) := by
  refine ⟨by simp [h.1, k.1], fun i q hq => ?_⟩
  rcases Nat.lt_or_ge i l.length with hlt | hge
  · rw [List.getElem?_append_left hlt] at hq
    have := h.2 i q hq
    simpa [List.getD_eq_getElem?_getD, List.getElem?_append_left (show i < us.length by rw [h.1]; exact hlt)] using this
  · rw [List.getElem?_append_right hge] at hq
    have := k.2 _ q hq
    simpa [List.getD_eq_getElem?_getD, List.getElem?_append_right (show us.length ≤ i by rw [h.1]; exact hge), h.1] using this
theorem VRSl.of_array {g : Ghost} {ρ : Nat → Loc} {hp : List HO} {us : Array Value} {l : List PV} (h1 : us.size = l.length) (h2 : ∀ i q, l[i]? = some q → VR g (us.getD i undef) q) : VRSl g ρ hp us.toList l := by
  have := VRl.of_array h1 h2
  exact ⟨this.1, fun i q hq => .of_VR (this.2 i q hq)⟩

/-! ### The end of such a call -/
def pinM1 (fix : List Nat) (bd : Nat → Nat × Nat) : PV → PV
  | .hat j i => bif hasI fix j then .hatv j i (bd j).1 (bd j).2 else .hat j i
  | p => p
def pinMA (fix : List Nat) (bd : Nat → Nat × Nat) : PV → PV
  | .agg l => .agg (l.map (pinM1 fix bd))
  | p => pinM1 fix bd p
def pinMP (fix : List Nat) (bd : Nat → Nat × Nat) : PV → PV
  | .tup l => .tup (l.map (pinMA fix bd))
  | .agg l => .agg (l.map (pinM1 fix bd))
  | p => pinM1 fix bd p
def mutHO : HO → Bool
  | .arr mt _ _ _ => mt
  | _ => true
theorem HOwn.none {g : Ghost} {ρ : Nat → Loc} {hp : List HO} {w : World} {D : Nat → Bool} {ho : HO} {L : Loc} (h : HOwn g ρ hp w D ho L) (hm : mutHO ho = true) {b : Nat} (hf : foot ho L b) (o : Nat) : g b o = none := by
  cases ho with
  | gone => exact hf.elim
  | arr mt s e l =>
    have hm : mt = true := hm
    subst hm
    obtain ⟨cur, c, h⟩ := h
    have hf : b = L.blk := hf
    rw [hf, h.hg o]; simp
  | box l =>
    obtain ⟨cur, e, h⟩ := h
    have hf : b = L.blk := hf
    rw [hf]; exact h.hg o
  | grid e1 e2 rows =>
    obtain ⟨cur, rc, h⟩ := h
    rcases hf with rfl | ⟨i, hi, rfl⟩
    · exact h.hg o
    · exact h.hg' i o hi
  | pg e1 e2 n rows =>
    obtain ⟨cur, rc, h⟩ := h
    rcases hf with rfl | ⟨i, hi, rfl⟩
    · exact h.hg o
    · exact h.hg' i o hi
  | sg e1 e2 n rows =>
    obtain ⟨cur, rc, h⟩ := h
    rcases hf with rfl | ⟨i, hi, rfl⟩
    · exact h.hg o
    · exact h.hg' i o hi
  | mp k l =>
    obtain ⟨es, cl, h⟩ := h
    have hf : b = L.blk := hf
    rw [hf, h.hblk]; exact h.hg o
def Turns (S S' : St) : Prop := ∀ w0 g ρ a w, Rel w0 S g ρ a w → ∃ ρ', Rel w0 S' g ρ' a w
theorem Turns.refl (S : St) : Turns S S := fun _ _ ρ _ _ h => ⟨ρ, h⟩
theorem Turns.trans {S S' S2 : St} (h : Turns S S') (k : Turns S' S2) : Turns S S2 := fun w0 g ρ a w hr => (h w0 g ρ a w hr).elim fun ρ' hr' => k w0 g ρ' a w hr'
end Go.Pv
/- The layer: the rest of a function's text, behind one of its statements. -/
namespace Go.Pv
open Go
attribute [local semireducible] Go.Pv.Goal
abbrev bodyC (f : Func) : Code := f.body.getD .skip
theorem at_reg1 {P : Program} {K : Exit → St → Prop} {S : St} {x : Code} {ops : Array Oper} {dr : Bool} (id : Nat) (h : Goal P ((Code.region id ops dr).seq x) K S) : Goal P ((Code.region id ops dr).seq x) K S := h
end Go.Pv
/- What sortRows does to a row of lists, by the library's contract. -/
namespace Go.Proofs.Ytkdagmbgjddopaa
open Go Go.Proofs Go.Shelf Go.RowKit Go.Lib Go.Sort

section
variable {n : Nat} (R : Nat → List Int) (B C : Nat → Nat)
def encR (i : Fin (n + 1)) : Value := .slice (some ⟨B i, 0, none⟩) (R i).length (C i)
theorem sw_other {α : Type} [Inhabited α] (enc : α → Value) (w : World) (blk off m : Nat) (dk : Array α) (os : Array Obj) (p : Addr) (hp : p.block ≠ blk) (hl : p.block < w.heap.size) : (sortWorld enc w blk off m dk os).cell? p = w.cell? p := by
  unfold sortWorld
  rw [cell?_grow _ _ _ (by rw [size_putRow]; exact hl), cell?_putRow_other _ _ _ _ _ _ (.inl hp)]; rfl
end
noncomputable def siT : TypeInfo := (Try.prog.info? 38).get (by kernel_rfl)
noncomputable def siE : TypeInfo := (Try.prog.info? 29).get (by kernel_rfl)
theorem siK (n : Nat) (h2 : 2 ≤ n) : Lib.swapperK n siE 23 = 9 := by
  have a : siE.hasPointers = true := by kernel_rfl
  have b : siE.bytes = 24 := by kernel_rfl
  have c : (n == 0) = false := by simp; omega
  have d : (n == 1) = false := by simp; omega
  simp [Lib.swapperK, a, b, c, d]
theorem swap_tiny (n : Nat) (hn : n ≤ 1) : ∃ f, Try.prog.funcs.findIdx? (·.name == "internal/reflectlite" ++ ".Swapper$" ++ toString (Lib.swapperK n siE 23)) = some f := by
  have : n = 0 ∨ n = 1 := by omega
  rcases this with rfl | rfl
  · exact ⟨111, by kernel_rfl⟩
  · exact ⟨112, by kernel_rfl⟩
end Go.Proofs.Ytkdagmbgjddopaa
/- What a row asks, out of what a call comes to over plain values: the result 'true', and no old block turned. -/
namespace Go.Pv
open Go Go.ChangeShapes Go.WideShapes Go.RowKit

theorem trodAll_below {H : Type} {enc : TypeId × Value → H} {P : Program} (hl : laidOutB P = true) {W W' : World} (hb : Below W.heap.size W W') : ∀ {ts : List TypeId} {vs : List Value} {ds : List (DataW H)} {ps : List MemPlace},
    (ts.all fun t => P.readableRec t && decide (t < P.types.size)) = true → DataW.TrodAll enc P W 0 (fun _ => true) true ts vs ds ps → (∀ x ∈ ps, x.block < W.heap.size) →
    DataW.TrodAll enc P W' 0 (fun b => decide (b < W.heap.size)) true ts vs ds ps
  | [], [], [], _, _, h, _ => h
  | t :: ts, v :: vs, d :: ds, ps, hr, h, hlt => by
    obtain ⟨p, q, h1, h2, rfl⟩ := h
    simp only [List.all_cons, Bool.and_eq_true, decide_eq_true_eq] at hr
    exact ⟨p, q, Below.trod hl hr.1.1 hr.1.2 h1 hb (fun x hx => hlt x (List.mem_append_left _ hx)), trodAll_below hl hb hr.2 h2 (fun x hx => hlt x (List.mem_append_right _ hx)), rfl⟩
  | [], [], _ :: _, _, _, h, _ => h.elim
  | [], _ :: _, _, _, _, h, _ => h.elim
  | _ :: _, [], _, _, _, h, _ => h.elim
  | _ :: _, _ :: _, [], _, _, h, _ => h.elim

theorem law_post {H : Type} {enc : TypeId × Value → H} {P : Program} {f : Func} {s : ChangeSpec} {W W' : World} {args : Array Value} {ds gs : List (DataW H)} {before : List MemPlace} {tb : TypeId} (hl : laidOutB P = true) (hs : s.vars = [])
    (hread : (f.params.toList.all fun t => P.readableRec t && decide (t < P.types.size)) = true) (hr : f.resultTypes = #[tb]) (htb : P.underlying tb = some .bool) (hfn : s.fn H (ds ++ gs) = { results := [.lit (.bool true)], args := ds })
    (hW : DataW.Whole enc P f.params.toList s.vars false W args.toList ds gs before) (hb : Below W.heap.size W W') : s.post enc P f false true false false W args (.bool true) W' := by
  have hlt := hW.lt
  have hW0 := hW
  obtain ⟨p, q, hA, hV, rfl, hz, hn⟩ := hW
  refine ⟨ds, gs, p ++ q, [], p, q, hW0, ?_, ?_, ?_, hb.frame _, fun h => by cases h⟩
  · rw [hfn, hr]
    exact ⟨[], [], ⟨1, by simp [DataW.trod, Value.cells, htb]⟩, rfl, rfl⟩
  · rw [hfn]
    exact trodAll_below hl hb hread hA (fun x hx => hlt x (List.mem_append_left _ hx))
  · rw [hfn]
    rw [hs] at hV ⊢
    cases gs with
    | nil => exact hV
    | cons _ _ => exact hV.elim

theorem PCalls.use {P : Program} {f : FuncId} {args : List PV} {b : Bool} (h : PCalls P f args (B b)) {g : Ghost} {W : World} {vs : List Value} (ha : Agree g W) (hv : VRl g vs args) :
    Calls P f vs.toArray W fun e W' => e = .returned (.bool b) ∧ Below W.heap.size W W' := by
  unfold PCalls at h
  exact (h g W vs ha hv).mono fun e W' ⟨v, g', he, _, _, hb, _, hvr⟩ => ⟨by rw [he, VR.val_inv hvr], hb⟩
end Go.Pv
