/- The layer: a small region in any order, each order walked. -/
import Derived.Test.YtlgfniaakjchgaaGreatRows
import Derived.ProofKit
import Derived.Test.YtlgfniaakjchgaaGreatLNe
import Derived.Test.YtlgfniaakjchgaaGreatLGl
import Derived.Test.YtlgfniaakjchgaaGreatLZb
import Derived.Test.YtlgfniaakjchgaaGreatLTy
namespace Go.Pv
open Go
attribute [local semireducible] Go.Pv.Goal Go.Pv.Ops Go.Pv.PStep Go.Pv.EStep Go.Pv.KRets Go.Pv.PCalls Go.Pv.OpsG
section
variable {P : Program} {ops : Array Oper} {K : St → Prop}
def aAnyB (P : Program) (ops : Array Oper) (K : St → Prop) : Nat → Array Bool → St → Prop
  | 0, listed, S => Region.ready .any ops listed = [] ∧ K S
  | n + 1, listed, S => (Region.ready .any ops listed = [] → K S) ∧ ∀ i ∈ Region.ready .any ops listed, ∃ o, ops[i]? = some o ∧ guardS ops S.fr o = some true ∧ ∃ S', EStep P o S S' ∧ aAnyB P ops K n (listed.setIfInBounds i true) S'
theorem wpAny_of_aAnyB {Q : Exit → Act → World → Prop} {w0 : Ini} (hK : ∀ S g ρ a w, K S → Rel w0 S g ρ a w → Q .normal a w) :
    ∀ (n : Nat) (listed : Array Bool) (S : St) (g : Ghost) (ρ : Nat → Loc) (a : Act) (w : World), aAnyB P ops K n listed S → Rel w0 S g ρ a w → wpAny P .any ops Q n listed a w
  | 0, _, S, g, ρ, a, w, h, hr => ⟨h.1, hK S g ρ a w h.2 hr⟩
  | n + 1, listed, S, g, ρ, a, w, h, hr => by
    refine ⟨fun h0 => hK S g ρ a w (h.1 h0) hr, fun i hi => ?_⟩
    obtain ⟨o, ho, hg, S', hp, h1⟩ := h.2 i hi
    unfold wpOp
    rw [ho]
    dsimp only
    rw [if_pos (guardS_spec hr hg)]
    left
    exact hp w0 g ρ a w hr Q _ fun g' ρ' a' w' _ hr' => wpAny_of_aAnyB hK n _ S' g' ρ' a' w' h1 hr'
theorem g_region_B {id : Nat} {l : List Oper} {K : Exit → St → Prop} {S : St} (hm : P.follows .mixedOrders = true) (n : Nat) (hn : l.length = n)
    (h : aAnyB P l.toArray (K .normal) n (Array.replicate n false) S) : Goal P (.region id l.toArray true) K S := fun w0 g ρ a w Q hr hQ => by
  refine wp_region_any hm (wpAny_of_aAnyB (K := K .normal) (fun S' g' ρ' a' w' hk hr' => hQ .normal S' g' ρ' a' w' hk hr') _ _ S g ρ a _ ?_ hr.drew)
  subst hn
  simpa using h
variable {n : Nat} {listed : Array Bool} {S : St}
theorem b_1 {l : List Oper} {i : Nat} {o : Oper} {S1 : St} (hl : Region.ready .any l.toArray listed = [i]) (ho : l[i]? = some o) (hg : guardS l.toArray S.fr o = some true) (hE : EStep P o S S1) (hk : ∃ S2, S1 = S2 ∧ aAnyB P l.toArray K n (listed.setIfInBounds i true) S2) : aAnyB P l.toArray K (n + 1) listed S := by
  refine ⟨fun h => (by rw [hl] at h; cases h), fun j hj => ?_⟩
  rw [hl, List.mem_singleton] at hj
  subst hj
  obtain ⟨S2, rfl, h⟩ := hk
  exact ⟨o, by simpa using ho, hg, S1, hE, h⟩
theorem b_2 {l : List Oper} {i j : Nat} {o o' : Oper} {S1 S1' : St} (hl : Region.ready .any l.toArray listed = [i, j]) (ho : l[i]? = some o) (hg : guardS l.toArray S.fr o = some true) (hE : EStep P o S S1) (ho' : l[j]? = some o') (hg' : guardS l.toArray S.fr o' = some true) (hE' : EStep P o' S S1')
    (hk : ∃ S2, S1 = S2 ∧ aAnyB P l.toArray K n (listed.setIfInBounds i true) S2) (hk' : ∃ S2, S1' = S2 ∧ aAnyB P l.toArray K n (listed.setIfInBounds j true) S2) : aAnyB P l.toArray K (n + 1) listed S := by
  refine ⟨fun h => (by rw [hl] at h; cases h), fun m hm => ?_⟩
  rw [hl, List.mem_cons, List.mem_singleton] at hm
  rcases hm with rfl | rfl
  · obtain ⟨S2, rfl, h⟩ := hk
    exact ⟨o, by simpa using ho, hg, S1, hE, h⟩
  · obtain ⟨S2, rfl, h⟩ := hk'
    exact ⟨o', by simpa using ho', hg', S1', hE', h⟩
theorem b_end (hl : Region.ready .any ops listed = []) (hk : K S) : aAnyB P ops K 0 listed S := ⟨hl, hk⟩
theorem g_region_BJ {id : Nat} {l : List Oper} {K : Exit → St → Prop} {S S1 : St} (hm : P.follows .mixedOrders = true) (n : Nat) (hn : l.length = n)
    (h : aAnyB P l.toArray (fun T => T = S1) n (Array.replicate n false) S) (hk : K .normal S1) : Goal P (.region id l.toArray true) K S := by
  refine g_region_B hm n hn ?_
  have key : ∀ (m : Nat) (listed : Array Bool) (T : St), aAnyB P l.toArray (fun T => T = S1) m listed T → aAnyB P l.toArray (K .normal) m listed T := by
    intro m
    induction m with
    | zero => exact fun listed T h => ⟨h.1, h.2 ▸ hk⟩
    | succ m ih =>
      intro listed T h
      refine ⟨fun e => h.1 e ▸ hk, fun i hi => ?_⟩
      obtain ⟨o, h1, h2, S', h3, h4⟩ := h.2 i hi
      exact ⟨o, h1, h2, S', h3, ih _ _ h4⟩
  exact key _ _ _ h
theorem g_region_BV {id : Nat} {l : List Oper} {K : Exit → St → Prop} {S : St} (vals : List (Nat × PV)) (hps : List HO) (hm : P.follows .mixedOrders = true) (n : Nat) (hn : l.length = n)
    (h : aAnyB P l.toArray (fun T => T = ⟨zZ S.fr vals, hps⟩) n (Array.replicate n false) S) (hk : ∃ S2, St.mk (zZ S.fr vals) hps = S2 ∧ K .normal S2) : Goal P (.region id l.toArray true) K S := by
  obtain ⟨S2, rfl, hk⟩ := hk
  exact g_region_BJ hm n hn h hk
theorem l_E {o : Oper} {m : Nat} {x : HO} {q : PV} {fr : List PV} {hp : List HO} (h : LStep P o (St.mk fr hp).ev m x q) (h0 : hp[m]? = some .gone) (h1 : fr.map (killP m) = fr) (h2 : hp.map (mapHO (killP1 m)) = hp) : EStep P o ⟨fr, hp⟩ (St.put ⟨fr, hp.set m x⟩ o.dst q) :=
  h fr hp (fun _ _ => rfl) h0 ⟨h1, h2⟩
end
end Go.Pv
/- IsDistributiveChain: both sides. -/
namespace Go.Proofs.YtlgfniaakjchgaaGreat
open Go Go.Pv Go.Proofs
theorem place_eq {T : List (List Int)} {s t : List Int} (hs : s ∈ T) (ht : t ∈ T) : placeT T s = placeT T t ↔ s = t := by
  refine ⟨fun h => ?_, fun h => by rw [h]⟩
  obtain ⟨i, -, hi2, hi3⟩ := placeT_mem hs
  obtain ⟨j, -, hj2, hj3⟩ := placeT_mem ht
  obtain rfl : i = j := by omega
  rw [← hi2, ← hj2]
end Go.Proofs.YtlgfniaakjchgaaGreat
/- Walks: the laws' helpers for operations and algebras. -/
namespace Go.Proofs.YtlgfniaakjchgaaGreat
open Go Go.Pv Go.Proofs

theorem ops_at {L : List OpD} {i : Nat} (h : i < L.length) : (L.map opP)[((i : Nat) : Int).toNat]? = some (opP (L.getD i default)) := by
  rw [Int.toNat_natCast, List.getElem?_map, List.getElem?_eq_getElem h, List.getD_eq_getElem?_getD, List.getElem?_eq_getElem h]; rfl
theorem ops_mem {L : List OpD} {i : Nat} (h : i < L.length) : L.getD i default ∈ L := by
  rw [List.getD_eq_getElem?_getD, List.getElem?_eq_getElem h]; exact List.getElem_mem h
end Go.Proofs.YtlgfniaakjchgaaGreat
/- The layer: the rest of a function's text, behind one of its statements. -/
namespace Go.Pv
open Go
attribute [local semireducible] Go.Pv.Goal
def headReg : Code → Option Nat
  | .region id _ _ => some id
  | .seq a _ => headReg a
  | .block _ c => headReg c
  | _ => none
def tailAt (id : Nat) : Code → Code
  | .seq a b => bif headReg a == some id then .seq a b else tailAt id b
  | .block _ c => tailAt id c
  | c => c
abbrev bodyC (f : Func) : Code := f.body.getD .skip
theorem g_tail {P : Program} {c c' : Code} {K : Exit → St → Prop} {S S' : St} (hc : c = c') (hl : S.le S') (h : Goal P c' K S') : Goal P c K S := hc ▸ g_weaken hl h
theorem at_reg1 {P : Program} {K : Exit → St → Prop} {S : St} {x : Code} {ops : Array Oper} {dr : Bool} (id : Nat) (h : Goal P ((Code.region id ops dr).seq x) K S) : Goal P ((Code.region id ops dr).seq x) K S := h
end Go.Pv
/- What a row asks, out of what a call comes to over plain values: the result 'true', and no old block turned. -/
namespace Go.Pv
open Go Go.ChangeShapes Go.WideShapes Go.RowKit

theorem trodAll_below {H : Type} {enc : TypeId × Value → H} {P : Program} (hl : laidOutB P = true) {W W' : World} (hb : Below W.heap.size W W') : ∀ {ts : List TypeId} {vs : List Value} {ds : List (DataW H)} {ps : List MemPlace},
    (ts.all fun t => P.readableRec t && decide (t < P.types.size)) = true → DataW.TrodAll enc P W 0 (fun _ => true) true ts vs ds ps → (∀ x ∈ ps, x.block < W.heap.size) →
    DataW.TrodAll enc P W' 0 (fun b => decide (b < W.heap.size)) true ts vs ds ps
  | [], [], [], _, _, h, _ => h
  | t :: ts, v :: vs, d :: ds, ps, hr, h, hlt => by
    obtain ⟨p, q, h1, h2, rfl⟩ := h
    simp only [List.all_cons, Bool.and_eq_true, decide_eq_true_eq] at hr
    exact ⟨p, q, Below.trod hl hr.1.1 hr.1.2 h1 hb (fun x hx => hlt x (List.mem_append_left _ hx)), trodAll_below hl hb hr.2 h2 (fun x hx => hlt x (List.mem_append_right _ hx)), rfl⟩
  | [], [], _ :: _, _, _, h, _ => h.elim
  | [], _ :: _, _, _, _, h, _ => h.elim
  | _ :: _, [], _, _, _, h, _ => h.elim
  | _ :: _, _ :: _, [], _, _, h, _ => h.elim

theorem law_post {H : Type} {enc : TypeId × Value → H} {P : Program} {f : Func} {s : ChangeSpec} {W W' : World} {args : Array Value} {ds gs : List (DataW H)} {before : List MemPlace} {tb : TypeId} (hl : laidOutB P = true) (hs : s.vars = [])
    (hread : (f.params.toList.all fun t => P.readableRec t && decide (t < P.types.size)) = true) (hr : f.resultTypes = #[tb]) (htb : P.underlying tb = some .bool) (hfn : s.fn H (ds ++ gs) = { results := [.lit (.bool true)], args := ds })
    (hW : DataW.Whole enc P f.params.toList s.vars false W args.toList ds gs before) (hb : Below W.heap.size W W') : s.post enc P f false true false false W args (.bool true) W' := by
  have hlt := hW.lt
  have hW0 := hW
  obtain ⟨p, q, hA, hV, rfl, hz, hn⟩ := hW
  refine ⟨ds, gs, p ++ q, [], p, q, hW0, ?_, ?_, ?_, hb.frame _, fun h => by cases h⟩
  · rw [hfn, hr]
    exact ⟨[], [], ⟨1, by simp [DataW.trod, Value.cells, htb]⟩, rfl, rfl⟩
  · rw [hfn]
    exact trodAll_below hl hb hread hA (fun x hx => hlt x (List.mem_append_left _ hx))
  · rw [hfn]
    rw [hs] at hV ⊢
    cases gs with
    | nil => exact hV
    | cons _ _ => exact hV.elim

theorem PCalls.use {P : Program} {f : FuncId} {args : List PV} {b : Bool} (h : PCalls P f args (B b)) {g : Ghost} {W : World} {vs : List Value} (ha : Agree g W) (hv : VRl g vs args) :
    Calls P f vs.toArray W fun e W' => e = .returned (.bool b) ∧ Below W.heap.size W W' := by
  unfold PCalls at h
  exact (h g W vs ha hv).mono fun e W' ⟨v, g', he, _, _, hb, _, hvr⟩ => ⟨by rw [he, VR.val_inv hvr], hb⟩
end Go.Pv
