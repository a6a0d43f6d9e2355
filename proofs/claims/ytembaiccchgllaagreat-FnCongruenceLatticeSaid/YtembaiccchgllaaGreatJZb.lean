/- The layer, more: branches that meet again. -/
import Derived.Test.YtembaiccchgllaaGreatRows
import Derived.ProofKit
import Derived.Deep.Matrix
import Derived.Test.YtembaiccchgllaaGreatJZa
import Derived.Test.YtembaiccchgllaaGreatJAq
import Derived.Test.YtembaiccchgllaaGreatJSq
import Derived.Test.YtembaiccchgllaaGreatJPq
import Derived.Test.YtembaiccchgllaaGreatJTy
set_option linter.unusedSectionVars false
namespace Go.Pv
open Go
attribute [local semireducible] Go.Pv.Goal
section
variable {P : Program} {K : Exit → St → Prop} {S : St}
theorem at_reg {x y : Code} {ops : Array Oper} {dr : Bool} (id : Nat) (h : Goal P (((Code.region id ops dr).seq x).seq y) K S) : Goal P (((Code.region id ops dr).seq x).seq y) K S := h
end
end Go.Pv
/- The layer, more: calls that are lent several objects, which may grow and move, and hand objects back. -/
namespace Go.Pv
open Go
attribute [local semireducible] Go.Pv.Goal Go.Pv.PStep Go.Pv.EStep Go.Pv.KRets Go.Pv.PCalls

def posI : List Nat → Nat → Nat → Option Nat
  | [], _, _ => none
  | i :: is, j, k => bif i == j then some k else posI is j (k + 1)
def optP : Option Nat → (Nat → PV) → PV → PV
  | some k, f, _ => f k
  | none, _, d => d
def apart : List Nat → Bool
  | [] => true
  | i :: is => is.all (fun j => !(i == j)) && apart is
def lendM1 (ids : List Nat) (hp : List HO) : PV → PV
  | .hp j => optP (posI ids j 0) .hp (view1 hp (.hp j))
  | .hat j i => optP (posI ids j 0) (.hat · i) .any
  | .hpv j _ _ => optP (posI ids j 0) .hp .any
  | .hatv j i _ _ => optP (posI ids j 0) (.hat · i) .any
  | .gr _ _ | .gat _ _ _ => .any
  | p => p
def lendMA (ids : List Nat) (hp : List HO) : PV → PV
  | .agg l => .agg (l.map (lendM1 ids hp))
  | p => lendM1 ids hp p
def lendMP (ids : List Nat) (hp : List HO) : PV → PV
  | .tup l => .tup (l.map (lendMA ids hp))
  | .agg l => .agg (l.map (lendM1 ids hp))
  | p => lendM1 ids hp p
def hasI : List Nat → Nat → Bool
  | [], _ => false
  | i :: is, k => bif i == k then true else hasI is k
def killM1 (ids fix : List Nat) : PV → PV
  | .hp j => optP (posI ids j 0) (fun _ => .any) (.hp j)
  | .hat j i => optP (posI ids j 0) (fun k => bif hasI fix k then .hat j i else .any) (.hat j i)
  | .hpv j b c => optP (posI ids j 0) (fun _ => .any) (.hpv j b c)
  | .hatv j i b c => optP (posI ids j 0) (fun k => bif hasI fix k then .hatv j i b c else .any) (.hatv j i b c)
  | .gr j i => optP (posI ids j 0) (fun _ => .any) (.gr j i)
  | .gat j i m => optP (posI ids j 0) (fun _ => .any) (.gat j i m)
  | p => p
def killMA (ids fix : List Nat) : PV → PV
  | .agg l => .agg (l.map (killM1 ids fix))
  | p => killM1 ids fix p
def killMP (ids fix : List Nat) : PV → PV
  | .tup l => .tup (l.map (killMA ids fix))
  | .agg l => .agg (l.map (killM1 ids fix))
  | p => killM1 ids fix p
def getO : List Nat → Nat → Option Nat
  | [], _ => none
  | i :: _, 0 => some i
  | _ :: is, k + 1 => getO is k
def backM1 (ids : List Nat) : PV → PV
  | .hp k => optP (getO ids k) .hp .any
  | .hat k i => optP (getO ids k) (.hat · i) .any
  | .hpv k _ _ => optP (getO ids k) .hp .any
  | .hatv k i _ _ => optP (getO ids k) (.hat · i) .any
  | .gr k i => optP (getO ids k) (.gr · i) .any
  | .gat k i j => optP (getO ids k) (.gat · i j) .any
  | p => p
def backMA (ids : List Nat) : PV → PV
  | .agg l => .agg (l.map (backM1 ids))
  | p => backM1 ids p
def backMP (ids : List Nat) : PV → PV
  | .tup l => .tup (l.map (backMA ids))
  | .agg l => .agg (l.map (backM1 ids))
  | p => backM1 ids p
def putL : List Nat → List HO → List HO → List HO
  | i :: is, x :: xs, hp => putL is xs (hp.set i x)
  | _, _, hp => hp
def inpM (ids : List Nat) (hp : List HO) : List HO := ids.map fun i => mapHO (lendM1 ids hp) (hp.getD i .gone)
theorem VRSl.append {g : Ghost} {ρ : Nat → Loc} {hp : List HO} {us vs : List Value} {l m : List PV} (h : VRSl g ρ hp us l) (k : VRSl g ρ hp vs m) : VRSl g ρ hp (us ++ vs) (l ++ m) := by
  refine ⟨by simp [h.1, k.1], fun i q hq => ?_⟩
  rcases Nat.lt_or_ge i l.length with hlt | hge
  · rw [List.getElem?_append_left hlt] at hq
    have := h.2 i q hq
    simpa [List.getD_eq_getElem?_getD, List.getElem?_append_left (show i < us.length by rw [h.1]; exact hlt)] using this
  · rw [List.getElem?_append_right hge] at hq
    have := k.2 _ q hq
    simpa [List.getD_eq_getElem?_getD, List.getElem?_append_right (show us.length ≤ i by rw [h.1]; exact hge), h.1] using this
theorem VRSl.of_array {g : Ghost} {ρ : Nat → Loc} {hp : List HO} {us : Array Value} {l : List PV} (h1 : us.size = l.length) (h2 : ∀ i q, l[i]? = some q → VR g (us.getD i undef) q) : VRSl g ρ hp us.toList l := by
  have := VRl.of_array h1 h2
  exact ⟨this.1, fun i q hq => .of_VR (this.2 i q hq)⟩

/-! ### The end of such a call -/
def pinM1 (fix : List Nat) (bd : Nat → Nat × Nat) : PV → PV
  | .hat j i => bif hasI fix j then .hatv j i (bd j).1 (bd j).2 else .hat j i
  | p => p
def pinMA (fix : List Nat) (bd : Nat → Nat × Nat) : PV → PV
  | .agg l => .agg (l.map (pinM1 fix bd))
  | p => pinM1 fix bd p
def pinMP (fix : List Nat) (bd : Nat → Nat × Nat) : PV → PV
  | .tup l => .tup (l.map (pinMA fix bd))
  | .agg l => .agg (l.map (pinM1 fix bd))
  | p => pinM1 fix bd p
def mutHO : HO → Bool
  | .arr mt _ _ _ => mt
  | _ => true
theorem HOwn.none {g : Ghost} {ρ : Nat → Loc} {hp : List HO} {w : World} {D : Nat → Bool} {ho : HO} {L : Loc} (h : HOwn g ρ hp w D ho L) (hm : mutHO ho = true) {b : Nat} (hf : foot ho L b) (o : Nat) : g b o = none := by
  cases ho with
  | gone => exact hf.elim
  | arr mt s e l =>
    have hm : mt = true := hm
    subst hm
    obtain ⟨cur, c, h⟩ := h
    have hf : b = L.blk := hf
    rw [hf, h.hg o]; simp
  | box l =>
    obtain ⟨cur, e, h⟩ := h
    have hf : b = L.blk := hf
    rw [hf]; exact h.hg o
  | grid e1 e2 rows =>
    obtain ⟨cur, rc, h⟩ := h
    rcases hf with rfl | ⟨i, hi, rfl⟩
    · exact h.hg o
    · exact h.hg' i o hi
  | pg e1 e2 n rows =>
    obtain ⟨cur, rc, h⟩ := h
    rcases hf with rfl | ⟨i, hi, rfl⟩
    · exact h.hg o
    · exact h.hg' i o hi
  | sg e1 e2 n rows =>
    obtain ⟨cur, rc, h⟩ := h
    rcases hf with rfl | ⟨i, hi, rfl⟩
    · exact h.hg o
    · exact h.hg' i o hi
  | mp k l =>
    obtain ⟨es, cl, h⟩ := h
    have hf : b = L.blk := hf
    rw [hf, h.hblk]; exact h.hg o
def Turns (S S' : St) : Prop := ∀ w0 g ρ a w, Rel w0 S g ρ a w → ∃ ρ', Rel w0 S' g ρ' a w
theorem Turns.refl (S : St) : Turns S S := fun _ _ ρ _ _ h => ⟨ρ, h⟩
theorem Turns.trans {S S' S2 : St} (h : Turns S S') (k : Turns S' S2) : Turns S S2 := fun w0 g ρ a w hr => (h w0 g ρ a w hr).elim fun ρ' hr' => k w0 g ρ' a w hr'
end Go.Pv
/- Walks: the reference's lattice maps, points and chains. -/

namespace Go.Proofs.YtembaiccchgllaaGreat
open Go Go.Pv Go.Proofs
set_option maxHeartbeats 32000000
set_option maxRecDepth 100000
attribute [local bitvec_to_nat] St.put St.setObj St.ev killP killA killP1 killH mapHO renP renA ren1 killG killGA killG1 krowP krowA krow1 lendP lendA lend1 unv pinP pin1 elemsM viewM viewN viewV n_set_z n_set_s n_map_c n_map_n getD_z getD_s n_toNat n_cond_t n_cond_f n_len_c n_len_n n_app_c n_app_n n_take_s n_take_z n_drop_s n_drop_z n_get_z n_get_s view viewA view1 elems Nat.zero_add Nat.add_zero Bool.not_true Bool.not_false Nat.one_ne_zero Nat.mul_one
theorem own_R (l : List Int) (hl : l.length ≤ 1048576) : RCalls Tryz.prog 206 [ints l] (.arr true 1 3 (l.map I)) (.hp 0) := by
  refine pcallsR1 Tryz.func206 rfl Tryz.ntmps206 rfl ?_
  simp only [List.length_cons, List.length_nil, Nat.reduceAdd, Nat.reduceSub, List.replicate_succ, List.replicate_zero, List.cons_append, List.nil_append]
  repeat' (first
| refine g_seq ?_
| refine zC ?_
| (refine o_go rfl ?_; (first
| refine p_p (zD rfl) ?_
| refine p_p (zA rfl) ?_
| refine p_e rfl (e_lit0 rfl (by decide)) ?_
| refine p_e rfl (e_append rfl rfl rfl rfl rfl rfl (by first | exact one_one rfl | exact one_map (fun _ => rfl) _) rfl aT aT) ?_); refine ⟨_, aA, ?_⟩)
| refine o_nil ?_
| refine krr 0 rfl (HandOut.arr rfl ?_ aO)
| refine g_ret ?_)
  rfl
end Go.Proofs.YtembaiccchgllaaGreat
/- What a row asks, out of what a call comes to over plain values: the result 'true', and no old block turned. -/
namespace Go.Pv
open Go Go.ChangeShapes Go.WideShapes Go.RowKit

theorem trodAll_below {H : Type} {enc : TypeId × Value → H} {P : Program} (hl : laidOutB P = true) {W W' : World} (hb : Below W.heap.size W W') : ∀ {ts : List TypeId} {vs : List Value} {ds : List (DataW H)} {ps : List MemPlace},
    (ts.all fun t => P.readableRec t && decide (t < P.types.size)) = true → DataW.TrodAll enc P W 0 (fun _ => true) true ts vs ds ps → (∀ x ∈ ps, x.block < W.heap.size) →
    DataW.TrodAll enc P W' 0 (fun b => decide (b < W.heap.size)) true ts vs ds ps
  | [], [], [], _, _, h, _ => h
  | t :: ts, v :: vs, d :: ds, ps, hr, h, hlt => by
    obtain ⟨p, q, h1, h2, rfl⟩ := h
    simp only [List.all_cons, Bool.and_eq_true, decide_eq_true_eq] at hr
    exact ⟨p, q, Below.trod hl hr.1.1 hr.1.2 h1 hb (fun x hx => hlt x (List.mem_append_left _ hx)), trodAll_below hl hb hr.2 h2 (fun x hx => hlt x (List.mem_append_right _ hx)), rfl⟩
  | [], [], _ :: _, _, _, h, _ => h.elim
  | [], _ :: _, _, _, _, h, _ => h.elim
  | _ :: _, [], _, _, _, h, _ => h.elim
  | _ :: _, _ :: _, [], _, _, h, _ => h.elim

theorem law_post {H : Type} {enc : TypeId × Value → H} {P : Program} {f : Func} {s : ChangeSpec} {W W' : World} {args : Array Value} {ds gs : List (DataW H)} {before : List MemPlace} {tb : TypeId} (hl : laidOutB P = true) (hs : s.vars = [])
    (hread : (f.params.toList.all fun t => P.readableRec t && decide (t < P.types.size)) = true) (hr : f.resultTypes = #[tb]) (htb : P.underlying tb = some .bool) (hfn : s.fn H (ds ++ gs) = { results := [.lit (.bool true)], args := ds })
    (hW : DataW.Whole enc P f.params.toList s.vars false W args.toList ds gs before) (hb : Below W.heap.size W W') : s.post enc P f false true false false W args (.bool true) W' := by
  have hlt := hW.lt
  have hW0 := hW
  obtain ⟨p, q, hA, hV, rfl, hz, hn⟩ := hW
  refine ⟨ds, gs, p ++ q, [], p, q, hW0, ?_, ?_, ?_, hb.frame _, fun h => by cases h⟩
  · rw [hfn, hr]
    exact ⟨[], [], ⟨1, by simp [DataW.trod, Value.cells, htb]⟩, rfl, rfl⟩
  · rw [hfn]
    exact trodAll_below hl hb hread hA (fun x hx => hlt x (List.mem_append_left _ hx))
  · rw [hfn]
    rw [hs] at hV ⊢
    cases gs with
    | nil => exact hV
    | cons _ _ => exact hV.elim

theorem PCalls.use {P : Program} {f : FuncId} {args : List PV} {b : Bool} (h : PCalls P f args (B b)) {g : Ghost} {W : World} {vs : List Value} (ha : Agree g W) (hv : VRl g vs args) :
    Calls P f vs.toArray W fun e W' => e = .returned (.bool b) ∧ Below W.heap.size W W' := by
  unfold PCalls at h
  exact (h g W vs ha hv).mono fun e W' ⟨v, g', he, _, _, hb, _, hvr⟩ => ⟨by rw [he, VR.val_inv hvr], hb⟩
end Go.Pv
/- What an argument reads as, by value: numbers, lists of numbers, rows of them, a struct of rows. -/
namespace Go.Pv
open Go Go.ChangeShapes Go.WideShapes Go.RowKit Go.Deep

def gW (W : World) : Ghost := fun b o => W.cell? ⟨b, o, none⟩
theorem gW_agree (W : World) : Agree (gW W) W := fun _ _ _ h => h
theorem cell_spot {w : World} {a : Addr} {v : Value} (h : w.cell? a = some v) : a.spot = none := by
  unfold World.cell? at h
  split at h
  · split at h
    · cases h
    · rename_i h'; simpa using h'
  · cases h
theorem addr_eq {a : Addr} (h : a.spot = none) : a = ⟨a.block, a.off, none⟩ := by cases a; simp_all
theorem add0 (a : Addr) : a.add 0 = a := by simp [Addr.add]

end Go.Pv
