/- Clones: found tables, round by round (plain). -/
import Derived.Laws.Small
import Derived.Deep.Matrix
import Derived.Test.YtkdagmbgjddopaaJGb
import Derived.Test.YtkdagmbgjddopaaJNb
import Derived.Test.YtkdagmbgjddopaaJZb
import Derived.Test.YtkdagmbgjddopaaJPr
namespace Go.Proofs.Ytkdagmbgjddopaa
open Go Go.Pv Go.Proofs

abbrev Stp := Int × List Int
abbrev Ent := List Int × Stp
def entOk (n size : Nat) (e : Ent) : Prop := e.1.length = size ∧ ∀ x ∈ e.1, 0 ≤ x ∧ x < (n : Int)
/-! ### One round after another -/
/-! ### The reference's rounds -/
def closedT (n size : Nat) (ops : List OpD) (T : List (List Int)) (b : Nat) : Prop := ∀ f ∈ ops, ∀ args : List Int, args.length = f.ar.toNat → (∀ x ∈ args, 0 ≤ x ∧ x < (b : Int)) → cmpL n f.tb (args.map fun x => T.getD x.toNat []) size ∈ T
end Go.Proofs.Ytkdagmbgjddopaa
/- The layer: an owned block of cells that is reached by a slice: its cells may name other objects. -/
namespace Go.Pv
open Go
attribute [local semireducible] Go.Pv.Goal Go.Pv.Ops Go.Pv.PStep Go.Pv.EStep Go.Pv.KRets Go.Pv.PCalls Go.Pv.OpsG
section
variable {P : Program} {o : Oper} {S : St} {ev : Operand → PV} {hp : List HO}
theorem VRS.box_new (g : Ghost) (ρ : Nat → Loc) (hp : List HO) (l : List PV) (L : Loc) (hc1 : l.length ≤ L.cap) (hc2 : L.cap ≤ maxLen) : VRS g (upd ρ hp.length L) (killH hp.length hp ++ [.box l]) (.slice (some ⟨L.blk, 0, none⟩) l.length L.cap) (.hp hp.length) := by
  have hg : (killH hp.length hp ++ [HO.box l])[hp.length]? = some (.box l) := by
    rw [List.getElem?_append_right (by simp [killH])]; simp [killH]
  refine ⟨⟨_, _, _, rfl⟩, fun m s' e' l' hid => ?_, fun e1 e2 rows hid => ?_, fun e1 e2 n rows hid => ?_, fun l' hid => ?_, fun e1 e2 n rows hid => ?_⟩
  · rw [hg] at hid; cases hid
  · rw [hg] at hid; cases hid
  · rw [hg] at hid; cases hid
  · rw [hg] at hid; cases hid; rw [upd_same]; exact ⟨rfl, hc1, hc2⟩
  · rw [hg] at hid; cases hid
theorem e_makeBox {t e : TypeId} {s by_ : Nat} {zv : Value} [ht : MkT P t e s by_ [zv]] {x y : Operand} {n : Int} (ho : o.op = .makeSlice t x y) (h1 : S.ev x = I n) (h2 : S.ev y = I n) (h0 : 0 ≤ n) (hb : n * by_ ≤ 140737488355328) (hn : n ≤ 9223372036854775807)
    (hs : s = 1) : EStep P o S (S.setObj S.hp.length (killH S.hp.length S.hp ++ [.box (List.replicate n.toNat (.val zv))]) o.dst (.hp S.hp.length)) := by
  subst hs
  intro w0 g ρ a w hr Q K hK
  have e1 := val_of (hr.ev x) h1
  have e2 := val_of (hr.ev y) h2
  obtain ⟨i, z, hi, hi1, hi2, hi3, hi4⟩ := ht.hi
  have hrun := run_make (P := P) w t e i z ht.hu hi hi3 .i64 .i64 n n h0 (Int.le_refl _) (by rw [hi2, Int.mul_comm]; omega) hn
  rw [hi1] at hrun
  unfold Oper.wp
  simp only [execOp, ho, e1, e2]
  rw [run_value hrun]
  have hgn : ∀ k, g w.heap.size k = none := fun k => by
    cases hk : g w.heap.size k with
    | none => rfl
    | some v => exact absurd (hr.base.agree.lt hk) (Nat.lt_irrefl _)
  have hzc : z.cells.size = 1 := by rw [← Array.length_toList, hi4]; rfl
  have hbase := hr.base.push (x' := .box (List.replicate n.toNat (.val zv))) ⟨w.heap.size, n.toNat, fun _ => 0, fun _ => 0⟩ (GExt.refl g) (killP1 S.hp.length) (fun v p h => h.kill S.hp.length _ (GExt.refl g) (fun i hi => killH_push _ _ hi)) (hr.base.agree.below ((RowKit.Below.refl _ _).alloc (Nat.le_refl _) _)) ((RowKit.Below.refl _ _).alloc (Nat.le_refl _) _)
    ⟨madeCells z.cells (n.toNat * 1), e, Ini.own_new hr.base.below.size, heap_alloc_new w _, by simp [size_madeCells], fun k q hk => (by
      rw [List.getElem?_replicate] at hk
      split at hk
      · rename_i hlt
        cases hk
        have : (madeCells z.cells (n.toNat * 1)).getD k undef = zv := by
          have hz0 : z.cells[0]? = some zv := by rw [← Array.getElem?_toList, hi4]; rfl
          have hm : k % 1 = 0 := Nat.mod_one k
          have hlt' : k < n.toNat * 1 := by omega
          simp only [madeCells, Array.getD_eq_getD_getElem?, Array.getElem?_map, Array.getElem?_range, hlt', if_true, Option.map_some, Option.getD_some, hzc, hm]
          rw [getElem!_def, hz0]
        rw [this]; exact .of_VR (.val zv)
      · cases hk), fun k => hgn k⟩ (fun b hb => by simp only [foot] at hb; omega) (fun b hb k => rfl)
  have hv := VRS.box_new g ρ S.hp (List.replicate n.toNat (.val zv)) ⟨w.heap.size, n.toNat, fun _ => 0, fun _ => 0⟩ (by simp) (by simp only [maxLen]; omega)
  simp only [List.length_replicate] at hv
  exact hK _ _ _ _ (GExt.refl g) (hr.setObj S.hp.length _ hbase (GExt.refl g) (fun i hi => killH_push _ _ hi) hv o.dst)
theorem ps_index_box {t e : TypeId} {by_ : Nat} [ht : SlT P t e 1 by_] {x ix : Operand} {l : List PV} {i : Int} {id : Nat} (ho : o.op = .indexAddr t x ix) (h1 : ev x = .hp id)
    (hh : hp[id]? = some (.box l)) (h2 : ev ix = I i) (h0 : 0 ≤ i) (hq : i.toNat < l.length) : PStep P o ev hp (.hat id i.toNat) :=
  .of_run fun w0 g ρ w av hb hx => by
    have e1 := hx x (by simp [ho, Op.operands])
    have e2 := val_of (hx ix (by simp [ho, Op.operands])) h2
    rw [h1] at e1
    have ea := (HpV.box e1 _ hh).1
    refine ⟨.pointer (some ⟨(ρ id).blk, i.toNat, none⟩), ?_, rfl⟩
    have hi : i < (l.length : Int) := by omega
    simp [execOp, ho, ea, e2, Instr.indexAt, asIntOf, run_underlying ht.hu, ht.hs, h0, hi, Addr.add_n, go_sem]
theorem g_viewBox {c : Code} {K : Exit → St → Prop} (n : Nat) {l : List PV} (hn : S.hp[n]? = some (.box l)) (h : ∃ S', St.mk S.fr (S.hp.set n (.box (l.map (Pv.view1 S.hp)))) = S' ∧ Goal P c K S') : Goal P c K S := by
  obtain ⟨S', rfl, h⟩ := h
  unfold Goal at h ⊢
  intro w0 g ρ a w Q hr hQ
  refine h w0 g ρ a w Q (rel_swap hr hn (x' := .box (l.map (Pv.view1 S.hp))) (fun hp' hx => ?_) (fun b hb => hb) (fun v hp' h' hh => ?_) (fun e1 e2 rows h => by cases h)) hQ
  · obtain ⟨cur, e, h1, h2, h3, h4, h5⟩ := hx
    refine ⟨cur, e, h1, h2, by rw [List.length_map]; exact h3, fun k q hk => ?_, h5⟩
    rw [List.getElem?_map, Option.map_eq_some_iff] at hk
    obtain ⟨p, hp', rfl⟩ := hk
    exact .of_VR (hr.base.view1 (h4 k p hp'))
  · exact { sl := hh.sl, arr := fun m s' e2 l' hid => (by rw [h'] at hid; cases hid), grid := fun e1 e2 rows hid => (by rw [h'] at hid; cases hid), sg := fun e1 e2 m rows hid => (by rw [h'] at hid; cases hid),
            pg := fun e1 e2 m rows hid => (by rw [h'] at hid; cases hid),
            box := fun l' hid => (by rw [h'] at hid; cases hid; rw [List.length_map]; exact hh.box _ hn) }
theorem EStep.cast {S' S2 : St} (h : EStep P o S S') (e : S' = S2) : EStep P o S S2 := e ▸ h
theorem g_castH {c : Code} {K : Exit → St → Prop} {fr : List PV} {hp hp' : List HO} (e : hp = hp') (h : Goal P c K ⟨fr, hp'⟩) : Goal P c K ⟨fr, hp⟩ := e ▸ h
end
end Go.Pv
/- The layer: a literal of two that names objects, the greater of two numbers, a slice that is not nil. -/
namespace Go.Pv
open Go
attribute [local semireducible] Go.Pv.Goal Go.Pv.Ops Go.Pv.PStep Go.Pv.EStep Go.Pv.KRets Go.Pv.PCalls Go.Pv.OpsG Go.Pv.KR
section
variable {P : Program} {o : Oper} {S : St} {ev : Operand → PV} {hp : List HO}
theorem ps_eqnil_ne {t e : TypeId} {s by_ : Nat} [ht : SlT P t e s by_] {rt : TypeId} {x y : Operand} {s' : Nat} {nn : Option Bool} {l : List PV} (ho : o.op = .binOp .eql t x y rt) (h1 : view hp (ev x) = .sl s' nn l) (h2 : ev y = nilV) (hl : l ≠ []) : PStep P o ev hp (B false) :=
  .of_run fun w0 g ρ w av hb hx => by
    have e1 := hb.view (hx x (by simp [ho, Op.operands]))
    have e2 := val_of (hx y (by simp [ho, Op.operands])) h2
    rw [h1] at e1
    have key : ∃ a n c, av x = .slice a n c ∧ a.isNone = false := by
      rcases VR.sl_inv e1 with ⟨ea, h', hn⟩ | ⟨a, cap, ea, h', hn⟩ | ⟨b', off, cap, cc, cs, ea, -⟩
      · exact absurd h' hl
      · exact absurd h' hl
      · exact ⟨_, _, _, ea, rfl⟩
    obtain ⟨a, n, c, ea, hab⟩ := key
    refine ⟨.bool false, ?_, .of_VR (.val _)⟩
    have h := eqnil_run (P := P) ht (x := x) (y := y) a n c w
    simp only [execOp, ho, ea, e2]
    rw [Sem.run_bind, h, hab]; rfl
end
end Go.Pv
/- What an argument reads as, by value: numbers, lists of numbers, rows of them, a struct of rows. -/
namespace Go.Pv
open Go Go.ChangeShapes Go.WideShapes Go.RowKit Go.Deep

def gW (W : World) : Ghost := fun b o => W.cell? ⟨b, o, none⟩
theorem gW_agree (W : World) : Agree (gW W) W := fun _ _ _ h => h
theorem cell_spot {w : World} {a : Addr} {v : Value} (h : w.cell? a = some v) : a.spot = none := by
  unfold World.cell? at h
  split at h
  · split at h
    · cases h
    · rename_i h'; simpa using h'
  · cases h
theorem addr_eq {a : Addr} (h : a.spot = none) : a = ⟨a.block, a.off, none⟩ := by cases a; simp_all
theorem add0 (a : Addr) : a.add 0 = a := by simp [Addr.add]

end Go.Pv
/- What an argument of bytes reads as, by value. -/
namespace Go.Pv
open Go Go.ChangeShapes Go.WideShapes Go.RowKit Go.Deep

theorem vr_rowY {w : World} {A : Option Addr} {L C : Nat} {zs : List Int} (h1 : L ≤ C) (h2 : C ≤ maxLen) (h3 : zs.length = C) (h4 : A = none → C = 0) (h5 : ∀ a', A = some a' → ∀ c, c < C → w.cell? (a'.add c) = some (.int .u8 (zs.getD c 0))) :
    VR (gW w) (.slice A L C) (.sl 1 none ((zs.take L).map Y)) := by
  cases A with
  | none =>
    have hC := h4 rfl
    have hL : L = 0 := by omega
    subst hC; subst hL
    exact .nilsl 1 none (by simp)
  | some a =>
    rcases Nat.eq_zero_or_pos L with h0 | hpos
    · subst h0; exact .esl 1 none a C (by simp)
    · have hc := h5 a rfl
      have hs : a.spot = none := by
        have := hc 0 (by omega)
        rw [add0] at this
        exact cell_spot this
      have key := VR.sl (g := gW w) 1 none a.block a.off C ((zs.take L).map Y) (fun i => [Y (zs.getD i 0)]) (fun k => .int .u8 (zs.getD k 0)) (by omega) (by simp) (by simp; omega) h2 (fun i p hi => ?_) (fun k hk => ?_) (fun i j q hi hq => ?_)
      · have hl : ((zs.take L).map Y).length = L := by simp; omega
        rw [hl, ← addr_eq hs] at key
        exact key
      · rw [List.getElem?_map, Option.map_eq_some_iff] at hi
        obtain ⟨z, hz, rfl⟩ := hi
        have hlt := (List.getElem?_eq_some_iff.1 hz).1
        simp only [List.length_take] at hlt
        rw [List.getElem?_take_of_lt (by omega)] at hz
        exact ⟨by simp [PV.flat, PV.one, List.getD_eq_getElem?_getD, hz], rfl⟩
      · simp only [List.length_map, List.length_take] at hk
        have := hc k (by omega)
        show w.cell? ⟨a.block, a.off + k, none⟩ = _
        rw [← this]
        rw [addr_eq hs, Addr.add_n]
      · have hj : j = 0 := by rcases j with _ | j; rfl; simp at hq
        subst hj
        simp at hq
        subst hq
        simp only [Nat.mul_one, Nat.add_zero]
        exact .val _
theorem wf_u8 {n : Int} (h : (Lit.int .u8 n).wf = true) : 0 ≤ n ∧ n ≤ 255 := by
  simp [Lit.wf] at h
  rw [show IntKind.u8.min = 0 by rfl, show IntKind.u8.max = 255 by rfl] at h
  exact h
section
variable {H : Type} {enc : TypeId × Value → H} {P : Program} {W : World} {held : Bool}
theorem ar_bytes {t e : TypeId} {v : Value} {d : DataW H} {ps : List MemPlace} (ht : P.underlying t = some (.slice e)) (he : P.underlying e = some (.int .u8)) (hc : P.cellsOf e = 1) (hval : ∃ r b, Value.okWide P W r b t v) (h : DataW.Trod enc P W 0 (fun _ => true) held t v d ps) :
    ∃ l : List Int, VR (gW W) v (.sl 1 none (l.map Y)) ∧ l.length ≤ maxLen ∧ ∀ i, i < l.length → 0 ≤ l.getD i 0 ∧ l.getD i 0 ≤ 255 := by
  obtain ⟨r, b, hval⟩ := hval
  obtain ⟨fuel, h⟩ := h
  have key : ∀ cs x, DataW.trod enc P W 0 (fun _ => true) held fuel t cs = some x → ∃ (u : Value) (l : List Int), cs = [u] ∧ VR (gW W) u (.sl 1 none (l.map Y)) ∧ l.length ≤ maxLen ∧ ∀ n ∈ l, (Lit.int .u8 n).wf = true := fun cs x h => by
    rcases open_ints ht he hc h with ⟨rfl, -⟩ | ⟨a, len, cap, zs, rfl, -, hl, hm, hz, -, hcell, hwf⟩
    · exact ⟨_, [], rfl, .nilsl 1 none (by simp), by simp, fun n hn => by simp at hn⟩
    · simp only [if_true] at hz
      refine ⟨_, zs.take len, rfl, vr_rowY hl hm hz (fun h => by cases h) (fun a' ha c hc => ?_), by simp; omega, fun n hn => hwf n (List.mem_of_mem_take hn)⟩
      cases ha
      exact hcell c (by omega)
  obtain ⟨u, l, hcs, h1, h2, h3⟩ := key _ _ h
  have e : v = u := by
    cases v with
    | agg cs => unfold Value.okWide at hval; rw [ht] at hval; simp [Cell.okWide, Cell.ok, ht] at hval
    | tuple cs => unfold Value.okWide at hval; rw [ht] at hval; simp [Cell.okWide, Cell.ok, ht] at hval
    | _ => exact (List.cons.inj hcs).1
  refine ⟨l, e ▸ h1, h2, fun i hi => ?_⟩
  rw [List.getD_eq_getElem?_getD, List.getElem?_eq_getElem hi]
  exact wf_u8 (h3 _ (List.getElem_mem hi))
end
end Go.Pv
