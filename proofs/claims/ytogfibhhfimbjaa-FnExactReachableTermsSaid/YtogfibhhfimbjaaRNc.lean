/- The layer: an owned block of cells that is reached by a slice: its cells may name other objects. -/
import Derived.Test.YtogfibhhfimbjaaRNb
namespace Go.Pv
open Go
attribute [local semireducible] Go.Pv.Goal Go.Pv.Ops Go.Pv.PStep Go.Pv.EStep Go.Pv.KRets Go.Pv.PCalls Go.Pv.OpsG
section
variable {P : Program} {o : Oper} {S : St} {ev : Operand → PV} {hp : List HO}
theorem VRS.box_new (g : Ghost) (ρ : Nat → Loc) (hp : List HO) (l : List PV) (L : Loc) : VRS g (upd ρ hp.length L) (killH hp.length hp ++ [.box l]) (.slice (some ⟨L.blk, 0, none⟩) l.length L.cap) (.hp hp.length) := by
  have hg : (killH hp.length hp ++ [HO.box l])[hp.length]? = some (.box l) := by
    rw [List.getElem?_append_right (by simp [killH])]; simp [killH]
  refine ⟨⟨_, _, _, rfl⟩, fun m s' e' l' hid => ?_, fun e1 e2 rows hid => ?_, fun e1 e2 n rows hid => ?_, fun l' hid => ?_, fun e1 e2 n rows hid => ?_⟩
  · rw [hg] at hid; cases hid
  · rw [hg] at hid; cases hid
  · rw [hg] at hid; cases hid
  · rw [hg] at hid; cases hid; rw [upd_same]
  · rw [hg] at hid; cases hid
theorem ps_index_box {t e : TypeId} {by_ : Nat} [ht : SlT P t e 1 by_] {x ix : Operand} {l : List PV} {i : Int} {id : Nat} (ho : o.op = .indexAddr t x ix) (h1 : ev x = .hp id)
    (hh : hp[id]? = some (.box l)) (h2 : ev ix = I i) (h0 : 0 ≤ i) (hq : i.toNat < l.length) : PStep P o ev hp (.hat id i.toNat) :=
  .of_run fun w0 g ρ w av hb hx => by
    have e1 := hx x (by simp [ho, Op.operands])
    have e2 := val_of (hx ix (by simp [ho, Op.operands])) h2
    rw [h1] at e1
    have ea := HpV.box e1 _ hh
    refine ⟨.pointer (some ⟨(ρ id).blk, i.toNat, none⟩), ?_, rfl⟩
    have hi : i < (l.length : Int) := by omega
    simp [execOp, ho, ea, e2, Instr.indexAt, asIntOf, run_underlying ht.hu, ht.hs, h0, hi, Addr.add_n, go_sem]
end
end Go.Pv
