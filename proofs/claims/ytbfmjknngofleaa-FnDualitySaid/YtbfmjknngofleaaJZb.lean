/- The layer, more: branches that meet again. -/
import Derived.Test.YtbfmjknngofleaaJZa
namespace Go.Pv
open Go
attribute [local semireducible] Go.Pv.Goal
section
variable {P : Program} {K : Exit → St → Prop} {S : St}
def KJoin (S1 : St) (K : Exit → St → Prop) : Exit → St → Prop
  | .normal, S => S.le S1
  | e, S => K e S
theorem g_joinS {x y : Code} (S1 : St) (hx : Goal P x (KJoin S1 K) S) (hy : Goal P y K S1) : Goal P (x.seq y) K S := by
  refine g_seq ?_
  unfold Goal at hx ⊢
  intro w0 g ρ a w Q hr hQ
  refine hx w0 g ρ a w Q hr fun e S' g' ρ' a' w' hk hr' => ?_
  cases e with
  | normal => exact hQ .normal S1 g' ρ' a' w' hy (hr'.weaken hk)
  | _ => exact hQ _ S' g' ρ' a' w' hk hr'
/-- Both ends of a branch come to one state: what it writes is forgotten, but for vals; the objects are hps. -/
theorem g_join {x y : Code} (fg : List Nat) (vals : List (Nat × PV)) (hps : List HO) {fr0 : List PV} (hfr : havoc (fg ++ dsts x) S.fr = fr0) (hx : Goal P x (KJoin ⟨setMany fr0 vals, hps⟩ K) S) (hy : ∃ S1, St.mk (setMany fr0 vals) hps = S1 ∧ Goal P y K S1) : Goal P (x.seq y) K S := by
  obtain ⟨S1, rfl, hy⟩ := hy
  exact g_joinS _ hx hy
/-- .. where what follows is already set apart. -/
theorem g_joinK {x y : Code} (fg : List Nat) (vals : List (Nat × PV)) (hps : List HO) {fr0 : List PV} (hfr : havoc (fg ++ dsts x) S.fr = fr0) (hx : Goal P x (KJoin ⟨setMany fr0 vals, hps⟩ K) S) (hy : ∃ S1, St.mk (setMany fr0 vals) hps = S1 ∧ Goal P y K S1) : Goal P x (KSeq P y K) S := by
  obtain ⟨S1, rfl, hy⟩ := hy
  unfold Goal at hx hy ⊢
  intro w0 g ρ a w Q hr hQ
  refine hx w0 g ρ a w Q hr fun e S' g' ρ' a' w' hk hr' => ?_
  cases e with
  | normal => exact hQ .normal _ g' ρ' a' w' (by unfold KSeq; unfold Goal; exact hy) (hr'.weaken hk)
  | _ => exact hQ _ S' g' ρ' a' w' hk hr'
theorem k_join {fr0 : List PV} {vals : List (Nat × PV)} {hps : List HO} (hf : frLe S.fr fr0) (hv : valsOk S.fr vals) (hh : hpLe S.hp hps) : KJoin ⟨setMany fr0 vals, hps⟩ K .normal S := ⟨frLe_setMany hf hv, hh⟩
theorem at_reg {x y : Code} {ops : Array Oper} {dr : Bool} (id : Nat) (h : Goal P (((Code.region id ops dr).seq x).seq y) K S) : Goal P (((Code.region id ops dr).seq x).seq y) K S := h
theorem k_joinL {S1 : St} {fr0 : List PV} {vals : List (Nat × PV)} {hps : List HO} (hf : frLe S1.fr fr0) (hv : valsOk S1.fr vals) (hh : hpLe S1.hp hps) : St.le S1 ⟨setMany fr0 vals, hps⟩ := ⟨frLe_setMany hf hv, hh⟩
end
end Go.Pv
