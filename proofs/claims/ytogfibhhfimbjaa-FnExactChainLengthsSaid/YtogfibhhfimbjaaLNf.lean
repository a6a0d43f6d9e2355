/- The layer: an empty literal under a number that is told beforehand. -/
import Derived.Test.YtogfibhhfimbjaaLNd
namespace Go.Pv
open Go
attribute [local semireducible] Go.Pv.Goal Go.Pv.Ops Go.Pv.PStep Go.Pv.EStep Go.Pv.KRets Go.Pv.PCalls Go.Pv.OpsG
section
variable {P : Program} {o : Oper}
theorem l_lit0T {t e : TypeId} {s by_ : Nat} [ht : SlT P t e s by_] {zs : List Value} [hz : ZeroT P e zs] {ev : Operand → PV} (m : Nat) (ho : o.op = .buildSlice t 0 #[]) (hs : 0 < s) : LStep P o ev m (.arr true s e []) (.hp m) :=
  .of_new fun w0 S g ρ a w hr hy Q K hK => by
    obtain ⟨cells, r1, r2, -⟩ := run_buildSlice ht hz 0 [] rfl (fun v hv => by simp at hv) hs (by omega) #[] rfl w
    have hgn : ∀ k, g w.heap.size k = none := fun k => by
      cases hk : g w.heap.size k with
      | none => rfl
      | some v => exact absurd (hr.base.agree.lt hk) (Nat.lt_irrefl _)
    unfold Oper.wp
    have e1 : (#[] : Array (Nat × Operand)).map (fun p => (p.1, a.eval p.2)) = #[] := by simp
    simp only [execOp, ho]
    rw [e1, run_value r1]
    refine hK _ _ ⟨w.heap.size, 0, fun _ => 0, fun _ => 0⟩ ((RowKit.Below.refl _ _).alloc (Nat.le_refl _) _) (fun ρ' hp' => ⟨cells, fun _ => [], ⟨hs, Ini.own_new hr.base.below.size, by simp, by simp [maxLen], heap_alloc_new w _, by simpa using r2, fun k p hk => by simp at hk, fun k j q hk hq => by simp at hk, fun k => by simp [hgn k]⟩⟩) (fun b hb => by simp only [foot] at hb; omega) (fun hp' hat => ?_)
    refine VRS.of_one ?_
    refine (⟨⟨_, _, _, rfl⟩, fun m' s' e' l' hid => ?_, fun e1 e2 rows hid => ?_, fun e1 e2 n rows hid => ?_, fun l' hid => ?_⟩ : HpV _ _ _ _)
    · rw [hat] at hid; cases hid; rw [upd_same]; rfl
    · rw [hat] at hid; cases hid
    · rw [hat] at hid; cases hid
    · rw [hat] at hid; cases hid
end
end Go.Pv
