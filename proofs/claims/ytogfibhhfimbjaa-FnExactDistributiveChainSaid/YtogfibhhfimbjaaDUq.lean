/- The layer, more: unsigned words, bytes, conversions, literals of numbers. -/
import Derived.Test.YtogfibhhfimbjaaDPq
namespace Go.Pv
open Go
attribute [local semireducible] Go.Pv.PStep Go.Pv.EStep

abbrev U (z : Int) : PV := .val (.int .u64 z)
abbrev Y (z : Int) : PV := .val (.int .u8 z)
section
variable {P : Program} {o : Oper} {ev : Operand → PV} {hp : List HO}
theorem ps_rem {t rt : TypeId} {x y : Operand} {a b : Int} (ho : o.op = .binOp .rem t x y rt) (h1 : ev x = I a) (h2 : ev y = I b) (h0 : 0 ≤ a) (hb : 0 < b) : PStep P o ev hp (I (a % b)) :=
  ps_bin ho h1 h2 fun w => by
    simp only [eqGuard_rem, binOp_rem, Op.intDiv, if_neg (show ¬ b = 0 by omega), IntWalk.rem_in a b h0]; rfl
theorem ps_conv {src dst : TypeId} {x : Operand} {k k' : IntKind} {n : Int} (hs : (P.underlying src).isSome = true) (hd : P.underlying dst = some (.int k')) (ho : o.op = .convert src dst x) (h1 : ev x = .val (.int k n)) : PStep P o ev hp (.val (.int k' (k'.wrap n))) :=
  .of_run fun w0 g ρ w av hb hx => by
    have e1 := val_of (hx x (by simp [ho, Op.operands])) h1
    have hk : P.intKind dst = k' := by simp [Program.intKind, hd]
    refine ⟨.int k' (k'.wrap n), ?_, .val _⟩
    simp only [execOp, ho, e1]
    refine run_value ?_
    have := run_convert_int (P := P) w src dst k n hs (by rw [hk]; exact hd)
    rwa [hk] at this
end
end Go.Pv
