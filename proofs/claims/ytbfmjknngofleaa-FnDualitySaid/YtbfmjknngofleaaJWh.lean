/- Steps for laws: comparing what is the same. -/
import Derived.Test.YtbfmjknngofleaaJZb
import Derived.Test.YtbfmjknngofleaaJAq
namespace Go.Proofs.Ytbfmjknngofleaa
open Go Go.Pv Go.Proofs

section
attribute [local semireducible] Go.Pv.PStep
theorem ps_neqBS {P : Program} {o : Oper} {ev : Operand → PV} {hp : List HO} {t rt : TypeId} [ht : BoolT P t] {x y : Operand} {a : Bool} (ho : o.op = .binOp .neq t x y rt) (h1 : ev x = B a) (h2 : ev y = B a) : PStep P o ev hp (B false) := by
  have := ps_neqB (P := P) (hp := hp) (ht := ht) ho h1 h2
  rwa [show (a != a) = false by cases a <;> rfl] at this
theorem ps_eqlBS {P : Program} {o : Oper} {ev : Operand → PV} {hp : List HO} {t rt : TypeId} [ht : BoolT P t] {x y : Operand} {a : Bool} (ho : o.op = .binOp .eql t x y rt) (h1 : ev x = B a) (h2 : ev y = B a) : PStep P o ev hp (B true) := by
  have := ps_eqlB (P := P) (hp := hp) (ht := ht) ho h1 h2
  rwa [show (a == a) = true by cases a <;> rfl] at this
end
end Go.Proofs.Ytbfmjknngofleaa
