/- Steps for laws: comparing what is the same. -/
import Derived.Test.YtbfmjknngofleaaGreatLZb
import Derived.Test.YtbfmjknngofleaaGreatLAq
namespace Go.Proofs.YtbfmjknngofleaaGreat
open Go Go.Pv Go.Proofs

section
attribute [local semireducible] Go.Pv.PStep
theorem ps_neqBS {P : Program} {o : Oper} {ev : Operand → PV} {hp : List HO} {t rt : TypeId} [ht : BoolT P t] {x y : Operand} {a : Bool} (ho : o.op = .binOp .neq t x y rt) (h1 : ev x = B a) (h2 : ev y = B a) : PStep P o ev hp (B false) := by
  have := ps_neqB (P := P) (hp := hp) (ht := ht) ho h1 h2
  rwa [show (a != a) = false by cases a <;> rfl] at this
theorem ps_neqS {P : Program} {o : Oper} {ev : Operand → PV} {hp : List HO} {t rt : TypeId} {x y : Operand} {a : Int} {k : IntKind} (ho : o.op = .binOp .neq t x y rt) (h1 : ev x = .val (.int k a)) (h2 : ev y = .val (.int k a)) : PStep P o ev hp (B false) := by
  have := ps_neq (P := P) (hp := hp) ho h1 h2
  rwa [decide_eq_true rfl, Bool.not_true] at this
end
theorem viewT_grid (rows : List (List Int)) (b : Bool) : viewM [gridI rows] (.tup [.hp 0, B b]) = .tup [intss rows, B b] := by
  simp only [viewM, viewN, viewV, List.map_cons, List.map_nil, List.getElem?_cons_zero, gridI, List.map_map]; rfl
end Go.Proofs.YtbfmjknngofleaaGreat
