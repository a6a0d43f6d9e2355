/- The reference's search for the shortest chain, plain. -/
import Derived.Test.YtogfibhhfimbjaaRGs
import Derived.Test.YtogfibhhfimbjaaRNe
namespace Go.Proofs.Ytogfibhhfimbjaa
open Go Go.Pv Go.Proofs

section
variable (N : Nat) (to : Nat → Bool) (may : Nat → Nat → Nat → Bool)
/-- The least number of further members, so far. -/
def fr : Nat → Nat → Nat → Int
  | 0, _, f => bif to f then 0 else -1
  | d + 1, i, f => bif decide (0 ≤ fr d i f) then fr d i f else bif (List.range N).any (fun g => may i f g && decide (fr d (1 - i) g = (d : Int))) then (d : Int) + 1 else -1
end
end Go.Proofs.Ytogfibhhfimbjaa
