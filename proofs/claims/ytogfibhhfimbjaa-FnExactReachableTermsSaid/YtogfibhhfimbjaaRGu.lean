/- Walks: the reference's search for the shortest chain. -/
import Derived.Test.YtogfibhhfimbjaaRGt
import Derived.Test.YtogfibhhfimbjaaRGl
import Derived.Test.YtogfibhhfimbjaaRNc
namespace Go.Proofs.Ytogfibhhfimbjaa
open Go Go.Pv Go.Proofs

def r0 (to : Nat → Bool) (f : Nat) : Int := bif to f then 0 else -1
end Go.Proofs.Ytogfibhhfimbjaa
