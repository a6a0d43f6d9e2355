/- Walk: the program's IsLatticeMap. -/
import Derived.Test.YtgecikhfkkkghaaC7
namespace Go.Proofs.Ytgecikhfkkkghaa
open Go Go.Pv Go.Proofs
end Go.Proofs.Ytgecikhfkkkghaa
