/- Walks: the reference's lists of lattice elements. -/
import Derived.Test.YtgecikhfkkkghaaA7
import Derived.Test.YtgecikhfkkkghaaSp13
namespace Go.Proofs.Ytgecikhfkkkghaa
open Go Go.Pv Go.Proofs
end Go.Proofs.Ytgecikhfkkkghaa
