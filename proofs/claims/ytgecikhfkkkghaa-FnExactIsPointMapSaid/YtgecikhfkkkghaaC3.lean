/- Walks: the program's complements. -/
import Derived.Test.YtgecikhfkkkghaaC1
import Derived.Test.YtgecikhfkkkghaaSp11
namespace Go.Proofs.Ytgecikhfkkkghaa
open Go Go.Pv Go.Proofs
end Go.Proofs.Ytgecikhfkkkghaa
