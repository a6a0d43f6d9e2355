/- Walks: the drawn arguments of the laws over lattices. -/
import Derived.Test.YtbfmjknngofleaaJWb
namespace Go.Proofs.Ytbfmjknngofleaa
open Go Go.Pv Go.Proofs

structure bytesOk (l : List Int) : Prop where
  len : l.length ≤ 65536
  byte : ∀ i, i < l.length → 0 ≤ l.getD i 0 ∧ l.getD i 0 ≤ 255
abbrev cu0 (l : List Int) : Cu := ⟨l, 0, 0⟩
theorem cu0_ok {l : List Int} (h : bytesOk l) : (cu0 l).ok 0 := ⟨h.len, h.byte, Int.le_refl _, Int.le_refl _, Int.le_refl _⟩
end Go.Proofs.Ytbfmjknngofleaa
