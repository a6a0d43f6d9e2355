/-
  No cell of these rows narrows 'for every input' (looked for: loops, veiled, ifaces, maps, wideKeys, modest, calm, conditions, laid).
  DERIVED. THE GIVEN ROWS OF THIS SEAT. 2 by the template 'for every input the law returns true; each argument reads behind the call as it read before'; 0 by the template 'total and deterministic' (their statements: YtkdagmbgjddopaaTotals.lean).
  GIVEN WITH THE SEED: the statements are not yours to turn. If you find one false, say at which input.
  Laid BY PROGRAM, IN A SANDBOX (cutbox-rows.mjs): the forced cells as the released guide's own fill.sh prints them over the translation 55d896fee7a6d52b… (all of the seat's roots in one cut). By AI agents, Wed Nov 11 2026. No macro, syntax, notation, axiom, sorry.
-/
import Derived.Test.YtkdagmbgjddopaaChecked
import GoSem.Claim
import GoSem.ClaimJoined
import GoSem.ClaimMapViews
import Derived.JoinedTies
import Derived.KernelRfl
namespace Go.Proofs.Ytkdagmbgjddopaa
/- THE CELL 'sum', in the pinned program and in every row, IS THE sha256 OF THE DUMP (.gsa) THAT YtkdagmbgjddopaaProg.lean LOADS. Nothing in Lean hashes anything: it is a label: what it is worth is what the hold of that sum in a sandbox is worth. -/
noncomputable def Try.pinned : Pinned := { name := "ytkdagmbgjddopaa", sum := "55d896fee7a6d52beb04f3985fd5f1e6f9d6a9d43ed6ac84b44e53258fdda69e", checked := Try.checked }
namespace Rows
def none {H : Type} : Left H := { results := [], args := [] }

/-- 'laws.FnMalcevChains': WHATEVER THE INPUT: true; the input reads as it did. -/
def fnMalcevChainsSpec : ChangeSpec := { name := "fnMalcevChains", fn := fun _ => fun
  | [d] => { results := [.lit (.bool true)], args := [d] }
  | _ => none }
def fnMalcevChainsRow : OpenClaim := { program := "ytkdagmbgjddopaa", sum := "55d896fee7a6d52beb04f3985fd5f1e6f9d6a9d43ed6ac84b44e53258fdda69e", func := "loop.example/g01078/laws.FnMalcevChains", spec := "fnMalcevChains", inPlace := ["internal/reflectlite.ValueOf", "internal/reflectlite.Swapper", "(internal/reflectlite.Value).Len"], unfollowed := true, recurses := true, apart := false }
def FnMalcevChainsSaid : Prop := fnMalcevChainsRow.holds Try.pinned (OpenSpec.ofChange fnMalcevChainsSpec)

/-- ITS FALSE NEIGHBOUR: 'it returns false'. Refute it at one input. -/
def fnMalcevChainsWrong : ChangeSpec := { name := "fnMalcevChains", fn := fun _ => fun
  | [d] => { results := [.lit (.bool false)], args := [d] }
  | _ => none }
def FnMalcevChainsWrongFalsely : Prop := fnMalcevChainsRow.holds Try.pinned (OpenSpec.ofChange fnMalcevChainsWrong)

/-- 'laws.FnTogether': WHATEVER THE INPUT: true; the input reads as it did. -/
def fnTogetherSpec : ChangeSpec := { name := "fnTogether", fn := fun _ => fun
  | [d] => { results := [.lit (.bool true)], args := [d] }
  | _ => none }
def fnTogetherRow : OpenClaim := { program := "ytkdagmbgjddopaa", sum := "55d896fee7a6d52beb04f3985fd5f1e6f9d6a9d43ed6ac84b44e53258fdda69e", func := "loop.example/g01078/laws.FnTogether", spec := "fnTogether", inPlace := ["internal/reflectlite.ValueOf", "internal/reflectlite.Swapper", "(internal/reflectlite.Value).Len"], unfollowed := true, recurses := true, apart := false }
def FnTogetherSaid : Prop := fnTogetherRow.holds Try.pinned (OpenSpec.ofChange fnTogetherSpec)

/-- ITS FALSE NEIGHBOUR: 'it returns false'. Refute it at one input. -/
def fnTogetherWrong : ChangeSpec := { name := "fnTogether", fn := fun _ => fun
  | [d] => { results := [.lit (.bool false)], args := [d] }
  | _ => none }
def FnTogetherWrongFalsely : Prop := fnTogetherRow.holds Try.pinned (OpenSpec.ofChange fnTogetherWrong)

/- THE SECOND FORM. 'bulk': how many values and letters a reading holds, each counted each time it is reached (what is shared counts as often as it is met; a slice's spare places count too). A statement '..UptoSaid' is the law's where the arguments, and the package variables that the reading takes, are together of bulk at most 1048576: NARROWER than '..Said'. Prove '..Said' where nothing that the law and all that it calls make is longer than what came in: it says more and counts as full. Else prove '..UptoSaid'. A law counts once. -/
mutual
def uptoBulk {H : Type} : DataW H → Nat
  | .lit (.string bytes) => bytes.length + 1
  | .lit _ => 1
  | .nil => 1
  | .ptr d => uptoBulk d + 1
  | .slice elems spare => uptoBulkAll elems + uptoBulkAll spare + 1
  | .agg parts => uptoBulkAll parts + 1
  | .iface _ d => uptoBulk d + 1
  | .map entries => uptoBulkEntries entries + 1
  | .held _ => 1
def uptoBulkAll {H : Type} : List (DataW H) → Nat
  | [] => 0
  | d :: r => uptoBulk d + uptoBulkAll r
def uptoBulkEntries {H : Type} : List (Lit × DataW H) → Nat
  | [] => 0
  | x :: r => uptoBulkEntry x + uptoBulkEntries r
def uptoBulkEntry {H : Type} : Lit × DataW H → Nat
  | (.string bytes, d) => bytes.length + uptoBulk d + 1
  | (_, d) => uptoBulk d + 1
 end
def uptoSmall : (H : Type) → List (DataW H) → Bool := fun _ ds => decide (uptoBulkAll ds ≤ 1048576)
def OpenSpec.upto (s : _root_.Go.ChangeSpec) : _root_.Go.OpenSpec := { _root_.Go.OpenSpec.ofChange s with cond := some uptoSmall }

/-- 'laws.FnMalcevChains', WHERE WHAT IT READS IS OF BULK AT MOST 1048576: true; the input reads as it did. -/
def fnMalcevChainsUptoRow : OpenClaim := { program := "ytkdagmbgjddopaa", sum := "55d896fee7a6d52beb04f3985fd5f1e6f9d6a9d43ed6ac84b44e53258fdda69e", func := "loop.example/g01078/laws.FnMalcevChains", spec := "fnMalcevChains", inPlace := ["internal/reflectlite.ValueOf", "internal/reflectlite.Swapper", "(internal/reflectlite.Value).Len"], unfollowed := true, recurses := true, apart := false, narrowed := true }
def FnMalcevChainsUptoSaid : Prop := fnMalcevChainsUptoRow.holds Try.pinned (OpenSpec.upto fnMalcevChainsSpec)

/-- 'laws.FnTogether', WHERE WHAT IT READS IS OF BULK AT MOST 1048576: true; the input reads as it did. -/
def fnTogetherUptoRow : OpenClaim := { program := "ytkdagmbgjddopaa", sum := "55d896fee7a6d52beb04f3985fd5f1e6f9d6a9d43ed6ac84b44e53258fdda69e", func := "loop.example/g01078/laws.FnTogether", spec := "fnTogether", inPlace := ["internal/reflectlite.ValueOf", "internal/reflectlite.Swapper", "(internal/reflectlite.Value).Len"], unfollowed := true, recurses := true, apart := false, narrowed := true }
def FnTogetherUptoSaid : Prop := fnTogetherUptoRow.holds Try.pinned (OpenSpec.upto fnTogetherSpec)

end Rows
end Go.Proofs.Ytkdagmbgjddopaa
