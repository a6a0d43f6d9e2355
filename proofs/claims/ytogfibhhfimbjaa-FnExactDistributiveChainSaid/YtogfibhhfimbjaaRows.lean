/-
  No cell of these rows narrows 'for every input' (looked for: loops, veiled, ifaces, maps, wideKeys, modest, calm, conditions, laid).
  DERIVED. THE GIVEN ROWS OF THIS SEAT. 4 by the template 'for every input the law returns true; each argument reads behind the call as it read before'; 0 by the template 'total and deterministic' (their statements: YtogfibhhfimbjaaTotals.lean).
  GIVEN WITH THE SEED: the statements are not yours to turn. If you find one false, say at which input.
  Laid BY PROGRAM, IN A SANDBOX (cutbox-rows.mjs): the forced cells as the released guide's own fill.sh prints them over the translation 43af4093fa1d1497… (all of the seat's roots in one cut). By AI agents, Wed Nov 11 2026. No macro, syntax, notation, axiom, sorry.
-/
import Derived.Test.YtogfibhhfimbjaaChecked
import GoSem.Claim
import GoSem.ClaimJoined
import GoSem.ClaimMapViews
import Derived.JoinedTies
import Derived.KernelRfl
namespace Go.Proofs.Ytogfibhhfimbjaa
/- THE CELL 'sum', in the pinned program and in every row, IS THE sha256 OF THE DUMP (.gsa) THAT YtogfibhhfimbjaaProg.lean LOADS. Nothing in Lean hashes anything: it is a label: what it is worth is what the hold of that sum in a sandbox is worth. -/
noncomputable def Try.pinned : Pinned := { name := "ytogfibhhfimbjaa", sum := "43af4093fa1d1497154a42c7e000522d799ccdd7593c5ae8748ff8071cb2da31", checked := Try.checked }
namespace Rows
def none {H : Type} : Left H := { results := [], args := [] }

/-- 'laws.FnExactIsDistributiveChain': WHATEVER THE INPUT: true; the input reads as it did. -/
def fnExactIsDistributiveChainSpec : ChangeSpec := { name := "fnExactIsDistributiveChain", fn := fun _ => fun
  | [d1, d2] => { results := [.lit (.bool true)], args := [d1, d2] }
  | _ => none }
def fnExactIsDistributiveChainRow : OpenClaim := { program := "ytogfibhhfimbjaa", sum := "43af4093fa1d1497154a42c7e000522d799ccdd7593c5ae8748ff8071cb2da31", func := "loop.example/g01078/laws.FnExactIsDistributiveChain", spec := "fnExactIsDistributiveChain", unfollowed := true, recurses := true, apart := false }
def FnExactIsDistributiveChainSaid : Prop := fnExactIsDistributiveChainRow.holds Try.pinned (OpenSpec.ofChange fnExactIsDistributiveChainSpec)

/-- ITS FALSE NEIGHBOUR: 'it returns false'. Refute it at one input. -/
def fnExactIsDistributiveChainWrong : ChangeSpec := { name := "fnExactIsDistributiveChain", fn := fun _ => fun
  | [d1, d2] => { results := [.lit (.bool false)], args := [d1, d2] }
  | _ => none }
def FnExactIsDistributiveChainWrongFalsely : Prop := fnExactIsDistributiveChainRow.holds Try.pinned (OpenSpec.ofChange fnExactIsDistributiveChainWrong)

/-- 'laws.FnExactReachableTerms': WHATEVER THE INPUT: true; the input reads as it did. -/
def fnExactReachableTermsSpec : ChangeSpec := { name := "fnExactReachableTerms", fn := fun _ => fun
  | [d] => { results := [.lit (.bool true)], args := [d] }
  | _ => none }
def fnExactReachableTermsRow : OpenClaim := { program := "ytogfibhhfimbjaa", sum := "43af4093fa1d1497154a42c7e000522d799ccdd7593c5ae8748ff8071cb2da31", func := "loop.example/g01078/laws.FnExactReachableTerms", spec := "fnExactReachableTerms", unfollowed := true, recurses := true, apart := false }
def FnExactReachableTermsSaid : Prop := fnExactReachableTermsRow.holds Try.pinned (OpenSpec.ofChange fnExactReachableTermsSpec)

/-- ITS FALSE NEIGHBOUR: 'it returns false'. Refute it at one input. -/
def fnExactReachableTermsWrong : ChangeSpec := { name := "fnExactReachableTerms", fn := fun _ => fun
  | [d] => { results := [.lit (.bool false)], args := [d] }
  | _ => none }
def FnExactReachableTermsWrongFalsely : Prop := fnExactReachableTermsRow.holds Try.pinned (OpenSpec.ofChange fnExactReachableTermsWrong)

/-- 'laws.FnExactChainLengths': WHATEVER THE INPUT: true; the input reads as it did. -/
def fnExactChainLengthsSpec : ChangeSpec := { name := "fnExactChainLengths", fn := fun _ => fun
  | [d] => { results := [.lit (.bool true)], args := [d] }
  | _ => none }
def fnExactChainLengthsRow : OpenClaim := { program := "ytogfibhhfimbjaa", sum := "43af4093fa1d1497154a42c7e000522d799ccdd7593c5ae8748ff8071cb2da31", func := "loop.example/g01078/laws.FnExactChainLengths", spec := "fnExactChainLengths", unfollowed := true, recurses := true, apart := false }
def FnExactChainLengthsSaid : Prop := fnExactChainLengthsRow.holds Try.pinned (OpenSpec.ofChange fnExactChainLengthsSpec)

/-- ITS FALSE NEIGHBOUR: 'it returns false'. Refute it at one input. -/
def fnExactChainLengthsWrong : ChangeSpec := { name := "fnExactChainLengths", fn := fun _ => fun
  | [d] => { results := [.lit (.bool false)], args := [d] }
  | _ => none }
def FnExactChainLengthsWrongFalsely : Prop := fnExactChainLengthsRow.holds Try.pinned (OpenSpec.ofChange fnExactChainLengthsWrong)

/-- 'laws.FnExactDistributiveChain': WHATEVER THE INPUT: true; the input reads as it did. -/
def fnExactDistributiveChainSpec : ChangeSpec := { name := "fnExactDistributiveChain", fn := fun _ => fun
  | [d] => { results := [.lit (.bool true)], args := [d] }
  | _ => none }
def fnExactDistributiveChainRow : OpenClaim := { program := "ytogfibhhfimbjaa", sum := "43af4093fa1d1497154a42c7e000522d799ccdd7593c5ae8748ff8071cb2da31", func := "loop.example/g01078/laws.FnExactDistributiveChain", spec := "fnExactDistributiveChain", unfollowed := true, recurses := true, apart := false }
def FnExactDistributiveChainSaid : Prop := fnExactDistributiveChainRow.holds Try.pinned (OpenSpec.ofChange fnExactDistributiveChainSpec)

/-- ITS FALSE NEIGHBOUR: 'it returns false'. Refute it at one input. -/
def fnExactDistributiveChainWrong : ChangeSpec := { name := "fnExactDistributiveChain", fn := fun _ => fun
  | [d] => { results := [.lit (.bool false)], args := [d] }
  | _ => none }
def FnExactDistributiveChainWrongFalsely : Prop := fnExactDistributiveChainRow.holds Try.pinned (OpenSpec.ofChange fnExactDistributiveChainWrong)

/- THE SECOND FORM. 'bulk': how many values and letters a reading holds, each counted each time it is reached (what is shared counts as often as it is met; a slice's spare places count too). A statement '..UptoSaid' is the law's where the arguments, and the package variables that the reading takes, are together of bulk at most 1048576: NARROWER than '..Said'. Prove '..Said' where nothing that the law and all that it calls make is longer than what came in: it says more and counts as full. Else prove '..UptoSaid'. A law counts once. -/
mutual
def uptoBulk {H : Type} : DataW H → Nat
  | .lit (.string bytes) => bytes.length + 1
  | .lit _ => 1
  | .nil => 1
  | .ptr d => uptoBulk d + 1
  | .slice elems spare => uptoBulkAll elems + uptoBulkAll spare + 1
  | .agg parts => uptoBulkAll parts + 1
  | .iface _ d => uptoBulk d + 1
  | .map entries => uptoBulkEntries entries + 1
  | .held _ => 1
def uptoBulkAll {H : Type} : List (DataW H) → Nat
  | [] => 0
  | d :: r => uptoBulk d + uptoBulkAll r
def uptoBulkEntries {H : Type} : List (Lit × DataW H) → Nat
  | [] => 0
  | x :: r => uptoBulkEntry x + uptoBulkEntries r
def uptoBulkEntry {H : Type} : Lit × DataW H → Nat
  | (.string bytes, d) => bytes.length + uptoBulk d + 1
  | (_, d) => uptoBulk d + 1
 end
def uptoSmall : (H : Type) → List (DataW H) → Bool := fun _ ds => decide (uptoBulkAll ds ≤ 1048576)
def OpenSpec.upto (s : _root_.Go.ChangeSpec) : _root_.Go.OpenSpec := { _root_.Go.OpenSpec.ofChange s with cond := some uptoSmall }

/-- 'laws.FnExactIsDistributiveChain', WHERE WHAT IT READS IS OF BULK AT MOST 1048576: true; the input reads as it did. -/
def fnExactIsDistributiveChainUptoRow : OpenClaim := { program := "ytogfibhhfimbjaa", sum := "43af4093fa1d1497154a42c7e000522d799ccdd7593c5ae8748ff8071cb2da31", func := "loop.example/g01078/laws.FnExactIsDistributiveChain", spec := "fnExactIsDistributiveChain", unfollowed := true, recurses := true, apart := false, narrowed := true }
def FnExactIsDistributiveChainUptoSaid : Prop := fnExactIsDistributiveChainUptoRow.holds Try.pinned (OpenSpec.upto fnExactIsDistributiveChainSpec)

/-- 'laws.FnExactReachableTerms', WHERE WHAT IT READS IS OF BULK AT MOST 1048576: true; the input reads as it did. -/
def fnExactReachableTermsUptoRow : OpenClaim := { program := "ytogfibhhfimbjaa", sum := "43af4093fa1d1497154a42c7e000522d799ccdd7593c5ae8748ff8071cb2da31", func := "loop.example/g01078/laws.FnExactReachableTerms", spec := "fnExactReachableTerms", unfollowed := true, recurses := true, apart := false, narrowed := true }
def FnExactReachableTermsUptoSaid : Prop := fnExactReachableTermsUptoRow.holds Try.pinned (OpenSpec.upto fnExactReachableTermsSpec)

/-- 'laws.FnExactChainLengths', WHERE WHAT IT READS IS OF BULK AT MOST 1048576: true; the input reads as it did. -/
def fnExactChainLengthsUptoRow : OpenClaim := { program := "ytogfibhhfimbjaa", sum := "43af4093fa1d1497154a42c7e000522d799ccdd7593c5ae8748ff8071cb2da31", func := "loop.example/g01078/laws.FnExactChainLengths", spec := "fnExactChainLengths", unfollowed := true, recurses := true, apart := false, narrowed := true }
def FnExactChainLengthsUptoSaid : Prop := fnExactChainLengthsUptoRow.holds Try.pinned (OpenSpec.upto fnExactChainLengthsSpec)

/-- 'laws.FnExactDistributiveChain', WHERE WHAT IT READS IS OF BULK AT MOST 1048576: true; the input reads as it did. -/
def fnExactDistributiveChainUptoRow : OpenClaim := { program := "ytogfibhhfimbjaa", sum := "43af4093fa1d1497154a42c7e000522d799ccdd7593c5ae8748ff8071cb2da31", func := "loop.example/g01078/laws.FnExactDistributiveChain", spec := "fnExactDistributiveChain", unfollowed := true, recurses := true, apart := false, narrowed := true }
def FnExactDistributiveChainUptoSaid : Prop := fnExactDistributiveChainUptoRow.holds Try.pinned (OpenSpec.upto fnExactDistributiveChainSpec)

end Rows
end Go.Proofs.Ytogfibhhfimbjaa
