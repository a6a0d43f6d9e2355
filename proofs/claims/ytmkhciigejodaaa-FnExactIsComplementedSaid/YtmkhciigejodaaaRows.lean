/-
  No cell of these rows narrows 'for every input' (looked for: loops, veiled, ifaces, maps, wideKeys, modest, calm, conditions, laid).
  DERIVED. THE GIVEN ROWS OF THIS SEAT. 7 by the template 'for every input the law returns true; each argument reads behind the call as it read before'; 0 by the template 'total and deterministic' (their statements: YtmkhciigejodaaaTotals.lean).
  GIVEN WITH THE SEED: the statements are not yours to turn. If you find one false, say at which input.
  Laid BY PROGRAM, IN A SANDBOX (cutbox-rows.mjs): the forced cells as the released guide's own fill.sh prints them over the translation a3986ab2df647315… (all of the seat's roots in one cut). By AI agents, Wed Nov 11 2026. No macro, syntax, notation, axiom, sorry.
-/
import Derived.Test.YtmkhciigejodaaaChecked
import GoSem.Claim
import GoSem.ClaimJoined
import GoSem.ClaimMapViews
import Derived.JoinedTies
import Derived.KernelRfl
namespace Go.Proofs.Ytmkhciigejodaaa
/- THE CELL 'sum', in the pinned program and in every row, IS THE sha256 OF THE DUMP (.gsa) THAT YtmkhciigejodaaaProg.lean LOADS. Nothing in Lean hashes anything: it is a label: what it is worth is what the hold of that sum in a sandbox is worth. -/
noncomputable def Try.pinned : Pinned := { name := "ytmkhciigejodaaa", sum := "a3986ab2df64731521079604bc20157ed2dae2824b4cd33b3f221b476ea38140", checked := Try.checked }
namespace Rows
def none {H : Type} : Left H := { results := [], args := [] }

/-- 'laws.FnExactFreeLatticeSize': WHATEVER THE INPUT: true; the input reads as it did. -/
def fnExactFreeLatticeSizeSpec : ChangeSpec := { name := "fnExactFreeLatticeSize", fn := fun _ => fun
  | [d] => { results := [.lit (.bool true)], args := [d] }
  | _ => none }
def fnExactFreeLatticeSizeRow : OpenClaim := { program := "ytmkhciigejodaaa", sum := "a3986ab2df64731521079604bc20157ed2dae2824b4cd33b3f221b476ea38140", func := "loop.example/g01078/laws.FnExactFreeLatticeSize", spec := "fnExactFreeLatticeSize", apart := false }
def FnExactFreeLatticeSizeSaid : Prop := fnExactFreeLatticeSizeRow.holds Try.pinned (OpenSpec.ofChange fnExactFreeLatticeSizeSpec)

/-- ITS FALSE NEIGHBOUR: 'it returns false'. Refute it at one input. -/
def fnExactFreeLatticeSizeWrong : ChangeSpec := { name := "fnExactFreeLatticeSize", fn := fun _ => fun
  | [d] => { results := [.lit (.bool false)], args := [d] }
  | _ => none }
def FnExactFreeLatticeSizeWrongFalsely : Prop := fnExactFreeLatticeSizeRow.holds Try.pinned (OpenSpec.ofChange fnExactFreeLatticeSizeWrong)

/-- 'laws.FnExactIsModularPair': WHATEVER THE INPUT: true; the input reads as it did. -/
def fnExactIsModularPairSpec : ChangeSpec := { name := "fnExactIsModularPair", fn := fun _ => fun
  | [d1, d2, d3] => { results := [.lit (.bool true)], args := [d1, d2, d3] }
  | _ => none }
def fnExactIsModularPairRow : OpenClaim := { program := "ytmkhciigejodaaa", sum := "a3986ab2df64731521079604bc20157ed2dae2824b4cd33b3f221b476ea38140", func := "loop.example/g01078/laws.FnExactIsModularPair", spec := "fnExactIsModularPair", unfollowed := true, recurses := true, apart := false }
def FnExactIsModularPairSaid : Prop := fnExactIsModularPairRow.holds Try.pinned (OpenSpec.ofChange fnExactIsModularPairSpec)

/-- ITS FALSE NEIGHBOUR: 'it returns false'. Refute it at one input. -/
def fnExactIsModularPairWrong : ChangeSpec := { name := "fnExactIsModularPair", fn := fun _ => fun
  | [d1, d2, d3] => { results := [.lit (.bool false)], args := [d1, d2, d3] }
  | _ => none }
def FnExactIsModularPairWrongFalsely : Prop := fnExactIsModularPairRow.holds Try.pinned (OpenSpec.ofChange fnExactIsModularPairWrong)

/-- 'laws.FnExactMedianOf': WHATEVER THE INPUT: true; the input reads as it did. -/
def fnExactMedianOfSpec : ChangeSpec := { name := "fnExactMedianOf", fn := fun _ => fun
  | [d1, d2, d3, d4] => { results := [.lit (.bool true)], args := [d1, d2, d3, d4] }
  | _ => none }
def fnExactMedianOfRow : OpenClaim := { program := "ytmkhciigejodaaa", sum := "a3986ab2df64731521079604bc20157ed2dae2824b4cd33b3f221b476ea38140", func := "loop.example/g01078/laws.FnExactMedianOf", spec := "fnExactMedianOf", unfollowed := true, recurses := true, apart := false }
def FnExactMedianOfSaid : Prop := fnExactMedianOfRow.holds Try.pinned (OpenSpec.ofChange fnExactMedianOfSpec)

/-- ITS FALSE NEIGHBOUR: 'it returns false'. Refute it at one input. -/
def fnExactMedianOfWrong : ChangeSpec := { name := "fnExactMedianOf", fn := fun _ => fun
  | [d1, d2, d3, d4] => { results := [.lit (.bool false)], args := [d1, d2, d3, d4] }
  | _ => none }
def FnExactMedianOfWrongFalsely : Prop := fnExactMedianOfRow.holds Try.pinned (OpenSpec.ofChange fnExactMedianOfWrong)

/-- 'laws.FnExactIsModularLattice': WHATEVER THE INPUT: true; the input reads as it did. -/
def fnExactIsModularLatticeSpec : ChangeSpec := { name := "fnExactIsModularLattice", fn := fun _ => fun
  | [d] => { results := [.lit (.bool true)], args := [d] }
  | _ => none }
def fnExactIsModularLatticeRow : OpenClaim := { program := "ytmkhciigejodaaa", sum := "a3986ab2df64731521079604bc20157ed2dae2824b4cd33b3f221b476ea38140", func := "loop.example/g01078/laws.FnExactIsModularLattice", spec := "fnExactIsModularLattice", unfollowed := true, recurses := true, apart := false }
def FnExactIsModularLatticeSaid : Prop := fnExactIsModularLatticeRow.holds Try.pinned (OpenSpec.ofChange fnExactIsModularLatticeSpec)

/-- ITS FALSE NEIGHBOUR: 'it returns false'. Refute it at one input. -/
def fnExactIsModularLatticeWrong : ChangeSpec := { name := "fnExactIsModularLattice", fn := fun _ => fun
  | [d] => { results := [.lit (.bool false)], args := [d] }
  | _ => none }
def FnExactIsModularLatticeWrongFalsely : Prop := fnExactIsModularLatticeRow.holds Try.pinned (OpenSpec.ofChange fnExactIsModularLatticeWrong)

/-- 'laws.FnExactIsDistributive': WHATEVER THE INPUT: true; the input reads as it did. -/
def fnExactIsDistributiveSpec : ChangeSpec := { name := "fnExactIsDistributive", fn := fun _ => fun
  | [d] => { results := [.lit (.bool true)], args := [d] }
  | _ => none }
def fnExactIsDistributiveRow : OpenClaim := { program := "ytmkhciigejodaaa", sum := "a3986ab2df64731521079604bc20157ed2dae2824b4cd33b3f221b476ea38140", func := "loop.example/g01078/laws.FnExactIsDistributive", spec := "fnExactIsDistributive", unfollowed := true, recurses := true, apart := false }
def FnExactIsDistributiveSaid : Prop := fnExactIsDistributiveRow.holds Try.pinned (OpenSpec.ofChange fnExactIsDistributiveSpec)

/-- ITS FALSE NEIGHBOUR: 'it returns false'. Refute it at one input. -/
def fnExactIsDistributiveWrong : ChangeSpec := { name := "fnExactIsDistributive", fn := fun _ => fun
  | [d] => { results := [.lit (.bool false)], args := [d] }
  | _ => none }
def FnExactIsDistributiveWrongFalsely : Prop := fnExactIsDistributiveRow.holds Try.pinned (OpenSpec.ofChange fnExactIsDistributiveWrong)

/-- 'laws.FnExactIsRelativelyComplemented': WHATEVER THE INPUT: true; the input reads as it did. -/
def fnExactIsRelativelyComplementedSpec : ChangeSpec := { name := "fnExactIsRelativelyComplemented", fn := fun _ => fun
  | [d] => { results := [.lit (.bool true)], args := [d] }
  | _ => none }
def fnExactIsRelativelyComplementedRow : OpenClaim := { program := "ytmkhciigejodaaa", sum := "a3986ab2df64731521079604bc20157ed2dae2824b4cd33b3f221b476ea38140", func := "loop.example/g01078/laws.FnExactIsRelativelyComplemented", spec := "fnExactIsRelativelyComplemented", unfollowed := true, recurses := true, apart := false }
def FnExactIsRelativelyComplementedSaid : Prop := fnExactIsRelativelyComplementedRow.holds Try.pinned (OpenSpec.ofChange fnExactIsRelativelyComplementedSpec)

/-- ITS FALSE NEIGHBOUR: 'it returns false'. Refute it at one input. -/
def fnExactIsRelativelyComplementedWrong : ChangeSpec := { name := "fnExactIsRelativelyComplemented", fn := fun _ => fun
  | [d] => { results := [.lit (.bool false)], args := [d] }
  | _ => none }
def FnExactIsRelativelyComplementedWrongFalsely : Prop := fnExactIsRelativelyComplementedRow.holds Try.pinned (OpenSpec.ofChange fnExactIsRelativelyComplementedWrong)

/-- 'laws.FnExactIsComplemented': WHATEVER THE INPUT: true; the input reads as it did. -/
def fnExactIsComplementedSpec : ChangeSpec := { name := "fnExactIsComplemented", fn := fun _ => fun
  | [d] => { results := [.lit (.bool true)], args := [d] }
  | _ => none }
def fnExactIsComplementedRow : OpenClaim := { program := "ytmkhciigejodaaa", sum := "a3986ab2df64731521079604bc20157ed2dae2824b4cd33b3f221b476ea38140", func := "loop.example/g01078/laws.FnExactIsComplemented", spec := "fnExactIsComplemented", unfollowed := true, recurses := true, apart := false }
def FnExactIsComplementedSaid : Prop := fnExactIsComplementedRow.holds Try.pinned (OpenSpec.ofChange fnExactIsComplementedSpec)

/-- ITS FALSE NEIGHBOUR: 'it returns false'. Refute it at one input. -/
def fnExactIsComplementedWrong : ChangeSpec := { name := "fnExactIsComplemented", fn := fun _ => fun
  | [d] => { results := [.lit (.bool false)], args := [d] }
  | _ => none }
def FnExactIsComplementedWrongFalsely : Prop := fnExactIsComplementedRow.holds Try.pinned (OpenSpec.ofChange fnExactIsComplementedWrong)

/- THE SECOND FORM. 'bulk': how many values and letters a reading holds, each counted each time it is reached (what is shared counts as often as it is met; a slice's spare places count too). A statement '..UptoSaid' is the law's where the arguments, and the package variables that the reading takes, are together of bulk at most 1048576: NARROWER than '..Said'. Prove '..Said' where nothing that the law and all that it calls make is longer than what came in: it says more and counts as full. Else prove '..UptoSaid'. A law counts once. -/
mutual
def uptoBulk {H : Type} : DataW H → Nat
  | .lit (.string bytes) => bytes.length + 1
  | .lit _ => 1
  | .nil => 1
  | .ptr d => uptoBulk d + 1
  | .slice elems spare => uptoBulkAll elems + uptoBulkAll spare + 1
  | .agg parts => uptoBulkAll parts + 1
  | .iface _ d => uptoBulk d + 1
  | .map entries => uptoBulkEntries entries + 1
  | .held _ => 1
def uptoBulkAll {H : Type} : List (DataW H) → Nat
  | [] => 0
  | d :: r => uptoBulk d + uptoBulkAll r
def uptoBulkEntries {H : Type} : List (Lit × DataW H) → Nat
  | [] => 0
  | x :: r => uptoBulkEntry x + uptoBulkEntries r
def uptoBulkEntry {H : Type} : Lit × DataW H → Nat
  | (.string bytes, d) => bytes.length + uptoBulk d + 1
  | (_, d) => uptoBulk d + 1
 end
def uptoSmall : (H : Type) → List (DataW H) → Bool := fun _ ds => decide (uptoBulkAll ds ≤ 1048576)
def OpenSpec.upto (s : _root_.Go.ChangeSpec) : _root_.Go.OpenSpec := { _root_.Go.OpenSpec.ofChange s with cond := some uptoSmall }

/-- 'laws.FnExactFreeLatticeSize', WHERE WHAT IT READS IS OF BULK AT MOST 1048576: true; the input reads as it did. -/
def fnExactFreeLatticeSizeUptoRow : OpenClaim := { program := "ytmkhciigejodaaa", sum := "a3986ab2df64731521079604bc20157ed2dae2824b4cd33b3f221b476ea38140", func := "loop.example/g01078/laws.FnExactFreeLatticeSize", spec := "fnExactFreeLatticeSize", apart := false, narrowed := true }
def FnExactFreeLatticeSizeUptoSaid : Prop := fnExactFreeLatticeSizeUptoRow.holds Try.pinned (OpenSpec.upto fnExactFreeLatticeSizeSpec)

/-- 'laws.FnExactIsModularPair', WHERE WHAT IT READS IS OF BULK AT MOST 1048576: true; the input reads as it did. -/
def fnExactIsModularPairUptoRow : OpenClaim := { program := "ytmkhciigejodaaa", sum := "a3986ab2df64731521079604bc20157ed2dae2824b4cd33b3f221b476ea38140", func := "loop.example/g01078/laws.FnExactIsModularPair", spec := "fnExactIsModularPair", unfollowed := true, recurses := true, apart := false, narrowed := true }
def FnExactIsModularPairUptoSaid : Prop := fnExactIsModularPairUptoRow.holds Try.pinned (OpenSpec.upto fnExactIsModularPairSpec)

/-- 'laws.FnExactMedianOf', WHERE WHAT IT READS IS OF BULK AT MOST 1048576: true; the input reads as it did. -/
def fnExactMedianOfUptoRow : OpenClaim := { program := "ytmkhciigejodaaa", sum := "a3986ab2df64731521079604bc20157ed2dae2824b4cd33b3f221b476ea38140", func := "loop.example/g01078/laws.FnExactMedianOf", spec := "fnExactMedianOf", unfollowed := true, recurses := true, apart := false, narrowed := true }
def FnExactMedianOfUptoSaid : Prop := fnExactMedianOfUptoRow.holds Try.pinned (OpenSpec.upto fnExactMedianOfSpec)

/-- 'laws.FnExactIsModularLattice', WHERE WHAT IT READS IS OF BULK AT MOST 1048576: true; the input reads as it did. -/
def fnExactIsModularLatticeUptoRow : OpenClaim := { program := "ytmkhciigejodaaa", sum := "a3986ab2df64731521079604bc20157ed2dae2824b4cd33b3f221b476ea38140", func := "loop.example/g01078/laws.FnExactIsModularLattice", spec := "fnExactIsModularLattice", unfollowed := true, recurses := true, apart := false, narrowed := true }
def FnExactIsModularLatticeUptoSaid : Prop := fnExactIsModularLatticeUptoRow.holds Try.pinned (OpenSpec.upto fnExactIsModularLatticeSpec)

/-- 'laws.FnExactIsDistributive', WHERE WHAT IT READS IS OF BULK AT MOST 1048576: true; the input reads as it did. -/
def fnExactIsDistributiveUptoRow : OpenClaim := { program := "ytmkhciigejodaaa", sum := "a3986ab2df64731521079604bc20157ed2dae2824b4cd33b3f221b476ea38140", func := "loop.example/g01078/laws.FnExactIsDistributive", spec := "fnExactIsDistributive", unfollowed := true, recurses := true, apart := false, narrowed := true }
def FnExactIsDistributiveUptoSaid : Prop := fnExactIsDistributiveUptoRow.holds Try.pinned (OpenSpec.upto fnExactIsDistributiveSpec)

/-- 'laws.FnExactIsRelativelyComplemented', WHERE WHAT IT READS IS OF BULK AT MOST 1048576: true; the input reads as it did. -/
def fnExactIsRelativelyComplementedUptoRow : OpenClaim := { program := "ytmkhciigejodaaa", sum := "a3986ab2df64731521079604bc20157ed2dae2824b4cd33b3f221b476ea38140", func := "loop.example/g01078/laws.FnExactIsRelativelyComplemented", spec := "fnExactIsRelativelyComplemented", unfollowed := true, recurses := true, apart := false, narrowed := true }
def FnExactIsRelativelyComplementedUptoSaid : Prop := fnExactIsRelativelyComplementedUptoRow.holds Try.pinned (OpenSpec.upto fnExactIsRelativelyComplementedSpec)

/-- 'laws.FnExactIsComplemented', WHERE WHAT IT READS IS OF BULK AT MOST 1048576: true; the input reads as it did. -/
def fnExactIsComplementedUptoRow : OpenClaim := { program := "ytmkhciigejodaaa", sum := "a3986ab2df64731521079604bc20157ed2dae2824b4cd33b3f221b476ea38140", func := "loop.example/g01078/laws.FnExactIsComplemented", spec := "fnExactIsComplemented", unfollowed := true, recurses := true, apart := false, narrowed := true }
def FnExactIsComplementedUptoSaid : Prop := fnExactIsComplementedUptoRow.holds Try.pinned (OpenSpec.upto fnExactIsComplementedSpec)

end Rows
end Go.Proofs.Ytmkhciigejodaaa
