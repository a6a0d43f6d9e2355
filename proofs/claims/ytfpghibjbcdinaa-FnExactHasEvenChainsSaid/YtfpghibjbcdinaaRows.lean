/-
  No cell of these rows narrows 'for every input' (looked for: loops, veiled, ifaces, maps, wideKeys, modest, calm, conditions, laid).
  DERIVED. THE GIVEN ROWS OF THIS SEAT. 12 by the template 'for every input the law returns true; each argument reads behind the call as it read before'; 0 by the template 'total and deterministic' (their statements: YtfpghibjbcdinaaTotals.lean).
  GIVEN WITH THE SEED: the statements are not yours to turn. If you find one false, say at which input.
  Laid BY PROGRAM, IN A SANDBOX (cutbox-rows.mjs): the forced cells as the released guide's own fill.sh prints them over the translation c829ecd2514b0f05… (all of the seat's roots in one cut). By AI agents, Wed Nov 11 2026. No macro, syntax, notation, axiom, sorry.
-/
import Derived.Test.YtfpghibjbcdinaaChecked
import GoSem.Claim
import GoSem.ClaimJoined
import GoSem.ClaimMapViews
import Derived.JoinedTies
import Derived.KernelRfl
namespace Go.Proofs.Ytfpghibjbcdinaa
/- THE CELL 'sum', in the pinned program and in every row, IS THE sha256 OF THE DUMP (.gsa) THAT YtfpghibjbcdinaaProg.lean LOADS. Nothing in Lean hashes anything: it is a label: what it is worth is what the hold of that sum in a sandbox is worth. -/
noncomputable def Try.pinned : Pinned := { name := "ytfpghibjbcdinaa", sum := "c829ecd2514b0f05ac37932403f66c032cbe686eb16dfe91ee7e45612ae8edc3", checked := Try.checked }
namespace Rows
def none {H : Type} : Left H := { results := [], args := [] }

/-- 'laws.FnExactIsUniquelyComplemented': WHATEVER THE INPUT: true; the input reads as it did. -/
def fnExactIsUniquelyComplementedSpec : ChangeSpec := { name := "fnExactIsUniquelyComplemented", fn := fun _ => fun
  | [d] => { results := [.lit (.bool true)], args := [d] }
  | _ => none }
def fnExactIsUniquelyComplementedRow : OpenClaim := { program := "ytfpghibjbcdinaa", sum := "c829ecd2514b0f05ac37932403f66c032cbe686eb16dfe91ee7e45612ae8edc3", func := "loop.example/g01078/laws.FnExactIsUniquelyComplemented", spec := "fnExactIsUniquelyComplemented", unfollowed := true, recurses := true, apart := false }
def FnExactIsUniquelyComplementedSaid : Prop := fnExactIsUniquelyComplementedRow.holds Try.pinned (OpenSpec.ofChange fnExactIsUniquelyComplementedSpec)

/-- ITS FALSE NEIGHBOUR: 'it returns false'. Refute it at one input. -/
def fnExactIsUniquelyComplementedWrong : ChangeSpec := { name := "fnExactIsUniquelyComplemented", fn := fun _ => fun
  | [d] => { results := [.lit (.bool false)], args := [d] }
  | _ => none }
def FnExactIsUniquelyComplementedWrongFalsely : Prop := fnExactIsUniquelyComplementedRow.holds Try.pinned (OpenSpec.ofChange fnExactIsUniquelyComplementedWrong)

/-- 'laws.FnExactRelativeComplements': WHATEVER THE INPUT: true; the input reads as it did. -/
def fnExactRelativeComplementsSpec : ChangeSpec := { name := "fnExactRelativeComplements", fn := fun _ => fun
  | [d1, d2, d3, d4] => { results := [.lit (.bool true)], args := [d1, d2, d3, d4] }
  | _ => none }
def fnExactRelativeComplementsRow : OpenClaim := { program := "ytfpghibjbcdinaa", sum := "c829ecd2514b0f05ac37932403f66c032cbe686eb16dfe91ee7e45612ae8edc3", func := "loop.example/g01078/laws.FnExactRelativeComplements", spec := "fnExactRelativeComplements", unfollowed := true, recurses := true, apart := false }
def FnExactRelativeComplementsSaid : Prop := fnExactRelativeComplementsRow.holds Try.pinned (OpenSpec.ofChange fnExactRelativeComplementsSpec)

/-- ITS FALSE NEIGHBOUR: 'it returns false'. Refute it at one input. -/
def fnExactRelativeComplementsWrong : ChangeSpec := { name := "fnExactRelativeComplements", fn := fun _ => fun
  | [d1, d2, d3, d4] => { results := [.lit (.bool false)], args := [d1, d2, d3, d4] }
  | _ => none }
def FnExactRelativeComplementsWrongFalsely : Prop := fnExactRelativeComplementsRow.holds Try.pinned (OpenSpec.ofChange fnExactRelativeComplementsWrong)

/-- 'laws.FnExactDropInterval': WHATEVER THE INPUT: true; the input reads as it did. -/
def fnExactDropIntervalSpec : ChangeSpec := { name := "fnExactDropInterval", fn := fun _ => fun
  | [d1, d2, d3] => { results := [.lit (.bool true)], args := [d1, d2, d3] }
  | _ => none }
def fnExactDropIntervalRow : OpenClaim := { program := "ytfpghibjbcdinaa", sum := "c829ecd2514b0f05ac37932403f66c032cbe686eb16dfe91ee7e45612ae8edc3", func := "loop.example/g01078/laws.FnExactDropInterval", spec := "fnExactDropInterval", unfollowed := true, recurses := true, apart := false }
def FnExactDropIntervalSaid : Prop := fnExactDropIntervalRow.holds Try.pinned (OpenSpec.ofChange fnExactDropIntervalSpec)

/-- ITS FALSE NEIGHBOUR: 'it returns false'. Refute it at one input. -/
def fnExactDropIntervalWrong : ChangeSpec := { name := "fnExactDropInterval", fn := fun _ => fun
  | [d1, d2, d3] => { results := [.lit (.bool false)], args := [d1, d2, d3] }
  | _ => none }
def FnExactDropIntervalWrongFalsely : Prop := fnExactDropIntervalRow.holds Try.pinned (OpenSpec.ofChange fnExactDropIntervalWrong)

/-- 'laws.FnExactLiftInterval': WHATEVER THE INPUT: true; the input reads as it did. -/
def fnExactLiftIntervalSpec : ChangeSpec := { name := "fnExactLiftInterval", fn := fun _ => fun
  | [d1, d2, d3] => { results := [.lit (.bool true)], args := [d1, d2, d3] }
  | _ => none }
def fnExactLiftIntervalRow : OpenClaim := { program := "ytfpghibjbcdinaa", sum := "c829ecd2514b0f05ac37932403f66c032cbe686eb16dfe91ee7e45612ae8edc3", func := "loop.example/g01078/laws.FnExactLiftInterval", spec := "fnExactLiftInterval", unfollowed := true, recurses := true, apart := false }
def FnExactLiftIntervalSaid : Prop := fnExactLiftIntervalRow.holds Try.pinned (OpenSpec.ofChange fnExactLiftIntervalSpec)

/-- ITS FALSE NEIGHBOUR: 'it returns false'. Refute it at one input. -/
def fnExactLiftIntervalWrong : ChangeSpec := { name := "fnExactLiftInterval", fn := fun _ => fun
  | [d1, d2, d3] => { results := [.lit (.bool false)], args := [d1, d2, d3] }
  | _ => none }
def FnExactLiftIntervalWrongFalsely : Prop := fnExactLiftIntervalRow.holds Try.pinned (OpenSpec.ofChange fnExactLiftIntervalWrong)

/-- 'laws.FnExactIsLowerSemimodular': WHATEVER THE INPUT: true; the input reads as it did. -/
def fnExactIsLowerSemimodularSpec : ChangeSpec := { name := "fnExactIsLowerSemimodular", fn := fun _ => fun
  | [d] => { results := [.lit (.bool true)], args := [d] }
  | _ => none }
def fnExactIsLowerSemimodularRow : OpenClaim := { program := "ytfpghibjbcdinaa", sum := "c829ecd2514b0f05ac37932403f66c032cbe686eb16dfe91ee7e45612ae8edc3", func := "loop.example/g01078/laws.FnExactIsLowerSemimodular", spec := "fnExactIsLowerSemimodular", unfollowed := true, recurses := true, apart := false }
def FnExactIsLowerSemimodularSaid : Prop := fnExactIsLowerSemimodularRow.holds Try.pinned (OpenSpec.ofChange fnExactIsLowerSemimodularSpec)

/-- ITS FALSE NEIGHBOUR: 'it returns false'. Refute it at one input. -/
def fnExactIsLowerSemimodularWrong : ChangeSpec := { name := "fnExactIsLowerSemimodular", fn := fun _ => fun
  | [d] => { results := [.lit (.bool false)], args := [d] }
  | _ => none }
def FnExactIsLowerSemimodularWrongFalsely : Prop := fnExactIsLowerSemimodularRow.holds Try.pinned (OpenSpec.ofChange fnExactIsLowerSemimodularWrong)

/-- 'laws.FnExactIsUpperSemimodular': WHATEVER THE INPUT: true; the input reads as it did. -/
def fnExactIsUpperSemimodularSpec : ChangeSpec := { name := "fnExactIsUpperSemimodular", fn := fun _ => fun
  | [d] => { results := [.lit (.bool true)], args := [d] }
  | _ => none }
def fnExactIsUpperSemimodularRow : OpenClaim := { program := "ytfpghibjbcdinaa", sum := "c829ecd2514b0f05ac37932403f66c032cbe686eb16dfe91ee7e45612ae8edc3", func := "loop.example/g01078/laws.FnExactIsUpperSemimodular", spec := "fnExactIsUpperSemimodular", unfollowed := true, recurses := true, apart := false }
def FnExactIsUpperSemimodularSaid : Prop := fnExactIsUpperSemimodularRow.holds Try.pinned (OpenSpec.ofChange fnExactIsUpperSemimodularSpec)

/-- ITS FALSE NEIGHBOUR: 'it returns false'. Refute it at one input. -/
def fnExactIsUpperSemimodularWrong : ChangeSpec := { name := "fnExactIsUpperSemimodular", fn := fun _ => fun
  | [d] => { results := [.lit (.bool false)], args := [d] }
  | _ => none }
def FnExactIsUpperSemimodularWrongFalsely : Prop := fnExactIsUpperSemimodularRow.holds Try.pinned (OpenSpec.ofChange fnExactIsUpperSemimodularWrong)

/-- 'laws.FnExactFirstBent': WHATEVER THE INPUT: true; the input reads as it did. -/
def fnExactFirstBentSpec : ChangeSpec := { name := "fnExactFirstBent", fn := fun _ => fun
  | [d] => { results := [.lit (.bool true)], args := [d] }
  | _ => none }
def fnExactFirstBentRow : OpenClaim := { program := "ytfpghibjbcdinaa", sum := "c829ecd2514b0f05ac37932403f66c032cbe686eb16dfe91ee7e45612ae8edc3", func := "loop.example/g01078/laws.FnExactFirstBent", spec := "fnExactFirstBent", unfollowed := true, recurses := true, apart := false }
def FnExactFirstBentSaid : Prop := fnExactFirstBentRow.holds Try.pinned (OpenSpec.ofChange fnExactFirstBentSpec)

/-- ITS FALSE NEIGHBOUR: 'it returns false'. Refute it at one input. -/
def fnExactFirstBentWrong : ChangeSpec := { name := "fnExactFirstBent", fn := fun _ => fun
  | [d] => { results := [.lit (.bool false)], args := [d] }
  | _ => none }
def FnExactFirstBentWrongFalsely : Prop := fnExactFirstBentRow.holds Try.pinned (OpenSpec.ofChange fnExactFirstBentWrong)

/-- 'laws.FnExactFirstUneven': WHATEVER THE INPUT: true; the input reads as it did. -/
def fnExactFirstUnevenSpec : ChangeSpec := { name := "fnExactFirstUneven", fn := fun _ => fun
  | [d] => { results := [.lit (.bool true)], args := [d] }
  | _ => none }
def fnExactFirstUnevenRow : OpenClaim := { program := "ytfpghibjbcdinaa", sum := "c829ecd2514b0f05ac37932403f66c032cbe686eb16dfe91ee7e45612ae8edc3", func := "loop.example/g01078/laws.FnExactFirstUneven", spec := "fnExactFirstUneven", unfollowed := true, recurses := true, apart := false }
def FnExactFirstUnevenSaid : Prop := fnExactFirstUnevenRow.holds Try.pinned (OpenSpec.ofChange fnExactFirstUnevenSpec)

/-- ITS FALSE NEIGHBOUR: 'it returns false'. Refute it at one input. -/
def fnExactFirstUnevenWrong : ChangeSpec := { name := "fnExactFirstUneven", fn := fun _ => fun
  | [d] => { results := [.lit (.bool false)], args := [d] }
  | _ => none }
def FnExactFirstUnevenWrongFalsely : Prop := fnExactFirstUnevenRow.holds Try.pinned (OpenSpec.ofChange fnExactFirstUnevenWrong)

/-- 'laws.FnExactIsLatticeMap': WHATEVER THE INPUT: true; the input reads as it did. -/
def fnExactIsLatticeMapSpec : ChangeSpec := { name := "fnExactIsLatticeMap", fn := fun _ => fun
  | [d1, d2, d3] => { results := [.lit (.bool true)], args := [d1, d2, d3] }
  | _ => none }
def fnExactIsLatticeMapRow : OpenClaim := { program := "ytfpghibjbcdinaa", sum := "c829ecd2514b0f05ac37932403f66c032cbe686eb16dfe91ee7e45612ae8edc3", func := "loop.example/g01078/laws.FnExactIsLatticeMap", spec := "fnExactIsLatticeMap", unfollowed := true, recurses := true, apart := false }
def FnExactIsLatticeMapSaid : Prop := fnExactIsLatticeMapRow.holds Try.pinned (OpenSpec.ofChange fnExactIsLatticeMapSpec)

/-- ITS FALSE NEIGHBOUR: 'it returns false'. Refute it at one input. -/
def fnExactIsLatticeMapWrong : ChangeSpec := { name := "fnExactIsLatticeMap", fn := fun _ => fun
  | [d1, d2, d3] => { results := [.lit (.bool false)], args := [d1, d2, d3] }
  | _ => none }
def FnExactIsLatticeMapWrongFalsely : Prop := fnExactIsLatticeMapRow.holds Try.pinned (OpenSpec.ofChange fnExactIsLatticeMapWrong)

/-- 'laws.FnExactComplementsIn': WHATEVER THE INPUT: true; the input reads as it did. -/
def fnExactComplementsInSpec : ChangeSpec := { name := "fnExactComplementsIn", fn := fun _ => fun
  | [d1, d2] => { results := [.lit (.bool true)], args := [d1, d2] }
  | _ => none }
def fnExactComplementsInRow : OpenClaim := { program := "ytfpghibjbcdinaa", sum := "c829ecd2514b0f05ac37932403f66c032cbe686eb16dfe91ee7e45612ae8edc3", func := "loop.example/g01078/laws.FnExactComplementsIn", spec := "fnExactComplementsIn", unfollowed := true, recurses := true, apart := false }
def FnExactComplementsInSaid : Prop := fnExactComplementsInRow.holds Try.pinned (OpenSpec.ofChange fnExactComplementsInSpec)

/-- ITS FALSE NEIGHBOUR: 'it returns false'. Refute it at one input. -/
def fnExactComplementsInWrong : ChangeSpec := { name := "fnExactComplementsIn", fn := fun _ => fun
  | [d1, d2] => { results := [.lit (.bool false)], args := [d1, d2] }
  | _ => none }
def FnExactComplementsInWrongFalsely : Prop := fnExactComplementsInRow.holds Try.pinned (OpenSpec.ofChange fnExactComplementsInWrong)

/-- 'laws.FnExactJoinPrimes': WHATEVER THE INPUT: true; the input reads as it did. -/
def fnExactJoinPrimesSpec : ChangeSpec := { name := "fnExactJoinPrimes", fn := fun _ => fun
  | [d] => { results := [.lit (.bool true)], args := [d] }
  | _ => none }
def fnExactJoinPrimesRow : OpenClaim := { program := "ytfpghibjbcdinaa", sum := "c829ecd2514b0f05ac37932403f66c032cbe686eb16dfe91ee7e45612ae8edc3", func := "loop.example/g01078/laws.FnExactJoinPrimes", spec := "fnExactJoinPrimes", unfollowed := true, recurses := true, apart := false }
def FnExactJoinPrimesSaid : Prop := fnExactJoinPrimesRow.holds Try.pinned (OpenSpec.ofChange fnExactJoinPrimesSpec)

/-- ITS FALSE NEIGHBOUR: 'it returns false'. Refute it at one input. -/
def fnExactJoinPrimesWrong : ChangeSpec := { name := "fnExactJoinPrimes", fn := fun _ => fun
  | [d] => { results := [.lit (.bool false)], args := [d] }
  | _ => none }
def FnExactJoinPrimesWrongFalsely : Prop := fnExactJoinPrimesRow.holds Try.pinned (OpenSpec.ofChange fnExactJoinPrimesWrong)

/-- 'laws.FnExactHasEvenChains': WHATEVER THE INPUT: true; the input reads as it did. -/
def fnExactHasEvenChainsSpec : ChangeSpec := { name := "fnExactHasEvenChains", fn := fun _ => fun
  | [d] => { results := [.lit (.bool true)], args := [d] }
  | _ => none }
def fnExactHasEvenChainsRow : OpenClaim := { program := "ytfpghibjbcdinaa", sum := "c829ecd2514b0f05ac37932403f66c032cbe686eb16dfe91ee7e45612ae8edc3", func := "loop.example/g01078/laws.FnExactHasEvenChains", spec := "fnExactHasEvenChains", unfollowed := true, recurses := true, apart := false }
def FnExactHasEvenChainsSaid : Prop := fnExactHasEvenChainsRow.holds Try.pinned (OpenSpec.ofChange fnExactHasEvenChainsSpec)

/-- ITS FALSE NEIGHBOUR: 'it returns false'. Refute it at one input. -/
def fnExactHasEvenChainsWrong : ChangeSpec := { name := "fnExactHasEvenChains", fn := fun _ => fun
  | [d] => { results := [.lit (.bool false)], args := [d] }
  | _ => none }
def FnExactHasEvenChainsWrongFalsely : Prop := fnExactHasEvenChainsRow.holds Try.pinned (OpenSpec.ofChange fnExactHasEvenChainsWrong)

/- THE SECOND FORM. 'bulk': how many values and letters a reading holds, each counted each time it is reached (what is shared counts as often as it is met; a slice's spare places count too). A statement '..UptoSaid' is the law's where the arguments, and the package variables that the reading takes, are together of bulk at most 1048576: NARROWER than '..Said'. Prove '..Said' where nothing that the law and all that it calls make is longer than what came in: it says more and counts as full. Else prove '..UptoSaid'. A law counts once. -/
mutual
def uptoBulk {H : Type} : DataW H → Nat
  | .lit (.string bytes) => bytes.length + 1
  | .lit _ => 1
  | .nil => 1
  | .ptr d => uptoBulk d + 1
  | .slice elems spare => uptoBulkAll elems + uptoBulkAll spare + 1
  | .agg parts => uptoBulkAll parts + 1
  | .iface _ d => uptoBulk d + 1
  | .map entries => uptoBulkEntries entries + 1
  | .held _ => 1
def uptoBulkAll {H : Type} : List (DataW H) → Nat
  | [] => 0
  | d :: r => uptoBulk d + uptoBulkAll r
def uptoBulkEntries {H : Type} : List (Lit × DataW H) → Nat
  | [] => 0
  | x :: r => uptoBulkEntry x + uptoBulkEntries r
def uptoBulkEntry {H : Type} : Lit × DataW H → Nat
  | (.string bytes, d) => bytes.length + uptoBulk d + 1
  | (_, d) => uptoBulk d + 1
 end
def uptoSmall : (H : Type) → List (DataW H) → Bool := fun _ ds => decide (uptoBulkAll ds ≤ 1048576)
def OpenSpec.upto (s : _root_.Go.ChangeSpec) : _root_.Go.OpenSpec := { _root_.Go.OpenSpec.ofChange s with cond := some uptoSmall }

/-- 'laws.FnExactIsUniquelyComplemented', WHERE WHAT IT READS IS OF BULK AT MOST 1048576: true; the input reads as it did. -/
def fnExactIsUniquelyComplementedUptoRow : OpenClaim := { program := "ytfpghibjbcdinaa", sum := "c829ecd2514b0f05ac37932403f66c032cbe686eb16dfe91ee7e45612ae8edc3", func := "loop.example/g01078/laws.FnExactIsUniquelyComplemented", spec := "fnExactIsUniquelyComplemented", unfollowed := true, recurses := true, apart := false, narrowed := true }
def FnExactIsUniquelyComplementedUptoSaid : Prop := fnExactIsUniquelyComplementedUptoRow.holds Try.pinned (OpenSpec.upto fnExactIsUniquelyComplementedSpec)

/-- 'laws.FnExactRelativeComplements', WHERE WHAT IT READS IS OF BULK AT MOST 1048576: true; the input reads as it did. -/
def fnExactRelativeComplementsUptoRow : OpenClaim := { program := "ytfpghibjbcdinaa", sum := "c829ecd2514b0f05ac37932403f66c032cbe686eb16dfe91ee7e45612ae8edc3", func := "loop.example/g01078/laws.FnExactRelativeComplements", spec := "fnExactRelativeComplements", unfollowed := true, recurses := true, apart := false, narrowed := true }
def FnExactRelativeComplementsUptoSaid : Prop := fnExactRelativeComplementsUptoRow.holds Try.pinned (OpenSpec.upto fnExactRelativeComplementsSpec)

/-- 'laws.FnExactDropInterval', WHERE WHAT IT READS IS OF BULK AT MOST 1048576: true; the input reads as it did. -/
def fnExactDropIntervalUptoRow : OpenClaim := { program := "ytfpghibjbcdinaa", sum := "c829ecd2514b0f05ac37932403f66c032cbe686eb16dfe91ee7e45612ae8edc3", func := "loop.example/g01078/laws.FnExactDropInterval", spec := "fnExactDropInterval", unfollowed := true, recurses := true, apart := false, narrowed := true }
def FnExactDropIntervalUptoSaid : Prop := fnExactDropIntervalUptoRow.holds Try.pinned (OpenSpec.upto fnExactDropIntervalSpec)

/-- 'laws.FnExactLiftInterval', WHERE WHAT IT READS IS OF BULK AT MOST 1048576: true; the input reads as it did. -/
def fnExactLiftIntervalUptoRow : OpenClaim := { program := "ytfpghibjbcdinaa", sum := "c829ecd2514b0f05ac37932403f66c032cbe686eb16dfe91ee7e45612ae8edc3", func := "loop.example/g01078/laws.FnExactLiftInterval", spec := "fnExactLiftInterval", unfollowed := true, recurses := true, apart := false, narrowed := true }
def FnExactLiftIntervalUptoSaid : Prop := fnExactLiftIntervalUptoRow.holds Try.pinned (OpenSpec.upto fnExactLiftIntervalSpec)

/-- 'laws.FnExactIsLowerSemimodular', WHERE WHAT IT READS IS OF BULK AT MOST 1048576: true; the input reads as it did. -/
def fnExactIsLowerSemimodularUptoRow : OpenClaim := { program := "ytfpghibjbcdinaa", sum := "c829ecd2514b0f05ac37932403f66c032cbe686eb16dfe91ee7e45612ae8edc3", func := "loop.example/g01078/laws.FnExactIsLowerSemimodular", spec := "fnExactIsLowerSemimodular", unfollowed := true, recurses := true, apart := false, narrowed := true }
def FnExactIsLowerSemimodularUptoSaid : Prop := fnExactIsLowerSemimodularUptoRow.holds Try.pinned (OpenSpec.upto fnExactIsLowerSemimodularSpec)

/-- 'laws.FnExactIsUpperSemimodular', WHERE WHAT IT READS IS OF BULK AT MOST 1048576: true; the input reads as it did. -/
def fnExactIsUpperSemimodularUptoRow : OpenClaim := { program := "ytfpghibjbcdinaa", sum := "c829ecd2514b0f05ac37932403f66c032cbe686eb16dfe91ee7e45612ae8edc3", func := "loop.example/g01078/laws.FnExactIsUpperSemimodular", spec := "fnExactIsUpperSemimodular", unfollowed := true, recurses := true, apart := false, narrowed := true }
def FnExactIsUpperSemimodularUptoSaid : Prop := fnExactIsUpperSemimodularUptoRow.holds Try.pinned (OpenSpec.upto fnExactIsUpperSemimodularSpec)

/-- 'laws.FnExactFirstBent', WHERE WHAT IT READS IS OF BULK AT MOST 1048576: true; the input reads as it did. -/
def fnExactFirstBentUptoRow : OpenClaim := { program := "ytfpghibjbcdinaa", sum := "c829ecd2514b0f05ac37932403f66c032cbe686eb16dfe91ee7e45612ae8edc3", func := "loop.example/g01078/laws.FnExactFirstBent", spec := "fnExactFirstBent", unfollowed := true, recurses := true, apart := false, narrowed := true }
def FnExactFirstBentUptoSaid : Prop := fnExactFirstBentUptoRow.holds Try.pinned (OpenSpec.upto fnExactFirstBentSpec)

/-- 'laws.FnExactFirstUneven', WHERE WHAT IT READS IS OF BULK AT MOST 1048576: true; the input reads as it did. -/
def fnExactFirstUnevenUptoRow : OpenClaim := { program := "ytfpghibjbcdinaa", sum := "c829ecd2514b0f05ac37932403f66c032cbe686eb16dfe91ee7e45612ae8edc3", func := "loop.example/g01078/laws.FnExactFirstUneven", spec := "fnExactFirstUneven", unfollowed := true, recurses := true, apart := false, narrowed := true }
def FnExactFirstUnevenUptoSaid : Prop := fnExactFirstUnevenUptoRow.holds Try.pinned (OpenSpec.upto fnExactFirstUnevenSpec)

/-- 'laws.FnExactIsLatticeMap', WHERE WHAT IT READS IS OF BULK AT MOST 1048576: true; the input reads as it did. -/
def fnExactIsLatticeMapUptoRow : OpenClaim := { program := "ytfpghibjbcdinaa", sum := "c829ecd2514b0f05ac37932403f66c032cbe686eb16dfe91ee7e45612ae8edc3", func := "loop.example/g01078/laws.FnExactIsLatticeMap", spec := "fnExactIsLatticeMap", unfollowed := true, recurses := true, apart := false, narrowed := true }
def FnExactIsLatticeMapUptoSaid : Prop := fnExactIsLatticeMapUptoRow.holds Try.pinned (OpenSpec.upto fnExactIsLatticeMapSpec)

/-- 'laws.FnExactComplementsIn', WHERE WHAT IT READS IS OF BULK AT MOST 1048576: true; the input reads as it did. -/
def fnExactComplementsInUptoRow : OpenClaim := { program := "ytfpghibjbcdinaa", sum := "c829ecd2514b0f05ac37932403f66c032cbe686eb16dfe91ee7e45612ae8edc3", func := "loop.example/g01078/laws.FnExactComplementsIn", spec := "fnExactComplementsIn", unfollowed := true, recurses := true, apart := false, narrowed := true }
def FnExactComplementsInUptoSaid : Prop := fnExactComplementsInUptoRow.holds Try.pinned (OpenSpec.upto fnExactComplementsInSpec)

/-- 'laws.FnExactJoinPrimes', WHERE WHAT IT READS IS OF BULK AT MOST 1048576: true; the input reads as it did. -/
def fnExactJoinPrimesUptoRow : OpenClaim := { program := "ytfpghibjbcdinaa", sum := "c829ecd2514b0f05ac37932403f66c032cbe686eb16dfe91ee7e45612ae8edc3", func := "loop.example/g01078/laws.FnExactJoinPrimes", spec := "fnExactJoinPrimes", unfollowed := true, recurses := true, apart := false, narrowed := true }
def FnExactJoinPrimesUptoSaid : Prop := fnExactJoinPrimesUptoRow.holds Try.pinned (OpenSpec.upto fnExactJoinPrimesSpec)

/-- 'laws.FnExactHasEvenChains', WHERE WHAT IT READS IS OF BULK AT MOST 1048576: true; the input reads as it did. -/
def fnExactHasEvenChainsUptoRow : OpenClaim := { program := "ytfpghibjbcdinaa", sum := "c829ecd2514b0f05ac37932403f66c032cbe686eb16dfe91ee7e45612ae8edc3", func := "loop.example/g01078/laws.FnExactHasEvenChains", spec := "fnExactHasEvenChains", unfollowed := true, recurses := true, apart := false, narrowed := true }
def FnExactHasEvenChainsUptoSaid : Prop := fnExactHasEvenChainsUptoRow.holds Try.pinned (OpenSpec.upto fnExactHasEvenChainsSpec)

end Rows
end Go.Proofs.Ytfpghibjbcdinaa
