/-
  No cell of these rows narrows 'for every input' (looked for: loops, veiled, ifaces, maps, wideKeys, modest, calm, conditions, laid).
  DERIVED. THE GIVEN ROWS OF THIS SEAT. 10 by the template 'for every input the law returns true; each argument reads behind the call as it read before'; 0 by the template 'total and deterministic' (their statements: YtgecikhfkkkghaaTotals.lean).
  GIVEN WITH THE SEED: the statements are not yours to turn. If you find one false, say at which input.
  Laid BY PROGRAM, IN A SANDBOX (cutbox-rows.mjs): the forced cells as the released guide's own fill.sh prints them over the translation e0a078811abe7daf… (all of the seat's roots in one cut). By AI agents, Wed Nov 11 2026. No macro, syntax, notation, axiom, sorry.
-/
import Derived.Test.YtgecikhfkkkghaaChecked
import GoSem.Claim
import GoSem.ClaimJoined
import GoSem.ClaimMapViews
import Derived.JoinedTies
import Derived.KernelRfl
namespace Go.Proofs.Ytgecikhfkkkghaa
/- THE CELL 'sum', in the pinned program and in every row, IS THE sha256 OF THE DUMP (.gsa) THAT YtgecikhfkkkghaaProg.lean LOADS. Nothing in Lean hashes anything: it is a label: what it is worth is what the hold of that sum in a sandbox is worth. -/
noncomputable def Try.pinned : Pinned := { name := "ytgecikhfkkkghaa", sum := "e0a078811abe7dafc8700324d273122c30e2a758a89087cdb2e63109293192cf", checked := Try.checked }
namespace Rows
def none {H : Type} : Left H := { results := [], args := [] }

/-- 'laws.FnExactPointsBelow': WHATEVER THE INPUT: true; the input reads as it did. -/
def fnExactPointsBelowSpec : ChangeSpec := { name := "fnExactPointsBelow", fn := fun _ => fun
  | [d] => { results := [.lit (.bool true)], args := [d] }
  | _ => none }
def fnExactPointsBelowRow : OpenClaim := { program := "ytgecikhfkkkghaa", sum := "e0a078811abe7dafc8700324d273122c30e2a758a89087cdb2e63109293192cf", func := "loop.example/g01078/laws.FnExactPointsBelow", spec := "fnExactPointsBelow", unfollowed := true, recurses := true, apart := false }
def FnExactPointsBelowSaid : Prop := fnExactPointsBelowRow.holds Try.pinned (OpenSpec.ofChange fnExactPointsBelowSpec)

/-- ITS FALSE NEIGHBOUR: 'it returns false'. Refute it at one input. -/
def fnExactPointsBelowWrong : ChangeSpec := { name := "fnExactPointsBelow", fn := fun _ => fun
  | [d] => { results := [.lit (.bool false)], args := [d] }
  | _ => none }
def FnExactPointsBelowWrongFalsely : Prop := fnExactPointsBelowRow.holds Try.pinned (OpenSpec.ofChange fnExactPointsBelowWrong)

/-- 'laws.FnExactIsPointMap': WHATEVER THE INPUT: true; the input reads as it did. -/
def fnExactIsPointMapSpec : ChangeSpec := { name := "fnExactIsPointMap", fn := fun _ => fun
  | [d1, d2, d3] => { results := [.lit (.bool true)], args := [d1, d2, d3] }
  | _ => none }
def fnExactIsPointMapRow : OpenClaim := { program := "ytgecikhfkkkghaa", sum := "e0a078811abe7dafc8700324d273122c30e2a758a89087cdb2e63109293192cf", func := "loop.example/g01078/laws.FnExactIsPointMap", spec := "fnExactIsPointMap", unfollowed := true, recurses := true, apart := false }
def FnExactIsPointMapSaid : Prop := fnExactIsPointMapRow.holds Try.pinned (OpenSpec.ofChange fnExactIsPointMapSpec)

/-- ITS FALSE NEIGHBOUR: 'it returns false'. Refute it at one input. -/
def fnExactIsPointMapWrong : ChangeSpec := { name := "fnExactIsPointMap", fn := fun _ => fun
  | [d1, d2, d3] => { results := [.lit (.bool false)], args := [d1, d2, d3] }
  | _ => none }
def FnExactIsPointMapWrongFalsely : Prop := fnExactIsPointMapRow.holds Try.pinned (OpenSpec.ofChange fnExactIsPointMapWrong)

/-- 'laws.FnExactPointPoset': WHATEVER THE INPUT: true; the input reads as it did. -/
def fnExactPointPosetSpec : ChangeSpec := { name := "fnExactPointPoset", fn := fun _ => fun
  | [d] => { results := [.lit (.bool true)], args := [d] }
  | _ => none }
def fnExactPointPosetRow : OpenClaim := { program := "ytgecikhfkkkghaa", sum := "e0a078811abe7dafc8700324d273122c30e2a758a89087cdb2e63109293192cf", func := "loop.example/g01078/laws.FnExactPointPoset", spec := "fnExactPointPoset", unfollowed := true, recurses := true, apart := false }
def FnExactPointPosetSaid : Prop := fnExactPointPosetRow.holds Try.pinned (OpenSpec.ofChange fnExactPointPosetSpec)

/-- ITS FALSE NEIGHBOUR: 'it returns false'. Refute it at one input. -/
def fnExactPointPosetWrong : ChangeSpec := { name := "fnExactPointPoset", fn := fun _ => fun
  | [d] => { results := [.lit (.bool false)], args := [d] }
  | _ => none }
def FnExactPointPosetWrongFalsely : Prop := fnExactPointPosetRow.holds Try.pinned (OpenSpec.ofChange fnExactPointPosetWrong)

/-- 'laws.FnExactTopPoints': WHATEVER THE INPUT: true; the input reads as it did. -/
def fnExactTopPointsSpec : ChangeSpec := { name := "fnExactTopPoints", fn := fun _ => fun
  | [d1, d2] => { results := [.lit (.bool true)], args := [d1, d2] }
  | _ => none }
def fnExactTopPointsRow : OpenClaim := { program := "ytgecikhfkkkghaa", sum := "e0a078811abe7dafc8700324d273122c30e2a758a89087cdb2e63109293192cf", func := "loop.example/g01078/laws.FnExactTopPoints", spec := "fnExactTopPoints", unfollowed := true, recurses := true, apart := false }
def FnExactTopPointsSaid : Prop := fnExactTopPointsRow.holds Try.pinned (OpenSpec.ofChange fnExactTopPointsSpec)

/-- ITS FALSE NEIGHBOUR: 'it returns false'. Refute it at one input. -/
def fnExactTopPointsWrong : ChangeSpec := { name := "fnExactTopPoints", fn := fun _ => fun
  | [d1, d2] => { results := [.lit (.bool false)], args := [d1, d2] }
  | _ => none }
def FnExactTopPointsWrongFalsely : Prop := fnExactTopPointsRow.holds Try.pinned (OpenSpec.ofChange fnExactTopPointsWrong)

/-- 'laws.FnExactPointMapOf': WHATEVER THE INPUT: true; the input reads as it did. -/
def fnExactPointMapOfSpec : ChangeSpec := { name := "fnExactPointMapOf", fn := fun _ => fun
  | [d1, d2, d3] => { results := [.lit (.bool true)], args := [d1, d2, d3] }
  | _ => none }
def fnExactPointMapOfRow : OpenClaim := { program := "ytgecikhfkkkghaa", sum := "e0a078811abe7dafc8700324d273122c30e2a758a89087cdb2e63109293192cf", func := "loop.example/g01078/laws.FnExactPointMapOf", spec := "fnExactPointMapOf", unfollowed := true, recurses := true, apart := false }
def FnExactPointMapOfSaid : Prop := fnExactPointMapOfRow.holds Try.pinned (OpenSpec.ofChange fnExactPointMapOfSpec)

/-- ITS FALSE NEIGHBOUR: 'it returns false'. Refute it at one input. -/
def fnExactPointMapOfWrong : ChangeSpec := { name := "fnExactPointMapOf", fn := fun _ => fun
  | [d1, d2, d3] => { results := [.lit (.bool false)], args := [d1, d2, d3] }
  | _ => none }
def FnExactPointMapOfWrongFalsely : Prop := fnExactPointMapOfRow.holds Try.pinned (OpenSpec.ofChange fnExactPointMapOfWrong)

/-- 'laws.FnExactLatticeMapOf': WHATEVER THE INPUT: true; the input reads as it did. -/
def fnExactLatticeMapOfSpec : ChangeSpec := { name := "fnExactLatticeMapOf", fn := fun _ => fun
  | [d1, d2, d3] => { results := [.lit (.bool true)], args := [d1, d2, d3] }
  | _ => none }
def fnExactLatticeMapOfRow : OpenClaim := { program := "ytgecikhfkkkghaa", sum := "e0a078811abe7dafc8700324d273122c30e2a758a89087cdb2e63109293192cf", func := "loop.example/g01078/laws.FnExactLatticeMapOf", spec := "fnExactLatticeMapOf", unfollowed := true, recurses := true, apart := false }
def FnExactLatticeMapOfSaid : Prop := fnExactLatticeMapOfRow.holds Try.pinned (OpenSpec.ofChange fnExactLatticeMapOfSpec)

/-- ITS FALSE NEIGHBOUR: 'it returns false'. Refute it at one input. -/
def fnExactLatticeMapOfWrong : ChangeSpec := { name := "fnExactLatticeMapOf", fn := fun _ => fun
  | [d1, d2, d3] => { results := [.lit (.bool false)], args := [d1, d2, d3] }
  | _ => none }
def FnExactLatticeMapOfWrongFalsely : Prop := fnExactLatticeMapOfRow.holds Try.pinned (OpenSpec.ofChange fnExactLatticeMapOfWrong)

/-- 'laws.FnExactCountDownsets': WHATEVER THE INPUT: true; the input reads as it did. -/
def fnExactCountDownsetsSpec : ChangeSpec := { name := "fnExactCountDownsets", fn := fun _ => fun
  | [d] => { results := [.lit (.bool true)], args := [d] }
  | _ => none }
def fnExactCountDownsetsRow : OpenClaim := { program := "ytgecikhfkkkghaa", sum := "e0a078811abe7dafc8700324d273122c30e2a758a89087cdb2e63109293192cf", func := "loop.example/g01078/laws.FnExactCountDownsets", spec := "fnExactCountDownsets", inPlace := ["internal/reflectlite.ValueOf", "internal/reflectlite.Swapper", "(internal/reflectlite.Value).Len"], unfollowed := true, recurses := true, apart := false }
def FnExactCountDownsetsSaid : Prop := fnExactCountDownsetsRow.holds Try.pinned (OpenSpec.ofChange fnExactCountDownsetsSpec)

/-- ITS FALSE NEIGHBOUR: 'it returns false'. Refute it at one input. -/
def fnExactCountDownsetsWrong : ChangeSpec := { name := "fnExactCountDownsets", fn := fun _ => fun
  | [d] => { results := [.lit (.bool false)], args := [d] }
  | _ => none }
def FnExactCountDownsetsWrongFalsely : Prop := fnExactCountDownsetsRow.holds Try.pinned (OpenSpec.ofChange fnExactCountDownsetsWrong)

/-- 'laws.FnExactDownsetLattice': WHATEVER THE INPUT: true; the input reads as it did. -/
def fnExactDownsetLatticeSpec : ChangeSpec := { name := "fnExactDownsetLattice", fn := fun _ => fun
  | [d] => { results := [.lit (.bool true)], args := [d] }
  | _ => none }
def fnExactDownsetLatticeRow : OpenClaim := { program := "ytgecikhfkkkghaa", sum := "e0a078811abe7dafc8700324d273122c30e2a758a89087cdb2e63109293192cf", func := "loop.example/g01078/laws.FnExactDownsetLattice", spec := "fnExactDownsetLattice", inPlace := ["internal/reflectlite.ValueOf", "internal/reflectlite.Swapper", "(internal/reflectlite.Value).Len"], unfollowed := true, recurses := true, apart := false }
def FnExactDownsetLatticeSaid : Prop := fnExactDownsetLatticeRow.holds Try.pinned (OpenSpec.ofChange fnExactDownsetLatticeSpec)

/-- ITS FALSE NEIGHBOUR: 'it returns false'. Refute it at one input. -/
def fnExactDownsetLatticeWrong : ChangeSpec := { name := "fnExactDownsetLattice", fn := fun _ => fun
  | [d] => { results := [.lit (.bool false)], args := [d] }
  | _ => none }
def FnExactDownsetLatticeWrongFalsely : Prop := fnExactDownsetLatticeRow.holds Try.pinned (OpenSpec.ofChange fnExactDownsetLatticeWrong)

/-- 'laws.FnExactPrimeFilters': WHATEVER THE INPUT: true; the input reads as it did. -/
def fnExactPrimeFiltersSpec : ChangeSpec := { name := "fnExactPrimeFilters", fn := fun _ => fun
  | [d] => { results := [.lit (.bool true)], args := [d] }
  | _ => none }
def fnExactPrimeFiltersRow : OpenClaim := { program := "ytgecikhfkkkghaa", sum := "e0a078811abe7dafc8700324d273122c30e2a758a89087cdb2e63109293192cf", func := "loop.example/g01078/laws.FnExactPrimeFilters", spec := "fnExactPrimeFilters", inPlace := ["internal/reflectlite.ValueOf", "internal/reflectlite.Swapper", "(internal/reflectlite.Value).Len"], unfollowed := true, recurses := true, apart := false }
def FnExactPrimeFiltersSaid : Prop := fnExactPrimeFiltersRow.holds Try.pinned (OpenSpec.ofChange fnExactPrimeFiltersSpec)

/-- ITS FALSE NEIGHBOUR: 'it returns false'. Refute it at one input. -/
def fnExactPrimeFiltersWrong : ChangeSpec := { name := "fnExactPrimeFilters", fn := fun _ => fun
  | [d] => { results := [.lit (.bool false)], args := [d] }
  | _ => none }
def FnExactPrimeFiltersWrongFalsely : Prop := fnExactPrimeFiltersRow.holds Try.pinned (OpenSpec.ofChange fnExactPrimeFiltersWrong)

/-- 'laws.FnExactDownsetNumbers': WHATEVER THE INPUT: true; the input reads as it did. -/
def fnExactDownsetNumbersSpec : ChangeSpec := { name := "fnExactDownsetNumbers", fn := fun _ => fun
  | [d] => { results := [.lit (.bool true)], args := [d] }
  | _ => none }
def fnExactDownsetNumbersRow : OpenClaim := { program := "ytgecikhfkkkghaa", sum := "e0a078811abe7dafc8700324d273122c30e2a758a89087cdb2e63109293192cf", func := "loop.example/g01078/laws.FnExactDownsetNumbers", spec := "fnExactDownsetNumbers", inPlace := ["internal/reflectlite.ValueOf", "internal/reflectlite.Swapper", "(internal/reflectlite.Value).Len"], unfollowed := true, recurses := true, apart := false }
def FnExactDownsetNumbersSaid : Prop := fnExactDownsetNumbersRow.holds Try.pinned (OpenSpec.ofChange fnExactDownsetNumbersSpec)

/-- ITS FALSE NEIGHBOUR: 'it returns false'. Refute it at one input. -/
def fnExactDownsetNumbersWrong : ChangeSpec := { name := "fnExactDownsetNumbers", fn := fun _ => fun
  | [d] => { results := [.lit (.bool false)], args := [d] }
  | _ => none }
def FnExactDownsetNumbersWrongFalsely : Prop := fnExactDownsetNumbersRow.holds Try.pinned (OpenSpec.ofChange fnExactDownsetNumbersWrong)

/- THE SECOND FORM. 'bulk': how many values and letters a reading holds, each counted each time it is reached (what is shared counts as often as it is met; a slice's spare places count too). A statement '..UptoSaid' is the law's where the arguments, and the package variables that the reading takes, are together of bulk at most 1048576: NARROWER than '..Said'. Prove '..Said' where nothing that the law and all that it calls make is longer than what came in: it says more and counts as full. Else prove '..UptoSaid'. A law counts once. -/
mutual
def uptoBulk {H : Type} : DataW H → Nat
  | .lit (.string bytes) => bytes.length + 1
  | .lit _ => 1
  | .nil => 1
  | .ptr d => uptoBulk d + 1
  | .slice elems spare => uptoBulkAll elems + uptoBulkAll spare + 1
  | .agg parts => uptoBulkAll parts + 1
  | .iface _ d => uptoBulk d + 1
  | .map entries => uptoBulkEntries entries + 1
  | .held _ => 1
def uptoBulkAll {H : Type} : List (DataW H) → Nat
  | [] => 0
  | d :: r => uptoBulk d + uptoBulkAll r
def uptoBulkEntries {H : Type} : List (Lit × DataW H) → Nat
  | [] => 0
  | x :: r => uptoBulkEntry x + uptoBulkEntries r
def uptoBulkEntry {H : Type} : Lit × DataW H → Nat
  | (.string bytes, d) => bytes.length + uptoBulk d + 1
  | (_, d) => uptoBulk d + 1
 end
def uptoSmall : (H : Type) → List (DataW H) → Bool := fun _ ds => decide (uptoBulkAll ds ≤ 1048576)
def OpenSpec.upto (s : _root_.Go.ChangeSpec) : _root_.Go.OpenSpec := { _root_.Go.OpenSpec.ofChange s with cond := some uptoSmall }

/-- 'laws.FnExactPointsBelow', WHERE WHAT IT READS IS OF BULK AT MOST 1048576: true; the input reads as it did. -/
def fnExactPointsBelowUptoRow : OpenClaim := { program := "ytgecikhfkkkghaa", sum := "e0a078811abe7dafc8700324d273122c30e2a758a89087cdb2e63109293192cf", func := "loop.example/g01078/laws.FnExactPointsBelow", spec := "fnExactPointsBelow", unfollowed := true, recurses := true, apart := false, narrowed := true }
def FnExactPointsBelowUptoSaid : Prop := fnExactPointsBelowUptoRow.holds Try.pinned (OpenSpec.upto fnExactPointsBelowSpec)

/-- 'laws.FnExactIsPointMap', WHERE WHAT IT READS IS OF BULK AT MOST 1048576: true; the input reads as it did. -/
def fnExactIsPointMapUptoRow : OpenClaim := { program := "ytgecikhfkkkghaa", sum := "e0a078811abe7dafc8700324d273122c30e2a758a89087cdb2e63109293192cf", func := "loop.example/g01078/laws.FnExactIsPointMap", spec := "fnExactIsPointMap", unfollowed := true, recurses := true, apart := false, narrowed := true }
def FnExactIsPointMapUptoSaid : Prop := fnExactIsPointMapUptoRow.holds Try.pinned (OpenSpec.upto fnExactIsPointMapSpec)

/-- 'laws.FnExactPointPoset', WHERE WHAT IT READS IS OF BULK AT MOST 1048576: true; the input reads as it did. -/
def fnExactPointPosetUptoRow : OpenClaim := { program := "ytgecikhfkkkghaa", sum := "e0a078811abe7dafc8700324d273122c30e2a758a89087cdb2e63109293192cf", func := "loop.example/g01078/laws.FnExactPointPoset", spec := "fnExactPointPoset", unfollowed := true, recurses := true, apart := false, narrowed := true }
def FnExactPointPosetUptoSaid : Prop := fnExactPointPosetUptoRow.holds Try.pinned (OpenSpec.upto fnExactPointPosetSpec)

/-- 'laws.FnExactTopPoints', WHERE WHAT IT READS IS OF BULK AT MOST 1048576: true; the input reads as it did. -/
def fnExactTopPointsUptoRow : OpenClaim := { program := "ytgecikhfkkkghaa", sum := "e0a078811abe7dafc8700324d273122c30e2a758a89087cdb2e63109293192cf", func := "loop.example/g01078/laws.FnExactTopPoints", spec := "fnExactTopPoints", unfollowed := true, recurses := true, apart := false, narrowed := true }
def FnExactTopPointsUptoSaid : Prop := fnExactTopPointsUptoRow.holds Try.pinned (OpenSpec.upto fnExactTopPointsSpec)

/-- 'laws.FnExactPointMapOf', WHERE WHAT IT READS IS OF BULK AT MOST 1048576: true; the input reads as it did. -/
def fnExactPointMapOfUptoRow : OpenClaim := { program := "ytgecikhfkkkghaa", sum := "e0a078811abe7dafc8700324d273122c30e2a758a89087cdb2e63109293192cf", func := "loop.example/g01078/laws.FnExactPointMapOf", spec := "fnExactPointMapOf", unfollowed := true, recurses := true, apart := false, narrowed := true }
def FnExactPointMapOfUptoSaid : Prop := fnExactPointMapOfUptoRow.holds Try.pinned (OpenSpec.upto fnExactPointMapOfSpec)

/-- 'laws.FnExactLatticeMapOf', WHERE WHAT IT READS IS OF BULK AT MOST 1048576: true; the input reads as it did. -/
def fnExactLatticeMapOfUptoRow : OpenClaim := { program := "ytgecikhfkkkghaa", sum := "e0a078811abe7dafc8700324d273122c30e2a758a89087cdb2e63109293192cf", func := "loop.example/g01078/laws.FnExactLatticeMapOf", spec := "fnExactLatticeMapOf", unfollowed := true, recurses := true, apart := false, narrowed := true }
def FnExactLatticeMapOfUptoSaid : Prop := fnExactLatticeMapOfUptoRow.holds Try.pinned (OpenSpec.upto fnExactLatticeMapOfSpec)

/-- 'laws.FnExactCountDownsets', WHERE WHAT IT READS IS OF BULK AT MOST 1048576: true; the input reads as it did. -/
def fnExactCountDownsetsUptoRow : OpenClaim := { program := "ytgecikhfkkkghaa", sum := "e0a078811abe7dafc8700324d273122c30e2a758a89087cdb2e63109293192cf", func := "loop.example/g01078/laws.FnExactCountDownsets", spec := "fnExactCountDownsets", inPlace := ["internal/reflectlite.ValueOf", "internal/reflectlite.Swapper", "(internal/reflectlite.Value).Len"], unfollowed := true, recurses := true, apart := false, narrowed := true }
def FnExactCountDownsetsUptoSaid : Prop := fnExactCountDownsetsUptoRow.holds Try.pinned (OpenSpec.upto fnExactCountDownsetsSpec)

/-- 'laws.FnExactDownsetLattice', WHERE WHAT IT READS IS OF BULK AT MOST 1048576: true; the input reads as it did. -/
def fnExactDownsetLatticeUptoRow : OpenClaim := { program := "ytgecikhfkkkghaa", sum := "e0a078811abe7dafc8700324d273122c30e2a758a89087cdb2e63109293192cf", func := "loop.example/g01078/laws.FnExactDownsetLattice", spec := "fnExactDownsetLattice", inPlace := ["internal/reflectlite.ValueOf", "internal/reflectlite.Swapper", "(internal/reflectlite.Value).Len"], unfollowed := true, recurses := true, apart := false, narrowed := true }
def FnExactDownsetLatticeUptoSaid : Prop := fnExactDownsetLatticeUptoRow.holds Try.pinned (OpenSpec.upto fnExactDownsetLatticeSpec)

/-- 'laws.FnExactPrimeFilters', WHERE WHAT IT READS IS OF BULK AT MOST 1048576: true; the input reads as it did. -/
def fnExactPrimeFiltersUptoRow : OpenClaim := { program := "ytgecikhfkkkghaa", sum := "e0a078811abe7dafc8700324d273122c30e2a758a89087cdb2e63109293192cf", func := "loop.example/g01078/laws.FnExactPrimeFilters", spec := "fnExactPrimeFilters", inPlace := ["internal/reflectlite.ValueOf", "internal/reflectlite.Swapper", "(internal/reflectlite.Value).Len"], unfollowed := true, recurses := true, apart := false, narrowed := true }
def FnExactPrimeFiltersUptoSaid : Prop := fnExactPrimeFiltersUptoRow.holds Try.pinned (OpenSpec.upto fnExactPrimeFiltersSpec)

/-- 'laws.FnExactDownsetNumbers', WHERE WHAT IT READS IS OF BULK AT MOST 1048576: true; the input reads as it did. -/
def fnExactDownsetNumbersUptoRow : OpenClaim := { program := "ytgecikhfkkkghaa", sum := "e0a078811abe7dafc8700324d273122c30e2a758a89087cdb2e63109293192cf", func := "loop.example/g01078/laws.FnExactDownsetNumbers", spec := "fnExactDownsetNumbers", inPlace := ["internal/reflectlite.ValueOf", "internal/reflectlite.Swapper", "(internal/reflectlite.Value).Len"], unfollowed := true, recurses := true, apart := false, narrowed := true }
def FnExactDownsetNumbersUptoSaid : Prop := fnExactDownsetNumbersUptoRow.holds Try.pinned (OpenSpec.upto fnExactDownsetNumbersSpec)

end Rows
end Go.Proofs.Ytgecikhfkkkghaa
