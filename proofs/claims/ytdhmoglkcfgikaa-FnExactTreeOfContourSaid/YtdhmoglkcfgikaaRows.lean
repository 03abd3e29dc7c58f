/-
  No cell of these rows narrows 'for every input' (looked for: loops, veiled, ifaces, maps, wideKeys, modest, calm, conditions, laid).
  DERIVED. THE GIVEN ROWS OF THIS SEAT. 13 by the template 'for every input the law returns true; each argument reads behind the call as it read before'; 0 by the template 'total and deterministic' (their statements: YtdhmoglkcfgikaaTotals.lean).
  GIVEN WITH THE SEED: the statements are not yours to turn. If you find one false, say at which input.
  Laid BY PROGRAM, IN A SANDBOX (cutbox-rows.mjs): the forced cells as the released guide's own fill.sh prints them over the translation 252f95b211a6e555… (all of the seat's roots in one cut). By AI agents, Wed Nov 11 2026. No macro, syntax, notation, axiom, sorry.
-/
import Derived.Test.YtdhmoglkcfgikaaChecked
import GoSem.Claim
import GoSem.ClaimJoined
import GoSem.ClaimMapViews
import Derived.JoinedTies
import Derived.KernelRfl
namespace Go.Proofs.Ytdhmoglkcfgikaa
/- THE CELL 'sum', in the pinned program and in every row, IS THE sha256 OF THE DUMP (.gsa) THAT YtdhmoglkcfgikaaProg.lean LOADS. Nothing in Lean hashes anything: it is a label: what it is worth is what the hold of that sum in a sandbox is worth. -/
noncomputable def Try.pinned : Pinned := { name := "ytdhmoglkcfgikaa", sum := "252f95b211a6e5558baf6cccc97e53ddbca7b25e406a175a99ea23032da845cd", checked := Try.checked }
namespace Rows
def none {H : Type} : Left H := { results := [], args := [] }

/-- 'laws.FnExactTreeOfDepths': WHATEVER THE INPUT: true; the input reads as it did. -/
def fnExactTreeOfDepthsSpec : ChangeSpec := { name := "fnExactTreeOfDepths", fn := fun _ => fun
  | [d] => { results := [.lit (.bool true)], args := [d] }
  | _ => none }
def fnExactTreeOfDepthsRow : OpenClaim := { program := "ytdhmoglkcfgikaa", sum := "252f95b211a6e5558baf6cccc97e53ddbca7b25e406a175a99ea23032da845cd", func := "loop.example/g01391/laws.FnExactTreeOfDepths", spec := "fnExactTreeOfDepths", apart := false }
def FnExactTreeOfDepthsSaid : Prop := fnExactTreeOfDepthsRow.holds Try.pinned (OpenSpec.ofChange fnExactTreeOfDepthsSpec)

/-- ITS FALSE NEIGHBOUR: 'it returns false'. Refute it at one input. -/
def fnExactTreeOfDepthsWrong : ChangeSpec := { name := "fnExactTreeOfDepths", fn := fun _ => fun
  | [d] => { results := [.lit (.bool false)], args := [d] }
  | _ => none }
def FnExactTreeOfDepthsWrongFalsely : Prop := fnExactTreeOfDepthsRow.holds Try.pinned (OpenSpec.ofChange fnExactTreeOfDepthsWrong)

/-- 'laws.FnExactContourOf': WHATEVER THE INPUT: true; the input reads as it did. -/
def fnExactContourOfSpec : ChangeSpec := { name := "fnExactContourOf", fn := fun _ => fun
  | [d] => { results := [.lit (.bool true)], args := [d] }
  | _ => none }
def fnExactContourOfRow : OpenClaim := { program := "ytdhmoglkcfgikaa", sum := "252f95b211a6e5558baf6cccc97e53ddbca7b25e406a175a99ea23032da845cd", func := "loop.example/g01391/laws.FnExactContourOf", spec := "fnExactContourOf", recurses := true, apart := false }
def FnExactContourOfSaid : Prop := fnExactContourOfRow.holds Try.pinned (OpenSpec.ofChange fnExactContourOfSpec)

/-- ITS FALSE NEIGHBOUR: 'it returns false'. Refute it at one input. -/
def fnExactContourOfWrong : ChangeSpec := { name := "fnExactContourOf", fn := fun _ => fun
  | [d] => { results := [.lit (.bool false)], args := [d] }
  | _ => none }
def FnExactContourOfWrongFalsely : Prop := fnExactContourOfRow.holds Try.pinned (OpenSpec.ofChange fnExactContourOfWrong)

/-- 'laws.FnExactTreeOfContour': WHATEVER THE INPUT: true; the input reads as it did. -/
def fnExactTreeOfContourSpec : ChangeSpec := { name := "fnExactTreeOfContour", fn := fun _ => fun
  | [d] => { results := [.lit (.bool true)], args := [d] }
  | _ => none }
def fnExactTreeOfContourRow : OpenClaim := { program := "ytdhmoglkcfgikaa", sum := "252f95b211a6e5558baf6cccc97e53ddbca7b25e406a175a99ea23032da845cd", func := "loop.example/g01391/laws.FnExactTreeOfContour", spec := "fnExactTreeOfContour", recurses := true, apart := false }
def FnExactTreeOfContourSaid : Prop := fnExactTreeOfContourRow.holds Try.pinned (OpenSpec.ofChange fnExactTreeOfContourSpec)

/-- ITS FALSE NEIGHBOUR: 'it returns false'. Refute it at one input. -/
def fnExactTreeOfContourWrong : ChangeSpec := { name := "fnExactTreeOfContour", fn := fun _ => fun
  | [d] => { results := [.lit (.bool false)], args := [d] }
  | _ => none }
def FnExactTreeOfContourWrongFalsely : Prop := fnExactTreeOfContourRow.holds Try.pinned (OpenSpec.ofChange fnExactTreeOfContourWrong)

/-- 'laws.FnExactMiddleNodes': WHATEVER THE INPUT: true; the input reads as it did. -/
def fnExactMiddleNodesSpec : ChangeSpec := { name := "fnExactMiddleNodes", fn := fun _ => fun
  | [d] => { results := [.lit (.bool true)], args := [d] }
  | _ => none }
def fnExactMiddleNodesRow : OpenClaim := { program := "ytdhmoglkcfgikaa", sum := "252f95b211a6e5558baf6cccc97e53ddbca7b25e406a175a99ea23032da845cd", func := "loop.example/g01391/laws.FnExactMiddleNodes", spec := "fnExactMiddleNodes", apart := false }
def FnExactMiddleNodesSaid : Prop := fnExactMiddleNodesRow.holds Try.pinned (OpenSpec.ofChange fnExactMiddleNodesSpec)

/-- ITS FALSE NEIGHBOUR: 'it returns false'. Refute it at one input. -/
def fnExactMiddleNodesWrong : ChangeSpec := { name := "fnExactMiddleNodes", fn := fun _ => fun
  | [d] => { results := [.lit (.bool false)], args := [d] }
  | _ => none }
def FnExactMiddleNodesWrongFalsely : Prop := fnExactMiddleNodesRow.holds Try.pinned (OpenSpec.ofChange fnExactMiddleNodesWrong)

/-- 'laws.FnExactAroundOf': WHATEVER THE INPUT: true; the input reads as it did. -/
def fnExactAroundOfSpec : ChangeSpec := { name := "fnExactAroundOf", fn := fun _ => fun
  | [d1, d2] => { results := [.lit (.bool true)], args := [d1, d2] }
  | _ => none }
def fnExactAroundOfRow : OpenClaim := { program := "ytdhmoglkcfgikaa", sum := "252f95b211a6e5558baf6cccc97e53ddbca7b25e406a175a99ea23032da845cd", func := "loop.example/g01391/laws.FnExactAroundOf", spec := "fnExactAroundOf", apart := false }
def FnExactAroundOfSaid : Prop := fnExactAroundOfRow.holds Try.pinned (OpenSpec.ofChange fnExactAroundOfSpec)

/-- ITS FALSE NEIGHBOUR: 'it returns false'. Refute it at one input. -/
def fnExactAroundOfWrong : ChangeSpec := { name := "fnExactAroundOf", fn := fun _ => fun
  | [d1, d2] => { results := [.lit (.bool false)], args := [d1, d2] }
  | _ => none }
def FnExactAroundOfWrongFalsely : Prop := fnExactAroundOfRow.holds Try.pinned (OpenSpec.ofChange fnExactAroundOfWrong)

/-- 'laws.FnExactWidthsOf': WHATEVER THE INPUT: true; the input reads as it did. -/
def fnExactWidthsOfSpec : ChangeSpec := { name := "fnExactWidthsOf", fn := fun _ => fun
  | [d] => { results := [.lit (.bool true)], args := [d] }
  | _ => none }
def fnExactWidthsOfRow : OpenClaim := { program := "ytdhmoglkcfgikaa", sum := "252f95b211a6e5558baf6cccc97e53ddbca7b25e406a175a99ea23032da845cd", func := "loop.example/g01391/laws.FnExactWidthsOf", spec := "fnExactWidthsOf", apart := false }
def FnExactWidthsOfSaid : Prop := fnExactWidthsOfRow.holds Try.pinned (OpenSpec.ofChange fnExactWidthsOfSpec)

/-- ITS FALSE NEIGHBOUR: 'it returns false'. Refute it at one input. -/
def fnExactWidthsOfWrong : ChangeSpec := { name := "fnExactWidthsOf", fn := fun _ => fun
  | [d] => { results := [.lit (.bool false)], args := [d] }
  | _ => none }
def FnExactWidthsOfWrongFalsely : Prop := fnExactWidthsOfRow.holds Try.pinned (OpenSpec.ofChange fnExactWidthsOfWrong)

/-- 'laws.FnExactSumOfDistances': WHATEVER THE INPUT: true; the input reads as it did. -/
def fnExactSumOfDistancesSpec : ChangeSpec := { name := "fnExactSumOfDistances", fn := fun _ => fun
  | [d] => { results := [.lit (.bool true)], args := [d] }
  | _ => none }
def fnExactSumOfDistancesRow : OpenClaim := { program := "ytdhmoglkcfgikaa", sum := "252f95b211a6e5558baf6cccc97e53ddbca7b25e406a175a99ea23032da845cd", func := "loop.example/g01391/laws.FnExactSumOfDistances", spec := "fnExactSumOfDistances", apart := false }
def FnExactSumOfDistancesSaid : Prop := fnExactSumOfDistancesRow.holds Try.pinned (OpenSpec.ofChange fnExactSumOfDistancesSpec)

/-- ITS FALSE NEIGHBOUR: 'it returns false'. Refute it at one input. -/
def fnExactSumOfDistancesWrong : ChangeSpec := { name := "fnExactSumOfDistances", fn := fun _ => fun
  | [d] => { results := [.lit (.bool false)], args := [d] }
  | _ => none }
def FnExactSumOfDistancesWrongFalsely : Prop := fnExactSumOfDistancesRow.holds Try.pinned (OpenSpec.ofChange fnExactSumOfDistancesWrong)

/-- 'laws.FnExactLayersOf': WHATEVER THE INPUT: true; the input reads as it did. -/
def fnExactLayersOfSpec : ChangeSpec := { name := "fnExactLayersOf", fn := fun _ => fun
  | [d] => { results := [.lit (.bool true)], args := [d] }
  | _ => none }
def fnExactLayersOfRow : OpenClaim := { program := "ytdhmoglkcfgikaa", sum := "252f95b211a6e5558baf6cccc97e53ddbca7b25e406a175a99ea23032da845cd", func := "loop.example/g01391/laws.FnExactLayersOf", spec := "fnExactLayersOf", apart := false }
def FnExactLayersOfSaid : Prop := fnExactLayersOfRow.holds Try.pinned (OpenSpec.ofChange fnExactLayersOfSpec)

/-- ITS FALSE NEIGHBOUR: 'it returns false'. Refute it at one input. -/
def fnExactLayersOfWrong : ChangeSpec := { name := "fnExactLayersOf", fn := fun _ => fun
  | [d] => { results := [.lit (.bool false)], args := [d] }
  | _ => none }
def FnExactLayersOfWrongFalsely : Prop := fnExactLayersOfRow.holds Try.pinned (OpenSpec.ofChange fnExactLayersOfWrong)

/-- 'laws.FnExactStepsBetween': WHATEVER THE INPUT: true; the input reads as it did. -/
def fnExactStepsBetweenSpec : ChangeSpec := { name := "fnExactStepsBetween", fn := fun _ => fun
  | [d1, d2, d3] => { results := [.lit (.bool true)], args := [d1, d2, d3] }
  | _ => none }
def fnExactStepsBetweenRow : OpenClaim := { program := "ytdhmoglkcfgikaa", sum := "252f95b211a6e5558baf6cccc97e53ddbca7b25e406a175a99ea23032da845cd", func := "loop.example/g01391/laws.FnExactStepsBetween", spec := "fnExactStepsBetween", apart := false }
def FnExactStepsBetweenSaid : Prop := fnExactStepsBetweenRow.holds Try.pinned (OpenSpec.ofChange fnExactStepsBetweenSpec)

/-- ITS FALSE NEIGHBOUR: 'it returns false'. Refute it at one input. -/
def fnExactStepsBetweenWrong : ChangeSpec := { name := "fnExactStepsBetween", fn := fun _ => fun
  | [d1, d2, d3] => { results := [.lit (.bool false)], args := [d1, d2, d3] }
  | _ => none }
def FnExactStepsBetweenWrongFalsely : Prop := fnExactStepsBetweenRow.holds Try.pinned (OpenSpec.ofChange fnExactStepsBetweenWrong)

/-- 'laws.FnExactReachesOf': WHATEVER THE INPUT: true; the input reads as it did. -/
def fnExactReachesOfSpec : ChangeSpec := { name := "fnExactReachesOf", fn := fun _ => fun
  | [d] => { results := [.lit (.bool true)], args := [d] }
  | _ => none }
def fnExactReachesOfRow : OpenClaim := { program := "ytdhmoglkcfgikaa", sum := "252f95b211a6e5558baf6cccc97e53ddbca7b25e406a175a99ea23032da845cd", func := "loop.example/g01391/laws.FnExactReachesOf", spec := "fnExactReachesOf", apart := false }
def FnExactReachesOfSaid : Prop := fnExactReachesOfRow.holds Try.pinned (OpenSpec.ofChange fnExactReachesOfSpec)

/-- ITS FALSE NEIGHBOUR: 'it returns false'. Refute it at one input. -/
def fnExactReachesOfWrong : ChangeSpec := { name := "fnExactReachesOf", fn := fun _ => fun
  | [d] => { results := [.lit (.bool false)], args := [d] }
  | _ => none }
def FnExactReachesOfWrongFalsely : Prop := fnExactReachesOfRow.holds Try.pinned (OpenSpec.ofChange fnExactReachesOfWrong)

/-- 'laws.FnExactWayBetween': WHATEVER THE INPUT: true; the input reads as it did. -/
def fnExactWayBetweenSpec : ChangeSpec := { name := "fnExactWayBetween", fn := fun _ => fun
  | [d1, d2, d3] => { results := [.lit (.bool true)], args := [d1, d2, d3] }
  | _ => none }
def fnExactWayBetweenRow : OpenClaim := { program := "ytdhmoglkcfgikaa", sum := "252f95b211a6e5558baf6cccc97e53ddbca7b25e406a175a99ea23032da845cd", func := "loop.example/g01391/laws.FnExactWayBetween", spec := "fnExactWayBetween", apart := false }
def FnExactWayBetweenSaid : Prop := fnExactWayBetweenRow.holds Try.pinned (OpenSpec.ofChange fnExactWayBetweenSpec)

/-- ITS FALSE NEIGHBOUR: 'it returns false'. Refute it at one input. -/
def fnExactWayBetweenWrong : ChangeSpec := { name := "fnExactWayBetween", fn := fun _ => fun
  | [d1, d2, d3] => { results := [.lit (.bool false)], args := [d1, d2, d3] }
  | _ => none }
def FnExactWayBetweenWrongFalsely : Prop := fnExactWayBetweenRow.holds Try.pinned (OpenSpec.ofChange fnExactWayBetweenWrong)

/-- 'laws.FnExactCentresOf': WHATEVER THE INPUT: true; the input reads as it did. -/
def fnExactCentresOfSpec : ChangeSpec := { name := "fnExactCentresOf", fn := fun _ => fun
  | [d] => { results := [.lit (.bool true)], args := [d] }
  | _ => none }
def fnExactCentresOfRow : OpenClaim := { program := "ytdhmoglkcfgikaa", sum := "252f95b211a6e5558baf6cccc97e53ddbca7b25e406a175a99ea23032da845cd", func := "loop.example/g01391/laws.FnExactCentresOf", spec := "fnExactCentresOf", apart := false }
def FnExactCentresOfSaid : Prop := fnExactCentresOfRow.holds Try.pinned (OpenSpec.ofChange fnExactCentresOfSpec)

/-- ITS FALSE NEIGHBOUR: 'it returns false'. Refute it at one input. -/
def fnExactCentresOfWrong : ChangeSpec := { name := "fnExactCentresOf", fn := fun _ => fun
  | [d] => { results := [.lit (.bool false)], args := [d] }
  | _ => none }
def FnExactCentresOfWrongFalsely : Prop := fnExactCentresOfRow.holds Try.pinned (OpenSpec.ofChange fnExactCentresOfWrong)

/-- 'laws.FnExactLongestWay': WHATEVER THE INPUT: true; the input reads as it did. -/
def fnExactLongestWaySpec : ChangeSpec := { name := "fnExactLongestWay", fn := fun _ => fun
  | [d] => { results := [.lit (.bool true)], args := [d] }
  | _ => none }
def fnExactLongestWayRow : OpenClaim := { program := "ytdhmoglkcfgikaa", sum := "252f95b211a6e5558baf6cccc97e53ddbca7b25e406a175a99ea23032da845cd", func := "loop.example/g01391/laws.FnExactLongestWay", spec := "fnExactLongestWay", apart := false }
def FnExactLongestWaySaid : Prop := fnExactLongestWayRow.holds Try.pinned (OpenSpec.ofChange fnExactLongestWaySpec)

/-- ITS FALSE NEIGHBOUR: 'it returns false'. Refute it at one input. -/
def fnExactLongestWayWrong : ChangeSpec := { name := "fnExactLongestWay", fn := fun _ => fun
  | [d] => { results := [.lit (.bool false)], args := [d] }
  | _ => none }
def FnExactLongestWayWrongFalsely : Prop := fnExactLongestWayRow.holds Try.pinned (OpenSpec.ofChange fnExactLongestWayWrong)

/- THE SECOND FORM. 'bulk': how many values and letters a reading holds, each counted each time it is reached (what is shared counts as often as it is met; a slice's spare places count too). A statement '..UptoSaid' is the law's where the arguments, and the package variables that the reading takes, are together of bulk at most 1048576: NARROWER than '..Said'. Prove '..Said' where nothing that the law and all that it calls make is longer than what came in: it says more and counts as full. Else prove '..UptoSaid'. A law counts once. -/
mutual
def uptoBulk {H : Type} : DataW H → Nat
  | .lit (.string bytes) => bytes.length + 1
  | .lit _ => 1
  | .nil => 1
  | .ptr d => uptoBulk d + 1
  | .slice elems spare => uptoBulkAll elems + uptoBulkAll spare + 1
  | .agg parts => uptoBulkAll parts + 1
  | .iface _ d => uptoBulk d + 1
  | .map entries => uptoBulkEntries entries + 1
  | .held _ => 1
def uptoBulkAll {H : Type} : List (DataW H) → Nat
  | [] => 0
  | d :: r => uptoBulk d + uptoBulkAll r
def uptoBulkEntries {H : Type} : List (Lit × DataW H) → Nat
  | [] => 0
  | x :: r => uptoBulkEntry x + uptoBulkEntries r
def uptoBulkEntry {H : Type} : Lit × DataW H → Nat
  | (.string bytes, d) => bytes.length + uptoBulk d + 1
  | (_, d) => uptoBulk d + 1
 end
def uptoSmall : (H : Type) → List (DataW H) → Bool := fun _ ds => decide (uptoBulkAll ds ≤ 1048576)
def OpenSpec.upto (s : _root_.Go.ChangeSpec) : _root_.Go.OpenSpec := { _root_.Go.OpenSpec.ofChange s with cond := some uptoSmall }

/-- 'laws.FnExactTreeOfDepths', WHERE WHAT IT READS IS OF BULK AT MOST 1048576: true; the input reads as it did. -/
def fnExactTreeOfDepthsUptoRow : OpenClaim := { program := "ytdhmoglkcfgikaa", sum := "252f95b211a6e5558baf6cccc97e53ddbca7b25e406a175a99ea23032da845cd", func := "loop.example/g01391/laws.FnExactTreeOfDepths", spec := "fnExactTreeOfDepths", apart := false, narrowed := true }
def FnExactTreeOfDepthsUptoSaid : Prop := fnExactTreeOfDepthsUptoRow.holds Try.pinned (OpenSpec.upto fnExactTreeOfDepthsSpec)

/-- 'laws.FnExactContourOf', WHERE WHAT IT READS IS OF BULK AT MOST 1048576: true; the input reads as it did. -/
def fnExactContourOfUptoRow : OpenClaim := { program := "ytdhmoglkcfgikaa", sum := "252f95b211a6e5558baf6cccc97e53ddbca7b25e406a175a99ea23032da845cd", func := "loop.example/g01391/laws.FnExactContourOf", spec := "fnExactContourOf", recurses := true, apart := false, narrowed := true }
def FnExactContourOfUptoSaid : Prop := fnExactContourOfUptoRow.holds Try.pinned (OpenSpec.upto fnExactContourOfSpec)

/-- 'laws.FnExactTreeOfContour', WHERE WHAT IT READS IS OF BULK AT MOST 1048576: true; the input reads as it did. -/
def fnExactTreeOfContourUptoRow : OpenClaim := { program := "ytdhmoglkcfgikaa", sum := "252f95b211a6e5558baf6cccc97e53ddbca7b25e406a175a99ea23032da845cd", func := "loop.example/g01391/laws.FnExactTreeOfContour", spec := "fnExactTreeOfContour", recurses := true, apart := false, narrowed := true }
def FnExactTreeOfContourUptoSaid : Prop := fnExactTreeOfContourUptoRow.holds Try.pinned (OpenSpec.upto fnExactTreeOfContourSpec)

/-- 'laws.FnExactMiddleNodes', WHERE WHAT IT READS IS OF BULK AT MOST 1048576: true; the input reads as it did. -/
def fnExactMiddleNodesUptoRow : OpenClaim := { program := "ytdhmoglkcfgikaa", sum := "252f95b211a6e5558baf6cccc97e53ddbca7b25e406a175a99ea23032da845cd", func := "loop.example/g01391/laws.FnExactMiddleNodes", spec := "fnExactMiddleNodes", apart := false, narrowed := true }
def FnExactMiddleNodesUptoSaid : Prop := fnExactMiddleNodesUptoRow.holds Try.pinned (OpenSpec.upto fnExactMiddleNodesSpec)

/-- 'laws.FnExactAroundOf', WHERE WHAT IT READS IS OF BULK AT MOST 1048576: true; the input reads as it did. -/
def fnExactAroundOfUptoRow : OpenClaim := { program := "ytdhmoglkcfgikaa", sum := "252f95b211a6e5558baf6cccc97e53ddbca7b25e406a175a99ea23032da845cd", func := "loop.example/g01391/laws.FnExactAroundOf", spec := "fnExactAroundOf", apart := false, narrowed := true }
def FnExactAroundOfUptoSaid : Prop := fnExactAroundOfUptoRow.holds Try.pinned (OpenSpec.upto fnExactAroundOfSpec)

/-- 'laws.FnExactWidthsOf', WHERE WHAT IT READS IS OF BULK AT MOST 1048576: true; the input reads as it did. -/
def fnExactWidthsOfUptoRow : OpenClaim := { program := "ytdhmoglkcfgikaa", sum := "252f95b211a6e5558baf6cccc97e53ddbca7b25e406a175a99ea23032da845cd", func := "loop.example/g01391/laws.FnExactWidthsOf", spec := "fnExactWidthsOf", apart := false, narrowed := true }
def FnExactWidthsOfUptoSaid : Prop := fnExactWidthsOfUptoRow.holds Try.pinned (OpenSpec.upto fnExactWidthsOfSpec)

/-- 'laws.FnExactSumOfDistances', WHERE WHAT IT READS IS OF BULK AT MOST 1048576: true; the input reads as it did. -/
def fnExactSumOfDistancesUptoRow : OpenClaim := { program := "ytdhmoglkcfgikaa", sum := "252f95b211a6e5558baf6cccc97e53ddbca7b25e406a175a99ea23032da845cd", func := "loop.example/g01391/laws.FnExactSumOfDistances", spec := "fnExactSumOfDistances", apart := false, narrowed := true }
def FnExactSumOfDistancesUptoSaid : Prop := fnExactSumOfDistancesUptoRow.holds Try.pinned (OpenSpec.upto fnExactSumOfDistancesSpec)

/-- 'laws.FnExactLayersOf', WHERE WHAT IT READS IS OF BULK AT MOST 1048576: true; the input reads as it did. -/
def fnExactLayersOfUptoRow : OpenClaim := { program := "ytdhmoglkcfgikaa", sum := "252f95b211a6e5558baf6cccc97e53ddbca7b25e406a175a99ea23032da845cd", func := "loop.example/g01391/laws.FnExactLayersOf", spec := "fnExactLayersOf", apart := false, narrowed := true }
def FnExactLayersOfUptoSaid : Prop := fnExactLayersOfUptoRow.holds Try.pinned (OpenSpec.upto fnExactLayersOfSpec)

/-- 'laws.FnExactStepsBetween', WHERE WHAT IT READS IS OF BULK AT MOST 1048576: true; the input reads as it did. -/
def fnExactStepsBetweenUptoRow : OpenClaim := { program := "ytdhmoglkcfgikaa", sum := "252f95b211a6e5558baf6cccc97e53ddbca7b25e406a175a99ea23032da845cd", func := "loop.example/g01391/laws.FnExactStepsBetween", spec := "fnExactStepsBetween", apart := false, narrowed := true }
def FnExactStepsBetweenUptoSaid : Prop := fnExactStepsBetweenUptoRow.holds Try.pinned (OpenSpec.upto fnExactStepsBetweenSpec)

/-- 'laws.FnExactReachesOf', WHERE WHAT IT READS IS OF BULK AT MOST 1048576: true; the input reads as it did. -/
def fnExactReachesOfUptoRow : OpenClaim := { program := "ytdhmoglkcfgikaa", sum := "252f95b211a6e5558baf6cccc97e53ddbca7b25e406a175a99ea23032da845cd", func := "loop.example/g01391/laws.FnExactReachesOf", spec := "fnExactReachesOf", apart := false, narrowed := true }
def FnExactReachesOfUptoSaid : Prop := fnExactReachesOfUptoRow.holds Try.pinned (OpenSpec.upto fnExactReachesOfSpec)

/-- 'laws.FnExactWayBetween', WHERE WHAT IT READS IS OF BULK AT MOST 1048576: true; the input reads as it did. -/
def fnExactWayBetweenUptoRow : OpenClaim := { program := "ytdhmoglkcfgikaa", sum := "252f95b211a6e5558baf6cccc97e53ddbca7b25e406a175a99ea23032da845cd", func := "loop.example/g01391/laws.FnExactWayBetween", spec := "fnExactWayBetween", apart := false, narrowed := true }
def FnExactWayBetweenUptoSaid : Prop := fnExactWayBetweenUptoRow.holds Try.pinned (OpenSpec.upto fnExactWayBetweenSpec)

/-- 'laws.FnExactCentresOf', WHERE WHAT IT READS IS OF BULK AT MOST 1048576: true; the input reads as it did. -/
def fnExactCentresOfUptoRow : OpenClaim := { program := "ytdhmoglkcfgikaa", sum := "252f95b211a6e5558baf6cccc97e53ddbca7b25e406a175a99ea23032da845cd", func := "loop.example/g01391/laws.FnExactCentresOf", spec := "fnExactCentresOf", apart := false, narrowed := true }
def FnExactCentresOfUptoSaid : Prop := fnExactCentresOfUptoRow.holds Try.pinned (OpenSpec.upto fnExactCentresOfSpec)

/-- 'laws.FnExactLongestWay', WHERE WHAT IT READS IS OF BULK AT MOST 1048576: true; the input reads as it did. -/
def fnExactLongestWayUptoRow : OpenClaim := { program := "ytdhmoglkcfgikaa", sum := "252f95b211a6e5558baf6cccc97e53ddbca7b25e406a175a99ea23032da845cd", func := "loop.example/g01391/laws.FnExactLongestWay", spec := "fnExactLongestWay", apart := false, narrowed := true }
def FnExactLongestWayUptoSaid : Prop := fnExactLongestWayUptoRow.holds Try.pinned (OpenSpec.upto fnExactLongestWaySpec)

end Rows
end Go.Proofs.Ytdhmoglkcfgikaa
