/-
  No cell of these rows narrows 'for every input' (looked for: loops, veiled, ifaces, maps, wideKeys, modest, calm, conditions, laid).
  DERIVED. THE GIVEN ROWS OF THIS SEAT. 6 by the template 'for every input the law returns true; each argument reads behind the call as it read before'; 0 by the template 'total and deterministic' (their statements: YtmambanmffdibaaTotals.lean).
  GIVEN WITH THE SEED: the statements are not yours to turn. If you find one false, say at which input.
  Laid BY PROGRAM, IN A SANDBOX (cutbox-rows.mjs): the forced cells as the released guide's own fill.sh prints them over the translation 50a5e188eed00ba4… (all of the seat's roots in one cut). By AI agents, Wed Nov 11 2026. No macro, syntax, notation, axiom, sorry.
-/
import Derived.Test.YtmambanmffdibaaChecked
import GoSem.Claim
import GoSem.ClaimJoined
import GoSem.ClaimMapViews
import Derived.JoinedTies
import Derived.KernelRfl
namespace Go.Proofs.Ytmambanmffdibaa
/- THE CELL 'sum', in the pinned program and in every row, IS THE sha256 OF THE DUMP (.gsa) THAT YtmambanmffdibaaProg.lean LOADS. Nothing in Lean hashes anything: it is a label: what it is worth is what the hold of that sum in a sandbox is worth. -/
noncomputable def Try.pinned : Pinned := { name := "ytmambanmffdibaa", sum := "50a5e188eed00ba4b05d89de5b0aea57678a31417f1fbcfb69430162bd07f0fa", checked := Try.checked }
namespace Rows
def none {H : Type} : Left H := { results := [], args := [] }

/-- 'laws.FnExactIsPattern': WHATEVER THE INPUT: true; the input reads as it did. -/
def fnExactIsPatternSpec : ChangeSpec := { name := "fnExactIsPattern", fn := fun _ => fun
  | [d] => { results := [.lit (.bool true)], args := [d] }
  | _ => none }
def fnExactIsPatternRow : OpenClaim := { program := "ytmambanmffdibaa", sum := "50a5e188eed00ba4b05d89de5b0aea57678a31417f1fbcfb69430162bd07f0fa", func := "loop.example/g01391/laws.FnExactIsPattern", spec := "fnExactIsPattern", recurses := true, apart := false }
def FnExactIsPatternSaid : Prop := fnExactIsPatternRow.holds Try.pinned (OpenSpec.ofChange fnExactIsPatternSpec)

/-- ITS FALSE NEIGHBOUR: 'it returns false'. Refute it at one input. -/
def fnExactIsPatternWrong : ChangeSpec := { name := "fnExactIsPattern", fn := fun _ => fun
  | [d] => { results := [.lit (.bool false)], args := [d] }
  | _ => none }
def FnExactIsPatternWrongFalsely : Prop := fnExactIsPatternRow.holds Try.pinned (OpenSpec.ofChange fnExactIsPatternWrong)

/-- 'laws.FnExactIsMoreGeneral': WHATEVER THE INPUT: true; the input reads as it did. -/
def fnExactIsMoreGeneralSpec : ChangeSpec := { name := "fnExactIsMoreGeneral", fn := fun _ => fun
  | [d1, d2] => { results := [.lit (.bool true)], args := [d1, d2] }
  | _ => none }
def fnExactIsMoreGeneralRow : OpenClaim := { program := "ytmambanmffdibaa", sum := "50a5e188eed00ba4b05d89de5b0aea57678a31417f1fbcfb69430162bd07f0fa", func := "loop.example/g01391/laws.FnExactIsMoreGeneral", spec := "fnExactIsMoreGeneral", recurses := true, apart := false }
def FnExactIsMoreGeneralSaid : Prop := fnExactIsMoreGeneralRow.holds Try.pinned (OpenSpec.ofChange fnExactIsMoreGeneralSpec)

/-- ITS FALSE NEIGHBOUR: 'it returns false'. Refute it at one input. -/
def fnExactIsMoreGeneralWrong : ChangeSpec := { name := "fnExactIsMoreGeneral", fn := fun _ => fun
  | [d1, d2] => { results := [.lit (.bool false)], args := [d1, d2] }
  | _ => none }
def FnExactIsMoreGeneralWrongFalsely : Prop := fnExactIsMoreGeneralRow.holds Try.pinned (OpenSpec.ofChange fnExactIsMoreGeneralWrong)

/-- 'laws.FnExactMatchesAt': WHATEVER THE INPUT: true; the input reads as it did. -/
def fnExactMatchesAtSpec : ChangeSpec := { name := "fnExactMatchesAt", fn := fun _ => fun
  | [d1, d2, d3] => { results := [.lit (.bool true)], args := [d1, d2, d3] }
  | _ => none }
def fnExactMatchesAtRow : OpenClaim := { program := "ytmambanmffdibaa", sum := "50a5e188eed00ba4b05d89de5b0aea57678a31417f1fbcfb69430162bd07f0fa", func := "loop.example/g01391/laws.FnExactMatchesAt", spec := "fnExactMatchesAt", recurses := true, apart := false }
def FnExactMatchesAtSaid : Prop := fnExactMatchesAtRow.holds Try.pinned (OpenSpec.ofChange fnExactMatchesAtSpec)

/-- ITS FALSE NEIGHBOUR: 'it returns false'. Refute it at one input. -/
def fnExactMatchesAtWrong : ChangeSpec := { name := "fnExactMatchesAt", fn := fun _ => fun
  | [d1, d2, d3] => { results := [.lit (.bool false)], args := [d1, d2, d3] }
  | _ => none }
def FnExactMatchesAtWrongFalsely : Prop := fnExactMatchesAtRow.holds Try.pinned (OpenSpec.ofChange fnExactMatchesAtWrong)

/-- 'laws.FnExactMatchedNodes': WHATEVER THE INPUT: true; the input reads as it did. -/
def fnExactMatchedNodesSpec : ChangeSpec := { name := "fnExactMatchedNodes", fn := fun _ => fun
  | [d1, d2] => { results := [.lit (.bool true)], args := [d1, d2] }
  | _ => none }
def fnExactMatchedNodesRow : OpenClaim := { program := "ytmambanmffdibaa", sum := "50a5e188eed00ba4b05d89de5b0aea57678a31417f1fbcfb69430162bd07f0fa", func := "loop.example/g01391/laws.FnExactMatchedNodes", spec := "fnExactMatchedNodes", recurses := true, apart := false }
def FnExactMatchedNodesSaid : Prop := fnExactMatchedNodesRow.holds Try.pinned (OpenSpec.ofChange fnExactMatchedNodesSpec)

/-- ITS FALSE NEIGHBOUR: 'it returns false'. Refute it at one input. -/
def fnExactMatchedNodesWrong : ChangeSpec := { name := "fnExactMatchedNodes", fn := fun _ => fun
  | [d1, d2] => { results := [.lit (.bool false)], args := [d1, d2] }
  | _ => none }
def FnExactMatchedNodesWrongFalsely : Prop := fnExactMatchedNodesRow.holds Try.pinned (OpenSpec.ofChange fnExactMatchedNodesWrong)

/-- 'laws.FnExactFillPattern': WHATEVER THE INPUT: true; the input reads as it did. -/
def fnExactFillPatternSpec : ChangeSpec := { name := "fnExactFillPattern", fn := fun _ => fun
  | [d1, d2] => { results := [.lit (.bool true)], args := [d1, d2] }
  | _ => none }
def fnExactFillPatternRow : OpenClaim := { program := "ytmambanmffdibaa", sum := "50a5e188eed00ba4b05d89de5b0aea57678a31417f1fbcfb69430162bd07f0fa", func := "loop.example/g01391/laws.FnExactFillPattern", spec := "fnExactFillPattern", recurses := true, apart := false }
def FnExactFillPatternSaid : Prop := fnExactFillPatternRow.holds Try.pinned (OpenSpec.ofChange fnExactFillPatternSpec)

/-- ITS FALSE NEIGHBOUR: 'it returns false'. Refute it at one input. -/
def fnExactFillPatternWrong : ChangeSpec := { name := "fnExactFillPattern", fn := fun _ => fun
  | [d1, d2] => { results := [.lit (.bool false)], args := [d1, d2] }
  | _ => none }
def FnExactFillPatternWrongFalsely : Prop := fnExactFillPatternRow.holds Try.pinned (OpenSpec.ofChange fnExactFillPatternWrong)

/-- 'laws.FnExactOpenTrees': WHATEVER THE INPUT: true; the input reads as it did. -/
def fnExactOpenTreesSpec : ChangeSpec := { name := "fnExactOpenTrees", fn := fun _ => fun
  | [d1, d2, d3] => { results := [.lit (.bool true)], args := [d1, d2, d3] }
  | _ => none }
def fnExactOpenTreesRow : OpenClaim := { program := "ytmambanmffdibaa", sum := "50a5e188eed00ba4b05d89de5b0aea57678a31417f1fbcfb69430162bd07f0fa", func := "loop.example/g01391/laws.FnExactOpenTrees", spec := "fnExactOpenTrees", recurses := true, apart := false }
def FnExactOpenTreesSaid : Prop := fnExactOpenTreesRow.holds Try.pinned (OpenSpec.ofChange fnExactOpenTreesSpec)

/-- ITS FALSE NEIGHBOUR: 'it returns false'. Refute it at one input. -/
def fnExactOpenTreesWrong : ChangeSpec := { name := "fnExactOpenTrees", fn := fun _ => fun
  | [d1, d2, d3] => { results := [.lit (.bool false)], args := [d1, d2, d3] }
  | _ => none }
def FnExactOpenTreesWrongFalsely : Prop := fnExactOpenTreesRow.holds Try.pinned (OpenSpec.ofChange fnExactOpenTreesWrong)

/- THE SECOND FORM. 'bulk': how many values and letters a reading holds, each counted each time it is reached (what is shared counts as often as it is met; a slice's spare places count too). A statement '..UptoSaid' is the law's where the arguments, and the package variables that the reading takes, are together of bulk at most 1048576: NARROWER than '..Said'. Prove '..Said' where nothing that the law and all that it calls make is longer than what came in: it says more and counts as full. Else prove '..UptoSaid'. A law counts once. -/
mutual
def uptoBulk {H : Type} : DataW H → Nat
  | .lit (.string bytes) => bytes.length + 1
  | .lit _ => 1
  | .nil => 1
  | .ptr d => uptoBulk d + 1
  | .slice elems spare => uptoBulkAll elems + uptoBulkAll spare + 1
  | .agg parts => uptoBulkAll parts + 1
  | .iface _ d => uptoBulk d + 1
  | .map entries => uptoBulkEntries entries + 1
  | .held _ => 1
def uptoBulkAll {H : Type} : List (DataW H) → Nat
  | [] => 0
  | d :: r => uptoBulk d + uptoBulkAll r
def uptoBulkEntries {H : Type} : List (Lit × DataW H) → Nat
  | [] => 0
  | x :: r => uptoBulkEntry x + uptoBulkEntries r
def uptoBulkEntry {H : Type} : Lit × DataW H → Nat
  | (.string bytes, d) => bytes.length + uptoBulk d + 1
  | (_, d) => uptoBulk d + 1
 end
def uptoSmall : (H : Type) → List (DataW H) → Bool := fun _ ds => decide (uptoBulkAll ds ≤ 1048576)
def OpenSpec.upto (s : _root_.Go.ChangeSpec) : _root_.Go.OpenSpec := { _root_.Go.OpenSpec.ofChange s with cond := some uptoSmall }

/-- 'laws.FnExactIsPattern', WHERE WHAT IT READS IS OF BULK AT MOST 1048576: true; the input reads as it did. -/
def fnExactIsPatternUptoRow : OpenClaim := { program := "ytmambanmffdibaa", sum := "50a5e188eed00ba4b05d89de5b0aea57678a31417f1fbcfb69430162bd07f0fa", func := "loop.example/g01391/laws.FnExactIsPattern", spec := "fnExactIsPattern", recurses := true, apart := false, narrowed := true }
def FnExactIsPatternUptoSaid : Prop := fnExactIsPatternUptoRow.holds Try.pinned (OpenSpec.upto fnExactIsPatternSpec)

/-- 'laws.FnExactIsMoreGeneral', WHERE WHAT IT READS IS OF BULK AT MOST 1048576: true; the input reads as it did. -/
def fnExactIsMoreGeneralUptoRow : OpenClaim := { program := "ytmambanmffdibaa", sum := "50a5e188eed00ba4b05d89de5b0aea57678a31417f1fbcfb69430162bd07f0fa", func := "loop.example/g01391/laws.FnExactIsMoreGeneral", spec := "fnExactIsMoreGeneral", recurses := true, apart := false, narrowed := true }
def FnExactIsMoreGeneralUptoSaid : Prop := fnExactIsMoreGeneralUptoRow.holds Try.pinned (OpenSpec.upto fnExactIsMoreGeneralSpec)

/-- 'laws.FnExactMatchesAt', WHERE WHAT IT READS IS OF BULK AT MOST 1048576: true; the input reads as it did. -/
def fnExactMatchesAtUptoRow : OpenClaim := { program := "ytmambanmffdibaa", sum := "50a5e188eed00ba4b05d89de5b0aea57678a31417f1fbcfb69430162bd07f0fa", func := "loop.example/g01391/laws.FnExactMatchesAt", spec := "fnExactMatchesAt", recurses := true, apart := false, narrowed := true }
def FnExactMatchesAtUptoSaid : Prop := fnExactMatchesAtUptoRow.holds Try.pinned (OpenSpec.upto fnExactMatchesAtSpec)

/-- 'laws.FnExactMatchedNodes', WHERE WHAT IT READS IS OF BULK AT MOST 1048576: true; the input reads as it did. -/
def fnExactMatchedNodesUptoRow : OpenClaim := { program := "ytmambanmffdibaa", sum := "50a5e188eed00ba4b05d89de5b0aea57678a31417f1fbcfb69430162bd07f0fa", func := "loop.example/g01391/laws.FnExactMatchedNodes", spec := "fnExactMatchedNodes", recurses := true, apart := false, narrowed := true }
def FnExactMatchedNodesUptoSaid : Prop := fnExactMatchedNodesUptoRow.holds Try.pinned (OpenSpec.upto fnExactMatchedNodesSpec)

/-- 'laws.FnExactFillPattern', WHERE WHAT IT READS IS OF BULK AT MOST 1048576: true; the input reads as it did. -/
def fnExactFillPatternUptoRow : OpenClaim := { program := "ytmambanmffdibaa", sum := "50a5e188eed00ba4b05d89de5b0aea57678a31417f1fbcfb69430162bd07f0fa", func := "loop.example/g01391/laws.FnExactFillPattern", spec := "fnExactFillPattern", recurses := true, apart := false, narrowed := true }
def FnExactFillPatternUptoSaid : Prop := fnExactFillPatternUptoRow.holds Try.pinned (OpenSpec.upto fnExactFillPatternSpec)

/-- 'laws.FnExactOpenTrees', WHERE WHAT IT READS IS OF BULK AT MOST 1048576: true; the input reads as it did. -/
def fnExactOpenTreesUptoRow : OpenClaim := { program := "ytmambanmffdibaa", sum := "50a5e188eed00ba4b05d89de5b0aea57678a31417f1fbcfb69430162bd07f0fa", func := "loop.example/g01391/laws.FnExactOpenTrees", spec := "fnExactOpenTrees", recurses := true, apart := false, narrowed := true }
def FnExactOpenTreesUptoSaid : Prop := fnExactOpenTreesUptoRow.holds Try.pinned (OpenSpec.upto fnExactOpenTreesSpec)

end Rows
end Go.Proofs.Ytmambanmffdibaa
