/-
  No cell of these rows narrows 'for every input' (looked for: loops, veiled, ifaces, maps, wideKeys, modest, calm, conditions, laid).
  DERIVED. THE GIVEN ROWS OF THIS SEAT. 5 by the template 'for every input the law returns true; each argument reads behind the call as it read before'; 0 by the template 'total and deterministic' (their statements: YtmnpdkhkgddojaaTotals.lean).
  GIVEN WITH THE SEED: the statements are not yours to turn. If you find one false, say at which input.
  Laid BY PROGRAM, IN A SANDBOX (cutbox-rows.mjs): the forced cells as the released guide's own fill.sh prints them over the translation 38bc8a9aff707a2f… (all of the seat's roots in one cut). By AI agents, Wed Nov 11 2026. No macro, syntax, notation, axiom, sorry.
-/
import Derived.Test.YtmnpdkhkgddojaaChecked
import GoSem.Claim
import GoSem.ClaimJoined
import GoSem.ClaimMapViews
import Derived.JoinedTies
import Derived.KernelRfl
namespace Go.Proofs.Ytmnpdkhkgddojaa
/- THE CELL 'sum', in the pinned program and in every row, IS THE sha256 OF THE DUMP (.gsa) THAT YtmnpdkhkgddojaaProg.lean LOADS. Nothing in Lean hashes anything: it is a label: what it is worth is what the hold of that sum in a sandbox is worth. -/
noncomputable def Try.pinned : Pinned := { name := "ytmnpdkhkgddojaa", sum := "38bc8a9aff707a2f38b48414c45685b220e8bc107a23db5de97878c9fac1177a", checked := Try.checked }
namespace Rows
def none {H : Type} : Left H := { results := [], args := [] }

/-- 'laws.FnExactAreAlike': WHATEVER THE INPUT: true; the input reads as it did. -/
def fnExactAreAlikeSpec : ChangeSpec := { name := "fnExactAreAlike", fn := fun _ => fun
  | [d1, d2] => { results := [.lit (.bool true)], args := [d1, d2] }
  | _ => none }
def fnExactAreAlikeRow : OpenClaim := { program := "ytmnpdkhkgddojaa", sum := "38bc8a9aff707a2f38b48414c45685b220e8bc107a23db5de97878c9fac1177a", func := "loop.example/g01391/laws.FnExactAreAlike", spec := "fnExactAreAlike", unfollowed := true, recurses := true, apart := false }
def FnExactAreAlikeSaid : Prop := fnExactAreAlikeRow.holds Try.pinned (OpenSpec.ofChange fnExactAreAlikeSpec)

/-- ITS FALSE NEIGHBOUR: 'it returns false'. Refute it at one input. -/
def fnExactAreAlikeWrong : ChangeSpec := { name := "fnExactAreAlike", fn := fun _ => fun
  | [d1, d2] => { results := [.lit (.bool false)], args := [d1, d2] }
  | _ => none }
def FnExactAreAlikeWrongFalsely : Prop := fnExactAreAlikeRow.holds Try.pinned (OpenSpec.ofChange fnExactAreAlikeWrong)

/-- 'laws.FnExactCombineAutomata': WHATEVER THE INPUT: true; the input reads as it did. -/
def fnExactCombineAutomataSpec : ChangeSpec := { name := "fnExactCombineAutomata", fn := fun _ => fun
  | [d1, d2, d3] => { results := [.lit (.bool true)], args := [d1, d2, d3] }
  | _ => none }
def fnExactCombineAutomataRow : OpenClaim := { program := "ytmnpdkhkgddojaa", sum := "38bc8a9aff707a2f38b48414c45685b220e8bc107a23db5de97878c9fac1177a", func := "loop.example/g01391/laws.FnExactCombineAutomata", spec := "fnExactCombineAutomata", unfollowed := true, recurses := true, apart := false }
def FnExactCombineAutomataSaid : Prop := fnExactCombineAutomataRow.holds Try.pinned (OpenSpec.ofChange fnExactCombineAutomataSpec)

/-- ITS FALSE NEIGHBOUR: 'it returns false'. Refute it at one input. -/
def fnExactCombineAutomataWrong : ChangeSpec := { name := "fnExactCombineAutomata", fn := fun _ => fun
  | [d1, d2, d3] => { results := [.lit (.bool false)], args := [d1, d2, d3] }
  | _ => none }
def FnExactCombineAutomataWrongFalsely : Prop := fnExactCombineAutomataRow.holds Try.pinned (OpenSpec.ofChange fnExactCombineAutomataWrong)

/-- 'laws.FnExactFirstTaken': WHATEVER THE INPUT: true; the input reads as it did. -/
def fnExactFirstTakenSpec : ChangeSpec := { name := "fnExactFirstTaken", fn := fun _ => fun
  | [d] => { results := [.lit (.bool true)], args := [d] }
  | _ => none }
def fnExactFirstTakenRow : OpenClaim := { program := "ytmnpdkhkgddojaa", sum := "38bc8a9aff707a2f38b48414c45685b220e8bc107a23db5de97878c9fac1177a", func := "loop.example/g01391/laws.FnExactFirstTaken", spec := "fnExactFirstTaken", unfollowed := true, recurses := true, apart := false }
def FnExactFirstTakenSaid : Prop := fnExactFirstTakenRow.holds Try.pinned (OpenSpec.ofChange fnExactFirstTakenSpec)

/-- ITS FALSE NEIGHBOUR: 'it returns false'. Refute it at one input. -/
def fnExactFirstTakenWrong : ChangeSpec := { name := "fnExactFirstTaken", fn := fun _ => fun
  | [d] => { results := [.lit (.bool false)], args := [d] }
  | _ => none }
def FnExactFirstTakenWrongFalsely : Prop := fnExactFirstTakenRow.holds Try.pinned (OpenSpec.ofChange fnExactFirstTakenWrong)

/-- 'laws.FnExactFirstOfState': WHATEVER THE INPUT: true; the input reads as it did. -/
def fnExactFirstOfStateSpec : ChangeSpec := { name := "fnExactFirstOfState", fn := fun _ => fun
  | [d1, d2] => { results := [.lit (.bool true)], args := [d1, d2] }
  | _ => none }
def fnExactFirstOfStateRow : OpenClaim := { program := "ytmnpdkhkgddojaa", sum := "38bc8a9aff707a2f38b48414c45685b220e8bc107a23db5de97878c9fac1177a", func := "loop.example/g01391/laws.FnExactFirstOfState", spec := "fnExactFirstOfState", unfollowed := true, recurses := true, apart := false }
def FnExactFirstOfStateSaid : Prop := fnExactFirstOfStateRow.holds Try.pinned (OpenSpec.ofChange fnExactFirstOfStateSpec)

/-- ITS FALSE NEIGHBOUR: 'it returns false'. Refute it at one input. -/
def fnExactFirstOfStateWrong : ChangeSpec := { name := "fnExactFirstOfState", fn := fun _ => fun
  | [d1, d2] => { results := [.lit (.bool false)], args := [d1, d2] }
  | _ => none }
def FnExactFirstOfStateWrongFalsely : Prop := fnExactFirstOfStateRow.holds Try.pinned (OpenSpec.ofChange fnExactFirstOfStateWrong)

/-- 'laws.FnExactReachedStates': WHATEVER THE INPUT: true; the input reads as it did. -/
def fnExactReachedStatesSpec : ChangeSpec := { name := "fnExactReachedStates", fn := fun _ => fun
  | [d] => { results := [.lit (.bool true)], args := [d] }
  | _ => none }
def fnExactReachedStatesRow : OpenClaim := { program := "ytmnpdkhkgddojaa", sum := "38bc8a9aff707a2f38b48414c45685b220e8bc107a23db5de97878c9fac1177a", func := "loop.example/g01391/laws.FnExactReachedStates", spec := "fnExactReachedStates", unfollowed := true, recurses := true, apart := false }
def FnExactReachedStatesSaid : Prop := fnExactReachedStatesRow.holds Try.pinned (OpenSpec.ofChange fnExactReachedStatesSpec)

/-- ITS FALSE NEIGHBOUR: 'it returns false'. Refute it at one input. -/
def fnExactReachedStatesWrong : ChangeSpec := { name := "fnExactReachedStates", fn := fun _ => fun
  | [d] => { results := [.lit (.bool false)], args := [d] }
  | _ => none }
def FnExactReachedStatesWrongFalsely : Prop := fnExactReachedStatesRow.holds Try.pinned (OpenSpec.ofChange fnExactReachedStatesWrong)

/- THE SECOND FORM. 'bulk': how many values and letters a reading holds, each counted each time it is reached (what is shared counts as often as it is met; a slice's spare places count too). A statement '..UptoSaid' is the law's where the arguments, and the package variables that the reading takes, are together of bulk at most 1048576: NARROWER than '..Said'. Prove '..Said' where nothing that the law and all that it calls make is longer than what came in: it says more and counts as full. Else prove '..UptoSaid'. A law counts once. -/
mutual
def uptoBulk {H : Type} : DataW H → Nat
  | .lit (.string bytes) => bytes.length + 1
  | .lit _ => 1
  | .nil => 1
  | .ptr d => uptoBulk d + 1
  | .slice elems spare => uptoBulkAll elems + uptoBulkAll spare + 1
  | .agg parts => uptoBulkAll parts + 1
  | .iface _ d => uptoBulk d + 1
  | .map entries => uptoBulkEntries entries + 1
  | .held _ => 1
def uptoBulkAll {H : Type} : List (DataW H) → Nat
  | [] => 0
  | d :: r => uptoBulk d + uptoBulkAll r
def uptoBulkEntries {H : Type} : List (Lit × DataW H) → Nat
  | [] => 0
  | x :: r => uptoBulkEntry x + uptoBulkEntries r
def uptoBulkEntry {H : Type} : Lit × DataW H → Nat
  | (.string bytes, d) => bytes.length + uptoBulk d + 1
  | (_, d) => uptoBulk d + 1
 end
def uptoSmall : (H : Type) → List (DataW H) → Bool := fun _ ds => decide (uptoBulkAll ds ≤ 1048576)
def OpenSpec.upto (s : _root_.Go.ChangeSpec) : _root_.Go.OpenSpec := { _root_.Go.OpenSpec.ofChange s with cond := some uptoSmall }

/-- 'laws.FnExactAreAlike', WHERE WHAT IT READS IS OF BULK AT MOST 1048576: true; the input reads as it did. -/
def fnExactAreAlikeUptoRow : OpenClaim := { program := "ytmnpdkhkgddojaa", sum := "38bc8a9aff707a2f38b48414c45685b220e8bc107a23db5de97878c9fac1177a", func := "loop.example/g01391/laws.FnExactAreAlike", spec := "fnExactAreAlike", unfollowed := true, recurses := true, apart := false, narrowed := true }
def FnExactAreAlikeUptoSaid : Prop := fnExactAreAlikeUptoRow.holds Try.pinned (OpenSpec.upto fnExactAreAlikeSpec)

/-- 'laws.FnExactCombineAutomata', WHERE WHAT IT READS IS OF BULK AT MOST 1048576: true; the input reads as it did. -/
def fnExactCombineAutomataUptoRow : OpenClaim := { program := "ytmnpdkhkgddojaa", sum := "38bc8a9aff707a2f38b48414c45685b220e8bc107a23db5de97878c9fac1177a", func := "loop.example/g01391/laws.FnExactCombineAutomata", spec := "fnExactCombineAutomata", unfollowed := true, recurses := true, apart := false, narrowed := true }
def FnExactCombineAutomataUptoSaid : Prop := fnExactCombineAutomataUptoRow.holds Try.pinned (OpenSpec.upto fnExactCombineAutomataSpec)

/-- 'laws.FnExactFirstTaken', WHERE WHAT IT READS IS OF BULK AT MOST 1048576: true; the input reads as it did. -/
def fnExactFirstTakenUptoRow : OpenClaim := { program := "ytmnpdkhkgddojaa", sum := "38bc8a9aff707a2f38b48414c45685b220e8bc107a23db5de97878c9fac1177a", func := "loop.example/g01391/laws.FnExactFirstTaken", spec := "fnExactFirstTaken", unfollowed := true, recurses := true, apart := false, narrowed := true }
def FnExactFirstTakenUptoSaid : Prop := fnExactFirstTakenUptoRow.holds Try.pinned (OpenSpec.upto fnExactFirstTakenSpec)

/-- 'laws.FnExactFirstOfState', WHERE WHAT IT READS IS OF BULK AT MOST 1048576: true; the input reads as it did. -/
def fnExactFirstOfStateUptoRow : OpenClaim := { program := "ytmnpdkhkgddojaa", sum := "38bc8a9aff707a2f38b48414c45685b220e8bc107a23db5de97878c9fac1177a", func := "loop.example/g01391/laws.FnExactFirstOfState", spec := "fnExactFirstOfState", unfollowed := true, recurses := true, apart := false, narrowed := true }
def FnExactFirstOfStateUptoSaid : Prop := fnExactFirstOfStateUptoRow.holds Try.pinned (OpenSpec.upto fnExactFirstOfStateSpec)

/-- 'laws.FnExactReachedStates', WHERE WHAT IT READS IS OF BULK AT MOST 1048576: true; the input reads as it did. -/
def fnExactReachedStatesUptoRow : OpenClaim := { program := "ytmnpdkhkgddojaa", sum := "38bc8a9aff707a2f38b48414c45685b220e8bc107a23db5de97878c9fac1177a", func := "loop.example/g01391/laws.FnExactReachedStates", spec := "fnExactReachedStates", unfollowed := true, recurses := true, apart := false, narrowed := true }
def FnExactReachedStatesUptoSaid : Prop := fnExactReachedStatesUptoRow.holds Try.pinned (OpenSpec.upto fnExactReachedStatesSpec)

end Rows
end Go.Proofs.Ytmnpdkhkgddojaa
