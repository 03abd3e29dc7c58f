/-
  No cell of these rows narrows 'for every input' (looked for: loops, veiled, ifaces, maps, wideKeys, modest, calm, conditions, laid).
  DERIVED. THE GIVEN ROWS OF THIS SEAT. 7 by the template 'for every input the law returns true; each argument reads behind the call as it read before'; 0 by the template 'total and deterministic' (their statements: YtmahokdlfmehjaaTotals.lean).
  GIVEN WITH THE SEED: the statements are not yours to turn. If you find one false, say at which input.
  Laid BY PROGRAM, IN A SANDBOX (cutbox-rows.mjs): the forced cells as the released guide's own fill.sh prints them over the translation 682eed4d490a0b25… (all of the seat's roots in one cut). By AI agents, Wed Nov 11 2026. No macro, syntax, notation, axiom, sorry.
-/
import Derived.Test.YtmahokdlfmehjaaChecked
import GoSem.Claim
import GoSem.ClaimJoined
import GoSem.ClaimMapViews
import Derived.JoinedTies
import Derived.KernelRfl
namespace Go.Proofs.Ytmahokdlfmehjaa
/- THE CELL 'sum', in the pinned program and in every row, IS THE sha256 OF THE DUMP (.gsa) THAT YtmahokdlfmehjaaProg.lean LOADS. Nothing in Lean hashes anything: it is a label: what it is worth is what the hold of that sum in a sandbox is worth. -/
noncomputable def Try.pinned : Pinned := { name := "ytmahokdlfmehjaa", sum := "682eed4d490a0b2517cc8ea6fc7a9d4040a11cd674edd5bb40eeef3c42188305", checked := Try.checked }
namespace Rows
def none {H : Type} : Left H := { results := [], args := [] }

/-- 'laws.FnExactIsAutomaton': WHATEVER THE INPUT: true; the input reads as it did. -/
def fnExactIsAutomatonSpec : ChangeSpec := { name := "fnExactIsAutomaton", fn := fun _ => fun
  | [d] => { results := [.lit (.bool true)], args := [d] }
  | _ => none }
def fnExactIsAutomatonRow : OpenClaim := { program := "ytmahokdlfmehjaa", sum := "682eed4d490a0b2517cc8ea6fc7a9d4040a11cd674edd5bb40eeef3c42188305", func := "loop.example/g01391/laws.FnExactIsAutomaton", spec := "fnExactIsAutomaton", apart := false }
def FnExactIsAutomatonSaid : Prop := fnExactIsAutomatonRow.holds Try.pinned (OpenSpec.ofChange fnExactIsAutomatonSpec)

/-- ITS FALSE NEIGHBOUR: 'it returns false'. Refute it at one input. -/
def fnExactIsAutomatonWrong : ChangeSpec := { name := "fnExactIsAutomaton", fn := fun _ => fun
  | [d] => { results := [.lit (.bool false)], args := [d] }
  | _ => none }
def FnExactIsAutomatonWrongFalsely : Prop := fnExactIsAutomatonRow.holds Try.pinned (OpenSpec.ofChange fnExactIsAutomatonWrong)

/-- 'laws.FnExactOppositeAutomaton': WHATEVER THE INPUT: true; the input reads as it did. -/
def fnExactOppositeAutomatonSpec : ChangeSpec := { name := "fnExactOppositeAutomaton", fn := fun _ => fun
  | [d] => { results := [.lit (.bool true)], args := [d] }
  | _ => none }
def fnExactOppositeAutomatonRow : OpenClaim := { program := "ytmahokdlfmehjaa", sum := "682eed4d490a0b2517cc8ea6fc7a9d4040a11cd674edd5bb40eeef3c42188305", func := "loop.example/g01391/laws.FnExactOppositeAutomaton", spec := "fnExactOppositeAutomaton", apart := false }
def FnExactOppositeAutomatonSaid : Prop := fnExactOppositeAutomatonRow.holds Try.pinned (OpenSpec.ofChange fnExactOppositeAutomatonSpec)

/-- ITS FALSE NEIGHBOUR: 'it returns false'. Refute it at one input. -/
def fnExactOppositeAutomatonWrong : ChangeSpec := { name := "fnExactOppositeAutomaton", fn := fun _ => fun
  | [d] => { results := [.lit (.bool false)], args := [d] }
  | _ => none }
def FnExactOppositeAutomatonWrongFalsely : Prop := fnExactOppositeAutomatonRow.holds Try.pinned (OpenSpec.ofChange fnExactOppositeAutomatonWrong)

/-- 'laws.FnExactCountByState': WHATEVER THE INPUT: true; the input reads as it did. -/
def fnExactCountByStateSpec : ChangeSpec := { name := "fnExactCountByState", fn := fun _ => fun
  | [d1, d2] => { results := [.lit (.bool true)], args := [d1, d2] }
  | _ => none }
def fnExactCountByStateRow : OpenClaim := { program := "ytmahokdlfmehjaa", sum := "682eed4d490a0b2517cc8ea6fc7a9d4040a11cd674edd5bb40eeef3c42188305", func := "loop.example/g01391/laws.FnExactCountByState", spec := "fnExactCountByState", apart := false }
def FnExactCountByStateSaid : Prop := fnExactCountByStateRow.holds Try.pinned (OpenSpec.ofChange fnExactCountByStateSpec)

/-- ITS FALSE NEIGHBOUR: 'it returns false'. Refute it at one input. -/
def fnExactCountByStateWrong : ChangeSpec := { name := "fnExactCountByState", fn := fun _ => fun
  | [d1, d2] => { results := [.lit (.bool false)], args := [d1, d2] }
  | _ => none }
def FnExactCountByStateWrongFalsely : Prop := fnExactCountByStateRow.holds Try.pinned (OpenSpec.ofChange fnExactCountByStateWrong)

/-- 'laws.FnExactCountTaken': WHATEVER THE INPUT: true; the input reads as it did. -/
def fnExactCountTakenSpec : ChangeSpec := { name := "fnExactCountTaken", fn := fun _ => fun
  | [d1, d2] => { results := [.lit (.bool true)], args := [d1, d2] }
  | _ => none }
def fnExactCountTakenRow : OpenClaim := { program := "ytmahokdlfmehjaa", sum := "682eed4d490a0b2517cc8ea6fc7a9d4040a11cd674edd5bb40eeef3c42188305", func := "loop.example/g01391/laws.FnExactCountTaken", spec := "fnExactCountTaken", apart := false }
def FnExactCountTakenSaid : Prop := fnExactCountTakenRow.holds Try.pinned (OpenSpec.ofChange fnExactCountTakenSpec)

/-- ITS FALSE NEIGHBOUR: 'it returns false'. Refute it at one input. -/
def fnExactCountTakenWrong : ChangeSpec := { name := "fnExactCountTaken", fn := fun _ => fun
  | [d1, d2] => { results := [.lit (.bool false)], args := [d1, d2] }
  | _ => none }
def FnExactCountTakenWrongFalsely : Prop := fnExactCountTakenRow.holds Try.pinned (OpenSpec.ofChange fnExactCountTakenWrong)

/-- 'laws.FnExactAutomatonText': WHATEVER THE INPUT: true; the input reads as it did. -/
def fnExactAutomatonTextSpec : ChangeSpec := { name := "fnExactAutomatonText", fn := fun _ => fun
  | [d] => { results := [.lit (.bool true)], args := [d] }
  | _ => none }
def fnExactAutomatonTextRow : OpenClaim := { program := "ytmahokdlfmehjaa", sum := "682eed4d490a0b2517cc8ea6fc7a9d4040a11cd674edd5bb40eeef3c42188305", func := "loop.example/g01391/laws.FnExactAutomatonText", spec := "fnExactAutomatonText", inPlace := ["internal/abi.NoEscape", "internal/bytealg.MakeNoZero"], recurses := true, apart := false }
def FnExactAutomatonTextSaid : Prop := fnExactAutomatonTextRow.holds Try.pinned (OpenSpec.ofChange fnExactAutomatonTextSpec)

/-- ITS FALSE NEIGHBOUR: 'it returns false'. Refute it at one input. -/
def fnExactAutomatonTextWrong : ChangeSpec := { name := "fnExactAutomatonText", fn := fun _ => fun
  | [d] => { results := [.lit (.bool false)], args := [d] }
  | _ => none }
def FnExactAutomatonTextWrongFalsely : Prop := fnExactAutomatonTextRow.holds Try.pinned (OpenSpec.ofChange fnExactAutomatonTextWrong)

/-- 'laws.FnExactTakesTree': WHATEVER THE INPUT: true; the input reads as it did. -/
def fnExactTakesTreeSpec : ChangeSpec := { name := "fnExactTakesTree", fn := fun _ => fun
  | [d1, d2] => { results := [.lit (.bool true)], args := [d1, d2] }
  | _ => none }
def fnExactTakesTreeRow : OpenClaim := { program := "ytmahokdlfmehjaa", sum := "682eed4d490a0b2517cc8ea6fc7a9d4040a11cd674edd5bb40eeef3c42188305", func := "loop.example/g01391/laws.FnExactTakesTree", spec := "fnExactTakesTree", apart := false }
def FnExactTakesTreeSaid : Prop := fnExactTakesTreeRow.holds Try.pinned (OpenSpec.ofChange fnExactTakesTreeSpec)

/-- ITS FALSE NEIGHBOUR: 'it returns false'. Refute it at one input. -/
def fnExactTakesTreeWrong : ChangeSpec := { name := "fnExactTakesTree", fn := fun _ => fun
  | [d1, d2] => { results := [.lit (.bool false)], args := [d1, d2] }
  | _ => none }
def FnExactTakesTreeWrongFalsely : Prop := fnExactTakesTreeRow.holds Try.pinned (OpenSpec.ofChange fnExactTakesTreeWrong)

/-- 'laws.FnExactStatesOf': WHATEVER THE INPUT: true; the input reads as it did. -/
def fnExactStatesOfSpec : ChangeSpec := { name := "fnExactStatesOf", fn := fun _ => fun
  | [d1, d2] => { results := [.lit (.bool true)], args := [d1, d2] }
  | _ => none }
def fnExactStatesOfRow : OpenClaim := { program := "ytmahokdlfmehjaa", sum := "682eed4d490a0b2517cc8ea6fc7a9d4040a11cd674edd5bb40eeef3c42188305", func := "loop.example/g01391/laws.FnExactStatesOf", spec := "fnExactStatesOf", apart := false }
def FnExactStatesOfSaid : Prop := fnExactStatesOfRow.holds Try.pinned (OpenSpec.ofChange fnExactStatesOfSpec)

/-- ITS FALSE NEIGHBOUR: 'it returns false'. Refute it at one input. -/
def fnExactStatesOfWrong : ChangeSpec := { name := "fnExactStatesOf", fn := fun _ => fun
  | [d1, d2] => { results := [.lit (.bool false)], args := [d1, d2] }
  | _ => none }
def FnExactStatesOfWrongFalsely : Prop := fnExactStatesOfRow.holds Try.pinned (OpenSpec.ofChange fnExactStatesOfWrong)

/- THE SECOND FORM. 'bulk': how many values and letters a reading holds, each counted each time it is reached (what is shared counts as often as it is met; a slice's spare places count too). A statement '..UptoSaid' is the law's where the arguments, and the package variables that the reading takes, are together of bulk at most 1048576: NARROWER than '..Said'. Prove '..Said' where nothing that the law and all that it calls make is longer than what came in: it says more and counts as full. Else prove '..UptoSaid'. A law counts once. -/
mutual
def uptoBulk {H : Type} : DataW H → Nat
  | .lit (.string bytes) => bytes.length + 1
  | .lit _ => 1
  | .nil => 1
  | .ptr d => uptoBulk d + 1
  | .slice elems spare => uptoBulkAll elems + uptoBulkAll spare + 1
  | .agg parts => uptoBulkAll parts + 1
  | .iface _ d => uptoBulk d + 1
  | .map entries => uptoBulkEntries entries + 1
  | .held _ => 1
def uptoBulkAll {H : Type} : List (DataW H) → Nat
  | [] => 0
  | d :: r => uptoBulk d + uptoBulkAll r
def uptoBulkEntries {H : Type} : List (Lit × DataW H) → Nat
  | [] => 0
  | x :: r => uptoBulkEntry x + uptoBulkEntries r
def uptoBulkEntry {H : Type} : Lit × DataW H → Nat
  | (.string bytes, d) => bytes.length + uptoBulk d + 1
  | (_, d) => uptoBulk d + 1
 end
def uptoSmall : (H : Type) → List (DataW H) → Bool := fun _ ds => decide (uptoBulkAll ds ≤ 1048576)
def OpenSpec.upto (s : _root_.Go.ChangeSpec) : _root_.Go.OpenSpec := { _root_.Go.OpenSpec.ofChange s with cond := some uptoSmall }

/-- 'laws.FnExactIsAutomaton', WHERE WHAT IT READS IS OF BULK AT MOST 1048576: true; the input reads as it did. -/
def fnExactIsAutomatonUptoRow : OpenClaim := { program := "ytmahokdlfmehjaa", sum := "682eed4d490a0b2517cc8ea6fc7a9d4040a11cd674edd5bb40eeef3c42188305", func := "loop.example/g01391/laws.FnExactIsAutomaton", spec := "fnExactIsAutomaton", apart := false, narrowed := true }
def FnExactIsAutomatonUptoSaid : Prop := fnExactIsAutomatonUptoRow.holds Try.pinned (OpenSpec.upto fnExactIsAutomatonSpec)

/-- 'laws.FnExactOppositeAutomaton', WHERE WHAT IT READS IS OF BULK AT MOST 1048576: true; the input reads as it did. -/
def fnExactOppositeAutomatonUptoRow : OpenClaim := { program := "ytmahokdlfmehjaa", sum := "682eed4d490a0b2517cc8ea6fc7a9d4040a11cd674edd5bb40eeef3c42188305", func := "loop.example/g01391/laws.FnExactOppositeAutomaton", spec := "fnExactOppositeAutomaton", apart := false, narrowed := true }
def FnExactOppositeAutomatonUptoSaid : Prop := fnExactOppositeAutomatonUptoRow.holds Try.pinned (OpenSpec.upto fnExactOppositeAutomatonSpec)

/-- 'laws.FnExactCountByState', WHERE WHAT IT READS IS OF BULK AT MOST 1048576: true; the input reads as it did. -/
def fnExactCountByStateUptoRow : OpenClaim := { program := "ytmahokdlfmehjaa", sum := "682eed4d490a0b2517cc8ea6fc7a9d4040a11cd674edd5bb40eeef3c42188305", func := "loop.example/g01391/laws.FnExactCountByState", spec := "fnExactCountByState", apart := false, narrowed := true }
def FnExactCountByStateUptoSaid : Prop := fnExactCountByStateUptoRow.holds Try.pinned (OpenSpec.upto fnExactCountByStateSpec)

/-- 'laws.FnExactCountTaken', WHERE WHAT IT READS IS OF BULK AT MOST 1048576: true; the input reads as it did. -/
def fnExactCountTakenUptoRow : OpenClaim := { program := "ytmahokdlfmehjaa", sum := "682eed4d490a0b2517cc8ea6fc7a9d4040a11cd674edd5bb40eeef3c42188305", func := "loop.example/g01391/laws.FnExactCountTaken", spec := "fnExactCountTaken", apart := false, narrowed := true }
def FnExactCountTakenUptoSaid : Prop := fnExactCountTakenUptoRow.holds Try.pinned (OpenSpec.upto fnExactCountTakenSpec)

/-- 'laws.FnExactAutomatonText', WHERE WHAT IT READS IS OF BULK AT MOST 1048576: true; the input reads as it did. -/
def fnExactAutomatonTextUptoRow : OpenClaim := { program := "ytmahokdlfmehjaa", sum := "682eed4d490a0b2517cc8ea6fc7a9d4040a11cd674edd5bb40eeef3c42188305", func := "loop.example/g01391/laws.FnExactAutomatonText", spec := "fnExactAutomatonText", inPlace := ["internal/abi.NoEscape", "internal/bytealg.MakeNoZero"], recurses := true, apart := false, narrowed := true }
def FnExactAutomatonTextUptoSaid : Prop := fnExactAutomatonTextUptoRow.holds Try.pinned (OpenSpec.upto fnExactAutomatonTextSpec)

/-- 'laws.FnExactTakesTree', WHERE WHAT IT READS IS OF BULK AT MOST 1048576: true; the input reads as it did. -/
def fnExactTakesTreeUptoRow : OpenClaim := { program := "ytmahokdlfmehjaa", sum := "682eed4d490a0b2517cc8ea6fc7a9d4040a11cd674edd5bb40eeef3c42188305", func := "loop.example/g01391/laws.FnExactTakesTree", spec := "fnExactTakesTree", apart := false, narrowed := true }
def FnExactTakesTreeUptoSaid : Prop := fnExactTakesTreeUptoRow.holds Try.pinned (OpenSpec.upto fnExactTakesTreeSpec)

/-- 'laws.FnExactStatesOf', WHERE WHAT IT READS IS OF BULK AT MOST 1048576: true; the input reads as it did. -/
def fnExactStatesOfUptoRow : OpenClaim := { program := "ytmahokdlfmehjaa", sum := "682eed4d490a0b2517cc8ea6fc7a9d4040a11cd674edd5bb40eeef3c42188305", func := "loop.example/g01391/laws.FnExactStatesOf", spec := "fnExactStatesOf", apart := false, narrowed := true }
def FnExactStatesOfUptoSaid : Prop := fnExactStatesOfUptoRow.holds Try.pinned (OpenSpec.upto fnExactStatesOfSpec)

end Rows
end Go.Proofs.Ytmahokdlfmehjaa
