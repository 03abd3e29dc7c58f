/-
  No cell of these rows narrows 'for every input' (looked for: loops, veiled, ifaces, maps, wideKeys, modest, calm, conditions, laid).
  DERIVED. THE GIVEN ROWS OF THIS SEAT. 8 by the template 'for every input the law returns true; each argument reads behind the call as it read before'; 0 by the template 'total and deterministic' (their statements: YtgbhlmmmighanaaTotals.lean).
  GIVEN WITH THE SEED: the statements are not yours to turn. If you find one false, say at which input.
  Laid BY PROGRAM, IN A SANDBOX (cutbox-rows.mjs): the forced cells as the released guide's own fill.sh prints them over the translation 0320b5f6166f3eee… (all of the seat's roots in one cut). By AI agents, Wed Nov 11 2026. No macro, syntax, notation, axiom, sorry.
-/
import Derived.Test.YtgbhlmmmighanaaChecked
import GoSem.Claim
import GoSem.ClaimJoined
import GoSem.ClaimMapViews
import Derived.JoinedTies
import Derived.KernelRfl
namespace Go.Proofs.Ytgbhlmmmighanaa
/- THE CELL 'sum', in the pinned program and in every row, IS THE sha256 OF THE DUMP (.gsa) THAT YtgbhlmmmighanaaProg.lean LOADS. Nothing in Lean hashes anything: it is a label: what it is worth is what the hold of that sum in a sandbox is worth. -/
noncomputable def Try.pinned : Pinned := { name := "ytgbhlmmmighanaa", sum := "0320b5f6166f3eee790885fec758ffe66338072cab18f465cfdaadc784149f16", checked := Try.checked }
namespace Rows
def none {H : Type} : Left H := { results := [], args := [] }

/-- 'laws.FnExactRotateLeft': WHATEVER THE INPUT: true; the input reads as it did. -/
def fnExactRotateLeftSpec : ChangeSpec := { name := "fnExactRotateLeft", fn := fun _ => fun
  | [d1, d2] => { results := [.lit (.bool true)], args := [d1, d2] }
  | _ => none }
def fnExactRotateLeftRow : OpenClaim := { program := "ytgbhlmmmighanaa", sum := "0320b5f6166f3eee790885fec758ffe66338072cab18f465cfdaadc784149f16", func := "loop.example/g01391/laws.FnExactRotateLeft", spec := "fnExactRotateLeft", apart := false }
def FnExactRotateLeftSaid : Prop := fnExactRotateLeftRow.holds Try.pinned (OpenSpec.ofChange fnExactRotateLeftSpec)

/-- ITS FALSE NEIGHBOUR: 'it returns false'. Refute it at one input. -/
def fnExactRotateLeftWrong : ChangeSpec := { name := "fnExactRotateLeft", fn := fun _ => fun
  | [d1, d2] => { results := [.lit (.bool false)], args := [d1, d2] }
  | _ => none }
def FnExactRotateLeftWrongFalsely : Prop := fnExactRotateLeftRow.holds Try.pinned (OpenSpec.ofChange fnExactRotateLeftWrong)

/-- 'laws.FnExactRotateRight': WHATEVER THE INPUT: true; the input reads as it did. -/
def fnExactRotateRightSpec : ChangeSpec := { name := "fnExactRotateRight", fn := fun _ => fun
  | [d1, d2] => { results := [.lit (.bool true)], args := [d1, d2] }
  | _ => none }
def fnExactRotateRightRow : OpenClaim := { program := "ytgbhlmmmighanaa", sum := "0320b5f6166f3eee790885fec758ffe66338072cab18f465cfdaadc784149f16", func := "loop.example/g01391/laws.FnExactRotateRight", spec := "fnExactRotateRight", apart := false }
def FnExactRotateRightSaid : Prop := fnExactRotateRightRow.holds Try.pinned (OpenSpec.ofChange fnExactRotateRightSpec)

/-- ITS FALSE NEIGHBOUR: 'it returns false'. Refute it at one input. -/
def fnExactRotateRightWrong : ChangeSpec := { name := "fnExactRotateRight", fn := fun _ => fun
  | [d1, d2] => { results := [.lit (.bool false)], args := [d1, d2] }
  | _ => none }
def FnExactRotateRightWrongFalsely : Prop := fnExactRotateRightRow.holds Try.pinned (OpenSpec.ofChange fnExactRotateRightWrong)

/-- 'laws.FnExactTreeOfBinary': WHATEVER THE INPUT: true; the input reads as it did. -/
def fnExactTreeOfBinarySpec : ChangeSpec := { name := "fnExactTreeOfBinary", fn := fun _ => fun
  | [d] => { results := [.lit (.bool true)], args := [d] }
  | _ => none }
def fnExactTreeOfBinaryRow : OpenClaim := { program := "ytgbhlmmmighanaa", sum := "0320b5f6166f3eee790885fec758ffe66338072cab18f465cfdaadc784149f16", func := "loop.example/g01391/laws.FnExactTreeOfBinary", spec := "fnExactTreeOfBinary", recurses := true, apart := false }
def FnExactTreeOfBinarySaid : Prop := fnExactTreeOfBinaryRow.holds Try.pinned (OpenSpec.ofChange fnExactTreeOfBinarySpec)

/-- ITS FALSE NEIGHBOUR: 'it returns false'. Refute it at one input. -/
def fnExactTreeOfBinaryWrong : ChangeSpec := { name := "fnExactTreeOfBinary", fn := fun _ => fun
  | [d] => { results := [.lit (.bool false)], args := [d] }
  | _ => none }
def FnExactTreeOfBinaryWrongFalsely : Prop := fnExactTreeOfBinaryRow.holds Try.pinned (OpenSpec.ofChange fnExactTreeOfBinaryWrong)

/-- 'laws.FnExactMeetOfBinary': WHATEVER THE INPUT: true; the input reads as it did. -/
def fnExactMeetOfBinarySpec : ChangeSpec := { name := "fnExactMeetOfBinary", fn := fun _ => fun
  | [d1, d2] => { results := [.lit (.bool true)], args := [d1, d2] }
  | _ => none }
def fnExactMeetOfBinaryRow : OpenClaim := { program := "ytgbhlmmmighanaa", sum := "0320b5f6166f3eee790885fec758ffe66338072cab18f465cfdaadc784149f16", func := "loop.example/g01391/laws.FnExactMeetOfBinary", spec := "fnExactMeetOfBinary", recurses := true, apart := false }
def FnExactMeetOfBinarySaid : Prop := fnExactMeetOfBinaryRow.holds Try.pinned (OpenSpec.ofChange fnExactMeetOfBinarySpec)

/-- ITS FALSE NEIGHBOUR: 'it returns false'. Refute it at one input. -/
def fnExactMeetOfBinaryWrong : ChangeSpec := { name := "fnExactMeetOfBinary", fn := fun _ => fun
  | [d1, d2] => { results := [.lit (.bool false)], args := [d1, d2] }
  | _ => none }
def FnExactMeetOfBinaryWrongFalsely : Prop := fnExactMeetOfBinaryRow.holds Try.pinned (OpenSpec.ofChange fnExactMeetOfBinaryWrong)

/-- 'laws.FnExactFromCorner': WHATEVER THE INPUT: true; the input reads as it did. -/
def fnExactFromCornerSpec : ChangeSpec := { name := "fnExactFromCorner", fn := fun _ => fun
  | [d1, d2, d3] => { results := [.lit (.bool true)], args := [d1, d2, d3] }
  | _ => none }
def fnExactFromCornerRow : OpenClaim := { program := "ytgbhlmmmighanaa", sum := "0320b5f6166f3eee790885fec758ffe66338072cab18f465cfdaadc784149f16", func := "loop.example/g01391/laws.FnExactFromCorner", spec := "fnExactFromCorner", unfollowed := true, recurses := true, apart := false }
def FnExactFromCornerSaid : Prop := fnExactFromCornerRow.holds Try.pinned (OpenSpec.ofChange fnExactFromCornerSpec)

/-- ITS FALSE NEIGHBOUR: 'it returns false'. Refute it at one input. -/
def fnExactFromCornerWrong : ChangeSpec := { name := "fnExactFromCorner", fn := fun _ => fun
  | [d1, d2, d3] => { results := [.lit (.bool false)], args := [d1, d2, d3] }
  | _ => none }
def FnExactFromCornerWrongFalsely : Prop := fnExactFromCornerRow.holds Try.pinned (OpenSpec.ofChange fnExactFromCornerWrong)

/-- 'laws.FnExactLeastShape': WHATEVER THE INPUT: true; the input reads as it did. -/
def fnExactLeastShapeSpec : ChangeSpec := { name := "fnExactLeastShape", fn := fun _ => fun
  | [d] => { results := [.lit (.bool true)], args := [d] }
  | _ => none }
def fnExactLeastShapeRow : OpenClaim := { program := "ytgbhlmmmighanaa", sum := "0320b5f6166f3eee790885fec758ffe66338072cab18f465cfdaadc784149f16", func := "loop.example/g01391/laws.FnExactLeastShape", spec := "fnExactLeastShape", unfollowed := true, recurses := true, apart := false }
def FnExactLeastShapeSaid : Prop := fnExactLeastShapeRow.holds Try.pinned (OpenSpec.ofChange fnExactLeastShapeSpec)

/-- ITS FALSE NEIGHBOUR: 'it returns false'. Refute it at one input. -/
def fnExactLeastShapeWrong : ChangeSpec := { name := "fnExactLeastShape", fn := fun _ => fun
  | [d] => { results := [.lit (.bool false)], args := [d] }
  | _ => none }
def FnExactLeastShapeWrongFalsely : Prop := fnExactLeastShapeRow.holds Try.pinned (OpenSpec.ofChange fnExactLeastShapeWrong)

/-- 'laws.FnExactHaveSameShape': WHATEVER THE INPUT: true; the input reads as it did. -/
def fnExactHaveSameShapeSpec : ChangeSpec := { name := "fnExactHaveSameShape", fn := fun _ => fun
  | [d1, d2] => { results := [.lit (.bool true)], args := [d1, d2] }
  | _ => none }
def fnExactHaveSameShapeRow : OpenClaim := { program := "ytgbhlmmmighanaa", sum := "0320b5f6166f3eee790885fec758ffe66338072cab18f465cfdaadc784149f16", func := "loop.example/g01391/laws.FnExactHaveSameShape", spec := "fnExactHaveSameShape", unfollowed := true, recurses := true, apart := false }
def FnExactHaveSameShapeSaid : Prop := fnExactHaveSameShapeRow.holds Try.pinned (OpenSpec.ofChange fnExactHaveSameShapeSpec)

/-- ITS FALSE NEIGHBOUR: 'it returns false'. Refute it at one input. -/
def fnExactHaveSameShapeWrong : ChangeSpec := { name := "fnExactHaveSameShape", fn := fun _ => fun
  | [d1, d2] => { results := [.lit (.bool false)], args := [d1, d2] }
  | _ => none }
def FnExactHaveSameShapeWrongFalsely : Prop := fnExactHaveSameShapeRow.holds Try.pinned (OpenSpec.ofChange fnExactHaveSameShapeWrong)

/-- 'laws.FnExactIsInsideBy': WHATEVER THE INPUT: true; the input reads as it did. -/
def fnExactIsInsideBySpec : ChangeSpec := { name := "fnExactIsInsideBy", fn := fun _ => fun
  | [d1, d2, d3] => { results := [.lit (.bool true)], args := [d1, d2, d3] }
  | _ => none }
def fnExactIsInsideByRow : OpenClaim := { program := "ytgbhlmmmighanaa", sum := "0320b5f6166f3eee790885fec758ffe66338072cab18f465cfdaadc784149f16", func := "loop.example/g01391/laws.FnExactIsInsideBy", spec := "fnExactIsInsideBy", apart := false }
def FnExactIsInsideBySaid : Prop := fnExactIsInsideByRow.holds Try.pinned (OpenSpec.ofChange fnExactIsInsideBySpec)

/-- ITS FALSE NEIGHBOUR: 'it returns false'. Refute it at one input. -/
def fnExactIsInsideByWrong : ChangeSpec := { name := "fnExactIsInsideBy", fn := fun _ => fun
  | [d1, d2, d3] => { results := [.lit (.bool false)], args := [d1, d2, d3] }
  | _ => none }
def FnExactIsInsideByWrongFalsely : Prop := fnExactIsInsideByRow.holds Try.pinned (OpenSpec.ofChange fnExactIsInsideByWrong)

/- THE SECOND FORM. 'bulk': how many values and letters a reading holds, each counted each time it is reached (what is shared counts as often as it is met; a slice's spare places count too). A statement '..UptoSaid' is the law's where the arguments, and the package variables that the reading takes, are together of bulk at most 1048576: NARROWER than '..Said'. Prove '..Said' where nothing that the law and all that it calls make is longer than what came in: it says more and counts as full. Else prove '..UptoSaid'. A law counts once. -/
mutual
def uptoBulk {H : Type} : DataW H → Nat
  | .lit (.string bytes) => bytes.length + 1
  | .lit _ => 1
  | .nil => 1
  | .ptr d => uptoBulk d + 1
  | .slice elems spare => uptoBulkAll elems + uptoBulkAll spare + 1
  | .agg parts => uptoBulkAll parts + 1
  | .iface _ d => uptoBulk d + 1
  | .map entries => uptoBulkEntries entries + 1
  | .held _ => 1
def uptoBulkAll {H : Type} : List (DataW H) → Nat
  | [] => 0
  | d :: r => uptoBulk d + uptoBulkAll r
def uptoBulkEntries {H : Type} : List (Lit × DataW H) → Nat
  | [] => 0
  | x :: r => uptoBulkEntry x + uptoBulkEntries r
def uptoBulkEntry {H : Type} : Lit × DataW H → Nat
  | (.string bytes, d) => bytes.length + uptoBulk d + 1
  | (_, d) => uptoBulk d + 1
 end
def uptoSmall : (H : Type) → List (DataW H) → Bool := fun _ ds => decide (uptoBulkAll ds ≤ 1048576)
def OpenSpec.upto (s : _root_.Go.ChangeSpec) : _root_.Go.OpenSpec := { _root_.Go.OpenSpec.ofChange s with cond := some uptoSmall }

/-- 'laws.FnExactRotateLeft', WHERE WHAT IT READS IS OF BULK AT MOST 1048576: true; the input reads as it did. -/
def fnExactRotateLeftUptoRow : OpenClaim := { program := "ytgbhlmmmighanaa", sum := "0320b5f6166f3eee790885fec758ffe66338072cab18f465cfdaadc784149f16", func := "loop.example/g01391/laws.FnExactRotateLeft", spec := "fnExactRotateLeft", apart := false, narrowed := true }
def FnExactRotateLeftUptoSaid : Prop := fnExactRotateLeftUptoRow.holds Try.pinned (OpenSpec.upto fnExactRotateLeftSpec)

/-- 'laws.FnExactRotateRight', WHERE WHAT IT READS IS OF BULK AT MOST 1048576: true; the input reads as it did. -/
def fnExactRotateRightUptoRow : OpenClaim := { program := "ytgbhlmmmighanaa", sum := "0320b5f6166f3eee790885fec758ffe66338072cab18f465cfdaadc784149f16", func := "loop.example/g01391/laws.FnExactRotateRight", spec := "fnExactRotateRight", apart := false, narrowed := true }
def FnExactRotateRightUptoSaid : Prop := fnExactRotateRightUptoRow.holds Try.pinned (OpenSpec.upto fnExactRotateRightSpec)

/-- 'laws.FnExactTreeOfBinary', WHERE WHAT IT READS IS OF BULK AT MOST 1048576: true; the input reads as it did. -/
def fnExactTreeOfBinaryUptoRow : OpenClaim := { program := "ytgbhlmmmighanaa", sum := "0320b5f6166f3eee790885fec758ffe66338072cab18f465cfdaadc784149f16", func := "loop.example/g01391/laws.FnExactTreeOfBinary", spec := "fnExactTreeOfBinary", recurses := true, apart := false, narrowed := true }
def FnExactTreeOfBinaryUptoSaid : Prop := fnExactTreeOfBinaryUptoRow.holds Try.pinned (OpenSpec.upto fnExactTreeOfBinarySpec)

/-- 'laws.FnExactMeetOfBinary', WHERE WHAT IT READS IS OF BULK AT MOST 1048576: true; the input reads as it did. -/
def fnExactMeetOfBinaryUptoRow : OpenClaim := { program := "ytgbhlmmmighanaa", sum := "0320b5f6166f3eee790885fec758ffe66338072cab18f465cfdaadc784149f16", func := "loop.example/g01391/laws.FnExactMeetOfBinary", spec := "fnExactMeetOfBinary", recurses := true, apart := false, narrowed := true }
def FnExactMeetOfBinaryUptoSaid : Prop := fnExactMeetOfBinaryUptoRow.holds Try.pinned (OpenSpec.upto fnExactMeetOfBinarySpec)

/-- 'laws.FnExactFromCorner', WHERE WHAT IT READS IS OF BULK AT MOST 1048576: true; the input reads as it did. -/
def fnExactFromCornerUptoRow : OpenClaim := { program := "ytgbhlmmmighanaa", sum := "0320b5f6166f3eee790885fec758ffe66338072cab18f465cfdaadc784149f16", func := "loop.example/g01391/laws.FnExactFromCorner", spec := "fnExactFromCorner", unfollowed := true, recurses := true, apart := false, narrowed := true }
def FnExactFromCornerUptoSaid : Prop := fnExactFromCornerUptoRow.holds Try.pinned (OpenSpec.upto fnExactFromCornerSpec)

/-- 'laws.FnExactLeastShape', WHERE WHAT IT READS IS OF BULK AT MOST 1048576: true; the input reads as it did. -/
def fnExactLeastShapeUptoRow : OpenClaim := { program := "ytgbhlmmmighanaa", sum := "0320b5f6166f3eee790885fec758ffe66338072cab18f465cfdaadc784149f16", func := "loop.example/g01391/laws.FnExactLeastShape", spec := "fnExactLeastShape", unfollowed := true, recurses := true, apart := false, narrowed := true }
def FnExactLeastShapeUptoSaid : Prop := fnExactLeastShapeUptoRow.holds Try.pinned (OpenSpec.upto fnExactLeastShapeSpec)

/-- 'laws.FnExactHaveSameShape', WHERE WHAT IT READS IS OF BULK AT MOST 1048576: true; the input reads as it did. -/
def fnExactHaveSameShapeUptoRow : OpenClaim := { program := "ytgbhlmmmighanaa", sum := "0320b5f6166f3eee790885fec758ffe66338072cab18f465cfdaadc784149f16", func := "loop.example/g01391/laws.FnExactHaveSameShape", spec := "fnExactHaveSameShape", unfollowed := true, recurses := true, apart := false, narrowed := true }
def FnExactHaveSameShapeUptoSaid : Prop := fnExactHaveSameShapeUptoRow.holds Try.pinned (OpenSpec.upto fnExactHaveSameShapeSpec)

/-- 'laws.FnExactIsInsideBy', WHERE WHAT IT READS IS OF BULK AT MOST 1048576: true; the input reads as it did. -/
def fnExactIsInsideByUptoRow : OpenClaim := { program := "ytgbhlmmmighanaa", sum := "0320b5f6166f3eee790885fec758ffe66338072cab18f465cfdaadc784149f16", func := "loop.example/g01391/laws.FnExactIsInsideBy", spec := "fnExactIsInsideBy", apart := false, narrowed := true }
def FnExactIsInsideByUptoSaid : Prop := fnExactIsInsideByUptoRow.holds Try.pinned (OpenSpec.upto fnExactIsInsideBySpec)

end Rows
end Go.Proofs.Ytgbhlmmmighanaa
