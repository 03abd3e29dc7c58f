/-
  No cell of these rows narrows 'for every input' (looked for: loops, veiled, ifaces, maps, wideKeys, modest, calm, conditions, laid).
  DERIVED. THE GIVEN ROWS OF THIS SEAT. 2 by the template 'for every input the law returns true; each argument reads behind the call as it read before'; 0 by the template 'total and deterministic' (their statements: YtehincgnkgklkaaTotals.lean).
  GIVEN WITH THE SEED: the statements are not yours to turn. If you find one false, say at which input.
  Laid BY PROGRAM, IN A SANDBOX (cutbox-rows.mjs): the forced cells as the released guide's own fill.sh prints them over the translation 504446c2aead2f78… (all of the seat's roots in one cut). By AI agents, Wed Nov 11 2026. No macro, syntax, notation, axiom, sorry.
-/
import Derived.Test.YtehincgnkgklkaaChecked
import GoSem.Claim
import GoSem.ClaimJoined
import GoSem.ClaimMapViews
import Derived.JoinedTies
import Derived.KernelRfl
namespace Go.Proofs.Ytehincgnkgklkaa
/- THE CELL 'sum', in the pinned program and in every row, IS THE sha256 OF THE DUMP (.gsa) THAT YtehincgnkgklkaaProg.lean LOADS. Nothing in Lean hashes anything: it is a label: what it is worth is what the hold of that sum in a sandbox is worth. -/
noncomputable def Try.pinned : Pinned := { name := "ytehincgnkgklkaa", sum := "504446c2aead2f7833867eeb0ae2bb69fac4580fcb6953adefca27311608c47f", checked := Try.checked }
namespace Rows
def none {H : Type} : Left H := { results := [], args := [] }

/-- 'laws.FnExactCountInside': WHATEVER THE INPUT: true; the input reads as it did. -/
def fnExactCountInsideSpec : ChangeSpec := { name := "fnExactCountInside", fn := fun _ => fun
  | [d1, d2] => { results := [.lit (.bool true)], args := [d1, d2] }
  | _ => none }
def fnExactCountInsideRow : OpenClaim := { program := "ytehincgnkgklkaa", sum := "504446c2aead2f7833867eeb0ae2bb69fac4580fcb6953adefca27311608c47f", func := "loop.example/g01391/laws.FnExactCountInside", spec := "fnExactCountInside", unfollowed := true, recurses := true, apart := false }
def FnExactCountInsideSaid : Prop := fnExactCountInsideRow.holds Try.pinned (OpenSpec.ofChange fnExactCountInsideSpec)

/-- ITS FALSE NEIGHBOUR: 'it returns false'. Refute it at one input. -/
def fnExactCountInsideWrong : ChangeSpec := { name := "fnExactCountInside", fn := fun _ => fun
  | [d1, d2] => { results := [.lit (.bool false)], args := [d1, d2] }
  | _ => none }
def FnExactCountInsideWrongFalsely : Prop := fnExactCountInsideRow.holds Try.pinned (OpenSpec.ofChange fnExactCountInsideWrong)

/-- 'laws.FnExactFirstInside': WHATEVER THE INPUT: true; the input reads as it did. -/
def fnExactFirstInsideSpec : ChangeSpec := { name := "fnExactFirstInside", fn := fun _ => fun
  | [d1, d2] => { results := [.lit (.bool true)], args := [d1, d2] }
  | _ => none }
def fnExactFirstInsideRow : OpenClaim := { program := "ytehincgnkgklkaa", sum := "504446c2aead2f7833867eeb0ae2bb69fac4580fcb6953adefca27311608c47f", func := "loop.example/g01391/laws.FnExactFirstInside", spec := "fnExactFirstInside", unfollowed := true, recurses := true, apart := false }
def FnExactFirstInsideSaid : Prop := fnExactFirstInsideRow.holds Try.pinned (OpenSpec.ofChange fnExactFirstInsideSpec)

/-- ITS FALSE NEIGHBOUR: 'it returns false'. Refute it at one input. -/
def fnExactFirstInsideWrong : ChangeSpec := { name := "fnExactFirstInside", fn := fun _ => fun
  | [d1, d2] => { results := [.lit (.bool false)], args := [d1, d2] }
  | _ => none }
def FnExactFirstInsideWrongFalsely : Prop := fnExactFirstInsideRow.holds Try.pinned (OpenSpec.ofChange fnExactFirstInsideWrong)

/- THE SECOND FORM. 'bulk': how many values and letters a reading holds, each counted each time it is reached (what is shared counts as often as it is met; a slice's spare places count too). A statement '..UptoSaid' is the law's where the arguments, and the package variables that the reading takes, are together of bulk at most 1048576: NARROWER than '..Said'. Prove '..Said' where nothing that the law and all that it calls make is longer than what came in: it says more and counts as full. Else prove '..UptoSaid'. A law counts once. -/
mutual
def uptoBulk {H : Type} : DataW H → Nat
  | .lit (.string bytes) => bytes.length + 1
  | .lit _ => 1
  | .nil => 1
  | .ptr d => uptoBulk d + 1
  | .slice elems spare => uptoBulkAll elems + uptoBulkAll spare + 1
  | .agg parts => uptoBulkAll parts + 1
  | .iface _ d => uptoBulk d + 1
  | .map entries => uptoBulkEntries entries + 1
  | .held _ => 1
def uptoBulkAll {H : Type} : List (DataW H) → Nat
  | [] => 0
  | d :: r => uptoBulk d + uptoBulkAll r
def uptoBulkEntries {H : Type} : List (Lit × DataW H) → Nat
  | [] => 0
  | x :: r => uptoBulkEntry x + uptoBulkEntries r
def uptoBulkEntry {H : Type} : Lit × DataW H → Nat
  | (.string bytes, d) => bytes.length + uptoBulk d + 1
  | (_, d) => uptoBulk d + 1
 end
def uptoSmall : (H : Type) → List (DataW H) → Bool := fun _ ds => decide (uptoBulkAll ds ≤ 1048576)
def OpenSpec.upto (s : _root_.Go.ChangeSpec) : _root_.Go.OpenSpec := { _root_.Go.OpenSpec.ofChange s with cond := some uptoSmall }

/-- 'laws.FnExactCountInside', WHERE WHAT IT READS IS OF BULK AT MOST 1048576: true; the input reads as it did. -/
def fnExactCountInsideUptoRow : OpenClaim := { program := "ytehincgnkgklkaa", sum := "504446c2aead2f7833867eeb0ae2bb69fac4580fcb6953adefca27311608c47f", func := "loop.example/g01391/laws.FnExactCountInside", spec := "fnExactCountInside", unfollowed := true, recurses := true, apart := false, narrowed := true }
def FnExactCountInsideUptoSaid : Prop := fnExactCountInsideUptoRow.holds Try.pinned (OpenSpec.upto fnExactCountInsideSpec)

/-- 'laws.FnExactFirstInside', WHERE WHAT IT READS IS OF BULK AT MOST 1048576: true; the input reads as it did. -/
def fnExactFirstInsideUptoRow : OpenClaim := { program := "ytehincgnkgklkaa", sum := "504446c2aead2f7833867eeb0ae2bb69fac4580fcb6953adefca27311608c47f", func := "loop.example/g01391/laws.FnExactFirstInside", spec := "fnExactFirstInside", unfollowed := true, recurses := true, apart := false, narrowed := true }
def FnExactFirstInsideUptoSaid : Prop := fnExactFirstInsideUptoRow.holds Try.pinned (OpenSpec.upto fnExactFirstInsideSpec)

end Rows
end Go.Proofs.Ytehincgnkgklkaa
