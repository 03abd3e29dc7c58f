/-
  DERIVED. GIVEN WITH THE SEED: THE CARDS: each row of YtbecakjoccegaaaDoorRows.lean that lists a variable, with what it lists TIED to the program's text (the seventh form; the later family's looks); each row that meets fmt, with fmt's text TOLD by the authors' own Lean function (tested against real Go, not proved from fmt's source: count such statements apart). THE CARD IS WHAT COUNTS. Prove the row's statement (the work); the ties are given (YtbecakjoccegaaaDoorTie.lean); close each card by the builder's one call (the guide's Derived/Test/ToyasCard.lean, 'card_holds'). Laid BY PROGRAM, IN A SANDBOX (cutbox-door.mjs). By AI agents, Wed Nov 11 2026. No macro, syntax, notation, axiom, sorry.
-/
import Derived.Test.YtbecakjoccegaaaDoorRows
import GoSem.ClaimSeven
namespace Go.Proofs.YtbecakjoccegaaaDoor
namespace Rows

/-- THE TIED CARD OF 'laws.FnExactParseAutomaton'. -/
def fnExactParseAutomatonCard : Claim7 := { stood := { row := fnExactParseAutomatonRow, standIns := [], harness := (true, "6e61ba0c5998a720364f59804f63466c8c760cb0e3b553e956e72ca20f717883"), looks := false }, kinds := [], alts := [], laidByText := true, laidKinds := [.data, .pinned], laidTests := true, laidLooks := .later }
def FnExactParseAutomatonCardSaid : Prop := Claim7.holds Tryd.pinned (.plain (OpenSpec.ofChange fnExactParseAutomatonSpec)) fnExactParseAutomatonCard

/-- THE SECOND FORM's CARD OF 'laws.FnExactParseAutomaton'. -/
def fnExactParseAutomatonUptoCard : Claim7 := { stood := { row := fnExactParseAutomatonUptoRow, standIns := [], harness := (true, "6e61ba0c5998a720364f59804f63466c8c760cb0e3b553e956e72ca20f717883"), looks := false }, kinds := [], alts := [], laidByText := true, laidKinds := [.data, .pinned], laidTests := true, laidLooks := .later }
def FnExactParseAutomatonUptoCardSaid : Prop := Claim7.holds Tryd.pinned (.plain (OpenSpec.upto fnExactParseAutomatonSpec)) fnExactParseAutomatonUptoCard
end Rows
end Go.Proofs.YtbecakjoccegaaaDoor
