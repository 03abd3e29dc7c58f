/- One step more for regions that draw their order: from a place on, more is held. No program in sight. -/
import Derived.Test.YtmahokdlfmehjaaWMore
namespace Go.Proofs.YtmahokdlfmehjaaW.PrintLast
set_option linter.unusedVariables false
set_option linter.unusedSectionVars false
open Go.RowKit
section
variable {P : Program} {ops : Array Oper} {Q : Exit → Act → World → Prop} {md : Region.Mode}
theorem wpAnyLast_held {S S' : World → Prop} (hSS : ∀ w, S' w → S w) : ∀ (fuel : Nat) (listed : Array Bool) (a : Act) (w : World), S' w → wpAnyLast P md ops Q S' [] fuel listed a w → wpAnyLast P md ops Q S [] fuel listed a w
  | 0, _, _, _, _, h => h
  | fuel + 1, _, _, w, hw, h => ⟨h.1, fun i hi => wpOp_mono (fun a' w' h' => ⟨fun _ _ => hSS w' (h'.1 (by simp) hw), wpAnyLast_held hSS fuel _ a' w' (h'.1 (by simp) hw) h'.2⟩) (h.2 i hi)⟩
theorem restart_ {S : World → Prop} (S' : World → Prop) {n : Nat} {l : Array Bool} {a : Act} {w : World} (hw : S' w) (hSS : ∀ w, S' w → S w) (h : S' w → wpAnyLast P md ops Q S' [] n l a w) : wpAnyLast P md ops Q S [] n l a w :=
  wpAnyLast_held hSS n l a w hw (h hw)
end
end Go.Proofs.YtmahokdlfmehjaaW.PrintLast
