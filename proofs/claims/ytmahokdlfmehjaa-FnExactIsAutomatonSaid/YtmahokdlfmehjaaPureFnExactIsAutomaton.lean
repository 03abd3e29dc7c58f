/- The law FnExactIsAutomaton holds for all arguments: the program's IsAutomaton gives what the reference gives. No condition beside those of the given statement. -/
import Derived.Test.YtmahokdlfmehjaaAutoEv
import Derived.Test.YtmahokdlfmehjaaEx7
namespace Go.Proofs.Ytmahokdlfmehjaa.Pure
set_option linter.unusedVariables false
set_option linter.unusedSectionVars false
open Go.RowKit Go.Proofs.YtmahokdlfmehjaaW.PrintWords Go.Proofs.Ytmahokdlfmehjaa.Base Go.Proofs.Ytmahokdlfmehjaa.Auto Go.Proofs.Ytmahokdlfmehjaa.E
theorem FnExactIsAutomaton : ∀ (st : Int) (S : List (List Int)) (g : List Int), (Lit.int .i64 st).wf = true → S.length ≤ maxLen → (∀ y ∈ S, y.length ≤ maxLen ∧ ∀ x ∈ y, (Lit.int .i64 x).wf = true) → g.length ≤ maxLen → (∀ x ∈ g, (Lit.int .i64 x).wf = true) → ∃ k, laws_FnExactIsAutomaton.f k st S g = some true := by
  intro st S g _ hS hm hg _
  apply Ev.rounds
  obtain ⟨r, h1, h2⟩ := szAutomaton_ev st S g hS (fun j hj => by
    have : S.getD j [] ∈ S := by rw [List.getD_eq_getElem?_getD, List.getElem?_eq_getElem hj]; exact List.getElem_mem hj
    exact (hm _ this).1) hg
  unfold laws_FnExactIsAutomaton.f
  refine Ev.bind h1 ?_
  rcases h2 with h2 | ⟨h2, _, hs⟩
  · exact ev_pos h2 (Ev.now _)
  · refine ev_neg (by omega) (Ev.bind (toA_ev hs st) ?_)
    unfold spec_IsAutomaton.f
    exact Ev.bind (Ev.bind (spec_l06Is_ev hs st) (Ev.now _)) (Ev.bind (toA_ev hs st) (Ev.bind (impl_IsAutomaton_ev hs st) (ev_neg (by simp) (Ev.bind (toA_ev hs st) (Ev.bind (eqA_ev hs st) (ev_pos rfl (Ev.now _)))))))
end Go.Proofs.Ytmahokdlfmehjaa.Pure
