/- The pure statement of the law FnExactIsPattern. -/
import Derived.Test.YtmambanmffdibaaEx7
import Derived.Test.YtmambanmffdibaaPatEnd
namespace Go.Proofs.Ytmambanmffdibaa
set_option linter.unusedVariables false
set_option linter.unusedSectionVars false
open Go.RowKit Go.Proofs.YtmambanmffdibaaW.PrintWords Go.Proofs.Ytmambanmffdibaa.Base Go.Proofs.Ytmambanmffdibaa.PT Go.Proofs.Ytmambanmffdibaa.E
theorem Pure.FnExactIsPattern (a0 : ByteArray) (_ : a0.size ≤ maxLen) : ∃ k, laws_FnExactIsPattern.f k a0 = some true := by
  refine Ev.rounds (g := fun k => laws_FnExactIsPattern.f k a0) ?_
  unfold laws_FnExactIsPattern.f
  by_cases h : (a0.size : Int) > 1048576
  · exact ev_pos h (ev_now rfl)
  · refine ev_neg h (Ev.bind (?_ : Ev (fun k => spec_IsPattern.f k a0) (P.isP a0)) (ev_some (ev_neg ?_ (ev_now rfl))))
    · exact Ev.bind (l04Is_ev a0 (by omega)) (ev_now rfl)
    · simp
end Go.Proofs.Ytmambanmffdibaa
