/- The pure statement of the law FnExactIsMoreGeneral. -/
import Derived.Test.YtmambanmffdibaaEx8
import Derived.Test.YtmambanmffdibaaPatEnd
import Derived.Test.YtmambanmffdibaaPatText
namespace Go.Proofs.Ytmambanmffdibaa
set_option linter.unusedVariables false
set_option linter.unusedSectionVars false
open Go.RowKit Go.Proofs.YtmambanmffdibaaW.PrintWords Go.Proofs.Ytmambanmffdibaa.Base Go.Proofs.Ytmambanmffdibaa.PT Go.Proofs.Ytmambanmffdibaa.E
theorem more_ev (a0 a1 : ByteArray) (h0 : a0.size ≤ 1048576) (h1 : a1.size ≤ 1048576) : Ev (fun k => spec_IsMoreGeneral.f k a0 a1) (P.moreP a0 a1) := by
  unfold spec_IsMoreGeneral.f
  refine Ev.bind (l04Is_ev a0 h0) ?_
  rw [P.moreP]
  cases e0 : P.toP a0 with
  | none => exact ev_neg (by rw [P.isP, e0]; decide) (ev_now rfl)
  | some p =>
    refine ev_pos (by rw [P.isP, e0]; rfl) (Ev.bind (l04Is_ev a1 h1) ?_)
    cases e1 : P.toP a1 with
    | none => exact ev_neg (by rw [P.isP, e1]; decide) (ev_now rfl)
    | some q =>
      refine ev_pos (by rw [P.isP, e1]; rfl) ?_
      obtain ⟨t0, g0⟩ := toP_text e0
      obtain ⟨t1, g1⟩ := toP_text e1
      refine Ev.bind (match_ev h0 h1 g0 g1 t0 t1) (ev_now ?_)
      show _ = ((P.matchP 61 p q fun _ => none).1, (0 : Int))
      rw [match_isSome 61 61 p q _ g0 g1]
      cases matchS 61 61 p q <;> rfl
theorem Pure.FnExactIsMoreGeneral (a0 : ByteArray) (a1 : ByteArray) (_ : a0.size ≤ maxLen) (_ : a1.size ≤ maxLen) : ∃ k, laws_FnExactIsMoreGeneral.f k a0 a1 = some true := by
  refine Ev.rounds (g := fun k => laws_FnExactIsMoreGeneral.f k a0 a1) ?_
  unfold laws_FnExactIsMoreGeneral.f
  by_cases h : (a0.size : Int) > 1048576
  · exact ev_pos h (ev_now rfl)
  · refine ev_neg h ?_
    by_cases h2 : (a1.size : Int) > 1048576
    · exact ev_pos h2 (ev_now rfl)
    · refine ev_neg h2 (Ev.bind (more_ev a0 a1 (by omega) (by omega)) (ev_some (ev_neg (by simp) (ev_pos rfl (ev_now rfl)))))
end Go.Proofs.Ytmambanmffdibaa
