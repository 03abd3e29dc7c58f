/- The law FnExactRotateRight holds for all arguments: the program's RotateRight gives what the reference gives. No condition beside those of the given statement. -/
import Derived.Test.YtgbhlmmmighanaaRot
import Derived.Test.YtgbhlmmmighanaaEx14
namespace Go.Proofs.Ytgbhlmmmighanaa.Pure
set_option linter.unusedVariables false
set_option linter.unusedSectionVars false
open Go.RowKit Go.Proofs.YtgbhlmmmighanaaW.PrintWords Go.Proofs.Ytgbhlmmmighanaa.Base Go.Proofs.Ytgbhlmmmighanaa.Bin Go.Proofs.Ytgbhlmmmighanaa.E

theorem FnExactRotateRight : ∀ (a0 : ByteArray) (a1 : Int), a0.size ≤ maxLen → (Lit.int .i64 a1).wf = true → ∃ k, laws_FnExactRotateRight.f k a0 a1 = some true := by
  intro a0 a1 _ _
  obtain ⟨w, rfl⟩ := B_all a0
  obtain ⟨r, h1, h2⟩ := both_RotateRight w a1
  apply Ev.rounds
  unfold laws_FnExactRotateRight.f
  refine ev_ite (fun _ => Ev.now _) (fun _ => ?_)
  exact Ev.bind h1 (Ev.bind h2 (ev_pos rfl (ev_pos rfl (Ev.now _))))
end Go.Proofs.Ytgbhlmmmighanaa.Pure
