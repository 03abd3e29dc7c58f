/- The law FnExactStepsBetween holds for all arguments: the program's StepsBetween gives what the reference gives. No condition beside those of the given statement. -/
import Derived.Test.YtdhmoglkcfgikaaHelp
import Derived.Test.YtdhmoglkcfgikaaStepsBoth
import Derived.Test.YtdhmoglkcfgikaaEx28
namespace Go.Proofs.Ytdhmoglkcfgikaa.Pure
set_option linter.unusedVariables false
set_option linter.unusedSectionVars false
open Go.RowKit Go.Proofs.YtdhmoglkcfgikaaW.PrintWords Go.Proofs.Ytdhmoglkcfgikaa.Base Go.Proofs.Ytdhmoglkcfgikaa.E

theorem FnExactStepsBetween : ∀ (l : List Int) (v w : Int), l.length ≤ maxLen → (∀ x ∈ l, (Lit.int .i64 x).wf = true) → (Lit.int .i64 v).wf = true → (Lit.int .i64 w).wf = true → ∃ k, laws_FnExactStepsBetween.f k l v w = some true := by
  intro l v w hm _ h1v h2v
  apply Ev.rounds
  unfold laws_FnExactStepsBetween.f
  simp only [szTree_eq l 1048576 (by decide) (by decide) hm]
  refine ev_some ?_
  by_cases hb : (1048576 : Int) < l.length
  · rw [if_pos hb]
    exact ev_pos (by decide) (Ev.now _)
  · rw [if_neg hb]
    have hl : l.length ≤ 1048576 := by omega
    obtain ⟨r, h1, h2⟩ := both_StepsBetween l v w hl h1v h2v
    refine ev_neg (by omega) ?_
    refine Ev.bind (toTree_ev l hl) (Ev.bind h1 (Ev.bind (toTree_ev l hl) (Ev.bind h2 (ev_pos rfl ?_))))
    refine Ev.step (fun k => by rw [laws_FnExactStepsBetween.j0]) ?_
    refine ev_neg (by simp) ?_
    exact Ev.bind (toTree_ev l hl) (Ev.bind (eqTree_ev l hl) (ev_pos rfl (Ev.now _)))
end Go.Proofs.Ytdhmoglkcfgikaa.Pure
