/- The law FnExactWayBetween holds for all arguments: the program's WayBetween gives what the reference gives. No condition beside those of the given statement. -/
import Derived.Test.YtdhmoglkcfgikaaHelp
import Derived.Test.YtdhmoglkcfgikaaWayBoth
import Derived.Test.YtdhmoglkcfgikaaEx30
namespace Go.Proofs.Ytdhmoglkcfgikaa.Pure
set_option linter.unusedVariables false
set_option linter.unusedSectionVars false
open Go.RowKit Go.Proofs.YtdhmoglkcfgikaaW.PrintWords Go.Proofs.Ytdhmoglkcfgikaa.Base Go.Proofs.Ytdhmoglkcfgikaa.E

theorem FnExactWayBetween : ∀ (l : List Int) (v w : Int), l.length ≤ maxLen → (∀ x ∈ l, (Lit.int .i64 x).wf = true) → (Lit.int .i64 v).wf = true → (Lit.int .i64 w).wf = true → ∃ k, laws_FnExactWayBetween.f k l v w = some true := by
  intro l v w hm _ h1v h2v
  apply Ev.rounds
  unfold laws_FnExactWayBetween.f
  simp only [szTree_eq l 1048576 (by decide) (by decide) hm]
  refine ev_some ?_
  by_cases hb : (1048576 : Int) < l.length
  · rw [if_pos hb]
    exact ev_pos (by decide) (Ev.now _)
  · rw [if_neg hb]
    have hl : l.length ≤ 1048576 := by omega
    obtain ⟨r, hr, h1, h2⟩ := both_WayBetween l v w hl h1v h2v
    refine ev_neg (by omega) ?_
    refine Ev.bind (toTree_ev l hl) (Ev.bind h1 (Ev.bind (toTree_ev l hl) (Ev.bind h2 (Ev.bind (eqInt64S_ev _ hr) (ev_pos rfl ?_)))))
    refine Ev.step (fun k => by rw [laws_FnExactWayBetween.j0]) ?_
    refine ev_neg (by simp) ?_
    refine Ev.bind (toTree_ev l hl) (Ev.bind (eqTree_ev l hl) (ev_pos rfl (Ev.bind (markTree_ev l 1 (by decide) (by decide) hl) (ev_neg (by simp only; omega) (Ev.bind (eqInt64S_ev _ hr) (ev_pos rfl ?_))))))
    refine Ev.step (fun k => by rw [laws_FnExactWayBetween.j1]) ?_
    refine ev_neg (by simp) ?_
    refine Ev.bind (markInt64S_ev _ 1 (by decide) (by decide) hr) (Ev.bind (heldInt64S_ev _ 1 (by decide) (by decide) hr) (ev_neg (by omega) (ev_pos rfl (Ev.bind (toTree_ev l hl) (Ev.bind h2 (Ev.bind (eqInt64S_ev _ hr) (ev_pos rfl ?_)))))))
    refine Ev.step (fun k => by rw [laws_FnExactWayBetween.j2]) ?_
    refine ev_neg (by simp) ?_
    exact Ev.bind (heldInt64S_ev _ 1 (by decide) (by decide) hr) (ev_neg (by omega) (ev_pos rfl (Ev.now _)))
end Go.Proofs.Ytdhmoglkcfgikaa.Pure
