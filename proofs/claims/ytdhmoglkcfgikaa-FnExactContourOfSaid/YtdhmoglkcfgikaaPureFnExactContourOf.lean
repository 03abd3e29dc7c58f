/- The law FnExactContourOf holds for all arguments: the program's ContourOf gives what the reference gives. No condition beside those of the given statement. -/
import Derived.Test.YtdhmoglkcfgikaaHelp
import Derived.Test.YtdhmoglkcfgikaaContour
import Derived.Test.YtdhmoglkcfgikaaEx21
namespace Go.Proofs.Ytdhmoglkcfgikaa.Pure
set_option linter.unusedVariables false
set_option linter.unusedSectionVars false
open Go.RowKit Go.Proofs.YtdhmoglkcfgikaaW.PrintWords Go.Proofs.Ytdhmoglkcfgikaa.Base Go.Proofs.Ytdhmoglkcfgikaa.E

theorem FnExactContourOf : ∀ (l : List Int) , l.length ≤ maxLen → (∀ x ∈ l, (Lit.int .i64 x).wf = true) →  ∃ k, laws_FnExactContourOf.f k l  = some true := by
  intro l  hm _ 
  apply Ev.rounds
  unfold laws_FnExactContourOf.f
  simp only [szTree_eq l 1048576 (by decide) (by decide) hm]
  refine ev_some ?_
  by_cases hb : (1048576 : Int) < l.length
  · rw [if_pos hb]
    exact ev_pos (by decide) (Ev.now _)
  · rw [if_neg hb]
    have hl : l.length ≤ 1048576 := by omega
    obtain ⟨r, hr, h1, h2⟩ := both_ContourOf l  hl 
    refine ev_neg (by omega) ?_
    refine Ev.bind (toTree_ev l hl) (Ev.bind h1 (Ev.bind (toTree_ev l hl) (Ev.bind h2 (Ev.bind (eqInt64S_ev _ hr) (ev_pos rfl ?_)))))
    refine Ev.step (fun k => by rw [laws_FnExactContourOf.j0]) ?_
    refine ev_neg (by simp) ?_
    refine Ev.bind (toTree_ev l hl) (Ev.bind (eqTree_ev l hl) (ev_pos rfl (Ev.bind (markTree_ev l 1 (by decide) (by decide) hl) (ev_neg (by simp only; omega) (Ev.bind (eqInt64S_ev _ hr) (ev_pos rfl ?_))))))
    refine Ev.step (fun k => by rw [laws_FnExactContourOf.j1]) ?_
    refine ev_neg (by simp) ?_
    refine Ev.bind (markInt64S_ev _ 1 (by decide) (by decide) hr) (Ev.bind (heldInt64S_ev _ 1 (by decide) (by decide) hr) (ev_neg (by omega) (ev_pos rfl (Ev.bind (toTree_ev l hl) (Ev.bind h2 (Ev.bind (eqInt64S_ev _ hr) (ev_pos rfl ?_)))))))
    refine Ev.step (fun k => by rw [laws_FnExactContourOf.j2]) ?_
    refine ev_neg (by simp) ?_
    exact Ev.bind (heldInt64S_ev _ 1 (by decide) (by decide) hr) (ev_neg (by omega) (ev_pos rfl (Ev.now _)))
end Go.Proofs.Ytdhmoglkcfgikaa.Pure
