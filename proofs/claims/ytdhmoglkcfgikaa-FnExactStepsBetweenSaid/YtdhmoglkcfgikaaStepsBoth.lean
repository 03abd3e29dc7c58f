/- StepsBetween on both sides. -/
import Derived.Test.YtdhmoglkcfgikaaWay
import Derived.Test.YtdhmoglkcfgikaaEx28
namespace Go.Proofs.Ytdhmoglkcfgikaa.E
set_option linter.unusedVariables false
set_option linter.unusedSectionVars false
open Go.RowKit Go.Proofs.YtdhmoglkcfgikaaW.PrintWords Go.Proofs.Ytdhmoglkcfgikaa.Base Go.Proofs.Ytdhmoglkcfgikaa.Tree
theorem both_StepsBetween (l : List Int) (v w : Int) (hl : l.length ≤ 1048576) (_ : (Lit.int .i64 v).wf = true) (_ : (Lit.int .i64 w).wf = true) : ∃ r : Int × Int, Ev (fun k => spec_StepsBetween.f k l v w) r ∧ Ev (fun k => impl_StepsBetween.f k l v w) r := by
  by_cases hc : codeL l [v, w] = 0
  · obtain ⟨ht, ⟨a, rfl, ha⟩, ⟨b, rfl, hb⟩⟩ := codeL_two hc
    obtain ⟨h, hn⟩ := isTreeM_sound ht
    refine ⟨(wrap64 (((castL (wayM l a b)).length : Int) - 1), 0), ?_, ?_⟩
    · unfold spec_StepsBetween.f
      exact Ev.bind (spec_l01Nodes_ev l hl [(a : Int), (b : Int)] (by simp)) (ev_pos hc (Ev.bind (spec_l05Way_ev h (by omega) ha hb) (Ev.now _)))
    · unfold impl_StepsBetween.f
      exact Ev.bind (impl_treeCode_ev l hl [(a : Int), (b : Int)] (by simp)) (ev_pos hc (Ev.bind (impl_wayBetween_ev h (by omega) ha hb) (Ev.now _)))
  · refine ⟨(0, codeL l [v, w]), ?_, ?_⟩
    · unfold spec_StepsBetween.f
      exact Ev.bind (spec_l01Nodes_ev l hl [v, w] (by simp)) (ev_neg hc (Ev.now _))
    · unfold impl_StepsBetween.f
      exact Ev.bind (impl_treeCode_ev l hl [v, w] (by simp)) (ev_neg hc (Ev.now _))
end Go.Proofs.Ytdhmoglkcfgikaa.E
