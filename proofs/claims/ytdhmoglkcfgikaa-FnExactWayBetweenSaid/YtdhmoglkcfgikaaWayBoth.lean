/- WayBetween on both sides. -/
import Derived.Test.YtdhmoglkcfgikaaWay
import Derived.Test.YtdhmoglkcfgikaaEx30
namespace Go.Proofs.Ytdhmoglkcfgikaa.E
set_option linter.unusedVariables false
set_option linter.unusedSectionVars false
open Go.RowKit Go.Proofs.YtdhmoglkcfgikaaW.PrintWords Go.Proofs.Ytdhmoglkcfgikaa.Base Go.Proofs.Ytdhmoglkcfgikaa.Tree
theorem both_WayBetween (l : List Int) (v w : Int) (hl : l.length ≤ 1048576) (_ : (Lit.int .i64 v).wf = true) (_ : (Lit.int .i64 w).wf = true) : ∃ r : List Int × Int, r.1.length ≤ 1048576 ∧ Ev (fun k => spec_WayBetween.f k l v w) r ∧ Ev (fun k => impl_WayBetween.f k l v w) r := by
  by_cases hc : codeL l [v, w] = 0
  · obtain ⟨ht, ⟨a, rfl, ha⟩, ⟨b, rfl, hb⟩⟩ := codeL_two hc
    obtain ⟨h, hn⟩ := isTreeM_sound ht
    have hf := wayM_length l a b
    refine ⟨(castL (wayM l a b), 0), by rw [castL_length]; omega, ?_, ?_⟩
    · unfold spec_WayBetween.f
      exact Ev.bind (spec_l01Nodes_ev l hl [(a : Int), (b : Int)] (by simp)) (ev_pos hc (Ev.bind (spec_l05Way_ev h (by omega) ha hb) (Ev.now _)))
    · unfold impl_WayBetween.f
      exact Ev.bind (impl_treeCode_ev l hl [(a : Int), (b : Int)] (by simp)) (ev_pos hc (Ev.bind (impl_wayBetween_ev h (by omega) ha hb) (Ev.now _)))
  · refine ⟨([], codeL l [v, w]), by simp, ?_, ?_⟩
    · unfold spec_WayBetween.f
      exact Ev.bind (spec_l01Nodes_ev l hl [v, w] (by simp)) (ev_neg hc (Ev.now _))
    · unfold impl_WayBetween.f
      exact Ev.bind (impl_treeCode_ev l hl [v, w] (by simp)) (ev_neg hc (Ev.now _))
end Go.Proofs.Ytdhmoglkcfgikaa.E
