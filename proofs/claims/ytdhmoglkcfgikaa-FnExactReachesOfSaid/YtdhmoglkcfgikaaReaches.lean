/- ReachesOf on both sides. -/
import Derived.Test.YtdhmoglkcfgikaaDist
import Derived.Test.YtdhmoglkcfgikaaEx29
namespace Go.Proofs.Ytdhmoglkcfgikaa.E
open Go.RowKit Go.Proofs.YtdhmoglkcfgikaaW.PrintWords Go.Proofs.YtdhmoglkcfgikaaW.PrintMore Go.Proofs.Ytdhmoglkcfgikaa.Base Go.Proofs.Ytdhmoglkcfgikaa.Tree

theorem both_ReachesOf (l : List Int) (hl : l.length ≤ 1048576) : ∃ r : List Int × Int, r.1.length ≤ 1048576 ∧ Ev (fun k => spec_ReachesOf.f k l) r ∧ Ev (fun k => impl_ReachesOf.f k l) r := by
  by_cases ht : isTreeM l = true
  · obtain ⟨h, hn⟩ := isTreeM_sound ht
    refine ⟨(reachL l, 0), by rw [reachL_length]; omega, ?_, ?_⟩
    · unfold spec_ReachesOf.f
      exact Ev.bind (spec_l01Is_ev l hl) (ev_pos ht (Ev.bind (spec_l05Reaches_ev h (by omega)) (Ev.now _)))
    · unfold impl_ReachesOf.f
      exact Ev.bind (impl_IsTree_ev l) (ev_pos ht (Ev.bind (impl_reaches_ev h (by omega)) (Ev.now _)))
  · refine ⟨([], 1), by simp, ?_, ?_⟩
    · unfold spec_ReachesOf.f
      exact Ev.bind (spec_l01Is_ev l hl) (ev_neg ht (Ev.now _))
    · unfold impl_ReachesOf.f
      exact Ev.bind (impl_IsTree_ev l) (ev_neg ht (Ev.now _))
end Go.Proofs.Ytdhmoglkcfgikaa.E
