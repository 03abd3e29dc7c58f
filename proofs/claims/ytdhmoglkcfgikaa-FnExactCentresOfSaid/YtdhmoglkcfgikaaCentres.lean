/- CentresOf on both sides. -/
import Derived.Test.YtdhmoglkcfgikaaDist
import Derived.Test.YtdhmoglkcfgikaaEx31
namespace Go.Proofs.Ytdhmoglkcfgikaa.E
open Go.RowKit Go.Proofs.YtdhmoglkcfgikaaW.PrintWords Go.Proofs.YtdhmoglkcfgikaaW.PrintMore Go.Proofs.Ytdhmoglkcfgikaa.Base Go.Proofs.Ytdhmoglkcfgikaa.Tree

theorem both_CentresOf (l : List Int) (hl : l.length ≤ 1048576) : ∃ r : List Int × Int, r.1.length ≤ 1048576 ∧ Ev (fun k => spec_CentresOf.f k l) r ∧ Ev (fun k => impl_CentresOf.f k l) r := by
  by_cases ht : isTreeM l = true
  · obtain ⟨h, hn⟩ := isTreeM_sound ht
    have h0 := h.len
    refine ⟨(leastM (reachL l), 0), ?_, ?_, ?_⟩
    · have := leastM_length (reachL l)
      rw [reachL_length] at this
      simp only; omega
    · unfold spec_CentresOf.f
      exact Ev.bind (spec_l01Is_ev l hl) (ev_pos ht (Ev.bind (spec_l05Reaches_ev h (by omega)) (Ev.bind (spec_l05Least_ev _ (by rw [reachL_length]; omega) (by rw [reachL_length]; omega)) (Ev.now _))))
    · unfold impl_CentresOf.f
      exact Ev.bind (impl_IsTree_ev l) (ev_pos ht (Ev.bind (impl_reaches_ev h (by omega)) (Ev.bind (impl_least_ev _ (by rw [reachL_length]; omega) (by rw [reachL_length]; omega)) (Ev.now _))))
  · refine ⟨([], 1), by simp, ?_, ?_⟩
    · unfold spec_CentresOf.f
      exact Ev.bind (spec_l01Is_ev l hl) (ev_neg ht (Ev.now _))
    · unfold impl_CentresOf.f
      exact Ev.bind (impl_IsTree_ev l) (ev_neg ht (Ev.now _))
end Go.Proofs.Ytdhmoglkcfgikaa.E
