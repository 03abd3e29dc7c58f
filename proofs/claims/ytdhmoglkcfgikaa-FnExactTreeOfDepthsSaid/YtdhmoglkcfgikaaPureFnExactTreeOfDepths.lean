/- The law FnExactTreeOfDepths holds for every list: the program's TreeOfDepths gives the tree that the reference gives. No condition beside those of the given statement. -/
import Derived.Test.YtdhmoglkcfgikaaHelp
import Derived.Test.YtdhmoglkcfgikaaOfDepths
import Derived.Test.YtdhmoglkcfgikaaEx20
namespace Go.Proofs.Ytdhmoglkcfgikaa.Pure
open Go.RowKit Go.Proofs.YtdhmoglkcfgikaaW.PrintWords Go.Proofs.Ytdhmoglkcfgikaa.Base Go.Proofs.Ytdhmoglkcfgikaa.E

theorem spec_td (x : List Int) (hn : x.length ≤ 1048576) : Ev (fun k => spec_TreeOfDepths.f k x) (if x.length > 24 then ([], 2) else if (odM x).2 = true then ((odM x).1, 0) else ([], 4)) := by
  unfold spec_TreeOfDepths.f
  refine ev_ite (fun h => ?_) (fun h => ?_)
  · rw [if_pos (by omega)]; exact Ev.now _
  · rw [if_neg (by omega)]
    refine Ev.bind (spec_od_ev x hn) ?_
    refine ev_ite (fun h => ?_) (fun h => ?_)
    · rw [if_pos h]; exact Ev.now _
    · rw [if_neg h]; exact Ev.now _
theorem impl_td (x : List Int) : Ev (fun k => impl_TreeOfDepths.f k x) (if x.length > 24 then ([], 2) else if (odM x).2 = true then ((odM x).1, 0) else ([], 4)) := by
  unfold impl_TreeOfDepths.f
  refine ev_ite (fun h => ?_) (fun h => ?_)
  · rw [if_pos (by omega)]; exact Ev.now _
  · rw [if_neg (by omega)]
    refine Ev.bind (impl_od_ev x (by omega)) ?_
    refine ev_ite (fun h => ?_) (fun h => ?_)
    · rw [if_pos h]; exact Ev.now _
    · rw [if_neg h]; exact Ev.now _
theorem FnExactTreeOfDepths : ∀ (l : List Int), l.length ≤ maxLen → (∀ x ∈ l, (Lit.int .i64 x).wf = true) → ∃ k, laws_FnExactTreeOfDepths.f k l = some true := by
  intro l _ _
  apply Ev.rounds
  unfold laws_FnExactTreeOfDepths.f
  refine ev_ite (fun _ => Ev.now _) (fun h => ?_)
  have hl : l.length ≤ 1048576 := by omega
  obtain ⟨r, hr, h1, h2⟩ : ∃ r : List Int × Int, r.1.length ≤ 1048576 ∧ Ev (fun k => spec_TreeOfDepths.f k l) r ∧ Ev (fun k => impl_TreeOfDepths.f k l) r := by
    refine ⟨_, ?_, spec_td l hl, impl_td l⟩
    have := odM_length l
    split
    · simp
    · split
      · simp only; omega
      · simp
  refine Ev.bind (toInt64S_ev l hl) (Ev.bind h1 (Ev.bind (toInt64S_ev l hl) (Ev.bind h2 (Ev.bind (eqTree_ev _ hr) (ev_pos rfl ?_)))))
  refine Ev.step (fun k => by rw [laws_FnExactTreeOfDepths.j0]) ?_
  refine ev_neg (by simp) ?_
  refine Ev.bind (toInt64S_ev l hl) (Ev.bind (eqInt64S_ev l hl) (ev_pos rfl (Ev.bind (markInt64S_ev l 1 (by decide) (by decide) hl) (ev_neg (by simp only; omega) (Ev.bind (eqTree_ev _ hr) (ev_pos rfl ?_))))))
  refine Ev.step (fun k => by rw [laws_FnExactTreeOfDepths.j1]) ?_
  refine ev_neg (by simp) ?_
  refine Ev.bind (markTree_ev _ 1 (by decide) (by decide) hr) (Ev.bind (heldTree_ev _ 1 (by decide) (by decide) hr) (ev_neg (by omega) (ev_pos rfl (Ev.bind (toInt64S_ev l hl) (Ev.bind h2 (Ev.bind (eqTree_ev _ hr) (ev_pos rfl ?_)))))))
  refine Ev.step (fun k => by rw [laws_FnExactTreeOfDepths.j2]) ?_
  refine ev_neg (by simp) ?_
  exact Ev.bind (heldTree_ev _ 1 (by decide) (by decide) hr) (ev_neg (by omega) (ev_pos rfl (Ev.now _)))
end Go.Proofs.Ytdhmoglkcfgikaa.Pure
