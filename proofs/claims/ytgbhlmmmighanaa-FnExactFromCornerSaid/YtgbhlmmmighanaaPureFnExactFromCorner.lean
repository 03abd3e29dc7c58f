/- FromCorner on both sides, and its law: the program's FromCorner gives what the reference gives, for all arguments. No condition beside those of the given statement. -/
import Derived.Test.YtgbhlmmmighanaaSeen
import Derived.Test.YtgbhlmmmighanaaHelp
import Derived.Test.YtgbhlmmmighanaaEx5
import Derived.Test.YtgbhlmmmighanaaEx6
namespace Go.Proofs.Ytgbhlmmmighanaa.E
set_option linter.unusedVariables false
set_option linter.unusedSectionVars false
open Go.RowKit Go.Proofs.YtgbhlmmmighanaaW.PrintWords Go.Proofs.YtgbhlmmmighanaaW.PrintMore Go.Proofs.Ytgbhlmmmighanaa.Base Go.Proofs.Ytgbhlmmmighanaa.Tree
theorem both_FromCorner (l : List Int) (v k : Int) (hl : l.length ≤ 1048576) : ∃ r : List Int × Int, r.1.length ≤ 1048576 ∧ Ev (fun n => spec_FromCorner.f n l v k) r ∧ Ev (fun n => impl_FromCorner.f n l v k) r := by
  by_cases hc : codeL l [v] = 0
  · obtain ⟨ht, u, rfl, hu⟩ := codeL_one hc
    obtain ⟨h, hn24⟩ := isTreeM_sound ht
    have hn : l.length ≤ 1000 := by omega
    have hf := around_few h hn hu
    have hlen : (castL (aroundM l u)).length = (aroundM l u).length := castL_length _
    have hmx : mx (wrap64 (((castL (aroundM l u)).length : Int) - 1)) 0 = max (((aroundM l u).length : Int) - 1) 0 := by
      rw [hlen, w64 (by omega) (by omega)]
      unfold mx
      split <;> omega
    by_cases hk : 0 ≤ k ∧ k < max ((aroundM l u).length : Int) 1
    · obtain ⟨j, rfl⟩ := Int.eq_ofNat_of_zero_le hk.1
      have hj : j ≤ (aroundM l u).length := by omega
      refine ⟨(cornerM l u j, 0), by rw [corner_length h hn hu]; exact hl, ?_, ?_⟩
      · unfold spec_FromCorner.f
        refine Ev.bind (spec_l01Nodes_ev l hl [(u : Int)] (by simp)) (ev_pos hc (Ev.bind (spec_l05Around_ev h hn hu) ?_))
        rw [l01In_ev, hmx, hc]
        refine ev_some ?_
        rw [decide_eq_true (by omega), decide_eq_true (by omega)]
        refine Ev.step (fun k => by rw [spec_FromCorner.j0]) ?_
        exact ev_neg (by decide) (ev_pos rfl (Ev.bind (spec_l05Corner_ev h hn hu hj) (Ev.now _)))
      · unfold impl_FromCorner.f
        refine Ev.bind (impl_treeCode_ev l hl [(u : Int)] (by simp)) (ev_pos hc (ev_neg (by omega) (Ev.bind (impl_corners_ev h hn hu) (ev_neg (by omega) (Ev.bind (impl_corner_ev h hn hu hj) (Ev.now _))))))
    · refine ⟨([], 2), by simp, ?_, ?_⟩
      · unfold spec_FromCorner.f
        refine Ev.bind (spec_l01Nodes_ev l hl [(u : Int)] (by simp)) (ev_pos hc (Ev.bind (spec_l05Around_ev h hn hu) ?_))
        rw [l01In_ev, hmx, hc]
        refine ev_some ?_
        have e : (decide (0 ≤ k) && decide (k ≤ max (((aroundM l u).length : Int) - 1) 0)) = false := by
          rw [Bool.and_eq_false_iff]
          by_cases h0 : 0 ≤ k
          · right; exact decide_eq_false (by omega)
          · left; exact decide_eq_false h0
        rw [e]
        refine Ev.step (fun k => by rw [spec_FromCorner.j0]) ?_
        exact ev_pos rfl (ev_neg (by decide) (Ev.now _))
      · unfold impl_FromCorner.f
        refine Ev.bind (impl_treeCode_ev l hl [(u : Int)] (by simp)) (ev_pos hc (ev_ite (fun h0 => Ev.now _) (fun h0 => Ev.bind (impl_corners_ev h hn hu) (ev_pos (by omega) (Ev.now _)))))
  · refine ⟨([], codeL l [v]), by simp, ?_, ?_⟩
    · unfold spec_FromCorner.f
      refine Ev.bind (spec_l01Nodes_ev l hl [v] (by simp)) (ev_neg hc ?_)
      refine Ev.step (fun k => by rw [spec_FromCorner.j0]) ?_
      exact ev_neg (by decide) (ev_neg hc (Ev.now _))
    · unfold impl_FromCorner.f
      exact Ev.bind (impl_treeCode_ev l hl [v] (by simp)) (ev_neg hc (Ev.now _))
end Go.Proofs.Ytgbhlmmmighanaa.E
namespace Go.Proofs.Ytgbhlmmmighanaa.Pure
open Go.RowKit Go.Proofs.YtgbhlmmmighanaaW.PrintWords Go.Proofs.Ytgbhlmmmighanaa.Base Go.Proofs.Ytgbhlmmmighanaa.E
theorem FnExactFromCorner : ∀ (l : List Int) (v k : Int), l.length ≤ maxLen → (∀ x ∈ l, (Lit.int .i64 x).wf = true) → (Lit.int .i64 v).wf = true → (Lit.int .i64 k).wf = true → ∃ n, laws_FnExactFromCorner.f n l v k = some true := by
  intro l v k hm _ _ _
  apply Ev.rounds
  unfold laws_FnExactFromCorner.f
  simp only [szTree_eq l 1048576 (by decide) (by decide) hm]
  refine ev_some ?_
  by_cases hb : (1048576 : Int) < l.length
  · rw [if_pos hb]
    exact ev_pos (by decide) (Ev.now _)
  rw [if_neg hb]
  have hl : l.length ≤ 1048576 := by omega
  obtain ⟨r, hr, h1, h2⟩ := both_FromCorner l v k hl
  refine ev_neg (by omega) (Ev.bind (toTree_ev l hl) (Ev.bind h1 (Ev.bind (toTree_ev l hl) (Ev.bind h2 (Ev.bind (eqTree_ev _ hr) (ev_pos rfl ?_))))))
  refine Ev.step (fun k => by rw [laws_FnExactFromCorner.j0]) ?_
  refine ev_neg (by simp) ?_
  refine Ev.bind (toTree_ev l hl) (Ev.bind (eqTree_ev l hl) (ev_pos rfl (Ev.bind (markTree_ev l 1 (by decide) (by decide) hl) (ev_neg (by simp only; omega) (Ev.bind (eqTree_ev _ hr) (ev_pos rfl ?_))))))
  refine Ev.step (fun k => by rw [laws_FnExactFromCorner.j1]) ?_
  refine ev_neg (by simp) ?_
  refine Ev.bind (markTree_ev _ 1 (by decide) (by decide) hr) (Ev.bind (heldTree_ev _ 1 (by decide) (by decide) hr) (ev_neg (by omega) (ev_pos rfl (Ev.bind (toTree_ev l hl) (Ev.bind h2 (Ev.bind (eqTree_ev _ hr) (ev_pos rfl ?_)))))))
  refine Ev.step (fun k => by rw [laws_FnExactFromCorner.j2]) ?_
  refine ev_neg (by simp) ?_
  exact Ev.bind (heldTree_ev _ 1 (by decide) (by decide) hr) (ev_neg (by omega) (ev_pos rfl (Ev.now _)))
end Go.Proofs.Ytgbhlmmmighanaa.Pure
