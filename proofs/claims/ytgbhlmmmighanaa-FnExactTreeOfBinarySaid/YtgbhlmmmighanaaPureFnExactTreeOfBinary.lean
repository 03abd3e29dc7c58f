/- TreeOfBinary on both sides, and its law: the program's TreeOfBinary gives what the reference gives, for all arguments. No condition beside those of the given statement. -/
import Derived.Test.YtgbhlmmmighanaaBinEv
import Derived.Test.YtgbhlmmmighanaaLists
import Derived.Test.YtgbhlmmmighanaaHelp
import Derived.Test.YtgbhlmmmighanaaEx15
namespace Go.Proofs.Ytgbhlmmmighanaa.E
set_option linter.unusedVariables false
set_option linter.unusedSectionVars false
open Go.RowKit Go.Proofs.YtgbhlmmmighanaaW.PrintWords Go.Proofs.Ytgbhlmmmighanaa.Base Go.Proofs.Ytgbhlmmmighanaa.Bin

theorem leaf_text : (B (enc .leaf)).toList = ([48] : List UInt8) := by rw [toList_B]; rfl
theorem node_text (l r : BT) : ¬ (B (enc (.node l r))).toList = ([48] : List UInt8) := by rw [toList_B]; simp [enc]
theorem spec_forest_ev : ∀ t : BT, nodes t ≤ 1000 → Ev (fun k => spec_l03Forest.f k (B (enc t))) ((forest t).2, (forest t).1)
  | .leaf, _ => by
    refine Ev.step (fun k => by rw [spec_l03Forest.f]) ?_
    exact ev_pos leaf_text (Ev.now _)
  | .node l r, h => by
    simp only [nodes] at h
    have h1 := forest_length l
    have h2 := forest_length r
    have h3 := forest_count r
    refine Ev.step (fun k => by rw [spec_l03Forest.f]) ?_
    refine ev_neg (node_text l r) (Ev.bind (spec_l03Sides_ev l r (by omega)) (Ev.bind (spec_forest_ev l (by omega)) (Ev.bind (spec_forest_ev r (by omega)) (ev_some (ev_pos (by simp; omega) (ev_some (ev_pos (by simp; omega) (ev_now ?_))))))))
    rw [w64 (by omega) (by omega)]
    simp [forest]
theorem impl_listOf_ev : ∀ t : BT, nodes t ≤ 1000 → Ev (fun k => impl_listOf.f k (B (enc t))) (forest t)
  | .leaf, _ => by
    refine Ev.step (fun k => by rw [impl_listOf.f]) ?_
    exact ev_pos leaf_text (Ev.now _)
  | .node l r, h => by
    simp only [nodes] at h
    have h1 := forest_length l
    have h2 := forest_length r
    have h3 := forest_count r
    refine Ev.step (fun k => by rw [impl_listOf.f]) ?_
    refine ev_neg (node_text l r) (Ev.bind (impl_sides_ev l r (by omega)) (Ev.bind (impl_listOf_ev l (by omega)) (Ev.bind (impl_listOf_ev r (by omega)) (Ev.bind (slices_Concat_ev _ (by simp) (by simp; omega)) (ev_now ?_)))))
    rw [w64 (by omega) (by omega)]
    simp [forest]
theorem both_TreeOfBinary (w : List UInt8) : ∃ r : List Int × Int, r.1.length ≤ 1048576 ∧ Ev (fun k => spec_TreeOfBinary.f k (B w)) r ∧ Ev (fun k => impl_TreeOfBinary.f k (B w)) r := by
  by_cases hw : isBin w = true
  · obtain ⟨t, rfl, ht⟩ := isBin_sound hw
    have h1 := forest_length t
    refine ⟨((forest t).1 :: (forest t).2, 0), by simp; omega, ?_, ?_⟩
    · unfold spec_TreeOfBinary.f
      exact Ev.bind (spec_l03Is_ev _) (ev_pos hw (Ev.bind (spec_forest_ev t (by omega)) (ev_some (ev_pos (by simp; omega) (Ev.now _)))))
    · unfold impl_TreeOfBinary.f
      exact Ev.bind (impl_IsBinary_ev _) (ev_pos hw (Ev.bind (impl_listOf_ev t (by omega)) (ev_some (ev_pos (by simp; omega) (Ev.now _)))))
  · refine ⟨([], 1), by simp, ?_, ?_⟩
    · unfold spec_TreeOfBinary.f
      exact Ev.bind (spec_l03Is_ev _) (ev_neg hw (Ev.now _))
    · unfold impl_TreeOfBinary.f
      exact Ev.bind (impl_IsBinary_ev _) (ev_neg hw (Ev.now _))
end Go.Proofs.Ytgbhlmmmighanaa.E
namespace Go.Proofs.Ytgbhlmmmighanaa.Pure
open Go.RowKit Go.Proofs.YtgbhlmmmighanaaW.PrintWords Go.Proofs.Ytgbhlmmmighanaa.Base Go.Proofs.Ytgbhlmmmighanaa.Bin Go.Proofs.Ytgbhlmmmighanaa.E
theorem FnExactTreeOfBinary : ∀ (a0 : ByteArray), a0.size ≤ maxLen → ∃ k, laws_FnExactTreeOfBinary.f k a0 = some true := by
  intro a0 _
  obtain ⟨w, rfl⟩ := B_all a0
  obtain ⟨r, hr, h1, h2⟩ := both_TreeOfBinary w
  apply Ev.rounds
  unfold laws_FnExactTreeOfBinary.f
  refine ev_ite (fun _ => Ev.now _) (fun _ => ?_)
  refine Ev.bind h1 (Ev.bind h2 (Ev.bind (eqTree_ev _ hr) (ev_pos rfl ?_)))
  refine Ev.step (fun k => by rw [laws_FnExactTreeOfBinary.j0]) ?_
  refine ev_neg (by simp) ?_
  refine Ev.bind (markTree_ev _ 1 (by decide) (by decide) hr) (Ev.bind (heldTree_ev _ 1 (by decide) (by decide) hr) (ev_neg (by omega) (ev_pos rfl (Ev.bind h2 (Ev.bind (eqTree_ev _ hr) (ev_pos rfl ?_))))))
  refine Ev.step (fun k => by rw [laws_FnExactTreeOfBinary.j1]) ?_
  refine ev_neg (by simp) ?_
  exact Ev.bind (heldTree_ev _ 1 (by decide) (by decide) hr) (ev_neg (by omega) (ev_pos rfl (Ev.now _)))
end Go.Proofs.Ytgbhlmmmighanaa.Pure
