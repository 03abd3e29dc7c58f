/- TakesTree on both sides, and its law: the program's TakesTree gives what the reference gives, for all arguments. No condition beside those of the given statement. -/
import Derived.Test.YtmahokdlfmehjaaStates
import Derived.Test.YtmahokdlfmehjaaEx12
namespace Go.Proofs.Ytmahokdlfmehjaa.E
set_option linter.unusedVariables false
set_option linter.unusedSectionVars false
open Go.RowKit Go.Proofs.YtmahokdlfmehjaaW.PrintWords Go.Proofs.Ytmahokdlfmehjaa.Base Go.Proofs.Ytmahokdlfmehjaa.Auto Go.Proofs.Ytmahokdlfmehjaa.Tree

theorem both_TakesTree {S : List (List Int)} {g : List Int} (hs : SmallA S g) (st : Int) (d : List Int) (hd : d.length ≤ 1048576) : ∃ r : Bool × Int, Ev (fun k => spec_TakesTree.f k st S g d) r ∧ Ev (fun k => impl_TakesTree.f k st S g d) r := by
  by_cases hc : isAutM st S g = true ∧ isTreeM d = true
  · have hA := isAutM_sound hc.1
    obtain ⟨h, hn⟩ := isTreeM_sound hc.2
    have hl := (states_sts hA h (by omega)).len
    have h0 := h.len
    refine ⟨(goodM g (rd (statesM st S d) 0), 0), ?_, ?_⟩
    · unfold spec_TakesTree.f
      refine Ev.bind (spec_l06Is_ev hs st) (ev_pos hc.1 (Ev.bind (spec_l01Is_ev d hd) ?_))
      refine Ev.step (fun k => by rw [spec_TakesTree.j0]) ?_
      rw [hc.2]
      exact ev_neg (by decide) (Ev.bind (spec_l06States_ev hA h (by omega)) (ev_pos (by omega) (Ev.bind (spec_l06Good_ev st S g hs.good _) (Ev.now _))))
    · unfold impl_TakesTree.f
      have hcode : codeA st S g d = 0 := if_pos hc
      refine Ev.bind (impl_automatonCode_ev hs st d) ?_
      rw [hcode]
      exact ev_pos rfl (Ev.bind (impl_statesOf_ev hA h (by omega)) (ev_pos (by omega) (Ev.bind (impl_isGood_ev st S g hs.good _) (Ev.now _))))
  · refine ⟨(false, 1), ?_, ?_⟩
    · unfold spec_TakesTree.f
      refine Ev.bind (spec_l06Is_ev hs st) (ev_ite (fun h1 => Ev.bind (spec_l01Is_ev d hd) ?_) (fun h1 => ?_))
      · refine Ev.step (fun k => by rw [spec_TakesTree.j0]) ?_
        exact ev_pos (by simpa using fun h2 => hc ⟨h1, h2⟩) (Ev.now _)
      · refine Ev.step (fun k => by rw [spec_TakesTree.j0]) ?_
        exact ev_pos rfl (Ev.now _)
    · unfold impl_TakesTree.f
      have hcode : codeA st S g d = 1 := if_neg hc
      refine Ev.bind (impl_automatonCode_ev hs st d) ?_
      rw [hcode]
      exact ev_neg (by decide) (Ev.now _)
end Go.Proofs.Ytmahokdlfmehjaa.E
namespace Go.Proofs.Ytmahokdlfmehjaa.Pure
open Go.RowKit Go.Proofs.YtmahokdlfmehjaaW.PrintWords Go.Proofs.Ytmahokdlfmehjaa.Base Go.Proofs.Ytmahokdlfmehjaa.Auto Go.Proofs.Ytmahokdlfmehjaa.E
theorem FnExactTakesTree : ∀ (st : Int) (S : List (List Int)) (g d : List Int), (Lit.int .i64 st).wf = true → S.length ≤ maxLen → (∀ y ∈ S, y.length ≤ maxLen ∧ ∀ x ∈ y, (Lit.int .i64 x).wf = true) → g.length ≤ maxLen → (∀ x ∈ g, (Lit.int .i64 x).wf = true) → d.length ≤ maxLen → (∀ x ∈ d, (Lit.int .i64 x).wf = true) → ∃ k, laws_FnExactTakesTree.f k st S g d = some true := by
  intro st S g d _ hS hm hg _ hdm _
  apply Ev.rounds
  obtain ⟨r, h1, h2⟩ := szAutomaton_ev st S g hS (fun j hj => by
    have : S.getD j [] ∈ S := by rw [List.getD_eq_getElem?_getD, List.getElem?_eq_getElem hj]; exact List.getElem_mem hj
    exact (hm _ this).1) hg
  unfold laws_FnExactTakesTree.f
  refine Ev.bind h1 ?_
  rcases h2 with h2 | ⟨h2, h3, hs⟩
  · exact ev_pos h2 (Ev.now _)
  · refine ev_neg (by omega) ?_
    simp only [szTree_eq d r h2 h3 hdm]
    refine ev_some ?_
    by_cases hb : r < d.length
    · rw [if_pos hb]
      exact ev_pos (by decide) (Ev.now _)
    · rw [if_neg hb]
      have hd : d.length ≤ 1048576 := by omega
      obtain ⟨q, q1, q2⟩ := both_TakesTree hs st d hd
      refine ev_neg (by omega) (Ev.bind (toA_ev hs st) (Ev.bind (toTree_ev d hd) (Ev.bind q1 (Ev.bind (toA_ev hs st) (Ev.bind (toTree_ev d hd) (Ev.bind q2 (ev_neg (by simp) ?_)))))))
      refine Ev.step (fun k => by rw [laws_FnExactTakesTree.j0]) ?_
      exact ev_neg (by simp) (Ev.bind (toA_ev hs st) (Ev.bind (eqA_ev hs st) (ev_pos rfl (Ev.bind (toTree_ev d hd) (Ev.bind (eqTree_ev d hd) (ev_pos rfl (Ev.now _)))))))
end Go.Proofs.Ytmahokdlfmehjaa.Pure
