/- What both sides compute of a tree: meets. -/
import Derived.Test.YtdhmoglkcfgikaaTreeEv2
import Derived.Test.YtdhmoglkcfgikaaEx6
namespace Go.Proofs.Ytdhmoglkcfgikaa.E
set_option linter.unusedVariables false
set_option linter.unusedSectionVars false
open Go.RowKit Go.Proofs.YtdhmoglkcfgikaaW.PrintWords Go.Proofs.Ytdhmoglkcfgikaa.Base Go.Proofs.Ytdhmoglkcfgikaa.Tree
section
variable {d : List Int} (h : IsT d) (hn : d.length ≤ 1000)
include h hn
theorem impl_isBelow_ev {v w : Nat} (hw : w < d.length) : Ev (fun k => impl_isBelow.f k d (v : Int) (w : Int)) (decide (below d v w)) := by
  unfold impl_isBelow.f
  refine ev_ite (fun hx => ?_) (fun hx => ?_)
  · refine Ev.bind (impl_endOf_ev h hn hw) (ev_now ?_)
    exact decide_eq_decide.mpr ⟨fun hy => ⟨by omega, by omega⟩, fun hy => by have := hy.2; omega⟩
  · exact ev_now (decide_eq_false (fun hy => by have := hy.1; omega)).symm
theorem impl_meet_loop {w : Nat} (hw : w < d.length) : ∀ (f v : Nat), v ≤ f → v < d.length → Ev (fun k => impl_meetOf.l0 k d (v : Int) (w : Int) (parL d)) (meetF d w f v : Int)
  | 0, v, hf, hv => by
    have e : v = 0 := by omega
    subst e
    refine Ev.step (fun k => by rw [impl_meetOf.l0]) ?_
    refine Ev.bind (impl_isBelow_ev h hn hv) ?_
    rw [decide_eq_true (below_root h hw)]
    exact ev_pos rfl (Ev.now _)
  | f + 1, v, hf, hv => by
    refine Ev.step (fun k => by rw [impl_meetOf.l0]) ?_
    refine Ev.bind (impl_isBelow_ev h hn hv) ?_
    simp only [meetF]
    by_cases hb : below d w v
    · rw [if_pos hb, decide_eq_true hb]
      exact ev_pos rfl (Ev.now _)
    · rw [if_neg hb, decide_eq_false hb]
      have h0 : 0 < v := by
        rcases Nat.eq_zero_or_pos v with e | e
        · subst e; exact absurd (below_root h hw) hb
        · exact e
      have hp := par_lt h h0 hv
      refine ev_neg (by decide) (ev_pos (by omega) (ev_pos (by rw [parL_length h hn]; omega) ?_))
      have hg : rd (parL d) (v : Int) = (par d v : Int) := parL_get h hn h0 hv
      rw [hg]
      exact impl_meet_loop hw f (par d v) (by omega) (by omega)
theorem impl_meetOf_ev {v w : Nat} (hv : v < d.length) (hw : w < d.length) : Ev (fun k => impl_meetOf.f k d (v : Int) (w : Int)) (meetM d v w : Int) := by
  unfold impl_meetOf.f
  exact Ev.bind (impl_parentsOf_ev h hn) (impl_meet_loop h hn hw v v (Nat.le_refl _) hv)
theorem spec_meet_loop {w : Nat} (hw : w < d.length) : ∀ (f v : Nat), v ≤ f → v < d.length → Ev (fun k => spec_l01Meet.l0 k (w : Int) (parL d) (v : Int) d) (meetF d w f v : Int)
  | 0, v, hf, hv => by
    have e : v = 0 := by omega
    subst e
    have hr := end_root h
    refine Ev.step (fun k => by rw [spec_l01Meet.l0]) ?_
    refine ev_neg (by omega) (Ev.bind (spec_l01End_ev h hn hv) ?_)
    exact ev_neg (by omega) (Ev.now _)
  | f + 1, v, hf, hv => by
    have up : ¬ below d w v → Ev (fun k => if 0 ≤ (v : Int) then (if (v : Int) < ((parL d).length : Int) then spec_l01Meet.l0 k (w : Int) (parL d) (rd (parL d) (v : Int)) d else none) else none) (meetF d w f (par d v) : Int) := by
      intro hb
      have h0 : 0 < v := by
        rcases Nat.eq_zero_or_pos v with e | e
        · subst e; exact absurd (below_root h hw) hb
        · exact e
      have hp := par_lt h h0 hv
      refine ev_pos (by omega) (ev_pos (by rw [parL_length h hn]; omega) ?_)
      have hg : rd (parL d) (v : Int) = (par d v : Int) := parL_get h hn h0 hv
      rw [hg]
      exact spec_meet_loop hw f (par d v) (by omega) (by omega)
    refine Ev.step (fun k => by rw [spec_l01Meet.l0]) ?_
    simp only [meetF]
    refine ev_ite (fun hx => ?_) (fun hx => ?_)
    · have hb : ¬ below d w v := fun hy => by have := hy.1; omega
      rw [if_neg hb]
      exact up hb
    · refine Ev.bind (spec_l01End_ev h hn hv) ?_
      refine ev_ite (fun hy => ?_) (fun hy => ?_)
      · have hb : ¬ below d w v := fun hz => by have := hz.2; omega
        rw [if_neg hb]
        exact up hb
      · rw [if_pos ⟨by omega, by omega⟩]
        exact Ev.now _
theorem spec_l01Meet_ev {v w : Nat} (hv : v < d.length) (hw : w < d.length) : Ev (fun k => spec_l01Meet.f k d (v : Int) (w : Int)) (meetM d v w : Int) := by
  unfold spec_l01Meet.f
  exact Ev.bind (spec_l01Parents_ev h hn) (spec_meet_loop h hn hw v v (Nat.le_refl _) hv)
end
end Go.Proofs.Ytdhmoglkcfgikaa.E
