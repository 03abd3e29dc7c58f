/- SumOfDistances on both sides. -/
import Derived.Test.YtdhmoglkcfgikaaDist
import Derived.Test.YtdhmoglkcfgikaaEx26
namespace Go.Proofs.Ytdhmoglkcfgikaa.E
set_option linter.unusedVariables false
set_option linter.unusedSectionVars false
open Go.RowKit Go.Proofs.YtdhmoglkcfgikaaW.PrintWords Go.Proofs.Ytdhmoglkcfgikaa.Base Go.Proofs.Ytdhmoglkcfgikaa.Tree
def rowSum (d : List Int) (v w : Nat) : Int := sumTo (fun w => dist d v w) w
def sqSum (d : List Int) (v : Nat) : Int := sumTo (fun v => rowSum d v d.length) v
def triSum (d : List Int) (v : Nat) : Int := sumTo (fun v => rowSum d v v) v
section
variable {d : List Int} (h : IsT d) (hn : d.length ≤ 1000)
include h hn
theorem rowM_get {v w : Nat} (hw : w < d.length) : rd (rowM d v) (w : Int) = dist d v w := by
  rw [rd_nat, rowM, getD_map_range hw]
theorem row_bd {v w : Nat} (hv : v < d.length) (hw : w ≤ d.length) : -2000000 ≤ rowSum d v w ∧ rowSum d v w ≤ 2000000 := by
  have := sumTo_bd (fun w => dist d v w) 2000 w (fun i hi => dist_bd h hn hv (by omega))
  unfold rowSum
  omega
theorem sq_bd {v : Nat} (hv : v ≤ d.length) : -2000000000 ≤ sqSum d v ∧ sqSum d v ≤ 2000000000 := by
  have := sumTo_bd (fun v => rowSum d v d.length) 2000000 v (fun i hi => row_bd h hn (by omega) (Nat.le_refl _))
  unfold sqSum
  omega
theorem tri_bd {v : Nat} (hv : v ≤ d.length) : -2000000000 ≤ triSum d v ∧ triSum d v ≤ 2000000000 := by
  have := sumTo_bd (fun v => rowSum d v v) 2000000 v (fun i hi => row_bd h hn (by omega) (by omega))
  unfold triSum
  omega
theorem sq_tri : sqSum d d.length = 2 * triSum d d.length :=
  square_twice (fun v w => dist d v w) d.length (fun i j hi hj => dist_comm h hi hj) (fun i hi => dist_self h hi)
theorem impl_sum_in {v : Nat} (hv : v < d.length) (r : Int × Int) (H : Ev (fun k => impl_SumOfDistances.l0 k (sqSum d (v + 1)) (distL d) (d.length : Int) ((v + 1 : Nat) : Int)) r) :
    ∀ (m w : Nat), w + m = d.length → Ev (fun k => impl_SumOfDistances.l1 k (sqSum d v + rowSum d v w) (distL d) (d.length : Int) (v : Int) (rowM d v) (d.length : Int) (w : Int)) r
  | 0, w, hw => by
    have e : w = d.length := by omega
    subst e
    refine Ev.step (fun k => by rw [impl_SumOfDistances.l1]) ?_
    refine ev_neg (by omega) ?_
    rw [w64s (by omega)]
    exact H
  | m + 1, w, hw => by
    have b1 := sq_bd h hn (v := v) (by omega)
    have b2 := row_bd h hn hv (w := w) (by omega)
    have b3 := dist_bd h hn hv (w := w) (by omega)
    have ih := impl_sum_in hv r H m (w + 1) (by omega)
    have e : sqSum d v + rowSum d v w + dist d v w = sqSum d v + rowSum d v (w + 1) := by
      have : rowSum d v (w + 1) = rowSum d v w + dist d v w := rfl
      omega
    refine Ev.step (fun k => by rw [impl_SumOfDistances.l1]) ?_
    rw [rowM_get h hn (by omega)]
    refine ev_pos (by omega) (ev_pos (by omega) (ev_pos (by rw [rowM_length]; omega) ?_))
    rw [w64s (by omega), w64 (by omega) (by omega), e]
    exact ih
theorem impl_sum_loop : ∀ (m v : Nat), v + m = d.length → Ev (fun k => impl_SumOfDistances.l0 k (sqSum d v) (distL d) (d.length : Int) (v : Int)) (triSum d d.length, 0)
  | 0, v, hv => by
    have e : v = d.length := by omega
    subst e
    have b := tri_bd h hn (v := d.length) (Nat.le_refl _)
    refine Ev.step (fun k => by rw [impl_SumOfDistances.l0]) ?_
    refine ev_neg (by omega) (ev_now ?_)
    have e2 : Int.tdiv (2 * triSum d d.length) 2 = triSum d d.length := Int.mul_tdiv_cancel_left _ (by decide)
    rw [sq_tri h hn, e2, w64 (by omega) (by omega)]
  | m + 1, v, hv => by
    have ih := impl_sum_loop m (v + 1) (by omega)
    have hvl : v < d.length := by omega
    refine Ev.step (fun k => by rw [impl_SumOfDistances.l0]) ?_
    rw [distL_row hvl, rowM_length]
    refine ev_pos (by omega) (ev_pos (by omega) (ev_pos (by rw [distL_length]; omega) ?_))
    have := impl_sum_in h hn hvl _ ih d.length 0 (by omega)
    have e : sqSum d v + rowSum d v 0 = sqSum d v := by simp [rowSum, sumTo]
    rw [e] at this
    exact this
theorem spec_sum_in {v : Nat} (hv : v < d.length) (r : Int × Int) (H : Ev (fun k => spec_SumOfDistances.l0 k (distL d) (triSum d (v + 1)) ((v + 1 : Nat) : Int)) r) :
    ∀ (m w : Nat), w + m = v → Ev (fun k => spec_SumOfDistances.l1 k (distL d) (triSum d v + rowSum d v w) (v : Int) (w : Int)) r
  | 0, w, hw => by
    have e : w = v := by omega
    subst e
    refine Ev.step (fun k => by rw [spec_SumOfDistances.l1]) ?_
    refine ev_neg (by omega) ?_
    rw [w64s (by omega)]
    exact H
  | m + 1, w, hw => by
    have b1 := tri_bd h hn (v := v) (by omega)
    have b2 := row_bd h hn hv (w := w) (by omega)
    have b3 := dist_bd h hn hv (w := w) (by omega)
    have ih := spec_sum_in hv r H m (w + 1) (by omega)
    have e : triSum d v + rowSum d v w + dist d v w = triSum d v + rowSum d v (w + 1) := by
      have : rowSum d v (w + 1) = rowSum d v w + dist d v w := rfl
      omega
    refine Ev.step (fun k => by rw [spec_SumOfDistances.l1]) ?_
    rw [distL_row hv, rowM_get h hn (by omega)]
    refine ev_pos (by omega) (ev_pos (by omega) (ev_pos (by rw [distL_length]; omega) (ev_pos (by omega) (ev_pos (by rw [rowM_length]; omega) ?_))))
    rw [w64s (by omega), w64 (by omega) (by omega), e]
    exact ih
theorem spec_sum_loop : ∀ (m v : Nat), v + m = d.length → Ev (fun k => spec_SumOfDistances.l0 k (distL d) (triSum d v) (v : Int)) (triSum d d.length, 0)
  | 0, v, hv => by
    have e : v = d.length := by omega
    subst e
    refine Ev.step (fun k => by rw [spec_SumOfDistances.l0]) ?_
    exact ev_neg (by rw [distL_length]; omega) (Ev.now _)
  | m + 1, v, hv => by
    have ih := spec_sum_loop m (v + 1) (by omega)
    have hvl : v < d.length := by omega
    refine Ev.step (fun k => by rw [spec_SumOfDistances.l0]) ?_
    refine ev_pos (by rw [distL_length]; omega) ?_
    have := spec_sum_in h hn hvl _ ih v 0 (by omega)
    have e : triSum d v + rowSum d v 0 = triSum d v := by simp [rowSum, sumTo]
    rw [e] at this
    exact this
end
theorem both_SumOfDistances (l : List Int) (hl : l.length ≤ 1048576) : ∃ r : Int × Int, Ev (fun k => spec_SumOfDistances.f k l) r ∧ Ev (fun k => impl_SumOfDistances.f k l) r := by
  by_cases ht : isTreeM l = true
  · obtain ⟨h, hn⟩ := isTreeM_sound ht
    refine ⟨(triSum l l.length, 0), ?_, ?_⟩
    · unfold spec_SumOfDistances.f
      exact Ev.bind (spec_l01Is_ev l hl) (ev_pos ht (Ev.bind (spec_l05Distances_ev h (by omega)) (spec_sum_loop h (by omega) l.length 0 (by omega))))
    · unfold impl_SumOfDistances.f
      refine Ev.bind (impl_IsTree_ev l) (ev_pos ht (Ev.bind (impl_distances_ev h (by omega)) ?_))
      rw [distL_length]
      exact impl_sum_loop h (by omega) l.length 0 (by omega)
  · refine ⟨(0, 1), ?_, ?_⟩
    · unfold spec_SumOfDistances.f
      exact Ev.bind (spec_l01Is_ev l hl) (ev_neg ht (Ev.now _))
    · unfold impl_SumOfDistances.f
      exact Ev.bind (impl_IsTree_ev l) (ev_neg ht (Ev.now _))
end Go.Proofs.Ytdhmoglkcfgikaa.E
