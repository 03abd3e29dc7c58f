/- Distances, reaches, centres and widths on both sides. -/
import Derived.Test.YtdhmoglkcfgikaaDistTh
import Derived.Test.YtdhmoglkcfgikaaTreeEv3
import Derived.Test.YtdhmoglkcfgikaaLeast
import Derived.Test.YtdhmoglkcfgikaaEx9
import Derived.Test.YtdhmoglkcfgikaaEx11
import Derived.Test.YtdhmoglkcfgikaaEx12
import Derived.Test.YtdhmoglkcfgikaaEx14
import Derived.Test.YtdhmoglkcfgikaaEx19
namespace Go.Proofs.Ytdhmoglkcfgikaa.E
set_option linter.unusedVariables false
set_option linter.unusedSectionVars false
open Go.RowKit Go.Proofs.YtdhmoglkcfgikaaW.PrintWords Go.Proofs.YtdhmoglkcfgikaaW.PrintMore Go.Proofs.Ytdhmoglkcfgikaa.Base Go.Proofs.Ytdhmoglkcfgikaa.Tree

theorem depL_length (d : List Int) : (depL d).length = d.length := by simp [depL]
theorem depL_get {d : List Int} {v : Nat} (hv : v < d.length) : rd (depL d) (v : Int) = (depth d v : Int) := by
  rw [rd_nat, depL, getD_map_range hv]
theorem map_range_succ {α : Type} (f : Nat → α) (v : Nat) : (List.range (v + 1)).map f = (List.range v).map f ++ [f v] := by
  rw [List.range_succ, List.map_append]; rfl
section
variable {d : List Int} (h : IsT d) (hn : d.length ≤ 1000)
include h hn
theorem impl_dist_in {v : Nat} (hv : v < d.length) (acc : List (List Int)) (ha : acc.length ≤ 1000) (r : List (List Int)) (H : Ev (fun k => impl_distances.l0 k d (depL d) (acc ++ [rowM d v]) (d.length : Int) ((v + 1 : Nat) : Int)) r) :
    ∀ (m w : Nat), w + m = d.length → Ev (fun k => impl_distances.l1 k d (depL d) acc (v : Int) ((List.range w).map fun w => dist d v w) (d.length : Int) (v : Int) (d.length : Int) (w : Int)) r
  | 0, w, hw => by
    have e : w = d.length := by omega
    subst e
    refine Ev.step (fun k => by rw [impl_distances.l1]) ?_
    refine ev_neg (by omega) (ev_pos (by omega) ?_)
    rw [w64s (by omega)]
    exact H
  | m + 1, w, hw => by
    have hwl : w < d.length := by omega
    have hm := meet_spec h hv hwl
    have b1 := depth_le h _ v (Nat.le_refl _) hv
    have b2 := depth_le h _ w (Nat.le_refl _) hwl
    have b3 := depth_le h _ (meetM d v w) (Nat.le_refl _) hm.2.2
    refine Ev.step (fun k => by rw [impl_distances.l1]) ?_
    refine ev_pos (by omega) (ev_pos (by omega) (ev_pos (by rw [depL_length]; omega) (ev_pos (by omega) (ev_pos (by rw [depL_length]; omega) (Ev.bind (impl_meetOf_ev h hn hv hwl) (ev_pos (by omega) (ev_pos (by rw [depL_length]; omega) (ev_pos (by simp; omega) ?_))))))))
    rw [depL_get hv, depL_get hwl, depL_get hm.2.2, w64s (by omega), w64 (x := (depth d v : Int) + (depth d w : Int)) (by omega) (by omega), w64 (x := 2 * (depth d (meetM d v w) : Int)) (by omega) (by omega), w64 (by omega) (by omega)]
    have ih := impl_dist_in hv acc ha r H m (w + 1) (by omega)
    rw [map_range_succ] at ih
    exact ih
theorem impl_dist_loop : ∀ (m v : Nat), v + m = d.length → Ev (fun k => impl_distances.l0 k d (depL d) ((List.range v).map fun v => rowM d v) (d.length : Int) (v : Int)) (distL d)
  | 0, v, hv => by
    refine Ev.step (fun k => by rw [impl_distances.l0]) ?_
    exact ev_neg (by omega) (ev_now (by unfold distL; rw [show d.length = v by omega]))
  | m + 1, v, hv => by
    have ih := impl_dist_loop m (v + 1) (by omega)
    rw [map_range_succ] at ih
    refine Ev.step (fun k => by rw [impl_distances.l0]) ?_
    exact ev_pos (by omega) (impl_dist_in h hn (by omega) _ (by simp; omega) _ ih d.length 0 (by omega))
theorem impl_distances_ev : Ev (fun k => impl_distances.f k d) (distL d) := by
  unfold impl_distances.f
  exact Ev.bind (impl_depthsOf_ev h hn) (impl_dist_loop h hn d.length 0 (by omega))
theorem spec_dist_in {v : Nat} (hv : v < d.length) (acc : List (List Int)) (ha : acc.length ≤ 1000) (r : List (List Int)) (H : Ev (fun k => spec_l05Distances.l0 k (depL d) (acc ++ [rowM d v]) ((v + 1 : Nat) : Int) d) r) :
    ∀ (m w : Nat), w + m = d.length → Ev (fun k => spec_l05Distances.l1 k (depL d) acc (v : Int) ((List.range w).map fun w => dist d v w) (w : Int) d) r
  | 0, w, hw => by
    have e : w = d.length := by omega
    subst e
    refine Ev.step (fun k => by rw [spec_l05Distances.l1]) ?_
    simp only [l01N_ev]
    refine ev_some (ev_neg (by omega) (ev_pos (by omega) ?_))
    rw [w64s (by omega)]
    exact H
  | m + 1, w, hw => by
    have hwl : w < d.length := by omega
    have hm := meet_spec h hv hwl
    have b1 := depth_le h _ v (Nat.le_refl _) hv
    have b2 := depth_le h _ w (Nat.le_refl _) hwl
    have b3 := depth_le h _ (meetM d v w) (Nat.le_refl _) hm.2.2
    refine Ev.step (fun k => by rw [spec_l05Distances.l1]) ?_
    simp only [l01N_ev]
    refine ev_some (ev_pos (by omega) (ev_pos (by omega) (ev_pos (by rw [depL_length]; omega) (ev_pos (by omega) (ev_pos (by rw [depL_length]; omega) (Ev.bind (spec_l01Meet_ev h hn hv hwl) (ev_pos (by omega) (ev_pos (by rw [depL_length]; omega) (ev_pos (by simp; omega) ?_)))))))))
    rw [depL_get hv, depL_get hwl, depL_get hm.2.2, w64s (by omega), w64 (x := (depth d v : Int) + (depth d w : Int)) (by omega) (by omega), w64 (x := 2 * (depth d (meetM d v w) : Int)) (by omega) (by omega), w64 (by omega) (by omega)]
    have ih := spec_dist_in hv acc ha r H m (w + 1) (by omega)
    rw [map_range_succ] at ih
    exact ih
theorem spec_dist_loop : ∀ (m v : Nat), v + m = d.length → Ev (fun k => spec_l05Distances.l0 k (depL d) ((List.range v).map fun v => rowM d v) (v : Int) d) (distL d)
  | 0, v, hv => by
    refine Ev.step (fun k => by rw [spec_l05Distances.l0]) ?_
    simp only [l01N_ev]
    exact ev_some (ev_neg (by omega) (ev_now (by unfold distL; rw [show d.length = v by omega])))
  | m + 1, v, hv => by
    have ih := spec_dist_loop m (v + 1) (by omega)
    rw [map_range_succ] at ih
    refine Ev.step (fun k => by rw [spec_l05Distances.l0]) ?_
    simp only [l01N_ev]
    exact ev_some (ev_pos (by omega) (spec_dist_in h hn (by omega) _ (by simp; omega) _ ih d.length 0 (by omega)))
theorem spec_l05Distances_ev : Ev (fun k => spec_l05Distances.f k d) (distL d) := by
  unfold spec_l05Distances.f
  exact Ev.bind (spec_l01Depths_ev h hn) (spec_dist_loop h hn d.length 0 (by omega))
end

/-! reaches -/
/-- The greatest of the numbers 0 to v. -/
def maxT (ws : List Int) : Nat → Int
  | 0 => ws.getD 0 0
  | v + 1 => mx (maxT ws v) (ws.getD (v + 1) 0)
/-- The greatest of 0 and of the numbers ahead of v. -/
def maxZ (ws : List Int) : Nat → Int
  | 0 => 0
  | v + 1 => mx (maxZ ws v) (ws.getD v 0)
theorem maxT_ge (ws : List Int) : ∀ (v i : Nat), i ≤ v → ws.getD i 0 ≤ maxT ws v
  | 0, i, h => by
    have e : i = 0 := by omega
    subst e; exact Int.le_refl _
  | v + 1, i, h => by
    simp only [maxT]
    unfold mx
    by_cases e : i = v + 1
    · subst e; split <;> omega
    · have := maxT_ge ws v i (by omega)
      split <;> omega
theorem maxZ_eq (ws : List Int) : ∀ v : Nat, maxZ ws (v + 1) = mx 0 (maxT ws v)
  | 0 => rfl
  | v + 1 => by
    have ih := maxZ_eq ws v
    have e : maxZ ws (v + 1 + 1) = mx (maxZ ws (v + 1)) (ws.getD (v + 1) 0) := rfl
    rw [e, ih]
    simp only [maxT]
    unfold mx
    repeat' split
    all_goals omega
/-- As one of the numbers is not below 0, both are the same. -/
theorem maxZ_maxT (ws : List Int) (i : Nat) (hi : i < ws.length) (h0 : 0 ≤ ws.getD i 0) : maxZ ws ws.length = maxT ws (ws.length - 1) := by
  obtain ⟨n, hn⟩ : ∃ n, ws.length = n + 1 := ⟨ws.length - 1, by omega⟩
  have := maxT_ge ws n i (by omega)
  rw [hn, maxZ_eq, show n + 1 - 1 = n by omega]
  unfold mx
  split <;> omega
theorem slices_Max_loop (ws : List Int) (hn : ws.length ≤ 1048576) : ∀ (m v : Nat), v + 1 + m = ws.length → Ev (fun k => slices_Max_int64_int64.l0 k ws (maxT ws v) ((v + 1 : Nat) : Int)) (maxT ws (ws.length - 1))
  | 0, v, h => by
    refine Ev.step (fun k => by rw [slices_Max_int64_int64.l0]) ?_
    exact ev_neg (by omega) (ev_now (by rw [show ws.length - 1 = v by omega]))
  | m + 1, v, h => by
    refine Ev.step (fun k => by rw [slices_Max_int64_int64.l0]) ?_
    refine ev_pos (by omega) (ev_pos (by omega) ?_)
    rw [w64s (by omega)]
    exact slices_Max_loop ws hn m (v + 1) (by omega)
theorem slices_Max_ev (ws : List Int) (hn : ws.length ≤ 1048576) (h0 : 0 < ws.length) : Ev (fun k => slices_Max_int64_int64.f k ws) (maxT ws (ws.length - 1)) := by
  unfold slices_Max_int64_int64.f
  refine ev_neg (by omega) (ev_pos (by omega) ?_)
  exact slices_Max_loop ws hn (ws.length - 1) 0 (by omega)
def reachM (d : List Int) (v : Nat) : Int := maxZ (rowM d v) (rowM d v).length
def reachL (d : List Int) : List Int := (List.range d.length).map fun v => reachM d v
theorem reachL_length (d : List Int) : (reachL d).length = d.length := by simp [reachL]
theorem distL_row {d : List Int} {v : Nat} (hv : v < d.length) : rd_L1 (distL d) (v : Int) = rowM d v := by
  unfold rd_L1 distL
  rw [show ((v : Int)).toNat = v from rfl, List.getD_eq_getElem?_getD, List.getElem?_map, List.getElem?_range hv]; rfl
section
variable {d : List Int} (h : IsT d) (hn : d.length ≤ 1000)
include h hn
omit hn in
theorem reach_max {v : Nat} (hv : v < d.length) : maxT (rowM d v) ((rowM d v).length - 1) = reachM d v := by
  refine (maxZ_maxT _ v (by rw [rowM_length]; exact hv) ?_).symm
  rw [rowM, getD_map_range hv, dist_self h hv]
  decide
theorem impl_reaches_loop : ∀ (m v : Nat), v + m = d.length → Ev (fun k => impl_reaches.l0 k ((List.range v).map fun v => reachM d v) (distL d) (d.length : Int) (v : Int)) (reachL d)
  | 0, v, hv => by
    refine Ev.step (fun k => by rw [impl_reaches.l0]) ?_
    exact ev_neg (by omega) (ev_now (by unfold reachL; rw [show d.length = v by omega]))
  | m + 1, v, hv => by
    have hvl : v < d.length := by omega
    have ih := impl_reaches_loop m (v + 1) (by omega)
    rw [map_range_succ] at ih
    refine Ev.step (fun k => by rw [impl_reaches.l0]) ?_
    rw [distL_row hvl]
    refine ev_pos (by omega) (ev_pos (by omega) (ev_pos (by rw [distL_length]; omega) (Ev.bind (slices_Max_ev _ (by rw [rowM_length]; omega) (by rw [rowM_length]; omega)) (ev_pos (by simp; omega) ?_))))
    rw [w64s (by omega), reach_max h hvl]
    exact ih
theorem impl_reaches_ev : Ev (fun k => impl_reaches.f k d) (reachL d) := by
  unfold impl_reaches.f
  refine Ev.bind (impl_distances_ev h hn) ?_
  rw [distL_length]
  exact impl_reaches_loop h hn d.length 0 (by omega)
omit h in
theorem spec_reaches_in {v : Nat} (hv : v < d.length) (acc : List Int) (ha : acc.length ≤ 1000) (r : List Int) (H : Ev (fun k => spec_l05Reaches.l0 k (distL d) (acc ++ [reachM d v]) ((v + 1 : Nat) : Int)) r) :
    ∀ (m w : Nat), w + m = d.length → Ev (fun k => spec_l05Reaches.l1 k (distL d) acc (v : Int) (maxZ (rowM d v) w) (w : Int)) r
  | 0, w, hw => by
    refine Ev.step (fun k => by rw [spec_l05Reaches.l1]) ?_
    refine ev_neg (by rw [distL_length]; omega) (ev_pos (by omega) ?_)
    rw [w64s (by omega), show w = (rowM d v).length by rw [rowM_length]; omega]
    exact H
  | m + 1, w, hw => by
    refine Ev.step (fun k => by rw [spec_l05Reaches.l1]) ?_
    rw [distL_row hv]
    refine ev_pos (by rw [distL_length]; omega) (ev_pos (by omega) (ev_pos (by rw [distL_length]; omega) (ev_pos (by omega) (ev_pos (by rw [rowM_length]; omega) ?_))))
    rw [w64s (by omega)]
    exact spec_reaches_in hv acc ha r H m (w + 1) (by omega)
omit h in
theorem spec_reaches_loop : ∀ (m v : Nat), v + m = d.length → Ev (fun k => spec_l05Reaches.l0 k (distL d) ((List.range v).map fun v => reachM d v) (v : Int)) (reachL d)
  | 0, v, hv => by
    refine Ev.step (fun k => by rw [spec_l05Reaches.l0]) ?_
    exact ev_neg (by rw [distL_length]; omega) (ev_now (by unfold reachL; rw [show d.length = v by omega]))
  | m + 1, v, hv => by
    have ih := spec_reaches_loop m (v + 1) (by omega)
    rw [map_range_succ] at ih
    refine Ev.step (fun k => by rw [spec_l05Reaches.l0]) ?_
    exact ev_pos (by rw [distL_length]; omega) (spec_reaches_in hn (by omega) _ (by simp; omega) _ ih d.length 0 (by omega))
theorem spec_l05Reaches_ev : Ev (fun k => spec_l05Reaches.f k d) (reachL d) := by
  unfold spec_l05Reaches.f
  exact Ev.bind (spec_l05Distances_ev h hn) (spec_reaches_loop hn d.length 0 (by omega))
end
end Go.Proofs.Ytdhmoglkcfgikaa.E
