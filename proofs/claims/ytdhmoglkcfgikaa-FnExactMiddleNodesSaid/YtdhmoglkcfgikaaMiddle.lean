/- MiddleNodes on both sides. -/
import Derived.Test.YtdhmoglkcfgikaaTreeEv
import Derived.Test.YtdhmoglkcfgikaaLeast
import Derived.Test.YtdhmoglkcfgikaaEx23
namespace Go.Proofs.Ytdhmoglkcfgikaa.E
open Go.RowKit Go.Proofs.YtdhmoglkcfgikaaW.PrintWords Go.Proofs.YtdhmoglkcfgikaaW.PrintMore Go.Proofs.Ytdhmoglkcfgikaa.Base Go.Proofs.Ytdhmoglkcfgikaa.Tree

theorem range_map_succ (f : Nat → Int) (v : Nat) : (List.range (v + 1)).map f = (List.range v).map f ++ [f v] := by
  rw [List.range_succ, List.map_append]; rfl
def sizeL (d : List Int) : List Int := (List.range d.length).map fun v => (endM d v : Int) - v
/-- The weight of v, of its first j children. -/
def wtF (d : List Int) (v j : Nat) : Int := ((kidsM d v).take j).foldl (fun w c => mx w ((endM d c : Int) - c)) ((d.length : Int) - ((endM d v : Int) - v))
def wtL (d : List Int) (n : Nat) : List Int := (List.range n).map fun v => wtF d v (kidsM d v).length
theorem wtF_succ (d : List Int) (v j : Nat) (hj : j < (kidsM d v).length) : wtF d v (j + 1) = mx (wtF d v j) ((endM d (kidsM d v)[j] : Int) - (kidsM d v)[j]) := by
  unfold wtF
  rw [← List.take_append_getElem hj, List.foldl_append]
  rfl
theorem wtL_length (d : List Int) (n : Nat) : (wtL d n).length = n := by simp [wtL]
theorem sizeL_get {d : List Int} (_ : IsT d) (_ : d.length ≤ 1000) {v : Nat} (hv : v < d.length) : (sizeL d).getD v 0 = (endM d v : Int) - v := by
  rw [sizeL, getD_map_range hv]
section
variable {d : List Int} (h : IsT d) (hn : d.length ≤ 1000)
include h hn
theorem impl_sizes_loop : ∀ (m v : Nat), v + m = d.length → Ev (fun k => impl_sizesOf.l0 k d ((List.range v).map fun v => (endM d v : Int) - v) (d.length : Int) (v : Int)) (sizeL d)
  | 0, v, hv => by
    refine Ev.step (fun k => by rw [impl_sizesOf.l0]) ?_
    exact ev_neg (by omega) (ev_now (by unfold sizeL; rw [show d.length = v by omega]))
  | m + 1, v, hv => by
    have h1 := end_gt h (v := v) (by omega)
    have h2 := end_le h (v := v) (by omega)
    refine Ev.step (fun k => by rw [impl_sizesOf.l0]) ?_
    refine ev_pos (by omega) (Ev.bind (impl_endOf_ev h hn (by omega)) (ev_pos (by simp; omega) ?_))
    rw [w64s (by omega), w64 (by omega) (by omega)]
    have := impl_sizes_loop m (v + 1) (by omega)
    rw [range_map_succ] at this
    exact this
theorem impl_sizesOf_ev : Ev (fun k => impl_sizesOf.f k d) (sizeL d) := impl_sizes_loop h hn d.length 0 (by omega)
theorem impl_middle_in {v : Nat} (hv : v < d.length) (acc : List Int) (ha : acc.length ≤ 1000) (r : List Int × Int) (H : Ev (fun k => impl_MiddleNodes.l0 k (sizeL d) (acc ++ [wtF d v (kidsM d v).length]) (d.length : Int) ((v + 1 : Nat) : Int) d) r) :
    ∀ (m j : Nat), j + m = (kidsM d v).length → Ev (fun k => impl_MiddleNodes.l1 k (sizeL d) acc (wtF d v j) (d.length : Int) (v : Int) (castL (kidsM d v)) ((castL (kidsM d v)).length : Int) (j : Int) d) r
  | 0, j, hj => by
    refine Ev.step (fun k => by rw [impl_MiddleNodes.l1]) ?_
    refine ev_neg (by rw [castL_length]; omega) (ev_pos (by omega) ?_)
    rw [w64s (by omega), show j = (kidsM d v).length by omega]
    exact H
  | m + 1, j, hj => by
    have hf := kids_few h hv
    have hjl : j < (kidsM d v).length := by omega
    have hk := kid_mem h hv (List.getElem_mem hjl)
    have hg : rd (castL (kidsM d v)) (j : Int) = ((kidsM d v)[j] : Int) := castL_getD _ j hjl
    have hs : rd (sizeL d) (((kidsM d v)[j] : Nat) : Int) = (endM d (kidsM d v)[j] : Int) - ((kidsM d v)[j] : Int) := sizeL_get h hn hk.2.1
    have hsl : (sizeL d).length = d.length := by simp [sizeL]
    refine Ev.step (fun k => by rw [impl_MiddleNodes.l1]) ?_
    rw [hg, hs]
    refine ev_pos (by rw [castL_length]; omega) (ev_pos (by omega) (ev_pos (by rw [castL_length]; omega) (ev_pos (by omega) (ev_pos (by omega) ?_))))
    rw [w64s (by omega), ← wtF_succ d v j hjl]
    exact impl_middle_in hv acc ha r H m (j + 1) (by omega)
theorem impl_middle_loop : ∀ (m v : Nat), v + m = d.length → Ev (fun k => impl_MiddleNodes.l0 k (sizeL d) (wtL d v) (d.length : Int) (v : Int) d) (leastM (wtL d d.length), 0)
  | 0, v, hv => by
    have e : v = d.length := by omega
    subst e
    have h0 := h.len
    refine Ev.step (fun k => by rw [impl_MiddleNodes.l0]) ?_
    refine ev_neg (by omega) (Ev.bind (impl_least_ev _ ?_ ?_) (Ev.now _))
    · rw [wtL_length]; omega
    · rw [wtL_length]; omega
  | m + 1, v, hv => by
    have h1 := end_gt h (v := v) (by omega)
    have h2 := end_le h (v := v) (by omega)
    have hsl : (sizeL d).length = d.length := by simp [sizeL]
    have hs : rd (sizeL d) (v : Int) = (endM d v : Int) - v := sizeL_get h hn (by omega)
    refine Ev.step (fun k => by rw [impl_MiddleNodes.l0]) ?_
    rw [hs]
    refine ev_pos (by omega) (ev_pos (by omega) (ev_pos (by omega) (Ev.bind (impl_kidsOf_ev h hn (by omega)) ?_)))
    rw [w64 (by omega) (by omega)]
    have ih := impl_middle_loop m (v + 1) (by omega)
    have e : wtL d (v + 1) = wtL d v ++ [wtF d v (kidsM d v).length] := range_map_succ _ v
    rw [e] at ih
    exact impl_middle_in h hn (by omega) _ (by rw [wtL_length]; omega) _ ih (kidsM d v).length 0 (by omega)
theorem spec_middle_in {v : Nat} (hv : v < d.length) (acc : List Int) (ha : acc.length ≤ 1000) (r : List Int × Int) (H : Ev (fun k => spec_MiddleNodes.l0 k (acc ++ [wtF d v (kidsM d v).length]) ((v + 1 : Nat) : Int) d) r) :
    ∀ (m j : Nat), j + m = (kidsM d v).length → Ev (fun k => spec_MiddleNodes.l1 k acc (v : Int) (wtF d v j) (castL (kidsM d v)) (j : Int) d) r
  | 0, j, hj => by
    refine Ev.step (fun k => by rw [spec_MiddleNodes.l1]) ?_
    refine ev_neg (by rw [castL_length]; omega) (ev_pos (by omega) ?_)
    rw [w64s (by omega), show j = (kidsM d v).length by omega]
    exact H
  | m + 1, j, hj => by
    have hf := kids_few h hv
    have hjl : j < (kidsM d v).length := by omega
    have hk := kid_mem h hv (List.getElem_mem hjl)
    have h1 := end_gt h hk.2.1
    have h2 := end_le h hk.2.1
    have hg : rd (castL (kidsM d v)) (j : Int) = ((kidsM d v)[j] : Int) := castL_getD _ j hjl
    refine Ev.step (fun k => by rw [spec_MiddleNodes.l1]) ?_
    rw [hg]
    refine ev_pos (by rw [castL_length]; omega) (ev_pos (by omega) (Ev.bind (spec_l01End_ev h hn hk.2.1) ?_))
    rw [w64s (by omega), w64 (by omega) (by omega), ← wtF_succ d v j hjl]
    exact spec_middle_in hv acc ha r H m (j + 1) (by omega)
theorem spec_middle_loop : ∀ (m v : Nat), v + m = d.length → Ev (fun k => spec_MiddleNodes.l0 k (wtL d v) (v : Int) d) (leastM (wtL d d.length), 0)
  | 0, v, hv => by
    have e : v = d.length := by omega
    subst e
    have h0 := h.len
    refine Ev.step (fun k => by rw [spec_MiddleNodes.l0]) ?_
    simp only [l01N_ev]
    refine ev_some (ev_neg (by omega) (Ev.bind (spec_l05Least_ev _ ?_ ?_) (Ev.now _)))
    · rw [wtL_length]; omega
    · rw [wtL_length]; omega
  | m + 1, v, hv => by
    have h1 := end_gt h (v := v) (by omega)
    have h2 := end_le h (v := v) (by omega)
    refine Ev.step (fun k => by rw [spec_MiddleNodes.l0]) ?_
    simp only [l01N_ev]
    refine ev_some (ev_pos (by omega) (ev_some (Ev.bind (spec_l01End_ev h hn (by omega)) (Ev.bind (spec_l01Children_ev h hn (by omega)) ?_))))
    rw [w64 (x := (endM d v : Int) - v) (by omega) (by omega), w64 (by omega) (by omega)]
    have ih := spec_middle_loop m (v + 1) (by omega)
    have e : wtL d (v + 1) = wtL d v ++ [wtF d v (kidsM d v).length] := range_map_succ _ v
    rw [e] at ih
    exact spec_middle_in h hn (by omega) _ (by rw [wtL_length]; omega) _ ih (kidsM d v).length 0 (by omega)
end
theorem both_MiddleNodes (l : List Int) (hl : l.length ≤ 1048576) : ∃ r : List Int × Int, r.1.length ≤ 1048576 ∧ Ev (fun k => spec_MiddleNodes.f k l) r ∧ Ev (fun k => impl_MiddleNodes.f k l) r := by
  by_cases ht : isTreeM l = true
  · obtain ⟨h, hn⟩ := isTreeM_sound ht
    refine ⟨(leastM (wtL l l.length), 0), ?_, ?_, ?_⟩
    · have := leastM_length (wtL l l.length)
      rw [wtL_length] at this
      simp only; omega
    · unfold spec_MiddleNodes.f
      refine Ev.bind (spec_l01Is_ev l hl) (ev_pos ht ?_)
      exact spec_middle_loop h (by omega) l.length 0 (by omega)
    · unfold impl_MiddleNodes.f
      refine Ev.bind (impl_IsTree_ev l) (ev_pos ht (Ev.bind (impl_sizesOf_ev h (by omega)) ?_))
      exact impl_middle_loop h (by omega) l.length 0 (by omega)
  · refine ⟨([], 1), by simp, ?_, ?_⟩
    · unfold spec_MiddleNodes.f
      exact Ev.bind (spec_l01Is_ev l hl) (ev_neg ht (Ev.now _))
    · unfold impl_MiddleNodes.f
      exact Ev.bind (impl_IsTree_ev l) (ev_neg ht (Ev.now _))
end Go.Proofs.Ytdhmoglkcfgikaa.E
