/- Contours on both sides. -/
import Derived.Test.YtdhmoglkcfgikaaOdTree
import Derived.Test.YtdhmoglkcfgikaaTreeEv
import Derived.Test.YtdhmoglkcfgikaaEx16
import Derived.Test.YtdhmoglkcfgikaaEx21
namespace Go.Proofs.Ytdhmoglkcfgikaa.E
set_option linter.unusedVariables false
set_option linter.unusedSectionVars false
open Go.RowKit Go.Proofs.YtdhmoglkcfgikaaW.PrintWords Go.Proofs.Ytdhmoglkcfgikaa.Base Go.Proofs.Ytdhmoglkcfgikaa.Tree

theorem castL_rd (L : List Nat) {j : Nat} (hj : j < L.length) : rd (castL L) (j : Int) = (L[j] : Int) := by rw [rd_nat, castL_getD L j hj]
theorem flat_drop {g : Nat → List Int} {L : List Nat} {j : Nat} (hj : j < L.length) : ((L.drop j).map g).flatten = g L[j] ++ ((L.drop (j + 1)).map g).flatten := by
  rw [List.drop_eq_getElem_cons hj]; rfl
theorem spec_cont_loop {d : List Int} {L : List Nat} {dep : Int} {g : Nat → List Int} (h0 : 0 ≤ dep) (h1 : dep ≤ 1000000) (hL : L.length ≤ 1000) (hg : ∀ c ∈ L, Ev (fun k => spec_l05Contour.f k d (c : Int) (dep + 1)) (g c)) :
    ∀ (m j : Nat) (acc : List Int), j + m = L.length → acc.length + ((L.drop j).map fun c => g c ++ [dep]).flatten.length ≤ 10000 → Ev (fun k => spec_l05Contour.l0 k dep acc (castL L) (j : Int) d) (acc ++ ((L.drop j).map fun c => g c ++ [dep]).flatten)
  | 0, j, acc, hj, _ => by
    refine Ev.step (fun k => by rw [spec_l05Contour.l0]) ?_
    refine ev_neg (by rw [castL_length]; omega) (ev_now ?_)
    rw [List.drop_of_length_le (by omega)]; simp
  | m + 1, j, acc, hj, hl => by
    have hjl : j < L.length := by omega
    rw [flat_drop hjl] at hl ⊢
    simp only [List.length_append, List.length_cons, List.length_nil] at hl
    refine Ev.step (fun k => by rw [spec_l05Contour.l0]) ?_
    rw [castL_rd L hjl, w64 (x := dep + 1) (by omega) (by omega), w64s (by omega)]
    refine ev_pos (by rw [castL_length]; omega) (ev_pos (by omega) (Ev.bind (hg _ (List.getElem_mem hjl)) (ev_pos (by omega) (ev_some (ev_some (ev_pos (by simp only [List.length_append, List.length_cons, List.length_nil]; omega) ?_))))))
    have := spec_cont_loop h0 h1 hL hg m (j + 1) (acc ++ g L[j] ++ [dep]) (by omega) (by simp only [List.length_append, List.length_cons, List.length_nil]; omega)
    simpa using this
theorem impl_cont_loop {d : List Int} {L : List Nat} {dep : Int} {g : Nat → List Int} (h0 : 0 ≤ dep) (h1 : dep ≤ 1000000) (hL : L.length ≤ 1000) (hg : ∀ c ∈ L, Ev (fun k => impl_contour.f k d (c : Int) (dep + 1)) (g c)) :
    ∀ (m j : Nat) (acc : List Int), j + m = L.length → acc.length + ((L.drop j).map fun c => g c ++ [dep]).flatten.length ≤ 10000 → Ev (fun k => impl_contour.l0 k d dep acc (castL L) (L.length : Int) (j : Int)) (acc ++ ((L.drop j).map fun c => g c ++ [dep]).flatten)
  | 0, j, acc, hj, _ => by
    refine Ev.step (fun k => by rw [impl_contour.l0]) ?_
    refine ev_neg (by omega) (ev_now ?_)
    rw [List.drop_of_length_le (by omega)]; simp
  | m + 1, j, acc, hj, hl => by
    have hjl : j < L.length := by omega
    rw [flat_drop hjl] at hl ⊢
    simp only [List.length_append, List.length_cons, List.length_nil] at hl
    refine Ev.step (fun k => by rw [impl_contour.l0]) ?_
    rw [castL_rd L hjl, w64 (x := dep + 1) (by omega) (by omega), w64s (by omega)]
    refine ev_pos (by omega) (ev_pos (by omega) (ev_pos (by rw [castL_length]; omega) (Ev.bind (hg _ (List.getElem_mem hjl)) (ev_pos (by omega) (ev_some (ev_pos (by simp only [List.length_append]; omega) ?_))))))
    have := impl_cont_loop h0 h1 hL hg m (j + 1) (acc ++ g L[j] ++ [dep]) (by omega) (by simp only [List.length_append, List.length_cons, List.length_nil]; omega)
    simpa using this
section
variable {d : List Int} (h : IsT d) (hn : d.length ≤ 1000)
include h hn
theorem cont_few {f v : Nat} {dep : Int} (hv : v < d.length) (hf : endM d v - v ≤ f + 1) : ((kidsM d v).map fun c => contM d f c (dep + 1) ++ [dep]).flatten.length ≤ 9000 := by
  have := cont_length h (f + 1) v dep hv hf
  simp only [contM, List.length_cons] at this
  have := end_le h hv
  omega
theorem spec_cont_ev : ∀ (f v : Nat) (dep : Int), v < d.length → endM d v - v ≤ f → 0 ≤ dep → dep + f ≤ 1000000 → Ev (fun k => spec_l05Contour.f k d (v : Int) dep) (contM d f v dep)
  | 0, v, dep, hv, hf, _, _ => by have := end_gt h hv; omega
  | f + 1, v, dep, hv, hf, h0, h1 => by
    have hk := kids_few h hv
    refine Ev.step (fun k => by rw [spec_l05Contour.f]) ?_
    refine Ev.bind (spec_l01Children_ev h hn hv) ?_
    have := spec_cont_loop (d := d) (L := kidsM d v) (dep := dep) (g := fun c => contM d f c (dep + 1)) h0 (by omega) (by omega) (fun c hc => by
      have hm := kid_mem h hv hc
      exact spec_cont_ev f c (dep + 1) hm.2.1 (by omega) (by omega) (by omega)) (kidsM d v).length 0 [dep] (by omega) (by have := cont_few h hn (dep := dep) hv hf; simp only [List.length_cons, List.length_nil, List.drop_zero]; omega)
    rw [List.drop_zero] at this
    exact this
theorem impl_cont_ev : ∀ (f v : Nat) (dep : Int), v < d.length → endM d v - v ≤ f → 0 ≤ dep → dep + f ≤ 1000000 → Ev (fun k => impl_contour.f k d (v : Int) dep) (contM d f v dep)
  | 0, v, dep, hv, hf, _, _ => by have := end_gt h hv; omega
  | f + 1, v, dep, hv, hf, h0, h1 => by
    have hk := kids_few h hv
    refine Ev.step (fun k => by rw [impl_contour.f]) ?_
    refine Ev.bind (impl_kidsOf_ev h hn hv) ?_
    rw [castL_length]
    have := impl_cont_loop (d := d) (L := kidsM d v) (dep := dep) (g := fun c => contM d f c (dep + 1)) h0 (by omega) (by omega) (fun c hc => by
      have hm := kid_mem h hv hc
      exact impl_cont_ev f c (dep + 1) hm.2.1 (by omega) (by omega) (by omega)) (kidsM d v).length 0 [dep] (by omega) (by have := cont_few h hn (dep := dep) hv hf; simp only [List.length_cons, List.length_nil, List.drop_zero]; omega)
    rw [List.drop_zero] at this
    exact this
omit hn in
theorem root_all : endM d 0 - 0 ≤ d.length := by rw [end_root h]; omega
theorem spec_contour_ev : Ev (fun k => spec_l05Contour.f k d 0 0) (contM d d.length 0 0) := spec_cont_ev h hn d.length 0 0 h.len (root_all h) (by omega) (by omega)
theorem impl_contour_ev : Ev (fun k => impl_contour.f k d 0 0) (contM d d.length 0 0) := impl_cont_ev h hn d.length 0 0 h.len (root_all h) (by omega) (by omega)
omit hn in
theorem contour_length : (contM d d.length 0 0).length = 2 * d.length - 1 := by
  rw [cont_length h d.length 0 0 h.len (root_all h), end_root h]; omega
end
theorem both_ContourOf (l : List Int) (hl : l.length ≤ 1048576) : ∃ r : List Int × Int, r.1.length ≤ 1048576 ∧ Ev (fun k => spec_ContourOf.f k l) r ∧ Ev (fun k => impl_ContourOf.f k l) r := by
  by_cases ht : isTreeM l = true
  · obtain ⟨h, hn⟩ := isTreeM_sound ht
    refine ⟨(contM l l.length 0 0, 0), ?_, ?_, ?_⟩
    · have := contour_length h
      simp only; omega
    · unfold spec_ContourOf.f
      exact Ev.bind (spec_l01Is_ev l hl) (ev_pos ht (Ev.bind (spec_contour_ev h (by omega)) (Ev.now _)))
    · unfold impl_ContourOf.f
      exact Ev.bind (impl_IsTree_ev l) (ev_pos ht (Ev.bind (impl_contour_ev h (by omega)) (Ev.now _)))
  · refine ⟨([], 1), by simp, ?_, ?_⟩
    · unfold spec_ContourOf.f
      exact Ev.bind (spec_l01Is_ev l hl) (ev_neg ht (Ev.now _))
    · unfold impl_ContourOf.f
      exact Ev.bind (impl_IsTree_ev l) (ev_neg ht (Ev.now _))
end Go.Proofs.Ytdhmoglkcfgikaa.E
