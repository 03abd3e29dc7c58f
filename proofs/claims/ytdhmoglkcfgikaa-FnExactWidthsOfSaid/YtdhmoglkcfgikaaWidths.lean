/- WidthsOf on both sides. -/
import Derived.Test.YtdhmoglkcfgikaaDist
import Derived.Test.YtdhmoglkcfgikaaEx25
namespace Go.Proofs.Ytdhmoglkcfgikaa.E
open Go.RowKit Go.Proofs.YtdhmoglkcfgikaaW.PrintWords Go.Proofs.YtdhmoglkcfgikaaW.PrintMore Go.Proofs.Ytdhmoglkcfgikaa.Base Go.Proofs.Ytdhmoglkcfgikaa.Tree

/-- The numbers of nodes by depth, from node v on. -/
def wGo (d : List Int) : Nat → Nat → List Int → List Int
  | 0, _, o => o
  | m + 1, v, o => wGo d m (v + 1) (o.set (depth d v) (o.getD (depth d v) 0 + 1))
theorem wGo_length (d : List Int) : ∀ (m v : Nat) (o : List Int), (wGo d m v o).length = o.length
  | 0, _, _ => rfl
  | m + 1, v, o => by simp only [wGo]; rw [wGo_length]; simp
/-- The counts lie between 0 and the number of nodes that were counted. -/
theorem count_step {o : List Int} {v j : Nat} (hi : ∀ i, 0 ≤ o.getD i 0 ∧ o.getD i 0 ≤ v) : ∀ i, 0 ≤ (o.set j (o.getD j 0 + 1)).getD i 0 ∧ (o.set j (o.getD j 0 + 1)).getD i 0 ≤ ((v + 1 : Nat) : Int) := by
  intro i
  have h1 := hi i
  have h2 := hi j
  by_cases e : j = i
  · subst e
    by_cases hl : j < o.length
    · rw [get_set_eq hl]; omega
    · rw [List.set_eq_of_length_le (by omega)]; omega
  · rw [get_set_ne e]; omega
/-- One more than the height. -/
def hiM (d : List Int) : Nat := (maxZ (depL d) (depL d).length).toNat + 1
section
variable {d : List Int} (h : IsT d) (hn : d.length ≤ 1000)
include h hn
theorem depT_bd : 0 ≤ maxT (depL d) ((depL d).length - 1) ∧ maxT (depL d) ((depL d).length - 1) ≤ 1000 := by
  have h0 := h.len
  have hl := depL_length d
  constructor
  · have := maxT_ge (depL d) ((depL d).length - 1) 0 (by omega)
    have e : (depL d).getD 0 0 = 0 := by rw [depL, getD_map_range h0]; rfl
    omega
  · have hb : ∀ v : Nat, v < d.length → maxT (depL d) v ≤ 1000 := by
      intro v
      induction v with
      | zero =>
        intro hv
        have := depth_le h _ 0 (Nat.le_refl _) hv
        show (depL d).getD 0 0 ≤ 1000
        rw [depL, getD_map_range hv]; omega
      | succ v ih =>
        intro hv
        have := ih (by omega)
        have h2 := depth_le h _ (v + 1) (Nat.le_refl _) hv
        have e : (depL d).getD (v + 1) 0 = (depth d (v + 1) : Int) := by rw [depL, getD_map_range hv]
        simp only [maxT]
        unfold mx
        rw [e]
        split <;> omega
    exact hb _ (by omega)
omit hn in
theorem depZ_eq : maxZ (depL d) (depL d).length = maxT (depL d) ((depL d).length - 1) := by
  have h0 := h.len
  refine maxZ_maxT _ 0 (by rw [depL_length]; exact h0) ?_
  rw [depL, getD_map_range h0]
  exact Int.natCast_nonneg _
theorem depth_hi {v : Nat} (hv : v < d.length) : depth d v < hiM d := by
  have hl := depL_length d
  have h1 := maxT_ge (depL d) ((depL d).length - 1) v (by omega)
  have e : (depL d).getD v 0 = (depth d v : Int) := by rw [depL, getD_map_range hv]
  unfold hiM
  rw [depZ_eq h]
  omega
theorem impl_widths_loop : ∀ (m v : Nat) (o : List Int), v + m = d.length → o.length = hiM d → (∀ i, 0 ≤ o.getD i 0 ∧ o.getD i 0 ≤ v) → Ev (fun k => impl_WidthsOf.l0 k o (depL d) (d.length : Int) (v : Int)) (wGo d m v o, 0)
  | 0, v, o, hv, hl, hi => by
    refine Ev.step (fun k => by rw [impl_WidthsOf.l0]) ?_
    exact ev_neg (by omega) (Ev.now _)
  | m + 1, v, o, hv, hl, hi => by
    have hvl : v < d.length := by omega
    have hd := depth_hi h hn hvl
    have hc := hi (depth d v)
    have e : rd o ((depth d v : Nat) : Int) = o.getD (depth d v) 0 := rfl
    refine Ev.step (fun k => by rw [impl_WidthsOf.l0]) ?_
    rw [depL_get hvl, e]
    refine ev_pos (by omega) (ev_pos (by omega) (ev_pos (by rw [depL_length]; omega) (ev_pos (by omega) (ev_pos (by omega) ?_))))
    rw [w64s (by omega), w64 (by omega) (by omega)]
    exact impl_widths_loop m (v + 1) _ (by omega) (by simpa using hl) (count_step hi)
theorem spec_widths_loop : ∀ (m v : Nat) (o : List Int), v + m = d.length → o.length = hiM d → (∀ i, 0 ≤ o.getD i 0 ∧ o.getD i 0 ≤ v) → Ev (fun k => spec_WidthsOf.l0 k (depL d) o (v : Int)) (wGo d m v o, 0)
  | 0, v, o, hv, hl, hi => by
    refine Ev.step (fun k => by rw [spec_WidthsOf.l0]) ?_
    exact ev_neg (by rw [depL_length]; omega) (Ev.now _)
  | m + 1, v, o, hv, hl, hi => by
    have hvl : v < d.length := by omega
    have hd := depth_hi h hn hvl
    have hc := hi (depth d v)
    have e : rd o ((depth d v : Nat) : Int) = o.getD (depth d v) 0 := rfl
    refine Ev.step (fun k => by rw [spec_WidthsOf.l0]) ?_
    rw [depL_get hvl, e]
    refine ev_pos (by rw [depL_length]; omega) (ev_pos (by omega) (ev_pos (by omega) (ev_pos (by omega) ?_)))
    rw [w64s (by omega), w64 (by omega) (by omega)]
    exact spec_widths_loop m (v + 1) _ (by omega) (by simpa using hl) (count_step hi)
omit h hn in
theorem spec_height_loop (ws : List Int) (hw : ws.length ≤ 1048576) : ∀ (m v : Nat), v + m = ws.length → Ev (fun k => spec_l01Height.l0 k ws (maxZ ws v) (v : Int)) (maxZ ws ws.length)
  | 0, v, hv => by
    refine Ev.step (fun k => by rw [spec_l01Height.l0]) ?_
    exact ev_neg (by omega) (ev_now (by rw [show ws.length = v by omega]))
  | m + 1, v, hv => by
    refine Ev.step (fun k => by rw [spec_l01Height.l0]) ?_
    refine ev_pos (by omega) (ev_pos (by omega) ?_)
    rw [w64s (by omega)]
    exact spec_height_loop ws hw m (v + 1) (by omega)
theorem spec_l01Height_ev : Ev (fun k => spec_l01Height.f k d) (maxZ (depL d) (depL d).length) := by
  unfold spec_l01Height.f
  exact Ev.bind (spec_l01Depths_ev h hn) (spec_height_loop _ (by rw [depL_length]; omega) (depL d).length 0 (by omega))
end
theorem zeros_count (n v : Nat) : ∀ i, 0 ≤ (List.replicate n (0 : Int)).getD i 0 ∧ (List.replicate n (0 : Int)).getD i 0 ≤ v := by
  intro i
  have e : (List.replicate n (0 : Int)).getD i 0 = 0 := by
    rw [List.getD_eq_getElem?_getD, List.getElem?_replicate]
    split <;> rfl
  rw [e]; omega
theorem both_WidthsOf (l : List Int) (hl : l.length ≤ 1048576) : ∃ r : List Int × Int, r.1.length ≤ 1048576 ∧ Ev (fun k => spec_WidthsOf.f k l) r ∧ Ev (fun k => impl_WidthsOf.f k l) r := by
  by_cases ht : isTreeM l = true
  · obtain ⟨h, hn⟩ := isTreeM_sound ht
    have hn' : l.length ≤ 1000 := by omega
    have h0 := h.len
    have hb := depT_bd h hn'
    have hz := depZ_eq h
    have hd := depL_length l
    have e : hiM l = (maxT (depL l) ((depL l).length - 1) + 1).toNat := by unfold hiM; rw [hz]; omega
    refine ⟨(wGo l l.length 0 (List.replicate (hiM l) 0), 0), ?_, ?_, ?_⟩
    · simp only
      rw [wGo_length, List.length_replicate]; omega
    · unfold spec_WidthsOf.f
      refine Ev.bind (spec_l01Is_ev l hl) (ev_pos ht (Ev.bind (spec_l01Depths_ev h hn') (Ev.bind (spec_l01Height_ev h hn') ?_)))
      rw [hz, w64 (by omega) (by omega), ← e]
      refine ev_pos (by omega) (ev_pos (by omega) ?_)
      exact spec_widths_loop h hn' l.length 0 _ (by omega) (by simp) (zeros_count _ _)
    · unfold impl_WidthsOf.f
      refine Ev.bind (impl_IsTree_ev l) (ev_pos ht (Ev.bind (impl_depthsOf_ev h hn') (Ev.bind (slices_Max_ev _ (by omega) (by omega)) ?_)))
      rw [hd] at hb e ⊢
      rw [w64 (by omega) (by omega), ← e]
      refine ev_pos (by omega) (ev_pos (by omega) ?_)
      exact impl_widths_loop h hn' l.length 0 _ (by omega) (by simp) (zeros_count _ _)
  · refine ⟨([], 1), by simp, ?_, ?_⟩
    · unfold spec_WidthsOf.f
      exact Ev.bind (spec_l01Is_ev l hl) (ev_neg ht (Ev.now _))
    · unfold impl_WidthsOf.f
      exact Ev.bind (impl_IsTree_ev l) (ev_neg ht (Ev.now _))
end Go.Proofs.Ytdhmoglkcfgikaa.E
