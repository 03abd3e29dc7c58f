/- The places of the least number of a list, on both sides. -/
import Derived.Test.YtdhmoglkcfgikaaBase
import Derived.Test.YtdhmoglkcfgikaaEx17
namespace Go.Proofs.Ytdhmoglkcfgikaa.E
set_option linter.unusedVariables false
set_option linter.unusedSectionVars false
open Go.RowKit Go.Proofs.YtdhmoglkcfgikaaW.PrintWords Go.Proofs.YtdhmoglkcfgikaaW.PrintMore Go.Proofs.Ytdhmoglkcfgikaa.Base

/-- The least of the numbers 0 to v. -/
def minT (ws : List Int) : Nat → Int
  | 0 => ws.getD 0 0
  | v + 1 => mn (minT ws v) (ws.getD (v + 1) 0)
/-- The places ahead of v that hold m. -/
def plc (ws : List Int) (m : Int) : Nat → List Int
  | 0 => []
  | v + 1 => if ws.getD v 0 = m then plc ws m v ++ [(v : Int)] else plc ws m v
def leastM (ws : List Int) : List Int := plc ws (minT ws (ws.length - 1)) ws.length
theorem minT_le (ws : List Int) : ∀ (v i : Nat), i ≤ v → minT ws v ≤ ws.getD i 0
  | 0, i, h => by
    have e : i = 0 := by omega
    subst e; exact Int.le_refl _
  | v + 1, i, h => by
    simp only [minT]
    unfold mn
    by_cases e : i = v + 1
    · subst e; split <;> omega
    · have := minT_le ws v i (by omega)
      split <;> omega
theorem minT_mem (ws : List Int) : ∀ v : Nat, ∃ i, i ≤ v ∧ ws.getD i 0 = minT ws v
  | 0 => ⟨0, Nat.le_refl _, rfl⟩
  | v + 1 => by
    obtain ⟨i, h1, h2⟩ := minT_mem ws v
    simp only [minT]
    unfold mn
    split
    · exact ⟨v + 1, Nat.le_refl _, rfl⟩
    · exact ⟨i, by omega, h2⟩
theorem plc_length (ws : List Int) (m : Int) : ∀ v : Nat, (plc ws m v).length ≤ v
  | 0 => Nat.le_refl _
  | v + 1 => by
    have := plc_length ws m v
    simp only [plc]
    split
    · simp; omega
    · omega
theorem plc_mem (ws : List Int) (m : Int) : ∀ (v : Nat) (x : Int), x ∈ plc ws m v → ∃ i : Nat, x = i ∧ i < v ∧ ws.getD i 0 = m
  | 0, x, h => by simp [plc] at h
  | v + 1, x, h => by
    simp only [plc] at h
    split at h
    · rename_i hv
      rcases List.mem_append.1 h with h | h
      · obtain ⟨i, h1, h2, h3⟩ := plc_mem ws m v x h
        exact ⟨i, h1, by omega, h3⟩
      · exact ⟨v, by simpa using h, by omega, hv⟩
    · obtain ⟨i, h1, h2, h3⟩ := plc_mem ws m v x h
      exact ⟨i, h1, by omega, h3⟩
theorem mem_plc (ws : List Int) (m : Int) : ∀ (v i : Nat), i < v → ws.getD i 0 = m → (i : Int) ∈ plc ws m v
  | 0, i, h, _ => by omega
  | v + 1, i, h, hm => by
    simp only [plc]
    by_cases e : i = v
    · subst e; rw [if_pos hm]; simp
    · have := mem_plc ws m v i (by omega) hm
      split
      · exact List.mem_append_left _ this
      · exact this
theorem plc_none (ws : List Int) (m : Int) : ∀ v : Nat, (∀ i, i < v → ws.getD i 0 ≠ m) → plc ws m v = []
  | 0, _ => rfl
  | v + 1, h => by
    simp only [plc]
    rw [if_neg (h v (by omega))]
    exact plc_none ws m v (fun i hi => h i (by omega))
/-- The first of them. -/
theorem plc_head (ws : List Int) {v : Nat} (hv : 0 < v) : ∃ p : Nat, 0 < (plc ws (minT ws (v - 1)) v).length ∧ rd (plc ws (minT ws (v - 1)) v) 0 = p ∧ p < v ∧ ws.getD p 0 = minT ws (v - 1) := by
  obtain ⟨i, h1, h2⟩ := minT_mem ws (v - 1)
  have hm := mem_plc ws (minT ws (v - 1)) v i (by omega) h2
  have hl : 0 < (plc ws (minT ws (v - 1)) v).length := List.length_pos_of_mem hm
  have hr : rd (plc ws (minT ws (v - 1)) v) 0 ∈ plc ws (minT ws (v - 1)) v := by
    have e : rd (plc ws (minT ws (v - 1)) v) 0 = (plc ws (minT ws (v - 1)) v)[0] := by
      have := rd_lt (l := plc ws (minT ws (v - 1)) v) (i := 0) hl
      exact this
    rw [e]
    exact List.getElem_mem hl
  obtain ⟨p, h3, h4, h5⟩ := plc_mem _ _ _ _ hr
  exact ⟨p, hl, h3, h4, h5⟩
theorem leastM_length (ws : List Int) : (leastM ws).length ≤ ws.length := plc_length _ _ _

theorem slices_Min_loop (ws : List Int) (hn : ws.length ≤ 1048576) : ∀ (m v : Nat), v + 1 + m = ws.length → Ev (fun k => slices_Min_int64_int64.l0 k ws (minT ws v) ((v + 1 : Nat) : Int)) (minT ws (ws.length - 1))
  | 0, v, h => by
    refine Ev.step (fun k => by rw [slices_Min_int64_int64.l0]) ?_
    exact ev_neg (by omega) (ev_now (by rw [show ws.length - 1 = v by omega]))
  | m + 1, v, h => by
    refine Ev.step (fun k => by rw [slices_Min_int64_int64.l0]) ?_
    refine ev_pos (by omega) (ev_pos (by omega) ?_)
    rw [w64s (by omega)]
    exact slices_Min_loop ws hn m (v + 1) (by omega)
theorem slices_Min_ev (ws : List Int) (hn : ws.length ≤ 1048576) (h0 : 0 < ws.length) : Ev (fun k => slices_Min_int64_int64.f k ws) (minT ws (ws.length - 1)) := by
  unfold slices_Min_int64_int64.f
  refine ev_neg (by omega) (ev_pos (by omega) ?_)
  exact slices_Min_loop ws hn (ws.length - 1) 0 (by omega)
theorem impl_least_loop (ws : List Int) (hn : ws.length ≤ 1048576) (q : Int) : ∀ (m v : Nat), v + m = ws.length → Ev (fun k => impl_least.l0 k (plc ws q v) q ws (ws.length : Int) (v : Int)) (plc ws q ws.length)
  | 0, v, h => by
    refine Ev.step (fun k => by rw [impl_least.l0]) ?_
    exact ev_neg (by omega) (ev_now (by rw [show ws.length = v by omega]))
  | m + 1, v, h => by
    have hl := plc_length ws q v
    have ih := impl_least_loop ws hn q m (v + 1) (by omega)
    simp only [plc] at ih
    refine Ev.step (fun k => by rw [impl_least.l0]) ?_
    refine ev_pos (by omega) (ev_pos (by omega) (ev_pos (by omega) ?_))
    rw [w64s (by omega)]
    by_cases hx : ws.getD v 0 = q
    · rw [if_pos hx] at ih
      exact ev_pos hx (ev_pos (by omega) ih)
    · rw [if_neg hx] at ih
      exact ev_neg hx ih
theorem impl_least_ev (ws : List Int) (hn : ws.length ≤ 1048576) (h0 : 0 < ws.length) : Ev (fun k => impl_least.f k ws) (leastM ws) := by
  unfold impl_least.f
  exact Ev.bind (slices_Min_ev ws hn h0) (impl_least_loop ws hn _ ws.length 0 (by omega))
theorem spec_least_loop (ws : List Int) (hn : ws.length ≤ 1048576) : ∀ (m v : Nat), v + m = ws.length → 0 < v → Ev (fun k => spec_l05Least.l0 k ws (plc ws (minT ws (v - 1)) v) (v : Int)) (leastM ws)
  | 0, v, h, h0 => by
    refine Ev.step (fun k => by rw [spec_l05Least.l0]) ?_
    exact ev_neg (by omega) (ev_now (by unfold leastM; rw [show ws.length = v by omega]))
  | m + 1, v, h, h0 => by
    obtain ⟨p, h1, h2, h3, h4⟩ := plc_head ws h0
    have hl := plc_length ws (minT ws (v - 1)) v
    have ih := spec_least_loop ws hn m (v + 1) (by omega) (by omega)
    have e : minT ws (v + 1 - 1) = mn (minT ws (v - 1)) (ws.getD v 0) := by
      obtain ⟨u, rfl⟩ : ∃ u, v = u + 1 := ⟨v - 1, by omega⟩
      rfl
    rw [e] at ih
    have h5 : rd ws ((p : Nat) : Int) = minT ws (v - 1) := h4
    refine Ev.step (fun k => by rw [spec_l05Least.l0]) ?_
    rw [h2, h5]
    refine ev_pos (by omega) (ev_pos (by omega) (ev_pos (by omega) (ev_pos (by omega) (ev_pos (by omega) (ev_pos (by omega) ?_)))))
    by_cases hlt : ws.getD v 0 < minT ws (v - 1)
    · rw [decide_eq_true (show rd ws (v : Int) < minT ws (v - 1) from hlt)]
      refine Ev.step (fun k => by rw [spec_l05Least.j1]) ?_
      refine ev_pos rfl (ev_some (ev_pos (by simp) (ev_pos (by simp) ?_)))
      rw [w64s (by omega)]
      have e2 : plc ws (mn (minT ws (v - 1)) (ws.getD v 0)) (v + 1) = [] ++ [(v : Int)] := by
        have e3 : mn (minT ws (v - 1)) (ws.getD v 0) = ws.getD v 0 := by unfold mn; rw [if_pos hlt]
        rw [e3]
        simp only [plc]
        rw [if_pos trivial, plc_none ws _ v (fun i hi => by have := minT_le ws (v - 1) i (by omega); omega)]
      rw [e2] at ih
      exact ih
    · rw [decide_eq_false (show ¬ rd ws (v : Int) < minT ws (v - 1) from hlt)]
      have e3 : mn (minT ws (v - 1)) (ws.getD v 0) = minT ws (v - 1) := by unfold mn; rw [if_neg hlt]
      rw [e3] at ih
      simp only [plc] at ih
      refine Ev.step (fun k => by rw [spec_l05Least.j1]) ?_
      rw [h2, h5]
      refine ev_neg (by decide) (ev_neg (by omega) (ev_pos (by omega) (ev_pos (by omega) (ev_pos (by omega) (ev_pos (by omega) (ev_pos (by omega) ?_))))))
      rw [w64s (by omega)]
      by_cases hx : ws.getD v 0 = minT ws (v - 1)
      · rw [if_pos hx] at ih
        exact ev_pos hx (ev_pos (by omega) ih)
      · rw [if_neg hx] at ih
        exact ev_neg hx ih
theorem spec_l05Least_ev (ws : List Int) (hn : ws.length ≤ 1048576) (h0 : 0 < ws.length) : Ev (fun k => spec_l05Least.f k ws) (leastM ws) := by
  unfold spec_l05Least.f
  refine Ev.step (fun k => by rw [spec_l05Least.l0]) ?_
  refine ev_pos (by omega) (ev_neg (by simp) ?_)
  refine Ev.step (fun k => by rw [spec_l05Least.j1]) ?_
  refine ev_neg (by decide) (ev_pos (by simp) (ev_pos (by simp) ?_))
  have e : wrap64 ((0 : Int) + 1) = ((1 : Nat) : Int) := by unfold wrap64; decide
  rw [e]
  have := spec_least_loop ws hn (ws.length - 1) 1 (by omega) (by omega)
  simpa [plc, minT] using this
end Go.Proofs.Ytdhmoglkcfgikaa.E
