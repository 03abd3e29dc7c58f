/- Marks in an automaton's rows, and whether they are held. -/
import Derived.Test.YtbecakjoccegaaaDoorAutoEv
import Derived.Test.YtbecakjoccegaaaDoorEx3
namespace Go.Proofs.YtbecakjoccegaaaDoor.E
set_option linter.unusedVariables false
set_option linter.unusedSectionVars false
open Go.RowKit Go.Proofs.YtbecakjoccegaaaDoorW.PrintWords Go.Proofs.YtbecakjoccegaaaDoor.Base Go.Proofs.YtbecakjoccegaaaDoor.Auto

/-- The rows, marked from m on. -/
def marksL (m : Int) : List (List Int) → List (List Int)
  | [] => []
  | r :: S => marks m r.length :: marksL (m + r.length) S
def sumL : List (List Int) → Nat
  | [] => 0
  | r :: S => r.length + sumL S
theorem sumL_le : ∀ S : List (List Int), (∀ r ∈ S, r.length ≤ 1048576) → sumL S ≤ 1048576 * S.length
  | [], _ => by simp [sumL]
  | r :: S, h => by
    have h1 := h r List.mem_cons_self
    have h2 := sumL_le S (fun r hr => h r (List.mem_cons_of_mem _ hr))
    simp only [sumL, List.length_cons]
    omega
theorem marksL_length : ∀ (S : List (List Int)) (m : Int), (marksL m S).length = S.length
  | [], _ => rfl
  | r :: S, m => by simp [marksL, marksL_length S]
theorem sumL_drop : ∀ (S : List (List Int)) (i : Nat), i < S.length → sumL (S.drop i) = (S.getD i []).length + sumL (S.drop (i + 1))
  | r :: S, 0, _ => by simp [sumL]
  | r :: S, i + 1, h => by
    have := sumL_drop S i (by simpa using h)
    simpa using this
/-- What stands at row j, where the first row's mark is m. -/
theorem marksL_getD : ∀ (S : List (List Int)) (m : Int) (j : Nat), j < S.length → (marksL m S).getD j [] = marks (m + (sumL S : Int) - (sumL (S.drop j) : Int)) (S.getD j []).length
  | r :: S, m, 0, _ => by simp [marksL]
  | r :: S, m, j + 1, h => by
    have := marksL_getD S (m + r.length) j (by simpa using h)
    simp only [marksL, List.getD_cons_succ, List.drop_succ_cons, sumL]
    rw [this, show m + (r.length : Int) + (sumL S : Int) - (sumL (S.drop j) : Int) = m + ((r.length + sumL S : Nat) : Int) - (sumL (S.drop j) : Int) by omega]
section
variable {S : List (List Int)} (hn : S.length ≤ 1048576) (hr : ∀ j, j < S.length → (S.getD j []).length ≤ 1048576)
include hn hr
theorem sumL_big : sumL S ≤ 1099511627776 := by
  have := sumL_le S (fun r h => by
    obtain ⟨j, hj, rfl⟩ := List.getElem_of_mem h
    have := hr j hj
    rwa [List.getD_eq_getElem?_getD, List.getElem?_eq_getElem hj] at this)
  omega
theorem sumL_drop_le : ∀ j, sumL (S.drop j) ≤ sumL S
  | 0 => by simp
  | j + 1 => by
    have := sumL_drop_le j
    rcases Nat.lt_or_ge j S.length with h | h
    · have := sumL_drop S j h
      omega
    · rw [List.drop_of_length_le (by omega)]
      simp [sumL]
theorem markSS_loop {m0 : Int} (h0 : 0 ≤ m0) (h1 : m0 ≤ 1099511627776) : ∀ (m i : Nat) (x : List (List Int)), i + m = S.length → x.length = S.length → (∀ j, j < i → x.getD j [] = (marksL m0 S).getD j []) → (∀ j, i ≤ j → j < S.length → x.getD j [] = S.getD j []) →
    Ev (fun k => laws_markInt64SS.l0 k x (m0 + (sumL S : Int) - (sumL (S.drop i) : Int)) (i : Int)) (m0 + (sumL S : Int), marksL m0 S)
  | 0, i, x, hi, hx, hd, hk => by
    refine Ev.step (fun k => by rw [laws_markInt64SS.l0]) ?_
    have e : x = marksL m0 S := ext_rows (by rw [hx, marksL_length]) (fun j hj => by rw [marksL_length] at hj; exact hd j (by omega))
    rw [List.drop_of_length_le (by omega)]
    refine ev_neg (by omega) (ev_now ?_)
    rw [e]
    simp [sumL]
  | m + 1, i, x, hi, hx, hd, hk => by
    have hb := sumL_big hn hr
    have hdl := sumL_drop_le hn hr i
    have e1 := sumL_drop S i (by omega)
    have hl := hr i (by omega)
    have e2 := hk i (Nat.le_refl _) (by omega)
    refine Ev.step (fun k => by rw [laws_markInt64SS.l0]) ?_
    rw [rdL_nat, e2]
    refine ev_pos (by omega) (ev_pos (by omega) (Ev.bind (markInt64S_ev (S.getD i []) _ (by omega) (by omega) hl) ?_))
    rw [w64s (by omega), show m0 + (sumL S : Int) - (sumL (S.drop i) : Int) + ((S.getD i []).length : Int) = m0 + (sumL S : Int) - (sumL (S.drop (i + 1)) : Int) by omega]
    refine markSS_loop h0 h1 m (i + 1) _ (by omega) (by simpa using hx) (fun j hj => ?_) (fun j hj hjl => ?_)
    · by_cases e : i = j
      · subst e
        rw [show ((i : Int)).toNat = i from rfl, getr_set_eq (by omega), marksL_getD S m0 i (by omega)]
      · rw [show ((i : Int)).toNat = i from rfl, getr_set_ne e]
        exact hd j (by omega)
    · rw [show ((i : Int)).toNat = i from rfl, getr_set_ne (by omega)]
      exact hk j (by omega) hjl
theorem markSS_ev {m0 : Int} (h0 : 0 ≤ m0) (h1 : m0 ≤ 1099511627776) : Ev (fun k => laws_markInt64SS.f k S m0) (m0 + (sumL S : Int), marksL m0 S) := by
  unfold laws_markInt64SS.f
  have := markSS_loop hn hr h0 h1 S.length 0 S (by omega) rfl (fun j hj => by omega) (fun _ _ _ => rfl)
  simpa using this
theorem heldSS_loop {m0 : Int} (h0 : 0 ≤ m0) (h1 : m0 ≤ 1099511627776) : ∀ (m i : Nat), i + m = S.length →
    Ev (fun k => laws_heldInt64SS.l0 k (marksL m0 S) (m0 + (sumL S : Int) - (sumL (S.drop i) : Int)) (i : Int)) (m0 + (sumL S : Int))
  | 0, i, hi => by
    refine Ev.step (fun k => by rw [laws_heldInt64SS.l0]) ?_
    rw [List.drop_of_length_le (by omega)]
    refine ev_neg (by rw [marksL_length]; omega) (ev_now ?_)
    simp [sumL]
  | m + 1, i, hi => by
    have hb := sumL_big hn hr
    have hdl := sumL_drop_le hn hr i
    have e1 := sumL_drop S i (by omega)
    have hl := hr i (by omega)
    have e2 := marksL_getD S m0 i (by omega)
    refine Ev.step (fun k => by rw [laws_heldInt64SS.l0]) ?_
    rw [rdL_nat, e2]
    refine ev_pos (by rw [marksL_length]; omega) (ev_pos (by omega) (Ev.bind (heldInt64S_ev _ _ (by omega) (by omega) hl) (ev_neg (by omega) ?_)))
    rw [w64s (by omega), show m0 + (sumL S : Int) - (sumL (S.drop i) : Int) + ((S.getD i []).length : Int) = m0 + (sumL S : Int) - (sumL (S.drop (i + 1)) : Int) by omega]
    exact heldSS_loop h0 h1 m (i + 1) (by omega)
theorem heldSS_ev {m0 : Int} (h0 : 0 ≤ m0) (h1 : m0 ≤ 1099511627776) : Ev (fun k => laws_heldInt64SS.f k (marksL m0 S) m0) (m0 + (sumL S : Int)) := by
  unfold laws_heldInt64SS.f
  have := heldSS_loop hn hr h0 h1 S.length 0 (by omega)
  simpa using this
end
theorem markA_ev {S : List (List Int)} {g : List Int} (hs : SmallA S g) (st : Int) {m0 : Int} (h0 : 0 ≤ m0) (h1 : m0 ≤ 1099511627776) :
    Ev (fun k => laws_markAutomaton.f k st S g m0) (m0 + (sumL S : Int) + (g.length : Int), marksL m0 S, marks (m0 + (sumL S : Int)) g.length) := by
  have hb := sumL_big hs.rows hs.each
  unfold laws_markAutomaton.f
  exact Ev.bind (markSS_ev hs.rows hs.each h0 h1) (Ev.bind (markInt64S_ev g _ (by show 0 ≤ _; simp only; omega) (by simp only; omega) hs.good) (Ev.now _))
theorem heldA_ev {S : List (List Int)} {g : List Int} (hs : SmallA S g) (st : Int) {m0 : Int} (h0 : 0 ≤ m0) (h1 : m0 ≤ 1099511627776) :
    Ev (fun k => laws_heldAutomaton.f k st (marksL m0 S) (marks (m0 + (sumL S : Int)) g.length) m0) (m0 + (sumL S : Int) + (g.length : Int)) := by
  have hb := sumL_big hs.rows hs.each
  have hg := hs.good
  unfold laws_heldAutomaton.f
  exact Ev.bind (heldSS_ev hs.rows hs.each h0 h1) (ev_neg (by omega) (Ev.bind (heldInt64S_ev g.length _ (by omega) (by omega) hs.good) (ev_neg (by omega) (Ev.now _))))
end Go.Proofs.YtbecakjoccegaaaDoor.E
