/- Automata on both sides: sizes, copies, comparisons, and whether one is an automaton. -/
import Derived.Test.YtbecakjoccegaaaDoorAutoTh
import Derived.Test.YtbecakjoccegaaaDoorHelp
import Derived.Test.YtbecakjoccegaaaDoorEx1
import Derived.Test.YtbecakjoccegaaaDoorEx2
import Derived.Test.YtbecakjoccegaaaDoorEx3
namespace Go.Proofs.YtbecakjoccegaaaDoor.E
set_option linter.unusedVariables false
set_option linter.unusedSectionVars false
open Go.RowKit Go.Proofs.YtbecakjoccegaaaDoorW.PrintWords Go.Proofs.YtbecakjoccegaaaDoor.Base Go.Proofs.YtbecakjoccegaaaDoor.Auto

/-- Few rows, each short, few good states. -/
structure SmallA (S : List (List Int)) (g : List Int) : Prop where
  rows : S.length ≤ 1048576
  each : ∀ j, j < S.length → (S.getD j []).length ≤ 1048576
  good : g.length ≤ 1048576
theorem l01In_eq (a b c : Int) : spec_l01In.f a b c = some (decide (b ≤ a) && decide (a ≤ c)) := by
  unfold spec_l01In.f
  by_cases h : a ≥ b
  · rw [if_pos h]; simp [show b ≤ a from h]
  · rw [if_neg h]; simp [show ¬ b ≤ a from h]
theorem rdL_nat (S : List (List Int)) (i : Nat) : rd_L2 S (i : Int) = S.getD i [] := rfl
theorem ext_rows {l m : List (List Int)} (hl : m.length = l.length) (h : ∀ j, j < l.length → m.getD j [] = l.getD j []) : m = l := by
  apply List.ext_getElem hl
  intro j h1 h2
  have := h j h2
  rwa [List.getD_eq_getElem?_getD, List.getD_eq_getElem?_getD, List.getElem?_eq_getElem h1, List.getElem?_eq_getElem h2] at this
theorem getr_set_eq {l : List (List Int)} {i : Nat} {v : List Int} (h : i < l.length) : (l.set i v).getD i [] = v := by
  rw [List.getD_eq_getElem?_getD, List.getElem?_set_self h]; rfl
theorem getr_set_ne {l : List (List Int)} {i j : Nat} {v : List Int} (h : i ≠ j) : (l.set i v).getD j [] = l.getD j [] := by
  rw [List.getD_eq_getElem?_getD, List.getElem?_set_ne h, ← List.getD_eq_getElem?_getD]
section
variable {S : List (List Int)} {g : List Int} (hs : SmallA S g)
include hs
theorem eqSS_loop : ∀ (m i : Nat), i + m = S.length → Ev (fun k => laws_eqInt64SS.l0 k S S (i : Int)) true
  | 0, i, hi => by
    refine Ev.step (fun k => by rw [laws_eqInt64SS.l0]) ?_
    exact ev_neg (by omega) (Ev.now _)
  | m + 1, i, hi => by
    have hr := hs.rows
    refine Ev.step (fun k => by rw [laws_eqInt64SS.l0]) ?_
    rw [rdL_nat]
    refine ev_pos (by omega) (ev_pos (by omega) (ev_pos (by omega) (Ev.bind (eqInt64S_ev _ (hs.each i (by omega))) (ev_pos rfl ?_))))
    rw [w64s (by omega)]
    exact eqSS_loop m (i + 1) (by omega)
theorem eqA_ev (st : Int) : Ev (fun k => laws_eqAutomaton.f k st S g st S g) true := by
  unfold laws_eqAutomaton.f laws_eqInt64SS.f
  exact ev_pos rfl (Ev.bind (ev_pos rfl (eqSS_loop hs S.length 0 (by omega))) (ev_pos rfl (Ev.bind (eqInt64S_ev g hs.good) (ev_pos rfl (Ev.now _)))))
end
theorem dropr_all {α : Type} (p : α → Bool) (l : List α) (d : α) (i : Nat) (hi : i < l.length) : (l.drop i).all p = (p (l.getD i d) && (l.drop (i + 1)).all p) := by
  rw [List.drop_eq_getElem_cons hi, List.all_cons, List.getD_eq_getElem?_getD, List.getElem?_eq_getElem hi]
  rfl
section
variable {st : Int} {S : List (List Int)} {g : List Int} (hs : SmallA S g) (h9 : S.length ≤ 9) (h1 : 1 ≤ S.length)
include hs h9 h1
theorem spec_good_loop : ∀ (n i : Nat), i + n = g.length → Ev (fun k => spec_l06Is.l2 k (S.length : Int) (i : Int) st S g) (goodFrom S.length g n i)
  | 0, i, hi => by
    refine Ev.step (fun k => by rw [spec_l06Is.l2]) ?_
    exact ev_neg (by omega) (Ev.now _)
  | n + 1, i, hi => by
    have hg := hs.good
    have ih := spec_good_loop n (i + 1) (by omega)
    refine Ev.step (fun k => by rw [spec_l06Is.l2]) ?_
    simp only [l01In_eq]
    refine ev_pos (by omega) (ev_pos (by omega) (ev_some ?_))
    rw [w64 (x := (S.length : Int) - 1) (by omega) (by omega), w64s (by omega), rd_nat]
    have e : (decide (0 ≤ g.getD i 0) && decide (g.getD i 0 ≤ (S.length : Int) - 1)) = inS S.length (g.getD i 0) := by
      unfold inS; congr 1; exact decide_eq_decide.mpr (by omega)
    have eg : goodFrom S.length g (n + 1) i = ((inS S.length (g.getD i 0) && (decide (i = 0) || decide (g.getD (i - 1) 0 < g.getD i 0))) && goodFrom S.length g n (i + 1)) := rfl
    rw [e, eg]
    refine ev_ite (fun hin => ?_) (fun hin => ?_)
    · rw [hin, Bool.true_and]
      rcases Nat.eq_zero_or_pos i with h0 | h0
      · rw [decide_eq_true h0, Bool.true_or, Bool.true_and]
        exact ev_neg (by omega) ih
      · have ew : wrap64 ((i : Int) - 1) = ((i - 1 : Nat) : Int) := by rw [w64 (by omega) (by omega)]; omega
        rw [decide_eq_false (by omega), Bool.false_or, ew, rd_nat]
        refine ev_pos (by omega) (ev_pos (by omega) (ev_pos (by omega) (ev_ite (fun hx => ?_) (fun hx => ?_))))
        · rw [decide_eq_false (by omega)]; exact Ev.now _
        · rw [decide_eq_true (by omega), Bool.true_and]; exact ih
    · rw [(by simpa using hin : inS S.length (g.getD i 0) = false)]; exact Ev.now _
theorem spec_row_loop {i : Nat} (hi : i < S.length) (hl : (S.getD i []).length = S.length) {R : Bool} (H : Ev (fun k => spec_l06Is.l0 k (S.length : Int) ((i + 1 : Nat) : Int) st S g) R) :
    ∀ (n c : Nat), c + n = S.length → Ev (fun k => spec_l06Is.l1 k (S.length : Int) (i : Int) (c : Int) st S g) (((S.getD i []).drop c).all (inS S.length) && R)
  | 0, c, hc => by
    refine Ev.step (fun k => by rw [spec_l06Is.l1]) ?_
    rw [List.drop_of_length_le (by omega), w64s (i := i) (by omega), List.all_nil, Bool.true_and]
    exact ev_neg (by omega) H
  | n + 1, c, hc => by
    have ih := spec_row_loop hi hl H n (c + 1) (by omega)
    refine Ev.step (fun k => by rw [spec_l06Is.l1]) ?_
    simp only [l01In_eq]
    rw [rdL_nat]
    refine ev_pos (by omega) (ev_pos (by omega) (ev_pos (by omega) (ev_pos (by omega) (ev_pos (by omega) (ev_some ?_)))))
    rw [w64 (x := (S.length : Int) - 1) (by omega) (by omega), w64s (by omega), rd_nat, dropr_all _ _ 0 c (by omega)]
    have e : (decide (0 ≤ (S.getD i []).getD c 0) && decide ((S.getD i []).getD c 0 ≤ (S.length : Int) - 1)) = inS S.length ((S.getD i []).getD c 0) := by
      unfold inS; congr 1; exact decide_eq_decide.mpr (by omega)
    rw [e]
    refine ev_ite (fun hin => ?_) (fun hin => ?_)
    · rw [hin, Bool.true_and]; exact ih
    · rw [(by simpa using hin : inS S.length ((S.getD i []).getD c 0) = false)]; exact Ev.now _
theorem spec_rows_loop : ∀ (n i : Nat), i + n = S.length → Ev (fun k => spec_l06Is.l0 k (S.length : Int) (i : Int) st S g) ((S.drop i).all (rowOk S.length) && goodFrom S.length g g.length 0)
  | 0, i, hi => by
    refine Ev.step (fun k => by rw [spec_l06Is.l0]) ?_
    rw [List.drop_of_length_le (by omega)]
    exact ev_neg (by omega) (spec_good_loop hs h9 h1 g.length 0 (by omega))
  | n + 1, i, hi => by
    have ih := spec_rows_loop n (i + 1) (by omega)
    refine Ev.step (fun k => by rw [spec_l06Is.l0]) ?_
    rw [rdL_nat, dropr_all _ _ [] i (by omega)]
    refine ev_pos (by omega) (ev_pos (by omega) (ev_pos (by omega) (ev_ite (fun hx => ?_) (fun hx => ?_))))
    · have := spec_row_loop hs h9 h1 (by omega) (by omega) ih S.length 0 (by omega)
      rw [List.drop_zero] at this
      have e : rowOk S.length (S.getD i []) = (S.getD i []).all (inS S.length) := by unfold rowOk; rw [decide_eq_true (by omega), Bool.true_and]
      rw [e, Bool.and_assoc]
      exact this
    · have e : rowOk S.length (S.getD i []) = false := by unfold rowOk; rw [decide_eq_false (by omega), Bool.false_and]
      rw [e]; exact Ev.now _
theorem isState_ev (x : Int) : impl_isState.f st S g x = some (inS S.length x) := by
  unfold impl_isState.f inS
  by_cases h : x ≥ 0
  · rw [if_pos h, decide_eq_true (show 0 ≤ x from h), Bool.true_and]
  · rw [if_neg h, decide_eq_false (show ¬ 0 ≤ x from h), Bool.false_and]
theorem impl_good_loop : ∀ (n i : Nat), i + n = g.length → Ev (fun k => impl_IsAutomaton.l2 k g (g.length : Int) (i : Int) st S g) (goodFrom S.length g n i)
  | 0, i, hi => by
    refine Ev.step (fun k => by rw [impl_IsAutomaton.l2]) ?_
    exact ev_neg (by omega) (Ev.now _)
  | n + 1, i, hi => by
    have hg := hs.good
    have ih := impl_good_loop n (i + 1) (by omega)
    refine Ev.step (fun k => by rw [impl_IsAutomaton.l2]) ?_
    simp only [isState_ev hs h9 h1]
    refine ev_pos (by omega) (ev_pos (by omega) (ev_pos (by omega) (ev_some ?_)))
    rw [w64s (by omega), rd_nat]
    have eg : goodFrom S.length g (n + 1) i = ((inS S.length (g.getD i 0) && (decide (i = 0) || decide (g.getD (i - 1) 0 < g.getD i 0))) && goodFrom S.length g n (i + 1)) := rfl
    rw [eg]
    refine ev_ite (fun hin => ?_) (fun hin => ?_)
    · rw [hin, Bool.true_and]
      rcases Nat.eq_zero_or_pos i with h0 | h0
      · rw [decide_eq_true h0, Bool.true_or, Bool.true_and]
        exact ev_neg (by omega) ih
      · have ew : wrap64 ((i : Int) - 1) = ((i - 1 : Nat) : Int) := by rw [w64 (by omega) (by omega)]; omega
        rw [decide_eq_false (by omega), Bool.false_or, ew, rd_nat]
        refine ev_pos (by omega) (ev_pos (by omega) (ev_pos (by omega) (ev_ite (fun hx => ?_) (fun hx => ?_))))
        · rw [decide_eq_false (by omega)]; exact Ev.now _
        · rw [decide_eq_true (by omega), Bool.true_and]; exact ih
    · rw [(by simpa using hin : inS S.length (g.getD i 0) = false)]; exact Ev.now _
theorem impl_row_loop {i : Nat} (hi : i < S.length) (row : List Int) (hl : row.length = S.length) {R : Bool} (H : Ev (fun k => impl_IsAutomaton.l0 k S (S.length : Int) ((i + 1 : Nat) : Int) st S g) R) :
    ∀ (n c : Nat), c + n = S.length → Ev (fun k => impl_IsAutomaton.l1 k S (S.length : Int) (i : Int) row (row.length : Int) (c : Int) st S g) ((row.drop c).all (inS S.length) && R)
  | 0, c, hc => by
    refine Ev.step (fun k => by rw [impl_IsAutomaton.l1]) ?_
    rw [List.drop_of_length_le (by omega), w64s (i := i) (by omega), List.all_nil, Bool.true_and]
    exact ev_neg (by omega) H
  | n + 1, c, hc => by
    have ih := impl_row_loop hi row hl H n (c + 1) (by omega)
    refine Ev.step (fun k => by rw [impl_IsAutomaton.l1]) ?_
    simp only [isState_ev hs h9 h1]
    refine ev_pos (by omega) (ev_pos (by omega) (ev_pos (by omega) (ev_some ?_)))
    rw [w64s (by omega), rd_nat, dropr_all _ _ 0 c (by omega)]
    refine ev_ite (fun hin => ?_) (fun hin => ?_)
    · rw [hin, Bool.true_and]; exact ih
    · rw [(by simpa using hin : inS S.length (row.getD c 0) = false)]; exact Ev.now _
theorem impl_rows_loop : ∀ (n i : Nat), i + n = S.length → Ev (fun k => impl_IsAutomaton.l0 k S (S.length : Int) (i : Int) st S g) ((S.drop i).all (rowOk S.length) && goodFrom S.length g g.length 0)
  | 0, i, hi => by
    refine Ev.step (fun k => by rw [impl_IsAutomaton.l0]) ?_
    rw [List.drop_of_length_le (by omega)]
    exact ev_neg (by omega) (impl_good_loop hs h9 h1 g.length 0 (by omega))
  | n + 1, i, hi => by
    have ih := impl_rows_loop n (i + 1) (by omega)
    refine Ev.step (fun k => by rw [impl_IsAutomaton.l0]) ?_
    rw [rdL_nat, dropr_all _ _ [] i (by omega)]
    refine ev_pos (by omega) (ev_pos (by omega) (ev_pos (by omega) (ev_ite (fun hx => ?_) (fun hx => ?_))))
    · have := impl_row_loop hs h9 h1 (by omega) (S.getD i []) (by omega) ih S.length 0 (by omega)
      rw [List.drop_zero] at this
      have e : rowOk S.length (S.getD i []) = (S.getD i []).all (inS S.length) := by unfold rowOk; rw [decide_eq_true (by omega), Bool.true_and]
      rw [e, Bool.and_assoc]
      exact this
    · have e : rowOk S.length (S.getD i []) = false := by unfold rowOk; rw [decide_eq_false (by omega), Bool.false_and]
      rw [e]; exact Ev.now _
end
theorem spec_l06Is_ev {S : List (List Int)} {g : List Int} (hs : SmallA S g) (st : Int) : Ev (fun k => spec_l06Is.f k st S g) (isAutM st S g) := by
  have hr := hs.rows
  unfold spec_l06Is.f isAutM
  simp only [l01In_eq]
  refine ev_some ?_
  by_cases hm : 1 ≤ S.length ∧ S.length ≤ 9
  · rw [decide_eq_true hm.1, decide_eq_true hm.2, decide_eq_true (by omega), decide_eq_true (by omega), Bool.true_and, Bool.true_and]
    refine ev_pos rfl (ev_some ?_)
    rw [w64 (x := (S.length : Int) - 1) (by omega) (by omega)]
    have e : (decide (0 ≤ st) && decide (st ≤ (S.length : Int) - 1)) = inS S.length st := by
      unfold inS; congr 1; exact decide_eq_decide.mpr (by omega)
    rw [e]
    refine Ev.step (fun k => by rw [spec_l06Is.j0]) ?_
    cases hst : inS S.length st with
    | false => exact ev_pos rfl (Ev.now _)
    | true =>
      refine ev_neg (by decide) ?_
      have := spec_rows_loop (st := st) hs hm.2 hm.1 S.length 0 (by omega)
      simpa using this
  · refine ev_neg (by rw [Bool.and_eq_true, decide_eq_true_eq, decide_eq_true_eq]; omega) ?_
    refine Ev.step (fun k => by rw [spec_l06Is.j0]) ?_
    refine ev_pos rfl (ev_now ?_)
    have : (decide (1 ≤ S.length) && decide (S.length ≤ 9)) = false := by rw [← Bool.not_eq_true, Bool.and_eq_true, decide_eq_true_eq, decide_eq_true_eq]; exact hm
    rw [this]; rfl
theorem impl_IsAutomaton_ev {S : List (List Int)} {g : List Int} (hs : SmallA S g) (st : Int) : Ev (fun k => impl_IsAutomaton.f k st S g) (isAutM st S g) := by
  have hr := hs.rows
  unfold impl_IsAutomaton.f isAutM
  refine ev_ite (fun h1 => ?_) (fun h1 => ?_)
  · refine Ev.step (fun k => by rw [impl_IsAutomaton.j0]) ?_
    rw [decide_eq_false (p := 1 ≤ S.length) (by omega)]
    exact ev_pos rfl (Ev.now _)
  · refine ev_ite (fun h9 => ?_) (fun h9 => ?_)
    · refine Ev.step (fun k => by rw [impl_IsAutomaton.j0]) ?_
      rw [decide_eq_false (p := S.length ≤ 9) (by omega), Bool.and_false]
      exact ev_pos rfl (Ev.now _)
    · rw [isState_ev hs (by omega) (by omega), decide_eq_true (p := 1 ≤ S.length) (by omega), decide_eq_true (p := S.length ≤ 9) (by omega), Bool.true_and, Bool.true_and]
      refine ev_some ?_
      refine Ev.step (fun k => by rw [impl_IsAutomaton.j0]) ?_
      cases hst : inS S.length st with
      | false => exact ev_pos rfl (Ev.now _)
      | true =>
        refine ev_neg (by decide) ?_
        have := impl_rows_loop (st := st) hs (by omega) (by omega) S.length 0 (by omega)
        simpa using this
end Go.Proofs.YtbecakjoccegaaaDoor.E
