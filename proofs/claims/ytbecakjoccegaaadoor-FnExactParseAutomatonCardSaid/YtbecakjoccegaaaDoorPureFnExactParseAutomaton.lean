/- The law FnExactParseAutomaton holds for all texts: the program's ParseAutomaton gives what the reference gives. No condition beside those of the given statement. -/
import Derived.Test.YtbecakjoccegaaaDoorCut
import Derived.Test.YtbecakjoccegaaaDoorMark
import Derived.Test.YtbecakjoccegaaaDoorEx1
import Derived.Test.YtbecakjoccegaaaDoorEx2
import Derived.Test.YtbecakjoccegaaaDoorEx3
import Derived.Test.YtbecakjoccegaaaDoorEx4
namespace Go.Proofs.YtbecakjoccegaaaDoor.E
set_option linter.unusedVariables false
set_option linter.unusedSectionVars false
open Go.RowKit Go.Proofs.YtbecakjoccegaaaDoorW.PrintWords Go.Proofs.YtbecakjoccegaaaDoor.Base Go.Proofs.YtbecakjoccegaaaDoor.Auto

/-- What both sides give for an automaton that is read: it, or nothing. -/
def given_ (st : Int) (S : List (List Int)) (g : List Int) (b : Bool) : Int × List (List Int) × List Int × Int := if b = true then (st, S, g, 0) else (0, [], [], 6)
theorem given_false (st : Int) (S : List (List Int)) (g : List Int) : given_ st S g false = (0, [], [], 6) := rfl
theorem given_true (st : Int) (S : List (List Int)) (g : List Int) : given_ st S g true = (st, S, g, 0) := rfl
theorem rdB_nat (l : List ByteArray) (i : Nat) : rdOf ByteArray.empty l (i : Int) = l.getD i ByteArray.empty := rfl
theorem sumB_ge : ∀ (l : List ByteArray) (i : Nat), i < l.length → (l.getD i ByteArray.empty).size ≤ sumB l
  | x :: l, 0, _ => by simp [sumB]
  | x :: l, i + 1, h => by
    have := sumB_ge l i (by simpa using h)
    simp only [List.getD_cons_succ, sumB]; omega
theorem sumB_le (b : Nat) : ∀ (l : List ByteArray), (∀ i, i < l.length → (l.getD i ByteArray.empty).size ≤ b) → sumB l ≤ b * l.length
  | [], _ => by simp [sumB]
  | x :: l, h => by
    have h0 := h 0 (by simp)
    have ih := sumB_le b l (fun i hi => by simpa using h (i + 1) (by simpa using hi))
    simp only [sumB, List.length_cons, List.getD_cons_zero, Nat.mul_add] at *
    omega
theorem rows_getD (R : List ByteArray) {i : Nat} (h : i < R.length) : (R.map digs).getD i [] = digs (R.getD i ByteArray.empty) := by
  rw [List.getD_eq_getElem?_getD, List.getElem?_map, List.getElem?_eq_getElem h, List.getD_eq_getElem?_getD, List.getElem?_eq_getElem h]
  rfl
theorem take_rows (R : List ByteArray) {i : Nat} (h : i < R.length) : (R.map digs).take i ++ [digs (R.getD i ByteArray.empty)] = (R.map digs).take (i + 1) := by
  rw [← rows_getD R h, List.getD_eq_getElem?_getD, List.getElem?_eq_getElem (by simpa using h), List.take_add_one, List.getElem?_eq_getElem (by simpa using h)]
  rfl
section
variable (R : List ByteArray) (st : Int) (g : List Int) (hs : SmallA (R.map digs) g) (hb : ∀ i, i < R.length → (R.getD i ByteArray.empty).size ≤ 1048576)
include hs hb
theorem spec_rows : ∀ (m i : Nat), i + m = R.length →
    Ev (fun k => spec_ParseAutomaton.l0 k R (i : Int) st ((R.map digs).take i) g) (given_ st (R.map digs) g ((R.drop i).all allD && isAutM st (R.map digs) g))
  | 0, i, hi => by
    have hl := hs.rows
    refine Ev.step (fun k => by rw [spec_ParseAutomaton.l0]) ?_
    rw [List.drop_of_length_le (by omega), show (R.map digs).take i = R.map digs from List.take_of_length_le (by simp; omega), List.all_nil, Bool.true_and]
    refine ev_neg (by omega) (Ev.bind (spec_l06Is_ev hs st) (ev_ite (fun h => ?_) (fun h => ?_)))
    · rw [h, given_true]; exact Ev.now _
    · rw [Bool.eq_false_iff.2 h, given_false]; exact Ev.now _
  | m + 1, i, hi => by
    have hl := hs.rows
    rw [List.length_map] at hl
    have ih := spec_rows m (i + 1) (by omega)
    refine Ev.step (fun k => by rw [spec_ParseAutomaton.l0]) ?_
    rw [rdB_nat, dropr_all _ _ ByteArray.empty i (by omega), w64s (by omega)]
    refine ev_pos (by omega) (ev_pos (by omega) (Ev.bind (l06Read_ev _ (hb i (by omega))) ?_))
    by_cases ha : allD (R.getD i ByteArray.empty) = true
    · rw [if_pos ha]
      have ht := take_rows R (i := i) (by omega)
      simp only [ht]
      rw [ha, Bool.true_and]
      exact ev_pos (by trivial) (ev_pos (by simp; omega) ih)
    · rw [if_neg ha, Bool.eq_false_iff.2 ha, Bool.false_and, Bool.false_and, given_false]
      exact ev_neg (by simp) (Ev.now _)
theorem impl_rows : ∀ (m i : Nat), i + m = R.length →
    Ev (fun k => impl_ParseAutomaton.l0 k R (R.length : Int) (i : Int) st ((R.map digs).take i) g) (given_ st (R.map digs) g (isAutM st (R.map digs) g))
  | 0, i, hi => by
    have hl := hs.rows
    refine Ev.step (fun k => by rw [impl_ParseAutomaton.l0]) ?_
    rw [show (R.map digs).take i = R.map digs from List.take_of_length_le (by simp; omega)]
    refine ev_neg (by omega) (Ev.bind (impl_IsAutomaton_ev hs st) (ev_ite (fun h => ?_) (fun h => ?_)))
    · rw [h, given_true]; exact Ev.now _
    · rw [Bool.eq_false_iff.2 h, given_false]; exact Ev.now _
  | m + 1, i, hi => by
    have hl := hs.rows
    rw [List.length_map] at hl
    have ih := impl_rows m (i + 1) (by omega)
    refine Ev.step (fun k => by rw [impl_ParseAutomaton.l0]) ?_
    rw [rdB_nat, w64s (by omega)]
    have ht := take_rows R (i := i) (by omega)
    refine ev_pos (by omega) (ev_pos (by omega) (ev_pos (by omega) (Ev.bind (digitsOf_ev _ (hb i (by omega))) ?_)))
    simp only [ht]
    exact ev_pos (by simp; omega) ih
end
/-- Whatever is an automaton has digits alone. -/
theorem aut_digits {p0 p2 : ByteArray} {R : List ByteArray} (h0 : p0.size = 1) (hA : IsA ((digs p0).getD 0 0) (R.map digs) (digs p2)) : allD p0 = true ∧ allD p2 = true ∧ R.all allD = true := by
  refine ⟨allD_of p0 (fun i hi => ?_), allD_of p2 (fun i hi => (hA.good i (by rw [digs_length]; exact hi)).1), ?_⟩
  · obtain rfl : i = 0 := by omega
    exact hA.start.1
  · rw [List.all_eq_true]
    intro x hx
    obtain ⟨i, hi, rfl⟩ := List.getElem_of_mem hx
    have hi' : i < (R.map digs).length := by simpa using hi
    have hr := hA.row i hi'
    have hg := rows_getD R hi
    rw [show R[i] = R.getD i ByteArray.empty by rw [List.getD_eq_getElem?_getD, List.getElem?_eq_getElem hi]; rfl]
    refine allD_of _ (fun j hj => ?_)
    rw [hg, digs_length] at hr
    rw [← hg]
    exact (hA.step i j hi' (by omega)).1
/-- The good states ascend: there are no more of them than states. -/
theorem good_few {st : Int} {S : List (List Int)} {g : List Int} (hA : IsA st S g) : g.length ≤ S.length := by
  have h : ∀ i, i < g.length → (i : Int) ≤ g.getD i 0 := by
    intro i
    induction i with
    | zero => exact fun hi => (hA.good 0 hi).1
    | succ i ih =>
      intro hi
      have h1 := ih (by omega)
      have h2 := hA.asc (i + 1) (by omega) hi
      rw [Nat.add_sub_cancel] at h2
      omega
  rcases Nat.eq_zero_or_pos g.length with h0 | h0
  · omega
  · have h1 := h (g.length - 1) (by omega)
    have h2 := (hA.good (g.length - 1) (by omega)).2
    omega
theorem both_Parse (a0 : ByteArray) (hn : a0.size ≤ 1048576) : ∃ r : Int × List (List Int) × List Int × Int, SmallA r.2.1 r.2.2.1 ∧ Ev (fun k => spec_ParseAutomaton.f k a0) r ∧ Ev (fun k => impl_ParseAutomaton.f k a0) r := by
  have hsum := cut_sizes 58 a0
  have e1 : Ev (fun k => spec_l01Split.f k a0 58) (cut 58 a0) := l01Split_ev a0 58 hn
  have e2 := strings_Split_eq a0 58 hn
  have hnil : SmallA ([] : List (List Int)) [] := ⟨by simp, fun j hj => by simp at hj, by simp⟩
  have bad : Ev (fun k => spec_ParseAutomaton.j0 k (cut 58 a0) true) (0, [], [], 6) := by
    refine Ev.step (fun k => by rw [spec_ParseAutomaton.j0]) ?_
    exact ev_pos rfl (Ev.now _)
  have bad' : Ev (fun k => impl_ParseAutomaton.j0 k (cut 58 a0) true) (0, [], [], 6) := by
    refine Ev.step (fun k => by rw [impl_ParseAutomaton.j0]) ?_
    exact ev_pos rfl (Ev.now _)
  unfold spec_ParseAutomaton.f impl_ParseAutomaton.f
  change ∃ r : Int × List (List Int) × List Int × Int, SmallA r.2.1 r.2.2.1 ∧ _ ∧ Ev (fun k => (strings_Split.f a0 (one 58)).bind _) r
  simp only [e2, Option.bind_some]
  by_cases h3 : (cut 58 a0).length = 3
  rotate_left
  · exact ⟨(0, [], [], 6), hnil, Ev.bind e1 (ev_neg (by omega) bad), ev_ite (fun _ => bad') (fun _ => ev_neg (by omega) bad')⟩
  obtain ⟨p0, p1, p2, hP⟩ : ∃ p0 p1 p2, cut 58 a0 = [p0, p1, p2] := by
    match hc : cut 58 a0, h3 with
    | [p0, p1, p2], _ => exact ⟨p0, p1, p2, rfl⟩
  rw [hP] at bad bad' hsum
  have hs3 : p0.size + (p1.size + (p2.size + 0)) + 3 = a0.size + 1 := hsum
  have r0 : rdOf ByteArray.empty [p0, p1, p2] 0 = p0 := rfl
  have r1 : rdOf ByteArray.empty [p0, p1, p2] 1 = p1 := rfl
  have r2 : rdOf ByteArray.empty [p0, p1, p2] 2 = p2 := rfl
  rw [hP] at e1
  simp only [hP]
  by_cases h1 : p0.size = 1
  rotate_left
  · have hb : ((p0.size : Int) != 1) = true := by rw [bne_iff_ne]; omega
    refine ⟨(0, [], [], 6), hnil, Ev.bind e1 (ev_pos rfl (ev_pos (by simp) ?_)), ev_ite (fun _ => bad') (fun _ => ev_pos rfl (ev_pos (by simp) ?_))⟩
    · rw [r0, hb]; exact bad
    · rw [r0, hb]; exact bad'
  have hb : ((p0.size : Int) != 1) = false := by rw [bne_eq_false_iff_eq]; omega
  have hrs := cut_sizes 47 p1
  have hbR : ∀ i, i < (cut 47 p1).length → ((cut 47 p1).getD i ByteArray.empty).size ≤ 1048576 := fun i hi => by
    have := sumB_ge (cut 47 p1) i hi
    omega
  have hs : SmallA ((cut 47 p1).map digs) (digs p2) := ⟨by rw [List.length_map]; omega, fun j hj => by
    rw [List.length_map] at hj
    rw [rows_getD _ hj, digs_length]
    exact hbR j hj, by rw [digs_length]; omega⟩
  have q1 : Ev (fun k => spec_l01Split.f k p1 47) (cut 47 p1) := l01Split_ev p1 47 (by omega)
  have q2 := strings_Split_eq p1 47 (by omega)
  have sr := spec_rows (cut 47 p1) ((digs p0).getD 0 0) (digs p2) hs hbR (cut 47 p1).length 0 (by omega)
  have ir := impl_rows (cut 47 p1) ((digs p0).getD 0 0) (digs p2) hs hbR (cut 47 p1).length 0 (by omega)
  rw [List.take_zero, List.drop_zero] at sr
  rw [List.take_zero] at ir
  have l0 : (digs p0).length = 1 := by rw [digs_length, h1]
  -- the reference's
  have hspec : Ev (fun k => spec_ParseAutomaton.j0 k [p0, p1, p2] false) (given_ ((digs p0).getD 0 0) ((cut 47 p1).map digs) (digs p2) ((allD p0 && (allD p2 && (cut 47 p1).all allD)) && isAutM ((digs p0).getD 0 0) ((cut 47 p1).map digs) (digs p2))) := by
    have badj : ∀ (x y : List Int), Ev (fun k => spec_ParseAutomaton.j1 k [p0, p1, p2] x y true) (0, [], [], 6) := fun x y => by
      refine Ev.step (fun k => by rw [spec_ParseAutomaton.j1]) ?_
      exact ev_pos rfl (Ev.now _)
    refine Ev.step (fun k => by rw [spec_ParseAutomaton.j0]) ?_
    rw [r0, r2]
    refine ev_neg (by decide) (ev_pos (by simp) (Ev.bind (l06Read_ev p0 (by omega)) (ev_pos (by simp) (Ev.bind (l06Read_ev p2 (by omega)) ?_))))
    by_cases a0_ : allD p0 = true
    · rw [if_pos a0_, a0_, Bool.true_and]
      refine ev_pos rfl ?_
      by_cases a2_ : allD p2 = true
      · rw [if_pos a2_, a2_, Bool.true_and]
        refine Ev.step (fun k => by rw [spec_ParseAutomaton.j1]) ?_
        rw [r1]
        refine ev_neg (by simp) (ev_pos (by rw [l0]; decide) (ev_pos (by simp) (Ev.bind q1 ?_)))
        exact sr
      · rw [if_neg a2_, Bool.eq_false_iff.2 a2_, Bool.false_and, Bool.false_and, given_false]
        exact badj _ _
    · rw [if_neg a0_, Bool.eq_false_iff.2 a0_, Bool.false_and, Bool.false_and, given_false]
      refine ev_neg (by decide) (badj _ _)
  have himpl : Ev (fun k => impl_ParseAutomaton.j0 k [p0, p1, p2] false) (given_ ((digs p0).getD 0 0) ((cut 47 p1).map digs) (digs p2) (isAutM ((digs p0).getD 0 0) ((cut 47 p1).map digs) (digs p2))) := by
    refine Ev.step (fun k => by rw [impl_ParseAutomaton.j0]) ?_
    rw [r0, r2, r1]
    have q3 : strings_Split.f p1 (⟨#[47]⟩ : ByteArray) = some (cut 47 p1) := q2
    simp only [q3, Option.bind_some]
    refine ev_neg (by decide) (ev_pos (by simp) (Ev.bind (digitsOf_ev p0 (by omega)) (ev_pos (by rw [l0]; decide) (ev_pos (by simp) (Ev.bind (digitsOf_ev p2 (by omega)) (ev_pos (by simp) ?_))))))
    exact ir
  cases hc : isAutM ((digs p0).getD 0 0) ((cut 47 p1).map digs) (digs p2) with
  | false =>
    rw [hc, Bool.and_false, given_false] at hspec
    rw [hc, given_false] at himpl
    refine ⟨(0, [], [], 6), hnil, Ev.bind e1 (ev_pos rfl (ev_pos (by simp) ?_)), ev_ite (fun _ => bad') (fun _ => ev_pos rfl (ev_pos (by simp) ?_))⟩
    · rw [r0, hb]; exact hspec
    · rw [r0, hb]; exact himpl
  | true =>
    have hA := isAutM_sound hc
    obtain ⟨d0, d2, d1⟩ := aut_digits h1 hA
    rw [hc, d0, d2, d1, Bool.and_self, Bool.and_self, Bool.and_self, given_true] at hspec
    rw [hc, given_true] at himpl
    have h9 := hA.nine
    have hf := good_few hA
    rw [digs_length, List.length_map] at hf
    rw [List.length_map] at h9
    have hrow : sumB (cut 47 p1) ≤ 9 * (cut 47 p1).length := sumB_le 9 _ (fun i hi => by
      have hr := hA.row i (by rw [List.length_map]; exact hi)
      rw [rows_getD _ hi, digs_length, List.length_map] at hr
      omega)
    have hsz : a0.size ≤ 200 := by omega
    refine ⟨((digs p0).getD 0 0, (cut 47 p1).map digs, digs p2, 0), hs, Ev.bind e1 (ev_pos rfl (ev_pos (by simp) ?_)), ev_neg (by omega) (ev_pos rfl (ev_pos (by simp) ?_))⟩
    · rw [r0, hb]; exact hspec
    · rw [r0, hb]; exact himpl
end Go.Proofs.YtbecakjoccegaaaDoor.E
namespace Go.Proofs.YtbecakjoccegaaaDoor.Pure
open Go.RowKit Go.Proofs.YtbecakjoccegaaaDoorW.PrintWords Go.Proofs.YtbecakjoccegaaaDoor.Base Go.Proofs.YtbecakjoccegaaaDoor.Auto Go.Proofs.YtbecakjoccegaaaDoor.E
theorem FnExactParseAutomaton : ∀ (a0 : ByteArray), True → ∃ k, laws_FnExactParseAutomaton.f k a0 = some true := by
  intro a0 _
  apply Ev.rounds
  unfold laws_FnExactParseAutomaton.f
  refine ev_ite (fun _ => Ev.now _) (fun hsz => ?_)
  obtain ⟨⟨a, R, b, c⟩, hq, q1, q2⟩ := both_Parse a0 (by omega)
  have hq' : SmallA R b := hq
  refine Ev.bind q1 (Ev.bind q2 (Ev.bind (eqA_ev hq' a) (ev_pos rfl ?_)))
  refine Ev.step (fun k => by rw [laws_FnExactParseAutomaton.j0]) ?_
  refine ev_neg (by simp) (Ev.bind (markA_ev hq' a (by decide) (by decide)) (Ev.bind (heldA_ev hq' a (by decide) (by decide)) (ev_neg (by omega) (ev_pos rfl (Ev.bind q2 (Ev.bind (eqA_ev hq' a) (ev_pos rfl ?_)))))))
  refine Ev.step (fun k => by rw [laws_FnExactParseAutomaton.j1]) ?_
  refine ev_neg (by simp) ?_
  exact Ev.bind (heldA_ev hq' a (by decide) (by decide)) (ev_neg (by omega) (ev_pos rfl (Ev.now _)))
end Go.Proofs.YtbecakjoccegaaaDoor.Pure
