/- MeetOfBinary on both sides, and its law: the program's MeetOfBinary gives what the reference gives, for all arguments. No condition beside those of the given statement. -/
import Derived.Test.YtgbhlmmmighanaaBinEv
import Derived.Test.YtgbhlmmmighanaaLists
import Derived.Test.YtgbhlmmmighanaaEx16
namespace Go.Proofs.Ytgbhlmmmighanaa.E
set_option linter.unusedVariables false
set_option linter.unusedSectionVars false
open Go.RowKit Go.Proofs.YtgbhlmmmighanaaW.PrintWords Go.Proofs.YtgbhlmmmighanaaW.PrintMore Go.Proofs.Ytgbhlmmmighanaa.Base Go.Proofs.Ytgbhlmmmighanaa.Bin

theorem leaf_textM : (B (enc .leaf)).toList = ([48] : List UInt8) := by rw [toList_B]; rfl
theorem node_textM (l r : BT) : ¬ (B (enc (.node l r))).toList = ([48] : List UInt8) := by rw [toList_B]; simp [enc]
theorem spec_vector_ev : ∀ t : BT, nodes t ≤ 1000 → Ev (fun k => spec_l03Vector.f k (B (enc t))) (vec t)
  | .leaf, _ => by
    refine Ev.step (fun k => by rw [spec_l03Vector.f]) ?_
    exact ev_pos leaf_textM (Ev.now _)
  | .node l r, h => by
    simp only [nodes] at h
    have h1 := vec_length l
    have h2 := vec_length r
    refine Ev.step (fun k => by rw [spec_l03Vector.f]) ?_
    refine ev_neg (node_textM l r) (Ev.bind (spec_l03Sides_ev l r (by omega)) (Ev.bind (spec_vector_ev l (by omega)) ?_))
    simp only [l03N_ev r (by omega)]
    refine ev_some (ev_pos (by omega) (ev_some (Ev.bind (spec_vector_ev r (by omega)) (ev_pos (by simp; omega) (ev_now ?_)))))
    simp [vec]
theorem impl_vector_ev : ∀ t : BT, nodes t ≤ 1000 → Ev (fun k => impl_vector.f k (B (enc t))) (vec t)
  | .leaf, _ => by
    refine Ev.step (fun k => by rw [impl_vector.f]) ?_
    exact ev_pos leaf_textM (Ev.now _)
  | .node l r, h => by
    simp only [nodes] at h
    have h1 := vec_length l
    have h2 := vec_length r
    refine Ev.step (fun k => by rw [impl_vector.f]) ?_
    refine ev_neg (node_textM l r) (Ev.bind (impl_sides_ev l r (by omega)) (Ev.bind (impl_vector_ev l (by omega)) ?_))
    simp only [nodesOf_ev r (by omega)]
    refine ev_some (Ev.bind (impl_vector_ev r (by omega)) (Ev.bind (slices_Concat_ev _ (by simp) (by simp; omega)) (ev_now ?_)))
    simp [vec]
theorem B_litM (l : List UInt8) : (⟨#[49]⟩ : ByteArray) ++ B l = B (49 :: l) := B_append [49] l
def bOf (x : List UInt8 × Bool) : ByteArray × Bool := (B x.1, x.2)
theorem spec_of_loop {l : List Int} {f : Nat} (hl : l.length ≤ 1000) (hf : l.length ≤ f + 1) (ih : ∀ x : List Int, x.length ≤ f → x.length ≤ 1000 → Ev (fun k => spec_l03Of.f k x) (bOf (ofV f x))) :
    ∀ (m i : Nat), i + m = l.length → Ev (fun k => spec_l03Of.l0 k l (i : Int)) (bOf (match firstR l m i with
      | none => ([], false)
      | some i => (49 :: ((ofV f (l.take i)).1 ++ (ofV f (l.drop (i + 1))).1), (ofV f (l.take i)).2 && (ofV f (l.drop (i + 1))).2)))
  | 0, i, hi => by
    refine Ev.step (fun k => by rw [spec_l03Of.l0]) ?_
    exact ev_neg (by omega) (Ev.now _)
  | m + 1, i, hi => by
    have h1 := ofV_length f (l.take i) (by simp; omega)
    have h2 := ofV_length f (l.drop (i + 1)) (by simp; omega)
    simp only [List.length_take, List.length_drop] at h1 h2
    refine Ev.step (fun k => by rw [spec_l03Of.l0]) ?_
    rw [w64 (x := (l.length : Int) - 1) (by omega) (by omega), w64 (x := (l.length : Int) - 1 - i) (by omega) (by omega), w64s (by omega), rd_nat]
    simp only [firstR]
    refine ev_pos (by omega) (ev_pos (by omega) (ev_ite (fun hx => ?_) (fun hx => ?_)))
    · rw [if_pos hx]
      refine ev_pos (by omega) (Ev.bind (ih (l.take i) (by simp; omega) (by simp; omega)) (ev_pos (by omega) (ev_pos (by omega) (Ev.bind (ih (l.drop (i + 1)) (by simp; omega) (by simp; omega)) ?_))))
      simp only [bOf, B_litM, B_append, B_size]
      refine ev_pos (by omega) (ev_pos (by simp only [List.length_cons]; omega) ?_)
      cases (ofV f (l.take i)).2 with
      | true => exact ev_pos rfl (ev_now (by simp))
      | false => exact ev_neg (by decide) (ev_now (by simp))
    · rw [if_neg hx]
      exact spec_of_loop hl hf ih m (i + 1) (by omega)
theorem spec_l03Of_ev : ∀ (f : Nat) (l : List Int), l.length ≤ f → l.length ≤ 1000 → Ev (fun k => spec_l03Of.f k l) (bOf (ofV f l))
  | 0, l, hf, hl => by
    refine Ev.step (fun k => by rw [spec_l03Of.f]) ?_
    exact ev_pos (by omega) (Ev.now _)
  | f + 1, l, hf, hl => by
    refine Ev.step (fun k => by rw [spec_l03Of.f]) ?_
    simp only [ofV]
    refine ev_ite (fun hx => ?_) (fun hx => ?_)
    · rw [if_pos (by omega)]; exact Ev.now _
    · rw [if_neg (by omega)]
      exact spec_of_loop hl hf (fun x h1 h2 => spec_l03Of_ev f x h1 h2) l.length 0 (by omega)
theorem impl_of_loop {l : List Int} {f : Nat} (hl : l.length ≤ 1000) (hf : l.length ≤ f + 1) (ih : ∀ x : List Int, x.length ≤ f → x.length ≤ 1000 → Ev (fun k => impl_binaryOfVector.f k x) (bOf (ofV f x))) :
    ∀ (m i : Nat), i + m = l.length → Ev (fun k => impl_binaryOfVector.l0 k l l (l.length : Int) (i : Int)) (bOf (match firstR l m i with
      | none => ([], false)
      | some i => (49 :: ((ofV f (l.take i)).1 ++ (ofV f (l.drop (i + 1))).1), (ofV f (l.take i)).2 && (ofV f (l.drop (i + 1))).2)))
  | 0, i, hi => by
    refine Ev.step (fun k => by rw [impl_binaryOfVector.l0]) ?_
    exact ev_neg (by omega) (Ev.now _)
  | m + 1, i, hi => by
    have h1 := ofV_length f (l.take i) (by simp; omega)
    have h2 := ofV_length f (l.drop (i + 1)) (by simp; omega)
    simp only [List.length_take, List.length_drop] at h1 h2
    refine Ev.step (fun k => by rw [impl_binaryOfVector.l0]) ?_
    rw [w64 (x := (l.length : Int) - 1) (by omega) (by omega), w64 (x := (l.length : Int) - 1 - i) (by omega) (by omega), w64s (by omega), rd_nat]
    simp only [firstR]
    refine ev_pos (by omega) (ev_pos (by omega) (ev_pos (by omega) (ev_ite (fun hx => ?_) (fun hx => ?_))))
    · rw [if_pos hx]
      refine ev_pos (by omega) (Ev.bind (ih (l.take i) (by simp; omega) (by simp; omega)) (ev_pos (by omega) (ev_pos (by omega) (Ev.bind (ih (l.drop (i + 1)) (by simp; omega) (by simp; omega)) ?_))))
      simp only [bOf, B_litM, B_append, B_size]
      refine ev_pos (by omega) (ev_pos (by simp only [List.length_cons]; omega) ?_)
      cases (ofV f (l.take i)).2 with
      | true => exact ev_pos rfl (ev_now (by simp))
      | false => exact ev_neg (by decide) (ev_now (by simp))
    · rw [if_neg hx]
      exact impl_of_loop hl hf ih m (i + 1) (by omega)
theorem impl_of_ev : ∀ (f : Nat) (l : List Int), l.length ≤ f → l.length ≤ 1000 → Ev (fun k => impl_binaryOfVector.f k l) (bOf (ofV f l))
  | 0, l, hf, hl => by
    refine Ev.step (fun k => by rw [impl_binaryOfVector.f]) ?_
    exact ev_pos (by omega) (Ev.now _)
  | f + 1, l, hf, hl => by
    refine Ev.step (fun k => by rw [impl_binaryOfVector.f]) ?_
    simp only [ofV]
    refine ev_ite (fun hx => ?_) (fun hx => ?_)
    · rw [if_pos (by omega)]; exact Ev.now _
    · rw [if_neg (by omega)]
      exact impl_of_loop hl hf (fun x h1 h2 => impl_of_ev f x h1 h2) l.length 0 (by omega)
/-- The lesser ones, place by place, from i on. -/
def mnFrom (b : List Int) : Nat → Nat → List Int → List Int
  | 0, _, a => a
  | m + 1, i, a => mnFrom b m (i + 1) (a.set i (mn (a.getD i 0) (b.getD i 0)))
theorem mnFrom_length (b : List Int) : ∀ m i a, (mnFrom b m i a).length = a.length
  | 0, _, a => rfl
  | m + 1, i, a => by simp only [mnFrom]; rw [mnFrom_length b m (i + 1)]; simp
theorem spec_meet_in (b : List Int) (n : Nat) (hn : n ≤ 1000) (hb : b.length = n) : ∀ (m i : Nat) (a : List Int), i + m = n → a.length = n → Ev (fun k => spec_MeetOfBinary.l0 k a b (i : Int)) (B (ofV n (mnFrom b m i a)).1, 0)
  | 0, i, a, hi, ha => by
    refine Ev.step (fun k => by rw [spec_MeetOfBinary.l0]) ?_
    exact ev_neg (by omega) (Ev.bind (spec_l03Of_ev n a (by omega) (by omega)) (Ev.now _))
  | m + 1, i, a, hi, ha => by
    refine Ev.step (fun k => by rw [spec_MeetOfBinary.l0]) ?_
    refine ev_pos (by omega) (ev_pos (by omega) (ev_pos (by omega) ?_))
    rw [w64s (by omega)]
    exact spec_meet_in b n hn hb m (i + 1) _ (by omega) (by simpa using ha)
theorem impl_meet_in (b : List Int) (n : Nat) (hn : n ≤ 1000) (hb : b.length = n) : ∀ (m i : Nat) (a : List Int), i + m = n → a.length = n → Ev (fun k => impl_MeetOfBinary.l0 k a b (n : Int) (i : Int)) (B (ofV n (mnFrom b m i a)).1, 0)
  | 0, i, a, hi, ha => by
    refine Ev.step (fun k => by rw [impl_MeetOfBinary.l0]) ?_
    exact ev_neg (by omega) (Ev.bind (impl_of_ev n a (by omega) (by omega)) (Ev.now _))
  | m + 1, i, a, hi, ha => by
    refine Ev.step (fun k => by rw [impl_MeetOfBinary.l0]) ?_
    refine ev_pos (by omega) (ev_pos (by omega) (ev_pos (by omega) (ev_pos (by omega) ?_)))
    rw [w64s (by omega)]
    exact impl_meet_in b n hn hb m (i + 1) _ (by omega) (by simpa using ha)
/-- The code of two texts. -/
def twoM (w u : List UInt8) : Int := if isBin w = true ∧ isBin u = true then (if w.length = u.length then 0 else 2) else 1
theorem spec_both_ev (w u : List UInt8) : Ev (fun k => spec_l03Both.f k (B w) (B u)) (twoM w u) := by
  unfold spec_l03Both.f twoM
  refine Ev.bind (spec_l03Is_ev w) (ev_ite (fun hw => Ev.bind (spec_l03Is_ev u) ?_) (fun hw => ?_))
  · refine Ev.step (fun k => by rw [spec_l03Both.j0]) ?_
    cases hu : isBin u with
    | true =>
      rw [if_pos (show isBin w = true ∧ true = true from ⟨hw, rfl⟩)]
      simp only [B_size]
      refine ev_neg (by decide) (ev_ite (fun hx => ?_) (fun hx => ?_))
      · rw [if_pos (by omega)]; exact Ev.now _
      · rw [if_neg (by omega)]; exact Ev.now _
    | false =>
      rw [if_neg (show ¬ (isBin w = true ∧ false = true) by simp)]
      exact ev_pos rfl (Ev.now _)
  · refine Ev.step (fun k => by rw [spec_l03Both.j0]) ?_
    rw [if_neg (show ¬ (isBin w = true ∧ isBin u = true) from fun h => hw h.1)]
    exact ev_pos rfl (Ev.now _)
theorem rdOf_nat {α : Type} (d : α) (l : List α) (i : Nat) : rdOf d l (i : Int) = l.getD i d := rfl
theorem impl_two_ev (w u : List UInt8) : Ev (fun k => impl_twoCode.f k (B w) (B u)) (twoM w u) := by
  have ha : Ev (fun k => impl_areBinary.f k [B w, B u]) (isBin w && isBin u) := by
    have e1 : wrap64 ((0 : Int) + 1) = 1 := by unfold wrap64; decide
    have e2 : wrap64 ((1 : Int) + 1) = 2 := by unfold wrap64; decide
    unfold impl_areBinary.f
    refine Ev.step (fun k => by rw [impl_areBinary.l0]) ?_
    rw [e1]
    refine ev_pos (by simp) (ev_pos (by decide) (ev_pos (by simp) (Ev.bind (impl_IsBinary_ev w) (ev_ite (fun hw => ?_) (fun hw => ?_)))))
    · rw [hw, Bool.true_and]
      refine Ev.step (fun k => by rw [impl_areBinary.l0]) ?_
      rw [e2]
      refine ev_pos (by simp) (ev_pos (by decide) (ev_pos (by simp) (Ev.bind (impl_IsBinary_ev u) (ev_ite (fun hu => ?_) (fun hu => ?_)))))
      · rw [hu]
        refine Ev.step (fun k => by rw [impl_areBinary.l0]) ?_
        exact ev_neg (by simp) (Ev.now _)
      · rw [(by simpa using hu : isBin u = false)]; exact Ev.now _
    · rw [(by simpa using hw : isBin w = false)]; exact Ev.now _
  unfold impl_twoCode.f twoM
  refine Ev.bind ha (ev_ite (fun hx => ?_) (fun hx => ?_))
  · rw [if_pos (show isBin w = true ∧ isBin u = true by simpa using hx)]
    simp only [B_size]
    refine ev_ite (fun hx => ?_) (fun hx => ?_)
    · rw [if_pos (by omega)]; exact Ev.now _
    · rw [if_neg (by omega)]; exact Ev.now _
  · rw [if_neg (show ¬ (isBin w = true ∧ isBin u = true) by simpa using hx)]; exact Ev.now _
theorem both_MeetOfBinary (w u : List UInt8) : ∃ r : ByteArray × Int, Ev (fun k => spec_MeetOfBinary.f k (B w) (B u)) r ∧ Ev (fun k => impl_MeetOfBinary.f k (B w) (B u)) r := by
  by_cases hc : twoM w u = 0
  · have h3 : (isBin w = true ∧ isBin u = true) ∧ w.length = u.length := by
      unfold twoM at hc
      split at hc
      · rename_i h; split at hc
        · rename_i h2; exact ⟨h, h2⟩
        · cases hc
      · cases hc
    obtain ⟨⟨hw, hu⟩, hl⟩ := h3
    obtain ⟨t, rfl, ht⟩ := isBin_sound hw
    obtain ⟨s, rfl, hs⟩ := isBin_sound hu
    rw [enc_length, enc_length] at hl
    have v1 := vec_length t
    have v2 := vec_length s
    refine ⟨(B (ofV (nodes t) (mnFrom (vec s) (nodes t) 0 (vec t))).1, 0), ?_, ?_⟩
    · unfold spec_MeetOfBinary.f
      exact Ev.bind (spec_both_ev _ _) (ev_pos hc (Ev.bind (spec_vector_ev t (by omega)) (Ev.bind (spec_vector_ev s (by omega)) (spec_meet_in (vec s) (nodes t) (by omega) (by omega) (nodes t) 0 (vec t) (by omega) v1))))
    · unfold impl_MeetOfBinary.f
      refine Ev.bind (impl_two_ev _ _) (ev_pos hc (Ev.bind (impl_vector_ev t (by omega)) (Ev.bind (impl_vector_ev s (by omega)) ?_)))
      rw [v1]
      exact impl_meet_in (vec s) (nodes t) (by omega) (by omega) (nodes t) 0 (vec t) (by omega) v1
  · refine ⟨(B [], twoM w u), ?_, ?_⟩
    · unfold spec_MeetOfBinary.f
      exact Ev.bind (spec_both_ev _ _) (ev_neg hc (Ev.now _))
    · unfold impl_MeetOfBinary.f
      exact Ev.bind (impl_two_ev _ _) (ev_neg hc (Ev.now _))
end Go.Proofs.Ytgbhlmmmighanaa.E
namespace Go.Proofs.Ytgbhlmmmighanaa.Pure
open Go.RowKit Go.Proofs.YtgbhlmmmighanaaW.PrintWords Go.Proofs.Ytgbhlmmmighanaa.Base Go.Proofs.Ytgbhlmmmighanaa.Bin Go.Proofs.Ytgbhlmmmighanaa.E
theorem FnExactMeetOfBinary : ∀ (a0 a1 : ByteArray), a0.size ≤ maxLen → a1.size ≤ maxLen → ∃ k, laws_FnExactMeetOfBinary.f k a0 a1 = some true := by
  intro a0 a1 _ _
  obtain ⟨w, rfl⟩ := B_all a0
  obtain ⟨u, rfl⟩ := B_all a1
  obtain ⟨r, h1, h2⟩ := both_MeetOfBinary w u
  apply Ev.rounds
  unfold laws_FnExactMeetOfBinary.f
  refine ev_ite (fun _ => Ev.now _) (fun _ => ev_ite (fun _ => Ev.now _) (fun _ => ?_))
  exact Ev.bind h1 (Ev.bind h2 (ev_pos rfl (ev_pos rfl (Ev.now _))))
end Go.Proofs.Ytgbhlmmmighanaa.Pure
