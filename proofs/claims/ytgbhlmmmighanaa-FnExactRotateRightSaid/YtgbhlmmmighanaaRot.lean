/- Rotations of binary trees, on both sides. -/
import Derived.Test.YtgbhlmmmighanaaBinEv
import Derived.Test.YtgbhlmmmighanaaEx1
import Derived.Test.YtgbhlmmmighanaaEx6
import Derived.Test.YtgbhlmmmighanaaEx9
import Derived.Test.YtgbhlmmmighanaaEx13
import Derived.Test.YtgbhlmmmighanaaEx14
namespace Go.Proofs.Ytgbhlmmmighanaa.E
set_option linter.unusedVariables false
set_option linter.unusedSectionVars false
open Go.RowKit Go.Proofs.YtgbhlmmmighanaaW.PrintWords Go.Proofs.Ytgbhlmmmighanaa.Base Go.Proofs.Ytgbhlmmmighanaa.Bin

/-- A text with a node in it: what is ahead, the node's text, what is behind. -/
structure AtNode (w : List UInt8) (i : Nat) (p : List UInt8) (l r : BT) (s : List UInt8) : Prop where
  eq : w = p ++ (enc (.node l r) ++ s)
  ones : ones p = i
  few : w.length ≤ 1000
theorem AtNode.small {w p s : List UInt8} {i : Nat} {l r : BT} (h : AtNode w i p l r s) : p.length + (2 * nodes l + 2 * nodes r + 3) + s.length = w.length := by
  have := h.eq
  rw [this]
  simp only [List.length_append, enc_length, nodes]
  omega
theorem ones_le : ∀ (l : List UInt8), ones l ≤ l.length
  | [] => Nat.le_refl _
  | b :: l => by have := ones_le l; simp only [ones, List.length_cons]; split <;> omega
/-- The byte at a place of what is ahead. -/
theorem ahead_byte {w p s : List UInt8} {i : Nat} {l r : BT} (h : AtNode w i p l r s) {j : Nat} (hj : j < p.length) : bt (B w) (j : Int) = (p[j].toNat : Int) := by
  have := h.small
  rw [bt_B (by omega)]
  have e := h.eq
  congr 2
  subst e
  rw [List.getElem_append_left hj]
theorem node_byte {w p s : List UInt8} {i : Nat} {l r : BT} (h : AtNode w i p l r s) : bt (B w) (p.length : Int) = 49 := by
  have e := h.eq
  subst e
  simp only [enc, List.cons_append]
  rw [bt_at_app rfl]
  rfl
theorem ones_step {p : List UInt8} {j : Nat} (hj : j < p.length) : ones (p.drop j) = (if p[j] = 49 then 1 else 0) + ones (p.drop (j + 1)) := by
  rw [List.drop_eq_getElem_cons hj]; rfl
section
variable {w p s : List UInt8} {i : Nat} {l r : BT} (h : AtNode w i p l r s)
include h
theorem spec_place_loop : ∀ (m j : Nat), j + m = p.length → Ev (fun k => spec_l03Place.l0 k (B w) (ones (p.drop j) : Int) (j : Int)) (p.length : Int)
  | 0, j, hj => by
    have hs := h.small
    have hf := h.few
    have e : j = p.length := by omega
    subst e
    refine Ev.step (fun k => by rw [spec_l03Place.l0]) ?_
    rw [node_byte h, List.drop_length]
    exact ev_pos (by omega) (ev_pos (by rw [B_size]; omega) (ev_pos rfl (ev_pos rfl (Ev.now _))))
  | m + 1, j, hj => by
    have hs := h.small
    have hf := h.few
    have hl : j < p.length := by omega
    have ih := spec_place_loop m (j + 1) (by omega)
    have ho := ones_step hl
    have hle := ones_le (p.drop j)
    rw [List.length_drop] at hle
    refine Ev.step (fun k => by rw [spec_l03Place.l0]) ?_
    rw [ahead_byte h hl, w64s (by omega)]
    refine ev_pos (by omega) (ev_pos (by rw [B_size]; omega) (ev_ite (fun hb => ?_) (fun hb => ?_)))
    · rw [if_pos (u49.1 hb)] at ho
      refine ev_neg (by omega) ?_
      rw [w64 (by omega) (by omega), show (ones (p.drop j) : Int) - 1 = (ones (p.drop (j + 1)) : Int) by omega]
      exact ih
    · rw [if_neg (fun e => hb (u49.2 e))] at ho
      rw [show ones (p.drop j) = ones (p.drop (j + 1)) by omega]
      exact ih
theorem spec_place_ev : Ev (fun k => spec_l03Place.f k (B w) (i : Int)) (p.length : Int) := by
  unfold spec_l03Place.f
  have := spec_place_loop h p.length 0 (by omega)
  rw [List.drop_zero, h.ones] at this
  exact this
theorem scan_at : scan (w.drop p.length) 1 = some s := by
  have e := h.eq
  rw [e, List.drop_left]
  exact scan_one _ _
theorem part_at : (w.drop p.length).take (2 * nodes l + 2 * nodes r + 3) = enc (.node l r) := by
  have e := h.eq
  rw [e, List.drop_left, show 2 * nodes l + 2 * nodes r + 3 = (enc (.node l r)).length by rw [enc_length]; simp only [nodes]; omega]
  simp
theorem behind_at : w.drop (p.length + (2 * nodes l + 2 * nodes r + 3)) = s := by
  have e := h.eq
  rw [e, ← List.append_assoc, show p.length + (2 * nodes l + 2 * nodes r + 3) = (p ++ enc (.node l r)).length by rw [List.length_append, enc_length]; simp only [nodes]; omega]
  exact List.drop_left
theorem ahead_at : w.take p.length = p := by
  have e := h.eq
  rw [e, List.take_left]
theorem impl_part_loop : ∀ (m j : Nat), j + m = p.length → Ev (fun k => impl_partAt.l0 k (B w) (i : Int) (j : Int) (ones (p.take j) - 1 : Int)) (B p, B (enc (.node l r)), B s)
  | 0, j, hj => by
    have hs := h.small
    have hf := h.few
    have e : j = p.length := by omega
    subst e
    have ho := h.ones
    have hle := ones_le p
    refine Ev.step (fun k => by rw [impl_partAt.l0]) ?_
    rw [node_byte h, List.take_length, ho, w64 (by omega) (by omega), B_drop, B_size]
    refine ev_pos (by omega) (ev_pos (by omega) (ev_pos rfl (ev_pos (by omega) (ev_pos (by omega) (Ev.bind (impl_endBinary_ev _ (by simp; omega)) ?_)))))
    rw [show (((p.length : Nat) : Int)).toNat = p.length from rfl, scan_at h]
    simp only [outB, B_size]
    rw [w64 (by omega) (by omega)]
    refine ev_pos (by omega) (ev_pos (by omega) (ev_now ?_))
    rw [B_take, B_extract, show ((w.length : Int) - (s.length : Int)).toNat - p.length = 2 * nodes l + 2 * nodes r + 3 by omega, part_at h, ahead_at h]
  | m + 1, j, hj => by
    have hs := h.small
    have hf := h.few
    have hl : j < p.length := by omega
    have ih := impl_part_loop m (j + 1) (by omega)
    have ho := h.ones
    have hsum := ones_append (p.take j) (p.drop j)
    rw [List.take_append_drop, ones_step hl] at hsum
    have hsum2 := ones_append (p.take (j + 1)) (p.drop (j + 1))
    rw [List.take_append_drop] at hsum2
    have hle := ones_le p
    refine Ev.step (fun k => by rw [impl_partAt.l0]) ?_
    rw [ahead_byte h hl, w64s (by omega)]
    refine ev_pos (by omega) (ev_pos (by rw [B_size]; omega) (ev_ite (fun hb => ?_) (fun hb => ?_)))
    · rw [if_pos (u49.1 hb)] at hsum
      rw [w64 (by omega) (by omega)]
      refine ev_neg (by omega) ?_
      rw [show (ones (p.take j) : Int) - 1 + 1 = (ones (p.take (j + 1)) : Int) - 1 by omega]
      exact ih
    · rw [if_neg (fun e => hb (u49.2 e))] at hsum
      rw [show (ones (p.take j) : Int) - 1 = (ones (p.take (j + 1)) : Int) - 1 by omega]
      exact ev_neg (by omega) ih
theorem impl_partAt_ev : Ev (fun k => impl_partAt.f k (B w) (i : Int)) (B p, B (enc (.node l r)), B s) := by
  unfold impl_partAt.f
  have := impl_part_loop h p.length 0 (by omega)
  simpa [ones] using this
end
theorem lit1 : (⟨#[49]⟩ : ByteArray) = B [49] := rfl
theorem lit2 : (⟨#[49, 49]⟩ : ByteArray) = B [49, 49] := rfl
theorem lit0 : (⟨#[]⟩ : ByteArray) = B [] := rfl
def outR (p s : List UInt8) : Option BT → ByteArray × Bool
  | some u => (B (p ++ (enc u ++ s)), true)
  | none => (B [], false)
section
variable {w p s : List UInt8} {i : Nat} {l r : BT} (h : AtNode w i p l r s)
include h
theorem spec_turn_ev (right : Bool) : Ev (fun k => spec_l03Turn.f k (B w) (i : Int) right) (outR p s (turn right l r)) := by
  have hs := h.small
  have hf := h.few
  have hE := spec_l03End_ev w (by omega) p.length (by omega)
  rw [scan_at h] at hE
  have e : outN w.length (some s) = ((p.length + (2 * nodes l + 2 * nodes r + 3) : Nat) : Int) := by simp only [outN]; omega
  rw [e] at hE
  have hx : (B w).extract (((p.length : Nat) : Int)).toNat (((p.length + (2 * nodes l + 2 * nodes r + 3) : Nat) : Int)).toNat = B (enc (.node l r)) := by
    rw [B_extract, show (((p.length + (2 * nodes l + 2 * nodes r + 3) : Nat) : Int)).toNat - (((p.length : Nat) : Int)).toNat = 2 * nodes l + 2 * nodes r + 3 by omega]
    rw [show (((p.length : Nat) : Int)).toNat = p.length from rfl, part_at h]
  have ha : (B w).extract 0 (((p.length : Nat) : Int)).toNat = B p := by
    rw [B_take, show (((p.length : Nat) : Int)).toNat = p.length from rfl, ahead_at h]
  have hb : (B w).extract (((p.length + (2 * nodes l + 2 * nodes r + 3) : Nat) : Int)).toNat (B w).size = B s := by
    rw [B_drop, show (((p.length + (2 * nodes l + 2 * nodes r + 3) : Nat) : Int)).toNat = p.length + (2 * nodes l + 2 * nodes r + 3) from rfl, behind_at h]
  have hl := enc_length l
  have hr := enc_length r
  unfold spec_l03Turn.f
  refine Ev.bind (spec_place_ev h) (Ev.bind hE ?_)
  simp only [hx, ha, hb]
  refine ev_pos (by omega) (ev_pos (by omega) (ev_pos (by rw [B_size]; omega) (Ev.bind (spec_l03Sides_ev l r (by omega)) ?_)))
  cases right with
  | true =>
    refine ev_pos rfl ?_
    cases l with
    | leaf => exact ev_pos (by rw [toList_B]; rfl) (Ev.now _)
    | node x y =>
      have hx := enc_length x
      have hy := enc_length y
      simp only [nodes] at hs hl
      refine ev_neg (by rw [toList_B]; simp [enc]) (Ev.bind (spec_l03Sides_ev x y (by omega)) ?_)
      simp only [lit1, B_append, B_size, List.length_append, List.length_cons, List.length_nil]
      refine ev_pos (by omega) (ev_pos (by omega) (ev_pos (by omega) (ev_pos (by omega) (ev_pos (by omega) (ev_pos (by omega) (ev_pos (by omega) (ev_pos (by omega) (ev_now ?_))))))))
      simp [outR, turn, enc]
  | false =>
    refine ev_neg (by decide) ?_
    cases r with
    | leaf => exact ev_pos (by rw [toList_B]; rfl) (Ev.now _)
    | node x y =>
      have hx := enc_length x
      have hy := enc_length y
      simp only [nodes] at hs hr
      refine ev_neg (by rw [toList_B]; simp [enc]) (Ev.bind (spec_l03Sides_ev x y (by omega)) ?_)
      simp only [lit2, B_append, B_size, List.length_append, List.length_cons, List.length_nil]
      refine ev_pos (by omega) (ev_pos (by omega) (ev_pos (by omega) (ev_pos (by omega) (ev_pos (by omega) (ev_pos (by omega) (ev_pos (by omega) (ev_now ?_)))))))
      simp [outR, turn, enc]
theorem impl_rotated_ev (right : Bool) : Ev (fun k => impl_rotated.f k (B w) (i : Int) right) (outR p s (turn right l r)) := by
  have hs := h.small
  have hf := h.few
  have hl := enc_length l
  have hr := enc_length r
  unfold impl_rotated.f
  refine Ev.bind (impl_partAt_ev h) (Ev.bind (impl_sides_ev l r (by omega)) ?_)
  cases right with
  | true =>
    refine ev_pos rfl ?_
    cases l with
    | leaf => exact ev_pos (by rw [toList_B]; rfl) (Ev.now _)
    | node x y =>
      have hx := enc_length x
      have hy := enc_length y
      simp only [nodes] at hs hl
      refine ev_neg (by rw [toList_B]; simp [enc]) (Ev.bind (impl_sides_ev x y (by omega)) ?_)
      simp only [lit1, B_append, B_size, List.length_append, List.length_cons, List.length_nil]
      refine ev_pos (by omega) (ev_pos (by omega) (ev_pos (by omega) (ev_pos (by omega) (ev_pos (by omega) (ev_pos (by omega) (ev_now ?_))))))
      simp [outR, turn, enc]
  | false =>
    refine ev_neg (by decide) ?_
    cases r with
    | leaf => exact ev_pos (by rw [toList_B]; rfl) (Ev.now _)
    | node x y =>
      have hx := enc_length x
      have hy := enc_length y
      simp only [nodes] at hs hr
      refine ev_neg (by rw [toList_B]; simp [enc]) (Ev.bind (impl_sides_ev x y (by omega)) ?_)
      simp only [lit2, B_append, B_size, List.length_append, List.length_cons, List.length_nil]
      refine ev_pos (by omega) (ev_pos (by omega) (ev_pos (by omega) (ev_pos (by omega) (ev_pos (by omega) (ev_now ?_)))))
      simp [outR, turn, enc]
end
/-- The code of a text and a node. -/
def nodeM (w : List UInt8) (i : Int) : Int := if isBin w = true then (if 0 ≤ i ∧ i < ((w.length / 2 : Nat) : Int) then 0 else 2) else 1
theorem nodeM_at {w : List UInt8} {i : Int} (hc : nodeM w i = 0) : isBin w = true ∧ ∃ (j : Nat) (p : List UInt8) (l r : BT) (s : List UInt8), i = j ∧ AtNode w j p l r s := by
  unfold nodeM at hc
  split at hc
  · rename_i hw
    refine ⟨hw, ?_⟩
    split at hc
    · rename_i hi
      obtain ⟨t, e, ht⟩ := isBin_sound hw
      have hl := enc_length t
      subst e
      obtain ⟨p, l, r, s, h1, h2⟩ := at_node t i.toNat (by omega)
      exact ⟨i.toNat, p, l, r, s, by omega, h1, h2, by omega⟩
    · cases hc
  · cases hc
theorem spec_node_ev (w : List UInt8) (i : Int) : Ev (fun k => spec_l03Node.f k (B w) i) (nodeM w i) := by
  unfold spec_l03Node.f nodeM
  refine Ev.bind (spec_l03Is_ev w) ?_
  refine ev_ite (fun hw => ?_) (fun hw => ?_)
  · have hl : w.length ≤ 47 := by obtain ⟨t, e, ht⟩ := isBin_sound hw; rw [e, enc_length]; omega
    rw [if_pos hw]
    unfold spec_l03N.f spec_l01In.f
    rw [B_size, w64 (x := (w.length : Int) / 2) (by omega) (by omega), Option.bind_some, w64 (by omega) (by omega)]
    by_cases h0 : i ≥ 0
    · rw [if_pos h0, Option.bind_some]
      refine ev_ite (fun hx => ?_) (fun hx => ?_)
      · rw [decide_eq_true_eq] at hx; rw [if_pos (by omega)]; exact Ev.now _
      · rw [decide_eq_true_eq] at hx; rw [if_neg (by omega)]; exact Ev.now _
    · rw [if_neg h0, Option.bind_some, if_neg (show ¬ (0 ≤ i ∧ i < ((w.length / 2 : Nat) : Int)) by omega)]
      exact ev_neg (by decide) (Ev.now _)
  · rw [if_neg hw]; exact Ev.now _
theorem impl_rotate_ev (w : List UInt8) (i : Int) (right : Bool) {r : ByteArray × Int}
    (h0 : nodeM w i = 0 → Ev (fun k => (impl_rotated.f k (B w) i right).bind fun b => if b.2 = true then some (b.1, 0) else some (B [], 5)) r) (h1 : nodeM w i ≠ 0 → r = (B [], nodeM w i)) : Ev (fun k => impl_rotate.f k (B w) i right) r := by
  unfold impl_rotate.f
  unfold nodeM at h0 h1
  refine Ev.bind (impl_IsBinary_ev w) ?_
  refine ev_ite (fun hw => ?_) (fun hw => ?_)
  · have hl : w.length ≤ 47 := by obtain ⟨t, e, ht⟩ := isBin_sound hw; rw [e, enc_length]; omega
    rw [if_pos hw] at h0 h1
    refine ev_ite (fun hi => ?_) (fun hi => ?_)
    · refine Ev.step (fun k => by rw [impl_rotate.j0]) ?_
      refine ev_pos rfl (ev_now ?_)
      rw [if_neg (by omega)] at h1
      exact (h1 (by decide)).symm
    · unfold impl_nodesOf.f
      rw [B_size, w64 (x := (w.length : Int) / 2) (by omega) (by omega)]
      refine ev_some ?_
      refine Ev.step (fun k => by rw [impl_rotate.j0]) ?_
      refine ev_ite (fun hx => ?_) (fun hx => ?_)
      · rw [decide_eq_true_eq] at hx
        rw [if_neg (by omega)] at h1
        exact ev_now (h1 (by decide)).symm
      · rw [decide_eq_true_eq] at hx
        rw [if_pos (by omega)] at h0
        exact h0 rfl
  · rw [if_neg hw] at h1
    exact ev_now (h1 (by decide)).symm
theorem both_RotateLeft (w : List UInt8) (i : Int) : ∃ r : ByteArray × Int, Ev (fun k => spec_RotateLeft.f k (B w) i) r ∧ Ev (fun k => impl_RotateLeft.f k (B w) i) r := by
  by_cases hc : nodeM w i = 0
  · obtain ⟨hw, j, p, l, r, s, rfl, h⟩ := nodeM_at hc
    refine ⟨match outR p s (turn false l r) with | (u, true) => (u, 0) | (_, false) => (B [], 5), ?_, ?_⟩
    · unfold spec_RotateLeft.f
      refine Ev.bind (spec_node_ev w _) (ev_pos hc (Ev.bind (spec_turn_ev h false) ?_))
      cases turn false l r with
      | none => exact ev_neg (by simp [outR]) (Ev.now _)
      | some u => exact ev_pos rfl (Ev.now _)
    · unfold impl_RotateLeft.f
      refine Ev.bind (impl_rotate_ev w _ false (fun _ => Ev.bind (impl_rotated_ev h false) ?_) (fun hn => absurd hc hn)) (ev_now rfl)
      cases turn false l r with
      | none => exact ev_neg (by simp [outR]) (Ev.now _)
      | some u => exact ev_pos rfl (Ev.now _)
  · refine ⟨(B [], nodeM w i), ?_, ?_⟩
    · unfold spec_RotateLeft.f
      exact Ev.bind (spec_node_ev w _) (ev_neg hc (Ev.now _))
    · unfold impl_RotateLeft.f
      exact Ev.bind (impl_rotate_ev w _ false (fun h => absurd h hc) (fun _ => rfl)) (ev_now rfl)
theorem both_RotateRight (w : List UInt8) (i : Int) : ∃ r : ByteArray × Int, Ev (fun k => spec_RotateRight.f k (B w) i) r ∧ Ev (fun k => impl_RotateRight.f k (B w) i) r := by
  by_cases hc : nodeM w i = 0
  · obtain ⟨hw, j, p, l, r, s, rfl, h⟩ := nodeM_at hc
    refine ⟨match outR p s (turn true l r) with | (u, true) => (u, 0) | (_, false) => (B [], 5), ?_, ?_⟩
    · unfold spec_RotateRight.f
      refine Ev.bind (spec_node_ev w _) (ev_pos hc (Ev.bind (spec_turn_ev h true) ?_))
      cases turn true l r with
      | none => exact ev_neg (by simp [outR]) (Ev.now _)
      | some u => exact ev_pos rfl (Ev.now _)
    · unfold impl_RotateRight.f
      refine Ev.bind (impl_rotate_ev w _ true (fun _ => Ev.bind (impl_rotated_ev h true) ?_) (fun hn => absurd hc hn)) (ev_now rfl)
      cases turn true l r with
      | none => exact ev_neg (by simp [outR]) (Ev.now _)
      | some u => exact ev_pos rfl (Ev.now _)
  · refine ⟨(B [], nodeM w i), ?_, ?_⟩
    · unfold spec_RotateRight.f
      exact Ev.bind (spec_node_ev w _) (ev_neg hc (Ev.now _))
    · unfold impl_RotateRight.f
      exact Ev.bind (impl_rotate_ev w _ true (fun h => absurd h hc) (fun _ => rfl)) (ev_now rfl)
end Go.Proofs.Ytgbhlmmmighanaa.E
