/- What both sides compute of texts of binary trees: where a part ends, whether a text is one, both sides of a root. -/
import Derived.Test.YtgbhlmmmighanaaBin
import Derived.Test.YtgbhlmmmighanaaEx4
import Derived.Test.YtgbhlmmmighanaaEx6
namespace Go.Proofs.Ytgbhlmmmighanaa.E
set_option linter.unusedVariables false
set_option linter.unusedSectionVars false
open Go.RowKit Go.Proofs.YtgbhlmmmighanaaW.PrintWords Go.Proofs.Ytgbhlmmmighanaa.Base Go.Proofs.Ytgbhlmmmighanaa.Bin

theorem toList_loop (bs : ByteArray) : ∀ (n i : Nat) (r : List UInt8), i + n = bs.size → ByteArray.toList.loop bs i r = r.reverse ++ bs.data.toList.drop i
  | 0, i, r, h => by
    unfold ByteArray.toList.loop
    have hs : bs.size = bs.data.toList.length := by rw [Array.length_toList]; rfl
    rw [if_neg (by omega), List.drop_of_length_le (by omega), List.append_nil]
  | n + 1, i, r, h => by
    unfold ByteArray.toList.loop
    have hs : bs.size = bs.data.toList.length := by rw [Array.length_toList]; rfl
    have hi : i < bs.data.toList.length := by omega
    rw [if_pos (by omega), toList_loop bs n (i + 1) _ (by omega), List.drop_eq_getElem_cons hi]
    have e : bs.get! i = bs.data.toList[i] := by
      cases bs with
      | mk d =>
        have hi' : i < d.size := by simpa using hi
        simp [ByteArray.get!, hi']
    rw [e]
    simp
theorem toList_B (l : List UInt8) : (B l).toList = l := by
  unfold ByteArray.toList
  rw [toList_loop (B l) (B l).size 0 [] (by omega)]
  simp [B]
theorem B_drop (l : List UInt8) (a : Nat) : (B l).extract a (B l).size = B (l.drop a) := by
  rw [B_extract, B_size, List.take_of_length_le (by simp)]
theorem B_take (l : List UInt8) (b : Nat) : (B l).extract 0 b = B (l.take b) := by
  rw [B_extract]; simp
theorem bt_zero (b : UInt8) (l : List UInt8) : bt (B (b :: l)) 0 = (b.toNat : Int) := by
  have := bt_at_app (p := []) (s := l) (b := b) (i := 0) rfl
  simpa using this
theorem u49 {b : UInt8} : ((b.toNat : Int) = 49) ↔ b = 49 := by
  rw [← UInt8.toNat_inj]
  show ((b.toNat : Int) = 49) ↔ b.toNat = 49
  omega
theorem u48 {b : UInt8} : ((b.toNat : Int) = 48) ↔ b = 48 := by
  rw [← UInt8.toNat_inj]
  show ((b.toNat : Int) = 48) ↔ b.toNat = 48
  omega
/-- What is behind, and whether there is anything. -/
def outB : Option (List UInt8) → ByteArray × Bool
  | some s => (B s, true)
  | none => (B [], false)
theorem impl_endBinary_loop : ∀ (l : List UInt8) (n : Nat), l.length + n < 4611686018427387904 → Ev (fun k => impl_endBinary.l0 k (B l) (n : Int)) (outB (scan l n))
  | l, 0, _ => by
    refine Ev.step (fun k => by rw [impl_endBinary.l0]) ?_
    refine ev_neg (by omega) ?_
    cases l <;> exact Ev.now _
  | [], n + 1, _ => by
    refine Ev.step (fun k => by rw [impl_endBinary.l0]) ?_
    refine ev_pos (by omega) (ev_pos (by rw [toList_B]) ?_)
    refine Ev.step (fun k => by rw [impl_endBinary.j1]) ?_
    exact ev_pos rfl (Ev.now _)
  | b :: l, n + 1, h => by
    have hs : (B (b :: l)).size = l.length + 1 := by rw [B_size]; rfl
    simp only [List.length_cons] at h
    refine Ev.step (fun k => by rw [impl_endBinary.l0]) ?_
    refine ev_pos (by omega) (ev_neg (by rw [toList_B]; simp) (ev_pos (by omega) ?_))
    rw [bt_zero]
    have hd : (B (b :: l)).extract 1 (B (b :: l)).size = B l := by rw [B_drop]; rfl
    refine ev_ite (fun hb => ?_) (fun hb => ?_)
    · have e := u48.1 hb
      subst e
      refine Ev.step (fun k => by rw [impl_endBinary.j1]) ?_
      rw [bt_zero, hd]
      refine ev_neg (by decide) (ev_pos (by omega) (ev_neg (by decide) (ev_pos (by omega) ?_)))
      rw [w64p (by omega)]
      have := impl_endBinary_loop l n (by omega)
      simpa [scan] using this
    · have e : ¬ b = 48 := fun e => hb (u48.2 e)
      by_cases e2 : b = 49
      · subst e2
        refine Ev.step (fun k => by rw [impl_endBinary.j1]) ?_
        rw [bt_zero, hd]
        refine ev_neg (by decide) (ev_pos (by omega) (ev_pos (by decide) (ev_pos (by omega) ?_)))
        rw [w64s (by omega)]
        have := impl_endBinary_loop l (n + 2) (by omega)
        rw [show scan (49 :: l) (n + 1) = scan l (n + 2) by simp [scan]]
        exact this
      · refine Ev.step (fun k => by rw [impl_endBinary.j1]) ?_
        refine ev_pos ?_ (ev_now ?_)
        · rw [bne_iff_ne]
          exact fun h => e2 (u49.1 h)
        · simp only [scan]
          rw [if_neg e2, if_neg e]; rfl
theorem impl_endBinary_ev (l : List UInt8) (h : l.length ≤ 1048576) : Ev (fun k => impl_endBinary.f k (B l)) (outB (scan l 1)) := by
  unfold impl_endBinary.f
  exact impl_endBinary_loop l 1 (by omega)
/-- The place behind, or -1. -/
def outN (n : Nat) : Option (List UInt8) → Int
  | some s => ((n - s.length : Nat) : Int)
  | none => -1
theorem spec_l03End_loop (w : List UInt8) (hw : w.length ≤ 1048576) : ∀ (l : List UInt8) (n i : Nat), l.length + n < 4611686018427387904 → w.drop i = l → i ≤ w.length → Ev (fun k => spec_l03End.l0 k (B w) (i : Int) (n : Int)) (outN w.length (scan l n))
  | l, 0, i, _, hd, hi => by
    refine Ev.step (fun k => by rw [spec_l03End.l0]) ?_
    refine ev_neg (by omega) ?_
    have e : scan l 0 = some l := by cases l <;> rfl
    rw [e]
    refine ev_now ?_
    have := congrArg List.length hd
    rw [List.length_drop] at this
    simp only [outN]; omega
  | [], n + 1, i, _, hd, hi => by
    have hl := congrArg List.length hd
    simp only [List.length_drop, List.length_nil] at hl
    refine Ev.step (fun k => by rw [spec_l03End.l0]) ?_
    refine ev_pos (by omega) (ev_pos (by rw [B_size]; omega) ?_)
    refine Ev.step (fun k => by rw [spec_l03End.j1]) ?_
    exact ev_pos rfl (Ev.now _)
  | b :: l, n + 1, i, h, hd, hi => by
    have hl := congrArg List.length hd
    simp only [List.length_drop, List.length_cons] at hl h
    have hlt : i < w.length := by omega
    rw [List.drop_eq_getElem_cons hlt] at hd
    obtain ⟨hb, hd2⟩ := List.cons.inj hd
    have hg : bt (B w) (i : Int) = (b.toNat : Int) := by rw [bt_B hlt, hb]
    have hs : (B w).size = w.length := B_size w
    refine Ev.step (fun k => by rw [spec_l03End.l0]) ?_
    refine ev_pos (by omega) (ev_neg (by omega) (ev_pos (by omega) (ev_pos (by omega) ?_)))
    rw [hg]
    refine ev_ite (fun hx => ?_) (fun hx => ?_)
    · have e := u48.1 hx
      subst e
      refine Ev.step (fun k => by rw [spec_l03End.j1]) ?_
      rw [hg]
      refine ev_neg (by decide) (ev_pos (by omega) (ev_pos (by omega) (ev_neg (by decide) ?_)))
      rw [w64p (by omega), w64s (by omega)]
      have := spec_l03End_loop w hw l n (i + 1) (by omega) hd2 (by omega)
      simpa [scan] using this
    · have e : ¬ b = 48 := fun e => hx (u48.2 e)
      by_cases e2 : b = 49
      · subst e2
        refine Ev.step (fun k => by rw [spec_l03End.j1]) ?_
        rw [hg]
        refine ev_neg (by decide) (ev_pos (by omega) (ev_pos (by omega) (ev_pos (by decide) ?_)))
        rw [w64s (by omega), w64s (by omega)]
        have := spec_l03End_loop w hw l (n + 2) (i + 1) (by omega) hd2 (by omega)
        rw [show scan (49 :: l) (n + 1) = scan l (n + 2) by simp [scan]]
        exact this
      · refine Ev.step (fun k => by rw [spec_l03End.j1]) ?_
        refine ev_pos ?_ (ev_now ?_)
        · rw [bne_iff_ne]
          exact fun h => e2 (u49.1 h)
        · simp only [scan]
          rw [if_neg e2, if_neg e]; rfl
theorem spec_l03End_ev (w : List UInt8) (hw : w.length ≤ 1048576) (i : Nat) (hi : i ≤ w.length) : Ev (fun k => spec_l03End.f k (B w) (i : Int)) (outN w.length (scan (w.drop i) 1)) := by
  unfold spec_l03End.f
  exact spec_l03End_loop w hw (w.drop i) 1 i (by simp; omega) rfl hi
theorem impl_IsBinary_ev (l : List UInt8) : Ev (fun k => impl_IsBinary.f k (B l)) (isBin l) := by
  unfold impl_IsBinary.f isBin
  rw [B_size]
  refine ev_ite (fun h => ?_) (fun h => ?_)
  · rw [if_pos (by omega)]; exact Ev.now _
  · rw [if_neg (by omega)]
    refine Ev.bind (impl_endBinary_ev l (by omega)) ?_
    cases hs : scan l 1 with
    | none => exact ev_neg (by simp [outB]) (Ev.now _)
    | some s =>
      refine ev_pos rfl (ev_now ?_)
      simp only [outB, toList_B]
      cases s <;> rfl
theorem spec_l03Is_ev (l : List UInt8) : Ev (fun k => spec_l03Is.f k (B l)) (isBin l) := by
  unfold spec_l03Is.f isBin
  rw [B_size]
  refine ev_ite (fun h => ?_) (fun h => ?_)
  · rw [if_neg (by omega)]
    refine Ev.bind (spec_l03End_ev l (by omega) 0 (by omega)) (ev_now ?_)
    rw [List.drop_zero]
    cases hs : scan l 1 with
    | none => simp only [outN]; rw [beq_eq_false_iff_ne]; omega
    | some s =>
      have hl := scan_len l 1 s hs
      simp only [outN]
      cases s with
      | nil => simp
      | cons x s =>
        simp only [List.length_cons] at hl ⊢
        rw [beq_eq_false_iff_ne]; omega
  · rw [if_pos (by omega)]; exact Ev.now _
theorem nodesOf_ev (t : BT) (h : nodes t ≤ 1000) : impl_nodesOf.f (B (enc t)) = some (nodes t : Int) := by
  unfold impl_nodesOf.f
  rw [B_size, enc_length, w64 (by omega) (by omega)]
  congr 1
  omega
theorem l03N_ev (t : BT) (h : nodes t ≤ 1000) : spec_l03N.f (B (enc t)) = some (nodes t : Int) := nodesOf_ev t h
theorem impl_sides_ev (l r : BT) (h : nodes l + nodes r ≤ 1000) : Ev (fun k => impl_sides.f k (B (enc (.node l r)))) (B (enc l), B (enc r)) := by
  have hs : (B (enc (.node l r))).size = 2 * nodes l + 2 * nodes r + 3 := by rw [B_size, enc_length]; simp only [nodes]; omega
  have hd : (B (enc (.node l r))).extract 1 (B (enc (.node l r))).size = B (enc l ++ enc r) := by rw [B_drop]; rfl
  have hl := enc_length l
  have hr := enc_length r
  have hw : (enc (.node l r)).length = 2 * nodes l + 2 * nodes r + 3 := by rw [enc_length]; simp only [nodes]; omega
  unfold impl_sides.f
  rw [hd]
  refine ev_pos (by omega) (Ev.bind (impl_endBinary_ev _ (by simp; omega)) ?_)
  rw [scan_one l (enc r)]
  simp only [outB, B_size, hr, hw]
  rw [w64 (by omega) (by omega)]
  refine ev_pos (by omega) (ev_pos (by omega) (ev_now ?_))
  rw [B_extract, show (((2 * nodes l + 2 * nodes r + 3 : Nat) : Int) - ((2 * nodes r + 1 : Nat) : Int)).toNat - 1 = (enc l).length by omega]
  congr 2
  show (enc l ++ enc r).take (enc l).length = enc l
  simp
theorem spec_l03Sides_ev (l r : BT) (h : nodes l + nodes r ≤ 1000) : Ev (fun k => spec_l03Sides.f k (B (enc (.node l r)))) (B (enc l), B (enc r)) := by
  have hw : (enc (.node l r)).length = 2 * nodes l + 2 * nodes r + 3 := by rw [enc_length]; simp only [nodes]; omega
  have hl := enc_length l
  have hr := enc_length r
  unfold spec_l03Sides.f
  have hE := spec_l03End_ev (enc (.node l r)) (by omega) 1 (by omega)
  have hd : (enc (.node l r)).drop 1 = enc l ++ enc r := rfl
  rw [hd, scan_one l (enc r)] at hE
  have e : outN (enc (.node l r)).length (some (enc r)) = ((2 * nodes l + 2 : Nat) : Int) := by simp only [outN]; rw [hw, hr]; omega
  rw [e] at hE
  refine Ev.bind hE (ev_pos (by omega) (ev_pos (by rw [B_size]; omega) (ev_pos (by omega) (ev_now ?_))))
  rw [B_drop, B_extract, hd, show (((2 * nodes l + 2 : Nat) : Int)).toNat = (enc l).length + 1 by omega]
  rw [show (enc (.node l r)).drop ((enc l).length + 1) = (enc l ++ enc r).drop (enc l).length by rfl]
  simp
end Go.Proofs.Ytgbhlmmmighanaa.E
