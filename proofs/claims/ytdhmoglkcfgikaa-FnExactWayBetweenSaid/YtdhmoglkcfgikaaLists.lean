/- Go's slices.Reverse and slices.Concat at []int64, as plain functions on lists. -/
import Derived.Test.YtdhmoglkcfgikaaBase
import Derived.Test.YtdhmoglkcfgikaaEx13
namespace Go.Proofs.Ytdhmoglkcfgikaa.E
set_option linter.unusedVariables false
set_option linter.unusedSectionVars false
open Go.RowKit Go.Proofs.YtdhmoglkcfgikaaW.PrintWords Go.Proofs.Ytdhmoglkcfgikaa.Base

theorem reverse_getD (l : List Int) (p : Nat) (hp : p < l.length) : l.reverse.getD p 0 = l.getD (l.length - 1 - p) 0 := by
  rw [List.getD_eq_getElem?_getD, List.getElem?_reverse hp, ← List.getD_eq_getElem?_getD]
theorem slices_Reverse_loop (l : List Int) (hn : l.length ≤ 1048576) : ∀ (m i : Nat) (x : List Int), l.length ≤ 2 * i + m → i ≤ l.length → x.length = l.length → (∀ p, p < l.length → x.getD p 0 = if p < i ∨ l.length - i ≤ p then l.getD (l.length - 1 - p) 0 else l.getD p 0) → Ev (fun k => slices_Reverse_int64_int64.l0 k x (i : Int) ((l.length : Int) - 1 - i)) l.reverse := by
  intro m
  induction m with
  | zero =>
    intro i x hm hi hl hx
    refine Ev.step (fun k => by rw [slices_Reverse_int64_int64.l0]) ?_
    refine ev_neg (by omega) (ev_now (ext_getD (by simpa using hl) (fun p hp => ?_)))
    have hp' : p < l.length := by simpa using hp
    rw [hx p hp', reverse_getD l p hp']
    split
    · rfl
    · omega
  | succ m ih =>
    intro i x hm hi hl hx
    by_cases hlt : 2 * i + 1 < l.length
    · refine Ev.step (fun k => by rw [slices_Reverse_int64_int64.l0]) ?_
      have e : (l.length : Int) - 1 - i = ((l.length - 1 - i : Nat) : Int) := by omega
      rw [e]
      refine ev_pos (by omega) (ev_pos (by omega) (ev_pos (by omega) (ev_pos (by omega) (ev_pos (by omega) ?_))))
      rw [w64s (by omega), w64 (by omega) (by omega), show ((l.length - 1 - i : Nat) : Int) - 1 = (l.length : Int) - 1 - ((i + 1 : Nat) : Int) by omega, rd_nat, rd_nat]
      refine ih (i + 1) _ (by omega) (by omega) (by simpa using hl) (fun p hp => ?_)
      rw [show (((l.length - 1 - i : Nat) : Int)).toNat = l.length - 1 - i from rfl, show ((i : Int)).toNat = i from rfl]
      have hxi := hx i (by omega)
      have hxj := hx (l.length - 1 - i) (by omega)
      rw [if_neg (by omega)] at hxi hxj
      by_cases h1 : l.length - 1 - i = p
      · subst h1
        rw [get_set_eq (by simp; omega), if_pos (by omega), hxi]
        congr 1; omega
      · rw [get_set_ne h1]
        by_cases h2 : i = p
        · subst h2
          rw [get_set_eq (by omega), if_pos (by omega), hxj]
        · rw [get_set_ne h2, hx p hp]
          by_cases h3 : p < i ∨ l.length - i ≤ p
          · rw [if_pos h3, if_pos (by omega)]
          · rw [if_neg h3, if_neg (by omega)]
    · refine Ev.step (fun k => by rw [slices_Reverse_int64_int64.l0]) ?_
      refine ev_neg (by omega) (ev_now (ext_getD (by simpa using hl) (fun p hp => ?_)))
      have hp' : p < l.length := by simpa using hp
      rw [hx p hp', reverse_getD l p hp']
      split
      · rfl
      · congr 1; omega
theorem slices_Reverse_ev (l : List Int) (hn : l.length ≤ 1048576) : Ev (fun k => slices_Reverse_int64_int64.f k l) l.reverse := by
  unfold slices_Reverse_int64_int64.f
  rw [w64 (by omega) (by omega)]
  have := slices_Reverse_loop l hn l.length 0 l (by omega) (by omega) rfl (fun p hp => by rw [if_neg (by omega)])
  simpa using this
/-- The length of the first v lists together. -/
def lenTo (xs : List (List Int)) : Nat → Nat
  | 0 => 0
  | v + 1 => lenTo xs v + (xs.getD v []).length
theorem lenTo_mono (xs : List (List Int)) : ∀ {v w : Nat}, v ≤ w → lenTo xs v ≤ lenTo xs w
  | v, 0, h => by
    have e : v = 0 := by omega
    subst e; exact Nat.le_refl _
  | v, w + 1, h => by
    by_cases e : v = w + 1
    · subst e; exact Nat.le_refl _
    · have := lenTo_mono xs (v := v) (w := w) (by omega)
      simp only [lenTo]; omega
theorem take_flat (xs : List (List Int)) (v : Nat) (hv : v < xs.length) : (xs.take (v + 1)).flatten = (xs.take v).flatten ++ xs.getD v [] := by
  rw [← List.take_append_getElem hv, List.flatten_append, List.getD_eq_getElem?_getD, List.getElem?_eq_getElem hv]
  simp
theorem lenTo_flat (xs : List (List Int)) : ∀ v : Nat, v ≤ xs.length → (xs.take v).flatten.length = lenTo xs v
  | 0, _ => by simp [lenTo]
  | v + 1, h => by
    rw [take_flat xs v (by omega), List.length_append, lenTo_flat xs v (by omega)]; rfl
theorem slices_Concat_loop1 (xs : List (List Int)) (hx : xs.length ≤ 1048576) (hn : lenTo xs xs.length ≤ 1048576) : ∀ (m v : Nat), v + m = xs.length → Ev (fun k => slices_Concat_int64_int64.l1 k (xs.take v).flatten xs (xs.length : Int) (v : Int)) xs.flatten
  | 0, v, h => by
    refine Ev.step (fun k => by rw [slices_Concat_int64_int64.l1]) ?_
    refine ev_neg (by omega) (ev_now ?_)
    rw [List.take_of_length_le (by omega)]
  | m + 1, v, h => by
    have ih := slices_Concat_loop1 xs hx hn m (v + 1) (by omega)
    rw [take_flat xs v (by omega)] at ih
    have h1 := lenTo_mono xs (v := v + 1) (w := xs.length) (by omega)
    have h2 := lenTo_flat xs v (by omega)
    have e : rd_L1 xs (v : Int) = xs.getD v [] := rfl
    simp only [lenTo] at h1
    refine Ev.step (fun k => by rw [slices_Concat_int64_int64.l1]) ?_
    rw [e]
    refine ev_pos (by omega) (ev_pos (by omega) (ev_pos (by omega) (ev_pos (by omega) ?_)))
    rw [w64s (by omega)]
    exact ih
theorem slices_Concat_loop0 (xs : List (List Int)) (hx : xs.length ≤ 1048576) (hn : lenTo xs xs.length ≤ 1048576) : ∀ (m v : Nat), v + m = xs.length → Ev (fun k => slices_Concat_int64_int64.l0 k xs (lenTo xs v : Int) xs (xs.length : Int) (v : Int)) xs.flatten
  | 0, v, h => by
    have e : v = xs.length := by omega
    subst e
    refine Ev.step (fun k => by rw [slices_Concat_int64_int64.l0]) ?_
    refine ev_neg (by omega) ?_
    have hg : slices_Grow_int64_int64.f (lenTo xs xs.length : Int) = some [] := by
      unfold slices_Grow_int64_int64.f
      rw [if_pos ⟨by omega, by omega⟩]
    rw [hg]
    refine ev_some ?_
    exact slices_Concat_loop1 xs hx hn xs.length 0 (by omega)
  | m + 1, v, h => by
    have h1 := lenTo_mono xs (v := v + 1) (w := xs.length) (by omega)
    have e : rd_L1 xs (v : Int) = xs.getD v [] := rfl
    have ih := slices_Concat_loop0 xs hx hn m (v + 1) (by omega)
    have e2 : (lenTo xs v : Int) + ((xs.getD v []).length : Int) = (lenTo xs (v + 1) : Int) := by simp only [lenTo]; omega
    refine Ev.step (fun k => by rw [slices_Concat_int64_int64.l0]) ?_
    rw [e, e2, w64 (by omega) (by omega), w64s (by omega)]
    exact ev_pos (by omega) (ev_pos (by omega) (ev_pos (by omega) (ev_neg (by omega) ih)))
theorem slices_Concat_ev (xs : List (List Int)) (hx : xs.length ≤ 1048576) (hn : xs.flatten.length ≤ 1048576) : Ev (fun k => slices_Concat_int64_int64.f k xs) xs.flatten := by
  unfold slices_Concat_int64_int64.f
  have h := lenTo_flat xs xs.length (Nat.le_refl _)
  rw [List.take_of_length_le (Nat.le_refl _)] at h
  exact slices_Concat_loop0 xs hx (by omega) xs.length 0 (by omega)
end Go.Proofs.Ytdhmoglkcfgikaa.E
