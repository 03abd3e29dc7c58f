/- What is seen from a corner, on both sides. -/
import Derived.Test.YtgbhlmmmighanaaSeenTh
import Derived.Test.YtgbhlmmmighanaaLists
import Derived.Test.YtgbhlmmmighanaaEx1
import Derived.Test.YtgbhlmmmighanaaEx2
namespace Go.Proofs.Ytgbhlmmmighanaa.E
set_option linter.unusedVariables false
set_option linter.unusedSectionVars false
open Go.RowKit Go.Proofs.YtgbhlmmmighanaaW.PrintWords Go.Proofs.YtgbhlmmmighanaaW.PrintMore Go.Proofs.Ytgbhlmmmighanaa.Base Go.Proofs.Ytgbhlmmmighanaa.Tree

/-! slices.Index at a list of nodes -/
theorem idx_cons_ne {a b : Nat} {l : List Nat} (h : a ≠ b) : (a :: l).idxOf b = l.idxOf b + 1 := by
  have e : (a == b) = false := by simpa using h
  rw [List.idxOf_cons, e]; rfl
theorem index_loop (l : List Nat) (v : Nat) (hn : l.length ≤ 1048576) : ∀ (m i : Nat), i + m = l.length → v ∈ l.drop i → (l.take i).idxOf v = i → Ev (fun k => slices_Index_int64_int64.l0 k (castL l) (v : Int) (l.length : Int) (i : Int)) (l.idxOf v : Int)
  | 0, i, hi, hm, _ => by
    rw [List.drop_of_length_le (by omega)] at hm
    cases hm
  | m + 1, i, hi, hm, ht => by
    have hlt : i < l.length := by omega
    have hc : rd (castL l) (i : Int) = (l[i] : Int) := castL_getD l i hlt
    refine Ev.step (fun k => by rw [slices_Index_int64_int64.l0]) ?_
    refine ev_pos (by omega) (ev_pos (by omega) (ev_pos (by rw [castL_length]; omega) ?_))
    rw [hc]
    have hs : l = l.take i ++ l[i] :: l.drop (i + 1) := by
      conv => lhs; rw [← List.take_append_drop i l, List.drop_eq_getElem_cons hlt]
    have hnot : v ∉ l.take i := by
      intro hv
      have := List.idxOf_lt_length_of_mem hv
      rw [List.length_take] at this
      omega
    have hidx : l.idxOf v = i + (l[i] :: l.drop (i + 1)).idxOf v := by
      conv => lhs; rw [hs]
      rw [List.idxOf_append, if_neg hnot, List.length_take]
      omega
    refine ev_ite (fun hx => ?_) (fun hx => ?_)
    · have e : l[i] = v := by omega
      refine ev_now ?_
      rw [hidx, e, List.idxOf_cons_self]; omega
    · have e : l[i] ≠ v := by omega
      rw [w64s (by omega)]
      refine index_loop l v hn m (i + 1) (by omega) ?_ ?_
      · rw [List.drop_eq_getElem_cons hlt] at hm
        rcases List.mem_cons.1 hm with h | h
        · exact absurd h.symm e
        · exact h
      · rw [List.take_succ_eq_append_getElem hlt, List.idxOf_append, if_neg hnot, idx_cons_ne e, List.length_take]
        simp
        omega
theorem index_ev (l : List Nat) (v : Nat) (hn : l.length ≤ 1048576) (hv : v ∈ l) : Ev (fun k => slices_Index_int64_int64.f k (castL l) (v : Int)) (l.idxOf v : Int) := by
  unfold slices_Index_int64_int64.f
  rw [castL_length]
  exact index_loop l v hn l.length 0 (by omega) hv (by simp)

/-! slices.DeleteFunc -/
theorem indexFunc_loop (l : List Int) (a : Int) (hn : l.length ≤ 1048576) : ∀ (m i : Nat), i + m = l.length → (∀ j, j < i → l.getD j 0 ≠ a) →
    ∃ r : Int, Ev (fun k => slices_IndexFunc_int64_int64.l0 k l a (l.length : Int) (i : Int)) r ∧ ((r = -1 ∧ ∀ j, j < l.length → l.getD j 0 ≠ a) ∨ ∃ n : Nat, r = n ∧ n < l.length ∧ l.getD n 0 = a ∧ ∀ j, j < n → l.getD j 0 ≠ a)
  | 0, i, hi, hj => by
    refine ⟨-1, ?_, .inl ⟨rfl, fun j h => hj j (by omega)⟩⟩
    refine Ev.step (fun k => by rw [slices_IndexFunc_int64_int64.l0]) ?_
    exact ev_neg (by omega) (Ev.now _)
  | m + 1, i, hi, hj => by
    by_cases hx : l.getD i 0 = a
    · refine ⟨i, ?_, .inr ⟨i, rfl, by omega, hx, hj⟩⟩
      refine Ev.step (fun k => by rw [slices_IndexFunc_int64_int64.l0]) ?_
      exact ev_pos (by omega) (ev_pos (by omega) (ev_pos (by omega) (ev_pos hx (Ev.now _))))
    · obtain ⟨r, h1, h2⟩ := indexFunc_loop l a hn m (i + 1) (by omega) (fun j h => by
        by_cases e : j = i
        · subst e; exact hx
        · exact hj j (by omega))
      refine ⟨r, ?_, h2⟩
      refine Ev.step (fun k => by rw [slices_IndexFunc_int64_int64.l0]) ?_
      rw [w64s (by omega)]
      exact ev_pos (by omega) (ev_pos (by omega) (ev_pos (by omega) (ev_neg hx h1)))
theorem filter_all {l : List Int} {a : Int} (h : ∀ j, j < l.length → l.getD j 0 ≠ a) : l.filter (fun x => decide (x ≠ a)) = l := by
  rw [List.filter_eq_self]
  intro x hx
  obtain ⟨j, hj, e⟩ := List.getElem_of_mem hx
  have := h j hj
  rw [List.getD_eq_getElem?_getD, List.getElem?_eq_getElem hj] at this
  rw [← e]
  exact decide_eq_true this
theorem take_succ_getD {l : List Int} {i : Nat} (h : i < l.length) : l.take (i + 1) = l.take i ++ [l.getD i 0] := by
  rw [List.take_succ_eq_append_getElem h, List.getD_eq_getElem?_getD, List.getElem?_eq_getElem h]; rfl
theorem deleteFunc_loop (l : List Int) (a : Int) (hn : l.length ≤ 1048576) : ∀ (m j i : Nat) (x : List Int), j + m = l.length → i < j → x.length = l.length → x.take i = (l.take j).filter (fun x => decide (x ≠ a)) → (∀ p, j ≤ p → x.getD p 0 = l.getD p 0) →
    Ev (fun k => slices_DeleteFunc_int64_int64.l0 k x a (i : Int) (j : Int)) (l.filter (fun x => decide (x ≠ a)))
  | 0, j, i, x, hj, hi, hl, ht, hd => by
    refine Ev.step (fun k => by rw [slices_DeleteFunc_int64_int64.l0]) ?_
    refine ev_neg (by omega) (ev_pos (by omega) (ev_pos (by omega) (ev_now ?_)))
    rw [show ((i : Int)).toNat = i from rfl, ht, List.take_of_length_le (by omega)]
  | m + 1, j, i, x, hj, hi, hl, ht, hd => by
    have e := hd j (Nat.le_refl _)
    have hs : (l.take (j + 1)).filter (fun x => decide (x ≠ a)) = (l.take j).filter (fun x => decide (x ≠ a)) ++ if l.getD j 0 = a then [] else [l.getD j 0] := by
      rw [take_succ_getD (by omega), List.filter_append]
      congr 1
      split
      · rename_i h; rw [List.filter_cons_of_neg (by rw [h]; simp)]; rfl
      · rename_i h; rw [List.filter_cons_of_pos (p := fun x => decide (x ≠ a)) (decide_eq_true h)]; rfl
    refine Ev.step (fun k => by rw [slices_DeleteFunc_int64_int64.l0]) ?_
    refine ev_pos (by omega) (ev_pos (by omega) ?_)
    rw [rd_nat, e]
    refine ev_ite (fun hx => ?_) (fun hx => ?_)
    · rw [w64s (by omega)]
      refine deleteFunc_loop l a hn m (j + 1) i x (by omega) (by omega) hl ?_ (fun p hp => hd p (by omega))
      rw [hs, if_pos hx, List.append_nil, ht]
    · rw [w64s (by omega), w64s (by omega)]
      refine ev_pos (by omega) (ev_pos (by omega) (deleteFunc_loop l a hn m (j + 1) (i + 1) _ (by omega) (by omega) (by simpa using hl) ?_ (fun p hp => ?_)))
      · rw [hs, if_neg hx, ← ht, show ((i : Int)).toNat = i from rfl, take_succ_getD (by simp; omega), get_set_eq (by omega)]
        congr 1
        apply List.ext_getElem?
        intro q
        rw [List.getElem?_take, List.getElem?_take]
        split
        · rw [List.getElem?_set_ne (by omega)]
        · rfl
      · rw [show ((i : Int)).toNat = i from rfl, get_set_ne (by omega)]
        exact hd p (by omega)
theorem deleteFunc_ev (l : List Int) (a : Int) (hn : l.length ≤ 1048576) : Ev (fun k => slices_DeleteFunc_int64_int64.f k l a) (l.filter (fun x => decide (x ≠ a))) := by
  obtain ⟨r, h1, h2⟩ := indexFunc_loop l a hn l.length 0 (by omega) (fun j h => by omega)
  unfold slices_DeleteFunc_int64_int64.f
  refine Ev.bind (g := fun k => slices_IndexFunc_int64_int64.f k l a) h1 ?_
  rcases h2 with ⟨rfl, h2⟩ | ⟨n, rfl, h3, h4, h5⟩
  · refine ev_pos rfl (ev_now ?_)
    rw [filter_all h2]
  · refine ev_neg (by omega) ?_
    rw [w64s (by omega)]
    refine deleteFunc_loop l a hn (l.length - (n + 1)) (n + 1) n l (by omega) (by omega) rfl ?_ (fun p _ => rfl)
    rw [take_succ_getD h3, List.filter_append, h4]
    simp only [ne_eq, not_true_eq_false, decide_false, Bool.false_eq_true, not_false_eq_true, List.filter_cons_of_neg, List.filter_nil, List.append_nil]
    refine (filter_all (a := a) (fun j hj => ?_)).symm
    rw [List.length_take] at hj
    rw [List.getD_eq_getElem?_getD, List.getElem?_take, if_pos (by omega), ← List.getD_eq_getElem?_getD]
    exact h5 j (by omega)

/-! turned lists -/
theorem rot_get {l : List Nat} {k i : Nat} (hk : k ≤ l.length) (hi : i < l.length) : (l.drop k ++ l.take k)[i]? = l[(k + i) % l.length]? := by
  by_cases h : i < l.length - k
  · rw [List.getElem?_append_left (by rw [List.length_drop]; omega), List.getElem?_drop, Nat.mod_eq_of_lt (by omega)]
  · rw [List.getElem?_append_right (by rw [List.length_drop]; omega), List.length_drop, List.getElem?_take, if_pos (by omega)]
    congr 1
    rw [show k + i = (i - (l.length - k)) + l.length by omega, Nat.add_mod_right, Nat.mod_eq_of_lt (by omega)]
theorem castL_append (a b : List Nat) : castL (a ++ b) = castL a ++ castL b := by simp [castL]
theorem castL_filter (l : List Nat) (v : Nat) : (castL l).filter (fun x => decide (x ≠ (v : Int))) = castL (l.filter (fun x => decide (x ≠ v))) := by
  induction l with
  | nil => rfl
  | cons a l ih =>
    simp only [castL, List.map_cons] at ih ⊢
    by_cases h : a = v
    · subst h
      rw [List.filter_cons_of_neg (by simp), List.filter_cons_of_neg (by simp), ih]
    · rw [List.filter_cons_of_pos (by simp; omega), List.filter_cons_of_pos (by simp; omega), ih]; rfl
theorem castL_filter_neg (l : List Nat) : (castL l).filter (fun x => decide (x ≠ (-1 : Int))) = castL l := by
  rw [List.filter_eq_self]
  intro x hx
  obtain ⟨y, _, rfl⟩ := List.mem_map.1 hx
  exact decide_eq_true (by omega)

section
variable {d : List Int} (h : IsT d) (hn : d.length ≤ 1000)
include h hn
theorem rest_filter {v w : Nat} (hv : v < d.length) (hw : w ∈ aroundM d v) : ((aroundM d w).drop ((aroundM d w).idxOf v) ++ (aroundM d w).take ((aroundM d w).idxOf v)).filter (fun x => decide (x ≠ v)) = restM d v w := by
  have hl := (around_lt h hv hw).1
  obtain ⟨hi, hs⟩ := split_at (around_sym h hv hw)
  have hnd := around_nodup h hl
  unfold restM
  have ei : (aroundM d w)[(aroundM d w).idxOf v] = v := List.getElem_idxOf hi
  rw [List.drop_eq_getElem_cons hi, ei]
  rw [hs, List.nodup_append] at hnd
  obtain ⟨h1, h2, h3⟩ := hnd
  rw [List.cons_append, List.filter_cons_of_neg (by simp)]
  rw [List.filter_eq_self.2]
  intro x hx
  refine decide_eq_true (fun e => ?_)
  subst e
  rcases List.mem_append.1 hx with hx | hx
  · exact (List.nodup_cons.1 h2).1 hx
  · exact h3 _ hx _ (by simp) rfl
theorem tot_drop (g : Nat → Nat) {l : List Nat} {i : Nat} (hi : i < l.length) : tot g (l.drop i) = g l[i] + tot g (l.drop (i + 1)) := by
  rw [List.drop_eq_getElem_cons hi]; rfl
theorem seen_drop {f v : Nat} {L : List Nat} {i : Nat} (hi : i < L.length) : ((L.drop i).map fun w => seenM d f w (restM d v w)).flatten = seenM d f L[i] (restM d v L[i]) ++ ((L.drop (i + 1)).map fun w => seenM d f w (restM d v w)).flatten := by
  rw [List.drop_eq_getElem_cons hi, List.map_cons, List.flatten_cons]
/-- The reference's search for v around w. -/
theorem spec_find_loop {v w : Nat} (hv : v < d.length) (hw : w ∈ aroundM d v) (a2 a3 : Int) (x9 x10 : List Int) (x11 : Int) (r : List Int)
    (H : Ev (fun k => (spec_l05From.f k d (w : Int) (((aroundM d w).idxOf v + 1 : Nat) : Int) (((aroundM d w).length : Int) - 1)).bind fun t => if x10.length + t.length < 17592186044416 then spec_l05From.l0 k (v : Int) a2 a3 x9 (x10 ++ t) (wrap64 (x11 + 1)) d else none) r) :
    ∀ (m i : Nat), i + m = (aroundM d w).idxOf v → Ev (fun k => spec_l05From.l1 k (v : Int) a2 a3 x9 x10 x11 (w : Int) (castL (aroundM d w)) (i : Int) d) r := by
  have hl := (around_lt h hv hw).1
  have hf := around_few h hn hl
  obtain ⟨hi, hs⟩ := split_at (around_sym h hv hw)
  have ei : (aroundM d w)[(aroundM d w).idxOf v] = v := List.getElem_idxOf hi
  intro m
  induction m with
  | zero =>
    intro i e
    have e' : i = (aroundM d w).idxOf v := by omega
    have hg : rd (castL (aroundM d w)) (i : Int) = (v : Int) := by
      have := castL_getD (aroundM d w) i (by omega)
      rw [rd_nat, this]
      congr 1
      subst e'
      exact ei
    refine Ev.step (fun k => by rw [spec_l05From.l1]) ?_
    rw [castL_length]
    refine ev_pos (by omega) (ev_pos (by omega) (ev_pos hg ?_))
    rw [w64s (by omega), w64 (x := ((aroundM d w).length : Int) - 1) (by omega) (by omega), e']
    exact H
  | succ m ih =>
    intro i e
    have hg : rd (castL (aroundM d w)) (i : Int) ≠ (v : Int) := by
      have := castL_getD (aroundM d w) i (by omega)
      rw [rd_nat, this]
      intro e2
      have e3 : (aroundM d w)[i] = v := by omega
      have hnd := around_nodup h hl
      have : i = (aroundM d w).idxOf v := (List.getElem_inj (h₀ := by omega) (h₁ := hi) hnd).1 (e3.trans ei.symm)
      omega
    refine Ev.step (fun k => by rw [spec_l05From.l1]) ?_
    rw [castL_length]
    refine ev_pos (by omega) (ev_pos (by omega) (ev_neg hg ?_))
    rw [w64s (by omega)]
    exact ih (i + 1) (by omega)
theorem spec_from_ev : ∀ (f v : Nat) (L : List Nat) (first : Nat), v < d.length → f < d.length → first ≤ (aroundM d v).length → L.length ≤ (aroundM d v).length → (∀ i, (hi : i < L.length) → (aroundM d v)[(first + i) % (aroundM d v).length]? = some L[i]) → tot (side d v) L ≤ f →
    Ev (fun k => spec_l05From.f k d (v : Int) (first : Int) (L.length : Int)) (seenM d (f + 1) v L)
  | f, v, L, first, hv, hf, hfi, hL, hget, ht => by
    have hfw := around_few h hn hv
    have hmem : ∀ x ∈ L, x ∈ aroundM d v := by
      intro x hx
      obtain ⟨i, hi, e⟩ := List.getElem_of_mem hx
      have := hget i hi
      rw [e] at this
      exact List.mem_of_getElem? this
    have inner : ∀ (m i : Nat) (acc : List Int), i + m = L.length → acc.length + tot (side d v) (L.drop i) ≤ d.length → Ev (fun k => spec_l05From.l0 k (v : Int) (first : Int) (L.length : Int) (castL (aroundM d v)) acc (i : Int) d) (acc ++ ((L.drop i).map fun w => seenM d f w (restM d v w)).flatten) := by
      intro m
      induction m with
      | zero =>
        intro i acc hi ha
        refine Ev.step (fun k => by rw [spec_l05From.l0]) ?_
        refine ev_neg (by omega) (ev_now ?_)
        rw [List.drop_of_length_le (by omega)]; simp
      | succ m ih =>
        intro i acc hi ha
        have hlt : i < L.length := by omega
        have hg := hget i hlt
        have hlen : 0 < (aroundM d v).length := by omega
        obtain ⟨hq, hqe⟩ := List.getElem?_eq_some_iff.1 hg
        have hw : L[i] ∈ aroundM d v := hmem _ (List.getElem_mem hlt)
        have hs := side_both h hv hw
        have htot := tot_ge (side d v) (List.getElem_mem hlt)
        obtain ⟨f', rfl⟩ : ∃ f', f = f' + 1 := ⟨f - 1, by omega⟩
        have hlw := (around_lt h hv hw).1
        have hrt := rest_tot h hv hw
        have hrl := rest_length h hv hw
        have hseen := seen_length h (f' + 1) v L[i] hv hw (by omega)
        rw [tot_drop h hn _ hlt] at ha
        have sub := spec_from_ev f' L[i] (restM d v L[i]) ((aroundM d L[i]).idxOf v + 1) hlw (by omega) (by have := (split_at (around_sym h hv hw)).1; omega) (by omega) (fun j hj => by
            have hi' := (split_at (around_sym h hv hw)).1
            rw [← rot_get (by omega) (by omega)]
            have : restM d v L[i] = (aroundM d L[i]).drop ((aroundM d L[i]).idxOf v + 1) ++ (aroundM d L[i]).take ((aroundM d L[i]).idxOf v) := rfl
            have hr : ((aroundM d L[i]).drop ((aroundM d L[i]).idxOf v + 1) ++ (aroundM d L[i]).take ((aroundM d L[i]).idxOf v + 1))[j]? = (restM d v L[i])[j]? := by
              rw [this, List.take_succ_eq_append_getElem hi', ← List.append_assoc, List.getElem?_append_left (by simp only [List.length_append, List.length_drop, List.length_take]; omega)]
            rw [hr, List.getElem?_eq_getElem hj]) (by omega)
        rw [seen_drop h hn hlt, ← List.append_assoc]
        have hmod : Int.tmod (wrap64 ((first : Int) + (i : Int))) ((castL (aroundM d v)).length : Int) = (((first + i) % (aroundM d v).length : Nat) : Int) := by
          rw [castL_length, w64 (by omega) (by omega), show (first : Int) + (i : Int) = ((first + i : Nat) : Int) by omega, ← Int.ofNat_tmod]
        have hrd : rd (castL (aroundM d v)) (((first + i) % (aroundM d v).length : Nat) : Int) = (L[i] : Int) := by
          have := castL_getD (aroundM d v) _ hq
          rw [rd_nat, this, hqe]
        refine Ev.step (fun k => by rw [spec_l05From.l0]) ?_
        rw [hmod, hrd, castL_length]
        refine ev_pos (by omega) (ev_neg (by omega) (ev_pos (Int.natCast_nonneg _) (ev_pos (Int.ofNat_lt.2 (Nat.mod_lt _ hlen)) (Ev.bind (spec_l05Around_ev h hn hlw) ?_))))
        refine spec_find_loop h hn hv hw _ _ _ _ _ _ ?_ ((aroundM d L[i]).idxOf v) 0 (by omega)
        rw [show (((aroundM d L[i]).length : Int) - 1) = ((restM d v L[i]).length : Int) by omega]
        refine Ev.bind sub (ev_pos (by omega) ?_)
        rw [w64s (by omega)]
        exact ih (i + 1) _ (by omega) (by rw [List.length_append, hseen]; omega)
    unfold seenM
    refine Ev.step (fun k => by rw [spec_l05From.f]) ?_
    refine Ev.bind (spec_l05Around_ev h hn hv) ?_
    have := inner L.length 0 [(L.length : Int)] (by omega) (by simp; omega)
    simpa using this
termination_by f => f
theorem impl_seen_ev : ∀ (f v : Nat) (L : List Nat) (kk : Nat) (above : Int), v < d.length → f < d.length → kk ≤ (aroundM d v).length → (∀ x ∈ L, x ∈ aroundM d v) → (castL ((aroundM d v).drop kk ++ (aroundM d v).take kk)).filter (fun x => decide (x ≠ above)) = castL L → tot (side d v) L ≤ f →
    Ev (fun k => impl_seen.f k d (v : Int) (kk : Int) above) (seenM d (f + 1) v L)
  | f, v, L, kk, above, hv, hf, hk, hmem, hflt, ht => by
    have hfw := around_few h hn hv
    have hLl : L.length ≤ (aroundM d v).length := by
      have h1 := congrArg List.length hflt
      rw [castL_length] at h1
      have h2 := List.length_filter_le (fun x => decide (x ≠ above)) (castL ((aroundM d v).drop kk ++ (aroundM d v).take kk))
      rw [castL_length, List.length_append, List.length_drop, List.length_take] at h2
      omega
    have inner : ∀ (m i : Nat) (acc : List Int), i + m = L.length → acc.length + tot (side d v) (L.drop i) ≤ d.length → Ev (fun k => impl_seen.l0 k d (v : Int) acc (castL L) (L.length : Int) (i : Int)) (acc ++ ((L.drop i).map fun w => seenM d f w (restM d v w)).flatten) := by
      intro m
      induction m with
      | zero =>
        intro i acc hi ha
        refine Ev.step (fun k => by rw [impl_seen.l0]) ?_
        refine ev_neg (by omega) (ev_now ?_)
        rw [List.drop_of_length_le (by omega)]; simp
      | succ m ih =>
        intro i acc hi ha
        have hlt : i < L.length := by omega
        have hw : L[i] ∈ aroundM d v := hmem _ (List.getElem_mem hlt)
        have hs := side_both h hv hw
        have htot := tot_ge (side d v) (List.getElem_mem hlt)
        obtain ⟨f', rfl⟩ : ∃ f', f = f' + 1 := ⟨f - 1, by omega⟩
        have hlw := (around_lt h hv hw).1
        have hrt := rest_tot h hv hw
        have hseen := seen_length h (f' + 1) v L[i] hv hw (by omega)
        have hi' := (split_at (around_sym h hv hw)).1
        have hfl := around_few h hn hlw
        rw [tot_drop h hn _ hlt] at ha
        have sub := impl_seen_ev f' L[i] (restM d v L[i]) ((aroundM d L[i]).idxOf v) (v : Int) hlw (by omega) (by omega) (fun x hx => rest_mem h hx) (by rw [castL_filter, rest_filter h hn hv hw]) (by omega)
        rw [seen_drop h hn hlt, ← List.append_assoc]
        have hrd : rd (castL L) (i : Int) = (L[i] : Int) := castL_getD L i hlt
        refine Ev.step (fun k => by rw [impl_seen.l0]) ?_
        rw [hrd, castL_length]
        refine ev_pos (by omega) (ev_pos (by omega) (ev_pos (by omega) (Ev.bind (impl_around_ev h hn hlw) (Ev.bind (index_ev _ _ (by omega) (around_sym h hv hw)) (Ev.bind sub (ev_pos (by omega) ?_))))))
        rw [w64s (by omega)]
        exact ih (i + 1) _ (by omega) (by rw [List.length_append, hseen]; omega)
    have hcat : ([((castL (aroundM d v)).drop kk), ((castL (aroundM d v)).take kk)] : List (List Int)).flatten = castL ((aroundM d v).drop kk ++ (aroundM d v).take kk) := by
      simp [castL]
    have hcl : (castL ((aroundM d v).drop kk ++ (aroundM d v).take kk)).length ≤ 1048576 := by
      rw [castL_length, List.length_append, List.length_drop, List.length_take]; omega
    unfold seenM
    refine Ev.step (fun k => by rw [impl_seen.f]) ?_
    refine Ev.bind (impl_around_ev h hn hv) (ev_pos (by omega) (ev_pos (by rw [castL_length]; omega) ?_))
    rw [show ((kk : Int)).toNat = kk from rfl]
    have hc := slices_Concat_ev [((castL (aroundM d v)).drop kk), ((castL (aroundM d v)).take kk)] (by simp) (by rw [hcat]; exact hcl)
    rw [hcat] at hc
    refine Ev.bind hc ?_
    have hd := deleteFunc_ev (castL ((aroundM d v).drop kk ++ (aroundM d v).take kk)) above hcl
    rw [hflt] at hd
    refine Ev.bind hd ?_
    rw [castL_length]
    have := inner L.length 0 [(L.length : Int)] (by omega) (by simp; omega)
    simpa using this
termination_by f => f
end
/-- The tree from corner k of v. -/
def cornerM (d : List Int) (v k : Nat) : List Int := seenM d d.length v ((aroundM d v).drop k ++ (aroundM d v).take k)
section
variable {d : List Int} (h : IsT d) (hn : d.length ≤ 1000)
include h hn
theorem corner_length {v k : Nat} (hv : v < d.length) : (cornerM d v k).length = d.length := by
  refine seen_root h hv (fun x hx => ?_) (rot_tot h hv)
  rcases List.mem_append.1 hx with hx | hx
  · exact List.mem_of_mem_drop hx
  · exact List.mem_of_mem_take hx
theorem spec_l05Corner_ev {v k : Nat} (hv : v < d.length) (hk : k ≤ (aroundM d v).length) : Ev (fun r => spec_l05Corner.f r d (v : Int) (k : Int)) (cornerM d v k) := by
  have h0 := h.len
  have hl : ((aroundM d v).drop k ++ (aroundM d v).take k).length = (aroundM d v).length := by simp only [List.length_append, List.length_drop, List.length_take]; omega
  have := spec_from_ev h hn (d.length - 1) v ((aroundM d v).drop k ++ (aroundM d v).take k) k hv (by omega) hk (by omega) (fun i hi => by rw [← rot_get hk (by omega), List.getElem?_eq_getElem hi]) (by rw [rot_tot h hv]; omega)
  rw [hl, show d.length - 1 + 1 = d.length by omega] at this
  unfold spec_l05Corner.f
  refine Ev.bind (spec_l05Around_ev h hn hv) ?_
  rw [castL_length]
  exact Ev.bind this (Ev.now _)
theorem impl_corner_ev {v k : Nat} (hv : v < d.length) (hk : k ≤ (aroundM d v).length) : Ev (fun r => impl_seen.f r d (v : Int) (k : Int) (-1)) (cornerM d v k) := by
  have h0 := h.len
  have := impl_seen_ev h hn (d.length - 1) v ((aroundM d v).drop k ++ (aroundM d v).take k) k (-1) hv (by omega) hk (fun x hx => by
    rcases List.mem_append.1 hx with hx | hx
    · exact List.mem_of_mem_drop hx
    · exact List.mem_of_mem_take hx) (castL_filter_neg _) (by rw [rot_tot h hv]; omega)
  rw [show d.length - 1 + 1 = d.length by omega] at this
  exact this
theorem impl_corners_ev {v : Nat} (hv : v < d.length) : Ev (fun r => impl_corners.f r d (v : Int)) ((max (aroundM d v).length 1 : Nat) : Int) := by
  unfold impl_corners.f
  refine Ev.bind (impl_around_ev h hn hv) (ev_now ?_)
  rw [castL_length]
  unfold mx
  split <;> omega
end
end Go.Proofs.Ytgbhlmmmighanaa.E
