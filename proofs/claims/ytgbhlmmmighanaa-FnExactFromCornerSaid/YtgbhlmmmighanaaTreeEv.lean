/- What both sides compute of a tree: is it one, ends of subtrees, children. -/
import Derived.Test.YtgbhlmmmighanaaTree
import Derived.Test.YtgbhlmmmighanaaEx1
namespace Go.Proofs.Ytgbhlmmmighanaa.E
set_option linter.unusedVariables false
set_option linter.unusedSectionVars false
open Go.RowKit Go.Proofs.YtgbhlmmmighanaaW.PrintWords Go.Proofs.Ytgbhlmmmighanaa.Base Go.Proofs.Ytgbhlmmmighanaa.Tree

theorem l01In_ev (a b c : Int) : spec_l01In.f a b c = some (decide (b ≤ a) && decide (a ≤ c)) := by
  unfold spec_l01In.f
  by_cases h : a ≥ b
  · rw [if_pos h]; simp [show b ≤ a from h]
  · rw [if_neg h]; simp [show ¬ b ≤ a from h]
theorem l01N_ev (d : List Int) : spec_l01N.f d = some (d.length : Int) := rfl

/-! is it a tree -/
def treeGo (d : List Int) (top : Int) : Nat → Nat → Int → Bool
  | 0, _, need => need == 0
  | m + 1, i, need => if need = 0 then false else if d.getD i 0 < 0 ∨ top < d.getD i 0 then false else treeGo d top m (i + 1) (need + d.getD i 0 - 1)
/-- Is it a tree of at most 24 nodes? -/
def isTreeM (d : List Int) : Bool := if d.length < 1 ∨ 24 < d.length then false else treeGo d 23 d.length 0 1
theorem treeGo_far (d : List Int) (top : Int) : ∀ (m i : Nat) (need : Int), (m : Int) < need → treeGo d top m i need = false
  | 0, i, need, h => by
    have hne : need ≠ 0 := by omega
    simp [treeGo, hne]
  | m + 1, i, need, h => by
    simp only [treeGo]
    rw [if_neg (by omega)]
    split
    · rfl
    · exact treeGo_far d top m (i + 1) _ (by omega)
theorem treeGo_top (d : List Int) : ∀ (m i : Nat) (need : Int), m ≤ 24 → 0 ≤ need → treeGo d 24 m i need = treeGo d 23 m i need
  | 0, i, need, _, _ => rfl
  | m + 1, i, need, h, h0 => by
    simp only [treeGo]
    by_cases hn : need = 0
    · rw [if_pos hn, if_pos hn]
    · rw [if_neg hn, if_neg hn]
      by_cases h1 : d.getD i 0 < 0 ∨ 24 < d.getD i 0
      · rw [if_pos h1, if_pos (by omega)]
      · rw [if_neg h1]
        by_cases h2 : d.getD i 0 = 24
        · rw [if_pos (by omega)]
          exact treeGo_far d 24 m (i + 1) _ (by omega)
        · rw [if_neg (by omega)]
          exact treeGo_top d m (i + 1) _ (by omega) (by omega)
theorem treeGo_sound (d : List Int) (top : Int) : ∀ (m i : Nat), i + m = d.length → 0 ≤ nd d i → treeGo d top m i (nd d i) = true → (∀ j, i ≤ j → j < d.length → 0 < nd d j ∧ 0 ≤ d.getD j 0) ∧ nd d d.length = 0
  | 0, i, h, h0, ht => by
    simp only [treeGo, beq_iff_eq] at ht
    have e : i = d.length := by omega
    subst e
    exact ⟨fun j h1 h2 => by omega, ht⟩
  | m + 1, i, h, h0, ht => by
    simp only [treeGo] at ht
    split at ht
    · cases ht
    · split at ht
      · cases ht
      · have e : nd d i + d.getD i 0 - 1 = nd d (i + 1) := rfl
        rw [e] at ht
        have ih := treeGo_sound d top m (i + 1) (by omega) (by rw [← e]; omega) ht
        refine ⟨fun j h1 h2 => ?_, ih.2⟩
        by_cases hj : j = i
        · subst hj; exact ⟨by omega, by omega⟩
        · exact ih.1 j (by omega) h2
theorem isTreeM_sound {d : List Int} (h : isTreeM d = true) : IsT d ∧ d.length ≤ 24 := by
  unfold isTreeM at h
  split at h
  · cases h
  · have := treeGo_sound d 23 d.length 0 (by omega) (by simp [nd]) (by simpa [nd] using h)
    exact ⟨⟨fun i hi => (this.1 i (Nat.zero_le _) hi).1, fun i hi => (this.1 i (Nat.zero_le _) hi).2, this.2⟩, by omega⟩
theorem impl_isTree_loop (d : List Int) (hn : d.length ≤ 24) : ∀ (m i : Nat) (need : Int), i + m = d.length → 0 ≤ need → need ≤ 1 + 24 * i → Ev (fun k => impl_isTree.l0 k need d (d.length : Int) (i : Int)) (treeGo d 23 m i need)
  | 0, i, need, h, h0, h1 => by
    refine Ev.step (fun k => by rw [impl_isTree.l0]) ?_
    exact ev_neg (by omega) (Ev.now _)
  | m + 1, i, need, h, h0, h1 => by
    refine Ev.step (fun k => by rw [impl_isTree.l0]) ?_
    refine ev_pos (by omega) (ev_pos (by omega) (ev_pos (by omega) ?_))
    simp only [treeGo, rd_nat]
    refine ev_ite (fun hx => ?_) (fun hx => ?_)
    · rw [if_pos hx]; exact Ev.now _
    · rw [if_neg hx]
      refine ev_ite (fun hy => ?_) (fun hy => ?_)
      · rw [if_pos (.inl hy)]; exact Ev.now _
      · refine ev_ite (fun hz => ?_) (fun hz => ?_)
        · rw [if_pos (.inr (by omega))]; exact Ev.now _
        · rw [if_neg (by omega), w64s (by omega), w64 (x := d.getD i 0 - 1) (by omega) (by omega), w64 (by omega) (by omega), show need + (d.getD i 0 - 1) = need + d.getD i 0 - 1 by omega]
          exact impl_isTree_loop d hn m (i + 1) _ (by omega) (by omega) (by omega)
theorem impl_isTree_ev (d : List Int) : Ev (fun k => impl_isTree.f k d) (isTreeM d) := by
  unfold impl_isTree.f isTreeM
  refine ev_ite (fun h => ?_) (fun h => ?_)
  · rw [if_pos (.inl (by omega))]
    refine Ev.step (fun k => by rw [impl_isTree.j0]) ?_
    exact ev_pos rfl (Ev.now _)
  · by_cases h2 : 24 < d.length
    · rw [if_pos (.inr h2), decide_eq_true (by omega)]
      refine Ev.step (fun k => by rw [impl_isTree.j0]) ?_
      exact ev_pos rfl (Ev.now _)
    · rw [if_neg (by omega), decide_eq_false (by omega)]
      refine Ev.step (fun k => by rw [impl_isTree.j0]) ?_
      exact ev_neg (by decide) (impl_isTree_loop d (by omega) d.length 0 1 (by omega) (by omega) (by omega))
theorem impl_IsTree_ev (d : List Int) : Ev (fun k => impl_IsTree.f k d) (isTreeM d) := by
  unfold impl_IsTree.f
  exact Ev.bind (impl_isTree_ev d) (Ev.now _)
theorem spec_l01Is_loop (d : List Int) (hn : d.length ≤ 24) : ∀ (m i : Nat) (need : Int), i + m = d.length → 0 ≤ need → need ≤ 1 + 24 * i → Ev (fun k => spec_l01Is.l0 k need (i : Int) d) (treeGo d 24 m i need)
  | 0, i, need, h, h0, h1 => by
    refine Ev.step (fun k => by rw [spec_l01Is.l0]) ?_
    exact ev_neg (by omega) (Ev.now _)
  | m + 1, i, need, h, h0, h1 => by
    refine Ev.step (fun k => by rw [spec_l01Is.l0]) ?_
    refine ev_pos (by omega) ?_
    simp only [treeGo, rd_nat, l01In_ev]
    refine ev_ite (fun hx => ?_) (fun hx => ?_)
    · rw [if_pos hx]; exact Ev.now _
    · rw [if_neg hx]
      refine ev_pos (by omega) (ev_some ?_)
      refine ev_ite (fun hy => ?_) (fun hy => ?_)
      · rw [Bool.and_eq_true, decide_eq_true_eq, decide_eq_true_eq] at hy
        rw [if_neg (by omega), w64s (by omega), w64 (x := need - 1) (by omega) (by omega), w64 (by omega) (by omega), show need - 1 + d.getD i 0 = need + d.getD i 0 - 1 by omega]
        exact spec_l01Is_loop d hn m (i + 1) _ (by omega) (by omega) (by omega)
      · rw [Bool.and_eq_true, decide_eq_true_eq, decide_eq_true_eq] at hy
        rw [if_pos (by omega)]; exact Ev.now _
theorem spec_l01Is_ev (d : List Int) (hd : d.length ≤ 1048576) : Ev (fun k => spec_l01Is.f k d) (isTreeM d) := by
  unfold spec_l01Is.f isTreeM
  simp only [l01N_ev, l01In_ev]
  refine ev_some (ev_some ?_)
  refine ev_ite (fun h => ?_) (fun h => ?_)
  · rw [Bool.and_eq_true, decide_eq_true_eq, decide_eq_true_eq] at h
    rw [if_neg (by omega), ← treeGo_top d d.length 0 1 (by omega) (by omega)]
    exact spec_l01Is_loop d (by omega) d.length 0 1 (by omega) (by omega) (by omega)
  · rw [Bool.and_eq_true, decide_eq_true_eq, decide_eq_true_eq] at h
    rw [if_pos (by omega)]; exact Ev.now _

/-! ends of subtrees, children -/
section
variable {d : List Int} (h : IsT d) (hn : d.length ≤ 1000)
include h hn
theorem impl_endOf_loop {v : Nat} (hv : v < d.length) : ∀ (f u : Nat), u + f = d.length → v ≤ u → Ev (fun k => impl_endOf.l0 k d (u : Int) (1 + nd d u - nd d v)) (skip d f (1 + nd d u - nd d v) u : Int) := by
  have b : ∀ u, u ≤ d.length → 0 ≤ nd d u ∧ nd d u ≤ 1000 := fun u hu => ⟨nd_nonneg h hu, by have := nd_le h hu; omega⟩
  intro f
  induction f with
  | zero =>
    intro u hf hu
    have e : u = d.length := by omega
    have h1 := h.fin
    have h2 := h.pos v hv
    refine Ev.step (fun k => by rw [impl_endOf.l0]) ?_
    refine ev_neg (by subst e; omega) (ev_now ?_)
    simp [skip]
  | succ f ih =>
    intro u hf hu
    have b1 := b u (by omega)
    have b2 := b v (by omega)
    have b3 := b (u + 1) (by omega)
    have e : 1 + nd d u - nd d v + (d.getD u 0 - 1) = 1 + nd d (u + 1) - nd d v := by simp only [nd]; omega
    have e2 : nd d (u + 1) = nd d u + d.getD u 0 - 1 := rfl
    refine Ev.step (fun k => by rw [impl_endOf.l0]) ?_
    simp only [skip, rd_nat]
    refine ev_ite (fun hx => ?_) (fun hx => ?_)
    · rw [if_pos hx]
      refine ev_pos (by omega) (ev_pos (by omega) ?_)
      rw [w64s (by omega), w64 (x := d.getD u 0 - 1) (by omega) (by omega), w64 (by omega) (by omega), e]
      exact ih (u + 1) (by omega) (by omega)
    · rw [if_neg hx]; exact Ev.now _
theorem impl_endOf_ev {v : Nat} (hv : v < d.length) : Ev (fun k => impl_endOf.f k d (v : Int)) (endM d v : Int) := by
  have := impl_endOf_loop h hn hv (d.length - v) v (by omega) (Nat.le_refl _)
  rw [show 1 + nd d v - nd d v = 1 by omega] at this
  exact this
theorem spec_l01End_loop {v : Nat} (hv : v < d.length) : ∀ (f u : Nat), u + f = d.length → v ≤ u → Ev (fun k => spec_l01End.l0 k (u : Int) (1 + nd d u - nd d v) d) (skip d f (1 + nd d u - nd d v) u : Int) := by
  have b : ∀ u, u ≤ d.length → 0 ≤ nd d u ∧ nd d u ≤ 1000 := fun u hu => ⟨nd_nonneg h hu, by have := nd_le h hu; omega⟩
  intro f
  induction f with
  | zero =>
    intro u hf hu
    have e : u = d.length := by omega
    have h1 := h.fin
    have h2 := h.pos v hv
    refine Ev.step (fun k => by rw [spec_l01End.l0]) ?_
    refine ev_neg (by subst e; omega) (ev_now ?_)
    simp [skip]
  | succ f ih =>
    intro u hf hu
    have b1 := b u (by omega)
    have b2 := b v (by omega)
    have b3 := b (u + 1) (by omega)
    have e : 1 + nd d u - nd d v - 1 + d.getD u 0 = 1 + nd d (u + 1) - nd d v := by simp only [nd]; omega
    have e1 : 1 + nd d u - nd d v + (d.getD u 0 - 1) = 1 + nd d (u + 1) - nd d v := by simp only [nd]; omega
    have e2 : nd d (u + 1) = nd d u + d.getD u 0 - 1 := rfl
    refine Ev.step (fun k => by rw [spec_l01End.l0]) ?_
    simp only [skip, rd_nat]
    refine ev_ite (fun hx => ?_) (fun hx => ?_)
    · rw [if_pos hx]
      refine ev_pos (by omega) (ev_pos (by omega) ?_)
      rw [w64s (by omega), w64 (x := 1 + nd d u - nd d v - 1) (by omega) (by omega), w64 (by omega) (by omega), e, e1]
      exact ih (u + 1) (by omega) (by omega)
    · rw [if_neg hx]; exact Ev.now _
theorem spec_l01End_ev {v : Nat} (hv : v < d.length) : Ev (fun k => spec_l01End.f k d (v : Int)) (endM d v : Int) := by
  have := spec_l01End_loop h hn hv (d.length - v) v (by omega) (Nat.le_refl _)
  rw [show 1 + nd d v - nd d v = 1 by omega] at this
  exact this
end
def castL (l : List Nat) : List Int := List.map (fun x : Nat => ((x : Nat) : Int)) l
theorem castL_length (l : List Nat) : (castL l).length = l.length := by simp [castL]
theorem castL_getD (l : List Nat) (j : Nat) (h : j < l.length) : (castL l).getD j 0 = (l[j] : Int) := by
  simp [castL, List.getD_eq_getElem?_getD, h]
theorem kids_few {d : List Int} (h : IsT d) {v : Nat} (hv : v < d.length) : (kidsM d v).length < d.length := by
  have h1 := deg_le h hv
  have h2 := h.deg v hv
  unfold kidsM
  rw [kidsFrom_length]
  omega
section
variable {d : List Int} (h : IsT d) (hn : d.length ≤ 1000)
include h hn
theorem impl_kidsOf_loop {n m c e : Nat} (r : Run d m c e) (hc : c < 9223372036854775807) : ∀ (acc : List Int) (j : Nat), j + m = n → n ≤ 1000 → acc.length + m ≤ 1000 → Ev (fun k => impl_kidsOf.l0 k d acc (c : Int) (n : Int) (j : Int)) (acc ++ castL (kidsFrom d m c)) := by
  induction r with
  | nil c =>
    intro acc j h1 h2 h3
    refine Ev.step (fun k => by rw [impl_kidsOf.l0]) ?_
    exact ev_neg (by omega) (ev_now (by simp [kidsFrom, castL]))
  | @cons m c e hlt r ih =>
    intro acc j h1 h2 h3
    refine Ev.step (fun k => by rw [impl_kidsOf.l0]) ?_
    refine ev_pos (by omega) (ev_pos (by omega) (Ev.bind (impl_endOf_ev h hn hlt) ?_))
    rw [w64s (by omega)]
    have hle := end_le h hlt
    have := ih (by omega) (acc ++ [(c : Int)]) (j + 1) (by omega) h2 (by simp; omega)
    simpa [kidsFrom, castL] using this
theorem impl_kidsOf_ev {v : Nat} (hv : v < d.length) : Ev (fun k => impl_kidsOf.f k d (v : Int)) (castL (kidsM d v)) := by
  have h0 := h.deg v hv
  have h1 := deg_le h hv
  unfold impl_kidsOf.f
  refine ev_pos (by omega) (ev_pos (by omega) ?_)
  rw [w64s (by omega), rd_nat]
  have := impl_kidsOf_loop h hn (n := (d.getD v 0).toNat) (run_kids h hv) (by omega) [] 0 (by omega) (by omega) (by simp only [List.length_nil]; omega)
  rw [show (((d.getD v 0).toNat : Nat) : Int) = d.getD v 0 by omega] at this
  simpa [kidsM] using this
theorem spec_l01Children_loop {m c e : Nat} (r : Run d m c e) (hc : c < 9223372036854775807) : ∀ (acc : List Int), m ≤ 1000 → acc.length + m ≤ 1000 → Ev (fun k => spec_l01Children.l0 k acc (c : Int) (m : Int) d) (acc ++ castL (kidsFrom d m c)) := by
  induction r with
  | nil c =>
    intro acc h2 h3
    refine Ev.step (fun k => by rw [spec_l01Children.l0]) ?_
    exact ev_neg (by omega) (ev_now (by simp [kidsFrom, castL]))
  | @cons m c e hlt r ih =>
    intro acc h2 h3
    refine Ev.step (fun k => by rw [spec_l01Children.l0]) ?_
    refine ev_pos (by omega) (ev_pos (by omega) (Ev.bind (spec_l01End_ev h hn hlt) ?_))
    rw [w64p (by omega)]
    have hle := end_le h hlt
    have := ih (by omega) (acc ++ [(c : Int)]) (by omega) (by simp; omega)
    simpa [kidsFrom, castL] using this
theorem spec_l01Children_ev {v : Nat} (hv : v < d.length) : Ev (fun k => spec_l01Children.f k d (v : Int)) (castL (kidsM d v)) := by
  have h0 := h.deg v hv
  have h1 := deg_le h hv
  unfold spec_l01Children.f
  refine ev_pos (by omega) (ev_pos (by omega) ?_)
  rw [w64s (by omega), rd_nat]
  have := spec_l01Children_loop h hn (run_kids h hv) (by omega) [] (by omega) (by simp only [List.length_nil]; omega)
  rw [show (((d.getD v 0).toNat : Nat) : Int) = d.getD v 0 by omega] at this
  simpa [kidsM] using this
end
end Go.Proofs.Ytgbhlmmmighanaa.E
