/- The row of the law FnExactFirstInside, out of its pure statement. -/
import Derived.Test.YtehincgnkgklkaaQFIEx1
import Derived.Test.YtehincgnkgklkaaQFIEx2
import Derived.Test.YtehincgnkgklkaaQFIEx3
import Derived.Test.YtehincgnkgklkaaQFIEx5
import Derived.Test.YtehincgnkgklkaaQFIEx6
import Derived.Test.YtehincgnkgklkaaQFIW
import Derived.Deep.Slices
import Derived.Lib.SmallJoins
import Derived.OpenShut
import Derived.WalkKit
namespace Go.Proofs.Ytehincgnkgklkaa.Base
set_option linter.unusedVariables false
set_option linter.unusedSectionVars false
open Go.RowKit Go.Proofs.YtehincgnkgklkaaW.PrintWords

theorem ev_pos {α : Type} {c : Prop} [Decidable c] {f g : Nat → Option α} {r : α} (h : c) (k : Ev f r) : Ev (fun n => if c then f n else g n) r := by
  simpa [h] using k
theorem ev_neg {α : Type} {c : Prop} [Decidable c] {f g : Nat → Option α} {r : α} (h : ¬ c) (k : Ev g r) : Ev (fun n => if c then f n else g n) r := by
  simpa [h] using k
theorem ev_ite {α : Type} {c : Prop} [Decidable c] {f g : Nat → Option α} {r : α} (h : c → Ev f r) (k : ¬ c → Ev g r) : Ev (fun n => if c then f n else g n) r := by
  by_cases hc : c
  · exact ev_pos hc (h hc)
  · exact ev_neg hc (k hc)
theorem ev_now {α : Type} {a r : α} (h : a = r) : Ev (fun _ => some a) r := h ▸ Ev.now a
theorem ev_some {α β : Type} {f : Nat → α → Option β} {a : α} {r : β} (k : Ev (fun n => f n a) r) : Ev (fun n => (some a).bind (f n)) r := by
  simpa using k
theorem ev_eq {α : Type} {g : Nat → Option α} {a r : α} (k : Ev g a) (h : a = r) : Ev g r := h ▸ k

theorem w64 {x : Int} (h1 : -9223372036854775808 ≤ x) (h2 : x ≤ 9223372036854775807) : wrap64 x = x := by unfold wrap64; omega
theorem w64s {i : Nat} (h : i < 9223372036854775807) : wrap64 ((i : Int) + 1) = ((i + 1 : Nat) : Int) := by unfold wrap64; omega
theorem rd_nat (l : List Int) (i : Nat) : rd l (i : Int) = l.getD i 0 := rfl
theorem rd_lt {l : List Int} {i : Nat} (h : i < l.length) : rd l (i : Int) = l[i] := by
  rw [rd_nat, List.getD_eq_getElem?_getD, List.getElem?_eq_getElem h]; rfl
theorem set_eq {l m : List Int} {i : Nat} (hl : m.length = l.length) (h : ∀ j, j < i → m.getD j 0 = l.getD j 0) : ∀ j, j < i + 1 → (m.set i (l.getD i 0)).getD j 0 = l.getD j 0 := by
  intro j hj
  rw [List.getD_eq_getElem?_getD, List.getElem?_set]
  by_cases e : i = j
  · subst e
    by_cases hlt : i < m.length
    · simp [hlt]
    · rw [if_pos rfl, if_neg hlt, List.getD_eq_getElem?_getD, List.getElem?_eq_none (by omega)]
  · rw [if_neg e, ← List.getD_eq_getElem?_getD]
    exact h j (by omega)
theorem ext_getD {l m : List Int} (hl : m.length = l.length) (h : ∀ j, j < l.length → m.getD j 0 = l.getD j 0) : m = l := by
  apply List.ext_getElem hl
  intro j h1 h2
  have := h j h2
  rwa [List.getD_eq_getElem?_getD, List.getD_eq_getElem?_getD, List.getElem?_eq_getElem h1, List.getElem?_eq_getElem h2] at this
theorem get_set_ne {l : List Int} {i j : Nat} {v : Int} (h : i ≠ j) : (l.set i v).getD j 0 = l.getD j 0 := by
  rw [List.getD_eq_getElem?_getD, List.getElem?_set_ne h, ← List.getD_eq_getElem?_getD]
theorem get_set_eq {l : List Int} {i : Nat} {v : Int} (h : i < l.length) : (l.set i v).getD i 0 = v := by
  rw [List.getD_eq_getElem?_getD, List.getElem?_set_self h]; rfl
end Go.Proofs.Ytehincgnkgklkaa.Base
namespace Go.Proofs.Ytehincgnkgklkaa.Tree
set_option linter.unusedVariables false
set_option linter.unusedSectionVars false

def nd (d : List Int) : Nat → Int
  | 0 => 1
  | i + 1 => nd d i + d.getD i 0 - 1

structure IsT (d : List Int) : Prop where
  pos : ∀ i, i < d.length → 0 < nd d i
  deg : ∀ i, i < d.length → 0 ≤ d.getD i 0
  fin : nd d d.length = 0

def skip (d : List Int) : Nat → Int → Nat → Nat
  | 0, _, v => v
  | f + 1, need, v => if need > 0 then skip d f (need + (d.getD v 0 - 1)) (v + 1) else v
def endM (d : List Int) (v : Nat) : Nat := skip d (d.length - v) 1 v

theorem IsT.len {d : List Int} (h : IsT d) : 0 < d.length := by
  rcases Nat.eq_zero_or_pos d.length with h0 | h0
  · have := h.fin
    rw [h0] at this
    simp [nd] at this
  · exact h0

theorem skip_spec {d : List Int} (h : IsT d) {v : Nat} (hv : v < d.length) : ∀ (f u : Nat), u + f = d.length → v ≤ u → (∀ j, v < j → j < u → nd d v ≤ nd d j) →
    (u = v ∨ nd d v - 1 ≤ nd d u) →
    v < skip d f (1 + nd d u - nd d v) u ∧ skip d f (1 + nd d u - nd d v) u ≤ d.length ∧ nd d (skip d f (1 + nd d u - nd d v) u) = nd d v - 1 ∧ ∀ j, v < j → j < skip d f (1 + nd d u - nd d v) u → nd d v ≤ nd d j := by
  intro f
  induction f with
  | zero =>
    intro u hf hvu hj hu
    have hn : u = d.length := by omega
    have h1 := h.fin
    have h2 := h.pos v hv
    subst hn
    simp only [skip]
    refine ⟨hv, Nat.le_refl _, ?_, hj⟩
    rcases hu with hu | hu
    · omega
    · omega
  | succ f ih =>
    intro u hf hvu hj hu
    have hlt : u < d.length := by omega
    simp only [skip]
    by_cases hn : 1 + nd d u - nd d v > 0
    · rw [if_pos hn]
      have e : 1 + nd d u - nd d v + (d.getD u 0 - 1) = 1 + nd d (u + 1) - nd d v := by simp only [nd]; omega
      rw [e]
      refine ih (u + 1) (by omega) (by omega) (fun j h1 h2 => ?_) (.inr ?_)
      · by_cases hju : j = u
        · subst hju; omega
        · exact hj j h1 (by omega)
      · have := h.deg u hlt
        simp only [nd]; omega
    · rw [if_neg hn]
      rcases hu with hu | hu
      · subst hu; omega
      · have hne : v ≠ u := by intro e; subst e; omega
        exact ⟨by omega, by omega, by omega, hj⟩

section
variable {d : List Int} (h : IsT d)
include h
theorem end_spec {v : Nat} (hv : v < d.length) : v < endM d v ∧ endM d v ≤ d.length ∧ nd d (endM d v) = nd d v - 1 ∧ ∀ j, v < j → j < endM d v → nd d v ≤ nd d j := by
  have := skip_spec h hv (d.length - v) v (by omega) (Nat.le_refl _) (fun j h1 h2 => by omega) (.inl rfl)
  have e : 1 + nd d v - nd d v = 1 := by omega
  rw [e] at this
  exact this
theorem end_gt {v : Nat} (hv : v < d.length) : v < endM d v := (end_spec h hv).1
theorem end_le {v : Nat} (hv : v < d.length) : endM d v ≤ d.length := (end_spec h hv).2.1
theorem end_nd {v : Nat} (hv : v < d.length) : nd d (endM d v) = nd d v - 1 := (end_spec h hv).2.2.1
theorem end_in {v j : Nat} (hv : v < d.length) (h1 : v < j) (h2 : j < endM d v) : nd d v ≤ nd d j := (end_spec h hv).2.2.2 j h1 h2
theorem nd_le {i : Nat} (hi : i ≤ d.length) : nd d i ≤ d.length - i := by
  obtain ⟨k, hk⟩ : ∃ k, i + k = d.length := ⟨d.length - i, by omega⟩
  induction k generalizing i with
  | zero => have := h.fin; have e : i = d.length := by omega
            subst e; omega
  | succ k ih =>
    have := ih (i := i + 1) (by omega) (by omega)
    have h1 := h.deg i (by omega)
    simp only [nd] at this
    omega
theorem nd_nonneg {i : Nat} (hi : i ≤ d.length) : 0 ≤ nd d i := by
  rcases Nat.lt_or_ge i d.length with hl | hl
  · have := h.pos i hl; omega
  · have e : i = d.length := by omega
    have := h.fin
    subst e; omega
theorem end_mono {u v : Nat} (hv : v < d.length) (h1 : v ≤ u) (h2 : u < endM d v) : endM d u ≤ endM d v := by
  rcases Nat.eq_or_lt_of_le h1 with e | hl
  · subst e; exact Nat.le_refl _
  · have hu : u < d.length := by have := end_le h hv; omega
    rcases Nat.lt_or_ge (endM d v) (endM d u) with hx | hx
    · have a := end_in h hu h2 hx
      have b := end_in h hv hl h2
      have c := end_nd h hv
      omega
    · exact hx
end

inductive Run (d : List Int) : Nat → Nat → Nat → Prop
  | nil (c : Nat) : Run d 0 c c
  | cons {m c e : Nat} : c < d.length → Run d m (endM d c) e → Run d (m + 1) c e

section
variable {d : List Int} (h : IsT d)
include h
end
section
variable {d : List Int} (h : IsT d)
include h
end

section
variable {d : List Int} (h : IsT d)
include h
end

def below (d : List Int) (v w : Nat) : Prop := w ≤ v ∧ v < endM d w
instance (d : List Int) (v w : Nat) : Decidable (below d v w) := inferInstanceAs (Decidable (_ ∧ _))
section
variable {d : List Int} (h : IsT d)
include h
end
end Go.Proofs.Ytehincgnkgklkaa.Tree
namespace Go.Proofs.Ytehincgnkgklkaa.E
set_option linter.unusedVariables false
set_option linter.unusedSectionVars false
open Go.RowKit Go.Proofs.YtehincgnkgklkaaW.PrintWords Go.Proofs.Ytehincgnkgklkaa.Base Go.Proofs.Ytehincgnkgklkaa.Tree

theorem l01In_ev (a b c : Int) : spec_l01In.f a b c = some (decide (b ≤ a) && decide (a ≤ c)) := by
  unfold spec_l01In.f
  by_cases h : a ≥ b
  · rw [if_pos h]; simp [show b ≤ a from h]
  · rw [if_neg h]; simp [show ¬ b ≤ a from h]
theorem l01N_ev (d : List Int) : spec_l01N.f d = some (d.length : Int) := rfl

def treeGo (d : List Int) (top : Int) : Nat → Nat → Int → Bool
  | 0, _, need => need == 0
  | m + 1, i, need => if need = 0 then false else if d.getD i 0 < 0 ∨ top < d.getD i 0 then false else treeGo d top m (i + 1) (need + d.getD i 0 - 1)
def isTreeM (d : List Int) : Bool := if d.length < 1 ∨ 24 < d.length then false else treeGo d 23 d.length 0 1
theorem treeGo_far (d : List Int) (top : Int) : ∀ (m i : Nat) (need : Int), (m : Int) < need → treeGo d top m i need = false
  | 0, i, need, h => by
    have hne : need ≠ 0 := by omega
    simp [treeGo, hne]
  | m + 1, i, need, h => by
    simp only [treeGo]
    rw [if_neg (by omega)]
    split
    · rfl
    · exact treeGo_far d top m (i + 1) _ (by omega)
theorem treeGo_top (d : List Int) : ∀ (m i : Nat) (need : Int), m ≤ 24 → 0 ≤ need → treeGo d 24 m i need = treeGo d 23 m i need
  | 0, i, need, _, _ => rfl
  | m + 1, i, need, h, h0 => by
    simp only [treeGo]
    by_cases hn : need = 0
    · rw [if_pos hn, if_pos hn]
    · rw [if_neg hn, if_neg hn]
      by_cases h1 : d.getD i 0 < 0 ∨ 24 < d.getD i 0
      · rw [if_pos h1, if_pos (by omega)]
      · rw [if_neg h1]
        by_cases h2 : d.getD i 0 = 24
        · rw [if_pos (by omega)]
          exact treeGo_far d 24 m (i + 1) _ (by omega)
        · rw [if_neg (by omega)]
          exact treeGo_top d m (i + 1) _ (by omega) (by omega)
theorem treeGo_sound (d : List Int) (top : Int) : ∀ (m i : Nat), i + m = d.length → 0 ≤ nd d i → treeGo d top m i (nd d i) = true → (∀ j, i ≤ j → j < d.length → 0 < nd d j ∧ 0 ≤ d.getD j 0) ∧ nd d d.length = 0
  | 0, i, h, h0, ht => by
    simp only [treeGo, beq_iff_eq] at ht
    have e : i = d.length := by omega
    subst e
    exact ⟨fun j h1 h2 => by omega, ht⟩
  | m + 1, i, h, h0, ht => by
    simp only [treeGo] at ht
    split at ht
    · cases ht
    · split at ht
      · cases ht
      · have e : nd d i + d.getD i 0 - 1 = nd d (i + 1) := rfl
        rw [e] at ht
        have ih := treeGo_sound d top m (i + 1) (by omega) (by rw [← e]; omega) ht
        refine ⟨fun j h1 h2 => ?_, ih.2⟩
        by_cases hj : j = i
        · subst hj; exact ⟨by omega, by omega⟩
        · exact ih.1 j (by omega) h2
theorem isTreeM_sound {d : List Int} (h : isTreeM d = true) : IsT d ∧ d.length ≤ 24 := by
  unfold isTreeM at h
  split at h
  · cases h
  · have := treeGo_sound d 23 d.length 0 (by omega) (by simp [nd]) (by simpa [nd] using h)
    exact ⟨⟨fun i hi => (this.1 i (Nat.zero_le _) hi).1, fun i hi => (this.1 i (Nat.zero_le _) hi).2, this.2⟩, by omega⟩
theorem impl_isTree_loop (d : List Int) (hn : d.length ≤ 24) : ∀ (m i : Nat) (need : Int), i + m = d.length → 0 ≤ need → need ≤ 1 + 24 * i → Ev (fun k => impl_isTree.l0 k need d (d.length : Int) (i : Int)) (treeGo d 23 m i need)
  | 0, i, need, h, h0, h1 => by
    refine Ev.step (fun k => by rw [impl_isTree.l0]) ?_
    exact ev_neg (by omega) (Ev.now _)
  | m + 1, i, need, h, h0, h1 => by
    refine Ev.step (fun k => by rw [impl_isTree.l0]) ?_
    refine ev_pos (by omega) (ev_pos (by omega) (ev_pos (by omega) ?_))
    simp only [treeGo, rd_nat]
    refine ev_ite (fun hx => ?_) (fun hx => ?_)
    · rw [if_pos hx]; exact Ev.now _
    · rw [if_neg hx]
      refine ev_ite (fun hy => ?_) (fun hy => ?_)
      · rw [if_pos (.inl hy)]; exact Ev.now _
      · refine ev_ite (fun hz => ?_) (fun hz => ?_)
        · rw [if_pos (.inr (by omega))]; exact Ev.now _
        · rw [if_neg (by omega), w64s (by omega), w64 (x := d.getD i 0 - 1) (by omega) (by omega), w64 (by omega) (by omega), show need + (d.getD i 0 - 1) = need + d.getD i 0 - 1 by omega]
          exact impl_isTree_loop d hn m (i + 1) _ (by omega) (by omega) (by omega)
theorem impl_isTree_ev (d : List Int) : Ev (fun k => impl_isTree.f k d) (isTreeM d) := by
  unfold impl_isTree.f isTreeM
  refine ev_ite (fun h => ?_) (fun h => ?_)
  · rw [if_pos (.inl (by omega))]
    refine Ev.step (fun k => by rw [impl_isTree.j0]) ?_
    exact ev_pos rfl (Ev.now _)
  · by_cases h2 : 24 < d.length
    · rw [if_pos (.inr h2), decide_eq_true (by omega)]
      refine Ev.step (fun k => by rw [impl_isTree.j0]) ?_
      exact ev_pos rfl (Ev.now _)
    · rw [if_neg (by omega), decide_eq_false (by omega)]
      refine Ev.step (fun k => by rw [impl_isTree.j0]) ?_
      exact ev_neg (by decide) (impl_isTree_loop d (by omega) d.length 0 1 (by omega) (by omega) (by omega))
theorem impl_IsTree_ev (d : List Int) : Ev (fun k => impl_IsTree.f k d) (isTreeM d) := by
  unfold impl_IsTree.f
  exact Ev.bind (impl_isTree_ev d) (Ev.now _)
theorem spec_l01Is_loop (d : List Int) (hn : d.length ≤ 24) : ∀ (m i : Nat) (need : Int), i + m = d.length → 0 ≤ need → need ≤ 1 + 24 * i → Ev (fun k => spec_l01Is.l0 k need (i : Int) d) (treeGo d 24 m i need)
  | 0, i, need, h, h0, h1 => by
    refine Ev.step (fun k => by rw [spec_l01Is.l0]) ?_
    exact ev_neg (by omega) (Ev.now _)
  | m + 1, i, need, h, h0, h1 => by
    refine Ev.step (fun k => by rw [spec_l01Is.l0]) ?_
    refine ev_pos (by omega) ?_
    simp only [treeGo, rd_nat, l01In_ev]
    refine ev_ite (fun hx => ?_) (fun hx => ?_)
    · rw [if_pos hx]; exact Ev.now _
    · rw [if_neg hx]
      refine ev_pos (by omega) (ev_some ?_)
      refine ev_ite (fun hy => ?_) (fun hy => ?_)
      · rw [Bool.and_eq_true, decide_eq_true_eq, decide_eq_true_eq] at hy
        rw [if_neg (by omega), w64s (by omega), w64 (x := need - 1) (by omega) (by omega), w64 (by omega) (by omega), show need - 1 + d.getD i 0 = need + d.getD i 0 - 1 by omega]
        exact spec_l01Is_loop d hn m (i + 1) _ (by omega) (by omega) (by omega)
      · rw [Bool.and_eq_true, decide_eq_true_eq, decide_eq_true_eq] at hy
        rw [if_pos (by omega)]; exact Ev.now _
theorem spec_l01Is_ev (d : List Int) (hd : d.length ≤ 1048576) : Ev (fun k => spec_l01Is.f k d) (isTreeM d) := by
  unfold spec_l01Is.f isTreeM
  simp only [l01N_ev, l01In_ev]
  refine ev_some (ev_some ?_)
  refine ev_ite (fun h => ?_) (fun h => ?_)
  · rw [Bool.and_eq_true, decide_eq_true_eq, decide_eq_true_eq] at h
    rw [if_neg (by omega), ← treeGo_top d d.length 0 1 (by omega) (by omega)]
    exact spec_l01Is_loop d (by omega) d.length 0 1 (by omega) (by omega) (by omega)
  · rw [Bool.and_eq_true, decide_eq_true_eq, decide_eq_true_eq] at h
    rw [if_pos (by omega)]; exact Ev.now _

section
variable {d : List Int} (h : IsT d) (hn : d.length ≤ 1000)
include h hn
theorem impl_endOf_loop {v : Nat} (hv : v < d.length) : ∀ (f u : Nat), u + f = d.length → v ≤ u → Ev (fun k => impl_endOf.l0 k d (u : Int) (1 + nd d u - nd d v)) (skip d f (1 + nd d u - nd d v) u : Int) := by
  have b : ∀ u, u ≤ d.length → 0 ≤ nd d u ∧ nd d u ≤ 1000 := fun u hu => ⟨nd_nonneg h hu, by have := nd_le h hu; omega⟩
  intro f
  induction f with
  | zero =>
    intro u hf hu
    have e : u = d.length := by omega
    have h1 := h.fin
    have h2 := h.pos v hv
    refine Ev.step (fun k => by rw [impl_endOf.l0]) ?_
    refine ev_neg (by subst e; omega) (ev_now ?_)
    simp [skip]
  | succ f ih =>
    intro u hf hu
    have b1 := b u (by omega)
    have b2 := b v (by omega)
    have b3 := b (u + 1) (by omega)
    have e : 1 + nd d u - nd d v + (d.getD u 0 - 1) = 1 + nd d (u + 1) - nd d v := by simp only [nd]; omega
    have e2 : nd d (u + 1) = nd d u + d.getD u 0 - 1 := rfl
    refine Ev.step (fun k => by rw [impl_endOf.l0]) ?_
    simp only [skip, rd_nat]
    refine ev_ite (fun hx => ?_) (fun hx => ?_)
    · rw [if_pos hx]
      refine ev_pos (by omega) (ev_pos (by omega) ?_)
      rw [w64s (by omega), w64 (x := d.getD u 0 - 1) (by omega) (by omega), w64 (by omega) (by omega), e]
      exact ih (u + 1) (by omega) (by omega)
    · rw [if_neg hx]; exact Ev.now _
theorem impl_endOf_ev {v : Nat} (hv : v < d.length) : Ev (fun k => impl_endOf.f k d (v : Int)) (endM d v : Int) := by
  have := impl_endOf_loop h hn hv (d.length - v) v (by omega) (Nat.le_refl _)
  rw [show 1 + nd d v - nd d v = 1 by omega] at this
  exact this
theorem spec_l01End_loop {v : Nat} (hv : v < d.length) : ∀ (f u : Nat), u + f = d.length → v ≤ u → Ev (fun k => spec_l01End.l0 k (u : Int) (1 + nd d u - nd d v) d) (skip d f (1 + nd d u - nd d v) u : Int) := by
  have b : ∀ u, u ≤ d.length → 0 ≤ nd d u ∧ nd d u ≤ 1000 := fun u hu => ⟨nd_nonneg h hu, by have := nd_le h hu; omega⟩
  intro f
  induction f with
  | zero =>
    intro u hf hu
    have e : u = d.length := by omega
    have h1 := h.fin
    have h2 := h.pos v hv
    refine Ev.step (fun k => by rw [spec_l01End.l0]) ?_
    refine ev_neg (by subst e; omega) (ev_now ?_)
    simp [skip]
  | succ f ih =>
    intro u hf hu
    have b1 := b u (by omega)
    have b2 := b v (by omega)
    have b3 := b (u + 1) (by omega)
    have e : 1 + nd d u - nd d v - 1 + d.getD u 0 = 1 + nd d (u + 1) - nd d v := by simp only [nd]; omega
    have e1 : 1 + nd d u - nd d v + (d.getD u 0 - 1) = 1 + nd d (u + 1) - nd d v := by simp only [nd]; omega
    have e2 : nd d (u + 1) = nd d u + d.getD u 0 - 1 := rfl
    refine Ev.step (fun k => by rw [spec_l01End.l0]) ?_
    simp only [skip, rd_nat]
    refine ev_ite (fun hx => ?_) (fun hx => ?_)
    · rw [if_pos hx]
      refine ev_pos (by omega) (ev_pos (by omega) ?_)
      rw [w64s (by omega), w64 (x := 1 + nd d u - nd d v - 1) (by omega) (by omega), w64 (by omega) (by omega), e, e1]
      exact ih (u + 1) (by omega) (by omega)
    · rw [if_neg hx]; exact Ev.now _
theorem spec_l01End_ev {v : Nat} (hv : v < d.length) : Ev (fun k => spec_l01End.f k d (v : Int)) (endM d v : Int) := by
  have := spec_l01End_loop h hn hv (d.length - v) v (by omega) (Nat.le_refl _)
  rw [show 1 + nd d v - nd d v = 1 by omega] at this
  exact this
end
def castL (l : List Nat) : List Int := List.map (fun x : Nat => ((x : Nat) : Int)) l
section
variable {d : List Int} (h : IsT d) (hn : d.length ≤ 1000)
include h hn
end
end Go.Proofs.Ytehincgnkgklkaa.E
namespace Go.Proofs.Ytehincgnkgklkaa.E
set_option linter.unusedVariables false
set_option linter.unusedSectionVars false
open Go.RowKit Go.Proofs.YtehincgnkgklkaaW.PrintWords Go.Proofs.Ytehincgnkgklkaa.Base Go.Proofs.Ytehincgnkgklkaa.Tree

theorem same_loop (a b : List Int) (hl : a.length = b.length) (hn : a.length ≤ 1048576) : ∀ (m i : Nat), i + m = a.length → Ev (fun k => spec_l01Same.l0 k (i : Int) a b) (decide (a.drop i = b.drop i))
  | 0, i, hi => by
    refine Ev.step (fun k => by rw [spec_l01Same.l0]) ?_
    refine ev_neg (by omega) (ev_now ?_)
    rw [List.drop_of_length_le (by omega), List.drop_of_length_le (by omega)]; simp
  | m + 1, i, hi => by
    have ih := same_loop a b hl hn m (i + 1) (by omega)
    have ea : rd a (i : Int) = a[i] := rd_lt (by omega)
    have eb : rd b (i : Int) = b[i] := rd_lt (by omega)
    refine Ev.step (fun k => by rw [spec_l01Same.l0]) ?_
    rw [ea, eb, w64s (by omega), List.drop_eq_getElem_cons (show i < a.length by omega), List.drop_eq_getElem_cons (show i < b.length by omega)]
    refine ev_pos (by omega) (ev_pos (by omega) (ev_pos (by omega) (ev_ite (fun hx => ?_) (fun hx => ?_))))
    · rw [decide_eq_decide.mpr (⟨fun h => (List.cons.inj h).2, fun h => by rw [hx, h]⟩ : (a[i] :: a.drop (i + 1) = b[i] :: b.drop (i + 1)) ↔ (a.drop (i + 1) = b.drop (i + 1)))]
      exact ih
    · exact ev_now (decide_eq_false (fun h => hx (List.cons.inj h).1)).symm
theorem same_ev (a b : List Int) (hl : a.length = b.length) (hn : a.length ≤ 1048576) : Ev (fun k => spec_l01Same.f k a b) (decide (a = b)) := by
  unfold spec_l01Same.f
  exact ev_pos (by omega) (same_loop a b hl hn a.length 0 (by omega))
theorem equal_loop (a b : List Int) (hl : a.length = b.length) (hn : a.length ≤ 1048576) : ∀ (m i : Nat), i + m = a.length → Ev (fun k => slices_Equal_int64_int64.l0 k a b (a.length : Int) (i : Int)) (decide (a.drop i = b.drop i))
  | 0, i, hi => by
    refine Ev.step (fun k => by rw [slices_Equal_int64_int64.l0]) ?_
    refine ev_neg (by omega) (ev_now ?_)
    rw [List.drop_of_length_le (by omega), List.drop_of_length_le (by omega)]; simp
  | m + 1, i, hi => by
    have ih := equal_loop a b hl hn m (i + 1) (by omega)
    have ea : rd a (i : Int) = a[i] := rd_lt (by omega)
    have eb : rd b (i : Int) = b[i] := rd_lt (by omega)
    refine Ev.step (fun k => by rw [slices_Equal_int64_int64.l0]) ?_
    rw [ea, eb, w64s (by omega), List.drop_eq_getElem_cons (show i < a.length by omega), List.drop_eq_getElem_cons (show i < b.length by omega)]
    refine ev_pos (by omega) (ev_pos (by omega) (ev_pos (by omega) (ev_pos (by omega) (ev_ite (fun hx => ?_) (fun hx => ?_)))))
    · rw [decide_eq_decide.mpr (⟨fun h => (List.cons.inj h).2, fun h => by rw [hx, h]⟩ : (a[i] :: a.drop (i + 1) = b[i] :: b.drop (i + 1)) ↔ (a.drop (i + 1) = b.drop (i + 1)))]
      exact ih
    · exact ev_now (decide_eq_false (fun h => hx (List.cons.inj h).1)).symm
theorem equal_ev (a b : List Int) (hl : a.length = b.length) (hn : a.length ≤ 1048576) : Ev (fun k => slices_Equal_int64_int64.f k a b) (decide (a = b)) := by
  unfold slices_Equal_int64_int64.f
  exact ev_pos (by omega) (equal_loop a b hl hn a.length 0 (by omega))
theorem areTrees2_ev (t u : List Int) : Ev (fun k => impl_areTrees.f k [(⟨t⟩ : S28), (⟨u⟩ : S28)]) (isTreeM t && isTreeM u) := by
  have e1 : wrap64 ((0 : Int) + 1) = 1 := by unfold wrap64; decide
  have e2 : wrap64 ((1 : Int) + 1) = 2 := by unfold wrap64; decide
  unfold impl_areTrees.f
  refine Ev.step (fun k => by rw [impl_areTrees.l0]) ?_
  rw [e1]
  refine ev_pos (by simp) (ev_pos (by decide) (ev_pos (by simp) (Ev.bind (impl_IsTree_ev t) (ev_ite (fun hw => ?_) (fun hw => ?_)))))
  · rw [hw, Bool.true_and]
    refine Ev.step (fun k => by rw [impl_areTrees.l0]) ?_
    rw [e2]
    refine ev_pos (by simp) (ev_pos (by decide) (ev_pos (by simp) (Ev.bind (impl_IsTree_ev u) (ev_ite (fun hu => ?_) (fun hu => ?_)))))
    · rw [hu]
      refine Ev.step (fun k => by rw [impl_areTrees.l0]) ?_
      exact ev_neg (by simp) (Ev.now _)
    · rw [(by simpa using hu : isTreeM u = false)]; exact Ev.now _
  · rw [(by simpa using hw : isTreeM t = false)]; exact Ev.now _
end Go.Proofs.Ytehincgnkgklkaa.E
namespace Go.Proofs.Ytehincgnkgklkaa.E
set_option linter.unusedVariables false
set_option linter.unusedSectionVars false
open Go.RowKit Go.Proofs.YtehincgnkgklkaaW.PrintWords Go.Proofs.Ytehincgnkgklkaa.Base Go.Proofs.Ytehincgnkgklkaa.Tree

def atN (l : List Int) (k : Nat) : Nat := (l.getD k 0).toNat
structure Rising (u l : List Int) : Prop where
  mem : ∀ k, k < l.length → l.getD k 0 = (atN l k : Int) ∧ atN l k < u.length
  up : ∀ k, k + 1 < l.length → atN l k < atN l (k + 1)
theorem Rising.lt {u l : List Int} (h : Rising u l) : ∀ {j k : Nat}, j < k → k < l.length → atN l j < atN l k
  | j, k + 1, hj, hk => by
    have h1 := h.up k hk
    by_cases e : j = k
    · subst e; exact h1
    · have := h.lt (j := j) (k := k) (by omega) (by omega)
      omega
def lastIn (u l : List Int) (v : Nat) : Nat → Option Nat
  | 0 => none
  | k + 1 => if v < endM u (atN l k) then some k else lastIn u l v k
theorem lastIn_some {u l : List Int} {v : Nat} : ∀ {n k : Nat}, lastIn u l v n = some k → k < n ∧ v < endM u (atN l k) ∧ ∀ j, k < j → j < n → endM u (atN l j) ≤ v
  | 0, k, h => by simp [lastIn] at h
  | n + 1, k, h => by
    simp only [lastIn] at h
    split at h
    · rename_i hv
      obtain rfl := Option.some.inj h
      exact ⟨by omega, hv, fun j h1 h2 => by omega⟩
    · rename_i hv
      have := lastIn_some h
      refine ⟨by omega, this.2.1, fun j h1 h2 => ?_⟩
      by_cases e : j = n
      · subst e; omega
      · exact this.2.2 j h1 (by omega)
theorem lastIn_none {u l : List Int} {v : Nat} : ∀ {n : Nat}, lastIn u l v n = none → ∀ j, j < n → endM u (atN l j) ≤ v
  | 0, _, j, hj => by omega
  | n + 1, h, j, hj => by
    simp only [lastIn] at h
    split at h
    · cases h
    · rename_i hv
      by_cases e : j = n
      · subst e; omega
      · exact lastIn_none h j (by omega)
theorem lastIn_is {u l : List Int} {v n k : Nat} (h1 : k < n) (h2 : v < endM u (atN l k)) (h3 : ∀ j, k < j → j < n → endM u (atN l j) ≤ v) : lastIn u l v n = some k := by
  cases e : lastIn u l v n with
  | none => have := lastIn_none e k h1; omega
  | some j =>
    have h := lastIn_some e
    congr 1
    rcases Nat.lt_trichotomy j k with hl | hl | hl
    · have := h.2.2 k hl h1; omega
    · exact hl
    · have := h3 j hl h.1; omega
theorem lastIn_no {u l : List Int} {v n : Nat} (h3 : ∀ j, j < n → endM u (atN l j) ≤ v) : lastIn u l v n = none := by
  cases e : lastIn u l v n with
  | none => rfl
  | some j =>
    have h := lastIn_some e
    have := h3 j h.1; omega
def leftGo (u l : List Int) : Nat → Nat → List Int → Option (List Int)
  | 0, _, d => some d
  | m + 1, i, d => match lastIn u l (atN l i) i with
    | some k => leftGo u l m (i + 1) ((d ++ [0]).set k ((d ++ [0]).getD k 0 + 1))
    | none => if i = 0 then leftGo u l m (i + 1) (d ++ [0]) else none
def leftM (u l : List Int) : Option (List Int) := leftGo u l l.length 0 []
theorem leftGo_length {u l : List Int} : ∀ (m i : Nat) (d r : List Int), leftGo u l m i d = some r → r.length = d.length + m
  | 0, i, d, r, h => by
    obtain rfl := Option.some.inj h; rfl
  | m + 1, i, d, r, h => by
    simp only [leftGo] at h
    split at h
    · have := leftGo_length m (i + 1) _ r h
      simp at this; omega
    · split at h
      · have := leftGo_length m (i + 1) _ r h
        simp at this; omega
      · cases h
theorem first_all {u l : List Int} (hu : IsT u) (h : Rising u l) {i : Nat} (hi : i < l.length) (hin : ∀ k, k < i → atN l k < endM u (atN l 0)) (hv : endM u (atN l 0) ≤ atN l i) : lastIn u l (atN l i) i = none := by
  refine lastIn_no fun j hj => ?_
  have h0 := (h.mem 0 (by omega)).2
  have h1 : atN l 0 ≤ atN l j := by
    rcases Nat.eq_zero_or_pos j with e | e
    · subst e; exact Nat.le_refl _
    · exact Nat.le_of_lt (h.lt e (by omega))
  have := end_mono hu h0 h1 (hin j hj)
  omega
structure Stack (u l : List Int) (i : Nat) (r : List Nat) : Prop where
  asc : r.Pairwise (fun a b => b < a)
  lt : ∀ k ∈ r, k < i
  out : ∀ k, k < i → k ∉ r → ∀ j, i ≤ j → j < l.length → endM u (atN l k) ≤ atN l j
def popM (u l : List Int) (v : Nat) : List Nat → List Nat
  | [] => []
  | k :: r => if endM u (atN l k) ≤ v then popM u l v r else k :: r
theorem pop_spec {u l : List Int} {v i : Nat} : ∀ (r : List Nat), r.Pairwise (fun a b => b < a) → (∀ k ∈ r, k < i) → (∀ k, k < i → k ∉ r → endM u (atN l k) ≤ v) →
    (popM u l v r).Pairwise (fun a b => b < a) ∧ (∀ k ∈ popM u l v r, k < i) ∧ (∀ k, k < i → k ∉ popM u l v r → endM u (atN l k) ≤ v) ∧ ∀ k t, popM u l v r = k :: t → v < endM u (atN l k)
  | [], _, h2, h3 => ⟨List.Pairwise.nil, h2, h3, fun k t h => by cases h⟩
  | k :: r, h1, h2, h3 => by
    have h4 := List.pairwise_cons.1 h1
    simp only [popM]
    by_cases hv : endM u (atN l k) ≤ v
    · rw [if_pos hv]
      refine pop_spec r h4.2 (fun x hx => h2 x (by simp [hx])) (fun x hx hn => ?_)
      by_cases e : x = k
      · subst e; exact hv
      · exact h3 x hx (by simp [e, hn])
    · rw [if_neg hv]
      refine ⟨h1, h2, h3, fun x t h => ?_⟩
      obtain ⟨rfl, _⟩ := List.cons.inj h
      omega
theorem Stack.pop {u l : List Int} {i : Nat} {r : List Nat} (h : Rising u l) (hi : i < l.length) (hs : Stack u l i r) :
    Stack u l (i + 1) (i :: popM u l (atN l i) r) ∧ lastIn u l (atN l i) i = (popM u l (atN l i) r).head? ∧ ∀ k ∈ popM u l (atN l i) r, k < i := by
  have hp := pop_spec (u := u) (l := l) (v := atN l i) (i := i) r hs.asc hs.lt (fun k hk hn => hs.out k hk hn i (Nat.le_refl _) hi)
  refine ⟨⟨List.pairwise_cons.2 ⟨fun k hk => hp.2.1 k hk, hp.1⟩, fun k hk => ?_, fun k hk hn j hj hl => ?_⟩, ?_, hp.2.1⟩
  · rcases List.mem_cons.1 hk with rfl | hk
    · omega
    · have := hp.2.1 k hk; omega
  · have h1 : k ≠ i := by intro e; subst e; simp at hn
    have h2 := hp.2.2.1 k (by omega) (fun hm => hn (by simp [hm]))
    have h3 := h.lt (j := i) (k := j) (by omega) hl
    omega
  · cases e : popM u l (atN l i) r with
    | nil =>
      rw [e] at hp
      exact lastIn_no fun j hj => hp.2.2.1 j hj (by simp)
    | cons k t =>
      have h1 := hp.2.2.2 k t e
      rw [e] at hp
      have h2 := List.pairwise_cons.1 hp.1
      refine lastIn_is (hp.2.1 k (by simp)) h1 (fun j hj hl => hp.2.2.1 j hl (fun hm => ?_))
      rcases List.mem_cons.1 hm with rfl | hm
      · omega
      · have := h2.1 j hm; omega
theorem stack_start (u l : List Int) : Stack u l 0 [] := ⟨List.Pairwise.nil, fun k hk => by simp at hk, fun k hk => by omega⟩
end Go.Proofs.Ytehincgnkgklkaa.E
namespace Go.Proofs.Ytehincgnkgklkaa.E
set_option linter.unusedVariables false
set_option linter.unusedSectionVars false
open Go.RowKit Go.Proofs.YtehincgnkgklkaaW.PrintWords Go.Proofs.Ytehincgnkgklkaa.Base Go.Proofs.Ytehincgnkgklkaa.Tree
section
variable {d : List Int} (h : IsT d) (hn : d.length ≤ 1000)
include h hn
theorem impl_isBelow_ev {v w : Nat} (hw : w < d.length) : Ev (fun k => impl_isBelow.f k d (v : Int) (w : Int)) (decide (below d v w)) := by
  unfold impl_isBelow.f
  refine ev_ite (fun hx => ?_) (fun hx => ?_)
  · refine Ev.bind (impl_endOf_ev h hn hw) (ev_now ?_)
    exact decide_eq_decide.mpr ⟨fun hy => ⟨by omega, by omega⟩, fun hy => by have := hy.2; omega⟩
  · exact ev_now (decide_eq_false (fun hy => by have := hy.1; omega)).symm
end
end Go.Proofs.Ytehincgnkgklkaa.E
namespace Go.Proofs.Ytehincgnkgklkaa.E
set_option linter.unusedVariables false
set_option linter.unusedSectionVars false
open Go.RowKit Go.Proofs.YtehincgnkgklkaaW.PrintWords Go.Proofs.Ytehincgnkgklkaa.Base Go.Proofs.Ytehincgnkgklkaa.Tree

def outL : Option (List Int) → List Int × Bool
  | some d => (d, true)
  | none => ([], false)
structure Degs (i : Nat) (d : List Int) : Prop where
  len : d.length = i
  mem : ∀ j, j < i → 0 ≤ d.getD j 0 ∧ d.getD j 0 ≤ i
theorem getD_app0 {d : List Int} {j : Nat} (hj : j < d.length) (s : List Int) : (d ++ s).getD j 0 = d.getD j 0 := by
  rw [List.getD_eq_getElem?_getD, List.getElem?_append_left hj, ← List.getD_eq_getElem?_getD]
theorem Degs.push {i : Nat} {d : List Int} (h : Degs i d) : Degs (i + 1) (d ++ [0]) := by
  have hl := h.len
  refine ⟨by simp [hl], fun j hj => ?_⟩
  by_cases e : j = i
  · subst e
    have : (d ++ [0]).getD d.length 0 = 0 := by simp
    rw [hl] at this
    rw [this]; omega
  · rw [getD_app0 (by omega)]
    have := h.mem j (by omega); omega
theorem Degs.put {i : Nat} {d : List Int} (h : Degs i d) {k : Nat} (hk : k < i) : Degs (i + 1) ((d ++ [0]).set k ((d ++ [0]).getD k 0 + 1)) := by
  have hl := h.len
  have h2 := h.push
  refine ⟨by simp [hl], fun j hj => ?_⟩
  have h3 := h.mem k hk
  by_cases e : k = j
  · subst e
    rw [get_set_eq (by simp; omega), getD_app0 (by omega)]
    omega
  · rw [get_set_ne e]; exact h2.mem j hj
theorem castL_rev (k : Nat) (r : List Nat) : castL (k :: r).reverse = castL r.reverse ++ [(k : Int)] := by simp [castL]
section
variable {u l : List Int} (hu : IsT u) (hn : u.length ≤ 1000) (h : Rising u l) (hl : l.length ≤ 1000)
include hu hn h hl
theorem spec_pop_loop {i : Nat} (hi : i < l.length) (x : List Int) (res : List Int × Bool) : ∀ (r : List Nat), r.length ≤ 1000 → (∀ k ∈ r, k < i) → Ev (fun k => spec_l04Left.j2 k l x (castL (popM u l (atN l i) r).reverse) (i : Int) u) res →
    Ev (fun k => spec_l04Left.l1 k l x (castL r.reverse) (i : Int) u) res
  | [], _, _, H => by
    refine Ev.step (fun k => by rw [spec_l04Left.l1]) ?_
    exact ev_neg (by simp [castL]) H
  | k :: r, hr, hk, H => by
    have hki := hk k (by simp)
    have hm := h.mem k (by omega)
    have hmi := h.mem i hi
    have hr2 : r.length + 1 ≤ 1000 := by simpa using hr
    have hlen : (castL (k :: r).reverse).length = r.length + 1 := by simp [castL]
    have e1 : wrap64 (((castL (k :: r).reverse).length : Int) - 1) = (r.length : Int) := by rw [hlen, w64 (by omega) (by omega)]; omega
    have e2 : rd (castL (k :: r).reverse) (r.length : Int) = (k : Int) := by
      rw [rd_nat, castL_rev, List.getD_eq_getElem?_getD, List.getElem?_append_right (by simp [castL])]
      simp [castL]
    have e3 : rd l (k : Int) = (atN l k : Int) := hm.1
    have e4 : rd l (i : Int) = (atN l i : Int) := hmi.1
    have e5 : (castL (k :: r).reverse).take ((r.length : Int)).toNat = castL r.reverse := by
      rw [castL_rev]; simp [castL]
    refine Ev.step (fun k => by rw [spec_l04Left.l1]) ?_
    rw [e1, e2, e3, e4, e5]
    refine ev_pos (by omega) (ev_pos (by omega) (ev_pos (by omega) (ev_pos (by omega) (ev_pos (by omega) (ev_pos (by omega) (ev_pos (by omega) (Ev.bind (spec_l01End_ev hu hn hm.2) ?_)))))))
    simp only [popM] at H
    by_cases hv : endM u (atN l k) ≤ atN l i
    · rw [if_pos hv] at H
      exact ev_pos (by omega) (ev_pos (by omega) (spec_pop_loop hi x res r (by omega) (fun y hy => hk y (by simp [hy])) H))
    · rw [if_neg hv] at H
      exact ev_neg (by omega) H
theorem spec_left_loop : ∀ (m i : Nat) (d : List Int) (r : List Nat), i + m = l.length → Degs i d → Stack u l i r → r.length ≤ i → Ev (fun k => spec_l04Left.l0 k l d (castL r.reverse) (i : Int) u) (outL (leftGo u l m i d))
  | 0, i, d, r, hi, hd, hs, hr => by
    refine Ev.step (fun k => by rw [spec_l04Left.l0]) ?_
    exact ev_neg (by omega) (Ev.now _)
  | m + 1, i, d, r, hi, hd, hs, hr => by
    have hlt : i < l.length := by omega
    obtain ⟨hs2, hlast, hp⟩ := hs.pop h hlt
    have hdl := hd.len
    have hpl : (popM u l (atN l i) r).length ≤ r.length := by
      clear hs hr hs2 hlast hp
      induction r with
      | nil => simp [popM]
      | cons a r ih => simp only [popM]; split <;> simp <;> omega
    refine Ev.step (fun k => by rw [spec_l04Left.l0]) ?_
    refine ev_pos (by omega) (ev_pos (by omega) (spec_pop_loop hu hn h hl hlt _ _ r (by omega) hs.lt ?_))
    simp only [leftGo]
    rw [hlast]
    cases e : popM u l (atN l i) r with
    | nil =>
      rw [e] at hs2 hpl
      refine Ev.step (fun k => by rw [spec_l04Left.j2]) ?_
      simp only [List.head?_nil]
      by_cases h0 : i = 0
      · rw [if_pos h0]
        refine ev_neg (by omega) (ev_pos (by simp [castL]) ?_)
        rw [w64s (by omega)]
        have := spec_left_loop m (i + 1) (d ++ [0]) [i] (by omega) hd.push hs2 (by simp)
        simpa [castL] using this
      · rw [if_neg h0]
        exact ev_pos (by omega) (ev_pos (by simp [castL]) (Ev.now _))
    | cons k t =>
      rw [e] at hs2 hpl hp
      have hk := hp k (by simp)
      simp only [List.length_cons] at hpl
      have hlen : (castL (k :: t).reverse).length = t.length + 1 := by simp [castL]
      have e1 : wrap64 (((castL (k :: t).reverse).length : Int) - 1) = (t.length : Int) := by rw [hlen, w64 (by omega) (by omega)]; omega
      have e2 : rd (castL (k :: t).reverse) (t.length : Int) = (k : Int) := by
        rw [rd_nat, castL_rev, List.getD_eq_getElem?_getD, List.getElem?_append_right (by simp [castL])]
        simp [castL]
      have hb := hd.push.mem k (by omega)
      have hal : (d ++ [0]).length = i + 1 := by simp [hdl]
      simp only [List.head?_cons]
      refine Ev.step (fun k => by rw [spec_l04Left.j2]) ?_
      rw [e1, e2, rd_nat]
      refine ev_pos (by omega) (ev_neg (by omega) (ev_pos (by omega) (ev_pos (by omega) (ev_pos (by omega) (ev_pos (by omega) (ev_pos (by omega) ?_))))))
      rw [w64s (by omega), w64 (by omega) (by omega), show (((k : Nat) : Int)).toNat = k from rfl]
      have := spec_left_loop m (i + 1) _ (i :: k :: t) (by omega) (hd.put hk) hs2 (by simp; omega)
      rw [castL_rev] at this
      exact this
theorem spec_l04Left_ev : Ev (fun k => spec_l04Left.f k u l) (outL (leftM u l)) := by
  unfold spec_l04Left.f leftM
  exact spec_left_loop hu hn h hl l.length 0 [] [] (by omega) ⟨rfl, fun j hj => by omega⟩ (stack_start u l) (Nat.le_refl _)
theorem impl_left_in {i : Nat} (hi : i < l.length) (x : List Int) (hx : x.length = l.length) (n : Int) (res : List Int × Bool)
    (H : match lastIn u l (atN l i) i with
      | some k => if atN l i < endM u (atN l 0) then Ev (fun f => impl_left.l0 f u l (x.set k (wrap64 (x.getD k 0 + 1))) l n ((i + 1 : Nat) : Int)) res else res = ([], false)
      | none => if atN l i < endM u (atN l 0) then Ev (fun f => impl_left.l0 f u l x l n ((i + 1 : Nat) : Int)) res else res = ([], false)) :
    ∀ j, j ≤ i → lastIn u l (atN l i) j = lastIn u l (atN l i) i → Ev (fun k => impl_left.l1 k u l x (atN l i : Int) ((j : Int) - 1) l n (i : Int)) res
  | 0, hj, he => by
    have h0 := h.mem 0 (by omega)
    have hb := impl_isBelow_ev hu hn (v := atN l i) h0.2
    have e0 : rd l 0 = (atN l 0 : Int) := h0.1
    have hge : atN l 0 ≤ atN l i := by
      rcases Nat.eq_zero_or_pos i with e | e
      · subst e; exact Nat.le_refl _
      · exact Nat.le_of_lt (h.lt e hi)
    rw [← he] at H
    simp only [lastIn] at H
    refine Ev.step (fun k => by rw [impl_left.l1]) ?_
    rw [e0]
    refine ev_neg (by omega) (ev_pos (by omega) (Ev.bind hb ?_))
    by_cases hv : atN l i < endM u (atN l 0)
    · rw [if_pos hv] at H
      refine ev_pos (decide_eq_true ⟨hge, hv⟩) ?_
      rw [w64s (by omega)]
      exact H
    · rw [if_neg hv] at H
      exact ev_neg (by simpa using fun hb : below u (atN l i) (atN l 0) => hv hb.2) (ev_now H.symm)
  | j + 1, hj, he => by
    have h0 := h.mem 0 (by omega)
    have hjm := h.mem j (by omega)
    have e0 : rd l 0 = (atN l 0 : Int) := h0.1
    have ej : rd l (j : Int) = (atN l j : Int) := hjm.1
    have hge : atN l 0 ≤ atN l i := by
      rcases Nat.eq_zero_or_pos i with e | e
      · subst e; exact Nat.le_refl _
      · exact Nat.le_of_lt (h.lt e hi)
    have hgj := h.lt (j := j) (k := i) (by omega) hi
    have e1 : ((j + 1 : Nat) : Int) - 1 = (j : Int) := by omega
    rw [e1]
    refine Ev.step (fun k => by rw [impl_left.l1]) ?_
    rw [ej]
    refine ev_pos (by omega) (ev_pos (by omega) (ev_pos (by omega) (Ev.bind (impl_isBelow_ev hu hn (v := atN l i) hjm.2) ?_)))
    by_cases hv : atN l i < endM u (atN l j)
    · rw [← he] at H
      simp only [lastIn, if_pos hv] at H
      refine ev_pos (decide_eq_true ⟨by omega, hv⟩) (ev_pos (by omega) (ev_pos (by omega) ?_))
      rw [e0, show (((j : Nat) : Int)).toNat = j from rfl, rd_nat]
      refine Ev.bind (impl_isBelow_ev hu hn (v := atN l i) h0.2) ?_
      by_cases hv0 : atN l i < endM u (atN l 0)
      · rw [if_pos hv0] at H
        refine ev_pos (decide_eq_true ⟨hge, hv0⟩) ?_
        rw [w64s (by omega)]
        exact H
      · rw [if_neg hv0] at H
        exact ev_neg (by simpa using fun hb : below u (atN l i) (atN l 0) => hv0 hb.2) (ev_now H.symm)
    · have he2 := he
      simp only [lastIn, if_neg hv] at he2
      refine ev_neg (by simpa using fun hb : below u (atN l i) (atN l j) => hv hb.2) ?_
      rw [w64 (by omega) (by omega)]
      exact impl_left_in hi x hx n res H j (by omega) he2
theorem impl_left_loop : ∀ (m i : Nat) (d : List Int), i + m = l.length → Degs i d → (∀ k, k < i → atN l k < endM u (atN l 0)) → Ev (fun k => impl_left.l0 k u l (d ++ List.replicate m 0) l (l.length : Int) (i : Int)) (outL (leftGo u l m i d))
  | 0, i, d, hi, hd, hin => by
    refine Ev.step (fun k => by rw [impl_left.l0]) ?_
    refine ev_neg (by omega) (ev_now ?_)
    simp [leftGo, outL]
  | m + 1, i, d, hi, hd, hin => by
    have hlt : i < l.length := by omega
    have hdl := hd.len
    have e4 : rd l (i : Int) = (atN l i : Int) := (h.mem i hlt).1
    have h0 := h.mem 0 (by omega)
    have ext : d ++ List.replicate (m + 1) 0 = (d ++ [0]) ++ List.replicate m 0 := by rw [List.replicate_succ]; simp
    have hin2 : atN l i < endM u (atN l 0) → ∀ k, k < i + 1 → atN l k < endM u (atN l 0) := by
      intro hv k hk
      by_cases e : k = i
      · subst e; exact hv
      · exact hin k (by omega)
    refine Ev.step (fun k => by rw [impl_left.l0]) ?_
    rw [e4, w64 (x := (i : Int) - 1) (by omega) (by omega)]
    refine ev_pos (by omega) (ev_pos (by omega) (ev_pos (by omega) (impl_left_in hu hn h hl hlt _ (by simp; omega) _ _ ?_ i (Nat.le_refl _) rfl)))
    simp only [leftGo]
    cases e : lastIn u l (atN l i) i with
    | none =>
      simp only
      by_cases hv : atN l i < endM u (atN l 0)
      · rw [if_pos hv]
        have hi0 : i = 0 := by
          rcases Nat.eq_zero_or_pos i with e0 | e0
          · exact e0
          · have := lastIn_none e 0 e0; omega
        rw [if_pos hi0, ext]
        exact impl_left_loop m (i + 1) (d ++ [0]) (by omega) hd.push (hin2 hv)
      · rw [if_neg hv]
        have hi0 : i ≠ 0 := by
          intro e0
          subst e0
          exact hv (end_gt hu h0.2)
        rw [if_neg hi0]; rfl
    | some k =>
      have hk := (lastIn_some e).1
      simp only
      have hv : atN l i < endM u (atN l 0) := by
        rcases Nat.lt_or_ge (atN l i) (endM u (atN l 0)) with hv | hv
        · exact hv
        · rw [first_all hu h hlt hin hv] at e; cases e
      rw [if_pos hv, ext]
      have hb := hd.push.mem k (by omega)
      have hal : (d ++ [0]).length = i + 1 := by simp [hdl]
      rw [getD_app0 (by omega), w64 (by omega) (by omega), List.set_append_left _ _ (by omega)]
      exact impl_left_loop m (i + 1) _ (by omega) (hd.put hk) (hin2 hv)
theorem impl_left_ev : Ev (fun k => impl_left.f k u l) (outL (leftM u l)) := by
  unfold impl_left.f leftM
  refine ev_pos (by omega) (ev_pos (by omega) ?_)
  have := impl_left_loop hu hn h hl l.length 0 [] (by omega) ⟨rfl, fun j hj => by omega⟩ (fun k hk => by omega)
  simpa using this
def insM (t u l : List Int) : Bool := match leftM u l with
  | some d => decide (d = t)
  | none => false
theorem spec_ins_ev {t : List Int} (ht : l.length = t.length) : Ev (fun k => spec_l04Inside.f k t u l) (insM t u l) := by
  unfold spec_l04Inside.f insM
  refine Ev.bind (spec_l04Left_ev hu hn h hl) ?_
  cases e : leftM u l with
  | none => exact ev_neg (by simp [outL]) (Ev.now _)
  | some d =>
    have := leftGo_length _ _ _ _ e
    simp only [List.length_nil] at this
    exact ev_pos rfl (Ev.bind (same_ev d t (by omega) (by omega)) (Ev.now _))
theorem impl_ins_ev {t : List Int} (ht : l.length = t.length) : Ev (fun k => impl_insideBy.f k t u l) (insM t u l) := by
  unfold impl_insideBy.f insM
  refine Ev.bind (impl_left_ev hu hn h hl) ?_
  cases e : leftM u l with
  | none => exact ev_neg (by simp [outL]) (Ev.now _)
  | some d =>
    have := leftGo_length _ _ _ _ e
    simp only [List.length_nil] at this
    exact ev_pos rfl (Ev.bind (equal_ev d t (by omega) (by omega)) (Ev.now _))
end
end Go.Proofs.Ytehincgnkgklkaa.E
namespace Go.Proofs.Ytehincgnkgklkaa.E
set_option linter.unusedVariables false
set_option linter.unusedSectionVars false
open Go.RowKit Go.Proofs.YtehincgnkgklkaaW.PrintWords Go.Proofs.Ytehincgnkgklkaa.Base

theorem toInt64S_loop (x0 : List Int) (hn : x0.length ≤ 1048576) : ∀ (m i : Nat) (x3 : List Int), i + m = x0.length → x3.length = x0.length → (∀ j, j < i → x3.getD j 0 = x0.getD j 0) → Ev (fun k => laws_toInt64S.l0 k x0 x3 (i : Int)) x0 := by
  intro m
  induction m with
  | zero =>
    intro i x3 h1 h2 h3
    refine Ev.step (fun k => by rw [laws_toInt64S.l0]) ?_
    refine ev_neg (by omega) ?_
    exact ev_now (ext_getD h2 (fun j hj => h3 j (by omega)))
  | succ m ih =>
    intro i x3 h1 h2 h3
    refine Ev.step (fun k => by rw [laws_toInt64S.l0]) ?_
    refine ev_pos (by omega) (ev_pos (by omega) (ev_pos (by omega) ?_))
    rw [w64s (by omega)]
    exact ih (i + 1) _ (by omega) (by simpa using h2) (set_eq h2 h3)
theorem toInt64S_ev (l : List Int) (hn : l.length ≤ 1048576) : Ev (fun k => laws_toInt64S.f k l) l := by
  unfold laws_toInt64S.f
  refine ev_pos (by omega) (ev_pos (by simp; omega) ?_)
  exact toInt64S_loop l hn l.length 0 _ (by omega) (by simp) (fun j hj => by omega)
theorem toTree_ev (l : List Int) (hn : l.length ≤ 1048576) : Ev (fun k => laws_toTree.f k l) l := by
  unfold laws_toTree.f
  exact Ev.bind (toInt64S_ev l hn) (Ev.now _)
theorem eqInt64S_loop (a : List Int) (hn : a.length ≤ 1048576) : ∀ (m i : Nat), i + m = a.length → Ev (fun k => laws_eqInt64S.l0 k a a (i : Int)) true := by
  intro m
  induction m with
  | zero =>
    intro i h1
    refine Ev.step (fun k => by rw [laws_eqInt64S.l0]) ?_
    refine ev_neg (by omega) ?_
    exact Ev.now _
  | succ m ih =>
    intro i h1
    refine Ev.step (fun k => by rw [laws_eqInt64S.l0]) ?_
    refine ev_pos (by omega) (ev_pos (by omega) (ev_pos (by omega) (ev_pos rfl ?_)))
    rw [w64s (by omega)]
    exact ih (i + 1) (by omega)
theorem eqInt64S_ev (a : List Int) (hn : a.length ≤ 1048576) : Ev (fun k => laws_eqInt64S.f k a a) true := by
  unfold laws_eqInt64S.f
  exact ev_pos rfl (eqInt64S_loop a hn a.length 0 (by omega))
theorem eqTree_ev (a : List Int) (hn : a.length ≤ 1048576) : Ev (fun k => laws_eqTree.f k a a) true := by
  unfold laws_eqTree.f
  exact Ev.bind (eqInt64S_ev a hn) (ev_pos rfl (Ev.now _))
def marks (m : Int) : Nat → List Int
  | 0 => []
  | n + 1 => m :: marks (m + 1) n
theorem marks_length : ∀ (n : Nat) (m : Int), (marks m n).length = n
  | 0, _ => rfl
  | n + 1, m => by simp [marks, marks_length n]
theorem marks_getD : ∀ (n : Nat) (m : Int) (j : Nat), j < n → (marks m n).getD j 0 = m + j
  | 0, _, j, h => by omega
  | n + 1, m, 0, _ => by simp [marks]
  | n + 1, m, j + 1, h => by
    have := marks_getD n (m + 1) j (by omega)
    simp only [marks, List.getD_cons_succ]
    omega
theorem markInt64S_loop (n : Nat) (m0 : Int) (h0 : 0 ≤ m0) (h1 : m0 ≤ 4611686018427387904) (hn : n ≤ 1048576) : ∀ (m i : Nat) (x : List Int), i + m = n → x.length = n → (∀ j, j < i → x.getD j 0 = m0 + j) → Ev (fun k => laws_markInt64S.l0 k x (m0 + i) (i : Int)) (m0 + n, marks m0 n) := by
  intro m
  induction m with
  | zero =>
    intro i x h2 h3 h4
    refine Ev.step (fun k => by rw [laws_markInt64S.l0]) ?_
    refine ev_neg (by omega) (ev_now ?_)
    have e : x = marks m0 n := ext_getD (by rw [marks_length, h3]) (fun j hj => by rw [marks_length] at hj; rw [h4 j (by omega), marks_getD n m0 j hj])
    rw [e, show i = n by omega]
  | succ m ih =>
    intro i x h2 h3 h4
    refine Ev.step (fun k => by rw [laws_markInt64S.l0]) ?_
    refine ev_pos (by omega) (ev_pos (by omega) ?_)
    rw [w64s (by omega), w64 (by omega) (by omega), show m0 + (i : Int) + 1 = m0 + ((i + 1 : Nat) : Int) by omega]
    refine ih (i + 1) _ (by omega) (by simpa using h3) (fun j hj => ?_)
    by_cases e : i = j
    · subst e
      rw [show ((i : Int)).toNat = i from rfl, get_set_eq (by omega)]
    · rw [show ((i : Int)).toNat = i from rfl, get_set_ne e]
      exact h4 j (by omega)
theorem markInt64S_ev (l : List Int) (m0 : Int) (h0 : 0 ≤ m0) (h1 : m0 ≤ 4611686018427387904) (hn : l.length ≤ 1048576) : Ev (fun k => laws_markInt64S.f k l m0) (m0 + l.length, marks m0 l.length) := by
  unfold laws_markInt64S.f
  have := markInt64S_loop l.length m0 h0 h1 hn l.length 0 l (by omega) rfl (fun j hj => by omega)
  simpa using this
theorem markTree_ev (l : List Int) (m0 : Int) (h0 : 0 ≤ m0) (h1 : m0 ≤ 4611686018427387904) (hn : l.length ≤ 1048576) : Ev (fun k => laws_markTree.f k l m0) (m0 + l.length, marks m0 l.length) := by
  unfold laws_markTree.f
  exact Ev.bind (markInt64S_ev l m0 h0 h1 hn) (Ev.now _)
theorem heldInt64S_loop (n : Nat) (m0 : Int) (h0 : 0 ≤ m0) (h1 : m0 ≤ 4611686018427387904) (hn : n ≤ 1048576) : ∀ (m i : Nat), i + m = n → Ev (fun k => laws_heldInt64S.l0 k (marks m0 n) (m0 + i) (i : Int)) (m0 + n) := by
  intro m
  induction m with
  | zero =>
    intro i h2
    refine Ev.step (fun k => by rw [laws_heldInt64S.l0]) ?_
    refine ev_neg (by rw [marks_length]; omega) (ev_now ?_)
    rw [show i = n by omega]
  | succ m ih =>
    intro i h2
    refine Ev.step (fun k => by rw [laws_heldInt64S.l0]) ?_
    refine ev_pos (by rw [marks_length]; omega) (ev_pos (by omega) (ev_pos (marks_getD n m0 i (by omega)) ?_))
    rw [w64s (by omega), w64 (by omega) (by omega), show m0 + (i : Int) + 1 = m0 + ((i + 1 : Nat) : Int) by omega]
    exact ih (i + 1) (by omega)
theorem heldInt64S_ev (n : Nat) (m0 : Int) (h0 : 0 ≤ m0) (h1 : m0 ≤ 4611686018427387904) (hn : n ≤ 1048576) : Ev (fun k => laws_heldInt64S.f k (marks m0 n) m0) (m0 + n) := by
  unfold laws_heldInt64S.f
  have := heldInt64S_loop n m0 h0 h1 hn n 0 (by omega)
  simpa using this
theorem szTree_eq (l : List Int) (a : Int) (h0 : 0 ≤ a) (h1 : a ≤ 1048576) (hl : l.length ≤ maxLen) : laws_szTree.f l a = some (if a < l.length then -1 else a - l.length) := by
  unfold maxLen at hl
  unfold laws_szTree.f laws_szInt64S.f
  rw [w64 (by omega) (by omega)]
  by_cases h : a < l.length
  · rw [if_pos (by omega), if_pos h]; rfl
  · rw [if_neg (by omega), if_neg h, Option.bind_some, if_neg (by omega)]
end Go.Proofs.Ytehincgnkgklkaa.E
namespace Go.Proofs.Ytehincgnkgklkaa.E
set_option linter.unusedVariables false
set_option linter.unusedSectionVars false
open Go.RowKit Go.Proofs.YtehincgnkgklkaaW.PrintWords Go.Proofs.Ytehincgnkgklkaa.Base Go.Proofs.Ytehincgnkgklkaa.Tree

def solL (tl : Nat) (ok : List Int → Bool) : Nat → List Int → Nat → List (List Int)
  | 0, _, _ => []
  | m + 1, l, v => (if l.length + 1 = tl then (if ok (l ++ [(v : Int)]) = true then [l ++ [(v : Int)]] else []) else solL tl ok m (l ++ [(v : Int)]) (v + 1)) ++ solL tl ok m l (v + 1)
def solS (tl : Nat) (ok : List Int → Bool) (m : Nat) (l : List Int) (v : Nat) : List (List Int) := if l.length = tl then (if ok l = true then [l] else []) else solL tl ok m l v
theorem solL_succ (tl : Nat) (ok : List Int → Bool) (m : Nat) (l : List Int) (v : Nat) : solL tl ok (m + 1) l v = solS tl ok m (l ++ [(v : Int)]) (v + 1) ++ solL tl ok m l (v + 1) := by
  simp [solL, solS]
theorem solL_few (tl : Nat) (ok : List Int → Bool) : ∀ (m : Nat) (l : List Int) (v : Nat), (solL tl ok m l v).length + 1 ≤ 2 ^ m
  | 0, _, _ => by simp [solL]
  | m + 1, l, v => by
    have h1 := solL_few tl ok m (l ++ [(v : Int)]) (v + 1)
    have h2 := solL_few tl ok m l (v + 1)
    rw [solL_succ, List.length_append, Nat.pow_succ]
    unfold solS
    split
    · split <;> simp <;> omega
    · omega
theorem solS_few (tl : Nat) (ok : List Int → Bool) (m : Nat) (l : List Int) (v : Nat) : (solS tl ok m l v).length ≤ 2 ^ m := by
  have := solL_few tl ok m l v
  unfold solS
  split
  · split <;> simp <;> omega
  · omega
theorem solL_len (tl : Nat) (ok : List Int → Bool) : ∀ (m : Nat) (l : List Int) (v : Nat), ∀ x ∈ solL tl ok m l v, x.length = tl
  | 0, _, _ => by simp [solL]
  | m + 1, l, v => by
    intro x hx
    simp only [solL, List.mem_append] at hx
    rcases hx with hx | hx
    · split at hx
      · rename_i e
        split at hx
        · rw [List.mem_singleton] at hx
          rw [hx]; simpa using e
        · cases hx
      · exact solL_len tl ok m _ _ x hx
    · exact solL_len tl ok m _ _ x hx
theorem solS_len (tl : Nat) (ok : List Int → Bool) (m : Nat) (l : List Int) (v : Nat) : ∀ x ∈ solS tl ok m l v, x.length = tl := by
  intro x hx
  unfold solS at hx
  split at hx
  · rename_i e
    split at hx
    · rw [List.mem_singleton] at hx
      rw [hx]; exact e
    · cases hx
  · exact solL_len tl ok m l v x hx
structure Asc (u l : List Int) (v : Nat) : Prop where
  up : Rising u l
  lt : ∀ k, k < l.length → atN l k < v
  len : l.length ≤ v
theorem Asc.nil (u : List Int) : Asc u [] 0 := ⟨⟨fun k hk => by simp at hk, fun k hk => by simp at hk⟩, fun k hk => by simp at hk, by simp⟩
theorem Asc.next {u l : List Int} {v : Nat} (h : Asc u l v) : Asc u l (v + 1) := ⟨h.up, fun k hk => by have := h.lt k hk; omega, by have := h.len; omega⟩
theorem Asc.push {u l : List Int} {v : Nat} (h : Asc u l v) (hv : v < u.length) : Asc u (l ++ [(v : Int)]) (v + 1) := by
  have e1 : ∀ k, k < l.length → (l ++ [(v : Int)]).getD k 0 = l.getD k 0 := fun k hk => by
    rw [List.getD_eq_getElem?_getD, List.getElem?_append_left hk, ← List.getD_eq_getElem?_getD]
  have e2 : (l ++ [(v : Int)]).getD l.length 0 = (v : Int) := by
    rw [List.getD_eq_getElem?_getD, List.getElem?_append_right (Nat.le_refl _)]; simp
  refine ⟨⟨fun k hk => ?_, fun k hk => ?_⟩, fun k hk => ?_, by have := h.len; simp; omega⟩
  · unfold atN
    simp only [List.length_append, List.length_singleton] at hk
    by_cases e : k = l.length
    · subst e; rw [e2]; omega
    · rw [e1 k (by omega)]
      exact h.up.mem k (by omega)
  · unfold atN
    simp only [List.length_append, List.length_singleton] at hk
    by_cases e : k + 1 = l.length
    · rw [e1 k (by omega), e, e2]
      have := h.lt k (by omega)
      unfold atN at this
      omega
    · rw [e1 k (by omega), e1 (k + 1) (by omega)]
      exact h.up.up k (by omega)
  · unfold atN
    simp only [List.length_append, List.length_singleton] at hk
    by_cases e : k = l.length
    · subst e; rw [e2]; omega
    · rw [e1 k (by omega)]
      have := h.lt k (by omega)
      unfold atN at this
      omega
theorem own_eq (l : List Int) (h : l.length ≤ 1000) : spec_l01Own.f l = some l := by
  unfold spec_l01Own.f
  rw [Option.bind_some, if_pos (by simp; omega)]
  simp
def pickM (one : Bool) (first : List Int) (count : Int) (sols : List (List Int)) : List Int × Int :=
  (if count = 0 then sols.headD first else first, count + (if one = true then (min 1 sols.length : Nat) else (sols.length : Nat) : Int))
section
variable {t u : List Int} (hu : IsT u) (hn : u.length ≤ 12) (ht : t.length ≤ 24) (one : Bool)
include hu hn ht
theorem spec_S {m v : Nat} {l : List Int} (hm : v + m = u.length) (ha : Asc u l v) (hl : l = [] ∧ v = 0 ∨ 0 < l.length ∧ l.getD (l.length - 1) 0 + 1 = (v : Int))
    (H : Ev (fun k => spec_l04Lists.l0 k l one [] 0 (v : Int) t u) (pickM one [] 0 (solL t.length (insM t u) m l v))) :
    Ev (fun k => spec_l04Lists.f k t u l one) (pickM one [] 0 (solS t.length (insM t u) m l v)) := by
  have hlen := ha.len
  refine Ev.step (fun k => by rw [spec_l04Lists.f]) ?_
  refine ev_ite (fun hx => ?_) (fun hx => ?_)
  · have e : l.length = t.length := by omega
    unfold solS
    rw [if_pos e]
    refine Ev.bind (spec_ins_ev hu (by omega) ha.up (by omega) e) (ev_ite (fun hy => ?_) (fun hy => ?_))
    · rw [if_pos hy]
      exact ev_now (by cases one <;> simp [pickM])
    · rw [if_neg hy]
      exact ev_now (by cases one <;> simp [pickM])
  · have e : ¬ l.length = t.length := by omega
    unfold solS
    rw [if_neg e]
    rcases hl with ⟨rfl, rfl⟩ | ⟨h0, h1⟩
    · refine ev_neg (by simp) ?_
      refine Ev.step (fun k => by rw [spec_l04Lists.j0]) ?_
      exact H
    · rw [w64 (x := (l.length : Int) - 1) (by omega) (by omega), show (l.length : Int) - 1 = ((l.length - 1 : Nat) : Int) by omega, rd_nat, h1, w64 (by omega) (by omega)]
      refine ev_pos (by omega) (ev_pos (by omega) (ev_pos (by omega) ?_))
      refine Ev.step (fun k => by rw [spec_l04Lists.j0]) ?_
      exact H
theorem spec_L : ∀ (m v : Nat) (l first : List Int) (count : Nat), v + m = u.length → Asc u l v → (one = true → count = 0) → count + 2 ^ m ≤ 8192 → Ev (fun k => spec_l04Lists.l0 k l one first (count : Int) (v : Int) t u) (pickM one first (count : Int) (solL t.length (insM t u) m l v))
  | 0, v, l, first, count, hm, ha, ho, hc => by
    refine Ev.step (fun k => by rw [spec_l04Lists.l0]) ?_
    simp only [l01N_ev]
    refine ev_some (ev_neg (by omega) (ev_now ?_))
    simp [pickM, solL]
  | m + 1, v, l, first, count, hm, ha, ho, hc => by
    have hlen := ha.len
    have hp : 2 ^ (m + 1) = 2 ^ m + 2 ^ m := by rw [Nat.pow_succ]; omega
    have hap := ha.push (v := v) (by omega)
    have hS := spec_S hu hn ht one (m := m) (v := v + 1) (l := l ++ [(v : Int)]) (by omega) hap (Or.inr ⟨by simp, by
      rw [List.length_append, List.length_singleton, Nat.add_sub_cancel, List.getD_eq_getElem?_getD, List.getElem?_append_right (Nat.le_refl _)]
      simp⟩) (by
      have := spec_L m (v + 1) (l ++ [(v : Int)]) [] 0 (by omega) hap (fun _ => rfl) (by omega)
      exact this)
    have hfew := solS_few t.length (insM t u) m (l ++ [(v : Int)]) (v + 1)
    rw [solL_succ]
    obtain ⟨sub, es⟩ : ∃ sub, solS t.length (insM t u) m (l ++ [(v : Int)]) (v + 1) = sub := ⟨_, rfl⟩
    rw [es] at hS hfew ⊢
    have next : ∀ (first' : List Int) (count' : Nat), (one = true → count' = 0) → count' + 2 ^ m ≤ 8192 → Ev (fun k => spec_l04Lists.l0 k l one first' (count' : Int) (wrap64 ((v : Int) + 1)) t u) (pickM one first' (count' : Int) (solL t.length (insM t u) m l (v + 1))) := by
      intro first' count' h1 h2
      rw [w64s (by omega)]
      exact spec_L m (v + 1) l first' count' (by omega) ha.next h1 h2
    refine Ev.step (fun k => by rw [spec_l04Lists.l0]) ?_
    simp only [l01N_ev, own_eq l (by omega)]
    refine ev_some (ev_pos (by omega) (ev_some (ev_some (ev_pos (by simp; omega) (Ev.bind hS ?_)))))
    cases sub with
    | nil =>
      have e0 : (pickM one [] 0 ([] : List (List Int))) = ([], 0) := by cases one <;> simp [pickM]
      rw [e0, List.nil_append]
      refine ev_neg (by decide) ?_
      refine Ev.step (fun k => by rw [spec_l04Lists.j2]) ?_
      rw [show (count : Int) + 0 = (count : Int) by omega, w64 (x := (count : Int)) (by omega) (by omega)]
      refine ev_neg (by decide) (ev_ite (fun h1 => ev_neg (by have := ho h1; omega) (next first count ho (by omega))) (fun h1 => next first count ho (by omega)))
    | cons s rest =>
      cases hone : one with
      | true =>
        have hc0 := ho hone
        subst hc0
        have e0 : (pickM true [] 0 (s :: rest)) = (s, 1) := by simp [pickM]
        have e1 : pickM true first ((0 : Nat) : Int) (s :: rest ++ solL t.length (insM t u) m l (v + 1)) = (s, 1) := by simp [pickM]
        rw [e0, e1]
        refine ev_pos (by simp) ?_
        refine Ev.step (fun k => by rw [spec_l04Lists.j2]) ?_
        exact ev_pos (by simp) (ev_pos rfl (ev_pos (by simp [wrap64]) (ev_now (by simp [wrap64]))))
      | false =>
        rw [hone] at next
        have e0 : (pickM false [] 0 (s :: rest)) = (s, ((rest.length + 1 : Nat) : Int)) := by simp [pickM]
        rw [e0]
        have e2 : wrap64 ((count : Int) + ((rest.length + 1 : Nat) : Int)) = ((count + (rest.length + 1) : Nat) : Int) := by
          simp only [List.length_cons] at hfew
          rw [w64 (by omega) (by omega)]; omega
        have hfew' : rest.length + 1 ≤ 2 ^ m := by simpa using hfew
        refine ev_pos (by simp only; omega) ?_
        refine Ev.step (fun k => by rw [spec_l04Lists.j2]) ?_
        rw [e2]
        refine ev_ite (fun hx => ?_) (fun hx => ?_)
        · have hc0 : count = 0 := by simpa using hx
          refine ev_neg (by decide) (ev_eq (next s (count + (rest.length + 1)) (by simp) (by omega)) ?_)
          unfold pickM
          refine Prod.ext ?_ ?_
          · simp only [List.cons_append, List.headD_cons]
            rw [if_neg (by omega), if_pos (by omega)]
          · simp
            omega
        · have hc0 : ¬ count = 0 := by simpa using hx
          refine ev_neg (by decide) (ev_eq (next first (count + (rest.length + 1)) (by simp) (by omega)) ?_)
          unfold pickM
          refine Prod.ext ?_ ?_
          · simp only []
            rw [if_neg (by omega), if_neg (by omega)]
          · simp
            omega
theorem spec_lists_ev : Ev (fun k => spec_l04Lists.f k t u [] one) (pickM one [] 0 (solS t.length (insM t u) u.length [] 0)) := by
  have hp : 2 ^ u.length ≤ 2 ^ 12 := Nat.pow_le_pow_right (by decide) hn
  exact spec_S hu hn ht one (by omega) (Asc.nil u) (Or.inl ⟨rfl, rfl⟩) (spec_L hu hn ht one u.length 0 [] [] 0 (by omega) (Asc.nil u) (fun _ => rfl) (by omega))
end
section
variable {σ : Type} {D : σ → List Int → Option (Bool × σ)} {R : σ → List (List Int) → Bool × σ} (R0 : ∀ s, R s [] = (true, s)) (R1 : ∀ s c, D s c = some (R s [c])) (RA : ∀ s a b, R s (a ++ b) = if (R s a).1 = true then R (R s a).2 b else R s a)
variable {t u : List Int} (hu : IsT u) (hn : u.length ≤ 12) (ht : t.length ≤ 24)
include R0 R1 RA hu hn ht
theorem impl_S {m v : Nat} {l : List Int} (s : σ) (hm : v + m = u.length) (ha : Asc u l v)
    (H : Ev (fun k => impl_insides.l D k t u l s (v : Int)) (R s (solL t.length (insM t u) m l v))) :
    Ev (fun k => impl_insides.s D k t u l (v : Int) s) (R s (solS t.length (insM t u) m l v)) := by
  have hlen := ha.len
  refine Ev.step (fun k => by rw [impl_insides.s]) ?_
  refine ev_ite (fun hx => ?_) (fun hx => ?_)
  · have e : l.length = t.length := by omega
    unfold solS slices_Clone_int64_int64.f
    rw [if_pos e, if_pos (by omega)]
    refine Ev.bind (impl_ins_ev hu (by omega) ha.up (by omega) e) (ev_ite (fun hy => ?_) (fun hy => ?_))
    · rw [if_pos hy]
      refine ev_some ?_
      rw [R1]
      exact Ev.now _
    · rw [if_neg hy, R0]
      exact Ev.now _
  · have e : ¬ l.length = t.length := by omega
    unfold solS
    rw [if_neg e]
    exact H
theorem impl_L : ∀ (m v : Nat) (l : List Int) (s : σ), v + m = u.length → Asc u l v → Ev (fun k => impl_insides.l D k t u l s (v : Int)) (R s (solL t.length (insM t u) m l v))
  | 0, v, l, s, hm, ha => by
    refine Ev.step (fun k => by rw [impl_insides.l]) ?_
    refine ev_neg (by omega) (ev_now ?_)
    simp [solL, R0]
  | m + 1, v, l, s, hm, ha => by
    have hlen := ha.len
    have hap := ha.push (v := v) (by omega)
    have hS := impl_S R0 R1 RA hu hn ht (m := m) (v := v + 1) (l := l ++ [(v : Int)]) s (by omega) hap (impl_L m (v + 1) _ s (by omega) hap)
    refine Ev.step (fun k => by rw [impl_insides.l]) ?_
    rw [w64s (by omega), solL_succ, RA]
    refine ev_pos (by omega) (ev_pos (by omega) (Ev.bind hS (ev_ite (fun hx => ?_) (fun hx => ?_))))
    · rw [if_pos hx]
      exact impl_L m (v + 1) l _ (by omega) ha.next
    · rw [if_neg hx]
      exact ev_now (by
        have e : (R s (solS t.length (insM t u) m (l ++ [(v : Int)]) (v + 1))).1 = false := by simpa using hx
        exact Prod.ext e.symm rfl)
theorem impl_insides_ev (s : σ) : Ev (fun k => impl_insides.s D k t u [] 0 s) (R s (solS t.length (insM t u) u.length [] 0)) := by
  have := impl_S R0 R1 RA hu hn ht (m := u.length) (v := 0) (l := []) s (by omega) (Asc.nil u) (impl_L R0 R1 RA hu hn ht u.length 0 [] s (by omega) (Asc.nil u))
  exact this
end
def codeI (t u : List Int) : Int := if isTreeM t = true ∧ isTreeM u = true then (if u.length ≤ 12 then 0 else 3) else 1
theorem spec_both_ev (t u : List Int) (ht : t.length ≤ 1048576) (hu : u.length ≤ 1048576) : Ev (fun k => spec_l04Both.f k t u) (codeI t u) := by
  unfold spec_l04Both.f codeI
  refine Ev.bind (spec_l01Is_ev t ht) (ev_ite (fun h1 => Ev.bind (spec_l01Is_ev u hu) ?_) (fun h1 => ?_))
  · refine Ev.step (fun k => by rw [spec_l04Both.j0]) ?_
    by_cases h2 : isTreeM u = true
    · rw [if_pos (show isTreeM t = true ∧ isTreeM u = true from ⟨h1, h2⟩), h2]
      simp only [l01N_ev]
      refine ev_neg (by decide) (ev_some (ev_ite (fun hx => ?_) (fun hx => ?_)))
      · rw [if_neg (by omega)]; exact Ev.now _
      · rw [if_pos (by omega)]; exact Ev.now _
    · rw [if_neg (show ¬ (isTreeM t = true ∧ isTreeM u = true) from fun h => h2 h.2)]
      exact ev_pos (by simpa using h2) (Ev.now _)
  · refine Ev.step (fun k => by rw [spec_l04Both.j0]) ?_
    rw [if_neg (show ¬ (isTreeM t = true ∧ isTreeM u = true) from fun h => h1 h.1)]
    exact ev_pos rfl (Ev.now _)
theorem impl_insideCode_ev (t u : List Int) : Ev (fun k => impl_insideCode.f k t u) (codeI t u) := by
  unfold impl_insideCode.f codeI
  refine Ev.bind (areTrees2_ev t u) (ev_ite (fun h1 => ?_) (fun h1 => ?_))
  · rw [Bool.and_eq_true] at h1
    rw [if_pos h1]
    refine ev_ite (fun hx => ?_) (fun hx => ?_)
    · rw [if_neg (by omega)]; exact Ev.now _
    · rw [if_pos (by omega)]; exact Ev.now _
  · rw [Bool.and_eq_true] at h1
    rw [if_neg h1]
    exact Ev.now _
theorem codeI_ok {t u : List Int} (h : codeI t u = 0) : (IsT t ∧ t.length ≤ 24) ∧ IsT u ∧ u.length ≤ 12 := by
  unfold codeI at h
  split at h
  · rename_i hc
    split at h
    · rename_i h12
      exact ⟨isTreeM_sound hc.1, (isTreeM_sound hc.2).1, h12⟩
    · simp at h
  · simp at h
end Go.Proofs.Ytehincgnkgklkaa.E
namespace Go.Proofs.Ytehincgnkgklkaa.E
set_option linter.unusedVariables false
set_option linter.unusedSectionVars false
open Go.RowKit Go.Proofs.YtehincgnkgklkaaW.PrintWords Go.Proofs.Ytehincgnkgklkaa.Base Go.Proofs.Ytehincgnkgklkaa.Tree
def fstR (s : Option (List Int)) : List (List Int) → Bool × Option (List Int)
  | [] => (true, s)
  | x :: _ => (false, some x)
theorem both_FirstInside (t u : List Int) (ht : t.length ≤ 1048576) (hu : u.length ≤ 1048576) : ∃ r : List Int × Int, r.1.length ≤ 1048576 ∧ Ev (fun k => spec_FirstInside.f k t u) r ∧ Ev (fun k => impl_FirstInside.f k t u) r := by
  by_cases hc : codeI t u = 0
  · obtain ⟨⟨hT0, hT⟩, hU, h12⟩ := codeI_ok hc
    have h1 := spec_lists_ev hU h12 hT true
    have h2 := impl_insides_ev (D := impl_FirstInside.D) (R := fstR) (fun s => rfl) (fun s c => rfl) (fun s a b => by cases a <;> simp [fstR]) hU h12 hT none
    have hlen := solS_len t.length (insM t u) u.length [] 0
    have h0 := hT0.len
    obtain ⟨sols, es⟩ : ∃ sols, solS t.length (insM t u) u.length [] 0 = sols := ⟨_, rfl⟩
    rw [es] at h1 h2 hlen
    cases sols with
    | nil =>
      refine ⟨([], 4), by simp, ?_, ?_⟩
      · unfold spec_FirstInside.f
        exact Ev.bind (spec_both_ev t u ht hu) (ev_pos hc (Ev.bind h1 (ev_pos (by simp [pickM]) (Ev.now _))))
      · unfold impl_FirstInside.f
        exact Ev.bind (impl_insideCode_ev t u) (ev_pos hc (Ev.bind h2 (Ev.now _)))
    | cons x l =>
      have hx := hlen x (by simp)
      refine ⟨(x, 0), by simp only; omega, ?_, ?_⟩
      · unfold spec_FirstInside.f
        exact Ev.bind (spec_both_ev t u ht hu) (ev_pos hc (Ev.bind h1 (ev_neg (by simp [pickM]) (ev_now (by simp [pickM])))))
      · unfold impl_FirstInside.f
        refine Ev.bind (impl_insideCode_ev t u) (ev_pos hc (Ev.bind h2 ?_))
        simp only [fstR, impl_FirstInside.g]
        rw [if_pos (by omega)]
        exact Ev.now _
  · refine ⟨([], codeI t u), by simp, ?_, ?_⟩
    · unfold spec_FirstInside.f
      exact Ev.bind (spec_both_ev t u ht hu) (ev_neg hc (Ev.now _))
    · unfold impl_FirstInside.f
      exact Ev.bind (impl_insideCode_ev t u) (ev_neg hc (Ev.now _))
end Go.Proofs.Ytehincgnkgklkaa.E
namespace Go.Proofs.Ytehincgnkgklkaa.Pure
open Go.RowKit Go.Proofs.YtehincgnkgklkaaW.PrintWords Go.Proofs.Ytehincgnkgklkaa.Base Go.Proofs.Ytehincgnkgklkaa.E
theorem FnExactFirstInside : ∀ (t u : List Int), t.length ≤ maxLen → (∀ x ∈ t, (Lit.int .i64 x).wf = true) → u.length ≤ maxLen → (∀ x ∈ u, (Lit.int .i64 x).wf = true) → ∃ k, laws_FnExactFirstInside.f k t u = some true := by
  intro t u htm _ hum _
  apply Ev.rounds
  unfold laws_FnExactFirstInside.f
  simp only [szTree_eq t 1048576 (by decide) (by decide) htm]
  refine ev_some ?_
  by_cases hb : (1048576 : Int) < t.length
  · rw [if_pos hb]
    exact ev_pos (by decide) (Ev.now _)
  · rw [if_neg hb]
    have ht : t.length ≤ 1048576 := by omega
    refine ev_neg (by omega) ?_
    simp only [szTree_eq u ((1048576 : Int) - t.length) (by omega) (by omega) hum]
    refine ev_some ?_
    by_cases hc : (1048576 : Int) - t.length < u.length
    · rw [if_pos hc]
      exact ev_pos (by decide) (Ev.now _)
    · rw [if_neg hc]
      have hu : u.length ≤ 1048576 := by omega
      obtain ⟨r, hr, h1, h2⟩ := both_FirstInside t u ht hu
      refine ev_neg (by omega) (Ev.bind (toTree_ev t ht) (Ev.bind (toTree_ev u hu) (Ev.bind h1 (Ev.bind (toTree_ev t ht) (Ev.bind (toTree_ev u hu) (Ev.bind h2 (Ev.bind (eqInt64S_ev _ hr) (ev_pos rfl ?_))))))))
      refine Ev.step (fun k => by rw [laws_FnExactFirstInside.j0]) ?_
      refine ev_neg (by simp) (Ev.bind (toTree_ev t ht) (Ev.bind (eqTree_ev t ht) (ev_pos rfl (Ev.bind (toTree_ev u hu) (Ev.bind (eqTree_ev u hu) (ev_pos rfl (Ev.bind (markTree_ev t 1 (by decide) (by decide) ht) (Ev.bind (markTree_ev u _ (by simp only; omega) (by simp only; omega) hu) (ev_neg (by simp only; omega) (Ev.bind (eqInt64S_ev _ hr) (ev_pos rfl ?_)))))))))))
      refine Ev.step (fun k => by rw [laws_FnExactFirstInside.j1]) ?_
      refine ev_neg (by simp) ?_
      refine Ev.bind (markInt64S_ev _ 1 (by decide) (by decide) hr) (Ev.bind (heldInt64S_ev _ 1 (by decide) (by decide) hr) (ev_neg (by omega) (ev_pos rfl (Ev.bind (toTree_ev t ht) (Ev.bind (toTree_ev u hu) (Ev.bind h2 (Ev.bind (eqInt64S_ev _ hr) (ev_pos rfl ?_))))))))
      refine Ev.step (fun k => by rw [laws_FnExactFirstInside.j2]) ?_
      refine ev_neg (by simp) ?_
      exact Ev.bind (heldInt64S_ev _ 1 (by decide) (by decide) hr) (ev_neg (by omega) (ev_pos rfl (Ev.now _)))
end Go.Proofs.Ytehincgnkgklkaa.Pure
namespace Go.Proofs.Ytehincgnkgklkaa.Open
set_option linter.unusedVariables false
set_option linter.unusedSectionVars false
open Go.RowKit Go.ChangeShapes Go.WideShapes Go.ChangeAt Go.Deep Go.Proofs.YtehincgnkgklkaaW.PrintWords
section
variable {H : Type} {enc : TypeId × Value → H} {P : Program} {w : World} {base : Nat} {held : Bool}

def Opens {α : Type} (d : Kd α) (Q : α → Prop) (enc : TypeId × Value → H) (P : Program) (w : World) (base : Nat) (held : Bool) (t : TypeId) : Prop :=
  ∀ (fuel : Nat) (cs : List Value) (x : DataW H × List MemPlace), DataW.trod enc P w base (fun _ => true) held fuel t cs = some x → ∃ a, d.K w a cs ∧ Q a
theorem opens_int {t : TypeId} {k : IntKind} (ht : P.underlying t = some (.int k)) : Opens (Kd.int k) (fun n => (Lit.int k n).wf = true) enc P w base held t := by
  intro fuel cs x h
  obtain ⟨n, rfl, _, hw⟩ := DataW.trod_int ht h
  exact ⟨n, rfl, hw⟩
theorem opens_slice {α : Type} [Inhabited α] {d : Kd α} {Q : α → Prop} {t e : TypeId} (ht : P.underlying t = some (.slice e)) (hc : P.cellsOf e = d.sz) (he : Opens d Q enc P w base held e) :
    Opens (Kd.slice e d) (fun xs => xs.length ≤ maxLen ∧ ∀ y ∈ xs, Q y) enc P w base held t := by
  intro fuel cs x h
  rcases open_slice ht h with ⟨rfl, _⟩ | ⟨a, len, cap, m, n, D, Pl, rfl, _, hl, hm, hmm, _, each⟩
  · exact ⟨[], ⟨none, 0, rfl, Nat.le_refl _, rfl, by simp, fun h0 => by simp at h0⟩, by simp, by simp⟩
  · simp only [if_true] at hmm
    have hx : ∀ i, i < len → ∃ y : α, Q y ∧ ∃ cs', w.cells? base (a.add (i * P.cellsOf e)) (P.cellsOf e) = some cs' ∧ d.K w y cs' := by
      intro i hi
      obtain ⟨cs', h1, h2⟩ := each i (by omega)
      obtain ⟨y, hk, hq⟩ := he _ _ _ h2
      exact ⟨y, hq, cs', h1, hk⟩
    obtain ⟨f, hf⟩ := choose_lt hx
    refine ⟨(List.range len).map f, ⟨some a, cap, by simp, by simpa using hl, by simp, by unfold maxLen at hm; simp; omega, fun _ => ⟨a, rfl, fun j p hj => ?_⟩⟩, by simp; omega, fun y hy => ?_⟩
    · rw [List.getElem?_map] at hj
      have hjl : j < len := by
        rcases Nat.lt_or_ge j len with h | h
        · exact h
        · rw [List.getElem?_eq_none (by simpa using h)] at hj
          cases hj
      rw [List.getElem?_range hjl] at hj
      obtain rfl := Option.some.inj hj
      obtain ⟨_, cs', h1, h2⟩ := hf j hjl
      obtain ⟨_, h3, h4⟩ := World.cells?_some h1
      refine ⟨cs', d.K_len h2, h2, fun i u hu => ?_⟩
      have hi : i < P.cellsOf e := by
        rw [← h3]
        exact (List.getElem?_eq_some_iff.1 hu).1
      have h5 := h4 i hi
      rw [hu] at h5
      rw [Go.Deep.add_add] at h5
      rw [← hc]
      exact h5
    · obtain ⟨i, hi, rfl⟩ := List.mem_map.1 hy
      exact (hf i (List.mem_range.1 hi)).1
theorem slice_in {α : Type} [Inhabited α] {d : Kd α} {Q : α → Prop} {t e : TypeId} {v : Value} {fuel : Nat} {x : DataW H × List MemPlace} (ht : P.underlying t = some (.slice e)) (hc : P.cellsOf e = d.sz) (he : Opens d Q enc P w base held e)
    (h : DataW.trod enc P w base (fun _ => true) held fuel t [v] = some x) : ∃ (A : Option Addr) (c : Nat) (xs : List α), v = .slice A xs.length c ∧ xs.length ≤ c ∧ xs.length ≤ maxLen ∧ d.C w A xs.length xs ∧ ∀ y ∈ xs, Q y := by
  obtain ⟨xs, ⟨A, c, hv, hl, hC⟩, hm, hq⟩ := opens_slice ht hc he _ _ _ h
  obtain rfl : v = .slice A xs.length c := by simpa using hv
  exact ⟨A, c, xs, rfl, hl, hm, hC, hq⟩
theorem open_agg1 {spare : Nat → Bool} {r : Reach} {b0 : Nat} {t : TypeId} {f0 : Field} {v : Value} {d : DataW H} {p : List MemPlace} (hs : P.underlying t = some (.struct #[f0])) (hone : oneCellFields P #[f0] = true) (hC : P.cellsOf t = 1)
    (hv : Value.okWide P w r b0 t v) (h : DataW.Trod enc P w base spare held t v d p) :
    ∃ (v0 : Value) (y0 : DataW H × List MemPlace) (n : Nat), v = .agg #[v0] ∧ DataW.trod enc P w base spare held n f0.type [v0] = some y0 := by
  obtain ⟨cs, rfl, hsz⟩ := okWide_struct hs hv
  obtain ⟨c0, rfl⟩ : ∃ c0, cs = #[c0] := by
    obtain ⟨l⟩ := cs
    match l, hsz.trans hC with
    | [c0], _ => exact ⟨c0, rfl⟩
  obtain ⟨fuel, hf⟩ := h
  obtain ⟨y0, n, hx, _, h0⟩ := trod_struct1 hs hf
  obtain ⟨o0, k0⟩ := hone_of hone 0 f0 rfl
  exact ⟨c0, y0, n, rfl, by simpa [Value.cells, o0, k0] using h0⟩
end
end Go.Proofs.Ytehincgnkgklkaa.Open
