/- The row of the law FnExactFillPattern, out of its pure statement. -/
import Derived.Test.YtmambanmffdibaaQFPEx0
import Derived.Test.YtmambanmffdibaaQFPEx1
import Derived.Test.YtmambanmffdibaaQFPEx3
import Derived.Test.YtmambanmffdibaaQFPL
import Derived.Test.YtmambanmffdibaaQFPW
namespace Go.Proofs.Ytmambanmffdibaa.Base
set_option linter.unusedVariables false
set_option linter.unusedSectionVars false
open Go.RowKit Go.Proofs.YtmambanmffdibaaW.PrintWords

theorem ev_pos {α : Type} {c : Prop} [Decidable c] {f g : Nat → Option α} {r : α} (h : c) (k : Ev f r) : Ev (fun n => if c then f n else g n) r := by
  simpa [h] using k
theorem ev_neg {α : Type} {c : Prop} [Decidable c] {f g : Nat → Option α} {r : α} (h : ¬ c) (k : Ev g r) : Ev (fun n => if c then f n else g n) r := by
  simpa [h] using k
theorem ev_ite {α : Type} {c : Prop} [Decidable c] {f g : Nat → Option α} {r : α} (h : c → Ev f r) (k : ¬ c → Ev g r) : Ev (fun n => if c then f n else g n) r := by
  by_cases hc : c
  · exact ev_pos hc (h hc)
  · exact ev_neg hc (k hc)
theorem ev_now {α : Type} {a r : α} (h : a = r) : Ev (fun _ => some a) r := h ▸ Ev.now a
theorem ev_some {α β : Type} {f : Nat → α → Option β} {a : α} {r : β} (k : Ev (fun n => f n a) r) : Ev (fun n => (some a).bind (f n)) r := by
  simpa using k
theorem w64 {x : Int} (h1 : -9223372036854775808 ≤ x) (h2 : x ≤ 9223372036854775807) : wrap64 x = x := by unfold wrap64; omega
theorem w64s {i : Nat} (h : i < 9223372036854775807) : wrap64 ((i : Int) + 1) = ((i + 1 : Nat) : Int) := by unfold wrap64; omega
theorem w64p {i : Nat} (h : i < 9223372036854775807) : wrap64 (((i + 1 : Nat) : Int) - 1) = (i : Int) := by unfold wrap64; omega

theorem rd_nat (l : List Int) (i : Nat) : rd l (i : Int) = l.getD i 0 := rfl
theorem set_eq {l m : List Int} {i : Nat} (hl : m.length = l.length) (h : ∀ j, j < i → m.getD j 0 = l.getD j 0) : ∀ j, j < i + 1 → (m.set i (l.getD i 0)).getD j 0 = l.getD j 0 := by
  intro j hj
  rw [List.getD_eq_getElem?_getD, List.getElem?_set]
  by_cases e : i = j
  · subst e
    by_cases hlt : i < m.length
    · simp [hlt]
    · rw [if_pos rfl, if_neg hlt, List.getD_eq_getElem?_getD, List.getElem?_eq_none (by omega)]
  · rw [if_neg e, ← List.getD_eq_getElem?_getD]
    exact h j (by omega)
theorem ext_getD {l m : List Int} (hl : m.length = l.length) (h : ∀ j, j < l.length → m.getD j 0 = l.getD j 0) : m = l := by
  apply List.ext_getElem hl
  intro j h1 h2
  have := h j h2
  rwa [List.getD_eq_getElem?_getD, List.getD_eq_getElem?_getD, List.getElem?_eq_getElem h1, List.getElem?_eq_getElem h2] at this
theorem get_set_ne {l : List Int} {i j : Nat} {v : Int} (h : i ≠ j) : (l.set i v).getD j 0 = l.getD j 0 := by
  rw [List.getD_eq_getElem?_getD, List.getElem?_set_ne h, ← List.getD_eq_getElem?_getD]
theorem get_set_eq {l : List Int} {i : Nat} {v : Int} (h : i < l.length) : (l.set i v).getD i 0 = v := by
  rw [List.getD_eq_getElem?_getD, List.getElem?_set_self h]; rfl
end Go.Proofs.Ytmambanmffdibaa.Base
namespace Go.Proofs.Ytmambanmffdibaa.Tree
set_option linter.unusedVariables false
set_option linter.unusedSectionVars false

def nd (d : List Int) : Nat → Int
  | 0 => 1
  | i + 1 => nd d i + d.getD i 0 - 1

structure IsT (d : List Int) : Prop where
  pos : ∀ i, i < d.length → 0 < nd d i
  deg : ∀ i, i < d.length → 0 ≤ d.getD i 0
  fin : nd d d.length = 0

def skip (d : List Int) : Nat → Int → Nat → Nat
  | 0, _, v => v
  | f + 1, need, v => if need > 0 then skip d f (need + (d.getD v 0 - 1)) (v + 1) else v
def endM (d : List Int) (v : Nat) : Nat := skip d (d.length - v) 1 v

theorem IsT.len {d : List Int} (h : IsT d) : 0 < d.length := by
  rcases Nat.eq_zero_or_pos d.length with h0 | h0
  · have := h.fin
    rw [h0] at this
    simp [nd] at this
  · exact h0

theorem skip_spec {d : List Int} (h : IsT d) {v : Nat} (hv : v < d.length) : ∀ (f u : Nat), u + f = d.length → v ≤ u → (∀ j, v < j → j < u → nd d v ≤ nd d j) →
    (u = v ∨ nd d v - 1 ≤ nd d u) →
    v < skip d f (1 + nd d u - nd d v) u ∧ skip d f (1 + nd d u - nd d v) u ≤ d.length ∧ nd d (skip d f (1 + nd d u - nd d v) u) = nd d v - 1 ∧ ∀ j, v < j → j < skip d f (1 + nd d u - nd d v) u → nd d v ≤ nd d j := by
  intro f
  induction f with
  | zero =>
    intro u hf hvu hj hu
    have hn : u = d.length := by omega
    have h1 := h.fin
    have h2 := h.pos v hv
    subst hn
    simp only [skip]
    refine ⟨hv, Nat.le_refl _, ?_, hj⟩
    rcases hu with hu | hu
    · omega
    · omega
  | succ f ih =>
    intro u hf hvu hj hu
    have hlt : u < d.length := by omega
    simp only [skip]
    by_cases hn : 1 + nd d u - nd d v > 0
    · rw [if_pos hn]
      have e : 1 + nd d u - nd d v + (d.getD u 0 - 1) = 1 + nd d (u + 1) - nd d v := by simp only [nd]; omega
      rw [e]
      refine ih (u + 1) (by omega) (by omega) (fun j h1 h2 => ?_) (.inr ?_)
      · by_cases hju : j = u
        · subst hju; omega
        · exact hj j h1 (by omega)
      · have := h.deg u hlt
        simp only [nd]; omega
    · rw [if_neg hn]
      rcases hu with hu | hu
      · subst hu; omega
      · have hne : v ≠ u := by intro e; subst e; omega
        exact ⟨by omega, by omega, by omega, hj⟩

section
variable {d : List Int} (h : IsT d)
include h
theorem end_spec {v : Nat} (hv : v < d.length) : v < endM d v ∧ endM d v ≤ d.length ∧ nd d (endM d v) = nd d v - 1 ∧ ∀ j, v < j → j < endM d v → nd d v ≤ nd d j := by
  have := skip_spec h hv (d.length - v) v (by omega) (Nat.le_refl _) (fun j h1 h2 => by omega) (.inl rfl)
  have e : 1 + nd d v - nd d v = 1 := by omega
  rw [e] at this
  exact this
theorem end_gt {v : Nat} (hv : v < d.length) : v < endM d v := (end_spec h hv).1
theorem end_le {v : Nat} (hv : v < d.length) : endM d v ≤ d.length := (end_spec h hv).2.1
theorem end_nd {v : Nat} (hv : v < d.length) : nd d (endM d v) = nd d v - 1 := (end_spec h hv).2.2.1
theorem end_in {v j : Nat} (hv : v < d.length) (h1 : v < j) (h2 : j < endM d v) : nd d v ≤ nd d j := (end_spec h hv).2.2.2 j h1 h2
theorem end_unique {v e : Nat} (hv : v < d.length) (h1 : v < e) (h2 : nd d e < nd d v) (h3 : ∀ j, v < j → j < e → nd d v ≤ nd d j) : e = endM d v := by
  have ⟨a, b, c, k⟩ := end_spec h hv
  rcases Nat.lt_trichotomy e (endM d v) with hl | hl | hl
  · have := k e h1 hl; omega
  · exact hl
  · have := h3 _ a hl; omega
theorem end_root : endM d 0 = d.length := by
  refine (end_unique h h.len h.len ?_ (fun j h1 h2 => ?_)).symm
  · rw [h.fin]; simp [nd]
  · have := h.pos j h2; simp only [nd]; omega
theorem nd_le {i : Nat} (hi : i ≤ d.length) : nd d i ≤ d.length - i := by
  obtain ⟨k, hk⟩ : ∃ k, i + k = d.length := ⟨d.length - i, by omega⟩
  induction k generalizing i with
  | zero => have := h.fin; have e : i = d.length := by omega
            subst e; omega
  | succ k ih =>
    have := ih (i := i + 1) (by omega) (by omega)
    have h1 := h.deg i (by omega)
    simp only [nd] at this
    omega
theorem nd_nonneg {i : Nat} (hi : i ≤ d.length) : 0 ≤ nd d i := by
  rcases Nat.lt_or_ge i d.length with hl | hl
  · have := h.pos i hl; omega
  · have e : i = d.length := by omega
    have := h.fin
    subst e; omega
theorem deg_le {v : Nat} (hv : v < d.length) : d.getD v 0 < d.length - v := by
  have h1 := nd_le h (i := v + 1) (by omega)
  have h2 := h.pos v hv
  simp only [nd] at h1
  omega
theorem end_mono {u v : Nat} (hv : v < d.length) (h1 : v ≤ u) (h2 : u < endM d v) : endM d u ≤ endM d v := by
  rcases Nat.eq_or_lt_of_le h1 with e | hl
  · subst e; exact Nat.le_refl _
  · have hu : u < d.length := by have := end_le h hv; omega
    rcases Nat.lt_or_ge (endM d v) (endM d u) with hx | hx
    · have a := end_in h hu h2 hx
      have b := end_in h hv hl h2
      have c := end_nd h hv
      omega
    · exact hx
end

def kidsFrom (d : List Int) : Nat → Nat → List Nat
  | 0, _ => []
  | m + 1, c => c :: kidsFrom d m (endM d c)
def kidsM (d : List Int) (v : Nat) : List Nat := kidsFrom d (d.getD v 0).toNat (v + 1)
theorem kidsFrom_length (d : List Int) : ∀ (m c : Nat), (kidsFrom d m c).length = m
  | 0, _ => rfl
  | m + 1, c => by simp [kidsFrom, kidsFrom_length d m]

inductive Run (d : List Int) : Nat → Nat → Nat → Prop
  | nil (c : Nat) : Run d 0 c c
  | cons {m c e : Nat} : c < d.length → Run d m (endM d c) e → Run d (m + 1) c e

section
variable {d : List Int} (h : IsT d)
include h
theorem run_of {v : Nat} (hv : v < d.length) : ∀ (m c : Nat), v < c → c ≤ d.length → nd d c = nd d v - 1 + m → (∀ j, v < j → j < c → nd d v ≤ nd d j) → Run d m c (endM d v)
  | 0, c, h1, h2, h3, h4 => by
    have e := end_unique h hv h1 (by omega) h4
    rw [← e]
    exact .nil c
  | m + 1, c, h1, h2, h3, h4 => by
    have hc : c < d.length := by
      rcases Nat.lt_or_ge c d.length with hl | hl
      · exact hl
      · have e : c = d.length := by omega
        have := h.fin
        have h0 := h.pos v hv
        subst e; omega
    have a := end_spec h hc
    refine .cons hc (run_of hv m _ (by omega) a.2.1 (by omega) (fun j hj1 hj2 => ?_))
    rcases Nat.lt_trichotomy j c with hl | hl | hl
    · exact h4 j hj1 hl
    · subst hl; omega
    · have := a.2.2.2 j hl hj2; omega
theorem run_kids {v : Nat} (hv : v < d.length) : Run d (d.getD v 0).toNat (v + 1) (endM d v) := by
  have h0 := h.deg v hv
  refine run_of h hv _ _ (by omega) (by omega) ?_ (fun j h1 h2 => by omega)
  simp only [nd]; omega
theorem run_bd {m c e : Nat} (r : Run d m c e) : c ≤ e := by
  induction r with
  | nil c => exact Nat.le_refl _
  | cons hc _ ih => have := end_gt h hc; omega
theorem run_mem {m c e : Nat} (r : Run d m c e) : ∀ x ∈ kidsFrom d m c, c ≤ x ∧ x < d.length ∧ x < e ∧ endM d x ≤ e := by
  induction r with
  | nil c => intro x hx; simp [kidsFrom] at hx
  | @cons m c e hc r ih =>
    intro x hx
    have h1 := run_bd h r
    have h2 := end_gt h hc
    simp only [kidsFrom, List.mem_cons] at hx
    rcases hx with rfl | hx
    · exact ⟨Nat.le_refl _, hc, by omega, h1⟩
    · have := ih x hx
      exact ⟨by omega, this.2.1, this.2.2.1, this.2.2.2⟩
end
section
variable {d : List Int} (h : IsT d)
include h
theorem kid_mem {v c : Nat} (hv : v < d.length) (hc : c ∈ kidsM d v) : v < c ∧ c < d.length ∧ c < endM d v ∧ endM d c ≤ endM d v := by
  have := run_mem h (run_kids h hv) c hc
  exact ⟨by omega, this.2.1, this.2.2.1, this.2.2.2⟩
end

def parUp (d : List Int) (c : Nat) : Nat → Nat
  | 0 => 0
  | v + 1 => if c < endM d v then v else parUp d c v
def par (d : List Int) (c : Nat) : Nat := parUp d c c
section
variable {d : List Int} (h : IsT d)
include h
end

def below (d : List Int) (v w : Nat) : Prop := w ≤ v ∧ v < endM d w
instance (d : List Int) (v w : Nat) : Decidable (below d v w) := inferInstanceAs (Decidable (_ ∧ _))
section
variable {d : List Int} (h : IsT d)
include h
end
end Go.Proofs.Ytmambanmffdibaa.Tree
namespace Go.Proofs.Ytmambanmffdibaa.E
set_option linter.unusedVariables false
set_option linter.unusedSectionVars false
open Go.RowKit Go.Proofs.YtmambanmffdibaaW.PrintWords Go.Proofs.Ytmambanmffdibaa.Base Go.Proofs.Ytmambanmffdibaa.Tree

theorem l01In_ev (a b c : Int) : spec_l01In.f a b c = some (decide (b ≤ a) && decide (a ≤ c)) := by
  unfold spec_l01In.f
  by_cases h : a ≥ b
  · rw [if_pos h]; simp [show b ≤ a from h]
  · rw [if_neg h]; simp [show ¬ b ≤ a from h]
theorem l01N_ev (d : List Int) : spec_l01N.f d = some (d.length : Int) := rfl

def treeGo (d : List Int) (top : Int) : Nat → Nat → Int → Bool
  | 0, _, need => need == 0
  | m + 1, i, need => if need = 0 then false else if d.getD i 0 < 0 ∨ top < d.getD i 0 then false else treeGo d top m (i + 1) (need + d.getD i 0 - 1)
def isTreeM (d : List Int) : Bool := if d.length < 1 ∨ 24 < d.length then false else treeGo d 23 d.length 0 1
theorem treeGo_far (d : List Int) (top : Int) : ∀ (m i : Nat) (need : Int), (m : Int) < need → treeGo d top m i need = false
  | 0, i, need, h => by
    have hne : need ≠ 0 := by omega
    simp [treeGo, hne]
  | m + 1, i, need, h => by
    simp only [treeGo]
    rw [if_neg (by omega)]
    split
    · rfl
    · exact treeGo_far d top m (i + 1) _ (by omega)
theorem treeGo_top (d : List Int) : ∀ (m i : Nat) (need : Int), m ≤ 24 → 0 ≤ need → treeGo d 24 m i need = treeGo d 23 m i need
  | 0, i, need, _, _ => rfl
  | m + 1, i, need, h, h0 => by
    simp only [treeGo]
    by_cases hn : need = 0
    · rw [if_pos hn, if_pos hn]
    · rw [if_neg hn, if_neg hn]
      by_cases h1 : d.getD i 0 < 0 ∨ 24 < d.getD i 0
      · rw [if_pos h1, if_pos (by omega)]
      · rw [if_neg h1]
        by_cases h2 : d.getD i 0 = 24
        · rw [if_pos (by omega)]
          exact treeGo_far d 24 m (i + 1) _ (by omega)
        · rw [if_neg (by omega)]
          exact treeGo_top d m (i + 1) _ (by omega) (by omega)
theorem treeGo_sound (d : List Int) (top : Int) : ∀ (m i : Nat), i + m = d.length → 0 ≤ nd d i → treeGo d top m i (nd d i) = true → (∀ j, i ≤ j → j < d.length → 0 < nd d j ∧ 0 ≤ d.getD j 0) ∧ nd d d.length = 0
  | 0, i, h, h0, ht => by
    simp only [treeGo, beq_iff_eq] at ht
    have e : i = d.length := by omega
    subst e
    exact ⟨fun j h1 h2 => by omega, ht⟩
  | m + 1, i, h, h0, ht => by
    simp only [treeGo] at ht
    split at ht
    · cases ht
    · split at ht
      · cases ht
      · have e : nd d i + d.getD i 0 - 1 = nd d (i + 1) := rfl
        rw [e] at ht
        have ih := treeGo_sound d top m (i + 1) (by omega) (by rw [← e]; omega) ht
        refine ⟨fun j h1 h2 => ?_, ih.2⟩
        by_cases hj : j = i
        · subst hj; exact ⟨by omega, by omega⟩
        · exact ih.1 j (by omega) h2
theorem isTreeM_sound {d : List Int} (h : isTreeM d = true) : IsT d ∧ d.length ≤ 24 := by
  unfold isTreeM at h
  split at h
  · cases h
  · have := treeGo_sound d 23 d.length 0 (by omega) (by simp [nd]) (by simpa [nd] using h)
    exact ⟨⟨fun i hi => (this.1 i (Nat.zero_le _) hi).1, fun i hi => (this.1 i (Nat.zero_le _) hi).2, this.2⟩, by omega⟩
theorem impl_isTree_loop (d : List Int) (hn : d.length ≤ 24) : ∀ (m i : Nat) (need : Int), i + m = d.length → 0 ≤ need → need ≤ 1 + 24 * i → Ev (fun k => impl_isTree.l0 k need d (d.length : Int) (i : Int)) (treeGo d 23 m i need)
  | 0, i, need, h, h0, h1 => by
    refine Ev.step (fun k => by rw [impl_isTree.l0]) ?_
    exact ev_neg (by omega) (Ev.now _)
  | m + 1, i, need, h, h0, h1 => by
    refine Ev.step (fun k => by rw [impl_isTree.l0]) ?_
    refine ev_pos (by omega) (ev_pos (by omega) (ev_pos (by omega) ?_))
    simp only [treeGo, rd_nat]
    refine ev_ite (fun hx => ?_) (fun hx => ?_)
    · rw [if_pos hx]; exact Ev.now _
    · rw [if_neg hx]
      refine ev_ite (fun hy => ?_) (fun hy => ?_)
      · rw [if_pos (.inl hy)]; exact Ev.now _
      · refine ev_ite (fun hz => ?_) (fun hz => ?_)
        · rw [if_pos (.inr (by omega))]; exact Ev.now _
        · rw [if_neg (by omega), w64s (by omega), w64 (x := d.getD i 0 - 1) (by omega) (by omega), w64 (by omega) (by omega), show need + (d.getD i 0 - 1) = need + d.getD i 0 - 1 by omega]
          exact impl_isTree_loop d hn m (i + 1) _ (by omega) (by omega) (by omega)
theorem impl_isTree_ev (d : List Int) : Ev (fun k => impl_isTree.f k d) (isTreeM d) := by
  unfold impl_isTree.f isTreeM
  refine ev_ite (fun h => ?_) (fun h => ?_)
  · rw [if_pos (.inl (by omega))]
    refine Ev.step (fun k => by rw [impl_isTree.j0]) ?_
    exact ev_pos rfl (Ev.now _)
  · by_cases h2 : 24 < d.length
    · rw [if_pos (.inr h2), decide_eq_true (by omega)]
      refine Ev.step (fun k => by rw [impl_isTree.j0]) ?_
      exact ev_pos rfl (Ev.now _)
    · rw [if_neg (by omega), decide_eq_false (by omega)]
      refine Ev.step (fun k => by rw [impl_isTree.j0]) ?_
      exact ev_neg (by decide) (impl_isTree_loop d (by omega) d.length 0 1 (by omega) (by omega) (by omega))
theorem impl_IsTree_ev (d : List Int) : Ev (fun k => impl_IsTree.f k d) (isTreeM d) := by
  unfold impl_IsTree.f
  exact Ev.bind (impl_isTree_ev d) (Ev.now _)
theorem spec_l01Is_loop (d : List Int) (hn : d.length ≤ 24) : ∀ (m i : Nat) (need : Int), i + m = d.length → 0 ≤ need → need ≤ 1 + 24 * i → Ev (fun k => spec_l01Is.l0 k need (i : Int) d) (treeGo d 24 m i need)
  | 0, i, need, h, h0, h1 => by
    refine Ev.step (fun k => by rw [spec_l01Is.l0]) ?_
    exact ev_neg (by omega) (Ev.now _)
  | m + 1, i, need, h, h0, h1 => by
    refine Ev.step (fun k => by rw [spec_l01Is.l0]) ?_
    refine ev_pos (by omega) ?_
    simp only [treeGo, rd_nat, l01In_ev]
    refine ev_ite (fun hx => ?_) (fun hx => ?_)
    · rw [if_pos hx]; exact Ev.now _
    · rw [if_neg hx]
      refine ev_pos (by omega) (ev_some ?_)
      refine ev_ite (fun hy => ?_) (fun hy => ?_)
      · rw [Bool.and_eq_true, decide_eq_true_eq, decide_eq_true_eq] at hy
        rw [if_neg (by omega), w64s (by omega), w64 (x := need - 1) (by omega) (by omega), w64 (by omega) (by omega), show need - 1 + d.getD i 0 = need + d.getD i 0 - 1 by omega]
        exact spec_l01Is_loop d hn m (i + 1) _ (by omega) (by omega) (by omega)
      · rw [Bool.and_eq_true, decide_eq_true_eq, decide_eq_true_eq] at hy
        rw [if_pos (by omega)]; exact Ev.now _
theorem spec_l01Is_ev (d : List Int) (hd : d.length ≤ 1048576) : Ev (fun k => spec_l01Is.f k d) (isTreeM d) := by
  unfold spec_l01Is.f isTreeM
  simp only [l01N_ev, l01In_ev]
  refine ev_some (ev_some ?_)
  refine ev_ite (fun h => ?_) (fun h => ?_)
  · rw [Bool.and_eq_true, decide_eq_true_eq, decide_eq_true_eq] at h
    rw [if_neg (by omega), ← treeGo_top d d.length 0 1 (by omega) (by omega)]
    exact spec_l01Is_loop d (by omega) d.length 0 1 (by omega) (by omega) (by omega)
  · rw [Bool.and_eq_true, decide_eq_true_eq, decide_eq_true_eq] at h
    rw [if_pos (by omega)]; exact Ev.now _

section
variable {d : List Int} (h : IsT d) (hn : d.length ≤ 1000)
include h hn
theorem impl_endOf_loop {v : Nat} (hv : v < d.length) : ∀ (f u : Nat), u + f = d.length → v ≤ u → Ev (fun k => impl_endOf.l0 k d (u : Int) (1 + nd d u - nd d v)) (skip d f (1 + nd d u - nd d v) u : Int) := by
  have b : ∀ u, u ≤ d.length → 0 ≤ nd d u ∧ nd d u ≤ 1000 := fun u hu => ⟨nd_nonneg h hu, by have := nd_le h hu; omega⟩
  intro f
  induction f with
  | zero =>
    intro u hf hu
    have e : u = d.length := by omega
    have h1 := h.fin
    have h2 := h.pos v hv
    refine Ev.step (fun k => by rw [impl_endOf.l0]) ?_
    refine ev_neg (by subst e; omega) (ev_now ?_)
    simp [skip]
  | succ f ih =>
    intro u hf hu
    have b1 := b u (by omega)
    have b2 := b v (by omega)
    have b3 := b (u + 1) (by omega)
    have e : 1 + nd d u - nd d v + (d.getD u 0 - 1) = 1 + nd d (u + 1) - nd d v := by simp only [nd]; omega
    have e2 : nd d (u + 1) = nd d u + d.getD u 0 - 1 := rfl
    refine Ev.step (fun k => by rw [impl_endOf.l0]) ?_
    simp only [skip, rd_nat]
    refine ev_ite (fun hx => ?_) (fun hx => ?_)
    · rw [if_pos hx]
      refine ev_pos (by omega) (ev_pos (by omega) ?_)
      rw [w64s (by omega), w64 (x := d.getD u 0 - 1) (by omega) (by omega), w64 (by omega) (by omega), e]
      exact ih (u + 1) (by omega) (by omega)
    · rw [if_neg hx]; exact Ev.now _
theorem impl_endOf_ev {v : Nat} (hv : v < d.length) : Ev (fun k => impl_endOf.f k d (v : Int)) (endM d v : Int) := by
  have := impl_endOf_loop h hn hv (d.length - v) v (by omega) (Nat.le_refl _)
  rw [show 1 + nd d v - nd d v = 1 by omega] at this
  exact this
theorem spec_l01End_loop {v : Nat} (hv : v < d.length) : ∀ (f u : Nat), u + f = d.length → v ≤ u → Ev (fun k => spec_l01End.l0 k (u : Int) (1 + nd d u - nd d v) d) (skip d f (1 + nd d u - nd d v) u : Int) := by
  have b : ∀ u, u ≤ d.length → 0 ≤ nd d u ∧ nd d u ≤ 1000 := fun u hu => ⟨nd_nonneg h hu, by have := nd_le h hu; omega⟩
  intro f
  induction f with
  | zero =>
    intro u hf hu
    have e : u = d.length := by omega
    have h1 := h.fin
    have h2 := h.pos v hv
    refine Ev.step (fun k => by rw [spec_l01End.l0]) ?_
    refine ev_neg (by subst e; omega) (ev_now ?_)
    simp [skip]
  | succ f ih =>
    intro u hf hu
    have b1 := b u (by omega)
    have b2 := b v (by omega)
    have b3 := b (u + 1) (by omega)
    have e : 1 + nd d u - nd d v - 1 + d.getD u 0 = 1 + nd d (u + 1) - nd d v := by simp only [nd]; omega
    have e1 : 1 + nd d u - nd d v + (d.getD u 0 - 1) = 1 + nd d (u + 1) - nd d v := by simp only [nd]; omega
    have e2 : nd d (u + 1) = nd d u + d.getD u 0 - 1 := rfl
    refine Ev.step (fun k => by rw [spec_l01End.l0]) ?_
    simp only [skip, rd_nat]
    refine ev_ite (fun hx => ?_) (fun hx => ?_)
    · rw [if_pos hx]
      refine ev_pos (by omega) (ev_pos (by omega) ?_)
      rw [w64s (by omega), w64 (x := 1 + nd d u - nd d v - 1) (by omega) (by omega), w64 (by omega) (by omega), e, e1]
      exact ih (u + 1) (by omega) (by omega)
    · rw [if_neg hx]; exact Ev.now _
theorem spec_l01End_ev {v : Nat} (hv : v < d.length) : Ev (fun k => spec_l01End.f k d (v : Int)) (endM d v : Int) := by
  have := spec_l01End_loop h hn hv (d.length - v) v (by omega) (Nat.le_refl _)
  rw [show 1 + nd d v - nd d v = 1 by omega] at this
  exact this
end
def castL (l : List Nat) : List Int := List.map (fun x : Nat => ((x : Nat) : Int)) l
theorem castL_length (l : List Nat) : (castL l).length = l.length := by simp [castL]
theorem castL_getD (l : List Nat) (j : Nat) (h : j < l.length) : (castL l).getD j 0 = (l[j] : Int) := by
  simp [castL, List.getD_eq_getElem?_getD, h]
theorem kids_few {d : List Int} (h : IsT d) {v : Nat} (hv : v < d.length) : (kidsM d v).length < d.length := by
  have h1 := deg_le h hv
  have h2 := h.deg v hv
  unfold kidsM
  rw [kidsFrom_length]
  omega
section
variable {d : List Int} (h : IsT d) (hn : d.length ≤ 1000)
include h hn
theorem impl_kidsOf_loop {n m c e : Nat} (r : Run d m c e) (hc : c < 9223372036854775807) : ∀ (acc : List Int) (j : Nat), j + m = n → n ≤ 1000 → acc.length + m ≤ 1000 → Ev (fun k => impl_kidsOf.l0 k d acc (c : Int) (n : Int) (j : Int)) (acc ++ castL (kidsFrom d m c)) := by
  induction r with
  | nil c =>
    intro acc j h1 h2 h3
    refine Ev.step (fun k => by rw [impl_kidsOf.l0]) ?_
    exact ev_neg (by omega) (ev_now (by simp [kidsFrom, castL]))
  | @cons m c e hlt r ih =>
    intro acc j h1 h2 h3
    refine Ev.step (fun k => by rw [impl_kidsOf.l0]) ?_
    refine ev_pos (by omega) (ev_pos (by omega) (Ev.bind (impl_endOf_ev h hn hlt) ?_))
    rw [w64s (by omega)]
    have hle := end_le h hlt
    have := ih (by omega) (acc ++ [(c : Int)]) (j + 1) (by omega) h2 (by simp; omega)
    simpa [kidsFrom, castL] using this
theorem impl_kidsOf_ev {v : Nat} (hv : v < d.length) : Ev (fun k => impl_kidsOf.f k d (v : Int)) (castL (kidsM d v)) := by
  have h0 := h.deg v hv
  have h1 := deg_le h hv
  unfold impl_kidsOf.f
  refine ev_pos (by omega) (ev_pos (by omega) ?_)
  rw [w64s (by omega), rd_nat]
  have := impl_kidsOf_loop h hn (n := (d.getD v 0).toNat) (run_kids h hv) (by omega) [] 0 (by omega) (by omega) (by simp only [List.length_nil]; omega)
  rw [show (((d.getD v 0).toNat : Nat) : Int) = d.getD v 0 by omega] at this
  simpa [kidsM] using this
theorem spec_l01Children_loop {m c e : Nat} (r : Run d m c e) (hc : c < 9223372036854775807) : ∀ (acc : List Int), m ≤ 1000 → acc.length + m ≤ 1000 → Ev (fun k => spec_l01Children.l0 k acc (c : Int) (m : Int) d) (acc ++ castL (kidsFrom d m c)) := by
  induction r with
  | nil c =>
    intro acc h2 h3
    refine Ev.step (fun k => by rw [spec_l01Children.l0]) ?_
    exact ev_neg (by omega) (ev_now (by simp [kidsFrom, castL]))
  | @cons m c e hlt r ih =>
    intro acc h2 h3
    refine Ev.step (fun k => by rw [spec_l01Children.l0]) ?_
    refine ev_pos (by omega) (ev_pos (by omega) (Ev.bind (spec_l01End_ev h hn hlt) ?_))
    rw [w64p (by omega)]
    have hle := end_le h hlt
    have := ih (by omega) (acc ++ [(c : Int)]) (by omega) (by simp; omega)
    simpa [kidsFrom, castL] using this
theorem spec_l01Children_ev {v : Nat} (hv : v < d.length) : Ev (fun k => spec_l01Children.f k d (v : Int)) (castL (kidsM d v)) := by
  have h0 := h.deg v hv
  have h1 := deg_le h hv
  unfold spec_l01Children.f
  refine ev_pos (by omega) (ev_pos (by omega) ?_)
  rw [w64s (by omega), rd_nat]
  have := spec_l01Children_loop h hn (run_kids h hv) (by omega) [] (by omega) (by simp only [List.length_nil]; omega)
  rw [show (((d.getD v 0).toNat : Nat) : Int) = d.getD v 0 by omega] at this
  simpa [kidsM] using this
end
end Go.Proofs.Ytmambanmffdibaa.E
namespace Go.Proofs.Ytmambanmffdibaa.E
set_option linter.unusedVariables false
set_option linter.unusedSectionVars false
open Go.RowKit Go.Proofs.YtmambanmffdibaaW.PrintWords Go.Proofs.Ytmambanmffdibaa.Base Go.Proofs.Ytmambanmffdibaa.Tree
end Go.Proofs.Ytmambanmffdibaa.E
namespace Go.Proofs.Ytmambanmffdibaa.P
set_option linter.unusedVariables false
set_option linter.unusedSectionVars false
open Go.RowKit Go.Proofs.YtmambanmffdibaaW.PrintWords Go.Proofs.YtmambanmffdibaaW.PrintLast Go.Proofs.YtmambanmffdibaaW.PrintMore Go.Proofs.Ytmambanmffdibaa.E
def ofT (kf : Int → List Int) : Nat → Int → Pat
  | 0, _ => default
  | n + 1, v => .mk 0 ((kf v).map (ofT kf n))
set_option maxHeartbeats 4000000 in
set_option maxRecDepth 100000 in
theorem ofTree_calls (d : List Int) (kf : Int → List Int) (k : Nat) (hkf : ∀ v, 0 ≤ v → v < (d.length : Int) → impl_kidsOf.f k d v = some (kf v) ∧ (∀ c ∈ kf v, v < c ∧ c < (d.length : Int)) ∧ (kf v).length ≤ 1048576) (Ad : Option Addr) (cd : Nat) (hcd : d.length ≤ cd) :
    ∀ (n : Nat) (v : Int) (w : World), 0 ≤ v → v < (d.length : Int) → (d.length : Int) - v ≤ n → Kd.C (Kd.int .i64) w Ad d.length d →
    Calls Try.prog 54 #[.slice Ad d.length cd, .int .i64 v] w fun e w' => Below w.heap.size w w' ∧ ∃ u, e = .returned u ∧ (kP n).M w' w.heap.size (fun _ => True) (ofT kf n v) [u]
  | 0, v, w, h0, h1, h2, _ => by omega
  | n + 1, v, w, h0, h1, h2, hd => by
    have ih := ofTree_calls d kf k hkf Ad cd hcd n
    obtain ⟨hk1, hk2, hk3⟩ := hkf v h0 h1
    obtain ⟨l, hl⟩ : ∃ l, l = kf v := ⟨_, rfl⟩
    have hR : ofT kf (n + 1) v = .mk 0 (l.map (ofT kf n)) := by rw [hl]; rfl
    rw [← hl] at hk1 hk2 hk3
    rw [hR]
    have HD := Aside0.mk hd
    have IH0 := Aside0.mk (fun c hc w hd => ih c w (by have := (hk2 c hc).1; omega) (hk2 c hc).2 (by have := (hk2 c hc).1; omega) hd)
    have C72 := Aside0.mk (fun w hd => impl_kidsOf.calls k Ad cd d v l w hd hcd hk1)
    have LK := Aside0.mk hk3
    clear hR hl hd ih hk1 hk2 hk3 h0 h1 h2 hcd hkf
    go_enter Try.func54, Try.ntmps54
    go_wp2_with (first | ((with_reducible refine gate_dst (N := 9) rfl ?_); (try (refine gate_guard (by rfl) ?_; dsimp only)); refine box_event ?hg (N := 9) ?hd (cs := #[.int .u8 0, .slice none 0 0]) (t := 92) ?hr ?_; (case hd => rfl); (case hg => rfl); (case hr => first | (go_simp; done) | (go_simp; rfl)); intro g hg w4 hbox hb; have BK := Aside0.mk hbox; have HB := Aside0.mk hb; have GE := Aside0.mk (show w.heap.size ≤ g by rw [hg]; exact Nat.le_refl _); clear hbox hb hg) | (go_at_call 72; refine (C72.out _ (Kd.C_below HD.out HB.out)).mono ?_; rintro e w6 ⟨vk, rfl, hR, hb⟩; obtain ⟨Ak, ck, ek⟩ := Kd.R_slice hR; subst ek; have HK6 := Aside0.mk hR; have HB6 := Aside0.mk hb; clear hR hb))
    have KR : Aside0 (∀ w' : World, (∀ k, k < w6.heap.size → k ≠ g → w'.heap[k]? = w6.heap[k]?) → Kd.C (Kd.int .i64) w' Ak l.length l) := ⟨fun w' hw' => by
      have hgl := blk_lt BK.out
      have h := Kd.R_move (w1 := w') (Kd.R_bound HK6.out) (fun k hk => hw' k hk.2.2.1 (by have := hk.2.1; omega))
      exact (Kd.R_reads' h).2.2⟩
    obtain ⟨s6, hs6⟩ : ∃ s6, s6 = w6.heap.size := ⟨_, rfl⟩
    have GS : Aside0 (g < s6) := ⟨by have := blk_lt BK.out; have := HB6.out.size; omega⟩
    have S6 := Aside0.mk hs6
    clear hs6
    go_loopg [14] (l.length + 1) (fun kq v14 w' => ∃ (i : Nat) (vk : Value) (acc : List Pat), v14 = .int .i64 (i : Int) ∧ i + kq = l.length + 1 ∧ i ≤ l.length ∧ Aside0 (acc = (l.take i).map (ofT kf n)) ∧ Aside0 (w'.heap[g]? = some (.cells #[.int .u8 0, vk] 92 (0, 0))) ∧ Aside0 ((kP n).R 52 w' w.heap.size (fun k => s6 ≤ k) vk acc) ∧ Aside0 (Below w.heap.size w w') ∧ Aside0 (∀ k, k < s6 → k ≠ g → w'.heap[k]? = w6.heap[k]?) ∧ Aside0 (s6 ≤ w'.heap.size))
    case atStart => exact ⟨0, .slice none 0 0, [], rfl, by omega, by omega, ⟨rfl⟩, ⟨blk_below BK.out HB6.out⟩, ⟨Kd.R_nil _ _ _ _ _⟩, ⟨below_step HB.out HB6.out⟩, ⟨fun k _ _ => rfl⟩, ⟨by rw [S6.out]; exact Nat.le_refl _⟩⟩
    case round =>
      clear BK HB HB6 HK6
      obtain ⟨i, vk, acc, rfl, hk, hil, HA, BK, HO, HB, MID, SZ⟩ := hrel
      cases gk with
      | zero =>
        exfalso
        omega
      | succ gk =>
        by_cases hi : i < l.length
        · have hb1 : decide ((i : Int) < (l.length : Int)) = true := decide_eq_true (by omega)
          have p1 : 0 ≤ (i : Int) := by omega
          have q1 : (i : Int) < (l.length : Int) := by omega
          have KC := KR.out wr (fun k h1 h2 => MID.out k (by rw [S6.out]; exact h1) h2)
          obtain ⟨ad, ead, hx⟩ := Kd.at_int KC (i : Int) p1 q1
          subst ead
          have hcm : rd l (i : Int) ∈ l := by
            show l.getD (i : Int).toNat 0 ∈ l
            rw [Int.toNat_natCast, List.getD_eq_getElem?_getD, List.getElem?_eq_getElem hi]
            exact List.getElem_mem hi
          have hat : (l.take (i + 1)).map (ofT kf n) = acc ++ [ofT kf n (rd l (i : Int))] := by
            rw [HA.out, List.take_add_one, List.getElem?_eq_getElem hi, List.map_append]
            show _ ++ [ofT kf n l[i]] = _ ++ [ofT kf n (l.getD (i : Int).toNat 0)]
            rw [Int.toNat_natCast, List.getD_eq_getElem?_getD, List.getElem?_eq_getElem hi]; rfl
          have hal : acc.length = i := by rw [HA.out, List.length_map, List.length_take]; omega
          obtain ⟨c, hc⟩ : ∃ c, c = rd l (i : Int) := ⟨_, rfl⟩
          rw [← hc, Int.toNat_natCast] at hx
          rw [← hc] at hcm hat
          have IH := Aside0.mk (IH0.out c hcm)
          obtain ⟨y, hy⟩ : ∃ y, y = acc ++ [ofT kf n c] := ⟨_, rfl⟩
          rw [← hy] at hat
          have Ny := Aside0.mk hy
          have AT := Aside0.mk hat
          have LA : Aside0 (acc.length < 1048576) := ⟨by have := LK.out; omega⟩
          have hw : wrap64 ((i : Int) + 1) = ((i + 1 : Nat) : Int) := by have := LK.out; unfold wrap64; omega
          have q2 := eq_true q1
          have p2 := eq_true p1
          have hi2 : (i < l.length) = True := eq_true hi
          have BKd : Aside0 (wr.drew.heap[g]? = some (.cells #[.int .u8 0, vk] 92 (0, 0))) := ⟨blk_drew BK.out⟩
          have HOd := Aside0.mk (Kd.R_drew HO.out)
          have HBd := Aside0.mk (below_drew1 HB.out)
          have MIDd : Aside0 (∀ k, k < s6 → k ≠ g → wr.drew.heap[k]? = w6.heap[k]?) := ⟨MID.out⟩
          have SZd : Aside0 (s6 ≤ wr.drew.heap.size) := ⟨SZ.out⟩
          clear hc hcm hy hat hal KC p1 q1 BK HO HB MID SZ HA
          have MID := MIDd
          have SZ := SZd
          clear MIDd SZd
          go_wp2
          refine start_ (n := 13) (S := fun w' => w'.cell? ⟨g, 1, none⟩ = some vk) (ds := [12]) #[false, false, false, false, false, false, false, false, false, false, false, false, false] (by kernel_rfl) rfl rfl ((blk_cell BKd.out 1).trans rfl) (fun hHeld => ?_)
          generalize wr.drew = wx at BKd HOd HBd MID SZ hHeld ⊢
          refine pure_ (i := 0) (N := some 18) (v := ?_) (a' := ?_) #[true, false, false, false, false, false, false, false, false, false, false, false, false] rfl rfl (by kernel_rfl) (fun _ _ _ h => h) (Or.inl ⟨by rfl, ?_⟩) ?_ ?_
          rotate_left
          · intro w'
            go_simp
            with_reducible rfl
          rotate_left
          · simp only [Act.put, List.setIfInBounds_toArray, List.set_cons_zero, List.set_cons_succ]
            rfl
          refine pure_ (i := 1) (N := some 19) (v := ?_) (a' := ?_) #[true, true, false, false, false, false, false, false, false, false, false, false, false] rfl rfl (by kernel_rfl) (fun _ _ _ h => h) (Or.inl ⟨by rfl, ?_⟩) ?_ ?_
          rotate_left
          · intro w'
            go_simp
            with_reducible rfl
          rotate_left
          · simp only [Act.put, List.setIfInBounds_toArray, List.set_cons_zero, List.set_cons_succ]
            rfl
          refine pure_ (i := 2) (N := some 20) (v := ?_) (a' := ?_) #[true, true, true, false, false, false, false, false, false, false, false, false, false] rfl rfl (by kernel_rfl) (fun _ _ _ h => h) (Or.inl ⟨by rfl, ?_⟩) ?_ ?_
          rotate_left
          · intro w'
            go_simp
            with_reducible rfl
          rotate_left
          · simp only [Act.put, List.setIfInBounds_toArray, List.set_cons_zero, List.set_cons_succ]
            rfl
          refine pure_ (i := 3) (N := some 21) (v := ?_) (a' := ?_) #[true, true, true, true, false, false, false, false, false, false, false, false, false] rfl rfl (by kernel_rfl) (fun _ _ _ h => h) (Or.inl ⟨by rfl, ?_⟩) ?_ ?_
          rotate_left
          · intro w'
            go_simp
            with_reducible rfl
          rotate_left
          · simp only [Act.put, List.setIfInBounds_toArray, List.set_cons_zero, List.set_cons_succ]
            rfl
          refine take_ (i := 4) (N := some 22) (v := ?_) (a' := ?_) #[true, true, true, true, true, false, false, false, false, false, false, false, false] rfl rfl (by kernel_rfl) (fun _ _ _ h => h) (Or.inl ⟨by rfl, ?_⟩) hHeld ?_ ?_
          rotate_left
          · rintro w' s0
            go_simp
            with_reducible rfl
          rotate_left
          · simp only [Act.put, List.setIfInBounds_toArray, List.set_cons_zero, List.set_cons_succ]
            rfl
          refine pure_ (i := 5) (N := some 23) (v := ?_) (a' := ?_) #[true, true, true, true, true, true, false, false, false, false, false, false, false] rfl rfl (by kernel_rfl) (fun _ _ _ h => h) (Or.inl ⟨by rfl, ?_⟩) ?_ ?_
          rotate_left
          · intro w'
            go_simp
            with_reducible rfl
          rotate_left
          · simp only [Act.put, List.setIfInBounds_toArray, List.set_cons_zero, List.set_cons_succ]
            rfl
          refine pure_ (i := 6) (N := some 24) (v := ?_) (a' := ?_) #[true, true, true, true, true, true, true, false, false, false, false, false, false] rfl rfl (by kernel_rfl) (fun _ _ _ h => h) (Or.inl ⟨by rfl, ?_⟩) ?_ ?_
          rotate_left
          · intro w'
            go_simp
            with_reducible rfl
          rotate_left
          · simp only [Act.put, List.setIfInBounds_toArray, List.set_cons_zero, List.set_cons_succ]
            rfl
          refine one_ (i := 7) (N := some 25) #[true, true, true, true, true, true, true, true, false, false, false, false, false] rfl rfl (by kernel_rfl) (by decide) (fun K hK => ?_)
          refine goes_ Try.func54 (by kernel_rfl) rfl #[.slice Ad d.length cd, .int .i64 c] (by rfl) rfl rfl (by (try simp only [List.map_toArray, List.map_cons, List.map_nil]); first | done | rfl) ?_
          refine (IH.out wx (Kd.C_below HD.out HBd.out)).mono ?_
          rintro e w7 ⟨hb, u7, rfl, hM⟩
          obtain ⟨g7, rfl⟩ := M_ptr hM
          have HM7 := Aside0.mk hM
          have HB7 := Aside0.mk hb
          clear hb hM
          refine ⟨_, rfl, ?_⟩
          refine hK.out _ _ ((blk_cell (blk_below BKd.out HB7.out) 1).trans rfl) (fun hHeld => ?_)
          clear hK K
          refine norm_ (a' := ?_) ?_ ?_
          rotate_left
          · show Act.put _ (some 25) _ = _
            simp only [Act.put, List.setIfInBounds_toArray, List.set_cons_zero, List.set_cons_succ]
            rfl
          refine one_ (i := 8) (N := some 26) #[true, true, true, true, true, true, true, true, true, false, false, false, false] rfl rfl (by kernel_rfl) (by decide) (fun K hK => ?_)
          refine event_step (w1 := w7.alloc (.cells #[.pointer (some ⟨g7, 0, none⟩)] 52)) (v := .slice (some ⟨w7.heap.size, 0, none⟩) 1 1) (by rfl) (by first | (go_simp; done) | (go_simp; rfl)) ?_
          refine hK.out _ _ ((blk_cell (blk_alloc (blk_below BKd.out HB7.out) _) 1).trans rfl) (fun hHeld => ?_)
          clear hK K
          refine norm_ (a' := ?_) ?_ ?_
          rotate_left
          · show Act.put _ (some 26) _ = _
            simp only [Act.put, List.setIfInBounds_toArray, List.set_cons_zero, List.set_cons_succ]
            rfl
          refine one_ (i := 9) (N := some 27) #[true, true, true, true, true, true, true, true, true, true, false, false, false] rfl rfl (by kernel_rfl) (by decide) (fun K hK => ?_)
          refine Kd.R_append_step (kP n) (w0 := w) w.heap.size (by rfl) (.tmp 22) (.tmp 26) 90 52 (.pointer none) 8 rfl Try.underlying90 infoP rfl (show 0 < (kP n).sz from Nat.one_pos) (by omega) vk acc (ofT kf n c) [.pointer (some ⟨g7, 0, none⟩)] (fun k => s6 ≤ k) (fun k => wx.heap.size ≤ k) rfl rfl ?aP ?aK ?aF ?aO ?aB ?aS ?aL ?_
          (case aP => exact (kP n).M_mono (fun k hk => hk.2.1) ((kP n).M_lower (below_size HBd.out) ((kP n).M_bound HM7.out)))
          (case aK => exact fun k hk => ⟨Nat.le_trans SZ.out hk, fun e => by have := Kd.R_lt HOd.out k e.symm; have hk' : wx.heap.size ≤ k := hk; omega⟩)
          (case aF => exact fun k hk => Nat.le_trans (Nat.le_trans SZ.out HB7.out.size) hk)
          (case aO => exact Kd.R_below HOd.out HB7.out)
          (case aB => exact below_step HBd.out HB7.out)
          (case aS => exact below_size (below_step HBd.out HB7.out))
          (case aL => have := LA.out; omega)
          intro v8 w8 ho hb hg hat
          rw [← Ny.out] at ho
          have BK8 := Aside0.mk (blk_grown (blk_below BKd.out HB7.out) hg (Kd.R_ne (Kd.R_below HOd.out HB7.out) (blk_below BKd.out HB7.out) (by decide)))
          have HO8 := Aside0.mk ho
          have HB8 := Aside0.mk hb
          have HG8 := Aside0.mk hg
          clear ho hb hg hat
          obtain ⟨A8, c8, e8⟩ := Kd.R_slice HO8.out
          subst e8
          refine hK.out _ _ ((blk_cell BK8.out 1).trans rfl) (fun hHeld => ?_)
          clear hK K
          refine norm_ (a' := ?_) ?_ ?_
          rotate_left
          · show Act.put _ (some 27) _ = _
            simp only [Act.put, List.setIfInBounds_toArray, List.set_cons_zero, List.set_cons_succ]
            rfl
          refine pure_ (i := 10) (N := some 28) (v := ?_) (a' := ?_) #[true, true, true, true, true, true, true, true, true, true, true, false, false] rfl rfl (by kernel_rfl) (fun _ _ _ h => h) (Or.inl ⟨by rfl, ?_⟩) ?_ ?_
          rotate_left
          · intro w'
            go_simp
            with_reducible rfl
          rotate_left
          · simp only [Act.put, List.setIfInBounds_toArray, List.set_cons_zero, List.set_cons_succ]
            rfl
          refine pure_ (i := 11) (N := some 29) (v := ?_) (a' := ?_) #[true, true, true, true, true, true, true, true, true, true, true, true, false] rfl rfl (by kernel_rfl) (fun _ _ _ h => h) (Or.inl ⟨by rfl, ?_⟩) ?_ ?_
          rotate_left
          · intro w'
            go_simp
            with_reducible rfl
          rotate_left
          · simp only [Act.put, List.setIfInBounds_toArray, List.set_cons_zero, List.set_cons_succ]
            rfl
          refine last_ (i := 12) (N := none) #[true, true, true, true, true, true, true, true, true, true, true, true, true] rfl rfl (by kernel_rfl) (by decide) (fun K hK => ?_)
          have hs8 : w8.cell? ⟨g, 1, none⟩ = some vk := (blk_cell BK8.out 1).trans rfl
          have hf8 := blk_frozen BK8.out 1
          refine skip_ (w1 := ?_) (by rfl) rfl ?_ ?_
          rotate_left
          · go_simp
            rfl
          refine hK.out _ _ ?_
          clear hK K
          refine done_ (by kernel_rfl) ?_
          go_wp2
          go_roundg gk
          case measure => omega
          case rel => exact ⟨i + 1, .slice A8 y.length c8, y, by first | (rw [hw]; done) | rfl | (congr 1; omega), by omega, by omega, ⟨AT.out.symm⟩, ⟨blk_put BK8.out 1 _ rfl⟩, ⟨Kd.R_far HO8.out (fun k hk => by have := GS.out; show k ≠ g; omega) _⟩, ⟨below_set HB8.out GE.out⟩, ⟨fun k h1 h2 => by
            have h3 := SZ.out
            have h4 := HB7.out.size
            rw [Below.heap_setCell _ _ _ _ (show k ≠ g from h2), HG8.out.block k (by omega) (fun e => by have := (Kd.R_below HOd.out HB7.out).1 k e.symm; omega), HB7.out.block k (by omega)]
            exact MID.out k h1 h2⟩, ⟨Nat.le_trans (Nat.le_trans SZ.out HB7.out.size) (Nat.le_trans HG8.out.size ((Below.refl 0 w8).setCell (Nat.zero_le _) _).size)⟩⟩
        · have hb1 : decide ((i : Int) < (l.length : Int)) = false := decide_eq_false (by omega)
          have hA : acc = l.map (ofT kf n) := by rw [HA.out, List.take_of_length_le (by omega)]
          go_wp2
          go_ret
          exact ⟨HB.out, _, rfl, M_node trivial GE.out BK.out (Kd.R_mono (by rw [← hA]; exact HO.out) (fun k hk => ⟨trivial, by have := GS.out; omega⟩))⟩
end Go.Proofs.Ytmambanmffdibaa.P
namespace Go.Proofs.Ytmambanmffdibaa.P
set_option linter.unusedVariables false
set_option linter.unusedSectionVars false
open Go.RowKit Go.Proofs.YtmambanmffdibaaW.PrintWords Go.Proofs.YtmambanmffdibaaW.PrintLast Go.Proofs.YtmambanmffdibaaW.PrintMore Go.Proofs.Ytmambanmffdibaa.Base Go.Proofs.Ytmambanmffdibaa.Tree Go.Proofs.Ytmambanmffdibaa.E
def kfM (d : List Int) (v : Int) : List Int := castL (kidsM d v.toNat)
def treeP (d : List Int) (v : Int) : Pat := ofT (kfM d) 24 v
theorem ev_all {α : Type} {f : Nat → Nat → Option α} {r : Nat → α} : ∀ m, (∀ v, v < m → Ev (fun k => f k v) (r v)) → ∃ k, ∀ v, v < m → f k v = some (r v) := by
  intro m h
  have : ∃ K, ∀ k, K ≤ k → ∀ v, v < m → f k v = some (r v) := by
    induction m with
    | zero => exact ⟨0, fun k _ v hv => by omega⟩
    | succ m ih =>
      obtain ⟨K1, h1⟩ := ih (fun v hv => h v (by omega))
      obtain ⟨K2, h2⟩ := h m (by omega)
      refine ⟨max K1 K2, fun k hk v hv => ?_⟩
      by_cases e : v = m
      · subst e; exact h2 k (by omega)
      · exact h1 k (by omega) v (by omega)
  obtain ⟨K, hK⟩ := this
  exact ⟨K, hK K (Nat.le_refl _)⟩
theorem kfM_ok {d : List Int} (h : IsT d) (hn : d.length ≤ 24) : ∃ k, ∀ v : Int, 0 ≤ v → v < (d.length : Int) → impl_kidsOf.f k d v = some (kfM d v) ∧ (∀ c ∈ kfM d v, v < c ∧ c < (d.length : Int)) ∧ (kfM d v).length ≤ 1048576 := by
  obtain ⟨k, hk⟩ := ev_all (f := fun k v => impl_kidsOf.f k d (v : Int)) (r := fun v => castL (kidsM d v)) d.length (fun v hv => impl_kidsOf_ev h (by omega) hv)
  refine ⟨k, fun v h0 h1 => ?_⟩
  obtain ⟨u, rfl⟩ := Int.eq_ofNat_of_zero_le h0
  have hu : u < d.length := by omega
  refine ⟨hk u hu, fun c hc => ?_, ?_⟩
  · obtain ⟨x, hx, rfl⟩ := List.mem_map.1 hc
    have := kid_mem h hu hx
    exact ⟨by omega, by omega⟩
  · show (castL (kidsM d u)).length ≤ _
    rw [castL_length]
    have := kids_few h hu
    omega
end Go.Proofs.Ytmambanmffdibaa.P
