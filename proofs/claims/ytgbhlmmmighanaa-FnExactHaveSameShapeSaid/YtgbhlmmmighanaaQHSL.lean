/- The row of the law FnExactHaveSameShape, out of its pure statement. -/
import Derived.Test.YtgbhlmmmighanaaQHSEx0
import Derived.Test.YtgbhlmmmighanaaQHSEx1
import Derived.Test.YtgbhlmmmighanaaQHSEx2
import Derived.Test.YtgbhlmmmighanaaQHSEx4
import Derived.Test.YtgbhlmmmighanaaQHSEx8
import Derived.Test.YtgbhlmmmighanaaQHSW
import Derived.Deep.Slices
import Derived.Lib.SmallJoins
import Derived.OpenShut
import Derived.WalkKit
namespace Go.Proofs.Ytgbhlmmmighanaa.Base
set_option linter.unusedVariables false
set_option linter.unusedSectionVars false
open Go.RowKit Go.Proofs.YtgbhlmmmighanaaW.PrintWords

theorem ev_pos {α : Type} {c : Prop} [Decidable c] {f g : Nat → Option α} {r : α} (h : c) (k : Ev f r) : Ev (fun n => if c then f n else g n) r := by
  simpa [h] using k
theorem ev_neg {α : Type} {c : Prop} [Decidable c] {f g : Nat → Option α} {r : α} (h : ¬ c) (k : Ev g r) : Ev (fun n => if c then f n else g n) r := by
  simpa [h] using k
theorem ev_ite {α : Type} {c : Prop} [Decidable c] {f g : Nat → Option α} {r : α} (h : c → Ev f r) (k : ¬ c → Ev g r) : Ev (fun n => if c then f n else g n) r := by
  by_cases hc : c
  · exact ev_pos hc (h hc)
  · exact ev_neg hc (k hc)
theorem ev_now {α : Type} {a r : α} (h : a = r) : Ev (fun _ => some a) r := h ▸ Ev.now a
theorem ev_some {α β : Type} {f : Nat → α → Option β} {a : α} {r : β} (k : Ev (fun n => f n a) r) : Ev (fun n => (some a).bind (f n)) r := by
  simpa using k
theorem w64 {x : Int} (h1 : -9223372036854775808 ≤ x) (h2 : x ≤ 9223372036854775807) : wrap64 x = x := by unfold wrap64; omega
theorem w64s {i : Nat} (h : i < 9223372036854775807) : wrap64 ((i : Int) + 1) = ((i + 1 : Nat) : Int) := by unfold wrap64; omega
theorem w64p {i : Nat} (h : i < 9223372036854775807) : wrap64 (((i + 1 : Nat) : Int) - 1) = (i : Int) := by unfold wrap64; omega

theorem rd_nat (l : List Int) (i : Nat) : rd l (i : Int) = l.getD i 0 := rfl
theorem rd_lt {l : List Int} {i : Nat} (h : i < l.length) : rd l (i : Int) = l[i] := by
  rw [rd_nat, List.getD_eq_getElem?_getD, List.getElem?_eq_getElem h]; rfl
theorem set_eq {l m : List Int} {i : Nat} (hl : m.length = l.length) (h : ∀ j, j < i → m.getD j 0 = l.getD j 0) : ∀ j, j < i + 1 → (m.set i (l.getD i 0)).getD j 0 = l.getD j 0 := by
  intro j hj
  rw [List.getD_eq_getElem?_getD, List.getElem?_set]
  by_cases e : i = j
  · subst e
    by_cases hlt : i < m.length
    · simp [hlt]
    · rw [if_pos rfl, if_neg hlt, List.getD_eq_getElem?_getD, List.getElem?_eq_none (by omega)]
  · rw [if_neg e, ← List.getD_eq_getElem?_getD]
    exact h j (by omega)
theorem ext_getD {l m : List Int} (hl : m.length = l.length) (h : ∀ j, j < l.length → m.getD j 0 = l.getD j 0) : m = l := by
  apply List.ext_getElem hl
  intro j h1 h2
  have := h j h2
  rwa [List.getD_eq_getElem?_getD, List.getD_eq_getElem?_getD, List.getElem?_eq_getElem h1, List.getElem?_eq_getElem h2] at this
theorem getD_map_range {n : Nat} {f : Nat → Int} {j : Nat} (h : j < n) : ((List.range n).map f).getD j 0 = f j := by
  rw [List.getD_eq_getElem?_getD, List.getElem?_map, List.getElem?_range h]; rfl
theorem getD_replicate {n j : Nat} {v : Int} (h : j < n) : (List.replicate n v).getD j 0 = v := by
  rw [List.getD_eq_getElem?_getD, List.getElem?_replicate, if_pos h]; rfl
theorem get_set_ne {l : List Int} {i j : Nat} {v : Int} (h : i ≠ j) : (l.set i v).getD j 0 = l.getD j 0 := by
  rw [List.getD_eq_getElem?_getD, List.getElem?_set_ne h, ← List.getD_eq_getElem?_getD]
theorem get_set_eq {l : List Int} {i : Nat} {v : Int} (h : i < l.length) : (l.set i v).getD i 0 = v := by
  rw [List.getD_eq_getElem?_getD, List.getElem?_set_self h]; rfl
end Go.Proofs.Ytgbhlmmmighanaa.Base
namespace Go.Proofs.Ytgbhlmmmighanaa.Tree
set_option linter.unusedVariables false
set_option linter.unusedSectionVars false

def nd (d : List Int) : Nat → Int
  | 0 => 1
  | i + 1 => nd d i + d.getD i 0 - 1

structure IsT (d : List Int) : Prop where
  pos : ∀ i, i < d.length → 0 < nd d i
  deg : ∀ i, i < d.length → 0 ≤ d.getD i 0
  fin : nd d d.length = 0

def skip (d : List Int) : Nat → Int → Nat → Nat
  | 0, _, v => v
  | f + 1, need, v => if need > 0 then skip d f (need + (d.getD v 0 - 1)) (v + 1) else v
def endM (d : List Int) (v : Nat) : Nat := skip d (d.length - v) 1 v

theorem IsT.len {d : List Int} (h : IsT d) : 0 < d.length := by
  rcases Nat.eq_zero_or_pos d.length with h0 | h0
  · have := h.fin
    rw [h0] at this
    simp [nd] at this
  · exact h0

theorem skip_spec {d : List Int} (h : IsT d) {v : Nat} (hv : v < d.length) : ∀ (f u : Nat), u + f = d.length → v ≤ u → (∀ j, v < j → j < u → nd d v ≤ nd d j) →
    (u = v ∨ nd d v - 1 ≤ nd d u) →
    v < skip d f (1 + nd d u - nd d v) u ∧ skip d f (1 + nd d u - nd d v) u ≤ d.length ∧ nd d (skip d f (1 + nd d u - nd d v) u) = nd d v - 1 ∧ ∀ j, v < j → j < skip d f (1 + nd d u - nd d v) u → nd d v ≤ nd d j := by
  intro f
  induction f with
  | zero =>
    intro u hf hvu hj hu
    have hn : u = d.length := by omega
    have h1 := h.fin
    have h2 := h.pos v hv
    subst hn
    simp only [skip]
    refine ⟨hv, Nat.le_refl _, ?_, hj⟩
    rcases hu with hu | hu
    · omega
    · omega
  | succ f ih =>
    intro u hf hvu hj hu
    have hlt : u < d.length := by omega
    simp only [skip]
    by_cases hn : 1 + nd d u - nd d v > 0
    · rw [if_pos hn]
      have e : 1 + nd d u - nd d v + (d.getD u 0 - 1) = 1 + nd d (u + 1) - nd d v := by simp only [nd]; omega
      rw [e]
      refine ih (u + 1) (by omega) (by omega) (fun j h1 h2 => ?_) (.inr ?_)
      · by_cases hju : j = u
        · subst hju; omega
        · exact hj j h1 (by omega)
      · have := h.deg u hlt
        simp only [nd]; omega
    · rw [if_neg hn]
      rcases hu with hu | hu
      · subst hu; omega
      · have hne : v ≠ u := by intro e; subst e; omega
        exact ⟨by omega, by omega, by omega, hj⟩

section
variable {d : List Int} (h : IsT d)
include h
theorem end_spec {v : Nat} (hv : v < d.length) : v < endM d v ∧ endM d v ≤ d.length ∧ nd d (endM d v) = nd d v - 1 ∧ ∀ j, v < j → j < endM d v → nd d v ≤ nd d j := by
  have := skip_spec h hv (d.length - v) v (by omega) (Nat.le_refl _) (fun j h1 h2 => by omega) (.inl rfl)
  have e : 1 + nd d v - nd d v = 1 := by omega
  rw [e] at this
  exact this
theorem end_gt {v : Nat} (hv : v < d.length) : v < endM d v := (end_spec h hv).1
theorem end_le {v : Nat} (hv : v < d.length) : endM d v ≤ d.length := (end_spec h hv).2.1
theorem end_nd {v : Nat} (hv : v < d.length) : nd d (endM d v) = nd d v - 1 := (end_spec h hv).2.2.1
theorem end_in {v j : Nat} (hv : v < d.length) (h1 : v < j) (h2 : j < endM d v) : nd d v ≤ nd d j := (end_spec h hv).2.2.2 j h1 h2
theorem end_unique {v e : Nat} (hv : v < d.length) (h1 : v < e) (h2 : nd d e < nd d v) (h3 : ∀ j, v < j → j < e → nd d v ≤ nd d j) : e = endM d v := by
  have ⟨a, b, c, k⟩ := end_spec h hv
  rcases Nat.lt_trichotomy e (endM d v) with hl | hl | hl
  · have := k e h1 hl; omega
  · exact hl
  · have := h3 _ a hl; omega
theorem end_root : endM d 0 = d.length := by
  refine (end_unique h h.len h.len ?_ (fun j h1 h2 => ?_)).symm
  · rw [h.fin]; simp [nd]
  · have := h.pos j h2; simp only [nd]; omega
theorem nd_le {i : Nat} (hi : i ≤ d.length) : nd d i ≤ d.length - i := by
  obtain ⟨k, hk⟩ : ∃ k, i + k = d.length := ⟨d.length - i, by omega⟩
  induction k generalizing i with
  | zero => have := h.fin; have e : i = d.length := by omega
            subst e; omega
  | succ k ih =>
    have := ih (i := i + 1) (by omega) (by omega)
    have h1 := h.deg i (by omega)
    simp only [nd] at this
    omega
theorem nd_nonneg {i : Nat} (hi : i ≤ d.length) : 0 ≤ nd d i := by
  rcases Nat.lt_or_ge i d.length with hl | hl
  · have := h.pos i hl; omega
  · have e : i = d.length := by omega
    have := h.fin
    subst e; omega
theorem deg_le {v : Nat} (hv : v < d.length) : d.getD v 0 < d.length - v := by
  have h1 := nd_le h (i := v + 1) (by omega)
  have h2 := h.pos v hv
  simp only [nd] at h1
  omega
theorem end_mono {u v : Nat} (hv : v < d.length) (h1 : v ≤ u) (h2 : u < endM d v) : endM d u ≤ endM d v := by
  rcases Nat.eq_or_lt_of_le h1 with e | hl
  · subst e; exact Nat.le_refl _
  · have hu : u < d.length := by have := end_le h hv; omega
    rcases Nat.lt_or_ge (endM d v) (endM d u) with hx | hx
    · have a := end_in h hu h2 hx
      have b := end_in h hv hl h2
      have c := end_nd h hv
      omega
    · exact hx
end

def kidsFrom (d : List Int) : Nat → Nat → List Nat
  | 0, _ => []
  | m + 1, c => c :: kidsFrom d m (endM d c)
def kidsM (d : List Int) (v : Nat) : List Nat := kidsFrom d (d.getD v 0).toNat (v + 1)
theorem kidsFrom_length (d : List Int) : ∀ (m c : Nat), (kidsFrom d m c).length = m
  | 0, _ => rfl
  | m + 1, c => by simp [kidsFrom, kidsFrom_length d m]

inductive Run (d : List Int) : Nat → Nat → Nat → Prop
  | nil (c : Nat) : Run d 0 c c
  | cons {m c e : Nat} : c < d.length → Run d m (endM d c) e → Run d (m + 1) c e

section
variable {d : List Int} (h : IsT d)
include h
theorem run_of {v : Nat} (hv : v < d.length) : ∀ (m c : Nat), v < c → c ≤ d.length → nd d c = nd d v - 1 + m → (∀ j, v < j → j < c → nd d v ≤ nd d j) → Run d m c (endM d v)
  | 0, c, h1, h2, h3, h4 => by
    have e := end_unique h hv h1 (by omega) h4
    rw [← e]
    exact .nil c
  | m + 1, c, h1, h2, h3, h4 => by
    have hc : c < d.length := by
      rcases Nat.lt_or_ge c d.length with hl | hl
      · exact hl
      · have e : c = d.length := by omega
        have := h.fin
        have h0 := h.pos v hv
        subst e; omega
    have a := end_spec h hc
    refine .cons hc (run_of hv m _ (by omega) a.2.1 (by omega) (fun j hj1 hj2 => ?_))
    rcases Nat.lt_trichotomy j c with hl | hl | hl
    · exact h4 j hj1 hl
    · subst hl; omega
    · have := a.2.2.2 j hl hj2; omega
theorem run_kids {v : Nat} (hv : v < d.length) : Run d (d.getD v 0).toNat (v + 1) (endM d v) := by
  have h0 := h.deg v hv
  refine run_of h hv _ _ (by omega) (by omega) ?_ (fun j h1 h2 => by omega)
  simp only [nd]; omega
theorem run_bd {m c e : Nat} (r : Run d m c e) : c ≤ e := by
  induction r with
  | nil c => exact Nat.le_refl _
  | cons hc _ ih => have := end_gt h hc; omega
theorem run_mem {m c e : Nat} (r : Run d m c e) : ∀ x ∈ kidsFrom d m c, c ≤ x ∧ x < d.length ∧ x < e ∧ endM d x ≤ e := by
  induction r with
  | nil c => intro x hx; simp [kidsFrom] at hx
  | @cons m c e hc r ih =>
    intro x hx
    have h1 := run_bd h r
    have h2 := end_gt h hc
    simp only [kidsFrom, List.mem_cons] at hx
    rcases hx with rfl | hx
    · exact ⟨Nat.le_refl _, hc, by omega, h1⟩
    · have := ih x hx
      exact ⟨by omega, this.2.1, this.2.2.1, this.2.2.2⟩
end
theorem run_cover {d : List Int} {m c e : Nat} (r : Run d m c e) : ∀ y, c ≤ y → y < e → ∃ x ∈ kidsFrom d m c, x ≤ y ∧ y < endM d x := by
  induction r with
  | nil c => intro y h1 h2; omega
  | @cons m c e hc r ih =>
    intro y h1 h2
    by_cases hy : y < endM d c
    · exact ⟨c, by simp [kidsFrom], h1, hy⟩
    · obtain ⟨x, hx, h3⟩ := ih y (by omega) h2
      exact ⟨x, by simp [kidsFrom, hx], h3⟩
section
variable {d : List Int} (h : IsT d)
include h
theorem run_apart {m c e : Nat} (r : Run d m c e) : ∀ x ∈ kidsFrom d m c, ∀ y ∈ kidsFrom d m c, x < y → endM d x ≤ y := by
  induction r with
  | nil c => intro x hx; simp [kidsFrom] at hx
  | @cons m c e hc r ih =>
    intro x hx y hy hlt
    have hm := run_mem h r
    have hg := end_gt h hc
    simp only [kidsFrom, List.mem_cons] at hx hy
    rcases hx with rfl | hx
    · rcases hy with rfl | hy
      · omega
      · exact (hm y hy).1
    · rcases hy with rfl | hy
      · have := (hm x hx).1; omega
      · exact ih x hx y hy hlt
theorem kid_mem {v c : Nat} (hv : v < d.length) (hc : c ∈ kidsM d v) : v < c ∧ c < d.length ∧ c < endM d v ∧ endM d c ≤ endM d v := by
  have := run_mem h (run_kids h hv) c hc
  exact ⟨by omega, this.2.1, this.2.2.1, this.2.2.2⟩
end

def parUp (d : List Int) (c : Nat) : Nat → Nat
  | 0 => 0
  | v + 1 => if c < endM d v then v else parUp d c v
def par (d : List Int) (c : Nat) : Nat := parUp d c c
theorem parUp_spec {d : List Int} {c : Nat} : ∀ (k : Nat), (∃ v, v < k ∧ c < endM d v) → parUp d c k < k ∧ c < endM d (parUp d c k) ∧ ∀ v, parUp d c k < v → v < k → endM d v ≤ c
  | 0, ⟨v, hv, _⟩ => by omega
  | k + 1, ⟨v, hv, hc⟩ => by
    simp only [parUp]
    by_cases hk : c < endM d k
    · rw [if_pos hk]
      exact ⟨by omega, hk, fun v h1 h2 => by omega⟩
    · rw [if_neg hk]
      have hvk : v < k := by
        rcases Nat.lt_or_ge v k with hl | hl
        · exact hl
        · have e : v = k := by omega
          subst e; omega
      have ih := parUp_spec k ⟨v, hvk, hc⟩
      refine ⟨by omega, ih.2.1, fun u h1 h2 => ?_⟩
      rcases Nat.lt_or_ge u k with hl | hl
      · exact ih.2.2 u h1 hl
      · have e : u = k := by omega
        subst e; omega
section
variable {d : List Int} (h : IsT d)
include h
theorem par_spec {c : Nat} (h0 : 0 < c) (hc : c < d.length) : par d c < c ∧ c < endM d (par d c) ∧ ∀ v, par d c < v → v < c → endM d v ≤ c :=
  parUp_spec c ⟨0, h0, by rw [end_root h]; exact hc⟩
theorem par_lt {c : Nat} (h0 : 0 < c) (hc : c < d.length) : par d c < c := (par_spec h h0 hc).1
theorem kid_par {v c : Nat} (hv : v < d.length) (hc : c ∈ kidsM d v) : par d c = v := by
  have hk := kid_mem h hv hc
  have hp := par_spec h (c := c) (by omega) hk.2.1
  rcases Nat.lt_trichotomy (par d c) v with hl | hl | hl
  · have := hp.2.2 v hl hk.1; omega
  · exact hl
  · exfalso
    have hpl : par d c < d.length := by omega
    obtain ⟨x, hx, h1, h2⟩ := run_cover (run_kids h hv) (par d c) (by omega) (by omega)
    have h3 : x < c := by omega
    have h4 := run_apart h (run_kids h hv) x hx c hc h3
    have hxm := kid_mem h hv hx
    have h5 := end_mono h hxm.2.1 h1 h2
    omega
theorem par_kid {c : Nat} (h0 : 0 < c) (hc : c < d.length) : c ∈ kidsM d (par d c) := by
  have hp := par_spec h h0 hc
  have hv : par d c < d.length := by omega
  obtain ⟨x, hx, h1, h2⟩ := run_cover (run_kids h hv) c (by omega) hp.2.1
  rcases Nat.eq_or_lt_of_le h1 with e | hl
  · subst e; exact hx
  · have hxm := kid_mem h hv hx
    have := hp.2.2 x hxm.1 hl
    omega
end

def parL (d : List Int) : List Int := (List.range d.length).map fun c => if c = 0 then -1 else (par d c : Int)
def below (d : List Int) (v w : Nat) : Prop := w ≤ v ∧ v < endM d w
instance (d : List Int) (v w : Nat) : Decidable (below d v w) := inferInstanceAs (Decidable (_ ∧ _))
section
variable {d : List Int} (h : IsT d)
include h
end
end Go.Proofs.Ytgbhlmmmighanaa.Tree
namespace Go.Proofs.Ytgbhlmmmighanaa.E
set_option linter.unusedVariables false
set_option linter.unusedSectionVars false
open Go.RowKit Go.Proofs.YtgbhlmmmighanaaW.PrintWords Go.Proofs.Ytgbhlmmmighanaa.Base Go.Proofs.Ytgbhlmmmighanaa.Tree

theorem l01In_ev (a b c : Int) : spec_l01In.f a b c = some (decide (b ≤ a) && decide (a ≤ c)) := by
  unfold spec_l01In.f
  by_cases h : a ≥ b
  · rw [if_pos h]; simp [show b ≤ a from h]
  · rw [if_neg h]; simp [show ¬ b ≤ a from h]
theorem l01N_ev (d : List Int) : spec_l01N.f d = some (d.length : Int) := rfl

def treeGo (d : List Int) (top : Int) : Nat → Nat → Int → Bool
  | 0, _, need => need == 0
  | m + 1, i, need => if need = 0 then false else if d.getD i 0 < 0 ∨ top < d.getD i 0 then false else treeGo d top m (i + 1) (need + d.getD i 0 - 1)
def isTreeM (d : List Int) : Bool := if d.length < 1 ∨ 24 < d.length then false else treeGo d 23 d.length 0 1
theorem treeGo_far (d : List Int) (top : Int) : ∀ (m i : Nat) (need : Int), (m : Int) < need → treeGo d top m i need = false
  | 0, i, need, h => by
    have hne : need ≠ 0 := by omega
    simp [treeGo, hne]
  | m + 1, i, need, h => by
    simp only [treeGo]
    rw [if_neg (by omega)]
    split
    · rfl
    · exact treeGo_far d top m (i + 1) _ (by omega)
theorem treeGo_top (d : List Int) : ∀ (m i : Nat) (need : Int), m ≤ 24 → 0 ≤ need → treeGo d 24 m i need = treeGo d 23 m i need
  | 0, i, need, _, _ => rfl
  | m + 1, i, need, h, h0 => by
    simp only [treeGo]
    by_cases hn : need = 0
    · rw [if_pos hn, if_pos hn]
    · rw [if_neg hn, if_neg hn]
      by_cases h1 : d.getD i 0 < 0 ∨ 24 < d.getD i 0
      · rw [if_pos h1, if_pos (by omega)]
      · rw [if_neg h1]
        by_cases h2 : d.getD i 0 = 24
        · rw [if_pos (by omega)]
          exact treeGo_far d 24 m (i + 1) _ (by omega)
        · rw [if_neg (by omega)]
          exact treeGo_top d m (i + 1) _ (by omega) (by omega)
theorem treeGo_sound (d : List Int) (top : Int) : ∀ (m i : Nat), i + m = d.length → 0 ≤ nd d i → treeGo d top m i (nd d i) = true → (∀ j, i ≤ j → j < d.length → 0 < nd d j ∧ 0 ≤ d.getD j 0) ∧ nd d d.length = 0
  | 0, i, h, h0, ht => by
    simp only [treeGo, beq_iff_eq] at ht
    have e : i = d.length := by omega
    subst e
    exact ⟨fun j h1 h2 => by omega, ht⟩
  | m + 1, i, h, h0, ht => by
    simp only [treeGo] at ht
    split at ht
    · cases ht
    · split at ht
      · cases ht
      · have e : nd d i + d.getD i 0 - 1 = nd d (i + 1) := rfl
        rw [e] at ht
        have ih := treeGo_sound d top m (i + 1) (by omega) (by rw [← e]; omega) ht
        refine ⟨fun j h1 h2 => ?_, ih.2⟩
        by_cases hj : j = i
        · subst hj; exact ⟨by omega, by omega⟩
        · exact ih.1 j (by omega) h2
theorem isTreeM_sound {d : List Int} (h : isTreeM d = true) : IsT d ∧ d.length ≤ 24 := by
  unfold isTreeM at h
  split at h
  · cases h
  · have := treeGo_sound d 23 d.length 0 (by omega) (by simp [nd]) (by simpa [nd] using h)
    exact ⟨⟨fun i hi => (this.1 i (Nat.zero_le _) hi).1, fun i hi => (this.1 i (Nat.zero_le _) hi).2, this.2⟩, by omega⟩
theorem impl_isTree_loop (d : List Int) (hn : d.length ≤ 24) : ∀ (m i : Nat) (need : Int), i + m = d.length → 0 ≤ need → need ≤ 1 + 24 * i → Ev (fun k => impl_isTree.l0 k need d (d.length : Int) (i : Int)) (treeGo d 23 m i need)
  | 0, i, need, h, h0, h1 => by
    refine Ev.step (fun k => by rw [impl_isTree.l0]) ?_
    exact ev_neg (by omega) (Ev.now _)
  | m + 1, i, need, h, h0, h1 => by
    refine Ev.step (fun k => by rw [impl_isTree.l0]) ?_
    refine ev_pos (by omega) (ev_pos (by omega) (ev_pos (by omega) ?_))
    simp only [treeGo, rd_nat]
    refine ev_ite (fun hx => ?_) (fun hx => ?_)
    · rw [if_pos hx]; exact Ev.now _
    · rw [if_neg hx]
      refine ev_ite (fun hy => ?_) (fun hy => ?_)
      · rw [if_pos (.inl hy)]; exact Ev.now _
      · refine ev_ite (fun hz => ?_) (fun hz => ?_)
        · rw [if_pos (.inr (by omega))]; exact Ev.now _
        · rw [if_neg (by omega), w64s (by omega), w64 (x := d.getD i 0 - 1) (by omega) (by omega), w64 (by omega) (by omega), show need + (d.getD i 0 - 1) = need + d.getD i 0 - 1 by omega]
          exact impl_isTree_loop d hn m (i + 1) _ (by omega) (by omega) (by omega)
theorem impl_isTree_ev (d : List Int) : Ev (fun k => impl_isTree.f k d) (isTreeM d) := by
  unfold impl_isTree.f isTreeM
  refine ev_ite (fun h => ?_) (fun h => ?_)
  · rw [if_pos (.inl (by omega))]
    refine Ev.step (fun k => by rw [impl_isTree.j0]) ?_
    exact ev_pos rfl (Ev.now _)
  · by_cases h2 : 24 < d.length
    · rw [if_pos (.inr h2), decide_eq_true (by omega)]
      refine Ev.step (fun k => by rw [impl_isTree.j0]) ?_
      exact ev_pos rfl (Ev.now _)
    · rw [if_neg (by omega), decide_eq_false (by omega)]
      refine Ev.step (fun k => by rw [impl_isTree.j0]) ?_
      exact ev_neg (by decide) (impl_isTree_loop d (by omega) d.length 0 1 (by omega) (by omega) (by omega))
theorem impl_IsTree_ev (d : List Int) : Ev (fun k => impl_IsTree.f k d) (isTreeM d) := by
  unfold impl_IsTree.f
  exact Ev.bind (impl_isTree_ev d) (Ev.now _)
theorem spec_l01Is_loop (d : List Int) (hn : d.length ≤ 24) : ∀ (m i : Nat) (need : Int), i + m = d.length → 0 ≤ need → need ≤ 1 + 24 * i → Ev (fun k => spec_l01Is.l0 k need (i : Int) d) (treeGo d 24 m i need)
  | 0, i, need, h, h0, h1 => by
    refine Ev.step (fun k => by rw [spec_l01Is.l0]) ?_
    exact ev_neg (by omega) (Ev.now _)
  | m + 1, i, need, h, h0, h1 => by
    refine Ev.step (fun k => by rw [spec_l01Is.l0]) ?_
    refine ev_pos (by omega) ?_
    simp only [treeGo, rd_nat, l01In_ev]
    refine ev_ite (fun hx => ?_) (fun hx => ?_)
    · rw [if_pos hx]; exact Ev.now _
    · rw [if_neg hx]
      refine ev_pos (by omega) (ev_some ?_)
      refine ev_ite (fun hy => ?_) (fun hy => ?_)
      · rw [Bool.and_eq_true, decide_eq_true_eq, decide_eq_true_eq] at hy
        rw [if_neg (by omega), w64s (by omega), w64 (x := need - 1) (by omega) (by omega), w64 (by omega) (by omega), show need - 1 + d.getD i 0 = need + d.getD i 0 - 1 by omega]
        exact spec_l01Is_loop d hn m (i + 1) _ (by omega) (by omega) (by omega)
      · rw [Bool.and_eq_true, decide_eq_true_eq, decide_eq_true_eq] at hy
        rw [if_pos (by omega)]; exact Ev.now _
theorem spec_l01Is_ev (d : List Int) (hd : d.length ≤ 1048576) : Ev (fun k => spec_l01Is.f k d) (isTreeM d) := by
  unfold spec_l01Is.f isTreeM
  simp only [l01N_ev, l01In_ev]
  refine ev_some (ev_some ?_)
  refine ev_ite (fun h => ?_) (fun h => ?_)
  · rw [Bool.and_eq_true, decide_eq_true_eq, decide_eq_true_eq] at h
    rw [if_neg (by omega), ← treeGo_top d d.length 0 1 (by omega) (by omega)]
    exact spec_l01Is_loop d (by omega) d.length 0 1 (by omega) (by omega) (by omega)
  · rw [Bool.and_eq_true, decide_eq_true_eq, decide_eq_true_eq] at h
    rw [if_pos (by omega)]; exact Ev.now _

section
variable {d : List Int} (h : IsT d) (hn : d.length ≤ 1000)
include h hn
theorem impl_endOf_loop {v : Nat} (hv : v < d.length) : ∀ (f u : Nat), u + f = d.length → v ≤ u → Ev (fun k => impl_endOf.l0 k d (u : Int) (1 + nd d u - nd d v)) (skip d f (1 + nd d u - nd d v) u : Int) := by
  have b : ∀ u, u ≤ d.length → 0 ≤ nd d u ∧ nd d u ≤ 1000 := fun u hu => ⟨nd_nonneg h hu, by have := nd_le h hu; omega⟩
  intro f
  induction f with
  | zero =>
    intro u hf hu
    have e : u = d.length := by omega
    have h1 := h.fin
    have h2 := h.pos v hv
    refine Ev.step (fun k => by rw [impl_endOf.l0]) ?_
    refine ev_neg (by subst e; omega) (ev_now ?_)
    simp [skip]
  | succ f ih =>
    intro u hf hu
    have b1 := b u (by omega)
    have b2 := b v (by omega)
    have b3 := b (u + 1) (by omega)
    have e : 1 + nd d u - nd d v + (d.getD u 0 - 1) = 1 + nd d (u + 1) - nd d v := by simp only [nd]; omega
    have e2 : nd d (u + 1) = nd d u + d.getD u 0 - 1 := rfl
    refine Ev.step (fun k => by rw [impl_endOf.l0]) ?_
    simp only [skip, rd_nat]
    refine ev_ite (fun hx => ?_) (fun hx => ?_)
    · rw [if_pos hx]
      refine ev_pos (by omega) (ev_pos (by omega) ?_)
      rw [w64s (by omega), w64 (x := d.getD u 0 - 1) (by omega) (by omega), w64 (by omega) (by omega), e]
      exact ih (u + 1) (by omega) (by omega)
    · rw [if_neg hx]; exact Ev.now _
theorem impl_endOf_ev {v : Nat} (hv : v < d.length) : Ev (fun k => impl_endOf.f k d (v : Int)) (endM d v : Int) := by
  have := impl_endOf_loop h hn hv (d.length - v) v (by omega) (Nat.le_refl _)
  rw [show 1 + nd d v - nd d v = 1 by omega] at this
  exact this
theorem spec_l01End_loop {v : Nat} (hv : v < d.length) : ∀ (f u : Nat), u + f = d.length → v ≤ u → Ev (fun k => spec_l01End.l0 k (u : Int) (1 + nd d u - nd d v) d) (skip d f (1 + nd d u - nd d v) u : Int) := by
  have b : ∀ u, u ≤ d.length → 0 ≤ nd d u ∧ nd d u ≤ 1000 := fun u hu => ⟨nd_nonneg h hu, by have := nd_le h hu; omega⟩
  intro f
  induction f with
  | zero =>
    intro u hf hu
    have e : u = d.length := by omega
    have h1 := h.fin
    have h2 := h.pos v hv
    refine Ev.step (fun k => by rw [spec_l01End.l0]) ?_
    refine ev_neg (by subst e; omega) (ev_now ?_)
    simp [skip]
  | succ f ih =>
    intro u hf hu
    have b1 := b u (by omega)
    have b2 := b v (by omega)
    have b3 := b (u + 1) (by omega)
    have e : 1 + nd d u - nd d v - 1 + d.getD u 0 = 1 + nd d (u + 1) - nd d v := by simp only [nd]; omega
    have e1 : 1 + nd d u - nd d v + (d.getD u 0 - 1) = 1 + nd d (u + 1) - nd d v := by simp only [nd]; omega
    have e2 : nd d (u + 1) = nd d u + d.getD u 0 - 1 := rfl
    refine Ev.step (fun k => by rw [spec_l01End.l0]) ?_
    simp only [skip, rd_nat]
    refine ev_ite (fun hx => ?_) (fun hx => ?_)
    · rw [if_pos hx]
      refine ev_pos (by omega) (ev_pos (by omega) ?_)
      rw [w64s (by omega), w64 (x := 1 + nd d u - nd d v - 1) (by omega) (by omega), w64 (by omega) (by omega), e, e1]
      exact ih (u + 1) (by omega) (by omega)
    · rw [if_neg hx]; exact Ev.now _
theorem spec_l01End_ev {v : Nat} (hv : v < d.length) : Ev (fun k => spec_l01End.f k d (v : Int)) (endM d v : Int) := by
  have := spec_l01End_loop h hn hv (d.length - v) v (by omega) (Nat.le_refl _)
  rw [show 1 + nd d v - nd d v = 1 by omega] at this
  exact this
end
def castL (l : List Nat) : List Int := List.map (fun x : Nat => ((x : Nat) : Int)) l
theorem castL_length (l : List Nat) : (castL l).length = l.length := by simp [castL]
theorem castL_getD (l : List Nat) (j : Nat) (h : j < l.length) : (castL l).getD j 0 = (l[j] : Int) := by
  simp [castL, List.getD_eq_getElem?_getD, h]
theorem kids_few {d : List Int} (h : IsT d) {v : Nat} (hv : v < d.length) : (kidsM d v).length < d.length := by
  have h1 := deg_le h hv
  have h2 := h.deg v hv
  unfold kidsM
  rw [kidsFrom_length]
  omega
section
variable {d : List Int} (h : IsT d) (hn : d.length ≤ 1000)
include h hn
theorem impl_kidsOf_loop {n m c e : Nat} (r : Run d m c e) (hc : c < 9223372036854775807) : ∀ (acc : List Int) (j : Nat), j + m = n → n ≤ 1000 → acc.length + m ≤ 1000 → Ev (fun k => impl_kidsOf.l0 k d acc (c : Int) (n : Int) (j : Int)) (acc ++ castL (kidsFrom d m c)) := by
  induction r with
  | nil c =>
    intro acc j h1 h2 h3
    refine Ev.step (fun k => by rw [impl_kidsOf.l0]) ?_
    exact ev_neg (by omega) (ev_now (by simp [kidsFrom, castL]))
  | @cons m c e hlt r ih =>
    intro acc j h1 h2 h3
    refine Ev.step (fun k => by rw [impl_kidsOf.l0]) ?_
    refine ev_pos (by omega) (ev_pos (by omega) (Ev.bind (impl_endOf_ev h hn hlt) ?_))
    rw [w64s (by omega)]
    have hle := end_le h hlt
    have := ih (by omega) (acc ++ [(c : Int)]) (j + 1) (by omega) h2 (by simp; omega)
    simpa [kidsFrom, castL] using this
theorem impl_kidsOf_ev {v : Nat} (hv : v < d.length) : Ev (fun k => impl_kidsOf.f k d (v : Int)) (castL (kidsM d v)) := by
  have h0 := h.deg v hv
  have h1 := deg_le h hv
  unfold impl_kidsOf.f
  refine ev_pos (by omega) (ev_pos (by omega) ?_)
  rw [w64s (by omega), rd_nat]
  have := impl_kidsOf_loop h hn (n := (d.getD v 0).toNat) (run_kids h hv) (by omega) [] 0 (by omega) (by omega) (by simp only [List.length_nil]; omega)
  rw [show (((d.getD v 0).toNat : Nat) : Int) = d.getD v 0 by omega] at this
  simpa [kidsM] using this
theorem spec_l01Children_loop {m c e : Nat} (r : Run d m c e) (hc : c < 9223372036854775807) : ∀ (acc : List Int), m ≤ 1000 → acc.length + m ≤ 1000 → Ev (fun k => spec_l01Children.l0 k acc (c : Int) (m : Int) d) (acc ++ castL (kidsFrom d m c)) := by
  induction r with
  | nil c =>
    intro acc h2 h3
    refine Ev.step (fun k => by rw [spec_l01Children.l0]) ?_
    exact ev_neg (by omega) (ev_now (by simp [kidsFrom, castL]))
  | @cons m c e hlt r ih =>
    intro acc h2 h3
    refine Ev.step (fun k => by rw [spec_l01Children.l0]) ?_
    refine ev_pos (by omega) (ev_pos (by omega) (Ev.bind (spec_l01End_ev h hn hlt) ?_))
    rw [w64p (by omega)]
    have hle := end_le h hlt
    have := ih (by omega) (acc ++ [(c : Int)]) (by omega) (by simp; omega)
    simpa [kidsFrom, castL] using this
theorem spec_l01Children_ev {v : Nat} (hv : v < d.length) : Ev (fun k => spec_l01Children.f k d (v : Int)) (castL (kidsM d v)) := by
  have h0 := h.deg v hv
  have h1 := deg_le h hv
  unfold spec_l01Children.f
  refine ev_pos (by omega) (ev_pos (by omega) ?_)
  rw [w64s (by omega), rd_nat]
  have := spec_l01Children_loop h hn (run_kids h hv) (by omega) [] (by omega) (by simp only [List.length_nil]; omega)
  rw [show (((d.getD v 0).toNat : Nat) : Int) = d.getD v 0 by omega] at this
  simpa [kidsM] using this
end
end Go.Proofs.Ytgbhlmmmighanaa.E
namespace Go.Proofs.Ytgbhlmmmighanaa.E
set_option linter.unusedVariables false
set_option linter.unusedSectionVars false
open Go.RowKit Go.Proofs.YtgbhlmmmighanaaW.PrintWords Go.Proofs.Ytgbhlmmmighanaa.Base Go.Proofs.Ytgbhlmmmighanaa.Tree

structure ParInv (d : List Int) (e : Nat → Int) (v : Nat) (S : List Nat) (out : List Int) : Prop where
  len : out.length = d.length
  get : ∀ c, c < d.length → out.getD c 0 = if 0 < c ∧ (par d c < v ∨ c ∈ S) then (par d c : Int) else e c
theorem ParInv.step {d : List Int} (h : IsT d) {e : Nat → Int} {v : Nat} (hv : v < d.length) {S : List Nat} {out : List Int} {c : Nat} (hc : c ∈ kidsM d v) (hi : ParInv d e v S out) : ParInv d e v (S ++ [c]) (out.set c (v : Int)) := by
  have hk := kid_mem h hv hc
  refine ⟨by rw [List.length_set, hi.len], fun x hx => ?_⟩
  by_cases hxc : c = x
  · subst hxc
    rw [get_set_eq (by rw [hi.len]; exact hx), if_pos ⟨by omega, .inr (by simp)⟩, kid_par h hv hc]
  · rw [get_set_ne hxc, hi.get x hx]
    have : (x ∈ S ++ [c]) = (x ∈ S) := by simp [Ne.symm hxc]
    simp only [this]
theorem ParInv.next {d : List Int} (h : IsT d) {e : Nat → Int} {v : Nat} (hv : v < d.length) {out : List Int} (hi : ParInv d e v (kidsM d v) out) : ParInv d e (v + 1) [] out := by
  refine ⟨hi.len, fun x hx => ?_⟩
  rw [hi.get x hx]
  by_cases h0 : 0 < x
  · have : (par d x < v ∨ x ∈ kidsM d v) ↔ par d x < v + 1 := by
      constructor
      · rintro (hl | hm)
        · omega
        · rw [kid_par h hv hm]; omega
      · intro hl
        by_cases hq : par d x = v
        · exact .inr (hq ▸ par_kid h h0 hx)
        · exact .inl (by omega)
    simp only [h0, true_and, this, List.not_mem_nil, or_false]
  · simp [h0]
theorem ParInv.done {d : List Int} (h : IsT d) {e : Nat → Int} {out : List Int} (he : e 0 = -1) (hi : ParInv d e d.length [] out) : out = parL d := by
  refine ext_getD (by simp [parL, hi.len]) (fun c hc => ?_)
  have hc' : c < d.length := by simpa [parL] using hc
  rw [hi.get c hc', parL, getD_map_range hc']
  rcases Nat.eq_zero_or_pos c with h0 | h0
  · subst h0; simp [he]
  · have := par_lt h h0 hc'
    rw [if_pos ⟨h0, .inl (by omega)⟩, if_neg (by omega)]

section
variable {d : List Int} (h : IsT d) (hn : d.length ≤ 1000)
include h hn
theorem impl_parents_in {e : Nat → Int} {v : Nat} (hv : v < d.length) (n : Int) (r : List Int) : ∀ (m j : Nat) (out : List Int), j + m = (kidsM d v).length → ParInv d e v ((kidsM d v).take j) out →
    (∀ out', ParInv d e (v + 1) [] out' → Ev (fun k => impl_parentsOf.l0 k d out' n ((v + 1 : Nat) : Int)) r) → Ev (fun k => impl_parentsOf.l1 k d out (v : Int) n (v : Int) (castL (kidsM d v)) ((castL (kidsM d v)).length : Int) (j : Int)) r := by
  have hf := kids_few h hv
  intro m
  induction m with
  | zero =>
    intro j out h1 hi hr
    refine Ev.step (fun k => by rw [impl_parentsOf.l1]) ?_
    refine ev_neg (by rw [castL_length]; omega) ?_
    rw [w64s (by omega)]
    refine hr out (ParInv.next h hv ?_)
    rwa [List.take_of_length_le (by omega)] at hi
  | succ m ih =>
    intro j out h1 hi hr
    have hj : j < (kidsM d v).length := by omega
    have hmem : (kidsM d v)[j] ∈ kidsM d v := List.getElem_mem hj
    have hk := kid_mem h hv hmem
    refine Ev.step (fun k => by rw [impl_parentsOf.l1]) ?_
    have hg : rd (castL (kidsM d v)) (j : Int) = ((kidsM d v)[j] : Int) := castL_getD _ j hj
    rw [hg]
    refine ev_pos (by rw [castL_length]; omega) (ev_pos (by omega) (ev_pos (by rw [castL_length]; omega) (ev_pos (by omega) (ev_pos (by rw [hi.len]; omega) ?_))))
    rw [w64s (by omega)]
    refine ih (j + 1) _ (by omega) ?_ hr
    have := hi.step h hv hmem
    rwa [List.take_append_getElem hj] at this
theorem impl_parents_loop {e : Nat → Int} (he : e 0 = -1) : ∀ (m v : Nat) (out : List Int), v + m = d.length → ParInv d e v [] out → Ev (fun k => impl_parentsOf.l0 k d out (d.length : Int) (v : Int)) (parL d) := by
  intro m
  induction m with
  | zero =>
    intro v out h1 hi
    have ev : v = d.length := by omega
    subst ev
    refine Ev.step (fun k => by rw [impl_parentsOf.l0]) ?_
    exact ev_neg (by omega) (ev_now (hi.done h he))
  | succ m ih =>
    intro v out h1 hi
    have hv : v < d.length := by omega
    refine Ev.step (fun k => by rw [impl_parentsOf.l0]) ?_
    refine ev_pos (by omega) (Ev.bind (impl_kidsOf_ev h hn hv) ?_)
    exact impl_parents_in h hn hv _ _ (kidsM d v).length 0 out (by omega) (by simpa using hi) (fun out' hi' => ih (v + 1) out' (by omega) hi')
theorem impl_parentsOf_ev : Ev (fun k => impl_parentsOf.f k d) (parL d) := by
  have h0 := h.len
  unfold impl_parentsOf.f
  have e : slices_Repeat_int64_int64.f [-1] (d.length : Int) = some (List.replicate d.length (-1)) := by
    unfold slices_Repeat_int64_int64.f
    rw [if_pos ⟨rfl, by omega, by omega⟩]; rfl
  rw [e]
  refine ev_some ?_
  refine impl_parents_loop h hn (e := fun _ => -1) rfl d.length 0 _ (by omega) ⟨by simp, fun c hc => ?_⟩
  rw [getD_replicate hc, if_neg (by simp)]
theorem spec_parents_in {e : Nat → Int} {v : Nat} (hv : v < d.length) (r : List Int) : ∀ (m j : Nat) (out : List Int), j + m = (kidsM d v).length → ParInv d e v ((kidsM d v).take j) out →
    (∀ out', ParInv d e (v + 1) [] out' → Ev (fun k => spec_l01Parents.l0 k out' ((v + 1 : Nat) : Int) d) r) → Ev (fun k => spec_l01Parents.l1 k out (v : Int) (castL (kidsM d v)) (j : Int) d) r := by
  have hf := kids_few h hv
  intro m
  induction m with
  | zero =>
    intro j out h1 hi hr
    refine Ev.step (fun k => by rw [spec_l01Parents.l1]) ?_
    refine ev_neg (by rw [castL_length]; omega) ?_
    rw [w64s (by omega)]
    refine hr out (ParInv.next h hv ?_)
    rwa [List.take_of_length_le (by omega)] at hi
  | succ m ih =>
    intro j out h1 hi hr
    have hj : j < (kidsM d v).length := by omega
    have hmem : (kidsM d v)[j] ∈ kidsM d v := List.getElem_mem hj
    have hk := kid_mem h hv hmem
    refine Ev.step (fun k => by rw [spec_l01Parents.l1]) ?_
    have hg : rd (castL (kidsM d v)) (j : Int) = ((kidsM d v)[j] : Int) := castL_getD _ j hj
    rw [hg]
    refine ev_pos (by rw [castL_length]; omega) (ev_pos (by omega) (ev_pos (by omega) (ev_pos (by rw [hi.len]; omega) ?_)))
    rw [w64s (by omega)]
    refine ih (j + 1) _ (by omega) ?_ hr
    have := hi.step h hv hmem
    rwa [List.take_append_getElem hj] at this
theorem spec_parents_loop {e : Nat → Int} (he : e 0 = -1) : ∀ (m v : Nat) (out : List Int), v + m = d.length → ParInv d e v [] out → Ev (fun k => spec_l01Parents.l0 k out (v : Int) d) (parL d) := by
  intro m
  induction m with
  | zero =>
    intro v out h1 hi
    have ev : v = d.length := by omega
    subst ev
    refine Ev.step (fun k => by rw [spec_l01Parents.l0]) ?_
    simp only [l01N_ev]
    exact ev_some (ev_neg (by omega) (ev_now (hi.done h he)))
  | succ m ih =>
    intro v out h1 hi
    have hv : v < d.length := by omega
    refine Ev.step (fun k => by rw [spec_l01Parents.l0]) ?_
    simp only [l01N_ev]
    refine ev_some (ev_pos (by omega) (Ev.bind (spec_l01Children_ev h hn hv) ?_))
    exact spec_parents_in h hn hv _ (kidsM d v).length 0 out (by omega) (by simpa using hi) (fun out' hi' => ih (v + 1) out' (by omega) hi')
theorem spec_l01Parents_ev : Ev (fun k => spec_l01Parents.f k d) (parL d) := by
  have h0 := h.len
  unfold spec_l01Parents.f
  simp only [l01N_ev]
  refine ev_some (ev_pos (by omega) (ev_pos (by simp; omega) (ev_some (ev_pos (by simp; omega) ?_))))
  refine spec_parents_loop h hn (e := fun c => if c = 0 then -1 else 0) rfl d.length 0 _ (by omega) ⟨by simp, fun c hc => ?_⟩
  rcases Nat.eq_zero_or_pos c with e | e
  · subst e
    rw [show ((0 : Int)).toNat = 0 from rfl, get_set_eq (by simp; omega), if_neg (by omega)]; rfl
  · rw [show ((0 : Int)).toNat = 0 from rfl, get_set_ne (by omega), show ((d.length : Int)).toNat = d.length from rfl, getD_replicate hc, if_neg (by simp), if_neg (by omega)]

end
theorem parL_length {d : List Int} (_ : IsT d) (_ : d.length ≤ 1000) : (parL d).length = d.length := by simp [parL]
theorem parL_get {d : List Int} (_ : IsT d) (_ : d.length ≤ 1000) {c : Nat} (h0 : 0 < c) (hc : c < d.length) : (parL d).getD c 0 = (par d c : Int) := by
  rw [parL, getD_map_range hc, if_neg (by omega)]
section
variable {d : List Int} (h : IsT d) (hn : d.length ≤ 1000)
include h hn
end
end Go.Proofs.Ytgbhlmmmighanaa.E
namespace Go.Proofs.Ytgbhlmmmighanaa.E
set_option linter.unusedVariables false
set_option linter.unusedSectionVars false
open Go.RowKit Go.Proofs.YtgbhlmmmighanaaW.PrintWords Go.Proofs.Ytgbhlmmmighanaa.Base Go.Proofs.Ytgbhlmmmighanaa.Tree

def aroundM (d : List Int) (v : Nat) : List Nat := kidsM d v ++ if 0 < v then [par d v] else []
theorem around_few {d : List Int} (h : IsT d) (_ : d.length ≤ 1000) {v : Nat} (hv : v < d.length) : (aroundM d v).length ≤ d.length := by
  have := kids_few h hv
  unfold aroundM
  split
  · simp; omega
  · simp; omega
section
variable {d : List Int} (h : IsT d) (hn : d.length ≤ 1000)
include h hn
theorem spec_l05Around_ev {v : Nat} (hv : v < d.length) : Ev (fun k => spec_l05Around.f k d (v : Int)) (castL (aroundM d v)) := by
  have hf := kids_few h hv
  unfold spec_l05Around.f aroundM
  refine Ev.bind (spec_l01Children_ev h hn hv) ?_
  refine ev_ite (fun hx => ?_) (fun hx => ?_)
  · refine Ev.bind (spec_l01Parents_ev h hn) (ev_pos (by omega) (ev_pos (by rw [parL_length h hn]; omega) (ev_pos (by rw [castL_length]; omega) (ev_now ?_))))
    have hg : rd (parL d) (v : Int) = (par d v : Int) := parL_get h hn (by omega) hv
    rw [hg, if_pos (by omega)]
    simp [castL]
  · exact ev_now (by rw [if_neg (by omega), List.append_nil])
theorem impl_around_ev {v : Nat} (hv : v < d.length) : Ev (fun k => impl_around.f k d (v : Int)) (castL (aroundM d v)) := by
  have hf := kids_few h hv
  unfold impl_around.f aroundM
  refine Ev.bind (impl_kidsOf_ev h hn hv) ?_
  refine ev_ite (fun hx => ?_) (fun hx => ?_)
  · refine Ev.bind (impl_parentsOf_ev h hn) (ev_pos (by omega) (ev_pos (by rw [parL_length h hn]; omega) (ev_pos (by rw [castL_length]; omega) (ev_now ?_))))
    have hg : rd (parL d) (v : Int) = (par d v : Int) := parL_get h hn (by omega) hv
    rw [hg, if_pos (by omega)]
    simp [castL]
  · exact ev_now (by rw [if_neg (by omega), List.append_nil])
end
end Go.Proofs.Ytgbhlmmmighanaa.E
namespace Go.Proofs.Ytgbhlmmmighanaa.E
set_option linter.unusedVariables false
set_option linter.unusedSectionVars false
open Go.RowKit Go.Proofs.YtgbhlmmmighanaaW.PrintWords Go.Proofs.Ytgbhlmmmighanaa.Base Go.Proofs.Ytgbhlmmmighanaa.Tree

def tot (g : Nat → Nat) : List Nat → Nat
  | [] => 0
  | x :: l => g x + tot g l
theorem tot_append (g : Nat → Nat) : ∀ a b, tot g (a ++ b) = tot g a + tot g b
  | [], b => by simp [tot]
  | x :: a, b => by simp [tot, tot_append g a b]; omega
theorem tot_congr {f g : Nat → Nat} : ∀ {l : List Nat}, (∀ x ∈ l, f x = g x) → tot f l = tot g l
  | [], _ => rfl
  | x :: l, h => by
    simp only [tot]
    rw [h x (by simp), tot_congr (fun y hy => h y (by simp [hy]))]
theorem tot_ge (g : Nat → Nat) : ∀ {l : List Nat} {x : Nat}, x ∈ l → g x ≤ tot g l
  | y :: l, x, hx => by
    simp only [tot]
    rcases List.mem_cons.1 hx with rfl | hx
    · omega
    · have := tot_ge g hx; omega
theorem flat_length {f : Nat → List Int} : ∀ (l : List Nat), (l.map f).flatten.length = tot (fun x => (f x).length) l
  | [] => rfl
  | x :: l => by simp only [List.map_cons, List.flatten_cons, List.length_append, tot, flat_length l]
section
variable {d : List Int} (h : IsT d)
include h
theorem mem_around {v w : Nat} (hv : v < d.length) : w ∈ aroundM d v ↔ (0 < w ∧ w < d.length ∧ par d w = v) ∨ (0 < v ∧ w = par d v) := by
  unfold aroundM
  rw [List.mem_append]
  constructor
  · rintro (hk | hp)
    · have := kid_mem h hv hk
      exact .inl ⟨by omega, this.2.1, kid_par h hv hk⟩
    · split at hp
      · rename_i h0; exact .inr ⟨h0, by simpa using hp⟩
      · cases hp
  · rintro (⟨h0, h1, rfl⟩ | ⟨h0, rfl⟩)
    · exact .inl (par_kid h h0 h1)
    · right; rw [if_pos h0]; simp
theorem around_lt {v w : Nat} (hv : v < d.length) (hw : w ∈ aroundM d v) : w < d.length ∧ w ≠ v := by
  rcases (mem_around h hv).1 hw with ⟨h0, h1, h2⟩ | ⟨h0, h2⟩
  · have := par_lt h h0 h1; omega
  · have := par_lt h h0 hv; omega
theorem around_sym {v w : Nat} (hv : v < d.length) (hw : w ∈ aroundM d v) : v ∈ aroundM d w := by
  have hl := (around_lt h hv hw).1
  rw [mem_around h hl]
  rcases (mem_around h hv).1 hw with ⟨h0, h1, h2⟩ | ⟨h0, h2⟩
  · exact .inr ⟨h0, h2.symm⟩
  · exact .inl ⟨h0, hv, h2.symm⟩
theorem run_sorted {m c e : Nat} (r : Run d m c e) : (kidsFrom d m c).Pairwise (· < ·) := by
  induction r with
  | nil c => exact List.Pairwise.nil
  | @cons m c e hc r ih =>
    refine List.Pairwise.cons (fun x hx => ?_) ih
    have := run_mem h r x hx
    have := end_gt h hc
    omega
theorem around_nodup {v : Nat} (hv : v < d.length) : (aroundM d v).Nodup := by
  unfold aroundM
  refine List.nodup_append.2 ⟨(run_sorted h (run_kids h hv)).imp (fun hlt => by omega), ?_, ?_⟩
  · split <;> simp
  · intro a ha b hb
    split at hb
    · have h1 := kid_mem h hv ha
      have h2 := par_lt h (c := v) (by omega) hv
      have h3 : b = par d v := by simpa using hb
      omega
    · cases hb
theorem run_tot {m c e : Nat} (r : Run d m c e) : tot (fun x => endM d x - x) (kidsFrom d m c) = e - c := by
  induction r with
  | nil c => simp [kidsFrom, tot]
  | @cons m c e hc r ih =>
    have h1 := end_gt h hc
    have h2 := run_bd h r
    simp only [kidsFrom, tot, ih]
    omega
end
def side (d : List Int) (v w : Nat) : Nat := if v < w then endM d w - w else d.length - (endM d v - v)
section
variable {d : List Int} (h : IsT d)
include h
theorem side_both {v w : Nat} (hv : v < d.length) (hw : w ∈ aroundM d v) : 0 < side d v w ∧ 0 < side d w v ∧ side d v w + side d w v = d.length := by
  have hl := around_lt h hv hw
  have key : ∀ a b : Nat, 0 < b → b < d.length → par d b = a → 0 < side d a b ∧ 0 < side d b a ∧ side d a b + side d b a = d.length := by
    intro a b h0 h1 h2
    have h3 := par_lt h h0 h1
    have h4 := end_gt h h1
    have h5 := end_le h h1
    unfold side
    rw [if_pos (by omega), if_neg (by omega)]
    omega
  rcases (mem_around h hv).1 hw with ⟨h0, h1, h2⟩ | ⟨h0, h2⟩
  · exact key v w h0 h1 h2
  · have := key w v h0 hv h2.symm
    omega
theorem tot_around {w : Nat} (hw : w < d.length) : tot (side d w) (aroundM d w) = d.length - 1 := by
  unfold aroundM
  rw [tot_append]
  have h1 : tot (side d w) (kidsM d w) = endM d w - (w + 1) := by
    rw [← run_tot h (run_kids h hw)]
    refine tot_congr (fun x hx => ?_)
    have := kid_mem h hw hx
    unfold side
    rw [if_pos (by omega)]
  rw [h1]
  have h2 := end_gt h hw
  have h3 := end_le h hw
  by_cases h0 : 0 < w
  · have := par_lt h h0 hw
    rw [if_pos h0]
    simp only [tot, side]
    rw [if_neg (by omega)]
    omega
  · rw [if_neg h0]
    have e : w = 0 := by omega
    subst e
    rw [end_root h]
    simp [tot]
end
def restM (d : List Int) (v w : Nat) : List Nat := (aroundM d w).drop ((aroundM d w).idxOf v + 1) ++ (aroundM d w).take ((aroundM d w).idxOf v)
def seenM (d : List Int) : Nat → Nat → List Nat → List Int
  | 0, _, _ => []
  | f + 1, v, L => (L.length : Int) :: (L.map fun w => seenM d f w (restM d v w)).flatten
theorem split_at {l : List Nat} {v : Nat} (hv : v ∈ l) : l.idxOf v < l.length ∧ l = l.take (l.idxOf v) ++ v :: l.drop (l.idxOf v + 1) := by
  have hl : l.idxOf v < l.length := List.idxOf_lt_length_of_mem hv
  refine ⟨hl, ?_⟩
  have e : l[l.idxOf v] = v := List.getElem_idxOf hl
  conv => lhs; rw [← List.take_append_drop (l.idxOf v) l, List.drop_eq_getElem_cons hl, e]
section
variable {d : List Int} (h : IsT d)
include h
theorem rest_tot {v w : Nat} (hv : v < d.length) (hw : w ∈ aroundM d v) : tot (side d w) (restM d v w) + 1 = side d v w := by
  have hl := (around_lt h hv hw).1
  have hs := (split_at (around_sym h hv hw)).2
  have h1 := tot_around h hl
  rw [hs, tot_append] at h1
  simp only [tot] at h1
  have h2 := side_both h hv hw
  unfold restM
  rw [tot_append]
  omega
theorem rest_mem {v w x : Nat} (hx : x ∈ restM d v w) : x ∈ aroundM d w := by
  unfold restM at hx
  rcases List.mem_append.1 hx with hx | hx
  · exact List.mem_of_mem_drop hx
  · exact List.mem_of_mem_take hx
theorem rest_length {v w : Nat} (hv : v < d.length) (hw : w ∈ aroundM d v) : (restM d v w).length + 1 = (aroundM d w).length := by
  have hs := (split_at (around_sym h hv hw)).1
  unfold restM
  simp only [List.length_append, List.length_drop, List.length_take]
  omega
theorem seen_length : ∀ (f v w : Nat), v < d.length → w ∈ aroundM d v → side d v w ≤ f → (seenM d f w (restM d v w)).length = side d v w
  | 0, v, w, hv, hw, hf => by have := side_both h hv hw; omega
  | f + 1, v, w, hv, hw, hf => by
    have hl := (around_lt h hv hw).1
    have ht := rest_tot h hv hw
    simp only [seenM, List.length_cons, flat_length]
    rw [tot_congr (g := side d w) (fun x hx => ?_)]
    · omega
    · have h1 := tot_ge (side d w) hx
      exact seen_length f w x hl (rest_mem h hx) (by omega)
theorem seen_root {v : Nat} (hv : v < d.length) {L : List Nat} (hL : ∀ x ∈ L, x ∈ aroundM d v) (ht : tot (side d v) L = d.length - 1) : (seenM d d.length v L).length = d.length := by
  obtain ⟨f, hf⟩ : ∃ f, d.length = f + 1 := ⟨d.length - 1, by have := h.len; omega⟩
  have e : ∀ g, g = f + 1 → (seenM d g v L).length = tot (side d v) L + 1 := by
    intro g hg
    subst hg
    simp only [seenM, List.length_cons, flat_length]
    congr 1
    refine tot_congr (fun x hx => ?_)
    have h1 := tot_ge (side d v) hx
    exact seen_length h f v x hv (hL x hx) (by omega)
  rw [e _ hf, ht]
  omega
theorem rot_tot {v k : Nat} (hv : v < d.length) : tot (side d v) ((aroundM d v).drop k ++ (aroundM d v).take k) = d.length - 1 := by
  rw [← tot_around h hv]
  conv => rhs; rw [← List.take_append_drop k (aroundM d v)]
  rw [tot_append, tot_append]
  omega
end
end Go.Proofs.Ytgbhlmmmighanaa.E
namespace Go.Proofs.Ytgbhlmmmighanaa.E
set_option linter.unusedVariables false
set_option linter.unusedSectionVars false
open Go.RowKit Go.Proofs.YtgbhlmmmighanaaW.PrintWords Go.Proofs.Ytgbhlmmmighanaa.Base

def lenTo (xs : List (List Int)) : Nat → Nat
  | 0 => 0
  | v + 1 => lenTo xs v + (xs.getD v []).length
theorem lenTo_mono (xs : List (List Int)) : ∀ {v w : Nat}, v ≤ w → lenTo xs v ≤ lenTo xs w
  | v, 0, h => by
    have e : v = 0 := by omega
    subst e; exact Nat.le_refl _
  | v, w + 1, h => by
    by_cases e : v = w + 1
    · subst e; exact Nat.le_refl _
    · have := lenTo_mono xs (v := v) (w := w) (by omega)
      simp only [lenTo]; omega
theorem take_flat (xs : List (List Int)) (v : Nat) (hv : v < xs.length) : (xs.take (v + 1)).flatten = (xs.take v).flatten ++ xs.getD v [] := by
  rw [← List.take_append_getElem hv, List.flatten_append, List.getD_eq_getElem?_getD, List.getElem?_eq_getElem hv]
  simp
theorem lenTo_flat (xs : List (List Int)) : ∀ v : Nat, v ≤ xs.length → (xs.take v).flatten.length = lenTo xs v
  | 0, _ => by simp [lenTo]
  | v + 1, h => by
    rw [take_flat xs v (by omega), List.length_append, lenTo_flat xs v (by omega)]; rfl
theorem slices_Concat_loop1 (xs : List (List Int)) (hx : xs.length ≤ 1048576) (hn : lenTo xs xs.length ≤ 1048576) : ∀ (m v : Nat), v + m = xs.length → Ev (fun k => slices_Concat_int64_int64.l1 k (xs.take v).flatten xs (xs.length : Int) (v : Int)) xs.flatten
  | 0, v, h => by
    refine Ev.step (fun k => by rw [slices_Concat_int64_int64.l1]) ?_
    refine ev_neg (by omega) (ev_now ?_)
    rw [List.take_of_length_le (by omega)]
  | m + 1, v, h => by
    have ih := slices_Concat_loop1 xs hx hn m (v + 1) (by omega)
    rw [take_flat xs v (by omega)] at ih
    have h1 := lenTo_mono xs (v := v + 1) (w := xs.length) (by omega)
    have h2 := lenTo_flat xs v (by omega)
    have e : rd_L1 xs (v : Int) = xs.getD v [] := rfl
    simp only [lenTo] at h1
    refine Ev.step (fun k => by rw [slices_Concat_int64_int64.l1]) ?_
    rw [e]
    refine ev_pos (by omega) (ev_pos (by omega) (ev_pos (by omega) (ev_pos (by omega) ?_)))
    rw [w64s (by omega)]
    exact ih
theorem slices_Concat_loop0 (xs : List (List Int)) (hx : xs.length ≤ 1048576) (hn : lenTo xs xs.length ≤ 1048576) : ∀ (m v : Nat), v + m = xs.length → Ev (fun k => slices_Concat_int64_int64.l0 k xs (lenTo xs v : Int) xs (xs.length : Int) (v : Int)) xs.flatten
  | 0, v, h => by
    have e : v = xs.length := by omega
    subst e
    refine Ev.step (fun k => by rw [slices_Concat_int64_int64.l0]) ?_
    refine ev_neg (by omega) ?_
    have hg : slices_Grow_int64_int64.f (lenTo xs xs.length : Int) = some [] := by
      unfold slices_Grow_int64_int64.f
      rw [if_pos ⟨by omega, by omega⟩]
    rw [hg]
    refine ev_some ?_
    exact slices_Concat_loop1 xs hx hn xs.length 0 (by omega)
  | m + 1, v, h => by
    have h1 := lenTo_mono xs (v := v + 1) (w := xs.length) (by omega)
    have e : rd_L1 xs (v : Int) = xs.getD v [] := rfl
    have ih := slices_Concat_loop0 xs hx hn m (v + 1) (by omega)
    have e2 : (lenTo xs v : Int) + ((xs.getD v []).length : Int) = (lenTo xs (v + 1) : Int) := by simp only [lenTo]; omega
    refine Ev.step (fun k => by rw [slices_Concat_int64_int64.l0]) ?_
    rw [e, e2, w64 (by omega) (by omega), w64s (by omega)]
    exact ev_pos (by omega) (ev_pos (by omega) (ev_pos (by omega) (ev_neg (by omega) ih)))
theorem slices_Concat_ev (xs : List (List Int)) (hx : xs.length ≤ 1048576) (hn : xs.flatten.length ≤ 1048576) : Ev (fun k => slices_Concat_int64_int64.f k xs) xs.flatten := by
  unfold slices_Concat_int64_int64.f
  have h := lenTo_flat xs xs.length (Nat.le_refl _)
  rw [List.take_of_length_le (Nat.le_refl _)] at h
  exact slices_Concat_loop0 xs hx (by omega) xs.length 0 (by omega)
end Go.Proofs.Ytgbhlmmmighanaa.E
namespace Go.Proofs.Ytgbhlmmmighanaa.E
set_option linter.unusedVariables false
set_option linter.unusedSectionVars false
open Go.RowKit Go.Proofs.YtgbhlmmmighanaaW.PrintWords Go.Proofs.YtgbhlmmmighanaaW.PrintMore Go.Proofs.Ytgbhlmmmighanaa.Base Go.Proofs.Ytgbhlmmmighanaa.Tree

theorem idx_cons_ne {a b : Nat} {l : List Nat} (h : a ≠ b) : (a :: l).idxOf b = l.idxOf b + 1 := by
  have e : (a == b) = false := by simpa using h
  rw [List.idxOf_cons, e]; rfl
theorem index_loop (l : List Nat) (v : Nat) (hn : l.length ≤ 1048576) : ∀ (m i : Nat), i + m = l.length → v ∈ l.drop i → (l.take i).idxOf v = i → Ev (fun k => slices_Index_int64_int64.l0 k (castL l) (v : Int) (l.length : Int) (i : Int)) (l.idxOf v : Int)
  | 0, i, hi, hm, _ => by
    rw [List.drop_of_length_le (by omega)] at hm
    cases hm
  | m + 1, i, hi, hm, ht => by
    have hlt : i < l.length := by omega
    have hc : rd (castL l) (i : Int) = (l[i] : Int) := castL_getD l i hlt
    refine Ev.step (fun k => by rw [slices_Index_int64_int64.l0]) ?_
    refine ev_pos (by omega) (ev_pos (by omega) (ev_pos (by rw [castL_length]; omega) ?_))
    rw [hc]
    have hs : l = l.take i ++ l[i] :: l.drop (i + 1) := by
      conv => lhs; rw [← List.take_append_drop i l, List.drop_eq_getElem_cons hlt]
    have hnot : v ∉ l.take i := by
      intro hv
      have := List.idxOf_lt_length_of_mem hv
      rw [List.length_take] at this
      omega
    have hidx : l.idxOf v = i + (l[i] :: l.drop (i + 1)).idxOf v := by
      conv => lhs; rw [hs]
      rw [List.idxOf_append, if_neg hnot, List.length_take]
      omega
    refine ev_ite (fun hx => ?_) (fun hx => ?_)
    · have e : l[i] = v := by omega
      refine ev_now ?_
      rw [hidx, e, List.idxOf_cons_self]; omega
    · have e : l[i] ≠ v := by omega
      rw [w64s (by omega)]
      refine index_loop l v hn m (i + 1) (by omega) ?_ ?_
      · rw [List.drop_eq_getElem_cons hlt] at hm
        rcases List.mem_cons.1 hm with h | h
        · exact absurd h.symm e
        · exact h
      · rw [List.take_succ_eq_append_getElem hlt, List.idxOf_append, if_neg hnot, idx_cons_ne e, List.length_take]
        simp
        omega
theorem index_ev (l : List Nat) (v : Nat) (hn : l.length ≤ 1048576) (hv : v ∈ l) : Ev (fun k => slices_Index_int64_int64.f k (castL l) (v : Int)) (l.idxOf v : Int) := by
  unfold slices_Index_int64_int64.f
  rw [castL_length]
  exact index_loop l v hn l.length 0 (by omega) hv (by simp)

theorem indexFunc_loop (l : List Int) (a : Int) (hn : l.length ≤ 1048576) : ∀ (m i : Nat), i + m = l.length → (∀ j, j < i → l.getD j 0 ≠ a) →
    ∃ r : Int, Ev (fun k => slices_IndexFunc_int64_int64.l0 k l a (l.length : Int) (i : Int)) r ∧ ((r = -1 ∧ ∀ j, j < l.length → l.getD j 0 ≠ a) ∨ ∃ n : Nat, r = n ∧ n < l.length ∧ l.getD n 0 = a ∧ ∀ j, j < n → l.getD j 0 ≠ a)
  | 0, i, hi, hj => by
    refine ⟨-1, ?_, .inl ⟨rfl, fun j h => hj j (by omega)⟩⟩
    refine Ev.step (fun k => by rw [slices_IndexFunc_int64_int64.l0]) ?_
    exact ev_neg (by omega) (Ev.now _)
  | m + 1, i, hi, hj => by
    by_cases hx : l.getD i 0 = a
    · refine ⟨i, ?_, .inr ⟨i, rfl, by omega, hx, hj⟩⟩
      refine Ev.step (fun k => by rw [slices_IndexFunc_int64_int64.l0]) ?_
      exact ev_pos (by omega) (ev_pos (by omega) (ev_pos (by omega) (ev_pos hx (Ev.now _))))
    · obtain ⟨r, h1, h2⟩ := indexFunc_loop l a hn m (i + 1) (by omega) (fun j h => by
        by_cases e : j = i
        · subst e; exact hx
        · exact hj j (by omega))
      refine ⟨r, ?_, h2⟩
      refine Ev.step (fun k => by rw [slices_IndexFunc_int64_int64.l0]) ?_
      rw [w64s (by omega)]
      exact ev_pos (by omega) (ev_pos (by omega) (ev_pos (by omega) (ev_neg hx h1)))
theorem filter_all {l : List Int} {a : Int} (h : ∀ j, j < l.length → l.getD j 0 ≠ a) : l.filter (fun x => decide (x ≠ a)) = l := by
  rw [List.filter_eq_self]
  intro x hx
  obtain ⟨j, hj, e⟩ := List.getElem_of_mem hx
  have := h j hj
  rw [List.getD_eq_getElem?_getD, List.getElem?_eq_getElem hj] at this
  rw [← e]
  exact decide_eq_true this
theorem take_succ_getD {l : List Int} {i : Nat} (h : i < l.length) : l.take (i + 1) = l.take i ++ [l.getD i 0] := by
  rw [List.take_succ_eq_append_getElem h, List.getD_eq_getElem?_getD, List.getElem?_eq_getElem h]; rfl
theorem deleteFunc_loop (l : List Int) (a : Int) (hn : l.length ≤ 1048576) : ∀ (m j i : Nat) (x : List Int), j + m = l.length → i < j → x.length = l.length → x.take i = (l.take j).filter (fun x => decide (x ≠ a)) → (∀ p, j ≤ p → x.getD p 0 = l.getD p 0) →
    Ev (fun k => slices_DeleteFunc_int64_int64.l0 k x a (i : Int) (j : Int)) (l.filter (fun x => decide (x ≠ a)))
  | 0, j, i, x, hj, hi, hl, ht, hd => by
    refine Ev.step (fun k => by rw [slices_DeleteFunc_int64_int64.l0]) ?_
    refine ev_neg (by omega) (ev_pos (by omega) (ev_pos (by omega) (ev_now ?_)))
    rw [show ((i : Int)).toNat = i from rfl, ht, List.take_of_length_le (by omega)]
  | m + 1, j, i, x, hj, hi, hl, ht, hd => by
    have e := hd j (Nat.le_refl _)
    have hs : (l.take (j + 1)).filter (fun x => decide (x ≠ a)) = (l.take j).filter (fun x => decide (x ≠ a)) ++ if l.getD j 0 = a then [] else [l.getD j 0] := by
      rw [take_succ_getD (by omega), List.filter_append]
      congr 1
      split
      · rename_i h; rw [List.filter_cons_of_neg (by rw [h]; simp)]; rfl
      · rename_i h; rw [List.filter_cons_of_pos (p := fun x => decide (x ≠ a)) (decide_eq_true h)]; rfl
    refine Ev.step (fun k => by rw [slices_DeleteFunc_int64_int64.l0]) ?_
    refine ev_pos (by omega) (ev_pos (by omega) ?_)
    rw [rd_nat, e]
    refine ev_ite (fun hx => ?_) (fun hx => ?_)
    · rw [w64s (by omega)]
      refine deleteFunc_loop l a hn m (j + 1) i x (by omega) (by omega) hl ?_ (fun p hp => hd p (by omega))
      rw [hs, if_pos hx, List.append_nil, ht]
    · rw [w64s (by omega), w64s (by omega)]
      refine ev_pos (by omega) (ev_pos (by omega) (deleteFunc_loop l a hn m (j + 1) (i + 1) _ (by omega) (by omega) (by simpa using hl) ?_ (fun p hp => ?_)))
      · rw [hs, if_neg hx, ← ht, show ((i : Int)).toNat = i from rfl, take_succ_getD (by simp; omega), get_set_eq (by omega)]
        congr 1
        apply List.ext_getElem?
        intro q
        rw [List.getElem?_take, List.getElem?_take]
        split
        · rw [List.getElem?_set_ne (by omega)]
        · rfl
      · rw [show ((i : Int)).toNat = i from rfl, get_set_ne (by omega)]
        exact hd p (by omega)
theorem deleteFunc_ev (l : List Int) (a : Int) (hn : l.length ≤ 1048576) : Ev (fun k => slices_DeleteFunc_int64_int64.f k l a) (l.filter (fun x => decide (x ≠ a))) := by
  obtain ⟨r, h1, h2⟩ := indexFunc_loop l a hn l.length 0 (by omega) (fun j h => by omega)
  unfold slices_DeleteFunc_int64_int64.f
  refine Ev.bind (g := fun k => slices_IndexFunc_int64_int64.f k l a) h1 ?_
  rcases h2 with ⟨rfl, h2⟩ | ⟨n, rfl, h3, h4, h5⟩
  · refine ev_pos rfl (ev_now ?_)
    rw [filter_all h2]
  · refine ev_neg (by omega) ?_
    rw [w64s (by omega)]
    refine deleteFunc_loop l a hn (l.length - (n + 1)) (n + 1) n l (by omega) (by omega) rfl ?_ (fun p _ => rfl)
    rw [take_succ_getD h3, List.filter_append, h4]
    simp only [ne_eq, not_true_eq_false, decide_false, Bool.false_eq_true, not_false_eq_true, List.filter_cons_of_neg, List.filter_nil, List.append_nil]
    refine (filter_all (a := a) (fun j hj => ?_)).symm
    rw [List.length_take] at hj
    rw [List.getD_eq_getElem?_getD, List.getElem?_take, if_pos (by omega), ← List.getD_eq_getElem?_getD]
    exact h5 j (by omega)

theorem rot_get {l : List Nat} {k i : Nat} (hk : k ≤ l.length) (hi : i < l.length) : (l.drop k ++ l.take k)[i]? = l[(k + i) % l.length]? := by
  by_cases h : i < l.length - k
  · rw [List.getElem?_append_left (by rw [List.length_drop]; omega), List.getElem?_drop, Nat.mod_eq_of_lt (by omega)]
  · rw [List.getElem?_append_right (by rw [List.length_drop]; omega), List.length_drop, List.getElem?_take, if_pos (by omega)]
    congr 1
    rw [show k + i = (i - (l.length - k)) + l.length by omega, Nat.add_mod_right, Nat.mod_eq_of_lt (by omega)]
theorem castL_filter (l : List Nat) (v : Nat) : (castL l).filter (fun x => decide (x ≠ (v : Int))) = castL (l.filter (fun x => decide (x ≠ v))) := by
  induction l with
  | nil => rfl
  | cons a l ih =>
    simp only [castL, List.map_cons] at ih ⊢
    by_cases h : a = v
    · subst h
      rw [List.filter_cons_of_neg (by simp), List.filter_cons_of_neg (by simp), ih]
    · rw [List.filter_cons_of_pos (by simp; omega), List.filter_cons_of_pos (by simp; omega), ih]; rfl
theorem castL_filter_neg (l : List Nat) : (castL l).filter (fun x => decide (x ≠ (-1 : Int))) = castL l := by
  rw [List.filter_eq_self]
  intro x hx
  obtain ⟨y, _, rfl⟩ := List.mem_map.1 hx
  exact decide_eq_true (by omega)

section
variable {d : List Int} (h : IsT d) (hn : d.length ≤ 1000)
include h hn
theorem rest_filter {v w : Nat} (hv : v < d.length) (hw : w ∈ aroundM d v) : ((aroundM d w).drop ((aroundM d w).idxOf v) ++ (aroundM d w).take ((aroundM d w).idxOf v)).filter (fun x => decide (x ≠ v)) = restM d v w := by
  have hl := (around_lt h hv hw).1
  obtain ⟨hi, hs⟩ := split_at (around_sym h hv hw)
  have hnd := around_nodup h hl
  unfold restM
  have ei : (aroundM d w)[(aroundM d w).idxOf v] = v := List.getElem_idxOf hi
  rw [List.drop_eq_getElem_cons hi, ei]
  rw [hs, List.nodup_append] at hnd
  obtain ⟨h1, h2, h3⟩ := hnd
  rw [List.cons_append, List.filter_cons_of_neg (by simp)]
  rw [List.filter_eq_self.2]
  intro x hx
  refine decide_eq_true (fun e => ?_)
  subst e
  rcases List.mem_append.1 hx with hx | hx
  · exact (List.nodup_cons.1 h2).1 hx
  · exact h3 _ hx _ (by simp) rfl
theorem tot_drop (g : Nat → Nat) {l : List Nat} {i : Nat} (hi : i < l.length) : tot g (l.drop i) = g l[i] + tot g (l.drop (i + 1)) := by
  rw [List.drop_eq_getElem_cons hi]; rfl
theorem seen_drop {f v : Nat} {L : List Nat} {i : Nat} (hi : i < L.length) : ((L.drop i).map fun w => seenM d f w (restM d v w)).flatten = seenM d f L[i] (restM d v L[i]) ++ ((L.drop (i + 1)).map fun w => seenM d f w (restM d v w)).flatten := by
  rw [List.drop_eq_getElem_cons hi, List.map_cons, List.flatten_cons]
theorem spec_find_loop {v w : Nat} (hv : v < d.length) (hw : w ∈ aroundM d v) (a2 a3 : Int) (x9 x10 : List Int) (x11 : Int) (r : List Int)
    (H : Ev (fun k => (spec_l05From.f k d (w : Int) (((aroundM d w).idxOf v + 1 : Nat) : Int) (((aroundM d w).length : Int) - 1)).bind fun t => if x10.length + t.length < 17592186044416 then spec_l05From.l0 k (v : Int) a2 a3 x9 (x10 ++ t) (wrap64 (x11 + 1)) d else none) r) :
    ∀ (m i : Nat), i + m = (aroundM d w).idxOf v → Ev (fun k => spec_l05From.l1 k (v : Int) a2 a3 x9 x10 x11 (w : Int) (castL (aroundM d w)) (i : Int) d) r := by
  have hl := (around_lt h hv hw).1
  have hf := around_few h hn hl
  obtain ⟨hi, hs⟩ := split_at (around_sym h hv hw)
  have ei : (aroundM d w)[(aroundM d w).idxOf v] = v := List.getElem_idxOf hi
  intro m
  induction m with
  | zero =>
    intro i e
    have e' : i = (aroundM d w).idxOf v := by omega
    have hg : rd (castL (aroundM d w)) (i : Int) = (v : Int) := by
      have := castL_getD (aroundM d w) i (by omega)
      rw [rd_nat, this]
      congr 1
      subst e'
      exact ei
    refine Ev.step (fun k => by rw [spec_l05From.l1]) ?_
    rw [castL_length]
    refine ev_pos (by omega) (ev_pos (by omega) (ev_pos hg ?_))
    rw [w64s (by omega), w64 (x := ((aroundM d w).length : Int) - 1) (by omega) (by omega), e']
    exact H
  | succ m ih =>
    intro i e
    have hg : rd (castL (aroundM d w)) (i : Int) ≠ (v : Int) := by
      have := castL_getD (aroundM d w) i (by omega)
      rw [rd_nat, this]
      intro e2
      have e3 : (aroundM d w)[i] = v := by omega
      have hnd := around_nodup h hl
      have : i = (aroundM d w).idxOf v := (List.getElem_inj (h₀ := by omega) (h₁ := hi) hnd).1 (e3.trans ei.symm)
      omega
    refine Ev.step (fun k => by rw [spec_l05From.l1]) ?_
    rw [castL_length]
    refine ev_pos (by omega) (ev_pos (by omega) (ev_neg hg ?_))
    rw [w64s (by omega)]
    exact ih (i + 1) (by omega)
theorem spec_from_ev : ∀ (f v : Nat) (L : List Nat) (first : Nat), v < d.length → f < d.length → first ≤ (aroundM d v).length → L.length ≤ (aroundM d v).length → (∀ i, (hi : i < L.length) → (aroundM d v)[(first + i) % (aroundM d v).length]? = some L[i]) → tot (side d v) L ≤ f →
    Ev (fun k => spec_l05From.f k d (v : Int) (first : Int) (L.length : Int)) (seenM d (f + 1) v L)
  | f, v, L, first, hv, hf, hfi, hL, hget, ht => by
    have hfw := around_few h hn hv
    have hmem : ∀ x ∈ L, x ∈ aroundM d v := by
      intro x hx
      obtain ⟨i, hi, e⟩ := List.getElem_of_mem hx
      have := hget i hi
      rw [e] at this
      exact List.mem_of_getElem? this
    have inner : ∀ (m i : Nat) (acc : List Int), i + m = L.length → acc.length + tot (side d v) (L.drop i) ≤ d.length → Ev (fun k => spec_l05From.l0 k (v : Int) (first : Int) (L.length : Int) (castL (aroundM d v)) acc (i : Int) d) (acc ++ ((L.drop i).map fun w => seenM d f w (restM d v w)).flatten) := by
      intro m
      induction m with
      | zero =>
        intro i acc hi ha
        refine Ev.step (fun k => by rw [spec_l05From.l0]) ?_
        refine ev_neg (by omega) (ev_now ?_)
        rw [List.drop_of_length_le (by omega)]; simp
      | succ m ih =>
        intro i acc hi ha
        have hlt : i < L.length := by omega
        have hg := hget i hlt
        have hlen : 0 < (aroundM d v).length := by omega
        obtain ⟨hq, hqe⟩ := List.getElem?_eq_some_iff.1 hg
        have hw : L[i] ∈ aroundM d v := hmem _ (List.getElem_mem hlt)
        have hs := side_both h hv hw
        have htot := tot_ge (side d v) (List.getElem_mem hlt)
        obtain ⟨f', rfl⟩ : ∃ f', f = f' + 1 := ⟨f - 1, by omega⟩
        have hlw := (around_lt h hv hw).1
        have hrt := rest_tot h hv hw
        have hrl := rest_length h hv hw
        have hseen := seen_length h (f' + 1) v L[i] hv hw (by omega)
        rw [tot_drop h hn _ hlt] at ha
        have sub := spec_from_ev f' L[i] (restM d v L[i]) ((aroundM d L[i]).idxOf v + 1) hlw (by omega) (by have := (split_at (around_sym h hv hw)).1; omega) (by omega) (fun j hj => by
            have hi' := (split_at (around_sym h hv hw)).1
            rw [← rot_get (by omega) (by omega)]
            have : restM d v L[i] = (aroundM d L[i]).drop ((aroundM d L[i]).idxOf v + 1) ++ (aroundM d L[i]).take ((aroundM d L[i]).idxOf v) := rfl
            have hr : ((aroundM d L[i]).drop ((aroundM d L[i]).idxOf v + 1) ++ (aroundM d L[i]).take ((aroundM d L[i]).idxOf v + 1))[j]? = (restM d v L[i])[j]? := by
              rw [this, List.take_succ_eq_append_getElem hi', ← List.append_assoc, List.getElem?_append_left (by simp only [List.length_append, List.length_drop, List.length_take]; omega)]
            rw [hr, List.getElem?_eq_getElem hj]) (by omega)
        rw [seen_drop h hn hlt, ← List.append_assoc]
        have hmod : Int.tmod (wrap64 ((first : Int) + (i : Int))) ((castL (aroundM d v)).length : Int) = (((first + i) % (aroundM d v).length : Nat) : Int) := by
          rw [castL_length, w64 (by omega) (by omega), show (first : Int) + (i : Int) = ((first + i : Nat) : Int) by omega, ← Int.ofNat_tmod]
        have hrd : rd (castL (aroundM d v)) (((first + i) % (aroundM d v).length : Nat) : Int) = (L[i] : Int) := by
          have := castL_getD (aroundM d v) _ hq
          rw [rd_nat, this, hqe]
        refine Ev.step (fun k => by rw [spec_l05From.l0]) ?_
        rw [hmod, hrd, castL_length]
        refine ev_pos (by omega) (ev_neg (by omega) (ev_pos (Int.natCast_nonneg _) (ev_pos (Int.ofNat_lt.2 (Nat.mod_lt _ hlen)) (Ev.bind (spec_l05Around_ev h hn hlw) ?_))))
        refine spec_find_loop h hn hv hw _ _ _ _ _ _ ?_ ((aroundM d L[i]).idxOf v) 0 (by omega)
        rw [show (((aroundM d L[i]).length : Int) - 1) = ((restM d v L[i]).length : Int) by omega]
        refine Ev.bind sub (ev_pos (by omega) ?_)
        rw [w64s (by omega)]
        exact ih (i + 1) _ (by omega) (by rw [List.length_append, hseen]; omega)
    unfold seenM
    refine Ev.step (fun k => by rw [spec_l05From.f]) ?_
    refine Ev.bind (spec_l05Around_ev h hn hv) ?_
    have := inner L.length 0 [(L.length : Int)] (by omega) (by simp; omega)
    simpa using this
termination_by f => f
theorem impl_seen_ev : ∀ (f v : Nat) (L : List Nat) (kk : Nat) (above : Int), v < d.length → f < d.length → kk ≤ (aroundM d v).length → (∀ x ∈ L, x ∈ aroundM d v) → (castL ((aroundM d v).drop kk ++ (aroundM d v).take kk)).filter (fun x => decide (x ≠ above)) = castL L → tot (side d v) L ≤ f →
    Ev (fun k => impl_seen.f k d (v : Int) (kk : Int) above) (seenM d (f + 1) v L)
  | f, v, L, kk, above, hv, hf, hk, hmem, hflt, ht => by
    have hfw := around_few h hn hv
    have hLl : L.length ≤ (aroundM d v).length := by
      have h1 := congrArg List.length hflt
      rw [castL_length] at h1
      have h2 := List.length_filter_le (fun x => decide (x ≠ above)) (castL ((aroundM d v).drop kk ++ (aroundM d v).take kk))
      rw [castL_length, List.length_append, List.length_drop, List.length_take] at h2
      omega
    have inner : ∀ (m i : Nat) (acc : List Int), i + m = L.length → acc.length + tot (side d v) (L.drop i) ≤ d.length → Ev (fun k => impl_seen.l0 k d (v : Int) acc (castL L) (L.length : Int) (i : Int)) (acc ++ ((L.drop i).map fun w => seenM d f w (restM d v w)).flatten) := by
      intro m
      induction m with
      | zero =>
        intro i acc hi ha
        refine Ev.step (fun k => by rw [impl_seen.l0]) ?_
        refine ev_neg (by omega) (ev_now ?_)
        rw [List.drop_of_length_le (by omega)]; simp
      | succ m ih =>
        intro i acc hi ha
        have hlt : i < L.length := by omega
        have hw : L[i] ∈ aroundM d v := hmem _ (List.getElem_mem hlt)
        have hs := side_both h hv hw
        have htot := tot_ge (side d v) (List.getElem_mem hlt)
        obtain ⟨f', rfl⟩ : ∃ f', f = f' + 1 := ⟨f - 1, by omega⟩
        have hlw := (around_lt h hv hw).1
        have hrt := rest_tot h hv hw
        have hseen := seen_length h (f' + 1) v L[i] hv hw (by omega)
        have hi' := (split_at (around_sym h hv hw)).1
        have hfl := around_few h hn hlw
        rw [tot_drop h hn _ hlt] at ha
        have sub := impl_seen_ev f' L[i] (restM d v L[i]) ((aroundM d L[i]).idxOf v) (v : Int) hlw (by omega) (by omega) (fun x hx => rest_mem h hx) (by rw [castL_filter, rest_filter h hn hv hw]) (by omega)
        rw [seen_drop h hn hlt, ← List.append_assoc]
        have hrd : rd (castL L) (i : Int) = (L[i] : Int) := castL_getD L i hlt
        refine Ev.step (fun k => by rw [impl_seen.l0]) ?_
        rw [hrd, castL_length]
        refine ev_pos (by omega) (ev_pos (by omega) (ev_pos (by omega) (Ev.bind (impl_around_ev h hn hlw) (Ev.bind (index_ev _ _ (by omega) (around_sym h hv hw)) (Ev.bind sub (ev_pos (by omega) ?_))))))
        rw [w64s (by omega)]
        exact ih (i + 1) _ (by omega) (by rw [List.length_append, hseen]; omega)
    have hcat : ([((castL (aroundM d v)).drop kk), ((castL (aroundM d v)).take kk)] : List (List Int)).flatten = castL ((aroundM d v).drop kk ++ (aroundM d v).take kk) := by
      simp [castL]
    have hcl : (castL ((aroundM d v).drop kk ++ (aroundM d v).take kk)).length ≤ 1048576 := by
      rw [castL_length, List.length_append, List.length_drop, List.length_take]; omega
    unfold seenM
    refine Ev.step (fun k => by rw [impl_seen.f]) ?_
    refine Ev.bind (impl_around_ev h hn hv) (ev_pos (by omega) (ev_pos (by rw [castL_length]; omega) ?_))
    rw [show ((kk : Int)).toNat = kk from rfl]
    have hc := slices_Concat_ev [((castL (aroundM d v)).drop kk), ((castL (aroundM d v)).take kk)] (by simp) (by rw [hcat]; exact hcl)
    rw [hcat] at hc
    refine Ev.bind hc ?_
    have hd := deleteFunc_ev (castL ((aroundM d v).drop kk ++ (aroundM d v).take kk)) above hcl
    rw [hflt] at hd
    refine Ev.bind hd ?_
    rw [castL_length]
    have := inner L.length 0 [(L.length : Int)] (by omega) (by simp; omega)
    simpa using this
termination_by f => f
end
def cornerM (d : List Int) (v k : Nat) : List Int := seenM d d.length v ((aroundM d v).drop k ++ (aroundM d v).take k)
section
variable {d : List Int} (h : IsT d) (hn : d.length ≤ 1000)
include h hn
theorem corner_length {v k : Nat} (hv : v < d.length) : (cornerM d v k).length = d.length := by
  refine seen_root h hv (fun x hx => ?_) (rot_tot h hv)
  rcases List.mem_append.1 hx with hx | hx
  · exact List.mem_of_mem_drop hx
  · exact List.mem_of_mem_take hx
theorem spec_l05Corner_ev {v k : Nat} (hv : v < d.length) (hk : k ≤ (aroundM d v).length) : Ev (fun r => spec_l05Corner.f r d (v : Int) (k : Int)) (cornerM d v k) := by
  have h0 := h.len
  have hl : ((aroundM d v).drop k ++ (aroundM d v).take k).length = (aroundM d v).length := by simp only [List.length_append, List.length_drop, List.length_take]; omega
  have := spec_from_ev h hn (d.length - 1) v ((aroundM d v).drop k ++ (aroundM d v).take k) k hv (by omega) hk (by omega) (fun i hi => by rw [← rot_get hk (by omega), List.getElem?_eq_getElem hi]) (by rw [rot_tot h hv]; omega)
  rw [hl, show d.length - 1 + 1 = d.length by omega] at this
  unfold spec_l05Corner.f
  refine Ev.bind (spec_l05Around_ev h hn hv) ?_
  rw [castL_length]
  exact Ev.bind this (Ev.now _)
theorem impl_corner_ev {v k : Nat} (hv : v < d.length) (hk : k ≤ (aroundM d v).length) : Ev (fun r => impl_seen.f r d (v : Int) (k : Int) (-1)) (cornerM d v k) := by
  have h0 := h.len
  have := impl_seen_ev h hn (d.length - 1) v ((aroundM d v).drop k ++ (aroundM d v).take k) k (-1) hv (by omega) hk (fun x hx => by
    rcases List.mem_append.1 hx with hx | hx
    · exact List.mem_of_mem_drop hx
    · exact List.mem_of_mem_take hx) (castL_filter_neg _) (by rw [rot_tot h hv]; omega)
  rw [show d.length - 1 + 1 = d.length by omega] at this
  exact this
theorem impl_corners_ev {v : Nat} (hv : v < d.length) : Ev (fun r => impl_corners.f r d (v : Int)) ((max (aroundM d v).length 1 : Nat) : Int) := by
  unfold impl_corners.f
  refine Ev.bind (impl_around_ev h hn hv) (ev_now ?_)
  rw [castL_length]
  unfold mx
  split <;> omega
end
end Go.Proofs.Ytgbhlmmmighanaa.E
namespace Go.Proofs.Ytgbhlmmmighanaa.E
set_option linter.unusedVariables false
set_option linter.unusedSectionVars false
open Go.RowKit Go.Proofs.YtgbhlmmmighanaaW.PrintWords Go.Proofs.YtgbhlmmmighanaaW.PrintMore Go.Proofs.Ytgbhlmmmighanaa.Base

def lexLt : List Int → List Int → Bool
  | _, [] => false
  | [], _ :: _ => true
  | a :: s, b :: t => if a < b then true else if b < a then false else lexLt s t
theorem lex_irrefl : ∀ a : List Int, lexLt a a = false
  | [] => rfl
  | a :: s => by
    simp only [lexLt]
    rw [if_neg (by omega), if_neg (by omega)]
    exact lex_irrefl s
theorem lex_drop {a b : List Int} {i : Nat} (ha : i < a.length) (hb : i < b.length) : lexLt (a.drop i) (b.drop i) = if a[i] < b[i] then true else if b[i] < a[i] then false else lexLt (a.drop (i + 1)) (b.drop (i + 1)) := by
  rw [List.drop_eq_getElem_cons ha, List.drop_eq_getElem_cons hb]
  simp only [lexLt]
theorem compare_loop (a b : List Int) (hl : a.length = b.length) (hn : a.length ≤ 100000) : ∀ (m i : Nat), i + m = a.length → ∃ c, Ev (fun k => slices_Compare_int64_int64.l0 k a b a (a.length : Int) (i : Int)) c ∧ (c < 0 ↔ lexLt (a.drop i) (b.drop i) = true)
  | 0, i, hi => by
    refine ⟨0, ?_, ?_⟩
    · refine Ev.step (fun k => by rw [slices_Compare_int64_int64.l0]) ?_
      exact ev_neg (by omega) (ev_neg (by omega) (Ev.now _))
    · rw [List.drop_of_length_le (by omega), List.drop_of_length_le (by omega)]
      exact ⟨fun h => by omega, fun h => by cases h⟩
  | m + 1, i, hi => by
    obtain ⟨c, h1, h2⟩ := compare_loop a b hl hn m (i + 1) (by omega)
    have ea : rd a (i : Int) = a[i] := rd_lt (by omega)
    have eb : rd b (i : Int) = b[i] := rd_lt (by omega)
    have hcmp : cmp_Compare_int64.f a[i] b[i] = some (if a[i] < b[i] then -1 else if a[i] > b[i] then 1 else 0) := by
      unfold cmp_Compare_int64.f cmp_isNaN_int64.f
      simp only [Option.bind_some, bne_self_eq_false, Bool.false_eq_true, if_false]
      split
      · rfl
      · split <;> rfl
    rw [lex_drop (by omega) (by omega)]
    by_cases e1 : a[i] < b[i]
    · refine ⟨-1, ?_, ?_⟩
      · refine Ev.step (fun k => by rw [slices_Compare_int64_int64.l0]) ?_
        rw [ea, eb, hcmp, if_pos e1]
        exact ev_pos (by omega) (ev_pos (by omega) (ev_pos (by omega) (ev_neg (by omega) (ev_pos (by omega) (ev_some (ev_neg (by decide) (Ev.now _)))))))
      · rw [if_pos e1]; exact ⟨fun _ => rfl, fun _ => by decide⟩
    · by_cases e2 : b[i] < a[i]
      · refine ⟨1, ?_, ?_⟩
        · refine Ev.step (fun k => by rw [slices_Compare_int64_int64.l0]) ?_
          rw [ea, eb, hcmp, if_neg e1, if_pos (show a[i] > b[i] from e2)]
          exact ev_pos (by omega) (ev_pos (by omega) (ev_pos (by omega) (ev_neg (by omega) (ev_pos (by omega) (ev_some (ev_neg (by decide) (Ev.now _)))))))
        · rw [if_neg e1, if_pos e2]; exact ⟨fun h => by omega, fun h => by cases h⟩
      · refine ⟨c, ?_, ?_⟩
        · refine Ev.step (fun k => by rw [slices_Compare_int64_int64.l0]) ?_
          rw [ea, eb, hcmp, if_neg e1, if_neg (show ¬ a[i] > b[i] from e2), w64s (by omega)]
          exact ev_pos (by omega) (ev_pos (by omega) (ev_pos (by omega) (ev_neg (by omega) (ev_pos (by omega) (ev_some (ev_pos rfl h1))))))
        · rw [if_neg e1, if_neg e2]; exact h2
theorem compare_ev (a b : List Int) (hl : a.length = b.length) (hn : a.length ≤ 100000) : ∃ c, Ev (fun k => slices_Compare_int64_int64.f k a b) c ∧ (c < 0 ↔ lexLt a b = true) := by
  unfold slices_Compare_int64_int64.f
  simpa using compare_loop a b hl hn a.length 0 (by omega)
end Go.Proofs.Ytgbhlmmmighanaa.E
namespace Go.Proofs.Ytgbhlmmmighanaa.E
set_option linter.unusedVariables false
set_option linter.unusedSectionVars false
open Go.RowKit Go.Proofs.YtgbhlmmmighanaaW.PrintWords Go.Proofs.Ytgbhlmmmighanaa.Base Go.Proofs.Ytgbhlmmmighanaa.Tree

theorem same_loop (a b : List Int) (hl : a.length = b.length) (hn : a.length ≤ 1048576) : ∀ (m i : Nat), i + m = a.length → Ev (fun k => spec_l01Same.l0 k (i : Int) a b) (decide (a.drop i = b.drop i))
  | 0, i, hi => by
    refine Ev.step (fun k => by rw [spec_l01Same.l0]) ?_
    refine ev_neg (by omega) (ev_now ?_)
    rw [List.drop_of_length_le (by omega), List.drop_of_length_le (by omega)]; simp
  | m + 1, i, hi => by
    have ih := same_loop a b hl hn m (i + 1) (by omega)
    have ea : rd a (i : Int) = a[i] := rd_lt (by omega)
    have eb : rd b (i : Int) = b[i] := rd_lt (by omega)
    refine Ev.step (fun k => by rw [spec_l01Same.l0]) ?_
    rw [ea, eb, w64s (by omega), List.drop_eq_getElem_cons (show i < a.length by omega), List.drop_eq_getElem_cons (show i < b.length by omega)]
    refine ev_pos (by omega) (ev_pos (by omega) (ev_pos (by omega) (ev_ite (fun hx => ?_) (fun hx => ?_))))
    · rw [decide_eq_decide.mpr (⟨fun h => (List.cons.inj h).2, fun h => by rw [hx, h]⟩ : (a[i] :: a.drop (i + 1) = b[i] :: b.drop (i + 1)) ↔ (a.drop (i + 1) = b.drop (i + 1)))]
      exact ih
    · exact ev_now (decide_eq_false (fun h => hx (List.cons.inj h).1)).symm
theorem same_ev (a b : List Int) (hl : a.length = b.length) (hn : a.length ≤ 1048576) : Ev (fun k => spec_l01Same.f k a b) (decide (a = b)) := by
  unfold spec_l01Same.f
  exact ev_pos (by omega) (same_loop a b hl hn a.length 0 (by omega))
theorem equal_loop (a b : List Int) (hl : a.length = b.length) (hn : a.length ≤ 1048576) : ∀ (m i : Nat), i + m = a.length → Ev (fun k => slices_Equal_int64_int64.l0 k a b (a.length : Int) (i : Int)) (decide (a.drop i = b.drop i))
  | 0, i, hi => by
    refine Ev.step (fun k => by rw [slices_Equal_int64_int64.l0]) ?_
    refine ev_neg (by omega) (ev_now ?_)
    rw [List.drop_of_length_le (by omega), List.drop_of_length_le (by omega)]; simp
  | m + 1, i, hi => by
    have ih := equal_loop a b hl hn m (i + 1) (by omega)
    have ea : rd a (i : Int) = a[i] := rd_lt (by omega)
    have eb : rd b (i : Int) = b[i] := rd_lt (by omega)
    refine Ev.step (fun k => by rw [slices_Equal_int64_int64.l0]) ?_
    rw [ea, eb, w64s (by omega), List.drop_eq_getElem_cons (show i < a.length by omega), List.drop_eq_getElem_cons (show i < b.length by omega)]
    refine ev_pos (by omega) (ev_pos (by omega) (ev_pos (by omega) (ev_pos (by omega) (ev_ite (fun hx => ?_) (fun hx => ?_)))))
    · rw [decide_eq_decide.mpr (⟨fun h => (List.cons.inj h).2, fun h => by rw [hx, h]⟩ : (a[i] :: a.drop (i + 1) = b[i] :: b.drop (i + 1)) ↔ (a.drop (i + 1) = b.drop (i + 1)))]
      exact ih
    · exact ev_now (decide_eq_false (fun h => hx (List.cons.inj h).1)).symm
theorem equal_ev (a b : List Int) (hl : a.length = b.length) (hn : a.length ≤ 1048576) : Ev (fun k => slices_Equal_int64_int64.f k a b) (decide (a = b)) := by
  unfold slices_Equal_int64_int64.f
  exact ev_pos (by omega) (equal_loop a b hl hn a.length 0 (by omega))
theorem areTrees2_ev (t u : List Int) : Ev (fun k => impl_areTrees.f k [(⟨t⟩ : S27), (⟨u⟩ : S27)]) (isTreeM t && isTreeM u) := by
  have e1 : wrap64 ((0 : Int) + 1) = 1 := by unfold wrap64; decide
  have e2 : wrap64 ((1 : Int) + 1) = 2 := by unfold wrap64; decide
  unfold impl_areTrees.f
  refine Ev.step (fun k => by rw [impl_areTrees.l0]) ?_
  rw [e1]
  refine ev_pos (by simp) (ev_pos (by decide) (ev_pos (by simp) (Ev.bind (impl_IsTree_ev t) (ev_ite (fun hw => ?_) (fun hw => ?_)))))
  · rw [hw, Bool.true_and]
    refine Ev.step (fun k => by rw [impl_areTrees.l0]) ?_
    rw [e2]
    refine ev_pos (by simp) (ev_pos (by decide) (ev_pos (by simp) (Ev.bind (impl_IsTree_ev u) (ev_ite (fun hu => ?_) (fun hu => ?_)))))
    · rw [hu]
      refine Ev.step (fun k => by rw [impl_areTrees.l0]) ?_
      exact ev_neg (by simp) (Ev.now _)
    · rw [(by simpa using hu : isTreeM u = false)]; exact Ev.now _
  · rw [(by simpa using hw : isTreeM t = false)]; exact Ev.now _
end Go.Proofs.Ytgbhlmmmighanaa.E
namespace Go.Proofs.Ytgbhlmmmighanaa.E
set_option linter.unusedVariables false
set_option linter.unusedSectionVars false
open Go.RowKit Go.Proofs.YtgbhlmmmighanaaW.PrintWords Go.Proofs.YtgbhlmmmighanaaW.PrintMore Go.Proofs.Ytgbhlmmmighanaa.Base Go.Proofs.Ytgbhlmmmighanaa.Tree

theorem less_loop (a b : List Int) (hl : a.length = b.length) (hn : a.length ≤ 1048576) : ∀ (m i : Nat), i + m = a.length → Ev (fun k => spec_l01Less.l0 k (i : Int) a b) (lexLt (a.drop i) (b.drop i))
  | 0, i, hi => by
    refine Ev.step (fun k => by rw [spec_l01Less.l0]) ?_
    refine ev_neg (by omega) (ev_now ?_)
    rw [List.drop_of_length_le (by omega), List.drop_of_length_le (by omega)]; rfl
  | m + 1, i, hi => by
    have ih := less_loop a b hl hn m (i + 1) (by omega)
    have ea : rd a (i : Int) = a[i] := rd_lt (by omega)
    have eb : rd b (i : Int) = b[i] := rd_lt (by omega)
    refine Ev.step (fun k => by rw [spec_l01Less.l0]) ?_
    rw [ea, eb, w64s (by omega), lex_drop (by omega) (by omega)]
    refine ev_pos (by omega) (ev_pos (by omega) (ev_pos (by omega) (ev_ite (fun hx => ?_) (fun hx => ?_))))
    · rw [if_neg (by omega), if_neg (by omega)]; exact ih
    · refine ev_now ?_
      by_cases hy : a[i] < b[i]
      · rw [if_pos hy, decide_eq_true hy]
      · rw [if_neg hy, if_pos (by omega), decide_eq_false hy]
theorem less_ev (a b : List Int) (hl : a.length = b.length) (hn : a.length ≤ 1048576) : Ev (fun k => spec_l01Less.f k a b) (lexLt a b) := by
  unfold spec_l01Less.f
  refine ev_pos (by omega) ?_
  simpa using less_loop a b hl hn a.length 0 (by omega)
def cornIn (d : List Int) (v : Nat) : Nat → Nat → List Int → List Int
  | 0, _, B => B
  | m + 1, k, B => cornIn d v m (k + 1) (if lexLt (cornerM d v k) B = true then cornerM d v k else B)
def cornOut (d : List Int) : Nat → Nat → List Int → List Int
  | 0, _, B => B
  | m + 1, v, B => cornOut d m (v + 1) (cornIn d v (aroundM d v).length 0 B)
def shapeM (d : List Int) : List Int := cornOut d d.length 0 d
section
variable {d : List Int} (h : IsT d) (hn : d.length ≤ 1000)
include h hn
theorem cornIn_length {v : Nat} (hv : v < d.length) : ∀ (m k : Nat) (B : List Int), B.length = d.length → (cornIn d v m k B).length = d.length
  | 0, _, B, hB => hB
  | m + 1, k, B, hB => by
    simp only [cornIn]
    refine cornIn_length hv m (k + 1) _ ?_
    split
    · exact corner_length h hn hv
    · exact hB
theorem cornOut_length : ∀ (m v : Nat) (B : List Int), v + m = d.length → B.length = d.length → (cornOut d m v B).length = d.length
  | 0, _, B, _, hB => hB
  | m + 1, v, B, hv, hB => by
    simp only [cornOut]
    exact cornOut_length m (v + 1) _ (by omega) (cornIn_length h hn (by omega) _ _ _ hB)
theorem shape_length : (shapeM d).length = d.length := cornOut_length h hn d.length 0 d (by omega) rfl
theorem spec_shape_in {v : Nat} (hv : v < d.length) (r : List Int) : ∀ (m k : Nat) (B : List Int), k + m = (aroundM d v).length → B.length = d.length →
    Ev (fun n => spec_l05Shape.l0 n ((v + 1 : Nat) : Int) d (cornIn d v m k B)) r → Ev (fun n => spec_l05Shape.l1 n (v : Int) (k : Int) d B) r
  | 0, k, B, hk, hB, H => by
    refine Ev.step (fun k => by rw [spec_l05Shape.l1]) ?_
    refine Ev.bind (spec_l05Around_ev h hn hv) ?_
    rw [castL_length, w64s (i := v) (by omega)]
    exact ev_neg (by omega) H
  | m + 1, k, B, hk, hB, H => by
    have hf := around_few h hn hv
    have hcl := corner_length h hn (k := k) hv
    refine Ev.step (fun k => by rw [spec_l05Shape.l1]) ?_
    refine Ev.bind (spec_l05Around_ev h hn hv) ?_
    rw [castL_length, w64s (i := k) (by omega)]
    refine ev_pos (by omega) (Ev.bind (spec_l05Corner_ev h hn hv (by omega)) (Ev.bind (less_ev _ _ (by omega) (by omega)) ?_))
    simp only [cornIn] at H
    refine ev_ite (fun hx => ?_) (fun hx => ?_)
    · rw [if_pos hx] at H
      exact spec_shape_in hv r m (k + 1) _ (by omega) hcl H
    · rw [if_neg hx] at H
      exact spec_shape_in hv r m (k + 1) _ (by omega) hB H
theorem spec_shape_loop : ∀ (m v : Nat) (B : List Int), v + m = d.length → B.length = d.length → Ev (fun n => spec_l05Shape.l0 n (v : Int) d B) (cornOut d m v B)
  | 0, v, B, hv, hB => by
    refine Ev.step (fun k => by rw [spec_l05Shape.l0]) ?_
    rw [l01N_ev]
    exact ev_some (ev_neg (by omega) (Ev.now _))
  | m + 1, v, B, hv, hB => by
    refine Ev.step (fun k => by rw [spec_l05Shape.l0]) ?_
    rw [l01N_ev]
    refine ev_some (ev_pos (by omega) ?_)
    exact spec_shape_in h hn (by omega) _ (aroundM d v).length 0 B (by omega) hB (spec_shape_loop m (v + 1) _ (by omega) (cornIn_length h hn (by omega) _ _ _ hB))
theorem spec_l05Shape_ev : Ev (fun n => spec_l05Shape.f n d) (shapeM d) := by
  unfold spec_l05Shape.f spec_l01Copy.f spec_l01Make.f spec_l01Own.f
  simp only [Option.bind_some, List.nil_append]
  rw [if_pos (by simp; omega)]
  exact ev_some (spec_shape_loop h hn d.length 0 d (by omega) rfl)
theorem impl_shape_in {v : Nat} (hv : v < d.length) (r : List Int) (c : Nat) (hc : c ≤ max (aroundM d v).length 1) : ∀ (m k : Nat) (B : List Int), k + m = c → B.length = d.length →
    Ev (fun n => impl_leastShape.l0 n d (cornIn d v m k B) (d.length : Int) ((v + 1 : Nat) : Int)) r → Ev (fun n => impl_leastShape.l1 n d B (v : Int) (d.length : Int) (v : Int) (c : Int) (k : Int)) r
  | 0, k, B, hk, hB, H => by
    refine Ev.step (fun k => by rw [impl_leastShape.l1]) ?_
    rw [w64s (i := v) (by omega)]
    exact ev_neg (by omega) H
  | m + 1, k, B, hk, hB, H => by
    have hf := around_few h hn hv
    have hcl := corner_length h hn (k := k) hv
    obtain ⟨q, hq1, hq2⟩ := compare_ev (cornerM d v k) B (by omega) (by omega)
    refine Ev.step (fun k => by rw [impl_leastShape.l1]) ?_
    rw [w64s (i := k) (by omega)]
    refine ev_pos (by omega) (Ev.bind (impl_corner_ev h hn hv (by omega)) (Ev.bind hq1 ?_))
    simp only [cornIn] at H
    refine ev_ite (fun hx => ?_) (fun hx => ?_)
    · rw [if_pos (hq2.1 hx)] at H
      exact impl_shape_in hv r c hc m (k + 1) _ (by omega) hcl H
    · rw [if_neg (fun hy => hx (hq2.2 hy))] at H
      exact impl_shape_in hv r c hc m (k + 1) _ (by omega) hB H
theorem lone_corner {v : Nat} (hv : v < d.length) (h0 : (aroundM d v).length = 0) : d.length = 1 ∧ cornerM d v 0 = [0] ∧ d = [0] := by
  have e0 : aroundM d v = [] := List.eq_nil_of_length_eq_zero h0
  have h1 : d.length = 1 := by
    have := tot_around h hv
    rw [e0] at this
    simp only [tot] at this
    have := h.len
    omega
  have e1 : cornerM d v 0 = [0] := by
    unfold cornerM
    rw [e0, h1]
    rfl
  refine ⟨h1, e1, ?_⟩
  match d, h1, h with
  | [x], _, h =>
    have := h.fin
    simp [nd] at this
    have e : x = 0 := by omega
    rw [e]
theorem cornIn_max {v : Nat} (hv : v < d.length) {B : List Int} (hB : B.length = d.length) (hB1 : d.length = 1 → B = d) : cornIn d v (max (aroundM d v).length 1) 0 B = cornIn d v (aroundM d v).length 0 B := by
  by_cases h0 : (aroundM d v).length = 0
  · obtain ⟨h1, h2, h3⟩ := lone_corner h hn hv h0
    rw [h0]
    simp only [show max 0 1 = 1 from rfl, cornIn]
    rw [hB1 h1, h2, h3, lex_irrefl]
    rfl
  · rw [Nat.max_eq_left (by omega)]
theorem cornIn_lone {v : Nat} (hv : v < d.length) {B : List Int} (hB1 : d.length = 1 → B = d) : d.length = 1 → cornIn d v (aroundM d v).length 0 B = d := by
  intro h1
  have h0 : (aroundM d v).length = 0 := by
    have e : v = 0 := by omega
    have hk := kids_few h hv
    unfold aroundM
    rw [if_neg (by omega)]
    simp
    exact List.eq_nil_of_length_eq_zero (by omega)
  rw [h0]
  exact hB1 h1
theorem impl_shape_loop : ∀ (m v : Nat) (B : List Int), v + m = d.length → B.length = d.length → (d.length = 1 → B = d) → Ev (fun n => impl_leastShape.l0 n d B (d.length : Int) (v : Int)) (cornOut d m v B)
  | 0, v, B, hv, hB, hB1 => by
    refine Ev.step (fun k => by rw [impl_leastShape.l0]) ?_
    refine ev_neg (by omega) ?_
    unfold slices_Clone_int64_int64.f
    rw [if_pos (by omega)]
    exact ev_some (Ev.now _)
  | m + 1, v, B, hv, hB, hB1 => by
    refine Ev.step (fun k => by rw [impl_leastShape.l0]) ?_
    refine ev_pos (by omega) (Ev.bind (impl_corners_ev h hn (by omega)) ?_)
    refine impl_shape_in h hn (by omega) _ _ (Nat.le_refl _) (max (aroundM d v).length 1) 0 B (by omega) hB ?_
    rw [cornIn_max h hn (by omega) hB hB1]
    exact impl_shape_loop m (v + 1) _ (by omega) (cornIn_length h hn (by omega) _ _ _ hB) (cornIn_lone h hn (by omega) hB1)
theorem impl_leastShape_ev : Ev (fun n => impl_leastShape.f n d) (shapeM d) := by
  unfold impl_leastShape.f
  exact impl_shape_loop h hn d.length 0 d (by omega) rfl (fun _ => rfl)
end
end Go.Proofs.Ytgbhlmmmighanaa.E
namespace Go.Proofs.Ytgbhlmmmighanaa.E
set_option linter.unusedVariables false
set_option linter.unusedSectionVars false
open Go.RowKit Go.Proofs.YtgbhlmmmighanaaW.PrintWords Go.Proofs.Ytgbhlmmmighanaa.Base

theorem toInt64S_loop (x0 : List Int) (hn : x0.length ≤ 1048576) : ∀ (m i : Nat) (x3 : List Int), i + m = x0.length → x3.length = x0.length → (∀ j, j < i → x3.getD j 0 = x0.getD j 0) → Ev (fun k => laws_toInt64S.l0 k x0 x3 (i : Int)) x0 := by
  intro m
  induction m with
  | zero =>
    intro i x3 h1 h2 h3
    refine Ev.step (fun k => by rw [laws_toInt64S.l0]) ?_
    refine ev_neg (by omega) ?_
    exact ev_now (ext_getD h2 (fun j hj => h3 j (by omega)))
  | succ m ih =>
    intro i x3 h1 h2 h3
    refine Ev.step (fun k => by rw [laws_toInt64S.l0]) ?_
    refine ev_pos (by omega) (ev_pos (by omega) (ev_pos (by omega) ?_))
    rw [w64s (by omega)]
    exact ih (i + 1) _ (by omega) (by simpa using h2) (set_eq h2 h3)
theorem toInt64S_ev (l : List Int) (hn : l.length ≤ 1048576) : Ev (fun k => laws_toInt64S.f k l) l := by
  unfold laws_toInt64S.f
  refine ev_pos (by omega) (ev_pos (by simp; omega) ?_)
  exact toInt64S_loop l hn l.length 0 _ (by omega) (by simp) (fun j hj => by omega)
theorem toTree_ev (l : List Int) (hn : l.length ≤ 1048576) : Ev (fun k => laws_toTree.f k l) l := by
  unfold laws_toTree.f
  exact Ev.bind (toInt64S_ev l hn) (Ev.now _)
theorem eqInt64S_loop (a : List Int) (hn : a.length ≤ 1048576) : ∀ (m i : Nat), i + m = a.length → Ev (fun k => laws_eqInt64S.l0 k a a (i : Int)) true := by
  intro m
  induction m with
  | zero =>
    intro i h1
    refine Ev.step (fun k => by rw [laws_eqInt64S.l0]) ?_
    refine ev_neg (by omega) ?_
    exact Ev.now _
  | succ m ih =>
    intro i h1
    refine Ev.step (fun k => by rw [laws_eqInt64S.l0]) ?_
    refine ev_pos (by omega) (ev_pos (by omega) (ev_pos (by omega) (ev_pos rfl ?_)))
    rw [w64s (by omega)]
    exact ih (i + 1) (by omega)
theorem eqInt64S_ev (a : List Int) (hn : a.length ≤ 1048576) : Ev (fun k => laws_eqInt64S.f k a a) true := by
  unfold laws_eqInt64S.f
  exact ev_pos rfl (eqInt64S_loop a hn a.length 0 (by omega))
theorem eqTree_ev (a : List Int) (hn : a.length ≤ 1048576) : Ev (fun k => laws_eqTree.f k a a) true := by
  unfold laws_eqTree.f
  exact Ev.bind (eqInt64S_ev a hn) (ev_pos rfl (Ev.now _))
theorem szTree_eq (l : List Int) (a : Int) (h0 : 0 ≤ a) (h1 : a ≤ 1048576) (hl : l.length ≤ maxLen) : laws_szTree.f l a = some (if a < l.length then -1 else a - l.length) := by
  unfold maxLen at hl
  unfold laws_szTree.f laws_szInt64S.f
  rw [w64 (by omega) (by omega)]
  by_cases h : a < l.length
  · rw [if_pos (by omega), if_pos h]; rfl
  · rw [if_neg (by omega), if_neg h, Option.bind_some, if_neg (by omega)]
end Go.Proofs.Ytgbhlmmmighanaa.E
namespace Go.Proofs.Ytgbhlmmmighanaa.E
set_option linter.unusedVariables false
set_option linter.unusedSectionVars false
open Go.RowKit Go.Proofs.YtgbhlmmmighanaaW.PrintWords Go.Proofs.YtgbhlmmmighanaaW.PrintMore Go.Proofs.Ytgbhlmmmighanaa.Base Go.Proofs.Ytgbhlmmmighanaa.Tree
theorem same_ev2 (a b : List Int) (hn : a.length ≤ 1048576) : Ev (fun k => spec_l01Same.f k a b) (decide (a = b)) := by
  by_cases hl : a.length = b.length
  · exact same_ev a b hl hn
  · unfold spec_l01Same.f
    exact ev_neg (by omega) (ev_now (decide_eq_false (fun e => hl (by rw [e]))).symm)
theorem equal_ev2 (a b : List Int) (hn : a.length ≤ 1048576) : Ev (fun k => slices_Equal_int64_int64.f k a b) (decide (a = b)) := by
  by_cases hl : a.length = b.length
  · exact equal_ev a b hl hn
  · unfold slices_Equal_int64_int64.f
    exact ev_neg (by omega) (ev_now (decide_eq_false (fun e => hl (by rw [e]))).symm)
theorem both_HaveSameShape (l m : List Int) (hl : l.length ≤ 1048576) (hm : m.length ≤ 1048576) : ∃ r : Bool × Int, Ev (fun n => spec_HaveSameShape.f n l m) r ∧ Ev (fun n => impl_HaveSameShape.f n l m) r := by
  by_cases ht : isTreeM l = true ∧ isTreeM m = true
  · obtain ⟨h1, h2⟩ := ht
    obtain ⟨hL, hLn⟩ := isTreeM_sound h1
    obtain ⟨hM, hMn⟩ := isTreeM_sound h2
    have hs := shape_length hL (by omega)
    refine ⟨(decide (shapeM l = shapeM m), 0), ?_, ?_⟩
    · unfold spec_HaveSameShape.f
      refine Ev.bind (spec_l01Is_ev l hl) (ev_pos h1 (Ev.bind (spec_l01Is_ev m hm) ?_))
      refine Ev.step (fun k => by rw [spec_HaveSameShape.j0]) ?_
      rw [h2]
      exact ev_neg (by decide) (Ev.bind (spec_l05Shape_ev hL (by omega)) (Ev.bind (spec_l05Shape_ev hM (by omega)) (Ev.bind (same_ev2 _ _ (by omega)) (Ev.now _))))
    · unfold impl_HaveSameShape.f
      exact Ev.bind (areTrees2_ev l m) (ev_pos (by rw [h1, h2]; rfl) (Ev.bind (impl_leastShape_ev hL (by omega)) (Ev.bind (impl_leastShape_ev hM (by omega)) (Ev.bind (equal_ev2 _ _ (by omega)) (Ev.now _)))))
  · refine ⟨(false, 1), ?_, ?_⟩
    · unfold spec_HaveSameShape.f
      refine Ev.bind (spec_l01Is_ev l hl) (ev_ite (fun h1 => Ev.bind (spec_l01Is_ev m hm) ?_) (fun h1 => ?_))
      · refine Ev.step (fun k => by rw [spec_HaveSameShape.j0]) ?_
        exact ev_pos (by simpa using fun h2 => ht ⟨h1, h2⟩) (Ev.now _)
      · refine Ev.step (fun k => by rw [spec_HaveSameShape.j0]) ?_
        exact ev_pos rfl (Ev.now _)
    · unfold impl_HaveSameShape.f
      exact Ev.bind (areTrees2_ev l m) (ev_neg (by simpa using fun h1 h2 => ht ⟨h1, h2⟩) (Ev.now _))
end Go.Proofs.Ytgbhlmmmighanaa.E
namespace Go.Proofs.Ytgbhlmmmighanaa.Pure
open Go.RowKit Go.Proofs.YtgbhlmmmighanaaW.PrintWords Go.Proofs.Ytgbhlmmmighanaa.Base Go.Proofs.Ytgbhlmmmighanaa.E
theorem FnExactHaveSameShape : ∀ (t u : List Int), t.length ≤ maxLen → (∀ x ∈ t, (Lit.int .i64 x).wf = true) → u.length ≤ maxLen → (∀ x ∈ u, (Lit.int .i64 x).wf = true) → ∃ k, laws_FnExactHaveSameShape.f k t u = some true := by
  intro t u htm _ hum _
  apply Ev.rounds
  unfold laws_FnExactHaveSameShape.f
  simp only [szTree_eq t 1048576 (by decide) (by decide) htm]
  refine ev_some ?_
  by_cases hb : (1048576 : Int) < t.length
  · rw [if_pos hb]
    exact ev_pos (by decide) (Ev.now _)
  · rw [if_neg hb]
    have ht : t.length ≤ 1048576 := by omega
    refine ev_neg (by omega) ?_
    simp only [szTree_eq u ((1048576 : Int) - t.length) (by omega) (by omega) hum]
    refine ev_some ?_
    by_cases hc : (1048576 : Int) - t.length < u.length
    · rw [if_pos hc]
      exact ev_pos (by decide) (Ev.now _)
    · rw [if_neg hc]
      have hu : u.length ≤ 1048576 := by omega
      obtain ⟨r, h1, h2⟩ := both_HaveSameShape t u ht hu
      refine ev_neg (by omega) (Ev.bind (toTree_ev t ht) (Ev.bind (toTree_ev u hu) (Ev.bind h1 (Ev.bind (toTree_ev t ht) (Ev.bind (toTree_ev u hu) (Ev.bind h2 (ev_neg (by simp) ?_)))))))
      refine Ev.step (fun k => by rw [laws_FnExactHaveSameShape.j0]) ?_
      exact ev_neg (by simp) (Ev.bind (toTree_ev t ht) (Ev.bind (eqTree_ev t ht) (ev_pos rfl (Ev.bind (toTree_ev u hu) (Ev.bind (eqTree_ev u hu) (ev_pos rfl (Ev.now _)))))))
end Go.Proofs.Ytgbhlmmmighanaa.Pure
namespace Go.Proofs.Ytgbhlmmmighanaa.Open
set_option linter.unusedVariables false
set_option linter.unusedSectionVars false
open Go.RowKit Go.ChangeShapes Go.WideShapes Go.ChangeAt Go.Deep Go.Proofs.YtgbhlmmmighanaaW.PrintWords
section
variable {H : Type} {enc : TypeId × Value → H} {P : Program} {w : World} {base : Nat} {held : Bool}

def Opens {α : Type} (d : Kd α) (Q : α → Prop) (enc : TypeId × Value → H) (P : Program) (w : World) (base : Nat) (held : Bool) (t : TypeId) : Prop :=
  ∀ (fuel : Nat) (cs : List Value) (x : DataW H × List MemPlace), DataW.trod enc P w base (fun _ => true) held fuel t cs = some x → ∃ a, d.K w a cs ∧ Q a
theorem opens_int {t : TypeId} {k : IntKind} (ht : P.underlying t = some (.int k)) : Opens (Kd.int k) (fun n => (Lit.int k n).wf = true) enc P w base held t := by
  intro fuel cs x h
  obtain ⟨n, rfl, _, hw⟩ := DataW.trod_int ht h
  exact ⟨n, rfl, hw⟩
theorem opens_slice {α : Type} [Inhabited α] {d : Kd α} {Q : α → Prop} {t e : TypeId} (ht : P.underlying t = some (.slice e)) (hc : P.cellsOf e = d.sz) (he : Opens d Q enc P w base held e) :
    Opens (Kd.slice e d) (fun xs => xs.length ≤ maxLen ∧ ∀ y ∈ xs, Q y) enc P w base held t := by
  intro fuel cs x h
  rcases open_slice ht h with ⟨rfl, _⟩ | ⟨a, len, cap, m, n, D, Pl, rfl, _, hl, hm, hmm, _, each⟩
  · exact ⟨[], ⟨none, 0, rfl, Nat.le_refl _, rfl, by simp, fun h0 => by simp at h0⟩, by simp, by simp⟩
  · simp only [if_true] at hmm
    have hx : ∀ i, i < len → ∃ y : α, Q y ∧ ∃ cs', w.cells? base (a.add (i * P.cellsOf e)) (P.cellsOf e) = some cs' ∧ d.K w y cs' := by
      intro i hi
      obtain ⟨cs', h1, h2⟩ := each i (by omega)
      obtain ⟨y, hk, hq⟩ := he _ _ _ h2
      exact ⟨y, hq, cs', h1, hk⟩
    obtain ⟨f, hf⟩ := choose_lt hx
    refine ⟨(List.range len).map f, ⟨some a, cap, by simp, by simpa using hl, by simp, by unfold maxLen at hm; simp; omega, fun _ => ⟨a, rfl, fun j p hj => ?_⟩⟩, by simp; omega, fun y hy => ?_⟩
    · rw [List.getElem?_map] at hj
      have hjl : j < len := by
        rcases Nat.lt_or_ge j len with h | h
        · exact h
        · rw [List.getElem?_eq_none (by simpa using h)] at hj
          cases hj
      rw [List.getElem?_range hjl] at hj
      obtain rfl := Option.some.inj hj
      obtain ⟨_, cs', h1, h2⟩ := hf j hjl
      obtain ⟨_, h3, h4⟩ := World.cells?_some h1
      refine ⟨cs', d.K_len h2, h2, fun i u hu => ?_⟩
      have hi : i < P.cellsOf e := by
        rw [← h3]
        exact (List.getElem?_eq_some_iff.1 hu).1
      have h5 := h4 i hi
      rw [hu] at h5
      rw [Go.Deep.add_add] at h5
      rw [← hc]
      exact h5
    · obtain ⟨i, hi, rfl⟩ := List.mem_map.1 hy
      exact (hf i (List.mem_range.1 hi)).1
theorem slice_in {α : Type} [Inhabited α] {d : Kd α} {Q : α → Prop} {t e : TypeId} {v : Value} {fuel : Nat} {x : DataW H × List MemPlace} (ht : P.underlying t = some (.slice e)) (hc : P.cellsOf e = d.sz) (he : Opens d Q enc P w base held e)
    (h : DataW.trod enc P w base (fun _ => true) held fuel t [v] = some x) : ∃ (A : Option Addr) (c : Nat) (xs : List α), v = .slice A xs.length c ∧ xs.length ≤ c ∧ xs.length ≤ maxLen ∧ d.C w A xs.length xs ∧ ∀ y ∈ xs, Q y := by
  obtain ⟨xs, ⟨A, c, hv, hl, hC⟩, hm, hq⟩ := opens_slice ht hc he _ _ _ h
  obtain rfl : v = .slice A xs.length c := by simpa using hv
  exact ⟨A, c, xs, rfl, hl, hm, hC, hq⟩
theorem open_agg1 {spare : Nat → Bool} {r : Reach} {b0 : Nat} {t : TypeId} {f0 : Field} {v : Value} {d : DataW H} {p : List MemPlace} (hs : P.underlying t = some (.struct #[f0])) (hone : oneCellFields P #[f0] = true) (hC : P.cellsOf t = 1)
    (hv : Value.okWide P w r b0 t v) (h : DataW.Trod enc P w base spare held t v d p) :
    ∃ (v0 : Value) (y0 : DataW H × List MemPlace) (n : Nat), v = .agg #[v0] ∧ DataW.trod enc P w base spare held n f0.type [v0] = some y0 := by
  obtain ⟨cs, rfl, hsz⟩ := okWide_struct hs hv
  obtain ⟨c0, rfl⟩ : ∃ c0, cs = #[c0] := by
    obtain ⟨l⟩ := cs
    match l, hsz.trans hC with
    | [c0], _ => exact ⟨c0, rfl⟩
  obtain ⟨fuel, hf⟩ := h
  obtain ⟨y0, n, hx, _, h0⟩ := trod_struct1 hs hf
  obtain ⟨o0, k0⟩ := hone_of hone 0 f0 rfl
  exact ⟨c0, y0, n, rfl, by simpa [Value.cells, o0, k0] using h0⟩
end
end Go.Proofs.Ytgbhlmmmighanaa.Open
