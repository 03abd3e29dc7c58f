/- The row of the law FnExactFirstAvoiding, out of its pure statement. -/
import Derived.Test.YtjdhjapbggnhkaaQFAEx1
import Derived.Test.YtjdhjapbggnhkaaQFAEx2
import Derived.Test.YtjdhjapbggnhkaaQFAL
import Derived.Test.YtjdhjapbggnhkaaQFAW
import Derived.Lib.SliceRun
namespace Go.Proofs.Ytjdhjapbggnhkaa.Base
set_option linter.unusedVariables false
set_option linter.unusedSectionVars false
open Go.RowKit Go.Proofs.YtjdhjapbggnhkaaW.PrintWords

theorem ev_pos {α : Type} {c : Prop} [Decidable c] {f g : Nat → Option α} {r : α} (h : c) (k : Ev f r) : Ev (fun n => if c then f n else g n) r := by
  simpa [h] using k
theorem ev_neg {α : Type} {c : Prop} [Decidable c] {f g : Nat → Option α} {r : α} (h : ¬ c) (k : Ev g r) : Ev (fun n => if c then f n else g n) r := by
  simpa [h] using k
theorem ev_ite {α : Type} {c : Prop} [Decidable c] {f g : Nat → Option α} {r : α} (h : c → Ev f r) (k : ¬ c → Ev g r) : Ev (fun n => if c then f n else g n) r := by
  by_cases hc : c
  · exact ev_pos hc (h hc)
  · exact ev_neg hc (k hc)
theorem ev_now {α : Type} {a r : α} (h : a = r) : Ev (fun _ => some a) r := h ▸ Ev.now a
theorem ev_some {α β : Type} {f : Nat → α → Option β} {a : α} {r : β} (k : Ev (fun n => f n a) r) : Ev (fun n => (some a).bind (f n)) r := by
  simpa using k
theorem w64 {x : Int} (h1 : -9223372036854775808 ≤ x) (h2 : x ≤ 9223372036854775807) : wrap64 x = x := by unfold wrap64; omega
theorem w64s {i : Nat} (h : i < 9223372036854775807) : wrap64 ((i : Int) + 1) = ((i + 1 : Nat) : Int) := by unfold wrap64; omega
theorem w64p {i : Nat} (h : i < 9223372036854775807) : wrap64 (((i + 1 : Nat) : Int) - 1) = (i : Int) := by unfold wrap64; omega

theorem rd_nat (l : List Int) (i : Nat) : rd l (i : Int) = l.getD i 0 := rfl
theorem ext_getD {l m : List Int} (hl : m.length = l.length) (h : ∀ j, j < l.length → m.getD j 0 = l.getD j 0) : m = l := by
  apply List.ext_getElem hl
  intro j h1 h2
  have := h j h2
  rwa [List.getD_eq_getElem?_getD, List.getD_eq_getElem?_getD, List.getElem?_eq_getElem h1, List.getElem?_eq_getElem h2] at this
theorem get_set_ne {l : List Int} {i j : Nat} {v : Int} (h : i ≠ j) : (l.set i v).getD j 0 = l.getD j 0 := by
  rw [List.getD_eq_getElem?_getD, List.getElem?_set_ne h, ← List.getD_eq_getElem?_getD]
theorem get_set_eq {l : List Int} {i : Nat} {v : Int} (h : i < l.length) : (l.set i v).getD i 0 = v := by
  rw [List.getD_eq_getElem?_getD, List.getElem?_set_self h]; rfl
end Go.Proofs.Ytjdhjapbggnhkaa.Base
namespace Go.Proofs.Ytjdhjapbggnhkaa.Tree
set_option linter.unusedVariables false
set_option linter.unusedSectionVars false

def nd (d : List Int) : Nat → Int
  | 0 => 1
  | i + 1 => nd d i + d.getD i 0 - 1

structure IsT (d : List Int) : Prop where
  pos : ∀ i, i < d.length → 0 < nd d i
  deg : ∀ i, i < d.length → 0 ≤ d.getD i 0
  fin : nd d d.length = 0

def skip (d : List Int) : Nat → Int → Nat → Nat
  | 0, _, v => v
  | f + 1, need, v => if need > 0 then skip d f (need + (d.getD v 0 - 1)) (v + 1) else v
def endM (d : List Int) (v : Nat) : Nat := skip d (d.length - v) 1 v

theorem IsT.len {d : List Int} (h : IsT d) : 0 < d.length := by
  rcases Nat.eq_zero_or_pos d.length with h0 | h0
  · have := h.fin
    rw [h0] at this
    simp [nd] at this
  · exact h0

theorem skip_spec {d : List Int} (h : IsT d) {v : Nat} (hv : v < d.length) : ∀ (f u : Nat), u + f = d.length → v ≤ u → (∀ j, v < j → j < u → nd d v ≤ nd d j) →
    (u = v ∨ nd d v - 1 ≤ nd d u) →
    v < skip d f (1 + nd d u - nd d v) u ∧ skip d f (1 + nd d u - nd d v) u ≤ d.length ∧ nd d (skip d f (1 + nd d u - nd d v) u) = nd d v - 1 ∧ ∀ j, v < j → j < skip d f (1 + nd d u - nd d v) u → nd d v ≤ nd d j := by
  intro f
  induction f with
  | zero =>
    intro u hf hvu hj hu
    have hn : u = d.length := by omega
    have h1 := h.fin
    have h2 := h.pos v hv
    subst hn
    simp only [skip]
    refine ⟨hv, Nat.le_refl _, ?_, hj⟩
    rcases hu with hu | hu
    · omega
    · omega
  | succ f ih =>
    intro u hf hvu hj hu
    have hlt : u < d.length := by omega
    simp only [skip]
    by_cases hn : 1 + nd d u - nd d v > 0
    · rw [if_pos hn]
      have e : 1 + nd d u - nd d v + (d.getD u 0 - 1) = 1 + nd d (u + 1) - nd d v := by simp only [nd]; omega
      rw [e]
      refine ih (u + 1) (by omega) (by omega) (fun j h1 h2 => ?_) (.inr ?_)
      · by_cases hju : j = u
        · subst hju; omega
        · exact hj j h1 (by omega)
      · have := h.deg u hlt
        simp only [nd]; omega
    · rw [if_neg hn]
      rcases hu with hu | hu
      · subst hu; omega
      · have hne : v ≠ u := by intro e; subst e; omega
        exact ⟨by omega, by omega, by omega, hj⟩

section
variable {d : List Int} (h : IsT d)
include h
theorem end_spec {v : Nat} (hv : v < d.length) : v < endM d v ∧ endM d v ≤ d.length ∧ nd d (endM d v) = nd d v - 1 ∧ ∀ j, v < j → j < endM d v → nd d v ≤ nd d j := by
  have := skip_spec h hv (d.length - v) v (by omega) (Nat.le_refl _) (fun j h1 h2 => by omega) (.inl rfl)
  have e : 1 + nd d v - nd d v = 1 := by omega
  rw [e] at this
  exact this
theorem end_gt {v : Nat} (hv : v < d.length) : v < endM d v := (end_spec h hv).1
theorem end_le {v : Nat} (hv : v < d.length) : endM d v ≤ d.length := (end_spec h hv).2.1
theorem end_nd {v : Nat} (hv : v < d.length) : nd d (endM d v) = nd d v - 1 := (end_spec h hv).2.2.1
theorem end_in {v j : Nat} (hv : v < d.length) (h1 : v < j) (h2 : j < endM d v) : nd d v ≤ nd d j := (end_spec h hv).2.2.2 j h1 h2
theorem end_unique {v e : Nat} (hv : v < d.length) (h1 : v < e) (h2 : nd d e < nd d v) (h3 : ∀ j, v < j → j < e → nd d v ≤ nd d j) : e = endM d v := by
  have ⟨a, b, c, k⟩ := end_spec h hv
  rcases Nat.lt_trichotomy e (endM d v) with hl | hl | hl
  · have := k e h1 hl; omega
  · exact hl
  · have := h3 _ a hl; omega
theorem nd_le {i : Nat} (hi : i ≤ d.length) : nd d i ≤ d.length - i := by
  obtain ⟨k, hk⟩ : ∃ k, i + k = d.length := ⟨d.length - i, by omega⟩
  induction k generalizing i with
  | zero => have := h.fin; have e : i = d.length := by omega
            subst e; omega
  | succ k ih =>
    have := ih (i := i + 1) (by omega) (by omega)
    have h1 := h.deg i (by omega)
    simp only [nd] at this
    omega
theorem nd_nonneg {i : Nat} (hi : i ≤ d.length) : 0 ≤ nd d i := by
  rcases Nat.lt_or_ge i d.length with hl | hl
  · have := h.pos i hl; omega
  · have e : i = d.length := by omega
    have := h.fin
    subst e; omega
theorem deg_le {v : Nat} (hv : v < d.length) : d.getD v 0 < d.length - v := by
  have h1 := nd_le h (i := v + 1) (by omega)
  have h2 := h.pos v hv
  simp only [nd] at h1
  omega
theorem end_mono {u v : Nat} (hv : v < d.length) (h1 : v ≤ u) (h2 : u < endM d v) : endM d u ≤ endM d v := by
  rcases Nat.eq_or_lt_of_le h1 with e | hl
  · subst e; exact Nat.le_refl _
  · have hu : u < d.length := by have := end_le h hv; omega
    rcases Nat.lt_or_ge (endM d v) (endM d u) with hx | hx
    · have a := end_in h hu h2 hx
      have b := end_in h hv hl h2
      have c := end_nd h hv
      omega
    · exact hx
end

def kidsFrom (d : List Int) : Nat → Nat → List Nat
  | 0, _ => []
  | m + 1, c => c :: kidsFrom d m (endM d c)
def kidsM (d : List Int) (v : Nat) : List Nat := kidsFrom d (d.getD v 0).toNat (v + 1)
theorem kidsFrom_length (d : List Int) : ∀ (m c : Nat), (kidsFrom d m c).length = m
  | 0, _ => rfl
  | m + 1, c => by simp [kidsFrom, kidsFrom_length d m]

inductive Run (d : List Int) : Nat → Nat → Nat → Prop
  | nil (c : Nat) : Run d 0 c c
  | cons {m c e : Nat} : c < d.length → Run d m (endM d c) e → Run d (m + 1) c e

section
variable {d : List Int} (h : IsT d)
include h
theorem run_of {v : Nat} (hv : v < d.length) : ∀ (m c : Nat), v < c → c ≤ d.length → nd d c = nd d v - 1 + m → (∀ j, v < j → j < c → nd d v ≤ nd d j) → Run d m c (endM d v)
  | 0, c, h1, h2, h3, h4 => by
    have e := end_unique h hv h1 (by omega) h4
    rw [← e]
    exact .nil c
  | m + 1, c, h1, h2, h3, h4 => by
    have hc : c < d.length := by
      rcases Nat.lt_or_ge c d.length with hl | hl
      · exact hl
      · have e : c = d.length := by omega
        have := h.fin
        have h0 := h.pos v hv
        subst e; omega
    have a := end_spec h hc
    refine .cons hc (run_of hv m _ (by omega) a.2.1 (by omega) (fun j hj1 hj2 => ?_))
    rcases Nat.lt_trichotomy j c with hl | hl | hl
    · exact h4 j hj1 hl
    · subst hl; omega
    · have := a.2.2.2 j hl hj2; omega
theorem run_kids {v : Nat} (hv : v < d.length) : Run d (d.getD v 0).toNat (v + 1) (endM d v) := by
  have h0 := h.deg v hv
  refine run_of h hv _ _ (by omega) (by omega) ?_ (fun j h1 h2 => by omega)
  simp only [nd]; omega
theorem run_bd {m c e : Nat} (r : Run d m c e) : c ≤ e := by
  induction r with
  | nil c => exact Nat.le_refl _
  | cons hc _ ih => have := end_gt h hc; omega
theorem run_mem {m c e : Nat} (r : Run d m c e) : ∀ x ∈ kidsFrom d m c, c ≤ x ∧ x < d.length ∧ x < e ∧ endM d x ≤ e := by
  induction r with
  | nil c => intro x hx; simp [kidsFrom] at hx
  | @cons m c e hc r ih =>
    intro x hx
    have h1 := run_bd h r
    have h2 := end_gt h hc
    simp only [kidsFrom, List.mem_cons] at hx
    rcases hx with rfl | hx
    · exact ⟨Nat.le_refl _, hc, by omega, h1⟩
    · have := ih x hx
      exact ⟨by omega, this.2.1, this.2.2.1, this.2.2.2⟩
end
section
variable {d : List Int} (h : IsT d)
include h
theorem kid_mem {v c : Nat} (hv : v < d.length) (hc : c ∈ kidsM d v) : v < c ∧ c < d.length ∧ c < endM d v ∧ endM d c ≤ endM d v := by
  have := run_mem h (run_kids h hv) c hc
  exact ⟨by omega, this.2.1, this.2.2.1, this.2.2.2⟩
end

def parUp (d : List Int) (c : Nat) : Nat → Nat
  | 0 => 0
  | v + 1 => if c < endM d v then v else parUp d c v
def par (d : List Int) (c : Nat) : Nat := parUp d c c
section
variable {d : List Int} (h : IsT d)
include h
end

def below (d : List Int) (v w : Nat) : Prop := w ≤ v ∧ v < endM d w
instance (d : List Int) (v w : Nat) : Decidable (below d v w) := inferInstanceAs (Decidable (_ ∧ _))
section
variable {d : List Int} (h : IsT d)
include h
end
end Go.Proofs.Ytjdhjapbggnhkaa.Tree
namespace Go.Proofs.Ytjdhjapbggnhkaa.E
set_option linter.unusedVariables false
set_option linter.unusedSectionVars false
open Go.RowKit Go.Proofs.YtjdhjapbggnhkaaW.PrintWords Go.Proofs.Ytjdhjapbggnhkaa.Base Go.Proofs.Ytjdhjapbggnhkaa.Tree

theorem l01N_ev (d : List Int) : spec_l01N.f d = some (d.length : Int) := rfl

section
variable {d : List Int} (h : IsT d) (hn : d.length ≤ 1000)
include h hn
theorem impl_endOf_loop {v : Nat} (hv : v < d.length) : ∀ (f u : Nat), u + f = d.length → v ≤ u → Ev (fun k => impl_endOf.l0 k d (u : Int) (1 + nd d u - nd d v)) (skip d f (1 + nd d u - nd d v) u : Int) := by
  have b : ∀ u, u ≤ d.length → 0 ≤ nd d u ∧ nd d u ≤ 1000 := fun u hu => ⟨nd_nonneg h hu, by have := nd_le h hu; omega⟩
  intro f
  induction f with
  | zero =>
    intro u hf hu
    have e : u = d.length := by omega
    have h1 := h.fin
    have h2 := h.pos v hv
    refine Ev.step (fun k => by rw [impl_endOf.l0]) ?_
    refine ev_neg (by subst e; omega) (ev_now ?_)
    simp [skip]
  | succ f ih =>
    intro u hf hu
    have b1 := b u (by omega)
    have b2 := b v (by omega)
    have b3 := b (u + 1) (by omega)
    have e : 1 + nd d u - nd d v + (d.getD u 0 - 1) = 1 + nd d (u + 1) - nd d v := by simp only [nd]; omega
    have e2 : nd d (u + 1) = nd d u + d.getD u 0 - 1 := rfl
    refine Ev.step (fun k => by rw [impl_endOf.l0]) ?_
    simp only [skip, rd_nat]
    refine ev_ite (fun hx => ?_) (fun hx => ?_)
    · rw [if_pos hx]
      refine ev_pos (by omega) (ev_pos (by omega) ?_)
      rw [w64s (by omega), w64 (x := d.getD u 0 - 1) (by omega) (by omega), w64 (by omega) (by omega), e]
      exact ih (u + 1) (by omega) (by omega)
    · rw [if_neg hx]; exact Ev.now _
theorem impl_endOf_ev {v : Nat} (hv : v < d.length) : Ev (fun k => impl_endOf.f k d (v : Int)) (endM d v : Int) := by
  have := impl_endOf_loop h hn hv (d.length - v) v (by omega) (Nat.le_refl _)
  rw [show 1 + nd d v - nd d v = 1 by omega] at this
  exact this
theorem spec_l01End_loop {v : Nat} (hv : v < d.length) : ∀ (f u : Nat), u + f = d.length → v ≤ u → Ev (fun k => spec_l01End.l0 k (u : Int) (1 + nd d u - nd d v) d) (skip d f (1 + nd d u - nd d v) u : Int) := by
  have b : ∀ u, u ≤ d.length → 0 ≤ nd d u ∧ nd d u ≤ 1000 := fun u hu => ⟨nd_nonneg h hu, by have := nd_le h hu; omega⟩
  intro f
  induction f with
  | zero =>
    intro u hf hu
    have e : u = d.length := by omega
    have h1 := h.fin
    have h2 := h.pos v hv
    refine Ev.step (fun k => by rw [spec_l01End.l0]) ?_
    refine ev_neg (by subst e; omega) (ev_now ?_)
    simp [skip]
  | succ f ih =>
    intro u hf hu
    have b1 := b u (by omega)
    have b2 := b v (by omega)
    have b3 := b (u + 1) (by omega)
    have e : 1 + nd d u - nd d v - 1 + d.getD u 0 = 1 + nd d (u + 1) - nd d v := by simp only [nd]; omega
    have e1 : 1 + nd d u - nd d v + (d.getD u 0 - 1) = 1 + nd d (u + 1) - nd d v := by simp only [nd]; omega
    have e2 : nd d (u + 1) = nd d u + d.getD u 0 - 1 := rfl
    refine Ev.step (fun k => by rw [spec_l01End.l0]) ?_
    simp only [skip, rd_nat]
    refine ev_ite (fun hx => ?_) (fun hx => ?_)
    · rw [if_pos hx]
      refine ev_pos (by omega) (ev_pos (by omega) ?_)
      rw [w64s (by omega), w64 (x := 1 + nd d u - nd d v - 1) (by omega) (by omega), w64 (by omega) (by omega), e, e1]
      exact ih (u + 1) (by omega) (by omega)
    · rw [if_neg hx]; exact Ev.now _
theorem spec_l01End_ev {v : Nat} (hv : v < d.length) : Ev (fun k => spec_l01End.f k d (v : Int)) (endM d v : Int) := by
  have := spec_l01End_loop h hn hv (d.length - v) v (by omega) (Nat.le_refl _)
  rw [show 1 + nd d v - nd d v = 1 by omega] at this
  exact this
end
def castL (l : List Nat) : List Int := List.map (fun x : Nat => ((x : Nat) : Int)) l
theorem castL_length (l : List Nat) : (castL l).length = l.length := by simp [castL]
theorem castL_getD (l : List Nat) (j : Nat) (h : j < l.length) : (castL l).getD j 0 = (l[j] : Int) := by
  simp [castL, List.getD_eq_getElem?_getD, h]
theorem kids_few {d : List Int} (h : IsT d) {v : Nat} (hv : v < d.length) : (kidsM d v).length < d.length := by
  have h1 := deg_le h hv
  have h2 := h.deg v hv
  unfold kidsM
  rw [kidsFrom_length]
  omega
section
variable {d : List Int} (h : IsT d) (hn : d.length ≤ 1000)
include h hn
theorem impl_kidsOf_loop {n m c e : Nat} (r : Run d m c e) (hc : c < 9223372036854775807) : ∀ (acc : List Int) (j : Nat), j + m = n → n ≤ 1000 → acc.length + m ≤ 1000 → Ev (fun k => impl_kidsOf.l0 k d acc (c : Int) (n : Int) (j : Int)) (acc ++ castL (kidsFrom d m c)) := by
  induction r with
  | nil c =>
    intro acc j h1 h2 h3
    refine Ev.step (fun k => by rw [impl_kidsOf.l0]) ?_
    exact ev_neg (by omega) (ev_now (by simp [kidsFrom, castL]))
  | @cons m c e hlt r ih =>
    intro acc j h1 h2 h3
    refine Ev.step (fun k => by rw [impl_kidsOf.l0]) ?_
    refine ev_pos (by omega) (ev_pos (by omega) (Ev.bind (impl_endOf_ev h hn hlt) ?_))
    rw [w64s (by omega)]
    have hle := end_le h hlt
    have := ih (by omega) (acc ++ [(c : Int)]) (j + 1) (by omega) h2 (by simp; omega)
    simpa [kidsFrom, castL] using this
theorem impl_kidsOf_ev {v : Nat} (hv : v < d.length) : Ev (fun k => impl_kidsOf.f k d (v : Int)) (castL (kidsM d v)) := by
  have h0 := h.deg v hv
  have h1 := deg_le h hv
  unfold impl_kidsOf.f
  refine ev_pos (by omega) (ev_pos (by omega) ?_)
  rw [w64s (by omega), rd_nat]
  have := impl_kidsOf_loop h hn (n := (d.getD v 0).toNat) (run_kids h hv) (by omega) [] 0 (by omega) (by omega) (by simp only [List.length_nil]; omega)
  rw [show (((d.getD v 0).toNat : Nat) : Int) = d.getD v 0 by omega] at this
  simpa [kidsM] using this
theorem spec_l01Children_loop {m c e : Nat} (r : Run d m c e) (hc : c < 9223372036854775807) : ∀ (acc : List Int), m ≤ 1000 → acc.length + m ≤ 1000 → Ev (fun k => spec_l01Children.l0 k acc (c : Int) (m : Int) d) (acc ++ castL (kidsFrom d m c)) := by
  induction r with
  | nil c =>
    intro acc h2 h3
    refine Ev.step (fun k => by rw [spec_l01Children.l0]) ?_
    exact ev_neg (by omega) (ev_now (by simp [kidsFrom, castL]))
  | @cons m c e hlt r ih =>
    intro acc h2 h3
    refine Ev.step (fun k => by rw [spec_l01Children.l0]) ?_
    refine ev_pos (by omega) (ev_pos (by omega) (Ev.bind (spec_l01End_ev h hn hlt) ?_))
    rw [w64p (by omega)]
    have hle := end_le h hlt
    have := ih (by omega) (acc ++ [(c : Int)]) (by omega) (by simp; omega)
    simpa [kidsFrom, castL] using this
theorem spec_l01Children_ev {v : Nat} (hv : v < d.length) : Ev (fun k => spec_l01Children.f k d (v : Int)) (castL (kidsM d v)) := by
  have h0 := h.deg v hv
  have h1 := deg_le h hv
  unfold spec_l01Children.f
  refine ev_pos (by omega) (ev_pos (by omega) ?_)
  rw [w64s (by omega), rd_nat]
  have := spec_l01Children_loop h hn (run_kids h hv) (by omega) [] (by omega) (by simp only [List.length_nil]; omega)
  rw [show (((d.getD v 0).toNat : Nat) : Int) = d.getD v 0 by omega] at this
  simpa [kidsM] using this
end
end Go.Proofs.Ytjdhjapbggnhkaa.E
namespace Go.Proofs.Ytjdhjapbggnhkaa.E
set_option linter.unusedVariables false
set_option linter.unusedSectionVars false
open Go.RowKit Go.Proofs.YtjdhjapbggnhkaaW.PrintWords Go.Proofs.Ytjdhjapbggnhkaa.Base Go.Proofs.Ytjdhjapbggnhkaa.Tree
end Go.Proofs.Ytjdhjapbggnhkaa.E
namespace Go.Proofs.Ytjdhjapbggnhkaa.P
set_option linter.unusedVariables false
set_option linter.unusedSectionVars false
open Go.RowKit Go.Proofs.YtjdhjapbggnhkaaW.PrintWords Go.Proofs.YtjdhjapbggnhkaaW.PrintLast Go.Proofs.YtjdhjapbggnhkaaW.PrintMore Go.Proofs.Ytjdhjapbggnhkaa.E
def ofT (kf : Int → List Int) : Nat → Int → Pat
  | 0, _ => default
  | n + 1, v => .mk 0 ((kf v).map (ofT kf n))
set_option maxHeartbeats 4000000 in
set_option maxRecDepth 100000 in
theorem ofTree_calls (d : List Int) (kf : Int → List Int) (k : Nat) (hkf : ∀ v, 0 ≤ v → v < (d.length : Int) → impl_kidsOf.f k d v = some (kf v) ∧ (∀ c ∈ kf v, v < c ∧ c < (d.length : Int)) ∧ (kf v).length ≤ 1048576) (Ad : Option Addr) (cd : Nat) (hcd : d.length ≤ cd) :
    ∀ (n : Nat) (v : Int) (w : World), 0 ≤ v → v < (d.length : Int) → (d.length : Int) - v ≤ n → Kd.C (Kd.int .i64) w Ad d.length d →
    Calls Try.prog 51 #[.slice Ad d.length cd, .int .i64 v] w fun e w' => Below w.heap.size w w' ∧ ∃ u, e = .returned u ∧ (kP n).M w' w.heap.size (fun _ => True) (ofT kf n v) [u]
  | 0, v, w, h0, h1, h2, _ => by omega
  | n + 1, v, w, h0, h1, h2, hd => by
    have ih := ofTree_calls d kf k hkf Ad cd hcd n
    obtain ⟨hk1, hk2, hk3⟩ := hkf v h0 h1
    obtain ⟨l, hl⟩ : ∃ l, l = kf v := ⟨_, rfl⟩
    have hR : ofT kf (n + 1) v = .mk 0 (l.map (ofT kf n)) := by rw [hl]; rfl
    rw [← hl] at hk1 hk2 hk3
    rw [hR]
    have HD := Aside0.mk hd
    have IH0 := Aside0.mk (fun c hc w hd => ih c w (by have := (hk2 c hc).1; omega) (hk2 c hc).2 (by have := (hk2 c hc).1; omega) hd)
    have C72 := Aside0.mk (fun w hd => impl_kidsOf.calls k Ad cd d v l w hd hcd hk1)
    have LK := Aside0.mk hk3
    clear hR hl hd ih hk1 hk2 hk3 h0 h1 h2 hcd hkf
    go_enter Try.func51, Try.ntmps51
    go_wp2_with (first | ((with_reducible refine gate_dst (N := 9) rfl ?_); (try (refine gate_guard (by rfl) ?_; dsimp only)); refine box_event ?hg (N := 9) ?hd (cs := #[.int .u8 0, .slice none 0 0]) (t := 78) ?hr ?_; (case hd => rfl); (case hg => rfl); (case hr => first | (go_simp; done) | (go_simp; rfl)); intro g hg w4 hbox hb; have BK := Aside0.mk hbox; have HB := Aside0.mk hb; have GE := Aside0.mk (show w.heap.size ≤ g by rw [hg]; exact Nat.le_refl _); clear hbox hb hg) | (go_at_call 63; refine (C72.out _ (Kd.C_below HD.out HB.out)).mono ?_; rintro e w6 ⟨vk, rfl, hR, hb⟩; obtain ⟨Ak, ck, ek⟩ := Kd.R_slice hR; subst ek; have HK6 := Aside0.mk hR; have HB6 := Aside0.mk hb; clear hR hb))
    have KR : Aside0 (∀ w' : World, (∀ k, k < w6.heap.size → k ≠ g → w'.heap[k]? = w6.heap[k]?) → Kd.C (Kd.int .i64) w' Ak l.length l) := ⟨fun w' hw' => by
      have hgl := blk_lt BK.out
      have h := Kd.R_move (w1 := w') (Kd.R_bound HK6.out) (fun k hk => hw' k hk.2.2.1 (by have := hk.2.1; omega))
      exact (Kd.R_reads' h).2.2⟩
    obtain ⟨s6, hs6⟩ : ∃ s6, s6 = w6.heap.size := ⟨_, rfl⟩
    have GS : Aside0 (g < s6) := ⟨by have := blk_lt BK.out; have := HB6.out.size; omega⟩
    have S6 := Aside0.mk hs6
    clear hs6
    go_loopg [14] (l.length + 1) (fun kq v14 w' => ∃ (i : Nat) (vk : Value) (acc : List Pat), v14 = .int .i64 (i : Int) ∧ i + kq = l.length + 1 ∧ i ≤ l.length ∧ Aside0 (acc = (l.take i).map (ofT kf n)) ∧ Aside0 (w'.heap[g]? = some (.cells #[.int .u8 0, vk] 78 (0, 0))) ∧ Aside0 ((kP n).R 43 w' w.heap.size (fun k => s6 ≤ k) vk acc) ∧ Aside0 (Below w.heap.size w w') ∧ Aside0 (∀ k, k < s6 → k ≠ g → w'.heap[k]? = w6.heap[k]?) ∧ Aside0 (s6 ≤ w'.heap.size))
    case atStart => exact ⟨0, .slice none 0 0, [], rfl, by omega, by omega, ⟨rfl⟩, ⟨blk_below BK.out HB6.out⟩, ⟨Kd.R_nil _ _ _ _ _⟩, ⟨below_step HB.out HB6.out⟩, ⟨fun k _ _ => rfl⟩, ⟨by rw [S6.out]; exact Nat.le_refl _⟩⟩
    case round =>
      clear BK HB HB6 HK6
      obtain ⟨i, vk, acc, rfl, hk, hil, HA, BK, HO, HB, MID, SZ⟩ := hrel
      cases gk with
      | zero =>
        exfalso
        omega
      | succ gk =>
        by_cases hi : i < l.length
        · have hb1 : decide ((i : Int) < (l.length : Int)) = true := decide_eq_true (by omega)
          have p1 : 0 ≤ (i : Int) := by omega
          have q1 : (i : Int) < (l.length : Int) := by omega
          have KC := KR.out wr (fun k h1 h2 => MID.out k (by rw [S6.out]; exact h1) h2)
          obtain ⟨ad, ead, hx⟩ := Kd.at_int KC (i : Int) p1 q1
          subst ead
          have hcm : rd l (i : Int) ∈ l := by
            show l.getD (i : Int).toNat 0 ∈ l
            rw [Int.toNat_natCast, List.getD_eq_getElem?_getD, List.getElem?_eq_getElem hi]
            exact List.getElem_mem hi
          have hat : (l.take (i + 1)).map (ofT kf n) = acc ++ [ofT kf n (rd l (i : Int))] := by
            rw [HA.out, List.take_add_one, List.getElem?_eq_getElem hi, List.map_append]
            show _ ++ [ofT kf n l[i]] = _ ++ [ofT kf n (l.getD (i : Int).toNat 0)]
            rw [Int.toNat_natCast, List.getD_eq_getElem?_getD, List.getElem?_eq_getElem hi]; rfl
          have hal : acc.length = i := by rw [HA.out, List.length_map, List.length_take]; omega
          obtain ⟨c, hc⟩ : ∃ c, c = rd l (i : Int) := ⟨_, rfl⟩
          rw [← hc, Int.toNat_natCast] at hx
          rw [← hc] at hcm hat
          have IH := Aside0.mk (IH0.out c hcm)
          obtain ⟨y, hy⟩ : ∃ y, y = acc ++ [ofT kf n c] := ⟨_, rfl⟩
          rw [← hy] at hat
          have Ny := Aside0.mk hy
          have AT := Aside0.mk hat
          have LA : Aside0 (acc.length < 1048576) := ⟨by have := LK.out; omega⟩
          have hw : wrap64 ((i : Int) + 1) = ((i + 1 : Nat) : Int) := by have := LK.out; unfold wrap64; omega
          have q2 := eq_true q1
          have p2 := eq_true p1
          have hi2 : (i < l.length) = True := eq_true hi
          have BKd : Aside0 (wr.drew.heap[g]? = some (.cells #[.int .u8 0, vk] 78 (0, 0))) := ⟨blk_drew BK.out⟩
          have HOd := Aside0.mk (Kd.R_drew HO.out)
          have HBd := Aside0.mk (below_drew1 HB.out)
          have MIDd : Aside0 (∀ k, k < s6 → k ≠ g → wr.drew.heap[k]? = w6.heap[k]?) := ⟨MID.out⟩
          have SZd : Aside0 (s6 ≤ wr.drew.heap.size) := ⟨SZ.out⟩
          clear hc hcm hy hat hal KC p1 q1 BK HO HB MID SZ HA
          have MID := MIDd
          have SZ := SZd
          clear MIDd SZd
          go_wp2
          refine start_ (n := 13) (S := fun w' => w'.cell? ⟨g, 1, none⟩ = some vk) (ds := [12]) #[false, false, false, false, false, false, false, false, false, false, false, false, false] (by kernel_rfl) rfl rfl ((blk_cell BKd.out 1).trans rfl) (fun hHeld => ?_)
          generalize wr.drew = wx at BKd HOd HBd MID SZ hHeld ⊢
          refine pure_ (i := 0) (N := some 18) (v := ?_) (a' := ?_) #[true, false, false, false, false, false, false, false, false, false, false, false, false] rfl rfl (by kernel_rfl) (fun _ _ _ h => h) (Or.inl ⟨by rfl, ?_⟩) ?_ ?_
          rotate_left
          · intro w'
            go_simp
            with_reducible rfl
          rotate_left
          · simp only [Act.put, List.setIfInBounds_toArray, List.set_cons_zero, List.set_cons_succ]
            rfl
          refine pure_ (i := 1) (N := some 19) (v := ?_) (a' := ?_) #[true, true, false, false, false, false, false, false, false, false, false, false, false] rfl rfl (by kernel_rfl) (fun _ _ _ h => h) (Or.inl ⟨by rfl, ?_⟩) ?_ ?_
          rotate_left
          · intro w'
            go_simp
            with_reducible rfl
          rotate_left
          · simp only [Act.put, List.setIfInBounds_toArray, List.set_cons_zero, List.set_cons_succ]
            rfl
          refine pure_ (i := 2) (N := some 20) (v := ?_) (a' := ?_) #[true, true, true, false, false, false, false, false, false, false, false, false, false] rfl rfl (by kernel_rfl) (fun _ _ _ h => h) (Or.inl ⟨by rfl, ?_⟩) ?_ ?_
          rotate_left
          · intro w'
            go_simp
            with_reducible rfl
          rotate_left
          · simp only [Act.put, List.setIfInBounds_toArray, List.set_cons_zero, List.set_cons_succ]
            rfl
          refine pure_ (i := 3) (N := some 21) (v := ?_) (a' := ?_) #[true, true, true, true, false, false, false, false, false, false, false, false, false] rfl rfl (by kernel_rfl) (fun _ _ _ h => h) (Or.inl ⟨by rfl, ?_⟩) ?_ ?_
          rotate_left
          · intro w'
            go_simp
            with_reducible rfl
          rotate_left
          · simp only [Act.put, List.setIfInBounds_toArray, List.set_cons_zero, List.set_cons_succ]
            rfl
          refine take_ (i := 4) (N := some 22) (v := ?_) (a' := ?_) #[true, true, true, true, true, false, false, false, false, false, false, false, false] rfl rfl (by kernel_rfl) (fun _ _ _ h => h) (Or.inl ⟨by rfl, ?_⟩) hHeld ?_ ?_
          rotate_left
          · rintro w' s0
            go_simp
            with_reducible rfl
          rotate_left
          · simp only [Act.put, List.setIfInBounds_toArray, List.set_cons_zero, List.set_cons_succ]
            rfl
          refine pure_ (i := 5) (N := some 23) (v := ?_) (a' := ?_) #[true, true, true, true, true, true, false, false, false, false, false, false, false] rfl rfl (by kernel_rfl) (fun _ _ _ h => h) (Or.inl ⟨by rfl, ?_⟩) ?_ ?_
          rotate_left
          · intro w'
            go_simp
            with_reducible rfl
          rotate_left
          · simp only [Act.put, List.setIfInBounds_toArray, List.set_cons_zero, List.set_cons_succ]
            rfl
          refine pure_ (i := 6) (N := some 24) (v := ?_) (a' := ?_) #[true, true, true, true, true, true, true, false, false, false, false, false, false] rfl rfl (by kernel_rfl) (fun _ _ _ h => h) (Or.inl ⟨by rfl, ?_⟩) ?_ ?_
          rotate_left
          · intro w'
            go_simp
            with_reducible rfl
          rotate_left
          · simp only [Act.put, List.setIfInBounds_toArray, List.set_cons_zero, List.set_cons_succ]
            rfl
          refine one_ (i := 7) (N := some 25) #[true, true, true, true, true, true, true, true, false, false, false, false, false] rfl rfl (by kernel_rfl) (by decide) (fun K hK => ?_)
          refine goes_ Try.func51 (by kernel_rfl) rfl #[.slice Ad d.length cd, .int .i64 c] (by rfl) rfl rfl (by (try simp only [List.map_toArray, List.map_cons, List.map_nil]); first | done | rfl) ?_
          refine (IH.out wx (Kd.C_below HD.out HBd.out)).mono ?_
          rintro e w7 ⟨hb, u7, rfl, hM⟩
          obtain ⟨g7, rfl⟩ := M_ptr hM
          have HM7 := Aside0.mk hM
          have HB7 := Aside0.mk hb
          clear hb hM
          refine ⟨_, rfl, ?_⟩
          refine hK.out _ _ ((blk_cell (blk_below BKd.out HB7.out) 1).trans rfl) (fun hHeld => ?_)
          clear hK K
          refine norm_ (a' := ?_) ?_ ?_
          rotate_left
          · show Act.put _ (some 25) _ = _
            simp only [Act.put, List.setIfInBounds_toArray, List.set_cons_zero, List.set_cons_succ]
            rfl
          refine one_ (i := 8) (N := some 26) #[true, true, true, true, true, true, true, true, true, false, false, false, false] rfl rfl (by kernel_rfl) (by decide) (fun K hK => ?_)
          refine event_step (w1 := w7.alloc (.cells #[.pointer (some ⟨g7, 0, none⟩)] 43)) (v := .slice (some ⟨w7.heap.size, 0, none⟩) 1 1) (by rfl) (by first | (go_simp; done) | (go_simp; rfl)) ?_
          refine hK.out _ _ ((blk_cell (blk_alloc (blk_below BKd.out HB7.out) _) 1).trans rfl) (fun hHeld => ?_)
          clear hK K
          refine norm_ (a' := ?_) ?_ ?_
          rotate_left
          · show Act.put _ (some 26) _ = _
            simp only [Act.put, List.setIfInBounds_toArray, List.set_cons_zero, List.set_cons_succ]
            rfl
          refine one_ (i := 9) (N := some 27) #[true, true, true, true, true, true, true, true, true, true, false, false, false] rfl rfl (by kernel_rfl) (by decide) (fun K hK => ?_)
          refine Kd.R_append_step (kP n) (w0 := w) w.heap.size (by rfl) (.tmp 22) (.tmp 26) 76 43 (.pointer none) 8 rfl Try.underlying76 infoP rfl (show 0 < (kP n).sz from Nat.one_pos) (by omega) vk acc (ofT kf n c) [.pointer (some ⟨g7, 0, none⟩)] (fun k => s6 ≤ k) (fun k => wx.heap.size ≤ k) rfl rfl ?aP ?aK ?aF ?aO ?aB ?aS ?aL ?_
          (case aP => exact (kP n).M_mono (fun k hk => hk.2.1) ((kP n).M_lower (below_size HBd.out) ((kP n).M_bound HM7.out)))
          (case aK => exact fun k hk => ⟨Nat.le_trans SZ.out hk, fun e => by have := Kd.R_lt HOd.out k e.symm; have hk' : wx.heap.size ≤ k := hk; omega⟩)
          (case aF => exact fun k hk => Nat.le_trans (Nat.le_trans SZ.out HB7.out.size) hk)
          (case aO => exact Kd.R_below HOd.out HB7.out)
          (case aB => exact below_step HBd.out HB7.out)
          (case aS => exact below_size (below_step HBd.out HB7.out))
          (case aL => have := LA.out; omega)
          intro v8 w8 ho hb hg hat
          rw [← Ny.out] at ho
          have BK8 := Aside0.mk (blk_grown (blk_below BKd.out HB7.out) hg (Kd.R_ne (Kd.R_below HOd.out HB7.out) (blk_below BKd.out HB7.out) (by decide)))
          have HO8 := Aside0.mk ho
          have HB8 := Aside0.mk hb
          have HG8 := Aside0.mk hg
          clear ho hb hg hat
          obtain ⟨A8, c8, e8⟩ := Kd.R_slice HO8.out
          subst e8
          refine hK.out _ _ ((blk_cell BK8.out 1).trans rfl) (fun hHeld => ?_)
          clear hK K
          refine norm_ (a' := ?_) ?_ ?_
          rotate_left
          · show Act.put _ (some 27) _ = _
            simp only [Act.put, List.setIfInBounds_toArray, List.set_cons_zero, List.set_cons_succ]
            rfl
          refine pure_ (i := 10) (N := some 28) (v := ?_) (a' := ?_) #[true, true, true, true, true, true, true, true, true, true, true, false, false] rfl rfl (by kernel_rfl) (fun _ _ _ h => h) (Or.inl ⟨by rfl, ?_⟩) ?_ ?_
          rotate_left
          · intro w'
            go_simp
            with_reducible rfl
          rotate_left
          · simp only [Act.put, List.setIfInBounds_toArray, List.set_cons_zero, List.set_cons_succ]
            rfl
          refine pure_ (i := 11) (N := some 29) (v := ?_) (a' := ?_) #[true, true, true, true, true, true, true, true, true, true, true, true, false] rfl rfl (by kernel_rfl) (fun _ _ _ h => h) (Or.inl ⟨by rfl, ?_⟩) ?_ ?_
          rotate_left
          · intro w'
            go_simp
            with_reducible rfl
          rotate_left
          · simp only [Act.put, List.setIfInBounds_toArray, List.set_cons_zero, List.set_cons_succ]
            rfl
          refine last_ (i := 12) (N := none) #[true, true, true, true, true, true, true, true, true, true, true, true, true] rfl rfl (by kernel_rfl) (by decide) (fun K hK => ?_)
          have hs8 : w8.cell? ⟨g, 1, none⟩ = some vk := (blk_cell BK8.out 1).trans rfl
          have hf8 := blk_frozen BK8.out 1
          refine skip_ (w1 := ?_) (by rfl) rfl ?_ ?_
          rotate_left
          · go_simp
            rfl
          refine hK.out _ _ ?_
          clear hK K
          refine done_ (by kernel_rfl) ?_
          go_wp2
          go_roundg gk
          case measure => omega
          case rel => exact ⟨i + 1, .slice A8 y.length c8, y, by first | (rw [hw]; done) | rfl | (congr 1; omega), by omega, by omega, ⟨AT.out.symm⟩, ⟨blk_put BK8.out 1 _ rfl⟩, ⟨Kd.R_far HO8.out (fun k hk => by have := GS.out; show k ≠ g; omega) _⟩, ⟨below_set HB8.out GE.out⟩, ⟨fun k h1 h2 => by
            have h3 := SZ.out
            have h4 := HB7.out.size
            rw [Below.heap_setCell _ _ _ _ (show k ≠ g from h2), HG8.out.block k (by omega) (fun e => by have := (Kd.R_below HOd.out HB7.out).1 k e.symm; omega), HB7.out.block k (by omega)]
            exact MID.out k h1 h2⟩, ⟨Nat.le_trans (Nat.le_trans SZ.out HB7.out.size) (Nat.le_trans HG8.out.size ((Below.refl 0 w8).setCell (Nat.zero_le _) _).size)⟩⟩
        · have hb1 : decide ((i : Int) < (l.length : Int)) = false := decide_eq_false (by omega)
          have hA : acc = l.map (ofT kf n) := by rw [HA.out, List.take_of_length_le (by omega)]
          go_wp2
          go_ret
          exact ⟨HB.out, _, rfl, M_node trivial GE.out BK.out (Kd.R_mono (by rw [← hA]; exact HO.out) (fun k hk => ⟨trivial, by have := GS.out; omega⟩))⟩
end Go.Proofs.Ytjdhjapbggnhkaa.P
namespace Go.Proofs.Ytjdhjapbggnhkaa.P
set_option linter.unusedVariables false
set_option linter.unusedSectionVars false
open Go.RowKit Go.Proofs.YtjdhjapbggnhkaaW.PrintWords Go.Proofs.YtjdhjapbggnhkaaW.PrintLast Go.Proofs.YtjdhjapbggnhkaaW.PrintMore Go.Proofs.Ytjdhjapbggnhkaa.Base Go.Proofs.Ytjdhjapbggnhkaa.Tree Go.Proofs.Ytjdhjapbggnhkaa.E
def kfM (d : List Int) (v : Int) : List Int := castL (kidsM d v.toNat)
def treeP (d : List Int) (v : Int) : Pat := ofT (kfM d) 24 v
theorem ev_all {α : Type} {f : Nat → Nat → Option α} {r : Nat → α} : ∀ m, (∀ v, v < m → Ev (fun k => f k v) (r v)) → ∃ k, ∀ v, v < m → f k v = some (r v) := by
  intro m h
  have : ∃ K, ∀ k, K ≤ k → ∀ v, v < m → f k v = some (r v) := by
    induction m with
    | zero => exact ⟨0, fun k _ v hv => by omega⟩
    | succ m ih =>
      obtain ⟨K1, h1⟩ := ih (fun v hv => h v (by omega))
      obtain ⟨K2, h2⟩ := h m (by omega)
      refine ⟨max K1 K2, fun k hk v hv => ?_⟩
      by_cases e : v = m
      · subst e; exact h2 k (by omega)
      · exact h1 k (by omega) v (by omega)
  obtain ⟨K, hK⟩ := this
  exact ⟨K, hK K (Nat.le_refl _)⟩
theorem kfM_ok {d : List Int} (h : IsT d) (hn : d.length ≤ 24) : ∃ k, ∀ v : Int, 0 ≤ v → v < (d.length : Int) → impl_kidsOf.f k d v = some (kfM d v) ∧ (∀ c ∈ kfM d v, v < c ∧ c < (d.length : Int)) ∧ (kfM d v).length ≤ 1048576 := by
  obtain ⟨k, hk⟩ := ev_all (f := fun k v => impl_kidsOf.f k d (v : Int)) (r := fun v => castL (kidsM d v)) d.length (fun v hv => impl_kidsOf_ev h (by omega) hv)
  refine ⟨k, fun v h0 h1 => ?_⟩
  obtain ⟨u, rfl⟩ := Int.eq_ofNat_of_zero_le h0
  have hu : u < d.length := by omega
  refine ⟨hk u hu, fun c hc => ?_, ?_⟩
  · obtain ⟨x, hx, rfl⟩ := List.mem_map.1 hc
    have := kid_mem h hu hx
    exact ⟨by omega, by omega⟩
  · show (castL (kidsM d u)).length ≤ _
    rw [castL_length]
    have := kids_few h hu
    omega
def AtR (base : Nat) (r : Bool × Fill) (e : Ending) (w' : World) : Prop := ∃ g f, e = .returned (.tuple #[.map (some g), .bool r.1]) ∧ base ≤ g ∧ MapB w' g f ∧ Tr w' f r.2
set_option maxHeartbeats 4000000 in
set_option maxRecDepth 100000 in
theorem matchesAt_calls {d : List Int} (ht : IsT d) (hn : d.length ≤ 24) {n : Nat} {p : Pat} {vp : Value} {Ad : Option Addr} {cd : Nat} (hcd : d.length ≤ cd) {v : Int} (h0 : 0 ≤ v) (h1 : v < (d.length : Int)) (w : World) (hp : (kP n).K w p [vp]) (hd : Kd.C (Kd.int .i64) w Ad d.length d) :
    Calls Try.prog 40 #[vp, .slice Ad d.length cd, .int .i64 v] w fun e w' => Below w.heap.size w w' ∧ AtR w.heap.size (matchP n p (treeP d v) fun _ => none) e w' := by
  obtain ⟨k, hk⟩ := kfM_ok ht hn
  have C54 := Aside0.mk (fun w hd => ofTree_calls d (kfM d) k hk Ad cd hcd 24 v w h0 h1 (by omega) hd)
  have HP := Aside0.mk hp
  have HD := Aside0.mk hd
  obtain ⟨r, hr⟩ : ∃ r, r = matchP n p (treeP d v) fun _ => none := ⟨_, rfl⟩
  rw [← hr]
  have HR := Aside0.mk hr
  clear hk hp hd hcd h0 h1 hr
  go_enter Try.func40, Try.ntmps40
  go_wp2_with (first | (refine mp_make rfl rfl ?_; intro g hg w6 hm6 hb6; have HG6 := Aside0.mk hg; have HM6 := Aside0.mk hm6; have HB6 := Aside0.mk hb6; clear hg hm6 hb6) | (go_at_call 51; refine (C54.out _ (Kd.C_below HD.out HB6.out)).mono ?_; rintro e w7 ⟨hb, u, rfl, hu⟩; have HU := Aside0.mk hu; have HB7 := Aside0.mk hb; clear hb hu) | (go_at_call 50; refine (match_calls n p (treeP d v) 24 _ _ g _ (fun _ => none) _ (K_still HP.out (still_below (below_step HB6.out HB7.out))) ((kP 24).K_of_M HU.out) (map_below HM6.out HB7.out) (fun b => ⟨fun _ => rfl, fun q h => by cases h⟩)).mono ?_; rintro e w8 ⟨he, hg, f8, hm, htr⟩; rw [← HR.out] at he htr; subst he; have HG8 := Aside0.mk hg; have HM8 := Aside0.mk hm; have HT8 := Aside0.mk htr; clear hg hm htr))
  refine bodyPost_ret (results_tmp2 rfl _ _ _) rfl ?_
  have hbb := below_step HB6.out HB7.out
  exact ⟨hbb.grown HG8.out hbb.size (fun k hk => by injection hk with hk; rw [← hk, HG6.out]; exact Nat.le_refl _), g, f8, rfl, by rw [HG6.out]; exact Nat.le_refl _, HM8.out, HT8.out⟩
end Go.Proofs.Ytjdhjapbggnhkaa.P
namespace Go.Proofs.Ytjdhjapbggnhkaa.P
set_option linter.unusedVariables false
set_option linter.unusedSectionVars false
open Go.RowKit Go.Proofs.YtjdhjapbggnhkaaW.PrintWords Go.Proofs.YtjdhjapbggnhkaaW.PrintLast Go.Proofs.YtjdhjapbggnhkaaW.PrintMore Go.Proofs.Ytjdhjapbggnhkaa.Base Go.Proofs.Ytjdhjapbggnhkaa.Tree Go.Proofs.Ytjdhjapbggnhkaa.E
def hitM (d : List Int) (p : Pat) (v : Int) : Bool := (matchP 61 p (treeP d v) fun _ => none).1
def hitsM (d : List Int) (p : Pat) (m : Nat) : List Int := ((List.range m).filter fun v : Nat => hitM d p (v : Int)).map fun v : Nat => (v : Int)
theorem hits_step (d : List Int) (p : Pat) (m : Nat) : hitsM d p (m + 1) = if hitM d p (m : Int) = true then hitsM d p m ++ [(m : Int)] else hitsM d p m := by
  rw [hitsM, List.range_succ, List.filter_append, List.map_append]
  by_cases h : hitM d p (m : Int) = true
  · rw [if_pos h, List.filter_cons_of_pos (p := fun v : Nat => hitM d p (v : Int)) h]; rfl
  · rw [if_neg h, List.filter_cons_of_neg (p := fun v : Nat => hitM d p (v : Int)) h, List.filter_nil, List.map_nil, List.append_nil]; rfl
theorem hits_le (d : List Int) (p : Pat) (m : Nat) : (hitsM d p m).length ≤ m := by
  rw [hitsM, List.length_map]
  have := List.length_filter_le (fun v : Nat => hitM d p (v : Int)) (List.range m)
  rwa [List.length_range] at this
set_option maxHeartbeats 4000000 in
set_option maxRecDepth 100000 in
theorem matched_calls {d : List Int} (hT : IsT d) (hn : d.length ≤ 24) {p : Pat} {vp : Value} {Ad : Option Addr} {cd : Nat} (hcd : d.length ≤ cd) (w : World) (hp : (kP 61).K w p [vp]) (hd : Kd.C (Kd.int .i64) w Ad d.length d) :
    Calls Try.prog 26 #[.agg #[.slice Ad d.length cd], vp] w fun e w' => ∃ v0, e = .returned v0 ∧ Kd.R (Kd.int .i64) 2 w' w.heap.size (fun _ => True) v0 (hitsM d p d.length) ∧ Below w.heap.size w w' := by
  have huT := Try.underlying27
  have info2 : (Try.prog.info? 2).map (fun i => (i.zero, i.size, i.bytes)) = some (some (.int .i64 0), 1, 8) := by kernel_rfl
  have INF := Aside0.mk info2
  clear info2
  have HD := Aside0.mk hd
  have HP := Aside0.mk hp
  have HN := Aside0.mk hn
  have C45 := Aside0.mk (fun v h0 h1 w hp hd => matchesAt_calls hT hn (n := 61) (p := p) (vp := vp) (Ad := Ad) hcd (v := v) h0 h1 w hp hd)
  clear hd hp hcd hT hn
  go_enter Try.func26, Try.ntmps26
  go_wp2_with (first | ((with_reducible refine gate_dst (N := 2) rfl ?_); refine box_event ?hg (N := 2) ?hd (cs := #[.slice Ad d.length cd]) (t := 27) ?hr ?_; (case hd => rfl); (case hg => rfl); (case hr => first | (go_simp; done) | (go_simp; rfl)); intro gb hg w3 hbox hb; have BX := Aside0.mk hbox; have HB3 := Aside0.mk hb; have GE := Aside0.mk (show w.heap.size ≤ gb by rw [hg]; exact Nat.le_refl _); clear hbox hb hg) | ((with_reducible refine gate_dst (N := 9) rfl ?_); refine Kd.R_lit (Kd.int .i64) _ 2 ?hg (N := 9) ?hd (xs := ([] : List Int)) (inner := []) (ok := fun _ => True) (okp := fun _ => True) ?hr ?hp (fun _ hk => hk) trivial (Below.refl _ _) (Nat.le_refl _) (by simp) ?_; (case hd => rfl); (case hg => rfl); (case hr => first | (go_simp; done) | (go_simp; rfl)); (case hp => exact (Reps.none _ _)); intro v5 w5 ho hb hg_ hnew_; have HO5 := Aside0.mk (Kd.R_lower ho (below_size HB3.out)); have HB5 := Aside0.mk (below_step HB3.out hb); have BX5 := Aside0.mk (blk_below BX.out hb); have hcz5 := (blk_cell BX5.out 0).trans rfl; clear hb hg_ hnew_ ho))
  go_loopg [13, 5] (d.length + 1) (fun kq v13 v5 w' => ∃ (i : Nat) (out : List Int), v13 = .int .i64 (i : Int) ∧ i + kq = d.length + 1 ∧ i ≤ d.length ∧ Aside0 (out = hitsM d p i) ∧ Aside0 (Kd.R (Kd.int .i64) 2 w' w.heap.size (fun _ => True) v5 out) ∧ Aside0 (w'.heap[gb]? = some (.cells #[.slice Ad d.length cd] 27 (0, 0))) ∧ Aside0 (Below w.heap.size w w'))
  case atStart => exact ⟨0, [], rfl, by omega, by omega, ⟨rfl⟩, ⟨HO5.out⟩, ⟨BX5.out⟩, ⟨HB5.out⟩⟩
  case round =>
    clear BX HB3 HO5 HB5 BX5 hcz5
    obtain ⟨i, out, rfl, hk, hil, HI, HO, BX, HB⟩ := hrel
    cases gk with
    | zero =>
      exfalso
      omega
    | succ gk =>
      by_cases hi : i < d.length
      · have hb1 : decide ((i : Int) < (d.length : Int)) = true := decide_eq_true (by omega)
        have C45 := Aside0.mk (C45.out (i : Int) (by omega) (by omega))
        have hcz := (blk_cell BX.out 0).trans rfl
        have hw : wrap64 ((i : Int) + 1) = ((i + 1 : Nat) : Int) := by have := HN.out; unfold wrap64; omega
        have hs := hits_step d p i
        rw [← HI.out] at hs
        have HL : Aside0 (out.length < 1000) := ⟨by have h1 := hits_le d p i; have h2 := HN.out; rw [← HI.out] at h1; omega⟩
        obtain ⟨b, hb⟩ : ∃ b, b = hitM d p (i : Int) := ⟨_, rfl⟩
        rw [← hb] at hs
        have HBB := Aside0.mk hb
        obtain ⟨A0, c0, e0⟩ := Kd.R_slice HO.out
        subst e0
        obtain ⟨y, hy⟩ : ∃ y, y = hitsM d p (i + 1) := ⟨_, rfl⟩
        rw [← hy] at hs
        have HY := Aside0.mk hy
        clear hb hy
        cases b with
        | true =>
          rw [if_pos rfl] at hs
          have HS := Aside0.mk hs
          clear hs
          go_wp2_with (first | (go_at_call 40; refine (C45.out _ (K_still HP.out (still_below HB.out)) (Kd.C_below HD.out HB.out)).mono ?_; rintro e w7 ⟨hb, g7, f7, he, _⟩; have he2 := he.trans (congrArg (fun b => Ending.returned (.tuple #[.map (some g7), .bool b])) HBB.out.symm); subst he2; clear he; have HO7 := Aside0.mk (Kd.R_below HO.out hb); have HB7 := Aside0.mk (below_step HB.out hb); have BX7 := Aside0.mk (blk_below BX.out hb); clear hb) | ((with_reducible refine gate_builtin (b := .append) (xs := #[.tmp 25, .tmp 27]) rfl ?_); (try (refine gate_guard (by rfl) ?_; dsimp only)); at_builtin; refine Kd.R_append (Kd.int .i64) (w0 := w) w.heap.size rfl (.tmp 25) (.tmp 27) 25 2 (.int .i64 0) 8 rfl Try.underlying25 INF.out rfl (by decide) (by omega) _ out (i : Int) [.int .i64 (i : Int)] (fun _ => True) (fun _ => False) rfl rfl ?aP (fun _ hk => hk.elim) ?aF ?aO ?aB ?aS ?aL ?_; (case aP => exact rfl); (case aF => exact fun _ _ => trivial); (case aO => exact HO7.out); (case aB => exact HB7.out); (case aS => exact below_size HB7.out); (case aL => have := HL.out; omega); intro v8 w8 ho hb hg hat; rw [← HS.out] at ho; have HO8 := Aside0.mk ho; have HB8 := Aside0.mk hb; have BX8 := Aside0.mk (blk_grown BX7.out hg (Kd.R_ne HO7.out BX7.out (by decide))); clear ho hb hg hat))
          go_roundg gk
          case measure => omega
          case rel => exact ⟨i + 1, y, by first | (rw [hw]; done) | rfl | (congr 1; omega), by omega, by omega, ⟨HY.out⟩, ⟨HO8.out⟩, ⟨BX8.out⟩, ⟨HB8.out⟩⟩
        | false =>
          rw [if_neg (by decide)] at hs
          have HS := Aside0.mk hs
          clear hs
          go_wp2_with (first | (go_at_call 40; refine (C45.out _ (K_still HP.out (still_below HB.out)) (Kd.C_below HD.out HB.out)).mono ?_; rintro e w7 ⟨hb, g7, f7, he, _⟩; have he2 := he.trans (congrArg (fun b => Ending.returned (.tuple #[.map (some g7), .bool b])) HBB.out.symm); subst he2; clear he; have HO7 := Aside0.mk (Kd.R_below HO.out hb); have HB7 := Aside0.mk (below_step HB.out hb); have BX7 := Aside0.mk (blk_below BX.out hb); clear hb))
          go_roundg gk
          case measure => omega
          case rel => exact ⟨i + 1, out, by first | (rw [hw]; done) | rfl | (congr 1; omega), by omega, by omega, ⟨HS.out.symm.trans HY.out⟩, ⟨HO7.out⟩, ⟨BX7.out⟩, ⟨HB7.out⟩⟩
      · have hb1 : decide ((i : Int) < (d.length : Int)) = false := decide_eq_false (by omega)
        have hid : i = d.length := by omega
        have HI2 : Aside0 (out = hitsM d p d.length) := ⟨by rw [HI.out, hid]⟩
        clear hid
        go_wp2
        go_ret
        exact ⟨_, rfl, by rw [← HI2.out]; exact HO.out, HB.out⟩
end Go.Proofs.Ytjdhjapbggnhkaa.P

namespace Go.Proofs.Ytjdhjapbggnhkaa.P
set_option linter.unusedVariables false
set_option linter.unusedSectionVars false
open Go.RowKit Go.Proofs.YtjdhjapbggnhkaaW.PrintWords Go.Proofs.YtjdhjapbggnhkaaW.PrintLast Go.Proofs.YtjdhjapbggnhkaaW.PrintMore Go.Proofs.Ytjdhjapbggnhkaa.Base Go.Proofs.Ytjdhjapbggnhkaa.Tree Go.Proofs.Ytjdhjapbggnhkaa.E
def hitT (p : Pat) (t : List Int) : Bool := decide (0 < (hitsM t p t.length).length)
theorem run_clear_tree {P : Program} (w : World) (t e ty : TypeId) (z u : Value) (ht : P.underlying t = some (.slice e)) (hv : ∀ w, (zeroValue e).run P w = .ok z w) (hz : z.cells = #[u]) (h1 : u.oneCell' = true) (b o n c : Nat) (hn : 0 < n)
    (hc : ∀ j, j < n → (w.cell? ⟨b, o + j, none⟩).isSome = true) (hf : ∀ j, j < n → w.frozen? ⟨b, o + j, none⟩ = false) :
    (Builtin.clear_ #[t] ty #[.slice (some ⟨b, o, none⟩) n c]).run P w = .ok (.tuple #[]) (w.setCells b o (List.replicate n u)) := by
  have hzc : (Builtin.zeroCells z.cells n).toList = List.replicate n u := by
    rw [hz]
    simp [Builtin.zeroCells]
    apply List.ext_getElem
    · simp
    · intro i h1 h2
      simp [Nat.mod_one]
  have hst := run_storeCells_cells (P := P) b o (List.replicate n u) 0 w (by simpa using hc) (by simpa using hf) (by intro v hv'; rw [List.eq_of_mem_replicate hv']; exact h1)
  simp only [Nat.add_zero] at hst
  obtain ⟨m, rfl⟩ : ∃ m, n = m + 1 := ⟨n - 1, by omega⟩
  simp [Builtin.clear_, run_underlying ht, hv, hzc, hst]
theorem put_tree {e base g n cap : Nat} {W : World} {xs : List S27} (h : Kd.R k27 e W base (fun _ => True) (.slice (some ⟨g, 0, none⟩) n cap) xs) (i : Nat) (hi : i < n) {v : Value} {x : S27} (hM : k27.M W base (fun k => True ∧ k ≠ g) x [v]) :
    Kd.R k27 e (W.setCell ⟨g, i, none⟩ v) base (fun _ => True) (.slice (some ⟨g, 0, none⟩) n cap) (xs.set i x) ∧ W.grownBy (W.setCell ⟨g, i, none⟩ v) (some g) := by
  obtain ⟨c, hcl, _, hcc, _⟩ := Kd.R_elem h z27 (i : Int) (by omega) (by omega)
  have hcl1 : c.length = 1 := hcl
  have e1 : c.take 0 ++ [v] ++ c.drop (0 + [v].length) = [v] := by
    have : c.drop 1 = [] := List.drop_eq_nil_of_le (by omega)
    simp [this]
  have := Kd.R_seg h (i : Int) (by omega) (by omega) hcl hcc (seg := [v]) (j := 0) (show 0 + 1 ≤ 1 by omega) (okp := fun k => True ∧ k ≠ g) (x' := x) (by rw [e1]; exact hM) (fun k hk => hk)
  have e2 : (i : Int).toNat * (k27).sz + 0 = i := by show i * 1 + 0 = i; omega
  rw [e2] at this
  exact this
theorem cell_tree {e base g n cap : Nat} {W : World} {xs : List S27} (h : Kd.R k27 e W base (fun _ => True) (.slice (some ⟨g, 0, none⟩) n cap) xs) {a : Nat} (ha : a < n) : ∃ va, W.cell? ⟨g, (a : Int).toNat, none⟩ = some va ∧ W.frozen? ⟨g, (a : Int).toNat, none⟩ = false := by
  obtain ⟨c, hcl, hM, hcc, hfc⟩ := Kd.R_elem h z27 (a : Int) (by omega) (by omega)
  obtain ⟨va, rfl, _⟩ := k27_openM hM
  have h1 := hcc 0 va rfl
  have h2 := hfc 0
  rw [Nat.add_zero, show (k27).sz = 1 from rfl, Nat.mul_one] at h1 h2
  exact ⟨va, h1, h2⟩
theorem zeros_tree {e base g n cap : Nat} : ∀ (m o : Nat) (W : World) (xs : List S27), o + m ≤ n → Kd.R k27 e W base (fun _ => True) (.slice (some ⟨g, 0, none⟩) n cap) xs →
    ∃ ys : List S27, Kd.R k27 e (W.setCells g o (List.replicate m (.slice none 0 0))) base (fun _ => True) (.slice (some ⟨g, 0, none⟩) n cap) ys ∧ ys.take o = xs.take o ∧ W.grownBy (W.setCells g o (List.replicate m (.slice none 0 0))) (some g)
  | 0, o, W, xs, _, h => ⟨xs, h, rfl, World.grownBy.refl _ _⟩
  | m + 1, o, W, xs, ho, h => by
    obtain ⟨h1, h2⟩ := put_tree h o (by omega) (v := .slice none 0 0) (x := z27) (k27_mkM _ _ _ z27 (Kd.R_nil _ _ _ _ _))
    obtain ⟨ys, h3, h4, h5⟩ := zeros_tree m (o + 1) _ _ (by omega) h1
    refine ⟨ys, h3, ?_, h2.trans h5⟩
    have e := congrArg (List.take o) h4
    rw [List.take_take, List.take_take, Nat.min_eq_left (by omega)] at e
    rw [e]
    apply List.ext_getElem?
    intro j
    rw [List.getElem?_take, List.getElem?_take]
    split
    · rw [List.getElem?_set_ne (by omega)]
    · rfl
def AllT (ts : List S27) : Prop := ∀ x ∈ ts, IsT x.f0 ∧ x.f0.length ≤ 24
set_option maxHeartbeats 4000000 in
set_option maxRecDepth 100000 in
theorem closure_calls {d : List Int} (hT : IsT d) (hn : d.length ≤ 24) {p : Pat} {vp : Value} {gb : Nat} {Ad : Option Addr} {cd : Nat} (hcd : d.length ≤ cd) (w : World) (hbx : w.heap[gb]? = some (.cells #[vp] 43 (0, 0))) (hp : (kP 61).K w p [vp]) (hd : Kd.C (Kd.int .i64) w Ad d.length d) :
    Calls Try.prog 25 #[.agg #[.slice Ad d.length cd], .pointer (some ⟨gb, 0, none⟩)] w fun e w' => e = .returned (.bool (hitT p d)) ∧ Below w.heap.size w w' := by
  have huT := Try.underlying27
  have HD := Aside0.mk hd
  have HP := Aside0.mk hp
  have C47 := Aside0.mk (fun w hp hd => matched_calls hT hn (p := p) (vp := vp) (Ad := Ad) hcd w hp hd)
  have hcb : w.cell? ⟨gb, 0, none⟩ = some vp := (blk_cell hbx 0).trans rfl
  obtain ⟨H, hH⟩ : ∃ H, H = hitsM d p d.length := ⟨_, rfl⟩
  rw [← hH] at C47
  have HH := Aside0.mk hH
  clear hd hp hcd hT hn hbx hH
  go_enter Try.func25, Try.ntmps25
  go_wp2_with (first | ((with_reducible refine gate_dst (N := 2) rfl ?_); refine box_event ?hg (N := 2) ?hd (cs := #[.slice Ad d.length cd]) (t := 27) ?hr ?_; (case hd => rfl); (case hg => rfl); (case hr => first | (go_simp; done) | (go_simp; rfl)); intro ga hg w3 hbox hb; have HB3 := Aside0.mk hb; have hcz := (blk_cell hbox 0).trans rfl; have hcb3 := pw_cell_below hb hcb; clear hbox hb hg) | (go_at_call 26; refine (C47.out _ (K_still HP.out (still_below HB3.out)) (Kd.C_below HD.out HB3.out)).mono ?_; rintro e w4 ⟨v4, rfl, hR, hb⟩; have HR4 := Aside0.mk hR; have HB4 := Aside0.mk (below_step HB3.out hb); clear hb hR; obtain ⟨A4, c4, e4⟩ := Kd.R_slice HR4.out; subst e4))
  go_ret
  refine ⟨?_, HB4.out⟩
  rw [hitT, ← HH.out]
  first | rfl | (show Ending.returned (Value.bool _) = Ending.returned (Value.bool _); congr 2; exact decide_eq_decide.2 (by omega))
def noHit (p : Pat) (xs : List S27) (m : Nat) : Prop := ∀ j : Nat, j < m → hitT p (rd_T27 xs (j : Int)).f0 = false
def IsIdx (p : Pat) (xs : List S27) (r : Int) : Prop := (r = -1 ∧ noHit p xs xs.length) ∨ ∃ n : Nat, r = (n : Int) ∧ n < xs.length ∧ noHit p xs n ∧ hitT p (rd_T27 xs (n : Int)).f0 = true
theorem noHit_up {p : Pat} {xs : List S27} {m : Nat} (h : noHit p xs m) (h1 : hitT p (rd_T27 xs (m : Int)).f0 = false) : noHit p xs (m + 1) := by
  intro j hj
  by_cases e : j = m
  · rw [e]; exact h1
  · exact h j (by omega)
theorem idx_from (p : Pat) (xs : List S27) : ∀ (m i : Nat), i + m = xs.length → noHit p xs i → ∃ r, IsIdx p xs r
  | 0, i, hi, h => ⟨-1, .inl ⟨rfl, by rw [show xs.length = i by omega]; exact h⟩⟩
  | m + 1, i, hi, h => by
    cases hb : hitT p (rd_T27 xs (i : Int)).f0 with
    | true => exact ⟨_, .inr ⟨i, rfl, by omega, h, hb⟩⟩
    | false => exact idx_from p xs m (i + 1) (by omega) (noHit_up h hb)
theorem idx_exists (p : Pat) (xs : List S27) : ∃ r, IsIdx p xs r := idx_from p xs xs.length 0 (by omega) (fun j hj => absurd hj (by omega))
theorem idx_hit {p : Pat} {xs : List S27} {r : Int} (h : IsIdx p xs r) {n : Nat} (hn : n < xs.length) (h0 : noHit p xs n) (h1 : hitT p (rd_T27 xs (n : Int)).f0 = true) : r = (n : Int) := by
  rcases h with ⟨_, h2⟩ | ⟨m, rfl, hm, h2, h3⟩
  · rw [h2 n hn] at h1; cases h1
  · by_cases e1 : n < m
    · rw [h2 n e1] at h1; cases h1
    · by_cases e2 : m < n
      · rw [h0 m e2] at h3; cases h3
      · rw [show n = m by omega]
theorem idx_none {p : Pat} {xs : List S27} {r : Int} (h : IsIdx p xs r) (h0 : noHit p xs xs.length) : r = -1 := by
  rcases h with ⟨h1, _⟩ | ⟨m, _, hm, _, h3⟩
  · exact h1
  · rw [h0 m hm] at h3; cases h3
theorem rdT_get {ts : List S27} {i : Nat} (h : i < ts.length) : rd_T27 ts (i : Int) = ts[i] := by
  show ts.getD (i : Int).toNat z27 = _
  rw [Int.toNat_natCast, List.getD_eq_getElem?_getD, List.getElem?_eq_getElem h]; rfl
theorem allT_rd {ts : List S27} (h : AllT ts) {i : Nat} (hi : i < ts.length) : IsT (rd_T27 ts (i : Int)).f0 ∧ (rd_T27 ts (i : Int)).f0.length ≤ 24 := by
  rw [rdT_get hi]
  exact h _ (List.getElem_mem hi)
set_option maxHeartbeats 4000000 in
set_option maxRecDepth 100000 in
theorem index_calls {p : Pat} {vp : Value} {gb : Nat} {xs : List S27} (hT : AllT xs) (hl : xs.length ≤ 100000000) {A : Option Addr} {c : Nat} {r : Int} (hr0 : IsIdx p xs r) (w : World) (hbx : w.heap[gb]? = some (.cells #[vp] 43 (0, 0))) (hp : (kP 61).K w p [vp]) (hr : Kd.C k27 w A xs.length xs) :
    Calls Try.prog 38 #[.slice A xs.length c, .func (.func 25) #[] #[.pointer (some ⟨gb, 0, none⟩)]] w fun e w' => e = .returned (.int .i64 r) ∧ Below w.heap.size w w' := by
  have HR := Aside0.mk hr
  have HX := Aside0.mk hbx
  have HP := Aside0.mk hp
  have HN := Aside0.mk hl
  have HI0 := Aside0.mk hr0
  have CL := Aside0.mk (fun (i : Nat) (hi : i < xs.length) (Ad : Option Addr) (cd : Nat) (hcd : (rd_T27 xs (i : Int)).f0.length ≤ cd) (w : World) hbx hp hd => closure_calls (allT_rd hT hi).1 (allT_rd hT hi).2 (p := p) (vp := vp) (gb := gb) (Ad := Ad) hcd w hbx hp hd)
  clear hr hbx hp hr0 hT
  go_enter Try.func38, Try.ntmps38
  go_wp2
  go_loopg [8] (xs.length + 1) (fun kq v8 w' => ∃ i : Nat, v8 = .int .i64 (i : Int) ∧ i + kq = xs.length + 1 ∧ i ≤ xs.length ∧ Aside0 (noHit p xs i) ∧ Aside0 (Below w.heap.size w w'))
  case atStart => exact ⟨0, rfl, by omega, by omega, ⟨fun j hj => absurd hj (by omega)⟩, ⟨by repeat (first | exact Below.refl _ _ | apply below_alloc | apply pw_below_drewN | apply below_drew1)⟩⟩
  case round =>
    obtain ⟨i, rfl, hk, hil, HI, HB⟩ := hrel
    cases gk with
    | zero =>
      exfalso
      omega
    | succ gk =>
      by_cases hi : i < xs.length
      · have hb1 : decide ((i : Int) < (xs.length : Int)) = true := decide_eq_true (by omega)
        have p1 := eq_true (show 0 ≤ (i : Int) by omega)
        have q1 := eq_true (show (i : Int) < (xs.length : Int) by omega)
        have hw : wrap64 ((i : Int) + 1) = ((i + 1 : Nat) : Int) := by have := HN.out; unfold wrap64; omega
        obtain ⟨ad, A0, c0, eA, hx0, hl0, hi0⟩ := at_T27 (Kd.C_below HR.out HB.out) (i : Int) (by omega) (by omega)
        cases eA
        replace hx0 : wr.cell? (ad.add i) = some (.slice A0 (rd_T27 xs (i : Int)).f0.length c0) := hx0
        have CLi := Aside0.mk (CL.out i hi A0 c0 hl0)
        have HD0 := Aside0.mk hi0
        clear hi0 hl0
        obtain ⟨b, hb⟩ : ∃ b, b = hitT p (rd_T27 xs (i : Int)).f0 := ⟨_, rfl⟩
        have HBB := Aside0.mk hb
        clear hb
        cases b with
        | true =>
          go_wp2_with (first | (go_at_call 25; refine (CLi.out _ (blk_below HX.out HB.out) (K_still HP.out (still_below HB.out)) HD0.out).mono ?_; rintro e w5 ⟨he, hb⟩; have he2 := he.trans (congrArg (fun b => Ending.returned (.bool b)) HBB.out.symm); subst he2; clear he; have HB5 := Aside0.mk (below_step HB.out hb); clear hb))
          go_ret
          exact ⟨by rw [idx_hit HI0.out hi HI.out HBB.out.symm]; rfl, HB5.out⟩
        | false =>
          go_wp2_with (first | (go_at_call 25; refine (CLi.out _ (blk_below HX.out HB.out) (K_still HP.out (still_below HB.out)) HD0.out).mono ?_; rintro e w5 ⟨he, hb⟩; have he2 := he.trans (congrArg (fun b => Ending.returned (.bool b)) HBB.out.symm); subst he2; clear he; have HB5 := Aside0.mk (below_step HB.out hb); clear hb))
          go_roundg gk
          case measure => omega
          case rel => exact ⟨i + 1, by first | (rw [hw]; done) | rfl | (congr 1; omega), by omega, by omega, ⟨noHit_up HI.out HBB.out.symm⟩, ⟨HB5.out⟩⟩
      · have hb1 : decide ((i : Int) < (xs.length : Int)) = false := decide_eq_false (by omega)
        have hid : Aside0 (noHit p xs xs.length) := ⟨by have h := HI.out; rw [show i = xs.length by omega] at h; exact h⟩
        go_wp2
        go_ret
        exact ⟨by rw [idx_none HI0.out hid.out]; rfl, HB.out⟩
end Go.Proofs.Ytjdhjapbggnhkaa.P
namespace Go.Proofs.Ytjdhjapbggnhkaa.P
set_option linter.unusedVariables false
set_option linter.unusedSectionVars false
open Go.RowKit Go.Proofs.YtjdhjapbggnhkaaW.PrintWords Go.Proofs.YtjdhjapbggnhkaaW.PrintLast Go.Proofs.YtjdhjapbggnhkaaW.PrintMore Go.Proofs.Ytjdhjapbggnhkaa.Base Go.Proofs.Ytjdhjapbggnhkaa.Tree Go.Proofs.Ytjdhjapbggnhkaa.E
def keepT (p : Pat) (x : S27) : Bool := !(hitT p x.f0)
def DInv (p : Pat) (ts xs : List S27) (a j : Nat) : Prop := xs.length = ts.length ∧ xs.drop j = ts.drop j ∧ xs.take a = (ts.take j).filter (keepT p) ∧ a < j ∧ j ≤ ts.length
theorem dinv_rd {p : Pat} {ts xs : List S27} {a j : Nat} (h : DInv p ts xs a j) (hj : j < ts.length) : rd_T27 xs (j : Int) = rd_T27 ts (j : Int) := by
  have hl := h.1
  have e := congrArg (fun l => l[0]?) h.2.1
  simp only [List.getElem?_drop, Nat.add_zero] at e
  rw [rdT_get (by omega), rdT_get hj]
  rw [List.getElem?_eq_getElem (by omega), List.getElem?_eq_getElem hj] at e
  exact Option.some.inj e
theorem keep_step (p : Pat) {ts : List S27} {j : Nat} (hj : j < ts.length) : (ts.take (j + 1)).filter (keepT p) = if hitT p (rd_T27 ts (j : Int)).f0 = true then (ts.take j).filter (keepT p) else (ts.take j).filter (keepT p) ++ [rd_T27 ts (j : Int)] := by
  rw [List.take_succ_eq_append_getElem hj, List.filter_append, rdT_get hj]
  split
  · rename_i h
    rw [List.filter_cons_of_neg (by rw [keepT, h]; decide), List.filter_nil, List.append_nil]
  · rename_i h
    rw [List.filter_cons_of_pos (by rw [keepT, Bool.eq_false_iff.2 h]; decide), List.filter_nil]
theorem keep_noHit (p : Pat) {ts : List S27} : ∀ n : Nat, n ≤ ts.length → noHit p ts n → (ts.take n).filter (keepT p) = ts.take n
  | 0, _, _ => rfl
  | n + 1, hn, h => by
    rw [keep_step p (by omega), if_neg (by rw [h n (by omega)]; decide), keep_noHit p n (by omega) (fun j hj => h j (by omega)), List.take_succ_eq_append_getElem (by omega), rdT_get (by omega)]
theorem keep_all {p : Pat} {ts : List S27} (h : noHit p ts ts.length) : ts.filter (keepT p) = ts := by
  have := keep_noHit p ts.length (Nat.le_refl _) h
  rwa [List.take_length] at this
theorem dinv_start {p : Pat} {ts : List S27} {n : Nat} (hn : n < ts.length) (h0 : noHit p ts n) (h1 : hitT p (rd_T27 ts (n : Int)).f0 = true) : DInv p ts ts n (n + 1) := by
  refine ⟨rfl, rfl, ?_, by omega, by omega⟩
  rw [keep_step p hn, if_pos h1, keep_noHit p n (by omega) h0]
theorem dinv_drop {p : Pat} {ts xs : List S27} {a j : Nat} (h : DInv p ts xs a j) (hj : j < ts.length) (h1 : hitT p (rd_T27 ts (j : Int)).f0 = true) : DInv p ts xs a (j + 1) := by
  obtain ⟨h2, h3, h4, h5, _⟩ := h
  refine ⟨h2, ?_, by rw [keep_step p hj, if_pos h1, h4], by omega, by omega⟩
  have := congrArg (List.drop 1) h3
  rwa [List.drop_drop, List.drop_drop] at this
theorem dinv_keep {p : Pat} {ts xs : List S27} {a j : Nat} (h : DInv p ts xs a j) (hj : j < ts.length) (h1 : hitT p (rd_T27 ts (j : Int)).f0 = false) : DInv p ts (xs.set a (rd_T27 ts (j : Int))) (a + 1) (j + 1) := by
  obtain ⟨h2, h3, h4, h5, _⟩ := h
  refine ⟨by rw [List.length_set]; exact h2, ?_, ?_, by omega, by omega⟩
  · have := congrArg (List.drop 1) h3
    rw [List.drop_drop, List.drop_drop] at this
    rw [List.drop_set_of_lt (by omega)]
    exact this
  · rw [keep_step p hj, if_neg (by rw [h1]; decide), ← h4, List.take_succ_eq_append_getElem (by rw [List.length_set]; omega), List.getElem_set_self, List.take_set_of_le (Nat.le_refl _)]
theorem dinv_end {p : Pat} {ts xs : List S27} {a j : Nat} (h : DInv p ts xs a j) (hj : ¬ j < ts.length) : xs.take a = ts.filter (keepT p) := by
  rw [h.2.2.1, List.take_of_length_le (by omega)]
set_option maxHeartbeats 4000000 in
set_option maxRecDepth 100000 in
theorem delete_calls {p : Pat} {vp : Value} {gb : Nat} {ts : List S27} (hT : AllT ts) (hl : ts.length ≤ 100000000) (w0 w : World) (hB : Below w0.heap.size w0 w) (hbx : w0.heap[gb]? = some (.cells #[vp] 43 (0, 0))) (hp : (kP 61).K w0 p [vp]) {u : Value} (ho : Kd.R k27 27 w w0.heap.size (fun _ => True) u ts) :
    Calls Try.prog 23 #[u, .func (.func 25) #[] #[.pointer (some ⟨gb, 0, none⟩)]] w fun e w' => ∃ v, e = .returned v ∧ Kd.R k27 27 w' w0.heap.size (fun _ => True) v (ts.filter (keepT p)) ∧ Below w0.heap.size w0 w' := by
  obtain ⟨Ao, co, rfl⟩ := Kd.R_slice ho
  obtain ⟨r, hr⟩ := idx_exists p ts
  have C38 := Aside0.mk (index_calls hT hl hr w (blk_below hbx hB) (K_still hp (still_below hB)) (Kd.R_reads' ho).2.2 (A := Ao) (c := co))
  have CL := Aside0.mk (fun (i : Nat) (hi : i < ts.length) (Ad : Option Addr) (cd : Nat) (hcd : (rd_T27 ts (i : Int)).f0.length ≤ cd) (w : World) hbx hp hd => closure_calls (allT_rd hT hi).1 (allT_rd hT hi).2 (p := p) (vp := vp) (gb := gb) (Ad := Ad) hcd w hbx hp hd)
  have HO := Aside0.mk ho
  have HB := Aside0.mk hB
  have HX := Aside0.mk hbx
  have HP := Aside0.mk hp
  have LN := Aside0.mk hl
  clear ho hB hbx hp hl hT
  rcases hr with ⟨rfl, h0⟩ | ⟨n, rfl, hn, h0, h1⟩
  · have E1 := Aside0.mk (keep_all h0)
    clear h0
    go_enter Try.func23, Try.ntmps23
    go_wp2_with (first | (go_at_call 38; refine C38.out.mono ?_; rintro e w2 ⟨rfl, hb⟩; have HO2 := Aside0.mk (Kd.R_below HO.out hb); have HB2 := Aside0.mk (below_step HB.out hb); clear hb))
    go_ret
    exact ⟨_, rfl, by rw [E1.out]; exact HO2.out, HB2.out⟩
  · have hne : ((n : Int) == -1) = false := beq_eq_false_iff_ne.2 (by omega)
    have hw0 : wrap64 ((n : Int) + 1) = ((n + 1 : Nat) : Int) := by have := LN.out; unfold wrap64; omega
    have D0 := Aside0.mk (dinv_start hn h0 h1)
    obtain ⟨g, cap, eo, hg, _, _, _⟩ := Kd.R_form HO.out (by omega)
    injection eo with ea _ ec
    subst ea ec
    have HG := Aside0.mk hg
    clear h0 h1 hg
    go_enter Try.func23, Try.ntmps23
    go_wp2_with (first | (go_at_call 38; refine C38.out.mono ?_; rintro e w2 ⟨rfl, hb⟩; have HO2 := Aside0.mk (Kd.R_below HO.out hb); have HB2 := Aside0.mk (below_step HB.out hb); clear hb))
    go_loopg [5, 6] (ts.length - n) (fun kq v5 v6 w' => ∃ (a j : Nat) (xs : List S27), v5 = .int .i64 (a : Int) ∧ v6 = .int .i64 (j : Int) ∧ j + kq = ts.length + 1 ∧ Aside0 (DInv p ts xs a j) ∧ Aside0 (Kd.R k27 27 w' w0.heap.size (fun _ => True) (.slice (some ⟨g, 0, none⟩) ts.length co) xs) ∧ Aside0 (Below w0.heap.size w0 w'))
    case atStart => exact ⟨n, n + 1, ts, rfl, by first | (rw [hw0]; done) | rfl | (congr 1; omega), by omega, ⟨D0.out⟩, ⟨HO2.out⟩, ⟨HB2.out⟩⟩
    case round =>
      clear HO HB HO2 HB2 D0 C38 hne hw0
      obtain ⟨a, j, xs, rfl, rfl, hk, HD, HO, HB⟩ := hrel
      have haj := HD.out.2.2.2.1
      have hjl := HD.out.2.2.2.2
      cases gk with
      | zero =>
        exfalso
        omega
      | succ gk =>
        by_cases hj : j < ts.length
        · have hb1 : decide ((j : Int) < (ts.length : Int)) = true := decide_eq_true (by omega)
          have p1 := eq_true (show 0 ≤ (j : Int) by omega)
          have q1 := eq_true (show (j : Int) < (ts.length : Int) by omega)
          have p2 := eq_true (show 0 ≤ (a : Int) by omega)
          have q2 := eq_true (show (a : Int) < (ts.length : Int) by omega)
          have hwj : wrap64 ((j : Int) + 1) = ((j + 1 : Nat) : Int) := by have := LN.out; unfold wrap64; omega
          have hwa : wrap64 ((a : Int) + 1) = ((a + 1 : Nat) : Int) := by have := LN.out; unfold wrap64; omega
          obtain ⟨cs, hcl, hM, hcc, hfc⟩ := Kd.R_elem HO.out z27 (j : Int) (by omega) (by omega)
          have ex : xs.getD (j : Int).toNat z27 = rd_T27 ts (j : Int) := dinv_rd HD.out hj
          rw [ex] at hM
          obtain ⟨v0, rfl, hR0⟩ := k27_openM hM
          obtain ⟨A0, c0, rfl⟩ := Kd.R_slice hR0
          have hx : wr.cell? ⟨g, j, none⟩ = some (.slice A0 (rd_T27 ts (j : Int)).f0.length c0) := by
            have h := hcc 0 _ rfl
            rw [Nat.add_zero, show (k27).sz = 1 from rfl, Nat.mul_one] at h
            exact h
          obtain ⟨_, hl0, hC0⟩ := Kd.R_reads' hR0
          have CLj := Aside0.mk (CL.out j hj A0 c0 hl0)
          have HD0 := Aside0.mk hC0
          have HM := Aside0.mk hM
          have QA : Aside0 (a < ts.length) := ⟨by omega⟩
          have HJ := Aside0.mk hj
          clear hM hR0 hcc hfc hcl ex hl0 hC0
          obtain ⟨b, hb⟩ : ∃ b, b = hitT p (rd_T27 ts (j : Int)).f0 := ⟨_, rfl⟩
          have HBB := Aside0.mk hb
          clear hb
          cases b with
          | true =>
            go_wp2_with (first | ((with_reducible refine gate_dst (N := 7) rfl ?_); refine box_event ?hg (N := 7) ?hd (cs := #[.slice none 0 0]) (t := 27) ?hr ?_; (case hd => rfl); (case hg => rfl); (case hr => first | (go_simp; done) | (go_simp; rfl)); intro gv hg w4 hbox hb; have BV4 := Aside0.mk hbox; have HW4 := Aside0.mk hb; have GV := Aside0.mk (show wr.heap.size ≤ gv by rw [hg]; exact Nat.le_refl _); have hczv := (blk_cell hbox 0).trans rfl; have hfzv := blk_frozen hbox 0; clear hbox hb hg) | ((with_reducible refine gate_store (t := 27) (p := 7) rfl ?_); refine store_event (t := 27) (p := 7) (v := ?vo) (w1 := w4.setCell ⟨gv, 0, none⟩ (.slice A0 (rd_T27 ts (j : Int)).f0.length c0)) ?hg ?ho ?hn ?hr ?_; (case ho => rfl); (case hg => rfl); (case hn => rfl); (case hr => first | (go_simp; done) | (go_simp; rfl)); intro w5 hw; have BV5 : Aside0 (w5.heap[gv]? = some (.cells #[.slice A0 (rd_T27 ts (j : Int)).f0.length c0] 27 (0, 0))) := ⟨by rw [hw]; exact blk_put BV4.out 0 _ rfl⟩; have HW5 : Aside0 (Below wr.heap.size wr w5) := ⟨by rw [hw]; exact below_set HW4.out GV.out⟩; have hcz5 := (blk_cell BV5.out 0).trans rfl; clear hw hczv hfzv) | (go_at_call 25; refine (CLj.out _ (blk_below HX.out (below_step HB.out HW5.out)) (K_still HP.out (still_below (below_step HB.out HW5.out))) (Kd.C_below HD0.out HW5.out)).mono ?_; rintro e w6 ⟨he, hb⟩; have he2 := he.trans (congrArg (fun b => Ending.returned (.bool b)) HBB.out.symm); subst he2; clear he; have HW6 := Aside0.mk (below_step HW5.out hb); clear hb))
            go_roundg gk
            case measure => omega
            case rel => exact ⟨a, j + 1, xs, rfl, by first | (rw [hwj]; done) | rfl | (congr 1; omega), by omega, ⟨dinv_drop HD.out HJ.out HBB.out.symm⟩, ⟨Kd.R_below HO.out HW6.out⟩, ⟨below_step HB.out HW6.out⟩⟩
          | false =>
            go_wp2_with (first | ((with_reducible refine gate_dst (N := 7) rfl ?_); refine box_event ?hg (N := 7) ?hd (cs := #[.slice none 0 0]) (t := 27) ?hr ?_; (case hd => rfl); (case hg => rfl); (case hr => first | (go_simp; done) | (go_simp; rfl)); intro gv hg w4 hbox hb; have BV4 := Aside0.mk hbox; have HW4 := Aside0.mk hb; have GV := Aside0.mk (show wr.heap.size ≤ gv by rw [hg]; exact Nat.le_refl _); have hczv := (blk_cell hbox 0).trans rfl; have hfzv := blk_frozen hbox 0; clear hbox hb hg) | ((with_reducible refine gate_store (t := 27) (p := 7) rfl ?_); refine store_event (t := 27) (p := 7) (v := ?vo) (w1 := w4.setCell ⟨gv, 0, none⟩ (.slice A0 (rd_T27 ts (j : Int)).f0.length c0)) ?hg ?ho ?hn ?hr ?_; (case ho => rfl); (case hg => rfl); (case hn => rfl); (case hr => first | (go_simp; done) | (go_simp; rfl)); intro w5 hw; have BV5 : Aside0 (w5.heap[gv]? = some (.cells #[.slice A0 (rd_T27 ts (j : Int)).f0.length c0] 27 (0, 0))) := ⟨by rw [hw]; exact blk_put BV4.out 0 _ rfl⟩; have HW5 : Aside0 (Below wr.heap.size wr w5) := ⟨by rw [hw]; exact below_set HW4.out GV.out⟩; have hcz5 := (blk_cell BV5.out 0).trans rfl; clear hw hczv hfzv) | (go_at_call 25; refine (CLj.out _ (blk_below HX.out (below_step HB.out HW5.out)) (K_still HP.out (still_below (below_step HB.out HW5.out))) (Kd.C_below HD0.out HW5.out)).mono ?_; rintro e w6 ⟨he, hb⟩; have he2 := he.trans (congrArg (fun b => Ending.returned (.bool b)) HBB.out.symm); subst he2; clear he; have HW6 := Aside0.mk (below_step HW5.out hb); have hcz6 := (blk_cell (blk_below BV5.out hb) 0).trans rfl; have HO6 := Aside0.mk (Kd.R_below HO.out HW6.out); obtain ⟨va, hxa0, hfza0⟩ := cell_tree HO6.out QA.out; have hxa : w6.cell? ⟨g, a, none⟩ = some va := hxa0; have hfza : w6.frozen? ⟨g, a, none⟩ = false := hfza0; clear hxa0 hfza0; clear hb hcz5))
            go_roundg gk
            case measure => omega
            case rel => exact ⟨a + 1, j + 1, _, by first | (rw [hwa]; done) | rfl | (congr 1; omega), by first | (rw [hwj]; done) | rfl | (congr 1; omega), by omega, ⟨dinv_keep HD.out HJ.out HBB.out.symm⟩, ⟨(put_tree HO6.out a QA.out (Kd.M_below HM.out HW6.out)).1⟩, ⟨below_set (below_step HB.out HW6.out) HG.out⟩⟩
        · have hb1 : decide ((j : Int) < (ts.length : Int)) = false := decide_eq_false (by omega)
          have EE := Aside0.mk (dinv_end HD.out hj)
          have hal : a < ts.length := by omega
          have hxl := HD.out.1
          have hle : ts.length ≤ co := (Kd.R_reads' HO.out).2.1
          have hcl : ∀ ty, (Builtin.clear_ #[33] ty #[.slice (some ⟨g, a, none⟩) (ts.length - a) (co - a)]).run Try.prog wr = .ok (.tuple #[]) (wr.setCells g a (List.replicate (ts.length - a) (.slice none 0 0))) :=
            fun ty => run_clear_tree wr _ _ ty (.agg #[.slice none 0 0]) (.slice none 0 0) Try.underlying33 (fun w => by kernel_rfl) rfl rfl g a _ _ (by omega)
              (fun i hi => by
                obtain ⟨va, hxa, _⟩ := cell_tree HO.out (a := a + i) (by omega)
                have hxa' : wr.cell? ⟨g, a + i, none⟩ = some va := hxa
                rw [hxa']; rfl)
              (fun i hi => by
                obtain ⟨va, _, hfza⟩ := cell_tree HO.out (a := a + i) (by omega)
                exact hfza)
          obtain ⟨ys, hy1, hy2, hy3⟩ := zeros_tree (ts.length - a) a wr xs (by omega) HO.out
          have HY := Aside0.mk hy1
          have HY2 := Aside0.mk hy2
          have HY3 := Aside0.mk hy3
          have ML : Aside0 (a ≤ ys.length) := ⟨by have := (Kd.R_reads' hy1).1; omega⟩
          have G5 : Aside0 (∀ k_, some g = some k_ → w0.heap.size ≤ k_) := ⟨fun k_ e_ => by injection e_ with e_; rw [← e_]; exact HG.out⟩
          have hcm : (co = a) = False := eq_false (by omega)
          have p1 := eq_true (show 0 ≤ (a : Int) by omega)
          have p2 := eq_true (show (a : Int) ≤ (co : Int) by omega)
          have p3 := eq_true (show (a : Int) ≤ (ts.length : Int) by omega)
          clear hy1 hy2 hy3 hal hxl hle
          go_wp2
          go_ret
          exact ⟨_, rfl, by rw [← EE.out, ← HY2.out]; exact Kd.R_take HY.out ML.out, HB.out.grown HY3.out (below_size HB.out) G5.out⟩
end Go.Proofs.Ytjdhjapbggnhkaa.P
namespace Go.Proofs.Ytjdhjapbggnhkaa.E
set_option linter.unusedVariables false
set_option linter.unusedSectionVars false
open Go.RowKit Go.Proofs.YtjdhjapbggnhkaaW.PrintWords Go.Proofs.Ytjdhjapbggnhkaa.Base Go.Proofs.Ytjdhjapbggnhkaa.Tree

def gF (R : Nat → List (List Int)) (b : Nat) : Nat → Nat → List (List Int)
  | 0, _ => []
  | m + 1, kk => (R (b + kk)).map (fun s => (kk : Int) :: s) ++ gF R b m (kk + 1)
def gT : Nat → Nat → List (List Int)
  | 0 => fun need => if need = 0 then [[]] else []
  | n + 1 => fun need => if 1 ≤ need ∧ need ≤ n + 1 then gF (gT n) (need - 1) (n + 2 - need) 0 else []
theorem gF_mem {R : Nat → List (List Int)} {b : Nat} : ∀ (m kk : Nat) {s : List Int}, s ∈ gF R b m kk → ∃ (k : Nat) (t : List Int), kk ≤ k ∧ k < kk + m ∧ s = (k : Int) :: t ∧ t ∈ R (b + k)
  | 0, kk, s, h => by cases h
  | m + 1, kk, s, h => by
    simp only [gF] at h
    rcases List.mem_append.1 h with h | h
    · obtain ⟨t, ht, rfl⟩ := List.mem_map.1 h
      exact ⟨kk, t, by omega, by omega, rfl, ht⟩
    · obtain ⟨k, t, h1, h2, h3, h4⟩ := gF_mem m (kk + 1) h
      exact ⟨k, t, by omega, by omega, h3, h4⟩
def ndF (need : Int) (s : List Int) : Nat → Int
  | 0 => need
  | i + 1 => ndF need s i + s.getD i 0 - 1
theorem ndF_cons (need k : Int) (s : List Int) : ∀ i, ndF need (k :: s) (i + 1) = ndF (need + k - 1) s i
  | 0 => by simp [ndF]
  | i + 1 => by
    have ih := ndF_cons need k s i
    rw [ndF, ih]
    simp [ndF]
theorem nd_ndF (d : List Int) : ∀ i, nd d i = ndF 1 d i
  | 0 => rfl
  | i + 1 => by simp only [nd, ndF, nd_ndF d i]
theorem gT_sound : ∀ (n need : Nat) {s : List Int}, s ∈ gT n need → s.length = n ∧ (∀ i, i < n → 0 < ndF need s i ∧ 0 ≤ s.getD i 0) ∧ ndF need s n = 0
  | 0, need, s, h => by
    simp only [gT] at h
    split at h
    · rename_i e
      rw [List.mem_singleton] at h
      subst h
      exact ⟨rfl, fun i hi => by omega, by simp [ndF, e]⟩
    · cases h
  | n + 1, need, s, h => by
    simp only [gT] at h
    split at h
    · rename_i hn
      obtain ⟨k, t, _, h2, rfl, h4⟩ := gF_mem _ _ h
      obtain ⟨t1, t2, t3⟩ := gT_sound n _ h4
      have e : ((need - 1 + k : Nat) : Int) = (need : Int) + (k : Int) - 1 := by omega
      refine ⟨by simp [t1], fun i hi => ?_, ?_⟩
      · cases i with
        | zero => exact ⟨by simp [ndF]; omega, by simp⟩
        | succ i =>
          rw [ndF_cons, ← e]
          have := t2 i (by omega)
          exact ⟨this.1, by simpa using this.2⟩
      · rw [ndF_cons, ← e]; exact t3
    · cases h
theorem gT_tree {n : Nat} {s : List Int} (h : s ∈ gT n 1) : IsT s ∧ s.length = n := by
  obtain ⟨h1, h2, h3⟩ := gT_sound n 1 h
  refine ⟨⟨fun i hi => ?_, fun i hi => (h2 i (by omega)).2, ?_⟩, h1⟩
  · rw [nd_ndF]; exact (h2 i (by omega)).1
  · rw [nd_ndF, h1]; exact h3
theorem gF_few {R : Nat → List (List Int)} {b X : Nat} (hR : ∀ k, (R k).length ≤ X) : ∀ (m kk : Nat), (gF R b m kk).length ≤ m * X
  | 0, kk => by simp [gF]
  | m + 1, kk => by
    have h1 := gF_few (b := b) hR m (kk + 1)
    have h2 := hR (b + kk)
    simp only [gF, List.length_append, List.length_map, Nat.succ_mul]
    omega
theorem gT_few : ∀ (n : Nat), n ≤ 8 → ∀ need, (gT n need).length ≤ 10 ^ n
  | 0, _, need => by simp only [gT]; split <;> simp
  | n + 1, hn, need => by
    simp only [gT]
    split
    · rename_i h
      have h1 := gF_few (b := need - 1) (gT_few n (by omega)) (n + 2 - need) 0
      have h2 : (n + 2 - need) * 10 ^ n ≤ 10 * 10 ^ n := Nat.mul_le_mul_right _ (by omega)
      rw [Nat.pow_succ]
      omega
    · simp
theorem gT_small (n : Nat) (hn : n ≤ 8) (need : Nat) : (gT n need).length ≤ 100000000 := by
  have h1 := gT_few n hn need
  have h2 : 10 ^ n ≤ 10 ^ 8 := Nat.pow_le_pow_right (by decide) hn
  omega
end Go.Proofs.Ytjdhjapbggnhkaa.E
namespace Go.Proofs.Ytjdhjapbggnhkaa.E
set_option linter.unusedVariables false
set_option linter.unusedSectionVars false
open Go.RowKit Go.Proofs.YtjdhjapbggnhkaaW.PrintWords Go.Proofs.Ytjdhjapbggnhkaa.Base Go.Proofs.Ytjdhjapbggnhkaa.Tree

theorem cfP_sum {n b : Nat} (hn : n ≤ 8) (ih : ∀ k, cfF n k = ((gT n k).length : Int)) : ∀ (m : Nat), m ≤ 20 → cfP (cfF n) b m = ((gF (gT n) b m 0).length : Int) ∧ 0 ≤ cfP (cfF n) b m ∧ cfP (cfF n) b m ≤ 100000000 * m := by
  have snoc : ∀ (m kk : Nat), (gF (gT n) b (m + 1) kk).length = (gF (gT n) b m kk).length + (gT n (b + kk + m)).length := by
    intro m
    induction m with
    | zero => intro kk; simp [gF]
    | succ m ihm =>
      intro kk
      have h1 := ihm (kk + 1)
      simp only [gF, List.length_append, List.length_map] at h1 ⊢
      rw [show b + (kk + 1) + m = b + kk + (m + 1) by omega] at h1
      omega
  intro m
  induction m with
  | zero => intro _; simp [cfP, gF]
  | succ m ihm =>
    intro hm
    obtain ⟨h1, h2, h3⟩ := ihm (by omega)
    have h4 := gT_small n hn (b + m)
    have h5 := snoc m 0
    simp only [cfP]
    rw [ih (b + m), w64 (by omega) (by omega)]
    rw [show b + 0 + m = b + m by omega] at h5
    omega
theorem cfF_gT : ∀ (n : Nat), n ≤ 8 → ∀ k, cfF n k = ((gT n k).length : Int)
  | 0, _, k => by
    simp only [cfF, gT]
    split <;> rfl
  | n + 1, hn, k => by
    simp only [cfF, gT]
    split
    · rename_i h
      exact (cfP_sum (by omega) (cfF_gT n (by omega)) (n + 2 - k) (by omega)).1
    · rfl
theorem getD_left {a b : List (List Int)} {i : Nat} (h : i < a.length) : (a ++ b).getD i [] = a.getD i [] := by
  rw [List.getD_eq_getElem?_getD, List.getElem?_append_left h, ← List.getD_eq_getElem?_getD]
theorem getD_right {a b : List (List Int)} {i : Nat} (h : a.length ≤ i) : (a ++ b).getD i [] = b.getD (i - a.length) [] := by
  rw [List.getD_eq_getElem?_getD, List.getElem?_append_right h, ← List.getD_eq_getElem?_getD]
theorem getD_consmap {l : List (List Int)} {k : Int} {i : Nat} (h : i < l.length) : (l.map (fun s => k :: s)).getD i [] = k :: l.getD i [] := by
  rw [List.getD_eq_getElem?_getD, List.getElem?_map, List.getElem?_eq_getElem h, List.getD_eq_getElem?_getD, List.getElem?_eq_getElem h]
  rfl
theorem rank_in {n : Nat} (hn : n ≤ 7) {need : Nat} (h1 : 1 ≤ need) {d : List Int} (hd : d.length ≤ 100)
    (H : ∀ (kk r : Nat), need - 1 + kk ≤ n → r < (gT n (need - 1 + kk)).length → Ev (fun k => impl_treeOfRank.l0 k (d ++ [(kk : Int)]) ((need - 1 + kk : Nat) : Int) ((n : Int) - 1) (r : Int)) (d ++ [(kk : Int)] ++ (gT n (need - 1 + kk)).getD r [], true)) :
    ∀ (m kk r : Nat), kk + m = n + 2 - need → r < (gF (gT n) (need - 1) m kk).length → Ev (fun k => impl_treeOfRank.l1 k d (need : Int) (n : Int) (r : Int) (kk : Int)) (d ++ (gF (gT n) (need - 1) m kk).getD r [], true)
  | 0, kk, r, hm, hr => by simp [gF] at hr
  | m + 1, kk, r, hm, hr => by
    have hs := gT_small n (by omega) (need - 1 + kk)
    have hb := gT_small n (by omega)
    have hfew := gF_few (b := need - 1) hb (m + 1) kk
    have e1 : wrap64 (wrap64 ((need : Int) - 1) + (kk : Int)) = ((need - 1 + kk : Nat) : Int) := by
      rw [w64 (x := (need : Int) - 1) (by omega) (by omega), w64 (by omega) (by omega)]; omega
    have e2 : cfF n (need - 1 + kk) = ((gT n (need - 1 + kk)).length : Int) := cfF_gT n (by omega) _
    refine Ev.step (fun k => by rw [impl_treeOfRank.l1]) ?_
    rw [e1, show ((n : Int)).toNat = n from rfl, show (((need - 1 + kk : Nat) : Int)).toNat = need - 1 + kk from rfl, e2]
    refine ev_pos ⟨by omega, by omega, by omega, by omega⟩ ?_
    simp only [gF] at hr ⊢
    refine ev_ite (fun hx => ?_) (fun hx => ?_)
    · have hle : (gT n (need - 1 + kk)).length ≤ r := by omega
      have hr0 := hr
      simp only [List.length_append, List.length_map] at hr0
      simp only [gF, List.length_append, List.length_map] at hfew
      rw [w64 (by omega) (by omega), w64s (by omega), show (r : Int) - ((gT n (need - 1 + kk)).length : Int) = ((r - (gT n (need - 1 + kk)).length : Nat) : Int) by omega]
      rw [getD_right (by simpa using hle), List.length_map]
      exact rank_in hn h1 hd H m (kk + 1) _ (by omega) (by omega)
    · have hlt : r < (gT n (need - 1 + kk)).length := by omega
      rw [getD_left (by simpa using hlt), getD_consmap hlt]
      have hne : need - 1 + kk ≤ n := by omega
      have := H kk r hne hlt
      rw [w64 (x := (kk : Int) - 1) (by omega) (by omega), w64 (x := (need : Int) + ((kk : Int) - 1)) (by omega) (by omega), w64 (x := (n : Int) - 1) (by omega) (by omega), show (need : Int) + ((kk : Int) - 1) = ((need - 1 + kk : Nat) : Int) by omega]
      refine ev_pos (by omega) ?_
      simpa using this
theorem rank_loop : ∀ (n : Nat), n ≤ 8 → ∀ (need r : Nat) (d : List Int), d.length + n ≤ 100 → r < (gT n need).length → Ev (fun k => impl_treeOfRank.l0 k d (need : Int) ((n : Int) - 1) (r : Int)) (d ++ (gT n need).getD r [], true)
  | 0, hn, need, r, d, hd, hr => by
    refine Ev.step (fun k => by rw [impl_treeOfRank.l0]) ?_
    refine ev_neg (by omega) (ev_now ?_)
    simp only [gT] at hr ⊢
    split at hr
    · rename_i e
      rw [if_pos e]
      have e0 : r = 0 := by simpa using hr
      subst e0
      simp
    · simp at hr
  | n + 1, hn, need, r, d, hd, hr => by
    simp only [gT] at hr ⊢
    split at hr
    · rename_i h
      rw [if_pos h]
      refine Ev.step (fun k => by rw [impl_treeOfRank.l0]) ?_
      refine ev_pos (by omega) ?_
      rw [show ((n + 1 : Nat) : Int) - 1 = (n : Int) by omega]
      exact rank_in (by omega) h.1 (by omega) (fun kk r' h1 h2 => rank_loop n (by omega) _ r' _ (by simp; omega) h2) (n + 2 - need) 0 r (by omega) hr
    · simp at hr
theorem treeOfRank_ev {n : Nat} (h1 : 1 ≤ n) (hn : n ≤ 8) (r : Nat) : Ev (fun k => impl_treeOfRank.f k (n : Int) (r : Int)) (if r < (gT n 1).length then ((gT n 1).getD r [], true) else ([], false)) := by
  unfold impl_treeOfRank.f
  rw [show ((n : Int)).toNat = n from rfl, cfF_gT n hn]
  refine ev_pos ⟨by omega, by omega⟩ (ev_ite (fun hx => ?_) (fun hx => ?_))
  · rw [if_neg (by omega)]; exact Ev.now _
  · rw [if_pos (by omega), w64 (by omega) (by omega)]
    have := rank_loop n hn 1 r [] (by simp; omega) (by omega)
    simpa using this
theorem treesOf_loop {n : Nat} (h1 : 1 ≤ n) (hn : n ≤ 8) : ∀ (m r : Nat), r + m = (gT n 1).length → Ev (fun k => impl_treesOf.l0 k (n : Int) (((gT n 1).take r).map fun s => (⟨s⟩ : S27)) (r : Int)) ((gT n 1).map fun s => (⟨s⟩ : S27))
  | 0, r, hr => by
    have hs := gT_small n hn 1
    refine Ev.step (fun k => by rw [impl_treesOf.l0]) ?_
    refine Ev.bind (treeOfRank_ev h1 hn r) ?_
    rw [if_neg (by omega)]
    refine ev_neg (by decide) (ev_now ?_)
    rw [List.take_of_length_le (by omega)]
  | m + 1, r, hr => by
    have hs := gT_small n hn 1
    have hlt : r < (gT n 1).length := by omega
    have ih := treesOf_loop h1 hn m (r + 1) (by omega)
    refine Ev.step (fun k => by rw [impl_treesOf.l0]) ?_
    refine Ev.bind (treeOfRank_ev h1 hn r) ?_
    rw [if_pos hlt, w64s (by omega)]
    refine ev_pos rfl (ev_pos (by rw [List.length_map, List.length_take]; omega) ?_)
    rw [List.take_succ_eq_append_getElem hlt, List.map_append] at ih
    have e : (gT n 1).getD r [] = (gT n 1)[r] := by rw [List.getD_eq_getElem?_getD, List.getElem?_eq_getElem hlt]; rfl
    rw [e]
    simpa using ih
theorem impl_treesOf_ev {n : Nat} (h1 : 1 ≤ n) (hn : n ≤ 8) : Ev (fun k => impl_treesOf.f k (n : Int)) ((gT n 1).map fun s => (⟨s⟩ : S27)) := by
  have := treesOf_loop h1 hn (gT n 1).length 0 (by omega)
  unfold impl_treesOf.f
  simpa using this
theorem own_eq (l : List Int) (h : l.length ≤ 1000) : spec_l01Own.f l = some l := by
  unfold spec_l01Own.f
  rw [Option.bind_some, if_pos (by simp; omega)]
  simp
theorem go_in {n open_ : Nat} (hn : n ≤ 7) (ho : 1 ≤ open_) (ho2 : open_ ≤ n + 1) {d : List Int} (hd : d.length ≤ 100)
    (H : ∀ kk : Nat, open_ - 1 + kk ≤ n → (n = 0 ∧ open_ - 1 + kk = 0 ∨ 1 ≤ n ∧ 1 ≤ open_ - 1 + kk) → Ev (fun k => spec_l01Go.f k (d ++ [(kk : Int)]) ((open_ - 1 + kk : Nat) : Int) (n : Int)) ((gT n (open_ - 1 + kk)).map fun s => (⟨d ++ [(kk : Int)] ++ s⟩ : S27))) :
    ∀ (m kk : Nat) (acc : List S27), kk + m = n + 2 - open_ → acc.length ≤ 100000000 * kk → Ev (fun k => spec_l01Go.l0 k d (open_ : Int) ((n + 1 : Nat) : Int) acc (kk : Int)) (acc ++ (gF (gT n) (open_ - 1) m kk).map fun s => (⟨d ++ s⟩ : S27))
  | 0, kk, acc, hm, ha => by
    have e1 : wrap64 (wrap64 ((open_ : Int) - 1) + (kk : Int)) = ((open_ - 1 + kk : Nat) : Int) := by
      rw [w64 (x := (open_ : Int) - 1) (by omega) (by omega), w64 (by omega) (by omega)]; omega
    have e2 : wrap64 (((n + 1 : Nat) : Int) - 1) = (n : Int) := by rw [w64 (by omega) (by omega)]; omega
    refine Ev.step (fun k => by rw [spec_l01Go.l0]) ?_
    rw [e1, e2]
    exact ev_neg (by omega) (ev_now (by simp [gF]))
  | m + 1, kk, acc, hm, ha => by
    have e1 : wrap64 (wrap64 ((open_ : Int) - 1) + (kk : Int)) = ((open_ - 1 + kk : Nat) : Int) := by
      rw [w64 (x := (open_ : Int) - 1) (by omega) (by omega), w64 (by omega) (by omega)]; omega
    have e2 : wrap64 (((n + 1 : Nat) : Int) - 1) = (n : Int) := by rw [w64 (by omega) (by omega)]; omega
    have hs := gT_small n (by omega) (open_ - 1 + kk)
    have next : ∀ acc' : List S27, acc'.length ≤ 100000000 * (kk + 1) → Ev (fun k => spec_l01Go.l0 k d (open_ : Int) ((n + 1 : Nat) : Int) acc' (wrap64 ((kk : Int) + 1))) (acc' ++ (gF (gT n) (open_ - 1) m (kk + 1)).map fun s => (⟨d ++ s⟩ : S27)) := by
      intro acc' h'
      rw [w64s (by omega)]
      exact go_in hn ho ho2 hd H m (kk + 1) acc' (by omega) h'
    have body : (n = 0 ∧ open_ - 1 + kk = 0 ∨ 1 ≤ n ∧ 1 ≤ open_ - 1 + kk) → Ev (fun k => spec_l01Go.j1 k d (open_ : Int) ((n + 1 : Nat) : Int) acc (kk : Int) false) (acc ++ (gF (gT n) (open_ - 1) (m + 1) kk).map fun s => (⟨d ++ s⟩ : S27)) := by
      intro hc
      have h1 := H kk (by omega) hc
      have h2 := next (acc ++ (gT n (open_ - 1 + kk)).map fun s => (⟨d ++ [(kk : Int)] ++ s⟩ : S27)) (by simp; omega)
      refine Ev.step (fun k => by rw [spec_l01Go.j1]) ?_
      rw [own_eq d (by omega), e1, e2]
      refine ev_neg (by decide) (ev_some (ev_pos (by omega) (Ev.bind h1 (ev_pos (by rw [List.length_map]; omega) ?_))))
      have e3 : (acc ++ (gT n (open_ - 1 + kk)).map fun s => (⟨d ++ [(kk : Int)] ++ s⟩ : S27)) ++ (gF (gT n) (open_ - 1) m (kk + 1)).map (fun s => (⟨d ++ s⟩ : S27)) = acc ++ (gF (gT n) (open_ - 1) (m + 1) kk).map fun s => (⟨d ++ s⟩ : S27) := by
        simp [gF, Function.comp_def]
      rw [e3] at h2
      exact h2
    refine Ev.step (fun k => by rw [spec_l01Go.l0]) ?_
    rw [e1, e2]
    refine ev_pos (by omega) (ev_ite (fun hz => ?_) (fun hz => ?_))
    · by_cases h0 : n = 0
      · rw [decide_eq_false (by omega)]
        exact body (Or.inl ⟨h0, by omega⟩)
      · rw [decide_eq_true (by omega)]
        refine Ev.step (fun k => by rw [spec_l01Go.j1]) ?_
        refine ev_pos rfl ?_
        have h3 := next acc (by omega)
        have e4 : gT n (open_ - 1 + kk) = [] := by
          obtain ⟨n', rfl⟩ : ∃ n', n = n' + 1 := ⟨n - 1, by omega⟩
          simp only [gT]
          rw [if_neg (by omega)]
        simp only [gF, e4, List.map_nil, List.nil_append]
        exact h3
    · exact body (Or.inr ⟨by omega, by omega⟩)
theorem spec_go_ev : ∀ (n : Nat), n ≤ 8 → ∀ (open_ : Nat) (d : List Int), d.length + n ≤ 100 → (n = 0 ∧ open_ = 0 ∨ 1 ≤ open_ ∧ open_ ≤ n) → Ev (fun k => spec_l01Go.f k d (open_ : Int) (n : Int)) ((gT n open_).map fun s => (⟨d ++ s⟩ : S27))
  | 0, hn, open_, d, hd, hc => by
    refine Ev.step (fun k => by rw [spec_l01Go.f]) ?_
    refine ev_pos rfl ?_
    have e : open_ = 0 := by omega
    subst e
    unfold spec_l01Make.f
    rw [own_eq d (by omega)]
    exact ev_now (by simp [gT])
  | n + 1, hn, open_, d, hd, hc => by
    have h1 : 1 ≤ open_ ∧ open_ ≤ n + 1 := by omega
    refine Ev.step (fun k => by rw [spec_l01Go.f]) ?_
    refine ev_neg (by omega) ?_
    have := go_in (by omega) h1.1 h1.2 (by omega) (fun kk hk hc => spec_go_ev n (by omega) (open_ - 1 + kk) (d ++ [(kk : Int)]) (by simp; omega) (by omega)) (n + 2 - open_) 0 [] (by omega) (by simp)
    simp only [gT]
    rw [if_pos h1]
    simpa using this
theorem spec_l01All_ev {n : Nat} (h1 : 1 ≤ n) (hn : n ≤ 8) : Ev (fun k => spec_l01All.f k (n : Int)) ((gT n 1).map fun s => (⟨s⟩ : S27)) := by
  unfold spec_l01All.f
  have := spec_go_ev n hn 1 [] (by simp; omega) (by omega)
  exact Ev.bind this (ev_now (by simp))
end Go.Proofs.Ytjdhjapbggnhkaa.E
namespace Go.Proofs.Ytjdhjapbggnhkaa.P
set_option linter.unusedVariables false
set_option linter.unusedSectionVars false
open Go.RowKit Go.Proofs.YtjdhjapbggnhkaaW.PrintWords Go.Proofs.YtjdhjapbggnhkaaW.PrintLast Go.Proofs.YtjdhjapbggnhkaaW.PrintMore Go.Proofs.Ytjdhjapbggnhkaa.Base Go.Proofs.Ytjdhjapbggnhkaa.Tree Go.Proofs.Ytjdhjapbggnhkaa.E
def treesM (n : Nat) : List S27 := (gT n 1).map fun s => (⟨s⟩ : S27)
theorem treesM_all {n : Nat} (hn : n ≤ 8) : AllT (treesM n) := by
  intro x hx
  obtain ⟨s, hs, rfl⟩ := List.mem_map.1 hx
  obtain ⟨h1, h2⟩ := gT_tree hs
  exact ⟨h1, by show s.length ≤ 24; omega⟩
theorem treesM_len {n : Nat} (hn : n ≤ 8) : (treesM n).length ≤ 100000000 := by
  rw [treesM, List.length_map]
  exact gT_small n hn 1
def avM (n : Int) (s : ByteArray) : List S27 × Int := match toP s with
  | none => ([], 6)
  | some p => if 1 ≤ n ∧ n ≤ 8 then ((treesM n.toNat).filter (keepT p), 0) else ([], 2)
theorem avM_none {n : Int} {s : ByteArray} (h : toP s = none) : avM n s = ([], 6) := by rw [avM, h]
theorem avM_far {n : Int} {s : ByteArray} {p : Pat} (h : toP s = some p) (hn : ¬ (1 ≤ n ∧ n ≤ 8)) : avM n s = ([], 2) := by rw [avM, h]; exact if_neg hn
theorem avM_some {n : Int} {s : ByteArray} {p : Pat} (h : toP s = some p) (hn : 1 ≤ n ∧ n ≤ 8) : avM n s = ((treesM n.toNat).filter (keepT p), 0) := by rw [avM, h]; exact if_pos hn
set_option maxHeartbeats 4000000 in
set_option maxRecDepth 100000 in
theorem avoiding_calls (n : Int) (s : ByteArray) (w : World) :
    Calls Try.prog 14 #[.int .i64 n, .string s] w fun e w' => ∃ v0, e = .returned (.tuple #[v0, .int .i64 (avM n s).2]) ∧ Kd.R k27 27 w' w.heap.size (fun _ => True) v0 (avM n s).1 ∧ Below w.heap.size w w' := by
  have C35 := Aside0.mk (toPattern_ptr s)
  cases hp : toP s with
  | none =>
    rw [avM_none hp]
    have HP := Aside0.mk hp
    clear hp
    go_enter Try.func14, Try.ntmps14
    go_wp2_with (first | (go_at_call 22; refine (C35.out _).mono ?_; rintro e w2 ⟨⟨hb, v2, he, hM⟩, G2, b2, hG⟩; rw [HP.out] at he; subst he; have hv : v2 = .pointer G2 := (by simp at hG; exact hG.1); subst hv; have HB2 := Aside0.mk hb; clear hb hM hG) | ((with_reducible refine gate_dst (N := 6) rfl ?_); refine box_event ?hg (N := 6) ?hd (cs := #[.pointer none]) (t := 43) ?hr ?_; (case hd => rfl); (case hg => rfl); (case hr => first | (go_simp; done) | (go_simp; rfl)); intro gb hg w3 hbox hb; have BX3 := Aside0.mk hbox; have HW3 := Aside0.mk hb; have GE := Aside0.mk (show w2.heap.size ≤ gb by rw [hg]; exact Nat.le_refl _); have hcz3 := (blk_cell hbox 0).trans rfl; have hfz3 := blk_frozen hbox 0; clear hbox hb hg) | ((with_reducible refine gate_store (t := 43) (p := 6) rfl ?_); refine store_event (t := 43) (p := 6) (v := ?vo) (w1 := w3.setCell ⟨gb, 0, none⟩ (.pointer G2)) ?hg ?ho ?hn ?hr ?_; (case ho => rfl); (case hg => rfl); (case hn => rfl); (case hr => first | (go_simp; done) | (go_simp; rfl)); intro w4 hw; have HW4 : Aside0 (Below w2.heap.size w2 w4) := ⟨by rw [hw]; exact below_set HW3.out GE.out⟩; have HB4 := Aside0.mk (below_step HB2.out HW4.out); clear hw hcz3 hfz3))
    refine bodyPost_ret (results_tmp2 rfl _ _ _) rfl ?_
    exact ⟨_, rfl, Kd.R_nil _ _ _ _ _, HB4.out⟩
  | some p =>
    by_cases hn : 1 ≤ n ∧ n ≤ 8
    · rw [avM_some hp hn]
      have HP := Aside0.mk hp
      obtain ⟨m, rfl⟩ := Int.eq_ofNat_of_zero_le (show 0 ≤ n by omega)
      rw [show ((m : Int)).toNat = m from rfl]
      have h1 : decide ((m : Int) < 1) = false := decide_eq_false (by omega)
      have h2 : decide ((8 : Int) < (m : Int)) = false := decide_eq_false (by omega)
      have h3 : ¬ ((m : Int) < 1) := by omega
      have h4 : ¬ ((8 : Int) < (m : Int)) := by omega
      obtain ⟨k, hk⟩ := (impl_treesOf_ev (n := m) (by omega) (by omega)).rounds
      have C24 := Aside0.mk (fun w => impl_treesOf.calls k (m : Int) _ w hk)
      have CD := Aside0.mk (fun (vp : Value) (gb : Nat) (w0 w : World) (u : Value) hB hbx hp ho => delete_calls (p := p) (vp := vp) (gb := gb) (treesM_all (show m ≤ 8 by omega)) (treesM_len (by omega)) w0 w hB hbx hp (u := u) ho)
      clear hp hk
      go_enter Try.func14, Try.ntmps14
      go_wp2_with (first | (go_at_call 22; refine (C35.out _).mono ?_; rintro e w2 ⟨⟨hb, v2, he, hM⟩, _⟩; rw [HP.out] at he; subst he; obtain ⟨g2, rfl⟩ := M_ptr (hM p HP.out); have HK2 := Aside0.mk ((kP 61).K_of_M (hM p HP.out)); have HB2 := Aside0.mk hb; clear hb hM) | ((with_reducible refine gate_dst (N := 6) rfl ?_); refine box_event ?hg (N := 6) ?hd (cs := #[.pointer none]) (t := 43) ?hr ?_; (case hd => rfl); (case hg => rfl); (case hr => first | (go_simp; done) | (go_simp; rfl)); intro gb hg w3 hbox hb; have BX3 := Aside0.mk hbox; have HW3 := Aside0.mk hb; have GE := Aside0.mk (show w2.heap.size ≤ gb by rw [hg]; exact Nat.le_refl _); have hcz3 := (blk_cell hbox 0).trans rfl; have hfz3 := blk_frozen hbox 0; clear hbox hb hg) | ((with_reducible refine gate_store (t := 43) (p := 6) rfl ?_); refine store_event (t := 43) (p := 6) (v := ?vo) (w1 := w3.setCell ⟨gb, 0, none⟩ (.pointer (some ⟨g2, 0, none⟩))) ?hg ?ho ?hn ?hr ?_; (case ho => rfl); (case hg => rfl); (case hn => rfl); (case hr => first | (go_simp; done) | (go_simp; rfl)); intro w4 hw; have BX4 : Aside0 (w4.heap[gb]? = some (.cells #[.pointer (some ⟨g2, 0, none⟩)] 43 (0, 0))) := ⟨by rw [hw]; exact blk_put BX3.out 0 _ rfl⟩; have HW4 : Aside0 (Below w2.heap.size w2 w4) := ⟨by rw [hw]; exact below_set HW3.out GE.out⟩; have HK4 := Aside0.mk (K_still HK2.out (still_below HW4.out)); have HB4 := Aside0.mk (below_step HB2.out HW4.out); clear hw hcz3 hfz3) | (go_at_call 24; refine (C24.out _).mono ?_; rintro e w5 ⟨v5, rfl, hS, hb⟩; have HO5 := Aside0.mk (Kd.S_R hS); have HW5 := Aside0.mk hb; clear hb hS) | (go_at_call 23; refine (CD.out _ _ w4 _ _ HW5.out BX4.out HK4.out HO5.out).mono ?_; rintro e w6 ⟨v6, rfl, hR, hb⟩; have HR6 := Aside0.mk hR; have HW6 := Aside0.mk hb; clear hb hR))
      refine bodyPost_ret (results_tmp2 rfl _ _ _) rfl ?_
      exact ⟨_, rfl, Kd.R_lower HR6.out (below_size HB4.out), below_step HB4.out HW6.out⟩
    · rw [avM_far hp hn]
      have HP := Aside0.mk hp
      clear hp
      by_cases h1 : n < 1
      · have h2 : decide (n < 1) = true := decide_eq_true h1
        go_enter Try.func14, Try.ntmps14
        go_wp2_with (first | (go_at_call 22; refine (C35.out _).mono ?_; rintro e w2 ⟨⟨hb, v2, he, hM⟩, _⟩; rw [HP.out] at he; subst he; obtain ⟨g2, rfl⟩ := M_ptr (hM p HP.out); have HB2 := Aside0.mk hb; clear hb hM) | ((with_reducible refine gate_dst (N := 6) rfl ?_); refine box_event ?hg (N := 6) ?hd (cs := #[.pointer none]) (t := 43) ?hr ?_; (case hd => rfl); (case hg => rfl); (case hr => first | (go_simp; done) | (go_simp; rfl)); intro gb hg w3 hbox hb; have BX3 := Aside0.mk hbox; have HW3 := Aside0.mk hb; have GE := Aside0.mk (show w2.heap.size ≤ gb by rw [hg]; exact Nat.le_refl _); have hcz3 := (blk_cell hbox 0).trans rfl; have hfz3 := blk_frozen hbox 0; clear hbox hb hg) | ((with_reducible refine gate_store (t := 43) (p := 6) rfl ?_); refine store_event (t := 43) (p := 6) (v := ?vo) (w1 := w3.setCell ⟨gb, 0, none⟩ (.pointer (some ⟨g2, 0, none⟩))) ?hg ?ho ?hn ?hr ?_; (case ho => rfl); (case hg => rfl); (case hn => rfl); (case hr => first | (go_simp; done) | (go_simp; rfl)); intro w4 hw; have HW4 : Aside0 (Below w2.heap.size w2 w4) := ⟨by rw [hw]; exact below_set HW3.out GE.out⟩; have HB4 := Aside0.mk (below_step HB2.out HW4.out); clear hw hcz3 hfz3))
        refine bodyPost_ret (results_tmp2 rfl _ _ _) rfl ?_
        exact ⟨_, rfl, Kd.R_nil _ _ _ _ _, HB4.out⟩
      · have h2 : decide (n < 1) = false := decide_eq_false h1
        have h3 : (8 : Int) < n := by omega
        have h4 : decide ((8 : Int) < n) = true := decide_eq_true h3
        go_enter Try.func14, Try.ntmps14
        go_wp2_with (first | (go_at_call 22; refine (C35.out _).mono ?_; rintro e w2 ⟨⟨hb, v2, he, hM⟩, _⟩; rw [HP.out] at he; subst he; obtain ⟨g2, rfl⟩ := M_ptr (hM p HP.out); have HB2 := Aside0.mk hb; clear hb hM) | ((with_reducible refine gate_dst (N := 6) rfl ?_); refine box_event ?hg (N := 6) ?hd (cs := #[.pointer none]) (t := 43) ?hr ?_; (case hd => rfl); (case hg => rfl); (case hr => first | (go_simp; done) | (go_simp; rfl)); intro gb hg w3 hbox hb; have BX3 := Aside0.mk hbox; have HW3 := Aside0.mk hb; have GE := Aside0.mk (show w2.heap.size ≤ gb by rw [hg]; exact Nat.le_refl _); have hcz3 := (blk_cell hbox 0).trans rfl; have hfz3 := blk_frozen hbox 0; clear hbox hb hg) | ((with_reducible refine gate_store (t := 43) (p := 6) rfl ?_); refine store_event (t := 43) (p := 6) (v := ?vo) (w1 := w3.setCell ⟨gb, 0, none⟩ (.pointer (some ⟨g2, 0, none⟩))) ?hg ?ho ?hn ?hr ?_; (case ho => rfl); (case hg => rfl); (case hn => rfl); (case hr => first | (go_simp; done) | (go_simp; rfl)); intro w4 hw; have HW4 : Aside0 (Below w2.heap.size w2 w4) := ⟨by rw [hw]; exact below_set HW3.out GE.out⟩; have HB4 := Aside0.mk (below_step HB2.out HW4.out); clear hw hcz3 hfz3))
        refine bodyPost_ret (results_tmp2 rfl _ _ _) rfl ?_
        exact ⟨_, rfl, Kd.R_nil _ _ _ _ _, HB4.out⟩
def firstM (n : Int) (s : ByteArray) : List Int × Int := if (avM n s).2 = 0 then (match (avM n s).1 with
  | [] => ([], 4)
  | x :: _ => (x.f0, 0)) else ([], (avM n s).2)
set_option maxHeartbeats 4000000 in
set_option maxRecDepth 100000 in
theorem firstAvoiding_calls (n : Int) (s : ByteArray) (w : World) :
    Calls Try.prog 8 #[.int .i64 n, .string s] w fun e w' => ∃ v0, e = .returned (.tuple #[.agg #[v0], .int .i64 (firstM n s).2]) ∧ Kd.R (Kd.int .i64) 2 w' w.heap.size (fun _ => True) v0 (firstM n s).1 ∧ Below w.heap.size w w' := by
  have C := Aside0.mk (avoiding_calls n s)
  have huT := Try.underlying27
  obtain ⟨r, hr⟩ : ∃ r, r = firstM n s := ⟨_, rfl⟩
  rw [← hr]
  rw [firstM] at hr
  obtain ⟨q, hq⟩ : ∃ q, q = avM n s := ⟨_, rfl⟩
  rw [← hq] at hr C
  clear hq
  by_cases h0 : q.2 = 0
  · rw [if_pos h0] at hr
    obtain ⟨ts, c⟩ := q
    have h0' : c = 0 := h0
    subst h0'
    clear h0
    cases ts with
    | nil =>
      obtain rfl : r = ([], 4) := hr
      go_enter Try.func8, Try.ntmps8
      go_wp2_with (first | ((with_reducible refine gate_dst (N := 4) rfl ?_); refine box_event ?hg (N := 4) ?hd (cs := #[.slice none 0 0]) (t := 27) ?hr ?_; (case hd => rfl); (case hg => rfl); (case hr => first | (go_simp; done) | (go_simp; rfl)); intro gb hg w1 hbox hb; have BX1 := Aside0.mk hbox; have HB1 := Aside0.mk hb; have GE := Aside0.mk (show w.heap.size ≤ gb by rw [hg]; exact Nat.le_refl _); clear hbox hb hg) | (go_at_call 14; refine (C.out _).mono ?_; rintro e w2 ⟨v2, rfl, hR, hb⟩; obtain ⟨A2, c2, rfl⟩ := Kd.R_slice hR; have HB2 := Aside0.mk (below_step HB1.out hb); have BX2 := Aside0.mk (blk_below BX1.out hb); have hcz2 := (blk_cell BX2.out 0).trans rfl; have hfz2 := blk_frozen BX2.out 0; clear hb hR))
      refine bodyPost_ret (results_ct rfl _ _ gb 27 #[.slice none 0 0] (0, 0) _ rfl (blk_put (cs := #[.slice none 0 0]) BX2.out 0 _ rfl) Try.underlying27 rfl (by kernel_rfl)) rfl ?_
      exact ⟨_, rfl, Kd.R_nil _ _ _ _ _, below_set HB2.out GE.out⟩
    | cons x xs =>
      obtain rfl : r = (x.f0, 0) := hr
      have hne : (((x :: xs).length : Int) == 0) = false := beq_eq_false_iff_ne.2 (by rw [List.length_cons]; omega)
      obtain ⟨ts, hts⟩ : ∃ ts, ts = x :: xs := ⟨_, rfl⟩
      have HT := Aside0.mk hts
      rw [← hts] at hne C
      have hp0 : 0 < ts.length := by rw [hts, List.length_cons]; omega
      have p1 := eq_true (show (0 : Int) < (ts.length : Int) by omega)
      have hx : ts.getD (0 : Int).toNat z27 = x := by rw [hts]; rfl
      clear hts
      go_enter Try.func8, Try.ntmps8
      go_wp2_with (first | ((with_reducible refine gate_dst (N := 4) rfl ?_); refine box_event ?hg (N := 4) ?hd (cs := #[.slice none 0 0]) (t := 27) ?hr ?_; (case hd => rfl); (case hg => rfl); (case hr => first | (go_simp; done) | (go_simp; rfl)); intro gb hg w1 hbox hb; have BX1 := Aside0.mk hbox; have HB1 := Aside0.mk hb; have GE := Aside0.mk (show w.heap.size ≤ gb by rw [hg]; exact Nat.le_refl _); clear hbox hb hg) | (go_at_call 14; refine (C.out _).mono ?_; rintro e w2 ⟨v2, rfl, hR, hb⟩; replace hR : Kd.R k27 27 w2 w1.heap.size (fun _ => True) v2 ts := hR; obtain ⟨g2, c2, rfl, hg2, _, _, _⟩ := Kd.R_form hR hp0; obtain ⟨cs, hcl, hM, hcc, hfc⟩ := Kd.R_elem hR z27 0 (Int.le_refl 0) (Int.ofNat_lt.2 hp0); rw [hx] at hM; obtain ⟨v0, rfl, hR0⟩ := k27_openM hM; obtain ⟨A0, c0, rfl⟩ := Kd.R_slice hR0; have hx2 : w2.cell? ⟨g2, 0, none⟩ = some (.slice A0 x.f0.length c0) := hcc 0 _ rfl; have HB2 := Aside0.mk (below_step HB1.out hb); have BX2 := Aside0.mk (blk_below BX1.out hb); have HR2 := Aside0.mk hR0; have NE := Aside0.mk (show w1.heap.size ≤ g2 from hg2); have hcz2 := (blk_cell BX2.out 0).trans rfl; have hfz2 := blk_frozen BX2.out 0; have SZ := Aside0.mk (blk_lt BX1.out); clear hb hR hM hcc hfc hcl hR0 hg2))
      refine bodyPost_ret (results_ct rfl _ _ gb 27 #[.slice A0 x.f0.length c0] (0, 0) _ rfl (blk_put (cs := #[.slice none 0 0]) BX2.out 0 _ rfl) Try.underlying27 rfl (by kernel_rfl)) rfl ?_
      exact ⟨_, rfl, Kd.R_lower (Kd.R_far (Kd.R_mono (Kd.R_bound HR2.out) (ok' := fun k => w1.heap.size ≤ k) (fun k hk => hk.2.1)) (fun k hk => by have := SZ.out; have hk' : w1.heap.size ≤ k := hk; show k ≠ gb; omega) _) (below_size HB1.out) |> fun h => Kd.R_mono h (fun _ _ => trivial), below_set HB2.out GE.out⟩
  · rw [if_neg h0] at hr
    subst hr
    have hne : (q.2 != 0) = true := bne_iff_ne.2 h0
    go_enter Try.func8, Try.ntmps8
    go_wp2_with (first | ((with_reducible refine gate_dst (N := 4) rfl ?_); refine box_event ?hg (N := 4) ?hd (cs := #[.slice none 0 0]) (t := 27) ?hr ?_; (case hd => rfl); (case hg => rfl); (case hr => first | (go_simp; done) | (go_simp; rfl)); intro gb hg w1 hbox hb; have BX1 := Aside0.mk hbox; have HB1 := Aside0.mk hb; have GE := Aside0.mk (show w.heap.size ≤ gb by rw [hg]; exact Nat.le_refl _); clear hbox hb hg) | (go_at_call 14; refine (C.out _).mono ?_; rintro e w2 ⟨v2, rfl, hR, hb⟩; obtain ⟨A2, c2, rfl⟩ := Kd.R_slice hR; have HB2 := Aside0.mk (below_step HB1.out hb); have BX2 := Aside0.mk (blk_below BX1.out hb); have hcz2 := (blk_cell BX2.out 0).trans rfl; have hfz2 := blk_frozen BX2.out 0; clear hb hR))
    refine bodyPost_ret (results_ct rfl _ _ gb 27 #[.slice none 0 0] (0, 0) _ rfl (blk_put (cs := #[.slice none 0 0]) BX2.out 0 _ rfl) Try.underlying27 rfl (by kernel_rfl)) rfl ?_
    exact ⟨_, rfl, Kd.R_nil _ _ _ _ _, below_set HB2.out GE.out⟩
end Go.Proofs.Ytjdhjapbggnhkaa.P
