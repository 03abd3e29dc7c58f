/- The row of the law FnExactFirstOfState, out of its pure statement. -/
import Derived.Test.YtmnpdkhkgddojaaQFSEx1
import Derived.Test.YtmnpdkhkgddojaaQFSEx2
import Derived.Test.YtmnpdkhkgddojaaQFSEx3
import Derived.Test.YtmnpdkhkgddojaaQFSEx4
import Derived.Test.YtmnpdkhkgddojaaQFSEx7
import Derived.Test.YtmnpdkhkgddojaaQFSEx8
import Derived.Test.YtmnpdkhkgddojaaQFSW
import Derived.Deep.Slices
import Derived.Lib.SmallJoins
import Derived.OpenShut
import Derived.WalkKit
namespace Go.Proofs.Ytmnpdkhkgddojaa.Base
set_option linter.unusedVariables false
set_option linter.unusedSectionVars false
open Go.RowKit Go.Proofs.YtmnpdkhkgddojaaW.PrintWords

theorem ev_pos {α : Type} {c : Prop} [Decidable c] {f g : Nat → Option α} {r : α} (h : c) (k : Ev f r) : Ev (fun n => if c then f n else g n) r := by
  simpa [h] using k
theorem ev_neg {α : Type} {c : Prop} [Decidable c] {f g : Nat → Option α} {r : α} (h : ¬ c) (k : Ev g r) : Ev (fun n => if c then f n else g n) r := by
  simpa [h] using k
theorem ev_ite {α : Type} {c : Prop} [Decidable c] {f g : Nat → Option α} {r : α} (h : c → Ev f r) (k : ¬ c → Ev g r) : Ev (fun n => if c then f n else g n) r := by
  by_cases hc : c
  · exact ev_pos hc (h hc)
  · exact ev_neg hc (k hc)
theorem ev_now {α : Type} {a r : α} (h : a = r) : Ev (fun _ => some a) r := h ▸ Ev.now a
theorem ev_some {α β : Type} {f : Nat → α → Option β} {a : α} {r : β} (k : Ev (fun n => f n a) r) : Ev (fun n => (some a).bind (f n)) r := by
  simpa using k
theorem w64 {x : Int} (h1 : -9223372036854775808 ≤ x) (h2 : x ≤ 9223372036854775807) : wrap64 x = x := by unfold wrap64; omega
theorem w64s {i : Nat} (h : i < 9223372036854775807) : wrap64 ((i : Int) + 1) = ((i + 1 : Nat) : Int) := by unfold wrap64; omega
theorem w64p {i : Nat} (h : i < 9223372036854775807) : wrap64 (((i + 1 : Nat) : Int) - 1) = (i : Int) := by unfold wrap64; omega

theorem rd_nat (l : List Int) (i : Nat) : rd l (i : Int) = l.getD i 0 := rfl
theorem rd_lt {l : List Int} {i : Nat} (h : i < l.length) : rd l (i : Int) = l[i] := by
  rw [rd_nat, List.getD_eq_getElem?_getD, List.getElem?_eq_getElem h]; rfl
theorem set_eq {l m : List Int} {i : Nat} (hl : m.length = l.length) (h : ∀ j, j < i → m.getD j 0 = l.getD j 0) : ∀ j, j < i + 1 → (m.set i (l.getD i 0)).getD j 0 = l.getD j 0 := by
  intro j hj
  rw [List.getD_eq_getElem?_getD, List.getElem?_set]
  by_cases e : i = j
  · subst e
    by_cases hlt : i < m.length
    · simp [hlt]
    · rw [if_pos rfl, if_neg hlt, List.getD_eq_getElem?_getD, List.getElem?_eq_none (by omega)]
  · rw [if_neg e, ← List.getD_eq_getElem?_getD]
    exact h j (by omega)
theorem ext_getD {l m : List Int} (hl : m.length = l.length) (h : ∀ j, j < l.length → m.getD j 0 = l.getD j 0) : m = l := by
  apply List.ext_getElem hl
  intro j h1 h2
  have := h j h2
  rwa [List.getD_eq_getElem?_getD, List.getD_eq_getElem?_getD, List.getElem?_eq_getElem h1, List.getElem?_eq_getElem h2] at this
theorem getD_replicate {n j : Nat} {v : Int} (h : j < n) : (List.replicate n v).getD j 0 = v := by
  rw [List.getD_eq_getElem?_getD, List.getElem?_replicate, if_pos h]; rfl
theorem get_set_ne {l : List Int} {i j : Nat} {v : Int} (h : i ≠ j) : (l.set i v).getD j 0 = l.getD j 0 := by
  rw [List.getD_eq_getElem?_getD, List.getElem?_set_ne h, ← List.getD_eq_getElem?_getD]
theorem get_set_eq {l : List Int} {i : Nat} {v : Int} (h : i < l.length) : (l.set i v).getD i 0 = v := by
  rw [List.getD_eq_getElem?_getD, List.getElem?_set_self h]; rfl
end Go.Proofs.Ytmnpdkhkgddojaa.Base
namespace Go.Proofs.Ytmnpdkhkgddojaa.Tree
set_option linter.unusedVariables false
set_option linter.unusedSectionVars false

def nd (d : List Int) : Nat → Int
  | 0 => 1
  | i + 1 => nd d i + d.getD i 0 - 1

structure IsT (d : List Int) : Prop where
  pos : ∀ i, i < d.length → 0 < nd d i
  deg : ∀ i, i < d.length → 0 ≤ d.getD i 0
  fin : nd d d.length = 0

def skip (d : List Int) : Nat → Int → Nat → Nat
  | 0, _, v => v
  | f + 1, need, v => if need > 0 then skip d f (need + (d.getD v 0 - 1)) (v + 1) else v
def endM (d : List Int) (v : Nat) : Nat := skip d (d.length - v) 1 v

theorem IsT.len {d : List Int} (h : IsT d) : 0 < d.length := by
  rcases Nat.eq_zero_or_pos d.length with h0 | h0
  · have := h.fin
    rw [h0] at this
    simp [nd] at this
  · exact h0

theorem skip_spec {d : List Int} (h : IsT d) {v : Nat} (hv : v < d.length) : ∀ (f u : Nat), u + f = d.length → v ≤ u → (∀ j, v < j → j < u → nd d v ≤ nd d j) →
    (u = v ∨ nd d v - 1 ≤ nd d u) →
    v < skip d f (1 + nd d u - nd d v) u ∧ skip d f (1 + nd d u - nd d v) u ≤ d.length ∧ nd d (skip d f (1 + nd d u - nd d v) u) = nd d v - 1 ∧ ∀ j, v < j → j < skip d f (1 + nd d u - nd d v) u → nd d v ≤ nd d j := by
  intro f
  induction f with
  | zero =>
    intro u hf hvu hj hu
    have hn : u = d.length := by omega
    have h1 := h.fin
    have h2 := h.pos v hv
    subst hn
    simp only [skip]
    refine ⟨hv, Nat.le_refl _, ?_, hj⟩
    rcases hu with hu | hu
    · omega
    · omega
  | succ f ih =>
    intro u hf hvu hj hu
    have hlt : u < d.length := by omega
    simp only [skip]
    by_cases hn : 1 + nd d u - nd d v > 0
    · rw [if_pos hn]
      have e : 1 + nd d u - nd d v + (d.getD u 0 - 1) = 1 + nd d (u + 1) - nd d v := by simp only [nd]; omega
      rw [e]
      refine ih (u + 1) (by omega) (by omega) (fun j h1 h2 => ?_) (.inr ?_)
      · by_cases hju : j = u
        · subst hju; omega
        · exact hj j h1 (by omega)
      · have := h.deg u hlt
        simp only [nd]; omega
    · rw [if_neg hn]
      rcases hu with hu | hu
      · subst hu; omega
      · have hne : v ≠ u := by intro e; subst e; omega
        exact ⟨by omega, by omega, by omega, hj⟩

section
variable {d : List Int} (h : IsT d)
include h
theorem end_spec {v : Nat} (hv : v < d.length) : v < endM d v ∧ endM d v ≤ d.length ∧ nd d (endM d v) = nd d v - 1 ∧ ∀ j, v < j → j < endM d v → nd d v ≤ nd d j := by
  have := skip_spec h hv (d.length - v) v (by omega) (Nat.le_refl _) (fun j h1 h2 => by omega) (.inl rfl)
  have e : 1 + nd d v - nd d v = 1 := by omega
  rw [e] at this
  exact this
theorem end_gt {v : Nat} (hv : v < d.length) : v < endM d v := (end_spec h hv).1
theorem end_le {v : Nat} (hv : v < d.length) : endM d v ≤ d.length := (end_spec h hv).2.1
theorem end_unique {v e : Nat} (hv : v < d.length) (h1 : v < e) (h2 : nd d e < nd d v) (h3 : ∀ j, v < j → j < e → nd d v ≤ nd d j) : e = endM d v := by
  have ⟨a, b, c, k⟩ := end_spec h hv
  rcases Nat.lt_trichotomy e (endM d v) with hl | hl | hl
  · have := k e h1 hl; omega
  · exact hl
  · have := h3 _ a hl; omega
theorem nd_le {i : Nat} (hi : i ≤ d.length) : nd d i ≤ d.length - i := by
  obtain ⟨k, hk⟩ : ∃ k, i + k = d.length := ⟨d.length - i, by omega⟩
  induction k generalizing i with
  | zero => have := h.fin; have e : i = d.length := by omega
            subst e; omega
  | succ k ih =>
    have := ih (i := i + 1) (by omega) (by omega)
    have h1 := h.deg i (by omega)
    simp only [nd] at this
    omega
theorem nd_nonneg {i : Nat} (hi : i ≤ d.length) : 0 ≤ nd d i := by
  rcases Nat.lt_or_ge i d.length with hl | hl
  · have := h.pos i hl; omega
  · have e : i = d.length := by omega
    have := h.fin
    subst e; omega
theorem deg_le {v : Nat} (hv : v < d.length) : d.getD v 0 < d.length - v := by
  have h1 := nd_le h (i := v + 1) (by omega)
  have h2 := h.pos v hv
  simp only [nd] at h1
  omega
end

def kidsFrom (d : List Int) : Nat → Nat → List Nat
  | 0, _ => []
  | m + 1, c => c :: kidsFrom d m (endM d c)
def kidsM (d : List Int) (v : Nat) : List Nat := kidsFrom d (d.getD v 0).toNat (v + 1)
theorem kidsFrom_length (d : List Int) : ∀ (m c : Nat), (kidsFrom d m c).length = m
  | 0, _ => rfl
  | m + 1, c => by simp [kidsFrom, kidsFrom_length d m]

inductive Run (d : List Int) : Nat → Nat → Nat → Prop
  | nil (c : Nat) : Run d 0 c c
  | cons {m c e : Nat} : c < d.length → Run d m (endM d c) e → Run d (m + 1) c e

section
variable {d : List Int} (h : IsT d)
include h
theorem run_of {v : Nat} (hv : v < d.length) : ∀ (m c : Nat), v < c → c ≤ d.length → nd d c = nd d v - 1 + m → (∀ j, v < j → j < c → nd d v ≤ nd d j) → Run d m c (endM d v)
  | 0, c, h1, h2, h3, h4 => by
    have e := end_unique h hv h1 (by omega) h4
    rw [← e]
    exact .nil c
  | m + 1, c, h1, h2, h3, h4 => by
    have hc : c < d.length := by
      rcases Nat.lt_or_ge c d.length with hl | hl
      · exact hl
      · have e : c = d.length := by omega
        have := h.fin
        have h0 := h.pos v hv
        subst e; omega
    have a := end_spec h hc
    refine .cons hc (run_of hv m _ (by omega) a.2.1 (by omega) (fun j hj1 hj2 => ?_))
    rcases Nat.lt_trichotomy j c with hl | hl | hl
    · exact h4 j hj1 hl
    · subst hl; omega
    · have := a.2.2.2 j hl hj2; omega
theorem run_kids {v : Nat} (hv : v < d.length) : Run d (d.getD v 0).toNat (v + 1) (endM d v) := by
  have h0 := h.deg v hv
  refine run_of h hv _ _ (by omega) (by omega) ?_ (fun j h1 h2 => by omega)
  simp only [nd]; omega
theorem run_bd {m c e : Nat} (r : Run d m c e) : c ≤ e := by
  induction r with
  | nil c => exact Nat.le_refl _
  | cons hc _ ih => have := end_gt h hc; omega
theorem run_mem {m c e : Nat} (r : Run d m c e) : ∀ x ∈ kidsFrom d m c, c ≤ x ∧ x < d.length ∧ x < e ∧ endM d x ≤ e := by
  induction r with
  | nil c => intro x hx; simp [kidsFrom] at hx
  | @cons m c e hc r ih =>
    intro x hx
    have h1 := run_bd h r
    have h2 := end_gt h hc
    simp only [kidsFrom, List.mem_cons] at hx
    rcases hx with rfl | hx
    · exact ⟨Nat.le_refl _, hc, by omega, h1⟩
    · have := ih x hx
      exact ⟨by omega, this.2.1, this.2.2.1, this.2.2.2⟩
end
section
variable {d : List Int} (h : IsT d)
include h
theorem kid_mem {v c : Nat} (hv : v < d.length) (hc : c ∈ kidsM d v) : v < c ∧ c < d.length ∧ c < endM d v ∧ endM d c ≤ endM d v := by
  have := run_mem h (run_kids h hv) c hc
  exact ⟨by omega, this.2.1, this.2.2.1, this.2.2.2⟩
end

section
variable {d : List Int} (h : IsT d)
include h
end

def below (d : List Int) (v w : Nat) : Prop := w ≤ v ∧ v < endM d w
instance (d : List Int) (v w : Nat) : Decidable (below d v w) := inferInstanceAs (Decidable (_ ∧ _))
section
variable {d : List Int} (h : IsT d)
include h
end
end Go.Proofs.Ytmnpdkhkgddojaa.Tree
namespace Go.Proofs.Ytmnpdkhkgddojaa.E
set_option linter.unusedVariables false
set_option linter.unusedSectionVars false
open Go.RowKit Go.Proofs.YtmnpdkhkgddojaaW.PrintWords Go.Proofs.Ytmnpdkhkgddojaa.Base Go.Proofs.Ytmnpdkhkgddojaa.Tree

def gF (R : Nat → List (List Int)) (b : Nat) : Nat → Nat → List (List Int)
  | 0, _ => []
  | m + 1, kk => (R (b + kk)).map (fun s => (kk : Int) :: s) ++ gF R b m (kk + 1)
def gT : Nat → Nat → List (List Int)
  | 0 => fun need => if need = 0 then [[]] else []
  | n + 1 => fun need => if 1 ≤ need ∧ need ≤ n + 1 then gF (gT n) (need - 1) (n + 2 - need) 0 else []
theorem gF_mem {R : Nat → List (List Int)} {b : Nat} : ∀ (m kk : Nat) {s : List Int}, s ∈ gF R b m kk → ∃ (k : Nat) (t : List Int), kk ≤ k ∧ k < kk + m ∧ s = (k : Int) :: t ∧ t ∈ R (b + k)
  | 0, kk, s, h => by cases h
  | m + 1, kk, s, h => by
    simp only [gF] at h
    rcases List.mem_append.1 h with h | h
    · obtain ⟨t, ht, rfl⟩ := List.mem_map.1 h
      exact ⟨kk, t, by omega, by omega, rfl, ht⟩
    · obtain ⟨k, t, h1, h2, h3, h4⟩ := gF_mem m (kk + 1) h
      exact ⟨k, t, by omega, by omega, h3, h4⟩
def ndF (need : Int) (s : List Int) : Nat → Int
  | 0 => need
  | i + 1 => ndF need s i + s.getD i 0 - 1
theorem ndF_cons (need k : Int) (s : List Int) : ∀ i, ndF need (k :: s) (i + 1) = ndF (need + k - 1) s i
  | 0 => by simp [ndF]
  | i + 1 => by
    have ih := ndF_cons need k s i
    rw [ndF, ih]
    simp [ndF]
theorem nd_ndF (d : List Int) : ∀ i, nd d i = ndF 1 d i
  | 0 => rfl
  | i + 1 => by simp only [nd, ndF, nd_ndF d i]
theorem gT_sound : ∀ (n need : Nat) {s : List Int}, s ∈ gT n need → s.length = n ∧ (∀ i, i < n → 0 < ndF need s i ∧ 0 ≤ s.getD i 0) ∧ ndF need s n = 0
  | 0, need, s, h => by
    simp only [gT] at h
    split at h
    · rename_i e
      rw [List.mem_singleton] at h
      subst h
      exact ⟨rfl, fun i hi => by omega, by simp [ndF, e]⟩
    · cases h
  | n + 1, need, s, h => by
    simp only [gT] at h
    split at h
    · rename_i hn
      obtain ⟨k, t, _, h2, rfl, h4⟩ := gF_mem _ _ h
      obtain ⟨t1, t2, t3⟩ := gT_sound n _ h4
      have e : ((need - 1 + k : Nat) : Int) = (need : Int) + (k : Int) - 1 := by omega
      refine ⟨by simp [t1], fun i hi => ?_, ?_⟩
      · cases i with
        | zero => exact ⟨by simp [ndF]; omega, by simp⟩
        | succ i =>
          rw [ndF_cons, ← e]
          have := t2 i (by omega)
          exact ⟨this.1, by simpa using this.2⟩
      · rw [ndF_cons, ← e]; exact t3
    · cases h
theorem gT_tree {n : Nat} {s : List Int} (h : s ∈ gT n 1) : IsT s ∧ s.length = n := by
  obtain ⟨h1, h2, h3⟩ := gT_sound n 1 h
  refine ⟨⟨fun i hi => ?_, fun i hi => (h2 i (by omega)).2, ?_⟩, h1⟩
  · rw [nd_ndF]; exact (h2 i (by omega)).1
  · rw [nd_ndF, h1]; exact h3
theorem gF_few {R : Nat → List (List Int)} {b X : Nat} (hR : ∀ k, (R k).length ≤ X) : ∀ (m kk : Nat), (gF R b m kk).length ≤ m * X
  | 0, kk => by simp [gF]
  | m + 1, kk => by
    have h1 := gF_few (b := b) hR m (kk + 1)
    have h2 := hR (b + kk)
    simp only [gF, List.length_append, List.length_map, Nat.succ_mul]
    omega
theorem gT_few : ∀ (n : Nat), n ≤ 8 → ∀ need, (gT n need).length ≤ 10 ^ n
  | 0, _, need => by simp only [gT]; split <;> simp
  | n + 1, hn, need => by
    simp only [gT]
    split
    · rename_i h
      have h1 := gF_few (b := need - 1) (gT_few n (by omega)) (n + 2 - need) 0
      have h2 : (n + 2 - need) * 10 ^ n ≤ 10 * 10 ^ n := Nat.mul_le_mul_right _ (by omega)
      rw [Nat.pow_succ]
      omega
    · simp
theorem gT_small (n : Nat) (hn : n ≤ 8) (need : Nat) : (gT n need).length ≤ 100000000 := by
  have h1 := gT_few n hn need
  have h2 : 10 ^ n ≤ 10 ^ 8 := Nat.pow_le_pow_right (by decide) hn
  omega
end Go.Proofs.Ytmnpdkhkgddojaa.E
namespace Go.Proofs.Ytmnpdkhkgddojaa.E
set_option linter.unusedVariables false
set_option linter.unusedSectionVars false
open Go.RowKit Go.Proofs.YtmnpdkhkgddojaaW.PrintWords Go.Proofs.Ytmnpdkhkgddojaa.Base Go.Proofs.Ytmnpdkhkgddojaa.Tree

theorem cfP_sum {n b : Nat} (hn : n ≤ 8) (ih : ∀ k, cfF n k = ((gT n k).length : Int)) : ∀ (m : Nat), m ≤ 20 → cfP (cfF n) b m = ((gF (gT n) b m 0).length : Int) ∧ 0 ≤ cfP (cfF n) b m ∧ cfP (cfF n) b m ≤ 100000000 * m := by
  have snoc : ∀ (m kk : Nat), (gF (gT n) b (m + 1) kk).length = (gF (gT n) b m kk).length + (gT n (b + kk + m)).length := by
    intro m
    induction m with
    | zero => intro kk; simp [gF]
    | succ m ihm =>
      intro kk
      have h1 := ihm (kk + 1)
      simp only [gF, List.length_append, List.length_map] at h1 ⊢
      rw [show b + (kk + 1) + m = b + kk + (m + 1) by omega] at h1
      omega
  intro m
  induction m with
  | zero => intro _; simp [cfP, gF]
  | succ m ihm =>
    intro hm
    obtain ⟨h1, h2, h3⟩ := ihm (by omega)
    have h4 := gT_small n hn (b + m)
    have h5 := snoc m 0
    simp only [cfP]
    rw [ih (b + m), w64 (by omega) (by omega)]
    rw [show b + 0 + m = b + m by omega] at h5
    omega
theorem cfF_gT : ∀ (n : Nat), n ≤ 8 → ∀ k, cfF n k = ((gT n k).length : Int)
  | 0, _, k => by
    simp only [cfF, gT]
    split <;> rfl
  | n + 1, hn, k => by
    simp only [cfF, gT]
    split
    · rename_i h
      exact (cfP_sum (by omega) (cfF_gT n (by omega)) (n + 2 - k) (by omega)).1
    · rfl
theorem getD_left {a b : List (List Int)} {i : Nat} (h : i < a.length) : (a ++ b).getD i [] = a.getD i [] := by
  rw [List.getD_eq_getElem?_getD, List.getElem?_append_left h, ← List.getD_eq_getElem?_getD]
theorem getD_right {a b : List (List Int)} {i : Nat} (h : a.length ≤ i) : (a ++ b).getD i [] = b.getD (i - a.length) [] := by
  rw [List.getD_eq_getElem?_getD, List.getElem?_append_right h, ← List.getD_eq_getElem?_getD]
theorem getD_consmap {l : List (List Int)} {k : Int} {i : Nat} (h : i < l.length) : (l.map (fun s => k :: s)).getD i [] = k :: l.getD i [] := by
  rw [List.getD_eq_getElem?_getD, List.getElem?_map, List.getElem?_eq_getElem h, List.getD_eq_getElem?_getD, List.getElem?_eq_getElem h]
  rfl
theorem rank_in {n : Nat} (hn : n ≤ 7) {need : Nat} (h1 : 1 ≤ need) {d : List Int} (hd : d.length ≤ 100)
    (H : ∀ (kk r : Nat), need - 1 + kk ≤ n → r < (gT n (need - 1 + kk)).length → Ev (fun k => impl_treeOfRank.l0 k (d ++ [(kk : Int)]) ((need - 1 + kk : Nat) : Int) ((n : Int) - 1) (r : Int)) (d ++ [(kk : Int)] ++ (gT n (need - 1 + kk)).getD r [], true)) :
    ∀ (m kk r : Nat), kk + m = n + 2 - need → r < (gF (gT n) (need - 1) m kk).length → Ev (fun k => impl_treeOfRank.l1 k d (need : Int) (n : Int) (r : Int) (kk : Int)) (d ++ (gF (gT n) (need - 1) m kk).getD r [], true)
  | 0, kk, r, hm, hr => by simp [gF] at hr
  | m + 1, kk, r, hm, hr => by
    have hs := gT_small n (by omega) (need - 1 + kk)
    have hb := gT_small n (by omega)
    have hfew := gF_few (b := need - 1) hb (m + 1) kk
    have e1 : wrap64 (wrap64 ((need : Int) - 1) + (kk : Int)) = ((need - 1 + kk : Nat) : Int) := by
      rw [w64 (x := (need : Int) - 1) (by omega) (by omega), w64 (by omega) (by omega)]; omega
    have e2 : cfF n (need - 1 + kk) = ((gT n (need - 1 + kk)).length : Int) := cfF_gT n (by omega) _
    refine Ev.step (fun k => by rw [impl_treeOfRank.l1]) ?_
    rw [e1, show ((n : Int)).toNat = n from rfl, show (((need - 1 + kk : Nat) : Int)).toNat = need - 1 + kk from rfl, e2]
    refine ev_pos ⟨by omega, by omega, by omega, by omega⟩ ?_
    simp only [gF] at hr ⊢
    refine ev_ite (fun hx => ?_) (fun hx => ?_)
    · have hle : (gT n (need - 1 + kk)).length ≤ r := by omega
      have hr0 := hr
      simp only [List.length_append, List.length_map] at hr0
      simp only [gF, List.length_append, List.length_map] at hfew
      rw [w64 (by omega) (by omega), w64s (by omega), show (r : Int) - ((gT n (need - 1 + kk)).length : Int) = ((r - (gT n (need - 1 + kk)).length : Nat) : Int) by omega]
      rw [getD_right (by simpa using hle), List.length_map]
      exact rank_in hn h1 hd H m (kk + 1) _ (by omega) (by omega)
    · have hlt : r < (gT n (need - 1 + kk)).length := by omega
      rw [getD_left (by simpa using hlt), getD_consmap hlt]
      have hne : need - 1 + kk ≤ n := by omega
      have := H kk r hne hlt
      rw [w64 (x := (kk : Int) - 1) (by omega) (by omega), w64 (x := (need : Int) + ((kk : Int) - 1)) (by omega) (by omega), w64 (x := (n : Int) - 1) (by omega) (by omega), show (need : Int) + ((kk : Int) - 1) = ((need - 1 + kk : Nat) : Int) by omega]
      refine ev_pos (by omega) ?_
      simpa using this
theorem rank_loop : ∀ (n : Nat), n ≤ 8 → ∀ (need r : Nat) (d : List Int), d.length + n ≤ 100 → r < (gT n need).length → Ev (fun k => impl_treeOfRank.l0 k d (need : Int) ((n : Int) - 1) (r : Int)) (d ++ (gT n need).getD r [], true)
  | 0, hn, need, r, d, hd, hr => by
    refine Ev.step (fun k => by rw [impl_treeOfRank.l0]) ?_
    refine ev_neg (by omega) (ev_now ?_)
    simp only [gT] at hr ⊢
    split at hr
    · rename_i e
      rw [if_pos e]
      have e0 : r = 0 := by simpa using hr
      subst e0
      simp
    · simp at hr
  | n + 1, hn, need, r, d, hd, hr => by
    simp only [gT] at hr ⊢
    split at hr
    · rename_i h
      rw [if_pos h]
      refine Ev.step (fun k => by rw [impl_treeOfRank.l0]) ?_
      refine ev_pos (by omega) ?_
      rw [show ((n + 1 : Nat) : Int) - 1 = (n : Int) by omega]
      exact rank_in (by omega) h.1 (by omega) (fun kk r' h1 h2 => rank_loop n (by omega) _ r' _ (by simp; omega) h2) (n + 2 - need) 0 r (by omega) hr
    · simp at hr
theorem treeOfRank_ev {n : Nat} (h1 : 1 ≤ n) (hn : n ≤ 8) (r : Nat) : Ev (fun k => impl_treeOfRank.f k (n : Int) (r : Int)) (if r < (gT n 1).length then ((gT n 1).getD r [], true) else ([], false)) := by
  unfold impl_treeOfRank.f
  rw [show ((n : Int)).toNat = n from rfl, cfF_gT n hn]
  refine ev_pos ⟨by omega, by omega⟩ (ev_ite (fun hx => ?_) (fun hx => ?_))
  · rw [if_neg (by omega)]; exact Ev.now _
  · rw [if_pos (by omega), w64 (by omega) (by omega)]
    have := rank_loop n hn 1 r [] (by simp; omega) (by omega)
    simpa using this
theorem treesOf_loop {n : Nat} (h1 : 1 ≤ n) (hn : n ≤ 8) : ∀ (m r : Nat), r + m = (gT n 1).length → Ev (fun k => impl_treesOf.l0 k (n : Int) (((gT n 1).take r).map fun s => (⟨s⟩ : S38)) (r : Int)) ((gT n 1).map fun s => (⟨s⟩ : S38))
  | 0, r, hr => by
    have hs := gT_small n hn 1
    refine Ev.step (fun k => by rw [impl_treesOf.l0]) ?_
    refine Ev.bind (treeOfRank_ev h1 hn r) ?_
    rw [if_neg (by omega)]
    refine ev_neg (by decide) (ev_now ?_)
    rw [List.take_of_length_le (by omega)]
  | m + 1, r, hr => by
    have hs := gT_small n hn 1
    have hlt : r < (gT n 1).length := by omega
    have ih := treesOf_loop h1 hn m (r + 1) (by omega)
    refine Ev.step (fun k => by rw [impl_treesOf.l0]) ?_
    refine Ev.bind (treeOfRank_ev h1 hn r) ?_
    rw [if_pos hlt, w64s (by omega)]
    refine ev_pos rfl (ev_pos (by rw [List.length_map, List.length_take]; omega) ?_)
    rw [List.take_succ_eq_append_getElem hlt, List.map_append] at ih
    have e : (gT n 1).getD r [] = (gT n 1)[r] := by rw [List.getD_eq_getElem?_getD, List.getElem?_eq_getElem hlt]; rfl
    rw [e]
    simpa using ih
theorem impl_treesOf_ev {n : Nat} (h1 : 1 ≤ n) (hn : n ≤ 8) : Ev (fun k => impl_treesOf.f k (n : Int)) ((gT n 1).map fun s => (⟨s⟩ : S38)) := by
  have := treesOf_loop h1 hn (gT n 1).length 0 (by omega)
  unfold impl_treesOf.f
  simpa using this
theorem own_eq (l : List Int) (h : l.length ≤ 1000) : spec_l01Own.f l = some l := by
  unfold spec_l01Own.f
  rw [Option.bind_some, if_pos (by simp; omega)]
  simp
theorem go_in {n open_ : Nat} (hn : n ≤ 7) (ho : 1 ≤ open_) (ho2 : open_ ≤ n + 1) {d : List Int} (hd : d.length ≤ 100)
    (H : ∀ kk : Nat, open_ - 1 + kk ≤ n → (n = 0 ∧ open_ - 1 + kk = 0 ∨ 1 ≤ n ∧ 1 ≤ open_ - 1 + kk) → Ev (fun k => spec_l01Go.f k (d ++ [(kk : Int)]) ((open_ - 1 + kk : Nat) : Int) (n : Int)) ((gT n (open_ - 1 + kk)).map fun s => (⟨d ++ [(kk : Int)] ++ s⟩ : S38))) :
    ∀ (m kk : Nat) (acc : List S38), kk + m = n + 2 - open_ → acc.length ≤ 100000000 * kk → Ev (fun k => spec_l01Go.l0 k d (open_ : Int) ((n + 1 : Nat) : Int) acc (kk : Int)) (acc ++ (gF (gT n) (open_ - 1) m kk).map fun s => (⟨d ++ s⟩ : S38))
  | 0, kk, acc, hm, ha => by
    have e1 : wrap64 (wrap64 ((open_ : Int) - 1) + (kk : Int)) = ((open_ - 1 + kk : Nat) : Int) := by
      rw [w64 (x := (open_ : Int) - 1) (by omega) (by omega), w64 (by omega) (by omega)]; omega
    have e2 : wrap64 (((n + 1 : Nat) : Int) - 1) = (n : Int) := by rw [w64 (by omega) (by omega)]; omega
    refine Ev.step (fun k => by rw [spec_l01Go.l0]) ?_
    rw [e1, e2]
    exact ev_neg (by omega) (ev_now (by simp [gF]))
  | m + 1, kk, acc, hm, ha => by
    have e1 : wrap64 (wrap64 ((open_ : Int) - 1) + (kk : Int)) = ((open_ - 1 + kk : Nat) : Int) := by
      rw [w64 (x := (open_ : Int) - 1) (by omega) (by omega), w64 (by omega) (by omega)]; omega
    have e2 : wrap64 (((n + 1 : Nat) : Int) - 1) = (n : Int) := by rw [w64 (by omega) (by omega)]; omega
    have hs := gT_small n (by omega) (open_ - 1 + kk)
    have next : ∀ acc' : List S38, acc'.length ≤ 100000000 * (kk + 1) → Ev (fun k => spec_l01Go.l0 k d (open_ : Int) ((n + 1 : Nat) : Int) acc' (wrap64 ((kk : Int) + 1))) (acc' ++ (gF (gT n) (open_ - 1) m (kk + 1)).map fun s => (⟨d ++ s⟩ : S38)) := by
      intro acc' h'
      rw [w64s (by omega)]
      exact go_in hn ho ho2 hd H m (kk + 1) acc' (by omega) h'
    have body : (n = 0 ∧ open_ - 1 + kk = 0 ∨ 1 ≤ n ∧ 1 ≤ open_ - 1 + kk) → Ev (fun k => spec_l01Go.j1 k d (open_ : Int) ((n + 1 : Nat) : Int) acc (kk : Int) false) (acc ++ (gF (gT n) (open_ - 1) (m + 1) kk).map fun s => (⟨d ++ s⟩ : S38)) := by
      intro hc
      have h1 := H kk (by omega) hc
      have h2 := next (acc ++ (gT n (open_ - 1 + kk)).map fun s => (⟨d ++ [(kk : Int)] ++ s⟩ : S38)) (by simp; omega)
      refine Ev.step (fun k => by rw [spec_l01Go.j1]) ?_
      rw [own_eq d (by omega), e1, e2]
      refine ev_neg (by decide) (ev_some (ev_pos (by omega) (Ev.bind h1 (ev_pos (by rw [List.length_map]; omega) ?_))))
      have e3 : (acc ++ (gT n (open_ - 1 + kk)).map fun s => (⟨d ++ [(kk : Int)] ++ s⟩ : S38)) ++ (gF (gT n) (open_ - 1) m (kk + 1)).map (fun s => (⟨d ++ s⟩ : S38)) = acc ++ (gF (gT n) (open_ - 1) (m + 1) kk).map fun s => (⟨d ++ s⟩ : S38) := by
        simp [gF, Function.comp_def]
      rw [e3] at h2
      exact h2
    refine Ev.step (fun k => by rw [spec_l01Go.l0]) ?_
    rw [e1, e2]
    refine ev_pos (by omega) (ev_ite (fun hz => ?_) (fun hz => ?_))
    · by_cases h0 : n = 0
      · rw [decide_eq_false (by omega)]
        exact body (Or.inl ⟨h0, by omega⟩)
      · rw [decide_eq_true (by omega)]
        refine Ev.step (fun k => by rw [spec_l01Go.j1]) ?_
        refine ev_pos rfl ?_
        have h3 := next acc (by omega)
        have e4 : gT n (open_ - 1 + kk) = [] := by
          obtain ⟨n', rfl⟩ : ∃ n', n = n' + 1 := ⟨n - 1, by omega⟩
          simp only [gT]
          rw [if_neg (by omega)]
        simp only [gF, e4, List.map_nil, List.nil_append]
        exact h3
    · exact body (Or.inr ⟨by omega, by omega⟩)
theorem spec_go_ev : ∀ (n : Nat), n ≤ 8 → ∀ (open_ : Nat) (d : List Int), d.length + n ≤ 100 → (n = 0 ∧ open_ = 0 ∨ 1 ≤ open_ ∧ open_ ≤ n) → Ev (fun k => spec_l01Go.f k d (open_ : Int) (n : Int)) ((gT n open_).map fun s => (⟨d ++ s⟩ : S38))
  | 0, hn, open_, d, hd, hc => by
    refine Ev.step (fun k => by rw [spec_l01Go.f]) ?_
    refine ev_pos rfl ?_
    have e : open_ = 0 := by omega
    subst e
    unfold spec_l01Make.f
    rw [own_eq d (by omega)]
    exact ev_now (by simp [gT])
  | n + 1, hn, open_, d, hd, hc => by
    have h1 : 1 ≤ open_ ∧ open_ ≤ n + 1 := by omega
    refine Ev.step (fun k => by rw [spec_l01Go.f]) ?_
    refine ev_neg (by omega) ?_
    have := go_in (by omega) h1.1 h1.2 (by omega) (fun kk hk hc => spec_go_ev n (by omega) (open_ - 1 + kk) (d ++ [(kk : Int)]) (by simp; omega) (by omega)) (n + 2 - open_) 0 [] (by omega) (by simp)
    simp only [gT]
    rw [if_pos h1]
    simpa using this
theorem spec_l01All_ev {n : Nat} (h1 : 1 ≤ n) (hn : n ≤ 8) : Ev (fun k => spec_l01All.f k (n : Int)) ((gT n 1).map fun s => (⟨s⟩ : S38)) := by
  unfold spec_l01All.f
  have := spec_go_ev n hn 1 [] (by simp; omega) (by omega)
  exact Ev.bind this (ev_now (by simp))
end Go.Proofs.Ytmnpdkhkgddojaa.E
namespace Go.Proofs.Ytmnpdkhkgddojaa.Auto
set_option linter.unusedVariables false
set_option linter.unusedSectionVars false
open Go.RowKit Go.Proofs.YtmnpdkhkgddojaaW.PrintWords Go.Proofs.Ytmnpdkhkgddojaa.Base

def inS (m : Nat) (s : Int) : Bool := decide (0 ≤ s) && decide (s < m)
theorem inS_iff {m : Nat} {s : Int} : inS m s = true ↔ 0 ≤ s ∧ s < m := by
  unfold inS; rw [Bool.and_eq_true, decide_eq_true_eq, decide_eq_true_eq]
def rowOk (m : Nat) (row : List Int) : Bool := decide (row.length = m) && row.all (inS m)
def goodFrom (m : Nat) (g : List Int) : Nat → Nat → Bool
  | 0, _ => true
  | k + 1, i => (inS m (g.getD i 0) && (decide (i = 0) || decide (g.getD (i - 1) 0 < g.getD i 0))) && goodFrom m g k (i + 1)
def isAutM (st : Int) (S : List (List Int)) (g : List Int) : Bool :=
  decide (1 ≤ S.length) && decide (S.length ≤ 9) && inS S.length st && S.all (rowOk S.length) && goodFrom S.length g g.length 0
def stepM (S : List (List Int)) (a b : Int) : Int := (S.getD a.toNat []).getD b.toNat 0
structure IsA (st : Int) (S : List (List Int)) (g : List Int) : Prop where
  one : 1 ≤ S.length
  nine : S.length ≤ 9
  start : 0 ≤ st ∧ st < S.length
  row : ∀ i, i < S.length → (S.getD i []).length = S.length
  step : ∀ i j, i < S.length → j < S.length → 0 ≤ (S.getD i []).getD j 0 ∧ (S.getD i []).getD j 0 < S.length
  good : ∀ i, i < g.length → 0 ≤ g.getD i 0 ∧ g.getD i 0 < S.length
  asc : ∀ i, 0 < i → i < g.length → g.getD (i - 1) 0 < g.getD i 0
theorem goodFrom_sound {m : Nat} {g : List Int} : ∀ (k i : Nat), goodFrom m g k i = true → ∀ j, i ≤ j → j < i + k → (0 ≤ g.getD j 0 ∧ g.getD j 0 < m) ∧ (0 < j → g.getD (j - 1) 0 < g.getD j 0)
  | 0, i, _, j, h1, h2 => by omega
  | k + 1, i, h, j, h1, h2 => by
    simp only [goodFrom, Bool.and_eq_true, Bool.or_eq_true, decide_eq_true_eq, inS_iff] at h
    by_cases e : j = i
    · subst e
      refine ⟨h.1.1, fun h0 => ?_⟩
      rcases h.1.2 with h3 | h3
      · omega
      · exact h3
    · exact goodFrom_sound k (i + 1) h.2 j (by omega) (by omega)
theorem all_getD {α : Type} {p : α → Bool} {l : List α} (h : l.all p = true) (x : α) {i : Nat} (hi : i < l.length) : p (l.getD i x) = true := by
  rw [List.getD_eq_getElem?_getD, List.getElem?_eq_getElem hi]
  exact List.all_eq_true.1 h _ (List.getElem_mem hi)
theorem isAutM_sound {st : Int} {S : List (List Int)} {g : List Int} (h : isAutM st S g = true) : IsA st S g := by
  unfold isAutM at h
  simp only [Bool.and_eq_true, decide_eq_true_eq, inS_iff] at h
  obtain ⟨⟨⟨⟨h1, h2⟩, h3⟩, h4⟩, h5⟩ := h
  have hr : ∀ i, i < S.length → rowOk S.length (S.getD i []) = true := fun i hi => all_getD h4 [] hi
  have hg := goodFrom_sound g.length 0 h5
  refine ⟨h1, h2, h3, fun i hi => ?_, fun i j hi hj => ?_, fun i hi => (hg i (by omega) (by omega)).1, fun i h0 hi => (hg i (by omega) (by omega)).2 h0⟩
  · have := hr i hi
    simp only [rowOk, Bool.and_eq_true, decide_eq_true_eq] at this
    exact this.1
  · have := hr i hi
    simp only [rowOk, Bool.and_eq_true, decide_eq_true_eq] at this
    exact inS_iff.1 (all_getD this.2 0 (by omega))
def stIn (S : List (List Int)) (v : Nat) : List Nat → List Int → List Int
  | [], out => out
  | c :: cs, out => stIn S v cs (out.set v (stepM S (out.getD v 0) (out.getD c 0)))
structure Sts (m n : Nat) (out : List Int) : Prop where
  len : out.length = n
  mem : ∀ j, j < n → 0 ≤ out.getD j 0 ∧ out.getD j 0 < m
theorem Sts.set {m n : Nat} {out : List Int} (h : Sts m n out) (v : Nat) (hv : v < n) {x : Int} (hx : 0 ≤ x ∧ x < m) : Sts m n (out.set v x) := by
  refine ⟨by rw [List.length_set, h.len], fun j hj => ?_⟩
  by_cases e : v = j
  · subst e; rw [get_set_eq (by rw [h.len]; exact hv)]; exact hx
  · rw [get_set_ne e]; exact h.mem j hj
theorem IsA.stepM {st : Int} {S : List (List Int)} {g : List Int} (h : IsA st S g) {a b : Int} (ha : 0 ≤ a ∧ a < S.length) (hb : 0 ≤ b ∧ b < S.length) : 0 ≤ stepM S a b ∧ stepM S a b < S.length :=
  h.step a.toNat b.toNat (by omega) (by omega)
theorem Sts.zero {m : Nat} (hm : 1 ≤ m) (n : Nat) : Sts m n (List.replicate n 0) := ⟨by simp, fun j hj => by rw [getD_replicate hj]; omega⟩
end Go.Proofs.Ytmnpdkhkgddojaa.Auto
namespace Go.Proofs.Ytmnpdkhkgddojaa.E
set_option linter.unusedVariables false
set_option linter.unusedSectionVars false
open Go.RowKit Go.Proofs.YtmnpdkhkgddojaaW.PrintWords Go.Proofs.Ytmnpdkhkgddojaa.Base

theorem toInt64S_loop (x0 : List Int) (hn : x0.length ≤ 1048576) : ∀ (m i : Nat) (x3 : List Int), i + m = x0.length → x3.length = x0.length → (∀ j, j < i → x3.getD j 0 = x0.getD j 0) → Ev (fun k => laws_toInt64S.l0 k x0 x3 (i : Int)) x0 := by
  intro m
  induction m with
  | zero =>
    intro i x3 h1 h2 h3
    refine Ev.step (fun k => by rw [laws_toInt64S.l0]) ?_
    refine ev_neg (by omega) ?_
    exact ev_now (ext_getD h2 (fun j hj => h3 j (by omega)))
  | succ m ih =>
    intro i x3 h1 h2 h3
    refine Ev.step (fun k => by rw [laws_toInt64S.l0]) ?_
    refine ev_pos (by omega) (ev_pos (by omega) (ev_pos (by omega) ?_))
    rw [w64s (by omega)]
    exact ih (i + 1) _ (by omega) (by simpa using h2) (set_eq h2 h3)
theorem toInt64S_ev (l : List Int) (hn : l.length ≤ 1048576) : Ev (fun k => laws_toInt64S.f k l) l := by
  unfold laws_toInt64S.f
  refine ev_pos (by omega) (ev_pos (by simp; omega) ?_)
  exact toInt64S_loop l hn l.length 0 _ (by omega) (by simp) (fun j hj => by omega)
theorem eqInt64S_loop (a : List Int) (hn : a.length ≤ 1048576) : ∀ (m i : Nat), i + m = a.length → Ev (fun k => laws_eqInt64S.l0 k a a (i : Int)) true := by
  intro m
  induction m with
  | zero =>
    intro i h1
    refine Ev.step (fun k => by rw [laws_eqInt64S.l0]) ?_
    refine ev_neg (by omega) ?_
    exact Ev.now _
  | succ m ih =>
    intro i h1
    refine Ev.step (fun k => by rw [laws_eqInt64S.l0]) ?_
    refine ev_pos (by omega) (ev_pos (by omega) (ev_pos (by omega) (ev_pos rfl ?_)))
    rw [w64s (by omega)]
    exact ih (i + 1) (by omega)
theorem eqInt64S_ev (a : List Int) (hn : a.length ≤ 1048576) : Ev (fun k => laws_eqInt64S.f k a a) true := by
  unfold laws_eqInt64S.f
  exact ev_pos rfl (eqInt64S_loop a hn a.length 0 (by omega))
theorem eqTree_ev (a : List Int) (hn : a.length ≤ 1048576) : Ev (fun k => laws_eqTree.f k a a) true := by
  unfold laws_eqTree.f
  exact Ev.bind (eqInt64S_ev a hn) (ev_pos rfl (Ev.now _))
def marks (m : Int) : Nat → List Int
  | 0 => []
  | n + 1 => m :: marks (m + 1) n
theorem marks_length : ∀ (n : Nat) (m : Int), (marks m n).length = n
  | 0, _ => rfl
  | n + 1, m => by simp [marks, marks_length n]
theorem marks_getD : ∀ (n : Nat) (m : Int) (j : Nat), j < n → (marks m n).getD j 0 = m + j
  | 0, _, j, h => by omega
  | n + 1, m, 0, _ => by simp [marks]
  | n + 1, m, j + 1, h => by
    have := marks_getD n (m + 1) j (by omega)
    simp only [marks, List.getD_cons_succ]
    omega
theorem markInt64S_loop (n : Nat) (m0 : Int) (h0 : 0 ≤ m0) (h1 : m0 ≤ 4611686018427387904) (hn : n ≤ 1048576) : ∀ (m i : Nat) (x : List Int), i + m = n → x.length = n → (∀ j, j < i → x.getD j 0 = m0 + j) → Ev (fun k => laws_markInt64S.l0 k x (m0 + i) (i : Int)) (m0 + n, marks m0 n) := by
  intro m
  induction m with
  | zero =>
    intro i x h2 h3 h4
    refine Ev.step (fun k => by rw [laws_markInt64S.l0]) ?_
    refine ev_neg (by omega) (ev_now ?_)
    have e : x = marks m0 n := ext_getD (by rw [marks_length, h3]) (fun j hj => by rw [marks_length] at hj; rw [h4 j (by omega), marks_getD n m0 j hj])
    rw [e, show i = n by omega]
  | succ m ih =>
    intro i x h2 h3 h4
    refine Ev.step (fun k => by rw [laws_markInt64S.l0]) ?_
    refine ev_pos (by omega) (ev_pos (by omega) ?_)
    rw [w64s (by omega), w64 (by omega) (by omega), show m0 + (i : Int) + 1 = m0 + ((i + 1 : Nat) : Int) by omega]
    refine ih (i + 1) _ (by omega) (by simpa using h3) (fun j hj => ?_)
    by_cases e : i = j
    · subst e
      rw [show ((i : Int)).toNat = i from rfl, get_set_eq (by omega)]
    · rw [show ((i : Int)).toNat = i from rfl, get_set_ne e]
      exact h4 j (by omega)
theorem markInt64S_ev (l : List Int) (m0 : Int) (h0 : 0 ≤ m0) (h1 : m0 ≤ 4611686018427387904) (hn : l.length ≤ 1048576) : Ev (fun k => laws_markInt64S.f k l m0) (m0 + l.length, marks m0 l.length) := by
  unfold laws_markInt64S.f
  have := markInt64S_loop l.length m0 h0 h1 hn l.length 0 l (by omega) rfl (fun j hj => by omega)
  simpa using this
theorem markTree_ev (l : List Int) (m0 : Int) (h0 : 0 ≤ m0) (h1 : m0 ≤ 4611686018427387904) (hn : l.length ≤ 1048576) : Ev (fun k => laws_markTree.f k l m0) (m0 + l.length, marks m0 l.length) := by
  unfold laws_markTree.f
  exact Ev.bind (markInt64S_ev l m0 h0 h1 hn) (Ev.now _)
theorem heldInt64S_loop (n : Nat) (m0 : Int) (h0 : 0 ≤ m0) (h1 : m0 ≤ 4611686018427387904) (hn : n ≤ 1048576) : ∀ (m i : Nat), i + m = n → Ev (fun k => laws_heldInt64S.l0 k (marks m0 n) (m0 + i) (i : Int)) (m0 + n) := by
  intro m
  induction m with
  | zero =>
    intro i h2
    refine Ev.step (fun k => by rw [laws_heldInt64S.l0]) ?_
    refine ev_neg (by rw [marks_length]; omega) (ev_now ?_)
    rw [show i = n by omega]
  | succ m ih =>
    intro i h2
    refine Ev.step (fun k => by rw [laws_heldInt64S.l0]) ?_
    refine ev_pos (by rw [marks_length]; omega) (ev_pos (by omega) (ev_pos (marks_getD n m0 i (by omega)) ?_))
    rw [w64s (by omega), w64 (by omega) (by omega), show m0 + (i : Int) + 1 = m0 + ((i + 1 : Nat) : Int) by omega]
    exact ih (i + 1) (by omega)
theorem heldInt64S_ev (n : Nat) (m0 : Int) (h0 : 0 ≤ m0) (h1 : m0 ≤ 4611686018427387904) (hn : n ≤ 1048576) : Ev (fun k => laws_heldInt64S.f k (marks m0 n) m0) (m0 + n) := by
  unfold laws_heldInt64S.f
  have := heldInt64S_loop n m0 h0 h1 hn n 0 (by omega)
  simpa using this
theorem heldTree_ev (n : Nat) (m0 : Int) (h0 : 0 ≤ m0) (h1 : m0 ≤ 4611686018427387904) (hn : n ≤ 1048576) : Ev (fun k => laws_heldTree.f k (marks m0 n) m0) (m0 + n) := by
  unfold laws_heldTree.f
  exact Ev.bind (heldInt64S_ev n m0 h0 h1 hn) (ev_neg (by omega) (Ev.now _))
end Go.Proofs.Ytmnpdkhkgddojaa.E
namespace Go.Proofs.Ytmnpdkhkgddojaa.E
set_option linter.unusedVariables false
set_option linter.unusedSectionVars false
open Go.RowKit Go.Proofs.YtmnpdkhkgddojaaW.PrintWords Go.Proofs.Ytmnpdkhkgddojaa.Base Go.Proofs.Ytmnpdkhkgddojaa.Auto

structure SmallA (S : List (List Int)) (g : List Int) : Prop where
  rows : S.length ≤ 1048576
  each : ∀ j, j < S.length → (S.getD j []).length ≤ 1048576
  good : g.length ≤ 1048576
theorem l01In_eq (a b c : Int) : spec_l01In.f a b c = some (decide (b ≤ a) && decide (a ≤ c)) := by
  unfold spec_l01In.f
  by_cases h : a ≥ b
  · rw [if_pos h]; simp [show b ≤ a from h]
  · rw [if_neg h]; simp [show ¬ b ≤ a from h]
theorem rdL_nat (S : List (List Int)) (i : Nat) : rd_L1 S (i : Int) = S.getD i [] := rfl
theorem sz_row (l : List Int) (a : Int) (h0 : 0 ≤ a) (h1 : a ≤ 1048576) (hl : l.length ≤ maxLen) : laws_szInt64S.f l a = some (if a < l.length then -1 else a - l.length) := by
  unfold maxLen at hl
  unfold laws_szInt64S.f
  rw [w64 (by omega) (by omega)]
  by_cases h : a < l.length
  · rw [if_pos (by omega), if_pos h]
  · rw [if_neg (by omega), if_neg h]
theorem sz_loop (S : List (List Int)) (hS : S.length ≤ 1048576) (hm : ∀ j, j < S.length → (S.getD j []).length ≤ maxLen) : ∀ (m i : Nat) (a : Int), i + m = S.length → 0 ≤ a → a ≤ 1048576 →
    ∃ r, Ev (fun k => laws_szInt64SS.l0 k S a (i : Int)) r ∧ (r = -1 ∨ (0 ≤ r ∧ r ≤ a ∧ ∀ j, i ≤ j → j < S.length → (S.getD j []).length ≤ 1048576))
  | 0, i, a, hi, h0, h1 => by
    refine ⟨a, ?_, .inr ⟨h0, Int.le_refl _, fun j hj hl => by omega⟩⟩
    refine Ev.step (fun k => by rw [laws_szInt64SS.l0]) ?_
    exact ev_neg (by omega) (Ev.now _)
  | m + 1, i, a, hi, h0, h1 => by
    have hr := sz_row (S.getD i []) a h0 h1 (hm i (by omega))
    by_cases hx : a < (S.getD i []).length
    · refine ⟨-1, ?_, .inl rfl⟩
      refine Ev.step (fun k => by rw [laws_szInt64SS.l0]) ?_
      rw [rdL_nat, hr, if_pos hx]
      exact ev_pos (by omega) (ev_pos (by omega) (ev_some (ev_pos (by decide) (Ev.now _))))
    · obtain ⟨r, h2, h3⟩ := sz_loop S hS hm m (i + 1) (a - (S.getD i []).length) (by omega) (by omega) (by omega)
      refine ⟨r, ?_, ?_⟩
      · refine Ev.step (fun k => by rw [laws_szInt64SS.l0]) ?_
        rw [rdL_nat, hr, if_neg hx, w64s (by omega)]
        exact ev_pos (by omega) (ev_pos (by omega) (ev_some (ev_neg (by omega) h2)))
      · rcases h3 with h3 | ⟨h3, h4, h5⟩
        · exact .inl h3
        · refine .inr ⟨h3, by omega, fun j hj hl => ?_⟩
          by_cases e : j = i
          · subst e; omega
          · exact h5 j (by omega) hl
theorem szAutomaton_ev (st : Int) (S : List (List Int)) (g : List Int) (hS : S.length ≤ maxLen) (hm : ∀ j, j < S.length → (S.getD j []).length ≤ maxLen) (hg : g.length ≤ maxLen) :
    ∃ r, Ev (fun k => laws_szAutomaton.f k st S g 1048576) r ∧ (r < 0 ∨ (0 ≤ r ∧ r ≤ 1048576 ∧ SmallA S g)) := by
  unfold maxLen at hS
  have fin : ∀ r1 : Int, Ev (fun k => laws_szInt64SS.f k S 1048576) r1 → (r1 = -1 ∨ (0 ≤ r1 ∧ r1 ≤ 1048576 ∧ S.length ≤ 1048576 ∧ ∀ j, j < S.length → (S.getD j []).length ≤ 1048576)) →
      ∃ r, Ev (fun k => laws_szAutomaton.f k st S g 1048576) r ∧ (r < 0 ∨ (0 ≤ r ∧ r ≤ 1048576 ∧ SmallA S g)) := by
    intro r1 h1 h2
    rcases h2 with h2 | ⟨h2, h3, h4, h5⟩
    · refine ⟨-1, ?_, .inl (by decide)⟩
      unfold laws_szAutomaton.f
      exact Ev.bind h1 (ev_pos (by omega) (Ev.now _))
    · have hr := sz_row g r1 h2 h3 hg
      by_cases hx : r1 < g.length
      · refine ⟨-1, ?_, .inl (by decide)⟩
        unfold laws_szAutomaton.f
        refine Ev.bind h1 (ev_neg (by omega) ?_)
        simp only [hr, if_pos hx]
        exact ev_some (ev_pos (by decide) (Ev.now _))
      · refine ⟨r1 - g.length, ?_, .inr ⟨by omega, by omega, h4, h5, by omega⟩⟩
        unfold laws_szAutomaton.f
        refine Ev.bind h1 (ev_neg (by omega) ?_)
        simp only [hr, if_neg hx]
        exact ev_some (ev_neg (by omega) (Ev.now _))
  by_cases hb : (1048576 : Int) < S.length
  · refine fin (-1) ?_ (.inl rfl)
    unfold laws_szInt64SS.f
    rw [w64 (by omega) (by omega)]
    exact ev_pos (by omega) (Ev.now _)
  · obtain ⟨r, h1, h2⟩ := sz_loop S (by omega) hm S.length 0 (1048576 - S.length) (by omega) (by omega) (by omega)
    refine fin r ?_ ?_
    · unfold laws_szInt64SS.f
      rw [w64 (by omega) (by omega)]
      exact ev_neg (by omega) h1
    · rcases h2 with h2 | ⟨h2, h3, h4⟩
      · exact .inl h2
      · exact .inr ⟨h2, by omega, by omega, fun j hj => h4 j (by omega) hj⟩
theorem ext_rows {l m : List (List Int)} (hl : m.length = l.length) (h : ∀ j, j < l.length → m.getD j [] = l.getD j []) : m = l := by
  apply List.ext_getElem hl
  intro j h1 h2
  have := h j h2
  rwa [List.getD_eq_getElem?_getD, List.getD_eq_getElem?_getD, List.getElem?_eq_getElem h1, List.getElem?_eq_getElem h2] at this
theorem getr_set_eq {l : List (List Int)} {i : Nat} {v : List Int} (h : i < l.length) : (l.set i v).getD i [] = v := by
  rw [List.getD_eq_getElem?_getD, List.getElem?_set_self h]; rfl
theorem getr_set_ne {l : List (List Int)} {i j : Nat} {v : List Int} (h : i ≠ j) : (l.set i v).getD j [] = l.getD j [] := by
  rw [List.getD_eq_getElem?_getD, List.getElem?_set_ne h, ← List.getD_eq_getElem?_getD]
section
variable {S : List (List Int)} {g : List Int} (hs : SmallA S g)
include hs
theorem toSS_loop : ∀ (m i : Nat) (x : List (List Int)), i + m = S.length → x.length = S.length → (∀ j, j < i → x.getD j [] = S.getD j []) → Ev (fun k => laws_toInt64SS.l0 k S x (i : Int)) S
  | 0, i, x, hi, hx, hj => by
    refine Ev.step (fun k => by rw [laws_toInt64SS.l0]) ?_
    exact ev_neg (by omega) (ev_now (ext_rows hx (fun j h => hj j (by omega))))
  | m + 1, i, x, hi, hx, hj => by
    have hr := hs.rows
    refine Ev.step (fun k => by rw [laws_toInt64SS.l0]) ?_
    rw [rdL_nat]
    refine ev_pos (by omega) (ev_pos (by omega) (Ev.bind (toInt64S_ev _ (hs.each i (by omega))) (ev_pos (by omega) ?_)))
    rw [w64s (by omega)]
    refine toSS_loop m (i + 1) _ (by omega) (by simpa using hx) (fun j h => ?_)
    rw [show ((i : Int)).toNat = i from rfl]
    by_cases e : i = j
    · subst e; exact getr_set_eq (by omega)
    · rw [getr_set_ne e]; exact hj j (by omega)
theorem toSS_ev : Ev (fun k => laws_toInt64SS.f k S) S := by
  have hr := hs.rows
  unfold laws_toInt64SS.f
  refine ev_pos (by omega) (ev_pos (by simp; omega) ?_)
  exact toSS_loop hs S.length 0 _ (by omega) (by simp) (fun j hj => by omega)
theorem toA_ev (st : Int) : Ev (fun k => laws_toAutomaton.f k st S g) (st, S, g) := by
  unfold laws_toAutomaton.f
  exact Ev.bind (toSS_ev hs) (Ev.bind (toInt64S_ev g hs.good) (Ev.now _))
theorem eqSS_loop : ∀ (m i : Nat), i + m = S.length → Ev (fun k => laws_eqInt64SS.l0 k S S (i : Int)) true
  | 0, i, hi => by
    refine Ev.step (fun k => by rw [laws_eqInt64SS.l0]) ?_
    exact ev_neg (by omega) (Ev.now _)
  | m + 1, i, hi => by
    have hr := hs.rows
    refine Ev.step (fun k => by rw [laws_eqInt64SS.l0]) ?_
    rw [rdL_nat]
    refine ev_pos (by omega) (ev_pos (by omega) (ev_pos (by omega) (Ev.bind (eqInt64S_ev _ (hs.each i (by omega))) (ev_pos rfl ?_))))
    rw [w64s (by omega)]
    exact eqSS_loop m (i + 1) (by omega)
theorem eqA_ev (st : Int) : Ev (fun k => laws_eqAutomaton.f k st S g st S g) true := by
  unfold laws_eqAutomaton.f laws_eqInt64SS.f
  exact ev_pos rfl (Ev.bind (ev_pos rfl (eqSS_loop hs S.length 0 (by omega))) (ev_pos rfl (Ev.bind (eqInt64S_ev g hs.good) (ev_pos rfl (Ev.now _)))))
end
theorem dropr_all {α : Type} (p : α → Bool) (l : List α) (d : α) (i : Nat) (hi : i < l.length) : (l.drop i).all p = (p (l.getD i d) && (l.drop (i + 1)).all p) := by
  rw [List.drop_eq_getElem_cons hi, List.all_cons, List.getD_eq_getElem?_getD, List.getElem?_eq_getElem hi]
  rfl
section
variable {st : Int} {S : List (List Int)} {g : List Int} (hs : SmallA S g) (h9 : S.length ≤ 9) (h1 : 1 ≤ S.length)
include hs h9 h1
theorem spec_good_loop : ∀ (n i : Nat), i + n = g.length → Ev (fun k => spec_l06Is.l2 k (S.length : Int) (i : Int) st S g) (goodFrom S.length g n i)
  | 0, i, hi => by
    refine Ev.step (fun k => by rw [spec_l06Is.l2]) ?_
    exact ev_neg (by omega) (Ev.now _)
  | n + 1, i, hi => by
    have hg := hs.good
    have ih := spec_good_loop n (i + 1) (by omega)
    refine Ev.step (fun k => by rw [spec_l06Is.l2]) ?_
    simp only [l01In_eq]
    refine ev_pos (by omega) (ev_pos (by omega) (ev_some ?_))
    rw [w64 (x := (S.length : Int) - 1) (by omega) (by omega), w64s (by omega), rd_nat]
    have e : (decide (0 ≤ g.getD i 0) && decide (g.getD i 0 ≤ (S.length : Int) - 1)) = inS S.length (g.getD i 0) := by
      unfold inS; congr 1; exact decide_eq_decide.mpr (by omega)
    have eg : goodFrom S.length g (n + 1) i = ((inS S.length (g.getD i 0) && (decide (i = 0) || decide (g.getD (i - 1) 0 < g.getD i 0))) && goodFrom S.length g n (i + 1)) := rfl
    rw [e, eg]
    refine ev_ite (fun hin => ?_) (fun hin => ?_)
    · rw [hin, Bool.true_and]
      rcases Nat.eq_zero_or_pos i with h0 | h0
      · rw [decide_eq_true h0, Bool.true_or, Bool.true_and]
        exact ev_neg (by omega) ih
      · have ew : wrap64 ((i : Int) - 1) = ((i - 1 : Nat) : Int) := by rw [w64 (by omega) (by omega)]; omega
        rw [decide_eq_false (by omega), Bool.false_or, ew, rd_nat]
        refine ev_pos (by omega) (ev_pos (by omega) (ev_pos (by omega) (ev_ite (fun hx => ?_) (fun hx => ?_))))
        · rw [decide_eq_false (by omega)]; exact Ev.now _
        · rw [decide_eq_true (by omega), Bool.true_and]; exact ih
    · rw [(by simpa using hin : inS S.length (g.getD i 0) = false)]; exact Ev.now _
theorem spec_row_loop {i : Nat} (hi : i < S.length) (hl : (S.getD i []).length = S.length) {R : Bool} (H : Ev (fun k => spec_l06Is.l0 k (S.length : Int) ((i + 1 : Nat) : Int) st S g) R) :
    ∀ (n c : Nat), c + n = S.length → Ev (fun k => spec_l06Is.l1 k (S.length : Int) (i : Int) (c : Int) st S g) (((S.getD i []).drop c).all (inS S.length) && R)
  | 0, c, hc => by
    refine Ev.step (fun k => by rw [spec_l06Is.l1]) ?_
    rw [List.drop_of_length_le (by omega), w64s (i := i) (by omega), List.all_nil, Bool.true_and]
    exact ev_neg (by omega) H
  | n + 1, c, hc => by
    have ih := spec_row_loop hi hl H n (c + 1) (by omega)
    refine Ev.step (fun k => by rw [spec_l06Is.l1]) ?_
    simp only [l01In_eq]
    rw [rdL_nat]
    refine ev_pos (by omega) (ev_pos (by omega) (ev_pos (by omega) (ev_pos (by omega) (ev_pos (by omega) (ev_some ?_)))))
    rw [w64 (x := (S.length : Int) - 1) (by omega) (by omega), w64s (by omega), rd_nat, dropr_all _ _ 0 c (by omega)]
    have e : (decide (0 ≤ (S.getD i []).getD c 0) && decide ((S.getD i []).getD c 0 ≤ (S.length : Int) - 1)) = inS S.length ((S.getD i []).getD c 0) := by
      unfold inS; congr 1; exact decide_eq_decide.mpr (by omega)
    rw [e]
    refine ev_ite (fun hin => ?_) (fun hin => ?_)
    · rw [hin, Bool.true_and]; exact ih
    · rw [(by simpa using hin : inS S.length ((S.getD i []).getD c 0) = false)]; exact Ev.now _
theorem spec_rows_loop : ∀ (n i : Nat), i + n = S.length → Ev (fun k => spec_l06Is.l0 k (S.length : Int) (i : Int) st S g) ((S.drop i).all (rowOk S.length) && goodFrom S.length g g.length 0)
  | 0, i, hi => by
    refine Ev.step (fun k => by rw [spec_l06Is.l0]) ?_
    rw [List.drop_of_length_le (by omega)]
    exact ev_neg (by omega) (spec_good_loop hs h9 h1 g.length 0 (by omega))
  | n + 1, i, hi => by
    have ih := spec_rows_loop n (i + 1) (by omega)
    refine Ev.step (fun k => by rw [spec_l06Is.l0]) ?_
    rw [rdL_nat, dropr_all _ _ [] i (by omega)]
    refine ev_pos (by omega) (ev_pos (by omega) (ev_pos (by omega) (ev_ite (fun hx => ?_) (fun hx => ?_))))
    · have := spec_row_loop hs h9 h1 (by omega) (by omega) ih S.length 0 (by omega)
      rw [List.drop_zero] at this
      have e : rowOk S.length (S.getD i []) = (S.getD i []).all (inS S.length) := by unfold rowOk; rw [decide_eq_true (by omega), Bool.true_and]
      rw [e, Bool.and_assoc]
      exact this
    · have e : rowOk S.length (S.getD i []) = false := by unfold rowOk; rw [decide_eq_false (by omega), Bool.false_and]
      rw [e]; exact Ev.now _
theorem isState_ev (x : Int) : impl_isState.f st S g x = some (inS S.length x) := by
  unfold impl_isState.f inS
  by_cases h : x ≥ 0
  · rw [if_pos h, decide_eq_true (show 0 ≤ x from h), Bool.true_and]
  · rw [if_neg h, decide_eq_false (show ¬ 0 ≤ x from h), Bool.false_and]
theorem impl_good_loop : ∀ (n i : Nat), i + n = g.length → Ev (fun k => impl_IsAutomaton.l2 k g (g.length : Int) (i : Int) st S g) (goodFrom S.length g n i)
  | 0, i, hi => by
    refine Ev.step (fun k => by rw [impl_IsAutomaton.l2]) ?_
    exact ev_neg (by omega) (Ev.now _)
  | n + 1, i, hi => by
    have hg := hs.good
    have ih := impl_good_loop n (i + 1) (by omega)
    refine Ev.step (fun k => by rw [impl_IsAutomaton.l2]) ?_
    simp only [isState_ev hs h9 h1]
    refine ev_pos (by omega) (ev_pos (by omega) (ev_pos (by omega) (ev_some ?_)))
    rw [w64s (by omega), rd_nat]
    have eg : goodFrom S.length g (n + 1) i = ((inS S.length (g.getD i 0) && (decide (i = 0) || decide (g.getD (i - 1) 0 < g.getD i 0))) && goodFrom S.length g n (i + 1)) := rfl
    rw [eg]
    refine ev_ite (fun hin => ?_) (fun hin => ?_)
    · rw [hin, Bool.true_and]
      rcases Nat.eq_zero_or_pos i with h0 | h0
      · rw [decide_eq_true h0, Bool.true_or, Bool.true_and]
        exact ev_neg (by omega) ih
      · have ew : wrap64 ((i : Int) - 1) = ((i - 1 : Nat) : Int) := by rw [w64 (by omega) (by omega)]; omega
        rw [decide_eq_false (by omega), Bool.false_or, ew, rd_nat]
        refine ev_pos (by omega) (ev_pos (by omega) (ev_pos (by omega) (ev_ite (fun hx => ?_) (fun hx => ?_))))
        · rw [decide_eq_false (by omega)]; exact Ev.now _
        · rw [decide_eq_true (by omega), Bool.true_and]; exact ih
    · rw [(by simpa using hin : inS S.length (g.getD i 0) = false)]; exact Ev.now _
theorem impl_row_loop {i : Nat} (hi : i < S.length) (row : List Int) (hl : row.length = S.length) {R : Bool} (H : Ev (fun k => impl_IsAutomaton.l0 k S (S.length : Int) ((i + 1 : Nat) : Int) st S g) R) :
    ∀ (n c : Nat), c + n = S.length → Ev (fun k => impl_IsAutomaton.l1 k S (S.length : Int) (i : Int) row (row.length : Int) (c : Int) st S g) ((row.drop c).all (inS S.length) && R)
  | 0, c, hc => by
    refine Ev.step (fun k => by rw [impl_IsAutomaton.l1]) ?_
    rw [List.drop_of_length_le (by omega), w64s (i := i) (by omega), List.all_nil, Bool.true_and]
    exact ev_neg (by omega) H
  | n + 1, c, hc => by
    have ih := impl_row_loop hi row hl H n (c + 1) (by omega)
    refine Ev.step (fun k => by rw [impl_IsAutomaton.l1]) ?_
    simp only [isState_ev hs h9 h1]
    refine ev_pos (by omega) (ev_pos (by omega) (ev_pos (by omega) (ev_some ?_)))
    rw [w64s (by omega), rd_nat, dropr_all _ _ 0 c (by omega)]
    refine ev_ite (fun hin => ?_) (fun hin => ?_)
    · rw [hin, Bool.true_and]; exact ih
    · rw [(by simpa using hin : inS S.length (row.getD c 0) = false)]; exact Ev.now _
theorem impl_rows_loop : ∀ (n i : Nat), i + n = S.length → Ev (fun k => impl_IsAutomaton.l0 k S (S.length : Int) (i : Int) st S g) ((S.drop i).all (rowOk S.length) && goodFrom S.length g g.length 0)
  | 0, i, hi => by
    refine Ev.step (fun k => by rw [impl_IsAutomaton.l0]) ?_
    rw [List.drop_of_length_le (by omega)]
    exact ev_neg (by omega) (impl_good_loop hs h9 h1 g.length 0 (by omega))
  | n + 1, i, hi => by
    have ih := impl_rows_loop n (i + 1) (by omega)
    refine Ev.step (fun k => by rw [impl_IsAutomaton.l0]) ?_
    rw [rdL_nat, dropr_all _ _ [] i (by omega)]
    refine ev_pos (by omega) (ev_pos (by omega) (ev_pos (by omega) (ev_ite (fun hx => ?_) (fun hx => ?_))))
    · have := impl_row_loop hs h9 h1 (by omega) (S.getD i []) (by omega) ih S.length 0 (by omega)
      rw [List.drop_zero] at this
      have e : rowOk S.length (S.getD i []) = (S.getD i []).all (inS S.length) := by unfold rowOk; rw [decide_eq_true (by omega), Bool.true_and]
      rw [e, Bool.and_assoc]
      exact this
    · have e : rowOk S.length (S.getD i []) = false := by unfold rowOk; rw [decide_eq_false (by omega), Bool.false_and]
      rw [e]; exact Ev.now _
end
theorem spec_l06Is_ev {S : List (List Int)} {g : List Int} (hs : SmallA S g) (st : Int) : Ev (fun k => spec_l06Is.f k st S g) (isAutM st S g) := by
  have hr := hs.rows
  unfold spec_l06Is.f isAutM
  simp only [l01In_eq]
  refine ev_some ?_
  by_cases hm : 1 ≤ S.length ∧ S.length ≤ 9
  · rw [decide_eq_true hm.1, decide_eq_true hm.2, decide_eq_true (by omega), decide_eq_true (by omega), Bool.true_and, Bool.true_and]
    refine ev_pos rfl (ev_some ?_)
    rw [w64 (x := (S.length : Int) - 1) (by omega) (by omega)]
    have e : (decide (0 ≤ st) && decide (st ≤ (S.length : Int) - 1)) = inS S.length st := by
      unfold inS; congr 1; exact decide_eq_decide.mpr (by omega)
    rw [e]
    refine Ev.step (fun k => by rw [spec_l06Is.j0]) ?_
    cases hst : inS S.length st with
    | false => exact ev_pos rfl (Ev.now _)
    | true =>
      refine ev_neg (by decide) ?_
      have := spec_rows_loop (st := st) hs hm.2 hm.1 S.length 0 (by omega)
      simpa using this
  · refine ev_neg (by rw [Bool.and_eq_true, decide_eq_true_eq, decide_eq_true_eq]; omega) ?_
    refine Ev.step (fun k => by rw [spec_l06Is.j0]) ?_
    refine ev_pos rfl (ev_now ?_)
    have : (decide (1 ≤ S.length) && decide (S.length ≤ 9)) = false := by rw [← Bool.not_eq_true, Bool.and_eq_true, decide_eq_true_eq, decide_eq_true_eq]; exact hm
    rw [this]; rfl
theorem impl_IsAutomaton_ev {S : List (List Int)} {g : List Int} (hs : SmallA S g) (st : Int) : Ev (fun k => impl_IsAutomaton.f k st S g) (isAutM st S g) := by
  have hr := hs.rows
  unfold impl_IsAutomaton.f isAutM
  refine ev_ite (fun h1 => ?_) (fun h1 => ?_)
  · refine Ev.step (fun k => by rw [impl_IsAutomaton.j0]) ?_
    rw [decide_eq_false (p := 1 ≤ S.length) (by omega)]
    exact ev_pos rfl (Ev.now _)
  · refine ev_ite (fun h9 => ?_) (fun h9 => ?_)
    · refine Ev.step (fun k => by rw [impl_IsAutomaton.j0]) ?_
      rw [decide_eq_false (p := S.length ≤ 9) (by omega), Bool.and_false]
      exact ev_pos rfl (Ev.now _)
    · rw [isState_ev hs (by omega) (by omega), decide_eq_true (p := 1 ≤ S.length) (by omega), decide_eq_true (p := S.length ≤ 9) (by omega), Bool.true_and, Bool.true_and]
      refine ev_some ?_
      refine Ev.step (fun k => by rw [impl_IsAutomaton.j0]) ?_
      cases hst : inS S.length st with
      | false => exact ev_pos rfl (Ev.now _)
      | true =>
        refine ev_neg (by decide) ?_
        have := impl_rows_loop (st := st) hs (by omega) (by omega) S.length 0 (by omega)
        simpa using this
end Go.Proofs.Ytmnpdkhkgddojaa.E
namespace Go.Proofs.Ytmnpdkhkgddojaa.E
set_option linter.unusedVariables false
set_option linter.unusedSectionVars false
open Go.RowKit Go.Proofs.YtmnpdkhkgddojaaW.PrintWords Go.Proofs.Ytmnpdkhkgddojaa.Base Go.Proofs.Ytmnpdkhkgddojaa.Auto

def goodM (g : List Int) (x : Int) : Bool := g.any fun y => decide (y = x)
theorem drop_any (p : Int → Bool) (l : List Int) (i : Nat) (hi : i < l.length) : (l.drop i).any p = (p (l.getD i 0) || (l.drop (i + 1)).any p) := by
  rw [List.drop_eq_getElem_cons hi, List.any_cons, List.getD_eq_getElem?_getD, List.getElem?_eq_getElem hi]
  rfl
theorem index_in (g : List Int) (hg : g.length ≤ 1048576) (x : Int) : ∀ (m i : Nat), i + m = g.length → ∃ r, Ev (fun k => slices_Index_int64_int64.l0 k g x (g.length : Int) (i : Int)) r ∧ decide (r ≥ 0) = ((g.drop i).any fun y => decide (y = x))
  | 0, i, hi => by
    refine ⟨-1, ?_, ?_⟩
    · refine Ev.step (fun k => by rw [slices_Index_int64_int64.l0]) ?_
      exact ev_neg (by omega) (Ev.now _)
    · rw [List.drop_of_length_le (by omega)]; rfl
  | m + 1, i, hi => by
    rw [drop_any _ _ _ (by omega : i < g.length)]
    by_cases hx : g.getD i 0 = x
    · refine ⟨(i : Int), ?_, ?_⟩
      · refine Ev.step (fun k => by rw [slices_Index_int64_int64.l0]) ?_
        exact ev_pos (by omega) (ev_pos (by omega) (ev_pos (by omega) (ev_pos (by rw [rd_nat]; exact hx.symm) (Ev.now _))))
      · rw [decide_eq_true hx, Bool.true_or]; exact decide_eq_true (by omega)
    · obtain ⟨r, h1, h2⟩ := index_in g hg x m (i + 1) (by omega)
      refine ⟨r, ?_, ?_⟩
      · refine Ev.step (fun k => by rw [slices_Index_int64_int64.l0]) ?_
        rw [w64s (by omega)]
        exact ev_pos (by omega) (ev_pos (by omega) (ev_pos (by omega) (ev_neg (by rw [rd_nat]; exact fun e => hx e.symm) h1)))
      · rw [decide_eq_false hx, Bool.false_or]; exact h2
theorem contains_ev (g : List Int) (hg : g.length ≤ 1048576) (x : Int) : Ev (fun k => slices_Contains_int64_int64.f k g x) (goodM g x) := by
  obtain ⟨r, h1, h2⟩ := index_in g hg x g.length 0 (by omega)
  unfold slices_Contains_int64_int64.f slices_Index_int64_int64.f
  exact Ev.bind h1 (ev_now h2)
theorem goodM_iff {g : List Int} {x : Int} : goodM g x = true ↔ x ∈ g := by
  unfold goodM
  rw [List.any_eq_true]
  constructor
  · rintro ⟨y, h1, h2⟩
    rw [decide_eq_true_eq] at h2
    exact h2 ▸ h1
  · intro h
    exact ⟨x, h, decide_eq_true rfl⟩
end Go.Proofs.Ytmnpdkhkgddojaa.E
namespace Go.Proofs.Ytmnpdkhkgddojaa.E
set_option linter.unusedVariables false
set_option linter.unusedSectionVars false
open Go.RowKit Go.Proofs.YtmnpdkhkgddojaaW.PrintWords Go.Proofs.Ytmnpdkhkgddojaa.Base Go.Proofs.Ytmnpdkhkgddojaa.Tree

theorem l01N_ev (d : List Int) : spec_l01N.f d = some (d.length : Int) := rfl

section
variable {d : List Int} (h : IsT d) (hn : d.length ≤ 1000)
include h hn
theorem impl_endOf_loop {v : Nat} (hv : v < d.length) : ∀ (f u : Nat), u + f = d.length → v ≤ u → Ev (fun k => impl_endOf.l0 k d (u : Int) (1 + nd d u - nd d v)) (skip d f (1 + nd d u - nd d v) u : Int) := by
  have b : ∀ u, u ≤ d.length → 0 ≤ nd d u ∧ nd d u ≤ 1000 := fun u hu => ⟨nd_nonneg h hu, by have := nd_le h hu; omega⟩
  intro f
  induction f with
  | zero =>
    intro u hf hu
    have e : u = d.length := by omega
    have h1 := h.fin
    have h2 := h.pos v hv
    refine Ev.step (fun k => by rw [impl_endOf.l0]) ?_
    refine ev_neg (by subst e; omega) (ev_now ?_)
    simp [skip]
  | succ f ih =>
    intro u hf hu
    have b1 := b u (by omega)
    have b2 := b v (by omega)
    have b3 := b (u + 1) (by omega)
    have e : 1 + nd d u - nd d v + (d.getD u 0 - 1) = 1 + nd d (u + 1) - nd d v := by simp only [nd]; omega
    have e2 : nd d (u + 1) = nd d u + d.getD u 0 - 1 := rfl
    refine Ev.step (fun k => by rw [impl_endOf.l0]) ?_
    simp only [skip, rd_nat]
    refine ev_ite (fun hx => ?_) (fun hx => ?_)
    · rw [if_pos hx]
      refine ev_pos (by omega) (ev_pos (by omega) ?_)
      rw [w64s (by omega), w64 (x := d.getD u 0 - 1) (by omega) (by omega), w64 (by omega) (by omega), e]
      exact ih (u + 1) (by omega) (by omega)
    · rw [if_neg hx]; exact Ev.now _
theorem impl_endOf_ev {v : Nat} (hv : v < d.length) : Ev (fun k => impl_endOf.f k d (v : Int)) (endM d v : Int) := by
  have := impl_endOf_loop h hn hv (d.length - v) v (by omega) (Nat.le_refl _)
  rw [show 1 + nd d v - nd d v = 1 by omega] at this
  exact this
theorem spec_l01End_loop {v : Nat} (hv : v < d.length) : ∀ (f u : Nat), u + f = d.length → v ≤ u → Ev (fun k => spec_l01End.l0 k (u : Int) (1 + nd d u - nd d v) d) (skip d f (1 + nd d u - nd d v) u : Int) := by
  have b : ∀ u, u ≤ d.length → 0 ≤ nd d u ∧ nd d u ≤ 1000 := fun u hu => ⟨nd_nonneg h hu, by have := nd_le h hu; omega⟩
  intro f
  induction f with
  | zero =>
    intro u hf hu
    have e : u = d.length := by omega
    have h1 := h.fin
    have h2 := h.pos v hv
    refine Ev.step (fun k => by rw [spec_l01End.l0]) ?_
    refine ev_neg (by subst e; omega) (ev_now ?_)
    simp [skip]
  | succ f ih =>
    intro u hf hu
    have b1 := b u (by omega)
    have b2 := b v (by omega)
    have b3 := b (u + 1) (by omega)
    have e : 1 + nd d u - nd d v - 1 + d.getD u 0 = 1 + nd d (u + 1) - nd d v := by simp only [nd]; omega
    have e1 : 1 + nd d u - nd d v + (d.getD u 0 - 1) = 1 + nd d (u + 1) - nd d v := by simp only [nd]; omega
    have e2 : nd d (u + 1) = nd d u + d.getD u 0 - 1 := rfl
    refine Ev.step (fun k => by rw [spec_l01End.l0]) ?_
    simp only [skip, rd_nat]
    refine ev_ite (fun hx => ?_) (fun hx => ?_)
    · rw [if_pos hx]
      refine ev_pos (by omega) (ev_pos (by omega) ?_)
      rw [w64s (by omega), w64 (x := 1 + nd d u - nd d v - 1) (by omega) (by omega), w64 (by omega) (by omega), e, e1]
      exact ih (u + 1) (by omega) (by omega)
    · rw [if_neg hx]; exact Ev.now _
theorem spec_l01End_ev {v : Nat} (hv : v < d.length) : Ev (fun k => spec_l01End.f k d (v : Int)) (endM d v : Int) := by
  have := spec_l01End_loop h hn hv (d.length - v) v (by omega) (Nat.le_refl _)
  rw [show 1 + nd d v - nd d v = 1 by omega] at this
  exact this
end
def castL (l : List Nat) : List Int := List.map (fun x : Nat => ((x : Nat) : Int)) l
theorem castL_length (l : List Nat) : (castL l).length = l.length := by simp [castL]
theorem castL_getD (l : List Nat) (j : Nat) (h : j < l.length) : (castL l).getD j 0 = (l[j] : Int) := by
  simp [castL, List.getD_eq_getElem?_getD, h]
theorem kids_few {d : List Int} (h : IsT d) {v : Nat} (hv : v < d.length) : (kidsM d v).length < d.length := by
  have h1 := deg_le h hv
  have h2 := h.deg v hv
  unfold kidsM
  rw [kidsFrom_length]
  omega
section
variable {d : List Int} (h : IsT d) (hn : d.length ≤ 1000)
include h hn
theorem impl_kidsOf_loop {n m c e : Nat} (r : Run d m c e) (hc : c < 9223372036854775807) : ∀ (acc : List Int) (j : Nat), j + m = n → n ≤ 1000 → acc.length + m ≤ 1000 → Ev (fun k => impl_kidsOf.l0 k d acc (c : Int) (n : Int) (j : Int)) (acc ++ castL (kidsFrom d m c)) := by
  induction r with
  | nil c =>
    intro acc j h1 h2 h3
    refine Ev.step (fun k => by rw [impl_kidsOf.l0]) ?_
    exact ev_neg (by omega) (ev_now (by simp [kidsFrom, castL]))
  | @cons m c e hlt r ih =>
    intro acc j h1 h2 h3
    refine Ev.step (fun k => by rw [impl_kidsOf.l0]) ?_
    refine ev_pos (by omega) (ev_pos (by omega) (Ev.bind (impl_endOf_ev h hn hlt) ?_))
    rw [w64s (by omega)]
    have hle := end_le h hlt
    have := ih (by omega) (acc ++ [(c : Int)]) (j + 1) (by omega) h2 (by simp; omega)
    simpa [kidsFrom, castL] using this
theorem impl_kidsOf_ev {v : Nat} (hv : v < d.length) : Ev (fun k => impl_kidsOf.f k d (v : Int)) (castL (kidsM d v)) := by
  have h0 := h.deg v hv
  have h1 := deg_le h hv
  unfold impl_kidsOf.f
  refine ev_pos (by omega) (ev_pos (by omega) ?_)
  rw [w64s (by omega), rd_nat]
  have := impl_kidsOf_loop h hn (n := (d.getD v 0).toNat) (run_kids h hv) (by omega) [] 0 (by omega) (by omega) (by simp only [List.length_nil]; omega)
  rw [show (((d.getD v 0).toNat : Nat) : Int) = d.getD v 0 by omega] at this
  simpa [kidsM] using this
theorem spec_l01Children_loop {m c e : Nat} (r : Run d m c e) (hc : c < 9223372036854775807) : ∀ (acc : List Int), m ≤ 1000 → acc.length + m ≤ 1000 → Ev (fun k => spec_l01Children.l0 k acc (c : Int) (m : Int) d) (acc ++ castL (kidsFrom d m c)) := by
  induction r with
  | nil c =>
    intro acc h2 h3
    refine Ev.step (fun k => by rw [spec_l01Children.l0]) ?_
    exact ev_neg (by omega) (ev_now (by simp [kidsFrom, castL]))
  | @cons m c e hlt r ih =>
    intro acc h2 h3
    refine Ev.step (fun k => by rw [spec_l01Children.l0]) ?_
    refine ev_pos (by omega) (ev_pos (by omega) (Ev.bind (spec_l01End_ev h hn hlt) ?_))
    rw [w64p (by omega)]
    have hle := end_le h hlt
    have := ih (by omega) (acc ++ [(c : Int)]) (by omega) (by simp; omega)
    simpa [kidsFrom, castL] using this
theorem spec_l01Children_ev {v : Nat} (hv : v < d.length) : Ev (fun k => spec_l01Children.f k d (v : Int)) (castL (kidsM d v)) := by
  have h0 := h.deg v hv
  have h1 := deg_le h hv
  unfold spec_l01Children.f
  refine ev_pos (by omega) (ev_pos (by omega) ?_)
  rw [w64s (by omega), rd_nat]
  have := spec_l01Children_loop h hn (run_kids h hv) (by omega) [] (by omega) (by simp only [List.length_nil]; omega)
  rw [show (((d.getD v 0).toNat : Nat) : Int) = d.getD v 0 by omega] at this
  simpa [kidsM] using this
end
end Go.Proofs.Ytmnpdkhkgddojaa.E
namespace Go.Proofs.Ytmnpdkhkgddojaa.E
set_option linter.unusedVariables false
set_option linter.unusedSectionVars false
open Go.RowKit Go.Proofs.YtmnpdkhkgddojaaW.PrintWords Go.Proofs.Ytmnpdkhkgddojaa.Base Go.Proofs.Ytmnpdkhkgddojaa.Auto Go.Proofs.Ytmnpdkhkgddojaa.Tree

def stAll (st : Int) (S : List (List Int)) (d : List Int) : Nat → List Int → List Int
  | 0, out => out
  | v + 1, out => stAll st S d v (stIn S v (kidsM d v) (out.set v st))
def statesM (st : Int) (S : List (List Int)) (d : List Int) : List Int := stAll st S d d.length (List.replicate d.length 0)
theorem stIn_sts {st : Int} {S : List (List Int)} {g : List Int} (hA : IsA st S g) {n v : Nat} (hv : v < n) : ∀ (L : List Nat) (out : List Int), (∀ c ∈ L, c < n) → Sts S.length n out → Sts S.length n (stIn S v L out)
  | [], _, _, h => h
  | c :: L, out, hL, h => stIn_sts hA hv L _ (fun x hx => hL x (by simp [hx])) (h.set v hv (hA.stepM (h.mem v hv) (h.mem c (hL c (by simp)))))
section
variable {st : Int} {S : List (List Int)} {g d : List Int} (hA : IsA st S g) (h : IsT d) (hn : d.length ≤ 1000)
include hA h hn
theorem stAll_sts : ∀ (v : Nat) (out : List Int), v ≤ d.length → Sts S.length d.length out → Sts S.length d.length (stAll st S d v out)
  | 0, _, _, ho => ho
  | v + 1, out, hv, ho => stAll_sts v _ (by omega) (stIn_sts hA (by omega) _ _ (fun c hc => (kid_mem h (by omega) hc).2.1) (ho.set v (by omega) hA.start))
theorem impl_st_in {v : Nat} (hv : v < d.length) (R : List Int) : ∀ (m j : Nat) (out : List Int), j + m = (kidsM d v).length → Sts S.length d.length out →
    Ev (fun k => impl_statesOf.l0 k d (stIn S v ((kidsM d v).drop j) out) ((v : Int) - 1) st S g) R → Ev (fun k => impl_statesOf.l1 k d out (v : Int) (castL (kidsM d v)) ((castL (kidsM d v)).length : Int) (j : Int) st S g) R
  | 0, j, out, hj, ho, H => by
    refine Ev.step (fun k => by rw [impl_statesOf.l1]) ?_
    rw [List.drop_of_length_le (by omega)] at H
    rw [w64 (x := (v : Int) - 1) (by omega) (by omega)]
    exact ev_neg (by rw [castL_length]; omega) H
  | m + 1, j, out, hj, ho, H => by
    have hjl : j < (kidsM d v).length := by omega
    have hk := kids_few h hv
    have hc := kid_mem h hv (List.getElem_mem hjl)
    have ec : rd (castL (kidsM d v)) (j : Int) = ((kidsM d v)[j] : Int) := by rw [rd_nat, castL_getD _ _ hjl]
    have h1 := ho.mem v hv
    have h2 := ho.mem (kidsM d v)[j] hc.2.1
    have hl := ho.len
    have hr := hA.row (out.getD v 0).toNat (by omega)
    have hrow : (rd_L1 S (out.getD v 0)).length = S.length := hr
    rw [List.drop_eq_getElem_cons hjl] at H
    refine Ev.step (fun k => by rw [impl_statesOf.l1]) ?_
    rw [ec, rd_nat, rd_nat, hrow, w64s (by omega)]
    refine ev_pos (by rw [castL_length]; omega) (ev_pos (by omega) (ev_pos (by rw [castL_length]; omega) (ev_pos (by omega) (ev_pos (by omega) (ev_pos (by omega) (ev_pos (by omega) (ev_pos (by omega) (ev_pos (by omega) (ev_pos (by omega) (ev_pos (by omega) ?_))))))))))
    exact impl_st_in hv R m (j + 1) _ (by omega) (ho.set v hv (hA.stepM h1 h2)) H
theorem impl_st_loop : ∀ (v : Nat) (out : List Int), v ≤ d.length → Sts S.length d.length out → Ev (fun k => impl_statesOf.l0 k d out ((v : Int) - 1) st S g) (stAll st S d v out)
  | 0, out, hv, ho => by
    refine Ev.step (fun k => by rw [impl_statesOf.l0]) ?_
    exact ev_neg (by omega) (Ev.now _)
  | v + 1, out, hv, ho => by
    have e : ((v + 1 : Nat) : Int) - 1 = (v : Int) := by omega
    have hl := ho.len
    rw [e]
    refine Ev.step (fun k => by rw [impl_statesOf.l0]) ?_
    refine ev_pos (by omega) (ev_pos (by omega) (ev_pos (by omega) (Ev.bind (impl_kidsOf_ev h hn (by omega)) ?_)))
    have ho2 := ho.set v (by omega) hA.start
    refine impl_st_in hA h hn (by omega) _ (kidsM d v).length 0 _ (by omega) ho2 ?_
    rw [List.drop_zero]
    exact impl_st_loop v _ (by omega) (stIn_sts hA (by omega) _ _ (fun c hc => (kid_mem h (by omega) hc).2.1) ho2)
theorem impl_statesOf_ev : Ev (fun k => impl_statesOf.f k st S g d) (statesM st S d) := by
  unfold impl_statesOf.f statesM
  refine ev_pos (by omega) (ev_pos (by omega) ?_)
  rw [w64 (by omega) (by omega)]
  exact impl_st_loop hA h hn d.length _ (Nat.le_refl _) (Sts.zero hA.one d.length)
theorem spec_st_in {v : Nat} (hv : v < d.length) (R : List Int) : ∀ (m j : Nat) (out : List Int), j + m = (kidsM d v).length → Sts S.length d.length out →
    Ev (fun k => spec_l06States.l0 k (stIn S v ((kidsM d v).drop j) out) ((v : Int) - 1) st S g d) R → Ev (fun k => spec_l06States.l1 k out (v : Int) (castL (kidsM d v)) (j : Int) st S g d) R
  | 0, j, out, hj, ho, H => by
    refine Ev.step (fun k => by rw [spec_l06States.l1]) ?_
    rw [List.drop_of_length_le (by omega)] at H
    rw [w64 (x := (v : Int) - 1) (by omega) (by omega)]
    exact ev_neg (by rw [castL_length]; omega) H
  | m + 1, j, out, hj, ho, H => by
    have hjl : j < (kidsM d v).length := by omega
    have hk := kids_few h hv
    have hc := kid_mem h hv (List.getElem_mem hjl)
    have ec : rd (castL (kidsM d v)) (j : Int) = ((kidsM d v)[j] : Int) := by rw [rd_nat, castL_getD _ _ hjl]
    have h1 := ho.mem v hv
    have h2 := ho.mem (kidsM d v)[j] hc.2.1
    have hl := ho.len
    have hr := hA.row (out.getD v 0).toNat (by omega)
    have hrow : (rd_L1 S (out.getD v 0)).length = S.length := hr
    rw [List.drop_eq_getElem_cons hjl] at H
    refine Ev.step (fun k => by rw [spec_l06States.l1]) ?_
    rw [ec, rd_nat, rd_nat, hrow, w64s (by omega)]
    refine ev_pos (by rw [castL_length]; omega) (ev_pos (by omega) (ev_pos (by omega) (ev_pos (by omega) (ev_pos (by omega) (ev_pos (by omega) (ev_pos (by omega) (ev_pos (by omega) (ev_pos (by omega) (ev_pos (by omega) ?_)))))))))
    exact spec_st_in hv R m (j + 1) _ (by omega) (ho.set v hv (hA.stepM h1 h2)) H
theorem spec_st_loop : ∀ (v : Nat) (out : List Int), v ≤ d.length → Sts S.length d.length out → Ev (fun k => spec_l06States.l0 k out ((v : Int) - 1) st S g d) (stAll st S d v out)
  | 0, out, hv, ho => by
    refine Ev.step (fun k => by rw [spec_l06States.l0]) ?_
    exact ev_neg (by omega) (Ev.now _)
  | v + 1, out, hv, ho => by
    have e : ((v + 1 : Nat) : Int) - 1 = (v : Int) := by omega
    have hl := ho.len
    rw [e]
    refine Ev.step (fun k => by rw [spec_l06States.l0]) ?_
    refine ev_pos (by omega) (Ev.bind (spec_l01Children_ev h hn (by omega)) (ev_pos (by omega) (ev_pos (by omega) ?_)))
    have ho2 := ho.set v (by omega) hA.start
    refine spec_st_in hA h hn (by omega) _ (kidsM d v).length 0 _ (by omega) ho2 ?_
    rw [List.drop_zero]
    exact spec_st_loop v _ (by omega) (stIn_sts hA (by omega) _ _ (fun c hc => (kid_mem h (by omega) hc).2.1) ho2)
theorem spec_l06States_ev : Ev (fun k => spec_l06States.f k st S g d) (statesM st S d) := by
  unfold spec_l06States.f statesM
  simp only [l01N_ev]
  refine ev_some (ev_pos (by omega) (ev_pos (by omega) ?_))
  rw [w64 (by omega) (by omega)]
  exact spec_st_loop hA h hn d.length _ (Nat.le_refl _) (Sts.zero hA.one d.length)
theorem states_sts : Sts S.length d.length (statesM st S d) := stAll_sts hA h hn d.length _ (Nat.le_refl _) (Sts.zero hA.one d.length)
end
end Go.Proofs.Ytmnpdkhkgddojaa.E
namespace Go.Proofs.Ytmnpdkhkgddojaa.Auto
set_option linter.unusedVariables false
set_option linter.unusedSectionVars false
open Go.RowKit Go.Proofs.YtmnpdkhkgddojaaW.PrintWords Go.Proofs.Ytmnpdkhkgddojaa.Base

inductive Rc (st : Int) (S : List (List Int)) : Int → Prop
  | start : Rc st S st
  | step {a b : Int} : Rc st S a → Rc st S b → Rc st S (stepM S a b)
theorem Rc.bd {st : Int} {S : List (List Int)} {g : List Int} (hA : IsA st S g) {x : Int} (h : Rc st S x) : 0 ≤ x ∧ x < S.length := by
  induction h with
  | start => exact hA.start
  | step _ _ ha hb => exact hA.stepM ha hb
theorem nodup_few : ∀ (m : Nat) (l : List Int), l.Nodup → (∀ x ∈ l, 0 ≤ x ∧ x < m) → l.length ≤ m
  | 0, l, _, h => by
    cases l with
    | nil => simp
    | cons a l => have := h a (by simp); omega
  | m + 1, l, hn, h => by
    by_cases hm : (m : Int) ∈ l
    · have h1 := nodup_few m (l.erase (m : Int)) (hn.erase _) (fun x hx => by
        have h2 := (hn.mem_erase_iff).1 hx
        have := h x h2.2
        omega)
      rw [List.length_erase_of_mem hm] at h1
      omega
    · have := nodup_few m l hn (fun x hx => by
        have h2 := h x hx
        have : x ≠ m := fun e => hm (e ▸ hx)
        omega)
      omega
def nf : List Bool → Nat
  | [] => 0
  | b :: l => (if b = true then 0 else 1) + nf l
theorem nf_set : ∀ (B : List Bool) (i : Nat), i < B.length → B.getD i false = false → nf (B.set i true) + 1 = nf B
  | [], i, h, _ => by simp at h
  | b :: l, 0, _, h0 => by
    have e : b = false := h0
    subst e
    simp only [List.set_cons_zero, nf]
    simp
    omega
  | b :: l, i + 1, h, h0 => by
    have ih := nf_set l i (by simpa using h) (by simpa using h0)
    simp only [List.set_cons_succ, nf]
    omega
theorem getb_set_eq {l : List Bool} {i : Nat} {v : Bool} (h : i < l.length) : (l.set i v).getD i false = v := by
  rw [List.getD_eq_getElem?_getD, List.getElem?_set_self h]; rfl
theorem getb_set_ne {l : List Bool} {i j : Nat} {v : Bool} (h : i ≠ j) : (l.set i v).getD j false = l.getD j false := by
  rw [List.getD_eq_getElem?_getD, List.getElem?_set_ne h, ← List.getD_eq_getElem?_getD]
end Go.Proofs.Ytmnpdkhkgddojaa.Auto
namespace Go.Proofs.Ytmnpdkhkgddojaa.E
set_option linter.unusedVariables false
set_option linter.unusedSectionVars false
open Go.RowKit Go.Proofs.YtmnpdkhkgddojaaW.PrintWords Go.Proofs.Ytmnpdkhkgddojaa.Base Go.Proofs.Ytmnpdkhkgddojaa.Auto

section
variable {st : Int} {S : List (List Int)} {g : List Int} (hA : IsA st S g)
include hA
structure Tb (B : List Bool) : Prop where
  len : B.length = S.length
  sound : ∀ s, s < S.length → B.getD s false = true → Rc st S (s : Int)
  start : B.getD st.toNat false = true
def Cl (S : List (List Int)) (B : List Bool) : Prop := ∀ s c : Nat, s < S.length → c < S.length → B.getD s false = true → B.getD c false = true → B.getD (stepM S s c).toNat false = true
def Pass (S : List (List Int)) (B0 : List Bool) (s c : Nat) (B : List Bool) (more : Bool) : Prop :=
  (more = false → B = B0 ∧ ∀ s' c' : Nat, s' < S.length → c' < S.length → (s' < s ∨ (s' = s ∧ c' < c)) → B.getD s' false = true → B.getD c' false = true → B.getD (stepM S s' c').toNat false = true) ∧ (more = true → nf B < nf B0)
omit hA in
theorem rdOf_b (B : List Bool) (i : Nat) : rdOf false B (i : Int) = B.getD i false := rfl
theorem reach_in {B0 : List Bool} {s : Nat} (hs : s < S.length) {Post : List Bool → Prop}
    (H : ∀ B more, Tb (st := st) (S := S) B → Pass S B0 (s + 1) 0 B more → ∃ R, Post R ∧ Ev (fun k => spec_l06Reached.l1 k B more ((s + 1 : Nat) : Int) st S g) R) :
    ∀ (m c : Nat) (B : List Bool) (more : Bool), c + m = S.length → Tb (st := st) (S := S) B → Pass S B0 s c B more → ∃ R, Post R ∧ Ev (fun k => spec_l06Reached.l2 k B more (s : Int) (c : Int) st S g) R
  | 0, c, B, more, hc, hT, hP => by
    have h9 := hA.nine
    have hP' : Pass S B0 (s + 1) 0 B more := ⟨fun e => ⟨(hP.1 e).1, fun s' c' h1 h2 h3 => (hP.1 e).2 s' c' h1 h2 (by omega)⟩, hP.2⟩
    obtain ⟨R, h1, h2⟩ := H B more hT hP'
    refine ⟨R, h1, ?_⟩
    have hl := hT.len
    refine Ev.step (fun k => by rw [spec_l06Reached.l2]) ?_
    rw [w64s (i := s) (by omega)]
    exact ev_neg (by omega) h2
  | m + 1, c, B, more, hc, hT, hP => by
    have h9 := hA.nine
    have hl := hT.len
    have hrow := hA.row s hs
    have hst := hA.step s c hs (by omega)
    have e1 : (rd_L1 S (s : Int)) = S.getD s [] := rfl
    have e2 : rd (S.getD s []) (c : Int) = stepM S s c := rfl
    have hb : 0 ≤ stepM S s c ∧ stepM S s c < S.length := hst
    have stay : (B.getD s false = true → B.getD c false = true → B.getD (stepM S s c).toNat false = true) → ∃ R, Post R ∧ Ev (fun k => spec_l06Reached.l2 k B more (s : Int) ((c + 1 : Nat) : Int) st S g) R := by
      intro hcl
      refine reach_in hs H m (c + 1) B more (by omega) hT ⟨fun e => ⟨(hP.1 e).1, fun s' c' h1 h2 h3 => ?_⟩, hP.2⟩
      by_cases e3 : s' = s ∧ c' = c
      · obtain ⟨rfl, rfl⟩ := e3; exact hcl
      · exact (hP.1 e).2 s' c' h1 h2 (by omega)
    by_cases h1 : B.getD s false = true
    · by_cases h2 : B.getD c false = true
      · by_cases h3 : B.getD (stepM S s c).toNat false = true
        · obtain ⟨R, r1, r2⟩ := stay (fun _ _ => h3)
          refine ⟨R, r1, ?_⟩
          refine Ev.step (fun k => by rw [spec_l06Reached.l2]) ?_
          rw [e1, e2, rdOf_b, rdOf_b, w64s (i := c) (by omega)]
          exact ev_pos (by omega) (ev_pos (by omega) (ev_pos (by omega) (ev_pos (by omega) (ev_pos (by omega) (ev_pos (by omega) (ev_pos h1 (ev_pos h2 (ev_pos (by omega) (ev_pos (by omega) (ev_pos h3 r2))))))))))
        · have h3' : B.getD (stepM S s c).toNat false = false := by simpa using h3
          have hn := nf_set B (stepM S s c).toNat (by omega) h3'
          obtain ⟨R, r1, r2⟩ := reach_in hs H m (c + 1) (B.set (stepM S s c).toNat true) true (by omega) ⟨by simpa using hl, fun x hx hxt => by
              by_cases e : (stepM S s c).toNat = x
              · have e' : (x : Int) = stepM S s c := by omega
                rw [e']
                exact Rc.step (hT.sound s hs h1) (hT.sound c (by omega) h2)
              · rw [getb_set_ne e] at hxt; exact hT.sound x hx hxt, by
              by_cases e : (stepM S s c).toNat = st.toNat
              · rw [e] at hn ⊢; exact getb_set_eq (by have := hA.start; omega)
              · rw [getb_set_ne e]; exact hT.start⟩ ⟨fun e => (by cases e), fun _ => (by
              cases more with
              | false => have := (hP.1 rfl).1; subst this; omega
              | true => have := hP.2 rfl; omega)⟩
          refine ⟨R, r1, ?_⟩
          refine Ev.step (fun k => by rw [spec_l06Reached.l2]) ?_
          rw [e1, e2, rdOf_b, rdOf_b, w64s (i := c) (by omega)]
          exact ev_pos (by omega) (ev_pos (by omega) (ev_pos (by omega) (ev_pos (by omega) (ev_pos (by omega) (ev_pos (by omega) (ev_pos h1 (ev_pos h2 (ev_pos (by omega) (ev_pos (by omega) (ev_neg h3 r2))))))))))
      · obtain ⟨R, r1, r2⟩ := stay (fun _ h => absurd h h2)
        refine ⟨R, r1, ?_⟩
        refine Ev.step (fun k => by rw [spec_l06Reached.l2]) ?_
        rw [e1, e2, rdOf_b, rdOf_b, w64s (i := c) (by omega)]
        exact ev_pos (by omega) (ev_pos (by omega) (ev_pos (by omega) (ev_pos (by omega) (ev_pos (by omega) (ev_pos (by omega) (ev_pos h1 (ev_neg h2 r2)))))))
    · obtain ⟨R, r1, r2⟩ := stay (fun h => absurd h h1)
      refine ⟨R, r1, ?_⟩
      refine Ev.step (fun k => by rw [spec_l06Reached.l2]) ?_
      rw [e1, e2, rdOf_b, rdOf_b, w64s (i := c) (by omega)]
      exact ev_pos (by omega) (ev_pos (by omega) (ev_pos (by omega) (ev_pos (by omega) (ev_pos (by omega) (ev_pos (by omega) (ev_neg h1 r2))))))
theorem reach_pass {B0 : List Bool} {Post : List Bool → Prop}
    (H : ∀ B more, Tb (st := st) (S := S) B → Pass S B0 S.length 0 B more → ∃ R, Post R ∧ Ev (fun k => spec_l06Reached.l0 k B more st S g) R) :
    ∀ (m s : Nat) (B : List Bool) (more : Bool), s + m = S.length → Tb (st := st) (S := S) B → Pass S B0 s 0 B more → ∃ R, Post R ∧ Ev (fun k => spec_l06Reached.l1 k B more (s : Int) st S g) R
  | 0, s, B, more, hs, hT, hP => by
    have e : s = S.length := by omega
    subst e
    obtain ⟨R, r1, r2⟩ := H B more hT hP
    have hl := hT.len
    refine ⟨R, r1, ?_⟩
    refine Ev.step (fun k => by rw [spec_l06Reached.l1]) ?_
    exact ev_neg (by omega) r2
  | m + 1, s, B, more, hs, hT, hP => by
    have hl := hT.len
    obtain ⟨R, r1, r2⟩ := reach_in hA (by omega : s < S.length) (fun B' more' hT' hP' => reach_pass H m (s + 1) B' more' (by omega) hT' hP') S.length 0 B more (by omega) hT hP
    refine ⟨R, r1, ?_⟩
    refine Ev.step (fun k => by rw [spec_l06Reached.l1]) ?_
    exact ev_pos (by omega) r2
theorem reach_loop : ∀ (n : Nat) (B : List Bool), nf B ≤ n → Tb (st := st) (S := S) B → ∃ R, (Tb (st := st) (S := S) R ∧ Cl S R) ∧ Ev (fun k => spec_l06Reached.l0 k B true st S g) R := by
  intro n
  induction n with
  | zero =>
    intro B hn hT
    obtain ⟨R, r1, r2⟩ := reach_pass hA (B0 := B) (Post := fun R => Tb (st := st) (S := S) R ∧ Cl S R) (fun B' more hT' hP' => by
      cases more with
      | true => have := hP'.2 rfl; omega
      | false =>
        refine ⟨B', ⟨hT', fun s c h1 h2 => (hP'.1 rfl).2 s c h1 h2 (.inl h1)⟩, ?_⟩
        refine Ev.step (fun k => by rw [spec_l06Reached.l0]) ?_
        exact ev_neg (by decide) (Ev.now _)) S.length 0 B false (by omega) hT ⟨fun _ => ⟨rfl, fun _ _ _ _ h => by omega⟩, fun e => by cases e⟩
    refine ⟨R, r1, ?_⟩
    refine Ev.step (fun k => by rw [spec_l06Reached.l0]) ?_
    exact ev_pos rfl r2
  | succ n ih =>
    intro B hn hT
    obtain ⟨R, r1, r2⟩ := reach_pass hA (B0 := B) (Post := fun R => Tb (st := st) (S := S) R ∧ Cl S R) (fun B' more hT' hP' => by
      cases more with
      | true => exact ih B' (by have := hP'.2 rfl; omega) hT'
      | false =>
        refine ⟨B', ⟨hT', fun s c h1 h2 => (hP'.1 rfl).2 s c h1 h2 (.inl h1)⟩, ?_⟩
        refine Ev.step (fun k => by rw [spec_l06Reached.l0]) ?_
        exact ev_neg (by decide) (Ev.now _)) S.length 0 B false (by omega) hT ⟨fun _ => ⟨rfl, fun _ _ _ _ h => by omega⟩, fun e => by cases e⟩
    refine ⟨R, r1, ?_⟩
    refine Ev.step (fun k => by rw [spec_l06Reached.l0]) ?_
    exact ev_pos rfl r2
theorem spec_l06Reached_ev : ∃ R : List Bool, R.length = S.length ∧ (∀ s : Nat, s < S.length → (R.getD s false = true ↔ Rc st S (s : Int))) ∧ Ev (fun k => spec_l06Reached.f k st S g) R := by
  have h9 := hA.nine
  have hs := hA.start
  obtain ⟨R, ⟨r1, r2⟩, r3⟩ := reach_loop hA _ ((List.replicate S.length false).set st.toNat true) (Nat.le_refl _) ⟨by simp, fun x hx hxt => (by
      by_cases e : st.toNat = x
      · have e' : (x : Int) = st := by omega
        rw [e']; exact Rc.start
      · rw [getb_set_ne e, List.getD_eq_getElem?_getD, List.getElem?_replicate, if_pos hx] at hxt
        cases hxt), getb_set_eq (by simp; omega)⟩
  refine ⟨R, r1.len, fun s hs' => ⟨r1.sound s hs', fun h => ?_⟩, ?_⟩
  · have key : ∀ x : Int, Rc st S x → R.getD x.toNat false = true := by
      intro x hx
      induction hx with
      | start => exact r1.start
      | @step a b ha hb iha ihb =>
        have h1 := ha.bd hA
        have h2 := hb.bd hA
        have := r2 a.toNat b.toNat (by omega) (by omega) iha ihb
        rwa [show ((a.toNat : Nat) : Int) = a by omega, show ((b.toNat : Nat) : Int) = b by omega] at this
    exact key _ h
  · unfold spec_l06Reached.f
    refine ev_pos (by omega) (ev_pos (by omega) ?_)
    rw [show ((S.length : Int)).toNat = S.length from rfl]
    exact ev_some (ev_pos (by omega) (ev_pos (by simp; omega) r3))

structure Mt (out : List Int) : Prop where
  nd : out.Nodup
  sound : ∀ x ∈ out, Rc st S x
  start : st ∈ out
omit hA in
theorem prefix_mem {a b : List Int} (h : a <+: b) {x : Int} (hx : x ∈ a) : x ∈ b := h.subset hx
theorem Mt.few {out : List Int} (h : Mt (st := st) (S := S) out) : out.length ≤ S.length := nodup_few _ _ h.nd (fun x hx => (h.sound x hx).bd hA)
theorem tk_ev {out : List Int} (h : Mt (st := st) (S := S) out) {s : Int} (hs : Rc st S s) : ∃ o1, Mt (st := st) (S := S) o1 ∧ out <+: o1 ∧ s ∈ o1 ∧ Ev (fun k => impl_met.tk k out s) o1 := by
  have hf := h.few hA
  have h9 := hA.nine
  by_cases hc : goodM out s = true
  · refine ⟨out, h, List.prefix_refl _, goodM_iff.1 hc, ?_⟩
    unfold impl_met.tk
    exact Ev.bind (contains_ev out (by omega) s) (ev_pos hc (Ev.now _))
  · have hn : s ∉ out := fun e => hc (goodM_iff.2 e)
    refine ⟨out ++ [s], ⟨?_, fun x hx => ?_, by simp [h.start]⟩, List.prefix_append _ _, by simp, ?_⟩
    · refine List.nodup_append.2 ⟨h.nd, by simp, fun a ha b hb => ?_⟩
      rw [List.mem_singleton] at hb
      subst hb
      exact fun e => hn (e ▸ ha)
    · rcases List.mem_append.1 hx with hx | hx
      · exact h.sound x hx
      · rw [List.mem_singleton] at hx; subst hx; exact hs
    · unfold impl_met.tk
      exact Ev.bind (contains_ev out (by omega) s) (ev_neg hc (ev_pos (by omega) (Ev.now _)))
theorem met_in {x : Int} (hx : Rc st S x) {sn : List Int} (hsn : ∀ y ∈ sn, Rc st S y) (hsl : sn.length ≤ 9) {i : Nat} (hi : i ≤ 9) {P : List Int → Prop} {out : List Int}
    (H : ∀ o1, Mt (st := st) (S := S) o1 → out <+: o1 → (∀ y ∈ sn, stepM S x y ∈ o1 ∧ stepM S y x ∈ o1) → ∃ R, P R ∧ Ev (fun k => impl_met.l0 k S o1 ((i + 1 : Nat) : Int)) R) :
    ∀ (m j : Nat) (o1 : List Int), j + m = sn.length → Mt (st := st) (S := S) o1 → out <+: o1 → (∀ y ∈ sn.take j, stepM S x y ∈ o1 ∧ stepM S y x ∈ o1) → ∃ R, P R ∧ Ev (fun k => impl_met.l1 k S o1 (i : Int) x sn (j : Int)) R
  | 0, j, o1, hj, hM, hp, hcl => by
    rw [List.take_of_length_le (by omega)] at hcl
    obtain ⟨R, r1, r2⟩ := H o1 hM hp hcl
    refine ⟨R, r1, ?_⟩
    refine Ev.step (fun k => by rw [impl_met.l1]) ?_
    rw [w64s (i := i) (by omega)]
    exact ev_neg (by omega) r2
  | m + 1, j, o1, hj, hM, hp, hcl => by
    have hlt : j < sn.length := by omega
    have h9 := hA.nine
    have ej : rd sn (j : Int) = sn[j] := rd_lt hlt
    have hy : Rc st S sn[j] := hsn _ (List.getElem_mem hlt)
    have bx := hx.bd hA
    have bY := hy.bd hA
    have r1 : (rd_L1 S x).length = S.length := hA.row x.toNat (by omega)
    have r2 : (rd_L1 S sn[j]).length = S.length := hA.row (sn[j]).toNat (by omega)
    have e1 : rd (rd_L1 S x) sn[j] = stepM S x sn[j] := rfl
    have e2 : rd (rd_L1 S sn[j]) x = stepM S sn[j] x := rfl
    obtain ⟨o2, m2, p2, i2, v2⟩ := tk_ev hA hM (Rc.step hx hy)
    have htk : sn.take (j + 1) = sn.take j ++ [sn[j]] := List.take_succ_eq_append_getElem hlt
    by_cases hq : sn[j] = x
    · obtain ⟨R, R1, R2⟩ := met_in hx hsn hsl hi H m (j + 1) o2 (by omega) m2 (hp.trans p2) (fun y hy' => by
        rw [htk] at hy'
        rcases List.mem_append.1 hy' with hy' | hy'
        · have := hcl y hy'; exact ⟨prefix_mem p2 this.1, prefix_mem p2 this.2⟩
        · rw [List.mem_singleton] at hy'
          subst hy'
          refine ⟨i2, ?_⟩
          rw [hq] at i2 ⊢; exact i2)
      refine ⟨R, R1, ?_⟩
      refine Ev.step (fun k => by rw [impl_met.l1]) ?_
      rw [ej, e1, w64s (i := j) (by omega)]
      exact ev_pos (by omega) (ev_pos ⟨by omega, by omega, by omega, by omega, by omega⟩ (Ev.bind v2 (ev_pos hq R2)))
    · obtain ⟨o3, m3, p3, i3, v3⟩ := tk_ev hA m2 (Rc.step hy hx)
      obtain ⟨R, R1, R2⟩ := met_in hx hsn hsl hi H m (j + 1) o3 (by omega) m3 ((hp.trans p2).trans p3) (fun y hy' => by
        rw [htk] at hy'
        rcases List.mem_append.1 hy' with hy' | hy'
        · have := hcl y hy'; exact ⟨prefix_mem p3 (prefix_mem p2 this.1), prefix_mem p3 (prefix_mem p2 this.2)⟩
        · rw [List.mem_singleton] at hy'
          subst hy'
          exact ⟨prefix_mem p3 i2, i3⟩)
      refine ⟨R, R1, ?_⟩
      refine Ev.step (fun k => by rw [impl_met.l1]) ?_
      rw [ej, e1, e2, w64s (i := j) (by omega)]
      exact ev_pos (by omega) (ev_pos ⟨by omega, by omega, by omega, by omega, by omega⟩ (Ev.bind v2 (ev_neg hq (ev_pos ⟨by omega, by omega⟩ (Ev.bind v3 R2)))))
theorem met_loop : ∀ (m i : Nat) (out : List Int), i + m = S.length → i ≤ out.length → Mt (st := st) (S := S) out → (∀ x ∈ out.take i, ∀ y ∈ out.take i, stepM S x y ∈ out) →
    ∃ R, (Mt (st := st) (S := S) R ∧ ∀ x ∈ R, ∀ y ∈ R, stepM S x y ∈ R) ∧ Ev (fun k => impl_met.l0 k S out (i : Int)) R := by
  intro m
  induction m with
  | zero =>
    intro i out hi hl hM hcl
    have hf := hM.few hA
    refine ⟨out, ⟨hM, ?_⟩, ?_⟩
    · rw [List.take_of_length_le (by omega)] at hcl; exact hcl
    · refine Ev.step (fun k => by rw [impl_met.l0]) ?_
      exact ev_neg (by omega) (Ev.now _)
  | succ m ih =>
    intro i out hi hl hM hcl
    have hf := hM.few hA
    have h9 := hA.nine
    by_cases hlt : i < out.length
    · have ex : rd out (i : Int) = out[i] := rd_lt hlt
      have hx : Rc st S out[i] := hM.sound _ (List.getElem_mem hlt)
      obtain ⟨R, r1, r2⟩ := met_in hA hx (sn := out) hM.sound (by omega) (i := i) (by omega) (out := out) (P := fun R => Mt (st := st) (S := S) R ∧ ∀ x ∈ R, ∀ y ∈ R, stepM S x y ∈ R) (fun o1 m1 p1 c1 => by
        have ht : o1.take (i + 1) = out.take (i + 1) := by
          obtain ⟨t, rfl⟩ := p1
          rw [List.take_append_of_le_length (by omega)]
        refine ih (i + 1) o1 (by omega) (by have := p1.length_le; omega) m1 (fun a ha b hb => ?_)
        rw [ht, List.take_succ_eq_append_getElem hlt] at ha hb
        have sub : ∀ z, z ∈ out.take i → z ∈ out := fun z hz => List.mem_of_mem_take hz
        rcases List.mem_append.1 ha with ha | ha
        · rcases List.mem_append.1 hb with hb | hb
          · exact prefix_mem p1 (hcl a ha b hb)
          · rw [List.mem_singleton] at hb; subst hb; exact (c1 a (sub a ha)).2
        · rw [List.mem_singleton] at ha; subst ha
          rcases List.mem_append.1 hb with hb | hb
          · exact (c1 b (sub b hb)).1
          · rw [List.mem_singleton] at hb; subst hb; exact (c1 _ (List.getElem_mem hlt)).1) out.length 0 out (by omega) hM (List.prefix_refl _) (fun y hy => by simp at hy)
      refine ⟨R, r1, ?_⟩
      refine Ev.step (fun k => by rw [impl_met.l0]) ?_
      rw [ex]
      refine ev_pos (by omega) (ev_pos (by omega) ?_)
      unfold slices_Clone_int64_int64.f
      rw [if_pos (by omega)]
      exact ev_some r2
    · refine ⟨out, ⟨hM, ?_⟩, ?_⟩
      · rw [List.take_of_length_le (by omega)] at hcl; exact hcl
      · refine Ev.step (fun k => by rw [impl_met.l0]) ?_
        exact ev_neg (by omega) (Ev.now _)
theorem impl_met_ev : ∃ R : List Int, R.Nodup ∧ R.length ≤ 9 ∧ (∀ x, x ∈ R ↔ Rc st S x) ∧ Ev (fun k => impl_met.f k st S g) R := by
  obtain ⟨R, ⟨r1, r2⟩, r3⟩ := met_loop hA S.length 0 [st] (by omega) (by simp) ⟨by simp, fun x hx => by rw [List.mem_singleton] at hx; subst hx; exact Rc.start, by simp⟩ (fun x hx => by simp at hx)
  refine ⟨R, r1.nd, by have := r1.few hA; have := hA.nine; omega, fun x => ⟨r1.sound x, fun h => ?_⟩, r3⟩
  induction h with
  | start => exact r1.start
  | step _ _ iha ihb => exact r2 _ iha _ ihb
end
end Go.Proofs.Ytmnpdkhkgddojaa.E
namespace Go.Proofs.Ytmnpdkhkgddojaa.E
set_option linter.unusedVariables false
set_option linter.unusedSectionVars false
open Go.RowKit Go.Proofs.YtmnpdkhkgddojaaW.PrintWords Go.Proofs.Ytmnpdkhkgddojaa.Base Go.Proofs.Ytmnpdkhkgddojaa.Auto Go.Proofs.Ytmnpdkhkgddojaa.Tree

theorem drop_find {α : Type} (p : α → Bool) (l : List α) (d : α) (i : Nat) (hi : i < l.length) : (l.drop i).find? p = if p (l.getD i d) = true then some (l.getD i d) else (l.drop (i + 1)).find? p := by
  rw [List.drop_eq_getElem_cons hi, List.find?_cons, List.getD_eq_getElem?_getD, List.getElem?_eq_getElem hi]
  simp only [Option.getD_some]
  cases h : p l[i] <;> simp
def firstM (q : List Int → Bool) : Nat → Nat → Option (List Int)
  | 0, _ => none
  | m + 1, n => match (gT n 1).find? q with
    | some s => some s
    | none => firstM q m (n + 1)
theorem firstM_some {q : List Int → Bool} : ∀ {m n : Nat} {s : List Int}, firstM q m n = some s → q s = true ∧ IsT s ∧ s.length < n + m
  | 0, _, _, h => by cases h
  | m + 1, n, s, h => by
    simp only [firstM] at h
    split at h
    · rename_i s' e
      cases h
      have h1 := List.find?_some e
      have h2 := gT_tree (List.mem_of_find?_eq_some e)
      exact ⟨h1, h2.1, by omega⟩
    · have := firstM_some h
      exact ⟨this.1, this.2.1, by omega⟩
theorem t_getD (L : List (List Int)) (i : Nat) (h : i < L.length) : (rd_T38 (L.map fun s => (⟨s⟩ : S38)) (i : Int)).f0 = L.getD i [] := by
  unfold rd_T38
  rw [show ((i : Int)).toNat = i from rfl, List.getD_eq_getElem?_getD, List.getElem?_map, List.getElem?_eq_getElem h, List.getD_eq_getElem?_getD, List.getElem?_eq_getElem h]
  rfl
theorem stIn_len (S : List (List Int)) (v : Nat) : ∀ (L : List Nat) (out : List Int), (stIn S v L out).length = out.length
  | [], _ => rfl
  | c :: L, out => by simp only [stIn]; rw [stIn_len S v L]; simp
theorem stIn_rc {st : Int} {S : List (List Int)} {n v : Nat} (hv : v < n) : ∀ (L : List Nat) (out : List Int), (∀ c ∈ L, v < c ∧ c < n) → out.length = n → (∀ u, v ≤ u → u < n → Rc st S (out.getD u 0)) → ∀ u, v ≤ u → u < n → Rc st S ((stIn S v L out).getD u 0)
  | [], _, _, _, h => h
  | c :: L, out, hL, hl, h => by
    simp only [stIn]
    refine stIn_rc hv L _ (fun x hx => hL x (by simp [hx])) (by simpa using hl) (fun u h1 h2 => ?_)
    by_cases e : v = u
    · subst e
      rw [get_set_eq (by omega)]
      have hc := hL c (by simp)
      exact Rc.step (h v (by omega) h2) (h c (by omega) hc.2)
    · rw [get_set_ne e]; exact h u h1 h2
section
variable {st : Int} {S : List (List Int)} {g : List Int} (hA : IsA st S g)
include hA
theorem stAll_rc {d : List Int} (h : IsT d) : ∀ (v : Nat) (out : List Int), v ≤ d.length → out.length = d.length → (∀ u, v ≤ u → u < d.length → Rc st S (out.getD u 0)) → ∀ u, u < d.length → Rc st S ((stAll st S d v out).getD u 0)
  | 0, out, _, _, H => fun u hu => H u (by omega) hu
  | v + 1, out, hv, hl, H => by
    simp only [stAll]
    refine stAll_rc h v _ (by omega) (by rw [stIn_len]; simpa using hl) (stIn_rc (by omega) _ _ (fun c hc => ?_) (by simpa using hl) (fun u h1 h2 => ?_))
    · have := kid_mem h (by omega) hc; omega
    · by_cases e : v = u
      · subst e
        rw [get_set_eq (by omega)]
        exact Rc.start
      · rw [get_set_ne e]; exact H u (by omega) h2
theorem root_rc {d : List Int} (h : IsT d) : Rc st S ((statesM st S d).getD 0 0) := by
  have := IsT.len h
  exact stAll_rc hA h d.length _ (Nat.le_refl _) (by simp) (fun u h1 h2 => by omega) 0 this
def rootG (st : Int) (S : List (List Int)) (G : List Int) (d : List Int) : Bool := goodM G ((statesM st S d).getD 0 0)
theorem impl_first_in {G : List Int} (hG : G.length ≤ 1048576) {n : Nat} (hn : n ≤ 8) {R : Option (List Int)} {r : List Int × Int → Prop} :
    ∀ (m i : Nat) (q : List Int × Int), i + m = (gT n 1).length → (match ((gT n 1).drop i).find? (rootG st S G) with
      | some s => (s, 0) = q
      | none => Ev (fun k => impl_firstOf.l0 k G ((n + 1 : Nat) : Int) st S g) q) →
    Ev (fun k => impl_firstOf.l1 k G (n : Int) ((gT n 1).map fun s => (⟨s⟩ : S38)) ((((gT n 1).map fun s => (⟨s⟩ : S38)).length : Nat) : Int) (i : Int) st S g) q
  | 0, i, q, hi, H => by
    rw [List.drop_of_length_le (by omega)] at H
    simp only [List.find?_nil] at H
    refine Ev.step (fun k => by rw [impl_firstOf.l1]) ?_
    rw [w64s (i := n) (by omega), List.length_map]
    exact ev_neg (by omega) H
  | m + 1, i, q, hi, H => by
    have hil : i < (gT n 1).length := by omega
    have hs := gT_small n hn 1
    have hmem : (gT n 1).getD i [] ∈ gT n 1 := by
      rw [List.getD_eq_getElem?_getD, List.getElem?_eq_getElem hil]; exact List.getElem_mem hil
    obtain ⟨hT, hlen⟩ := gT_tree hmem
    have hpos := IsT.len hT
    have hsts := states_sts hA hT (by omega)
    rw [drop_find _ _ [] i hil] at H
    refine Ev.step (fun k => by rw [impl_firstOf.l1]) ?_
    rw [t_getD _ _ hil, List.length_map]
    refine ev_pos (by omega) (ev_pos (by omega) (ev_pos (by omega) (Ev.bind (impl_statesOf_ev hA hT (by omega)) (ev_pos (by rw [hsts.len]; omega) (Ev.bind (contains_ev G hG _) (ev_ite (fun hx => ?_) (fun hx => ?_)))))))
    · have hx' : rootG st S G ((gT n 1).getD i []) = true := hx
      rw [if_pos hx'] at H
      exact ev_now H
    · have hx' : ¬ rootG st S G ((gT n 1).getD i []) = true := hx
      rw [if_neg hx'] at H
      rw [w64s (i := i) (by omega)]
      have := impl_first_in hG hn (R := R) (r := r) m (i + 1) q (by omega) H
      rw [List.length_map] at this
      exact this
theorem spec_first_in {G : List Int} {W : List Bool} (hW : W.length = S.length) (hWG : ∀ i, i < S.length → W.getD i false = goodM G (i : Int)) {n : Nat} (hn : n ≤ 8) :
    ∀ (m i : Nat) (q : List Int × Bool), i + m = (gT n 1).length → (match ((gT n 1).drop i).find? (rootG st S G) with
      | some s => (s, true) = q
      | none => Ev (fun k => spec_l06First.l0 k W ((n + 1 : Nat) : Int) st S g) q) →
    Ev (fun k => spec_l06First.l1 k W (n : Int) ((gT n 1).map fun s => (⟨s⟩ : S38)) (i : Int) st S g) q
  | 0, i, q, hi, H => by
    rw [List.drop_of_length_le (by omega)] at H
    simp only [List.find?_nil] at H
    refine Ev.step (fun k => by rw [spec_l06First.l1]) ?_
    rw [w64s (i := n) (by omega), List.length_map]
    exact ev_neg (by omega) H
  | m + 1, i, q, hi, H => by
    have hil : i < (gT n 1).length := by omega
    have hs := gT_small n hn 1
    have hmem : (gT n 1).getD i [] ∈ gT n 1 := by
      rw [List.getD_eq_getElem?_getD, List.getElem?_eq_getElem hil]; exact List.getElem_mem hil
    obtain ⟨hT, hlen⟩ := gT_tree hmem
    have hpos := IsT.len hT
    have hsts := states_sts hA hT (by omega)
    have hm0 := hsts.mem 0 hpos
    rw [drop_find _ _ [] i hil] at H
    refine Ev.step (fun k => by rw [spec_l06First.l1]) ?_
    rw [t_getD _ _ hil, List.length_map]
    have hrd : rdOf false W (rd (statesM st S ((gT n 1).getD i [])) 0) = rootG st S G ((gT n 1).getD i []) := by
      show W.getD ((statesM st S ((gT n 1).getD i [])).getD 0 0).toNat false = _
      rw [hWG _ (by omega), show ((((statesM st S ((gT n 1).getD i [])).getD 0 0).toNat : Nat) : Int) = (statesM st S ((gT n 1).getD i [])).getD 0 0 by omega]
      rfl
    refine ev_pos (by omega) (ev_pos (by omega) (Ev.bind (spec_l06States_ev hA hT (by omega)) (ev_pos (by rw [hsts.len]; omega) (ev_pos hm0.1 (ev_pos (by rw [hW]; exact hm0.2) ?_)))))
    rw [hrd]
    refine ev_ite (fun hx => ?_) (fun hx => ?_)
    · rw [if_pos hx] at H
      exact ev_now H
    · rw [if_neg hx] at H
      rw [w64s (i := i) (by omega)]
      exact spec_first_in hW hWG hn m (i + 1) q (by omega) H
theorem spec_first_loop {G : List Int} {W : List Bool} (hW : W.length = S.length) (hWG : ∀ i, i < S.length → W.getD i false = goodM G (i : Int)) :
    ∀ (m n : Nat), 1 ≤ n → n + m = 9 → Ev (fun k => spec_l06First.l0 k W (n : Int) st S g) (match firstM (rootG st S G) m n with | some s => (s, true) | none => ([], false))
  | 0, n, h1, hn => by
    refine Ev.step (fun k => by rw [spec_l06First.l0]) ?_
    exact ev_neg (by omega) (Ev.now _)
  | m + 1, n, h1, hn => by
    have ih := spec_first_loop hW hWG m (n + 1) (by omega) (by omega)
    refine Ev.step (fun k => by rw [spec_l06First.l0]) ?_
    refine ev_pos (by omega) (Ev.bind (spec_l01All_ev h1 (by omega)) ?_)
    refine spec_first_in hA hW hWG (by omega) (gT n 1).length 0 _ (by omega) ?_
    simp only [firstM, List.drop_zero]
    cases (gT n 1).find? (rootG st S G) with
    | some s => rfl
    | none => exact ih
theorem spec_l06First_ev {G : List Int} {W : List Bool} (hW : W.length = S.length) (hWG : ∀ i, i < S.length → W.getD i false = goodM G (i : Int)) :
    Ev (fun k => spec_l06First.f k st S g W) (match firstM (rootG st S G) 8 1 with | some s => (s, true) | none => ([], false)) := by
  unfold spec_l06First.f
  exact spec_first_loop hA hW hWG 8 1 (by omega) (by omega)
theorem impl_met_in {G : List Int} (hG : G.length ≤ 1048576) (R : List Int) (hR : R.length ≤ 9) : ∀ (m i : Nat), i + m = R.length → Ev (fun k => impl_firstOf.l2 k G R (R.length : Int) (i : Int)) (if (R.drop i).any (goodM G) = true then ([], 3) else ([], 4))
  | 0, i, hi => by
    rw [List.drop_of_length_le (by omega)]
    refine Ev.step (fun k => by rw [impl_firstOf.l2]) ?_
    exact ev_neg (by omega) (ev_now rfl)
  | m + 1, i, hi => by
    have ih := impl_met_in hG R hR m (i + 1) (by omega)
    have hil : i < R.length := by omega
    have e : (R.drop i).any (goodM G) = (goodM G (R.getD i 0) || (R.drop (i + 1)).any (goodM G)) := drop_any _ _ _ hil
    rw [e]
    refine Ev.step (fun k => by rw [impl_firstOf.l2]) ?_
    rw [rd_nat]
    refine ev_pos (by omega) (ev_pos (by omega) (ev_pos (by omega) (Ev.bind (contains_ev G hG _) (ev_ite (fun hx => ?_) (fun hx => ?_)))))
    · rw [hx, Bool.true_or]; exact Ev.now _
    · rw [Bool.not_eq_true] at hx
      rw [hx, Bool.false_or, w64s (by omega)]
      exact ih
theorem impl_first_loop {G : List Int} (hG : G.length ≤ 1048576) {q : List Int × Int} (H : Ev (fun k => (impl_met.f k st S g).bind fun t => impl_firstOf.l2 k G t (t.length : Int) 0) q) :
    ∀ (m n : Nat), 1 ≤ n → n + m = 9 → Ev (fun k => impl_firstOf.l0 k G (n : Int) st S g) (match firstM (rootG st S G) m n with | some s => (s, 0) | none => q)
  | 0, n, h1, hn => by
    refine Ev.step (fun k => by rw [impl_firstOf.l0]) ?_
    exact ev_neg (by omega) H
  | m + 1, n, h1, hn => by
    have ih := impl_first_loop hG H m (n + 1) (by omega) (by omega)
    refine Ev.step (fun k => by rw [impl_firstOf.l0]) ?_
    refine ev_pos (by omega) (Ev.bind (impl_treesOf_ev h1 (by omega)) ?_)
    refine impl_first_in hA hG (by omega) (R := none) (r := fun _ => True) (gT n 1).length 0 _ (by omega) ?_
    simp only [firstM, List.drop_zero]
    cases (gT n 1).find? (rootG st S G) with
    | some s => rfl
    | none => exact ih
theorem find_loop {W B : List Bool} (hW : W.length ≤ 9) (hB : B.length = W.length) (r : List Int × Int) (fl : Bool)
    (H : Ev (fun k => if fl = true then ((spec_l06First.f k st S g W).bind fun bt => (if bt.2 = true then (some (bt.1, 0)) else (some (([] : List Int), 3)))) else (some (([] : List Int), 4))) r) :
    ∀ (m i : Nat) (b : Bool), i + m = W.length → (fl = true ↔ b = true ∨ ∃ j, i ≤ j ∧ j < W.length ∧ W.getD j false = true ∧ B.getD j false = true) → Ev (fun k => spec_l06Find.l0 k W B b (i : Int) st S g) r
  | 0, i, b, hi, hf => by
    have e : fl = b := by
      cases fl <;> cases b
      · rfl
      · exact absurd (hf.2 (Or.inl rfl)) (by decide)
      · rcases hf.1 rfl with h | ⟨j, h1, h2, _⟩
        · exact absurd h (by decide)
        · omega
      · rfl
    subst e
    refine Ev.step (fun k => by rw [spec_l06Find.l0]) ?_
    exact ev_neg (by omega) H
  | m + 1, i, b, hi, hf => by
    refine Ev.step (fun k => by rw [spec_l06Find.l0]) ?_
    rw [show rdOf false W (i : Int) = W.getD i false from rfl, show rdOf false B (i : Int) = B.getD i false from rfl, w64s (i := i) (by omega)]
    refine ev_pos (by omega) (ev_ite (fun hx => ?_) (fun hx => ev_pos (by omega) (ev_ite (fun hy => ev_pos (by omega) ?_) (fun hy => ?_))))
    · refine find_loop hW hB r fl H m (i + 1) true (by omega) (hf.trans ⟨fun _ => Or.inl rfl, fun _ => Or.inl hx⟩)
    · refine find_loop hW hB r fl H m (i + 1) _ (by omega) (hf.trans ⟨fun h => ?_, fun h => ?_⟩)
      · rcases h with h | ⟨j, h1, h2, h3, h4⟩
        · exact absurd h hx
        · by_cases e : j = i
          · subst e; exact Or.inl h4
          · exact Or.inr ⟨j, by omega, h2, h3, h4⟩
      · rcases h with h | ⟨j, h1, h2, h3, h4⟩
        · exact Or.inr ⟨i, by omega, by omega, hy, h⟩
        · exact Or.inr ⟨j, by omega, h2, h3, h4⟩
    · refine find_loop hW hB r fl H m (i + 1) _ (by omega) (hf.trans ⟨fun h => ?_, fun h => ?_⟩)
      · rcases h with h | ⟨j, h1, h2, h3, h4⟩
        · exact absurd h hx
        · by_cases e : j = i
          · subst e; exact absurd h3 hy
          · exact Or.inr ⟨j, by omega, h2, h3, h4⟩
      · rcases h with h | ⟨j, h1, h2, h3, h4⟩
        · exact absurd h (by decide)
        · exact Or.inr ⟨j, by omega, h2, h3, h4⟩
theorem both_first {G : List Int} (hG : G.length ≤ 1048576) {W : List Bool} (hW : W.length = S.length) (hWG : ∀ i, i < S.length → W.getD i false = goodM G (i : Int)) :
    ∃ r : List Int × Int, r.1.length ≤ 1048576 ∧ Ev (fun k => spec_l06Find.f k st S g W) r ∧ Ev (fun k => impl_firstOf.f k st S g G) r := by
  have h9 := hA.nine
  obtain ⟨B, b1, b2, b3⟩ := spec_l06Reached_ev hA
  obtain ⟨M, m1, m2, m3, m4⟩ := impl_met_ev hA
  have hmet : (M.any (goodM G) = true) ↔ ∃ j, 0 ≤ j ∧ j < W.length ∧ W.getD j false = true ∧ B.getD j false = true := by
    rw [List.any_eq_true]
    constructor
    · rintro ⟨x, h1, h2⟩
      have h3 := (m3 x).1 h1
      have h4 := h3.bd hA
      have e : ((x.toNat : Nat) : Int) = x := by omega
      exact ⟨x.toNat, by omega, by omega, by rw [hWG _ (by omega), e]; exact h2, (b2 _ (by omega)).2 (by rw [e]; exact h3)⟩
    · rintro ⟨j, _, h1, h2, h3⟩
      exact ⟨(j : Int), (m3 _).2 ((b2 j (by omega)).1 h3), by rw [← hWG _ (by omega)]; exact h2⟩
  have hi := impl_first_loop hA hG (Ev.bind m4 (by
    have := impl_met_in hA hG M m2 M.length 0 (by omega)
    rw [List.drop_zero] at this
    exact this)) 8 1 (by omega) (by omega)
  have hfi := spec_l06First_ev hA hW hWG
  refine ⟨_, ?_, ?_, hi⟩
  · split
    · rename_i s e
      have := (firstM_some e).2.2
      simp only; omega
    · split <;> simp
  · unfold spec_l06Find.f
    refine Ev.bind b3 ?_
    refine find_loop hA (by omega) (by omega) _ (M.any (goodM G)) ?_ W.length 0 false (by omega) (hmet.trans ⟨Or.inr, fun h => h.resolve_left (by decide)⟩)
    refine ev_ite (fun hx => ?_) (fun hx => ?_)
    · refine Ev.bind hfi ?_
      cases e : firstM (rootG st S G) 8 1 with
      | some s => exact ev_pos rfl (Ev.now _)
      | none =>
        refine ev_neg (by simp) ?_
        simp only [hx, if_true]
        exact Ev.now _
    · cases e : firstM (rootG st S G) 8 1 with
      | some s =>
        obtain ⟨h1, h2, _⟩ := firstM_some e
        exact absurd (List.any_eq_true.2 ⟨_, (m3 _).2 (root_rc hA h2), h1⟩) hx
      | none =>
        simp only [hx]
        exact Ev.now _
end
end Go.Proofs.Ytmnpdkhkgddojaa.E
namespace Go.Proofs.Ytmnpdkhkgddojaa.E
set_option linter.unusedVariables false
set_option linter.unusedSectionVars false
open Go.RowKit Go.Proofs.YtmnpdkhkgddojaaW.PrintWords Go.Proofs.Ytmnpdkhkgddojaa.Base Go.Proofs.Ytmnpdkhkgddojaa.Auto

def marksL (m : Int) : List (List Int) → List (List Int)
  | [] => []
  | r :: S => marks m r.length :: marksL (m + r.length) S
def sumL : List (List Int) → Nat
  | [] => 0
  | r :: S => r.length + sumL S
theorem sumL_le : ∀ S : List (List Int), (∀ r ∈ S, r.length ≤ 1048576) → sumL S ≤ 1048576 * S.length
  | [], _ => by simp [sumL]
  | r :: S, h => by
    have h1 := h r List.mem_cons_self
    have h2 := sumL_le S (fun r hr => h r (List.mem_cons_of_mem _ hr))
    simp only [sumL, List.length_cons]
    omega
theorem marksL_length : ∀ (S : List (List Int)) (m : Int), (marksL m S).length = S.length
  | [], _ => rfl
  | r :: S, m => by simp [marksL, marksL_length S]
theorem sumL_drop : ∀ (S : List (List Int)) (i : Nat), i < S.length → sumL (S.drop i) = (S.getD i []).length + sumL (S.drop (i + 1))
  | r :: S, 0, _ => by simp [sumL]
  | r :: S, i + 1, h => by
    have := sumL_drop S i (by simpa using h)
    simpa using this
theorem marksL_getD : ∀ (S : List (List Int)) (m : Int) (j : Nat), j < S.length → (marksL m S).getD j [] = marks (m + (sumL S : Int) - (sumL (S.drop j) : Int)) (S.getD j []).length
  | r :: S, m, 0, _ => by simp [marksL]
  | r :: S, m, j + 1, h => by
    have := marksL_getD S (m + r.length) j (by simpa using h)
    simp only [marksL, List.getD_cons_succ, List.drop_succ_cons, sumL]
    rw [this, show m + (r.length : Int) + (sumL S : Int) - (sumL (S.drop j) : Int) = m + ((r.length + sumL S : Nat) : Int) - (sumL (S.drop j) : Int) by omega]
section
variable {S : List (List Int)} (hn : S.length ≤ 1048576) (hr : ∀ j, j < S.length → (S.getD j []).length ≤ 1048576)
include hn hr
theorem sumL_big : sumL S ≤ 1099511627776 := by
  have := sumL_le S (fun r h => by
    obtain ⟨j, hj, rfl⟩ := List.getElem_of_mem h
    have := hr j hj
    rwa [List.getD_eq_getElem?_getD, List.getElem?_eq_getElem hj] at this)
  omega
theorem sumL_drop_le : ∀ j, sumL (S.drop j) ≤ sumL S
  | 0 => by simp
  | j + 1 => by
    have := sumL_drop_le j
    rcases Nat.lt_or_ge j S.length with h | h
    · have := sumL_drop S j h
      omega
    · rw [List.drop_of_length_le (by omega)]
      simp [sumL]
theorem markSS_loop {m0 : Int} (h0 : 0 ≤ m0) (h1 : m0 ≤ 1099511627776) : ∀ (m i : Nat) (x : List (List Int)), i + m = S.length → x.length = S.length → (∀ j, j < i → x.getD j [] = (marksL m0 S).getD j []) → (∀ j, i ≤ j → j < S.length → x.getD j [] = S.getD j []) →
    Ev (fun k => laws_markInt64SS.l0 k x (m0 + (sumL S : Int) - (sumL (S.drop i) : Int)) (i : Int)) (m0 + (sumL S : Int), marksL m0 S)
  | 0, i, x, hi, hx, hd, hk => by
    refine Ev.step (fun k => by rw [laws_markInt64SS.l0]) ?_
    have e : x = marksL m0 S := ext_rows (by rw [hx, marksL_length]) (fun j hj => by rw [marksL_length] at hj; exact hd j (by omega))
    rw [List.drop_of_length_le (by omega)]
    refine ev_neg (by omega) (ev_now ?_)
    rw [e]
    simp [sumL]
  | m + 1, i, x, hi, hx, hd, hk => by
    have hb := sumL_big hn hr
    have hdl := sumL_drop_le hn hr i
    have e1 := sumL_drop S i (by omega)
    have hl := hr i (by omega)
    have e2 := hk i (Nat.le_refl _) (by omega)
    refine Ev.step (fun k => by rw [laws_markInt64SS.l0]) ?_
    rw [rdL_nat, e2]
    refine ev_pos (by omega) (ev_pos (by omega) (Ev.bind (markInt64S_ev (S.getD i []) _ (by omega) (by omega) hl) ?_))
    rw [w64s (by omega), show m0 + (sumL S : Int) - (sumL (S.drop i) : Int) + ((S.getD i []).length : Int) = m0 + (sumL S : Int) - (sumL (S.drop (i + 1)) : Int) by omega]
    refine markSS_loop h0 h1 m (i + 1) _ (by omega) (by simpa using hx) (fun j hj => ?_) (fun j hj hjl => ?_)
    · by_cases e : i = j
      · subst e
        rw [show ((i : Int)).toNat = i from rfl, getr_set_eq (by omega), marksL_getD S m0 i (by omega)]
      · rw [show ((i : Int)).toNat = i from rfl, getr_set_ne e]
        exact hd j (by omega)
    · rw [show ((i : Int)).toNat = i from rfl, getr_set_ne (by omega)]
      exact hk j (by omega) hjl
theorem markSS_ev {m0 : Int} (h0 : 0 ≤ m0) (h1 : m0 ≤ 1099511627776) : Ev (fun k => laws_markInt64SS.f k S m0) (m0 + (sumL S : Int), marksL m0 S) := by
  unfold laws_markInt64SS.f
  have := markSS_loop hn hr h0 h1 S.length 0 S (by omega) rfl (fun j hj => by omega) (fun _ _ _ => rfl)
  simpa using this
end
theorem markA_ev {S : List (List Int)} {g : List Int} (hs : SmallA S g) (st : Int) {m0 : Int} (h0 : 0 ≤ m0) (h1 : m0 ≤ 1099511627776) :
    Ev (fun k => laws_markAutomaton.f k st S g m0) (m0 + (sumL S : Int) + (g.length : Int), marksL m0 S, marks (m0 + (sumL S : Int)) g.length) := by
  have hb := sumL_big hs.rows hs.each
  unfold laws_markAutomaton.f
  exact Ev.bind (markSS_ev hs.rows hs.each h0 h1) (Ev.bind (markInt64S_ev g _ (by show 0 ≤ _; simp only; omega) (by simp only; omega) hs.good) (Ev.now _))
end Go.Proofs.Ytmnpdkhkgddojaa.E
namespace Go.Proofs.Ytmnpdkhkgddojaa.E
set_option linter.unusedVariables false
set_option linter.unusedSectionVars false
open Go.RowKit Go.Proofs.YtmnpdkhkgddojaaW.PrintWords Go.Proofs.Ytmnpdkhkgddojaa.Base Go.Proofs.Ytmnpdkhkgddojaa.Auto
theorem both_FirstOfState {S : List (List Int)} {g : List Int} (hs : SmallA S g) (st n : Int) : ∃ r : List Int × Int, r.1.length ≤ 1048576 ∧ Ev (fun k => spec_FirstOfState.f k st S g n) r ∧ Ev (fun k => impl_FirstOfState.f k st S g n) r := by
  by_cases hc : isAutM st S g = true
  · have hA := isAutM_sound hc
    have h9 := hA.nine
    have h0 := hA.one
    by_cases hn : 0 ≤ n ∧ n < S.length
    · have wl : ((List.replicate S.length false).set n.toNat true).length = S.length := by simp
      have ww : ∀ x, x < S.length → ((List.replicate S.length false).set n.toNat true).getD x false = goodM [n] (x : Int) := by
        intro x hx
        by_cases e : n.toNat = x
        · rw [e, getb_set_eq (by simpa using hx)]
          exact (goodM_iff.2 (by simp; omega)).symm
        · rw [getb_set_ne e]
          have : goodM [n] (x : Int) = false := by
            rw [← Bool.not_eq_true, goodM_iff]
            simp; omega
          rw [this, List.getD_eq_getElem?_getD, List.getElem?_replicate]
          split <;> rfl
      obtain ⟨r, r1, r2, r3⟩ := both_first hA (G := [n]) (by simp) wl ww
      refine ⟨r, r1, ?_, ?_⟩
      · unfold spec_FirstOfState.f
        refine Ev.bind (spec_l06Is_ev hs st) (ev_pos hc ?_)
        rw [l01In_eq, w64 (by omega) (by omega)]
        refine ev_some (ev_pos (by simp; omega) (ev_pos (by omega) (ev_pos (by omega) (ev_some (ev_pos hn.1 (ev_pos (by simp; omega) ?_))))))
        exact Ev.bind r2 (Ev.now _)
      · unfold impl_FirstOfState.f
        refine Ev.bind (impl_IsAutomaton_ev hs st) (ev_pos hc ?_)
        rw [isState_ev hs h9 h0]
        exact ev_some (ev_pos (by rw [inS_iff]; exact hn) (Ev.bind r3 (Ev.now _)))
    · refine ⟨([], 2), by simp, ?_, ?_⟩
      · unfold spec_FirstOfState.f
        refine Ev.bind (spec_l06Is_ev hs st) (ev_pos hc ?_)
        rw [l01In_eq, w64 (by omega) (by omega)]
        exact ev_some (ev_neg (by simp; omega) (Ev.now _))
      · unfold impl_FirstOfState.f
        refine Ev.bind (impl_IsAutomaton_ev hs st) (ev_pos hc ?_)
        rw [isState_ev hs h9 h0]
        exact ev_some (ev_neg (by rw [inS_iff]; exact hn) (Ev.now _))
  · refine ⟨([], 1), by simp, ?_, ?_⟩
    · unfold spec_FirstOfState.f
      exact Ev.bind (spec_l06Is_ev hs st) (ev_neg hc (Ev.now _))
    · unfold impl_FirstOfState.f
      exact Ev.bind (impl_IsAutomaton_ev hs st) (ev_neg hc (Ev.now _))
end Go.Proofs.Ytmnpdkhkgddojaa.E
namespace Go.Proofs.Ytmnpdkhkgddojaa.Pure
open Go.RowKit Go.Proofs.YtmnpdkhkgddojaaW.PrintWords Go.Proofs.Ytmnpdkhkgddojaa.Base Go.Proofs.Ytmnpdkhkgddojaa.Auto Go.Proofs.Ytmnpdkhkgddojaa.E
theorem FnExactFirstOfState : ∀ (st : Int) (S : List (List Int)) (g : List Int) (n : Int), (Lit.int .i64 st).wf = true → S.length ≤ maxLen → (∀ y ∈ S, y.length ≤ maxLen ∧ ∀ x ∈ y, (Lit.int .i64 x).wf = true) → g.length ≤ maxLen → (∀ x ∈ g, (Lit.int .i64 x).wf = true) → (Lit.int .i64 n).wf = true → ∃ k, laws_FnExactFirstOfState.f k st S g n = some true := by
  intro st S g n _ hS hm hg _ _
  apply Ev.rounds
  obtain ⟨r, h1, h2⟩ := szAutomaton_ev st S g hS (fun j hj => by
    have : S.getD j [] ∈ S := by rw [List.getD_eq_getElem?_getD, List.getElem?_eq_getElem hj]; exact List.getElem_mem hj
    exact (hm _ this).1) hg
  unfold laws_FnExactFirstOfState.f
  refine Ev.bind h1 ?_
  rcases h2 with h2 | ⟨h2, _, hs⟩
  · exact ev_pos h2 (Ev.now _)
  · obtain ⟨q, hq, q1, q2⟩ := both_FirstOfState hs st n
    have hb' := sumL_big hs.rows hs.each
    have hg' := hs.good
    refine ev_neg (by omega) (Ev.bind (toA_ev hs st) (Ev.bind q1 (Ev.bind (toA_ev hs st) (Ev.bind q2 (Ev.bind (eqTree_ev _ hq) (ev_pos rfl ?_))))))
    refine Ev.step (fun k => by rw [laws_FnExactFirstOfState.j0]) ?_
    refine ev_neg (by simp) (Ev.bind (toA_ev hs st) (Ev.bind (eqA_ev hs st) (ev_pos rfl (Ev.bind (markA_ev hs st (by decide) (by decide)) (ev_neg (by simp only; omega) (Ev.bind (eqTree_ev _ hq) (ev_pos rfl ?_)))))))
    refine Ev.step (fun k => by rw [laws_FnExactFirstOfState.j1]) ?_
    refine ev_neg (by simp) ?_
    refine Ev.bind (markTree_ev _ 1 (by decide) (by decide) hq) (Ev.bind (heldTree_ev _ 1 (by decide) (by decide) hq) (ev_neg (by omega) (ev_pos rfl (Ev.bind (toA_ev hs st) (Ev.bind q2 (Ev.bind (eqTree_ev _ hq) (ev_pos rfl ?_)))))))
    refine Ev.step (fun k => by rw [laws_FnExactFirstOfState.j2]) ?_
    refine ev_neg (by simp) ?_
    exact Ev.bind (heldTree_ev _ 1 (by decide) (by decide) hq) (ev_neg (by omega) (ev_pos rfl (Ev.now _)))
end Go.Proofs.Ytmnpdkhkgddojaa.Pure
namespace Go.Proofs.Ytmnpdkhkgddojaa.Open
set_option linter.unusedVariables false
set_option linter.unusedSectionVars false
open Go.RowKit Go.ChangeShapes Go.WideShapes Go.ChangeAt Go.Deep Go.Proofs.YtmnpdkhkgddojaaW.PrintWords
section
variable {H : Type} {enc : TypeId × Value → H} {P : Program} {w : World} {base : Nat} {held : Bool}

def Opens {α : Type} (d : Kd α) (Q : α → Prop) (enc : TypeId × Value → H) (P : Program) (w : World) (base : Nat) (held : Bool) (t : TypeId) : Prop :=
  ∀ (fuel : Nat) (cs : List Value) (x : DataW H × List MemPlace), DataW.trod enc P w base (fun _ => true) held fuel t cs = some x → ∃ a, d.K w a cs ∧ Q a
theorem opens_int {t : TypeId} {k : IntKind} (ht : P.underlying t = some (.int k)) : Opens (Kd.int k) (fun n => (Lit.int k n).wf = true) enc P w base held t := by
  intro fuel cs x h
  obtain ⟨n, rfl, _, hw⟩ := DataW.trod_int ht h
  exact ⟨n, rfl, hw⟩
theorem opens_slice {α : Type} [Inhabited α] {d : Kd α} {Q : α → Prop} {t e : TypeId} (ht : P.underlying t = some (.slice e)) (hc : P.cellsOf e = d.sz) (he : Opens d Q enc P w base held e) :
    Opens (Kd.slice e d) (fun xs => xs.length ≤ maxLen ∧ ∀ y ∈ xs, Q y) enc P w base held t := by
  intro fuel cs x h
  rcases open_slice ht h with ⟨rfl, _⟩ | ⟨a, len, cap, m, n, D, Pl, rfl, _, hl, hm, hmm, _, each⟩
  · exact ⟨[], ⟨none, 0, rfl, Nat.le_refl _, rfl, by simp, fun h0 => by simp at h0⟩, by simp, by simp⟩
  · simp only [if_true] at hmm
    have hx : ∀ i, i < len → ∃ y : α, Q y ∧ ∃ cs', w.cells? base (a.add (i * P.cellsOf e)) (P.cellsOf e) = some cs' ∧ d.K w y cs' := by
      intro i hi
      obtain ⟨cs', h1, h2⟩ := each i (by omega)
      obtain ⟨y, hk, hq⟩ := he _ _ _ h2
      exact ⟨y, hq, cs', h1, hk⟩
    obtain ⟨f, hf⟩ := choose_lt hx
    refine ⟨(List.range len).map f, ⟨some a, cap, by simp, by simpa using hl, by simp, by unfold maxLen at hm; simp; omega, fun _ => ⟨a, rfl, fun j p hj => ?_⟩⟩, by simp; omega, fun y hy => ?_⟩
    · rw [List.getElem?_map] at hj
      have hjl : j < len := by
        rcases Nat.lt_or_ge j len with h | h
        · exact h
        · rw [List.getElem?_eq_none (by simpa using h)] at hj
          cases hj
      rw [List.getElem?_range hjl] at hj
      obtain rfl := Option.some.inj hj
      obtain ⟨_, cs', h1, h2⟩ := hf j hjl
      obtain ⟨_, h3, h4⟩ := World.cells?_some h1
      refine ⟨cs', d.K_len h2, h2, fun i u hu => ?_⟩
      have hi : i < P.cellsOf e := by
        rw [← h3]
        exact (List.getElem?_eq_some_iff.1 hu).1
      have h5 := h4 i hi
      rw [hu] at h5
      rw [Go.Deep.add_add] at h5
      rw [← hc]
      exact h5
    · obtain ⟨i, hi, rfl⟩ := List.mem_map.1 hy
      exact (hf i (List.mem_range.1 hi)).1
theorem slice_in {α : Type} [Inhabited α] {d : Kd α} {Q : α → Prop} {t e : TypeId} {v : Value} {fuel : Nat} {x : DataW H × List MemPlace} (ht : P.underlying t = some (.slice e)) (hc : P.cellsOf e = d.sz) (he : Opens d Q enc P w base held e)
    (h : DataW.trod enc P w base (fun _ => true) held fuel t [v] = some x) : ∃ (A : Option Addr) (c : Nat) (xs : List α), v = .slice A xs.length c ∧ xs.length ≤ c ∧ xs.length ≤ maxLen ∧ d.C w A xs.length xs ∧ ∀ y ∈ xs, Q y := by
  obtain ⟨xs, ⟨A, c, hv, hl, hC⟩, hm, hq⟩ := opens_slice ht hc he _ _ _ h
  obtain rfl : v = .slice A xs.length c := by simpa using hv
  exact ⟨A, c, xs, rfl, hl, hm, hC, hq⟩
end
end Go.Proofs.Ytmnpdkhkgddojaa.Open
