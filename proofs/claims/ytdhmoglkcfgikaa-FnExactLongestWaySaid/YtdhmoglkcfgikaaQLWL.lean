/- The row of the law FnExactLongestWay, out of its pure statement. -/
import Derived.Test.YtdhmoglkcfgikaaQLWEx0
import Derived.Test.YtdhmoglkcfgikaaQLWEx1
import Derived.Test.YtdhmoglkcfgikaaQLWEx13
import Derived.Test.YtdhmoglkcfgikaaQLWEx14
import Derived.Test.YtdhmoglkcfgikaaQLWEx2
import Derived.Test.YtdhmoglkcfgikaaQLWEx3
import Derived.Test.YtdhmoglkcfgikaaQLWEx32
import Derived.Test.YtdhmoglkcfgikaaQLWEx33
import Derived.Test.YtdhmoglkcfgikaaQLWEx4
import Derived.Test.YtdhmoglkcfgikaaQLWEx5
import Derived.Test.YtdhmoglkcfgikaaQLWEx6
import Derived.Test.YtdhmoglkcfgikaaQLWEx7
import Derived.Test.YtdhmoglkcfgikaaQLWEx9
import Derived.Test.YtdhmoglkcfgikaaQLWW
import Derived.Deep.Slices
import Derived.Lib.SmallJoins
import Derived.OpenShut
import Derived.WalkKit
namespace Go.Proofs.Ytdhmoglkcfgikaa.Base
set_option linter.unusedVariables false
set_option linter.unusedSectionVars false
open Go.RowKit Go.Proofs.YtdhmoglkcfgikaaW.PrintWords

theorem ev_pos {α : Type} {c : Prop} [Decidable c] {f g : Nat → Option α} {r : α} (h : c) (k : Ev f r) : Ev (fun n => if c then f n else g n) r := by
  simpa [h] using k
theorem ev_neg {α : Type} {c : Prop} [Decidable c] {f g : Nat → Option α} {r : α} (h : ¬ c) (k : Ev g r) : Ev (fun n => if c then f n else g n) r := by
  simpa [h] using k
theorem ev_ite {α : Type} {c : Prop} [Decidable c] {f g : Nat → Option α} {r : α} (h : c → Ev f r) (k : ¬ c → Ev g r) : Ev (fun n => if c then f n else g n) r := by
  by_cases hc : c
  · exact ev_pos hc (h hc)
  · exact ev_neg hc (k hc)
theorem ev_now {α : Type} {a r : α} (h : a = r) : Ev (fun _ => some a) r := h ▸ Ev.now a
theorem ev_some {α β : Type} {f : Nat → α → Option β} {a : α} {r : β} (k : Ev (fun n => f n a) r) : Ev (fun n => (some a).bind (f n)) r := by
  simpa using k
theorem w64 {x : Int} (h1 : -9223372036854775808 ≤ x) (h2 : x ≤ 9223372036854775807) : wrap64 x = x := by unfold wrap64; omega
theorem w64s {i : Nat} (h : i < 9223372036854775807) : wrap64 ((i : Int) + 1) = ((i + 1 : Nat) : Int) := by unfold wrap64; omega
theorem w64p {i : Nat} (h : i < 9223372036854775807) : wrap64 (((i + 1 : Nat) : Int) - 1) = (i : Int) := by unfold wrap64; omega

theorem rd_nat (l : List Int) (i : Nat) : rd l (i : Int) = l.getD i 0 := rfl
theorem rd_lt {l : List Int} {i : Nat} (h : i < l.length) : rd l (i : Int) = l[i] := by
  rw [rd_nat, List.getD_eq_getElem?_getD, List.getElem?_eq_getElem h]; rfl
theorem set_eq {l m : List Int} {i : Nat} (hl : m.length = l.length) (h : ∀ j, j < i → m.getD j 0 = l.getD j 0) : ∀ j, j < i + 1 → (m.set i (l.getD i 0)).getD j 0 = l.getD j 0 := by
  intro j hj
  rw [List.getD_eq_getElem?_getD, List.getElem?_set]
  by_cases e : i = j
  · subst e
    by_cases hlt : i < m.length
    · simp [hlt]
    · rw [if_pos rfl, if_neg hlt, List.getD_eq_getElem?_getD, List.getElem?_eq_none (by omega)]
  · rw [if_neg e, ← List.getD_eq_getElem?_getD]
    exact h j (by omega)
theorem ext_getD {l m : List Int} (hl : m.length = l.length) (h : ∀ j, j < l.length → m.getD j 0 = l.getD j 0) : m = l := by
  apply List.ext_getElem hl
  intro j h1 h2
  have := h j h2
  rwa [List.getD_eq_getElem?_getD, List.getD_eq_getElem?_getD, List.getElem?_eq_getElem h1, List.getElem?_eq_getElem h2] at this
theorem getD_map_range {n : Nat} {f : Nat → Int} {j : Nat} (h : j < n) : ((List.range n).map f).getD j 0 = f j := by
  rw [List.getD_eq_getElem?_getD, List.getElem?_map, List.getElem?_range h]; rfl
theorem getD_replicate {n j : Nat} {v : Int} (h : j < n) : (List.replicate n v).getD j 0 = v := by
  rw [List.getD_eq_getElem?_getD, List.getElem?_replicate, if_pos h]; rfl
theorem get_set_ne {l : List Int} {i j : Nat} {v : Int} (h : i ≠ j) : (l.set i v).getD j 0 = l.getD j 0 := by
  rw [List.getD_eq_getElem?_getD, List.getElem?_set_ne h, ← List.getD_eq_getElem?_getD]
theorem get_set_eq {l : List Int} {i : Nat} {v : Int} (h : i < l.length) : (l.set i v).getD i 0 = v := by
  rw [List.getD_eq_getElem?_getD, List.getElem?_set_self h]; rfl
end Go.Proofs.Ytdhmoglkcfgikaa.Base
namespace Go.Proofs.Ytdhmoglkcfgikaa.E
set_option linter.unusedVariables false
set_option linter.unusedSectionVars false
open Go.RowKit Go.Proofs.YtdhmoglkcfgikaaW.PrintWords Go.Proofs.Ytdhmoglkcfgikaa.Base

theorem toInt64S_loop (x0 : List Int) (hn : x0.length ≤ 1048576) : ∀ (m i : Nat) (x3 : List Int), i + m = x0.length → x3.length = x0.length → (∀ j, j < i → x3.getD j 0 = x0.getD j 0) → Ev (fun k => laws_toInt64S.l0 k x0 x3 (i : Int)) x0 := by
  intro m
  induction m with
  | zero =>
    intro i x3 h1 h2 h3
    refine Ev.step (fun k => by rw [laws_toInt64S.l0]) ?_
    refine ev_neg (by omega) ?_
    exact ev_now (ext_getD h2 (fun j hj => h3 j (by omega)))
  | succ m ih =>
    intro i x3 h1 h2 h3
    refine Ev.step (fun k => by rw [laws_toInt64S.l0]) ?_
    refine ev_pos (by omega) (ev_pos (by omega) (ev_pos (by omega) ?_))
    rw [w64s (by omega)]
    exact ih (i + 1) _ (by omega) (by simpa using h2) (set_eq h2 h3)
theorem toInt64S_ev (l : List Int) (hn : l.length ≤ 1048576) : Ev (fun k => laws_toInt64S.f k l) l := by
  unfold laws_toInt64S.f
  refine ev_pos (by omega) (ev_pos (by simp; omega) ?_)
  exact toInt64S_loop l hn l.length 0 _ (by omega) (by simp) (fun j hj => by omega)
theorem toTree_ev (l : List Int) (hn : l.length ≤ 1048576) : Ev (fun k => laws_toTree.f k l) l := by
  unfold laws_toTree.f
  exact Ev.bind (toInt64S_ev l hn) (Ev.now _)
theorem eqInt64S_loop (a : List Int) (hn : a.length ≤ 1048576) : ∀ (m i : Nat), i + m = a.length → Ev (fun k => laws_eqInt64S.l0 k a a (i : Int)) true := by
  intro m
  induction m with
  | zero =>
    intro i h1
    refine Ev.step (fun k => by rw [laws_eqInt64S.l0]) ?_
    refine ev_neg (by omega) ?_
    exact Ev.now _
  | succ m ih =>
    intro i h1
    refine Ev.step (fun k => by rw [laws_eqInt64S.l0]) ?_
    refine ev_pos (by omega) (ev_pos (by omega) (ev_pos (by omega) (ev_pos rfl ?_)))
    rw [w64s (by omega)]
    exact ih (i + 1) (by omega)
theorem eqInt64S_ev (a : List Int) (hn : a.length ≤ 1048576) : Ev (fun k => laws_eqInt64S.f k a a) true := by
  unfold laws_eqInt64S.f
  exact ev_pos rfl (eqInt64S_loop a hn a.length 0 (by omega))
theorem eqTree_ev (a : List Int) (hn : a.length ≤ 1048576) : Ev (fun k => laws_eqTree.f k a a) true := by
  unfold laws_eqTree.f
  exact Ev.bind (eqInt64S_ev a hn) (ev_pos rfl (Ev.now _))
def marks (m : Int) : Nat → List Int
  | 0 => []
  | n + 1 => m :: marks (m + 1) n
theorem marks_length : ∀ (n : Nat) (m : Int), (marks m n).length = n
  | 0, _ => rfl
  | n + 1, m => by simp [marks, marks_length n]
theorem marks_getD : ∀ (n : Nat) (m : Int) (j : Nat), j < n → (marks m n).getD j 0 = m + j
  | 0, _, j, h => by omega
  | n + 1, m, 0, _ => by simp [marks]
  | n + 1, m, j + 1, h => by
    have := marks_getD n (m + 1) j (by omega)
    simp only [marks, List.getD_cons_succ]
    omega
theorem markInt64S_loop (n : Nat) (m0 : Int) (h0 : 0 ≤ m0) (h1 : m0 ≤ 1048576) (hn : n ≤ 1048576) : ∀ (m i : Nat) (x : List Int), i + m = n → x.length = n → (∀ j, j < i → x.getD j 0 = m0 + j) → Ev (fun k => laws_markInt64S.l0 k x (m0 + i) (i : Int)) (m0 + n, marks m0 n) := by
  intro m
  induction m with
  | zero =>
    intro i x h2 h3 h4
    refine Ev.step (fun k => by rw [laws_markInt64S.l0]) ?_
    refine ev_neg (by omega) (ev_now ?_)
    have e : x = marks m0 n := ext_getD (by rw [marks_length, h3]) (fun j hj => by rw [marks_length] at hj; rw [h4 j (by omega), marks_getD n m0 j hj])
    rw [e, show i = n by omega]
  | succ m ih =>
    intro i x h2 h3 h4
    refine Ev.step (fun k => by rw [laws_markInt64S.l0]) ?_
    refine ev_pos (by omega) (ev_pos (by omega) ?_)
    rw [w64s (by omega), w64 (by omega) (by omega), show m0 + (i : Int) + 1 = m0 + ((i + 1 : Nat) : Int) by omega]
    refine ih (i + 1) _ (by omega) (by simpa using h3) (fun j hj => ?_)
    by_cases e : i = j
    · subst e
      rw [show ((i : Int)).toNat = i from rfl, get_set_eq (by omega)]
    · rw [show ((i : Int)).toNat = i from rfl, get_set_ne e]
      exact h4 j (by omega)
theorem markInt64S_ev (l : List Int) (m0 : Int) (h0 : 0 ≤ m0) (h1 : m0 ≤ 1048576) (hn : l.length ≤ 1048576) : Ev (fun k => laws_markInt64S.f k l m0) (m0 + l.length, marks m0 l.length) := by
  unfold laws_markInt64S.f
  have := markInt64S_loop l.length m0 h0 h1 hn l.length 0 l (by omega) rfl (fun j hj => by omega)
  simpa using this
theorem markTree_ev (l : List Int) (m0 : Int) (h0 : 0 ≤ m0) (h1 : m0 ≤ 1048576) (hn : l.length ≤ 1048576) : Ev (fun k => laws_markTree.f k l m0) (m0 + l.length, marks m0 l.length) := by
  unfold laws_markTree.f
  exact Ev.bind (markInt64S_ev l m0 h0 h1 hn) (Ev.now _)
theorem heldInt64S_loop (n : Nat) (m0 : Int) (h0 : 0 ≤ m0) (h1 : m0 ≤ 1048576) (hn : n ≤ 1048576) : ∀ (m i : Nat), i + m = n → Ev (fun k => laws_heldInt64S.l0 k (marks m0 n) (m0 + i) (i : Int)) (m0 + n) := by
  intro m
  induction m with
  | zero =>
    intro i h2
    refine Ev.step (fun k => by rw [laws_heldInt64S.l0]) ?_
    refine ev_neg (by rw [marks_length]; omega) (ev_now ?_)
    rw [show i = n by omega]
  | succ m ih =>
    intro i h2
    refine Ev.step (fun k => by rw [laws_heldInt64S.l0]) ?_
    refine ev_pos (by rw [marks_length]; omega) (ev_pos (by omega) (ev_pos (marks_getD n m0 i (by omega)) ?_))
    rw [w64s (by omega), w64 (by omega) (by omega), show m0 + (i : Int) + 1 = m0 + ((i + 1 : Nat) : Int) by omega]
    exact ih (i + 1) (by omega)
theorem heldInt64S_ev (n : Nat) (m0 : Int) (h0 : 0 ≤ m0) (h1 : m0 ≤ 1048576) (hn : n ≤ 1048576) : Ev (fun k => laws_heldInt64S.f k (marks m0 n) m0) (m0 + n) := by
  unfold laws_heldInt64S.f
  have := heldInt64S_loop n m0 h0 h1 hn n 0 (by omega)
  simpa using this
theorem szTree_eq (l : List Int) (a : Int) (h0 : 0 ≤ a) (h1 : a ≤ 1048576) (hl : l.length ≤ maxLen) : laws_szTree.f l a = some (if a < l.length then -1 else a - l.length) := by
  unfold maxLen at hl
  unfold laws_szTree.f laws_szInt64S.f
  rw [w64 (by omega) (by omega)]
  by_cases h : a < l.length
  · rw [if_pos (by omega), if_pos h]; rfl
  · rw [if_neg (by omega), if_neg h, Option.bind_some, if_neg (by omega)]
end Go.Proofs.Ytdhmoglkcfgikaa.E
namespace Go.Proofs.Ytdhmoglkcfgikaa.Tree
set_option linter.unusedVariables false
set_option linter.unusedSectionVars false

def nd (d : List Int) : Nat → Int
  | 0 => 1
  | i + 1 => nd d i + d.getD i 0 - 1

structure IsT (d : List Int) : Prop where
  pos : ∀ i, i < d.length → 0 < nd d i
  deg : ∀ i, i < d.length → 0 ≤ d.getD i 0
  fin : nd d d.length = 0

def skip (d : List Int) : Nat → Int → Nat → Nat
  | 0, _, v => v
  | f + 1, need, v => if need > 0 then skip d f (need + (d.getD v 0 - 1)) (v + 1) else v
def endM (d : List Int) (v : Nat) : Nat := skip d (d.length - v) 1 v

theorem IsT.len {d : List Int} (h : IsT d) : 0 < d.length := by
  rcases Nat.eq_zero_or_pos d.length with h0 | h0
  · have := h.fin
    rw [h0] at this
    simp [nd] at this
  · exact h0

theorem skip_spec {d : List Int} (h : IsT d) {v : Nat} (hv : v < d.length) : ∀ (f u : Nat), u + f = d.length → v ≤ u → (∀ j, v < j → j < u → nd d v ≤ nd d j) →
    (u = v ∨ nd d v - 1 ≤ nd d u) →
    v < skip d f (1 + nd d u - nd d v) u ∧ skip d f (1 + nd d u - nd d v) u ≤ d.length ∧ nd d (skip d f (1 + nd d u - nd d v) u) = nd d v - 1 ∧ ∀ j, v < j → j < skip d f (1 + nd d u - nd d v) u → nd d v ≤ nd d j := by
  intro f
  induction f with
  | zero =>
    intro u hf hvu hj hu
    have hn : u = d.length := by omega
    have h1 := h.fin
    have h2 := h.pos v hv
    subst hn
    simp only [skip]
    refine ⟨hv, Nat.le_refl _, ?_, hj⟩
    rcases hu with hu | hu
    · omega
    · omega
  | succ f ih =>
    intro u hf hvu hj hu
    have hlt : u < d.length := by omega
    simp only [skip]
    by_cases hn : 1 + nd d u - nd d v > 0
    · rw [if_pos hn]
      have e : 1 + nd d u - nd d v + (d.getD u 0 - 1) = 1 + nd d (u + 1) - nd d v := by simp only [nd]; omega
      rw [e]
      refine ih (u + 1) (by omega) (by omega) (fun j h1 h2 => ?_) (.inr ?_)
      · by_cases hju : j = u
        · subst hju; omega
        · exact hj j h1 (by omega)
      · have := h.deg u hlt
        simp only [nd]; omega
    · rw [if_neg hn]
      rcases hu with hu | hu
      · subst hu; omega
      · have hne : v ≠ u := by intro e; subst e; omega
        exact ⟨by omega, by omega, by omega, hj⟩

section
variable {d : List Int} (h : IsT d)
include h
theorem end_spec {v : Nat} (hv : v < d.length) : v < endM d v ∧ endM d v ≤ d.length ∧ nd d (endM d v) = nd d v - 1 ∧ ∀ j, v < j → j < endM d v → nd d v ≤ nd d j := by
  have := skip_spec h hv (d.length - v) v (by omega) (Nat.le_refl _) (fun j h1 h2 => by omega) (.inl rfl)
  have e : 1 + nd d v - nd d v = 1 := by omega
  rw [e] at this
  exact this
theorem end_gt {v : Nat} (hv : v < d.length) : v < endM d v := (end_spec h hv).1
theorem end_le {v : Nat} (hv : v < d.length) : endM d v ≤ d.length := (end_spec h hv).2.1
theorem end_nd {v : Nat} (hv : v < d.length) : nd d (endM d v) = nd d v - 1 := (end_spec h hv).2.2.1
theorem end_in {v j : Nat} (hv : v < d.length) (h1 : v < j) (h2 : j < endM d v) : nd d v ≤ nd d j := (end_spec h hv).2.2.2 j h1 h2
theorem end_unique {v e : Nat} (hv : v < d.length) (h1 : v < e) (h2 : nd d e < nd d v) (h3 : ∀ j, v < j → j < e → nd d v ≤ nd d j) : e = endM d v := by
  have ⟨a, b, c, k⟩ := end_spec h hv
  rcases Nat.lt_trichotomy e (endM d v) with hl | hl | hl
  · have := k e h1 hl; omega
  · exact hl
  · have := h3 _ a hl; omega
theorem end_root : endM d 0 = d.length := by
  refine (end_unique h h.len h.len ?_ (fun j h1 h2 => ?_)).symm
  · rw [h.fin]; simp [nd]
  · have := h.pos j h2; simp only [nd]; omega
theorem nd_le {i : Nat} (hi : i ≤ d.length) : nd d i ≤ d.length - i := by
  obtain ⟨k, hk⟩ : ∃ k, i + k = d.length := ⟨d.length - i, by omega⟩
  induction k generalizing i with
  | zero => have := h.fin; have e : i = d.length := by omega
            subst e; omega
  | succ k ih =>
    have := ih (i := i + 1) (by omega) (by omega)
    have h1 := h.deg i (by omega)
    simp only [nd] at this
    omega
theorem nd_nonneg {i : Nat} (hi : i ≤ d.length) : 0 ≤ nd d i := by
  rcases Nat.lt_or_ge i d.length with hl | hl
  · have := h.pos i hl; omega
  · have e : i = d.length := by omega
    have := h.fin
    subst e; omega
theorem deg_le {v : Nat} (hv : v < d.length) : d.getD v 0 < d.length - v := by
  have h1 := nd_le h (i := v + 1) (by omega)
  have h2 := h.pos v hv
  simp only [nd] at h1
  omega
theorem end_mono {u v : Nat} (hv : v < d.length) (h1 : v ≤ u) (h2 : u < endM d v) : endM d u ≤ endM d v := by
  rcases Nat.eq_or_lt_of_le h1 with e | hl
  · subst e; exact Nat.le_refl _
  · have hu : u < d.length := by have := end_le h hv; omega
    rcases Nat.lt_or_ge (endM d v) (endM d u) with hx | hx
    · have a := end_in h hu h2 hx
      have b := end_in h hv hl h2
      have c := end_nd h hv
      omega
    · exact hx
end

def kidsFrom (d : List Int) : Nat → Nat → List Nat
  | 0, _ => []
  | m + 1, c => c :: kidsFrom d m (endM d c)
def kidsM (d : List Int) (v : Nat) : List Nat := kidsFrom d (d.getD v 0).toNat (v + 1)
theorem kidsFrom_length (d : List Int) : ∀ (m c : Nat), (kidsFrom d m c).length = m
  | 0, _ => rfl
  | m + 1, c => by simp [kidsFrom, kidsFrom_length d m]

inductive Run (d : List Int) : Nat → Nat → Nat → Prop
  | nil (c : Nat) : Run d 0 c c
  | cons {m c e : Nat} : c < d.length → Run d m (endM d c) e → Run d (m + 1) c e

section
variable {d : List Int} (h : IsT d)
include h
theorem run_of {v : Nat} (hv : v < d.length) : ∀ (m c : Nat), v < c → c ≤ d.length → nd d c = nd d v - 1 + m → (∀ j, v < j → j < c → nd d v ≤ nd d j) → Run d m c (endM d v)
  | 0, c, h1, h2, h3, h4 => by
    have e := end_unique h hv h1 (by omega) h4
    rw [← e]
    exact .nil c
  | m + 1, c, h1, h2, h3, h4 => by
    have hc : c < d.length := by
      rcases Nat.lt_or_ge c d.length with hl | hl
      · exact hl
      · have e : c = d.length := by omega
        have := h.fin
        have h0 := h.pos v hv
        subst e; omega
    have a := end_spec h hc
    refine .cons hc (run_of hv m _ (by omega) a.2.1 (by omega) (fun j hj1 hj2 => ?_))
    rcases Nat.lt_trichotomy j c with hl | hl | hl
    · exact h4 j hj1 hl
    · subst hl; omega
    · have := a.2.2.2 j hl hj2; omega
theorem run_kids {v : Nat} (hv : v < d.length) : Run d (d.getD v 0).toNat (v + 1) (endM d v) := by
  have h0 := h.deg v hv
  refine run_of h hv _ _ (by omega) (by omega) ?_ (fun j h1 h2 => by omega)
  simp only [nd]; omega
theorem run_bd {m c e : Nat} (r : Run d m c e) : c ≤ e := by
  induction r with
  | nil c => exact Nat.le_refl _
  | cons hc _ ih => have := end_gt h hc; omega
theorem run_mem {m c e : Nat} (r : Run d m c e) : ∀ x ∈ kidsFrom d m c, c ≤ x ∧ x < d.length ∧ x < e ∧ endM d x ≤ e := by
  induction r with
  | nil c => intro x hx; simp [kidsFrom] at hx
  | @cons m c e hc r ih =>
    intro x hx
    have h1 := run_bd h r
    have h2 := end_gt h hc
    simp only [kidsFrom, List.mem_cons] at hx
    rcases hx with rfl | hx
    · exact ⟨Nat.le_refl _, hc, by omega, h1⟩
    · have := ih x hx
      exact ⟨by omega, this.2.1, this.2.2.1, this.2.2.2⟩
end
theorem run_cover {d : List Int} {m c e : Nat} (r : Run d m c e) : ∀ y, c ≤ y → y < e → ∃ x ∈ kidsFrom d m c, x ≤ y ∧ y < endM d x := by
  induction r with
  | nil c => intro y h1 h2; omega
  | @cons m c e hc r ih =>
    intro y h1 h2
    by_cases hy : y < endM d c
    · exact ⟨c, by simp [kidsFrom], h1, hy⟩
    · obtain ⟨x, hx, h3⟩ := ih y (by omega) h2
      exact ⟨x, by simp [kidsFrom, hx], h3⟩
section
variable {d : List Int} (h : IsT d)
include h
theorem run_apart {m c e : Nat} (r : Run d m c e) : ∀ x ∈ kidsFrom d m c, ∀ y ∈ kidsFrom d m c, x < y → endM d x ≤ y := by
  induction r with
  | nil c => intro x hx; simp [kidsFrom] at hx
  | @cons m c e hc r ih =>
    intro x hx y hy hlt
    have hm := run_mem h r
    have hg := end_gt h hc
    simp only [kidsFrom, List.mem_cons] at hx hy
    rcases hx with rfl | hx
    · rcases hy with rfl | hy
      · omega
      · exact (hm y hy).1
    · rcases hy with rfl | hy
      · have := (hm x hx).1; omega
      · exact ih x hx y hy hlt
theorem kid_mem {v c : Nat} (hv : v < d.length) (hc : c ∈ kidsM d v) : v < c ∧ c < d.length ∧ c < endM d v ∧ endM d c ≤ endM d v := by
  have := run_mem h (run_kids h hv) c hc
  exact ⟨by omega, this.2.1, this.2.2.1, this.2.2.2⟩
end

def parUp (d : List Int) (c : Nat) : Nat → Nat
  | 0 => 0
  | v + 1 => if c < endM d v then v else parUp d c v
def par (d : List Int) (c : Nat) : Nat := parUp d c c
theorem parUp_spec {d : List Int} {c : Nat} : ∀ (k : Nat), (∃ v, v < k ∧ c < endM d v) → parUp d c k < k ∧ c < endM d (parUp d c k) ∧ ∀ v, parUp d c k < v → v < k → endM d v ≤ c
  | 0, ⟨v, hv, _⟩ => by omega
  | k + 1, ⟨v, hv, hc⟩ => by
    simp only [parUp]
    by_cases hk : c < endM d k
    · rw [if_pos hk]
      exact ⟨by omega, hk, fun v h1 h2 => by omega⟩
    · rw [if_neg hk]
      have hvk : v < k := by
        rcases Nat.lt_or_ge v k with hl | hl
        · exact hl
        · have e : v = k := by omega
          subst e; omega
      have ih := parUp_spec k ⟨v, hvk, hc⟩
      refine ⟨by omega, ih.2.1, fun u h1 h2 => ?_⟩
      rcases Nat.lt_or_ge u k with hl | hl
      · exact ih.2.2 u h1 hl
      · have e : u = k := by omega
        subst e; omega
section
variable {d : List Int} (h : IsT d)
include h
theorem par_spec {c : Nat} (h0 : 0 < c) (hc : c < d.length) : par d c < c ∧ c < endM d (par d c) ∧ ∀ v, par d c < v → v < c → endM d v ≤ c :=
  parUp_spec c ⟨0, h0, by rw [end_root h]; exact hc⟩
theorem par_lt {c : Nat} (h0 : 0 < c) (hc : c < d.length) : par d c < c := (par_spec h h0 hc).1
theorem kid_par {v c : Nat} (hv : v < d.length) (hc : c ∈ kidsM d v) : par d c = v := by
  have hk := kid_mem h hv hc
  have hp := par_spec h (c := c) (by omega) hk.2.1
  rcases Nat.lt_trichotomy (par d c) v with hl | hl | hl
  · have := hp.2.2 v hl hk.1; omega
  · exact hl
  · exfalso
    have hpl : par d c < d.length := by omega
    obtain ⟨x, hx, h1, h2⟩ := run_cover (run_kids h hv) (par d c) (by omega) (by omega)
    have h3 : x < c := by omega
    have h4 := run_apart h (run_kids h hv) x hx c hc h3
    have hxm := kid_mem h hv hx
    have h5 := end_mono h hxm.2.1 h1 h2
    omega
theorem par_kid {c : Nat} (h0 : 0 < c) (hc : c < d.length) : c ∈ kidsM d (par d c) := by
  have hp := par_spec h h0 hc
  have hv : par d c < d.length := by omega
  obtain ⟨x, hx, h1, h2⟩ := run_cover (run_kids h hv) c (by omega) hp.2.1
  rcases Nat.eq_or_lt_of_le h1 with e | hl
  · subst e; exact hx
  · have hxm := kid_mem h hv hx
    have := hp.2.2 x hxm.1 hl
    omega
theorem par_below {v u : Nat} (hv : v < d.length) (h1 : v < u) (h2 : u < endM d v) : v ≤ par d u ∧ par d u < u := by
  have hu : u < d.length := by have := end_le h hv; omega
  have hp := par_spec h (c := u) (by omega) hu
  refine ⟨?_, hp.1⟩
  rcases Nat.lt_or_ge (par d u) v with hl | hl
  · have := hp.2.2 v hl h1; omega
  · exact hl
end

def depthF (d : List Int) : Nat → Nat → Nat
  | 0, _ => 0
  | f + 1, c => if c = 0 then 0 else depthF d f (par d c) + 1
def depth (d : List Int) (c : Nat) : Nat := depthF d c c
theorem depthF_stable {d : List Int} (h : IsT d) : ∀ (f g c : Nat), c < d.length → c ≤ f → c ≤ g → depthF d f c = depthF d g c
  | 0, g, c, hc, h1, h2 => by
    have e : c = 0 := by omega
    subst e
    cases g <;> simp [depthF]
  | f + 1, 0, c, hc, h1, h2 => by
    have e : c = 0 := by omega
    subst e
    simp [depthF]
  | f + 1, g + 1, c, hc, h1, h2 => by
    simp only [depthF]
    split
    · rfl
    · have := par_lt h (c := c) (by omega) hc
      rw [depthF_stable h f g (par d c) (by omega) (by omega) (by omega)]
theorem depth_zero (d : List Int) : depth d 0 = 0 := rfl
theorem depth_succ {d : List Int} (h : IsT d) {c : Nat} (h0 : 0 < c) (hc : c < d.length) : depth d c = depth d (par d c) + 1 := by
  have hp := par_lt h h0 hc
  obtain ⟨k, rfl⟩ : ∃ k, c = k + 1 := ⟨c - 1, by omega⟩
  unfold depth
  simp only [depthF]
  rw [if_neg (by omega), depthF_stable h k (par d (k + 1)) (par d (k + 1)) (by omega) (by omega) (Nat.le_refl _)]
theorem depth_le {d : List Int} (h : IsT d) : ∀ (n c : Nat), c ≤ n → c < d.length → depth d c ≤ c
  | n, c, hn, hc => by
    rcases Nat.eq_zero_or_pos c with h0 | h0
    · subst h0; simp [depth_zero]
    · have hp := par_lt h h0 hc
      cases n with
      | zero => omega
      | succ n =>
        have := depth_le h n (par d c) (by omega) (by omega)
        rw [depth_succ h h0 hc]; omega
def parL (d : List Int) : List Int := (List.range d.length).map fun c => if c = 0 then -1 else (par d c : Int)
def depL (d : List Int) : List Int := (List.range d.length).map fun c => (depth d c : Int)
def below (d : List Int) (v w : Nat) : Prop := w ≤ v ∧ v < endM d w
instance (d : List Int) (v w : Nat) : Decidable (below d v w) := inferInstanceAs (Decidable (_ ∧ _))
def meetF (d : List Int) (w : Nat) : Nat → Nat → Nat
  | 0, v => v
  | f + 1, v => if below d w v then v else meetF d w f (par d v)
def meetM (d : List Int) (v w : Nat) : Nat := meetF d w v v
section
variable {d : List Int} (h : IsT d)
include h
theorem below_root {v : Nat} (hv : v < d.length) : below d v 0 := ⟨Nat.zero_le _, by rw [end_root h]; exact hv⟩
theorem below_self {v : Nat} (hv : v < d.length) : below d v v := ⟨Nat.le_refl _, end_gt h hv⟩
theorem below_trans {u v w : Nat} (hw : w < d.length) (h1 : below d u v) (h2 : below d v w) : below d u w :=
  ⟨Nat.le_trans h2.1 h1.1, Nat.lt_of_lt_of_le h1.2 (end_mono h hw h2.1 h2.2)⟩
theorem below_par {v : Nat} (h0 : 0 < v) (hv : v < d.length) : below d v (par d v) := by
  have := par_spec h h0 hv
  exact ⟨by omega, this.2.1⟩
theorem par_in {v w : Nat} (hw : w < d.length) (h1 : below d v w) (hne : v ≠ w) : below d (par d v) w := by
  have := par_below h hw (by have := h1.1; omega) h1.2
  exact ⟨this.1, by have := h1.2; omega⟩
theorem meetF_spec {w : Nat} (hw : w < d.length) : ∀ (f v : Nat), v ≤ f → v < d.length → below d w (meetF d w f v) ∧ below d v (meetF d w f v) ∧ meetF d w f v < d.length
  | 0, v, hf, hv => by
    have e : v = 0 := by omega
    subst e
    exact ⟨below_root h hw, below_root h hv, hv⟩
  | f + 1, v, hf, hv => by
    simp only [meetF]
    by_cases hb : below d w v
    · rw [if_pos hb]
      exact ⟨hb, below_self h hv, hv⟩
    · rw [if_neg hb]
      have h0 : 0 < v := by
        rcases Nat.eq_zero_or_pos v with e | e
        · subst e; exact absurd (below_root h hw) hb
        · exact e
      have hp := par_lt h h0 hv
      have ih := meetF_spec hw f (par d v) (by omega) (by omega)
      exact ⟨ih.1, below_trans h ih.2.2 (below_par h h0 hv) ih.2.1, ih.2.2⟩
theorem meet_spec {v w : Nat} (hv : v < d.length) (hw : w < d.length) : below d w (meetM d v w) ∧ below d v (meetM d v w) ∧ meetM d v w < d.length := meetF_spec h hw v v (Nat.le_refl _) hv
end
end Go.Proofs.Ytdhmoglkcfgikaa.Tree
namespace Go.Proofs.Ytdhmoglkcfgikaa.Tree
set_option linter.unusedVariables false
set_option linter.unusedSectionVars false

section
variable {d : List Int} (h : IsT d)
include h
theorem meet_self {v : Nat} (hv : v < d.length) : meetM d v v = v := by
  unfold meetM
  rcases Nat.eq_zero_or_pos v with e | e
  · subst e; rfl
  · obtain ⟨u, rfl⟩ : ∃ u, v = u + 1 := ⟨v - 1, by omega⟩
    simp only [meetF]
    rw [if_pos (below_self h hv)]
end
def dist (d : List Int) (v w : Nat) : Int := (depth d v : Int) + (depth d w : Int) - 2 * (depth d (meetM d v w) : Int)
def rowM (d : List Int) (v : Nat) : List Int := (List.range d.length).map fun w => dist d v w
def distL (d : List Int) : List (List Int) := (List.range d.length).map fun v => rowM d v
theorem rowM_length (d : List Int) (v : Nat) : (rowM d v).length = d.length := by simp [rowM]
theorem distL_length (d : List Int) : (distL d).length = d.length := by simp [distL]
theorem dist_self {d : List Int} (h : IsT d) {v : Nat} (hv : v < d.length) : dist d v v = 0 := by
  unfold dist
  rw [meet_self h hv]; omega
theorem dist_bd {d : List Int} (h : IsT d) (hn : d.length ≤ 1000) {v w : Nat} (hv : v < d.length) (hw : w < d.length) : -2000 ≤ dist d v w ∧ dist d v w ≤ 2000 := by
  have a := meet_spec h hv hw
  have b1 := depth_le h _ v (Nat.le_refl _) hv
  have b2 := depth_le h _ w (Nat.le_refl _) hw
  have b3 := depth_le h _ (meetM d v w) (Nat.le_refl _) a.2.2
  unfold dist
  omega
end Go.Proofs.Ytdhmoglkcfgikaa.Tree
namespace Go.Proofs.Ytdhmoglkcfgikaa.E
set_option linter.unusedVariables false
set_option linter.unusedSectionVars false
open Go.RowKit Go.Proofs.YtdhmoglkcfgikaaW.PrintWords Go.Proofs.Ytdhmoglkcfgikaa.Base Go.Proofs.Ytdhmoglkcfgikaa.Tree

theorem l01In_ev (a b c : Int) : spec_l01In.f a b c = some (decide (b ≤ a) && decide (a ≤ c)) := by
  unfold spec_l01In.f
  by_cases h : a ≥ b
  · rw [if_pos h]; simp [show b ≤ a from h]
  · rw [if_neg h]; simp [show ¬ b ≤ a from h]
theorem l01N_ev (d : List Int) : spec_l01N.f d = some (d.length : Int) := rfl

def treeGo (d : List Int) (top : Int) : Nat → Nat → Int → Bool
  | 0, _, need => need == 0
  | m + 1, i, need => if need = 0 then false else if d.getD i 0 < 0 ∨ top < d.getD i 0 then false else treeGo d top m (i + 1) (need + d.getD i 0 - 1)
def isTreeM (d : List Int) : Bool := if d.length < 1 ∨ 24 < d.length then false else treeGo d 23 d.length 0 1
theorem treeGo_far (d : List Int) (top : Int) : ∀ (m i : Nat) (need : Int), (m : Int) < need → treeGo d top m i need = false
  | 0, i, need, h => by
    have hne : need ≠ 0 := by omega
    simp [treeGo, hne]
  | m + 1, i, need, h => by
    simp only [treeGo]
    rw [if_neg (by omega)]
    split
    · rfl
    · exact treeGo_far d top m (i + 1) _ (by omega)
theorem treeGo_top (d : List Int) : ∀ (m i : Nat) (need : Int), m ≤ 24 → 0 ≤ need → treeGo d 24 m i need = treeGo d 23 m i need
  | 0, i, need, _, _ => rfl
  | m + 1, i, need, h, h0 => by
    simp only [treeGo]
    by_cases hn : need = 0
    · rw [if_pos hn, if_pos hn]
    · rw [if_neg hn, if_neg hn]
      by_cases h1 : d.getD i 0 < 0 ∨ 24 < d.getD i 0
      · rw [if_pos h1, if_pos (by omega)]
      · rw [if_neg h1]
        by_cases h2 : d.getD i 0 = 24
        · rw [if_pos (by omega)]
          exact treeGo_far d 24 m (i + 1) _ (by omega)
        · rw [if_neg (by omega)]
          exact treeGo_top d m (i + 1) _ (by omega) (by omega)
theorem treeGo_sound (d : List Int) (top : Int) : ∀ (m i : Nat), i + m = d.length → 0 ≤ nd d i → treeGo d top m i (nd d i) = true → (∀ j, i ≤ j → j < d.length → 0 < nd d j ∧ 0 ≤ d.getD j 0) ∧ nd d d.length = 0
  | 0, i, h, h0, ht => by
    simp only [treeGo, beq_iff_eq] at ht
    have e : i = d.length := by omega
    subst e
    exact ⟨fun j h1 h2 => by omega, ht⟩
  | m + 1, i, h, h0, ht => by
    simp only [treeGo] at ht
    split at ht
    · cases ht
    · split at ht
      · cases ht
      · have e : nd d i + d.getD i 0 - 1 = nd d (i + 1) := rfl
        rw [e] at ht
        have ih := treeGo_sound d top m (i + 1) (by omega) (by rw [← e]; omega) ht
        refine ⟨fun j h1 h2 => ?_, ih.2⟩
        by_cases hj : j = i
        · subst hj; exact ⟨by omega, by omega⟩
        · exact ih.1 j (by omega) h2
theorem isTreeM_sound {d : List Int} (h : isTreeM d = true) : IsT d ∧ d.length ≤ 24 := by
  unfold isTreeM at h
  split at h
  · cases h
  · have := treeGo_sound d 23 d.length 0 (by omega) (by simp [nd]) (by simpa [nd] using h)
    exact ⟨⟨fun i hi => (this.1 i (Nat.zero_le _) hi).1, fun i hi => (this.1 i (Nat.zero_le _) hi).2, this.2⟩, by omega⟩
theorem impl_isTree_loop (d : List Int) (hn : d.length ≤ 24) : ∀ (m i : Nat) (need : Int), i + m = d.length → 0 ≤ need → need ≤ 1 + 24 * i → Ev (fun k => impl_isTree.l0 k need d (d.length : Int) (i : Int)) (treeGo d 23 m i need)
  | 0, i, need, h, h0, h1 => by
    refine Ev.step (fun k => by rw [impl_isTree.l0]) ?_
    exact ev_neg (by omega) (Ev.now _)
  | m + 1, i, need, h, h0, h1 => by
    refine Ev.step (fun k => by rw [impl_isTree.l0]) ?_
    refine ev_pos (by omega) (ev_pos (by omega) (ev_pos (by omega) ?_))
    simp only [treeGo, rd_nat]
    refine ev_ite (fun hx => ?_) (fun hx => ?_)
    · rw [if_pos hx]; exact Ev.now _
    · rw [if_neg hx]
      refine ev_ite (fun hy => ?_) (fun hy => ?_)
      · rw [if_pos (.inl hy)]; exact Ev.now _
      · refine ev_ite (fun hz => ?_) (fun hz => ?_)
        · rw [if_pos (.inr (by omega))]; exact Ev.now _
        · rw [if_neg (by omega), w64s (by omega), w64 (x := d.getD i 0 - 1) (by omega) (by omega), w64 (by omega) (by omega), show need + (d.getD i 0 - 1) = need + d.getD i 0 - 1 by omega]
          exact impl_isTree_loop d hn m (i + 1) _ (by omega) (by omega) (by omega)
theorem impl_isTree_ev (d : List Int) : Ev (fun k => impl_isTree.f k d) (isTreeM d) := by
  unfold impl_isTree.f isTreeM
  refine ev_ite (fun h => ?_) (fun h => ?_)
  · rw [if_pos (.inl (by omega))]
    refine Ev.step (fun k => by rw [impl_isTree.j0]) ?_
    exact ev_pos rfl (Ev.now _)
  · by_cases h2 : 24 < d.length
    · rw [if_pos (.inr h2), decide_eq_true (by omega)]
      refine Ev.step (fun k => by rw [impl_isTree.j0]) ?_
      exact ev_pos rfl (Ev.now _)
    · rw [if_neg (by omega), decide_eq_false (by omega)]
      refine Ev.step (fun k => by rw [impl_isTree.j0]) ?_
      exact ev_neg (by decide) (impl_isTree_loop d (by omega) d.length 0 1 (by omega) (by omega) (by omega))
theorem impl_IsTree_ev (d : List Int) : Ev (fun k => impl_IsTree.f k d) (isTreeM d) := by
  unfold impl_IsTree.f
  exact Ev.bind (impl_isTree_ev d) (Ev.now _)
theorem spec_l01Is_loop (d : List Int) (hn : d.length ≤ 24) : ∀ (m i : Nat) (need : Int), i + m = d.length → 0 ≤ need → need ≤ 1 + 24 * i → Ev (fun k => spec_l01Is.l0 k need (i : Int) d) (treeGo d 24 m i need)
  | 0, i, need, h, h0, h1 => by
    refine Ev.step (fun k => by rw [spec_l01Is.l0]) ?_
    exact ev_neg (by omega) (Ev.now _)
  | m + 1, i, need, h, h0, h1 => by
    refine Ev.step (fun k => by rw [spec_l01Is.l0]) ?_
    refine ev_pos (by omega) ?_
    simp only [treeGo, rd_nat, l01In_ev]
    refine ev_ite (fun hx => ?_) (fun hx => ?_)
    · rw [if_pos hx]; exact Ev.now _
    · rw [if_neg hx]
      refine ev_pos (by omega) (ev_some ?_)
      refine ev_ite (fun hy => ?_) (fun hy => ?_)
      · rw [Bool.and_eq_true, decide_eq_true_eq, decide_eq_true_eq] at hy
        rw [if_neg (by omega), w64s (by omega), w64 (x := need - 1) (by omega) (by omega), w64 (by omega) (by omega), show need - 1 + d.getD i 0 = need + d.getD i 0 - 1 by omega]
        exact spec_l01Is_loop d hn m (i + 1) _ (by omega) (by omega) (by omega)
      · rw [Bool.and_eq_true, decide_eq_true_eq, decide_eq_true_eq] at hy
        rw [if_pos (by omega)]; exact Ev.now _
theorem spec_l01Is_ev (d : List Int) (hd : d.length ≤ 1048576) : Ev (fun k => spec_l01Is.f k d) (isTreeM d) := by
  unfold spec_l01Is.f isTreeM
  simp only [l01N_ev, l01In_ev]
  refine ev_some (ev_some ?_)
  refine ev_ite (fun h => ?_) (fun h => ?_)
  · rw [Bool.and_eq_true, decide_eq_true_eq, decide_eq_true_eq] at h
    rw [if_neg (by omega), ← treeGo_top d d.length 0 1 (by omega) (by omega)]
    exact spec_l01Is_loop d (by omega) d.length 0 1 (by omega) (by omega) (by omega)
  · rw [Bool.and_eq_true, decide_eq_true_eq, decide_eq_true_eq] at h
    rw [if_pos (by omega)]; exact Ev.now _

section
variable {d : List Int} (h : IsT d) (hn : d.length ≤ 1000)
include h hn
theorem impl_endOf_loop {v : Nat} (hv : v < d.length) : ∀ (f u : Nat), u + f = d.length → v ≤ u → Ev (fun k => impl_endOf.l0 k d (u : Int) (1 + nd d u - nd d v)) (skip d f (1 + nd d u - nd d v) u : Int) := by
  have b : ∀ u, u ≤ d.length → 0 ≤ nd d u ∧ nd d u ≤ 1000 := fun u hu => ⟨nd_nonneg h hu, by have := nd_le h hu; omega⟩
  intro f
  induction f with
  | zero =>
    intro u hf hu
    have e : u = d.length := by omega
    have h1 := h.fin
    have h2 := h.pos v hv
    refine Ev.step (fun k => by rw [impl_endOf.l0]) ?_
    refine ev_neg (by subst e; omega) (ev_now ?_)
    simp [skip]
  | succ f ih =>
    intro u hf hu
    have b1 := b u (by omega)
    have b2 := b v (by omega)
    have b3 := b (u + 1) (by omega)
    have e : 1 + nd d u - nd d v + (d.getD u 0 - 1) = 1 + nd d (u + 1) - nd d v := by simp only [nd]; omega
    have e2 : nd d (u + 1) = nd d u + d.getD u 0 - 1 := rfl
    refine Ev.step (fun k => by rw [impl_endOf.l0]) ?_
    simp only [skip, rd_nat]
    refine ev_ite (fun hx => ?_) (fun hx => ?_)
    · rw [if_pos hx]
      refine ev_pos (by omega) (ev_pos (by omega) ?_)
      rw [w64s (by omega), w64 (x := d.getD u 0 - 1) (by omega) (by omega), w64 (by omega) (by omega), e]
      exact ih (u + 1) (by omega) (by omega)
    · rw [if_neg hx]; exact Ev.now _
theorem impl_endOf_ev {v : Nat} (hv : v < d.length) : Ev (fun k => impl_endOf.f k d (v : Int)) (endM d v : Int) := by
  have := impl_endOf_loop h hn hv (d.length - v) v (by omega) (Nat.le_refl _)
  rw [show 1 + nd d v - nd d v = 1 by omega] at this
  exact this
theorem spec_l01End_loop {v : Nat} (hv : v < d.length) : ∀ (f u : Nat), u + f = d.length → v ≤ u → Ev (fun k => spec_l01End.l0 k (u : Int) (1 + nd d u - nd d v) d) (skip d f (1 + nd d u - nd d v) u : Int) := by
  have b : ∀ u, u ≤ d.length → 0 ≤ nd d u ∧ nd d u ≤ 1000 := fun u hu => ⟨nd_nonneg h hu, by have := nd_le h hu; omega⟩
  intro f
  induction f with
  | zero =>
    intro u hf hu
    have e : u = d.length := by omega
    have h1 := h.fin
    have h2 := h.pos v hv
    refine Ev.step (fun k => by rw [spec_l01End.l0]) ?_
    refine ev_neg (by subst e; omega) (ev_now ?_)
    simp [skip]
  | succ f ih =>
    intro u hf hu
    have b1 := b u (by omega)
    have b2 := b v (by omega)
    have b3 := b (u + 1) (by omega)
    have e : 1 + nd d u - nd d v - 1 + d.getD u 0 = 1 + nd d (u + 1) - nd d v := by simp only [nd]; omega
    have e1 : 1 + nd d u - nd d v + (d.getD u 0 - 1) = 1 + nd d (u + 1) - nd d v := by simp only [nd]; omega
    have e2 : nd d (u + 1) = nd d u + d.getD u 0 - 1 := rfl
    refine Ev.step (fun k => by rw [spec_l01End.l0]) ?_
    simp only [skip, rd_nat]
    refine ev_ite (fun hx => ?_) (fun hx => ?_)
    · rw [if_pos hx]
      refine ev_pos (by omega) (ev_pos (by omega) ?_)
      rw [w64s (by omega), w64 (x := 1 + nd d u - nd d v - 1) (by omega) (by omega), w64 (by omega) (by omega), e, e1]
      exact ih (u + 1) (by omega) (by omega)
    · rw [if_neg hx]; exact Ev.now _
theorem spec_l01End_ev {v : Nat} (hv : v < d.length) : Ev (fun k => spec_l01End.f k d (v : Int)) (endM d v : Int) := by
  have := spec_l01End_loop h hn hv (d.length - v) v (by omega) (Nat.le_refl _)
  rw [show 1 + nd d v - nd d v = 1 by omega] at this
  exact this
end
def castL (l : List Nat) : List Int := List.map (fun x : Nat => ((x : Nat) : Int)) l
theorem castL_length (l : List Nat) : (castL l).length = l.length := by simp [castL]
theorem castL_getD (l : List Nat) (j : Nat) (h : j < l.length) : (castL l).getD j 0 = (l[j] : Int) := by
  simp [castL, List.getD_eq_getElem?_getD, h]
theorem kids_few {d : List Int} (h : IsT d) {v : Nat} (hv : v < d.length) : (kidsM d v).length < d.length := by
  have h1 := deg_le h hv
  have h2 := h.deg v hv
  unfold kidsM
  rw [kidsFrom_length]
  omega
section
variable {d : List Int} (h : IsT d) (hn : d.length ≤ 1000)
include h hn
theorem impl_kidsOf_loop {n m c e : Nat} (r : Run d m c e) (hc : c < 9223372036854775807) : ∀ (acc : List Int) (j : Nat), j + m = n → n ≤ 1000 → acc.length + m ≤ 1000 → Ev (fun k => impl_kidsOf.l0 k d acc (c : Int) (n : Int) (j : Int)) (acc ++ castL (kidsFrom d m c)) := by
  induction r with
  | nil c =>
    intro acc j h1 h2 h3
    refine Ev.step (fun k => by rw [impl_kidsOf.l0]) ?_
    exact ev_neg (by omega) (ev_now (by simp [kidsFrom, castL]))
  | @cons m c e hlt r ih =>
    intro acc j h1 h2 h3
    refine Ev.step (fun k => by rw [impl_kidsOf.l0]) ?_
    refine ev_pos (by omega) (ev_pos (by omega) (Ev.bind (impl_endOf_ev h hn hlt) ?_))
    rw [w64s (by omega)]
    have hle := end_le h hlt
    have := ih (by omega) (acc ++ [(c : Int)]) (j + 1) (by omega) h2 (by simp; omega)
    simpa [kidsFrom, castL] using this
theorem impl_kidsOf_ev {v : Nat} (hv : v < d.length) : Ev (fun k => impl_kidsOf.f k d (v : Int)) (castL (kidsM d v)) := by
  have h0 := h.deg v hv
  have h1 := deg_le h hv
  unfold impl_kidsOf.f
  refine ev_pos (by omega) (ev_pos (by omega) ?_)
  rw [w64s (by omega), rd_nat]
  have := impl_kidsOf_loop h hn (n := (d.getD v 0).toNat) (run_kids h hv) (by omega) [] 0 (by omega) (by omega) (by simp only [List.length_nil]; omega)
  rw [show (((d.getD v 0).toNat : Nat) : Int) = d.getD v 0 by omega] at this
  simpa [kidsM] using this
theorem spec_l01Children_loop {m c e : Nat} (r : Run d m c e) (hc : c < 9223372036854775807) : ∀ (acc : List Int), m ≤ 1000 → acc.length + m ≤ 1000 → Ev (fun k => spec_l01Children.l0 k acc (c : Int) (m : Int) d) (acc ++ castL (kidsFrom d m c)) := by
  induction r with
  | nil c =>
    intro acc h2 h3
    refine Ev.step (fun k => by rw [spec_l01Children.l0]) ?_
    exact ev_neg (by omega) (ev_now (by simp [kidsFrom, castL]))
  | @cons m c e hlt r ih =>
    intro acc h2 h3
    refine Ev.step (fun k => by rw [spec_l01Children.l0]) ?_
    refine ev_pos (by omega) (ev_pos (by omega) (Ev.bind (spec_l01End_ev h hn hlt) ?_))
    rw [w64p (by omega)]
    have hle := end_le h hlt
    have := ih (by omega) (acc ++ [(c : Int)]) (by omega) (by simp; omega)
    simpa [kidsFrom, castL] using this
theorem spec_l01Children_ev {v : Nat} (hv : v < d.length) : Ev (fun k => spec_l01Children.f k d (v : Int)) (castL (kidsM d v)) := by
  have h0 := h.deg v hv
  have h1 := deg_le h hv
  unfold spec_l01Children.f
  refine ev_pos (by omega) (ev_pos (by omega) ?_)
  rw [w64s (by omega), rd_nat]
  have := spec_l01Children_loop h hn (run_kids h hv) (by omega) [] (by omega) (by simp only [List.length_nil]; omega)
  rw [show (((d.getD v 0).toNat : Nat) : Int) = d.getD v 0 by omega] at this
  simpa [kidsM] using this
end
end Go.Proofs.Ytdhmoglkcfgikaa.E
namespace Go.Proofs.Ytdhmoglkcfgikaa.E
set_option linter.unusedVariables false
set_option linter.unusedSectionVars false
open Go.RowKit Go.Proofs.YtdhmoglkcfgikaaW.PrintWords Go.Proofs.Ytdhmoglkcfgikaa.Base Go.Proofs.Ytdhmoglkcfgikaa.Tree

structure ParInv (d : List Int) (e : Nat → Int) (v : Nat) (S : List Nat) (out : List Int) : Prop where
  len : out.length = d.length
  get : ∀ c, c < d.length → out.getD c 0 = if 0 < c ∧ (par d c < v ∨ c ∈ S) then (par d c : Int) else e c
theorem ParInv.step {d : List Int} (h : IsT d) {e : Nat → Int} {v : Nat} (hv : v < d.length) {S : List Nat} {out : List Int} {c : Nat} (hc : c ∈ kidsM d v) (hi : ParInv d e v S out) : ParInv d e v (S ++ [c]) (out.set c (v : Int)) := by
  have hk := kid_mem h hv hc
  refine ⟨by rw [List.length_set, hi.len], fun x hx => ?_⟩
  by_cases hxc : c = x
  · subst hxc
    rw [get_set_eq (by rw [hi.len]; exact hx), if_pos ⟨by omega, .inr (by simp)⟩, kid_par h hv hc]
  · rw [get_set_ne hxc, hi.get x hx]
    have : (x ∈ S ++ [c]) = (x ∈ S) := by simp [Ne.symm hxc]
    simp only [this]
theorem ParInv.next {d : List Int} (h : IsT d) {e : Nat → Int} {v : Nat} (hv : v < d.length) {out : List Int} (hi : ParInv d e v (kidsM d v) out) : ParInv d e (v + 1) [] out := by
  refine ⟨hi.len, fun x hx => ?_⟩
  rw [hi.get x hx]
  by_cases h0 : 0 < x
  · have : (par d x < v ∨ x ∈ kidsM d v) ↔ par d x < v + 1 := by
      constructor
      · rintro (hl | hm)
        · omega
        · rw [kid_par h hv hm]; omega
      · intro hl
        by_cases hq : par d x = v
        · exact .inr (hq ▸ par_kid h h0 hx)
        · exact .inl (by omega)
    simp only [h0, true_and, this, List.not_mem_nil, or_false]
  · simp [h0]
theorem ParInv.done {d : List Int} (h : IsT d) {e : Nat → Int} {out : List Int} (he : e 0 = -1) (hi : ParInv d e d.length [] out) : out = parL d := by
  refine ext_getD (by simp [parL, hi.len]) (fun c hc => ?_)
  have hc' : c < d.length := by simpa [parL] using hc
  rw [hi.get c hc', parL, getD_map_range hc']
  rcases Nat.eq_zero_or_pos c with h0 | h0
  · subst h0; simp [he]
  · have := par_lt h h0 hc'
    rw [if_pos ⟨h0, .inl (by omega)⟩, if_neg (by omega)]

section
variable {d : List Int} (h : IsT d) (hn : d.length ≤ 1000)
include h hn
theorem impl_parents_in {e : Nat → Int} {v : Nat} (hv : v < d.length) (n : Int) (r : List Int) : ∀ (m j : Nat) (out : List Int), j + m = (kidsM d v).length → ParInv d e v ((kidsM d v).take j) out →
    (∀ out', ParInv d e (v + 1) [] out' → Ev (fun k => impl_parentsOf.l0 k d out' n ((v + 1 : Nat) : Int)) r) → Ev (fun k => impl_parentsOf.l1 k d out (v : Int) n (v : Int) (castL (kidsM d v)) ((castL (kidsM d v)).length : Int) (j : Int)) r := by
  have hf := kids_few h hv
  intro m
  induction m with
  | zero =>
    intro j out h1 hi hr
    refine Ev.step (fun k => by rw [impl_parentsOf.l1]) ?_
    refine ev_neg (by rw [castL_length]; omega) ?_
    rw [w64s (by omega)]
    refine hr out (ParInv.next h hv ?_)
    rwa [List.take_of_length_le (by omega)] at hi
  | succ m ih =>
    intro j out h1 hi hr
    have hj : j < (kidsM d v).length := by omega
    have hmem : (kidsM d v)[j] ∈ kidsM d v := List.getElem_mem hj
    have hk := kid_mem h hv hmem
    refine Ev.step (fun k => by rw [impl_parentsOf.l1]) ?_
    have hg : rd (castL (kidsM d v)) (j : Int) = ((kidsM d v)[j] : Int) := castL_getD _ j hj
    rw [hg]
    refine ev_pos (by rw [castL_length]; omega) (ev_pos (by omega) (ev_pos (by rw [castL_length]; omega) (ev_pos (by omega) (ev_pos (by rw [hi.len]; omega) ?_))))
    rw [w64s (by omega)]
    refine ih (j + 1) _ (by omega) ?_ hr
    have := hi.step h hv hmem
    rwa [List.take_append_getElem hj] at this
theorem impl_parents_loop {e : Nat → Int} (he : e 0 = -1) : ∀ (m v : Nat) (out : List Int), v + m = d.length → ParInv d e v [] out → Ev (fun k => impl_parentsOf.l0 k d out (d.length : Int) (v : Int)) (parL d) := by
  intro m
  induction m with
  | zero =>
    intro v out h1 hi
    have ev : v = d.length := by omega
    subst ev
    refine Ev.step (fun k => by rw [impl_parentsOf.l0]) ?_
    exact ev_neg (by omega) (ev_now (hi.done h he))
  | succ m ih =>
    intro v out h1 hi
    have hv : v < d.length := by omega
    refine Ev.step (fun k => by rw [impl_parentsOf.l0]) ?_
    refine ev_pos (by omega) (Ev.bind (impl_kidsOf_ev h hn hv) ?_)
    exact impl_parents_in h hn hv _ _ (kidsM d v).length 0 out (by omega) (by simpa using hi) (fun out' hi' => ih (v + 1) out' (by omega) hi')
theorem impl_parentsOf_ev : Ev (fun k => impl_parentsOf.f k d) (parL d) := by
  have h0 := h.len
  unfold impl_parentsOf.f
  have e : slices_Repeat_int64_int64.f [-1] (d.length : Int) = some (List.replicate d.length (-1)) := by
    unfold slices_Repeat_int64_int64.f
    rw [if_pos ⟨rfl, by omega, by omega⟩]; rfl
  rw [e]
  refine ev_some ?_
  refine impl_parents_loop h hn (e := fun _ => -1) rfl d.length 0 _ (by omega) ⟨by simp, fun c hc => ?_⟩
  rw [getD_replicate hc, if_neg (by simp)]
theorem spec_parents_in {e : Nat → Int} {v : Nat} (hv : v < d.length) (r : List Int) : ∀ (m j : Nat) (out : List Int), j + m = (kidsM d v).length → ParInv d e v ((kidsM d v).take j) out →
    (∀ out', ParInv d e (v + 1) [] out' → Ev (fun k => spec_l01Parents.l0 k out' ((v + 1 : Nat) : Int) d) r) → Ev (fun k => spec_l01Parents.l1 k out (v : Int) (castL (kidsM d v)) (j : Int) d) r := by
  have hf := kids_few h hv
  intro m
  induction m with
  | zero =>
    intro j out h1 hi hr
    refine Ev.step (fun k => by rw [spec_l01Parents.l1]) ?_
    refine ev_neg (by rw [castL_length]; omega) ?_
    rw [w64s (by omega)]
    refine hr out (ParInv.next h hv ?_)
    rwa [List.take_of_length_le (by omega)] at hi
  | succ m ih =>
    intro j out h1 hi hr
    have hj : j < (kidsM d v).length := by omega
    have hmem : (kidsM d v)[j] ∈ kidsM d v := List.getElem_mem hj
    have hk := kid_mem h hv hmem
    refine Ev.step (fun k => by rw [spec_l01Parents.l1]) ?_
    have hg : rd (castL (kidsM d v)) (j : Int) = ((kidsM d v)[j] : Int) := castL_getD _ j hj
    rw [hg]
    refine ev_pos (by rw [castL_length]; omega) (ev_pos (by omega) (ev_pos (by omega) (ev_pos (by rw [hi.len]; omega) ?_)))
    rw [w64s (by omega)]
    refine ih (j + 1) _ (by omega) ?_ hr
    have := hi.step h hv hmem
    rwa [List.take_append_getElem hj] at this
theorem spec_parents_loop {e : Nat → Int} (he : e 0 = -1) : ∀ (m v : Nat) (out : List Int), v + m = d.length → ParInv d e v [] out → Ev (fun k => spec_l01Parents.l0 k out (v : Int) d) (parL d) := by
  intro m
  induction m with
  | zero =>
    intro v out h1 hi
    have ev : v = d.length := by omega
    subst ev
    refine Ev.step (fun k => by rw [spec_l01Parents.l0]) ?_
    simp only [l01N_ev]
    exact ev_some (ev_neg (by omega) (ev_now (hi.done h he)))
  | succ m ih =>
    intro v out h1 hi
    have hv : v < d.length := by omega
    refine Ev.step (fun k => by rw [spec_l01Parents.l0]) ?_
    simp only [l01N_ev]
    refine ev_some (ev_pos (by omega) (Ev.bind (spec_l01Children_ev h hn hv) ?_))
    exact spec_parents_in h hn hv _ (kidsM d v).length 0 out (by omega) (by simpa using hi) (fun out' hi' => ih (v + 1) out' (by omega) hi')
theorem spec_l01Parents_ev : Ev (fun k => spec_l01Parents.f k d) (parL d) := by
  have h0 := h.len
  unfold spec_l01Parents.f
  simp only [l01N_ev]
  refine ev_some (ev_pos (by omega) (ev_pos (by simp; omega) (ev_some (ev_pos (by simp; omega) ?_))))
  refine spec_parents_loop h hn (e := fun c => if c = 0 then -1 else 0) rfl d.length 0 _ (by omega) ⟨by simp, fun c hc => ?_⟩
  rcases Nat.eq_zero_or_pos c with e | e
  · subst e
    rw [show ((0 : Int)).toNat = 0 from rfl, get_set_eq (by simp; omega), if_neg (by omega)]; rfl
  · rw [show ((0 : Int)).toNat = 0 from rfl, get_set_ne (by omega), show ((d.length : Int)).toNat = d.length from rfl, getD_replicate hc, if_neg (by simp), if_neg (by omega)]

end
theorem parL_length {d : List Int} (_ : IsT d) (_ : d.length ≤ 1000) : (parL d).length = d.length := by simp [parL]
theorem parL_get {d : List Int} (_ : IsT d) (_ : d.length ≤ 1000) {c : Nat} (h0 : 0 < c) (hc : c < d.length) : (parL d).getD c 0 = (par d c : Int) := by
  rw [parL, getD_map_range hc, if_neg (by omega)]
theorem depInv_step {d : List Int} (h : IsT d) (_ : d.length ≤ 1000) {v : Nat} {out : List Int} (h0 : 0 < v) (hv : v < d.length) (hl : out.length = d.length) (hi : ∀ c, c < v → out.getD c 0 = (depth d c : Int)) : ∀ c, c < v + 1 → (out.set v ((depth d (par d v) : Int) + 1)).getD c 0 = (depth d c : Int) := by
  intro c hc
  by_cases e : v = c
  · subst e
    rw [get_set_eq (by omega), depth_succ h h0 hv]; omega
  · rw [get_set_ne e]
    exact hi c (by omega)
theorem depL_of {d : List Int} (_ : IsT d) (_ : d.length ≤ 1000) {out : List Int} (hl : out.length = d.length) (hi : ∀ c, c < d.length → out.getD c 0 = (depth d c : Int)) : out = depL d := by
  refine ext_getD (by simp [depL, hl]) (fun c hc => ?_)
  have hc' : c < d.length := by simpa [depL] using hc
  rw [hi c hc', depL, getD_map_range hc']
section
variable {d : List Int} (h : IsT d) (hn : d.length ≤ 1000)
include h hn
theorem spec_depths_loop : ∀ (m v : Nat) (out : List Int), v + m = d.length → 0 < v → out.length = d.length → (∀ c, c < v → out.getD c 0 = (depth d c : Int)) → Ev (fun k => spec_l01Depths.l0 k (parL d) out (v : Int)) (depL d) := by
  intro m
  induction m with
  | zero =>
    intro v out h1 h0 hl hi
    refine Ev.step (fun k => by rw [spec_l01Depths.l0]) ?_
    exact ev_neg (by omega) (ev_now (depL_of h hn hl (fun c hc => hi c (by omega))))
  | succ m ih =>
    intro v out h1 h0 hl hi
    have hv : v < d.length := by omega
    have hp := par_lt h h0 hv
    have hd := depth_le h _ (par d v) (Nat.le_refl _) (by omega)
    refine Ev.step (fun k => by rw [spec_l01Depths.l0]) ?_
    have hg : rd (parL d) (v : Int) = (par d v : Int) := parL_get h hn h0 hv
    have hg2 : rd out ((par d v : Nat) : Int) = (depth d (par d v) : Int) := hi _ hp
    rw [hg, hg2]
    refine ev_pos (by omega) (ev_pos (by omega) (ev_pos (by rw [parL_length h hn]; omega) (ev_pos (by omega) (ev_pos (by omega) ?_))))
    rw [w64s (by omega), w64 (by omega) (by omega)]
    exact ih (v + 1) _ (by omega) (by omega) (by simpa using hl) (depInv_step h hn h0 hv hl hi)
theorem spec_l01Depths_ev : Ev (fun k => spec_l01Depths.f k d) (depL d) := by
  have h0 := h.len
  unfold spec_l01Depths.f
  simp only [l01N_ev]
  refine Ev.bind (spec_l01Parents_ev h hn) (ev_some (ev_pos (by omega) (ev_pos (by omega) ?_)))
  refine spec_depths_loop h hn (d.length - 1) 1 _ (by omega) (by omega) (by simp) (fun c hc => ?_)
  have e : c = 0 := by omega
  subst e
  rw [depth_zero, show ((d.length : Int)).toNat = d.length from rfl, getD_replicate h0]; rfl
end
end Go.Proofs.Ytdhmoglkcfgikaa.E
namespace Go.Proofs.Ytdhmoglkcfgikaa.E
set_option linter.unusedVariables false
set_option linter.unusedSectionVars false
open Go.RowKit Go.Proofs.YtdhmoglkcfgikaaW.PrintWords Go.Proofs.Ytdhmoglkcfgikaa.Base Go.Proofs.Ytdhmoglkcfgikaa.Tree
section
variable {d : List Int} (h : IsT d) (hn : d.length ≤ 1000)
include h hn
theorem impl_isBelow_ev {v w : Nat} (hw : w < d.length) : Ev (fun k => impl_isBelow.f k d (v : Int) (w : Int)) (decide (below d v w)) := by
  unfold impl_isBelow.f
  refine ev_ite (fun hx => ?_) (fun hx => ?_)
  · refine Ev.bind (impl_endOf_ev h hn hw) (ev_now ?_)
    exact decide_eq_decide.mpr ⟨fun hy => ⟨by omega, by omega⟩, fun hy => by have := hy.2; omega⟩
  · exact ev_now (decide_eq_false (fun hy => by have := hy.1; omega)).symm
theorem impl_meet_loop {w : Nat} (hw : w < d.length) : ∀ (f v : Nat), v ≤ f → v < d.length → Ev (fun k => impl_meetOf.l0 k d (v : Int) (w : Int) (parL d)) (meetF d w f v : Int)
  | 0, v, hf, hv => by
    have e : v = 0 := by omega
    subst e
    refine Ev.step (fun k => by rw [impl_meetOf.l0]) ?_
    refine Ev.bind (impl_isBelow_ev h hn hv) ?_
    rw [decide_eq_true (below_root h hw)]
    exact ev_pos rfl (Ev.now _)
  | f + 1, v, hf, hv => by
    refine Ev.step (fun k => by rw [impl_meetOf.l0]) ?_
    refine Ev.bind (impl_isBelow_ev h hn hv) ?_
    simp only [meetF]
    by_cases hb : below d w v
    · rw [if_pos hb, decide_eq_true hb]
      exact ev_pos rfl (Ev.now _)
    · rw [if_neg hb, decide_eq_false hb]
      have h0 : 0 < v := by
        rcases Nat.eq_zero_or_pos v with e | e
        · subst e; exact absurd (below_root h hw) hb
        · exact e
      have hp := par_lt h h0 hv
      refine ev_neg (by decide) (ev_pos (by omega) (ev_pos (by rw [parL_length h hn]; omega) ?_))
      have hg : rd (parL d) (v : Int) = (par d v : Int) := parL_get h hn h0 hv
      rw [hg]
      exact impl_meet_loop hw f (par d v) (by omega) (by omega)
theorem impl_meetOf_ev {v w : Nat} (hv : v < d.length) (hw : w < d.length) : Ev (fun k => impl_meetOf.f k d (v : Int) (w : Int)) (meetM d v w : Int) := by
  unfold impl_meetOf.f
  exact Ev.bind (impl_parentsOf_ev h hn) (impl_meet_loop h hn hw v v (Nat.le_refl _) hv)
theorem spec_meet_loop {w : Nat} (hw : w < d.length) : ∀ (f v : Nat), v ≤ f → v < d.length → Ev (fun k => spec_l01Meet.l0 k (w : Int) (parL d) (v : Int) d) (meetF d w f v : Int)
  | 0, v, hf, hv => by
    have e : v = 0 := by omega
    subst e
    have hr := end_root h
    refine Ev.step (fun k => by rw [spec_l01Meet.l0]) ?_
    refine ev_neg (by omega) (Ev.bind (spec_l01End_ev h hn hv) ?_)
    exact ev_neg (by omega) (Ev.now _)
  | f + 1, v, hf, hv => by
    have up : ¬ below d w v → Ev (fun k => if 0 ≤ (v : Int) then (if (v : Int) < ((parL d).length : Int) then spec_l01Meet.l0 k (w : Int) (parL d) (rd (parL d) (v : Int)) d else none) else none) (meetF d w f (par d v) : Int) := by
      intro hb
      have h0 : 0 < v := by
        rcases Nat.eq_zero_or_pos v with e | e
        · subst e; exact absurd (below_root h hw) hb
        · exact e
      have hp := par_lt h h0 hv
      refine ev_pos (by omega) (ev_pos (by rw [parL_length h hn]; omega) ?_)
      have hg : rd (parL d) (v : Int) = (par d v : Int) := parL_get h hn h0 hv
      rw [hg]
      exact spec_meet_loop hw f (par d v) (by omega) (by omega)
    refine Ev.step (fun k => by rw [spec_l01Meet.l0]) ?_
    simp only [meetF]
    refine ev_ite (fun hx => ?_) (fun hx => ?_)
    · have hb : ¬ below d w v := fun hy => by have := hy.1; omega
      rw [if_neg hb]
      exact up hb
    · refine Ev.bind (spec_l01End_ev h hn hv) ?_
      refine ev_ite (fun hy => ?_) (fun hy => ?_)
      · have hb : ¬ below d w v := fun hz => by have := hz.2; omega
        rw [if_neg hb]
        exact up hb
      · rw [if_pos ⟨by omega, by omega⟩]
        exact Ev.now _
theorem spec_l01Meet_ev {v w : Nat} (hv : v < d.length) (hw : w < d.length) : Ev (fun k => spec_l01Meet.f k d (v : Int) (w : Int)) (meetM d v w : Int) := by
  unfold spec_l01Meet.f
  exact Ev.bind (spec_l01Parents_ev h hn) (spec_meet_loop h hn hw v v (Nat.le_refl _) hv)
end
end Go.Proofs.Ytdhmoglkcfgikaa.E
namespace Go.Proofs.Ytdhmoglkcfgikaa.E
set_option linter.unusedVariables false
set_option linter.unusedSectionVars false
open Go.RowKit Go.Proofs.YtdhmoglkcfgikaaW.PrintWords Go.Proofs.YtdhmoglkcfgikaaW.PrintMore Go.Proofs.Ytdhmoglkcfgikaa.Base

end Go.Proofs.Ytdhmoglkcfgikaa.E
namespace Go.Proofs.Ytdhmoglkcfgikaa.E
set_option linter.unusedVariables false
set_option linter.unusedSectionVars false
open Go.RowKit Go.Proofs.YtdhmoglkcfgikaaW.PrintWords Go.Proofs.YtdhmoglkcfgikaaW.PrintMore Go.Proofs.Ytdhmoglkcfgikaa.Base Go.Proofs.Ytdhmoglkcfgikaa.Tree

theorem depL_length (d : List Int) : (depL d).length = d.length := by simp [depL]
theorem depL_get {d : List Int} {v : Nat} (hv : v < d.length) : rd (depL d) (v : Int) = (depth d v : Int) := by
  rw [rd_nat, depL, getD_map_range hv]
theorem map_range_succ {α : Type} (f : Nat → α) (v : Nat) : (List.range (v + 1)).map f = (List.range v).map f ++ [f v] := by
  rw [List.range_succ, List.map_append]; rfl
section
variable {d : List Int} (h : IsT d) (hn : d.length ≤ 1000)
include h hn
theorem spec_dist_in {v : Nat} (hv : v < d.length) (acc : List (List Int)) (ha : acc.length ≤ 1000) (r : List (List Int)) (H : Ev (fun k => spec_l05Distances.l0 k (depL d) (acc ++ [rowM d v]) ((v + 1 : Nat) : Int) d) r) :
    ∀ (m w : Nat), w + m = d.length → Ev (fun k => spec_l05Distances.l1 k (depL d) acc (v : Int) ((List.range w).map fun w => dist d v w) (w : Int) d) r
  | 0, w, hw => by
    have e : w = d.length := by omega
    subst e
    refine Ev.step (fun k => by rw [spec_l05Distances.l1]) ?_
    simp only [l01N_ev]
    refine ev_some (ev_neg (by omega) (ev_pos (by omega) ?_))
    rw [w64s (by omega)]
    exact H
  | m + 1, w, hw => by
    have hwl : w < d.length := by omega
    have hm := meet_spec h hv hwl
    have b1 := depth_le h _ v (Nat.le_refl _) hv
    have b2 := depth_le h _ w (Nat.le_refl _) hwl
    have b3 := depth_le h _ (meetM d v w) (Nat.le_refl _) hm.2.2
    refine Ev.step (fun k => by rw [spec_l05Distances.l1]) ?_
    simp only [l01N_ev]
    refine ev_some (ev_pos (by omega) (ev_pos (by omega) (ev_pos (by rw [depL_length]; omega) (ev_pos (by omega) (ev_pos (by rw [depL_length]; omega) (Ev.bind (spec_l01Meet_ev h hn hv hwl) (ev_pos (by omega) (ev_pos (by rw [depL_length]; omega) (ev_pos (by simp; omega) ?_)))))))))
    rw [depL_get hv, depL_get hwl, depL_get hm.2.2, w64s (by omega), w64 (x := (depth d v : Int) + (depth d w : Int)) (by omega) (by omega), w64 (x := 2 * (depth d (meetM d v w) : Int)) (by omega) (by omega), w64 (by omega) (by omega)]
    have ih := spec_dist_in hv acc ha r H m (w + 1) (by omega)
    rw [map_range_succ] at ih
    exact ih
theorem spec_dist_loop : ∀ (m v : Nat), v + m = d.length → Ev (fun k => spec_l05Distances.l0 k (depL d) ((List.range v).map fun v => rowM d v) (v : Int) d) (distL d)
  | 0, v, hv => by
    refine Ev.step (fun k => by rw [spec_l05Distances.l0]) ?_
    simp only [l01N_ev]
    exact ev_some (ev_neg (by omega) (ev_now (by unfold distL; rw [show d.length = v by omega])))
  | m + 1, v, hv => by
    have ih := spec_dist_loop m (v + 1) (by omega)
    rw [map_range_succ] at ih
    refine Ev.step (fun k => by rw [spec_l05Distances.l0]) ?_
    simp only [l01N_ev]
    exact ev_some (ev_pos (by omega) (spec_dist_in h hn (by omega) _ (by simp; omega) _ ih d.length 0 (by omega)))
theorem spec_l05Distances_ev : Ev (fun k => spec_l05Distances.f k d) (distL d) := by
  unfold spec_l05Distances.f
  exact Ev.bind (spec_l01Depths_ev h hn) (spec_dist_loop h hn d.length 0 (by omega))
end

def maxZ (ws : List Int) : Nat → Int
  | 0 => 0
  | v + 1 => mx (maxZ ws v) (ws.getD v 0)
def reachM (d : List Int) (v : Nat) : Int := maxZ (rowM d v) (rowM d v).length
def reachL (d : List Int) : List Int := (List.range d.length).map fun v => reachM d v
theorem reachL_length (d : List Int) : (reachL d).length = d.length := by simp [reachL]
theorem distL_row {d : List Int} {v : Nat} (hv : v < d.length) : rd_L1 (distL d) (v : Int) = rowM d v := by
  unfold rd_L1 distL
  rw [show ((v : Int)).toNat = v from rfl, List.getD_eq_getElem?_getD, List.getElem?_map, List.getElem?_range hv]; rfl
section
variable {d : List Int} (h : IsT d) (hn : d.length ≤ 1000)
include h hn
omit h in
theorem spec_reaches_in {v : Nat} (hv : v < d.length) (acc : List Int) (ha : acc.length ≤ 1000) (r : List Int) (H : Ev (fun k => spec_l05Reaches.l0 k (distL d) (acc ++ [reachM d v]) ((v + 1 : Nat) : Int)) r) :
    ∀ (m w : Nat), w + m = d.length → Ev (fun k => spec_l05Reaches.l1 k (distL d) acc (v : Int) (maxZ (rowM d v) w) (w : Int)) r
  | 0, w, hw => by
    refine Ev.step (fun k => by rw [spec_l05Reaches.l1]) ?_
    refine ev_neg (by rw [distL_length]; omega) (ev_pos (by omega) ?_)
    rw [w64s (by omega), show w = (rowM d v).length by rw [rowM_length]; omega]
    exact H
  | m + 1, w, hw => by
    refine Ev.step (fun k => by rw [spec_l05Reaches.l1]) ?_
    rw [distL_row hv]
    refine ev_pos (by rw [distL_length]; omega) (ev_pos (by omega) (ev_pos (by rw [distL_length]; omega) (ev_pos (by omega) (ev_pos (by rw [rowM_length]; omega) ?_))))
    rw [w64s (by omega)]
    exact spec_reaches_in hv acc ha r H m (w + 1) (by omega)
omit h in
theorem spec_reaches_loop : ∀ (m v : Nat), v + m = d.length → Ev (fun k => spec_l05Reaches.l0 k (distL d) ((List.range v).map fun v => reachM d v) (v : Int)) (reachL d)
  | 0, v, hv => by
    refine Ev.step (fun k => by rw [spec_l05Reaches.l0]) ?_
    exact ev_neg (by rw [distL_length]; omega) (ev_now (by unfold reachL; rw [show d.length = v by omega]))
  | m + 1, v, hv => by
    have ih := spec_reaches_loop m (v + 1) (by omega)
    rw [map_range_succ] at ih
    refine Ev.step (fun k => by rw [spec_l05Reaches.l0]) ?_
    exact ev_pos (by rw [distL_length]; omega) (spec_reaches_in hn (by omega) _ (by simp; omega) _ ih d.length 0 (by omega))
theorem spec_l05Reaches_ev : Ev (fun k => spec_l05Reaches.f k d) (reachL d) := by
  unfold spec_l05Reaches.f
  exact Ev.bind (spec_l05Distances_ev h hn) (spec_reaches_loop hn d.length 0 (by omega))
end
end Go.Proofs.Ytdhmoglkcfgikaa.E
namespace Go.Proofs.Ytdhmoglkcfgikaa.E
set_option linter.unusedVariables false
set_option linter.unusedSectionVars false
open Go.RowKit Go.Proofs.YtdhmoglkcfgikaaW.PrintWords Go.Proofs.Ytdhmoglkcfgikaa.Base Go.Proofs.Ytdhmoglkcfgikaa.Tree

section
variable {d : List Int} (h : IsT d) (hn : d.length ≤ 1000)
include h hn
end
end Go.Proofs.Ytdhmoglkcfgikaa.E
namespace Go.Proofs.Ytdhmoglkcfgikaa.E
set_option linter.unusedVariables false
set_option linter.unusedSectionVars false
open Go.RowKit Go.Proofs.YtdhmoglkcfgikaaW.PrintWords Go.Proofs.Ytdhmoglkcfgikaa.Base

theorem reverse_getD (l : List Int) (p : Nat) (hp : p < l.length) : l.reverse.getD p 0 = l.getD (l.length - 1 - p) 0 := by
  rw [List.getD_eq_getElem?_getD, List.getElem?_reverse hp, ← List.getD_eq_getElem?_getD]
theorem slices_Reverse_loop (l : List Int) (hn : l.length ≤ 1048576) : ∀ (m i : Nat) (x : List Int), l.length ≤ 2 * i + m → i ≤ l.length → x.length = l.length → (∀ p, p < l.length → x.getD p 0 = if p < i ∨ l.length - i ≤ p then l.getD (l.length - 1 - p) 0 else l.getD p 0) → Ev (fun k => slices_Reverse_int64_int64.l0 k x (i : Int) ((l.length : Int) - 1 - i)) l.reverse := by
  intro m
  induction m with
  | zero =>
    intro i x hm hi hl hx
    refine Ev.step (fun k => by rw [slices_Reverse_int64_int64.l0]) ?_
    refine ev_neg (by omega) (ev_now (ext_getD (by simpa using hl) (fun p hp => ?_)))
    have hp' : p < l.length := by simpa using hp
    rw [hx p hp', reverse_getD l p hp']
    split
    · rfl
    · omega
  | succ m ih =>
    intro i x hm hi hl hx
    by_cases hlt : 2 * i + 1 < l.length
    · refine Ev.step (fun k => by rw [slices_Reverse_int64_int64.l0]) ?_
      have e : (l.length : Int) - 1 - i = ((l.length - 1 - i : Nat) : Int) := by omega
      rw [e]
      refine ev_pos (by omega) (ev_pos (by omega) (ev_pos (by omega) (ev_pos (by omega) (ev_pos (by omega) ?_))))
      rw [w64s (by omega), w64 (by omega) (by omega), show ((l.length - 1 - i : Nat) : Int) - 1 = (l.length : Int) - 1 - ((i + 1 : Nat) : Int) by omega, rd_nat, rd_nat]
      refine ih (i + 1) _ (by omega) (by omega) (by simpa using hl) (fun p hp => ?_)
      rw [show (((l.length - 1 - i : Nat) : Int)).toNat = l.length - 1 - i from rfl, show ((i : Int)).toNat = i from rfl]
      have hxi := hx i (by omega)
      have hxj := hx (l.length - 1 - i) (by omega)
      rw [if_neg (by omega)] at hxi hxj
      by_cases h1 : l.length - 1 - i = p
      · subst h1
        rw [get_set_eq (by simp; omega), if_pos (by omega), hxi]
        congr 1; omega
      · rw [get_set_ne h1]
        by_cases h2 : i = p
        · subst h2
          rw [get_set_eq (by omega), if_pos (by omega), hxj]
        · rw [get_set_ne h2, hx p hp]
          by_cases h3 : p < i ∨ l.length - i ≤ p
          · rw [if_pos h3, if_pos (by omega)]
          · rw [if_neg h3, if_neg (by omega)]
    · refine Ev.step (fun k => by rw [slices_Reverse_int64_int64.l0]) ?_
      refine ev_neg (by omega) (ev_now (ext_getD (by simpa using hl) (fun p hp => ?_)))
      have hp' : p < l.length := by simpa using hp
      rw [hx p hp', reverse_getD l p hp']
      split
      · rfl
      · congr 1; omega
theorem slices_Reverse_ev (l : List Int) (hn : l.length ≤ 1048576) : Ev (fun k => slices_Reverse_int64_int64.f k l) l.reverse := by
  unfold slices_Reverse_int64_int64.f
  rw [w64 (by omega) (by omega)]
  have := slices_Reverse_loop l hn l.length 0 l (by omega) (by omega) rfl (fun p hp => by rw [if_neg (by omega)])
  simpa using this
def lenTo (xs : List (List Int)) : Nat → Nat
  | 0 => 0
  | v + 1 => lenTo xs v + (xs.getD v []).length
theorem lenTo_mono (xs : List (List Int)) : ∀ {v w : Nat}, v ≤ w → lenTo xs v ≤ lenTo xs w
  | v, 0, h => by
    have e : v = 0 := by omega
    subst e; exact Nat.le_refl _
  | v, w + 1, h => by
    by_cases e : v = w + 1
    · subst e; exact Nat.le_refl _
    · have := lenTo_mono xs (v := v) (w := w) (by omega)
      simp only [lenTo]; omega
theorem take_flat (xs : List (List Int)) (v : Nat) (hv : v < xs.length) : (xs.take (v + 1)).flatten = (xs.take v).flatten ++ xs.getD v [] := by
  rw [← List.take_append_getElem hv, List.flatten_append, List.getD_eq_getElem?_getD, List.getElem?_eq_getElem hv]
  simp
theorem lenTo_flat (xs : List (List Int)) : ∀ v : Nat, v ≤ xs.length → (xs.take v).flatten.length = lenTo xs v
  | 0, _ => by simp [lenTo]
  | v + 1, h => by
    rw [take_flat xs v (by omega), List.length_append, lenTo_flat xs v (by omega)]; rfl
theorem slices_Concat_loop1 (xs : List (List Int)) (hx : xs.length ≤ 1048576) (hn : lenTo xs xs.length ≤ 1048576) : ∀ (m v : Nat), v + m = xs.length → Ev (fun k => slices_Concat_int64_int64.l1 k (xs.take v).flatten xs (xs.length : Int) (v : Int)) xs.flatten
  | 0, v, h => by
    refine Ev.step (fun k => by rw [slices_Concat_int64_int64.l1]) ?_
    refine ev_neg (by omega) (ev_now ?_)
    rw [List.take_of_length_le (by omega)]
  | m + 1, v, h => by
    have ih := slices_Concat_loop1 xs hx hn m (v + 1) (by omega)
    rw [take_flat xs v (by omega)] at ih
    have h1 := lenTo_mono xs (v := v + 1) (w := xs.length) (by omega)
    have h2 := lenTo_flat xs v (by omega)
    have e : rd_L1 xs (v : Int) = xs.getD v [] := rfl
    simp only [lenTo] at h1
    refine Ev.step (fun k => by rw [slices_Concat_int64_int64.l1]) ?_
    rw [e]
    refine ev_pos (by omega) (ev_pos (by omega) (ev_pos (by omega) (ev_pos (by omega) ?_)))
    rw [w64s (by omega)]
    exact ih
theorem slices_Concat_loop0 (xs : List (List Int)) (hx : xs.length ≤ 1048576) (hn : lenTo xs xs.length ≤ 1048576) : ∀ (m v : Nat), v + m = xs.length → Ev (fun k => slices_Concat_int64_int64.l0 k xs (lenTo xs v : Int) xs (xs.length : Int) (v : Int)) xs.flatten
  | 0, v, h => by
    have e : v = xs.length := by omega
    subst e
    refine Ev.step (fun k => by rw [slices_Concat_int64_int64.l0]) ?_
    refine ev_neg (by omega) ?_
    have hg : slices_Grow_int64_int64.f (lenTo xs xs.length : Int) = some [] := by
      unfold slices_Grow_int64_int64.f
      rw [if_pos ⟨by omega, by omega⟩]
    rw [hg]
    refine ev_some ?_
    exact slices_Concat_loop1 xs hx hn xs.length 0 (by omega)
  | m + 1, v, h => by
    have h1 := lenTo_mono xs (v := v + 1) (w := xs.length) (by omega)
    have e : rd_L1 xs (v : Int) = xs.getD v [] := rfl
    have ih := slices_Concat_loop0 xs hx hn m (v + 1) (by omega)
    have e2 : (lenTo xs v : Int) + ((xs.getD v []).length : Int) = (lenTo xs (v + 1) : Int) := by simp only [lenTo]; omega
    refine Ev.step (fun k => by rw [slices_Concat_int64_int64.l0]) ?_
    rw [e, e2, w64 (by omega) (by omega), w64s (by omega)]
    exact ev_pos (by omega) (ev_pos (by omega) (ev_pos (by omega) (ev_neg (by omega) ih)))
theorem slices_Concat_ev (xs : List (List Int)) (hx : xs.length ≤ 1048576) (hn : xs.flatten.length ≤ 1048576) : Ev (fun k => slices_Concat_int64_int64.f k xs) xs.flatten := by
  unfold slices_Concat_int64_int64.f
  have h := lenTo_flat xs xs.length (Nat.le_refl _)
  rw [List.take_of_length_le (Nat.le_refl _)] at h
  exact slices_Concat_loop0 xs hx (by omega) xs.length 0 (by omega)
end Go.Proofs.Ytdhmoglkcfgikaa.E
namespace Go.Proofs.Ytdhmoglkcfgikaa.E
set_option linter.unusedVariables false
set_option linter.unusedSectionVars false
open Go.RowKit Go.Proofs.YtdhmoglkcfgikaaW.PrintWords Go.Proofs.Ytdhmoglkcfgikaa.Base Go.Proofs.Ytdhmoglkcfgikaa.Tree

def chain (d : List Int) (m : Nat) : Nat → Nat → List Nat
  | 0, _ => []
  | f + 1, v => if v = m then [] else v :: chain d m f (par d v)
def wayM (d : List Int) (v w : Nat) : List Nat := chain d (meetM d v w) v v ++ [meetM d v w] ++ (chain d (meetM d v w) w w).reverse
theorem castL_append (a b : List Nat) : castL (a ++ b) = castL a ++ castL b := by simp [castL]
theorem castL_reverse (a : List Nat) : castL a.reverse = (castL a).reverse := by simp [castL]
section
variable {d : List Int} (h : IsT d) (hn : d.length ≤ 1000)
include h hn
theorem up_step {v m : Nat} (hm : m < d.length) (hb : below d v m) (hne : v ≠ m) : 0 < v ∧ v < d.length ∧ par d v < v ∧ below d (par d v) m ∧ rd (parL d) (v : Int) = (par d v : Int) := by
  have h1 := end_le h hm
  have hv : v < d.length := by have := hb.2; omega
  have h0 : 0 < v := by have := hb.1; omega
  exact ⟨h0, hv, par_lt h h0 hv, par_in h hm hb hne, parL_get h hn h0 hv⟩
theorem impl_way_l1 {w m : Nat} (hm : m < d.length) (x9 : List Int) (h9 : x9.length ≤ 1000) : ∀ (f v : Nat) (acc : List Int), v ≤ f → acc.length + f ≤ 2000 → below d v m →
    Ev (fun k => impl_wayBetween.l1 k (v : Int) (parL d) (m : Int) x9 acc) (x9 ++ [(m : Int)] ++ (acc ++ castL (chain d m f v)).reverse) := by
  have fin : ∀ acc : List Int, acc.length ≤ 2000 → Ev (fun k => (slices_Reverse_int64_int64.f k acc).bind fun t866 => (slices_Concat_int64_int64.f k [x9, [(m : Int)], t866]).bind fun t873 => some t873) (x9 ++ [(m : Int)] ++ acc.reverse) := by
    intro acc ha
    refine Ev.bind (slices_Reverse_ev acc (by omega)) (Ev.bind (slices_Concat_ev _ (by simp) (by simp; omega)) (ev_now ?_))
    simp
  intro f
  induction f with
  | zero =>
    intro v acc hf ha hb
    have e : v = 0 := by omega
    have e2 : m = 0 := by have := hb.1; omega
    subst e; subst e2
    refine Ev.step (fun k => by rw [impl_wayBetween.l1]) ?_
    refine ev_pos rfl ?_
    have := fin acc (by omega)
    simpa [chain, castL] using this
  | succ f ih =>
    intro v acc hf ha hb
    refine Ev.step (fun k => by rw [impl_wayBetween.l1]) ?_
    simp only [chain]
    by_cases e : v = m
    · rw [if_pos e]
      refine ev_pos (by omega) ?_
      have := fin acc (by omega)
      simpa [castL] using this
    · rw [if_neg e]
      obtain ⟨h0, hv, hp, hb2, hg⟩ := up_step h hn hm hb e
      refine ev_neg (by omega) (ev_pos (by omega) (ev_pos (by omega) (ev_pos (by rw [parL_length h hn]; omega) ?_)))
      rw [hg]
      have := ih (par d v) (acc ++ [(v : Int)]) (by omega) (by simp; omega) hb2
      simpa [castL] using this
theorem impl_way_l0 {w m : Nat} (hm : m < d.length) (hw : w < d.length) (hbw : below d w m) : ∀ (f v : Nat) (acc : List Int), v ≤ f → acc.length + f ≤ 1000 → below d v m →
    Ev (fun k => impl_wayBetween.l0 k (v : Int) (w : Int) (parL d) (m : Int) acc []) (acc ++ castL (chain d m f v) ++ [(m : Int)] ++ (castL (chain d m w w)).reverse) := by
  intro f
  induction f with
  | zero =>
    intro v acc hf ha hb
    have e : v = 0 := by omega
    have e2 : m = 0 := by have := hb.1; omega
    subst e; subst e2
    refine Ev.step (fun k => by rw [impl_wayBetween.l0]) ?_
    refine ev_pos rfl ?_
    have := impl_way_l1 h hn (w := w) hm acc (by omega) w w [] (Nat.le_refl _) (by simp; omega) hbw
    simpa [chain, castL] using this
  | succ f ih =>
    intro v acc hf ha hb
    refine Ev.step (fun k => by rw [impl_wayBetween.l0]) ?_
    simp only [chain]
    by_cases e : v = m
    · rw [if_pos e]
      refine ev_pos (by omega) ?_
      have := impl_way_l1 h hn (w := w) hm acc (by omega) w w [] (Nat.le_refl _) (by simp; omega) hbw
      simpa [castL] using this
    · rw [if_neg e]
      obtain ⟨h0, hv, hp, hb2, hg⟩ := up_step h hn hm hb e
      refine ev_neg (by omega) (ev_pos (by omega) (ev_pos (by omega) (ev_pos (by rw [parL_length h hn]; omega) ?_)))
      rw [hg]
      have := ih (par d v) (acc ++ [(v : Int)]) (by omega) (by simp; omega) hb2
      simpa [castL] using this
theorem impl_wayBetween_ev {v w : Nat} (hv : v < d.length) (hw : w < d.length) : Ev (fun k => impl_wayBetween.f k d (v : Int) (w : Int)) (castL (wayM d v w)) := by
  have hm := meet_spec h hv hw
  unfold impl_wayBetween.f
  refine Ev.bind (impl_parentsOf_ev h hn) (Ev.bind (impl_meetOf_ev h hn hv hw) ?_)
  have := impl_way_l0 h hn hm.2.2 hw hm.1 v v [] (Nat.le_refl _) (by simp; omega) hm.2.1
  simpa [wayM, castL_append, castL_reverse, castL] using this
theorem spec_way_l2 (back : List Int) (hb : back.length ≤ 2000) : ∀ (j : Nat) (acc : List Int), j ≤ back.length → acc.length + j ≤ 10000 → Ev (fun k => spec_l05Way.l2 k acc back ((j : Int) - 1)) (acc ++ (back.take j).reverse)
  | 0, acc, hj, ha => by
    refine Ev.step (fun k => by rw [spec_l05Way.l2]) ?_
    exact ev_neg (by omega) (ev_now (by simp))
  | j + 1, acc, hj, ha => by
    have e : ((j + 1 : Nat) : Int) - 1 = (j : Int) := by omega
    rw [e]
    refine Ev.step (fun k => by rw [spec_l05Way.l2]) ?_
    refine ev_pos (by omega) (ev_pos (by omega) (ev_pos (by omega) (ev_pos (by omega) ?_)))
    rw [w64 (by omega) (by omega), rd_lt (show j < back.length by omega)]
    have := spec_way_l2 back hb j (acc ++ [back[j]]) (by omega) (by simp; omega)
    rw [← List.take_append_getElem (show j < back.length by omega), List.reverse_append, List.reverse_singleton, ← List.append_assoc]
    exact this
theorem spec_way_l1 {m : Nat} (hm : m < d.length) (x9 : List Int) (h9 : x9.length ≤ 2000) : ∀ (f v : Nat) (acc : List Int), v ≤ f → acc.length + f ≤ 2000 → below d v m →
    Ev (fun k => spec_l05Way.l1 k (v : Int) (parL d) (m : Int) x9 acc) (x9 ++ (acc ++ castL (chain d m f v)).reverse) := by
  have fin : ∀ acc : List Int, acc.length ≤ 2000 → Ev (fun k => spec_l05Way.l2 k x9 acc (wrap64 ((acc.length : Int) - 1))) (x9 ++ acc.reverse) := by
    intro acc ha
    rw [w64 (by omega) (by omega)]
    have := spec_way_l2 h hn acc ha acc.length x9 (Nat.le_refl _) (by omega)
    simpa using this
  intro f
  induction f with
  | zero =>
    intro v acc hf ha hb
    have e : v = 0 := by omega
    have e2 : m = 0 := by have := hb.1; omega
    subst e; subst e2
    refine Ev.step (fun k => by rw [spec_l05Way.l1]) ?_
    refine ev_pos rfl ?_
    have := fin acc (by omega)
    simpa [chain, castL] using this
  | succ f ih =>
    intro v acc hf ha hb
    refine Ev.step (fun k => by rw [spec_l05Way.l1]) ?_
    simp only [chain]
    by_cases e : v = m
    · rw [if_pos e]
      refine ev_pos (by omega) ?_
      have := fin acc (by omega)
      simpa [castL] using this
    · rw [if_neg e]
      obtain ⟨h0, hv, hp, hb2, hg⟩ := up_step h hn hm hb e
      refine ev_neg (by omega) (ev_pos (by omega) (ev_pos (by omega) (ev_pos (by rw [parL_length h hn]; omega) ?_)))
      rw [hg]
      have := ih (par d v) (acc ++ [(v : Int)]) (by omega) (by simp; omega) hb2
      simpa [castL] using this
theorem spec_way_l0 {w m : Nat} (hm : m < d.length) (hw : w < d.length) (hbw : below d w m) : ∀ (f v : Nat) (acc : List Int), v ≤ f → acc.length + f ≤ 1000 → below d v m →
    Ev (fun k => spec_l05Way.l0 k (v : Int) (w : Int) (parL d) (m : Int) acc []) (acc ++ castL (chain d m f v) ++ [(m : Int)] ++ (castL (chain d m w w)).reverse) := by
  intro f
  induction f with
  | zero =>
    intro v acc hf ha hb
    have e : v = 0 := by omega
    have e2 : m = 0 := by have := hb.1; omega
    subst e; subst e2
    refine Ev.step (fun k => by rw [spec_l05Way.l0]) ?_
    refine ev_pos rfl (ev_pos (by omega) ?_)
    have := spec_way_l1 h hn hm (acc ++ [0]) (by simp; omega) w w [] (Nat.le_refl _) (by simp; omega) hbw
    simpa [chain, castL] using this
  | succ f ih =>
    intro v acc hf ha hb
    refine Ev.step (fun k => by rw [spec_l05Way.l0]) ?_
    simp only [chain]
    by_cases e : v = m
    · rw [if_pos e]
      refine ev_pos (by omega) (ev_pos (by omega) ?_)
      have := spec_way_l1 h hn hm (acc ++ [(m : Int)]) (by simp; omega) w w [] (Nat.le_refl _) (by simp; omega) hbw
      simpa [castL] using this
    · rw [if_neg e]
      obtain ⟨h0, hv, hp, hb2, hg⟩ := up_step h hn hm hb e
      refine ev_neg (by omega) (ev_pos (by omega) (ev_pos (by omega) (ev_pos (by rw [parL_length h hn]; omega) ?_)))
      rw [hg]
      have := ih (par d v) (acc ++ [(v : Int)]) (by omega) (by simp; omega) hb2
      simpa [castL] using this
theorem spec_l05Way_ev {v w : Nat} (hv : v < d.length) (hw : w < d.length) : Ev (fun k => spec_l05Way.f k d (v : Int) (w : Int)) (castL (wayM d v w)) := by
  have hm := meet_spec h hv hw
  unfold spec_l05Way.f
  refine Ev.bind (spec_l01Parents_ev h hn) (Ev.bind (spec_l01Meet_ev h hn hv hw) ?_)
  have := spec_way_l0 h hn hm.2.2 hw hm.1 v v [] (Nat.le_refl _) (by simp; omega) hm.2.1
  simpa [wayM, castL_append, castL_reverse, castL] using this
end
end Go.Proofs.Ytdhmoglkcfgikaa.E
namespace Go.Proofs.Ytdhmoglkcfgikaa.E
set_option linter.unusedVariables false
set_option linter.unusedSectionVars false
open Go.RowKit Go.Proofs.YtdhmoglkcfgikaaW.PrintWords Go.Proofs.YtdhmoglkcfgikaaW.PrintMore Go.Proofs.Ytdhmoglkcfgikaa.Base Go.Proofs.Ytdhmoglkcfgikaa.Tree

def lexLt : List Int → List Int → Bool
  | _, [] => false
  | [], _ :: _ => true
  | a :: s, b :: t => if a < b then true else if b < a then false else lexLt s t
theorem lex_irrefl : ∀ a : List Int, lexLt a a = false
  | [] => rfl
  | a :: s => by
    simp only [lexLt]
    rw [if_neg (by omega), if_neg (by omega)]
    exact lex_irrefl s
theorem lex_trans : ∀ a b c : List Int, lexLt a b = true → lexLt b c = true → lexLt a c = true
  | _, [], _, h, _ => by simp [lexLt] at h
  | _, _ :: _, [], _, h => by simp [lexLt] at h
  | [], _ :: _, _ :: _, _, _ => rfl
  | a :: s, b :: t, c :: u, h1, h2 => by
    simp only [lexLt] at h1 h2 ⊢
    by_cases e1 : a < b
    · by_cases e2 : b < c
      · rw [if_pos (by omega)]
      · rw [if_neg e2] at h2
        by_cases e3 : c < b
        · rw [if_pos e3] at h2; cases h2
        · rw [if_pos (by omega)]
    · rw [if_neg e1] at h1
      by_cases e3 : b < a
      · rw [if_pos e3] at h1; cases h1
      · rw [if_neg e3] at h1
        by_cases e2 : b < c
        · rw [if_pos (by omega)]
        · rw [if_neg e2] at h2
          by_cases e4 : c < b
          · rw [if_pos e4] at h2; cases h2
          · rw [if_neg e4] at h2
            rw [if_neg (by omega), if_neg (by omega)]
            exact lex_trans s t u h1 h2
theorem lex_total : ∀ a b : List Int, lexLt a b = false → lexLt b a = false → a = b
  | [], [], _, _ => rfl
  | [], _ :: _, h, _ => by simp [lexLt] at h
  | _ :: _, [], _, h => by simp [lexLt] at h
  | a :: s, b :: t, h1, h2 => by
    simp only [lexLt] at h1 h2
    by_cases e1 : a < b
    · rw [if_pos e1] at h1; cases h1
    · by_cases e2 : b < a
      · rw [if_pos e2] at h2; cases h2
      · rw [if_neg e1, if_neg e2] at h1
        rw [if_neg e2, if_neg e1] at h2
        rw [show a = b by omega, lex_total s t h1 h2]
theorem lex_drop {a b : List Int} {i : Nat} (ha : i < a.length) (hb : i < b.length) : lexLt (a.drop i) (b.drop i) = if a[i] < b[i] then true else if b[i] < a[i] then false else lexLt (a.drop (i + 1)) (b.drop (i + 1)) := by
  rw [List.drop_eq_getElem_cons ha, List.drop_eq_getElem_cons hb]
  simp only [lexLt]
def better (a b : List Int) : Prop := b.length < a.length ∨ (a.length = b.length ∧ lexLt a b = true)
theorem better_irrefl (a : List Int) : ¬ better a a := by
  rintro (h | ⟨_, h⟩)
  · omega
  · rw [lex_irrefl] at h; cases h
theorem better_trans {a b c : List Int} (h1 : better a b) (h2 : better b c) : better a c := by
  rcases h1 with h1 | ⟨h1, h3⟩
  · rcases h2 with h2 | ⟨h2, h4⟩
    · left; omega
    · left; omega
  · rcases h2 with h2 | ⟨h2, h4⟩
    · left; omega
    · right; exact ⟨by omega, lex_trans _ _ _ h3 h4⟩
theorem better_total {a b : List Int} (h1 : ¬ better a b) (h2 : ¬ better b a) : a = b := by
  unfold better at h1 h2
  have hl : a.length = b.length := by omega
  refine lex_total a b ?_ ?_
  · cases e : lexLt a b with
    | false => rfl
    | true => exact absurd (Or.inr ⟨hl, e⟩) h1
  · cases e : lexLt b a with
    | false => rfl
    | true => exact absurd (Or.inr ⟨hl.symm, e⟩) h2
theorem compare_loop (a b : List Int) (hl : a.length = b.length) (hn : a.length ≤ 100000) : ∀ (m i : Nat), i + m = a.length → ∃ c, Ev (fun k => slices_Compare_int64_int64.l0 k a b a (a.length : Int) (i : Int)) c ∧ (c < 0 ↔ lexLt (a.drop i) (b.drop i) = true)
  | 0, i, hi => by
    refine ⟨0, ?_, ?_⟩
    · refine Ev.step (fun k => by rw [slices_Compare_int64_int64.l0]) ?_
      exact ev_neg (by omega) (ev_neg (by omega) (Ev.now _))
    · rw [List.drop_of_length_le (by omega), List.drop_of_length_le (by omega)]
      exact ⟨fun h => by omega, fun h => by cases h⟩
  | m + 1, i, hi => by
    obtain ⟨c, h1, h2⟩ := compare_loop a b hl hn m (i + 1) (by omega)
    have ea : rd a (i : Int) = a[i] := rd_lt (by omega)
    have eb : rd b (i : Int) = b[i] := rd_lt (by omega)
    have hcmp : cmp_Compare_int64.f a[i] b[i] = some (if a[i] < b[i] then -1 else if a[i] > b[i] then 1 else 0) := by
      unfold cmp_Compare_int64.f cmp_isNaN_int64.f
      simp only [Option.bind_some, bne_self_eq_false, Bool.false_eq_true, if_false]
      split
      · rfl
      · split <;> rfl
    rw [lex_drop (by omega) (by omega)]
    by_cases e1 : a[i] < b[i]
    · refine ⟨-1, ?_, ?_⟩
      · refine Ev.step (fun k => by rw [slices_Compare_int64_int64.l0]) ?_
        rw [ea, eb, hcmp, if_pos e1]
        exact ev_pos (by omega) (ev_pos (by omega) (ev_pos (by omega) (ev_neg (by omega) (ev_pos (by omega) (ev_some (ev_neg (by decide) (Ev.now _)))))))
      · rw [if_pos e1]; exact ⟨fun _ => rfl, fun _ => by decide⟩
    · by_cases e2 : b[i] < a[i]
      · refine ⟨1, ?_, ?_⟩
        · refine Ev.step (fun k => by rw [slices_Compare_int64_int64.l0]) ?_
          rw [ea, eb, hcmp, if_neg e1, if_pos (show a[i] > b[i] from e2)]
          exact ev_pos (by omega) (ev_pos (by omega) (ev_pos (by omega) (ev_neg (by omega) (ev_pos (by omega) (ev_some (ev_neg (by decide) (Ev.now _)))))))
        · rw [if_neg e1, if_pos e2]; exact ⟨fun h => by omega, fun h => by cases h⟩
      · refine ⟨c, ?_, ?_⟩
        · refine Ev.step (fun k => by rw [slices_Compare_int64_int64.l0]) ?_
          rw [ea, eb, hcmp, if_neg e1, if_neg (show ¬ a[i] > b[i] from e2), w64s (by omega)]
          exact ev_pos (by omega) (ev_pos (by omega) (ev_pos (by omega) (ev_neg (by omega) (ev_pos (by omega) (ev_some (ev_pos rfl h1))))))
        · rw [if_neg e1, if_neg e2]; exact h2
theorem compare_ev (a b : List Int) (hl : a.length = b.length) (hn : a.length ≤ 100000) : ∃ c, Ev (fun k => slices_Compare_int64_int64.f k a b) c ∧ (c < 0 ↔ lexLt a b = true) := by
  unfold slices_Compare_int64_int64.f
  simpa using compare_loop a b hl hn a.length 0 (by omega)
def W (d : List Int) (v w : Nat) : List Int := castL (wayM d v w)
theorem chain_depth {d : List Int} (h : IsT d) {m : Nat} (hm : m < d.length) : ∀ (f v : Nat), v ≤ f → below d v m → depth d v = depth d m + (chain d m f v).length
  | 0, v, hf, hb => by
    have := hb.1
    rw [show v = m by omega]; rfl
  | f + 1, v, hf, hb => by
    simp only [chain]
    by_cases e : v = m
    · rw [if_pos e, e]; rfl
    · rw [if_neg e]
      have hv : v < d.length := by have := hb.2; have := end_le h hm; omega
      have h0 : 0 < v := by have := hb.1; omega
      have hp := par_lt h h0 hv
      have ih := chain_depth h hm f (par d v) (by omega) (par_in h hm hb e)
      rw [depth_succ h h0 hv, List.length_cons]
      omega
theorem W_length {d : List Int} (h : IsT d) {v w : Nat} (hv : v < d.length) (hw : w < d.length) : ((W d v w).length : Int) = dist d v w + 1 := by
  have hm := meet_spec h hv hw
  have h1 := chain_depth h hm.2.2 v v (Nat.le_refl _) hm.2.1
  have h2 := chain_depth h hm.2.2 w w (Nat.le_refl _) hm.1
  unfold W dist wayM
  rw [castL_length]
  simp only [List.length_append, List.length_reverse, List.length_cons, List.length_nil]
  omega
theorem W_head {d : List Int} (v w : Nat) : ∃ t, W d v w = (v : Int) :: t := by
  unfold W wayM
  rcases Nat.eq_zero_or_pos v with e | e
  · subst e
    simp only [chain, List.nil_append]
    have : meetM d 0 w = 0 := rfl
    rw [this]
    exact ⟨_, rfl⟩
  · obtain ⟨f, rfl⟩ : ∃ f, v = f + 1 := ⟨v - 1, by omega⟩
    by_cases e2 : f + 1 = meetM d (f + 1) w
    · simp only [chain]
      rw [if_pos e2, ← e2]
      exact ⟨_, rfl⟩
    · simp only [chain]
      rw [if_neg e2]
      exact ⟨_, rfl⟩
theorem maxZ_ge (ws : List Int) : ∀ (n : Nat), 0 ≤ maxZ ws n ∧ ∀ i, i < n → ws.getD i 0 ≤ maxZ ws n
  | 0 => ⟨Int.le_refl _, fun i hi => absurd hi (Nat.not_lt_zero i)⟩
  | n + 1 => by
    have ih := maxZ_ge ws n
    simp only [maxZ]
    unfold mx
    refine ⟨?_, fun i hi => ?_⟩
    · split <;> omega
    · rcases Nat.lt_succ_iff_lt_or_eq.1 hi with h | h
      · have := ih.2 i h
        split <;> omega
      · subst h
        split <;> omega
theorem maxZ_at (ws : List Int) : ∀ (n : Nat), maxZ ws n = 0 ∨ ∃ i, i < n ∧ ws.getD i 0 = maxZ ws n
  | 0 => Or.inl rfl
  | n + 1 => by
    have ih := maxZ_at ws n
    simp only [maxZ]
    unfold mx
    split
    · right; exact ⟨n, by omega, rfl⟩
    · rcases ih with h | ⟨i, h1, h2⟩
      · left; exact h
      · right; exact ⟨i, by omega, h2⟩
def farM (d : List Int) : Int := maxZ (reachL d) (reachL d).length
section
variable {d : List Int} (h : IsT d) (hn : d.length ≤ 1000)
include h hn
theorem reach_ge {v w : Nat} (hv : v < d.length) (hw : w < d.length) : dist d v w ≤ reachM d v := by
  have := (maxZ_ge (rowM d v) (rowM d v).length).2 w (by rw [rowM_length]; exact hw)
  unfold reachM
  rw [rowM, getD_map_range hw] at this
  exact this
theorem reach_at {v : Nat} (hv : v < d.length) : ∃ w, w < d.length ∧ dist d v w = reachM d v := by
  rcases maxZ_at (rowM d v) (rowM d v).length with e | ⟨w, h1, h2⟩
  · exact ⟨v, hv, by rw [dist_self h hv]; exact e.symm⟩
  · rw [rowM_length] at h1
    refine ⟨w, h1, ?_⟩
    unfold reachM
    rw [← h2, rowM, getD_map_range h1]
theorem reach_nn {v : Nat} (hv : v < d.length) : 0 ≤ reachM d v := (maxZ_ge (rowM d v) (rowM d v).length).1
theorem far_ge {v : Nat} (hv : v < d.length) : reachM d v ≤ farM d := by
  have := (maxZ_ge (reachL d) (reachL d).length).2 v (by rw [reachL_length]; exact hv)
  unfold farM
  rw [reachL, getD_map_range hv] at this
  exact this
theorem far_at : ∃ v, v < d.length ∧ reachM d v = farM d := by
  rcases maxZ_at (reachL d) (reachL d).length with e | ⟨v, h1, h2⟩
  · have h0 := h.len
    refine ⟨0, h0, ?_⟩
    have h1 := far_ge h hn h0
    have h2 := reach_nn h hn h0
    have e2 : farM d = 0 := e
    omega
  · rw [reachL_length] at h1
    refine ⟨v, h1, ?_⟩
    unfold farM
    rw [← h2, reachL, getD_map_range h1]
theorem W_few {v w : Nat} (hv : v < d.length) (hw : w < d.length) : (W d v w).length ≤ 2001 := by
  have := W_length h hv hw
  have := dist_bd h hn hv hw
  omega
def BestI (d : List Int) (v w : Nat) (B : List Int) : Prop := (B = [] ∨ ∃ a b, a < d.length ∧ b < d.length ∧ B = W d a b) ∧ ∀ a b, b < d.length → (a < v ∨ (a = v ∧ b < w)) → ¬ better (W d a b) B
omit hn in
theorem best_take {v w : Nat} {B : List Int} (hv : v < d.length) (hw : w < d.length) (hb : BestI d v w B) (hx : better (W d v w) B) : BestI d v (w + 1) (W d v w) := by
  refine ⟨Or.inr ⟨v, w, hv, hw, rfl⟩, fun a b hb' hc => ?_⟩
  by_cases e : a = v ∧ b = w
  · obtain ⟨rfl, rfl⟩ := e
    exact better_irrefl _
  · exact fun hy => hb.2 a b hb' (by omega) (better_trans hy hx)
omit h hn in
theorem best_keep {v w : Nat} {B : List Int} (hb : BestI d v w B) (hx : ¬ better (W d v w) B) : BestI d v (w + 1) B := by
  refine ⟨hb.1, fun a b hb' hc => ?_⟩
  by_cases e : a = v ∧ b = w
  · obtain ⟨rfl, rfl⟩ := e
    exact hx
  · exact hb.2 a b hb' (by omega)
omit hn in
theorem best_few (hn : d.length ≤ 1000) {v w : Nat} {B : List Int} (hb : BestI d v w B) : B.length ≤ 2001 := by
  rcases hb.1 with e | ⟨a, b, h1, h2, e⟩
  · subst e; simp
  · subst e; exact W_few h hn h1 h2
theorem impl_longest_in {v : Nat} (hv : v < d.length) {R : List Int → Prop} (H : ∀ B, BestI d (v + 1) 0 B → ∃ r, R r ∧ Ev (fun k => impl_LongestWay.l0 k B (d.length : Int) ((v + 1 : Nat) : Int) d) (r, 0)) : ∀ (m w : Nat) (B : List Int), w + m = d.length → BestI d v w B →
    ∃ r, R r ∧ Ev (fun k => impl_LongestWay.l1 k B (v : Int) (d.length : Int) (v : Int) (d.length : Int) (w : Int) d) (r, 0)
  | 0, w, B, hw, hb => by
    obtain ⟨r, h1, h2⟩ := H B ⟨hb.1, fun a b hb' hc => hb.2 a b hb' (by omega)⟩
    refine ⟨r, h1, ?_⟩
    refine Ev.step (fun k => by rw [impl_LongestWay.l1]) ?_
    rw [w64s (i := v) (by omega)]
    exact ev_neg (by omega) h2
  | m + 1, w, B, hw, hb => by
    have hwl : w < d.length := by omega
    have hf := W_few h hn hv hwl
    have hW : (castL (wayM d v w)).length = (W d v w).length := rfl
    by_cases hx : better (W d v w) B
    · obtain ⟨r, h1, h2⟩ := impl_longest_in hv H m (w + 1) (W d v w) (by omega) (best_take h hv hwl hb hx)
      refine ⟨r, h1, ?_⟩
      refine Ev.step (fun k => by rw [impl_LongestWay.l1]) ?_
      rw [w64s (by omega)]
      refine ev_pos (by omega) (Ev.bind (impl_wayBetween_ev h hn hv hwl) ?_)
      change Ev (fun k => if ((W d v w).length : Int) > (B.length : Int) then impl_LongestWay.l1 k (W d v w) _ _ _ _ _ _ else _) _
      rcases hx with hx | ⟨hx, hy⟩
      · exact ev_pos (by omega) h2
      · obtain ⟨c, c1, c2⟩ := compare_ev (W d v w) B hx (by omega)
        exact ev_neg (by omega) (ev_pos (by omega) (Ev.bind c1 (ev_pos (c2.2 hy) h2)))
    · obtain ⟨r, h1, h2⟩ := impl_longest_in hv H m (w + 1) B (by omega) (best_keep hb hx)
      refine ⟨r, h1, ?_⟩
      refine Ev.step (fun k => by rw [impl_LongestWay.l1]) ?_
      rw [w64s (by omega)]
      refine ev_pos (by omega) (Ev.bind (impl_wayBetween_ev h hn hv hwl) ?_)
      change Ev (fun k => if ((W d v w).length : Int) > (B.length : Int) then impl_LongestWay.l1 k (W d v w) _ _ _ _ _ _ else _) _
      unfold better at hx
      refine ev_neg (by omega) ?_
      by_cases e : (W d v w).length = B.length
      · obtain ⟨c, c1, c2⟩ := compare_ev (W d v w) B e (by omega)
        exact ev_pos (by omega) (Ev.bind c1 (ev_neg (fun hc => hx (Or.inr ⟨e, c2.1 hc⟩)) h2))
      · exact ev_neg (by omega) h2
theorem impl_longest_loop : ∀ (m v : Nat) (B : List Int), v + m = d.length → BestI d v 0 B → ∃ r, BestI d d.length 0 r ∧ Ev (fun k => impl_LongestWay.l0 k B (d.length : Int) (v : Int) d) (r, 0)
  | 0, v, B, hv, hb => by
    obtain rfl : v = d.length := by omega
    refine ⟨B, hb, ?_⟩
    refine Ev.step (fun k => by rw [impl_LongestWay.l0]) ?_
    exact ev_neg (by omega) (Ev.now _)
  | m + 1, v, B, hv, hb => by
    obtain ⟨r, h1, h2⟩ := impl_longest_in h hn (by omega) (fun B hB => impl_longest_loop m (v + 1) B (by omega) hB) d.length 0 B (by omega) hb
    refine ⟨r, h1, ?_⟩
    refine Ev.step (fun k => by rw [impl_LongestWay.l0]) ?_
    exact ev_pos (by omega) h2
def BestS (d : List Int) (v w : Nat) (B : List Int) : Prop := (B = [] ∧ ∀ b, b < w → dist d v b ≠ farM d) ∨ ((∃ b, b < d.length ∧ dist d v b = farM d ∧ B = W d v b) ∧ ∀ b, b < w → dist d v b = farM d → lexLt (W d v b) B = false)
theorem spec_less_loop {v w : Nat} (own B : List Int) (hl : own.length = B.length) (hf : own.length ≤ 2001) (h0 : 0 < B.length) (r : List Int × Int)
    (H : Ev (fun k => spec_LongestWay.l2 k (distL d) (farM d) (v : Int) (if lexLt own B = true then own else B) (wrap64 ((w : Int) + 1)) d) r) : ∀ (m i : Nat), i + m = B.length → lexLt (own.drop i) (B.drop i) = lexLt own B →
    Ev (fun k => spec_LongestWay.l3 k (distL d) (farM d) (v : Int) B (w : Int) own ((B.length : Int) == 0) (i : Int) d) r
  | 0, i, hi, he => by
    rw [List.drop_of_length_le (by omega), List.drop_of_length_le (by omega)] at he
    rw [← he, if_neg (by simp [lexLt])] at H
    refine Ev.step (fun k => by rw [spec_LongestWay.l3]) ?_
    refine ev_neg (by omega) (ev_neg ?_ H)
    rw [beq_iff_eq]; omega
  | m + 1, i, hi, he => by
    have ea : rd own (i : Int) = own[i] := rd_lt (by omega)
    have eb : rd B (i : Int) = B[i] := rd_lt (by omega)
    have he2 := he
    rw [lex_drop (by omega) (by omega)] at he
    refine Ev.step (fun k => by rw [spec_LongestWay.l3]) ?_
    rw [ea, eb]
    refine ev_pos (by omega) (ev_pos (by omega) (ev_pos (by omega) ?_))
    by_cases e1 : own[i] < B[i]
    · rw [if_pos e1] at he
      rw [← he, if_pos rfl] at H
      exact ev_neg (by omega) (ev_pos e1 H)
    · rw [if_neg e1] at he
      by_cases e2 : B[i] < own[i]
      · rw [if_pos e2] at he
        rw [← he, if_neg (by decide)] at H
        exact ev_neg (by omega) (ev_neg e1 H)
      · rw [if_neg e2] at he
        refine ev_pos (by omega) ?_
        rw [w64s (by omega)]
        exact spec_less_loop own B hl hf h0 r H m (i + 1) (by omega) he
theorem spec_longest_in {v : Nat} (hv : v < d.length) : ∀ (m w : Nat) (B : List Int), w + m = d.length → BestS d v w B → ∃ r, BestS d v d.length r ∧ Ev (fun k => spec_LongestWay.l2 k (distL d) (farM d) (v : Int) B (w : Int) d) (r, 0)
  | 0, w, B, hw, hb => by
    obtain rfl : w = d.length := by omega
    refine ⟨B, hb, ?_⟩
    refine Ev.step (fun k => by rw [spec_LongestWay.l2]) ?_
    simp only [l01N_ev]
    exact ev_some (ev_neg (by omega) (Ev.now _))
  | m + 1, w, B, hw, hb => by
    have hwl : w < d.length := by omega
    have hf := W_few h hn hv hwl
    have hlen := W_length h hv hwl
    have hrow := distL_row hv
    have hg : rd (rowM d v) (w : Int) = dist d v w := by
      show (rowM d v).getD w 0 = _
      rw [rowM, getD_map_range hwl]
    by_cases e : dist d v w = farM d
    · have goes : ∀ (B' : List Int), BestS d v (w + 1) B' → (∀ r, Ev (fun k => spec_LongestWay.l2 k (distL d) (farM d) (v : Int) B' (wrap64 ((w : Int) + 1)) d) r → Ev (fun k => spec_LongestWay.l3 k (distL d) (farM d) (v : Int) B (w : Int) (W d v w) ((B.length : Int) == 0) 0 d) r) →
          ∃ r, BestS d v d.length r ∧ Ev (fun k => spec_LongestWay.l2 k (distL d) (farM d) (v : Int) B (w : Int) d) (r, 0) := by
        intro B' hB hr
        obtain ⟨r, h1, h2⟩ := spec_longest_in hv m (w + 1) B' (by omega) hB
        refine ⟨r, h1, ?_⟩
        refine Ev.step (fun k => by rw [spec_LongestWay.l2]) ?_
        simp only [l01N_ev]
        rw [hrow, hg]
        refine ev_some (ev_pos (by omega) (ev_pos (by omega) (ev_pos (by rw [distL_length]; omega) (ev_pos (by omega) (ev_pos (by rw [rowM_length]; omega) (ev_pos e (Ev.bind (spec_l05Way_ev h hn hv hwl) (hr _ ?_))))))))
        rw [w64s (by omega)]
        exact h2
      rcases hb with ⟨rfl, hb⟩ | ⟨⟨b, hb1, hb2, rfl⟩, hb3⟩
      · refine goes (W d v w) (Or.inr ⟨⟨w, hwl, e, rfl⟩, fun b hb' hd => ?_⟩) (fun r hr => ?_)
        · rcases Nat.lt_succ_iff_lt_or_eq.1 hb' with h1 | h1
          · exact absurd hd (hb b h1)
          · subst h1; exact lex_irrefl _
        · refine Ev.step (fun k => by rw [spec_LongestWay.l3]) ?_
          exact ev_neg (by simp) (ev_pos rfl hr)
      · have hlb := W_length h hv hb1
        refine goes (if lexLt (W d v w) (W d v b) = true then W d v w else W d v b) (Or.inr ?_) (fun r hr => spec_less_loop h hn (W d v w) (W d v b) (by omega) hf (by obtain ⟨t, ht⟩ := W_head (d := d) v b; rw [ht]; simp) r hr _ 0 (Nat.zero_add _) rfl)
        by_cases hx : lexLt (W d v w) (W d v b) = true
        · rw [if_pos hx]
          refine ⟨⟨w, hwl, e, rfl⟩, fun c hc hd => ?_⟩
          rcases Nat.lt_succ_iff_lt_or_eq.1 hc with h1 | h1
          · cases ey : lexLt (W d v c) (W d v w) with
            | false => rfl
            | true =>
              have := hb3 c h1 hd
              rw [lex_trans _ _ _ ey hx] at this
              cases this
          · subst h1; exact lex_irrefl _
        · rw [if_neg hx]
          refine ⟨⟨b, hb1, hb2, rfl⟩, fun c hc hd => ?_⟩
          rcases Nat.lt_succ_iff_lt_or_eq.1 hc with h1 | h1
          · exact hb3 c h1 hd
          · subst h1
            cases ey : lexLt (W d v c) (W d v b) with
            | false => rfl
            | true => exact absurd ey hx
    · have hB : BestS d v (w + 1) B := by
        rcases hb with ⟨rfl, hb⟩ | ⟨hb1, hb3⟩
        · refine Or.inl ⟨rfl, fun b hb' => ?_⟩
          rcases Nat.lt_succ_iff_lt_or_eq.1 hb' with h1 | h1
          · exact hb b h1
          · subst h1; exact e
        · refine Or.inr ⟨hb1, fun b hb' hd => ?_⟩
          rcases Nat.lt_succ_iff_lt_or_eq.1 hb' with h1 | h1
          · exact hb3 b h1 hd
          · subst h1; exact absurd hd e
      obtain ⟨r, h1, h2⟩ := spec_longest_in hv m (w + 1) B (by omega) hB
      refine ⟨r, h1, ?_⟩
      refine Ev.step (fun k => by rw [spec_LongestWay.l2]) ?_
      simp only [l01N_ev]
      rw [hrow, hg, w64s (by omega)]
      exact ev_some (ev_pos (by omega) (ev_pos (by omega) (ev_pos (by rw [distL_length]; omega) (ev_pos (by omega) (ev_pos (by rw [rowM_length]; omega) (ev_neg e h2))))))
def GivesS (d r : List Int) : Prop := ∃ v b, v < d.length ∧ b < d.length ∧ dist d v b = farM d ∧ r = W d v b ∧ (∀ c, c < d.length → dist d v c = farM d → lexLt (W d v c) r = false) ∧ ∀ u, u < v → reachM d u ≠ farM d
theorem spec_longest_loop : ∀ (m v : Nat), v + m = d.length → (∀ u, u < v → reachM d u ≠ farM d) → ∃ r, GivesS d r ∧ Ev (fun k => spec_LongestWay.l1 k (distL d) (reachL d) (farM d) (v : Int) d) (r, 0)
  | 0, v, hv, hu => by
    obtain ⟨u, h1, h2⟩ := far_at h hn
    exact absurd h2 (hu u (by omega))
  | m + 1, v, hv, hu => by
    have hvl : v < d.length := by omega
    have hg : rd (reachL d) (v : Int) = reachM d v := by
      show (reachL d).getD v 0 = _
      rw [reachL, getD_map_range hvl]
    by_cases e : reachM d v = farM d
    · obtain ⟨r, h1, h2⟩ := spec_longest_in h hn hvl d.length 0 [] (by omega) (Or.inl ⟨rfl, fun b hb => absurd hb (Nat.not_lt_zero b)⟩)
      refine ⟨r, ?_, ?_⟩
      · rcases h1 with ⟨_, h1⟩ | ⟨⟨b, hb1, hb2, hb3⟩, h3⟩
        · obtain ⟨w, hw, e2⟩ := reach_at h hn hvl
          exact absurd (e2.trans e) (h1 w hw)
        · exact ⟨v, b, hvl, hb1, hb2, hb3, h3, hu⟩
      · refine Ev.step (fun k => by rw [spec_LongestWay.l1]) ?_
        simp only [l01N_ev]
        rw [hg]
        exact ev_some (ev_pos (by omega) (ev_pos (by omega) (ev_pos (by rw [reachL_length]; omega) (ev_pos e h2))))
    · obtain ⟨r, h1, h2⟩ := spec_longest_loop m (v + 1) (by omega) (fun u hu' => by
        rcases Nat.lt_succ_iff_lt_or_eq.1 hu' with h1 | h1
        · exact hu u h1
        · subst h1; exact e)
      refine ⟨r, h1, ?_⟩
      refine Ev.step (fun k => by rw [spec_LongestWay.l1]) ?_
      simp only [l01N_ev]
      rw [hg, w64s (by omega)]
      exact ev_some (ev_pos (by omega) (ev_pos (by omega) (ev_pos (by rw [reachL_length]; omega) (ev_neg e h2))))
theorem spec_far_loop (r : List Int × Int) (H : Ev (fun k => spec_LongestWay.l1 k (distL d) (reachL d) (farM d) 0 d) r) : ∀ (m v : Nat), v + m = d.length → Ev (fun k => spec_LongestWay.l0 k (distL d) (reachL d) (maxZ (reachL d) v) (v : Int) d) r
  | 0, v, hv => by
    refine Ev.step (fun k => by rw [spec_LongestWay.l0]) ?_
    refine ev_neg (by rw [reachL_length]; omega) ?_
    rw [show v = (reachL d).length by rw [reachL_length]; omega]
    exact H
  | m + 1, v, hv => by
    refine Ev.step (fun k => by rw [spec_LongestWay.l0]) ?_
    refine ev_pos (by rw [reachL_length]; omega) (ev_pos (by omega) ?_)
    rw [w64s (by omega)]
    exact spec_far_loop r H m (v + 1) (by omega)
theorem same_best {r s : List Int} (h1 : GivesS d r) (h2 : BestI d d.length 0 s) : s = r := by
  obtain ⟨v, b, hv, hb, hd, rfl, hc, hu⟩ := h1
  have hlr := W_length h hv hb
  have hbest : ∀ a c, a < d.length → c < d.length → ¬ better (W d a c) (W d v b) := by
    intro a c ha hc'
    have hl := W_length h ha hc'
    have g1 := reach_ge h hn ha hc'
    have g2 := far_ge h hn ha
    rintro (hx | ⟨hx, hy⟩)
    · omega
    · have hdl : dist d a c = farM d := by omega
      have hva : v ≤ a := by
        rcases Nat.lt_or_ge a v with e | e
        · exact absurd (show reachM d a = farM d by omega) (hu a e)
        · exact e
      rcases Nat.lt_or_eq_of_le hva with e | e
      · obtain ⟨t, ht⟩ := W_head (d := d) a c
        obtain ⟨t2, ht2⟩ := W_head (d := d) v b
        rw [ht, ht2] at hy
        simp only [lexLt] at hy
        rw [if_neg (by omega), if_pos (by omega)] at hy
        cases hy
      · subst e
        rw [hc c hc' hdl] at hy
        cases hy
  rcases h2.1 with e | ⟨a, c, ha, hc', e⟩
  · subst e
    exfalso
    refine h2.2 v b hb (Or.inl hv) (Or.inl ?_)
    obtain ⟨t, ht⟩ := W_head (d := d) v b
    rw [ht]; simp
  · subst e
    exact better_total (hbest a c ha hc') (h2.2 v b hb (Or.inl hv))
end
theorem both_LongestWay (l : List Int) (hl : l.length ≤ 1048576) : ∃ r : List Int × Int, r.1.length ≤ 1048576 ∧ Ev (fun k => spec_LongestWay.f k l) r ∧ Ev (fun k => impl_LongestWay.f k l) r := by
  by_cases ht : isTreeM l = true
  · obtain ⟨h, hn⟩ := isTreeM_sound ht
    have hn' : l.length ≤ 1000 := by omega
    obtain ⟨r, h1, h2⟩ := spec_longest_loop h hn' l.length 0 (by omega) (fun u hu => absurd hu (Nat.not_lt_zero u))
    obtain ⟨s, h3, h4⟩ := impl_longest_loop h hn' l.length 0 [] (by omega) ⟨Or.inl rfl, fun a b _ hc => absurd hc (by omega)⟩
    obtain rfl := same_best h hn' h1 h3
    have hf := best_few h hn' h3
    refine ⟨(s, 0), by simp only; omega, ?_, ?_⟩
    · unfold spec_LongestWay.f
      exact Ev.bind (spec_l01Is_ev l hl) (ev_pos ht (Ev.bind (spec_l05Distances_ev h hn') (Ev.bind (spec_l05Reaches_ev h hn') (spec_far_loop h hn' _ h2 l.length 0 (by omega)))))
    · unfold impl_LongestWay.f
      exact Ev.bind (impl_IsTree_ev l) (ev_pos ht h4)
  · refine ⟨([], 1), by simp, ?_, ?_⟩
    · unfold spec_LongestWay.f
      exact Ev.bind (spec_l01Is_ev l hl) (ev_neg ht (Ev.now _))
    · unfold impl_LongestWay.f
      exact Ev.bind (impl_IsTree_ev l) (ev_neg ht (Ev.now _))
end Go.Proofs.Ytdhmoglkcfgikaa.E
namespace Go.Proofs.Ytdhmoglkcfgikaa.Pure
set_option linter.unusedVariables false
set_option linter.unusedSectionVars false
open Go.RowKit Go.Proofs.YtdhmoglkcfgikaaW.PrintWords Go.Proofs.Ytdhmoglkcfgikaa.Base Go.Proofs.Ytdhmoglkcfgikaa.E

theorem FnExactLongestWay : ∀ (l : List Int) , l.length ≤ maxLen → (∀ x ∈ l, (Lit.int .i64 x).wf = true) →  ∃ k, laws_FnExactLongestWay.f k l  = some true := by
  intro l  hm _ 
  apply Ev.rounds
  unfold laws_FnExactLongestWay.f
  simp only [szTree_eq l 1048576 (by decide) (by decide) hm]
  refine ev_some ?_
  by_cases hb : (1048576 : Int) < l.length
  · rw [if_pos hb]
    exact ev_pos (by decide) (Ev.now _)
  · rw [if_neg hb]
    have hl : l.length ≤ 1048576 := by omega
    obtain ⟨r, hr, h1, h2⟩ := both_LongestWay l  hl 
    refine ev_neg (by omega) ?_
    refine Ev.bind (toTree_ev l hl) (Ev.bind h1 (Ev.bind (toTree_ev l hl) (Ev.bind h2 (Ev.bind (eqInt64S_ev _ hr) (ev_pos rfl ?_)))))
    refine Ev.step (fun k => by rw [laws_FnExactLongestWay.j0]) ?_
    refine ev_neg (by simp) ?_
    refine Ev.bind (toTree_ev l hl) (Ev.bind (eqTree_ev l hl) (ev_pos rfl (Ev.bind (markTree_ev l 1 (by decide) (by decide) hl) (ev_neg (by simp only; omega) (Ev.bind (eqInt64S_ev _ hr) (ev_pos rfl ?_))))))
    refine Ev.step (fun k => by rw [laws_FnExactLongestWay.j1]) ?_
    refine ev_neg (by simp) ?_
    refine Ev.bind (markInt64S_ev _ 1 (by decide) (by decide) hr) (Ev.bind (heldInt64S_ev _ 1 (by decide) (by decide) hr) (ev_neg (by omega) (ev_pos rfl (Ev.bind (toTree_ev l hl) (Ev.bind h2 (Ev.bind (eqInt64S_ev _ hr) (ev_pos rfl ?_)))))))
    refine Ev.step (fun k => by rw [laws_FnExactLongestWay.j2]) ?_
    refine ev_neg (by simp) ?_
    exact Ev.bind (heldInt64S_ev _ 1 (by decide) (by decide) hr) (ev_neg (by omega) (ev_pos rfl (Ev.now _)))
end Go.Proofs.Ytdhmoglkcfgikaa.Pure
namespace Go.Proofs.Ytdhmoglkcfgikaa.Open
set_option linter.unusedVariables false
set_option linter.unusedSectionVars false
open Go.RowKit Go.ChangeShapes Go.WideShapes Go.ChangeAt Go.Deep Go.Proofs.YtdhmoglkcfgikaaW.PrintWords
section
variable {H : Type} {enc : TypeId × Value → H} {P : Program} {w : World} {base : Nat} {held : Bool}

def Opens {α : Type} (d : Kd α) (Q : α → Prop) (enc : TypeId × Value → H) (P : Program) (w : World) (base : Nat) (held : Bool) (t : TypeId) : Prop :=
  ∀ (fuel : Nat) (cs : List Value) (x : DataW H × List MemPlace), DataW.trod enc P w base (fun _ => true) held fuel t cs = some x → ∃ a, d.K w a cs ∧ Q a
theorem opens_int {t : TypeId} {k : IntKind} (ht : P.underlying t = some (.int k)) : Opens (Kd.int k) (fun n => (Lit.int k n).wf = true) enc P w base held t := by
  intro fuel cs x h
  obtain ⟨n, rfl, _, hw⟩ := DataW.trod_int ht h
  exact ⟨n, rfl, hw⟩
theorem opens_slice {α : Type} [Inhabited α] {d : Kd α} {Q : α → Prop} {t e : TypeId} (ht : P.underlying t = some (.slice e)) (hc : P.cellsOf e = d.sz) (he : Opens d Q enc P w base held e) :
    Opens (Kd.slice e d) (fun xs => xs.length ≤ maxLen ∧ ∀ y ∈ xs, Q y) enc P w base held t := by
  intro fuel cs x h
  rcases open_slice ht h with ⟨rfl, _⟩ | ⟨a, len, cap, m, n, D, Pl, rfl, _, hl, hm, hmm, _, each⟩
  · exact ⟨[], ⟨none, 0, rfl, Nat.le_refl _, rfl, by simp, fun h0 => by simp at h0⟩, by simp, by simp⟩
  · simp only [if_true] at hmm
    have hx : ∀ i, i < len → ∃ y : α, Q y ∧ ∃ cs', w.cells? base (a.add (i * P.cellsOf e)) (P.cellsOf e) = some cs' ∧ d.K w y cs' := by
      intro i hi
      obtain ⟨cs', h1, h2⟩ := each i (by omega)
      obtain ⟨y, hk, hq⟩ := he _ _ _ h2
      exact ⟨y, hq, cs', h1, hk⟩
    obtain ⟨f, hf⟩ := choose_lt hx
    refine ⟨(List.range len).map f, ⟨some a, cap, by simp, by simpa using hl, by simp, by unfold maxLen at hm; simp; omega, fun _ => ⟨a, rfl, fun j p hj => ?_⟩⟩, by simp; omega, fun y hy => ?_⟩
    · rw [List.getElem?_map] at hj
      have hjl : j < len := by
        rcases Nat.lt_or_ge j len with h | h
        · exact h
        · rw [List.getElem?_eq_none (by simpa using h)] at hj
          cases hj
      rw [List.getElem?_range hjl] at hj
      obtain rfl := Option.some.inj hj
      obtain ⟨_, cs', h1, h2⟩ := hf j hjl
      obtain ⟨_, h3, h4⟩ := World.cells?_some h1
      refine ⟨cs', d.K_len h2, h2, fun i u hu => ?_⟩
      have hi : i < P.cellsOf e := by
        rw [← h3]
        exact (List.getElem?_eq_some_iff.1 hu).1
      have h5 := h4 i hi
      rw [hu] at h5
      rw [Go.Deep.add_add] at h5
      rw [← hc]
      exact h5
    · obtain ⟨i, hi, rfl⟩ := List.mem_map.1 hy
      exact (hf i (List.mem_range.1 hi)).1
theorem slice_in {α : Type} [Inhabited α] {d : Kd α} {Q : α → Prop} {t e : TypeId} {v : Value} {fuel : Nat} {x : DataW H × List MemPlace} (ht : P.underlying t = some (.slice e)) (hc : P.cellsOf e = d.sz) (he : Opens d Q enc P w base held e)
    (h : DataW.trod enc P w base (fun _ => true) held fuel t [v] = some x) : ∃ (A : Option Addr) (c : Nat) (xs : List α), v = .slice A xs.length c ∧ xs.length ≤ c ∧ xs.length ≤ maxLen ∧ d.C w A xs.length xs ∧ ∀ y ∈ xs, Q y := by
  obtain ⟨xs, ⟨A, c, hv, hl, hC⟩, hm, hq⟩ := opens_slice ht hc he _ _ _ h
  obtain rfl : v = .slice A xs.length c := by simpa using hv
  exact ⟨A, c, xs, rfl, hl, hm, hC, hq⟩
theorem open_agg1 {spare : Nat → Bool} {r : Reach} {b0 : Nat} {t : TypeId} {f0 : Field} {v : Value} {d : DataW H} {p : List MemPlace} (hs : P.underlying t = some (.struct #[f0])) (hone : oneCellFields P #[f0] = true) (hC : P.cellsOf t = 1)
    (hv : Value.okWide P w r b0 t v) (h : DataW.Trod enc P w base spare held t v d p) :
    ∃ (v0 : Value) (y0 : DataW H × List MemPlace) (n : Nat), v = .agg #[v0] ∧ DataW.trod enc P w base spare held n f0.type [v0] = some y0 := by
  obtain ⟨cs, rfl, hsz⟩ := okWide_struct hs hv
  obtain ⟨c0, rfl⟩ : ∃ c0, cs = #[c0] := by
    obtain ⟨l⟩ := cs
    match l, hsz.trans hC with
    | [c0], _ => exact ⟨c0, rfl⟩
  obtain ⟨fuel, hf⟩ := h
  obtain ⟨y0, n, hx, _, h0⟩ := trod_struct1 hs hf
  obtain ⟨o0, k0⟩ := hone_of hone 0 f0 rfl
  exact ⟨c0, y0, n, rfl, by simpa [Value.cells, o0, k0] using h0⟩
end
end Go.Proofs.Ytdhmoglkcfgikaa.Open
