/- The row of the law FnExactCombineAutomata, out of its pure statement. -/
import Derived.Test.YtpbfideppdmceaaQCMEx2
import Derived.Test.YtpbfideppdmceaaQCMEx3
import Derived.Test.YtpbfideppdmceaaQCMEx4
import Derived.Test.YtpbfideppdmceaaQCMEx5
import Derived.Test.YtpbfideppdmceaaQCMEx6
import Derived.Test.YtpbfideppdmceaaQCMEx7
import Derived.Test.YtpbfideppdmceaaQCMEx8
import Derived.Test.YtpbfideppdmceaaQCMEx9
import Derived.Test.YtpbfideppdmceaaQCMW
import Derived.Deep.Slices
import Derived.Lib.SmallJoins
import Derived.OpenShut
import Derived.WalkKit
namespace Go.Proofs.Ytpbfideppdmceaa.Base
set_option linter.unusedVariables false
set_option linter.unusedSectionVars false
open Go.RowKit Go.Proofs.YtpbfideppdmceaaW.PrintWords

theorem ev_pos {α : Type} {c : Prop} [Decidable c] {f g : Nat → Option α} {r : α} (h : c) (k : Ev f r) : Ev (fun n => if c then f n else g n) r := by
  simpa [h] using k
theorem ev_neg {α : Type} {c : Prop} [Decidable c] {f g : Nat → Option α} {r : α} (h : ¬ c) (k : Ev g r) : Ev (fun n => if c then f n else g n) r := by
  simpa [h] using k
theorem ev_ite {α : Type} {c : Prop} [Decidable c] {f g : Nat → Option α} {r : α} (h : c → Ev f r) (k : ¬ c → Ev g r) : Ev (fun n => if c then f n else g n) r := by
  by_cases hc : c
  · exact ev_pos hc (h hc)
  · exact ev_neg hc (k hc)
theorem ev_now {α : Type} {a r : α} (h : a = r) : Ev (fun _ => some a) r := h ▸ Ev.now a
theorem ev_some {α β : Type} {f : Nat → α → Option β} {a : α} {r : β} (k : Ev (fun n => f n a) r) : Ev (fun n => (some a).bind (f n)) r := by
  simpa using k
theorem w64 {x : Int} (h1 : -9223372036854775808 ≤ x) (h2 : x ≤ 9223372036854775807) : wrap64 x = x := by unfold wrap64; omega
theorem w64s {i : Nat} (h : i < 9223372036854775807) : wrap64 ((i : Int) + 1) = ((i + 1 : Nat) : Int) := by unfold wrap64; omega
theorem rd_nat (l : List Int) (i : Nat) : rd l (i : Int) = l.getD i 0 := rfl
theorem set_eq {l m : List Int} {i : Nat} (hl : m.length = l.length) (h : ∀ j, j < i → m.getD j 0 = l.getD j 0) : ∀ j, j < i + 1 → (m.set i (l.getD i 0)).getD j 0 = l.getD j 0 := by
  intro j hj
  rw [List.getD_eq_getElem?_getD, List.getElem?_set]
  by_cases e : i = j
  · subst e
    by_cases hlt : i < m.length
    · simp [hlt]
    · rw [if_pos rfl, if_neg hlt, List.getD_eq_getElem?_getD, List.getElem?_eq_none (by omega)]
  · rw [if_neg e, ← List.getD_eq_getElem?_getD]
    exact h j (by omega)
theorem ext_getD {l m : List Int} (hl : m.length = l.length) (h : ∀ j, j < l.length → m.getD j 0 = l.getD j 0) : m = l := by
  apply List.ext_getElem hl
  intro j h1 h2
  have := h j h2
  rwa [List.getD_eq_getElem?_getD, List.getD_eq_getElem?_getD, List.getElem?_eq_getElem h1, List.getElem?_eq_getElem h2] at this
theorem getD_replicate {n j : Nat} {v : Int} (h : j < n) : (List.replicate n v).getD j 0 = v := by
  rw [List.getD_eq_getElem?_getD, List.getElem?_replicate, if_pos h]; rfl
theorem get_set_ne {l : List Int} {i j : Nat} {v : Int} (h : i ≠ j) : (l.set i v).getD j 0 = l.getD j 0 := by
  rw [List.getD_eq_getElem?_getD, List.getElem?_set_ne h, ← List.getD_eq_getElem?_getD]
theorem get_set_eq {l : List Int} {i : Nat} {v : Int} (h : i < l.length) : (l.set i v).getD i 0 = v := by
  rw [List.getD_eq_getElem?_getD, List.getElem?_set_self h]; rfl
end Go.Proofs.Ytpbfideppdmceaa.Base
namespace Go.Proofs.Ytpbfideppdmceaa.Auto
set_option linter.unusedVariables false
set_option linter.unusedSectionVars false
open Go.RowKit Go.Proofs.YtpbfideppdmceaaW.PrintWords Go.Proofs.Ytpbfideppdmceaa.Base

def inS (m : Nat) (s : Int) : Bool := decide (0 ≤ s) && decide (s < m)
theorem inS_iff {m : Nat} {s : Int} : inS m s = true ↔ 0 ≤ s ∧ s < m := by
  unfold inS; rw [Bool.and_eq_true, decide_eq_true_eq, decide_eq_true_eq]
def rowOk (m : Nat) (row : List Int) : Bool := decide (row.length = m) && row.all (inS m)
def goodFrom (m : Nat) (g : List Int) : Nat → Nat → Bool
  | 0, _ => true
  | k + 1, i => (inS m (g.getD i 0) && (decide (i = 0) || decide (g.getD (i - 1) 0 < g.getD i 0))) && goodFrom m g k (i + 1)
def isAutM (st : Int) (S : List (List Int)) (g : List Int) : Bool :=
  decide (1 ≤ S.length) && decide (S.length ≤ 9) && inS S.length st && S.all (rowOk S.length) && goodFrom S.length g g.length 0
def stepM (S : List (List Int)) (a b : Int) : Int := (S.getD a.toNat []).getD b.toNat 0
structure IsA (st : Int) (S : List (List Int)) (g : List Int) : Prop where
  one : 1 ≤ S.length
  nine : S.length ≤ 9
  start : 0 ≤ st ∧ st < S.length
  row : ∀ i, i < S.length → (S.getD i []).length = S.length
  step : ∀ i j, i < S.length → j < S.length → 0 ≤ (S.getD i []).getD j 0 ∧ (S.getD i []).getD j 0 < S.length
  good : ∀ i, i < g.length → 0 ≤ g.getD i 0 ∧ g.getD i 0 < S.length
  asc : ∀ i, 0 < i → i < g.length → g.getD (i - 1) 0 < g.getD i 0
theorem goodFrom_sound {m : Nat} {g : List Int} : ∀ (k i : Nat), goodFrom m g k i = true → ∀ j, i ≤ j → j < i + k → (0 ≤ g.getD j 0 ∧ g.getD j 0 < m) ∧ (0 < j → g.getD (j - 1) 0 < g.getD j 0)
  | 0, i, _, j, h1, h2 => by omega
  | k + 1, i, h, j, h1, h2 => by
    simp only [goodFrom, Bool.and_eq_true, Bool.or_eq_true, decide_eq_true_eq, inS_iff] at h
    by_cases e : j = i
    · subst e
      refine ⟨h.1.1, fun h0 => ?_⟩
      rcases h.1.2 with h3 | h3
      · omega
      · exact h3
    · exact goodFrom_sound k (i + 1) h.2 j (by omega) (by omega)
theorem all_getD {α : Type} {p : α → Bool} {l : List α} (h : l.all p = true) (x : α) {i : Nat} (hi : i < l.length) : p (l.getD i x) = true := by
  rw [List.getD_eq_getElem?_getD, List.getElem?_eq_getElem hi]
  exact List.all_eq_true.1 h _ (List.getElem_mem hi)
theorem isAutM_sound {st : Int} {S : List (List Int)} {g : List Int} (h : isAutM st S g = true) : IsA st S g := by
  unfold isAutM at h
  simp only [Bool.and_eq_true, decide_eq_true_eq, inS_iff] at h
  obtain ⟨⟨⟨⟨h1, h2⟩, h3⟩, h4⟩, h5⟩ := h
  have hr : ∀ i, i < S.length → rowOk S.length (S.getD i []) = true := fun i hi => all_getD h4 [] hi
  have hg := goodFrom_sound g.length 0 h5
  refine ⟨h1, h2, h3, fun i hi => ?_, fun i j hi hj => ?_, fun i hi => (hg i (by omega) (by omega)).1, fun i h0 hi => (hg i (by omega) (by omega)).2 h0⟩
  · have := hr i hi
    simp only [rowOk, Bool.and_eq_true, decide_eq_true_eq] at this
    exact this.1
  · have := hr i hi
    simp only [rowOk, Bool.and_eq_true, decide_eq_true_eq] at this
    exact inS_iff.1 (all_getD this.2 0 (by omega))
structure Sts (m n : Nat) (out : List Int) : Prop where
  len : out.length = n
  mem : ∀ j, j < n → 0 ≤ out.getD j 0 ∧ out.getD j 0 < m
theorem Sts.set {m n : Nat} {out : List Int} (h : Sts m n out) (v : Nat) (hv : v < n) {x : Int} (hx : 0 ≤ x ∧ x < m) : Sts m n (out.set v x) := by
  refine ⟨by rw [List.length_set, h.len], fun j hj => ?_⟩
  by_cases e : v = j
  · subst e; rw [get_set_eq (by rw [h.len]; exact hv)]; exact hx
  · rw [get_set_ne e]; exact h.mem j hj
theorem IsA.stepM {st : Int} {S : List (List Int)} {g : List Int} (h : IsA st S g) {a b : Int} (ha : 0 ≤ a ∧ a < S.length) (hb : 0 ≤ b ∧ b < S.length) : 0 ≤ stepM S a b ∧ stepM S a b < S.length :=
  h.step a.toNat b.toNat (by omega) (by omega)
theorem Sts.zero {m : Nat} (hm : 1 ≤ m) (n : Nat) : Sts m n (List.replicate n 0) := ⟨by simp, fun j hj => by rw [getD_replicate hj]; omega⟩
end Go.Proofs.Ytpbfideppdmceaa.Auto
namespace Go.Proofs.Ytpbfideppdmceaa.E
set_option linter.unusedVariables false
set_option linter.unusedSectionVars false
open Go.RowKit Go.Proofs.YtpbfideppdmceaaW.PrintWords Go.Proofs.Ytpbfideppdmceaa.Base

theorem toInt64S_loop (x0 : List Int) (hn : x0.length ≤ 1048576) : ∀ (m i : Nat) (x3 : List Int), i + m = x0.length → x3.length = x0.length → (∀ j, j < i → x3.getD j 0 = x0.getD j 0) → Ev (fun k => laws_toInt64S.l0 k x0 x3 (i : Int)) x0 := by
  intro m
  induction m with
  | zero =>
    intro i x3 h1 h2 h3
    refine Ev.step (fun k => by rw [laws_toInt64S.l0]) ?_
    refine ev_neg (by omega) ?_
    exact ev_now (ext_getD h2 (fun j hj => h3 j (by omega)))
  | succ m ih =>
    intro i x3 h1 h2 h3
    refine Ev.step (fun k => by rw [laws_toInt64S.l0]) ?_
    refine ev_pos (by omega) (ev_pos (by omega) (ev_pos (by omega) ?_))
    rw [w64s (by omega)]
    exact ih (i + 1) _ (by omega) (by simpa using h2) (set_eq h2 h3)
theorem toInt64S_ev (l : List Int) (hn : l.length ≤ 1048576) : Ev (fun k => laws_toInt64S.f k l) l := by
  unfold laws_toInt64S.f
  refine ev_pos (by omega) (ev_pos (by simp; omega) ?_)
  exact toInt64S_loop l hn l.length 0 _ (by omega) (by simp) (fun j hj => by omega)
theorem eqInt64S_loop (a : List Int) (hn : a.length ≤ 1048576) : ∀ (m i : Nat), i + m = a.length → Ev (fun k => laws_eqInt64S.l0 k a a (i : Int)) true := by
  intro m
  induction m with
  | zero =>
    intro i h1
    refine Ev.step (fun k => by rw [laws_eqInt64S.l0]) ?_
    refine ev_neg (by omega) ?_
    exact Ev.now _
  | succ m ih =>
    intro i h1
    refine Ev.step (fun k => by rw [laws_eqInt64S.l0]) ?_
    refine ev_pos (by omega) (ev_pos (by omega) (ev_pos (by omega) (ev_pos rfl ?_)))
    rw [w64s (by omega)]
    exact ih (i + 1) (by omega)
theorem eqInt64S_ev (a : List Int) (hn : a.length ≤ 1048576) : Ev (fun k => laws_eqInt64S.f k a a) true := by
  unfold laws_eqInt64S.f
  exact ev_pos rfl (eqInt64S_loop a hn a.length 0 (by omega))
def marks (m : Int) : Nat → List Int
  | 0 => []
  | n + 1 => m :: marks (m + 1) n
theorem marks_length : ∀ (n : Nat) (m : Int), (marks m n).length = n
  | 0, _ => rfl
  | n + 1, m => by simp [marks, marks_length n]
theorem marks_getD : ∀ (n : Nat) (m : Int) (j : Nat), j < n → (marks m n).getD j 0 = m + j
  | 0, _, j, h => by omega
  | n + 1, m, 0, _ => by simp [marks]
  | n + 1, m, j + 1, h => by
    have := marks_getD n (m + 1) j (by omega)
    simp only [marks, List.getD_cons_succ]
    omega
theorem markInt64S_loop (n : Nat) (m0 : Int) (h0 : 0 ≤ m0) (h1 : m0 ≤ 4611686018427387904) (hn : n ≤ 1048576) : ∀ (m i : Nat) (x : List Int), i + m = n → x.length = n → (∀ j, j < i → x.getD j 0 = m0 + j) → Ev (fun k => laws_markInt64S.l0 k x (m0 + i) (i : Int)) (m0 + n, marks m0 n) := by
  intro m
  induction m with
  | zero =>
    intro i x h2 h3 h4
    refine Ev.step (fun k => by rw [laws_markInt64S.l0]) ?_
    refine ev_neg (by omega) (ev_now ?_)
    have e : x = marks m0 n := ext_getD (by rw [marks_length, h3]) (fun j hj => by rw [marks_length] at hj; rw [h4 j (by omega), marks_getD n m0 j hj])
    rw [e, show i = n by omega]
  | succ m ih =>
    intro i x h2 h3 h4
    refine Ev.step (fun k => by rw [laws_markInt64S.l0]) ?_
    refine ev_pos (by omega) (ev_pos (by omega) ?_)
    rw [w64s (by omega), w64 (by omega) (by omega), show m0 + (i : Int) + 1 = m0 + ((i + 1 : Nat) : Int) by omega]
    refine ih (i + 1) _ (by omega) (by simpa using h3) (fun j hj => ?_)
    by_cases e : i = j
    · subst e
      rw [show ((i : Int)).toNat = i from rfl, get_set_eq (by omega)]
    · rw [show ((i : Int)).toNat = i from rfl, get_set_ne e]
      exact h4 j (by omega)
theorem markInt64S_ev (l : List Int) (m0 : Int) (h0 : 0 ≤ m0) (h1 : m0 ≤ 4611686018427387904) (hn : l.length ≤ 1048576) : Ev (fun k => laws_markInt64S.f k l m0) (m0 + l.length, marks m0 l.length) := by
  unfold laws_markInt64S.f
  have := markInt64S_loop l.length m0 h0 h1 hn l.length 0 l (by omega) rfl (fun j hj => by omega)
  simpa using this
theorem heldInt64S_loop (n : Nat) (m0 : Int) (h0 : 0 ≤ m0) (h1 : m0 ≤ 4611686018427387904) (hn : n ≤ 1048576) : ∀ (m i : Nat), i + m = n → Ev (fun k => laws_heldInt64S.l0 k (marks m0 n) (m0 + i) (i : Int)) (m0 + n) := by
  intro m
  induction m with
  | zero =>
    intro i h2
    refine Ev.step (fun k => by rw [laws_heldInt64S.l0]) ?_
    refine ev_neg (by rw [marks_length]; omega) (ev_now ?_)
    rw [show i = n by omega]
  | succ m ih =>
    intro i h2
    refine Ev.step (fun k => by rw [laws_heldInt64S.l0]) ?_
    refine ev_pos (by rw [marks_length]; omega) (ev_pos (by omega) (ev_pos (marks_getD n m0 i (by omega)) ?_))
    rw [w64s (by omega), w64 (by omega) (by omega), show m0 + (i : Int) + 1 = m0 + ((i + 1 : Nat) : Int) by omega]
    exact ih (i + 1) (by omega)
theorem heldInt64S_ev (n : Nat) (m0 : Int) (h0 : 0 ≤ m0) (h1 : m0 ≤ 4611686018427387904) (hn : n ≤ 1048576) : Ev (fun k => laws_heldInt64S.f k (marks m0 n) m0) (m0 + n) := by
  unfold laws_heldInt64S.f
  have := heldInt64S_loop n m0 h0 h1 hn n 0 (by omega)
  simpa using this
end Go.Proofs.Ytpbfideppdmceaa.E
namespace Go.Proofs.Ytpbfideppdmceaa.E
set_option linter.unusedVariables false
set_option linter.unusedSectionVars false
open Go.RowKit Go.Proofs.YtpbfideppdmceaaW.PrintWords Go.Proofs.Ytpbfideppdmceaa.Base Go.Proofs.Ytpbfideppdmceaa.Auto

structure SmallA (S : List (List Int)) (g : List Int) : Prop where
  rows : S.length ≤ 1048576
  each : ∀ j, j < S.length → (S.getD j []).length ≤ 1048576
  good : g.length ≤ 1048576
theorem l01In_eq (a b c : Int) : spec_l01In.f a b c = some (decide (b ≤ a) && decide (a ≤ c)) := by
  unfold spec_l01In.f
  by_cases h : a ≥ b
  · rw [if_pos h]; simp [show b ≤ a from h]
  · rw [if_neg h]; simp [show ¬ b ≤ a from h]
theorem rdL_nat (S : List (List Int)) (i : Nat) : rd_L1 S (i : Int) = S.getD i [] := rfl
theorem sz_row (l : List Int) (a : Int) (h0 : 0 ≤ a) (h1 : a ≤ 1048576) (hl : l.length ≤ maxLen) : laws_szInt64S.f l a = some (if a < l.length then -1 else a - l.length) := by
  unfold maxLen at hl
  unfold laws_szInt64S.f
  rw [w64 (by omega) (by omega)]
  by_cases h : a < l.length
  · rw [if_pos (by omega), if_pos h]
  · rw [if_neg (by omega), if_neg h]
theorem sz_loop (S : List (List Int)) (hS : S.length ≤ 1048576) (hm : ∀ j, j < S.length → (S.getD j []).length ≤ maxLen) : ∀ (m i : Nat) (a : Int), i + m = S.length → 0 ≤ a → a ≤ 1048576 →
    ∃ r, Ev (fun k => laws_szInt64SS.l0 k S a (i : Int)) r ∧ (r = -1 ∨ (0 ≤ r ∧ r ≤ a ∧ ∀ j, i ≤ j → j < S.length → (S.getD j []).length ≤ 1048576))
  | 0, i, a, hi, h0, h1 => by
    refine ⟨a, ?_, .inr ⟨h0, Int.le_refl _, fun j hj hl => by omega⟩⟩
    refine Ev.step (fun k => by rw [laws_szInt64SS.l0]) ?_
    exact ev_neg (by omega) (Ev.now _)
  | m + 1, i, a, hi, h0, h1 => by
    have hr := sz_row (S.getD i []) a h0 h1 (hm i (by omega))
    by_cases hx : a < (S.getD i []).length
    · refine ⟨-1, ?_, .inl rfl⟩
      refine Ev.step (fun k => by rw [laws_szInt64SS.l0]) ?_
      rw [rdL_nat, hr, if_pos hx]
      exact ev_pos (by omega) (ev_pos (by omega) (ev_some (ev_pos (by decide) (Ev.now _))))
    · obtain ⟨r, h2, h3⟩ := sz_loop S hS hm m (i + 1) (a - (S.getD i []).length) (by omega) (by omega) (by omega)
      refine ⟨r, ?_, ?_⟩
      · refine Ev.step (fun k => by rw [laws_szInt64SS.l0]) ?_
        rw [rdL_nat, hr, if_neg hx, w64s (by omega)]
        exact ev_pos (by omega) (ev_pos (by omega) (ev_some (ev_neg (by omega) h2)))
      · rcases h3 with h3 | ⟨h3, h4, h5⟩
        · exact .inl h3
        · refine .inr ⟨h3, by omega, fun j hj hl => ?_⟩
          by_cases e : j = i
          · subst e; omega
          · exact h5 j (by omega) hl
theorem szAutomaton_ev (st : Int) (S : List (List Int)) (g : List Int) (hS : S.length ≤ maxLen) (hm : ∀ j, j < S.length → (S.getD j []).length ≤ maxLen) (hg : g.length ≤ maxLen) :
    ∃ r, Ev (fun k => laws_szAutomaton.f k st S g 1048576) r ∧ (r < 0 ∨ (0 ≤ r ∧ r ≤ 1048576 ∧ SmallA S g)) := by
  unfold maxLen at hS
  have fin : ∀ r1 : Int, Ev (fun k => laws_szInt64SS.f k S 1048576) r1 → (r1 = -1 ∨ (0 ≤ r1 ∧ r1 ≤ 1048576 ∧ S.length ≤ 1048576 ∧ ∀ j, j < S.length → (S.getD j []).length ≤ 1048576)) →
      ∃ r, Ev (fun k => laws_szAutomaton.f k st S g 1048576) r ∧ (r < 0 ∨ (0 ≤ r ∧ r ≤ 1048576 ∧ SmallA S g)) := by
    intro r1 h1 h2
    rcases h2 with h2 | ⟨h2, h3, h4, h5⟩
    · refine ⟨-1, ?_, .inl (by decide)⟩
      unfold laws_szAutomaton.f
      exact Ev.bind h1 (ev_pos (by omega) (Ev.now _))
    · have hr := sz_row g r1 h2 h3 hg
      by_cases hx : r1 < g.length
      · refine ⟨-1, ?_, .inl (by decide)⟩
        unfold laws_szAutomaton.f
        refine Ev.bind h1 (ev_neg (by omega) ?_)
        simp only [hr, if_pos hx]
        exact ev_some (ev_pos (by decide) (Ev.now _))
      · refine ⟨r1 - g.length, ?_, .inr ⟨by omega, by omega, h4, h5, by omega⟩⟩
        unfold laws_szAutomaton.f
        refine Ev.bind h1 (ev_neg (by omega) ?_)
        simp only [hr, if_neg hx]
        exact ev_some (ev_neg (by omega) (Ev.now _))
  by_cases hb : (1048576 : Int) < S.length
  · refine fin (-1) ?_ (.inl rfl)
    unfold laws_szInt64SS.f
    rw [w64 (by omega) (by omega)]
    exact ev_pos (by omega) (Ev.now _)
  · obtain ⟨r, h1, h2⟩ := sz_loop S (by omega) hm S.length 0 (1048576 - S.length) (by omega) (by omega) (by omega)
    refine fin r ?_ ?_
    · unfold laws_szInt64SS.f
      rw [w64 (by omega) (by omega)]
      exact ev_neg (by omega) h1
    · rcases h2 with h2 | ⟨h2, h3, h4⟩
      · exact .inl h2
      · exact .inr ⟨h2, by omega, by omega, fun j hj => h4 j (by omega) hj⟩
theorem ext_rows {l m : List (List Int)} (hl : m.length = l.length) (h : ∀ j, j < l.length → m.getD j [] = l.getD j []) : m = l := by
  apply List.ext_getElem hl
  intro j h1 h2
  have := h j h2
  rwa [List.getD_eq_getElem?_getD, List.getD_eq_getElem?_getD, List.getElem?_eq_getElem h1, List.getElem?_eq_getElem h2] at this
theorem getr_set_eq {l : List (List Int)} {i : Nat} {v : List Int} (h : i < l.length) : (l.set i v).getD i [] = v := by
  rw [List.getD_eq_getElem?_getD, List.getElem?_set_self h]; rfl
theorem getr_set_ne {l : List (List Int)} {i j : Nat} {v : List Int} (h : i ≠ j) : (l.set i v).getD j [] = l.getD j [] := by
  rw [List.getD_eq_getElem?_getD, List.getElem?_set_ne h, ← List.getD_eq_getElem?_getD]
section
variable {S : List (List Int)} {g : List Int} (hs : SmallA S g)
include hs
theorem toSS_loop : ∀ (m i : Nat) (x : List (List Int)), i + m = S.length → x.length = S.length → (∀ j, j < i → x.getD j [] = S.getD j []) → Ev (fun k => laws_toInt64SS.l0 k S x (i : Int)) S
  | 0, i, x, hi, hx, hj => by
    refine Ev.step (fun k => by rw [laws_toInt64SS.l0]) ?_
    exact ev_neg (by omega) (ev_now (ext_rows hx (fun j h => hj j (by omega))))
  | m + 1, i, x, hi, hx, hj => by
    have hr := hs.rows
    refine Ev.step (fun k => by rw [laws_toInt64SS.l0]) ?_
    rw [rdL_nat]
    refine ev_pos (by omega) (ev_pos (by omega) (Ev.bind (toInt64S_ev _ (hs.each i (by omega))) (ev_pos (by omega) ?_)))
    rw [w64s (by omega)]
    refine toSS_loop m (i + 1) _ (by omega) (by simpa using hx) (fun j h => ?_)
    rw [show ((i : Int)).toNat = i from rfl]
    by_cases e : i = j
    · subst e; exact getr_set_eq (by omega)
    · rw [getr_set_ne e]; exact hj j (by omega)
theorem toSS_ev : Ev (fun k => laws_toInt64SS.f k S) S := by
  have hr := hs.rows
  unfold laws_toInt64SS.f
  refine ev_pos (by omega) (ev_pos (by simp; omega) ?_)
  exact toSS_loop hs S.length 0 _ (by omega) (by simp) (fun j hj => by omega)
theorem toA_ev (st : Int) : Ev (fun k => laws_toAutomaton.f k st S g) (st, S, g) := by
  unfold laws_toAutomaton.f
  exact Ev.bind (toSS_ev hs) (Ev.bind (toInt64S_ev g hs.good) (Ev.now _))
theorem eqSS_loop : ∀ (m i : Nat), i + m = S.length → Ev (fun k => laws_eqInt64SS.l0 k S S (i : Int)) true
  | 0, i, hi => by
    refine Ev.step (fun k => by rw [laws_eqInt64SS.l0]) ?_
    exact ev_neg (by omega) (Ev.now _)
  | m + 1, i, hi => by
    have hr := hs.rows
    refine Ev.step (fun k => by rw [laws_eqInt64SS.l0]) ?_
    rw [rdL_nat]
    refine ev_pos (by omega) (ev_pos (by omega) (ev_pos (by omega) (Ev.bind (eqInt64S_ev _ (hs.each i (by omega))) (ev_pos rfl ?_))))
    rw [w64s (by omega)]
    exact eqSS_loop m (i + 1) (by omega)
theorem eqA_ev (st : Int) : Ev (fun k => laws_eqAutomaton.f k st S g st S g) true := by
  unfold laws_eqAutomaton.f laws_eqInt64SS.f
  exact ev_pos rfl (Ev.bind (ev_pos rfl (eqSS_loop hs S.length 0 (by omega))) (ev_pos rfl (Ev.bind (eqInt64S_ev g hs.good) (ev_pos rfl (Ev.now _)))))
end
theorem dropr_all {α : Type} (p : α → Bool) (l : List α) (d : α) (i : Nat) (hi : i < l.length) : (l.drop i).all p = (p (l.getD i d) && (l.drop (i + 1)).all p) := by
  rw [List.drop_eq_getElem_cons hi, List.all_cons, List.getD_eq_getElem?_getD, List.getElem?_eq_getElem hi]
  rfl
section
variable {st : Int} {S : List (List Int)} {g : List Int} (hs : SmallA S g) (h9 : S.length ≤ 9) (h1 : 1 ≤ S.length)
include hs h9 h1
theorem spec_good_loop : ∀ (n i : Nat), i + n = g.length → Ev (fun k => spec_l06Is.l2 k (S.length : Int) (i : Int) st S g) (goodFrom S.length g n i)
  | 0, i, hi => by
    refine Ev.step (fun k => by rw [spec_l06Is.l2]) ?_
    exact ev_neg (by omega) (Ev.now _)
  | n + 1, i, hi => by
    have hg := hs.good
    have ih := spec_good_loop n (i + 1) (by omega)
    refine Ev.step (fun k => by rw [spec_l06Is.l2]) ?_
    simp only [l01In_eq]
    refine ev_pos (by omega) (ev_pos (by omega) (ev_some ?_))
    rw [w64 (x := (S.length : Int) - 1) (by omega) (by omega), w64s (by omega), rd_nat]
    have e : (decide (0 ≤ g.getD i 0) && decide (g.getD i 0 ≤ (S.length : Int) - 1)) = inS S.length (g.getD i 0) := by
      unfold inS; congr 1; exact decide_eq_decide.mpr (by omega)
    have eg : goodFrom S.length g (n + 1) i = ((inS S.length (g.getD i 0) && (decide (i = 0) || decide (g.getD (i - 1) 0 < g.getD i 0))) && goodFrom S.length g n (i + 1)) := rfl
    rw [e, eg]
    refine ev_ite (fun hin => ?_) (fun hin => ?_)
    · rw [hin, Bool.true_and]
      rcases Nat.eq_zero_or_pos i with h0 | h0
      · rw [decide_eq_true h0, Bool.true_or, Bool.true_and]
        exact ev_neg (by omega) ih
      · have ew : wrap64 ((i : Int) - 1) = ((i - 1 : Nat) : Int) := by rw [w64 (by omega) (by omega)]; omega
        rw [decide_eq_false (by omega), Bool.false_or, ew, rd_nat]
        refine ev_pos (by omega) (ev_pos (by omega) (ev_pos (by omega) (ev_ite (fun hx => ?_) (fun hx => ?_))))
        · rw [decide_eq_false (by omega)]; exact Ev.now _
        · rw [decide_eq_true (by omega), Bool.true_and]; exact ih
    · rw [(by simpa using hin : inS S.length (g.getD i 0) = false)]; exact Ev.now _
theorem spec_row_loop {i : Nat} (hi : i < S.length) (hl : (S.getD i []).length = S.length) {R : Bool} (H : Ev (fun k => spec_l06Is.l0 k (S.length : Int) ((i + 1 : Nat) : Int) st S g) R) :
    ∀ (n c : Nat), c + n = S.length → Ev (fun k => spec_l06Is.l1 k (S.length : Int) (i : Int) (c : Int) st S g) (((S.getD i []).drop c).all (inS S.length) && R)
  | 0, c, hc => by
    refine Ev.step (fun k => by rw [spec_l06Is.l1]) ?_
    rw [List.drop_of_length_le (by omega), w64s (i := i) (by omega), List.all_nil, Bool.true_and]
    exact ev_neg (by omega) H
  | n + 1, c, hc => by
    have ih := spec_row_loop hi hl H n (c + 1) (by omega)
    refine Ev.step (fun k => by rw [spec_l06Is.l1]) ?_
    simp only [l01In_eq]
    rw [rdL_nat]
    refine ev_pos (by omega) (ev_pos (by omega) (ev_pos (by omega) (ev_pos (by omega) (ev_pos (by omega) (ev_some ?_)))))
    rw [w64 (x := (S.length : Int) - 1) (by omega) (by omega), w64s (by omega), rd_nat, dropr_all _ _ 0 c (by omega)]
    have e : (decide (0 ≤ (S.getD i []).getD c 0) && decide ((S.getD i []).getD c 0 ≤ (S.length : Int) - 1)) = inS S.length ((S.getD i []).getD c 0) := by
      unfold inS; congr 1; exact decide_eq_decide.mpr (by omega)
    rw [e]
    refine ev_ite (fun hin => ?_) (fun hin => ?_)
    · rw [hin, Bool.true_and]; exact ih
    · rw [(by simpa using hin : inS S.length ((S.getD i []).getD c 0) = false)]; exact Ev.now _
theorem spec_rows_loop : ∀ (n i : Nat), i + n = S.length → Ev (fun k => spec_l06Is.l0 k (S.length : Int) (i : Int) st S g) ((S.drop i).all (rowOk S.length) && goodFrom S.length g g.length 0)
  | 0, i, hi => by
    refine Ev.step (fun k => by rw [spec_l06Is.l0]) ?_
    rw [List.drop_of_length_le (by omega)]
    exact ev_neg (by omega) (spec_good_loop hs h9 h1 g.length 0 (by omega))
  | n + 1, i, hi => by
    have ih := spec_rows_loop n (i + 1) (by omega)
    refine Ev.step (fun k => by rw [spec_l06Is.l0]) ?_
    rw [rdL_nat, dropr_all _ _ [] i (by omega)]
    refine ev_pos (by omega) (ev_pos (by omega) (ev_pos (by omega) (ev_ite (fun hx => ?_) (fun hx => ?_))))
    · have := spec_row_loop hs h9 h1 (by omega) (by omega) ih S.length 0 (by omega)
      rw [List.drop_zero] at this
      have e : rowOk S.length (S.getD i []) = (S.getD i []).all (inS S.length) := by unfold rowOk; rw [decide_eq_true (by omega), Bool.true_and]
      rw [e, Bool.and_assoc]
      exact this
    · have e : rowOk S.length (S.getD i []) = false := by unfold rowOk; rw [decide_eq_false (by omega), Bool.false_and]
      rw [e]; exact Ev.now _
theorem isState_ev (x : Int) : impl_isState.f st S g x = some (inS S.length x) := by
  unfold impl_isState.f inS
  by_cases h : x ≥ 0
  · rw [if_pos h, decide_eq_true (show 0 ≤ x from h), Bool.true_and]
  · rw [if_neg h, decide_eq_false (show ¬ 0 ≤ x from h), Bool.false_and]
theorem impl_good_loop : ∀ (n i : Nat), i + n = g.length → Ev (fun k => impl_IsAutomaton.l2 k g (g.length : Int) (i : Int) st S g) (goodFrom S.length g n i)
  | 0, i, hi => by
    refine Ev.step (fun k => by rw [impl_IsAutomaton.l2]) ?_
    exact ev_neg (by omega) (Ev.now _)
  | n + 1, i, hi => by
    have hg := hs.good
    have ih := impl_good_loop n (i + 1) (by omega)
    refine Ev.step (fun k => by rw [impl_IsAutomaton.l2]) ?_
    simp only [isState_ev hs h9 h1]
    refine ev_pos (by omega) (ev_pos (by omega) (ev_pos (by omega) (ev_some ?_)))
    rw [w64s (by omega), rd_nat]
    have eg : goodFrom S.length g (n + 1) i = ((inS S.length (g.getD i 0) && (decide (i = 0) || decide (g.getD (i - 1) 0 < g.getD i 0))) && goodFrom S.length g n (i + 1)) := rfl
    rw [eg]
    refine ev_ite (fun hin => ?_) (fun hin => ?_)
    · rw [hin, Bool.true_and]
      rcases Nat.eq_zero_or_pos i with h0 | h0
      · rw [decide_eq_true h0, Bool.true_or, Bool.true_and]
        exact ev_neg (by omega) ih
      · have ew : wrap64 ((i : Int) - 1) = ((i - 1 : Nat) : Int) := by rw [w64 (by omega) (by omega)]; omega
        rw [decide_eq_false (by omega), Bool.false_or, ew, rd_nat]
        refine ev_pos (by omega) (ev_pos (by omega) (ev_pos (by omega) (ev_ite (fun hx => ?_) (fun hx => ?_))))
        · rw [decide_eq_false (by omega)]; exact Ev.now _
        · rw [decide_eq_true (by omega), Bool.true_and]; exact ih
    · rw [(by simpa using hin : inS S.length (g.getD i 0) = false)]; exact Ev.now _
theorem impl_row_loop {i : Nat} (hi : i < S.length) (row : List Int) (hl : row.length = S.length) {R : Bool} (H : Ev (fun k => impl_IsAutomaton.l0 k S (S.length : Int) ((i + 1 : Nat) : Int) st S g) R) :
    ∀ (n c : Nat), c + n = S.length → Ev (fun k => impl_IsAutomaton.l1 k S (S.length : Int) (i : Int) row (row.length : Int) (c : Int) st S g) ((row.drop c).all (inS S.length) && R)
  | 0, c, hc => by
    refine Ev.step (fun k => by rw [impl_IsAutomaton.l1]) ?_
    rw [List.drop_of_length_le (by omega), w64s (i := i) (by omega), List.all_nil, Bool.true_and]
    exact ev_neg (by omega) H
  | n + 1, c, hc => by
    have ih := impl_row_loop hi row hl H n (c + 1) (by omega)
    refine Ev.step (fun k => by rw [impl_IsAutomaton.l1]) ?_
    simp only [isState_ev hs h9 h1]
    refine ev_pos (by omega) (ev_pos (by omega) (ev_pos (by omega) (ev_some ?_)))
    rw [w64s (by omega), rd_nat, dropr_all _ _ 0 c (by omega)]
    refine ev_ite (fun hin => ?_) (fun hin => ?_)
    · rw [hin, Bool.true_and]; exact ih
    · rw [(by simpa using hin : inS S.length (row.getD c 0) = false)]; exact Ev.now _
theorem impl_rows_loop : ∀ (n i : Nat), i + n = S.length → Ev (fun k => impl_IsAutomaton.l0 k S (S.length : Int) (i : Int) st S g) ((S.drop i).all (rowOk S.length) && goodFrom S.length g g.length 0)
  | 0, i, hi => by
    refine Ev.step (fun k => by rw [impl_IsAutomaton.l0]) ?_
    rw [List.drop_of_length_le (by omega)]
    exact ev_neg (by omega) (impl_good_loop hs h9 h1 g.length 0 (by omega))
  | n + 1, i, hi => by
    have ih := impl_rows_loop n (i + 1) (by omega)
    refine Ev.step (fun k => by rw [impl_IsAutomaton.l0]) ?_
    rw [rdL_nat, dropr_all _ _ [] i (by omega)]
    refine ev_pos (by omega) (ev_pos (by omega) (ev_pos (by omega) (ev_ite (fun hx => ?_) (fun hx => ?_))))
    · have := impl_row_loop hs h9 h1 (by omega) (S.getD i []) (by omega) ih S.length 0 (by omega)
      rw [List.drop_zero] at this
      have e : rowOk S.length (S.getD i []) = (S.getD i []).all (inS S.length) := by unfold rowOk; rw [decide_eq_true (by omega), Bool.true_and]
      rw [e, Bool.and_assoc]
      exact this
    · have e : rowOk S.length (S.getD i []) = false := by unfold rowOk; rw [decide_eq_false (by omega), Bool.false_and]
      rw [e]; exact Ev.now _
end
theorem spec_l06Is_ev {S : List (List Int)} {g : List Int} (hs : SmallA S g) (st : Int) : Ev (fun k => spec_l06Is.f k st S g) (isAutM st S g) := by
  have hr := hs.rows
  unfold spec_l06Is.f isAutM
  simp only [l01In_eq]
  refine ev_some ?_
  by_cases hm : 1 ≤ S.length ∧ S.length ≤ 9
  · rw [decide_eq_true hm.1, decide_eq_true hm.2, decide_eq_true (by omega), decide_eq_true (by omega), Bool.true_and, Bool.true_and]
    refine ev_pos rfl (ev_some ?_)
    rw [w64 (x := (S.length : Int) - 1) (by omega) (by omega)]
    have e : (decide (0 ≤ st) && decide (st ≤ (S.length : Int) - 1)) = inS S.length st := by
      unfold inS; congr 1; exact decide_eq_decide.mpr (by omega)
    rw [e]
    refine Ev.step (fun k => by rw [spec_l06Is.j0]) ?_
    cases hst : inS S.length st with
    | false => exact ev_pos rfl (Ev.now _)
    | true =>
      refine ev_neg (by decide) ?_
      have := spec_rows_loop (st := st) hs hm.2 hm.1 S.length 0 (by omega)
      simpa using this
  · refine ev_neg (by rw [Bool.and_eq_true, decide_eq_true_eq, decide_eq_true_eq]; omega) ?_
    refine Ev.step (fun k => by rw [spec_l06Is.j0]) ?_
    refine ev_pos rfl (ev_now ?_)
    have : (decide (1 ≤ S.length) && decide (S.length ≤ 9)) = false := by rw [← Bool.not_eq_true, Bool.and_eq_true, decide_eq_true_eq, decide_eq_true_eq]; exact hm
    rw [this]; rfl
theorem impl_IsAutomaton_ev {S : List (List Int)} {g : List Int} (hs : SmallA S g) (st : Int) : Ev (fun k => impl_IsAutomaton.f k st S g) (isAutM st S g) := by
  have hr := hs.rows
  unfold impl_IsAutomaton.f isAutM
  refine ev_ite (fun h1 => ?_) (fun h1 => ?_)
  · refine Ev.step (fun k => by rw [impl_IsAutomaton.j0]) ?_
    rw [decide_eq_false (p := 1 ≤ S.length) (by omega)]
    exact ev_pos rfl (Ev.now _)
  · refine ev_ite (fun h9 => ?_) (fun h9 => ?_)
    · refine Ev.step (fun k => by rw [impl_IsAutomaton.j0]) ?_
      rw [decide_eq_false (p := S.length ≤ 9) (by omega), Bool.and_false]
      exact ev_pos rfl (Ev.now _)
    · rw [isState_ev hs (by omega) (by omega), decide_eq_true (p := 1 ≤ S.length) (by omega), decide_eq_true (p := S.length ≤ 9) (by omega), Bool.true_and, Bool.true_and]
      refine ev_some ?_
      refine Ev.step (fun k => by rw [impl_IsAutomaton.j0]) ?_
      cases hst : inS S.length st with
      | false => exact ev_pos rfl (Ev.now _)
      | true =>
        refine ev_neg (by decide) ?_
        have := impl_rows_loop (st := st) hs (by omega) (by omega) S.length 0 (by omega)
        simpa using this
end Go.Proofs.Ytpbfideppdmceaa.E
namespace Go.Proofs.Ytpbfideppdmceaa.E
set_option linter.unusedVariables false
set_option linter.unusedSectionVars false
open Go.RowKit Go.Proofs.YtpbfideppdmceaaW.PrintWords Go.Proofs.Ytpbfideppdmceaa.Base Go.Proofs.Ytpbfideppdmceaa.Auto

def goodM (g : List Int) (x : Int) : Bool := g.any fun y => decide (y = x)
theorem drop_any (p : Int → Bool) (l : List Int) (i : Nat) (hi : i < l.length) : (l.drop i).any p = (p (l.getD i 0) || (l.drop (i + 1)).any p) := by
  rw [List.drop_eq_getElem_cons hi, List.any_cons, List.getD_eq_getElem?_getD, List.getElem?_eq_getElem hi]
  rfl
theorem spec_good_in (st : Int) (S : List (List Int)) (g : List Int) (hg : g.length ≤ 1048576) (x : Int) : ∀ (m i : Nat), i + m = g.length → Ev (fun k => spec_l06Good.l0 k x (i : Int) st S g) ((g.drop i).any fun y => decide (y = x))
  | 0, i, hi => by
    refine Ev.step (fun k => by rw [spec_l06Good.l0]) ?_
    rw [List.drop_of_length_le (by omega)]
    exact ev_neg (by omega) (Ev.now _)
  | m + 1, i, hi => by
    have ih := spec_good_in st S g hg x m (i + 1) (by omega)
    refine Ev.step (fun k => by rw [spec_l06Good.l0]) ?_
    rw [drop_any _ _ _ (by omega : i < g.length), rd_nat, w64s (by omega)]
    refine ev_pos (by omega) (ev_pos (by omega) (ev_ite (fun hx => ?_) (fun hx => ?_)))
    · rw [decide_eq_true hx]; exact Ev.now _
    · rw [decide_eq_false hx, Bool.false_or]; exact ih
theorem spec_l06Good_ev (st : Int) (S : List (List Int)) (g : List Int) (hg : g.length ≤ 1048576) (x : Int) : Ev (fun k => spec_l06Good.f k st S g x) (goodM g x) := by
  unfold spec_l06Good.f
  exact spec_good_in st S g hg x g.length 0 (by omega)
theorem index_in (g : List Int) (hg : g.length ≤ 1048576) (x : Int) : ∀ (m i : Nat), i + m = g.length → ∃ r, Ev (fun k => slices_Index_int64_int64.l0 k g x (g.length : Int) (i : Int)) r ∧ decide (r ≥ 0) = ((g.drop i).any fun y => decide (y = x))
  | 0, i, hi => by
    refine ⟨-1, ?_, ?_⟩
    · refine Ev.step (fun k => by rw [slices_Index_int64_int64.l0]) ?_
      exact ev_neg (by omega) (Ev.now _)
    · rw [List.drop_of_length_le (by omega)]; rfl
  | m + 1, i, hi => by
    rw [drop_any _ _ _ (by omega : i < g.length)]
    by_cases hx : g.getD i 0 = x
    · refine ⟨(i : Int), ?_, ?_⟩
      · refine Ev.step (fun k => by rw [slices_Index_int64_int64.l0]) ?_
        exact ev_pos (by omega) (ev_pos (by omega) (ev_pos (by omega) (ev_pos (by rw [rd_nat]; exact hx.symm) (Ev.now _))))
      · rw [decide_eq_true hx, Bool.true_or]; exact decide_eq_true (by omega)
    · obtain ⟨r, h1, h2⟩ := index_in g hg x m (i + 1) (by omega)
      refine ⟨r, ?_, ?_⟩
      · refine Ev.step (fun k => by rw [slices_Index_int64_int64.l0]) ?_
        rw [w64s (by omega)]
        exact ev_pos (by omega) (ev_pos (by omega) (ev_pos (by omega) (ev_neg (by rw [rd_nat]; exact fun e => hx e.symm) h1)))
      · rw [decide_eq_false hx, Bool.false_or]; exact h2
theorem impl_isGood_ev (st : Int) (S : List (List Int)) (g : List Int) (hg : g.length ≤ 1048576) (x : Int) : Ev (fun k => impl_isGood.f k st S g x) (goodM g x) := by
  obtain ⟨r, h1, h2⟩ := index_in g hg x g.length 0 (by omega)
  unfold impl_isGood.f slices_Contains_int64_int64.f slices_Index_int64_int64.f
  exact Ev.bind (Ev.bind h1 (ev_now h2)) (Ev.now _)
end Go.Proofs.Ytpbfideppdmceaa.E
namespace Go.Proofs.Ytpbfideppdmceaa.Auto
set_option linter.unusedVariables false
set_option linter.unusedSectionVars false
open Go.RowKit Go.Proofs.YtpbfideppdmceaaW.PrintWords Go.Proofs.Ytpbfideppdmceaa.Base

inductive Rc (st : Int) (S : List (List Int)) : Int → Prop
  | start : Rc st S st
  | step {a b : Int} : Rc st S a → Rc st S b → Rc st S (stepM S a b)
theorem nodup_few : ∀ (m : Nat) (l : List Int), l.Nodup → (∀ x ∈ l, 0 ≤ x ∧ x < m) → l.length ≤ m
  | 0, l, _, h => by
    cases l with
    | nil => simp
    | cons a l => have := h a (by simp); omega
  | m + 1, l, hn, h => by
    by_cases hm : (m : Int) ∈ l
    · have h1 := nodup_few m (l.erase (m : Int)) (hn.erase _) (fun x hx => by
        have h2 := (hn.mem_erase_iff).1 hx
        have := h x h2.2
        omega)
      rw [List.length_erase_of_mem hm] at h1
      omega
    · have := nodup_few m l hn (fun x hx => by
        have h2 := h x hx
        have : x ≠ m := fun e => hm (e ▸ hx)
        omega)
      omega
end Go.Proofs.Ytpbfideppdmceaa.Auto
namespace Go.Proofs.Ytpbfideppdmceaa.E
set_option linter.unusedVariables false
set_option linter.unusedSectionVars false
open Go.RowKit Go.Proofs.YtpbfideppdmceaaW.PrintWords Go.Proofs.Ytpbfideppdmceaa.Base Go.Proofs.Ytpbfideppdmceaa.Auto

abbrev PL := List (Int × Int)
def stp (S T : List (List Int)) (x y : Int × Int) : Int × Int := (stepM S x.1 y.1, stepM T x.2 y.2)
def addP (P : PL) (z : Int × Int) : PL := if z ∈ P then P else P ++ [z]
def innP (S T : List (List Int)) (x : Int × Int) : PL → PL → PL
  | [], P => P
  | y :: l, P => innP S T x l (addP (addP P (stp S T x y)) (stp S T y x))
def outP (S T : List (List Int)) : Nat → Nat → PL → PL
  | 0, _, P => P
  | m + 1, i, P => if i < P.length then outP S T m (i + 1) (innP S T (P.getD i (0, 0)) P P) else P
structure PG (a b : Nat) (P : PL) : Prop where
  nd : P.Nodup
  rg : ∀ x ∈ P, (0 ≤ x.1 ∧ x.1 < a) ∧ 0 ≤ x.2 ∧ x.2 < b
theorem PG.few {a b : Nat} {P : PL} (h : PG a b P) (ha : a ≤ 9) (hb : b ≤ 9) : P.length ≤ 81 := by
  have h1 : (P.map fun x => x.1 * 9 + x.2).Nodup := by
    unfold List.Nodup
    rw [List.pairwise_map]
    exact h.nd.imp_of_mem (fun {x y} hx hy hne e => by
      have := h.rg x hx
      have := h.rg y hy
      exact hne (Prod.ext (by omega) (by omega)))
  have := nodup_few 81 _ h1 (fun z hz => by
    obtain ⟨x, hx, rfl⟩ := List.mem_map.1 hz
    have := h.rg x hx
    omega)
  simpa using this
theorem PG.add {a b : Nat} {P : PL} (h : PG a b P) {z : Int × Int} (hz : (0 ≤ z.1 ∧ z.1 < a) ∧ 0 ≤ z.2 ∧ z.2 < b) : PG a b (addP P z) := by
  unfold addP
  split
  · exact h
  · rename_i hn
    refine ⟨List.nodup_append.2 ⟨h.nd, by simp, fun x hx y hy => ?_⟩, fun x hx => ?_⟩
    · rw [List.mem_singleton] at hy
      subst hy
      exact fun e => hn (e ▸ hx)
    · rcases List.mem_append.1 hx with hx | hx
      · exact h.rg x hx
      · rw [List.mem_singleton] at hx
        rw [hx]; exact hz
theorem addP_pre (P : PL) (z : Int × Int) : ∃ Q, addP P z = P ++ Q := by
  unfold addP
  split
  · exact ⟨[], by simp⟩
  · exact ⟨[z], rfl⟩
theorem addP_mem (P : PL) (z : Int × Int) : z ∈ addP P z := by
  unfold addP
  split
  · assumption
  · simp
theorem addP_twice (P : PL) (z : Int × Int) : addP (addP P z) z = addP P z := by
  rw [addP, if_pos (addP_mem P z)]
def mkP (P : PL) : List S48 := P.map fun x => ⟨x.1, x.2⟩
def rowP (P : PL) : List (List Int) := P.map fun x => [x.1, x.2]
theorem mkP_len (P : PL) : (mkP P).length = P.length := by simp [mkP]
theorem rowP_len (P : PL) : (rowP P).length = P.length := by simp [rowP]
theorem getD_lt {P : PL} {i : Nat} (h : i < P.length) : P.getD i (0, 0) = P[i] := by
  rw [List.getD_eq_getElem?_getD, List.getElem?_eq_getElem h]; rfl
theorem mkP_get (P : PL) (i : Nat) (h : i < P.length) : rd_T48 (mkP P) (i : Int) = ⟨(P.getD i (0, 0)).1, (P.getD i (0, 0)).2⟩ := by
  unfold rd_T48 mkP
  rw [show ((i : Int)).toNat = i from rfl, List.getD_eq_getElem?_getD, List.getElem?_map, List.getElem?_eq_getElem h, getD_lt h]
  rfl
theorem rowP_get (P : PL) (i : Nat) (h : i < P.length) : rd_L1 (rowP P) (i : Int) = [(P.getD i (0, 0)).1, (P.getD i (0, 0)).2] := by
  unfold rd_L1 rowP
  rw [show ((i : Int)).toNat = i from rfl, List.getD_eq_getElem?_getD, List.getElem?_map, List.getElem?_eq_getElem h, getD_lt h]
  rfl
theorem mem_drop {P : PL} {z : Int × Int} (i : Nat) (hi : i < P.length) : z ∈ P.drop i ↔ z = P.getD i (0, 0) ∨ z ∈ P.drop (i + 1) := by
  rw [List.drop_eq_getElem_cons hi, List.mem_cons, getD_lt hi]
theorem idx_ev (P : PL) (hP : P.length ≤ 100) (z : Int × Int) : ∀ (m i : Nat), i + m = P.length → ∃ r, Ev (fun k => impl_couple_28.l0 k (mkP P) ((mkP P).length : Int) (i : Int) z.1 z.2) r ∧ decide (r ≥ 0) = decide (z ∈ P.drop i)
  | 0, i, hi => by
    refine ⟨-1, ?_, ?_⟩
    · refine Ev.step (fun k => by rw [impl_couple_28.l0]) ?_
      rw [mkP_len]
      exact ev_neg (by omega) (Ev.now _)
    · rw [List.drop_of_length_le (by omega)]; simp
  | m + 1, i, hi => by
    have hil : i < P.length := by omega
    by_cases hx : z = P.getD i (0, 0)
    · refine ⟨(i : Int), ?_, ?_⟩
      · refine Ev.step (fun k => by rw [impl_couple_28.l0]) ?_
        rw [mkP_get P i hil, mkP_len]
        refine ev_pos (by omega) (ev_pos (by omega) (ev_pos (by omega) (ev_pos ?_ (Ev.now _))))
        rw [← hx]; simp
      · rw [decide_eq_true (show (i : Int) ≥ 0 by omega), decide_eq_true ((mem_drop i hil).2 (Or.inl hx))]
    · obtain ⟨r, h1, h2⟩ := idx_ev P hP z m (i + 1) (by omega)
      refine ⟨r, ?_, ?_⟩
      · refine Ev.step (fun k => by rw [impl_couple_28.l0]) ?_
        rw [mkP_get P i hil, w64s (by omega)]
        rw [mkP_len] at h1 ⊢
        refine ev_pos (by omega) (ev_pos (by omega) (ev_pos (by omega) (ev_neg ?_ h1)))
        intro e
        simp only [Bool.and_eq_true, beq_iff_eq] at e
        exact hx (Prod.ext e.1 e.2)
      · rw [h2]
        exact decide_eq_decide.mpr ⟨fun h => (mem_drop i hil).2 (Or.inr h), fun h => ((mem_drop i hil).1 h).resolve_left hx⟩
theorem has_ev (P : PL) (hP : P.length ≤ 100) (z : Int × Int) : Ev (fun k => impl_couple_37.f k (mkP P) z.1 z.2) (decide (z ∈ P)) := by
  obtain ⟨r, h1, h2⟩ := idx_ev P hP z P.length 0 (by omega)
  unfold impl_couple_37.f impl_couple_28.f
  exact Ev.bind h1 (ev_now h2)
theorem tk_ev (P : PL) (hP : P.length ≤ 100) (z : Int × Int) : Ev (fun k => impl_couples.tk k (mkP P) z.1 z.2) (mkP (addP P z)) := by
  unfold impl_couples.tk addP
  refine Ev.bind (has_ev P hP z) (ev_ite (fun hx => ?_) (fun hx => ?_))
  · rw [if_pos (of_decide_eq_true hx)]; exact Ev.now _
  · have hn : ¬ z ∈ P := by simpa using hx
    rw [if_neg hn]
    refine ev_pos (by rw [mkP_len]; omega) (ev_now ?_)
    simp [mkP]
section
variable {st : Int} {S : List (List Int)} {g : List Int} (hA : IsA st S g) {ut : Int} {T : List (List Int)} {h : List Int} (hB : IsA ut T h)
include hA hB
theorem stp_rg {x y : Int × Int} (hx : (0 ≤ x.1 ∧ x.1 < S.length) ∧ 0 ≤ x.2 ∧ x.2 < T.length) (hy : (0 ≤ y.1 ∧ y.1 < S.length) ∧ 0 ≤ y.2 ∧ y.2 < T.length) : (0 ≤ (stp S T x y).1 ∧ (stp S T x y).1 < S.length) ∧ 0 ≤ (stp S T x y).2 ∧ (stp S T x y).2 < T.length :=
  ⟨hA.stepM hx.1 hy.1, hB.stepM hx.2 hy.2⟩
theorem ok_ev {x y : Int × Int} (hx : (0 ≤ x.1 ∧ x.1 < S.length) ∧ 0 ≤ x.2 ∧ x.2 < T.length) (hy : (0 ≤ y.1 ∧ y.1 < S.length) ∧ 0 ≤ y.2 ∧ y.2 < T.length) : impl_couples.okS S T ⟨x.1, x.2⟩ ⟨y.1, y.2⟩ := by
  have h1 := hA.row x.1.toNat (by omega)
  have h2 := hB.row x.2.toNat (by omega)
  have e1 : (rd_L1 S x.1).length = S.length := h1
  have e2 : (rd_L1 T x.2).length = T.length := h2
  unfold impl_couples.okS
  simp only
  rw [e1, e2]
  exact ⟨hx.1.1, hx.1.2, hy.1.1, hy.1.2, hx.2.1, hx.2.2, hy.2.1, hy.2.2⟩
theorem inn_PG {x : Int × Int} (hx : (0 ≤ x.1 ∧ x.1 < S.length) ∧ 0 ≤ x.2 ∧ x.2 < T.length) : ∀ (l P : PL), (∀ y ∈ l, (0 ≤ y.1 ∧ y.1 < S.length) ∧ 0 ≤ y.2 ∧ y.2 < T.length) → PG S.length T.length P → PG S.length T.length (innP S T x l P)
  | [], _, _, hp => hp
  | y :: l, P, hl, hp => inn_PG hx l _ (fun z hz => hl z (by simp [hz])) ((hp.add (stp_rg hA hB hx (hl y (by simp)))).add (stp_rg hA hB (hl y (by simp)) hx))
theorem impl_inn {x : Int × Int} (hx : (0 ≤ x.1 ∧ x.1 < S.length) ∧ 0 ≤ x.2 ∧ x.2 < T.length) (sn : PL) (hsn : PG S.length T.length sn) (i : Int) (q : List S48) : ∀ (m j : Nat) (P : PL), j + m = sn.length → PG S.length T.length P →
    Ev (fun k => impl_couples.l0 k S T (mkP (innP S T x (sn.drop j) P)) (wrap64 (i + 1))) q → Ev (fun k => impl_couples.l1 k S T (mkP P) i ⟨x.1, x.2⟩ (mkP sn) (j : Int)) q
  | 0, j, P, hj, hp, H => by
    rw [List.drop_of_length_le (by omega)] at H
    refine Ev.step (fun k => by rw [impl_couples.l1]) ?_
    rw [mkP_len]
    exact ev_neg (by omega) H
  | m + 1, j, P, hj, hp, H => by
    have hjl : j < sn.length := by omega
    have h9 := hA.nine
    have h9' := hB.nine
    have hsl := hsn.few h9 h9'
    have hpl := hp.few h9 h9'
    rw [List.drop_eq_getElem_cons hjl, ← getD_lt hjl] at H
    have hmem : sn.getD j (0, 0) ∈ sn := by rw [getD_lt hjl]; exact List.getElem_mem hjl
    obtain ⟨y, ey⟩ : ∃ y, sn.getD j (0, 0) = y := ⟨_, rfl⟩
    rw [ey] at H hmem
    have hy := hsn.rg y hmem
    have hp1 := hp.add (stp_rg hA hB hx hy)
    have hp2 := hp1.add (stp_rg hA hB hy hx)
    simp only [innP] at H
    have ih := impl_inn hx sn hsn i q m (j + 1) _ (by omega) hp2 H
    have t1 := tk_ev P (by omega) (stp S T x y)
    have t2 := tk_ev (addP P (stp S T x y)) (by have := hp1.few h9 h9'; omega) (stp S T y x)
    refine Ev.step (fun k => by rw [impl_couples.l1]) ?_
    rw [mkP_get sn j hjl, ey, mkP_len, w64s (by omega)]
    refine ev_pos (by omega) (ev_pos ⟨by omega, ok_ev hA hB hx hy⟩ (Ev.bind t1 (ev_ite (fun he => ?_) (fun he => ev_pos (ok_ev hA hB hy hx) (Ev.bind t2 ih)))))
    simp only [Bool.and_eq_true, beq_iff_eq] at he
    have exy : y = x := Prod.ext he.1 he.2
    rw [exy] at ih ⊢
    rw [addP_twice] at ih
    exact ih
theorem impl_out : ∀ (m i : Nat) (P : PL), i + m = 82 → PG S.length T.length P → Ev (fun k => impl_couples.l0 k S T (mkP P) (i : Int)) (mkP (outP S T m i P))
  | 0, i, P, hi, hp => by
    have hpl := hp.few hA.nine hB.nine
    refine Ev.step (fun k => by rw [impl_couples.l0]) ?_
    rw [mkP_len]
    exact ev_neg (by omega) (Ev.now _)
  | m + 1, i, P, hi, hp => by
    have hpl := hp.few hA.nine hB.nine
    simp only [outP]
    refine Ev.step (fun k => by rw [impl_couples.l0]) ?_
    rw [mkP_len]
    refine ev_ite (fun hx => ?_) (fun hx => ?_)
    · have hil : i < P.length := by omega
      have hxm := hp.rg (P.getD i (0, 0)) (by rw [getD_lt hil]; exact List.getElem_mem hil)
      rw [if_pos hil, mkP_get P i hil]
      refine ev_pos (by omega) ?_
      unfold impl_couple_38.f
      rw [if_pos (by rw [mkP_len]; omega)]
      refine ev_some ?_
      refine impl_inn hA hB hxm P hp (i : Int) _ P.length 0 P (by omega) hp ?_
      rw [w64s (by omega), List.drop_zero]
      exact impl_out m (i + 1) _ (by omega) (inn_PG hA hB hxm P P (fun y hy => hp.rg y hy) hp)
    · rw [if_neg (by omega)]
      exact Ev.now _
theorem start_PG : PG S.length T.length [(st, ut)] := ⟨by simp, fun x hx => by rw [List.mem_singleton] at hx; rw [hx]; exact ⟨hA.start, hB.start⟩⟩
theorem out_PG : ∀ (m i : Nat) (P : PL), PG S.length T.length P → PG S.length T.length (outP S T m i P)
  | 0, _, _, hp => hp
  | m + 1, i, P, hp => by
    simp only [outP]
    split
    · rename_i hil
      have hxm := hp.rg (P.getD i (0, 0)) (by rw [getD_lt hil]; exact List.getElem_mem hil)
      exact out_PG m (i + 1) _ (inn_PG hA hB hxm P P (fun y hy => hp.rg y hy) hp)
    · exact hp
theorem impl_couples_ev : Ev (fun k => impl_couples.f k st S g ut T h) (mkP (outP S T 82 0 [(st, ut)])) := by
  unfold impl_couples.f
  exact impl_out hA hB 82 0 [(st, ut)] (by omega) (start_PG hA hB)
end
theorem rd20 (a b : Int) : rd [a, b] 0 = a := rfl
theorem rd21 (a b : Int) : rd [a, b] 1 = b := rfl
theorem put_ev (P : PL) (hP : P.length ≤ 100) (z : Int × Int) : ∀ (m i : Nat), i + m = P.length → (z ∈ P → z ∈ P.drop i) → ∃ n : Int, Ev (fun k => spec_l06Number.p0 k (rowP P) z.1 z.2 (i : Int)) (n, rowP (addP P z))
  | 0, i, hi, hz => by
    rw [List.drop_of_length_le (by omega)] at hz
    have hn : ¬ z ∈ P := fun h => by cases hz h
    refine ⟨(P.length : Int), ?_⟩
    refine Ev.step (fun k => by rw [spec_l06Number.p0]) ?_
    rw [rowP_len]
    refine ev_neg (by omega) (ev_pos (by omega) (ev_now ?_))
    unfold addP
    rw [if_neg hn]
    simp [rowP]
  | m + 1, i, hi, hz => by
    have hil : i < P.length := by omega
    by_cases hx : z = P.getD i (0, 0)
    · have hmem : z ∈ P := by rw [hx, getD_lt hil]; exact List.getElem_mem hil
      refine ⟨(i : Int), ?_⟩
      refine Ev.step (fun k => by rw [spec_l06Number.p0]) ?_
      rw [rowP_get P i hil, rowP_len, rd20, rd21, ← hx]
      refine ev_pos (by omega) (ev_pos (by omega) (ev_pos (by simp) (ev_pos rfl (ev_pos (by simp) (ev_pos rfl (ev_now ?_))))))
      unfold addP
      rw [if_pos hmem]
    · obtain ⟨n, h1⟩ := put_ev P hP z m (i + 1) (by omega) (fun h => ((mem_drop i hil).1 (hz h)).resolve_left hx)
      refine ⟨n, ?_⟩
      refine Ev.step (fun k => by rw [spec_l06Number.p0]) ?_
      rw [rowP_get P i hil, rowP_len, rd20, rd21, w64s (by omega)]
      refine ev_pos (by omega) (ev_pos (by omega) (ev_pos (by simp) (ev_ite (fun h2 => ev_pos (by simp) (ev_ite (fun h3 => ?_) (fun _ => h1))) (fun _ => h1))))
      exact absurd (Prod.ext h2.symm h3.symm) hx
section
variable {st : Int} {S : List (List Int)} {g : List Int} (hA : IsA st S g) {ut : Int} {T : List (List Int)} {h : List Int} (hB : IsA ut T h)
include hA hB
end
end Go.Proofs.Ytpbfideppdmceaa.E
namespace Go.Proofs.Ytpbfideppdmceaa.E
set_option linter.unusedVariables false
set_option linter.unusedSectionVars false
open Go.RowKit Go.Proofs.YtpbfideppdmceaaW.PrintWords Go.Proofs.Ytpbfideppdmceaa.Base Go.Proofs.Ytpbfideppdmceaa.Auto

def marksL (m : Int) : List (List Int) → List (List Int)
  | [] => []
  | r :: S => marks m r.length :: marksL (m + r.length) S
def sumL : List (List Int) → Nat
  | [] => 0
  | r :: S => r.length + sumL S
theorem sumL_le : ∀ S : List (List Int), (∀ r ∈ S, r.length ≤ 1048576) → sumL S ≤ 1048576 * S.length
  | [], _ => by simp [sumL]
  | r :: S, h => by
    have h1 := h r List.mem_cons_self
    have h2 := sumL_le S (fun r hr => h r (List.mem_cons_of_mem _ hr))
    simp only [sumL, List.length_cons]
    omega
theorem marksL_length : ∀ (S : List (List Int)) (m : Int), (marksL m S).length = S.length
  | [], _ => rfl
  | r :: S, m => by simp [marksL, marksL_length S]
theorem sumL_drop : ∀ (S : List (List Int)) (i : Nat), i < S.length → sumL (S.drop i) = (S.getD i []).length + sumL (S.drop (i + 1))
  | r :: S, 0, _ => by simp [sumL]
  | r :: S, i + 1, h => by
    have := sumL_drop S i (by simpa using h)
    simpa using this
theorem marksL_getD : ∀ (S : List (List Int)) (m : Int) (j : Nat), j < S.length → (marksL m S).getD j [] = marks (m + (sumL S : Int) - (sumL (S.drop j) : Int)) (S.getD j []).length
  | r :: S, m, 0, _ => by simp [marksL]
  | r :: S, m, j + 1, h => by
    have := marksL_getD S (m + r.length) j (by simpa using h)
    simp only [marksL, List.getD_cons_succ, List.drop_succ_cons, sumL]
    rw [this, show m + (r.length : Int) + (sumL S : Int) - (sumL (S.drop j) : Int) = m + ((r.length + sumL S : Nat) : Int) - (sumL (S.drop j) : Int) by omega]
section
variable {S : List (List Int)} (hn : S.length ≤ 1048576) (hr : ∀ j, j < S.length → (S.getD j []).length ≤ 1048576)
include hn hr
theorem sumL_big : sumL S ≤ 1099511627776 := by
  have := sumL_le S (fun r h => by
    obtain ⟨j, hj, rfl⟩ := List.getElem_of_mem h
    have := hr j hj
    rwa [List.getD_eq_getElem?_getD, List.getElem?_eq_getElem hj] at this)
  omega
theorem sumL_drop_le : ∀ j, sumL (S.drop j) ≤ sumL S
  | 0 => by simp
  | j + 1 => by
    have := sumL_drop_le j
    rcases Nat.lt_or_ge j S.length with h | h
    · have := sumL_drop S j h
      omega
    · rw [List.drop_of_length_le (by omega)]
      simp [sumL]
theorem markSS_loop {m0 : Int} (h0 : 0 ≤ m0) (h1 : m0 ≤ 1125899906842624) : ∀ (m i : Nat) (x : List (List Int)), i + m = S.length → x.length = S.length → (∀ j, j < i → x.getD j [] = (marksL m0 S).getD j []) → (∀ j, i ≤ j → j < S.length → x.getD j [] = S.getD j []) →
    Ev (fun k => laws_markInt64SS.l0 k x (m0 + (sumL S : Int) - (sumL (S.drop i) : Int)) (i : Int)) (m0 + (sumL S : Int), marksL m0 S)
  | 0, i, x, hi, hx, hd, hk => by
    refine Ev.step (fun k => by rw [laws_markInt64SS.l0]) ?_
    have e : x = marksL m0 S := ext_rows (by rw [hx, marksL_length]) (fun j hj => by rw [marksL_length] at hj; exact hd j (by omega))
    rw [List.drop_of_length_le (by omega)]
    refine ev_neg (by omega) (ev_now ?_)
    rw [e]
    simp [sumL]
  | m + 1, i, x, hi, hx, hd, hk => by
    have hb := sumL_big hn hr
    have hdl := sumL_drop_le hn hr i
    have e1 := sumL_drop S i (by omega)
    have hl := hr i (by omega)
    have e2 := hk i (Nat.le_refl _) (by omega)
    refine Ev.step (fun k => by rw [laws_markInt64SS.l0]) ?_
    rw [rdL_nat, e2]
    refine ev_pos (by omega) (ev_pos (by omega) (Ev.bind (markInt64S_ev (S.getD i []) _ (by omega) (by omega) hl) ?_))
    rw [w64s (by omega), show m0 + (sumL S : Int) - (sumL (S.drop i) : Int) + ((S.getD i []).length : Int) = m0 + (sumL S : Int) - (sumL (S.drop (i + 1)) : Int) by omega]
    refine markSS_loop h0 h1 m (i + 1) _ (by omega) (by simpa using hx) (fun j hj => ?_) (fun j hj hjl => ?_)
    · by_cases e : i = j
      · subst e
        rw [show ((i : Int)).toNat = i from rfl, getr_set_eq (by omega), marksL_getD S m0 i (by omega)]
      · rw [show ((i : Int)).toNat = i from rfl, getr_set_ne e]
        exact hd j (by omega)
    · rw [show ((i : Int)).toNat = i from rfl, getr_set_ne (by omega)]
      exact hk j (by omega) hjl
theorem markSS_ev {m0 : Int} (h0 : 0 ≤ m0) (h1 : m0 ≤ 1125899906842624) : Ev (fun k => laws_markInt64SS.f k S m0) (m0 + (sumL S : Int), marksL m0 S) := by
  unfold laws_markInt64SS.f
  have := markSS_loop hn hr h0 h1 S.length 0 S (by omega) rfl (fun j hj => by omega) (fun _ _ _ => rfl)
  simpa using this
theorem heldSS_loop {m0 : Int} (h0 : 0 ≤ m0) (h1 : m0 ≤ 1125899906842624) : ∀ (m i : Nat), i + m = S.length →
    Ev (fun k => laws_heldInt64SS.l0 k (marksL m0 S) (m0 + (sumL S : Int) - (sumL (S.drop i) : Int)) (i : Int)) (m0 + (sumL S : Int))
  | 0, i, hi => by
    refine Ev.step (fun k => by rw [laws_heldInt64SS.l0]) ?_
    rw [List.drop_of_length_le (by omega)]
    refine ev_neg (by rw [marksL_length]; omega) (ev_now ?_)
    simp [sumL]
  | m + 1, i, hi => by
    have hb := sumL_big hn hr
    have hdl := sumL_drop_le hn hr i
    have e1 := sumL_drop S i (by omega)
    have hl := hr i (by omega)
    have e2 := marksL_getD S m0 i (by omega)
    refine Ev.step (fun k => by rw [laws_heldInt64SS.l0]) ?_
    rw [rdL_nat, e2]
    refine ev_pos (by rw [marksL_length]; omega) (ev_pos (by omega) (Ev.bind (heldInt64S_ev _ _ (by omega) (by omega) hl) (ev_neg (by omega) ?_)))
    rw [w64s (by omega), show m0 + (sumL S : Int) - (sumL (S.drop i) : Int) + ((S.getD i []).length : Int) = m0 + (sumL S : Int) - (sumL (S.drop (i + 1)) : Int) by omega]
    exact heldSS_loop h0 h1 m (i + 1) (by omega)
theorem heldSS_ev {m0 : Int} (h0 : 0 ≤ m0) (h1 : m0 ≤ 1125899906842624) : Ev (fun k => laws_heldInt64SS.f k (marksL m0 S) m0) (m0 + (sumL S : Int)) := by
  unfold laws_heldInt64SS.f
  have := heldSS_loop hn hr h0 h1 S.length 0 (by omega)
  simpa using this
end
theorem markA_ev {S : List (List Int)} {g : List Int} (hs : SmallA S g) (st : Int) {m0 : Int} (h0 : 0 ≤ m0) (h1 : m0 ≤ 1125899906842624) :
    Ev (fun k => laws_markAutomaton.f k st S g m0) (m0 + (sumL S : Int) + (g.length : Int), marksL m0 S, marks (m0 + (sumL S : Int)) g.length) := by
  have hb := sumL_big hs.rows hs.each
  unfold laws_markAutomaton.f
  exact Ev.bind (markSS_ev hs.rows hs.each h0 h1) (Ev.bind (markInt64S_ev g _ (by show 0 ≤ _; simp only; omega) (by simp only; omega) hs.good) (Ev.now _))
theorem heldA_ev {S : List (List Int)} {g : List Int} (hs : SmallA S g) (st : Int) {m0 : Int} (h0 : 0 ≤ m0) (h1 : m0 ≤ 1125899906842624) :
    Ev (fun k => laws_heldAutomaton.f k st (marksL m0 S) (marks (m0 + (sumL S : Int)) g.length) m0) (m0 + (sumL S : Int) + (g.length : Int)) := by
  have hb := sumL_big hs.rows hs.each
  have hg := hs.good
  unfold laws_heldAutomaton.f
  exact Ev.bind (heldSS_ev hs.rows hs.each h0 h1) (ev_neg (by omega) (Ev.bind (heldInt64S_ev g.length _ (by omega) (by omega) hs.good) (ev_neg (by omega) (Ev.now _))))
end Go.Proofs.Ytpbfideppdmceaa.E
namespace Go.Proofs.Ytpbfideppdmceaa.E
set_option linter.unusedVariables false
set_option linter.unusedSectionVars false
open Go.RowKit Go.Proofs.YtpbfideppdmceaaW.PrintWords Go.Proofs.Ytpbfideppdmceaa.Base Go.Proofs.Ytpbfideppdmceaa.Auto
section
variable {S T : List (List Int)}
theorem innP_pre {x : Int × Int} : ∀ (l P : PL), ∃ Q, innP S T x l P = P ++ Q
  | [], P => ⟨[], by simp [innP]⟩
  | y :: l, P => by
    obtain ⟨Q1, e1⟩ := addP_pre P (stp S T x y)
    obtain ⟨Q2, e2⟩ := addP_pre (addP P (stp S T x y)) (stp S T y x)
    obtain ⟨Q3, e3⟩ := innP_pre l (addP (addP P (stp S T x y)) (stp S T y x))
    exact ⟨Q1 ++ (Q2 ++ Q3), by rw [innP, e3, e2, e1]; simp⟩
theorem outP_pre : ∀ (m i : Nat) (P : PL), ∃ Q, outP S T m i P = P ++ Q
  | 0, _, P => ⟨[], by simp [outP]⟩
  | m + 1, i, P => by
    simp only [outP]
    split
    · obtain ⟨Q1, e1⟩ := innP_pre (S := S) (T := T) (x := P.getD i (0, 0)) P P
      obtain ⟨Q2, e2⟩ := outP_pre m (i + 1) (innP S T (P.getD i (0, 0)) P P)
      exact ⟨Q1 ++ Q2, by rw [e2, e1]; simp⟩
    · exact ⟨[], by simp⟩
theorem innP_len (x : Int × Int) (l P : PL) : P.length ≤ (innP S T x l P).length := by
  obtain ⟨Q, e⟩ := innP_pre (S := S) (T := T) (x := x) l P
  rw [e]; simp
theorem outP_len (m i : Nat) (P : PL) : P.length ≤ (outP S T m i P).length := by
  obtain ⟨Q, e⟩ := outP_pre (S := S) (T := T) m i P
  rw [e]; simp
theorem innP_sub {x : Int × Int} {l P : PL} {z : Int × Int} (h : z ∈ P) : z ∈ innP S T x l P := by
  obtain ⟨Q, e⟩ := innP_pre (S := S) (T := T) (x := x) l P
  rw [e]; simp [h]
theorem addP_sub {P : PL} {y z : Int × Int} (h : y ∈ P) : y ∈ addP P z := by
  obtain ⟨Q, e⟩ := addP_pre P z
  rw [e]; simp [h]
theorem innP_has {x : Int × Int} : ∀ (l P : PL) (y : Int × Int), y ∈ l → stp S T x y ∈ innP S T x l P ∧ stp S T y x ∈ innP S T x l P
  | [], _, _, h => by cases h
  | y' :: l, P, y, h => by
    rw [innP]
    rcases List.mem_cons.1 h with rfl | h
    · exact ⟨innP_sub (addP_sub (addP_mem _ _)), innP_sub (addP_mem _ _)⟩
    · exact innP_has l _ y h
theorem out_closed : ∀ (m i : Nat) (P : PL), i + m = 82 → (outP S T m i P).length ≤ 81 → (∀ x ∈ P.take i, ∀ y ∈ P.take i, stp S T x y ∈ P) →
    ∀ x ∈ outP S T m i P, ∀ y ∈ outP S T m i P, stp S T x y ∈ outP S T m i P
  | 0, i, P, hi, hl, hc => by
    simp only [outP] at hl ⊢
    rw [List.take_of_length_le (by omega)] at hc
    exact hc
  | m + 1, i, P, hi, hl, hc => by
    simp only [outP] at hl ⊢
    split
    · rename_i hil
      rw [if_pos hil] at hl
      refine out_closed m (i + 1) _ (by omega) hl ?_
      obtain ⟨p, ep⟩ : ∃ p, P.getD i (0, 0) = p := ⟨_, rfl⟩
      rw [ep]
      have hp : p ∈ P := by rw [← ep, getD_lt hil]; exact List.getElem_mem hil
      obtain ⟨Q, e⟩ := innP_pre (S := S) (T := T) (x := p) P P
      have et : (innP S T p P P).take (i + 1) = P.take i ++ [p] := by
        rw [e, List.take_append_of_le_length (by omega), List.take_add_one, List.getElem?_eq_getElem hil, ← ep, getD_lt hil]
        rfl
      rw [et]
      have hm : ∀ z ∈ P.take i ++ [p], z ∈ P := fun z hz => by
        rcases List.mem_append.1 hz with hz | hz
        · exact List.mem_of_mem_take hz
        · rw [List.mem_singleton] at hz; rw [hz]; exact hp
      intro x hx y hy
      rcases List.mem_append.1 hx with h1 | h1
      · rcases List.mem_append.1 hy with h2 | h2
        · exact innP_sub (hc x h1 y h2)
        · rw [List.mem_singleton] at h2
          rw [h2]
          exact (innP_has P P x (hm x hx)).2
      · rw [List.mem_singleton] at h1
        rw [h1]
        exact (innP_has P P y (hm y hy)).1
    · rw [List.take_of_length_le (by omega)] at hc
      exact hc
end
def ixM : PL → Int × Int → Nat → Nat
  | [], _, i => i
  | y :: l, z, i => if z = y then i else ixM l z (i + 1)
theorem ixM_drop (P : PL) (z : Int × Int) (i : Nat) (hi : i < P.length) : ixM (P.drop i) z i = if z = P.getD i (0, 0) then i else ixM (P.drop (i + 1)) z (i + 1) := by
  rw [List.drop_eq_getElem_cons hi, getD_lt hi]; rfl
theorem ix_ev (P : PL) (hP : P.length ≤ 100) (z : Int × Int) : ∀ (m i : Nat), i + m = P.length → z ∈ P.drop i → Ev (fun k => impl_couple_28.l0 k (mkP P) ((mkP P).length : Int) (i : Int) z.1 z.2) ((ixM (P.drop i) z i : Nat) : Int)
  | 0, i, hi, hz => by rw [List.drop_of_length_le (by omega)] at hz; cases hz
  | m + 1, i, hi, hz => by
    have hil : i < P.length := by omega
    rw [ixM_drop P z i hil]
    by_cases hx : z = P.getD i (0, 0)
    · rw [if_pos hx]
      refine Ev.step (fun k => by rw [impl_couple_28.l0]) ?_
      rw [mkP_get P i hil, mkP_len]
      refine ev_pos (by omega) (ev_pos (by omega) (ev_pos (by omega) (ev_pos ?_ (Ev.now _))))
      rw [← hx]; simp
    · rw [if_neg hx]
      have h1 := ix_ev P hP z m (i + 1) (by omega) (((mem_drop i hil).1 hz).resolve_left hx)
      refine Ev.step (fun k => by rw [impl_couple_28.l0]) ?_
      rw [mkP_get P i hil, w64s (by omega)]
      rw [mkP_len] at h1 ⊢
      refine ev_pos (by omega) (ev_pos (by omega) (ev_pos (by omega) (ev_neg ?_ h1)))
      intro e
      simp only [Bool.and_eq_true, beq_iff_eq] at e
      exact hx (Prod.ext e.1 e.2)
theorem num_ev (P : PL) (hP : P.length ≤ 100) (z : Int × Int) : ∀ (m i : Nat), i + m = P.length → z ∈ P.drop i → Ev (fun k => spec_l06Number.l0 k (rowP P) z.1 z.2 (i : Int)) (((ixM (P.drop i) z i : Nat) : Int), rowP P)
  | 0, i, hi, hz => by rw [List.drop_of_length_le (by omega)] at hz; cases hz
  | m + 1, i, hi, hz => by
    have hil : i < P.length := by omega
    rw [ixM_drop P z i hil]
    by_cases hx : z = P.getD i (0, 0)
    · rw [if_pos hx]
      refine Ev.step (fun k => by rw [spec_l06Number.l0]) ?_
      rw [rowP_get P i hil, rowP_len, rd20, rd21, ← hx]
      exact ev_pos (by omega) (ev_pos (by omega) (ev_pos (by simp) (ev_pos rfl (ev_pos (by simp) (ev_pos rfl (Ev.now _))))))
    · rw [if_neg hx]
      have h1 := num_ev P hP z m (i + 1) (by omega) (((mem_drop i hil).1 hz).resolve_left hx)
      refine Ev.step (fun k => by rw [spec_l06Number.l0]) ?_
      rw [rowP_get P i hil, rowP_len, rd20, rd21, w64s (by omega)]
      refine ev_pos (by omega) (ev_pos (by omega) (ev_pos (by simp) (ev_ite (fun h2 => ev_pos (by simp) (ev_ite (fun h3 => ?_) (fun _ => h1))) (fun _ => h1))))
      exact absurd (Prod.ext h2.symm h3.symm) hx
def rowM (S T : List (List Int)) (P : PL) (x : Int × Int) : List Int := P.map fun y => ((ixM P (stp S T x y) 0 : Nat) : Int)
def okM (kind : Int) (a b : Bool) : Bool := if kind = 0 then a && b else if kind = 1 then a || b else a != b
def addG (kind : Int) (a b : Bool) (G : List Int) (i : Int) : List Int := if okM kind a b = true then G ++ [i] else G
theorem addG_len (kind : Int) (a b : Bool) (G : List Int) (i : Int) : (addG kind a b G i).length ≤ G.length + 1 := by
  unfold addG
  split <;> simp
def combM (S T : List (List Int)) (g h : List Int) (kind : Int) (P : PL) : Nat → Nat → List (List Int) → List Int → List (List Int) × List Int
  | 0, _, R, G => (R, G)
  | m + 1, i, R, G => combM S T g h kind P m (i + 1) (R ++ [rowM S T P (P.getD i (0, 0))]) (addG kind (goodM g (P.getD i (0, 0)).1) (goodM h (P.getD i (0, 0)).2) G (i : Int))
theorem combM_small (S T : List (List Int)) (g h : List Int) (kind : Int) (P : PL) (hP : P.length ≤ 9) : ∀ (m i : Nat) (R : List (List Int)) (G : List Int), i + m ≤ 9 → R.length ≤ i → G.length ≤ i → (∀ r ∈ R, r.length ≤ 9) →
    (combM S T g h kind P m i R G).1.length ≤ 9 ∧ (∀ r ∈ (combM S T g h kind P m i R G).1, r.length ≤ 9) ∧ (combM S T g h kind P m i R G).2.length ≤ 9
  | 0, i, R, G, hi, hR, hG, hr => ⟨by simp only [combM]; omega, hr, by simp only [combM]; omega⟩
  | m + 1, i, R, G, hi, hR, hG, hr => by
    have := addG_len kind (goodM g (P.getD i (0, 0)).1) (goodM h (P.getD i (0, 0)).2) G (i : Int)
    simp only [combM]
    refine combM_small S T g h kind P hP m (i + 1) _ _ (by omega) (by simp; omega) (by omega) (fun r hx => ?_)
    rcases List.mem_append.1 hx with hx | hx
    · exact hr r hx
    · rw [List.mem_singleton] at hx
      rw [hx]; simpa [rowM] using hP
theorem take_map_snoc {S T : List (List Int)} {P : PL} {x : Int × Int} {j : Nat} (hj : j < P.length) : (P.take j).map (fun y => ((ixM P (stp S T x y) 0 : Nat) : Int)) ++ [((ixM P (stp S T x (P.getD j (0, 0))) 0 : Nat) : Int)] = (P.take (j + 1)).map (fun y => ((ixM P (stp S T x y) 0 : Nat) : Int)) := by
  rw [List.take_add_one, List.getElem?_eq_getElem hj, getD_lt hj, List.map_append]
  rfl
def pq (M : Nat) (P : PL) : List (List Int) × Bool := if P.length ≤ M then (rowP P, true) else ([], false)
theorem pq_pos {M : Nat} {P : PL} (h : P.length ≤ M) : pq M P = (rowP P, true) := if_pos h
theorem pq_neg {M : Nat} {P : PL} (h : ¬ P.length ≤ M) : pq M P = ([], false) := if_neg h
section
variable {st : Int} {S : List (List Int)} {g : List Int} (hA : IsA st S g) {ut : Int} {T : List (List Int)} {h : List Int} (hB : IsA ut T h)
include hA hB
theorem spec_innM (M : Nat) (hM : M ≤ 100) {x : Int × Int} (hx : (0 ≤ x.1 ∧ x.1 < S.length) ∧ 0 ≤ x.2 ∧ x.2 < T.length) (sn : PL) (hsn : PG S.length T.length sn) (i : Nat) (hi : i < sn.length) (ex : sn.getD i (0, 0) = x) (q : List (List Int) × Bool) : ∀ (m j : Nat) (P : PL), j + m = sn.length → PG S.length T.length P → (∃ Q, P = sn ++ Q) → P.length ≤ M →
    ((innP S T x (sn.drop j) P).length ≤ M → Ev (fun k => spec_l06Pairs.l0 k (M : Int) (rowP (innP S T x (sn.drop j) P)) (wrap64 ((i : Int) + 1)) st S g ut T h) q) → (M < (innP S T x (sn.drop j) P).length → q = ([], false)) → Ev (fun k => spec_l06Pairs.l1 k (M : Int) (rowP P) (i : Int) (j : Int) (sn.length : Int) st S g ut T h) q
  | 0, j, P, hj, hp, hQ, hPM, H, _ => by
    rw [List.drop_of_length_le (by omega)] at H
    refine Ev.step (fun k => by rw [spec_l06Pairs.l1]) ?_
    exact ev_neg (by omega) (H (by simpa [innP] using hPM))
  | m + 1, j, P, hj, hp, hQ, hPM, H, H2 => by
    have hjl : j < sn.length := by omega
    have h9 := hA.nine
    have h9' := hB.nine
    have hpl := hp.few h9 h9'
    rw [List.drop_eq_getElem_cons hjl, ← getD_lt hjl] at H H2
    have hmem : sn.getD j (0, 0) ∈ sn := by rw [getD_lt hjl]; exact List.getElem_mem hjl
    obtain ⟨y, ey⟩ : ∃ y, sn.getD j (0, 0) = y := ⟨_, rfl⟩
    rw [ey] at H H2 hmem
    have hy := hsn.rg y hmem
    have hp1 := hp.add (stp_rg hA hB hx hy)
    have hp2 := hp1.add (stp_rg hA hB hy hx)
    have hpl2 := hp2.few h9 h9'
    simp only [innP] at H H2
    obtain ⟨Q, eQ⟩ := hQ
    have hPl : P.length = sn.length + Q.length := by rw [eQ]; simp
    have gP : ∀ k, k < sn.length → P.getD k (0, 0) = sn.getD k (0, 0) := fun k hk => by
      rw [eQ, List.getD_eq_getElem?_getD, List.getElem?_append_left hk, ← List.getD_eq_getElem?_getD]
    obtain ⟨Q1, e1⟩ := addP_pre P (stp S T x y)
    obtain ⟨Q2, e2⟩ := addP_pre (addP P (stp S T x y)) (stp S T y x)
    have ih := spec_innM M hM hx sn hsn i hi ex q m (j + 1) _ (by omega) hp2 ⟨Q ++ (Q1 ++ Q2), by rw [e2, e1, eQ]; simp⟩
    have hin := innP_len (S := S) (T := T) x (sn.drop (j + 1)) (addP (addP P (stp S T x y)) (stp S T y x))
    obtain ⟨n1, t1⟩ := put_ev P (by omega) (stp S T x y) P.length 0 (by omega) (fun h => by simpa using h)
    obtain ⟨n2, t2⟩ := put_ev (addP P (stp S T x y)) (by have := hp1.few h9 h9'; omega) (stp S T y x) (addP P (stp S T x y)).length 0 (by omega) (fun h => by simpa using h)
    have r1 : (rd_L1 S x.1).length = S.length := hA.row x.1.toNat (by omega)
    have r2 : (rd_L1 T x.2).length = T.length := hB.row x.2.toNat (by omega)
    have r3 : (rd_L1 S y.1).length = S.length := hA.row y.1.toNat (by omega)
    have r4 : (rd_L1 T y.2).length = T.length := hB.row y.2.toNat (by omega)
    refine Ev.step (fun k => by rw [spec_l06Pairs.l1]) ?_
    rw [rowP_get P i (by omega), rowP_get P j (by omega), gP i hi, gP j hjl, ex, ey, rowP_len]
    simp only [rd20, rd21, r1, r2, r3, r4]
    rw [w64s (by omega)]
    refine ev_pos (by omega) (ev_pos (by omega) (ev_pos (by omega) (ev_pos (by omega) (ev_pos (by omega) (ev_pos (by simp) (ev_pos hx.1.1 (ev_pos hx.1.2 (ev_pos (by simp) (ev_pos hy.1.1 (ev_pos hy.1.2 (ev_pos (by simp) (ev_pos hx.2.1 (ev_pos hx.2.2 (ev_pos (by simp) (ev_pos hy.2.1 (ev_pos hy.2.2 ?_))))))))))))))))
    refine Ev.bind t1 (ev_pos hy.1.2 (ev_pos hx.1.2 (ev_pos hy.2.2 (ev_pos hx.2.2 ?_))))
    refine Ev.bind t2 (ev_ite (fun hgt => ?_) (fun hle => ?_))
    · simp only [rowP_len] at hgt
      rw [H2 (by omega)]
      exact Ev.now _
    · simp only [rowP_len] at hle
      exact ih (by omega) H H2
theorem spec_outM (M : Nat) (hM : M ≤ 100) : ∀ (m i : Nat) (P : PL), i + m = 82 → PG S.length T.length P → P.length ≤ M → Ev (fun k => spec_l06Pairs.l0 k (M : Int) (rowP P) (i : Int) st S g ut T h) (pq M (outP S T m i P))
  | 0, i, P, hi, hp, hPM => by
    have hpl := hp.few hA.nine hB.nine
    simp only [outP]
    rw [pq_pos hPM]
    refine Ev.step (fun k => by rw [spec_l06Pairs.l0]) ?_
    rw [rowP_len]
    exact ev_neg (by omega) (Ev.now _)
  | m + 1, i, P, hi, hp, hPM => by
    have hpl := hp.few hA.nine hB.nine
    simp only [outP]
    refine Ev.step (fun k => by rw [spec_l06Pairs.l0]) ?_
    rw [rowP_len]
    refine ev_ite (fun hx => ?_) (fun hx => ?_)
    · have hil : i < P.length := by omega
      have hxm := hp.rg (P.getD i (0, 0)) (by rw [getD_lt hil]; exact List.getElem_mem hil)
      rw [if_pos hil]
      refine spec_innM hA hB M hM hxm P hp i hil rfl _ P.length 0 P (by omega) hp ⟨[], by simp⟩ hPM (fun hq => ?_) (fun hq => ?_)
      · rw [w64s (by omega)]
        rw [List.drop_zero] at hq ⊢
        exact spec_outM M hM m (i + 1) _ (by omega) (inn_PG hA hB hxm P P (fun y hy => hp.rg y hy) hp) hq
      · rw [List.drop_zero] at hq
        have := outP_len (S := S) (T := T) m (i + 1) (innP S T (P.getD i (0, 0)) P P)
        exact pq_neg (by omega)
    · rw [if_neg (show ¬ i < P.length by omega), pq_pos hPM]
      exact Ev.now _
theorem spec_pairs9_ev : Ev (fun k => spec_l06Pairs.f k st S g ut T h 9) (pq 9 (outP S T 82 0 [(st, ut)])) := by
  unfold spec_l06Pairs.f
  exact spec_outM hA hB 9 (by decide) 82 0 [(st, ut)] (by omega) (start_PG hA hB) (by simp)
section
variable {P : PL} (hp : PG S.length T.length P) (hP : P.length ≤ 9) (hc : ∀ x ∈ P, ∀ y ∈ P, stp S T x y ∈ P) (hg : g.length ≤ 1048576) (hh : h.length ≤ 1048576) {kind : Int} (hk : kind = 0 ∨ kind = 1 ∨ kind = 2)
include hp hP hc hg hh hk
theorem spec_row {i : Nat} (hi : i < P.length) {R : List (List Int)} {G : List Int} (hR : R.length ≤ 9) (hG : G.length ≤ 9) (q : Int × List (List Int) × List Int)
    (H : Ev (fun k => spec_l06Combined.l0 k (rowP P) kind (wrap64 ((i : Int) + 1)) st S g ut T h 0 (R ++ [rowM S T P (P.getD i (0, 0))]) (addG kind (goodM g (P.getD i (0, 0)).1) (goodM h (P.getD i (0, 0)).2) G (i : Int))) q) :
    ∀ (m j : Nat), j + m = P.length → Ev (fun k => spec_l06Combined.l1 k (rowP P) kind (i : Int) ((P.take j).map (fun y => ((ixM P (stp S T (P.getD i (0, 0)) y) 0 : Nat) : Int))) (j : Int) st S g ut T h 0 R G) q
  | 0, j, hj => by
    rw [show P.take j = P from List.take_of_length_le (by omega)]
    refine Ev.step (fun k => by rw [spec_l06Combined.l1]) ?_
    rw [rowP_get P i hi, rowP_len, rd20, rd21]
    refine ev_neg (by omega) (ev_pos (by omega) (ev_some (ev_pos (by omega) (ev_pos (by omega) (ev_pos (by simp) (Ev.bind (spec_l06Good_ev st S g hg _) (ev_pos (by simp) (Ev.bind (spec_l06Good_ev ut T h hh _) ?_))))))))
    obtain ⟨b1, e1⟩ : ∃ b, goodM g (P.getD i (0, 0)).1 = b := ⟨_, rfl⟩
    obtain ⟨b2, e2⟩ : ∃ b, goodM h (P.getD i (0, 0)).2 = b := ⟨_, rfl⟩
    rw [e1, e2] at H ⊢
    rcases hk with rfl | rfl | rfl <;> cases b1 <;> cases b2 <;> (repeat (first | exact H | refine ev_pos (by decide) ?_ | refine ev_neg (by decide) ?_ | refine ev_pos (by omega) ?_))
  | m + 1, j, hj => by
    have hjl : j < P.length := by omega
    have ih := spec_row hi hR hG q H m (j + 1) (by omega)
    obtain ⟨x, ex⟩ : ∃ x, P.getD i (0, 0) = x := ⟨_, rfl⟩
    obtain ⟨y, ey⟩ : ∃ y, P.getD j (0, 0) = y := ⟨_, rfl⟩
    have hxm : x ∈ P := by rw [← ex, getD_lt hi]; exact List.getElem_mem hi
    have hym : y ∈ P := by rw [← ey, getD_lt hjl]; exact List.getElem_mem hjl
    have hx := hp.rg x hxm
    have hy := hp.rg y hym
    have r1 : (rd_L1 S x.1).length = S.length := hA.row x.1.toNat (by omega)
    have r2 : (rd_L1 T x.2).length = T.length := hB.row x.2.toNat (by omega)
    have hl : ((P.take j).map (fun y => ((ixM P (stp S T x y) 0 : Nat) : Int))).length ≤ 9 := by simp; omega
    have nv := num_ev P (by omega) (stp S T x y) P.length 0 (by omega) (by simpa using hc x hxm y hym)
    rw [← take_map_snoc hjl, ex, ey] at ih
    rw [ex]
    refine Ev.step (fun k => by rw [spec_l06Combined.l1]) ?_
    rw [rowP_get P i hi, rowP_get P j hjl, rowP_len, ex, ey]
    simp only [rd20, rd21, r1, r2]
    rw [w64s (by omega)]
    refine ev_pos (by omega) (ev_pos (by omega) (ev_pos (by omega) (ev_pos (by simp) (ev_pos hx.1.1 (ev_pos hx.1.2 (ev_pos (by omega) (ev_pos (by simp) (ev_pos hy.1.1 (ev_pos hy.1.2 (ev_pos (by simp) (ev_pos hx.2.1 (ev_pos hx.2.2 (ev_pos (by simp) (ev_pos hy.2.1 (ev_pos hy.2.2 ?_)))))))))))))))
    unfold spec_l06Number.f
    refine Ev.bind nv (ev_pos (by omega) ?_)
    simpa using ih
theorem spec_comb : ∀ (m i : Nat) (R : List (List Int)) (G : List Int), i + m = P.length → R.length ≤ i → G.length ≤ i → Ev (fun k => spec_l06Combined.l0 k (rowP P) kind (i : Int) st S g ut T h 0 R G) (0, combM S T g h kind P m i R G)
  | 0, i, R, G, hi, hR, hG => by
    refine Ev.step (fun k => by rw [spec_l06Combined.l0]) ?_
    rw [rowP_len]
    exact ev_neg (by omega) (Ev.now _)
  | m + 1, i, R, G, hi, hR, hG => by
    have hgl := addG_len kind (goodM g (P.getD i (0, 0)).1) (goodM h (P.getD i (0, 0)).2) G (i : Int)
    have ih := spec_comb m (i + 1) (R ++ [rowM S T P (P.getD i (0, 0))]) (addG kind (goodM g (P.getD i (0, 0)).1) (goodM h (P.getD i (0, 0)).2) G (i : Int)) (by omega) (by simp; omega) (by omega)
    refine Ev.step (fun k => by rw [spec_l06Combined.l0]) ?_
    rw [rowP_len]
    refine ev_pos (by omega) ?_
    have := spec_row hA hB hp hP hc hg hh hk (i := i) (by omega) (R := R) (G := G) (by omega) (by omega) _ (by rw [w64s (by omega)]; exact ih) P.length 0 (by omega)
    simpa [combM] using this
theorem impl_row {i : Nat} (hi : i < P.length) {R : List (List Int)} {G : List Int} (hR : R.length ≤ 9) (hG : G.length ≤ 9) (q : Int × List (List Int) × List Int × Int)
    (H : Ev (fun k => impl_CombineAutomata.l0 k kind (mkP P) (mkP P) ((mkP P).length : Int) (wrap64 ((i : Int) + 1)) st S g ut T h 0 (R ++ [rowM S T P (P.getD i (0, 0))]) (addG kind (goodM g (P.getD i (0, 0)).1) (goodM h (P.getD i (0, 0)).2) G (i : Int))) q) :
    ∀ (m j : Nat), j + m = P.length → Ev (fun k => impl_CombineAutomata.l1 k kind (mkP P) (i : Int) ((P.take j).map (fun y => ((ixM P (stp S T (P.getD i (0, 0)) y) 0 : Nat) : Int))) (mkP P) ((mkP P).length : Int) (i : Int) (mkP P) ((mkP P).length : Int) (j : Int) st S g ut T h 0 R G (P.getD i (0, 0)).1 (P.getD i (0, 0)).2) q
  | 0, j, hj => by
    rw [show P.take j = P from List.take_of_length_le (by omega)]
    have hgf : Ev (fun k => impl_isGoodFor.f k st S g ut T h (P.getD i (0, 0)).1 (P.getD i (0, 0)).2 kind) (okM kind (goodM g (P.getD i (0, 0)).1) (goodM h (P.getD i (0, 0)).2)) := by
      unfold impl_isGoodFor.f
      refine Ev.bind (impl_isGood_ev st S g hg _) (Ev.bind (impl_isGood_ev ut T h hh _) ?_)
      obtain ⟨b1, e1⟩ : ∃ b, goodM g (P.getD i (0, 0)).1 = b := ⟨_, rfl⟩
      obtain ⟨b2, e2⟩ : ∃ b, goodM h (P.getD i (0, 0)).2 = b := ⟨_, rfl⟩
      rw [e1, e2]
      rcases hk with rfl | rfl | rfl <;> cases b1 <;> cases b2 <;> exact Ev.now _
    refine Ev.step (fun k => by rw [impl_CombineAutomata.l1]) ?_
    rw [mkP_len] at H ⊢
    refine ev_neg (by omega) (ev_pos (by omega) (ev_some (Ev.bind hgf (ev_ite (fun hx => ?_) (fun hx => ?_)))))
    · rw [addG, if_pos hx] at H
      exact ev_pos (by omega) H
    · rw [addG, if_neg hx] at H
      exact H
  | m + 1, j, hj => by
    have hjl : j < P.length := by omega
    have ih := impl_row hi hR hG q H m (j + 1) (by omega)
    obtain ⟨x, ex⟩ : ∃ x, P.getD i (0, 0) = x := ⟨_, rfl⟩
    obtain ⟨y, ey⟩ : ∃ y, P.getD j (0, 0) = y := ⟨_, rfl⟩
    have hxm : x ∈ P := by rw [← ex, getD_lt hi]; exact List.getElem_mem hi
    have hym : y ∈ P := by rw [← ey, getD_lt hjl]; exact List.getElem_mem hjl
    have hx := hp.rg x hxm
    have hy := hp.rg y hym
    have r1 : (rd_L1 S x.1).length = S.length := hA.row x.1.toNat (by omega)
    have r2 : (rd_L1 T x.2).length = T.length := hB.row x.2.toNat (by omega)
    have hl : ((P.take j).map (fun y => ((ixM P (stp S T x y) 0 : Nat) : Int))).length ≤ 9 := by simp; omega
    have nv := ix_ev P (by omega) (stp S T x y) P.length 0 (by omega) (by simpa using hc x hxm y hym)
    rw [← take_map_snoc hjl, ex, ey] at ih
    rw [ex]
    refine Ev.step (fun k => by rw [impl_CombineAutomata.l1]) ?_
    rw [mkP_get P j hjl, ey]
    simp only [r1, r2]
    rw [w64s (by omega)]
    refine ev_pos (by rw [mkP_len]; omega) (ev_pos (by omega) (ev_pos (by rw [mkP_len]; omega) (ev_pos hx.1.1 (ev_pos hx.1.2 (ev_pos hy.1.1 (ev_pos hy.1.2 (ev_pos hx.2.1 (ev_pos hx.2.2 (ev_pos hy.2.1 (ev_pos hy.2.2 ?_))))))))))
    unfold impl_couple_28.f
    refine Ev.bind nv (ev_pos (by omega) ?_)
    simpa using ih
theorem impl_comb : ∀ (m i : Nat) (R : List (List Int)) (G : List Int), i + m = P.length → R.length ≤ i → G.length ≤ i → Ev (fun k => impl_CombineAutomata.l0 k kind (mkP P) (mkP P) ((mkP P).length : Int) (i : Int) st S g ut T h 0 R G) (0, (combM S T g h kind P m i R G).1, (combM S T g h kind P m i R G).2, 0)
  | 0, i, R, G, hi, hR, hG => by
    refine Ev.step (fun k => by rw [impl_CombineAutomata.l0]) ?_
    rw [mkP_len]
    exact ev_neg (by omega) (Ev.now _)
  | m + 1, i, R, G, hi, hR, hG => by
    have hgl := addG_len kind (goodM g (P.getD i (0, 0)).1) (goodM h (P.getD i (0, 0)).2) G (i : Int)
    have ih := impl_comb m (i + 1) (R ++ [rowM S T P (P.getD i (0, 0))]) (addG kind (goodM g (P.getD i (0, 0)).1) (goodM h (P.getD i (0, 0)).2) G (i : Int)) (by omega) (by simp; omega) (by omega)
    have := impl_row hA hB hp hP hc hg hh hk (i := i) (by omega) (R := R) (G := G) (by omega) (by omega) _ (by rw [w64s (by omega)]; exact ih) P.length 0 (by omega)
    refine Ev.step (fun k => by rw [impl_CombineAutomata.l0]) ?_
    rw [mkP_get P i (by omega)]
    refine ev_pos (by rw [mkP_len]; omega) (ev_pos (by omega) (ev_pos (by rw [mkP_len]; omega) ?_))
    simpa [combM] using this
end
end
theorem both_Combine {S : List (List Int)} {g : List Int} (hs : SmallA S g) (st : Int) {T : List (List Int)} {h : List Int} (ht : SmallA T h) (ut kind : Int) : ∃ r : Int × List (List Int) × List Int × Int, SmallA r.2.1 r.2.2.1 ∧ Ev (fun k => spec_CombineAutomata.f k st S g ut T h kind) r ∧ Ev (fun k => impl_CombineAutomata.f k st S g ut T h kind) r := by
  have hz : SmallA [] [] := ⟨by simp, fun j hj => by simp at hj, by simp⟩
  by_cases hc : isAutM st S g = true ∧ isAutM ut T h = true
  · obtain ⟨h1, h2⟩ := hc
    have hA := isAutM_sound h1
    have hB := isAutM_sound h2
    have hPG := out_PG hA hB 82 0 _ (start_PG hA hB)
    have hfew := hPG.few hA.nine hB.nine
    have hcl := out_closed (S := S) (T := T) 82 0 [(st, ut)] (by omega) hfew (fun x hx => by simp at hx)
    have hpairs := spec_pairs9_ev hA hB
    have hcoup := impl_couples_ev hA hB
    generalize outP S T 82 0 [(st, ut)] = P at hPG hfew hcl hpairs hcoup
    have sp : ∀ r, Ev (fun k => spec_CombineAutomata.j0 k kind (!true) st S g ut T h) r → Ev (fun k => spec_CombineAutomata.f k st S g ut T h kind) r := fun r hr => by
      unfold spec_CombineAutomata.f
      exact Ev.bind (spec_l06Is_ev hs st) (ev_pos h1 (Ev.bind (spec_l06Is_ev ht ut) (by rw [h2]; exact hr)))
    have im : ∀ r, Ev (fun k => impl_CombineAutomata.j0 k kind (!true) st S g ut T h) r → Ev (fun k => impl_CombineAutomata.f k st S g ut T h kind) r := fun r hr => by
      unfold impl_CombineAutomata.f
      exact Ev.bind (impl_IsAutomaton_ev hs st) (ev_pos h1 (Ev.bind (impl_IsAutomaton_ev ht ut) (by rw [h2]; exact hr)))
    by_cases hk : 0 ≤ kind ∧ kind ≤ 2
    · have hk3 : kind = 0 ∨ kind = 1 ∨ kind = 2 := by omega
      have hin : spec_l01In.f kind 0 2 = some true := by
        rw [l01In_eq, decide_eq_true hk.1, decide_eq_true hk.2]; rfl
      by_cases hl : P.length ≤ 9
      · rw [pq_pos hl] at hpairs
        obtain ⟨s1, s2, s3⟩ := combM_small S T g h kind P hl P.length 0 [] [] (by omega) (by simp) (by simp) (by simp)
        have e1 := spec_comb hA hB hPG hl hcl hs.good ht.good hk3 P.length 0 [] [] (by omega) (by simp) (by simp)
        have e2 := impl_comb hA hB hPG hl hcl hs.good ht.good hk3 P.length 0 [] [] (by omega) (by simp) (by simp)
        refine ⟨(0, (combM S T g h kind P P.length 0 [] []).1, (combM S T g h kind P P.length 0 [] []).2, 0), ⟨by simp only; omega, fun j hj => ?_, by simp only; omega⟩, sp _ ?_, im _ ?_⟩
        · have hj' : j < (combM S T g h kind P P.length 0 [] []).1.length := hj
          have := s2 _ (List.getElem_mem hj')
          show ((combM S T g h kind P P.length 0 [] []).1.getD j []).length ≤ 1048576
          rw [List.getD_eq_getElem?_getD, List.getElem?_eq_getElem hj']
          simp only [Option.getD_some]
          omega
        · refine Ev.step (fun k => by rw [spec_CombineAutomata.j0]) ?_
          simp only [hin]
          refine ev_neg (by decide) (ev_some (ev_pos rfl (Ev.bind hpairs (ev_pos rfl ?_))))
          unfold spec_l06Combined.f
          exact Ev.bind e1 (Ev.now _)
        · refine Ev.step (fun k => by rw [impl_CombineAutomata.j0]) ?_
          exact ev_neg (by decide) (ev_neg (by omega) (ev_neg (by omega) (Ev.bind hcoup (ev_neg (by rw [mkP_len]; omega) e2))))
      · rw [pq_neg hl] at hpairs
        refine ⟨(0, [], [], 3), hz, sp _ ?_, im _ ?_⟩
        · refine Ev.step (fun k => by rw [spec_CombineAutomata.j0]) ?_
          simp only [hin]
          exact ev_neg (by decide) (ev_some (ev_pos rfl (Ev.bind hpairs (ev_neg (by decide) (Ev.now _)))))
        · refine Ev.step (fun k => by rw [impl_CombineAutomata.j0]) ?_
          exact ev_neg (by decide) (ev_neg (by omega) (ev_neg (by omega) (Ev.bind hcoup (ev_pos (by rw [mkP_len]; omega) (Ev.now _)))))
    · have hin : spec_l01In.f kind 0 2 = some false := by
        rw [l01In_eq]
        by_cases h0 : 0 ≤ kind
        · rw [decide_eq_true h0, decide_eq_false (show ¬ kind ≤ 2 by omega)]; rfl
        · rw [decide_eq_false h0]; rfl
      refine ⟨(0, [], [], 2), hz, sp _ ?_, im _ ?_⟩
      · refine Ev.step (fun k => by rw [spec_CombineAutomata.j0]) ?_
        simp only [hin]
        exact ev_neg (by decide) (ev_some (ev_neg (by decide) (Ev.now _)))
      · refine Ev.step (fun k => by rw [impl_CombineAutomata.j0]) ?_
        exact ev_neg (by decide) (ev_ite (fun _ => Ev.now _) (fun _ => ev_pos (by omega) (Ev.now _)))
  · refine ⟨(0, [], [], 1), hz, ?_, ?_⟩
    · unfold spec_CombineAutomata.f
      refine Ev.bind (spec_l06Is_ev hs st) (ev_ite (fun h1 => Ev.bind (spec_l06Is_ev ht ut) ?_) (fun h1 => ?_))
      · refine Ev.step (fun k => by rw [spec_CombineAutomata.j0]) ?_
        exact ev_pos (by simpa using fun h2 => hc ⟨h1, h2⟩) (Ev.now _)
      · refine Ev.step (fun k => by rw [spec_CombineAutomata.j0]) ?_
        exact ev_pos rfl (Ev.now _)
    · unfold impl_CombineAutomata.f
      refine Ev.bind (impl_IsAutomaton_ev hs st) (ev_ite (fun h1 => Ev.bind (impl_IsAutomaton_ev ht ut) ?_) (fun h1 => ?_))
      · refine Ev.step (fun k => by rw [impl_CombineAutomata.j0]) ?_
        exact ev_pos (by simpa using fun h2 => hc ⟨h1, h2⟩) (Ev.now _)
      · refine Ev.step (fun k => by rw [impl_CombineAutomata.j0]) ?_
        exact ev_pos rfl (Ev.now _)
end Go.Proofs.Ytpbfideppdmceaa.E
namespace Go.Proofs.Ytpbfideppdmceaa.E
set_option linter.unusedVariables false
set_option linter.unusedSectionVars false
open Go.RowKit Go.Proofs.YtpbfideppdmceaaW.PrintWords Go.Proofs.Ytpbfideppdmceaa.Base Go.Proofs.Ytpbfideppdmceaa.Auto
theorem szAutomaton_evA (a : Int) (a0 : 0 ≤ a) (a1 : a ≤ 1048576) (st : Int) (S : List (List Int)) (g : List Int) (hS : S.length ≤ maxLen) (hm : ∀ j, j < S.length → (S.getD j []).length ≤ maxLen) (hg : g.length ≤ maxLen) :
    ∃ r, Ev (fun k => laws_szAutomaton.f k st S g a) r ∧ (r < 0 ∨ (0 ≤ r ∧ r ≤ 1048576 ∧ SmallA S g)) := by
  unfold maxLen at hS
  have fin : ∀ r1 : Int, Ev (fun k => laws_szInt64SS.f k S a) r1 → (r1 = -1 ∨ (0 ≤ r1 ∧ r1 ≤ 1048576 ∧ S.length ≤ 1048576 ∧ ∀ j, j < S.length → (S.getD j []).length ≤ 1048576)) →
      ∃ r, Ev (fun k => laws_szAutomaton.f k st S g a) r ∧ (r < 0 ∨ (0 ≤ r ∧ r ≤ 1048576 ∧ SmallA S g)) := by
    intro r1 h1 h2
    rcases h2 with h2 | ⟨h2, h3, h4, h5⟩
    · refine ⟨-1, ?_, .inl (by decide)⟩
      unfold laws_szAutomaton.f
      exact Ev.bind h1 (ev_pos (by omega) (Ev.now _))
    · have hr := sz_row g r1 h2 h3 hg
      by_cases hx : r1 < g.length
      · refine ⟨-1, ?_, .inl (by decide)⟩
        unfold laws_szAutomaton.f
        refine Ev.bind h1 (ev_neg (by omega) ?_)
        simp only [hr, if_pos hx]
        exact ev_some (ev_pos (by decide) (Ev.now _))
      · refine ⟨r1 - g.length, ?_, .inr ⟨by omega, by omega, h4, h5, by omega⟩⟩
        unfold laws_szAutomaton.f
        refine Ev.bind h1 (ev_neg (by omega) ?_)
        simp only [hr, if_neg hx]
        exact ev_some (ev_neg (by omega) (Ev.now _))
  by_cases hb : a < S.length
  · refine fin (-1) ?_ (.inl rfl)
    unfold laws_szInt64SS.f
    rw [w64 (by omega) (by omega)]
    exact ev_pos (by omega) (Ev.now _)
  · obtain ⟨r, h1, h2⟩ := sz_loop S (by omega) hm S.length 0 (a - S.length) (by omega) (by omega) (by omega)
    refine fin r ?_ ?_
    · unfold laws_szInt64SS.f
      rw [w64 (by omega) (by omega)]
      exact ev_neg (by omega) h1
    · rcases h2 with h2 | ⟨h2, h3, h4⟩
      · exact .inl h2
      · exact .inr ⟨h2, by omega, by omega, fun j hj => h4 j (by omega) hj⟩
end Go.Proofs.Ytpbfideppdmceaa.E
namespace Go.Proofs.Ytpbfideppdmceaa.Pure
set_option linter.unusedVariables false
set_option linter.unusedSectionVars false
open Go.RowKit Go.Proofs.YtpbfideppdmceaaW.PrintWords Go.Proofs.Ytpbfideppdmceaa.Base Go.Proofs.Ytpbfideppdmceaa.Auto Go.Proofs.Ytpbfideppdmceaa.E
theorem FnExactCombineAutomata : ∀ (st : Int) (S : List (List Int)) (g : List Int) (ut : Int) (T : List (List Int)) (h : List Int) (kind : Int), (Lit.int .i64 st).wf = true → S.length ≤ maxLen → (∀ y ∈ S, y.length ≤ maxLen ∧ ∀ x ∈ y, (Lit.int .i64 x).wf = true) → g.length ≤ maxLen → (∀ x ∈ g, (Lit.int .i64 x).wf = true) → (Lit.int .i64 ut).wf = true → T.length ≤ maxLen → (∀ y ∈ T, y.length ≤ maxLen ∧ ∀ x ∈ y, (Lit.int .i64 x).wf = true) → h.length ≤ maxLen → (∀ x ∈ h, (Lit.int .i64 x).wf = true) → (Lit.int .i64 kind).wf = true → ∃ k, laws_FnExactCombineAutomata.f k st S g ut T h kind = some true := by
  intro st S g ut T h kind _ hS hm hg _ _ hT hmT hh _ _
  apply Ev.rounds
  have get : ∀ (X : List (List Int)), (∀ y ∈ X, y.length ≤ maxLen ∧ ∀ x ∈ y, (Lit.int .i64 x).wf = true) → ∀ j, j < X.length → (X.getD j []).length ≤ maxLen := fun X hX j hj => by
    have : X.getD j [] ∈ X := by rw [List.getD_eq_getElem?_getD, List.getElem?_eq_getElem hj]; exact List.getElem_mem hj
    exact (hX _ this).1
  obtain ⟨r, h1, h2⟩ := szAutomaton_ev st S g hS (get S hm) hg
  unfold laws_FnExactCombineAutomata.f
  refine Ev.bind h1 ?_
  rcases h2 with h2 | ⟨h2, h3, hs⟩
  · exact ev_pos h2 (Ev.now _)
  · refine ev_neg (by omega) ?_
    obtain ⟨r2, h4, h5⟩ := szAutomaton_evA r h2 h3 ut T h hT (get T hmT) hh
    refine Ev.bind h4 ?_
    rcases h5 with h5 | ⟨h5, _, ht⟩
    · exact ev_pos h5 (Ev.now _)
    · obtain ⟨⟨a, R, b, c⟩, hq, q1, q2⟩ := both_Combine hs st ht ut kind
      have hq' : SmallA R b := hq
      have hb := sumL_big hs.rows hs.each
      have hb2 := sumL_big ht.rows ht.each
      have hsg := hs.good
      refine ev_neg (by omega) (Ev.bind (toA_ev hs st) (Ev.bind (toA_ev ht ut) (Ev.bind q1 (Ev.bind (toA_ev hs st) (Ev.bind (toA_ev ht ut) (Ev.bind q2 (Ev.bind (eqA_ev hq' a) (ev_pos rfl ?_))))))))
      refine Ev.step (fun k => by rw [laws_FnExactCombineAutomata.j0]) ?_
      refine ev_neg (by simp) (Ev.bind (toA_ev hs st) (Ev.bind (eqA_ev hs st) (ev_pos rfl (Ev.bind (toA_ev ht ut) (Ev.bind (eqA_ev ht ut) (ev_pos rfl ?_))))))
      refine Ev.bind (markA_ev hs st (by decide) (by decide)) (Ev.bind (markA_ev ht ut (by simp only; omega) (by simp only; omega)) (ev_neg (by simp only; omega) (Ev.bind (eqA_ev hq' a) (ev_pos rfl ?_))))
      refine Ev.step (fun k => by rw [laws_FnExactCombineAutomata.j1]) ?_
      refine ev_neg (by simp) ?_
      refine Ev.bind (markA_ev hq' a (by decide) (by decide)) (Ev.bind (heldA_ev hq' a (by decide) (by decide)) (ev_neg (by omega) (ev_pos rfl (Ev.bind (toA_ev hs st) (Ev.bind (toA_ev ht ut) (Ev.bind q2 (Ev.bind (eqA_ev hq' a) (ev_pos rfl ?_))))))))
      refine Ev.step (fun k => by rw [laws_FnExactCombineAutomata.j2]) ?_
      refine ev_neg (by simp) ?_
      exact Ev.bind (heldA_ev hq' a (by decide) (by decide)) (ev_neg (by omega) (ev_pos rfl (Ev.now _)))
end Go.Proofs.Ytpbfideppdmceaa.Pure
namespace Go.Proofs.Ytpbfideppdmceaa.Open
set_option linter.unusedVariables false
set_option linter.unusedSectionVars false
open Go.RowKit Go.ChangeShapes Go.WideShapes Go.ChangeAt Go.Deep Go.Proofs.YtpbfideppdmceaaW.PrintWords
section
variable {H : Type} {enc : TypeId × Value → H} {P : Program} {w : World} {base : Nat} {held : Bool}

def Opens {α : Type} (d : Kd α) (Q : α → Prop) (enc : TypeId × Value → H) (P : Program) (w : World) (base : Nat) (held : Bool) (t : TypeId) : Prop :=
  ∀ (fuel : Nat) (cs : List Value) (x : DataW H × List MemPlace), DataW.trod enc P w base (fun _ => true) held fuel t cs = some x → ∃ a, d.K w a cs ∧ Q a
theorem opens_int {t : TypeId} {k : IntKind} (ht : P.underlying t = some (.int k)) : Opens (Kd.int k) (fun n => (Lit.int k n).wf = true) enc P w base held t := by
  intro fuel cs x h
  obtain ⟨n, rfl, _, hw⟩ := DataW.trod_int ht h
  exact ⟨n, rfl, hw⟩
theorem opens_slice {α : Type} [Inhabited α] {d : Kd α} {Q : α → Prop} {t e : TypeId} (ht : P.underlying t = some (.slice e)) (hc : P.cellsOf e = d.sz) (he : Opens d Q enc P w base held e) :
    Opens (Kd.slice e d) (fun xs => xs.length ≤ maxLen ∧ ∀ y ∈ xs, Q y) enc P w base held t := by
  intro fuel cs x h
  rcases open_slice ht h with ⟨rfl, _⟩ | ⟨a, len, cap, m, n, D, Pl, rfl, _, hl, hm, hmm, _, each⟩
  · exact ⟨[], ⟨none, 0, rfl, Nat.le_refl _, rfl, by simp, fun h0 => by simp at h0⟩, by simp, by simp⟩
  · simp only [if_true] at hmm
    have hx : ∀ i, i < len → ∃ y : α, Q y ∧ ∃ cs', w.cells? base (a.add (i * P.cellsOf e)) (P.cellsOf e) = some cs' ∧ d.K w y cs' := by
      intro i hi
      obtain ⟨cs', h1, h2⟩ := each i (by omega)
      obtain ⟨y, hk, hq⟩ := he _ _ _ h2
      exact ⟨y, hq, cs', h1, hk⟩
    obtain ⟨f, hf⟩ := choose_lt hx
    refine ⟨(List.range len).map f, ⟨some a, cap, by simp, by simpa using hl, by simp, by unfold maxLen at hm; simp; omega, fun _ => ⟨a, rfl, fun j p hj => ?_⟩⟩, by simp; omega, fun y hy => ?_⟩
    · rw [List.getElem?_map] at hj
      have hjl : j < len := by
        rcases Nat.lt_or_ge j len with h | h
        · exact h
        · rw [List.getElem?_eq_none (by simpa using h)] at hj
          cases hj
      rw [List.getElem?_range hjl] at hj
      obtain rfl := Option.some.inj hj
      obtain ⟨_, cs', h1, h2⟩ := hf j hjl
      obtain ⟨_, h3, h4⟩ := World.cells?_some h1
      refine ⟨cs', d.K_len h2, h2, fun i u hu => ?_⟩
      have hi : i < P.cellsOf e := by
        rw [← h3]
        exact (List.getElem?_eq_some_iff.1 hu).1
      have h5 := h4 i hi
      rw [hu] at h5
      rw [Go.Deep.add_add] at h5
      rw [← hc]
      exact h5
    · obtain ⟨i, hi, rfl⟩ := List.mem_map.1 hy
      exact (hf i (List.mem_range.1 hi)).1
theorem slice_in {α : Type} [Inhabited α] {d : Kd α} {Q : α → Prop} {t e : TypeId} {v : Value} {fuel : Nat} {x : DataW H × List MemPlace} (ht : P.underlying t = some (.slice e)) (hc : P.cellsOf e = d.sz) (he : Opens d Q enc P w base held e)
    (h : DataW.trod enc P w base (fun _ => true) held fuel t [v] = some x) : ∃ (A : Option Addr) (c : Nat) (xs : List α), v = .slice A xs.length c ∧ xs.length ≤ c ∧ xs.length ≤ maxLen ∧ d.C w A xs.length xs ∧ ∀ y ∈ xs, Q y := by
  obtain ⟨xs, ⟨A, c, hv, hl, hC⟩, hm, hq⟩ := opens_slice ht hc he _ _ _ h
  obtain rfl : v = .slice A xs.length c := by simpa using hv
  exact ⟨A, c, xs, rfl, hl, hm, hC, hq⟩
end
end Go.Proofs.Ytpbfideppdmceaa.Open
