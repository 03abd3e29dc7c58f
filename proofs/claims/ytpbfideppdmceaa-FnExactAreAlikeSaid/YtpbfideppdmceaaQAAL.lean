/- The row of the law FnExactAreAlike, out of its pure statement. -/
import Derived.Test.YtpbfideppdmceaaQAAEx2
import Derived.Test.YtpbfideppdmceaaQAAEx3
import Derived.Test.YtpbfideppdmceaaQAAEx4
import Derived.Test.YtpbfideppdmceaaQAAEx5
import Derived.Test.YtpbfideppdmceaaQAAEx6
import Derived.Test.YtpbfideppdmceaaQAAW
import Derived.Deep.Slices
import Derived.Lib.SmallJoins
import Derived.OpenShut
import Derived.WalkKit
namespace Go.Proofs.Ytpbfideppdmceaa.Base
set_option linter.unusedVariables false
set_option linter.unusedSectionVars false
open Go.RowKit Go.Proofs.YtpbfideppdmceaaW.PrintWords

theorem ev_pos {α : Type} {c : Prop} [Decidable c] {f g : Nat → Option α} {r : α} (h : c) (k : Ev f r) : Ev (fun n => if c then f n else g n) r := by
  simpa [h] using k
theorem ev_neg {α : Type} {c : Prop} [Decidable c] {f g : Nat → Option α} {r : α} (h : ¬ c) (k : Ev g r) : Ev (fun n => if c then f n else g n) r := by
  simpa [h] using k
theorem ev_ite {α : Type} {c : Prop} [Decidable c] {f g : Nat → Option α} {r : α} (h : c → Ev f r) (k : ¬ c → Ev g r) : Ev (fun n => if c then f n else g n) r := by
  by_cases hc : c
  · exact ev_pos hc (h hc)
  · exact ev_neg hc (k hc)
theorem ev_now {α : Type} {a r : α} (h : a = r) : Ev (fun _ => some a) r := h ▸ Ev.now a
theorem ev_some {α β : Type} {f : Nat → α → Option β} {a : α} {r : β} (k : Ev (fun n => f n a) r) : Ev (fun n => (some a).bind (f n)) r := by
  simpa using k
theorem w64 {x : Int} (h1 : -9223372036854775808 ≤ x) (h2 : x ≤ 9223372036854775807) : wrap64 x = x := by unfold wrap64; omega
theorem w64s {i : Nat} (h : i < 9223372036854775807) : wrap64 ((i : Int) + 1) = ((i + 1 : Nat) : Int) := by unfold wrap64; omega
theorem rd_nat (l : List Int) (i : Nat) : rd l (i : Int) = l.getD i 0 := rfl
theorem set_eq {l m : List Int} {i : Nat} (hl : m.length = l.length) (h : ∀ j, j < i → m.getD j 0 = l.getD j 0) : ∀ j, j < i + 1 → (m.set i (l.getD i 0)).getD j 0 = l.getD j 0 := by
  intro j hj
  rw [List.getD_eq_getElem?_getD, List.getElem?_set]
  by_cases e : i = j
  · subst e
    by_cases hlt : i < m.length
    · simp [hlt]
    · rw [if_pos rfl, if_neg hlt, List.getD_eq_getElem?_getD, List.getElem?_eq_none (by omega)]
  · rw [if_neg e, ← List.getD_eq_getElem?_getD]
    exact h j (by omega)
theorem ext_getD {l m : List Int} (hl : m.length = l.length) (h : ∀ j, j < l.length → m.getD j 0 = l.getD j 0) : m = l := by
  apply List.ext_getElem hl
  intro j h1 h2
  have := h j h2
  rwa [List.getD_eq_getElem?_getD, List.getD_eq_getElem?_getD, List.getElem?_eq_getElem h1, List.getElem?_eq_getElem h2] at this
theorem getD_replicate {n j : Nat} {v : Int} (h : j < n) : (List.replicate n v).getD j 0 = v := by
  rw [List.getD_eq_getElem?_getD, List.getElem?_replicate, if_pos h]; rfl
theorem get_set_ne {l : List Int} {i j : Nat} {v : Int} (h : i ≠ j) : (l.set i v).getD j 0 = l.getD j 0 := by
  rw [List.getD_eq_getElem?_getD, List.getElem?_set_ne h, ← List.getD_eq_getElem?_getD]
theorem get_set_eq {l : List Int} {i : Nat} {v : Int} (h : i < l.length) : (l.set i v).getD i 0 = v := by
  rw [List.getD_eq_getElem?_getD, List.getElem?_set_self h]; rfl
end Go.Proofs.Ytpbfideppdmceaa.Base
namespace Go.Proofs.Ytpbfideppdmceaa.Auto
set_option linter.unusedVariables false
set_option linter.unusedSectionVars false
open Go.RowKit Go.Proofs.YtpbfideppdmceaaW.PrintWords Go.Proofs.Ytpbfideppdmceaa.Base

def inS (m : Nat) (s : Int) : Bool := decide (0 ≤ s) && decide (s < m)
theorem inS_iff {m : Nat} {s : Int} : inS m s = true ↔ 0 ≤ s ∧ s < m := by
  unfold inS; rw [Bool.and_eq_true, decide_eq_true_eq, decide_eq_true_eq]
def rowOk (m : Nat) (row : List Int) : Bool := decide (row.length = m) && row.all (inS m)
def goodFrom (m : Nat) (g : List Int) : Nat → Nat → Bool
  | 0, _ => true
  | k + 1, i => (inS m (g.getD i 0) && (decide (i = 0) || decide (g.getD (i - 1) 0 < g.getD i 0))) && goodFrom m g k (i + 1)
def isAutM (st : Int) (S : List (List Int)) (g : List Int) : Bool :=
  decide (1 ≤ S.length) && decide (S.length ≤ 9) && inS S.length st && S.all (rowOk S.length) && goodFrom S.length g g.length 0
def stepM (S : List (List Int)) (a b : Int) : Int := (S.getD a.toNat []).getD b.toNat 0
structure IsA (st : Int) (S : List (List Int)) (g : List Int) : Prop where
  one : 1 ≤ S.length
  nine : S.length ≤ 9
  start : 0 ≤ st ∧ st < S.length
  row : ∀ i, i < S.length → (S.getD i []).length = S.length
  step : ∀ i j, i < S.length → j < S.length → 0 ≤ (S.getD i []).getD j 0 ∧ (S.getD i []).getD j 0 < S.length
  good : ∀ i, i < g.length → 0 ≤ g.getD i 0 ∧ g.getD i 0 < S.length
  asc : ∀ i, 0 < i → i < g.length → g.getD (i - 1) 0 < g.getD i 0
theorem goodFrom_sound {m : Nat} {g : List Int} : ∀ (k i : Nat), goodFrom m g k i = true → ∀ j, i ≤ j → j < i + k → (0 ≤ g.getD j 0 ∧ g.getD j 0 < m) ∧ (0 < j → g.getD (j - 1) 0 < g.getD j 0)
  | 0, i, _, j, h1, h2 => by omega
  | k + 1, i, h, j, h1, h2 => by
    simp only [goodFrom, Bool.and_eq_true, Bool.or_eq_true, decide_eq_true_eq, inS_iff] at h
    by_cases e : j = i
    · subst e
      refine ⟨h.1.1, fun h0 => ?_⟩
      rcases h.1.2 with h3 | h3
      · omega
      · exact h3
    · exact goodFrom_sound k (i + 1) h.2 j (by omega) (by omega)
theorem all_getD {α : Type} {p : α → Bool} {l : List α} (h : l.all p = true) (x : α) {i : Nat} (hi : i < l.length) : p (l.getD i x) = true := by
  rw [List.getD_eq_getElem?_getD, List.getElem?_eq_getElem hi]
  exact List.all_eq_true.1 h _ (List.getElem_mem hi)
theorem isAutM_sound {st : Int} {S : List (List Int)} {g : List Int} (h : isAutM st S g = true) : IsA st S g := by
  unfold isAutM at h
  simp only [Bool.and_eq_true, decide_eq_true_eq, inS_iff] at h
  obtain ⟨⟨⟨⟨h1, h2⟩, h3⟩, h4⟩, h5⟩ := h
  have hr : ∀ i, i < S.length → rowOk S.length (S.getD i []) = true := fun i hi => all_getD h4 [] hi
  have hg := goodFrom_sound g.length 0 h5
  refine ⟨h1, h2, h3, fun i hi => ?_, fun i j hi hj => ?_, fun i hi => (hg i (by omega) (by omega)).1, fun i h0 hi => (hg i (by omega) (by omega)).2 h0⟩
  · have := hr i hi
    simp only [rowOk, Bool.and_eq_true, decide_eq_true_eq] at this
    exact this.1
  · have := hr i hi
    simp only [rowOk, Bool.and_eq_true, decide_eq_true_eq] at this
    exact inS_iff.1 (all_getD this.2 0 (by omega))
structure Sts (m n : Nat) (out : List Int) : Prop where
  len : out.length = n
  mem : ∀ j, j < n → 0 ≤ out.getD j 0 ∧ out.getD j 0 < m
theorem Sts.set {m n : Nat} {out : List Int} (h : Sts m n out) (v : Nat) (hv : v < n) {x : Int} (hx : 0 ≤ x ∧ x < m) : Sts m n (out.set v x) := by
  refine ⟨by rw [List.length_set, h.len], fun j hj => ?_⟩
  by_cases e : v = j
  · subst e; rw [get_set_eq (by rw [h.len]; exact hv)]; exact hx
  · rw [get_set_ne e]; exact h.mem j hj
theorem IsA.stepM {st : Int} {S : List (List Int)} {g : List Int} (h : IsA st S g) {a b : Int} (ha : 0 ≤ a ∧ a < S.length) (hb : 0 ≤ b ∧ b < S.length) : 0 ≤ stepM S a b ∧ stepM S a b < S.length :=
  h.step a.toNat b.toNat (by omega) (by omega)
theorem Sts.zero {m : Nat} (hm : 1 ≤ m) (n : Nat) : Sts m n (List.replicate n 0) := ⟨by simp, fun j hj => by rw [getD_replicate hj]; omega⟩
end Go.Proofs.Ytpbfideppdmceaa.Auto
namespace Go.Proofs.Ytpbfideppdmceaa.E
set_option linter.unusedVariables false
set_option linter.unusedSectionVars false
open Go.RowKit Go.Proofs.YtpbfideppdmceaaW.PrintWords Go.Proofs.Ytpbfideppdmceaa.Base

theorem toInt64S_loop (x0 : List Int) (hn : x0.length ≤ 1048576) : ∀ (m i : Nat) (x3 : List Int), i + m = x0.length → x3.length = x0.length → (∀ j, j < i → x3.getD j 0 = x0.getD j 0) → Ev (fun k => laws_toInt64S.l0 k x0 x3 (i : Int)) x0 := by
  intro m
  induction m with
  | zero =>
    intro i x3 h1 h2 h3
    refine Ev.step (fun k => by rw [laws_toInt64S.l0]) ?_
    refine ev_neg (by omega) ?_
    exact ev_now (ext_getD h2 (fun j hj => h3 j (by omega)))
  | succ m ih =>
    intro i x3 h1 h2 h3
    refine Ev.step (fun k => by rw [laws_toInt64S.l0]) ?_
    refine ev_pos (by omega) (ev_pos (by omega) (ev_pos (by omega) ?_))
    rw [w64s (by omega)]
    exact ih (i + 1) _ (by omega) (by simpa using h2) (set_eq h2 h3)
theorem toInt64S_ev (l : List Int) (hn : l.length ≤ 1048576) : Ev (fun k => laws_toInt64S.f k l) l := by
  unfold laws_toInt64S.f
  refine ev_pos (by omega) (ev_pos (by simp; omega) ?_)
  exact toInt64S_loop l hn l.length 0 _ (by omega) (by simp) (fun j hj => by omega)
theorem eqInt64S_loop (a : List Int) (hn : a.length ≤ 1048576) : ∀ (m i : Nat), i + m = a.length → Ev (fun k => laws_eqInt64S.l0 k a a (i : Int)) true := by
  intro m
  induction m with
  | zero =>
    intro i h1
    refine Ev.step (fun k => by rw [laws_eqInt64S.l0]) ?_
    refine ev_neg (by omega) ?_
    exact Ev.now _
  | succ m ih =>
    intro i h1
    refine Ev.step (fun k => by rw [laws_eqInt64S.l0]) ?_
    refine ev_pos (by omega) (ev_pos (by omega) (ev_pos (by omega) (ev_pos rfl ?_)))
    rw [w64s (by omega)]
    exact ih (i + 1) (by omega)
theorem eqInt64S_ev (a : List Int) (hn : a.length ≤ 1048576) : Ev (fun k => laws_eqInt64S.f k a a) true := by
  unfold laws_eqInt64S.f
  exact ev_pos rfl (eqInt64S_loop a hn a.length 0 (by omega))
end Go.Proofs.Ytpbfideppdmceaa.E
namespace Go.Proofs.Ytpbfideppdmceaa.E
set_option linter.unusedVariables false
set_option linter.unusedSectionVars false
open Go.RowKit Go.Proofs.YtpbfideppdmceaaW.PrintWords Go.Proofs.Ytpbfideppdmceaa.Base Go.Proofs.Ytpbfideppdmceaa.Auto

structure SmallA (S : List (List Int)) (g : List Int) : Prop where
  rows : S.length ≤ 1048576
  each : ∀ j, j < S.length → (S.getD j []).length ≤ 1048576
  good : g.length ≤ 1048576
theorem l01In_eq (a b c : Int) : spec_l01In.f a b c = some (decide (b ≤ a) && decide (a ≤ c)) := by
  unfold spec_l01In.f
  by_cases h : a ≥ b
  · rw [if_pos h]; simp [show b ≤ a from h]
  · rw [if_neg h]; simp [show ¬ b ≤ a from h]
theorem rdL_nat (S : List (List Int)) (i : Nat) : rd_L1 S (i : Int) = S.getD i [] := rfl
theorem sz_row (l : List Int) (a : Int) (h0 : 0 ≤ a) (h1 : a ≤ 1048576) (hl : l.length ≤ maxLen) : laws_szInt64S.f l a = some (if a < l.length then -1 else a - l.length) := by
  unfold maxLen at hl
  unfold laws_szInt64S.f
  rw [w64 (by omega) (by omega)]
  by_cases h : a < l.length
  · rw [if_pos (by omega), if_pos h]
  · rw [if_neg (by omega), if_neg h]
theorem sz_loop (S : List (List Int)) (hS : S.length ≤ 1048576) (hm : ∀ j, j < S.length → (S.getD j []).length ≤ maxLen) : ∀ (m i : Nat) (a : Int), i + m = S.length → 0 ≤ a → a ≤ 1048576 →
    ∃ r, Ev (fun k => laws_szInt64SS.l0 k S a (i : Int)) r ∧ (r = -1 ∨ (0 ≤ r ∧ r ≤ a ∧ ∀ j, i ≤ j → j < S.length → (S.getD j []).length ≤ 1048576))
  | 0, i, a, hi, h0, h1 => by
    refine ⟨a, ?_, .inr ⟨h0, Int.le_refl _, fun j hj hl => by omega⟩⟩
    refine Ev.step (fun k => by rw [laws_szInt64SS.l0]) ?_
    exact ev_neg (by omega) (Ev.now _)
  | m + 1, i, a, hi, h0, h1 => by
    have hr := sz_row (S.getD i []) a h0 h1 (hm i (by omega))
    by_cases hx : a < (S.getD i []).length
    · refine ⟨-1, ?_, .inl rfl⟩
      refine Ev.step (fun k => by rw [laws_szInt64SS.l0]) ?_
      rw [rdL_nat, hr, if_pos hx]
      exact ev_pos (by omega) (ev_pos (by omega) (ev_some (ev_pos (by decide) (Ev.now _))))
    · obtain ⟨r, h2, h3⟩ := sz_loop S hS hm m (i + 1) (a - (S.getD i []).length) (by omega) (by omega) (by omega)
      refine ⟨r, ?_, ?_⟩
      · refine Ev.step (fun k => by rw [laws_szInt64SS.l0]) ?_
        rw [rdL_nat, hr, if_neg hx, w64s (by omega)]
        exact ev_pos (by omega) (ev_pos (by omega) (ev_some (ev_neg (by omega) h2)))
      · rcases h3 with h3 | ⟨h3, h4, h5⟩
        · exact .inl h3
        · refine .inr ⟨h3, by omega, fun j hj hl => ?_⟩
          by_cases e : j = i
          · subst e; omega
          · exact h5 j (by omega) hl
theorem szAutomaton_ev (st : Int) (S : List (List Int)) (g : List Int) (hS : S.length ≤ maxLen) (hm : ∀ j, j < S.length → (S.getD j []).length ≤ maxLen) (hg : g.length ≤ maxLen) :
    ∃ r, Ev (fun k => laws_szAutomaton.f k st S g 1048576) r ∧ (r < 0 ∨ (0 ≤ r ∧ r ≤ 1048576 ∧ SmallA S g)) := by
  unfold maxLen at hS
  have fin : ∀ r1 : Int, Ev (fun k => laws_szInt64SS.f k S 1048576) r1 → (r1 = -1 ∨ (0 ≤ r1 ∧ r1 ≤ 1048576 ∧ S.length ≤ 1048576 ∧ ∀ j, j < S.length → (S.getD j []).length ≤ 1048576)) →
      ∃ r, Ev (fun k => laws_szAutomaton.f k st S g 1048576) r ∧ (r < 0 ∨ (0 ≤ r ∧ r ≤ 1048576 ∧ SmallA S g)) := by
    intro r1 h1 h2
    rcases h2 with h2 | ⟨h2, h3, h4, h5⟩
    · refine ⟨-1, ?_, .inl (by decide)⟩
      unfold laws_szAutomaton.f
      exact Ev.bind h1 (ev_pos (by omega) (Ev.now _))
    · have hr := sz_row g r1 h2 h3 hg
      by_cases hx : r1 < g.length
      · refine ⟨-1, ?_, .inl (by decide)⟩
        unfold laws_szAutomaton.f
        refine Ev.bind h1 (ev_neg (by omega) ?_)
        simp only [hr, if_pos hx]
        exact ev_some (ev_pos (by decide) (Ev.now _))
      · refine ⟨r1 - g.length, ?_, .inr ⟨by omega, by omega, h4, h5, by omega⟩⟩
        unfold laws_szAutomaton.f
        refine Ev.bind h1 (ev_neg (by omega) ?_)
        simp only [hr, if_neg hx]
        exact ev_some (ev_neg (by omega) (Ev.now _))
  by_cases hb : (1048576 : Int) < S.length
  · refine fin (-1) ?_ (.inl rfl)
    unfold laws_szInt64SS.f
    rw [w64 (by omega) (by omega)]
    exact ev_pos (by omega) (Ev.now _)
  · obtain ⟨r, h1, h2⟩ := sz_loop S (by omega) hm S.length 0 (1048576 - S.length) (by omega) (by omega) (by omega)
    refine fin r ?_ ?_
    · unfold laws_szInt64SS.f
      rw [w64 (by omega) (by omega)]
      exact ev_neg (by omega) h1
    · rcases h2 with h2 | ⟨h2, h3, h4⟩
      · exact .inl h2
      · exact .inr ⟨h2, by omega, by omega, fun j hj => h4 j (by omega) hj⟩
theorem ext_rows {l m : List (List Int)} (hl : m.length = l.length) (h : ∀ j, j < l.length → m.getD j [] = l.getD j []) : m = l := by
  apply List.ext_getElem hl
  intro j h1 h2
  have := h j h2
  rwa [List.getD_eq_getElem?_getD, List.getD_eq_getElem?_getD, List.getElem?_eq_getElem h1, List.getElem?_eq_getElem h2] at this
theorem getr_set_eq {l : List (List Int)} {i : Nat} {v : List Int} (h : i < l.length) : (l.set i v).getD i [] = v := by
  rw [List.getD_eq_getElem?_getD, List.getElem?_set_self h]; rfl
theorem getr_set_ne {l : List (List Int)} {i j : Nat} {v : List Int} (h : i ≠ j) : (l.set i v).getD j [] = l.getD j [] := by
  rw [List.getD_eq_getElem?_getD, List.getElem?_set_ne h, ← List.getD_eq_getElem?_getD]
section
variable {S : List (List Int)} {g : List Int} (hs : SmallA S g)
include hs
theorem toSS_loop : ∀ (m i : Nat) (x : List (List Int)), i + m = S.length → x.length = S.length → (∀ j, j < i → x.getD j [] = S.getD j []) → Ev (fun k => laws_toInt64SS.l0 k S x (i : Int)) S
  | 0, i, x, hi, hx, hj => by
    refine Ev.step (fun k => by rw [laws_toInt64SS.l0]) ?_
    exact ev_neg (by omega) (ev_now (ext_rows hx (fun j h => hj j (by omega))))
  | m + 1, i, x, hi, hx, hj => by
    have hr := hs.rows
    refine Ev.step (fun k => by rw [laws_toInt64SS.l0]) ?_
    rw [rdL_nat]
    refine ev_pos (by omega) (ev_pos (by omega) (Ev.bind (toInt64S_ev _ (hs.each i (by omega))) (ev_pos (by omega) ?_)))
    rw [w64s (by omega)]
    refine toSS_loop m (i + 1) _ (by omega) (by simpa using hx) (fun j h => ?_)
    rw [show ((i : Int)).toNat = i from rfl]
    by_cases e : i = j
    · subst e; exact getr_set_eq (by omega)
    · rw [getr_set_ne e]; exact hj j (by omega)
theorem toSS_ev : Ev (fun k => laws_toInt64SS.f k S) S := by
  have hr := hs.rows
  unfold laws_toInt64SS.f
  refine ev_pos (by omega) (ev_pos (by simp; omega) ?_)
  exact toSS_loop hs S.length 0 _ (by omega) (by simp) (fun j hj => by omega)
theorem toA_ev (st : Int) : Ev (fun k => laws_toAutomaton.f k st S g) (st, S, g) := by
  unfold laws_toAutomaton.f
  exact Ev.bind (toSS_ev hs) (Ev.bind (toInt64S_ev g hs.good) (Ev.now _))
theorem eqSS_loop : ∀ (m i : Nat), i + m = S.length → Ev (fun k => laws_eqInt64SS.l0 k S S (i : Int)) true
  | 0, i, hi => by
    refine Ev.step (fun k => by rw [laws_eqInt64SS.l0]) ?_
    exact ev_neg (by omega) (Ev.now _)
  | m + 1, i, hi => by
    have hr := hs.rows
    refine Ev.step (fun k => by rw [laws_eqInt64SS.l0]) ?_
    rw [rdL_nat]
    refine ev_pos (by omega) (ev_pos (by omega) (ev_pos (by omega) (Ev.bind (eqInt64S_ev _ (hs.each i (by omega))) (ev_pos rfl ?_))))
    rw [w64s (by omega)]
    exact eqSS_loop m (i + 1) (by omega)
theorem eqA_ev (st : Int) : Ev (fun k => laws_eqAutomaton.f k st S g st S g) true := by
  unfold laws_eqAutomaton.f laws_eqInt64SS.f
  exact ev_pos rfl (Ev.bind (ev_pos rfl (eqSS_loop hs S.length 0 (by omega))) (ev_pos rfl (Ev.bind (eqInt64S_ev g hs.good) (ev_pos rfl (Ev.now _)))))
end
theorem dropr_all {α : Type} (p : α → Bool) (l : List α) (d : α) (i : Nat) (hi : i < l.length) : (l.drop i).all p = (p (l.getD i d) && (l.drop (i + 1)).all p) := by
  rw [List.drop_eq_getElem_cons hi, List.all_cons, List.getD_eq_getElem?_getD, List.getElem?_eq_getElem hi]
  rfl
section
variable {st : Int} {S : List (List Int)} {g : List Int} (hs : SmallA S g) (h9 : S.length ≤ 9) (h1 : 1 ≤ S.length)
include hs h9 h1
theorem spec_good_loop : ∀ (n i : Nat), i + n = g.length → Ev (fun k => spec_l06Is.l2 k (S.length : Int) (i : Int) st S g) (goodFrom S.length g n i)
  | 0, i, hi => by
    refine Ev.step (fun k => by rw [spec_l06Is.l2]) ?_
    exact ev_neg (by omega) (Ev.now _)
  | n + 1, i, hi => by
    have hg := hs.good
    have ih := spec_good_loop n (i + 1) (by omega)
    refine Ev.step (fun k => by rw [spec_l06Is.l2]) ?_
    simp only [l01In_eq]
    refine ev_pos (by omega) (ev_pos (by omega) (ev_some ?_))
    rw [w64 (x := (S.length : Int) - 1) (by omega) (by omega), w64s (by omega), rd_nat]
    have e : (decide (0 ≤ g.getD i 0) && decide (g.getD i 0 ≤ (S.length : Int) - 1)) = inS S.length (g.getD i 0) := by
      unfold inS; congr 1; exact decide_eq_decide.mpr (by omega)
    have eg : goodFrom S.length g (n + 1) i = ((inS S.length (g.getD i 0) && (decide (i = 0) || decide (g.getD (i - 1) 0 < g.getD i 0))) && goodFrom S.length g n (i + 1)) := rfl
    rw [e, eg]
    refine ev_ite (fun hin => ?_) (fun hin => ?_)
    · rw [hin, Bool.true_and]
      rcases Nat.eq_zero_or_pos i with h0 | h0
      · rw [decide_eq_true h0, Bool.true_or, Bool.true_and]
        exact ev_neg (by omega) ih
      · have ew : wrap64 ((i : Int) - 1) = ((i - 1 : Nat) : Int) := by rw [w64 (by omega) (by omega)]; omega
        rw [decide_eq_false (by omega), Bool.false_or, ew, rd_nat]
        refine ev_pos (by omega) (ev_pos (by omega) (ev_pos (by omega) (ev_ite (fun hx => ?_) (fun hx => ?_))))
        · rw [decide_eq_false (by omega)]; exact Ev.now _
        · rw [decide_eq_true (by omega), Bool.true_and]; exact ih
    · rw [(by simpa using hin : inS S.length (g.getD i 0) = false)]; exact Ev.now _
theorem spec_row_loop {i : Nat} (hi : i < S.length) (hl : (S.getD i []).length = S.length) {R : Bool} (H : Ev (fun k => spec_l06Is.l0 k (S.length : Int) ((i + 1 : Nat) : Int) st S g) R) :
    ∀ (n c : Nat), c + n = S.length → Ev (fun k => spec_l06Is.l1 k (S.length : Int) (i : Int) (c : Int) st S g) (((S.getD i []).drop c).all (inS S.length) && R)
  | 0, c, hc => by
    refine Ev.step (fun k => by rw [spec_l06Is.l1]) ?_
    rw [List.drop_of_length_le (by omega), w64s (i := i) (by omega), List.all_nil, Bool.true_and]
    exact ev_neg (by omega) H
  | n + 1, c, hc => by
    have ih := spec_row_loop hi hl H n (c + 1) (by omega)
    refine Ev.step (fun k => by rw [spec_l06Is.l1]) ?_
    simp only [l01In_eq]
    rw [rdL_nat]
    refine ev_pos (by omega) (ev_pos (by omega) (ev_pos (by omega) (ev_pos (by omega) (ev_pos (by omega) (ev_some ?_)))))
    rw [w64 (x := (S.length : Int) - 1) (by omega) (by omega), w64s (by omega), rd_nat, dropr_all _ _ 0 c (by omega)]
    have e : (decide (0 ≤ (S.getD i []).getD c 0) && decide ((S.getD i []).getD c 0 ≤ (S.length : Int) - 1)) = inS S.length ((S.getD i []).getD c 0) := by
      unfold inS; congr 1; exact decide_eq_decide.mpr (by omega)
    rw [e]
    refine ev_ite (fun hin => ?_) (fun hin => ?_)
    · rw [hin, Bool.true_and]; exact ih
    · rw [(by simpa using hin : inS S.length ((S.getD i []).getD c 0) = false)]; exact Ev.now _
theorem spec_rows_loop : ∀ (n i : Nat), i + n = S.length → Ev (fun k => spec_l06Is.l0 k (S.length : Int) (i : Int) st S g) ((S.drop i).all (rowOk S.length) && goodFrom S.length g g.length 0)
  | 0, i, hi => by
    refine Ev.step (fun k => by rw [spec_l06Is.l0]) ?_
    rw [List.drop_of_length_le (by omega)]
    exact ev_neg (by omega) (spec_good_loop hs h9 h1 g.length 0 (by omega))
  | n + 1, i, hi => by
    have ih := spec_rows_loop n (i + 1) (by omega)
    refine Ev.step (fun k => by rw [spec_l06Is.l0]) ?_
    rw [rdL_nat, dropr_all _ _ [] i (by omega)]
    refine ev_pos (by omega) (ev_pos (by omega) (ev_pos (by omega) (ev_ite (fun hx => ?_) (fun hx => ?_))))
    · have := spec_row_loop hs h9 h1 (by omega) (by omega) ih S.length 0 (by omega)
      rw [List.drop_zero] at this
      have e : rowOk S.length (S.getD i []) = (S.getD i []).all (inS S.length) := by unfold rowOk; rw [decide_eq_true (by omega), Bool.true_and]
      rw [e, Bool.and_assoc]
      exact this
    · have e : rowOk S.length (S.getD i []) = false := by unfold rowOk; rw [decide_eq_false (by omega), Bool.false_and]
      rw [e]; exact Ev.now _
theorem isState_ev (x : Int) : impl_isState.f st S g x = some (inS S.length x) := by
  unfold impl_isState.f inS
  by_cases h : x ≥ 0
  · rw [if_pos h, decide_eq_true (show 0 ≤ x from h), Bool.true_and]
  · rw [if_neg h, decide_eq_false (show ¬ 0 ≤ x from h), Bool.false_and]
theorem impl_good_loop : ∀ (n i : Nat), i + n = g.length → Ev (fun k => impl_IsAutomaton.l2 k g (g.length : Int) (i : Int) st S g) (goodFrom S.length g n i)
  | 0, i, hi => by
    refine Ev.step (fun k => by rw [impl_IsAutomaton.l2]) ?_
    exact ev_neg (by omega) (Ev.now _)
  | n + 1, i, hi => by
    have hg := hs.good
    have ih := impl_good_loop n (i + 1) (by omega)
    refine Ev.step (fun k => by rw [impl_IsAutomaton.l2]) ?_
    simp only [isState_ev hs h9 h1]
    refine ev_pos (by omega) (ev_pos (by omega) (ev_pos (by omega) (ev_some ?_)))
    rw [w64s (by omega), rd_nat]
    have eg : goodFrom S.length g (n + 1) i = ((inS S.length (g.getD i 0) && (decide (i = 0) || decide (g.getD (i - 1) 0 < g.getD i 0))) && goodFrom S.length g n (i + 1)) := rfl
    rw [eg]
    refine ev_ite (fun hin => ?_) (fun hin => ?_)
    · rw [hin, Bool.true_and]
      rcases Nat.eq_zero_or_pos i with h0 | h0
      · rw [decide_eq_true h0, Bool.true_or, Bool.true_and]
        exact ev_neg (by omega) ih
      · have ew : wrap64 ((i : Int) - 1) = ((i - 1 : Nat) : Int) := by rw [w64 (by omega) (by omega)]; omega
        rw [decide_eq_false (by omega), Bool.false_or, ew, rd_nat]
        refine ev_pos (by omega) (ev_pos (by omega) (ev_pos (by omega) (ev_ite (fun hx => ?_) (fun hx => ?_))))
        · rw [decide_eq_false (by omega)]; exact Ev.now _
        · rw [decide_eq_true (by omega), Bool.true_and]; exact ih
    · rw [(by simpa using hin : inS S.length (g.getD i 0) = false)]; exact Ev.now _
theorem impl_row_loop {i : Nat} (hi : i < S.length) (row : List Int) (hl : row.length = S.length) {R : Bool} (H : Ev (fun k => impl_IsAutomaton.l0 k S (S.length : Int) ((i + 1 : Nat) : Int) st S g) R) :
    ∀ (n c : Nat), c + n = S.length → Ev (fun k => impl_IsAutomaton.l1 k S (S.length : Int) (i : Int) row (row.length : Int) (c : Int) st S g) ((row.drop c).all (inS S.length) && R)
  | 0, c, hc => by
    refine Ev.step (fun k => by rw [impl_IsAutomaton.l1]) ?_
    rw [List.drop_of_length_le (by omega), w64s (i := i) (by omega), List.all_nil, Bool.true_and]
    exact ev_neg (by omega) H
  | n + 1, c, hc => by
    have ih := impl_row_loop hi row hl H n (c + 1) (by omega)
    refine Ev.step (fun k => by rw [impl_IsAutomaton.l1]) ?_
    simp only [isState_ev hs h9 h1]
    refine ev_pos (by omega) (ev_pos (by omega) (ev_pos (by omega) (ev_some ?_)))
    rw [w64s (by omega), rd_nat, dropr_all _ _ 0 c (by omega)]
    refine ev_ite (fun hin => ?_) (fun hin => ?_)
    · rw [hin, Bool.true_and]; exact ih
    · rw [(by simpa using hin : inS S.length (row.getD c 0) = false)]; exact Ev.now _
theorem impl_rows_loop : ∀ (n i : Nat), i + n = S.length → Ev (fun k => impl_IsAutomaton.l0 k S (S.length : Int) (i : Int) st S g) ((S.drop i).all (rowOk S.length) && goodFrom S.length g g.length 0)
  | 0, i, hi => by
    refine Ev.step (fun k => by rw [impl_IsAutomaton.l0]) ?_
    rw [List.drop_of_length_le (by omega)]
    exact ev_neg (by omega) (impl_good_loop hs h9 h1 g.length 0 (by omega))
  | n + 1, i, hi => by
    have ih := impl_rows_loop n (i + 1) (by omega)
    refine Ev.step (fun k => by rw [impl_IsAutomaton.l0]) ?_
    rw [rdL_nat, dropr_all _ _ [] i (by omega)]
    refine ev_pos (by omega) (ev_pos (by omega) (ev_pos (by omega) (ev_ite (fun hx => ?_) (fun hx => ?_))))
    · have := impl_row_loop hs h9 h1 (by omega) (S.getD i []) (by omega) ih S.length 0 (by omega)
      rw [List.drop_zero] at this
      have e : rowOk S.length (S.getD i []) = (S.getD i []).all (inS S.length) := by unfold rowOk; rw [decide_eq_true (by omega), Bool.true_and]
      rw [e, Bool.and_assoc]
      exact this
    · have e : rowOk S.length (S.getD i []) = false := by unfold rowOk; rw [decide_eq_false (by omega), Bool.false_and]
      rw [e]; exact Ev.now _
end
theorem spec_l06Is_ev {S : List (List Int)} {g : List Int} (hs : SmallA S g) (st : Int) : Ev (fun k => spec_l06Is.f k st S g) (isAutM st S g) := by
  have hr := hs.rows
  unfold spec_l06Is.f isAutM
  simp only [l01In_eq]
  refine ev_some ?_
  by_cases hm : 1 ≤ S.length ∧ S.length ≤ 9
  · rw [decide_eq_true hm.1, decide_eq_true hm.2, decide_eq_true (by omega), decide_eq_true (by omega), Bool.true_and, Bool.true_and]
    refine ev_pos rfl (ev_some ?_)
    rw [w64 (x := (S.length : Int) - 1) (by omega) (by omega)]
    have e : (decide (0 ≤ st) && decide (st ≤ (S.length : Int) - 1)) = inS S.length st := by
      unfold inS; congr 1; exact decide_eq_decide.mpr (by omega)
    rw [e]
    refine Ev.step (fun k => by rw [spec_l06Is.j0]) ?_
    cases hst : inS S.length st with
    | false => exact ev_pos rfl (Ev.now _)
    | true =>
      refine ev_neg (by decide) ?_
      have := spec_rows_loop (st := st) hs hm.2 hm.1 S.length 0 (by omega)
      simpa using this
  · refine ev_neg (by rw [Bool.and_eq_true, decide_eq_true_eq, decide_eq_true_eq]; omega) ?_
    refine Ev.step (fun k => by rw [spec_l06Is.j0]) ?_
    refine ev_pos rfl (ev_now ?_)
    have : (decide (1 ≤ S.length) && decide (S.length ≤ 9)) = false := by rw [← Bool.not_eq_true, Bool.and_eq_true, decide_eq_true_eq, decide_eq_true_eq]; exact hm
    rw [this]; rfl
theorem impl_IsAutomaton_ev {S : List (List Int)} {g : List Int} (hs : SmallA S g) (st : Int) : Ev (fun k => impl_IsAutomaton.f k st S g) (isAutM st S g) := by
  have hr := hs.rows
  unfold impl_IsAutomaton.f isAutM
  refine ev_ite (fun h1 => ?_) (fun h1 => ?_)
  · refine Ev.step (fun k => by rw [impl_IsAutomaton.j0]) ?_
    rw [decide_eq_false (p := 1 ≤ S.length) (by omega)]
    exact ev_pos rfl (Ev.now _)
  · refine ev_ite (fun h9 => ?_) (fun h9 => ?_)
    · refine Ev.step (fun k => by rw [impl_IsAutomaton.j0]) ?_
      rw [decide_eq_false (p := S.length ≤ 9) (by omega), Bool.and_false]
      exact ev_pos rfl (Ev.now _)
    · rw [isState_ev hs (by omega) (by omega), decide_eq_true (p := 1 ≤ S.length) (by omega), decide_eq_true (p := S.length ≤ 9) (by omega), Bool.true_and, Bool.true_and]
      refine ev_some ?_
      refine Ev.step (fun k => by rw [impl_IsAutomaton.j0]) ?_
      cases hst : inS S.length st with
      | false => exact ev_pos rfl (Ev.now _)
      | true =>
        refine ev_neg (by decide) ?_
        have := impl_rows_loop (st := st) hs (by omega) (by omega) S.length 0 (by omega)
        simpa using this
end Go.Proofs.Ytpbfideppdmceaa.E
namespace Go.Proofs.Ytpbfideppdmceaa.E
set_option linter.unusedVariables false
set_option linter.unusedSectionVars false
open Go.RowKit Go.Proofs.YtpbfideppdmceaaW.PrintWords Go.Proofs.Ytpbfideppdmceaa.Base Go.Proofs.Ytpbfideppdmceaa.Auto

def goodM (g : List Int) (x : Int) : Bool := g.any fun y => decide (y = x)
theorem drop_any (p : Int → Bool) (l : List Int) (i : Nat) (hi : i < l.length) : (l.drop i).any p = (p (l.getD i 0) || (l.drop (i + 1)).any p) := by
  rw [List.drop_eq_getElem_cons hi, List.any_cons, List.getD_eq_getElem?_getD, List.getElem?_eq_getElem hi]
  rfl
theorem spec_good_in (st : Int) (S : List (List Int)) (g : List Int) (hg : g.length ≤ 1048576) (x : Int) : ∀ (m i : Nat), i + m = g.length → Ev (fun k => spec_l06Good.l0 k x (i : Int) st S g) ((g.drop i).any fun y => decide (y = x))
  | 0, i, hi => by
    refine Ev.step (fun k => by rw [spec_l06Good.l0]) ?_
    rw [List.drop_of_length_le (by omega)]
    exact ev_neg (by omega) (Ev.now _)
  | m + 1, i, hi => by
    have ih := spec_good_in st S g hg x m (i + 1) (by omega)
    refine Ev.step (fun k => by rw [spec_l06Good.l0]) ?_
    rw [drop_any _ _ _ (by omega : i < g.length), rd_nat, w64s (by omega)]
    refine ev_pos (by omega) (ev_pos (by omega) (ev_ite (fun hx => ?_) (fun hx => ?_)))
    · rw [decide_eq_true hx]; exact Ev.now _
    · rw [decide_eq_false hx, Bool.false_or]; exact ih
theorem spec_l06Good_ev (st : Int) (S : List (List Int)) (g : List Int) (hg : g.length ≤ 1048576) (x : Int) : Ev (fun k => spec_l06Good.f k st S g x) (goodM g x) := by
  unfold spec_l06Good.f
  exact spec_good_in st S g hg x g.length 0 (by omega)
theorem index_in (g : List Int) (hg : g.length ≤ 1048576) (x : Int) : ∀ (m i : Nat), i + m = g.length → ∃ r, Ev (fun k => slices_Index_int64_int64.l0 k g x (g.length : Int) (i : Int)) r ∧ decide (r ≥ 0) = ((g.drop i).any fun y => decide (y = x))
  | 0, i, hi => by
    refine ⟨-1, ?_, ?_⟩
    · refine Ev.step (fun k => by rw [slices_Index_int64_int64.l0]) ?_
      exact ev_neg (by omega) (Ev.now _)
    · rw [List.drop_of_length_le (by omega)]; rfl
  | m + 1, i, hi => by
    rw [drop_any _ _ _ (by omega : i < g.length)]
    by_cases hx : g.getD i 0 = x
    · refine ⟨(i : Int), ?_, ?_⟩
      · refine Ev.step (fun k => by rw [slices_Index_int64_int64.l0]) ?_
        exact ev_pos (by omega) (ev_pos (by omega) (ev_pos (by omega) (ev_pos (by rw [rd_nat]; exact hx.symm) (Ev.now _))))
      · rw [decide_eq_true hx, Bool.true_or]; exact decide_eq_true (by omega)
    · obtain ⟨r, h1, h2⟩ := index_in g hg x m (i + 1) (by omega)
      refine ⟨r, ?_, ?_⟩
      · refine Ev.step (fun k => by rw [slices_Index_int64_int64.l0]) ?_
        rw [w64s (by omega)]
        exact ev_pos (by omega) (ev_pos (by omega) (ev_pos (by omega) (ev_neg (by rw [rd_nat]; exact fun e => hx e.symm) h1)))
      · rw [decide_eq_false hx, Bool.false_or]; exact h2
theorem impl_isGood_ev (st : Int) (S : List (List Int)) (g : List Int) (hg : g.length ≤ 1048576) (x : Int) : Ev (fun k => impl_isGood.f k st S g x) (goodM g x) := by
  obtain ⟨r, h1, h2⟩ := index_in g hg x g.length 0 (by omega)
  unfold impl_isGood.f slices_Contains_int64_int64.f slices_Index_int64_int64.f
  exact Ev.bind (Ev.bind h1 (ev_now h2)) (Ev.now _)
end Go.Proofs.Ytpbfideppdmceaa.E
namespace Go.Proofs.Ytpbfideppdmceaa.Auto
set_option linter.unusedVariables false
set_option linter.unusedSectionVars false
open Go.RowKit Go.Proofs.YtpbfideppdmceaaW.PrintWords Go.Proofs.Ytpbfideppdmceaa.Base

inductive Rc (st : Int) (S : List (List Int)) : Int → Prop
  | start : Rc st S st
  | step {a b : Int} : Rc st S a → Rc st S b → Rc st S (stepM S a b)
theorem nodup_few : ∀ (m : Nat) (l : List Int), l.Nodup → (∀ x ∈ l, 0 ≤ x ∧ x < m) → l.length ≤ m
  | 0, l, _, h => by
    cases l with
    | nil => simp
    | cons a l => have := h a (by simp); omega
  | m + 1, l, hn, h => by
    by_cases hm : (m : Int) ∈ l
    · have h1 := nodup_few m (l.erase (m : Int)) (hn.erase _) (fun x hx => by
        have h2 := (hn.mem_erase_iff).1 hx
        have := h x h2.2
        omega)
      rw [List.length_erase_of_mem hm] at h1
      omega
    · have := nodup_few m l hn (fun x hx => by
        have h2 := h x hx
        have : x ≠ m := fun e => hm (e ▸ hx)
        omega)
      omega
end Go.Proofs.Ytpbfideppdmceaa.Auto
namespace Go.Proofs.Ytpbfideppdmceaa.E
set_option linter.unusedVariables false
set_option linter.unusedSectionVars false
open Go.RowKit Go.Proofs.YtpbfideppdmceaaW.PrintWords Go.Proofs.Ytpbfideppdmceaa.Base Go.Proofs.Ytpbfideppdmceaa.Auto

abbrev PL := List (Int × Int)
def stp (S T : List (List Int)) (x y : Int × Int) : Int × Int := (stepM S x.1 y.1, stepM T x.2 y.2)
def addP (P : PL) (z : Int × Int) : PL := if z ∈ P then P else P ++ [z]
def innP (S T : List (List Int)) (x : Int × Int) : PL → PL → PL
  | [], P => P
  | y :: l, P => innP S T x l (addP (addP P (stp S T x y)) (stp S T y x))
def outP (S T : List (List Int)) : Nat → Nat → PL → PL
  | 0, _, P => P
  | m + 1, i, P => if i < P.length then outP S T m (i + 1) (innP S T (P.getD i (0, 0)) P P) else P
structure PG (a b : Nat) (P : PL) : Prop where
  nd : P.Nodup
  rg : ∀ x ∈ P, (0 ≤ x.1 ∧ x.1 < a) ∧ 0 ≤ x.2 ∧ x.2 < b
theorem PG.few {a b : Nat} {P : PL} (h : PG a b P) (ha : a ≤ 9) (hb : b ≤ 9) : P.length ≤ 81 := by
  have h1 : (P.map fun x => x.1 * 9 + x.2).Nodup := by
    unfold List.Nodup
    rw [List.pairwise_map]
    exact h.nd.imp_of_mem (fun {x y} hx hy hne e => by
      have := h.rg x hx
      have := h.rg y hy
      exact hne (Prod.ext (by omega) (by omega)))
  have := nodup_few 81 _ h1 (fun z hz => by
    obtain ⟨x, hx, rfl⟩ := List.mem_map.1 hz
    have := h.rg x hx
    omega)
  simpa using this
theorem PG.add {a b : Nat} {P : PL} (h : PG a b P) {z : Int × Int} (hz : (0 ≤ z.1 ∧ z.1 < a) ∧ 0 ≤ z.2 ∧ z.2 < b) : PG a b (addP P z) := by
  unfold addP
  split
  · exact h
  · rename_i hn
    refine ⟨List.nodup_append.2 ⟨h.nd, by simp, fun x hx y hy => ?_⟩, fun x hx => ?_⟩
    · rw [List.mem_singleton] at hy
      subst hy
      exact fun e => hn (e ▸ hx)
    · rcases List.mem_append.1 hx with hx | hx
      · exact h.rg x hx
      · rw [List.mem_singleton] at hx
        rw [hx]; exact hz
theorem addP_pre (P : PL) (z : Int × Int) : ∃ Q, addP P z = P ++ Q := by
  unfold addP
  split
  · exact ⟨[], by simp⟩
  · exact ⟨[z], rfl⟩
theorem addP_mem (P : PL) (z : Int × Int) : z ∈ addP P z := by
  unfold addP
  split
  · assumption
  · simp
theorem addP_twice (P : PL) (z : Int × Int) : addP (addP P z) z = addP P z := by
  rw [addP, if_pos (addP_mem P z)]
def mkP (P : PL) : List S48 := P.map fun x => ⟨x.1, x.2⟩
def rowP (P : PL) : List (List Int) := P.map fun x => [x.1, x.2]
theorem mkP_len (P : PL) : (mkP P).length = P.length := by simp [mkP]
theorem rowP_len (P : PL) : (rowP P).length = P.length := by simp [rowP]
theorem getD_lt {P : PL} {i : Nat} (h : i < P.length) : P.getD i (0, 0) = P[i] := by
  rw [List.getD_eq_getElem?_getD, List.getElem?_eq_getElem h]; rfl
theorem mkP_get (P : PL) (i : Nat) (h : i < P.length) : rd_T48 (mkP P) (i : Int) = ⟨(P.getD i (0, 0)).1, (P.getD i (0, 0)).2⟩ := by
  unfold rd_T48 mkP
  rw [show ((i : Int)).toNat = i from rfl, List.getD_eq_getElem?_getD, List.getElem?_map, List.getElem?_eq_getElem h, getD_lt h]
  rfl
theorem rowP_get (P : PL) (i : Nat) (h : i < P.length) : rd_L1 (rowP P) (i : Int) = [(P.getD i (0, 0)).1, (P.getD i (0, 0)).2] := by
  unfold rd_L1 rowP
  rw [show ((i : Int)).toNat = i from rfl, List.getD_eq_getElem?_getD, List.getElem?_map, List.getElem?_eq_getElem h, getD_lt h]
  rfl
theorem mem_drop {P : PL} {z : Int × Int} (i : Nat) (hi : i < P.length) : z ∈ P.drop i ↔ z = P.getD i (0, 0) ∨ z ∈ P.drop (i + 1) := by
  rw [List.drop_eq_getElem_cons hi, List.mem_cons, getD_lt hi]
theorem idx_ev (P : PL) (hP : P.length ≤ 100) (z : Int × Int) : ∀ (m i : Nat), i + m = P.length → ∃ r, Ev (fun k => impl_couple_28.l0 k (mkP P) ((mkP P).length : Int) (i : Int) z.1 z.2) r ∧ decide (r ≥ 0) = decide (z ∈ P.drop i)
  | 0, i, hi => by
    refine ⟨-1, ?_, ?_⟩
    · refine Ev.step (fun k => by rw [impl_couple_28.l0]) ?_
      rw [mkP_len]
      exact ev_neg (by omega) (Ev.now _)
    · rw [List.drop_of_length_le (by omega)]; simp
  | m + 1, i, hi => by
    have hil : i < P.length := by omega
    by_cases hx : z = P.getD i (0, 0)
    · refine ⟨(i : Int), ?_, ?_⟩
      · refine Ev.step (fun k => by rw [impl_couple_28.l0]) ?_
        rw [mkP_get P i hil, mkP_len]
        refine ev_pos (by omega) (ev_pos (by omega) (ev_pos (by omega) (ev_pos ?_ (Ev.now _))))
        rw [← hx]; simp
      · rw [decide_eq_true (show (i : Int) ≥ 0 by omega), decide_eq_true ((mem_drop i hil).2 (Or.inl hx))]
    · obtain ⟨r, h1, h2⟩ := idx_ev P hP z m (i + 1) (by omega)
      refine ⟨r, ?_, ?_⟩
      · refine Ev.step (fun k => by rw [impl_couple_28.l0]) ?_
        rw [mkP_get P i hil, w64s (by omega)]
        rw [mkP_len] at h1 ⊢
        refine ev_pos (by omega) (ev_pos (by omega) (ev_pos (by omega) (ev_neg ?_ h1)))
        intro e
        simp only [Bool.and_eq_true, beq_iff_eq] at e
        exact hx (Prod.ext e.1 e.2)
      · rw [h2]
        exact decide_eq_decide.mpr ⟨fun h => (mem_drop i hil).2 (Or.inr h), fun h => ((mem_drop i hil).1 h).resolve_left hx⟩
theorem has_ev (P : PL) (hP : P.length ≤ 100) (z : Int × Int) : Ev (fun k => impl_couple_37.f k (mkP P) z.1 z.2) (decide (z ∈ P)) := by
  obtain ⟨r, h1, h2⟩ := idx_ev P hP z P.length 0 (by omega)
  unfold impl_couple_37.f impl_couple_28.f
  exact Ev.bind h1 (ev_now h2)
theorem tk_ev (P : PL) (hP : P.length ≤ 100) (z : Int × Int) : Ev (fun k => impl_couples.tk k (mkP P) z.1 z.2) (mkP (addP P z)) := by
  unfold impl_couples.tk addP
  refine Ev.bind (has_ev P hP z) (ev_ite (fun hx => ?_) (fun hx => ?_))
  · rw [if_pos (of_decide_eq_true hx)]; exact Ev.now _
  · have hn : ¬ z ∈ P := by simpa using hx
    rw [if_neg hn]
    refine ev_pos (by rw [mkP_len]; omega) (ev_now ?_)
    simp [mkP]
section
variable {st : Int} {S : List (List Int)} {g : List Int} (hA : IsA st S g) {ut : Int} {T : List (List Int)} {h : List Int} (hB : IsA ut T h)
include hA hB
theorem stp_rg {x y : Int × Int} (hx : (0 ≤ x.1 ∧ x.1 < S.length) ∧ 0 ≤ x.2 ∧ x.2 < T.length) (hy : (0 ≤ y.1 ∧ y.1 < S.length) ∧ 0 ≤ y.2 ∧ y.2 < T.length) : (0 ≤ (stp S T x y).1 ∧ (stp S T x y).1 < S.length) ∧ 0 ≤ (stp S T x y).2 ∧ (stp S T x y).2 < T.length :=
  ⟨hA.stepM hx.1 hy.1, hB.stepM hx.2 hy.2⟩
theorem ok_ev {x y : Int × Int} (hx : (0 ≤ x.1 ∧ x.1 < S.length) ∧ 0 ≤ x.2 ∧ x.2 < T.length) (hy : (0 ≤ y.1 ∧ y.1 < S.length) ∧ 0 ≤ y.2 ∧ y.2 < T.length) : impl_couples.okS S T ⟨x.1, x.2⟩ ⟨y.1, y.2⟩ := by
  have h1 := hA.row x.1.toNat (by omega)
  have h2 := hB.row x.2.toNat (by omega)
  have e1 : (rd_L1 S x.1).length = S.length := h1
  have e2 : (rd_L1 T x.2).length = T.length := h2
  unfold impl_couples.okS
  simp only
  rw [e1, e2]
  exact ⟨hx.1.1, hx.1.2, hy.1.1, hy.1.2, hx.2.1, hx.2.2, hy.2.1, hy.2.2⟩
theorem inn_PG {x : Int × Int} (hx : (0 ≤ x.1 ∧ x.1 < S.length) ∧ 0 ≤ x.2 ∧ x.2 < T.length) : ∀ (l P : PL), (∀ y ∈ l, (0 ≤ y.1 ∧ y.1 < S.length) ∧ 0 ≤ y.2 ∧ y.2 < T.length) → PG S.length T.length P → PG S.length T.length (innP S T x l P)
  | [], _, _, hp => hp
  | y :: l, P, hl, hp => inn_PG hx l _ (fun z hz => hl z (by simp [hz])) ((hp.add (stp_rg hA hB hx (hl y (by simp)))).add (stp_rg hA hB (hl y (by simp)) hx))
theorem impl_inn {x : Int × Int} (hx : (0 ≤ x.1 ∧ x.1 < S.length) ∧ 0 ≤ x.2 ∧ x.2 < T.length) (sn : PL) (hsn : PG S.length T.length sn) (i : Int) (q : List S48) : ∀ (m j : Nat) (P : PL), j + m = sn.length → PG S.length T.length P →
    Ev (fun k => impl_couples.l0 k S T (mkP (innP S T x (sn.drop j) P)) (wrap64 (i + 1))) q → Ev (fun k => impl_couples.l1 k S T (mkP P) i ⟨x.1, x.2⟩ (mkP sn) (j : Int)) q
  | 0, j, P, hj, hp, H => by
    rw [List.drop_of_length_le (by omega)] at H
    refine Ev.step (fun k => by rw [impl_couples.l1]) ?_
    rw [mkP_len]
    exact ev_neg (by omega) H
  | m + 1, j, P, hj, hp, H => by
    have hjl : j < sn.length := by omega
    have h9 := hA.nine
    have h9' := hB.nine
    have hsl := hsn.few h9 h9'
    have hpl := hp.few h9 h9'
    rw [List.drop_eq_getElem_cons hjl, ← getD_lt hjl] at H
    have hmem : sn.getD j (0, 0) ∈ sn := by rw [getD_lt hjl]; exact List.getElem_mem hjl
    obtain ⟨y, ey⟩ : ∃ y, sn.getD j (0, 0) = y := ⟨_, rfl⟩
    rw [ey] at H hmem
    have hy := hsn.rg y hmem
    have hp1 := hp.add (stp_rg hA hB hx hy)
    have hp2 := hp1.add (stp_rg hA hB hy hx)
    simp only [innP] at H
    have ih := impl_inn hx sn hsn i q m (j + 1) _ (by omega) hp2 H
    have t1 := tk_ev P (by omega) (stp S T x y)
    have t2 := tk_ev (addP P (stp S T x y)) (by have := hp1.few h9 h9'; omega) (stp S T y x)
    refine Ev.step (fun k => by rw [impl_couples.l1]) ?_
    rw [mkP_get sn j hjl, ey, mkP_len, w64s (by omega)]
    refine ev_pos (by omega) (ev_pos ⟨by omega, ok_ev hA hB hx hy⟩ (Ev.bind t1 (ev_ite (fun he => ?_) (fun he => ev_pos (ok_ev hA hB hy hx) (Ev.bind t2 ih)))))
    simp only [Bool.and_eq_true, beq_iff_eq] at he
    have exy : y = x := Prod.ext he.1 he.2
    rw [exy] at ih ⊢
    rw [addP_twice] at ih
    exact ih
theorem impl_out : ∀ (m i : Nat) (P : PL), i + m = 82 → PG S.length T.length P → Ev (fun k => impl_couples.l0 k S T (mkP P) (i : Int)) (mkP (outP S T m i P))
  | 0, i, P, hi, hp => by
    have hpl := hp.few hA.nine hB.nine
    refine Ev.step (fun k => by rw [impl_couples.l0]) ?_
    rw [mkP_len]
    exact ev_neg (by omega) (Ev.now _)
  | m + 1, i, P, hi, hp => by
    have hpl := hp.few hA.nine hB.nine
    simp only [outP]
    refine Ev.step (fun k => by rw [impl_couples.l0]) ?_
    rw [mkP_len]
    refine ev_ite (fun hx => ?_) (fun hx => ?_)
    · have hil : i < P.length := by omega
      have hxm := hp.rg (P.getD i (0, 0)) (by rw [getD_lt hil]; exact List.getElem_mem hil)
      rw [if_pos hil, mkP_get P i hil]
      refine ev_pos (by omega) ?_
      unfold impl_couple_38.f
      rw [if_pos (by rw [mkP_len]; omega)]
      refine ev_some ?_
      refine impl_inn hA hB hxm P hp (i : Int) _ P.length 0 P (by omega) hp ?_
      rw [w64s (by omega), List.drop_zero]
      exact impl_out m (i + 1) _ (by omega) (inn_PG hA hB hxm P P (fun y hy => hp.rg y hy) hp)
    · rw [if_neg (by omega)]
      exact Ev.now _
theorem start_PG : PG S.length T.length [(st, ut)] := ⟨by simp, fun x hx => by rw [List.mem_singleton] at hx; rw [hx]; exact ⟨hA.start, hB.start⟩⟩
theorem out_PG : ∀ (m i : Nat) (P : PL), PG S.length T.length P → PG S.length T.length (outP S T m i P)
  | 0, _, _, hp => hp
  | m + 1, i, P, hp => by
    simp only [outP]
    split
    · rename_i hil
      have hxm := hp.rg (P.getD i (0, 0)) (by rw [getD_lt hil]; exact List.getElem_mem hil)
      exact out_PG m (i + 1) _ (inn_PG hA hB hxm P P (fun y hy => hp.rg y hy) hp)
    · exact hp
theorem impl_couples_ev : Ev (fun k => impl_couples.f k st S g ut T h) (mkP (outP S T 82 0 [(st, ut)])) := by
  unfold impl_couples.f
  exact impl_out hA hB 82 0 [(st, ut)] (by omega) (start_PG hA hB)
end
theorem rd20 (a b : Int) : rd [a, b] 0 = a := rfl
theorem rd21 (a b : Int) : rd [a, b] 1 = b := rfl
theorem put_ev (P : PL) (hP : P.length ≤ 100) (z : Int × Int) : ∀ (m i : Nat), i + m = P.length → (z ∈ P → z ∈ P.drop i) → ∃ n : Int, Ev (fun k => spec_l06Number.p0 k (rowP P) z.1 z.2 (i : Int)) (n, rowP (addP P z))
  | 0, i, hi, hz => by
    rw [List.drop_of_length_le (by omega)] at hz
    have hn : ¬ z ∈ P := fun h => by cases hz h
    refine ⟨(P.length : Int), ?_⟩
    refine Ev.step (fun k => by rw [spec_l06Number.p0]) ?_
    rw [rowP_len]
    refine ev_neg (by omega) (ev_pos (by omega) (ev_now ?_))
    unfold addP
    rw [if_neg hn]
    simp [rowP]
  | m + 1, i, hi, hz => by
    have hil : i < P.length := by omega
    by_cases hx : z = P.getD i (0, 0)
    · have hmem : z ∈ P := by rw [hx, getD_lt hil]; exact List.getElem_mem hil
      refine ⟨(i : Int), ?_⟩
      refine Ev.step (fun k => by rw [spec_l06Number.p0]) ?_
      rw [rowP_get P i hil, rowP_len, rd20, rd21, ← hx]
      refine ev_pos (by omega) (ev_pos (by omega) (ev_pos (by simp) (ev_pos rfl (ev_pos (by simp) (ev_pos rfl (ev_now ?_))))))
      unfold addP
      rw [if_pos hmem]
    · obtain ⟨n, h1⟩ := put_ev P hP z m (i + 1) (by omega) (fun h => ((mem_drop i hil).1 (hz h)).resolve_left hx)
      refine ⟨n, ?_⟩
      refine Ev.step (fun k => by rw [spec_l06Number.p0]) ?_
      rw [rowP_get P i hil, rowP_len, rd20, rd21, w64s (by omega)]
      refine ev_pos (by omega) (ev_pos (by omega) (ev_pos (by simp) (ev_ite (fun h2 => ev_pos (by simp) (ev_ite (fun h3 => ?_) (fun _ => h1))) (fun _ => h1))))
      exact absurd (Prod.ext h2.symm h3.symm) hx
section
variable {st : Int} {S : List (List Int)} {g : List Int} (hA : IsA st S g) {ut : Int} {T : List (List Int)} {h : List Int} (hB : IsA ut T h)
include hA hB
theorem spec_inn {x : Int × Int} (hx : (0 ≤ x.1 ∧ x.1 < S.length) ∧ 0 ≤ x.2 ∧ x.2 < T.length) (sn : PL) (hsn : PG S.length T.length sn) (i : Nat) (hi : i < sn.length) (ex : sn.getD i (0, 0) = x) (q : List (List Int) × Bool) : ∀ (m j : Nat) (P : PL), j + m = sn.length → PG S.length T.length P → (∃ Q, P = sn ++ Q) →
    Ev (fun k => spec_l06Pairs.l0 k 1000 (rowP (innP S T x (sn.drop j) P)) (wrap64 ((i : Int) + 1)) st S g ut T h) q → Ev (fun k => spec_l06Pairs.l1 k 1000 (rowP P) (i : Int) (j : Int) (sn.length : Int) st S g ut T h) q
  | 0, j, P, hj, hp, hQ, H => by
    rw [List.drop_of_length_le (by omega)] at H
    refine Ev.step (fun k => by rw [spec_l06Pairs.l1]) ?_
    exact ev_neg (by omega) H
  | m + 1, j, P, hj, hp, hQ, H => by
    have hjl : j < sn.length := by omega
    have h9 := hA.nine
    have h9' := hB.nine
    have hpl := hp.few h9 h9'
    rw [List.drop_eq_getElem_cons hjl, ← getD_lt hjl] at H
    have hmem : sn.getD j (0, 0) ∈ sn := by rw [getD_lt hjl]; exact List.getElem_mem hjl
    obtain ⟨y, ey⟩ : ∃ y, sn.getD j (0, 0) = y := ⟨_, rfl⟩
    rw [ey] at H hmem
    have hy := hsn.rg y hmem
    have hp1 := hp.add (stp_rg hA hB hx hy)
    have hp2 := hp1.add (stp_rg hA hB hy hx)
    have hpl2 := hp2.few h9 h9'
    simp only [innP] at H
    obtain ⟨Q, eQ⟩ := hQ
    have hPl : P.length = sn.length + Q.length := by rw [eQ]; simp
    have gP : ∀ k, k < sn.length → P.getD k (0, 0) = sn.getD k (0, 0) := fun k hk => by
      rw [eQ, List.getD_eq_getElem?_getD, List.getElem?_append_left hk, ← List.getD_eq_getElem?_getD]
    obtain ⟨Q1, e1⟩ := addP_pre P (stp S T x y)
    obtain ⟨Q2, e2⟩ := addP_pre (addP P (stp S T x y)) (stp S T y x)
    have ih := spec_inn hx sn hsn i hi ex q m (j + 1) _ (by omega) hp2 ⟨Q ++ (Q1 ++ Q2), by rw [e2, e1, eQ]; simp⟩ H
    obtain ⟨n1, t1⟩ := put_ev P (by omega) (stp S T x y) P.length 0 (by omega) (fun h => by simpa using h)
    obtain ⟨n2, t2⟩ := put_ev (addP P (stp S T x y)) (by have := hp1.few h9 h9'; omega) (stp S T y x) (addP P (stp S T x y)).length 0 (by omega) (fun h => by simpa using h)
    have r1 : (rd_L1 S x.1).length = S.length := hA.row x.1.toNat (by omega)
    have r2 : (rd_L1 T x.2).length = T.length := hB.row x.2.toNat (by omega)
    have r3 : (rd_L1 S y.1).length = S.length := hA.row y.1.toNat (by omega)
    have r4 : (rd_L1 T y.2).length = T.length := hB.row y.2.toNat (by omega)
    refine Ev.step (fun k => by rw [spec_l06Pairs.l1]) ?_
    rw [rowP_get P i (by omega), rowP_get P j (by omega), gP i hi, gP j hjl, ex, ey, rowP_len]
    simp only [rd20, rd21, r1, r2, r3, r4]
    rw [w64s (by omega)]
    refine ev_pos (by omega) (ev_pos (by omega) (ev_pos (by omega) (ev_pos (by omega) (ev_pos (by omega) (ev_pos (by simp) (ev_pos hx.1.1 (ev_pos hx.1.2 (ev_pos (by simp) (ev_pos hy.1.1 (ev_pos hy.1.2 (ev_pos (by simp) (ev_pos hx.2.1 (ev_pos hx.2.2 (ev_pos (by simp) (ev_pos hy.2.1 (ev_pos hy.2.2 ?_))))))))))))))))
    refine Ev.bind t1 (ev_pos hy.1.2 (ev_pos hx.1.2 (ev_pos hy.2.2 (ev_pos hx.2.2 ?_))))
    refine Ev.bind t2 (ev_neg (by simp only [rowP_len]; omega) ih)
theorem spec_out : ∀ (m i : Nat) (P : PL), i + m = 82 → PG S.length T.length P → Ev (fun k => spec_l06Pairs.l0 k 1000 (rowP P) (i : Int) st S g ut T h) (rowP (outP S T m i P), true)
  | 0, i, P, hi, hp => by
    have hpl := hp.few hA.nine hB.nine
    refine Ev.step (fun k => by rw [spec_l06Pairs.l0]) ?_
    rw [rowP_len]
    exact ev_neg (by omega) (Ev.now _)
  | m + 1, i, P, hi, hp => by
    have hpl := hp.few hA.nine hB.nine
    simp only [outP]
    refine Ev.step (fun k => by rw [spec_l06Pairs.l0]) ?_
    rw [rowP_len]
    refine ev_ite (fun hx => ?_) (fun hx => ?_)
    · have hil : i < P.length := by omega
      have hxm := hp.rg (P.getD i (0, 0)) (by rw [getD_lt hil]; exact List.getElem_mem hil)
      rw [if_pos hil]
      refine spec_inn hA hB hxm P hp i hil rfl _ P.length 0 P (by omega) hp ⟨[], by simp⟩ ?_
      rw [w64s (by omega), List.drop_zero]
      exact spec_out m (i + 1) _ (by omega) (inn_PG hA hB hxm P P (fun y hy => hp.rg y hy) hp)
    · rw [if_neg (by omega)]
      exact Ev.now _
theorem spec_pairs_ev : Ev (fun k => spec_l06Pairs.f k st S g ut T h 1000) (rowP (outP S T 82 0 [(st, ut)]), true) := by
  unfold spec_l06Pairs.f
  exact spec_out hA hB 82 0 [(st, ut)] (by omega) (start_PG hA hB)
end
end Go.Proofs.Ytpbfideppdmceaa.E
namespace Go.Proofs.Ytpbfideppdmceaa.E
set_option linter.unusedVariables false
set_option linter.unusedSectionVars false
open Go.RowKit Go.Proofs.YtpbfideppdmceaaW.PrintWords Go.Proofs.Ytpbfideppdmceaa.Base Go.Proofs.Ytpbfideppdmceaa.Auto
def agree (g h : List Int) (P : PL) : Bool × Int := if P.any (fun x => goodM g x.1 != goodM h x.2) = true then (false, 0) else (true, 0)
theorem agree_drop (g h : List Int) (P : PL) (i : Nat) (hi : i < P.length) : agree g h (P.drop i) = if (goodM g (P.getD i (0, 0)).1 != goodM h (P.getD i (0, 0)).2) = true then (false, 0) else agree g h (P.drop (i + 1)) := by
  rw [List.drop_eq_getElem_cons hi, getD_lt hi]
  unfold agree
  rw [List.any_cons]
  cases hx : (goodM g (P[i]).1 != goodM h (P[i]).2) with
  | true => simp
  | false => rw [Bool.false_or, if_neg (show ¬ (false = true) by decide)]
theorem spec_agree (st ut : Int) (S T : List (List Int)) {g h : List Int} (hg : g.length ≤ 1048576) (hh : h.length ≤ 1048576) (P : PL) (hP : P.length ≤ 100) : ∀ (m i : Nat), i + m = P.length → Ev (fun k => spec_AreAlike.l0 k (rowP P) (i : Int) st S g ut T h) (agree g h (P.drop i))
  | 0, i, hi => by
    rw [List.drop_of_length_le (by omega)]
    refine Ev.step (fun k => by rw [spec_AreAlike.l0]) ?_
    rw [rowP_len]
    exact ev_neg (by omega) (ev_now rfl)
  | m + 1, i, hi => by
    have hil : i < P.length := by omega
    have ih := spec_agree st ut S T hg hh P hP m (i + 1) (by omega)
    rw [agree_drop g h P i hil]
    refine Ev.step (fun k => by rw [spec_AreAlike.l0]) ?_
    rw [rowP_get P i hil, rowP_len, rd20, rd21, w64s (by omega)]
    refine ev_pos (by omega) (ev_pos (by omega) (ev_pos (by simp) (Ev.bind (spec_l06Good_ev st S g hg _) (ev_pos (by simp) (Ev.bind (spec_l06Good_ev ut T h hh _) (ev_ite (fun hx => ?_) (fun hx => ?_)))))))
    · rw [if_pos hx]; exact Ev.now _
    · rw [if_neg hx]; exact ih
theorem impl_agree (st ut : Int) (S T : List (List Int)) {g h : List Int} (hg : g.length ≤ 1048576) (hh : h.length ≤ 1048576) (P : PL) (hP : P.length ≤ 100) : ∀ (m i : Nat), i + m = P.length → Ev (fun k => impl_AreAlike.l0 k (mkP P) ((mkP P).length : Int) (i : Int) st S g ut T h) (agree g h (P.drop i))
  | 0, i, hi => by
    rw [List.drop_of_length_le (by omega)]
    refine Ev.step (fun k => by rw [impl_AreAlike.l0]) ?_
    rw [mkP_len]
    exact ev_neg (by omega) (ev_now rfl)
  | m + 1, i, hi => by
    have hil : i < P.length := by omega
    have ih := impl_agree st ut S T hg hh P hP m (i + 1) (by omega)
    have hgf : Ev (fun k => impl_isGoodFor.f k st S g ut T h (P.getD i (0, 0)).1 (P.getD i (0, 0)).2 2) (goodM g (P.getD i (0, 0)).1 != goodM h (P.getD i (0, 0)).2) := by
      unfold impl_isGoodFor.f
      exact Ev.bind (impl_isGood_ev st S g hg _) (Ev.bind (impl_isGood_ev ut T h hh _) (ev_neg (by decide) (ev_neg (by decide) (Ev.now _))))
    rw [agree_drop g h P i hil]
    rw [mkP_len] at ih ⊢
    refine Ev.step (fun k => by rw [impl_AreAlike.l0]) ?_
    rw [mkP_get P i hil, mkP_len, w64s (by omega)]
    refine ev_pos (by omega) (ev_pos (by omega) (ev_pos (by omega) (Ev.bind hgf (ev_ite (fun hx => ?_) (fun hx => ?_)))))
    · rw [if_pos hx]; exact Ev.now _
    · rw [if_neg hx]; exact ih
theorem both_AreAlike {S : List (List Int)} {g : List Int} (hs : SmallA S g) (st : Int) {T : List (List Int)} {h : List Int} (ht : SmallA T h) (ut : Int) : ∃ r : Bool × Int, Ev (fun k => spec_AreAlike.f k st S g ut T h) r ∧ Ev (fun k => impl_AreAlike.f k st S g ut T h) r := by
  by_cases hc : isAutM st S g = true ∧ isAutM ut T h = true
  · obtain ⟨h1, h2⟩ := hc
    have hA := isAutM_sound h1
    have hB := isAutM_sound h2
    have hfew := (out_PG hA hB 82 0 _ (start_PG hA hB)).few hA.nine hB.nine
    refine ⟨agree g h (outP S T 82 0 [(st, ut)]), ?_, ?_⟩
    · unfold spec_AreAlike.f
      refine Ev.bind (spec_l06Is_ev hs st) (ev_pos h1 (Ev.bind (spec_l06Is_ev ht ut) ?_))
      refine Ev.step (fun k => by rw [spec_AreAlike.j0]) ?_
      rw [h2]
      refine ev_neg (by decide) (Ev.bind (spec_pairs_ev hA hB) ?_)
      have := spec_agree st ut S T hs.good ht.good (outP S T 82 0 [(st, ut)]) (by omega) _ 0 (Nat.zero_add _)
      rw [List.drop_zero] at this
      exact this
    · unfold impl_AreAlike.f
      refine Ev.bind (impl_IsAutomaton_ev hs st) (ev_pos h1 (Ev.bind (impl_IsAutomaton_ev ht ut) ?_))
      refine Ev.step (fun k => by rw [impl_AreAlike.j0]) ?_
      rw [h2]
      refine ev_neg (by decide) (Ev.bind (impl_couples_ev hA hB) ?_)
      have := impl_agree st ut S T hs.good ht.good (outP S T 82 0 [(st, ut)]) (by omega) _ 0 (Nat.zero_add _)
      rw [List.drop_zero] at this
      exact this
  · refine ⟨(false, 1), ?_, ?_⟩
    · unfold spec_AreAlike.f
      refine Ev.bind (spec_l06Is_ev hs st) (ev_ite (fun h1 => Ev.bind (spec_l06Is_ev ht ut) ?_) (fun h1 => ?_))
      · refine Ev.step (fun k => by rw [spec_AreAlike.j0]) ?_
        exact ev_pos (by simpa using fun h2 => hc ⟨h1, h2⟩) (Ev.now _)
      · refine Ev.step (fun k => by rw [spec_AreAlike.j0]) ?_
        exact ev_pos rfl (Ev.now _)
    · unfold impl_AreAlike.f
      refine Ev.bind (impl_IsAutomaton_ev hs st) (ev_ite (fun h1 => Ev.bind (impl_IsAutomaton_ev ht ut) ?_) (fun h1 => ?_))
      · refine Ev.step (fun k => by rw [impl_AreAlike.j0]) ?_
        exact ev_pos (by simpa using fun h2 => hc ⟨h1, h2⟩) (Ev.now _)
      · refine Ev.step (fun k => by rw [impl_AreAlike.j0]) ?_
        exact ev_pos rfl (Ev.now _)
theorem szAutomaton_evA (a : Int) (a0 : 0 ≤ a) (a1 : a ≤ 1048576) (st : Int) (S : List (List Int)) (g : List Int) (hS : S.length ≤ maxLen) (hm : ∀ j, j < S.length → (S.getD j []).length ≤ maxLen) (hg : g.length ≤ maxLen) :
    ∃ r, Ev (fun k => laws_szAutomaton.f k st S g a) r ∧ (r < 0 ∨ (0 ≤ r ∧ r ≤ 1048576 ∧ SmallA S g)) := by
  unfold maxLen at hS
  have fin : ∀ r1 : Int, Ev (fun k => laws_szInt64SS.f k S a) r1 → (r1 = -1 ∨ (0 ≤ r1 ∧ r1 ≤ 1048576 ∧ S.length ≤ 1048576 ∧ ∀ j, j < S.length → (S.getD j []).length ≤ 1048576)) →
      ∃ r, Ev (fun k => laws_szAutomaton.f k st S g a) r ∧ (r < 0 ∨ (0 ≤ r ∧ r ≤ 1048576 ∧ SmallA S g)) := by
    intro r1 h1 h2
    rcases h2 with h2 | ⟨h2, h3, h4, h5⟩
    · refine ⟨-1, ?_, .inl (by decide)⟩
      unfold laws_szAutomaton.f
      exact Ev.bind h1 (ev_pos (by omega) (Ev.now _))
    · have hr := sz_row g r1 h2 h3 hg
      by_cases hx : r1 < g.length
      · refine ⟨-1, ?_, .inl (by decide)⟩
        unfold laws_szAutomaton.f
        refine Ev.bind h1 (ev_neg (by omega) ?_)
        simp only [hr, if_pos hx]
        exact ev_some (ev_pos (by decide) (Ev.now _))
      · refine ⟨r1 - g.length, ?_, .inr ⟨by omega, by omega, h4, h5, by omega⟩⟩
        unfold laws_szAutomaton.f
        refine Ev.bind h1 (ev_neg (by omega) ?_)
        simp only [hr, if_neg hx]
        exact ev_some (ev_neg (by omega) (Ev.now _))
  by_cases hb : a < S.length
  · refine fin (-1) ?_ (.inl rfl)
    unfold laws_szInt64SS.f
    rw [w64 (by omega) (by omega)]
    exact ev_pos (by omega) (Ev.now _)
  · obtain ⟨r, h1, h2⟩ := sz_loop S (by omega) hm S.length 0 (a - S.length) (by omega) (by omega) (by omega)
    refine fin r ?_ ?_
    · unfold laws_szInt64SS.f
      rw [w64 (by omega) (by omega)]
      exact ev_neg (by omega) h1
    · rcases h2 with h2 | ⟨h2, h3, h4⟩
      · exact .inl h2
      · exact .inr ⟨h2, by omega, by omega, fun j hj => h4 j (by omega) hj⟩
end Go.Proofs.Ytpbfideppdmceaa.E
namespace Go.Proofs.Ytpbfideppdmceaa.Pure
open Go.RowKit Go.Proofs.YtpbfideppdmceaaW.PrintWords Go.Proofs.Ytpbfideppdmceaa.Base Go.Proofs.Ytpbfideppdmceaa.Auto Go.Proofs.Ytpbfideppdmceaa.E
theorem FnExactAreAlike : ∀ (st : Int) (S : List (List Int)) (g : List Int) (ut : Int) (T : List (List Int)) (h : List Int), (Lit.int .i64 st).wf = true → S.length ≤ maxLen → (∀ y ∈ S, y.length ≤ maxLen ∧ ∀ x ∈ y, (Lit.int .i64 x).wf = true) → g.length ≤ maxLen → (∀ x ∈ g, (Lit.int .i64 x).wf = true) → (Lit.int .i64 ut).wf = true → T.length ≤ maxLen → (∀ y ∈ T, y.length ≤ maxLen ∧ ∀ x ∈ y, (Lit.int .i64 x).wf = true) → h.length ≤ maxLen → (∀ x ∈ h, (Lit.int .i64 x).wf = true) → ∃ k, laws_FnExactAreAlike.f k st S g ut T h = some true := by
  intro st S g ut T h _ hS hm hg _ _ hT hmT hh _
  apply Ev.rounds
  have get : ∀ (X : List (List Int)), (∀ y ∈ X, y.length ≤ maxLen ∧ ∀ x ∈ y, (Lit.int .i64 x).wf = true) → ∀ j, j < X.length → (X.getD j []).length ≤ maxLen := fun X hX j hj => by
    have : X.getD j [] ∈ X := by rw [List.getD_eq_getElem?_getD, List.getElem?_eq_getElem hj]; exact List.getElem_mem hj
    exact (hX _ this).1
  obtain ⟨r, h1, h2⟩ := szAutomaton_ev st S g hS (get S hm) hg
  unfold laws_FnExactAreAlike.f
  refine Ev.bind h1 ?_
  rcases h2 with h2 | ⟨h2, h3, hs⟩
  · exact ev_pos h2 (Ev.now _)
  · refine ev_neg (by omega) ?_
    obtain ⟨r2, h4, h5⟩ := szAutomaton_evA r h2 h3 ut T h hT (get T hmT) hh
    refine Ev.bind h4 ?_
    rcases h5 with h5 | ⟨h5, _, ht⟩
    · exact ev_pos h5 (Ev.now _)
    · obtain ⟨q, q1, q2⟩ := both_AreAlike hs st ht ut
      refine ev_neg (by omega) (Ev.bind (toA_ev hs st) (Ev.bind (toA_ev ht ut) (Ev.bind q1 (Ev.bind (toA_ev hs st) (Ev.bind (toA_ev ht ut) (Ev.bind q2 (ev_neg (by simp) ?_)))))))
      refine Ev.step (fun k => by rw [laws_FnExactAreAlike.j0]) ?_
      exact ev_neg (by simp) (Ev.bind (toA_ev hs st) (Ev.bind (eqA_ev hs st) (ev_pos rfl (Ev.bind (toA_ev ht ut) (Ev.bind (eqA_ev ht ut) (ev_pos rfl (Ev.now _)))))))
end Go.Proofs.Ytpbfideppdmceaa.Pure
namespace Go.Proofs.Ytpbfideppdmceaa.Open
set_option linter.unusedVariables false
set_option linter.unusedSectionVars false
open Go.RowKit Go.ChangeShapes Go.WideShapes Go.ChangeAt Go.Deep Go.Proofs.YtpbfideppdmceaaW.PrintWords
section
variable {H : Type} {enc : TypeId × Value → H} {P : Program} {w : World} {base : Nat} {held : Bool}

def Opens {α : Type} (d : Kd α) (Q : α → Prop) (enc : TypeId × Value → H) (P : Program) (w : World) (base : Nat) (held : Bool) (t : TypeId) : Prop :=
  ∀ (fuel : Nat) (cs : List Value) (x : DataW H × List MemPlace), DataW.trod enc P w base (fun _ => true) held fuel t cs = some x → ∃ a, d.K w a cs ∧ Q a
theorem opens_int {t : TypeId} {k : IntKind} (ht : P.underlying t = some (.int k)) : Opens (Kd.int k) (fun n => (Lit.int k n).wf = true) enc P w base held t := by
  intro fuel cs x h
  obtain ⟨n, rfl, _, hw⟩ := DataW.trod_int ht h
  exact ⟨n, rfl, hw⟩
theorem opens_slice {α : Type} [Inhabited α] {d : Kd α} {Q : α → Prop} {t e : TypeId} (ht : P.underlying t = some (.slice e)) (hc : P.cellsOf e = d.sz) (he : Opens d Q enc P w base held e) :
    Opens (Kd.slice e d) (fun xs => xs.length ≤ maxLen ∧ ∀ y ∈ xs, Q y) enc P w base held t := by
  intro fuel cs x h
  rcases open_slice ht h with ⟨rfl, _⟩ | ⟨a, len, cap, m, n, D, Pl, rfl, _, hl, hm, hmm, _, each⟩
  · exact ⟨[], ⟨none, 0, rfl, Nat.le_refl _, rfl, by simp, fun h0 => by simp at h0⟩, by simp, by simp⟩
  · simp only [if_true] at hmm
    have hx : ∀ i, i < len → ∃ y : α, Q y ∧ ∃ cs', w.cells? base (a.add (i * P.cellsOf e)) (P.cellsOf e) = some cs' ∧ d.K w y cs' := by
      intro i hi
      obtain ⟨cs', h1, h2⟩ := each i (by omega)
      obtain ⟨y, hk, hq⟩ := he _ _ _ h2
      exact ⟨y, hq, cs', h1, hk⟩
    obtain ⟨f, hf⟩ := choose_lt hx
    refine ⟨(List.range len).map f, ⟨some a, cap, by simp, by simpa using hl, by simp, by unfold maxLen at hm; simp; omega, fun _ => ⟨a, rfl, fun j p hj => ?_⟩⟩, by simp; omega, fun y hy => ?_⟩
    · rw [List.getElem?_map] at hj
      have hjl : j < len := by
        rcases Nat.lt_or_ge j len with h | h
        · exact h
        · rw [List.getElem?_eq_none (by simpa using h)] at hj
          cases hj
      rw [List.getElem?_range hjl] at hj
      obtain rfl := Option.some.inj hj
      obtain ⟨_, cs', h1, h2⟩ := hf j hjl
      obtain ⟨_, h3, h4⟩ := World.cells?_some h1
      refine ⟨cs', d.K_len h2, h2, fun i u hu => ?_⟩
      have hi : i < P.cellsOf e := by
        rw [← h3]
        exact (List.getElem?_eq_some_iff.1 hu).1
      have h5 := h4 i hi
      rw [hu] at h5
      rw [Go.Deep.add_add] at h5
      rw [← hc]
      exact h5
    · obtain ⟨i, hi, rfl⟩ := List.mem_map.1 hy
      exact (hf i (List.mem_range.1 hi)).1
theorem slice_in {α : Type} [Inhabited α] {d : Kd α} {Q : α → Prop} {t e : TypeId} {v : Value} {fuel : Nat} {x : DataW H × List MemPlace} (ht : P.underlying t = some (.slice e)) (hc : P.cellsOf e = d.sz) (he : Opens d Q enc P w base held e)
    (h : DataW.trod enc P w base (fun _ => true) held fuel t [v] = some x) : ∃ (A : Option Addr) (c : Nat) (xs : List α), v = .slice A xs.length c ∧ xs.length ≤ c ∧ xs.length ≤ maxLen ∧ d.C w A xs.length xs ∧ ∀ y ∈ xs, Q y := by
  obtain ⟨xs, ⟨A, c, hv, hl, hC⟩, hm, hq⟩ := opens_slice ht hc he _ _ _ h
  obtain rfl : v = .slice A xs.length c := by simpa using hv
  exact ⟨A, c, xs, rfl, hl, hm, hC, hq⟩
end
end Go.Proofs.Ytpbfideppdmceaa.Open
