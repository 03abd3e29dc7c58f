/- The row of the law FnExactAutomatonText, out of its pure statement. -/
import Derived.Test.YtmahokdlfmehjaaQATEx0
import Derived.Test.YtmahokdlfmehjaaQATEx1
import Derived.Test.YtmahokdlfmehjaaQATEx12
import Derived.Test.YtmahokdlfmehjaaQATW
import Derived.Deep.Slices
import Derived.Lib.Join
import Derived.Lib.SmallJoins
import Derived.OpenShut
import Derived.WalkKit
namespace Go.Proofs.Ytmahokdlfmehjaa.Base
set_option linter.unusedVariables false
set_option linter.unusedSectionVars false
open Go.RowKit Go.Proofs.YtmahokdlfmehjaaW.PrintWords

theorem ev_pos {α : Type} {c : Prop} [Decidable c] {f g : Nat → Option α} {r : α} (h : c) (k : Ev f r) : Ev (fun n => if c then f n else g n) r := by
  simpa [h] using k
theorem ev_neg {α : Type} {c : Prop} [Decidable c] {f g : Nat → Option α} {r : α} (h : ¬ c) (k : Ev g r) : Ev (fun n => if c then f n else g n) r := by
  simpa [h] using k
theorem ev_ite {α : Type} {c : Prop} [Decidable c] {f g : Nat → Option α} {r : α} (h : c → Ev f r) (k : ¬ c → Ev g r) : Ev (fun n => if c then f n else g n) r := by
  by_cases hc : c
  · exact ev_pos hc (h hc)
  · exact ev_neg hc (k hc)
theorem ev_now {α : Type} {a r : α} (h : a = r) : Ev (fun _ => some a) r := h ▸ Ev.now a
theorem ev_some {α β : Type} {f : Nat → α → Option β} {a : α} {r : β} (k : Ev (fun n => f n a) r) : Ev (fun n => (some a).bind (f n)) r := by
  simpa using k
theorem w64 {x : Int} (h1 : -9223372036854775808 ≤ x) (h2 : x ≤ 9223372036854775807) : wrap64 x = x := by unfold wrap64; omega
theorem w64s {i : Nat} (h : i < 9223372036854775807) : wrap64 ((i : Int) + 1) = ((i + 1 : Nat) : Int) := by unfold wrap64; omega
theorem rd_nat (l : List Int) (i : Nat) : rd l (i : Int) = l.getD i 0 := rfl
theorem set_eq {l m : List Int} {i : Nat} (hl : m.length = l.length) (h : ∀ j, j < i → m.getD j 0 = l.getD j 0) : ∀ j, j < i + 1 → (m.set i (l.getD i 0)).getD j 0 = l.getD j 0 := by
  intro j hj
  rw [List.getD_eq_getElem?_getD, List.getElem?_set]
  by_cases e : i = j
  · subst e
    by_cases hlt : i < m.length
    · simp [hlt]
    · rw [if_pos rfl, if_neg hlt, List.getD_eq_getElem?_getD, List.getElem?_eq_none (by omega)]
  · rw [if_neg e, ← List.getD_eq_getElem?_getD]
    exact h j (by omega)
theorem ext_getD {l m : List Int} (hl : m.length = l.length) (h : ∀ j, j < l.length → m.getD j 0 = l.getD j 0) : m = l := by
  apply List.ext_getElem hl
  intro j h1 h2
  have := h j h2
  rwa [List.getD_eq_getElem?_getD, List.getD_eq_getElem?_getD, List.getElem?_eq_getElem h1, List.getElem?_eq_getElem h2] at this
theorem getD_replicate {n j : Nat} {v : Int} (h : j < n) : (List.replicate n v).getD j 0 = v := by
  rw [List.getD_eq_getElem?_getD, List.getElem?_replicate, if_pos h]; rfl
theorem get_set_ne {l : List Int} {i j : Nat} {v : Int} (h : i ≠ j) : (l.set i v).getD j 0 = l.getD j 0 := by
  rw [List.getD_eq_getElem?_getD, List.getElem?_set_ne h, ← List.getD_eq_getElem?_getD]
theorem get_set_eq {l : List Int} {i : Nat} {v : Int} (h : i < l.length) : (l.set i v).getD i 0 = v := by
  rw [List.getD_eq_getElem?_getD, List.getElem?_set_self h]; rfl
end Go.Proofs.Ytmahokdlfmehjaa.Base
namespace Go.Proofs.Ytmahokdlfmehjaa.Auto
set_option linter.unusedVariables false
set_option linter.unusedSectionVars false
open Go.RowKit Go.Proofs.YtmahokdlfmehjaaW.PrintWords Go.Proofs.Ytmahokdlfmehjaa.Base

def inS (m : Nat) (s : Int) : Bool := decide (0 ≤ s) && decide (s < m)
theorem inS_iff {m : Nat} {s : Int} : inS m s = true ↔ 0 ≤ s ∧ s < m := by
  unfold inS; rw [Bool.and_eq_true, decide_eq_true_eq, decide_eq_true_eq]
def rowOk (m : Nat) (row : List Int) : Bool := decide (row.length = m) && row.all (inS m)
def goodFrom (m : Nat) (g : List Int) : Nat → Nat → Bool
  | 0, _ => true
  | k + 1, i => (inS m (g.getD i 0) && (decide (i = 0) || decide (g.getD (i - 1) 0 < g.getD i 0))) && goodFrom m g k (i + 1)
def isAutM (st : Int) (S : List (List Int)) (g : List Int) : Bool :=
  decide (1 ≤ S.length) && decide (S.length ≤ 9) && inS S.length st && S.all (rowOk S.length) && goodFrom S.length g g.length 0
structure IsA (st : Int) (S : List (List Int)) (g : List Int) : Prop where
  one : 1 ≤ S.length
  nine : S.length ≤ 9
  start : 0 ≤ st ∧ st < S.length
  row : ∀ i, i < S.length → (S.getD i []).length = S.length
  step : ∀ i j, i < S.length → j < S.length → 0 ≤ (S.getD i []).getD j 0 ∧ (S.getD i []).getD j 0 < S.length
  good : ∀ i, i < g.length → 0 ≤ g.getD i 0 ∧ g.getD i 0 < S.length
  asc : ∀ i, 0 < i → i < g.length → g.getD (i - 1) 0 < g.getD i 0
theorem goodFrom_sound {m : Nat} {g : List Int} : ∀ (k i : Nat), goodFrom m g k i = true → ∀ j, i ≤ j → j < i + k → (0 ≤ g.getD j 0 ∧ g.getD j 0 < m) ∧ (0 < j → g.getD (j - 1) 0 < g.getD j 0)
  | 0, i, _, j, h1, h2 => by omega
  | k + 1, i, h, j, h1, h2 => by
    simp only [goodFrom, Bool.and_eq_true, Bool.or_eq_true, decide_eq_true_eq, inS_iff] at h
    by_cases e : j = i
    · subst e
      refine ⟨h.1.1, fun h0 => ?_⟩
      rcases h.1.2 with h3 | h3
      · omega
      · exact h3
    · exact goodFrom_sound k (i + 1) h.2 j (by omega) (by omega)
theorem all_getD {α : Type} {p : α → Bool} {l : List α} (h : l.all p = true) (x : α) {i : Nat} (hi : i < l.length) : p (l.getD i x) = true := by
  rw [List.getD_eq_getElem?_getD, List.getElem?_eq_getElem hi]
  exact List.all_eq_true.1 h _ (List.getElem_mem hi)
theorem isAutM_sound {st : Int} {S : List (List Int)} {g : List Int} (h : isAutM st S g = true) : IsA st S g := by
  unfold isAutM at h
  simp only [Bool.and_eq_true, decide_eq_true_eq, inS_iff] at h
  obtain ⟨⟨⟨⟨h1, h2⟩, h3⟩, h4⟩, h5⟩ := h
  have hr : ∀ i, i < S.length → rowOk S.length (S.getD i []) = true := fun i hi => all_getD h4 [] hi
  have hg := goodFrom_sound g.length 0 h5
  refine ⟨h1, h2, h3, fun i hi => ?_, fun i j hi hj => ?_, fun i hi => (hg i (by omega) (by omega)).1, fun i h0 hi => (hg i (by omega) (by omega)).2 h0⟩
  · have := hr i hi
    simp only [rowOk, Bool.and_eq_true, decide_eq_true_eq] at this
    exact this.1
  · have := hr i hi
    simp only [rowOk, Bool.and_eq_true, decide_eq_true_eq] at this
    exact inS_iff.1 (all_getD this.2 0 (by omega))
structure Sts (m n : Nat) (out : List Int) : Prop where
  len : out.length = n
  mem : ∀ j, j < n → 0 ≤ out.getD j 0 ∧ out.getD j 0 < m
theorem Sts.set {m n : Nat} {out : List Int} (h : Sts m n out) (v : Nat) (hv : v < n) {x : Int} (hx : 0 ≤ x ∧ x < m) : Sts m n (out.set v x) := by
  refine ⟨by rw [List.length_set, h.len], fun j hj => ?_⟩
  by_cases e : v = j
  · subst e; rw [get_set_eq (by rw [h.len]; exact hv)]; exact hx
  · rw [get_set_ne e]; exact h.mem j hj
theorem Sts.zero {m : Nat} (hm : 1 ≤ m) (n : Nat) : Sts m n (List.replicate n 0) := ⟨by simp, fun j hj => by rw [getD_replicate hj]; omega⟩
end Go.Proofs.Ytmahokdlfmehjaa.Auto
namespace Go.Proofs.Ytmahokdlfmehjaa.E
set_option linter.unusedVariables false
set_option linter.unusedSectionVars false
open Go.RowKit Go.Proofs.YtmahokdlfmehjaaW.PrintWords Go.Proofs.Ytmahokdlfmehjaa.Base

theorem toInt64S_loop (x0 : List Int) (hn : x0.length ≤ 1048576) : ∀ (m i : Nat) (x3 : List Int), i + m = x0.length → x3.length = x0.length → (∀ j, j < i → x3.getD j 0 = x0.getD j 0) → Ev (fun k => laws_toInt64S.l0 k x0 x3 (i : Int)) x0 := by
  intro m
  induction m with
  | zero =>
    intro i x3 h1 h2 h3
    refine Ev.step (fun k => by rw [laws_toInt64S.l0]) ?_
    refine ev_neg (by omega) ?_
    exact ev_now (ext_getD h2 (fun j hj => h3 j (by omega)))
  | succ m ih =>
    intro i x3 h1 h2 h3
    refine Ev.step (fun k => by rw [laws_toInt64S.l0]) ?_
    refine ev_pos (by omega) (ev_pos (by omega) (ev_pos (by omega) ?_))
    rw [w64s (by omega)]
    exact ih (i + 1) _ (by omega) (by simpa using h2) (set_eq h2 h3)
theorem toInt64S_ev (l : List Int) (hn : l.length ≤ 1048576) : Ev (fun k => laws_toInt64S.f k l) l := by
  unfold laws_toInt64S.f
  refine ev_pos (by omega) (ev_pos (by simp; omega) ?_)
  exact toInt64S_loop l hn l.length 0 _ (by omega) (by simp) (fun j hj => by omega)
theorem eqInt64S_loop (a : List Int) (hn : a.length ≤ 1048576) : ∀ (m i : Nat), i + m = a.length → Ev (fun k => laws_eqInt64S.l0 k a a (i : Int)) true := by
  intro m
  induction m with
  | zero =>
    intro i h1
    refine Ev.step (fun k => by rw [laws_eqInt64S.l0]) ?_
    refine ev_neg (by omega) ?_
    exact Ev.now _
  | succ m ih =>
    intro i h1
    refine Ev.step (fun k => by rw [laws_eqInt64S.l0]) ?_
    refine ev_pos (by omega) (ev_pos (by omega) (ev_pos (by omega) (ev_pos rfl ?_)))
    rw [w64s (by omega)]
    exact ih (i + 1) (by omega)
theorem eqInt64S_ev (a : List Int) (hn : a.length ≤ 1048576) : Ev (fun k => laws_eqInt64S.f k a a) true := by
  unfold laws_eqInt64S.f
  exact ev_pos rfl (eqInt64S_loop a hn a.length 0 (by omega))
end Go.Proofs.Ytmahokdlfmehjaa.E
namespace Go.Proofs.Ytmahokdlfmehjaa.E
set_option linter.unusedVariables false
set_option linter.unusedSectionVars false
open Go.RowKit Go.Proofs.YtmahokdlfmehjaaW.PrintWords Go.Proofs.Ytmahokdlfmehjaa.Base Go.Proofs.Ytmahokdlfmehjaa.Auto

structure SmallA (S : List (List Int)) (g : List Int) : Prop where
  rows : S.length ≤ 1048576
  each : ∀ j, j < S.length → (S.getD j []).length ≤ 1048576
  good : g.length ≤ 1048576
theorem l01In_eq (a b c : Int) : spec_l01In.f a b c = some (decide (b ≤ a) && decide (a ≤ c)) := by
  unfold spec_l01In.f
  by_cases h : a ≥ b
  · rw [if_pos h]; simp [show b ≤ a from h]
  · rw [if_neg h]; simp [show ¬ b ≤ a from h]
theorem rdL_nat (S : List (List Int)) (i : Nat) : rd_L1 S (i : Int) = S.getD i [] := rfl
theorem sz_row (l : List Int) (a : Int) (h0 : 0 ≤ a) (h1 : a ≤ 1048576) (hl : l.length ≤ maxLen) : laws_szInt64S.f l a = some (if a < l.length then -1 else a - l.length) := by
  unfold maxLen at hl
  unfold laws_szInt64S.f
  rw [w64 (by omega) (by omega)]
  by_cases h : a < l.length
  · rw [if_pos (by omega), if_pos h]
  · rw [if_neg (by omega), if_neg h]
theorem sz_loop (S : List (List Int)) (hS : S.length ≤ 1048576) (hm : ∀ j, j < S.length → (S.getD j []).length ≤ maxLen) : ∀ (m i : Nat) (a : Int), i + m = S.length → 0 ≤ a → a ≤ 1048576 →
    ∃ r, Ev (fun k => laws_szInt64SS.l0 k S a (i : Int)) r ∧ (r = -1 ∨ (0 ≤ r ∧ r ≤ a ∧ ∀ j, i ≤ j → j < S.length → (S.getD j []).length ≤ 1048576))
  | 0, i, a, hi, h0, h1 => by
    refine ⟨a, ?_, .inr ⟨h0, Int.le_refl _, fun j hj hl => by omega⟩⟩
    refine Ev.step (fun k => by rw [laws_szInt64SS.l0]) ?_
    exact ev_neg (by omega) (Ev.now _)
  | m + 1, i, a, hi, h0, h1 => by
    have hr := sz_row (S.getD i []) a h0 h1 (hm i (by omega))
    by_cases hx : a < (S.getD i []).length
    · refine ⟨-1, ?_, .inl rfl⟩
      refine Ev.step (fun k => by rw [laws_szInt64SS.l0]) ?_
      rw [rdL_nat, hr, if_pos hx]
      exact ev_pos (by omega) (ev_pos (by omega) (ev_some (ev_pos (by decide) (Ev.now _))))
    · obtain ⟨r, h2, h3⟩ := sz_loop S hS hm m (i + 1) (a - (S.getD i []).length) (by omega) (by omega) (by omega)
      refine ⟨r, ?_, ?_⟩
      · refine Ev.step (fun k => by rw [laws_szInt64SS.l0]) ?_
        rw [rdL_nat, hr, if_neg hx, w64s (by omega)]
        exact ev_pos (by omega) (ev_pos (by omega) (ev_some (ev_neg (by omega) h2)))
      · rcases h3 with h3 | ⟨h3, h4, h5⟩
        · exact .inl h3
        · refine .inr ⟨h3, by omega, fun j hj hl => ?_⟩
          by_cases e : j = i
          · subst e; omega
          · exact h5 j (by omega) hl
theorem szAutomaton_ev (st : Int) (S : List (List Int)) (g : List Int) (hS : S.length ≤ maxLen) (hm : ∀ j, j < S.length → (S.getD j []).length ≤ maxLen) (hg : g.length ≤ maxLen) :
    ∃ r, Ev (fun k => laws_szAutomaton.f k st S g 1048576) r ∧ (r < 0 ∨ (0 ≤ r ∧ r ≤ 1048576 ∧ SmallA S g)) := by
  unfold maxLen at hS
  have fin : ∀ r1 : Int, Ev (fun k => laws_szInt64SS.f k S 1048576) r1 → (r1 = -1 ∨ (0 ≤ r1 ∧ r1 ≤ 1048576 ∧ S.length ≤ 1048576 ∧ ∀ j, j < S.length → (S.getD j []).length ≤ 1048576)) →
      ∃ r, Ev (fun k => laws_szAutomaton.f k st S g 1048576) r ∧ (r < 0 ∨ (0 ≤ r ∧ r ≤ 1048576 ∧ SmallA S g)) := by
    intro r1 h1 h2
    rcases h2 with h2 | ⟨h2, h3, h4, h5⟩
    · refine ⟨-1, ?_, .inl (by decide)⟩
      unfold laws_szAutomaton.f
      exact Ev.bind h1 (ev_pos (by omega) (Ev.now _))
    · have hr := sz_row g r1 h2 h3 hg
      by_cases hx : r1 < g.length
      · refine ⟨-1, ?_, .inl (by decide)⟩
        unfold laws_szAutomaton.f
        refine Ev.bind h1 (ev_neg (by omega) ?_)
        simp only [hr, if_pos hx]
        exact ev_some (ev_pos (by decide) (Ev.now _))
      · refine ⟨r1 - g.length, ?_, .inr ⟨by omega, by omega, h4, h5, by omega⟩⟩
        unfold laws_szAutomaton.f
        refine Ev.bind h1 (ev_neg (by omega) ?_)
        simp only [hr, if_neg hx]
        exact ev_some (ev_neg (by omega) (Ev.now _))
  by_cases hb : (1048576 : Int) < S.length
  · refine fin (-1) ?_ (.inl rfl)
    unfold laws_szInt64SS.f
    rw [w64 (by omega) (by omega)]
    exact ev_pos (by omega) (Ev.now _)
  · obtain ⟨r, h1, h2⟩ := sz_loop S (by omega) hm S.length 0 (1048576 - S.length) (by omega) (by omega) (by omega)
    refine fin r ?_ ?_
    · unfold laws_szInt64SS.f
      rw [w64 (by omega) (by omega)]
      exact ev_neg (by omega) h1
    · rcases h2 with h2 | ⟨h2, h3, h4⟩
      · exact .inl h2
      · exact .inr ⟨h2, by omega, by omega, fun j hj => h4 j (by omega) hj⟩
theorem ext_rows {l m : List (List Int)} (hl : m.length = l.length) (h : ∀ j, j < l.length → m.getD j [] = l.getD j []) : m = l := by
  apply List.ext_getElem hl
  intro j h1 h2
  have := h j h2
  rwa [List.getD_eq_getElem?_getD, List.getD_eq_getElem?_getD, List.getElem?_eq_getElem h1, List.getElem?_eq_getElem h2] at this
theorem getr_set_eq {l : List (List Int)} {i : Nat} {v : List Int} (h : i < l.length) : (l.set i v).getD i [] = v := by
  rw [List.getD_eq_getElem?_getD, List.getElem?_set_self h]; rfl
theorem getr_set_ne {l : List (List Int)} {i j : Nat} {v : List Int} (h : i ≠ j) : (l.set i v).getD j [] = l.getD j [] := by
  rw [List.getD_eq_getElem?_getD, List.getElem?_set_ne h, ← List.getD_eq_getElem?_getD]
section
variable {S : List (List Int)} {g : List Int} (hs : SmallA S g)
include hs
theorem toSS_loop : ∀ (m i : Nat) (x : List (List Int)), i + m = S.length → x.length = S.length → (∀ j, j < i → x.getD j [] = S.getD j []) → Ev (fun k => laws_toInt64SS.l0 k S x (i : Int)) S
  | 0, i, x, hi, hx, hj => by
    refine Ev.step (fun k => by rw [laws_toInt64SS.l0]) ?_
    exact ev_neg (by omega) (ev_now (ext_rows hx (fun j h => hj j (by omega))))
  | m + 1, i, x, hi, hx, hj => by
    have hr := hs.rows
    refine Ev.step (fun k => by rw [laws_toInt64SS.l0]) ?_
    rw [rdL_nat]
    refine ev_pos (by omega) (ev_pos (by omega) (Ev.bind (toInt64S_ev _ (hs.each i (by omega))) (ev_pos (by omega) ?_)))
    rw [w64s (by omega)]
    refine toSS_loop m (i + 1) _ (by omega) (by simpa using hx) (fun j h => ?_)
    rw [show ((i : Int)).toNat = i from rfl]
    by_cases e : i = j
    · subst e; exact getr_set_eq (by omega)
    · rw [getr_set_ne e]; exact hj j (by omega)
theorem toSS_ev : Ev (fun k => laws_toInt64SS.f k S) S := by
  have hr := hs.rows
  unfold laws_toInt64SS.f
  refine ev_pos (by omega) (ev_pos (by simp; omega) ?_)
  exact toSS_loop hs S.length 0 _ (by omega) (by simp) (fun j hj => by omega)
theorem toA_ev (st : Int) : Ev (fun k => laws_toAutomaton.f k st S g) (st, S, g) := by
  unfold laws_toAutomaton.f
  exact Ev.bind (toSS_ev hs) (Ev.bind (toInt64S_ev g hs.good) (Ev.now _))
theorem eqSS_loop : ∀ (m i : Nat), i + m = S.length → Ev (fun k => laws_eqInt64SS.l0 k S S (i : Int)) true
  | 0, i, hi => by
    refine Ev.step (fun k => by rw [laws_eqInt64SS.l0]) ?_
    exact ev_neg (by omega) (Ev.now _)
  | m + 1, i, hi => by
    have hr := hs.rows
    refine Ev.step (fun k => by rw [laws_eqInt64SS.l0]) ?_
    rw [rdL_nat]
    refine ev_pos (by omega) (ev_pos (by omega) (ev_pos (by omega) (Ev.bind (eqInt64S_ev _ (hs.each i (by omega))) (ev_pos rfl ?_))))
    rw [w64s (by omega)]
    exact eqSS_loop m (i + 1) (by omega)
theorem eqA_ev (st : Int) : Ev (fun k => laws_eqAutomaton.f k st S g st S g) true := by
  unfold laws_eqAutomaton.f laws_eqInt64SS.f
  exact ev_pos rfl (Ev.bind (ev_pos rfl (eqSS_loop hs S.length 0 (by omega))) (ev_pos rfl (Ev.bind (eqInt64S_ev g hs.good) (ev_pos rfl (Ev.now _)))))
end
theorem dropr_all {α : Type} (p : α → Bool) (l : List α) (d : α) (i : Nat) (hi : i < l.length) : (l.drop i).all p = (p (l.getD i d) && (l.drop (i + 1)).all p) := by
  rw [List.drop_eq_getElem_cons hi, List.all_cons, List.getD_eq_getElem?_getD, List.getElem?_eq_getElem hi]
  rfl
section
variable {st : Int} {S : List (List Int)} {g : List Int} (hs : SmallA S g) (h9 : S.length ≤ 9) (h1 : 1 ≤ S.length)
include hs h9 h1
theorem spec_good_loop : ∀ (n i : Nat), i + n = g.length → Ev (fun k => spec_l06Is.l2 k (S.length : Int) (i : Int) st S g) (goodFrom S.length g n i)
  | 0, i, hi => by
    refine Ev.step (fun k => by rw [spec_l06Is.l2]) ?_
    exact ev_neg (by omega) (Ev.now _)
  | n + 1, i, hi => by
    have hg := hs.good
    have ih := spec_good_loop n (i + 1) (by omega)
    refine Ev.step (fun k => by rw [spec_l06Is.l2]) ?_
    simp only [l01In_eq]
    refine ev_pos (by omega) (ev_pos (by omega) (ev_some ?_))
    rw [w64 (x := (S.length : Int) - 1) (by omega) (by omega), w64s (by omega), rd_nat]
    have e : (decide (0 ≤ g.getD i 0) && decide (g.getD i 0 ≤ (S.length : Int) - 1)) = inS S.length (g.getD i 0) := by
      unfold inS; congr 1; exact decide_eq_decide.mpr (by omega)
    have eg : goodFrom S.length g (n + 1) i = ((inS S.length (g.getD i 0) && (decide (i = 0) || decide (g.getD (i - 1) 0 < g.getD i 0))) && goodFrom S.length g n (i + 1)) := rfl
    rw [e, eg]
    refine ev_ite (fun hin => ?_) (fun hin => ?_)
    · rw [hin, Bool.true_and]
      rcases Nat.eq_zero_or_pos i with h0 | h0
      · rw [decide_eq_true h0, Bool.true_or, Bool.true_and]
        exact ev_neg (by omega) ih
      · have ew : wrap64 ((i : Int) - 1) = ((i - 1 : Nat) : Int) := by rw [w64 (by omega) (by omega)]; omega
        rw [decide_eq_false (by omega), Bool.false_or, ew, rd_nat]
        refine ev_pos (by omega) (ev_pos (by omega) (ev_pos (by omega) (ev_ite (fun hx => ?_) (fun hx => ?_))))
        · rw [decide_eq_false (by omega)]; exact Ev.now _
        · rw [decide_eq_true (by omega), Bool.true_and]; exact ih
    · rw [(by simpa using hin : inS S.length (g.getD i 0) = false)]; exact Ev.now _
theorem spec_row_loop {i : Nat} (hi : i < S.length) (hl : (S.getD i []).length = S.length) {R : Bool} (H : Ev (fun k => spec_l06Is.l0 k (S.length : Int) ((i + 1 : Nat) : Int) st S g) R) :
    ∀ (n c : Nat), c + n = S.length → Ev (fun k => spec_l06Is.l1 k (S.length : Int) (i : Int) (c : Int) st S g) (((S.getD i []).drop c).all (inS S.length) && R)
  | 0, c, hc => by
    refine Ev.step (fun k => by rw [spec_l06Is.l1]) ?_
    rw [List.drop_of_length_le (by omega), w64s (i := i) (by omega), List.all_nil, Bool.true_and]
    exact ev_neg (by omega) H
  | n + 1, c, hc => by
    have ih := spec_row_loop hi hl H n (c + 1) (by omega)
    refine Ev.step (fun k => by rw [spec_l06Is.l1]) ?_
    simp only [l01In_eq]
    rw [rdL_nat]
    refine ev_pos (by omega) (ev_pos (by omega) (ev_pos (by omega) (ev_pos (by omega) (ev_pos (by omega) (ev_some ?_)))))
    rw [w64 (x := (S.length : Int) - 1) (by omega) (by omega), w64s (by omega), rd_nat, dropr_all _ _ 0 c (by omega)]
    have e : (decide (0 ≤ (S.getD i []).getD c 0) && decide ((S.getD i []).getD c 0 ≤ (S.length : Int) - 1)) = inS S.length ((S.getD i []).getD c 0) := by
      unfold inS; congr 1; exact decide_eq_decide.mpr (by omega)
    rw [e]
    refine ev_ite (fun hin => ?_) (fun hin => ?_)
    · rw [hin, Bool.true_and]; exact ih
    · rw [(by simpa using hin : inS S.length ((S.getD i []).getD c 0) = false)]; exact Ev.now _
theorem spec_rows_loop : ∀ (n i : Nat), i + n = S.length → Ev (fun k => spec_l06Is.l0 k (S.length : Int) (i : Int) st S g) ((S.drop i).all (rowOk S.length) && goodFrom S.length g g.length 0)
  | 0, i, hi => by
    refine Ev.step (fun k => by rw [spec_l06Is.l0]) ?_
    rw [List.drop_of_length_le (by omega)]
    exact ev_neg (by omega) (spec_good_loop hs h9 h1 g.length 0 (by omega))
  | n + 1, i, hi => by
    have ih := spec_rows_loop n (i + 1) (by omega)
    refine Ev.step (fun k => by rw [spec_l06Is.l0]) ?_
    rw [rdL_nat, dropr_all _ _ [] i (by omega)]
    refine ev_pos (by omega) (ev_pos (by omega) (ev_pos (by omega) (ev_ite (fun hx => ?_) (fun hx => ?_))))
    · have := spec_row_loop hs h9 h1 (by omega) (by omega) ih S.length 0 (by omega)
      rw [List.drop_zero] at this
      have e : rowOk S.length (S.getD i []) = (S.getD i []).all (inS S.length) := by unfold rowOk; rw [decide_eq_true (by omega), Bool.true_and]
      rw [e, Bool.and_assoc]
      exact this
    · have e : rowOk S.length (S.getD i []) = false := by unfold rowOk; rw [decide_eq_false (by omega), Bool.false_and]
      rw [e]; exact Ev.now _
theorem isState_ev (x : Int) : impl_isState.f st S g x = some (inS S.length x) := by
  unfold impl_isState.f inS
  by_cases h : x ≥ 0
  · rw [if_pos h, decide_eq_true (show 0 ≤ x from h), Bool.true_and]
  · rw [if_neg h, decide_eq_false (show ¬ 0 ≤ x from h), Bool.false_and]
theorem impl_good_loop : ∀ (n i : Nat), i + n = g.length → Ev (fun k => impl_IsAutomaton.l2 k g (g.length : Int) (i : Int) st S g) (goodFrom S.length g n i)
  | 0, i, hi => by
    refine Ev.step (fun k => by rw [impl_IsAutomaton.l2]) ?_
    exact ev_neg (by omega) (Ev.now _)
  | n + 1, i, hi => by
    have hg := hs.good
    have ih := impl_good_loop n (i + 1) (by omega)
    refine Ev.step (fun k => by rw [impl_IsAutomaton.l2]) ?_
    simp only [isState_ev hs h9 h1]
    refine ev_pos (by omega) (ev_pos (by omega) (ev_pos (by omega) (ev_some ?_)))
    rw [w64s (by omega), rd_nat]
    have eg : goodFrom S.length g (n + 1) i = ((inS S.length (g.getD i 0) && (decide (i = 0) || decide (g.getD (i - 1) 0 < g.getD i 0))) && goodFrom S.length g n (i + 1)) := rfl
    rw [eg]
    refine ev_ite (fun hin => ?_) (fun hin => ?_)
    · rw [hin, Bool.true_and]
      rcases Nat.eq_zero_or_pos i with h0 | h0
      · rw [decide_eq_true h0, Bool.true_or, Bool.true_and]
        exact ev_neg (by omega) ih
      · have ew : wrap64 ((i : Int) - 1) = ((i - 1 : Nat) : Int) := by rw [w64 (by omega) (by omega)]; omega
        rw [decide_eq_false (by omega), Bool.false_or, ew, rd_nat]
        refine ev_pos (by omega) (ev_pos (by omega) (ev_pos (by omega) (ev_ite (fun hx => ?_) (fun hx => ?_))))
        · rw [decide_eq_false (by omega)]; exact Ev.now _
        · rw [decide_eq_true (by omega), Bool.true_and]; exact ih
    · rw [(by simpa using hin : inS S.length (g.getD i 0) = false)]; exact Ev.now _
theorem impl_row_loop {i : Nat} (hi : i < S.length) (row : List Int) (hl : row.length = S.length) {R : Bool} (H : Ev (fun k => impl_IsAutomaton.l0 k S (S.length : Int) ((i + 1 : Nat) : Int) st S g) R) :
    ∀ (n c : Nat), c + n = S.length → Ev (fun k => impl_IsAutomaton.l1 k S (S.length : Int) (i : Int) row (row.length : Int) (c : Int) st S g) ((row.drop c).all (inS S.length) && R)
  | 0, c, hc => by
    refine Ev.step (fun k => by rw [impl_IsAutomaton.l1]) ?_
    rw [List.drop_of_length_le (by omega), w64s (i := i) (by omega), List.all_nil, Bool.true_and]
    exact ev_neg (by omega) H
  | n + 1, c, hc => by
    have ih := impl_row_loop hi row hl H n (c + 1) (by omega)
    refine Ev.step (fun k => by rw [impl_IsAutomaton.l1]) ?_
    simp only [isState_ev hs h9 h1]
    refine ev_pos (by omega) (ev_pos (by omega) (ev_pos (by omega) (ev_some ?_)))
    rw [w64s (by omega), rd_nat, dropr_all _ _ 0 c (by omega)]
    refine ev_ite (fun hin => ?_) (fun hin => ?_)
    · rw [hin, Bool.true_and]; exact ih
    · rw [(by simpa using hin : inS S.length (row.getD c 0) = false)]; exact Ev.now _
theorem impl_rows_loop : ∀ (n i : Nat), i + n = S.length → Ev (fun k => impl_IsAutomaton.l0 k S (S.length : Int) (i : Int) st S g) ((S.drop i).all (rowOk S.length) && goodFrom S.length g g.length 0)
  | 0, i, hi => by
    refine Ev.step (fun k => by rw [impl_IsAutomaton.l0]) ?_
    rw [List.drop_of_length_le (by omega)]
    exact ev_neg (by omega) (impl_good_loop hs h9 h1 g.length 0 (by omega))
  | n + 1, i, hi => by
    have ih := impl_rows_loop n (i + 1) (by omega)
    refine Ev.step (fun k => by rw [impl_IsAutomaton.l0]) ?_
    rw [rdL_nat, dropr_all _ _ [] i (by omega)]
    refine ev_pos (by omega) (ev_pos (by omega) (ev_pos (by omega) (ev_ite (fun hx => ?_) (fun hx => ?_))))
    · have := impl_row_loop hs h9 h1 (by omega) (S.getD i []) (by omega) ih S.length 0 (by omega)
      rw [List.drop_zero] at this
      have e : rowOk S.length (S.getD i []) = (S.getD i []).all (inS S.length) := by unfold rowOk; rw [decide_eq_true (by omega), Bool.true_and]
      rw [e, Bool.and_assoc]
      exact this
    · have e : rowOk S.length (S.getD i []) = false := by unfold rowOk; rw [decide_eq_false (by omega), Bool.false_and]
      rw [e]; exact Ev.now _
end
theorem spec_l06Is_ev {S : List (List Int)} {g : List Int} (hs : SmallA S g) (st : Int) : Ev (fun k => spec_l06Is.f k st S g) (isAutM st S g) := by
  have hr := hs.rows
  unfold spec_l06Is.f isAutM
  simp only [l01In_eq]
  refine ev_some ?_
  by_cases hm : 1 ≤ S.length ∧ S.length ≤ 9
  · rw [decide_eq_true hm.1, decide_eq_true hm.2, decide_eq_true (by omega), decide_eq_true (by omega), Bool.true_and, Bool.true_and]
    refine ev_pos rfl (ev_some ?_)
    rw [w64 (x := (S.length : Int) - 1) (by omega) (by omega)]
    have e : (decide (0 ≤ st) && decide (st ≤ (S.length : Int) - 1)) = inS S.length st := by
      unfold inS; congr 1; exact decide_eq_decide.mpr (by omega)
    rw [e]
    refine Ev.step (fun k => by rw [spec_l06Is.j0]) ?_
    cases hst : inS S.length st with
    | false => exact ev_pos rfl (Ev.now _)
    | true =>
      refine ev_neg (by decide) ?_
      have := spec_rows_loop (st := st) hs hm.2 hm.1 S.length 0 (by omega)
      simpa using this
  · refine ev_neg (by rw [Bool.and_eq_true, decide_eq_true_eq, decide_eq_true_eq]; omega) ?_
    refine Ev.step (fun k => by rw [spec_l06Is.j0]) ?_
    refine ev_pos rfl (ev_now ?_)
    have : (decide (1 ≤ S.length) && decide (S.length ≤ 9)) = false := by rw [← Bool.not_eq_true, Bool.and_eq_true, decide_eq_true_eq, decide_eq_true_eq]; exact hm
    rw [this]; rfl
theorem impl_IsAutomaton_ev {S : List (List Int)} {g : List Int} (hs : SmallA S g) (st : Int) : Ev (fun k => impl_IsAutomaton.f k st S g) (isAutM st S g) := by
  have hr := hs.rows
  unfold impl_IsAutomaton.f isAutM
  refine ev_ite (fun h1 => ?_) (fun h1 => ?_)
  · refine Ev.step (fun k => by rw [impl_IsAutomaton.j0]) ?_
    rw [decide_eq_false (p := 1 ≤ S.length) (by omega)]
    exact ev_pos rfl (Ev.now _)
  · refine ev_ite (fun h9 => ?_) (fun h9 => ?_)
    · refine Ev.step (fun k => by rw [impl_IsAutomaton.j0]) ?_
      rw [decide_eq_false (p := S.length ≤ 9) (by omega), Bool.and_false]
      exact ev_pos rfl (Ev.now _)
    · rw [isState_ev hs (by omega) (by omega), decide_eq_true (p := 1 ≤ S.length) (by omega), decide_eq_true (p := S.length ≤ 9) (by omega), Bool.true_and, Bool.true_and]
      refine ev_some ?_
      refine Ev.step (fun k => by rw [impl_IsAutomaton.j0]) ?_
      cases hst : inS S.length st with
      | false => exact ev_pos rfl (Ev.now _)
      | true =>
        refine ev_neg (by decide) ?_
        have := impl_rows_loop (st := st) hs (by omega) (by omega) S.length 0 (by omega)
        simpa using this
end Go.Proofs.Ytmahokdlfmehjaa.E
namespace Go.Proofs.Ytmahokdlfmehjaa.E
set_option linter.unusedVariables false
set_option linter.unusedSectionVars false
open Go.RowKit Go.Proofs.YtmahokdlfmehjaaW.PrintWords Go.Proofs.Ytmahokdlfmehjaa.Base Go.Proofs.Ytmahokdlfmehjaa.Auto

def dig (l : List Int) : List UInt8 := l.map fun x => UInt8.ofNat (48 + x.toNat)
def bts (l : List UInt8) : ByteArray := ⟨l.toArray⟩
theorem bts_append (a b : List UInt8) : bts a ++ bts b = bts (a ++ b) := by
  apply ByteArray.ext
  simp [bts, ByteArray.data_append]
theorem bts_size (l : List UInt8) : (bts l).size = l.length := by simp [bts, ByteArray.size]
theorem dig_length (l : List Int) : (dig l).length = l.length := by simp [dig]
theorem strOf_one (d : Int) (h0 : 0 ≤ d) (h1 : d < 10) : strOfNums [(wrap64 (48 + d)) % 256] = bts (dig [d]) := by
  obtain ⟨n, rfl⟩ := Int.eq_ofNat_of_zero_le h0
  rw [w64 (by omega) (by omega), show (48 + (n : Int)) % 256 = ((48 + n : Nat) : Int) by omega]
  rfl
theorem spec_l01Dec_ev (d : Int) (h0 : 0 ≤ d) (h1 : d < 10) : Ev (fun k => spec_l01Dec.f k d) (bts (dig [d])) := by
  refine Ev.step (fun k => by rw [spec_l01Dec.f]) ?_
  rw [strOf_one d h0 h1]
  exact ev_neg (by omega) (ev_pos (by omega) (Ev.now _))
def Digs (l : List Int) : Prop := l.length ≤ 1048576 ∧ ∀ i, i < l.length → 0 ≤ l.getD i 0 ∧ l.getD i 0 < 10
theorem dig_snoc (l : List Int) (i : Nat) (h : i < l.length) : dig (l.take i) ++ dig [l.getD i 0] = dig (l.take (i + 1)) := by
  have e : l.take i ++ [l.getD i 0] = l.take (i + 1) := by
    rw [List.getD_eq_getElem?_getD, List.getElem?_eq_getElem h, List.take_add_one, List.getElem?_eq_getElem h]
    rfl
  rw [← e]
  simp only [dig, List.map_append]
theorem spec_l06Digits_loop {l : List Int} (h : Digs l) : ∀ (m i : Nat), i + m = l.length → Ev (fun k => spec_l06Digits.l0 k l (bts (dig (l.take i))) (i : Int)) (bts (dig l))
  | 0, i, hi => by
    refine Ev.step (fun k => by rw [spec_l06Digits.l0]) ?_
    rw [show l.take i = l from List.take_of_length_le (by omega)]
    exact ev_neg (by omega) (Ev.now _)
  | m + 1, i, hi => by
    have h1 := h.1
    obtain ⟨h2, h3⟩ := h.2 i (by omega)
    refine Ev.step (fun k => by rw [spec_l06Digits.l0]) ?_
    rw [rd_nat, w64s (by omega)]
    refine ev_pos (by omega) (ev_pos (by omega) (Ev.bind (spec_l01Dec_ev _ h2 h3) (ev_pos ?_ ?_)))
    · rw [bts_size, bts_size, dig_length, dig_length]; simp; omega
    · rw [bts_append, dig_snoc l i (by omega)]
      exact spec_l06Digits_loop h m (i + 1) (by omega)
theorem spec_l06Digits_ev {l : List Int} (h : Digs l) : Ev (fun k => spec_l06Digits.f k l) (bts (dig l)) := by
  unfold spec_l06Digits.f
  exact spec_l06Digits_loop h l.length 0 (by omega)
theorem impl_digits_loop {l : List Int} (h : Digs l) : ∀ (m i : Nat), i + m = l.length → Ev (fun k => impl_digitsText.l0 k ((l.take i).map fun x => 48 + x) l (l.length : Int) (i : Int)) (bts (dig l))
  | 0, i, hi => by
    have e : strOfNums (l.map fun x => 48 + x) = bts (dig l) := by
      unfold strOfNums bts dig
      rw [List.map_map]
      congr 2
      apply List.map_congr_left
      intro x hx
      obtain ⟨j, hj, rfl⟩ := List.getElem_of_mem hx
      have h2 := (h.2 j hj).1
      rw [List.getD_eq_getElem?_getD, List.getElem?_eq_getElem hj, Option.getD_some] at h2
      obtain ⟨n, hn⟩ := Int.eq_ofNat_of_zero_le h2
      rw [hn]
      rfl
    refine Ev.step (fun k => by rw [impl_digitsText.l0]) ?_
    rw [show l.take i = l from List.take_of_length_le (by omega), e]
    exact ev_neg (by omega) (Ev.now _)
  | m + 1, i, hi => by
    have h1 := h.1
    obtain ⟨h2, h3⟩ := h.2 i (by omega)
    have e : (l.take i).map (fun x => 48 + x) ++ [48 + l.getD i 0] = (l.take (i + 1)).map (fun x => 48 + x) := by
      have e : l.take i ++ [l.getD i 0] = l.take (i + 1) := by
        rw [List.getD_eq_getElem?_getD, List.getElem?_eq_getElem (by omega), List.take_add_one, List.getElem?_eq_getElem (by omega)]
        rfl
      rw [← e]
      simp only [List.map_append, List.map_cons, List.map_nil]
    refine Ev.step (fun k => by rw [impl_digitsText.l0]) ?_
    rw [rd_nat, w64s (by omega), w64 (by omega) (by omega), show (48 + l.getD i 0) % 256 = 48 + l.getD i 0 by omega, e]
    exact ev_pos (by omega) (ev_pos (by omega) (ev_pos (by omega) (ev_pos (by simp; omega) (impl_digits_loop h m (i + 1) (by omega)))))
theorem impl_digitsText_ev {l : List Int} (h : Digs l) : Ev (fun k => impl_digitsText.f k l) (bts (dig l)) := by
  unfold impl_digitsText.f
  exact impl_digits_loop h l.length 0 (by omega)
def rowsT (S : List (List Int)) : List UInt8 := Go.Lib.join (S.map dig) [47]
theorem rowsT_snoc : ∀ (S : List (List Int)) (i : Nat), i < S.length → rowsT (S.take (i + 1)) = rowsT (S.take i) ++ (if 0 < i then [47] else []) ++ dig (S.getD i [])
  | x :: S, 0, _ => by
    simp [rowsT, Go.Lib.join_one, Go.Lib.join_nil]
  | x :: S, i + 1, h => by
    have hi : i < S.length := by simpa using h
    have hy : (S.map dig)[i]? = some (dig (S.getD i [])) := by
      rw [List.getElem?_map, List.getElem?_eq_getElem hi, List.getD_eq_getElem?_getD, List.getElem?_eq_getElem hi]
      rfl
    have e := Go.Lib.joinTail_take_succ [47] (S.map dig) i _ hy
    unfold rowsT
    rw [List.take_succ_cons, List.take_succ_cons, List.map_cons, List.map_cons, List.map_take, List.map_take, Go.Lib.join_cons, Go.Lib.join_cons, e, if_pos (by omega), List.getD_cons_succ]
    simp [List.append_assoc]
section
variable {st : Int} {S : List (List Int)} {g : List Int} (hA : IsA st S g) (hg : g.length ≤ 1048576)
include hA
theorem digs_row (i : Nat) (hi : i < S.length) : Digs (S.getD i []) := by
  have h9 := hA.nine
  have hr := hA.row i hi
  exact ⟨by omega, fun j hj => by have := hA.step i j hi (by omega); omega⟩
theorem digs_start : Digs [st] := by
  have h9 := hA.nine
  have h0 := hA.start
  refine ⟨by simp, fun j hj => ?_⟩
  have : j = 0 := by simpa using hj
  subst this
  simp only [List.getD_cons_zero]
  omega
theorem rowsT_length : ∀ i, i ≤ S.length → (rowsT (S.take i)).length ≤ 10 * i
  | 0, _ => by simp [rowsT, Go.Lib.join_nil]
  | i + 1, hi => by
    have ih := rowsT_length i (by omega)
    have h9 := hA.nine
    have hr := hA.row i (by omega)
    rw [rowsT_snoc S i (by omega), List.length_append, List.length_append, dig_length]
    split <;> simp only [List.length_cons, List.length_nil] <;> omega
include hg
theorem digs_good : Digs g := by
  have h9 := hA.nine
  exact ⟨hg, fun j hj => by have := hA.good j hj; omega⟩
theorem spec_text_loop : ∀ (m i : Nat), i + m = S.length → Ev (fun k => spec_l06Text.l0 k (bts (dig [st] ++ [58] ++ rowsT (S.take i))) (i : Int) st S g) (bts (dig [st] ++ [58] ++ rowsT S ++ [58] ++ dig g))
  | 0, i, hi => by
    have h9 := hA.nine
    have hl := rowsT_length hA i (by omega)
    have e1 : (⟨#[58]⟩ : ByteArray) = bts [58] := rfl
    refine Ev.step (fun k => by rw [spec_l06Text.l0]) ?_
    rw [e1]
    refine ev_neg (by omega) (ev_pos ?_ (Ev.bind (spec_l06Digits_ev (digs_good hA hg)) (ev_pos ?_ ?_)))
    · rw [bts_size]; simp only [List.length_append, dig_length, List.length_cons, List.length_nil]; omega
    · rw [bts_append, bts_size, bts_size]; simp only [List.length_append, dig_length, List.length_cons, List.length_nil]; omega
    · rw [bts_append, bts_append, show S.take i = S from List.take_of_length_le (by omega)]
      exact Ev.now _
  | m + 1, i, hi => by
    have h9 := hA.nine
    have hl := rowsT_length hA i (by omega)
    have hr := hA.row i (by omega)
    have ih := spec_text_loop m (i + 1) (by omega)
    rw [rowsT_snoc S i (by omega)] at ih
    have e1 : (⟨#[47]⟩ : ByteArray) = bts [47] := rfl
    refine Ev.step (fun k => by rw [spec_l06Text.l0]) ?_
    rw [e1, rdL_nat, w64s (by omega)]
    refine ev_pos (by omega) (ev_ite (fun h => ?_) (fun h => ?_))
    · rw [if_pos (by omega)] at ih
      refine ev_pos ?_ (ev_pos (by omega) (Ev.bind (spec_l06Digits_ev (digs_row hA i (by omega))) (ev_pos ?_ ?_)))
      · rw [bts_size]; simp only [List.length_append, dig_length, List.length_cons, List.length_nil]; omega
      · rw [bts_append, bts_size, bts_size]; simp only [List.length_append, dig_length, List.length_cons, List.length_nil]; omega
      · rw [bts_append, bts_append]
        simpa only [List.append_assoc] using ih
    · rw [if_neg (by omega)] at ih
      refine ev_pos (by omega) (Ev.bind (spec_l06Digits_ev (digs_row hA i (by omega))) (ev_pos ?_ ?_))
      · rw [bts_size, bts_size]; simp only [List.length_append, dig_length, List.length_cons, List.length_nil]; omega
      · rw [bts_append]
        simpa only [List.append_assoc, List.nil_append, List.append_nil] using ih
theorem spec_l06Text_ev : Ev (fun k => spec_l06Text.f k st S g) (bts (dig [st] ++ [58] ++ rowsT S ++ [58] ++ dig g)) := by
  have h9 := hA.nine
  have h0 := hA.start
  have e1 : (⟨#[58]⟩ : ByteArray) = bts [58] := rfl
  unfold spec_l06Text.f
  rw [e1]
  refine Ev.bind (spec_l01Dec_ev st (by omega) (by omega)) (ev_pos ?_ ?_)
  · rw [bts_size]; simp only [dig_length, List.length_cons, List.length_nil]; omega
  · have := spec_text_loop hA hg S.length 0 (by omega)
    rw [bts_append]
    simpa [rowsT, Go.Lib.join_nil] using this
theorem join_ev : strings_Join.f (S.map fun r => bts (dig r)) (bts [47]) = some (bts (rowsT S)) := by
  have h9 := hA.nine
  have hl := rowsT_length hA S.length (Nat.le_refl _)
  rw [List.take_of_length_le (Nat.le_refl _)] at hl
  have e : ((S.map fun r => bts (dig r)).map (·.data.toList)) = S.map dig := by
    rw [List.map_map]
    apply List.map_congr_left
    intro x _
    simp [bts]
  unfold strings_Join.f
  rw [e, show (bts [47]).data.toList = [47] from rfl, if_pos ⟨by rw [List.length_map]; omega, by show (rowsT S).length ≤ _; omega⟩]
  rfl
theorem impl_text_loop : ∀ (m i : Nat), i + m = S.length → Ev (fun k => impl_automatonText.l0 k ((S.take i).map fun r => bts (dig r)) S (S.length : Int) (i : Int) st S g) (bts (dig [st] ++ [58] ++ rowsT S ++ [58] ++ dig g))
  | 0, i, hi => by
    have h9 := hA.nine
    have hl := rowsT_length hA S.length (Nat.le_refl _)
    have e1 : (⟨#[58]⟩ : ByteArray) = bts [58] := rfl
    have e2 : (⟨#[47]⟩ : ByteArray) = bts [47] := rfl
    rw [List.take_of_length_le (Nat.le_refl _)] at hl
    refine Ev.step (fun k => by rw [impl_automatonText.l0]) ?_
    rw [e1, e2, show S.take i = S from List.take_of_length_le (by omega), join_ev hA hg]
    refine ev_neg (by omega) (Ev.bind (impl_digitsText_ev (digs_start hA)) (ev_pos ?_ (ev_some (ev_pos ?_ (ev_pos ?_ (Ev.bind (impl_digitsText_ev (digs_good hA hg)) (ev_pos ?_ ?_)))))))
    · rw [bts_size]; simp only [dig_length, List.length_cons, List.length_nil]; omega
    · rw [bts_append, bts_size, bts_size]; simp only [List.length_append, dig_length, List.length_cons, List.length_nil]; omega
    · rw [bts_append, bts_append, bts_size]; simp only [List.length_append, dig_length, List.length_cons, List.length_nil]; omega
    · rw [bts_append, bts_append, bts_append, bts_size, bts_size]; simp only [List.length_append, dig_length, List.length_cons, List.length_nil]; omega
    · rw [bts_append, bts_append, bts_append, bts_append]
      exact Ev.now _
  | m + 1, i, hi => by
    have h9 := hA.nine
    have hr := hA.row i (by omega)
    have ih := impl_text_loop m (i + 1) (by omega)
    have e : (S.take i).map (fun r => bts (dig r)) ++ [bts (dig (S.getD i []))] = (S.take (i + 1)).map (fun r => bts (dig r)) := by
      have e : S.take i ++ [S.getD i []] = S.take (i + 1) := by
        rw [List.getD_eq_getElem?_getD, List.getElem?_eq_getElem (by omega), List.take_add_one, List.getElem?_eq_getElem (by omega)]
        rfl
      rw [← e]
      simp only [List.map_append, List.map_cons, List.map_nil]
    refine Ev.step (fun k => by rw [impl_automatonText.l0]) ?_
    rw [rdL_nat, w64s (by omega)]
    refine ev_pos (by omega) (ev_pos (by omega) (ev_pos (by omega) (Ev.bind (impl_digitsText_ev (digs_row hA i (by omega))) (ev_pos (by simp; omega) ?_))))
    rw [e]
    exact ih
theorem impl_automatonText_ev : Ev (fun k => impl_automatonText.f k st S g) (bts (dig [st] ++ [58] ++ rowsT S ++ [58] ++ dig g)) := by
  unfold impl_automatonText.f
  have := impl_text_loop hA hg S.length 0 (by omega)
  simpa using this
end
theorem both_AutomatonText {S : List (List Int)} {g : List Int} (hs : SmallA S g) (st : Int) : ∃ r : ByteArray × Int, Ev (fun k => spec_AutomatonText.f k st S g) r ∧ Ev (fun k => impl_AutomatonText.f k st S g) r := by
  by_cases hc : isAutM st S g = true
  · have hA := isAutM_sound hc
    refine ⟨(bts (dig [st] ++ [58] ++ rowsT S ++ [58] ++ dig g), 0), ?_, ?_⟩
    · unfold spec_AutomatonText.f
      exact Ev.bind (spec_l06Is_ev hs st) (ev_pos hc (Ev.bind (spec_l06Text_ev hA hs.good) (Ev.now _)))
    · unfold impl_AutomatonText.f
      exact Ev.bind (impl_IsAutomaton_ev hs st) (ev_pos hc (Ev.bind (impl_automatonText_ev hA hs.good) (Ev.now _)))
  · refine ⟨(⟨#[]⟩, 1), ?_, ?_⟩
    · unfold spec_AutomatonText.f
      exact Ev.bind (spec_l06Is_ev hs st) (ev_neg hc (Ev.now _))
    · unfold impl_AutomatonText.f
      exact Ev.bind (impl_IsAutomaton_ev hs st) (ev_neg hc (Ev.now _))
end Go.Proofs.Ytmahokdlfmehjaa.E
namespace Go.Proofs.Ytmahokdlfmehjaa.Pure
open Go.RowKit Go.Proofs.YtmahokdlfmehjaaW.PrintWords Go.Proofs.Ytmahokdlfmehjaa.Base Go.Proofs.Ytmahokdlfmehjaa.Auto Go.Proofs.Ytmahokdlfmehjaa.E
theorem FnExactAutomatonText : ∀ (st : Int) (S : List (List Int)) (g : List Int), (Lit.int .i64 st).wf = true → S.length ≤ maxLen → (∀ y ∈ S, y.length ≤ maxLen ∧ ∀ x ∈ y, (Lit.int .i64 x).wf = true) → g.length ≤ maxLen → (∀ x ∈ g, (Lit.int .i64 x).wf = true) → ∃ k, laws_FnExactAutomatonText.f k st S g = some true := by
  intro st S g _ hS hm hg _
  apply Ev.rounds
  obtain ⟨r, h1, h2⟩ := szAutomaton_ev st S g hS (fun j hj => by
    have : S.getD j [] ∈ S := by rw [List.getD_eq_getElem?_getD, List.getElem?_eq_getElem hj]; exact List.getElem_mem hj
    exact (hm _ this).1) hg
  unfold laws_FnExactAutomatonText.f
  refine Ev.bind h1 ?_
  rcases h2 with h2 | ⟨h2, h3, hs⟩
  · exact ev_pos h2 (Ev.now _)
  · obtain ⟨q, q1, q2⟩ := both_AutomatonText hs st
    refine ev_neg (by omega) (Ev.bind (toA_ev hs st) (Ev.bind q1 (Ev.bind (toA_ev hs st) (Ev.bind q2 (ev_pos rfl ?_)))))
    refine Ev.step (fun k => by rw [laws_FnExactAutomatonText.j0]) ?_
    exact ev_neg (by simp) (Ev.bind (toA_ev hs st) (Ev.bind (eqA_ev hs st) (ev_pos rfl (Ev.now _))))
end Go.Proofs.Ytmahokdlfmehjaa.Pure
namespace Go.Proofs.Ytmahokdlfmehjaa.Open
set_option linter.unusedVariables false
set_option linter.unusedSectionVars false
open Go.RowKit Go.ChangeShapes Go.WideShapes Go.ChangeAt Go.Deep Go.Proofs.YtmahokdlfmehjaaW.PrintWords
section
variable {H : Type} {enc : TypeId × Value → H} {P : Program} {w : World} {base : Nat} {held : Bool}

def Opens {α : Type} (d : Kd α) (Q : α → Prop) (enc : TypeId × Value → H) (P : Program) (w : World) (base : Nat) (held : Bool) (t : TypeId) : Prop :=
  ∀ (fuel : Nat) (cs : List Value) (x : DataW H × List MemPlace), DataW.trod enc P w base (fun _ => true) held fuel t cs = some x → ∃ a, d.K w a cs ∧ Q a
theorem opens_int {t : TypeId} {k : IntKind} (ht : P.underlying t = some (.int k)) : Opens (Kd.int k) (fun n => (Lit.int k n).wf = true) enc P w base held t := by
  intro fuel cs x h
  obtain ⟨n, rfl, _, hw⟩ := DataW.trod_int ht h
  exact ⟨n, rfl, hw⟩
theorem opens_slice {α : Type} [Inhabited α] {d : Kd α} {Q : α → Prop} {t e : TypeId} (ht : P.underlying t = some (.slice e)) (hc : P.cellsOf e = d.sz) (he : Opens d Q enc P w base held e) :
    Opens (Kd.slice e d) (fun xs => xs.length ≤ maxLen ∧ ∀ y ∈ xs, Q y) enc P w base held t := by
  intro fuel cs x h
  rcases open_slice ht h with ⟨rfl, _⟩ | ⟨a, len, cap, m, n, D, Pl, rfl, _, hl, hm, hmm, _, each⟩
  · exact ⟨[], ⟨none, 0, rfl, Nat.le_refl _, rfl, by simp, fun h0 => by simp at h0⟩, by simp, by simp⟩
  · simp only [if_true] at hmm
    have hx : ∀ i, i < len → ∃ y : α, Q y ∧ ∃ cs', w.cells? base (a.add (i * P.cellsOf e)) (P.cellsOf e) = some cs' ∧ d.K w y cs' := by
      intro i hi
      obtain ⟨cs', h1, h2⟩ := each i (by omega)
      obtain ⟨y, hk, hq⟩ := he _ _ _ h2
      exact ⟨y, hq, cs', h1, hk⟩
    obtain ⟨f, hf⟩ := choose_lt hx
    refine ⟨(List.range len).map f, ⟨some a, cap, by simp, by simpa using hl, by simp, by unfold maxLen at hm; simp; omega, fun _ => ⟨a, rfl, fun j p hj => ?_⟩⟩, by simp; omega, fun y hy => ?_⟩
    · rw [List.getElem?_map] at hj
      have hjl : j < len := by
        rcases Nat.lt_or_ge j len with h | h
        · exact h
        · rw [List.getElem?_eq_none (by simpa using h)] at hj
          cases hj
      rw [List.getElem?_range hjl] at hj
      obtain rfl := Option.some.inj hj
      obtain ⟨_, cs', h1, h2⟩ := hf j hjl
      obtain ⟨_, h3, h4⟩ := World.cells?_some h1
      refine ⟨cs', d.K_len h2, h2, fun i u hu => ?_⟩
      have hi : i < P.cellsOf e := by
        rw [← h3]
        exact (List.getElem?_eq_some_iff.1 hu).1
      have h5 := h4 i hi
      rw [hu] at h5
      rw [Go.Deep.add_add] at h5
      rw [← hc]
      exact h5
    · obtain ⟨i, hi, rfl⟩ := List.mem_map.1 hy
      exact (hf i (List.mem_range.1 hi)).1
theorem slice_in {α : Type} [Inhabited α] {d : Kd α} {Q : α → Prop} {t e : TypeId} {v : Value} {fuel : Nat} {x : DataW H × List MemPlace} (ht : P.underlying t = some (.slice e)) (hc : P.cellsOf e = d.sz) (he : Opens d Q enc P w base held e)
    (h : DataW.trod enc P w base (fun _ => true) held fuel t [v] = some x) : ∃ (A : Option Addr) (c : Nat) (xs : List α), v = .slice A xs.length c ∧ xs.length ≤ c ∧ xs.length ≤ maxLen ∧ d.C w A xs.length xs ∧ ∀ y ∈ xs, Q y := by
  obtain ⟨xs, ⟨A, c, hv, hl, hC⟩, hm, hq⟩ := opens_slice ht hc he _ _ _ h
  obtain rfl : v = .slice A xs.length c := by simpa using hv
  exact ⟨A, c, xs, rfl, hl, hm, hC, hq⟩
end
end Go.Proofs.Ytmahokdlfmehjaa.Open
