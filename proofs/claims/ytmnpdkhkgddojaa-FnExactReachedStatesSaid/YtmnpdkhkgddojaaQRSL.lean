/- The row of the law FnExactReachedStates, out of its pure statement. -/
import Derived.Test.YtmnpdkhkgddojaaQRSEx1
import Derived.Test.YtmnpdkhkgddojaaQRSEx2
import Derived.Test.YtmnpdkhkgddojaaQRSEx3
import Derived.Test.YtmnpdkhkgddojaaQRSW
import Derived.Deep.Slices
import Derived.Lib.SmallJoins
import Derived.OpenShut
import Derived.WalkKit
namespace Go.Proofs.Ytmnpdkhkgddojaa.Base
set_option linter.unusedVariables false
set_option linter.unusedSectionVars false
open Go.RowKit Go.Proofs.YtmnpdkhkgddojaaW.PrintWords

theorem ev_pos {α : Type} {c : Prop} [Decidable c] {f g : Nat → Option α} {r : α} (h : c) (k : Ev f r) : Ev (fun n => if c then f n else g n) r := by
  simpa [h] using k
theorem ev_neg {α : Type} {c : Prop} [Decidable c] {f g : Nat → Option α} {r : α} (h : ¬ c) (k : Ev g r) : Ev (fun n => if c then f n else g n) r := by
  simpa [h] using k
theorem ev_ite {α : Type} {c : Prop} [Decidable c] {f g : Nat → Option α} {r : α} (h : c → Ev f r) (k : ¬ c → Ev g r) : Ev (fun n => if c then f n else g n) r := by
  by_cases hc : c
  · exact ev_pos hc (h hc)
  · exact ev_neg hc (k hc)
theorem ev_now {α : Type} {a r : α} (h : a = r) : Ev (fun _ => some a) r := h ▸ Ev.now a
theorem ev_some {α β : Type} {f : Nat → α → Option β} {a : α} {r : β} (k : Ev (fun n => f n a) r) : Ev (fun n => (some a).bind (f n)) r := by
  simpa using k
theorem w64 {x : Int} (h1 : -9223372036854775808 ≤ x) (h2 : x ≤ 9223372036854775807) : wrap64 x = x := by unfold wrap64; omega
theorem w64s {i : Nat} (h : i < 9223372036854775807) : wrap64 ((i : Int) + 1) = ((i + 1 : Nat) : Int) := by unfold wrap64; omega
theorem w64p {i : Nat} (h : i < 9223372036854775807) : wrap64 (((i + 1 : Nat) : Int) - 1) = (i : Int) := by unfold wrap64; omega

theorem rd_nat (l : List Int) (i : Nat) : rd l (i : Int) = l.getD i 0 := rfl
theorem rd_lt {l : List Int} {i : Nat} (h : i < l.length) : rd l (i : Int) = l[i] := by
  rw [rd_nat, List.getD_eq_getElem?_getD, List.getElem?_eq_getElem h]; rfl
theorem set_eq {l m : List Int} {i : Nat} (hl : m.length = l.length) (h : ∀ j, j < i → m.getD j 0 = l.getD j 0) : ∀ j, j < i + 1 → (m.set i (l.getD i 0)).getD j 0 = l.getD j 0 := by
  intro j hj
  rw [List.getD_eq_getElem?_getD, List.getElem?_set]
  by_cases e : i = j
  · subst e
    by_cases hlt : i < m.length
    · simp [hlt]
    · rw [if_pos rfl, if_neg hlt, List.getD_eq_getElem?_getD, List.getElem?_eq_none (by omega)]
  · rw [if_neg e, ← List.getD_eq_getElem?_getD]
    exact h j (by omega)
theorem ext_getD {l m : List Int} (hl : m.length = l.length) (h : ∀ j, j < l.length → m.getD j 0 = l.getD j 0) : m = l := by
  apply List.ext_getElem hl
  intro j h1 h2
  have := h j h2
  rwa [List.getD_eq_getElem?_getD, List.getD_eq_getElem?_getD, List.getElem?_eq_getElem h1, List.getElem?_eq_getElem h2] at this
theorem getD_replicate {n j : Nat} {v : Int} (h : j < n) : (List.replicate n v).getD j 0 = v := by
  rw [List.getD_eq_getElem?_getD, List.getElem?_replicate, if_pos h]; rfl
theorem get_set_ne {l : List Int} {i j : Nat} {v : Int} (h : i ≠ j) : (l.set i v).getD j 0 = l.getD j 0 := by
  rw [List.getD_eq_getElem?_getD, List.getElem?_set_ne h, ← List.getD_eq_getElem?_getD]
theorem get_set_eq {l : List Int} {i : Nat} {v : Int} (h : i < l.length) : (l.set i v).getD i 0 = v := by
  rw [List.getD_eq_getElem?_getD, List.getElem?_set_self h]; rfl
end Go.Proofs.Ytmnpdkhkgddojaa.Base
namespace Go.Proofs.Ytmnpdkhkgddojaa.Auto
set_option linter.unusedVariables false
set_option linter.unusedSectionVars false
open Go.RowKit Go.Proofs.YtmnpdkhkgddojaaW.PrintWords Go.Proofs.Ytmnpdkhkgddojaa.Base

def inS (m : Nat) (s : Int) : Bool := decide (0 ≤ s) && decide (s < m)
theorem inS_iff {m : Nat} {s : Int} : inS m s = true ↔ 0 ≤ s ∧ s < m := by
  unfold inS; rw [Bool.and_eq_true, decide_eq_true_eq, decide_eq_true_eq]
def rowOk (m : Nat) (row : List Int) : Bool := decide (row.length = m) && row.all (inS m)
def goodFrom (m : Nat) (g : List Int) : Nat → Nat → Bool
  | 0, _ => true
  | k + 1, i => (inS m (g.getD i 0) && (decide (i = 0) || decide (g.getD (i - 1) 0 < g.getD i 0))) && goodFrom m g k (i + 1)
def isAutM (st : Int) (S : List (List Int)) (g : List Int) : Bool :=
  decide (1 ≤ S.length) && decide (S.length ≤ 9) && inS S.length st && S.all (rowOk S.length) && goodFrom S.length g g.length 0
def stepM (S : List (List Int)) (a b : Int) : Int := (S.getD a.toNat []).getD b.toNat 0
structure IsA (st : Int) (S : List (List Int)) (g : List Int) : Prop where
  one : 1 ≤ S.length
  nine : S.length ≤ 9
  start : 0 ≤ st ∧ st < S.length
  row : ∀ i, i < S.length → (S.getD i []).length = S.length
  step : ∀ i j, i < S.length → j < S.length → 0 ≤ (S.getD i []).getD j 0 ∧ (S.getD i []).getD j 0 < S.length
  good : ∀ i, i < g.length → 0 ≤ g.getD i 0 ∧ g.getD i 0 < S.length
  asc : ∀ i, 0 < i → i < g.length → g.getD (i - 1) 0 < g.getD i 0
theorem goodFrom_sound {m : Nat} {g : List Int} : ∀ (k i : Nat), goodFrom m g k i = true → ∀ j, i ≤ j → j < i + k → (0 ≤ g.getD j 0 ∧ g.getD j 0 < m) ∧ (0 < j → g.getD (j - 1) 0 < g.getD j 0)
  | 0, i, _, j, h1, h2 => by omega
  | k + 1, i, h, j, h1, h2 => by
    simp only [goodFrom, Bool.and_eq_true, Bool.or_eq_true, decide_eq_true_eq, inS_iff] at h
    by_cases e : j = i
    · subst e
      refine ⟨h.1.1, fun h0 => ?_⟩
      rcases h.1.2 with h3 | h3
      · omega
      · exact h3
    · exact goodFrom_sound k (i + 1) h.2 j (by omega) (by omega)
theorem all_getD {α : Type} {p : α → Bool} {l : List α} (h : l.all p = true) (x : α) {i : Nat} (hi : i < l.length) : p (l.getD i x) = true := by
  rw [List.getD_eq_getElem?_getD, List.getElem?_eq_getElem hi]
  exact List.all_eq_true.1 h _ (List.getElem_mem hi)
theorem isAutM_sound {st : Int} {S : List (List Int)} {g : List Int} (h : isAutM st S g = true) : IsA st S g := by
  unfold isAutM at h
  simp only [Bool.and_eq_true, decide_eq_true_eq, inS_iff] at h
  obtain ⟨⟨⟨⟨h1, h2⟩, h3⟩, h4⟩, h5⟩ := h
  have hr : ∀ i, i < S.length → rowOk S.length (S.getD i []) = true := fun i hi => all_getD h4 [] hi
  have hg := goodFrom_sound g.length 0 h5
  refine ⟨h1, h2, h3, fun i hi => ?_, fun i j hi hj => ?_, fun i hi => (hg i (by omega) (by omega)).1, fun i h0 hi => (hg i (by omega) (by omega)).2 h0⟩
  · have := hr i hi
    simp only [rowOk, Bool.and_eq_true, decide_eq_true_eq] at this
    exact this.1
  · have := hr i hi
    simp only [rowOk, Bool.and_eq_true, decide_eq_true_eq] at this
    exact inS_iff.1 (all_getD this.2 0 (by omega))
structure Sts (m n : Nat) (out : List Int) : Prop where
  len : out.length = n
  mem : ∀ j, j < n → 0 ≤ out.getD j 0 ∧ out.getD j 0 < m
theorem Sts.set {m n : Nat} {out : List Int} (h : Sts m n out) (v : Nat) (hv : v < n) {x : Int} (hx : 0 ≤ x ∧ x < m) : Sts m n (out.set v x) := by
  refine ⟨by rw [List.length_set, h.len], fun j hj => ?_⟩
  by_cases e : v = j
  · subst e; rw [get_set_eq (by rw [h.len]; exact hv)]; exact hx
  · rw [get_set_ne e]; exact h.mem j hj
theorem IsA.stepM {st : Int} {S : List (List Int)} {g : List Int} (h : IsA st S g) {a b : Int} (ha : 0 ≤ a ∧ a < S.length) (hb : 0 ≤ b ∧ b < S.length) : 0 ≤ stepM S a b ∧ stepM S a b < S.length :=
  h.step a.toNat b.toNat (by omega) (by omega)
theorem Sts.zero {m : Nat} (hm : 1 ≤ m) (n : Nat) : Sts m n (List.replicate n 0) := ⟨by simp, fun j hj => by rw [getD_replicate hj]; omega⟩
end Go.Proofs.Ytmnpdkhkgddojaa.Auto
namespace Go.Proofs.Ytmnpdkhkgddojaa.Auto
set_option linter.unusedVariables false
set_option linter.unusedSectionVars false
open Go.RowKit Go.Proofs.YtmnpdkhkgddojaaW.PrintWords Go.Proofs.Ytmnpdkhkgddojaa.Base

inductive Rc (st : Int) (S : List (List Int)) : Int → Prop
  | start : Rc st S st
  | step {a b : Int} : Rc st S a → Rc st S b → Rc st S (stepM S a b)
theorem Rc.bd {st : Int} {S : List (List Int)} {g : List Int} (hA : IsA st S g) {x : Int} (h : Rc st S x) : 0 ≤ x ∧ x < S.length := by
  induction h with
  | start => exact hA.start
  | step _ _ ha hb => exact hA.stepM ha hb
theorem nodup_few : ∀ (m : Nat) (l : List Int), l.Nodup → (∀ x ∈ l, 0 ≤ x ∧ x < m) → l.length ≤ m
  | 0, l, _, h => by
    cases l with
    | nil => simp
    | cons a l => have := h a (by simp); omega
  | m + 1, l, hn, h => by
    by_cases hm : (m : Int) ∈ l
    · have h1 := nodup_few m (l.erase (m : Int)) (hn.erase _) (fun x hx => by
        have h2 := (hn.mem_erase_iff).1 hx
        have := h x h2.2
        omega)
      rw [List.length_erase_of_mem hm] at h1
      omega
    · have := nodup_few m l hn (fun x hx => by
        have h2 := h x hx
        have : x ≠ m := fun e => hm (e ▸ hx)
        omega)
      omega
theorem asc_ext : ∀ {a b : List Int}, a.Pairwise (· < ·) → b.Pairwise (· < ·) → (∀ x, x ∈ a ↔ x ∈ b) → a = b
  | [], [], _, _, _ => rfl
  | [], y :: b, _, _, h => by have := (h y).2 (by simp); cases this
  | x :: a, [], _, _, h => by have := (h x).1 (by simp); cases this
  | x :: a, y :: b, ha, hb, h => by
    obtain ⟨ha1, ha2⟩ := List.pairwise_cons.1 ha
    obtain ⟨hb1, hb2⟩ := List.pairwise_cons.1 hb
    have e : x = y := by
      rcases List.mem_cons.1 ((h x).1 (by simp)) with h1 | h1
      · exact h1
      · rcases List.mem_cons.1 ((h y).2 (by simp)) with h2 | h2
        · exact h2.symm
        · have := hb1 x h1; have := ha1 y h2; omega
    subst e
    congr 1
    refine asc_ext ha2 hb2 (fun z => ?_)
    constructor
    · intro hz
      rcases List.mem_cons.1 ((h z).1 (by simp [hz])) with h1 | h1
      · have := ha1 z hz; omega
      · exact h1
    · intro hz
      rcases List.mem_cons.1 ((h z).2 (by simp [hz])) with h1 | h1
      · have := hb1 z hz; omega
      · exact h1
def Srt (l : List Int) (n : Nat) : Prop := ∀ p q, p < q → q < n → l.getD p 0 ≤ l.getD q 0
theorem srt_asc {l : List Int} (h : Srt l l.length) (hn : l.Nodup) : l.Pairwise (· < ·) := by
  rw [List.pairwise_iff_getElem]
  intro i j hi hj hij
  have h1 := h i j hij hj
  rw [List.getD_eq_getElem?_getD, List.getD_eq_getElem?_getD, List.getElem?_eq_getElem hi, List.getElem?_eq_getElem hj] at h1
  have h2 : l[i] ≠ l[j] := fun e => by
    have := (List.getElem_inj (h₀ := hi) (h₁ := hj) hn).1 e
    omega
  have h1' : l[i] ≤ l[j] := h1
  omega
def nf : List Bool → Nat
  | [] => 0
  | b :: l => (if b = true then 0 else 1) + nf l
theorem nf_set : ∀ (B : List Bool) (i : Nat), i < B.length → B.getD i false = false → nf (B.set i true) + 1 = nf B
  | [], i, h, _ => by simp at h
  | b :: l, 0, _, h0 => by
    have e : b = false := h0
    subst e
    simp only [List.set_cons_zero, nf]
    simp
    omega
  | b :: l, i + 1, h, h0 => by
    have ih := nf_set l i (by simpa using h) (by simpa using h0)
    simp only [List.set_cons_succ, nf]
    omega
theorem getb_set_eq {l : List Bool} {i : Nat} {v : Bool} (h : i < l.length) : (l.set i v).getD i false = v := by
  rw [List.getD_eq_getElem?_getD, List.getElem?_set_self h]; rfl
theorem getb_set_ne {l : List Bool} {i j : Nat} {v : Bool} (h : i ≠ j) : (l.set i v).getD j false = l.getD j false := by
  rw [List.getD_eq_getElem?_getD, List.getElem?_set_ne h, ← List.getD_eq_getElem?_getD]
end Go.Proofs.Ytmnpdkhkgddojaa.Auto
namespace Go.Proofs.Ytmnpdkhkgddojaa.E
set_option linter.unusedVariables false
set_option linter.unusedSectionVars false
open Go.RowKit Go.Proofs.YtmnpdkhkgddojaaW.PrintWords Go.Proofs.Ytmnpdkhkgddojaa.Base

theorem toInt64S_loop (x0 : List Int) (hn : x0.length ≤ 1048576) : ∀ (m i : Nat) (x3 : List Int), i + m = x0.length → x3.length = x0.length → (∀ j, j < i → x3.getD j 0 = x0.getD j 0) → Ev (fun k => laws_toInt64S.l0 k x0 x3 (i : Int)) x0 := by
  intro m
  induction m with
  | zero =>
    intro i x3 h1 h2 h3
    refine Ev.step (fun k => by rw [laws_toInt64S.l0]) ?_
    refine ev_neg (by omega) ?_
    exact ev_now (ext_getD h2 (fun j hj => h3 j (by omega)))
  | succ m ih =>
    intro i x3 h1 h2 h3
    refine Ev.step (fun k => by rw [laws_toInt64S.l0]) ?_
    refine ev_pos (by omega) (ev_pos (by omega) (ev_pos (by omega) ?_))
    rw [w64s (by omega)]
    exact ih (i + 1) _ (by omega) (by simpa using h2) (set_eq h2 h3)
theorem toInt64S_ev (l : List Int) (hn : l.length ≤ 1048576) : Ev (fun k => laws_toInt64S.f k l) l := by
  unfold laws_toInt64S.f
  refine ev_pos (by omega) (ev_pos (by simp; omega) ?_)
  exact toInt64S_loop l hn l.length 0 _ (by omega) (by simp) (fun j hj => by omega)
theorem eqInt64S_loop (a : List Int) (hn : a.length ≤ 1048576) : ∀ (m i : Nat), i + m = a.length → Ev (fun k => laws_eqInt64S.l0 k a a (i : Int)) true := by
  intro m
  induction m with
  | zero =>
    intro i h1
    refine Ev.step (fun k => by rw [laws_eqInt64S.l0]) ?_
    refine ev_neg (by omega) ?_
    exact Ev.now _
  | succ m ih =>
    intro i h1
    refine Ev.step (fun k => by rw [laws_eqInt64S.l0]) ?_
    refine ev_pos (by omega) (ev_pos (by omega) (ev_pos (by omega) (ev_pos rfl ?_)))
    rw [w64s (by omega)]
    exact ih (i + 1) (by omega)
theorem eqInt64S_ev (a : List Int) (hn : a.length ≤ 1048576) : Ev (fun k => laws_eqInt64S.f k a a) true := by
  unfold laws_eqInt64S.f
  exact ev_pos rfl (eqInt64S_loop a hn a.length 0 (by omega))
def marks (m : Int) : Nat → List Int
  | 0 => []
  | n + 1 => m :: marks (m + 1) n
theorem marks_length : ∀ (n : Nat) (m : Int), (marks m n).length = n
  | 0, _ => rfl
  | n + 1, m => by simp [marks, marks_length n]
theorem marks_getD : ∀ (n : Nat) (m : Int) (j : Nat), j < n → (marks m n).getD j 0 = m + j
  | 0, _, j, h => by omega
  | n + 1, m, 0, _ => by simp [marks]
  | n + 1, m, j + 1, h => by
    have := marks_getD n (m + 1) j (by omega)
    simp only [marks, List.getD_cons_succ]
    omega
theorem markInt64S_loop (n : Nat) (m0 : Int) (h0 : 0 ≤ m0) (h1 : m0 ≤ 4611686018427387904) (hn : n ≤ 1048576) : ∀ (m i : Nat) (x : List Int), i + m = n → x.length = n → (∀ j, j < i → x.getD j 0 = m0 + j) → Ev (fun k => laws_markInt64S.l0 k x (m0 + i) (i : Int)) (m0 + n, marks m0 n) := by
  intro m
  induction m with
  | zero =>
    intro i x h2 h3 h4
    refine Ev.step (fun k => by rw [laws_markInt64S.l0]) ?_
    refine ev_neg (by omega) (ev_now ?_)
    have e : x = marks m0 n := ext_getD (by rw [marks_length, h3]) (fun j hj => by rw [marks_length] at hj; rw [h4 j (by omega), marks_getD n m0 j hj])
    rw [e, show i = n by omega]
  | succ m ih =>
    intro i x h2 h3 h4
    refine Ev.step (fun k => by rw [laws_markInt64S.l0]) ?_
    refine ev_pos (by omega) (ev_pos (by omega) ?_)
    rw [w64s (by omega), w64 (by omega) (by omega), show m0 + (i : Int) + 1 = m0 + ((i + 1 : Nat) : Int) by omega]
    refine ih (i + 1) _ (by omega) (by simpa using h3) (fun j hj => ?_)
    by_cases e : i = j
    · subst e
      rw [show ((i : Int)).toNat = i from rfl, get_set_eq (by omega)]
    · rw [show ((i : Int)).toNat = i from rfl, get_set_ne e]
      exact h4 j (by omega)
theorem markInt64S_ev (l : List Int) (m0 : Int) (h0 : 0 ≤ m0) (h1 : m0 ≤ 4611686018427387904) (hn : l.length ≤ 1048576) : Ev (fun k => laws_markInt64S.f k l m0) (m0 + l.length, marks m0 l.length) := by
  unfold laws_markInt64S.f
  have := markInt64S_loop l.length m0 h0 h1 hn l.length 0 l (by omega) rfl (fun j hj => by omega)
  simpa using this
theorem heldInt64S_loop (n : Nat) (m0 : Int) (h0 : 0 ≤ m0) (h1 : m0 ≤ 4611686018427387904) (hn : n ≤ 1048576) : ∀ (m i : Nat), i + m = n → Ev (fun k => laws_heldInt64S.l0 k (marks m0 n) (m0 + i) (i : Int)) (m0 + n) := by
  intro m
  induction m with
  | zero =>
    intro i h2
    refine Ev.step (fun k => by rw [laws_heldInt64S.l0]) ?_
    refine ev_neg (by rw [marks_length]; omega) (ev_now ?_)
    rw [show i = n by omega]
  | succ m ih =>
    intro i h2
    refine Ev.step (fun k => by rw [laws_heldInt64S.l0]) ?_
    refine ev_pos (by rw [marks_length]; omega) (ev_pos (by omega) (ev_pos (marks_getD n m0 i (by omega)) ?_))
    rw [w64s (by omega), w64 (by omega) (by omega), show m0 + (i : Int) + 1 = m0 + ((i + 1 : Nat) : Int) by omega]
    exact ih (i + 1) (by omega)
theorem heldInt64S_ev (n : Nat) (m0 : Int) (h0 : 0 ≤ m0) (h1 : m0 ≤ 4611686018427387904) (hn : n ≤ 1048576) : Ev (fun k => laws_heldInt64S.f k (marks m0 n) m0) (m0 + n) := by
  unfold laws_heldInt64S.f
  have := heldInt64S_loop n m0 h0 h1 hn n 0 (by omega)
  simpa using this
end Go.Proofs.Ytmnpdkhkgddojaa.E
namespace Go.Proofs.Ytmnpdkhkgddojaa.E
set_option linter.unusedVariables false
set_option linter.unusedSectionVars false
open Go.RowKit Go.Proofs.YtmnpdkhkgddojaaW.PrintWords Go.Proofs.Ytmnpdkhkgddojaa.Base Go.Proofs.Ytmnpdkhkgddojaa.Auto

structure SmallA (S : List (List Int)) (g : List Int) : Prop where
  rows : S.length ≤ 1048576
  each : ∀ j, j < S.length → (S.getD j []).length ≤ 1048576
  good : g.length ≤ 1048576
theorem l01In_eq (a b c : Int) : spec_l01In.f a b c = some (decide (b ≤ a) && decide (a ≤ c)) := by
  unfold spec_l01In.f
  by_cases h : a ≥ b
  · rw [if_pos h]; simp [show b ≤ a from h]
  · rw [if_neg h]; simp [show ¬ b ≤ a from h]
theorem rdL_nat (S : List (List Int)) (i : Nat) : rd_L1 S (i : Int) = S.getD i [] := rfl
theorem sz_row (l : List Int) (a : Int) (h0 : 0 ≤ a) (h1 : a ≤ 1048576) (hl : l.length ≤ maxLen) : laws_szInt64S.f l a = some (if a < l.length then -1 else a - l.length) := by
  unfold maxLen at hl
  unfold laws_szInt64S.f
  rw [w64 (by omega) (by omega)]
  by_cases h : a < l.length
  · rw [if_pos (by omega), if_pos h]
  · rw [if_neg (by omega), if_neg h]
theorem sz_loop (S : List (List Int)) (hS : S.length ≤ 1048576) (hm : ∀ j, j < S.length → (S.getD j []).length ≤ maxLen) : ∀ (m i : Nat) (a : Int), i + m = S.length → 0 ≤ a → a ≤ 1048576 →
    ∃ r, Ev (fun k => laws_szInt64SS.l0 k S a (i : Int)) r ∧ (r = -1 ∨ (0 ≤ r ∧ r ≤ a ∧ ∀ j, i ≤ j → j < S.length → (S.getD j []).length ≤ 1048576))
  | 0, i, a, hi, h0, h1 => by
    refine ⟨a, ?_, .inr ⟨h0, Int.le_refl _, fun j hj hl => by omega⟩⟩
    refine Ev.step (fun k => by rw [laws_szInt64SS.l0]) ?_
    exact ev_neg (by omega) (Ev.now _)
  | m + 1, i, a, hi, h0, h1 => by
    have hr := sz_row (S.getD i []) a h0 h1 (hm i (by omega))
    by_cases hx : a < (S.getD i []).length
    · refine ⟨-1, ?_, .inl rfl⟩
      refine Ev.step (fun k => by rw [laws_szInt64SS.l0]) ?_
      rw [rdL_nat, hr, if_pos hx]
      exact ev_pos (by omega) (ev_pos (by omega) (ev_some (ev_pos (by decide) (Ev.now _))))
    · obtain ⟨r, h2, h3⟩ := sz_loop S hS hm m (i + 1) (a - (S.getD i []).length) (by omega) (by omega) (by omega)
      refine ⟨r, ?_, ?_⟩
      · refine Ev.step (fun k => by rw [laws_szInt64SS.l0]) ?_
        rw [rdL_nat, hr, if_neg hx, w64s (by omega)]
        exact ev_pos (by omega) (ev_pos (by omega) (ev_some (ev_neg (by omega) h2)))
      · rcases h3 with h3 | ⟨h3, h4, h5⟩
        · exact .inl h3
        · refine .inr ⟨h3, by omega, fun j hj hl => ?_⟩
          by_cases e : j = i
          · subst e; omega
          · exact h5 j (by omega) hl
theorem szAutomaton_ev (st : Int) (S : List (List Int)) (g : List Int) (hS : S.length ≤ maxLen) (hm : ∀ j, j < S.length → (S.getD j []).length ≤ maxLen) (hg : g.length ≤ maxLen) :
    ∃ r, Ev (fun k => laws_szAutomaton.f k st S g 1048576) r ∧ (r < 0 ∨ (0 ≤ r ∧ r ≤ 1048576 ∧ SmallA S g)) := by
  unfold maxLen at hS
  have fin : ∀ r1 : Int, Ev (fun k => laws_szInt64SS.f k S 1048576) r1 → (r1 = -1 ∨ (0 ≤ r1 ∧ r1 ≤ 1048576 ∧ S.length ≤ 1048576 ∧ ∀ j, j < S.length → (S.getD j []).length ≤ 1048576)) →
      ∃ r, Ev (fun k => laws_szAutomaton.f k st S g 1048576) r ∧ (r < 0 ∨ (0 ≤ r ∧ r ≤ 1048576 ∧ SmallA S g)) := by
    intro r1 h1 h2
    rcases h2 with h2 | ⟨h2, h3, h4, h5⟩
    · refine ⟨-1, ?_, .inl (by decide)⟩
      unfold laws_szAutomaton.f
      exact Ev.bind h1 (ev_pos (by omega) (Ev.now _))
    · have hr := sz_row g r1 h2 h3 hg
      by_cases hx : r1 < g.length
      · refine ⟨-1, ?_, .inl (by decide)⟩
        unfold laws_szAutomaton.f
        refine Ev.bind h1 (ev_neg (by omega) ?_)
        simp only [hr, if_pos hx]
        exact ev_some (ev_pos (by decide) (Ev.now _))
      · refine ⟨r1 - g.length, ?_, .inr ⟨by omega, by omega, h4, h5, by omega⟩⟩
        unfold laws_szAutomaton.f
        refine Ev.bind h1 (ev_neg (by omega) ?_)
        simp only [hr, if_neg hx]
        exact ev_some (ev_neg (by omega) (Ev.now _))
  by_cases hb : (1048576 : Int) < S.length
  · refine fin (-1) ?_ (.inl rfl)
    unfold laws_szInt64SS.f
    rw [w64 (by omega) (by omega)]
    exact ev_pos (by omega) (Ev.now _)
  · obtain ⟨r, h1, h2⟩ := sz_loop S (by omega) hm S.length 0 (1048576 - S.length) (by omega) (by omega) (by omega)
    refine fin r ?_ ?_
    · unfold laws_szInt64SS.f
      rw [w64 (by omega) (by omega)]
      exact ev_neg (by omega) h1
    · rcases h2 with h2 | ⟨h2, h3, h4⟩
      · exact .inl h2
      · exact .inr ⟨h2, by omega, by omega, fun j hj => h4 j (by omega) hj⟩
theorem ext_rows {l m : List (List Int)} (hl : m.length = l.length) (h : ∀ j, j < l.length → m.getD j [] = l.getD j []) : m = l := by
  apply List.ext_getElem hl
  intro j h1 h2
  have := h j h2
  rwa [List.getD_eq_getElem?_getD, List.getD_eq_getElem?_getD, List.getElem?_eq_getElem h1, List.getElem?_eq_getElem h2] at this
theorem getr_set_eq {l : List (List Int)} {i : Nat} {v : List Int} (h : i < l.length) : (l.set i v).getD i [] = v := by
  rw [List.getD_eq_getElem?_getD, List.getElem?_set_self h]; rfl
theorem getr_set_ne {l : List (List Int)} {i j : Nat} {v : List Int} (h : i ≠ j) : (l.set i v).getD j [] = l.getD j [] := by
  rw [List.getD_eq_getElem?_getD, List.getElem?_set_ne h, ← List.getD_eq_getElem?_getD]
section
variable {S : List (List Int)} {g : List Int} (hs : SmallA S g)
include hs
theorem toSS_loop : ∀ (m i : Nat) (x : List (List Int)), i + m = S.length → x.length = S.length → (∀ j, j < i → x.getD j [] = S.getD j []) → Ev (fun k => laws_toInt64SS.l0 k S x (i : Int)) S
  | 0, i, x, hi, hx, hj => by
    refine Ev.step (fun k => by rw [laws_toInt64SS.l0]) ?_
    exact ev_neg (by omega) (ev_now (ext_rows hx (fun j h => hj j (by omega))))
  | m + 1, i, x, hi, hx, hj => by
    have hr := hs.rows
    refine Ev.step (fun k => by rw [laws_toInt64SS.l0]) ?_
    rw [rdL_nat]
    refine ev_pos (by omega) (ev_pos (by omega) (Ev.bind (toInt64S_ev _ (hs.each i (by omega))) (ev_pos (by omega) ?_)))
    rw [w64s (by omega)]
    refine toSS_loop m (i + 1) _ (by omega) (by simpa using hx) (fun j h => ?_)
    rw [show ((i : Int)).toNat = i from rfl]
    by_cases e : i = j
    · subst e; exact getr_set_eq (by omega)
    · rw [getr_set_ne e]; exact hj j (by omega)
theorem toSS_ev : Ev (fun k => laws_toInt64SS.f k S) S := by
  have hr := hs.rows
  unfold laws_toInt64SS.f
  refine ev_pos (by omega) (ev_pos (by simp; omega) ?_)
  exact toSS_loop hs S.length 0 _ (by omega) (by simp) (fun j hj => by omega)
theorem toA_ev (st : Int) : Ev (fun k => laws_toAutomaton.f k st S g) (st, S, g) := by
  unfold laws_toAutomaton.f
  exact Ev.bind (toSS_ev hs) (Ev.bind (toInt64S_ev g hs.good) (Ev.now _))
theorem eqSS_loop : ∀ (m i : Nat), i + m = S.length → Ev (fun k => laws_eqInt64SS.l0 k S S (i : Int)) true
  | 0, i, hi => by
    refine Ev.step (fun k => by rw [laws_eqInt64SS.l0]) ?_
    exact ev_neg (by omega) (Ev.now _)
  | m + 1, i, hi => by
    have hr := hs.rows
    refine Ev.step (fun k => by rw [laws_eqInt64SS.l0]) ?_
    rw [rdL_nat]
    refine ev_pos (by omega) (ev_pos (by omega) (ev_pos (by omega) (Ev.bind (eqInt64S_ev _ (hs.each i (by omega))) (ev_pos rfl ?_))))
    rw [w64s (by omega)]
    exact eqSS_loop m (i + 1) (by omega)
theorem eqA_ev (st : Int) : Ev (fun k => laws_eqAutomaton.f k st S g st S g) true := by
  unfold laws_eqAutomaton.f laws_eqInt64SS.f
  exact ev_pos rfl (Ev.bind (ev_pos rfl (eqSS_loop hs S.length 0 (by omega))) (ev_pos rfl (Ev.bind (eqInt64S_ev g hs.good) (ev_pos rfl (Ev.now _)))))
end
theorem dropr_all {α : Type} (p : α → Bool) (l : List α) (d : α) (i : Nat) (hi : i < l.length) : (l.drop i).all p = (p (l.getD i d) && (l.drop (i + 1)).all p) := by
  rw [List.drop_eq_getElem_cons hi, List.all_cons, List.getD_eq_getElem?_getD, List.getElem?_eq_getElem hi]
  rfl
section
variable {st : Int} {S : List (List Int)} {g : List Int} (hs : SmallA S g) (h9 : S.length ≤ 9) (h1 : 1 ≤ S.length)
include hs h9 h1
theorem spec_good_loop : ∀ (n i : Nat), i + n = g.length → Ev (fun k => spec_l06Is.l2 k (S.length : Int) (i : Int) st S g) (goodFrom S.length g n i)
  | 0, i, hi => by
    refine Ev.step (fun k => by rw [spec_l06Is.l2]) ?_
    exact ev_neg (by omega) (Ev.now _)
  | n + 1, i, hi => by
    have hg := hs.good
    have ih := spec_good_loop n (i + 1) (by omega)
    refine Ev.step (fun k => by rw [spec_l06Is.l2]) ?_
    simp only [l01In_eq]
    refine ev_pos (by omega) (ev_pos (by omega) (ev_some ?_))
    rw [w64 (x := (S.length : Int) - 1) (by omega) (by omega), w64s (by omega), rd_nat]
    have e : (decide (0 ≤ g.getD i 0) && decide (g.getD i 0 ≤ (S.length : Int) - 1)) = inS S.length (g.getD i 0) := by
      unfold inS; congr 1; exact decide_eq_decide.mpr (by omega)
    have eg : goodFrom S.length g (n + 1) i = ((inS S.length (g.getD i 0) && (decide (i = 0) || decide (g.getD (i - 1) 0 < g.getD i 0))) && goodFrom S.length g n (i + 1)) := rfl
    rw [e, eg]
    refine ev_ite (fun hin => ?_) (fun hin => ?_)
    · rw [hin, Bool.true_and]
      rcases Nat.eq_zero_or_pos i with h0 | h0
      · rw [decide_eq_true h0, Bool.true_or, Bool.true_and]
        exact ev_neg (by omega) ih
      · have ew : wrap64 ((i : Int) - 1) = ((i - 1 : Nat) : Int) := by rw [w64 (by omega) (by omega)]; omega
        rw [decide_eq_false (by omega), Bool.false_or, ew, rd_nat]
        refine ev_pos (by omega) (ev_pos (by omega) (ev_pos (by omega) (ev_ite (fun hx => ?_) (fun hx => ?_))))
        · rw [decide_eq_false (by omega)]; exact Ev.now _
        · rw [decide_eq_true (by omega), Bool.true_and]; exact ih
    · rw [(by simpa using hin : inS S.length (g.getD i 0) = false)]; exact Ev.now _
theorem spec_row_loop {i : Nat} (hi : i < S.length) (hl : (S.getD i []).length = S.length) {R : Bool} (H : Ev (fun k => spec_l06Is.l0 k (S.length : Int) ((i + 1 : Nat) : Int) st S g) R) :
    ∀ (n c : Nat), c + n = S.length → Ev (fun k => spec_l06Is.l1 k (S.length : Int) (i : Int) (c : Int) st S g) (((S.getD i []).drop c).all (inS S.length) && R)
  | 0, c, hc => by
    refine Ev.step (fun k => by rw [spec_l06Is.l1]) ?_
    rw [List.drop_of_length_le (by omega), w64s (i := i) (by omega), List.all_nil, Bool.true_and]
    exact ev_neg (by omega) H
  | n + 1, c, hc => by
    have ih := spec_row_loop hi hl H n (c + 1) (by omega)
    refine Ev.step (fun k => by rw [spec_l06Is.l1]) ?_
    simp only [l01In_eq]
    rw [rdL_nat]
    refine ev_pos (by omega) (ev_pos (by omega) (ev_pos (by omega) (ev_pos (by omega) (ev_pos (by omega) (ev_some ?_)))))
    rw [w64 (x := (S.length : Int) - 1) (by omega) (by omega), w64s (by omega), rd_nat, dropr_all _ _ 0 c (by omega)]
    have e : (decide (0 ≤ (S.getD i []).getD c 0) && decide ((S.getD i []).getD c 0 ≤ (S.length : Int) - 1)) = inS S.length ((S.getD i []).getD c 0) := by
      unfold inS; congr 1; exact decide_eq_decide.mpr (by omega)
    rw [e]
    refine ev_ite (fun hin => ?_) (fun hin => ?_)
    · rw [hin, Bool.true_and]; exact ih
    · rw [(by simpa using hin : inS S.length ((S.getD i []).getD c 0) = false)]; exact Ev.now _
theorem spec_rows_loop : ∀ (n i : Nat), i + n = S.length → Ev (fun k => spec_l06Is.l0 k (S.length : Int) (i : Int) st S g) ((S.drop i).all (rowOk S.length) && goodFrom S.length g g.length 0)
  | 0, i, hi => by
    refine Ev.step (fun k => by rw [spec_l06Is.l0]) ?_
    rw [List.drop_of_length_le (by omega)]
    exact ev_neg (by omega) (spec_good_loop hs h9 h1 g.length 0 (by omega))
  | n + 1, i, hi => by
    have ih := spec_rows_loop n (i + 1) (by omega)
    refine Ev.step (fun k => by rw [spec_l06Is.l0]) ?_
    rw [rdL_nat, dropr_all _ _ [] i (by omega)]
    refine ev_pos (by omega) (ev_pos (by omega) (ev_pos (by omega) (ev_ite (fun hx => ?_) (fun hx => ?_))))
    · have := spec_row_loop hs h9 h1 (by omega) (by omega) ih S.length 0 (by omega)
      rw [List.drop_zero] at this
      have e : rowOk S.length (S.getD i []) = (S.getD i []).all (inS S.length) := by unfold rowOk; rw [decide_eq_true (by omega), Bool.true_and]
      rw [e, Bool.and_assoc]
      exact this
    · have e : rowOk S.length (S.getD i []) = false := by unfold rowOk; rw [decide_eq_false (by omega), Bool.false_and]
      rw [e]; exact Ev.now _
theorem isState_ev (x : Int) : impl_isState.f st S g x = some (inS S.length x) := by
  unfold impl_isState.f inS
  by_cases h : x ≥ 0
  · rw [if_pos h, decide_eq_true (show 0 ≤ x from h), Bool.true_and]
  · rw [if_neg h, decide_eq_false (show ¬ 0 ≤ x from h), Bool.false_and]
theorem impl_good_loop : ∀ (n i : Nat), i + n = g.length → Ev (fun k => impl_IsAutomaton.l2 k g (g.length : Int) (i : Int) st S g) (goodFrom S.length g n i)
  | 0, i, hi => by
    refine Ev.step (fun k => by rw [impl_IsAutomaton.l2]) ?_
    exact ev_neg (by omega) (Ev.now _)
  | n + 1, i, hi => by
    have hg := hs.good
    have ih := impl_good_loop n (i + 1) (by omega)
    refine Ev.step (fun k => by rw [impl_IsAutomaton.l2]) ?_
    simp only [isState_ev hs h9 h1]
    refine ev_pos (by omega) (ev_pos (by omega) (ev_pos (by omega) (ev_some ?_)))
    rw [w64s (by omega), rd_nat]
    have eg : goodFrom S.length g (n + 1) i = ((inS S.length (g.getD i 0) && (decide (i = 0) || decide (g.getD (i - 1) 0 < g.getD i 0))) && goodFrom S.length g n (i + 1)) := rfl
    rw [eg]
    refine ev_ite (fun hin => ?_) (fun hin => ?_)
    · rw [hin, Bool.true_and]
      rcases Nat.eq_zero_or_pos i with h0 | h0
      · rw [decide_eq_true h0, Bool.true_or, Bool.true_and]
        exact ev_neg (by omega) ih
      · have ew : wrap64 ((i : Int) - 1) = ((i - 1 : Nat) : Int) := by rw [w64 (by omega) (by omega)]; omega
        rw [decide_eq_false (by omega), Bool.false_or, ew, rd_nat]
        refine ev_pos (by omega) (ev_pos (by omega) (ev_pos (by omega) (ev_ite (fun hx => ?_) (fun hx => ?_))))
        · rw [decide_eq_false (by omega)]; exact Ev.now _
        · rw [decide_eq_true (by omega), Bool.true_and]; exact ih
    · rw [(by simpa using hin : inS S.length (g.getD i 0) = false)]; exact Ev.now _
theorem impl_row_loop {i : Nat} (hi : i < S.length) (row : List Int) (hl : row.length = S.length) {R : Bool} (H : Ev (fun k => impl_IsAutomaton.l0 k S (S.length : Int) ((i + 1 : Nat) : Int) st S g) R) :
    ∀ (n c : Nat), c + n = S.length → Ev (fun k => impl_IsAutomaton.l1 k S (S.length : Int) (i : Int) row (row.length : Int) (c : Int) st S g) ((row.drop c).all (inS S.length) && R)
  | 0, c, hc => by
    refine Ev.step (fun k => by rw [impl_IsAutomaton.l1]) ?_
    rw [List.drop_of_length_le (by omega), w64s (i := i) (by omega), List.all_nil, Bool.true_and]
    exact ev_neg (by omega) H
  | n + 1, c, hc => by
    have ih := impl_row_loop hi row hl H n (c + 1) (by omega)
    refine Ev.step (fun k => by rw [impl_IsAutomaton.l1]) ?_
    simp only [isState_ev hs h9 h1]
    refine ev_pos (by omega) (ev_pos (by omega) (ev_pos (by omega) (ev_some ?_)))
    rw [w64s (by omega), rd_nat, dropr_all _ _ 0 c (by omega)]
    refine ev_ite (fun hin => ?_) (fun hin => ?_)
    · rw [hin, Bool.true_and]; exact ih
    · rw [(by simpa using hin : inS S.length (row.getD c 0) = false)]; exact Ev.now _
theorem impl_rows_loop : ∀ (n i : Nat), i + n = S.length → Ev (fun k => impl_IsAutomaton.l0 k S (S.length : Int) (i : Int) st S g) ((S.drop i).all (rowOk S.length) && goodFrom S.length g g.length 0)
  | 0, i, hi => by
    refine Ev.step (fun k => by rw [impl_IsAutomaton.l0]) ?_
    rw [List.drop_of_length_le (by omega)]
    exact ev_neg (by omega) (impl_good_loop hs h9 h1 g.length 0 (by omega))
  | n + 1, i, hi => by
    have ih := impl_rows_loop n (i + 1) (by omega)
    refine Ev.step (fun k => by rw [impl_IsAutomaton.l0]) ?_
    rw [rdL_nat, dropr_all _ _ [] i (by omega)]
    refine ev_pos (by omega) (ev_pos (by omega) (ev_pos (by omega) (ev_ite (fun hx => ?_) (fun hx => ?_))))
    · have := impl_row_loop hs h9 h1 (by omega) (S.getD i []) (by omega) ih S.length 0 (by omega)
      rw [List.drop_zero] at this
      have e : rowOk S.length (S.getD i []) = (S.getD i []).all (inS S.length) := by unfold rowOk; rw [decide_eq_true (by omega), Bool.true_and]
      rw [e, Bool.and_assoc]
      exact this
    · have e : rowOk S.length (S.getD i []) = false := by unfold rowOk; rw [decide_eq_false (by omega), Bool.false_and]
      rw [e]; exact Ev.now _
end
theorem spec_l06Is_ev {S : List (List Int)} {g : List Int} (hs : SmallA S g) (st : Int) : Ev (fun k => spec_l06Is.f k st S g) (isAutM st S g) := by
  have hr := hs.rows
  unfold spec_l06Is.f isAutM
  simp only [l01In_eq]
  refine ev_some ?_
  by_cases hm : 1 ≤ S.length ∧ S.length ≤ 9
  · rw [decide_eq_true hm.1, decide_eq_true hm.2, decide_eq_true (by omega), decide_eq_true (by omega), Bool.true_and, Bool.true_and]
    refine ev_pos rfl (ev_some ?_)
    rw [w64 (x := (S.length : Int) - 1) (by omega) (by omega)]
    have e : (decide (0 ≤ st) && decide (st ≤ (S.length : Int) - 1)) = inS S.length st := by
      unfold inS; congr 1; exact decide_eq_decide.mpr (by omega)
    rw [e]
    refine Ev.step (fun k => by rw [spec_l06Is.j0]) ?_
    cases hst : inS S.length st with
    | false => exact ev_pos rfl (Ev.now _)
    | true =>
      refine ev_neg (by decide) ?_
      have := spec_rows_loop (st := st) hs hm.2 hm.1 S.length 0 (by omega)
      simpa using this
  · refine ev_neg (by rw [Bool.and_eq_true, decide_eq_true_eq, decide_eq_true_eq]; omega) ?_
    refine Ev.step (fun k => by rw [spec_l06Is.j0]) ?_
    refine ev_pos rfl (ev_now ?_)
    have : (decide (1 ≤ S.length) && decide (S.length ≤ 9)) = false := by rw [← Bool.not_eq_true, Bool.and_eq_true, decide_eq_true_eq, decide_eq_true_eq]; exact hm
    rw [this]; rfl
theorem impl_IsAutomaton_ev {S : List (List Int)} {g : List Int} (hs : SmallA S g) (st : Int) : Ev (fun k => impl_IsAutomaton.f k st S g) (isAutM st S g) := by
  have hr := hs.rows
  unfold impl_IsAutomaton.f isAutM
  refine ev_ite (fun h1 => ?_) (fun h1 => ?_)
  · refine Ev.step (fun k => by rw [impl_IsAutomaton.j0]) ?_
    rw [decide_eq_false (p := 1 ≤ S.length) (by omega)]
    exact ev_pos rfl (Ev.now _)
  · refine ev_ite (fun h9 => ?_) (fun h9 => ?_)
    · refine Ev.step (fun k => by rw [impl_IsAutomaton.j0]) ?_
      rw [decide_eq_false (p := S.length ≤ 9) (by omega), Bool.and_false]
      exact ev_pos rfl (Ev.now _)
    · rw [isState_ev hs (by omega) (by omega), decide_eq_true (p := 1 ≤ S.length) (by omega), decide_eq_true (p := S.length ≤ 9) (by omega), Bool.true_and, Bool.true_and]
      refine ev_some ?_
      refine Ev.step (fun k => by rw [impl_IsAutomaton.j0]) ?_
      cases hst : inS S.length st with
      | false => exact ev_pos rfl (Ev.now _)
      | true =>
        refine ev_neg (by decide) ?_
        have := impl_rows_loop (st := st) hs (by omega) (by omega) S.length 0 (by omega)
        simpa using this
end Go.Proofs.Ytmnpdkhkgddojaa.E
namespace Go.Proofs.Ytmnpdkhkgddojaa.E
set_option linter.unusedVariables false
set_option linter.unusedSectionVars false
open Go.RowKit Go.Proofs.YtmnpdkhkgddojaaW.PrintWords Go.Proofs.Ytmnpdkhkgddojaa.Base Go.Proofs.Ytmnpdkhkgddojaa.Auto

def goodM (g : List Int) (x : Int) : Bool := g.any fun y => decide (y = x)
theorem drop_any (p : Int → Bool) (l : List Int) (i : Nat) (hi : i < l.length) : (l.drop i).any p = (p (l.getD i 0) || (l.drop (i + 1)).any p) := by
  rw [List.drop_eq_getElem_cons hi, List.any_cons, List.getD_eq_getElem?_getD, List.getElem?_eq_getElem hi]
  rfl
theorem index_in (g : List Int) (hg : g.length ≤ 1048576) (x : Int) : ∀ (m i : Nat), i + m = g.length → ∃ r, Ev (fun k => slices_Index_int64_int64.l0 k g x (g.length : Int) (i : Int)) r ∧ decide (r ≥ 0) = ((g.drop i).any fun y => decide (y = x))
  | 0, i, hi => by
    refine ⟨-1, ?_, ?_⟩
    · refine Ev.step (fun k => by rw [slices_Index_int64_int64.l0]) ?_
      exact ev_neg (by omega) (Ev.now _)
    · rw [List.drop_of_length_le (by omega)]; rfl
  | m + 1, i, hi => by
    rw [drop_any _ _ _ (by omega : i < g.length)]
    by_cases hx : g.getD i 0 = x
    · refine ⟨(i : Int), ?_, ?_⟩
      · refine Ev.step (fun k => by rw [slices_Index_int64_int64.l0]) ?_
        exact ev_pos (by omega) (ev_pos (by omega) (ev_pos (by omega) (ev_pos (by rw [rd_nat]; exact hx.symm) (Ev.now _))))
      · rw [decide_eq_true hx, Bool.true_or]; exact decide_eq_true (by omega)
    · obtain ⟨r, h1, h2⟩ := index_in g hg x m (i + 1) (by omega)
      refine ⟨r, ?_, ?_⟩
      · refine Ev.step (fun k => by rw [slices_Index_int64_int64.l0]) ?_
        rw [w64s (by omega)]
        exact ev_pos (by omega) (ev_pos (by omega) (ev_pos (by omega) (ev_neg (by rw [rd_nat]; exact fun e => hx e.symm) h1)))
      · rw [decide_eq_false hx, Bool.false_or]; exact h2
theorem contains_ev (g : List Int) (hg : g.length ≤ 1048576) (x : Int) : Ev (fun k => slices_Contains_int64_int64.f k g x) (goodM g x) := by
  obtain ⟨r, h1, h2⟩ := index_in g hg x g.length 0 (by omega)
  unfold slices_Contains_int64_int64.f slices_Index_int64_int64.f
  exact Ev.bind h1 (ev_now h2)
theorem goodM_iff {g : List Int} {x : Int} : goodM g x = true ↔ x ∈ g := by
  unfold goodM
  rw [List.any_eq_true]
  constructor
  · rintro ⟨y, h1, h2⟩
    rw [decide_eq_true_eq] at h2
    exact h2 ▸ h1
  · intro h
    exact ⟨x, h, decide_eq_true rfl⟩
end Go.Proofs.Ytmnpdkhkgddojaa.E
namespace Go.Proofs.Ytmnpdkhkgddojaa.E
set_option linter.unusedVariables false
set_option linter.unusedSectionVars false
open Go.RowKit Go.Proofs.YtmnpdkhkgddojaaW.PrintWords Go.Proofs.Ytmnpdkhkgddojaa.Base Go.Proofs.Ytmnpdkhkgddojaa.Auto

section
variable {st : Int} {S : List (List Int)} {g : List Int} (hA : IsA st S g)
include hA
structure Tb (B : List Bool) : Prop where
  len : B.length = S.length
  sound : ∀ s, s < S.length → B.getD s false = true → Rc st S (s : Int)
  start : B.getD st.toNat false = true
def Cl (S : List (List Int)) (B : List Bool) : Prop := ∀ s c : Nat, s < S.length → c < S.length → B.getD s false = true → B.getD c false = true → B.getD (stepM S s c).toNat false = true
def Pass (S : List (List Int)) (B0 : List Bool) (s c : Nat) (B : List Bool) (more : Bool) : Prop :=
  (more = false → B = B0 ∧ ∀ s' c' : Nat, s' < S.length → c' < S.length → (s' < s ∨ (s' = s ∧ c' < c)) → B.getD s' false = true → B.getD c' false = true → B.getD (stepM S s' c').toNat false = true) ∧ (more = true → nf B < nf B0)
omit hA in
theorem rdOf_b (B : List Bool) (i : Nat) : rdOf false B (i : Int) = B.getD i false := rfl
theorem reach_in {B0 : List Bool} {s : Nat} (hs : s < S.length) {Post : List Bool → Prop}
    (H : ∀ B more, Tb (st := st) (S := S) B → Pass S B0 (s + 1) 0 B more → ∃ R, Post R ∧ Ev (fun k => spec_l06Reached.l1 k B more ((s + 1 : Nat) : Int) st S g) R) :
    ∀ (m c : Nat) (B : List Bool) (more : Bool), c + m = S.length → Tb (st := st) (S := S) B → Pass S B0 s c B more → ∃ R, Post R ∧ Ev (fun k => spec_l06Reached.l2 k B more (s : Int) (c : Int) st S g) R
  | 0, c, B, more, hc, hT, hP => by
    have h9 := hA.nine
    have hP' : Pass S B0 (s + 1) 0 B more := ⟨fun e => ⟨(hP.1 e).1, fun s' c' h1 h2 h3 => (hP.1 e).2 s' c' h1 h2 (by omega)⟩, hP.2⟩
    obtain ⟨R, h1, h2⟩ := H B more hT hP'
    refine ⟨R, h1, ?_⟩
    have hl := hT.len
    refine Ev.step (fun k => by rw [spec_l06Reached.l2]) ?_
    rw [w64s (i := s) (by omega)]
    exact ev_neg (by omega) h2
  | m + 1, c, B, more, hc, hT, hP => by
    have h9 := hA.nine
    have hl := hT.len
    have hrow := hA.row s hs
    have hst := hA.step s c hs (by omega)
    have e1 : (rd_L1 S (s : Int)) = S.getD s [] := rfl
    have e2 : rd (S.getD s []) (c : Int) = stepM S s c := rfl
    have hb : 0 ≤ stepM S s c ∧ stepM S s c < S.length := hst
    have stay : (B.getD s false = true → B.getD c false = true → B.getD (stepM S s c).toNat false = true) → ∃ R, Post R ∧ Ev (fun k => spec_l06Reached.l2 k B more (s : Int) ((c + 1 : Nat) : Int) st S g) R := by
      intro hcl
      refine reach_in hs H m (c + 1) B more (by omega) hT ⟨fun e => ⟨(hP.1 e).1, fun s' c' h1 h2 h3 => ?_⟩, hP.2⟩
      by_cases e3 : s' = s ∧ c' = c
      · obtain ⟨rfl, rfl⟩ := e3; exact hcl
      · exact (hP.1 e).2 s' c' h1 h2 (by omega)
    by_cases h1 : B.getD s false = true
    · by_cases h2 : B.getD c false = true
      · by_cases h3 : B.getD (stepM S s c).toNat false = true
        · obtain ⟨R, r1, r2⟩ := stay (fun _ _ => h3)
          refine ⟨R, r1, ?_⟩
          refine Ev.step (fun k => by rw [spec_l06Reached.l2]) ?_
          rw [e1, e2, rdOf_b, rdOf_b, w64s (i := c) (by omega)]
          exact ev_pos (by omega) (ev_pos (by omega) (ev_pos (by omega) (ev_pos (by omega) (ev_pos (by omega) (ev_pos (by omega) (ev_pos h1 (ev_pos h2 (ev_pos (by omega) (ev_pos (by omega) (ev_pos h3 r2))))))))))
        · have h3' : B.getD (stepM S s c).toNat false = false := by simpa using h3
          have hn := nf_set B (stepM S s c).toNat (by omega) h3'
          obtain ⟨R, r1, r2⟩ := reach_in hs H m (c + 1) (B.set (stepM S s c).toNat true) true (by omega) ⟨by simpa using hl, fun x hx hxt => by
              by_cases e : (stepM S s c).toNat = x
              · have e' : (x : Int) = stepM S s c := by omega
                rw [e']
                exact Rc.step (hT.sound s hs h1) (hT.sound c (by omega) h2)
              · rw [getb_set_ne e] at hxt; exact hT.sound x hx hxt, by
              by_cases e : (stepM S s c).toNat = st.toNat
              · rw [e] at hn ⊢; exact getb_set_eq (by have := hA.start; omega)
              · rw [getb_set_ne e]; exact hT.start⟩ ⟨fun e => (by cases e), fun _ => (by
              cases more with
              | false => have := (hP.1 rfl).1; subst this; omega
              | true => have := hP.2 rfl; omega)⟩
          refine ⟨R, r1, ?_⟩
          refine Ev.step (fun k => by rw [spec_l06Reached.l2]) ?_
          rw [e1, e2, rdOf_b, rdOf_b, w64s (i := c) (by omega)]
          exact ev_pos (by omega) (ev_pos (by omega) (ev_pos (by omega) (ev_pos (by omega) (ev_pos (by omega) (ev_pos (by omega) (ev_pos h1 (ev_pos h2 (ev_pos (by omega) (ev_pos (by omega) (ev_neg h3 r2))))))))))
      · obtain ⟨R, r1, r2⟩ := stay (fun _ h => absurd h h2)
        refine ⟨R, r1, ?_⟩
        refine Ev.step (fun k => by rw [spec_l06Reached.l2]) ?_
        rw [e1, e2, rdOf_b, rdOf_b, w64s (i := c) (by omega)]
        exact ev_pos (by omega) (ev_pos (by omega) (ev_pos (by omega) (ev_pos (by omega) (ev_pos (by omega) (ev_pos (by omega) (ev_pos h1 (ev_neg h2 r2)))))))
    · obtain ⟨R, r1, r2⟩ := stay (fun h => absurd h h1)
      refine ⟨R, r1, ?_⟩
      refine Ev.step (fun k => by rw [spec_l06Reached.l2]) ?_
      rw [e1, e2, rdOf_b, rdOf_b, w64s (i := c) (by omega)]
      exact ev_pos (by omega) (ev_pos (by omega) (ev_pos (by omega) (ev_pos (by omega) (ev_pos (by omega) (ev_pos (by omega) (ev_neg h1 r2))))))
theorem reach_pass {B0 : List Bool} {Post : List Bool → Prop}
    (H : ∀ B more, Tb (st := st) (S := S) B → Pass S B0 S.length 0 B more → ∃ R, Post R ∧ Ev (fun k => spec_l06Reached.l0 k B more st S g) R) :
    ∀ (m s : Nat) (B : List Bool) (more : Bool), s + m = S.length → Tb (st := st) (S := S) B → Pass S B0 s 0 B more → ∃ R, Post R ∧ Ev (fun k => spec_l06Reached.l1 k B more (s : Int) st S g) R
  | 0, s, B, more, hs, hT, hP => by
    have e : s = S.length := by omega
    subst e
    obtain ⟨R, r1, r2⟩ := H B more hT hP
    have hl := hT.len
    refine ⟨R, r1, ?_⟩
    refine Ev.step (fun k => by rw [spec_l06Reached.l1]) ?_
    exact ev_neg (by omega) r2
  | m + 1, s, B, more, hs, hT, hP => by
    have hl := hT.len
    obtain ⟨R, r1, r2⟩ := reach_in hA (by omega : s < S.length) (fun B' more' hT' hP' => reach_pass H m (s + 1) B' more' (by omega) hT' hP') S.length 0 B more (by omega) hT hP
    refine ⟨R, r1, ?_⟩
    refine Ev.step (fun k => by rw [spec_l06Reached.l1]) ?_
    exact ev_pos (by omega) r2
theorem reach_loop : ∀ (n : Nat) (B : List Bool), nf B ≤ n → Tb (st := st) (S := S) B → ∃ R, (Tb (st := st) (S := S) R ∧ Cl S R) ∧ Ev (fun k => spec_l06Reached.l0 k B true st S g) R := by
  intro n
  induction n with
  | zero =>
    intro B hn hT
    obtain ⟨R, r1, r2⟩ := reach_pass hA (B0 := B) (Post := fun R => Tb (st := st) (S := S) R ∧ Cl S R) (fun B' more hT' hP' => by
      cases more with
      | true => have := hP'.2 rfl; omega
      | false =>
        refine ⟨B', ⟨hT', fun s c h1 h2 => (hP'.1 rfl).2 s c h1 h2 (.inl h1)⟩, ?_⟩
        refine Ev.step (fun k => by rw [spec_l06Reached.l0]) ?_
        exact ev_neg (by decide) (Ev.now _)) S.length 0 B false (by omega) hT ⟨fun _ => ⟨rfl, fun _ _ _ _ h => by omega⟩, fun e => by cases e⟩
    refine ⟨R, r1, ?_⟩
    refine Ev.step (fun k => by rw [spec_l06Reached.l0]) ?_
    exact ev_pos rfl r2
  | succ n ih =>
    intro B hn hT
    obtain ⟨R, r1, r2⟩ := reach_pass hA (B0 := B) (Post := fun R => Tb (st := st) (S := S) R ∧ Cl S R) (fun B' more hT' hP' => by
      cases more with
      | true => exact ih B' (by have := hP'.2 rfl; omega) hT'
      | false =>
        refine ⟨B', ⟨hT', fun s c h1 h2 => (hP'.1 rfl).2 s c h1 h2 (.inl h1)⟩, ?_⟩
        refine Ev.step (fun k => by rw [spec_l06Reached.l0]) ?_
        exact ev_neg (by decide) (Ev.now _)) S.length 0 B false (by omega) hT ⟨fun _ => ⟨rfl, fun _ _ _ _ h => by omega⟩, fun e => by cases e⟩
    refine ⟨R, r1, ?_⟩
    refine Ev.step (fun k => by rw [spec_l06Reached.l0]) ?_
    exact ev_pos rfl r2
theorem spec_l06Reached_ev : ∃ R : List Bool, R.length = S.length ∧ (∀ s : Nat, s < S.length → (R.getD s false = true ↔ Rc st S (s : Int))) ∧ Ev (fun k => spec_l06Reached.f k st S g) R := by
  have h9 := hA.nine
  have hs := hA.start
  obtain ⟨R, ⟨r1, r2⟩, r3⟩ := reach_loop hA _ ((List.replicate S.length false).set st.toNat true) (Nat.le_refl _) ⟨by simp, fun x hx hxt => (by
      by_cases e : st.toNat = x
      · have e' : (x : Int) = st := by omega
        rw [e']; exact Rc.start
      · rw [getb_set_ne e, List.getD_eq_getElem?_getD, List.getElem?_replicate, if_pos hx] at hxt
        cases hxt), getb_set_eq (by simp; omega)⟩
  refine ⟨R, r1.len, fun s hs' => ⟨r1.sound s hs', fun h => ?_⟩, ?_⟩
  · have key : ∀ x : Int, Rc st S x → R.getD x.toNat false = true := by
      intro x hx
      induction hx with
      | start => exact r1.start
      | @step a b ha hb iha ihb =>
        have h1 := ha.bd hA
        have h2 := hb.bd hA
        have := r2 a.toNat b.toNat (by omega) (by omega) iha ihb
        rwa [show ((a.toNat : Nat) : Int) = a by omega, show ((b.toNat : Nat) : Int) = b by omega] at this
    exact key _ h
  · unfold spec_l06Reached.f
    refine ev_pos (by omega) (ev_pos (by omega) ?_)
    rw [show ((S.length : Int)).toNat = S.length from rfl]
    exact ev_some (ev_pos (by omega) (ev_pos (by simp; omega) r3))

structure Mt (out : List Int) : Prop where
  nd : out.Nodup
  sound : ∀ x ∈ out, Rc st S x
  start : st ∈ out
omit hA in
theorem prefix_mem {a b : List Int} (h : a <+: b) {x : Int} (hx : x ∈ a) : x ∈ b := h.subset hx
theorem Mt.few {out : List Int} (h : Mt (st := st) (S := S) out) : out.length ≤ S.length := nodup_few _ _ h.nd (fun x hx => (h.sound x hx).bd hA)
theorem tk_ev {out : List Int} (h : Mt (st := st) (S := S) out) {s : Int} (hs : Rc st S s) : ∃ o1, Mt (st := st) (S := S) o1 ∧ out <+: o1 ∧ s ∈ o1 ∧ Ev (fun k => impl_met.tk k out s) o1 := by
  have hf := h.few hA
  have h9 := hA.nine
  by_cases hc : goodM out s = true
  · refine ⟨out, h, List.prefix_refl _, goodM_iff.1 hc, ?_⟩
    unfold impl_met.tk
    exact Ev.bind (contains_ev out (by omega) s) (ev_pos hc (Ev.now _))
  · have hn : s ∉ out := fun e => hc (goodM_iff.2 e)
    refine ⟨out ++ [s], ⟨?_, fun x hx => ?_, by simp [h.start]⟩, List.prefix_append _ _, by simp, ?_⟩
    · refine List.nodup_append.2 ⟨h.nd, by simp, fun a ha b hb => ?_⟩
      rw [List.mem_singleton] at hb
      subst hb
      exact fun e => hn (e ▸ ha)
    · rcases List.mem_append.1 hx with hx | hx
      · exact h.sound x hx
      · rw [List.mem_singleton] at hx; subst hx; exact hs
    · unfold impl_met.tk
      exact Ev.bind (contains_ev out (by omega) s) (ev_neg hc (ev_pos (by omega) (Ev.now _)))
theorem met_in {x : Int} (hx : Rc st S x) {sn : List Int} (hsn : ∀ y ∈ sn, Rc st S y) (hsl : sn.length ≤ 9) {i : Nat} (hi : i ≤ 9) {P : List Int → Prop} {out : List Int}
    (H : ∀ o1, Mt (st := st) (S := S) o1 → out <+: o1 → (∀ y ∈ sn, stepM S x y ∈ o1 ∧ stepM S y x ∈ o1) → ∃ R, P R ∧ Ev (fun k => impl_met.l0 k S o1 ((i + 1 : Nat) : Int)) R) :
    ∀ (m j : Nat) (o1 : List Int), j + m = sn.length → Mt (st := st) (S := S) o1 → out <+: o1 → (∀ y ∈ sn.take j, stepM S x y ∈ o1 ∧ stepM S y x ∈ o1) → ∃ R, P R ∧ Ev (fun k => impl_met.l1 k S o1 (i : Int) x sn (j : Int)) R
  | 0, j, o1, hj, hM, hp, hcl => by
    rw [List.take_of_length_le (by omega)] at hcl
    obtain ⟨R, r1, r2⟩ := H o1 hM hp hcl
    refine ⟨R, r1, ?_⟩
    refine Ev.step (fun k => by rw [impl_met.l1]) ?_
    rw [w64s (i := i) (by omega)]
    exact ev_neg (by omega) r2
  | m + 1, j, o1, hj, hM, hp, hcl => by
    have hlt : j < sn.length := by omega
    have h9 := hA.nine
    have ej : rd sn (j : Int) = sn[j] := rd_lt hlt
    have hy : Rc st S sn[j] := hsn _ (List.getElem_mem hlt)
    have bx := hx.bd hA
    have bY := hy.bd hA
    have r1 : (rd_L1 S x).length = S.length := hA.row x.toNat (by omega)
    have r2 : (rd_L1 S sn[j]).length = S.length := hA.row (sn[j]).toNat (by omega)
    have e1 : rd (rd_L1 S x) sn[j] = stepM S x sn[j] := rfl
    have e2 : rd (rd_L1 S sn[j]) x = stepM S sn[j] x := rfl
    obtain ⟨o2, m2, p2, i2, v2⟩ := tk_ev hA hM (Rc.step hx hy)
    have htk : sn.take (j + 1) = sn.take j ++ [sn[j]] := List.take_succ_eq_append_getElem hlt
    by_cases hq : sn[j] = x
    · obtain ⟨R, R1, R2⟩ := met_in hx hsn hsl hi H m (j + 1) o2 (by omega) m2 (hp.trans p2) (fun y hy' => by
        rw [htk] at hy'
        rcases List.mem_append.1 hy' with hy' | hy'
        · have := hcl y hy'; exact ⟨prefix_mem p2 this.1, prefix_mem p2 this.2⟩
        · rw [List.mem_singleton] at hy'
          subst hy'
          refine ⟨i2, ?_⟩
          rw [hq] at i2 ⊢; exact i2)
      refine ⟨R, R1, ?_⟩
      refine Ev.step (fun k => by rw [impl_met.l1]) ?_
      rw [ej, e1, w64s (i := j) (by omega)]
      exact ev_pos (by omega) (ev_pos ⟨by omega, by omega, by omega, by omega, by omega⟩ (Ev.bind v2 (ev_pos hq R2)))
    · obtain ⟨o3, m3, p3, i3, v3⟩ := tk_ev hA m2 (Rc.step hy hx)
      obtain ⟨R, R1, R2⟩ := met_in hx hsn hsl hi H m (j + 1) o3 (by omega) m3 ((hp.trans p2).trans p3) (fun y hy' => by
        rw [htk] at hy'
        rcases List.mem_append.1 hy' with hy' | hy'
        · have := hcl y hy'; exact ⟨prefix_mem p3 (prefix_mem p2 this.1), prefix_mem p3 (prefix_mem p2 this.2)⟩
        · rw [List.mem_singleton] at hy'
          subst hy'
          exact ⟨prefix_mem p3 i2, i3⟩)
      refine ⟨R, R1, ?_⟩
      refine Ev.step (fun k => by rw [impl_met.l1]) ?_
      rw [ej, e1, e2, w64s (i := j) (by omega)]
      exact ev_pos (by omega) (ev_pos ⟨by omega, by omega, by omega, by omega, by omega⟩ (Ev.bind v2 (ev_neg hq (ev_pos ⟨by omega, by omega⟩ (Ev.bind v3 R2)))))
theorem met_loop : ∀ (m i : Nat) (out : List Int), i + m = S.length → i ≤ out.length → Mt (st := st) (S := S) out → (∀ x ∈ out.take i, ∀ y ∈ out.take i, stepM S x y ∈ out) →
    ∃ R, (Mt (st := st) (S := S) R ∧ ∀ x ∈ R, ∀ y ∈ R, stepM S x y ∈ R) ∧ Ev (fun k => impl_met.l0 k S out (i : Int)) R := by
  intro m
  induction m with
  | zero =>
    intro i out hi hl hM hcl
    have hf := hM.few hA
    refine ⟨out, ⟨hM, ?_⟩, ?_⟩
    · rw [List.take_of_length_le (by omega)] at hcl; exact hcl
    · refine Ev.step (fun k => by rw [impl_met.l0]) ?_
      exact ev_neg (by omega) (Ev.now _)
  | succ m ih =>
    intro i out hi hl hM hcl
    have hf := hM.few hA
    have h9 := hA.nine
    by_cases hlt : i < out.length
    · have ex : rd out (i : Int) = out[i] := rd_lt hlt
      have hx : Rc st S out[i] := hM.sound _ (List.getElem_mem hlt)
      obtain ⟨R, r1, r2⟩ := met_in hA hx (sn := out) hM.sound (by omega) (i := i) (by omega) (out := out) (P := fun R => Mt (st := st) (S := S) R ∧ ∀ x ∈ R, ∀ y ∈ R, stepM S x y ∈ R) (fun o1 m1 p1 c1 => by
        have ht : o1.take (i + 1) = out.take (i + 1) := by
          obtain ⟨t, rfl⟩ := p1
          rw [List.take_append_of_le_length (by omega)]
        refine ih (i + 1) o1 (by omega) (by have := p1.length_le; omega) m1 (fun a ha b hb => ?_)
        rw [ht, List.take_succ_eq_append_getElem hlt] at ha hb
        have sub : ∀ z, z ∈ out.take i → z ∈ out := fun z hz => List.mem_of_mem_take hz
        rcases List.mem_append.1 ha with ha | ha
        · rcases List.mem_append.1 hb with hb | hb
          · exact prefix_mem p1 (hcl a ha b hb)
          · rw [List.mem_singleton] at hb; subst hb; exact (c1 a (sub a ha)).2
        · rw [List.mem_singleton] at ha; subst ha
          rcases List.mem_append.1 hb with hb | hb
          · exact (c1 b (sub b hb)).1
          · rw [List.mem_singleton] at hb; subst hb; exact (c1 _ (List.getElem_mem hlt)).1) out.length 0 out (by omega) hM (List.prefix_refl _) (fun y hy => by simp at hy)
      refine ⟨R, r1, ?_⟩
      refine Ev.step (fun k => by rw [impl_met.l0]) ?_
      rw [ex]
      refine ev_pos (by omega) (ev_pos (by omega) ?_)
      unfold slices_Clone_int64_int64.f
      rw [if_pos (by omega)]
      exact ev_some r2
    · refine ⟨out, ⟨hM, ?_⟩, ?_⟩
      · rw [List.take_of_length_le (by omega)] at hcl; exact hcl
      · refine Ev.step (fun k => by rw [impl_met.l0]) ?_
        exact ev_neg (by omega) (Ev.now _)
theorem impl_met_ev : ∃ R : List Int, R.Nodup ∧ R.length ≤ 9 ∧ (∀ x, x ∈ R ↔ Rc st S x) ∧ Ev (fun k => impl_met.f k st S g) R := by
  obtain ⟨R, ⟨r1, r2⟩, r3⟩ := met_loop hA S.length 0 [st] (by omega) (by simp) ⟨by simp, fun x hx => by rw [List.mem_singleton] at hx; subst hx; exact Rc.start, by simp⟩ (fun x hx => by simp at hx)
  refine ⟨R, r1.nd, by have := r1.few hA; have := hA.nine; omega, fun x => ⟨r1.sound x, fun h => ?_⟩, r3⟩
  induction h with
  | start => exact r1.start
  | step _ _ iha ihb => exact r2 _ iha _ ihb
end
end Go.Proofs.Ytmnpdkhkgddojaa.E
namespace Go.Proofs.Ytmnpdkhkgddojaa.E
set_option linter.unusedVariables false
set_option linter.unusedSectionVars false
open Go.RowKit Go.Proofs.YtmnpdkhkgddojaaW.PrintWords Go.Proofs.Ytmnpdkhkgddojaa.Base Go.Proofs.Ytmnpdkhkgddojaa.Auto

theorem less_eq (a b : Int) : cmp_Less_int64.f a b = some (decide (a < b)) := by
  unfold cmp_Less_int64.f cmp_isNaN_int64.f
  simp
structure InsI (l x : List Int) (i j : Nat) : Prop where
  len : x.length = l.length
  perm : x.Perm l
  rest : ∀ p q, p < q → q ≤ i → p ≠ j → q ≠ j → x.getD p 0 ≤ x.getD q 0
  here : ∀ q, j < q → q ≤ i → x.getD j 0 ≤ x.getD q 0
theorem swap_get {x : List Int} {a b p : Nat} (ha : a < x.length) (hb : b < x.length) (hab : a ≠ b) : ((x.set b (x.getD a 0)).set a (x.getD b 0)).getD p 0 = if p = a then x.getD b 0 else if p = b then x.getD a 0 else x.getD p 0 := by
  by_cases h1 : p = a
  · subst h1; rw [if_pos rfl, get_set_eq (by simpa using ha)]
  · rw [if_neg h1, get_set_ne (fun e => h1 e.symm)]
    by_cases h2 : p = b
    · subst h2; rw [if_pos rfl, get_set_eq hb]
    · rw [if_neg h2, get_set_ne (fun e => h2 e.symm)]
theorem swap_perm {x : List Int} {a b : Nat} (ha : a < x.length) (hb : b < x.length) : ((x.set b (x.getD a 0)).set a (x.getD b 0)).Perm x := by
  have e1 : x.getD a 0 = x[a] := by rw [List.getD_eq_getElem?_getD, List.getElem?_eq_getElem ha]; rfl
  have e2 : x.getD b 0 = x[b] := by rw [List.getD_eq_getElem?_getD, List.getElem?_eq_getElem hb]; rfl
  rw [e1, e2]
  exact List.set_set_perm hb ha
theorem ins_in {l : List Int} (hl : l.length ≤ 12) {i : Nat} (hi : i < l.length) {P : List Int → Prop}
    (H : ∀ x : List Int, x.length = l.length → x.Perm l → Srt x (i + 1) → ∃ R, P R ∧ Ev (fun k => slices_insertionSortOrdered_int64.l0 k x 0 (l.length : Int) ((i + 1 : Nat) : Int)) R) :
    ∀ (j : Nat) (x : List Int), j ≤ i → InsI l x i j → ∃ R, P R ∧ Ev (fun k => slices_insertionSortOrdered_int64.l1 k x 0 (l.length : Int) (i : Int) (j : Int)) R
  | 0, x, hj, hI => by
    obtain ⟨R, r1, r2⟩ := H x hI.len hI.perm (fun p q h1 h2 => by
      by_cases e : p = 0
      · subst e; exact hI.here q h1 (by omega)
      · exact hI.rest p q h1 (by omega) e (by omega))
    refine ⟨R, r1, ?_⟩
    refine Ev.step (fun k => by rw [slices_insertionSortOrdered_int64.l1]) ?_
    rw [w64s (i := i) (by omega)]
    exact ev_neg (by omega) r2
  | j + 1, x, hj, hI => by
    have hlen := hI.len
    have ew : wrap64 (((j + 1 : Nat) : Int) - 1) = (j : Int) := w64p (by omega)
    have ea : rd x ((j + 1 : Nat) : Int) = x.getD (j + 1) 0 := rfl
    have eb : rd x (j : Int) = x.getD j 0 := rfl
    by_cases hx : x.getD (j + 1) 0 < x.getD j 0
    · obtain ⟨R, r1, r2⟩ := ins_in hl hi H j ((x.set (j + 1) (x.getD j 0)).set j (x.getD (j + 1) 0)) (by omega) ⟨by simpa using hlen, (swap_perm (by omega) (by omega)).trans hI.perm, fun p q h1 h2 h3 h4 => by
          rw [swap_get (by omega) (by omega) (by omega), swap_get (by omega) (by omega) (by omega), if_neg h3, if_neg h4]
          by_cases e1 : p = j + 1
          · rw [if_pos e1, if_neg (by omega)]
            exact hI.rest j q (by omega) h2 (by omega) (by omega)
          · rw [if_neg e1]
            by_cases e2 : q = j + 1
            · rw [if_pos e2]; exact hI.rest p j (by omega) (by omega) e1 (by omega)
            · rw [if_neg e2]; exact hI.rest p q h1 h2 e1 e2, fun q h1 h2 => by
          rw [swap_get (by omega) (by omega) (by omega), swap_get (by omega) (by omega) (by omega), if_pos rfl, if_neg (by omega)]
          by_cases e2 : q = j + 1
          · rw [if_pos e2]; omega
          · rw [if_neg e2]; exact hI.here q (by omega) h2⟩
      refine ⟨R, r1, ?_⟩
      refine Ev.step (fun k => by rw [slices_insertionSortOrdered_int64.l1]) ?_
      rw [ew, ea, eb, less_eq, decide_eq_true hx]
      exact ev_pos (by omega) (ev_pos (by omega) (ev_pos (by omega) (ev_pos (by omega) (ev_pos (by omega) (ev_some (ev_pos rfl r2))))))
    · obtain ⟨R, r1, r2⟩ := H x hI.len hI.perm (fun p q h1 h2 => by
        by_cases e1 : p = j + 1
        · subst e1; exact hI.here q h1 (by omega)
        · by_cases e2 : q = j + 1
          · subst e2
            by_cases e3 : p = j
            · subst e3; omega
            · have := hI.rest p j (by omega) (by omega) e1 (by omega); omega
          · exact hI.rest p q h1 (by omega) e1 e2)
      refine ⟨R, r1, ?_⟩
      refine Ev.step (fun k => by rw [slices_insertionSortOrdered_int64.l1]) ?_
      rw [ew, ea, eb, less_eq, decide_eq_false hx, w64s (i := i) (by omega)]
      exact ev_pos (by omega) (ev_pos (by omega) (ev_pos (by omega) (ev_pos (by omega) (ev_pos (by omega) (ev_some (ev_neg (by decide) r2))))))
theorem ins_loop {l : List Int} (hl : l.length ≤ 12) : ∀ (m i : Nat) (x : List Int), i + m = max l.length 1 → 1 ≤ i → x.length = l.length → x.Perm l → Srt x i →
    ∃ R : List Int, (R.Perm l ∧ Srt R R.length) ∧ Ev (fun k => slices_insertionSortOrdered_int64.l0 k x 0 (l.length : Int) (i : Int)) R
  | 0, i, x, hi, h1, hx, hp, hs => by
    refine ⟨x, ⟨hp, fun p q a b => ?_⟩, ?_⟩
    · exact hs p q a (by omega)
    · refine Ev.step (fun k => by rw [slices_insertionSortOrdered_int64.l0]) ?_
      exact ev_neg (by omega) (Ev.now _)
  | m + 1, i, x, hi, h1, hx, hp, hs => by
    obtain ⟨R, r1, r2⟩ := ins_in hl (by omega : i < l.length) (fun x' hx' hp' hs' => ins_loop hl m (i + 1) x' (by omega) (by omega) hx' hp' hs') i x (Nat.le_refl _) ⟨hx, hp, fun p q a b c d => hs p q a (by omega), fun q a b => by omega⟩
    refine ⟨R, r1, ?_⟩
    refine Ev.step (fun k => by rw [slices_insertionSortOrdered_int64.l0]) ?_
    exact ev_pos (by omega) r2
theorem slices_Sort_ev {l : List Int} (hl : l.length ≤ 12) : ∃ R : List Int, (R.Perm l ∧ Srt R R.length) ∧ Ev (fun k => slices_Sort_int64_int64.f k l) R := by
  obtain ⟨R, r1, r2⟩ := ins_loop hl (max l.length 1 - 1) 1 l (by omega) (Nat.le_refl _) rfl (List.Perm.refl _) (fun p q a b => by omega)
  refine ⟨R, r1, ?_⟩
  unfold slices_Sort_int64_int64.f
  have e : IntKind.u64.wrap (l.length : Int) = (l.length : Int) := by simp [IntKind.wrap, IntKind.bits, IntKind.signed]; omega
  rw [e]
  unfold bits_Len.f
  rw [if_pos ⟨by omega, by omega⟩]
  refine ev_some ?_
  unfold slices_pdqsortOrdered_int64.f
  refine Ev.bind (ev_pos ⟨by omega, by omega, by omega, by omega⟩ ?_) (Ev.now _)
  unfold slices_insertionSortOrdered_int64.f
  rw [show wrap64 ((0 : Int) + 1) = ((1 : Nat) : Int) from by unfold wrap64; decide]
  exact r2
end Go.Proofs.Ytmnpdkhkgddojaa.E
namespace Go.Proofs.Ytmnpdkhkgddojaa.E
set_option linter.unusedVariables false
set_option linter.unusedSectionVars false
open Go.RowKit Go.Proofs.YtmnpdkhkgddojaaW.PrintWords Go.Proofs.Ytmnpdkhkgddojaa.Base Go.Proofs.Ytmnpdkhkgddojaa.Auto

def marksL (m : Int) : List (List Int) → List (List Int)
  | [] => []
  | r :: S => marks m r.length :: marksL (m + r.length) S
def sumL : List (List Int) → Nat
  | [] => 0
  | r :: S => r.length + sumL S
theorem sumL_le : ∀ S : List (List Int), (∀ r ∈ S, r.length ≤ 1048576) → sumL S ≤ 1048576 * S.length
  | [], _ => by simp [sumL]
  | r :: S, h => by
    have h1 := h r List.mem_cons_self
    have h2 := sumL_le S (fun r hr => h r (List.mem_cons_of_mem _ hr))
    simp only [sumL, List.length_cons]
    omega
theorem marksL_length : ∀ (S : List (List Int)) (m : Int), (marksL m S).length = S.length
  | [], _ => rfl
  | r :: S, m => by simp [marksL, marksL_length S]
theorem sumL_drop : ∀ (S : List (List Int)) (i : Nat), i < S.length → sumL (S.drop i) = (S.getD i []).length + sumL (S.drop (i + 1))
  | r :: S, 0, _ => by simp [sumL]
  | r :: S, i + 1, h => by
    have := sumL_drop S i (by simpa using h)
    simpa using this
theorem marksL_getD : ∀ (S : List (List Int)) (m : Int) (j : Nat), j < S.length → (marksL m S).getD j [] = marks (m + (sumL S : Int) - (sumL (S.drop j) : Int)) (S.getD j []).length
  | r :: S, m, 0, _ => by simp [marksL]
  | r :: S, m, j + 1, h => by
    have := marksL_getD S (m + r.length) j (by simpa using h)
    simp only [marksL, List.getD_cons_succ, List.drop_succ_cons, sumL]
    rw [this, show m + (r.length : Int) + (sumL S : Int) - (sumL (S.drop j) : Int) = m + ((r.length + sumL S : Nat) : Int) - (sumL (S.drop j) : Int) by omega]
section
variable {S : List (List Int)} (hn : S.length ≤ 1048576) (hr : ∀ j, j < S.length → (S.getD j []).length ≤ 1048576)
include hn hr
theorem sumL_big : sumL S ≤ 1099511627776 := by
  have := sumL_le S (fun r h => by
    obtain ⟨j, hj, rfl⟩ := List.getElem_of_mem h
    have := hr j hj
    rwa [List.getD_eq_getElem?_getD, List.getElem?_eq_getElem hj] at this)
  omega
theorem sumL_drop_le : ∀ j, sumL (S.drop j) ≤ sumL S
  | 0 => by simp
  | j + 1 => by
    have := sumL_drop_le j
    rcases Nat.lt_or_ge j S.length with h | h
    · have := sumL_drop S j h
      omega
    · rw [List.drop_of_length_le (by omega)]
      simp [sumL]
theorem markSS_loop {m0 : Int} (h0 : 0 ≤ m0) (h1 : m0 ≤ 1099511627776) : ∀ (m i : Nat) (x : List (List Int)), i + m = S.length → x.length = S.length → (∀ j, j < i → x.getD j [] = (marksL m0 S).getD j []) → (∀ j, i ≤ j → j < S.length → x.getD j [] = S.getD j []) →
    Ev (fun k => laws_markInt64SS.l0 k x (m0 + (sumL S : Int) - (sumL (S.drop i) : Int)) (i : Int)) (m0 + (sumL S : Int), marksL m0 S)
  | 0, i, x, hi, hx, hd, hk => by
    refine Ev.step (fun k => by rw [laws_markInt64SS.l0]) ?_
    have e : x = marksL m0 S := ext_rows (by rw [hx, marksL_length]) (fun j hj => by rw [marksL_length] at hj; exact hd j (by omega))
    rw [List.drop_of_length_le (by omega)]
    refine ev_neg (by omega) (ev_now ?_)
    rw [e]
    simp [sumL]
  | m + 1, i, x, hi, hx, hd, hk => by
    have hb := sumL_big hn hr
    have hdl := sumL_drop_le hn hr i
    have e1 := sumL_drop S i (by omega)
    have hl := hr i (by omega)
    have e2 := hk i (Nat.le_refl _) (by omega)
    refine Ev.step (fun k => by rw [laws_markInt64SS.l0]) ?_
    rw [rdL_nat, e2]
    refine ev_pos (by omega) (ev_pos (by omega) (Ev.bind (markInt64S_ev (S.getD i []) _ (by omega) (by omega) hl) ?_))
    rw [w64s (by omega), show m0 + (sumL S : Int) - (sumL (S.drop i) : Int) + ((S.getD i []).length : Int) = m0 + (sumL S : Int) - (sumL (S.drop (i + 1)) : Int) by omega]
    refine markSS_loop h0 h1 m (i + 1) _ (by omega) (by simpa using hx) (fun j hj => ?_) (fun j hj hjl => ?_)
    · by_cases e : i = j
      · subst e
        rw [show ((i : Int)).toNat = i from rfl, getr_set_eq (by omega), marksL_getD S m0 i (by omega)]
      · rw [show ((i : Int)).toNat = i from rfl, getr_set_ne e]
        exact hd j (by omega)
    · rw [show ((i : Int)).toNat = i from rfl, getr_set_ne (by omega)]
      exact hk j (by omega) hjl
theorem markSS_ev {m0 : Int} (h0 : 0 ≤ m0) (h1 : m0 ≤ 1099511627776) : Ev (fun k => laws_markInt64SS.f k S m0) (m0 + (sumL S : Int), marksL m0 S) := by
  unfold laws_markInt64SS.f
  have := markSS_loop hn hr h0 h1 S.length 0 S (by omega) rfl (fun j hj => by omega) (fun _ _ _ => rfl)
  simpa using this
end
theorem markA_ev {S : List (List Int)} {g : List Int} (hs : SmallA S g) (st : Int) {m0 : Int} (h0 : 0 ≤ m0) (h1 : m0 ≤ 1099511627776) :
    Ev (fun k => laws_markAutomaton.f k st S g m0) (m0 + (sumL S : Int) + (g.length : Int), marksL m0 S, marks (m0 + (sumL S : Int)) g.length) := by
  have hb := sumL_big hs.rows hs.each
  unfold laws_markAutomaton.f
  exact Ev.bind (markSS_ev hs.rows hs.each h0 h1) (Ev.bind (markInt64S_ev g _ (by show 0 ≤ _; simp only; omega) (by simp only; omega) hs.good) (Ev.now _))
end Go.Proofs.Ytmnpdkhkgddojaa.E
namespace Go.Proofs.Ytmnpdkhkgddojaa.E
set_option linter.unusedVariables false
set_option linter.unusedSectionVars false
open Go.RowKit Go.Proofs.YtmnpdkhkgddojaaW.PrintWords Go.Proofs.Ytmnpdkhkgddojaa.Base Go.Proofs.Ytmnpdkhkgddojaa.Auto
def marked (B : List Bool) : Nat → Nat → List Int
  | 0, _ => []
  | m + 1, i => (if B.getD i false = true then [(i : Int)] else []) ++ marked B m (i + 1)
theorem marked_mem (B : List Bool) : ∀ (m i : Nat) (x : Int), x ∈ marked B m i ↔ ∃ j : Nat, x = j ∧ i ≤ j ∧ j < i + m ∧ B.getD j false = true
  | 0, i, x => by
    constructor
    · intro h; cases h
    · rintro ⟨j, _, h1, h2, _⟩; omega
  | m + 1, i, x => by
    simp only [marked, List.mem_append, marked_mem B m (i + 1) x]
    constructor
    · rintro (h | ⟨j, h0, h1, h2, h3⟩)
      · split at h
        · rename_i hb
          rw [List.mem_singleton] at h
          exact ⟨i, h, by omega, by omega, hb⟩
        · cases h
      · exact ⟨j, h0, by omega, by omega, h3⟩
    · rintro ⟨j, h0, h1, h2, h3⟩
      by_cases e : j = i
      · subst e; left; rw [if_pos h3, h0]; simp
      · right; exact ⟨j, h0, by omega, by omega, h3⟩
theorem marked_asc (B : List Bool) : ∀ (m i : Nat), (marked B m i).Pairwise (· < ·)
  | 0, i => List.Pairwise.nil
  | m + 1, i => by
    simp only [marked]
    split
    · refine List.pairwise_cons.2 ⟨fun y hy => ?_, marked_asc B m (i + 1)⟩
      obtain ⟨j, h0, h1, _⟩ := (marked_mem B m (i + 1) y).1 hy
      omega
    · exact marked_asc B m (i + 1)
theorem marked_length (B : List Bool) : ∀ (m i : Nat), (marked B m i).length ≤ m
  | 0, i => by simp [marked]
  | m + 1, i => by
    have := marked_length B m (i + 1)
    simp only [marked, List.length_append]
    split <;> simp <;> omega
theorem spec_marked_loop (B : List Bool) (hB : B.length ≤ 9) : ∀ (m i : Nat) (out : List Int), i + m = B.length → out.length ≤ i → Ev (fun k => spec_ReachedStates.l0 k B out (i : Int)) (out ++ marked B m i, 0)
  | 0, i, out, hi, ho => by
    refine Ev.step (fun k => by rw [spec_ReachedStates.l0]) ?_
    exact ev_neg (by omega) (ev_now (by simp [marked]))
  | m + 1, i, out, hi, ho => by
    refine Ev.step (fun k => by rw [spec_ReachedStates.l0]) ?_
    rw [show rdOf false B (i : Int) = B.getD i false from rfl, w64s (i := i) (by omega)]
    refine ev_pos (by omega) (ev_pos (by omega) (ev_ite (fun hx => ev_pos (by omega) ?_) (fun hx => ?_)))
    · have := spec_marked_loop B hB m (i + 1) (out ++ [(i : Int)]) (by omega) (by simp; omega)
      simp only [marked]
      rw [if_pos hx]
      simpa using this
    · have := spec_marked_loop B hB m (i + 1) out (by omega) (by omega)
      simp only [marked]
      rw [if_neg hx]
      simpa using this
theorem both_ReachedStates {S : List (List Int)} {g : List Int} (hs : SmallA S g) (st : Int) : ∃ r : List Int × Int, r.1.length ≤ 1048576 ∧ Ev (fun k => spec_ReachedStates.f k st S g) r ∧ Ev (fun k => impl_ReachedStates.f k st S g) r := by
  by_cases hc : isAutM st S g = true
  · have hA := isAutM_sound hc
    have h9 := hA.nine
    obtain ⟨B, b1, b2, b3⟩ := spec_l06Reached_ev hA
    obtain ⟨M, m1, m2, m3, m4⟩ := impl_met_ev hA
    obtain ⟨R, ⟨r1, r2⟩, r3⟩ := slices_Sort_ev (l := M) (by omega)
    have hR : R = marked B B.length 0 := by
      refine asc_ext (srt_asc r2 (r1.symm.nodup m1)) (marked_asc B _ _) (fun x => ?_)
      rw [r1.mem_iff, m3, marked_mem]
      constructor
      · intro h
        have hb := h.bd hA
        exact ⟨x.toNat, by omega, by omega, by omega, (b2 x.toNat (by omega)).2 (by rwa [show ((x.toNat : Nat) : Int) = x by omega])⟩
      · rintro ⟨j, rfl, _, h2, h3⟩
        exact (b2 j (by omega)).1 h3
    have hml := marked_length B B.length 0
    refine ⟨(marked B B.length 0, 0), by simp only; omega, ?_, ?_⟩
    · unfold spec_ReachedStates.f
      refine Ev.bind (spec_l06Is_ev hs st) (ev_pos hc (Ev.bind b3 ?_))
      have := spec_marked_loop B (by omega) B.length 0 [] (by omega) (by simp)
      simpa using this
    · unfold impl_ReachedStates.f impl_reachedStates.f
      rw [← hR]
      exact Ev.bind (impl_IsAutomaton_ev hs st) (ev_pos hc (Ev.bind (Ev.bind m4 (Ev.bind r3 (Ev.now _))) (Ev.now _)))
  · refine ⟨([], 1), by simp, ?_, ?_⟩
    · unfold spec_ReachedStates.f
      exact Ev.bind (spec_l06Is_ev hs st) (ev_neg hc (Ev.now _))
    · unfold impl_ReachedStates.f
      exact Ev.bind (impl_IsAutomaton_ev hs st) (ev_neg hc (Ev.now _))
end Go.Proofs.Ytmnpdkhkgddojaa.E
namespace Go.Proofs.Ytmnpdkhkgddojaa.Pure
open Go.RowKit Go.Proofs.YtmnpdkhkgddojaaW.PrintWords Go.Proofs.Ytmnpdkhkgddojaa.Base Go.Proofs.Ytmnpdkhkgddojaa.Auto Go.Proofs.Ytmnpdkhkgddojaa.E
theorem FnExactReachedStates : ∀ (st : Int) (S : List (List Int)) (g : List Int), (Lit.int .i64 st).wf = true → S.length ≤ maxLen → (∀ y ∈ S, y.length ≤ maxLen ∧ ∀ x ∈ y, (Lit.int .i64 x).wf = true) → g.length ≤ maxLen → (∀ x ∈ g, (Lit.int .i64 x).wf = true) → ∃ k, laws_FnExactReachedStates.f k st S g = some true := by
  intro st S g _ hS hm hg _
  apply Ev.rounds
  obtain ⟨r, h1, h2⟩ := szAutomaton_ev st S g hS (fun j hj => by
    have : S.getD j [] ∈ S := by rw [List.getD_eq_getElem?_getD, List.getElem?_eq_getElem hj]; exact List.getElem_mem hj
    exact (hm _ this).1) hg
  unfold laws_FnExactReachedStates.f
  refine Ev.bind h1 ?_
  rcases h2 with h2 | ⟨h2, _, hs⟩
  · exact ev_pos h2 (Ev.now _)
  · obtain ⟨q, hq, q1, q2⟩ := both_ReachedStates hs st
    have hb' := sumL_big hs.rows hs.each
    have hg' := hs.good
    refine ev_neg (by omega) (Ev.bind (toA_ev hs st) (Ev.bind q1 (Ev.bind (toA_ev hs st) (Ev.bind q2 (Ev.bind (eqInt64S_ev _ hq) (ev_pos rfl ?_))))))
    refine Ev.step (fun k => by rw [laws_FnExactReachedStates.j0]) ?_
    refine ev_neg (by simp) (Ev.bind (toA_ev hs st) (Ev.bind (eqA_ev hs st) (ev_pos rfl (Ev.bind (markA_ev hs st (by decide) (by decide)) (ev_neg (by simp only; omega) (Ev.bind (eqInt64S_ev _ hq) (ev_pos rfl ?_)))))))
    refine Ev.step (fun k => by rw [laws_FnExactReachedStates.j1]) ?_
    refine ev_neg (by simp) ?_
    refine Ev.bind (markInt64S_ev _ 1 (by decide) (by decide) hq) (Ev.bind (heldInt64S_ev _ 1 (by decide) (by decide) hq) (ev_neg (by omega) (ev_pos rfl (Ev.bind (toA_ev hs st) (Ev.bind q2 (Ev.bind (eqInt64S_ev _ hq) (ev_pos rfl ?_)))))))
    refine Ev.step (fun k => by rw [laws_FnExactReachedStates.j2]) ?_
    refine ev_neg (by simp) ?_
    exact Ev.bind (heldInt64S_ev _ 1 (by decide) (by decide) hq) (ev_neg (by omega) (ev_pos rfl (Ev.now _)))
end Go.Proofs.Ytmnpdkhkgddojaa.Pure
namespace Go.Proofs.Ytmnpdkhkgddojaa.Open
set_option linter.unusedVariables false
set_option linter.unusedSectionVars false
open Go.RowKit Go.ChangeShapes Go.WideShapes Go.ChangeAt Go.Deep Go.Proofs.YtmnpdkhkgddojaaW.PrintWords
section
variable {H : Type} {enc : TypeId × Value → H} {P : Program} {w : World} {base : Nat} {held : Bool}

def Opens {α : Type} (d : Kd α) (Q : α → Prop) (enc : TypeId × Value → H) (P : Program) (w : World) (base : Nat) (held : Bool) (t : TypeId) : Prop :=
  ∀ (fuel : Nat) (cs : List Value) (x : DataW H × List MemPlace), DataW.trod enc P w base (fun _ => true) held fuel t cs = some x → ∃ a, d.K w a cs ∧ Q a
theorem opens_int {t : TypeId} {k : IntKind} (ht : P.underlying t = some (.int k)) : Opens (Kd.int k) (fun n => (Lit.int k n).wf = true) enc P w base held t := by
  intro fuel cs x h
  obtain ⟨n, rfl, _, hw⟩ := DataW.trod_int ht h
  exact ⟨n, rfl, hw⟩
theorem opens_slice {α : Type} [Inhabited α] {d : Kd α} {Q : α → Prop} {t e : TypeId} (ht : P.underlying t = some (.slice e)) (hc : P.cellsOf e = d.sz) (he : Opens d Q enc P w base held e) :
    Opens (Kd.slice e d) (fun xs => xs.length ≤ maxLen ∧ ∀ y ∈ xs, Q y) enc P w base held t := by
  intro fuel cs x h
  rcases open_slice ht h with ⟨rfl, _⟩ | ⟨a, len, cap, m, n, D, Pl, rfl, _, hl, hm, hmm, _, each⟩
  · exact ⟨[], ⟨none, 0, rfl, Nat.le_refl _, rfl, by simp, fun h0 => by simp at h0⟩, by simp, by simp⟩
  · simp only [if_true] at hmm
    have hx : ∀ i, i < len → ∃ y : α, Q y ∧ ∃ cs', w.cells? base (a.add (i * P.cellsOf e)) (P.cellsOf e) = some cs' ∧ d.K w y cs' := by
      intro i hi
      obtain ⟨cs', h1, h2⟩ := each i (by omega)
      obtain ⟨y, hk, hq⟩ := he _ _ _ h2
      exact ⟨y, hq, cs', h1, hk⟩
    obtain ⟨f, hf⟩ := choose_lt hx
    refine ⟨(List.range len).map f, ⟨some a, cap, by simp, by simpa using hl, by simp, by unfold maxLen at hm; simp; omega, fun _ => ⟨a, rfl, fun j p hj => ?_⟩⟩, by simp; omega, fun y hy => ?_⟩
    · rw [List.getElem?_map] at hj
      have hjl : j < len := by
        rcases Nat.lt_or_ge j len with h | h
        · exact h
        · rw [List.getElem?_eq_none (by simpa using h)] at hj
          cases hj
      rw [List.getElem?_range hjl] at hj
      obtain rfl := Option.some.inj hj
      obtain ⟨_, cs', h1, h2⟩ := hf j hjl
      obtain ⟨_, h3, h4⟩ := World.cells?_some h1
      refine ⟨cs', d.K_len h2, h2, fun i u hu => ?_⟩
      have hi : i < P.cellsOf e := by
        rw [← h3]
        exact (List.getElem?_eq_some_iff.1 hu).1
      have h5 := h4 i hi
      rw [hu] at h5
      rw [Go.Deep.add_add] at h5
      rw [← hc]
      exact h5
    · obtain ⟨i, hi, rfl⟩ := List.mem_map.1 hy
      exact (hf i (List.mem_range.1 hi)).1
theorem slice_in {α : Type} [Inhabited α] {d : Kd α} {Q : α → Prop} {t e : TypeId} {v : Value} {fuel : Nat} {x : DataW H × List MemPlace} (ht : P.underlying t = some (.slice e)) (hc : P.cellsOf e = d.sz) (he : Opens d Q enc P w base held e)
    (h : DataW.trod enc P w base (fun _ => true) held fuel t [v] = some x) : ∃ (A : Option Addr) (c : Nat) (xs : List α), v = .slice A xs.length c ∧ xs.length ≤ c ∧ xs.length ≤ maxLen ∧ d.C w A xs.length xs ∧ ∀ y ∈ xs, Q y := by
  obtain ⟨xs, ⟨A, c, hv, hl, hC⟩, hm, hq⟩ := opens_slice ht hc he _ _ _ h
  obtain rfl : v = .slice A xs.length c := by simpa using hv
  exact ⟨A, c, xs, rfl, hl, hm, hC, hq⟩
end
end Go.Proofs.Ytmnpdkhkgddojaa.Open
