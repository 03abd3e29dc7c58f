/- Automata as plain lists. No program in sight. -/
import Derived.Test.YtbecakjoccegaaaDoorBase
namespace Go.Proofs.YtbecakjoccegaaaDoor.Auto
set_option linter.unusedVariables false
set_option linter.unusedSectionVars false
open Go.RowKit Go.Proofs.YtbecakjoccegaaaDoorW.PrintWords Go.Proofs.YtbecakjoccegaaaDoor.Base

def inS (m : Nat) (s : Int) : Bool := decide (0 ≤ s) && decide (s < m)
theorem inS_iff {m : Nat} {s : Int} : inS m s = true ↔ 0 ≤ s ∧ s < m := by
  unfold inS; rw [Bool.and_eq_true, decide_eq_true_eq, decide_eq_true_eq]
def rowOk (m : Nat) (row : List Int) : Bool := decide (row.length = m) && row.all (inS m)
def goodFrom (m : Nat) (g : List Int) : Nat → Nat → Bool
  | 0, _ => true
  | k + 1, i => (inS m (g.getD i 0) && (decide (i = 0) || decide (g.getD (i - 1) 0 < g.getD i 0))) && goodFrom m g k (i + 1)
def isAutM (st : Int) (S : List (List Int)) (g : List Int) : Bool :=
  decide (1 ≤ S.length) && decide (S.length ≤ 9) && inS S.length st && S.all (rowOk S.length) && goodFrom S.length g g.length 0
def stepM (S : List (List Int)) (a b : Int) : Int := (S.getD a.toNat []).getD b.toNat 0
structure IsA (st : Int) (S : List (List Int)) (g : List Int) : Prop where
  one : 1 ≤ S.length
  nine : S.length ≤ 9
  start : 0 ≤ st ∧ st < S.length
  row : ∀ i, i < S.length → (S.getD i []).length = S.length
  step : ∀ i j, i < S.length → j < S.length → 0 ≤ (S.getD i []).getD j 0 ∧ (S.getD i []).getD j 0 < S.length
  good : ∀ i, i < g.length → 0 ≤ g.getD i 0 ∧ g.getD i 0 < S.length
  asc : ∀ i, 0 < i → i < g.length → g.getD (i - 1) 0 < g.getD i 0
theorem goodFrom_sound {m : Nat} {g : List Int} : ∀ (k i : Nat), goodFrom m g k i = true → ∀ j, i ≤ j → j < i + k → (0 ≤ g.getD j 0 ∧ g.getD j 0 < m) ∧ (0 < j → g.getD (j - 1) 0 < g.getD j 0)
  | 0, i, _, j, h1, h2 => by omega
  | k + 1, i, h, j, h1, h2 => by
    simp only [goodFrom, Bool.and_eq_true, Bool.or_eq_true, decide_eq_true_eq, inS_iff] at h
    by_cases e : j = i
    · subst e
      refine ⟨h.1.1, fun h0 => ?_⟩
      rcases h.1.2 with h3 | h3
      · omega
      · exact h3
    · exact goodFrom_sound k (i + 1) h.2 j (by omega) (by omega)
theorem all_getD {α : Type} {p : α → Bool} {l : List α} (h : l.all p = true) (x : α) {i : Nat} (hi : i < l.length) : p (l.getD i x) = true := by
  rw [List.getD_eq_getElem?_getD, List.getElem?_eq_getElem hi]
  exact List.all_eq_true.1 h _ (List.getElem_mem hi)
theorem isAutM_sound {st : Int} {S : List (List Int)} {g : List Int} (h : isAutM st S g = true) : IsA st S g := by
  unfold isAutM at h
  simp only [Bool.and_eq_true, decide_eq_true_eq, inS_iff] at h
  obtain ⟨⟨⟨⟨h1, h2⟩, h3⟩, h4⟩, h5⟩ := h
  have hr : ∀ i, i < S.length → rowOk S.length (S.getD i []) = true := fun i hi => all_getD h4 [] hi
  have hg := goodFrom_sound g.length 0 h5
  refine ⟨h1, h2, h3, fun i hi => ?_, fun i j hi hj => ?_, fun i hi => (hg i (by omega) (by omega)).1, fun i h0 hi => (hg i (by omega) (by omega)).2 h0⟩
  · have := hr i hi
    simp only [rowOk, Bool.and_eq_true, decide_eq_true_eq] at this
    exact this.1
  · have := hr i hi
    simp only [rowOk, Bool.and_eq_true, decide_eq_true_eq] at this
    exact inS_iff.1 (all_getD this.2 0 (by omega))
/-- The states of a node: those of its children taken one by one. -/
def stIn (S : List (List Int)) (v : Nat) : List Nat → List Int → List Int
  | [], out => out
  | c :: cs, out => stIn S v cs (out.set v (stepM S (out.getD v 0) (out.getD c 0)))
/-- A list of n states. -/
structure Sts (m n : Nat) (out : List Int) : Prop where
  len : out.length = n
  mem : ∀ j, j < n → 0 ≤ out.getD j 0 ∧ out.getD j 0 < m
theorem Sts.set {m n : Nat} {out : List Int} (h : Sts m n out) (v : Nat) (hv : v < n) {x : Int} (hx : 0 ≤ x ∧ x < m) : Sts m n (out.set v x) := by
  refine ⟨by rw [List.length_set, h.len], fun j hj => ?_⟩
  by_cases e : v = j
  · subst e; rw [get_set_eq (by rw [h.len]; exact hv)]; exact hx
  · rw [get_set_ne e]; exact h.mem j hj
theorem IsA.stepM {st : Int} {S : List (List Int)} {g : List Int} (h : IsA st S g) {a b : Int} (ha : 0 ≤ a ∧ a < S.length) (hb : 0 ≤ b ∧ b < S.length) : 0 ≤ stepM S a b ∧ stepM S a b < S.length :=
  h.step a.toNat b.toNat (by omega) (by omega)
theorem Sts.zero {m : Nat} (hm : 1 ≤ m) (n : Nat) : Sts m n (List.replicate n 0) := ⟨by simp, fun j hj => by rw [getD_replicate hj]; omega⟩
/-- One row more: what the states s and c together add. -/
def accC (S : List (List Int)) (many : Int) (T : List Int) (s : Int) : Nat → Nat → List Int → List Int
  | 0, _, row => row
  | m + 1, c, row => accC S many T s m (c + 1) (row.set (stepM S s c).toNat (wrap64 (row.getD (stepM S s c).toNat 0 + wrap64 (many * T.getD c 0))))
def accS (S : List (List Int)) (A T : List Int) : Nat → Nat → List Int → List Int
  | 0, _, row => row
  | m + 1, s, row => accS S A T m (s + 1) (accC S (A.getD s 0) T s S.length 0 row)
/-- Over all sizes of the last child from j on; the tree has k + 1 nodes. -/
def accJ (S T : List (List Int)) (k : Nat) : Nat → Nat → List Int → List Int
  | 0, _, row => row
  | m + 1, j, row => accJ S T k m (j + 1) (accS S (T.getD (k + 1 - j) []) (T.getD j []) S.length 0 row)
/-- The numbers of trees of k nodes and fewer, for each state. -/
def treesM (st : Int) (S : List (List Int)) : Nat → List (List Int)
  | 0 => [List.replicate S.length 0]
  | k + 1 => treesM st S k ++ [accJ S (treesM st S k) k k 1 (if k = 0 then (List.replicate S.length (0 : Int)).set st.toNat 1 else List.replicate S.length 0)]
theorem treesM_length (st : Int) (S : List (List Int)) : ∀ k, (treesM st S k).length = k + 1
  | 0 => rfl
  | k + 1 => by simp [treesM, treesM_length st S k]
theorem accC_length (S : List (List Int)) (many : Int) (T : List Int) (s : Int) : ∀ m c row, (accC S many T s m c row).length = row.length
  | 0, _, row => rfl
  | m + 1, c, row => by simp only [accC]; rw [accC_length S many T s m (c + 1)]; simp
theorem accS_length (S : List (List Int)) (A T : List Int) : ∀ m s row, (accS S A T m s row).length = row.length
  | 0, _, row => rfl
  | m + 1, s, row => by simp only [accS]; rw [accS_length S A T m (s + 1), accC_length]
theorem accJ_length (S T : List (List Int)) (k : Nat) : ∀ m j row, (accJ S T k m j row).length = row.length
  | 0, _, row => rfl
  | m + 1, j, row => by simp only [accJ]; rw [accJ_length S T k m (j + 1), accS_length]
theorem getD_app {α : Type} {l : List α} {x y : α} {i : Nat} (h : i ≤ l.length) : (l ++ [x]).getD i y = if i < l.length then l.getD i y else x := by
  rw [List.getD_eq_getElem?_getD, List.getElem?_append]
  split
  · rw [← List.getD_eq_getElem?_getD]
  · rw [show i - l.length = 0 by omega]; rfl
theorem treesM_row (st : Int) (S : List (List Int)) : ∀ k i, i ≤ k → ((treesM st S k).getD i []).length = S.length
  | 0, i, hi => by
    have e : i = 0 := by omega
    subst e; simp [treesM]
  | k + 1, i, hi => by
    have hl := treesM_length st S k
    simp only [treesM]
    rw [getD_app (by omega)]
    split
    · exact treesM_row st S k i (by omega)
    · rw [accJ_length]
      split <;> simp
end Go.Proofs.YtbecakjoccegaaaDoor.Auto
