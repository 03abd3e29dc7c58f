/- The degrees that depths tell are those of a tree; contours. No program in sight. -/
import Derived.Test.YtdhmoglkcfgikaaTree
import Derived.Test.YtdhmoglkcfgikaaOfDepths
namespace Go.Proofs.Ytdhmoglkcfgikaa.E
set_option linter.unusedVariables false
set_option linter.unusedSectionVars false
open Go.RowKit Go.Proofs.YtdhmoglkcfgikaaW.PrintWords Go.Proofs.Ytdhmoglkcfgikaa.Base Go.Proofs.Ytdhmoglkcfgikaa.Tree

theorem nd_bump (D : List Int) (p : Nat) (hp : p < D.length) (x : Int) (hx : x = D.getD p 0 + 1) : ∀ j, nd (D.set p x) j = nd D j + if p < j then 1 else 0
  | 0 => by simp [nd]
  | j + 1 => by
    simp only [nd]
    rw [nd_bump D p hp x hx j]
    by_cases e : p = j
    · subst e
      rw [get_set_eq hp, if_neg (by omega), if_pos (by omega), hx]
      omega
    · rw [get_set_ne e]
      by_cases hl : p < j
      · rw [if_pos hl, if_pos (by omega)]; omega
      · rw [if_neg hl, if_neg (by omega)]; omega
theorem nd_zero (n : Nat) : ∀ j, nd (List.replicate n (0 : Int)) j = 1 - (j : Int)
  | 0 => by simp [nd]
  | j + 1 => by
    simp only [nd]
    rw [nd_zero n j]
    have : (List.replicate n (0 : Int)).getD j 0 = 0 := by
      rw [List.getD_eq_getElem?_getD, List.getElem?_replicate]
      split <;> rfl
    rw [this]
    omega
/-- Numbers that go up by at most one a step. -/
structure Slow (x : List Int) (k : Nat) : Prop where
  zero : 0 < k → x.getD 0 0 = 0
  low : ∀ i, 0 < i → i < k → 1 ≤ x.getD i 0
  up : ∀ i, 0 < i → i < k → x.getD i 0 ≤ x.getD (i - 1) 0 + 1
theorem Slow.le {x : List Int} {k : Nat} (h : Slow x k) : ∀ i, i < k → x.getD i 0 ≤ i
  | 0, hi => by rw [h.zero hi]; omega
  | i + 1, hi => by
    have h1 := h.le i (by omega)
    have h2 := h.up (i + 1) (by omega) hi
    rw [Nat.add_sub_cancel] at h2
    omega
theorem Slow.next {x : List Int} {k : Nat} (h : Slow x k) (hk : k ≤ 1048576) (hok : okAt x k = true) : Slow x (k + 1) := by
  unfold okAt at hok
  by_cases e : k = 0
  · subst e
    rw [if_pos rfl] at hok
    exact ⟨fun _ => by simpa using hok, fun i h1 h2 => by omega, fun i h1 h2 => by omega⟩
  · rw [if_neg e, Bool.and_eq_true, decide_eq_true_eq, decide_eq_true_eq] at hok
    have h1 := h.le (k - 1) (by omega)
    have h0 : 0 ≤ x.getD (k - 1) 0 := by
      by_cases e2 : k - 1 = 0
      · rw [e2, h.zero (by omega)]; omega
      · have := h.low (k - 1) (by omega) (by omega); omega
    rw [w64 (by omega) (by omega)] at hok
    refine ⟨fun _ => h.zero (by omega), fun i hi hl => ?_, fun i hi hl => ?_⟩
    · by_cases e2 : i = k
      · subst e2; exact hok.1
      · exact h.low i hi (by omega)
    · by_cases e2 : i = k
      · subst e2; exact hok.2
      · exact h.up i hi (by omega)
theorem upTo_some {x : List Int} {n : Nat} (h : Slow x n) {t : Int} (h0 : 0 ≤ t) : ∀ k, 0 < k → k ≤ n → t ≤ x.getD (k - 1) 0 → ∃ p, upTo x t k = some p
  | k + 1, _, hk, ht => by
    rw [Nat.add_sub_cancel] at ht
    simp only [upTo]
    by_cases e : x.getD k 0 = t
    · exact ⟨k, by rw [if_pos e]⟩
    · rw [if_neg e]
      rcases Nat.eq_zero_or_pos k with e2 | e2
      · subst e2
        have := h.zero (by omega)
        omega
      · have := h.up k e2 (by omega)
        exact upTo_some h h0 k e2 (by omega) (by omega)
theorem bump_low {d : List Int} {n : Nat} (hd : ∀ j, j < d.length → 0 ≤ d.getD j 0 ∧ d.getD j 0 ≤ n) (hn : n ≤ 1048576) (p : Nat) (hp : p < d.length) : ∀ j, j < (bump d (some p)).length → 0 ≤ (bump d (some p)).getD j 0 ∧ (bump d (some p)).getD j 0 ≤ (n + 1 : Nat) := by
  intro j hj
  rw [bump_length] at hj
  have h1 := hd p hp
  simp only [bump]
  rw [w64 (by omega) (by omega)]
  by_cases e : p = j
  · subst e
    rw [get_set_eq hp]; omega
  · rw [get_set_ne e]
    have := hd j hj; omega
/-- What holds of the degrees ahead of node i. -/
structure OdInv (n i : Nat) (D : List Int) : Prop where
  len : D.length = n
  low : ∀ j, j < D.length → 0 ≤ D.getD j 0 ∧ D.getD j 0 ≤ i
  nd : ∀ j, j ≤ n → 1 - (j : Int) + (if j < i - 1 then j else i - 1 : Nat) ≤ Tree.nd D j
  all : Tree.nd D n = 1 - (n : Int) + (i - 1 : Nat)
theorem odGo_tree (x : List Int) (hx : x.length ≤ 1048576) : ∀ (m i : Nat) (D : List Int), i + m = x.length → Slow x i → OdInv x.length i D → (odGo x m i D).2 = true → Slow x x.length ∧ OdInv x.length x.length (odGo x m i D).1
  | 0, i, D, hm, hs, hi, _ => by
    have e : i = x.length := by omega
    subst e
    exact ⟨hs, hi⟩
  | m + 1, i, D, hm, hs, hi, ht => by
    simp only [odGo] at ht ⊢
    by_cases hok : okAt x i = true
    · rw [if_pos hok] at ht ⊢
      have hs' := hs.next (by omega) hok
      refine odGo_tree x hx m (i + 1) _ (by omega) hs' ?_ ht
      rcases Nat.eq_zero_or_pos i with e | e
      · subst e
        have hn : upTo x (wrap64 (x.getD 0 0 - 1)) 0 = none := rfl
        rw [hn]
        refine ⟨hi.len, fun j hj => ?_, fun j hj => ?_, ?_⟩
        · have := hi.low j hj; simp only [bump]; omega
        · have := hi.nd j hj
          simp only [bump]
          split <;> split at this <;> omega
        · have := hi.all; simp only [bump]; omega
      · have h1 := hs'.low i e (by omega)
        have h2 := hs'.up i e (by omega)
        have h3 := hs'.le i (by omega)
        rw [w64 (by omega) (by omega)]
        obtain ⟨p, hp⟩ := upTo_some hs (t := x.getD i 0 - 1) (by omega) i e (Nat.le_refl _) (by omega)
        have hpl := upTo_lt hp
        rw [hp]
        have hlen := hi.len
        have hpD : p < D.length := by omega
        refine ⟨by rw [bump_length, hlen], bump_low hi.low (by omega) p hpD, fun j hj => ?_, ?_⟩
        · have h4 := hi.low p hpD
          simp only [bump]
          rw [w64 (by omega) (by omega), nd_bump D p hpD _ rfl]
          have h5 := hi.nd j hj
          by_cases e2 : p < j
          · rw [if_pos e2]
            split <;> split at h5 <;> omega
          · rw [if_neg e2]
            split <;> split at h5 <;> omega
        · have h4 := hi.low p hpD
          simp only [bump]
          rw [w64 (by omega) (by omega), nd_bump D p hpD _ rfl, if_pos (by omega), hi.all]
          omega
    · rw [if_neg hok] at ht
      cases ht
theorem odM_tree {x : List Int} (hx : x.length ≤ 1048576) (h : (odM x).2 = true) : IsT (odM x).1 ∧ (odM x).1.length = x.length := by
  unfold odM at h ⊢
  by_cases e : x.length = 0
  · rw [if_pos e] at h; cases h
  · rw [if_neg e] at h ⊢
    have := odGo_tree x hx x.length 0 (List.replicate x.length 0) (by omega) ⟨fun h => by omega, fun i h1 h2 => by omega, fun i h1 h2 => by omega⟩
      ⟨by simp, fun j hj => by rw [getD_replicate (by simpa using hj)]; omega, fun j hj => by rw [nd_zero]; split <;> omega, by rw [nd_zero]; omega⟩ h
    have hi := this.2
    have hl := hi.len
    refine ⟨⟨fun j hj => ?_, fun j hj => (hi.low j hj).1, ?_⟩, hl⟩
    · have := hi.nd j (by omega)
      split at this <;> omega
    · rw [hl, hi.all]; omega

/-! contours -/
inductive Zig : Int → List Int → Int → Prop
  | nil (a : Int) : Zig a [] a
  | cons {a x b : Int} {l : List Int} : x = a + 1 ∨ x = a - 1 → Zig x l b → Zig a (x :: l) b
theorem Zig.trans {a b c : Int} {l m : List Int} (h : Zig a l b) (k : Zig b m c) : Zig a (l ++ m) c := by
  induction h with
  | nil a => exact k
  | cons hx _ ih => exact .cons hx (ih k)
theorem Zig.one {a b : Int} {l : List Int} (h : Zig a l b) : ∀ i, i < l.length → ((a :: l).getD (i + 1) 0 = (a :: l).getD i 0 + 1 ∨ (a :: l).getD (i + 1) 0 = (a :: l).getD i 0 - 1) := by
  induction h with
  | nil a => intro i hi; simp at hi
  | @cons a x b l hx _ ih =>
    intro i hi
    cases i with
    | zero => simpa using hx
    | succ i =>
      have := ih i (by simpa using hi)
      simpa using this
theorem Zig.bd {a b : Int} {l : List Int} (h : Zig a l b) : ∀ i, i ≤ l.length → a - i ≤ (a :: l).getD i 0 ∧ (a :: l).getD i 0 ≤ a + i := by
  induction h with
  | nil a =>
    intro i hi
    have e : i = 0 := by simpa using hi
    subst e; simp
  | @cons a x b l hx _ ih =>
    intro i hi
    cases i with
    | zero => simp
    | succ i =>
      have := ih i (by simpa using hi)
      rw [List.getD_cons_succ]
      omega
/-- The contour of a subtree. -/
def contM (d : List Int) : Nat → Nat → Int → List Int
  | 0, _, _ => []
  | f + 1, v, dep => dep :: ((kidsM d v).map fun c => contM d f c (dep + 1) ++ [dep]).flatten
theorem flat_zig {a : Int} {g : Nat → List Int} : ∀ {l : List Nat}, (∀ c ∈ l, Zig a (g c) a) → Zig a (l.map g).flatten a
  | [], _ => .nil a
  | c :: l, h => by
    simp only [List.map_cons, List.flatten_cons]
    exact (h c (by simp)).trans (flat_zig fun x hx => h x (by simp [hx]))
theorem cont_zig {d : List Int} (h : IsT d) : ∀ (f v : Nat) (dep : Int), v < d.length → endM d v - v ≤ f → ∃ l, contM d f v dep = dep :: l ∧ Zig dep l dep
  | 0, v, dep, hv, hf => by have := end_gt h hv; omega
  | f + 1, v, dep, hv, hf => by
    refine ⟨_, rfl, flat_zig fun c hc => ?_⟩
    have hk := kid_mem h hv hc
    obtain ⟨l, h1, h2⟩ := cont_zig h f c (dep + 1) hk.2.1 (by omega)
    rw [h1, List.cons_append]
    exact .cons (.inl rfl) (h2.trans (.cons (.inr (by omega)) (.nil _)))
theorem run_cont {d : List Int} (h : IsT d) {g : Nat → List Int} {m c e : Nat} (r : Run d m c e) (hg : ∀ x ∈ kidsFrom d m c, (g x).length = 2 * (endM d x - x)) : ((kidsFrom d m c).map g).flatten.length = 2 * (e - c) := by
  induction r with
  | nil c => simp [kidsFrom]
  | @cons m c e hc r ih =>
    have h1 := end_gt h hc
    have h2 := run_bd h r
    have ih' := ih (fun x hx => hg x (by simp [kidsFrom, hx]))
    have h3 := hg c (by simp [kidsFrom])
    simp only [kidsFrom, List.map_cons, List.flatten_cons, List.length_append, ih', h3]
    omega
theorem cont_length {d : List Int} (h : IsT d) : ∀ (f v : Nat) (dep : Int), v < d.length → endM d v - v ≤ f → (contM d f v dep).length = 2 * (endM d v - v) - 1
  | 0, v, dep, hv, hf => by have := end_gt h hv; omega
  | f + 1, v, dep, hv, hf => by
    have h1 := end_gt h hv
    simp only [contM, List.length_cons]
    rw [kidsM, run_cont h (run_kids h hv) (fun x hx => ?_)]
    · omega
    · have hk := kid_mem h hv (c := x) hx
      have h2 := end_gt h hk.2.1
      rw [List.length_append, cont_length h f x (dep + 1) hk.2.1 (by omega)]
      simp only [List.length_cons, List.length_nil]
      omega
/-- The numbers at places at which c holds of the one ahead and of the one there. -/
def ups (c : Int → Int → Bool) (l : List Int) : Nat → Nat → List Int
  | 0, _ => []
  | m + 1, i => if (decide (i = 0) || c (l.getD (i - 1) 0) (l.getD i 0)) = true then l.getD i 0 :: ups c l m (i + 1) else ups c l m (i + 1)
theorem ups_length (c : Int → Int → Bool) (l : List Int) : ∀ m i, (ups c l m i).length ≤ m
  | 0, _ => by simp [ups]
  | m + 1, i => by
    have := ups_length c l m (i + 1)
    simp only [ups]
    split
    · simp only [List.length_cons]; omega
    · omega
theorem ups_congr {c e : Int → Int → Bool} {l : List Int} : ∀ m i, (∀ j, 0 < j → j < i + m → c (l.getD (j - 1) 0) (l.getD j 0) = e (l.getD (j - 1) 0) (l.getD j 0)) → ups c l m i = ups e l m i
  | 0, _, _ => rfl
  | m + 1, i, h => by
    have ih := ups_congr (c := c) (e := e) (l := l) m (i + 1) (fun j h1 h2 => h j h1 (by omega))
    simp only [ups, ih]
    by_cases e0 : i = 0
    · rw [if_pos (by simp [e0]), if_pos (by simp [e0])]
    · rw [h i (by omega) (by omega)]
end Go.Proofs.Ytdhmoglkcfgikaa.E
