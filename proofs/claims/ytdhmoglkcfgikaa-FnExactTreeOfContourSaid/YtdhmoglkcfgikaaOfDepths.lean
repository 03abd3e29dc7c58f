/- TreeOfDepths and what it calls, on both sides: one plain function tells both. -/
import Derived.Test.YtdhmoglkcfgikaaBase
import Derived.Test.YtdhmoglkcfgikaaEx1
import Derived.Test.YtdhmoglkcfgikaaEx15
namespace Go.Proofs.Ytdhmoglkcfgikaa.E
set_option linter.unusedVariables false
set_option linter.unusedSectionVars false
open Go.RowKit Go.Proofs.YtdhmoglkcfgikaaW.PrintWords Go.Proofs.Ytdhmoglkcfgikaa.Base

/-- The last place ahead of k that holds t. -/
def upTo (x : List Int) (t : Int) : Nat → Option Nat
  | 0 => none
  | k + 1 => if x.getD k 0 = t then some k else upTo x t k
def bump (d : List Int) : Option Nat → List Int
  | none => d
  | some k => d.set k (wrap64 (d.getD k 0 + 1))
theorem bump_length (d : List Int) (o : Option Nat) : (bump d o).length = d.length := by
  cases o <;> simp [bump]
theorem upTo_lt {x : List Int} {t : Int} : ∀ {k j : Nat}, upTo x t k = some j → j < k
  | 0, j, h => by simp [upTo] at h
  | k + 1, j, h => by
    simp only [upTo] at h
    split at h
    · obtain rfl := Option.some.inj h; omega
    · have := upTo_lt h; omega
/-- May the number at i stand there? -/
def okAt (x : List Int) (i : Nat) : Bool := if i = 0 then decide (x.getD 0 0 = 0) else decide (1 ≤ x.getD i 0) && decide (x.getD i 0 ≤ wrap64 (x.getD (i - 1) 0 + 1))
def odGo (x : List Int) : Nat → Nat → List Int → List Int × Bool
  | 0, _, d => (d, true)
  | m + 1, i, d => if okAt x i = true then odGo x m (i + 1) (bump d (upTo x (wrap64 (x.getD i 0 - 1)) i)) else ([], false)
/-- The degrees of the tree with depths, and whether there is one. -/
def odM (x : List Int) : List Int × Bool := if x.length = 0 then ([], false) else odGo x x.length 0 (List.replicate x.length 0)

theorem le_not_gt (a b : Int) : decide (a ≤ b) = !decide (a > b) := by
  by_cases h : a ≤ b
  · simp [h, show ¬ a > b by omega]
  · simp [h, show a > b by omega]
theorem l01In_eq (a b c : Int) : spec_l01In.f a b c = some (decide (b ≤ a) && decide (a ≤ c)) := by
  unfold spec_l01In.f
  by_cases h : a ≥ b
  · rw [if_pos h]; simp [show b ≤ a from h]
  · rw [if_neg h]; simp [show ¬ b ≤ a from h]

theorem spec_od_in (x d : List Int) (i : Nat) (hi : i < x.length) (hn : x.length ≤ 1048576) (hd : d.length = x.length) (r : List Int × Bool) : ∀ (j : Nat), j ≤ i →
    Ev (fun k => spec_l05OfDepths.l0 k x (bump d (upTo x (wrap64 (x.getD i 0 - 1)) j)) ((i + 1 : Nat) : Int)) r → Ev (fun k => spec_l05OfDepths.l1 k x d (i : Int) ((j : Int) - 1)) r
  | 0, _, h => by
    refine Ev.step (fun k => by rw [spec_l05OfDepths.l1]) ?_
    refine ev_neg (by omega) ?_
    rw [w64s (by omega)]
    exact h
  | j + 1, hj, h => by
    have e : ((j + 1 : Nat) : Int) - 1 = (j : Int) := by omega
    rw [e]
    refine Ev.step (fun k => by rw [spec_l05OfDepths.l1]) ?_
    refine ev_pos (by omega) (ev_pos (by omega) (ev_pos (by omega) (ev_pos (by omega) (ev_pos (by omega) ?_))))
    simp only [upTo] at h
    by_cases hx : x.getD j 0 = wrap64 (x.getD i 0 - 1)
    · rw [if_pos hx] at h
      refine ev_pos hx (ev_pos (by omega) ?_)
      rw [w64s (by omega)]
      exact h
    · rw [if_neg hx] at h
      refine ev_neg hx ?_
      rw [w64 (by omega) (by omega)]
      exact spec_od_in x d i hi hn hd r j (by omega) h
theorem spec_od_loop (x : List Int) (hn : x.length ≤ 1048576) (h0 : 0 < x.length) : ∀ (m i : Nat) (d : List Int), i + m = x.length → d.length = x.length → Ev (fun k => spec_l05OfDepths.l0 k x d (i : Int)) (odGo x m i d) := by
  intro m
  induction m with
  | zero =>
    intro i d h1 h2
    refine Ev.step (fun k => by rw [spec_l05OfDepths.l0]) ?_
    refine ev_neg (by omega) (ev_now ?_)
    simp [odGo, h0]
  | succ m ih =>
    intro i d h1 h2
    have go : ∀ b : Bool, okAt x i = !b → Ev (fun k => spec_l05OfDepths.j1 k x d (i : Int) b) (odGo x (m + 1) i d) := by
      intro b hb
      refine Ev.step (fun k => by rw [spec_l05OfDepths.j1]) ?_
      cases b with
      | true => exact ev_pos rfl (ev_now (by simp [odGo, hb]))
      | false =>
        refine ev_neg (by decide) ?_
        rw [w64 (by omega) (by omega)]
        refine spec_od_in x d i (by omega) hn h2 _ i (Nat.le_refl _) ?_
        have := ih (i + 1) (bump d (upTo x (wrap64 (x.getD i 0 - 1)) i)) (by omega) (by rw [bump_length, h2])
        simpa [odGo, hb] using this
    refine Ev.step (fun k => by rw [spec_l05OfDepths.l0]) ?_
    refine ev_pos (by omega) ?_
    rcases Nat.eq_zero_or_pos i with hi | hi
    · subst hi
      refine ev_pos rfl (ev_pos (by decide) ?_)
      refine ev_ite (fun hx => ?_) (fun hx => ?_)
      · exact ev_neg (by decide) (go false (by simp [okAt]; exact hx))
      · exact go true (by simp [okAt]; exact hx)
    · refine ev_neg (by omega) (ev_pos (by omega) (ev_pos (by omega) ?_))
      have e : wrap64 ((i : Int) - 1) = ((i - 1 : Nat) : Int) := by rw [w64 (by omega) (by omega)]; omega
      rw [e]
      refine ev_pos (by omega) (ev_pos (by omega) ?_)
      simp only [l01In_eq]
      refine ev_some ?_
      refine go _ ?_
      rw [Bool.not_not]
      unfold okAt
      rw [if_neg (by omega)]
      rfl
theorem spec_od_ev (x : List Int) (hn : x.length ≤ 1048576) : Ev (fun k => spec_l05OfDepths.f k x) (odM x) := by
  unfold spec_l05OfDepths.f
  refine ev_pos (by omega) (ev_pos (by simp; omega) ?_)
  unfold odM
  rcases Nat.eq_zero_or_pos x.length with h | h
  · rw [if_pos h]
    obtain rfl := List.eq_nil_of_length_eq_zero h
    refine Ev.step (fun k => by rw [spec_l05OfDepths.l0]) ?_
    exact ev_neg (by simp) (ev_now (by simp))
  · rw [if_neg (by omega)]
    exact spec_od_loop x hn h x.length 0 _ (by omega) (by simp)

theorem impl_od_in (x d : List Int) (i : Nat) (hi : i < x.length) (hn : x.length ≤ 1048576) (hd : d.length = x.length) (r : List Int × Bool) (n : Int) : ∀ (j : Nat), j ≤ i →
    Ev (fun k => impl_treeOfDepths.l0 k x (bump d (upTo x (wrap64 (x.getD i 0 - 1)) j)) x n ((i + 1 : Nat) : Int)) r → Ev (fun k => impl_treeOfDepths.l1 k x d (x.getD i 0) ((j : Int) - 1) x n (i : Int)) r
  | 0, _, h => by
    refine Ev.step (fun k => by rw [impl_treeOfDepths.l1]) ?_
    refine ev_neg (by omega) ?_
    rw [w64s (by omega)]
    exact h
  | j + 1, hj, h => by
    have e : ((j + 1 : Nat) : Int) - 1 = (j : Int) := by omega
    rw [e]
    refine Ev.step (fun k => by rw [impl_treeOfDepths.l1]) ?_
    refine ev_pos (by omega) (ev_pos (by omega) (ev_pos (by omega) ?_))
    simp only [upTo] at h
    by_cases hx : x.getD j 0 = wrap64 (x.getD i 0 - 1)
    · rw [if_pos hx] at h
      refine ev_pos hx (ev_pos (by omega) ?_)
      rw [w64s (by omega)]
      exact h
    · rw [if_neg hx] at h
      refine ev_neg hx ?_
      rw [w64 (by omega) (by omega)]
      exact impl_od_in x d i hi hn hd r n j (by omega) h
theorem impl_od_loop (x : List Int) (hn : x.length ≤ 1048576) (h0 : 0 < x.length) : ∀ (m i : Nat) (d : List Int), i + m = x.length → d.length = x.length → Ev (fun k => impl_treeOfDepths.l0 k x d x (x.length : Int) (i : Int)) (odGo x m i d) := by
  intro m
  induction m with
  | zero =>
    intro i d h1 h2
    refine Ev.step (fun k => by rw [impl_treeOfDepths.l0]) ?_
    refine ev_neg (by omega) (ev_now ?_)
    simp [odGo]
  | succ m ih =>
    intro i d h1 h2
    have go : ∀ b : Bool, okAt x i = !b → Ev (fun k => impl_treeOfDepths.j2 k x d (i : Int) (x.getD i 0) x (x.length : Int) (i : Int) b) (odGo x (m + 1) i d) := by
      intro b hb
      refine Ev.step (fun k => by rw [impl_treeOfDepths.j2]) ?_
      cases b with
      | true => exact ev_pos rfl (ev_now (by simp [odGo, hb]))
      | false =>
        refine ev_neg (by decide) ?_
        rw [w64 (by omega) (by omega)]
        refine impl_od_in x d i (by omega) hn h2 _ _ i (Nat.le_refl _) ?_
        have := ih (i + 1) (bump d (upTo x (wrap64 (x.getD i 0 - 1)) i)) (by omega) (by rw [bump_length, h2])
        simpa [odGo, hb] using this
    refine Ev.step (fun k => by rw [impl_treeOfDepths.l0]) ?_
    refine ev_pos (by omega) (ev_pos (by omega) (ev_pos (by omega) ?_))
    simp only [rd_nat]
    rcases Nat.eq_zero_or_pos i with hi | hi
    · subst hi
      refine ev_ite (fun hx => ?_) (fun hx => ?_)
      · exact go true (by simp [okAt] at hx ⊢; exact hx)
      · have hx0 : x.getD 0 0 = 0 := by simpa using hx
        refine ev_neg (by omega) (ev_neg (by omega) ?_)
        exact go false (by simp [okAt] at hx ⊢; exact hx)
    · refine ev_ite (fun hx => ?_) (fun hx => ?_)
      · have hx0 : x.getD i 0 = 0 := by
          have : ((i : Int) == 0) = false := by rw [beq_eq_false_iff_ne]; omega
          rw [this] at hx
          simpa using hx
        exact go true (by unfold okAt; rw [if_neg (by omega), hx0]; rfl)
      · have hx0 : ¬ x.getD i 0 = 0 := by
          have : ((i : Int) == 0) = false := by rw [beq_eq_false_iff_ne]; omega
          rw [this] at hx
          simpa using hx
        refine ev_ite (fun hlt => ?_) (fun hlt => ?_)
        · exact go true (by unfold okAt; rw [if_neg (by omega), decide_eq_false (by omega : ¬ 1 ≤ x.getD i 0)]; rfl)
        · refine ev_pos (by omega) ?_
          have e : wrap64 ((i : Int) - 1) = ((i - 1 : Nat) : Int) := by rw [w64 (by omega) (by omega)]; omega
          rw [e]
          refine ev_pos (by omega) (ev_pos (by omega) (go _ ?_))
          unfold okAt
          rw [if_neg (by omega), decide_eq_true (by omega : 1 ≤ x.getD i 0), Bool.true_and]
          exact le_not_gt _ _
theorem impl_od_ev (x : List Int) (hn : x.length ≤ 24) : Ev (fun k => impl_treeOfDepths.f k x) (odM x) := by
  unfold impl_treeOfDepths.f odM
  refine ev_ite (fun h => ?_) (fun h => ?_)
  · refine Ev.step (fun k => by rw [impl_treeOfDepths.j0]) ?_
    exact ev_pos rfl (ev_now (by rw [if_pos (by omega)]))
  · rw [if_neg (by omega), decide_eq_false (by omega)]
    refine Ev.step (fun k => by rw [impl_treeOfDepths.j0]) ?_
    refine ev_neg (by decide) (ev_pos (by omega) (ev_pos (by simp; omega) ?_))
    exact impl_od_loop x (by omega) (by omega) x.length 0 _ (by omega) (by simp)
theorem odGo_length (x : List Int) : ∀ (m i : Nat) (d : List Int), (odGo x m i d).1.length ≤ d.length
  | 0, _, d => Nat.le_refl _
  | m + 1, i, d => by
    simp only [odGo]
    split
    · have := odGo_length x m (i + 1) (bump d (upTo x (wrap64 (x.getD i 0 - 1)) i))
      rw [bump_length] at this
      exact this
    · simp
theorem odM_length (x : List Int) : (odM x).1.length ≤ x.length := by
  unfold odM
  split
  · simp
  · have := odGo_length x x.length 0 (List.replicate x.length 0)
    simpa using this
end Go.Proofs.Ytdhmoglkcfgikaa.E
