/- The states of the nodes of a tree, and good states, on both sides. -/
import Derived.Test.YtmahokdlfmehjaaAutoEv
import Derived.Test.YtmahokdlfmehjaaTreeEv
import Derived.Test.YtmahokdlfmehjaaEx2
import Derived.Test.YtmahokdlfmehjaaEx6
namespace Go.Proofs.Ytmahokdlfmehjaa.E
set_option linter.unusedVariables false
set_option linter.unusedSectionVars false
open Go.RowKit Go.Proofs.YtmahokdlfmehjaaW.PrintWords Go.Proofs.Ytmahokdlfmehjaa.Base Go.Proofs.Ytmahokdlfmehjaa.Auto Go.Proofs.Ytmahokdlfmehjaa.Tree

/-- The states of the nodes below v, from the last one on. -/
def stAll (st : Int) (S : List (List Int)) (d : List Int) : Nat → List Int → List Int
  | 0, out => out
  | v + 1, out => stAll st S d v (stIn S v (kidsM d v) (out.set v st))
def statesM (st : Int) (S : List (List Int)) (d : List Int) : List Int := stAll st S d d.length (List.replicate d.length 0)
theorem stIn_sts {st : Int} {S : List (List Int)} {g : List Int} (hA : IsA st S g) {n v : Nat} (hv : v < n) : ∀ (L : List Nat) (out : List Int), (∀ c ∈ L, c < n) → Sts S.length n out → Sts S.length n (stIn S v L out)
  | [], _, _, h => h
  | c :: L, out, hL, h => stIn_sts hA hv L _ (fun x hx => hL x (by simp [hx])) (h.set v hv (hA.stepM (h.mem v hv) (h.mem c (hL c (by simp)))))
section
variable {st : Int} {S : List (List Int)} {g d : List Int} (hA : IsA st S g) (h : IsT d) (hn : d.length ≤ 1000)
include hA h hn
theorem stAll_sts : ∀ (v : Nat) (out : List Int), v ≤ d.length → Sts S.length d.length out → Sts S.length d.length (stAll st S d v out)
  | 0, _, _, ho => ho
  | v + 1, out, hv, ho => stAll_sts v _ (by omega) (stIn_sts hA (by omega) _ _ (fun c hc => (kid_mem h (by omega) hc).2.1) (ho.set v (by omega) hA.start))
theorem impl_st_in {v : Nat} (hv : v < d.length) (R : List Int) : ∀ (m j : Nat) (out : List Int), j + m = (kidsM d v).length → Sts S.length d.length out →
    Ev (fun k => impl_statesOf.l0 k d (stIn S v ((kidsM d v).drop j) out) ((v : Int) - 1) st S g) R → Ev (fun k => impl_statesOf.l1 k d out (v : Int) (castL (kidsM d v)) ((castL (kidsM d v)).length : Int) (j : Int) st S g) R
  | 0, j, out, hj, ho, H => by
    refine Ev.step (fun k => by rw [impl_statesOf.l1]) ?_
    rw [List.drop_of_length_le (by omega)] at H
    rw [w64 (x := (v : Int) - 1) (by omega) (by omega)]
    exact ev_neg (by rw [castL_length]; omega) H
  | m + 1, j, out, hj, ho, H => by
    have hjl : j < (kidsM d v).length := by omega
    have hk := kids_few h hv
    have hc := kid_mem h hv (List.getElem_mem hjl)
    have ec : rd (castL (kidsM d v)) (j : Int) = ((kidsM d v)[j] : Int) := by rw [rd_nat, castL_getD _ _ hjl]
    have h1 := ho.mem v hv
    have h2 := ho.mem (kidsM d v)[j] hc.2.1
    have hl := ho.len
    have hr := hA.row (out.getD v 0).toNat (by omega)
    have hrow : (rd_L1 S (out.getD v 0)).length = S.length := hr
    rw [List.drop_eq_getElem_cons hjl] at H
    refine Ev.step (fun k => by rw [impl_statesOf.l1]) ?_
    rw [ec, rd_nat, rd_nat, hrow, w64s (by omega)]
    refine ev_pos (by rw [castL_length]; omega) (ev_pos (by omega) (ev_pos (by rw [castL_length]; omega) (ev_pos (by omega) (ev_pos (by omega) (ev_pos (by omega) (ev_pos (by omega) (ev_pos (by omega) (ev_pos (by omega) (ev_pos (by omega) (ev_pos (by omega) ?_))))))))))
    exact impl_st_in hv R m (j + 1) _ (by omega) (ho.set v hv (hA.stepM h1 h2)) H
theorem impl_st_loop : ∀ (v : Nat) (out : List Int), v ≤ d.length → Sts S.length d.length out → Ev (fun k => impl_statesOf.l0 k d out ((v : Int) - 1) st S g) (stAll st S d v out)
  | 0, out, hv, ho => by
    refine Ev.step (fun k => by rw [impl_statesOf.l0]) ?_
    exact ev_neg (by omega) (Ev.now _)
  | v + 1, out, hv, ho => by
    have e : ((v + 1 : Nat) : Int) - 1 = (v : Int) := by omega
    have hl := ho.len
    rw [e]
    refine Ev.step (fun k => by rw [impl_statesOf.l0]) ?_
    refine ev_pos (by omega) (ev_pos (by omega) (ev_pos (by omega) (Ev.bind (impl_kidsOf_ev h hn (by omega)) ?_)))
    have ho2 := ho.set v (by omega) hA.start
    refine impl_st_in hA h hn (by omega) _ (kidsM d v).length 0 _ (by omega) ho2 ?_
    rw [List.drop_zero]
    exact impl_st_loop v _ (by omega) (stIn_sts hA (by omega) _ _ (fun c hc => (kid_mem h (by omega) hc).2.1) ho2)
theorem impl_statesOf_ev : Ev (fun k => impl_statesOf.f k st S g d) (statesM st S d) := by
  unfold impl_statesOf.f statesM
  refine ev_pos (by omega) (ev_pos (by omega) ?_)
  rw [w64 (by omega) (by omega)]
  exact impl_st_loop hA h hn d.length _ (Nat.le_refl _) (Sts.zero hA.one d.length)
theorem spec_st_in {v : Nat} (hv : v < d.length) (R : List Int) : ∀ (m j : Nat) (out : List Int), j + m = (kidsM d v).length → Sts S.length d.length out →
    Ev (fun k => spec_l06States.l0 k (stIn S v ((kidsM d v).drop j) out) ((v : Int) - 1) st S g d) R → Ev (fun k => spec_l06States.l1 k out (v : Int) (castL (kidsM d v)) (j : Int) st S g d) R
  | 0, j, out, hj, ho, H => by
    refine Ev.step (fun k => by rw [spec_l06States.l1]) ?_
    rw [List.drop_of_length_le (by omega)] at H
    rw [w64 (x := (v : Int) - 1) (by omega) (by omega)]
    exact ev_neg (by rw [castL_length]; omega) H
  | m + 1, j, out, hj, ho, H => by
    have hjl : j < (kidsM d v).length := by omega
    have hk := kids_few h hv
    have hc := kid_mem h hv (List.getElem_mem hjl)
    have ec : rd (castL (kidsM d v)) (j : Int) = ((kidsM d v)[j] : Int) := by rw [rd_nat, castL_getD _ _ hjl]
    have h1 := ho.mem v hv
    have h2 := ho.mem (kidsM d v)[j] hc.2.1
    have hl := ho.len
    have hr := hA.row (out.getD v 0).toNat (by omega)
    have hrow : (rd_L1 S (out.getD v 0)).length = S.length := hr
    rw [List.drop_eq_getElem_cons hjl] at H
    refine Ev.step (fun k => by rw [spec_l06States.l1]) ?_
    rw [ec, rd_nat, rd_nat, hrow, w64s (by omega)]
    refine ev_pos (by rw [castL_length]; omega) (ev_pos (by omega) (ev_pos (by omega) (ev_pos (by omega) (ev_pos (by omega) (ev_pos (by omega) (ev_pos (by omega) (ev_pos (by omega) (ev_pos (by omega) (ev_pos (by omega) ?_)))))))))
    exact spec_st_in hv R m (j + 1) _ (by omega) (ho.set v hv (hA.stepM h1 h2)) H
theorem spec_st_loop : ∀ (v : Nat) (out : List Int), v ≤ d.length → Sts S.length d.length out → Ev (fun k => spec_l06States.l0 k out ((v : Int) - 1) st S g d) (stAll st S d v out)
  | 0, out, hv, ho => by
    refine Ev.step (fun k => by rw [spec_l06States.l0]) ?_
    exact ev_neg (by omega) (Ev.now _)
  | v + 1, out, hv, ho => by
    have e : ((v + 1 : Nat) : Int) - 1 = (v : Int) := by omega
    have hl := ho.len
    rw [e]
    refine Ev.step (fun k => by rw [spec_l06States.l0]) ?_
    refine ev_pos (by omega) (Ev.bind (spec_l01Children_ev h hn (by omega)) (ev_pos (by omega) (ev_pos (by omega) ?_)))
    have ho2 := ho.set v (by omega) hA.start
    refine spec_st_in hA h hn (by omega) _ (kidsM d v).length 0 _ (by omega) ho2 ?_
    rw [List.drop_zero]
    exact spec_st_loop v _ (by omega) (stIn_sts hA (by omega) _ _ (fun c hc => (kid_mem h (by omega) hc).2.1) ho2)
theorem spec_l06States_ev : Ev (fun k => spec_l06States.f k st S g d) (statesM st S d) := by
  unfold spec_l06States.f statesM
  simp only [l01N_ev]
  refine ev_some (ev_pos (by omega) (ev_pos (by omega) ?_))
  rw [w64 (by omega) (by omega)]
  exact spec_st_loop hA h hn d.length _ (Nat.le_refl _) (Sts.zero hA.one d.length)
theorem states_sts : Sts S.length d.length (statesM st S d) := stAll_sts hA h hn d.length _ (Nat.le_refl _) (Sts.zero hA.one d.length)
end
/-- Is the state good? -/
def goodM (g : List Int) (x : Int) : Bool := g.any fun y => decide (y = x)
theorem drop_any (p : Int → Bool) (l : List Int) (i : Nat) (hi : i < l.length) : (l.drop i).any p = (p (l.getD i 0) || (l.drop (i + 1)).any p) := by
  rw [List.drop_eq_getElem_cons hi, List.any_cons, List.getD_eq_getElem?_getD, List.getElem?_eq_getElem hi]
  rfl
theorem spec_good_in (st : Int) (S : List (List Int)) (g : List Int) (hg : g.length ≤ 1048576) (x : Int) : ∀ (m i : Nat), i + m = g.length → Ev (fun k => spec_l06Good.l0 k x (i : Int) st S g) ((g.drop i).any fun y => decide (y = x))
  | 0, i, hi => by
    refine Ev.step (fun k => by rw [spec_l06Good.l0]) ?_
    rw [List.drop_of_length_le (by omega)]
    exact ev_neg (by omega) (Ev.now _)
  | m + 1, i, hi => by
    have ih := spec_good_in st S g hg x m (i + 1) (by omega)
    refine Ev.step (fun k => by rw [spec_l06Good.l0]) ?_
    rw [drop_any _ _ _ (by omega : i < g.length), rd_nat, w64s (by omega)]
    refine ev_pos (by omega) (ev_pos (by omega) (ev_ite (fun hx => ?_) (fun hx => ?_)))
    · rw [decide_eq_true hx]; exact Ev.now _
    · rw [decide_eq_false hx, Bool.false_or]; exact ih
theorem spec_l06Good_ev (st : Int) (S : List (List Int)) (g : List Int) (hg : g.length ≤ 1048576) (x : Int) : Ev (fun k => spec_l06Good.f k st S g x) (goodM g x) := by
  unfold spec_l06Good.f
  exact spec_good_in st S g hg x g.length 0 (by omega)
theorem index_in (g : List Int) (hg : g.length ≤ 1048576) (x : Int) : ∀ (m i : Nat), i + m = g.length → ∃ r, Ev (fun k => slices_Index_int64_int64.l0 k g x (g.length : Int) (i : Int)) r ∧ decide (r ≥ 0) = ((g.drop i).any fun y => decide (y = x))
  | 0, i, hi => by
    refine ⟨-1, ?_, ?_⟩
    · refine Ev.step (fun k => by rw [slices_Index_int64_int64.l0]) ?_
      exact ev_neg (by omega) (Ev.now _)
    · rw [List.drop_of_length_le (by omega)]; rfl
  | m + 1, i, hi => by
    rw [drop_any _ _ _ (by omega : i < g.length)]
    by_cases hx : g.getD i 0 = x
    · refine ⟨(i : Int), ?_, ?_⟩
      · refine Ev.step (fun k => by rw [slices_Index_int64_int64.l0]) ?_
        exact ev_pos (by omega) (ev_pos (by omega) (ev_pos (by omega) (ev_pos (by rw [rd_nat]; exact hx.symm) (Ev.now _))))
      · rw [decide_eq_true hx, Bool.true_or]; exact decide_eq_true (by omega)
    · obtain ⟨r, h1, h2⟩ := index_in g hg x m (i + 1) (by omega)
      refine ⟨r, ?_, ?_⟩
      · refine Ev.step (fun k => by rw [slices_Index_int64_int64.l0]) ?_
        rw [w64s (by omega)]
        exact ev_pos (by omega) (ev_pos (by omega) (ev_pos (by omega) (ev_neg (by rw [rd_nat]; exact fun e => hx e.symm) h1)))
      · rw [decide_eq_false hx, Bool.false_or]; exact h2
theorem impl_isGood_ev (st : Int) (S : List (List Int)) (g : List Int) (hg : g.length ≤ 1048576) (x : Int) : Ev (fun k => impl_isGood.f k st S g x) (goodM g x) := by
  obtain ⟨r, h1, h2⟩ := index_in g hg x g.length 0 (by omega)
  unfold impl_isGood.f slices_Contains_int64_int64.f slices_Index_int64_int64.f
  exact Ev.bind (Ev.bind h1 (ev_now h2)) (Ev.now _)
/-- The code of an automaton and a tree. -/
def codeA (st : Int) (S : List (List Int)) (g d : List Int) : Int := if isAutM st S g = true ∧ isTreeM d = true then 0 else 1
theorem impl_automatonCode_ev {S : List (List Int)} {g : List Int} (hs : SmallA S g) (st : Int) (d : List Int) : Ev (fun k => impl_automatonCode.f k st S g d) (codeA st S g d) := by
  unfold impl_automatonCode.f codeA
  refine Ev.bind (impl_IsAutomaton_ev hs st) (ev_ite (fun h1 => Ev.bind (impl_IsTree_ev d) (ev_ite (fun h2 => ?_) (fun h2 => ?_))) (fun h1 => ?_))
  · rw [if_pos ⟨h1, h2⟩]; exact Ev.now _
  · rw [if_neg (fun h => h2 h.2)]; exact Ev.now _
  · rw [if_neg (fun h => h1 h.1)]; exact Ev.now _
end Go.Proofs.Ytmahokdlfmehjaa.E
