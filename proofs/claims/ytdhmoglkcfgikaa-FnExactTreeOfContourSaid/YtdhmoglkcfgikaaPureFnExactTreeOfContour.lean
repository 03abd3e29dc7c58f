/- TreeOfContour on both sides, and its law: the program's TreeOfContour gives what the reference gives, for all arguments. No condition beside those of the given statement. -/
import Derived.Test.YtdhmoglkcfgikaaContour
import Derived.Test.YtdhmoglkcfgikaaHelp
import Derived.Test.YtdhmoglkcfgikaaEx15
import Derived.Test.YtdhmoglkcfgikaaEx22
import Derived.Test.YtdhmoglkcfgikaaEx23
namespace Go.Proofs.Ytdhmoglkcfgikaa.E
set_option linter.unusedVariables false
set_option linter.unusedSectionVars false
open Go.RowKit Go.Proofs.YtdhmoglkcfgikaaW.PrintWords Go.Proofs.Ytdhmoglkcfgikaa.Base Go.Proofs.Ytdhmoglkcfgikaa.Tree

theorem equal_loop (a b : List Int) (hl : a.length = b.length) (hn : a.length ≤ 1048576) : ∀ (m i : Nat), i + m = a.length → Ev (fun k => slices_Equal_int64_int64.l0 k a b (a.length : Int) (i : Int)) (decide (a.drop i = b.drop i))
  | 0, i, hi => by
    refine Ev.step (fun k => by rw [slices_Equal_int64_int64.l0]) ?_
    refine ev_neg (by omega) (ev_now ?_)
    rw [List.drop_of_length_le (by omega), List.drop_of_length_le (by omega)]; simp
  | m + 1, i, hi => by
    have ih := equal_loop a b hl hn m (i + 1) (by omega)
    have ea : rd a (i : Int) = a[i] := rd_lt (by omega)
    have eb : rd b (i : Int) = b[i] := rd_lt (by omega)
    refine Ev.step (fun k => by rw [slices_Equal_int64_int64.l0]) ?_
    rw [ea, eb, w64s (by omega), List.drop_eq_getElem_cons (show i < a.length by omega), List.drop_eq_getElem_cons (show i < b.length by omega)]
    refine ev_pos (by omega) (ev_pos (by omega) (ev_pos (by omega) (ev_pos (by omega) (ev_ite (fun hx => ?_) (fun hx => ?_)))))
    · rw [decide_eq_decide.mpr (⟨fun h => (List.cons.inj h).2, fun h => by rw [hx, h]⟩ : (a[i] :: a.drop (i + 1) = b[i] :: b.drop (i + 1)) ↔ (a.drop (i + 1) = b.drop (i + 1)))]
      exact ih
    · exact ev_now (decide_eq_false (fun h => hx (List.cons.inj h).1)).symm
theorem equal_ev (a b : List Int) (hn : a.length ≤ 1048576) : Ev (fun k => slices_Equal_int64_int64.f k a b) (decide (a = b)) := by
  unfold slices_Equal_int64_int64.f
  refine ev_ite (fun hl => ?_) (fun hl => ?_)
  · exact equal_loop a b (by omega) hn a.length 0 (by omega)
  · exact ev_now (decide_eq_false (fun h => hl (by rw [h]))).symm
def cS (a b : Int) : Bool := decide (a < b)
def cI (a b : Int) : Bool := decide (b = wrap64 (a + 1))
/-- The tree with a contour, its depths told by c. -/
def tocM (c : Int → Int → Bool) (x : List Int) : List Int × Int :=
  if (odM (ups c x x.length 0)).2 = true ∧ contM (odM (ups c x x.length 0)).1 (odM (ups c x x.length 0)).1.length 0 0 = x then ((odM (ups c x x.length 0)).1, 0) else ([], 4)
theorem spec_depths_loop2 {x : List Int} (hn : x.length ≤ 48) {u : List Int} {R : List Int × Int} (H : Ev (fun k => spec_TreeOfContour.l0 k x u (x.length : Int)) R) :
    ∀ (m i : Nat) (acc : List Int), i + m = x.length → acc ++ ups cS x m i = u → acc.length ≤ i → Ev (fun k => spec_TreeOfContour.l0 k x acc (i : Int)) R
  | 0, i, acc, hi, hu, _ => by
    simp only [ups, List.append_nil] at hu
    rw [hu, show i = x.length by omega]
    exact H
  | m + 1, i, acc, hi, hu, hl => by
    simp only [ups] at hu
    refine Ev.step (fun k => by rw [spec_TreeOfContour.l0]) ?_
    refine ev_pos (by omega) ?_
    rcases Nat.eq_zero_or_pos i with h0 | h0
    · rw [decide_eq_true h0, Bool.true_or, if_pos rfl] at hu
      refine ev_pos (by omega) (ev_pos (by omega) (ev_pos (by omega) ?_))
      rw [w64s (by omega), rd_nat]
      exact spec_depths_loop2 hn H m (i + 1) _ (by omega) (by simpa using hu) (by simp; omega)
    · have ew : wrap64 ((i : Int) - 1) = ((i - 1 : Nat) : Int) := by rw [w64 (by omega) (by omega)]; omega
      rw [decide_eq_false (by omega), Bool.false_or] at hu
      rw [ew, w64s (by omega), rd_nat, rd_nat]
      refine ev_neg (by omega) (ev_pos (by omega) (ev_pos (by omega) (ev_pos (by omega) (ev_ite (fun hx => ?_) (fun hx => ?_)))))
      · rw [if_pos (by unfold cS; exact decide_eq_true (by omega))] at hu
        exact ev_pos (by omega) (spec_depths_loop2 hn H m (i + 1) _ (by omega) (by simpa using hu) (by simp; omega))
      · rw [if_neg (by unfold cS; rw [decide_eq_true_eq]; omega)] at hu
        exact spec_depths_loop2 hn H m (i + 1) acc (by omega) hu (by omega)
theorem impl_depths_loop2 {x : List Int} (hn : x.length ≤ 48) {u : List Int} {R : List Int × Int} (H : Ev (fun k => impl_TreeOfContour.l0 k x u x (x.length : Int) (x.length : Int)) R) :
    ∀ (m i : Nat) (acc : List Int), i + m = x.length → acc ++ ups cI x m i = u → acc.length ≤ i → Ev (fun k => impl_TreeOfContour.l0 k x acc x (x.length : Int) (i : Int)) R
  | 0, i, acc, hi, hu, _ => by
    simp only [ups, List.append_nil] at hu
    rw [hu, show i = x.length by omega]
    exact H
  | m + 1, i, acc, hi, hu, hl => by
    simp only [ups] at hu
    refine Ev.step (fun k => by rw [impl_TreeOfContour.l0]) ?_
    refine ev_pos (by omega) (ev_pos (by omega) (ev_pos (by omega) ?_))
    rcases Nat.eq_zero_or_pos i with h0 | h0
    · rw [decide_eq_true h0, Bool.true_or, if_pos rfl] at hu
      refine ev_pos (by omega) (ev_pos (by omega) ?_)
      rw [w64s (by omega), rd_nat]
      exact impl_depths_loop2 hn H m (i + 1) _ (by omega) (by simpa using hu) (by simp; omega)
    · have ew : wrap64 ((i : Int) - 1) = ((i - 1 : Nat) : Int) := by rw [w64 (by omega) (by omega)]; omega
      rw [decide_eq_false (by omega), Bool.false_or] at hu
      rw [ew, w64s (by omega), rd_nat, rd_nat]
      refine ev_neg (by omega) (ev_pos (by omega) (ev_pos (by omega) (ev_ite (fun hx => ?_) (fun hx => ?_))))
      · rw [if_pos (by unfold cI; exact decide_eq_true hx)] at hu
        exact ev_pos (by omega) (impl_depths_loop2 hn H m (i + 1) _ (by omega) (by simpa using hu) (by simp; omega))
      · rw [if_neg (by unfold cI; rw [decide_eq_true_eq]; exact hx)] at hu
        exact impl_depths_loop2 hn H m (i + 1) acc (by omega) hu (by omega)
theorem spec_same_no (x c : List Int) (i : Nat) (t : List Int) : Ev (fun k => spec_TreeOfContour.l1 k x false c (i : Int) t) (([] : List Int), (4 : Int)) := by
  refine Ev.step (fun k => by rw [spec_TreeOfContour.l1]) ?_
  exact ev_ite (fun _ => ev_neg (by decide) (Ev.now _)) (fun _ => ev_neg (by decide) (Ev.now _))
theorem spec_same_loop (x c : List Int) (hx : x.length ≤ 48) (hl : c.length = x.length) (t : List Int) : ∀ (m i : Nat), i + m = x.length → Ev (fun k => spec_TreeOfContour.l1 k x true c (i : Int) t) (if c.drop i = x.drop i then (t, 0) else ([], 4))
  | 0, i, hi => by
    refine Ev.step (fun k => by rw [spec_TreeOfContour.l1]) ?_
    rw [List.drop_of_length_le (by omega), List.drop_of_length_le (by omega), if_pos (show ([] : List Int) = [] from rfl)]
    exact ev_neg (by omega) (ev_pos rfl (Ev.now _))
  | m + 1, i, hi => by
    have ih := spec_same_loop x c hx hl t m (i + 1) (by omega)
    have ea : rd c (i : Int) = c[i] := rd_lt (by omega)
    have eb : rd x (i : Int) = x[i] := rd_lt (by omega)
    refine Ev.step (fun k => by rw [spec_TreeOfContour.l1]) ?_
    rw [ea, eb, w64s (by omega), List.drop_eq_getElem_cons (show i < c.length by omega), List.drop_eq_getElem_cons (show i < x.length by omega)]
    refine ev_pos (by omega) (ev_pos rfl (ev_pos (by omega) (ev_pos (by omega) ?_)))
    by_cases e : c[i] = x[i]
    · rw [beq_iff_eq.2 e]
      by_cases e2 : c.drop (i + 1) = x.drop (i + 1)
      · rw [if_pos e2] at ih; rw [if_pos (by rw [e, e2])]; exact ih
      · rw [if_neg e2] at ih; rw [if_neg (fun h => e2 (List.cons.inj h).2)]; exact ih
    · rw [beq_eq_false_iff_ne.2 e, if_neg (fun h => e (List.cons.inj h).1)]
      exact spec_same_no x c (i + 1) t
theorem spec_toc_ev (x : List Int) (hx : x.length ≤ 48) : Ev (fun k => spec_TreeOfContour.l0 k x [] 0) (tocM cS x) := by
  have hul := ups_length cS x x.length 0
  refine spec_depths_loop2 (i := 0) (u := ups cS x x.length 0) hx ?_ x.length [] (by omega) rfl (by simp)
  refine Ev.step (fun k => by rw [spec_TreeOfContour.l0]) ?_
  unfold tocM
  refine ev_neg (by omega) (Ev.bind (spec_od_ev _ (by omega)) (ev_ite (fun hok => ?_) (fun hok => ?_)))
  · obtain ⟨ht, hl⟩ := odM_tree (by omega) hok
    refine Ev.bind (spec_contour_ev ht (by omega)) ?_
    by_cases hlen : (contM (odM (ups cS x x.length 0)).1 (odM (ups cS x x.length 0)).1.length 0 0).length = x.length
    · rw [beq_iff_eq.2 (by omega)]
      have := spec_same_loop x _ hx hlen (odM (ups cS x x.length 0)).1 x.length 0 (by omega)
      simp only [List.drop_zero] at this
      by_cases e : contM (odM (ups cS x x.length 0)).1 (odM (ups cS x x.length 0)).1.length 0 0 = x
      · rw [if_pos e] at this; rw [if_pos ⟨hok, e⟩]; exact this
      · rw [if_neg e] at this; rw [if_neg (fun h => e h.2)]; exact this
    · rw [beq_eq_false_iff_ne.2 (by omega), if_neg (fun h => hlen (by rw [h.2]))]
      exact spec_same_no x _ 0 _
  · rw [if_neg (fun h => hok h.1)]; exact Ev.now _
theorem impl_od_big (x : List Int) (hn : 24 < x.length) : Ev (fun k => impl_treeOfDepths.f k x) (([] : List Int), false) := by
  unfold impl_treeOfDepths.f
  rw [decide_eq_true (by omega)]
  refine ev_neg (by omega) ?_
  refine Ev.step (fun k => by rw [impl_treeOfDepths.j0]) ?_
  exact ev_pos rfl (Ev.now _)
theorem impl_toc_ev (x : List Int) (hx : x.length ≤ 48) : Ev (fun k => impl_TreeOfContour.l0 k x [] x (x.length : Int) 0) (if 24 < (ups cI x x.length 0).length then ([], 4) else tocM cI x) := by
  have hul := ups_length cI x x.length 0
  refine impl_depths_loop2 (i := 0) (u := ups cI x x.length 0) hx ?_ x.length [] (by omega) rfl (by simp)
  refine Ev.step (fun k => by rw [impl_TreeOfContour.l0]) ?_
  refine ev_neg (by omega) ?_
  by_cases hb : 24 < (ups cI x x.length 0).length
  · rw [if_pos hb]
    exact Ev.bind (impl_od_big _ hb) (ev_neg (by decide) (Ev.now _))
  · rw [if_neg hb]
    unfold tocM
    refine Ev.bind (impl_od_ev _ (by omega)) (ev_ite (fun hok => ?_) (fun hok => ?_))
    · obtain ⟨ht, hl⟩ := odM_tree (by omega) hok
      have hcl := contour_length ht
      refine Ev.bind (impl_contour_ev ht (by omega)) (Ev.bind (equal_ev _ _ (by omega)) (ev_ite (fun he => ?_) (fun he => ?_)))
      · rw [if_pos ⟨hok, of_decide_eq_true he⟩]; exact Ev.now _
      · rw [if_neg (fun h => he (decide_eq_true h.2))]; exact Ev.now _
    · rw [if_neg (fun h => hok h.1)]; exact Ev.now _
theorem zig_ups {t x : List Int} (ht : IsT t) (hx : contM t t.length 0 0 = x) (hl : x.length ≤ 48) : ups cS x x.length 0 = ups cI x x.length 0 := by
  obtain ⟨l, h1, h2⟩ := cont_zig ht t.length 0 0 ht.len (root_all ht)
  rw [hx] at h1
  have hll : x.length = l.length + 1 := by rw [h1]; rfl
  refine ups_congr _ _ (fun j h0 hj => ?_)
  have h3 := h2.one (j - 1) (by omega)
  have h4 := h2.bd (j - 1) (by omega)
  rw [show j - 1 + 1 = j by omega, ← h1] at h3
  rw [← h1] at h4
  unfold cS cI
  rw [w64 (by omega) (by omega)]
  exact decide_eq_decide.mpr (by omega)
theorem toc_same (x : List Int) (hx : x.length ≤ 48) : (if 24 < (ups cI x x.length 0).length then ([], 4) else tocM cI x) = tocM cS x := by
  by_cases hp : (odM (ups cS x x.length 0)).2 = true ∧ contM (odM (ups cS x x.length 0)).1 (odM (ups cS x x.length 0)).1.length 0 0 = x
  · have hul := ups_length cS x x.length 0
    obtain ⟨ht, hl⟩ := odM_tree (by omega) hp.1
    have e := zig_ups ht hp.2 hx
    have hc := contour_length ht
    rw [hp.2] at hc
    unfold tocM
    rw [← e, if_neg (by omega)]
  · have e2 : tocM cS x = ([], 4) := by unfold tocM; rw [if_neg hp]
    rw [e2]
    split
    · rfl
    · unfold tocM
      rw [if_neg (fun hq => ?_)]
      have hul := ups_length cI x x.length 0
      obtain ⟨ht, hl⟩ := odM_tree (by omega) hq.1
      have e := zig_ups ht hq.2 hx
      rw [← e] at hq
      exact hp hq
theorem both_TreeOfContour (x : List Int) : ∃ r : List Int × Int, r.1.length ≤ 1048576 ∧ Ev (fun k => spec_TreeOfContour.f k x) r ∧ Ev (fun k => impl_TreeOfContour.f k x) r := by
  by_cases hx : x.length ≤ 48
  · refine ⟨tocM cS x, ?_, ?_, ?_⟩
    · unfold tocM
      have h1 := odM_length (ups cS x x.length 0)
      have h2 := ups_length cS x x.length 0
      split
      · simp only; omega
      · simp
    · unfold spec_TreeOfContour.f
      exact ev_neg (by omega) (spec_toc_ev x hx)
    · unfold impl_TreeOfContour.f
      rw [← toc_same x hx]
      exact ev_neg (by omega) (impl_toc_ev x hx)
  · refine ⟨([], 2), by simp, ?_, ?_⟩
    · unfold spec_TreeOfContour.f
      exact ev_pos (by omega) (Ev.now _)
    · unfold impl_TreeOfContour.f
      exact ev_pos (by omega) (Ev.now _)
end Go.Proofs.Ytdhmoglkcfgikaa.E
namespace Go.Proofs.Ytdhmoglkcfgikaa.Pure
open Go.RowKit Go.Proofs.YtdhmoglkcfgikaaW.PrintWords Go.Proofs.Ytdhmoglkcfgikaa.Base Go.Proofs.Ytdhmoglkcfgikaa.E
theorem FnExactTreeOfContour : ∀ (l : List Int), l.length ≤ maxLen → (∀ x ∈ l, (Lit.int .i64 x).wf = true) → ∃ k, laws_FnExactTreeOfContour.f k l = some true := by
  intro l _ _
  apply Ev.rounds
  unfold laws_FnExactTreeOfContour.f
  refine ev_ite (fun _ => Ev.now _) (fun h => ?_)
  have hl : l.length ≤ 1048576 := by omega
  obtain ⟨r, hr, h1, h2⟩ := both_TreeOfContour l
  refine Ev.bind (toInt64S_ev l hl) (Ev.bind h1 (Ev.bind (toInt64S_ev l hl) (Ev.bind h2 (Ev.bind (eqTree_ev _ hr) (ev_pos rfl ?_)))))
  refine Ev.step (fun k => by rw [laws_FnExactTreeOfContour.j0]) ?_
  refine ev_neg (by simp) ?_
  refine Ev.bind (toInt64S_ev l hl) (Ev.bind (eqInt64S_ev l hl) (ev_pos rfl (Ev.bind (markInt64S_ev l 1 (by decide) (by decide) hl) (ev_neg (by simp only; omega) (Ev.bind (eqTree_ev _ hr) (ev_pos rfl ?_))))))
  refine Ev.step (fun k => by rw [laws_FnExactTreeOfContour.j1]) ?_
  refine ev_neg (by simp) ?_
  refine Ev.bind (markTree_ev _ 1 (by decide) (by decide) hr) (Ev.bind (heldTree_ev _ 1 (by decide) (by decide) hr) (ev_neg (by omega) (ev_pos rfl (Ev.bind (toInt64S_ev l hl) (Ev.bind h2 (Ev.bind (eqTree_ev _ hr) (ev_pos rfl ?_)))))))
  refine Ev.step (fun k => by rw [laws_FnExactTreeOfContour.j2]) ?_
  refine ev_neg (by simp) ?_
  exact Ev.bind (heldTree_ev _ 1 (by decide) (by decide) hr) (ev_neg (by omega) (ev_pos rfl (Ev.now _)))
end Go.Proofs.Ytdhmoglkcfgikaa.Pure
