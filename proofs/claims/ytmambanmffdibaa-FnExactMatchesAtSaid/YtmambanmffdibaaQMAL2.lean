/- The row of the law FnExactMatchesAt, out of its pure statement. -/
import Derived.Test.YtmambanmffdibaaQMAEx0
import Derived.Test.YtmambanmffdibaaQMAEx3
import Derived.Test.YtmambanmffdibaaQMAL1
namespace Go.Proofs.Ytmambanmffdibaa.E
set_option linter.unusedVariables false
set_option linter.unusedSectionVars false
open Go.RowKit Go.Proofs.YtmambanmffdibaaW.PrintWords Go.Proofs.Ytmambanmffdibaa.Base

theorem toInt64S_loop (x0 : List Int) (hn : x0.length ≤ 1048576) : ∀ (m i : Nat) (x3 : List Int), i + m = x0.length → x3.length = x0.length → (∀ j, j < i → x3.getD j 0 = x0.getD j 0) → Ev (fun k => laws_toInt64S.l0 k x0 x3 (i : Int)) x0 := by
  intro m
  induction m with
  | zero =>
    intro i x3 h1 h2 h3
    refine Ev.step (fun k => by rw [laws_toInt64S.l0]) ?_
    refine ev_neg (by omega) ?_
    exact ev_now (ext_getD h2 (fun j hj => h3 j (by omega)))
  | succ m ih =>
    intro i x3 h1 h2 h3
    refine Ev.step (fun k => by rw [laws_toInt64S.l0]) ?_
    refine ev_pos (by omega) (ev_pos (by omega) (ev_pos (by omega) ?_))
    rw [w64s (by omega)]
    exact ih (i + 1) _ (by omega) (by simpa using h2) (set_eq h2 h3)
theorem toInt64S_ev (l : List Int) (hn : l.length ≤ 1048576) : Ev (fun k => laws_toInt64S.f k l) l := by
  unfold laws_toInt64S.f
  refine ev_pos (by omega) (ev_pos (by simp; omega) ?_)
  exact toInt64S_loop l hn l.length 0 _ (by omega) (by simp) (fun j hj => by omega)
theorem toTree_ev (l : List Int) (hn : l.length ≤ 1048576) : Ev (fun k => laws_toTree.f k l) l := by
  unfold laws_toTree.f
  exact Ev.bind (toInt64S_ev l hn) (Ev.now _)
theorem eqInt64S_loop (a : List Int) (hn : a.length ≤ 1048576) : ∀ (m i : Nat), i + m = a.length → Ev (fun k => laws_eqInt64S.l0 k a a (i : Int)) true := by
  intro m
  induction m with
  | zero =>
    intro i h1
    refine Ev.step (fun k => by rw [laws_eqInt64S.l0]) ?_
    refine ev_neg (by omega) ?_
    exact Ev.now _
  | succ m ih =>
    intro i h1
    refine Ev.step (fun k => by rw [laws_eqInt64S.l0]) ?_
    refine ev_pos (by omega) (ev_pos (by omega) (ev_pos (by omega) (ev_pos rfl ?_)))
    rw [w64s (by omega)]
    exact ih (i + 1) (by omega)
theorem eqInt64S_ev (a : List Int) (hn : a.length ≤ 1048576) : Ev (fun k => laws_eqInt64S.f k a a) true := by
  unfold laws_eqInt64S.f
  exact ev_pos rfl (eqInt64S_loop a hn a.length 0 (by omega))
theorem eqTree_ev (a : List Int) (hn : a.length ≤ 1048576) : Ev (fun k => laws_eqTree.f k a a) true := by
  unfold laws_eqTree.f
  exact Ev.bind (eqInt64S_ev a hn) (ev_pos rfl (Ev.now _))
def marks (m : Int) : Nat → List Int
  | 0 => []
  | n + 1 => m :: marks (m + 1) n
theorem marks_length : ∀ (n : Nat) (m : Int), (marks m n).length = n
  | 0, _ => rfl
  | n + 1, m => by simp [marks, marks_length n]
theorem szTree_eq (l : List Int) (a : Int) (h0 : 0 ≤ a) (h1 : a ≤ 1048576) (hl : l.length ≤ maxLen) : laws_szTree.f l a = some (if a < l.length then -1 else a - l.length) := by
  unfold maxLen at hl
  unfold laws_szTree.f laws_szInt64S.f
  rw [w64 (by omega) (by omega)]
  by_cases h : a < l.length
  · rw [if_pos (by omega), if_pos h]; rfl
  · rw [if_neg (by omega), if_neg h, Option.bind_some, if_neg (by omega)]
end Go.Proofs.Ytmambanmffdibaa.E
