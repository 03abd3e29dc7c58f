/- The row of the law FnExactOpenTrees, out of its pure statement. -/
import Derived.Test.YtmambanmffdibaaQOPEx0
import Derived.Test.YtmambanmffdibaaQOPEx1
import Derived.Test.YtmambanmffdibaaQOPEx18
import Derived.Test.YtmambanmffdibaaQOPEx3
import Derived.Test.YtmambanmffdibaaQOPEx5
import Derived.Test.YtmambanmffdibaaQOPEx6
import Derived.Test.YtmambanmffdibaaQOPL1
namespace Go.Proofs.Ytmambanmffdibaa.E
set_option linter.unusedVariables false
set_option linter.unusedSectionVars false
open Go.RowKit Go.Proofs.YtmambanmffdibaaW.PrintWords Go.Proofs.Ytmambanmffdibaa.Base

theorem toInt64S_loop (x0 : List Int) (hn : x0.length ≤ 1048576) : ∀ (m i : Nat) (x3 : List Int), i + m = x0.length → x3.length = x0.length → (∀ j, j < i → x3.getD j 0 = x0.getD j 0) → Ev (fun k => laws_toInt64S.l0 k x0 x3 (i : Int)) x0 := by
  intro m
  induction m with
  | zero =>
    intro i x3 h1 h2 h3
    refine Ev.step (fun k => by rw [laws_toInt64S.l0]) ?_
    refine ev_neg (by omega) ?_
    exact ev_now (ext_getD h2 (fun j hj => h3 j (by omega)))
  | succ m ih =>
    intro i x3 h1 h2 h3
    refine Ev.step (fun k => by rw [laws_toInt64S.l0]) ?_
    refine ev_pos (by omega) (ev_pos (by omega) (ev_pos (by omega) ?_))
    rw [w64s (by omega)]
    exact ih (i + 1) _ (by omega) (by simpa using h2) (set_eq h2 h3)
theorem toInt64S_ev (l : List Int) (hn : l.length ≤ 1048576) : Ev (fun k => laws_toInt64S.f k l) l := by
  unfold laws_toInt64S.f
  refine ev_pos (by omega) (ev_pos (by simp; omega) ?_)
  exact toInt64S_loop l hn l.length 0 _ (by omega) (by simp) (fun j hj => by omega)
theorem toTree_ev (l : List Int) (hn : l.length ≤ 1048576) : Ev (fun k => laws_toTree.f k l) l := by
  unfold laws_toTree.f
  exact Ev.bind (toInt64S_ev l hn) (Ev.now _)
theorem eqInt64S_loop (a : List Int) (hn : a.length ≤ 1048576) : ∀ (m i : Nat), i + m = a.length → Ev (fun k => laws_eqInt64S.l0 k a a (i : Int)) true := by
  intro m
  induction m with
  | zero =>
    intro i h1
    refine Ev.step (fun k => by rw [laws_eqInt64S.l0]) ?_
    refine ev_neg (by omega) ?_
    exact Ev.now _
  | succ m ih =>
    intro i h1
    refine Ev.step (fun k => by rw [laws_eqInt64S.l0]) ?_
    refine ev_pos (by omega) (ev_pos (by omega) (ev_pos (by omega) (ev_pos rfl ?_)))
    rw [w64s (by omega)]
    exact ih (i + 1) (by omega)
theorem eqInt64S_ev (a : List Int) (hn : a.length ≤ 1048576) : Ev (fun k => laws_eqInt64S.f k a a) true := by
  unfold laws_eqInt64S.f
  exact ev_pos rfl (eqInt64S_loop a hn a.length 0 (by omega))
theorem eqTree_ev (a : List Int) (hn : a.length ≤ 1048576) : Ev (fun k => laws_eqTree.f k a a) true := by
  unfold laws_eqTree.f
  exact Ev.bind (eqInt64S_ev a hn) (ev_pos rfl (Ev.now _))
def marks (m : Int) : Nat → List Int
  | 0 => []
  | n + 1 => m :: marks (m + 1) n
theorem marks_length : ∀ (n : Nat) (m : Int), (marks m n).length = n
  | 0, _ => rfl
  | n + 1, m => by simp [marks, marks_length n]
theorem marks_getD : ∀ (n : Nat) (m : Int) (j : Nat), j < n → (marks m n).getD j 0 = m + j
  | 0, _, j, h => by omega
  | n + 1, m, 0, _ => by simp [marks]
  | n + 1, m, j + 1, h => by
    have := marks_getD n (m + 1) j (by omega)
    simp only [marks, List.getD_cons_succ]
    omega
theorem markInt64S_loop (n : Nat) (m0 : Int) (h0 : 0 ≤ m0) (h1 : m0 ≤ 4611686018427387904) (hn : n ≤ 1048576) : ∀ (m i : Nat) (x : List Int), i + m = n → x.length = n → (∀ j, j < i → x.getD j 0 = m0 + j) → Ev (fun k => laws_markInt64S.l0 k x (m0 + i) (i : Int)) (m0 + n, marks m0 n) := by
  intro m
  induction m with
  | zero =>
    intro i x h2 h3 h4
    refine Ev.step (fun k => by rw [laws_markInt64S.l0]) ?_
    refine ev_neg (by omega) (ev_now ?_)
    have e : x = marks m0 n := ext_getD (by rw [marks_length, h3]) (fun j hj => by rw [marks_length] at hj; rw [h4 j (by omega), marks_getD n m0 j hj])
    rw [e, show i = n by omega]
  | succ m ih =>
    intro i x h2 h3 h4
    refine Ev.step (fun k => by rw [laws_markInt64S.l0]) ?_
    refine ev_pos (by omega) (ev_pos (by omega) ?_)
    rw [w64s (by omega), w64 (by omega) (by omega), show m0 + (i : Int) + 1 = m0 + ((i + 1 : Nat) : Int) by omega]
    refine ih (i + 1) _ (by omega) (by simpa using h3) (fun j hj => ?_)
    by_cases e : i = j
    · subst e
      rw [show ((i : Int)).toNat = i from rfl, get_set_eq (by omega)]
    · rw [show ((i : Int)).toNat = i from rfl, get_set_ne e]
      exact h4 j (by omega)
theorem markInt64S_ev (l : List Int) (m0 : Int) (h0 : 0 ≤ m0) (h1 : m0 ≤ 4611686018427387904) (hn : l.length ≤ 1048576) : Ev (fun k => laws_markInt64S.f k l m0) (m0 + l.length, marks m0 l.length) := by
  unfold laws_markInt64S.f
  have := markInt64S_loop l.length m0 h0 h1 hn l.length 0 l (by omega) rfl (fun j hj => by omega)
  simpa using this
theorem markTree_ev (l : List Int) (m0 : Int) (h0 : 0 ≤ m0) (h1 : m0 ≤ 4611686018427387904) (hn : l.length ≤ 1048576) : Ev (fun k => laws_markTree.f k l m0) (m0 + l.length, marks m0 l.length) := by
  unfold laws_markTree.f
  exact Ev.bind (markInt64S_ev l m0 h0 h1 hn) (Ev.now _)
theorem heldInt64S_loop (n : Nat) (m0 : Int) (h0 : 0 ≤ m0) (h1 : m0 ≤ 4611686018427387904) (hn : n ≤ 1048576) : ∀ (m i : Nat), i + m = n → Ev (fun k => laws_heldInt64S.l0 k (marks m0 n) (m0 + i) (i : Int)) (m0 + n) := by
  intro m
  induction m with
  | zero =>
    intro i h2
    refine Ev.step (fun k => by rw [laws_heldInt64S.l0]) ?_
    refine ev_neg (by rw [marks_length]; omega) (ev_now ?_)
    rw [show i = n by omega]
  | succ m ih =>
    intro i h2
    refine Ev.step (fun k => by rw [laws_heldInt64S.l0]) ?_
    refine ev_pos (by rw [marks_length]; omega) (ev_pos (by omega) (ev_pos (marks_getD n m0 i (by omega)) ?_))
    rw [w64s (by omega), w64 (by omega) (by omega), show m0 + (i : Int) + 1 = m0 + ((i + 1 : Nat) : Int) by omega]
    exact ih (i + 1) (by omega)
theorem heldInt64S_ev (n : Nat) (m0 : Int) (h0 : 0 ≤ m0) (h1 : m0 ≤ 4611686018427387904) (hn : n ≤ 1048576) : Ev (fun k => laws_heldInt64S.f k (marks m0 n) m0) (m0 + n) := by
  unfold laws_heldInt64S.f
  have := heldInt64S_loop n m0 h0 h1 hn n 0 (by omega)
  simpa using this
theorem szTree_eq (l : List Int) (a : Int) (h0 : 0 ≤ a) (h1 : a ≤ 1048576) (hl : l.length ≤ maxLen) : laws_szTree.f l a = some (if a < l.length then -1 else a - l.length) := by
  unfold maxLen at hl
  unfold laws_szTree.f laws_szInt64S.f
  rw [w64 (by omega) (by omega)]
  by_cases h : a < l.length
  · rw [if_pos (by omega), if_pos h]; rfl
  · rw [if_neg (by omega), if_neg h, Option.bind_some, if_neg (by omega)]
end Go.Proofs.Ytmambanmffdibaa.E
namespace Go.Proofs.Ytmambanmffdibaa.E
set_option linter.unusedVariables false
set_option linter.unusedSectionVars false
open Go.RowKit Go.Proofs.YtmambanmffdibaaW.PrintWords Go.Proofs.Ytmambanmffdibaa.Base
theorem rdT_eq (l : List S31) (i : Nat) (h : i < l.length) : rd_T31 l (i : Int) = l[i] := by
  show l.getD (i : Int).toNat z31 = _
  rw [Int.toNat_natCast, List.getD_eq_getElem?_getD, List.getElem?_eq_getElem h]; rfl
theorem eqTreeS_ev (l : List S31) (hl : l.length ≤ 1048576) (hx : ∀ x ∈ l, x.f0.length ≤ 1048576) : Ev (fun k => laws_eqTreeS.f k l l) true := by
  have loop : ∀ (m i : Nat), i + m = l.length → Ev (fun k => laws_eqTreeS.l0 k l l (i : Int)) true := by
    intro m
    induction m with
    | zero => intro i hi; exact Ev.step (fun k => by rw [laws_eqTreeS.l0]) (ev_neg (by omega) (ev_now rfl))
    | succ m ih =>
      intro i hi
      have hil : i < l.length := by omega
      refine Ev.step (fun k => by rw [laws_eqTreeS.l0]) (ev_pos (by omega) (ev_pos (by omega) (ev_pos (by omega) ?_)))
      rw [rdT_eq l i hil]
      refine Ev.bind (eqTree_ev _ (hx _ (List.getElem_mem hil))) (ev_pos rfl ?_)
      rw [w64s (by omega)]
      exact ih (i + 1) (by omega)
  unfold laws_eqTreeS.f
  exact ev_pos rfl (loop l.length 0 (by omega))
def markT : Int → List S31 → List S31
  | _, [] => []
  | m, x :: l => ⟨marks m x.f0.length⟩ :: markT (m + x.f0.length) l
def endT : Int → List S31 → Int
  | m, [] => m
  | m, x :: l => endT (m + x.f0.length) l
theorem endT_le : ∀ (l : List S31) (m : Int), (∀ x ∈ l, x.f0.length ≤ 1048576) → m ≤ endT m l ∧ endT m l ≤ m + 1048576 * l.length
  | [], m, _ => by rw [endT]; simp
  | x :: l, m, h => by
    have h1 := h x List.mem_cons_self
    have h2 := endT_le l (m + x.f0.length) (fun y hy => h y (List.mem_cons_of_mem _ hy))
    rw [endT, List.length_cons]
    constructor <;> omega
theorem markTreeS_ev (l : List S31) (m0 : Int) (h0 : 0 ≤ m0) (h1 : m0 ≤ 1048576) (hl : l.length ≤ 1048576) (hx : ∀ x ∈ l, x.f0.length ≤ 1048576) : Ev (fun k => laws_markTreeS.f k l m0) (endT m0 l, markT m0 l) := by
  have loop : ∀ (b a : List S31) (m : Int), 0 ≤ m → m + 1048576 * b.length ≤ 1048576 + 1048576 * 1048576 → a.length + b.length ≤ 1048576 → (∀ x ∈ b, x.f0.length ≤ 1048576) → Ev (fun k => laws_markTreeS.l0 k (a ++ b) m (a.length : Int)) (endT m b, a ++ markT m b) := by
    intro b
    induction b with
    | nil =>
      intro a m _ _ _ _
      refine Ev.step (fun k => by rw [laws_markTreeS.l0]) ?_
      exact ev_neg (by simp) (ev_now rfl)
    | cons x b ih =>
      intro a m hm hm2 hab hb
      have hxl := hb x List.mem_cons_self
      rw [List.length_cons] at hm2 hab
      have hrd : rd_T31 (a ++ x :: b) (a.length : Int) = x := by rw [rdT_eq _ _ (by simp)]; simp
      refine Ev.step (fun k => by rw [laws_markTreeS.l0]) (ev_pos (by simp; omega) (ev_pos (by omega) ?_))
      rw [hrd]
      refine Ev.bind (markInt64S_ev x.f0 m hm (by omega) hxl) ?_
      rw [w64s (by omega), Int.toNat_natCast]
      have e : (a ++ x :: b).set a.length (⟨marks m x.f0.length⟩ : S31) = (a ++ [(⟨marks m x.f0.length⟩ : S31)]) ++ b := by
        rw [List.set_append_right _ _ (Nat.le_refl _), Nat.sub_self, List.set_cons_zero]; simp
      have := ih (a ++ [(⟨marks m x.f0.length⟩ : S31)]) (m + x.f0.length) (by omega) (by omega) (by simp; omega) (fun y hy => hb y (List.mem_cons_of_mem _ hy))
      rw [List.length_append, List.append_assoc _ _ (markT _ _)] at this
      show Ev (fun k => laws_markTreeS.l0 k ((a ++ x :: b).set a.length (⟨marks m x.f0.length⟩ : S31)) (m + x.f0.length) ((a.length + 1 : Nat) : Int)) _
      rw [e]
      exact this
  have := loop l [] m0 h0 (by omega) (by simpa using hl) hx
  exact this
end Go.Proofs.Ytmambanmffdibaa.E
namespace Go.Proofs.Ytmambanmffdibaa.E
set_option linter.unusedVariables false
set_option linter.unusedSectionVars false
open Go.RowKit Go.Proofs.YtmambanmffdibaaW.PrintWords Go.Proofs.Ytmambanmffdibaa.Base
theorem heldTreeS_ev (l : List S31) (m0 : Int) (h0 : 0 ≤ m0) (h1 : m0 ≤ 1048576) (hl : l.length ≤ 1048576) (hx : ∀ x ∈ l, x.f0.length ≤ 1048576) : Ev (fun k => laws_heldTreeS.f k (markT m0 l) m0) (endT m0 l) := by
  have loop : ∀ (b : List S31) (a : List S31) (m : Int), 0 ≤ m → m + 1048576 * b.length ≤ 1048576 + 1048576 * 1048576 → a.length + b.length ≤ 1048576 → (∀ x ∈ b, x.f0.length ≤ 1048576) → Ev (fun k => laws_heldTreeS.l0 k (a ++ markT m b) m (a.length : Int)) (endT m b) := by
    intro b
    induction b with
    | nil =>
      intro a m _ _ _ _
      refine Ev.step (fun k => by rw [laws_heldTreeS.l0]) ?_
      exact ev_neg (by simp [markT]) (ev_now rfl)
    | cons x b ih =>
      intro a m hm hm2 hab hb
      have hxl := hb x List.mem_cons_self
      rw [List.length_cons] at hm2 hab
      have hrd : rd_T31 (a ++ markT m (x :: b)) (a.length : Int) = ⟨marks m x.f0.length⟩ := by rw [rdT_eq _ _ (by simp [markT])]; simp [markT]
      refine Ev.step (fun k => by rw [laws_heldTreeS.l0]) (ev_pos (by simp [markT]; omega) (ev_pos (by omega) ?_))
      rw [hrd]
      refine Ev.bind (heldInt64S_ev x.f0.length m hm (by omega) hxl) (ev_neg (by omega) ?_)
      rw [w64s (by omega)]
      have := ih (a ++ [(⟨marks m x.f0.length⟩ : S31)]) (m + x.f0.length) (by omega) (by omega) (by simp; omega) (fun y hy => hb y (List.mem_cons_of_mem _ hy))
      rw [List.length_append, List.append_assoc] at this
      exact this
  have := loop l [] m0 h0 (by omega) (by simpa using hl) hx
  exact this
end Go.Proofs.Ytmambanmffdibaa.E
