/- The row of the law FnExactFillPattern, out of its pure statement. -/
import Derived.Test.YtmambanmffdibaaQFPEx14
import Derived.Test.YtmambanmffdibaaQFPEx3
import Derived.Test.YtmambanmffdibaaQFPEx5
import Derived.Test.YtmambanmffdibaaQFPEx6
import Derived.Test.YtmambanmffdibaaQFPL1
import Derived.Test.YtmambanmffdibaaQFPL2
import Derived.Test.YtmambanmffdibaaQFPL3
namespace Go.Proofs.Ytmambanmffdibaa.E
set_option linter.unusedVariables false
set_option linter.unusedSectionVars false
open Go.RowKit Go.Proofs.YtmambanmffdibaaW.PrintWords Go.Proofs.Ytmambanmffdibaa.Base

theorem toInt64S_loop (x0 : List Int) (hn : x0.length ≤ 1048576) : ∀ (m i : Nat) (x3 : List Int), i + m = x0.length → x3.length = x0.length → (∀ j, j < i → x3.getD j 0 = x0.getD j 0) → Ev (fun k => laws_toInt64S.l0 k x0 x3 (i : Int)) x0 := by
  intro m
  induction m with
  | zero =>
    intro i x3 h1 h2 h3
    refine Ev.step (fun k => by rw [laws_toInt64S.l0]) ?_
    refine ev_neg (by omega) ?_
    exact ev_now (ext_getD h2 (fun j hj => h3 j (by omega)))
  | succ m ih =>
    intro i x3 h1 h2 h3
    refine Ev.step (fun k => by rw [laws_toInt64S.l0]) ?_
    refine ev_pos (by omega) (ev_pos (by omega) (ev_pos (by omega) ?_))
    rw [w64s (by omega)]
    exact ih (i + 1) _ (by omega) (by simpa using h2) (set_eq h2 h3)
theorem toInt64S_ev (l : List Int) (hn : l.length ≤ 1048576) : Ev (fun k => laws_toInt64S.f k l) l := by
  unfold laws_toInt64S.f
  refine ev_pos (by omega) (ev_pos (by simp; omega) ?_)
  exact toInt64S_loop l hn l.length 0 _ (by omega) (by simp) (fun j hj => by omega)
theorem toTree_ev (l : List Int) (hn : l.length ≤ 1048576) : Ev (fun k => laws_toTree.f k l) l := by
  unfold laws_toTree.f
  exact Ev.bind (toInt64S_ev l hn) (Ev.now _)
theorem eqInt64S_loop (a : List Int) (hn : a.length ≤ 1048576) : ∀ (m i : Nat), i + m = a.length → Ev (fun k => laws_eqInt64S.l0 k a a (i : Int)) true := by
  intro m
  induction m with
  | zero =>
    intro i h1
    refine Ev.step (fun k => by rw [laws_eqInt64S.l0]) ?_
    refine ev_neg (by omega) ?_
    exact Ev.now _
  | succ m ih =>
    intro i h1
    refine Ev.step (fun k => by rw [laws_eqInt64S.l0]) ?_
    refine ev_pos (by omega) (ev_pos (by omega) (ev_pos (by omega) (ev_pos rfl ?_)))
    rw [w64s (by omega)]
    exact ih (i + 1) (by omega)
theorem eqInt64S_ev (a : List Int) (hn : a.length ≤ 1048576) : Ev (fun k => laws_eqInt64S.f k a a) true := by
  unfold laws_eqInt64S.f
  exact ev_pos rfl (eqInt64S_loop a hn a.length 0 (by omega))
theorem eqTree_ev (a : List Int) (hn : a.length ≤ 1048576) : Ev (fun k => laws_eqTree.f k a a) true := by
  unfold laws_eqTree.f
  exact Ev.bind (eqInt64S_ev a hn) (ev_pos rfl (Ev.now _))
def marks (m : Int) : Nat → List Int
  | 0 => []
  | n + 1 => m :: marks (m + 1) n
theorem marks_length : ∀ (n : Nat) (m : Int), (marks m n).length = n
  | 0, _ => rfl
  | n + 1, m => by simp [marks, marks_length n]
theorem marks_getD : ∀ (n : Nat) (m : Int) (j : Nat), j < n → (marks m n).getD j 0 = m + j
  | 0, _, j, h => by omega
  | n + 1, m, 0, _ => by simp [marks]
  | n + 1, m, j + 1, h => by
    have := marks_getD n (m + 1) j (by omega)
    simp only [marks, List.getD_cons_succ]
    omega
theorem markInt64S_loop (n : Nat) (m0 : Int) (h0 : 0 ≤ m0) (h1 : m0 ≤ 4611686018427387904) (hn : n ≤ 1048576) : ∀ (m i : Nat) (x : List Int), i + m = n → x.length = n → (∀ j, j < i → x.getD j 0 = m0 + j) → Ev (fun k => laws_markInt64S.l0 k x (m0 + i) (i : Int)) (m0 + n, marks m0 n) := by
  intro m
  induction m with
  | zero =>
    intro i x h2 h3 h4
    refine Ev.step (fun k => by rw [laws_markInt64S.l0]) ?_
    refine ev_neg (by omega) (ev_now ?_)
    have e : x = marks m0 n := ext_getD (by rw [marks_length, h3]) (fun j hj => by rw [marks_length] at hj; rw [h4 j (by omega), marks_getD n m0 j hj])
    rw [e, show i = n by omega]
  | succ m ih =>
    intro i x h2 h3 h4
    refine Ev.step (fun k => by rw [laws_markInt64S.l0]) ?_
    refine ev_pos (by omega) (ev_pos (by omega) ?_)
    rw [w64s (by omega), w64 (by omega) (by omega), show m0 + (i : Int) + 1 = m0 + ((i + 1 : Nat) : Int) by omega]
    refine ih (i + 1) _ (by omega) (by simpa using h3) (fun j hj => ?_)
    by_cases e : i = j
    · subst e
      rw [show ((i : Int)).toNat = i from rfl, get_set_eq (by omega)]
    · rw [show ((i : Int)).toNat = i from rfl, get_set_ne e]
      exact h4 j (by omega)
theorem markInt64S_ev (l : List Int) (m0 : Int) (h0 : 0 ≤ m0) (h1 : m0 ≤ 4611686018427387904) (hn : l.length ≤ 1048576) : Ev (fun k => laws_markInt64S.f k l m0) (m0 + l.length, marks m0 l.length) := by
  unfold laws_markInt64S.f
  have := markInt64S_loop l.length m0 h0 h1 hn l.length 0 l (by omega) rfl (fun j hj => by omega)
  simpa using this
theorem markTree_ev (l : List Int) (m0 : Int) (h0 : 0 ≤ m0) (h1 : m0 ≤ 4611686018427387904) (hn : l.length ≤ 1048576) : Ev (fun k => laws_markTree.f k l m0) (m0 + l.length, marks m0 l.length) := by
  unfold laws_markTree.f
  exact Ev.bind (markInt64S_ev l m0 h0 h1 hn) (Ev.now _)
theorem heldInt64S_loop (n : Nat) (m0 : Int) (h0 : 0 ≤ m0) (h1 : m0 ≤ 4611686018427387904) (hn : n ≤ 1048576) : ∀ (m i : Nat), i + m = n → Ev (fun k => laws_heldInt64S.l0 k (marks m0 n) (m0 + i) (i : Int)) (m0 + n) := by
  intro m
  induction m with
  | zero =>
    intro i h2
    refine Ev.step (fun k => by rw [laws_heldInt64S.l0]) ?_
    refine ev_neg (by rw [marks_length]; omega) (ev_now ?_)
    rw [show i = n by omega]
  | succ m ih =>
    intro i h2
    refine Ev.step (fun k => by rw [laws_heldInt64S.l0]) ?_
    refine ev_pos (by rw [marks_length]; omega) (ev_pos (by omega) (ev_pos (marks_getD n m0 i (by omega)) ?_))
    rw [w64s (by omega), w64 (by omega) (by omega), show m0 + (i : Int) + 1 = m0 + ((i + 1 : Nat) : Int) by omega]
    exact ih (i + 1) (by omega)
theorem heldInt64S_ev (n : Nat) (m0 : Int) (h0 : 0 ≤ m0) (h1 : m0 ≤ 4611686018427387904) (hn : n ≤ 1048576) : Ev (fun k => laws_heldInt64S.f k (marks m0 n) m0) (m0 + n) := by
  unfold laws_heldInt64S.f
  have := heldInt64S_loop n m0 h0 h1 hn n 0 (by omega)
  simpa using this
end Go.Proofs.Ytmambanmffdibaa.E
namespace Go.Proofs.Ytmambanmffdibaa.E
set_option linter.unusedVariables false
set_option linter.unusedSectionVars false
open Go.RowKit Go.Proofs.YtmambanmffdibaaW.PrintWords Go.Proofs.Ytmambanmffdibaa.Base
theorem rdL_eq (l : List S28) (i : Nat) (h : i < l.length) : rd_T28 l (i : Int) = l[i] := by
  show l.getD (i : Int).toNat z28 = _
  rw [Int.toNat_natCast, List.getD_eq_getElem?_getD, List.getElem?_eq_getElem h]; rfl
theorem rdT_eq (l : List S31) (i : Nat) (h : i < l.length) : rd_T31 l (i : Int) = l[i] := by
  show l.getD (i : Int).toNat z31 = _
  rw [Int.toNat_natCast, List.getD_eq_getElem?_getD, List.getElem?_eq_getElem h]; rfl
theorem small28 {w : World} {A : Option Addr} {n : Nat} {l : List S28} (h : Kd.C k28 w A n l) : ∀ x ∈ l, x.f0.length ≤ 9223372036854775807 := by
  intro x hx
  obtain ⟨i, hi, rfl⟩ := List.getElem_of_mem hx
  obtain ⟨ad, A0, c0, _, _, _, hC⟩ := at_T28 h (i : Int) (by omega) (by have := h.1; omega)
  rw [rdL_eq l i hi] at hC
  exact hC.2.1
theorem szTree_any (l : List Int) (a : Int) (h0 : 0 ≤ a) (h1 : a ≤ 1048576) (hl : l.length ≤ 9223372036854775807) : laws_szTree.f l a = some (if a < l.length then -1 else a - l.length) := by
  unfold laws_szTree.f laws_szInt64S.f
  rw [w64 (by omega) (by omega)]
  by_cases h : a < (l.length : Int)
  · rw [if_pos h, if_pos (by omega)]; rfl
  · rw [if_neg h, if_neg (by omega), Option.bind_some, if_neg (by omega)]
theorem szTreeS_ev (l : List S28) (hl : l.length ≤ 9223372036854775807) (hx : ∀ x ∈ l, x.f0.length ≤ 9223372036854775807) : ∃ t : Int, Ev (fun k => laws_szTreeS.f k l 1048576) t ∧ (0 ≤ t → l.length ≤ 1048576 ∧ ∀ x ∈ l, x.f0.length ≤ 1048576) := by
  have loop : ∀ (m i : Nat) (a : Int), i + m = l.length → 0 ≤ a → a ≤ 1048576 → (∀ j, (h : j < l.length) → j < i → (l[j]).f0.length ≤ 1048576) → ∃ t : Int, Ev (fun k => laws_szTreeS.l0 k l a (i : Int)) t ∧ (0 ≤ t → ∀ x ∈ l, x.f0.length ≤ 1048576) := by
    intro m
    induction m with
    | zero =>
      intro i a hi _ _ hj
      refine ⟨a, Ev.step (fun k => by rw [laws_szTreeS.l0]) (ev_neg (by omega) (ev_now rfl)), fun _ x hx => ?_⟩
      obtain ⟨j, hj2, rfl⟩ := List.getElem_of_mem hx
      exact hj j hj2 (by omega)
    | succ m ih =>
      intro i a hi h0 h1 hj
      have hil : i < l.length := by omega
      have hz := szTree_any (l[i]).f0 a h0 h1 (hx _ (List.getElem_mem hil))
      by_cases h : a < ((l[i]).f0.length : Int)
      · rw [if_pos h] at hz
        refine ⟨-1, Ev.step (fun k => by rw [laws_szTreeS.l0]) (ev_pos (by omega) (ev_pos (by omega) ?_)), fun h => by omega⟩
        simp only [rdL_eq l i hil, hz]
        exact ev_some (ev_pos (by decide) (ev_now rfl))
      · rw [if_neg h] at hz
        obtain ⟨t, h2, h3⟩ := ih (i + 1) (a - (l[i]).f0.length) (by omega) (by omega) (by omega) (fun j h4 h5 => by
          by_cases e : j = i
          · subst e; omega
          · exact hj j h4 (by omega))
        refine ⟨t, Ev.step (fun k => by rw [laws_szTreeS.l0]) (ev_pos (by omega) (ev_pos (by omega) ?_)), h3⟩
        simp only [rdL_eq l i hil, hz]
        refine ev_some (ev_neg (by omega) ?_)
        rw [w64 (by omega) (by omega)]
        exact h2
  unfold laws_szTreeS.f
  have e : wrap64 ((1048576 : Int) - (l.length : Int)) = 1048576 - l.length := w64 (by omega) (by omega)
  rw [e]
  by_cases h : (1048576 : Int) - l.length < 0
  · exact ⟨-1, ev_pos h (ev_now rfl), fun h => by omega⟩
  · obtain ⟨t, h1, h2⟩ := loop l.length 0 (1048576 - l.length) (by omega) (by omega) (by omega) (fun j _ h => by omega)
    exact ⟨t, ev_neg h h1, fun h3 => ⟨by omega, h2 h3⟩⟩
def copyT (l : List S28) : List S31 := l.map fun x : S28 => (⟨x.f0⟩ : S31)
theorem copyT_length (l : List S28) : (copyT l).length = l.length := List.length_map _
theorem toTreeS_ev (l : List S28) (hl : l.length ≤ 1048576) (hx : ∀ x ∈ l, x.f0.length ≤ 1048576) : Ev (fun k => laws_toTreeS.f k l) (copyT l) := by
  have loop : ∀ (m i : Nat), i + m = l.length → Ev (fun k => laws_toTreeS.l0 k l ((copyT l).take i ++ List.replicate (l.length - i) z31) (i : Int)) (copyT l) := by
    intro m
    induction m with
    | zero =>
      intro i hi
      refine Ev.step (fun k => by rw [laws_toTreeS.l0]) (ev_neg (by omega) (ev_now ?_))
      rw [List.take_of_length_le (by rw [copyT_length]; omega), show l.length - i = 0 by omega]; simp
    | succ m ih =>
      intro i hi
      have hil : i < l.length := by omega
      have hci : i < (copyT l).length := by rw [copyT_length]; exact hil
      have hlen : ((copyT l).take i ++ List.replicate (l.length - i) z31).length = l.length := by
        rw [List.length_append, List.length_take, List.length_replicate, copyT_length]; omega
      refine Ev.step (fun k => by rw [laws_toTreeS.l0]) (ev_pos (by omega) (ev_pos (by omega) ?_))
      rw [rdL_eq l i hil]
      refine Ev.bind (toTree_ev _ (hx _ (List.getElem_mem hil))) (ev_pos (by rw [hlen]; omega) ?_)
      rw [w64s (by omega), Int.toNat_natCast]
      have e : ((copyT l).take i ++ List.replicate (l.length - i) z31).set i (⟨(l[i]).f0⟩ : S31) = (copyT l).take (i + 1) ++ List.replicate (l.length - (i + 1)) z31 := by
        have ht : ((copyT l).take i).length = i := by rw [List.length_take]; omega
        rw [List.set_append_right _ _ (by omega), ht, Nat.sub_self, show l.length - i = (l.length - (i + 1)) + 1 by omega, List.replicate_succ, List.set_cons_zero, List.take_add_one, List.getElem?_eq_getElem hci, List.append_assoc]
        congr 1
        simp [copyT]
      rw [e]
      exact ih (i + 1) (by omega)
  unfold laws_toTreeS.f
  refine ev_pos (by omega) (ev_pos (by omega) ?_)
  have := loop l.length 0 (by omega)
  simpa using this
theorem eqTreeS_ev (l : List S31) (hl : l.length ≤ 1048576) (hx : ∀ x ∈ l, x.f0.length ≤ 1048576) : Ev (fun k => laws_eqTreeS.f k l l) true := by
  have loop : ∀ (m i : Nat), i + m = l.length → Ev (fun k => laws_eqTreeS.l0 k l l (i : Int)) true := by
    intro m
    induction m with
    | zero => intro i hi; exact Ev.step (fun k => by rw [laws_eqTreeS.l0]) (ev_neg (by omega) (ev_now rfl))
    | succ m ih =>
      intro i hi
      have hil : i < l.length := by omega
      refine Ev.step (fun k => by rw [laws_eqTreeS.l0]) (ev_pos (by omega) (ev_pos (by omega) (ev_pos (by omega) ?_)))
      rw [rdT_eq l i hil]
      refine Ev.bind (eqTree_ev _ (hx _ (List.getElem_mem hil))) (ev_pos rfl ?_)
      rw [w64s (by omega)]
      exact ih (i + 1) (by omega)
  unfold laws_eqTreeS.f
  exact ev_pos rfl (loop l.length 0 (by omega))
def markT : Int → List S31 → List S31
  | _, [] => []
  | m, x :: l => ⟨marks m x.f0.length⟩ :: markT (m + x.f0.length) l
def endT : Int → List S31 → Int
  | m, [] => m
  | m, x :: l => endT (m + x.f0.length) l
theorem endT_le : ∀ (l : List S31) (m : Int), (∀ x ∈ l, x.f0.length ≤ 1048576) → m ≤ endT m l ∧ endT m l ≤ m + 1048576 * l.length
  | [], m, _ => by rw [endT]; simp
  | x :: l, m, h => by
    have h1 := h x List.mem_cons_self
    have h2 := endT_le l (m + x.f0.length) (fun y hy => h y (List.mem_cons_of_mem _ hy))
    rw [endT, List.length_cons]
    constructor <;> omega
theorem markTreeS_ev (l : List S31) (m0 : Int) (h0 : 0 ≤ m0) (h1 : m0 ≤ 1048576) (hl : l.length ≤ 1048576) (hx : ∀ x ∈ l, x.f0.length ≤ 1048576) : Ev (fun k => laws_markTreeS.f k l m0) (endT m0 l, markT m0 l) := by
  have loop : ∀ (b a : List S31) (m : Int), 0 ≤ m → m + 1048576 * b.length ≤ 1048576 + 1048576 * 1048576 → a.length + b.length ≤ 1048576 → (∀ x ∈ b, x.f0.length ≤ 1048576) → Ev (fun k => laws_markTreeS.l0 k (a ++ b) m (a.length : Int)) (endT m b, a ++ markT m b) := by
    intro b
    induction b with
    | nil =>
      intro a m _ _ _ _
      refine Ev.step (fun k => by rw [laws_markTreeS.l0]) ?_
      exact ev_neg (by simp) (ev_now rfl)
    | cons x b ih =>
      intro a m hm hm2 hab hb
      have hxl := hb x List.mem_cons_self
      rw [List.length_cons] at hm2 hab
      have hrd : rd_T31 (a ++ x :: b) (a.length : Int) = x := by rw [rdT_eq _ _ (by simp)]; simp
      refine Ev.step (fun k => by rw [laws_markTreeS.l0]) (ev_pos (by simp; omega) (ev_pos (by omega) ?_))
      rw [hrd]
      refine Ev.bind (markInt64S_ev x.f0 m hm (by omega) hxl) ?_
      rw [w64s (by omega), Int.toNat_natCast]
      have e : (a ++ x :: b).set a.length (⟨marks m x.f0.length⟩ : S31) = (a ++ [(⟨marks m x.f0.length⟩ : S31)]) ++ b := by
        rw [List.set_append_right _ _ (Nat.le_refl _), Nat.sub_self, List.set_cons_zero]; simp
      have := ih (a ++ [(⟨marks m x.f0.length⟩ : S31)]) (m + x.f0.length) (by omega) (by omega) (by simp; omega) (fun y hy => hb y (List.mem_cons_of_mem _ hy))
      rw [List.length_append, List.append_assoc _ _ (markT _ _)] at this
      show Ev (fun k => laws_markTreeS.l0 k ((a ++ x :: b).set a.length (⟨marks m x.f0.length⟩ : S31)) (m + x.f0.length) ((a.length + 1 : Nat) : Int)) _
      rw [e]
      exact this
  have := loop l [] m0 h0 (by omega) (by simpa using hl) hx
  exact this
end Go.Proofs.Ytmambanmffdibaa.E
namespace Go.Proofs.Ytmambanmffdibaa.PT
set_option linter.unusedVariables false
set_option linter.unusedSectionVars false
open Go.RowKit Go.Proofs.YtmambanmffdibaaW.PrintWords Go.Proofs.Ytmambanmffdibaa.Base Go.Proofs.Ytmambanmffdibaa.P Go.Proofs.Ytmambanmffdibaa.E
def noL : Nat → Pat → Prop
  | 0, _ => False
  | n + 1, p => p.letter = 0 ∧ ∀ k ∈ p.kids, noL n k
theorem noL_good : ∀ (n : Nat) (p : Pat), noL n p → goodP n p
  | 0, p, h => h.elim
  | n + 1, p, h => ⟨.inl h.1, fun k hk => noL_good n k (h.2 k hk)⟩
theorem noL_up : ∀ (n m : Nat) (p : Pat), n ≤ m → noL n p → noL m p
  | 0, m, p, _, h => h.elim
  | n + 1, 0, p, hm, h => by omega
  | n + 1, m + 1, p, hm, h => ⟨h.1, fun k hk => noL_up n m k (by omega) (h.2 k hk)⟩
theorem flat_same {α β : Type} {f g : α → List β} : ∀ l : List α, (∀ c ∈ l, f c = g c) → l.flatMap f = l.flatMap g
  | [], _ => rfl
  | c :: l, h => by rw [List.flatMap_cons, List.flatMap_cons, h c List.mem_cons_self, flat_same l (fun x hx => h x (List.mem_cons_of_mem _ hx))]
theorem tx_up : ∀ (n m : Nat) (p : Pat), n ≤ m → noL n p → tx m p = tx n p
  | 0, m, p, _, h => h.elim
  | n + 1, 0, p, hm, h => by omega
  | n + 1, m + 1, p, hm, h => by
    rw [tx, tx, if_pos h.1, if_pos h.1, flat_same p.kids (fun k hk => tx_up n m k (by omega) (h.2 k hk))]
theorem flat_len {α β γ : Type} {f : α → List β} {g : α → List γ} : ∀ l : List α, (∀ c ∈ l, (f c).length = 2 * (g c).length) → (l.flatMap f).length = 2 * (l.flatMap g).length
  | [], _ => rfl
  | c :: l, h => by
    rw [List.flatMap_cons, List.flatMap_cons, List.length_append, List.length_append, h c List.mem_cons_self, flat_len l (fun x hx => h x (List.mem_cons_of_mem _ hx))]
    omega
theorem tx_two : ∀ (n : Nat) (p : Pat), noL n p → (tx n p).length = 2 * (degN n p).length
  | 0, p, h => h.elim
  | n + 1, p, h => by
    rw [tx, if_pos h.1, degN, List.length_cons, List.length_append, List.length_cons, flat_len p.kids (fun k hk => tx_two n k (h.2 k hk))]
    simp only [List.length_cons, List.length_nil]
    omega
def bump (d : List Int) : List Int → List Int
  | [] => d
  | w => d.set (w.getD (w.length - 1) 0).toNat (d.getD (w.getD (w.length - 1) 0).toNat 0 + 1)
theorem bump_top (d w : List Int) (k : Nat) : bump d (w ++ [(k : Int)]) = d.set k (d.getD k 0 + 1) := by
  have e : (w ++ [(k : Int)]).getD ((w ++ [(k : Int)]).length - 1) 0 = (k : Int) := by
    rw [List.length_append, List.getD_eq_getElem?_getD]
    simp
  cases w with
  | nil => rfl
  | cons a w =>
    show d.set ((a :: w ++ [(k : Int)]).getD ((a :: w ++ [(k : Int)]).length - 1) 0).toNat _ = _
    rw [e]; rfl
theorem bump_len (d w : List Int) : (bump d w).length = d.length := by
  cases w with
  | nil => rfl
  | cons a w => exact List.length_set
def Few (d : List Int) (m : Nat) : Prop := ∀ j : Nat, 0 ≤ d.getD j 0 ∧ d.getD j 0 ≤ m
theorem few_more {d : List Int} {m n : Nat} (h : Few d m) (hm : m ≤ n) : Few d n := fun j => ⟨(h j).1, by have := (h j).2; omega⟩
theorem few_append {a b : List Int} {m : Nat} (ha : Few a m) (hb : Few b m) : Few (a ++ b) m := by
  intro j
  rw [List.getD_eq_getElem?_getD, List.getElem?_append]
  split
  · rw [← List.getD_eq_getElem?_getD]; exact ha j
  · rw [← List.getD_eq_getElem?_getD]; exact hb _
theorem few_set {d : List Int} {m k : Nat} {x : Int} (h : Few d m) (h0 : 0 ≤ x) (h1 : x ≤ m) : Few (d.set k x) m := by
  intro j
  rw [List.getD_eq_getElem?_getD, List.getElem?_set]
  split
  · split
    · exact ⟨h0, h1⟩
    · show 0 ≤ (0 : Int) ∧ (0 : Int) ≤ m; omega
  · rw [← List.getD_eq_getElem?_getD]; exact h j
theorem few_bump {d w : List Int} {m : Nat} (h : Few d m) : Few (bump d w) (m + 1) := by
  cases w with
  | nil => exact few_more h (by omega)
  | cons a w =>
    refine few_set (few_more h (by omega)) ?_ ?_
    · have := (h ((a :: w).getD ((a :: w).length - 1) 0).toNat).1; omega
    · have := (h ((a :: w).getD ((a :: w).length - 1) 0).toNat).2; omega
theorem few_nil (m : Nat) : Few [] m := fun j => by show 0 ≤ (0 : Int) ∧ (0 : Int) ≤ m; omega
theorem few_one {x : Int} {m : Nat} (h0 : 0 ≤ x) (h1 : x ≤ m) : Few [x] m := by
  intro j
  cases j with
  | zero => exact ⟨h0, h1⟩
  | succ j => show 0 ≤ (0 : Int) ∧ (0 : Int) ≤ m; omega
theorem tx_one {n : Nat} {p : Pat} (h : noL n p) : 2 ≤ (tx n p).length := by
  cases n with
  | zero => exact h.elim
  | succ n => rw [tx, if_pos h.1]; simp
theorem pat_kids_few : ∀ (n : Nat) (l : List Pat), (∀ k ∈ l, noL n k) → 2 * l.length ≤ (l.flatMap (tx n)).length
  | n, [], _ => by simp
  | n, k :: l, h => by
    have h1 := tx_one (h k List.mem_cons_self)
    have h2 := pat_kids_few n l (fun x hx => h x (List.mem_cons_of_mem _ hx))
    rw [List.flatMap_cons, List.length_append, List.length_cons]; omega
theorem degN_few : ∀ (n : Nat) (p : Pat), noL n p → Few (degN n p) (tx n p).length
  | 0, p, h => h.elim
  | n + 1, p, h => by
    have key : ∀ l : List Pat, (∀ k ∈ l, noL n k) → Few (l.flatMap (degN n)) (l.flatMap (tx n)).length := by
      intro l
      induction l with
      | nil => intro _; exact few_nil _
      | cons k l ih =>
        intro hl
        rw [List.flatMap_cons, List.flatMap_cons, List.length_append]
        exact few_append (few_more (degN_few n k (hl k List.mem_cons_self)) (by omega)) (few_more (ih (fun x hx => hl x (List.mem_cons_of_mem _ hx))) (by omega))
    have h2 := pat_kids_few n p.kids h.2
    rw [degN, tx, if_pos h.1, List.length_cons, List.length_append]
    exact few_append (few_one (x := (p.kids.length : Int)) (by omega) (by omega)) (few_more (key p.kids h.2) (by omega))
def Way (d w : List Int) : Prop := (w = [] ∧ d = []) ∨ ∃ (w' : List Int) (k : Nat), w = w' ++ [(k : Int)] ∧ k < d.length
section
variable {T : ByteArray} (hT : T.size ≤ 48)
include hT
theorem read_open {d w : List Int} {i m : Nat} {res : List Int × Bool} (hi : i < T.size) (hb : bt T i = 40) (hw : Way d w) (hf : Few d m) (hm : m ≤ 1000) (hl : w.length ≤ 1000) (hd : d.length ≤ 1000)
    (h : Ev (fun k => spec_l01Read.l0 k T (bump d w ++ [0]) (w ++ [(d.length : Int)]) ((i + 1 : Nat) : Int)) res) : Ev (fun k => spec_l01Read.l0 k T d w (i : Int)) res := by
  refine Ev.step (fun k => by rw [spec_l01Read.l0]) ?_
  refine ev_pos (by omega) (ev_pos (by omega) (ev_pos hb ?_))
  rcases hw with ⟨rfl, rfl⟩ | ⟨w', k, rfl, hk⟩
  · refine ev_neg (by decide) ?_
    refine Ev.step (fun k => by rw [spec_l01Read.j1]) ?_
    refine ev_pos (by decide) (ev_neg (by decide) (ev_pos (by decide) (ev_pos (by decide) ?_)))
    rw [w64s (by omega)]
    exact h
  · have hwl : (w' ++ [(k : Int)]).length = w'.length + 1 := by simp
    have hwr : wrap64 (((w' ++ [(k : Int)]).length : Int) - 1) = (w'.length : Int) := by rw [hwl]; unfold wrap64; omega
    have hrd : rd (w' ++ [(k : Int)]) (w'.length : Int) = (k : Int) := by
      rw [rd_nat, List.getD_eq_getElem?_getD]; simp
    have hkd := hf k
    refine ev_pos (by omega) ?_
    refine Ev.step (fun k => by rw [spec_l01Read.j1]) ?_
    rw [hwr, hrd]
    refine ev_pos rfl (ev_pos (by omega) (ev_pos (by omega) (ev_pos (by omega) (ev_pos (by omega) (ev_pos (by omega) ?_)))))
    rw [rd_nat, Int.toNat_natCast, w64 (x := d.getD k 0 + 1) (by omega) (by omega), w64s (by omega)]
    refine ev_some (ev_pos (by omega) (ev_pos (by rw [List.length_set]; omega) ?_))
    rw [bump_top] at h
    exact h
theorem read_close {d w : List Int} {k : Int} {i : Nat} {res : List Int × Bool} (hi : i < T.size) (hb : bt T i = 41) (hl : w.length ≤ 1000)
    (h : Ev (fun n => spec_l01Read.l0 n T d w ((i + 1 : Nat) : Int)) res) : Ev (fun n => spec_l01Read.l0 n T d (w ++ [k]) (i : Int)) res := by
  have hwl : (w ++ [k]).length = w.length + 1 := by simp
  have hwr : wrap64 (((w ++ [k]).length : Int) - 1) = (w.length : Int) := by rw [hwl]; unfold wrap64; omega
  refine Ev.step (fun k => by rw [spec_l01Read.l0]) ?_
  refine ev_pos (by omega) (ev_pos (by omega) (ev_neg (by omega) ?_))
  refine Ev.step (fun k => by rw [spec_l01Read.j1]) ?_
  rw [hwr]
  refine ev_neg (by decide) (ev_pos (by omega) (ev_pos (by omega) (ev_pos hb (ev_pos (by omega) (ev_pos (by omega) (ev_pos (by omega) ?_))))))
  rw [Int.toNat_natCast, List.take_left, w64s (by omega)]
  exact h
theorem read_go : ∀ (n : Nat) (q : Pat) (pre post d w : List Int) (res : List Int × Bool), noL n q → bytesL T = pre ++ (tx n q ++ post) → Way d w → Few d pre.length → w.length ≤ pre.length → d.length ≤ pre.length →
    Ev (fun k => spec_l01Read.l0 k T (bump d w ++ degN n q) w ((pre ++ tx n q).length : Int)) res → Ev (fun k => spec_l01Read.l0 k T d w (pre.length : Int)) res
  | 0, q, pre, post, d, w, res, h, _, _, _, _, _, _ => h.elim
  | n + 1, q, pre, post, d, w, res, hq, hb, hw, hf, hwl, hdl, hev => by
    have hsz := size_list hb
    have htx : tx (n + 1) q = 40 :: (q.kids.flatMap (tx n) ++ [41]) := by rw [tx, if_pos hq.1]
    rw [htx] at hb hsz hev
    have hb40 : bt T (pre.length : Int) = 40 := bt_list (post := q.kids.flatMap (tx n) ++ [41] ++ post) (by rw [hb]; simp)
    have hlen : pre.length + (1 + ((q.kids.flatMap (tx n)).length + 1)) + post.length = T.size := by rw [hsz]; simp [-List.length_flatMap]; omega
    have kids : ∀ (l : List Pat) (pr d w : List Int) (k : Nat), (∀ x ∈ l, noL n x) → bytesL T = pr ++ (l.flatMap (tx n) ++ (41 :: post)) → k < d.length → Few d pr.length → w.length + 1 ≤ pr.length → d.length ≤ pr.length →
        Ev (fun n' => spec_l01Read.l0 n' T (d.set k (d.getD k 0 + l.length) ++ l.flatMap (degN n)) (w ++ [(k : Int)]) ((pr ++ l.flatMap (tx n)).length : Int)) res → Ev (fun n' => spec_l01Read.l0 n' T d (w ++ [(k : Int)]) (pr.length : Int)) res := by
      intro l
      induction l with
      | nil =>
        intro pr d w k _ _ hk _ _ _ h
        have e : d.set k (d.getD k 0 + ([] : List Pat).length) = d := by
          apply List.ext_getElem (by simp)
          intro j h1 h2
          rw [List.getElem_set]
          split
          · rename_i e; subst e
            rw [List.getD_eq_getElem?_getD, List.getElem?_eq_getElem h2]; simp
          · rfl
        rw [e] at h
        simpa using h
      | cons a l ih =>
        intro pr d w k hl hbp hk hfd hwp hdp h
        rw [List.flatMap_cons, List.append_assoc] at hbp
        have ha := hl a List.mem_cons_self
        have hta := tx_two n a ha
        have hT1 := tx_one ha
        refine read_go n a pr _ d (w ++ [(k : Int)]) res ha hbp (.inr ⟨w, k, rfl, hk⟩) hfd (by simp; omega) hdp ?_
        rw [bump_top]
        refine ih (pr ++ tx n a) (d.set k (d.getD k 0 + 1) ++ degN n a) w k (fun x hx => hl x (List.mem_cons_of_mem _ hx)) (by rw [hbp]; simp) (by simp; omega) ?_ (by simp; omega) (by simp; omega) ?_
        · rw [List.length_append]
          refine few_append (few_set (few_more hfd (by omega)) ?_ ?_) (few_more (degN_few n a ha) (by omega))
          · have := (hfd k).1; omega
          · have := (hfd k).2; omega
        · have e1 : (d.set k (d.getD k 0 + 1) ++ degN n a).getD k 0 = d.getD k 0 + 1 := by
            rw [List.getD_eq_getElem?_getD, List.getElem?_append_left (by simpa using hk), List.getElem?_set_self hk]; rfl
          have e2 : (d.set k (d.getD k 0 + 1) ++ degN n a).set k (d.getD k 0 + 1 + (l.length : Int)) = d.set k (d.getD k 0 + 1 + (l.length : Int)) ++ degN n a := by
            rw [List.set_append_left _ _ (by simpa using hk), List.set_set]
          rw [e1, e2, List.append_assoc]
          rw [List.flatMap_cons, List.flatMap_cons, List.length_cons, ← List.append_assoc pr] at h
          have e3 : d.getD k 0 + 1 + (l.length : Int) = d.getD k 0 + ((l.length + 1 : Nat) : Int) := by omega
          rw [e3]
          exact h
    refine read_open hT (by omega) hb40 hw hf (by omega) (by omega) (by omega) ?_
    have hbl := bump_len d w
    have h3 := kids q.kids (pre ++ [40]) (bump d w ++ [0]) w d.length hq.2 (by rw [hb]; simp) (by simp [hbl]) (by
      rw [List.length_append]
      exact few_append (few_more (few_bump hf) (by simp)) (few_one (Int.le_refl _) (by omega))) (by simp; omega) (by simp [hbl]; omega)
    simp only [List.length_append, List.length_cons, List.length_nil, Nat.zero_add] at h3
    refine h3 ?_
    have e1 : (bump d w ++ [0]).getD d.length 0 = 0 := by
      rw [List.getD_eq_getElem?_getD, List.getElem?_append_right (by omega), hbl, Nat.sub_self]; rfl
    have e2 : (bump d w ++ [0]).set d.length (0 + (q.kids.length : Int)) = bump d w ++ [(q.kids.length : Int)] := by
      rw [List.set_append_right _ _ (by omega), hbl, Nat.sub_self]; simp
    rw [e1, e2]
    have hb41 : bt T ((pre.length + 1 + (q.kids.flatMap (tx n)).length : Nat) : Int) = 41 := by
      have := bt_list (s := T) (pre := pre ++ 40 :: q.kids.flatMap (tx n)) (c := 41) (post := post) (by rw [hb]; simp)
      have e : ((pre ++ 40 :: q.kids.flatMap (tx n)).length : Int) = ((pre.length + 1 + (q.kids.flatMap (tx n)).length : Nat) : Int) := by simp [-List.length_flatMap]; omega
      rwa [e] at this
    refine read_close hT (by omega) hb41 (by omega) ?_
    have e4 : bump d w ++ [(q.kids.length : Int)] ++ q.kids.flatMap (degN n) = bump d w ++ degN (n + 1) q := by rw [degN, List.append_assoc]; rfl
    have e5 : ((pre ++ 40 :: (q.kids.flatMap (tx n) ++ [41])).length : Int) = ((pre.length + 1 + (q.kids.flatMap (tx n)).length + 1 : Nat) : Int) := by simp [-List.length_flatMap]; omega
    rw [e4]
    rw [e5] at hev
    exact hev
end
theorem read_ev {T : ByteArray} {n : Nat} {q : Pat} (hT : T.size ≤ 48) (hq : noL n q) (hb : bytesL T = tx n q) : Ev (fun k => spec_l01Read.f k T) (degN n q, true) := by
  unfold spec_l01Read.f
  refine ev_neg (by omega) ?_
  have h2 := tx_two n q hq
  have h1 := tx_one hq
  refine read_go hT n q [] [] [] [] _ hq (by simpa using hb) (.inl ⟨rfl, rfl⟩) (few_nil _) (Nat.le_refl _) (Nat.le_refl _) ?_
  show Ev (fun k => spec_l01Read.l0 k T (degN n q) [] ((tx n q).length : Int)) _
  rw [← size_list hb]
  refine Ev.step (fun k => by rw [spec_l01Read.l0]) ?_
  exact ev_neg (by omega) (ev_neg (by decide) (ev_neg (by omega) (ev_now rfl)))
end Go.Proofs.Ytmambanmffdibaa.PT
