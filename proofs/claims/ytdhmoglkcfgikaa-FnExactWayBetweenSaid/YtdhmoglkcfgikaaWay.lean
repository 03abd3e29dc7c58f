/- The way between two nodes on both sides. -/
import Derived.Test.YtdhmoglkcfgikaaTreeEv3
import Derived.Test.YtdhmoglkcfgikaaCodes
import Derived.Test.YtdhmoglkcfgikaaLists
import Derived.Test.YtdhmoglkcfgikaaEx13
namespace Go.Proofs.Ytdhmoglkcfgikaa.E
set_option linter.unusedVariables false
set_option linter.unusedSectionVars false
open Go.RowKit Go.Proofs.YtdhmoglkcfgikaaW.PrintWords Go.Proofs.Ytdhmoglkcfgikaa.Base Go.Proofs.Ytdhmoglkcfgikaa.Tree

/-- The nodes from v up to m, m not among them. -/
def chain (d : List Int) (m : Nat) : Nat → Nat → List Nat
  | 0, _ => []
  | f + 1, v => if v = m then [] else v :: chain d m f (par d v)
theorem chain_length (d : List Int) (m : Nat) : ∀ (f v : Nat), (chain d m f v).length ≤ f
  | 0, v => Nat.le_refl _
  | f + 1, v => by
    have := chain_length d m f (par d v)
    simp only [chain]
    split
    · simp
    · simp; omega
def wayM (d : List Int) (v w : Nat) : List Nat := chain d (meetM d v w) v v ++ [meetM d v w] ++ (chain d (meetM d v w) w w).reverse
theorem wayM_length (d : List Int) (v w : Nat) : (wayM d v w).length ≤ v + w + 1 := by
  have h1 := chain_length d (meetM d v w) v v
  have h2 := chain_length d (meetM d v w) w w
  unfold wayM
  simp; omega
theorem castL_append (a b : List Nat) : castL (a ++ b) = castL a ++ castL b := by simp [castL]
theorem castL_reverse (a : List Nat) : castL a.reverse = (castL a).reverse := by simp [castL]
theorem castL_cons (x : Nat) (a : List Nat) : castL (x :: a) = (x : Int) :: castL a := rfl
section
variable {d : List Int} (h : IsT d) (hn : d.length ≤ 1000)
include h hn
/-- A step up: what the code reads there. -/
theorem up_step {v m : Nat} (hm : m < d.length) (hb : below d v m) (hne : v ≠ m) : 0 < v ∧ v < d.length ∧ par d v < v ∧ below d (par d v) m ∧ rd (parL d) (v : Int) = (par d v : Int) := by
  have h1 := end_le h hm
  have hv : v < d.length := by have := hb.2; omega
  have h0 : 0 < v := by have := hb.1; omega
  exact ⟨h0, hv, par_lt h h0 hv, par_in h hm hb hne, parL_get h hn h0 hv⟩
theorem impl_way_l1 {w m : Nat} (hm : m < d.length) (x9 : List Int) (h9 : x9.length ≤ 1000) : ∀ (f v : Nat) (acc : List Int), v ≤ f → acc.length + f ≤ 2000 → below d v m →
    Ev (fun k => impl_wayBetween.l1 k (v : Int) (parL d) (m : Int) x9 acc) (x9 ++ [(m : Int)] ++ (acc ++ castL (chain d m f v)).reverse) := by
  have fin : ∀ acc : List Int, acc.length ≤ 2000 → Ev (fun k => (slices_Reverse_int64_int64.f k acc).bind fun t866 => (slices_Concat_int64_int64.f k [x9, [(m : Int)], t866]).bind fun t873 => some t873) (x9 ++ [(m : Int)] ++ acc.reverse) := by
    intro acc ha
    refine Ev.bind (slices_Reverse_ev acc (by omega)) (Ev.bind (slices_Concat_ev _ (by simp) (by simp; omega)) (ev_now ?_))
    simp
  intro f
  induction f with
  | zero =>
    intro v acc hf ha hb
    have e : v = 0 := by omega
    have e2 : m = 0 := by have := hb.1; omega
    subst e; subst e2
    refine Ev.step (fun k => by rw [impl_wayBetween.l1]) ?_
    refine ev_pos rfl ?_
    have := fin acc (by omega)
    simpa [chain, castL] using this
  | succ f ih =>
    intro v acc hf ha hb
    refine Ev.step (fun k => by rw [impl_wayBetween.l1]) ?_
    simp only [chain]
    by_cases e : v = m
    · rw [if_pos e]
      refine ev_pos (by omega) ?_
      have := fin acc (by omega)
      simpa [castL] using this
    · rw [if_neg e]
      obtain ⟨h0, hv, hp, hb2, hg⟩ := up_step h hn hm hb e
      refine ev_neg (by omega) (ev_pos (by omega) (ev_pos (by omega) (ev_pos (by rw [parL_length h hn]; omega) ?_)))
      rw [hg]
      have := ih (par d v) (acc ++ [(v : Int)]) (by omega) (by simp; omega) hb2
      simpa [castL] using this
theorem impl_way_l0 {w m : Nat} (hm : m < d.length) (hw : w < d.length) (hbw : below d w m) : ∀ (f v : Nat) (acc : List Int), v ≤ f → acc.length + f ≤ 1000 → below d v m →
    Ev (fun k => impl_wayBetween.l0 k (v : Int) (w : Int) (parL d) (m : Int) acc []) (acc ++ castL (chain d m f v) ++ [(m : Int)] ++ (castL (chain d m w w)).reverse) := by
  intro f
  induction f with
  | zero =>
    intro v acc hf ha hb
    have e : v = 0 := by omega
    have e2 : m = 0 := by have := hb.1; omega
    subst e; subst e2
    refine Ev.step (fun k => by rw [impl_wayBetween.l0]) ?_
    refine ev_pos rfl ?_
    have := impl_way_l1 h hn (w := w) hm acc (by omega) w w [] (Nat.le_refl _) (by simp; omega) hbw
    simpa [chain, castL] using this
  | succ f ih =>
    intro v acc hf ha hb
    refine Ev.step (fun k => by rw [impl_wayBetween.l0]) ?_
    simp only [chain]
    by_cases e : v = m
    · rw [if_pos e]
      refine ev_pos (by omega) ?_
      have := impl_way_l1 h hn (w := w) hm acc (by omega) w w [] (Nat.le_refl _) (by simp; omega) hbw
      simpa [castL] using this
    · rw [if_neg e]
      obtain ⟨h0, hv, hp, hb2, hg⟩ := up_step h hn hm hb e
      refine ev_neg (by omega) (ev_pos (by omega) (ev_pos (by omega) (ev_pos (by rw [parL_length h hn]; omega) ?_)))
      rw [hg]
      have := ih (par d v) (acc ++ [(v : Int)]) (by omega) (by simp; omega) hb2
      simpa [castL] using this
theorem impl_wayBetween_ev {v w : Nat} (hv : v < d.length) (hw : w < d.length) : Ev (fun k => impl_wayBetween.f k d (v : Int) (w : Int)) (castL (wayM d v w)) := by
  have hm := meet_spec h hv hw
  unfold impl_wayBetween.f
  refine Ev.bind (impl_parentsOf_ev h hn) (Ev.bind (impl_meetOf_ev h hn hv hw) ?_)
  have := impl_way_l0 h hn hm.2.2 hw hm.1 v v [] (Nat.le_refl _) (by simp; omega) hm.2.1
  simpa [wayM, castL_append, castL_reverse, castL] using this
theorem spec_way_l2 (back : List Int) (hb : back.length ≤ 2000) : ∀ (j : Nat) (acc : List Int), j ≤ back.length → acc.length + j ≤ 10000 → Ev (fun k => spec_l05Way.l2 k acc back ((j : Int) - 1)) (acc ++ (back.take j).reverse)
  | 0, acc, hj, ha => by
    refine Ev.step (fun k => by rw [spec_l05Way.l2]) ?_
    exact ev_neg (by omega) (ev_now (by simp))
  | j + 1, acc, hj, ha => by
    have e : ((j + 1 : Nat) : Int) - 1 = (j : Int) := by omega
    rw [e]
    refine Ev.step (fun k => by rw [spec_l05Way.l2]) ?_
    refine ev_pos (by omega) (ev_pos (by omega) (ev_pos (by omega) (ev_pos (by omega) ?_)))
    rw [w64 (by omega) (by omega), rd_lt (show j < back.length by omega)]
    have := spec_way_l2 back hb j (acc ++ [back[j]]) (by omega) (by simp; omega)
    rw [← List.take_append_getElem (show j < back.length by omega), List.reverse_append, List.reverse_singleton, ← List.append_assoc]
    exact this
theorem spec_way_l1 {m : Nat} (hm : m < d.length) (x9 : List Int) (h9 : x9.length ≤ 2000) : ∀ (f v : Nat) (acc : List Int), v ≤ f → acc.length + f ≤ 2000 → below d v m →
    Ev (fun k => spec_l05Way.l1 k (v : Int) (parL d) (m : Int) x9 acc) (x9 ++ (acc ++ castL (chain d m f v)).reverse) := by
  have fin : ∀ acc : List Int, acc.length ≤ 2000 → Ev (fun k => spec_l05Way.l2 k x9 acc (wrap64 ((acc.length : Int) - 1))) (x9 ++ acc.reverse) := by
    intro acc ha
    rw [w64 (by omega) (by omega)]
    have := spec_way_l2 h hn acc ha acc.length x9 (Nat.le_refl _) (by omega)
    simpa using this
  intro f
  induction f with
  | zero =>
    intro v acc hf ha hb
    have e : v = 0 := by omega
    have e2 : m = 0 := by have := hb.1; omega
    subst e; subst e2
    refine Ev.step (fun k => by rw [spec_l05Way.l1]) ?_
    refine ev_pos rfl ?_
    have := fin acc (by omega)
    simpa [chain, castL] using this
  | succ f ih =>
    intro v acc hf ha hb
    refine Ev.step (fun k => by rw [spec_l05Way.l1]) ?_
    simp only [chain]
    by_cases e : v = m
    · rw [if_pos e]
      refine ev_pos (by omega) ?_
      have := fin acc (by omega)
      simpa [castL] using this
    · rw [if_neg e]
      obtain ⟨h0, hv, hp, hb2, hg⟩ := up_step h hn hm hb e
      refine ev_neg (by omega) (ev_pos (by omega) (ev_pos (by omega) (ev_pos (by rw [parL_length h hn]; omega) ?_)))
      rw [hg]
      have := ih (par d v) (acc ++ [(v : Int)]) (by omega) (by simp; omega) hb2
      simpa [castL] using this
theorem spec_way_l0 {w m : Nat} (hm : m < d.length) (hw : w < d.length) (hbw : below d w m) : ∀ (f v : Nat) (acc : List Int), v ≤ f → acc.length + f ≤ 1000 → below d v m →
    Ev (fun k => spec_l05Way.l0 k (v : Int) (w : Int) (parL d) (m : Int) acc []) (acc ++ castL (chain d m f v) ++ [(m : Int)] ++ (castL (chain d m w w)).reverse) := by
  intro f
  induction f with
  | zero =>
    intro v acc hf ha hb
    have e : v = 0 := by omega
    have e2 : m = 0 := by have := hb.1; omega
    subst e; subst e2
    refine Ev.step (fun k => by rw [spec_l05Way.l0]) ?_
    refine ev_pos rfl (ev_pos (by omega) ?_)
    have := spec_way_l1 h hn hm (acc ++ [0]) (by simp; omega) w w [] (Nat.le_refl _) (by simp; omega) hbw
    simpa [chain, castL] using this
  | succ f ih =>
    intro v acc hf ha hb
    refine Ev.step (fun k => by rw [spec_l05Way.l0]) ?_
    simp only [chain]
    by_cases e : v = m
    · rw [if_pos e]
      refine ev_pos (by omega) (ev_pos (by omega) ?_)
      have := spec_way_l1 h hn hm (acc ++ [(m : Int)]) (by simp; omega) w w [] (Nat.le_refl _) (by simp; omega) hbw
      simpa [castL] using this
    · rw [if_neg e]
      obtain ⟨h0, hv, hp, hb2, hg⟩ := up_step h hn hm hb e
      refine ev_neg (by omega) (ev_pos (by omega) (ev_pos (by omega) (ev_pos (by rw [parL_length h hn]; omega) ?_)))
      rw [hg]
      have := ih (par d v) (acc ++ [(v : Int)]) (by omega) (by simp; omega) hb2
      simpa [castL] using this
theorem spec_l05Way_ev {v w : Nat} (hv : v < d.length) (hw : w < d.length) : Ev (fun k => spec_l05Way.f k d (v : Int) (w : Int)) (castL (wayM d v w)) := by
  have hm := meet_spec h hv hw
  unfold spec_l05Way.f
  refine Ev.bind (spec_l01Parents_ev h hn) (Ev.bind (spec_l01Meet_ev h hn hv hw) ?_)
  have := spec_way_l0 h hn hm.2.2 hw hm.1 v v [] (Nat.le_refl _) (by simp; omega) hm.2.1
  simpa [wayM, castL_append, castL_reverse, castL] using this
end
end Go.Proofs.Ytdhmoglkcfgikaa.E
