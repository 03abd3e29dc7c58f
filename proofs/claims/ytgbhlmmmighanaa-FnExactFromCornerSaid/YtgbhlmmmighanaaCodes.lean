/- The codes of a tree and nodes, and the nodes around a node, on both sides. -/
import Derived.Test.YtgbhlmmmighanaaTreeEv2
import Derived.Test.YtgbhlmmmighanaaEx1
import Derived.Test.YtgbhlmmmighanaaEx5
namespace Go.Proofs.Ytgbhlmmmighanaa.E
set_option linter.unusedVariables false
set_option linter.unusedSectionVars false
open Go.RowKit Go.Proofs.YtgbhlmmmighanaaW.PrintWords Go.Proofs.Ytgbhlmmmighanaa.Base Go.Proofs.Ytgbhlmmmighanaa.Tree

def inR (d : List Int) (x : Int) : Bool := decide (0 ≤ x) && decide (x < d.length)
/-- 1 if d is no tree, 2 if a number is no node of it, else 0. -/
def codeL (d nodes : List Int) : Int := if isTreeM d = true then (if nodes.all (inR d) = true then 0 else 2) else 1
theorem drop_all (p : Int → Bool) (l : List Int) (i : Nat) (hi : i < l.length) : (l.drop i).all p = (p (l.getD i 0) && (l.drop (i + 1)).all p) := by
  rw [List.drop_eq_getElem_cons hi, List.all_cons, List.getD_eq_getElem?_getD, List.getElem?_eq_getElem hi]
  rfl
theorem spec_nodes_loop (d : List Int) (h0 : 0 < d.length) (hn : d.length ≤ 1048576) (l : List Int) (hl : l.length ≤ 1048576) : ∀ (m i : Nat), i + m = l.length → Ev (fun k => spec_l01Nodes.l0 k l (i : Int) d) (if (l.drop i).all (inR d) = true then 0 else 2)
  | 0, i, h => by
    refine Ev.step (fun k => by rw [spec_l01Nodes.l0]) ?_
    refine ev_neg (by omega) (ev_now ?_)
    rw [List.drop_of_length_le (by omega)]; rfl
  | m + 1, i, h => by
    have ih := spec_nodes_loop d h0 hn l hl m (i + 1) (by omega)
    refine Ev.step (fun k => by rw [spec_l01Nodes.l0]) ?_
    simp only [l01N_ev, l01In_ev]
    refine ev_pos (by omega) (ev_pos (by omega) (ev_some (ev_some ?_)))
    rw [w64 (x := (d.length : Int) - 1) (by omega) (by omega), w64s (by omega), drop_all _ _ _ (by omega : i < l.length)]
    have e : (decide (0 ≤ rd l (i : Int)) && decide (rd l (i : Int) ≤ (d.length : Int) - 1)) = inR d (l.getD i 0) := by
      unfold inR
      rw [rd_nat]
      congr 1
      exact decide_eq_decide.mpr (by omega)
    rw [e]
    cases hb : inR d (l.getD i 0) with
    | true => exact ev_pos rfl (by simpa using ih)
    | false => exact ev_neg (by decide) (ev_now (by simp))
theorem spec_l01Nodes_ev (d : List Int) (hn : d.length ≤ 1048576) (l : List Int) (hl : l.length ≤ 1048576) : Ev (fun k => spec_l01Nodes.f k d l) (codeL d l) := by
  unfold spec_l01Nodes.f codeL
  refine Ev.bind (spec_l01Is_ev d hn) ?_
  by_cases ht : isTreeM d = true
  · rw [if_pos ht]
    exact ev_pos ht (spec_nodes_loop d (isTreeM_sound ht).1.len hn l hl l.length 0 (by omega))
  · rw [if_neg ht]
    exact ev_neg ht (Ev.now _)
theorem impl_nodes_loop (d : List Int) (hn : d.length ≤ 1048576) (l : List Int) (hl : l.length ≤ 1048576) : ∀ (m i : Nat), i + m = l.length → Ev (fun k => impl_treeCode.l0 k l (l.length : Int) (i : Int) d) (if (l.drop i).all (inR d) = true then 0 else 2)
  | 0, i, h => by
    refine Ev.step (fun k => by rw [impl_treeCode.l0]) ?_
    refine ev_neg (by omega) (ev_now ?_)
    rw [List.drop_of_length_le (by omega)]; rfl
  | m + 1, i, h => by
    have ih := impl_nodes_loop d hn l hl m (i + 1) (by omega)
    refine Ev.step (fun k => by rw [impl_treeCode.l0]) ?_
    rw [drop_all _ _ _ (by omega : i < l.length), rd_nat]
    refine ev_pos (by omega) (ev_pos (by omega) (ev_pos (by omega) ?_))
    refine ev_ite (fun hx => ?_) (fun hx => ?_)
    · have e : inR d (l.getD i 0) = false := by unfold inR; rw [decide_eq_false (by omega)]; rfl
      rw [e]
      exact ev_now (by simp)
    · refine ev_ite (fun hy => ?_) (fun hy => ?_)
      · have e : inR d (l.getD i 0) = false := by unfold inR; rw [decide_eq_false (p := l.getD i 0 < (d.length : Int)) (by omega), Bool.and_false]
        rw [e]
        exact ev_now (by simp)
      · have e : inR d (l.getD i 0) = true := by unfold inR; rw [decide_eq_true (by omega), decide_eq_true (by omega)]; rfl
        rw [e, w64s (by omega)]
        simpa using ih
theorem impl_treeCode_ev (d : List Int) (hn : d.length ≤ 1048576) (l : List Int) (hl : l.length ≤ 1048576) : Ev (fun k => impl_treeCode.f k d l) (codeL d l) := by
  unfold impl_treeCode.f codeL
  refine Ev.bind (impl_IsTree_ev d) ?_
  by_cases ht : isTreeM d = true
  · rw [if_pos ht]
    exact ev_pos ht (impl_nodes_loop d hn l hl l.length 0 (by omega))
  · rw [if_neg ht]
    exact ev_neg ht (Ev.now _)
theorem codeL_one {d : List Int} {v : Int} (h : codeL d [v] = 0) : isTreeM d = true ∧ ∃ u : Nat, v = u ∧ u < d.length := by
  unfold codeL at h
  split at h
  · rename_i ht
    refine ⟨ht, ?_⟩
    split at h
    · rename_i ha
      simp only [List.all_cons, List.all_nil, Bool.and_true, inR, Bool.and_eq_true, decide_eq_true_eq] at ha
      exact ⟨v.toNat, by omega, by omega⟩
    · omega
  · omega
theorem codeL_two {d : List Int} {v w : Int} (h : codeL d [v, w] = 0) : isTreeM d = true ∧ (∃ u : Nat, v = u ∧ u < d.length) ∧ ∃ u : Nat, w = u ∧ u < d.length := by
  unfold codeL at h
  split at h
  · rename_i ht
    refine ⟨ht, ?_⟩
    split at h
    · rename_i ha
      simp only [List.all_cons, List.all_nil, Bool.and_true, inR, Bool.and_eq_true, decide_eq_true_eq] at ha
      exact ⟨⟨v.toNat, by omega, by omega⟩, ⟨w.toNat, by omega, by omega⟩⟩
    · omega
  · omega

/-! around a node -/
def aroundM (d : List Int) (v : Nat) : List Nat := kidsM d v ++ if 0 < v then [par d v] else []
theorem around_few {d : List Int} (h : IsT d) (_ : d.length ≤ 1000) {v : Nat} (hv : v < d.length) : (aroundM d v).length ≤ d.length := by
  have := kids_few h hv
  unfold aroundM
  split
  · simp; omega
  · simp; omega
section
variable {d : List Int} (h : IsT d) (hn : d.length ≤ 1000)
include h hn
theorem spec_l05Around_ev {v : Nat} (hv : v < d.length) : Ev (fun k => spec_l05Around.f k d (v : Int)) (castL (aroundM d v)) := by
  have hf := kids_few h hv
  unfold spec_l05Around.f aroundM
  refine Ev.bind (spec_l01Children_ev h hn hv) ?_
  refine ev_ite (fun hx => ?_) (fun hx => ?_)
  · refine Ev.bind (spec_l01Parents_ev h hn) (ev_pos (by omega) (ev_pos (by rw [parL_length h hn]; omega) (ev_pos (by rw [castL_length]; omega) (ev_now ?_))))
    have hg : rd (parL d) (v : Int) = (par d v : Int) := parL_get h hn (by omega) hv
    rw [hg, if_pos (by omega)]
    simp [castL]
  · exact ev_now (by rw [if_neg (by omega), List.append_nil])
theorem impl_around_ev {v : Nat} (hv : v < d.length) : Ev (fun k => impl_around.f k d (v : Int)) (castL (aroundM d v)) := by
  have hf := kids_few h hv
  unfold impl_around.f aroundM
  refine Ev.bind (impl_kidsOf_ev h hn hv) ?_
  refine ev_ite (fun hx => ?_) (fun hx => ?_)
  · refine Ev.bind (impl_parentsOf_ev h hn) (ev_pos (by omega) (ev_pos (by rw [parL_length h hn]; omega) (ev_pos (by rw [castL_length]; omega) (ev_now ?_))))
    have hg : rd (parL d) (v : Int) = (par d v : Int) := parL_get h hn (by omega) hv
    rw [hg, if_pos (by omega)]
    simp [castL]
  · exact ev_now (by rw [if_neg (by omega), List.append_nil])
end
end Go.Proofs.Ytgbhlmmmighanaa.E
