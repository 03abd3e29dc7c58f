/- A tree as it is seen from a corner: no program in sight. -/
import Derived.Test.YtgbhlmmmighanaaCodes
namespace Go.Proofs.Ytgbhlmmmighanaa.E
set_option linter.unusedVariables false
set_option linter.unusedSectionVars false
open Go.RowKit Go.Proofs.YtgbhlmmmighanaaW.PrintWords Go.Proofs.Ytgbhlmmmighanaa.Base Go.Proofs.Ytgbhlmmmighanaa.Tree

def tot (g : Nat → Nat) : List Nat → Nat
  | [] => 0
  | x :: l => g x + tot g l
theorem tot_append (g : Nat → Nat) : ∀ a b, tot g (a ++ b) = tot g a + tot g b
  | [], b => by simp [tot]
  | x :: a, b => by simp [tot, tot_append g a b]; omega
theorem tot_congr {f g : Nat → Nat} : ∀ {l : List Nat}, (∀ x ∈ l, f x = g x) → tot f l = tot g l
  | [], _ => rfl
  | x :: l, h => by
    simp only [tot]
    rw [h x (by simp), tot_congr (fun y hy => h y (by simp [hy]))]
theorem tot_ge (g : Nat → Nat) : ∀ {l : List Nat} {x : Nat}, x ∈ l → g x ≤ tot g l
  | y :: l, x, hx => by
    simp only [tot]
    rcases List.mem_cons.1 hx with rfl | hx
    · omega
    · have := tot_ge g hx; omega
theorem flat_length {f : Nat → List Int} : ∀ (l : List Nat), (l.map f).flatten.length = tot (fun x => (f x).length) l
  | [] => rfl
  | x :: l => by simp only [List.map_cons, List.flatten_cons, List.length_append, tot, flat_length l]
section
variable {d : List Int} (h : IsT d)
include h
theorem mem_around {v w : Nat} (hv : v < d.length) : w ∈ aroundM d v ↔ (0 < w ∧ w < d.length ∧ par d w = v) ∨ (0 < v ∧ w = par d v) := by
  unfold aroundM
  rw [List.mem_append]
  constructor
  · rintro (hk | hp)
    · have := kid_mem h hv hk
      exact .inl ⟨by omega, this.2.1, kid_par h hv hk⟩
    · split at hp
      · rename_i h0; exact .inr ⟨h0, by simpa using hp⟩
      · cases hp
  · rintro (⟨h0, h1, rfl⟩ | ⟨h0, rfl⟩)
    · exact .inl (par_kid h h0 h1)
    · right; rw [if_pos h0]; simp
theorem around_lt {v w : Nat} (hv : v < d.length) (hw : w ∈ aroundM d v) : w < d.length ∧ w ≠ v := by
  rcases (mem_around h hv).1 hw with ⟨h0, h1, h2⟩ | ⟨h0, h2⟩
  · have := par_lt h h0 h1; omega
  · have := par_lt h h0 hv; omega
theorem around_sym {v w : Nat} (hv : v < d.length) (hw : w ∈ aroundM d v) : v ∈ aroundM d w := by
  have hl := (around_lt h hv hw).1
  rw [mem_around h hl]
  rcases (mem_around h hv).1 hw with ⟨h0, h1, h2⟩ | ⟨h0, h2⟩
  · exact .inr ⟨h0, h2.symm⟩
  · exact .inl ⟨h0, hv, h2.symm⟩
theorem run_sorted {m c e : Nat} (r : Run d m c e) : (kidsFrom d m c).Pairwise (· < ·) := by
  induction r with
  | nil c => exact List.Pairwise.nil
  | @cons m c e hc r ih =>
    refine List.Pairwise.cons (fun x hx => ?_) ih
    have := run_mem h r x hx
    have := end_gt h hc
    omega
theorem around_nodup {v : Nat} (hv : v < d.length) : (aroundM d v).Nodup := by
  unfold aroundM
  refine List.nodup_append.2 ⟨(run_sorted h (run_kids h hv)).imp (fun hlt => by omega), ?_, ?_⟩
  · split <;> simp
  · intro a ha b hb
    split at hb
    · have h1 := kid_mem h hv ha
      have h2 := par_lt h (c := v) (by omega) hv
      have h3 : b = par d v := by simpa using hb
      omega
    · cases hb
theorem run_tot {m c e : Nat} (r : Run d m c e) : tot (fun x => endM d x - x) (kidsFrom d m c) = e - c := by
  induction r with
  | nil c => simp [kidsFrom, tot]
  | @cons m c e hc r ih =>
    have h1 := end_gt h hc
    have h2 := run_bd h r
    simp only [kidsFrom, tot, ih]
    omega
end
/-- How many nodes are at w's side of the edge between v and w. -/
def side (d : List Int) (v w : Nat) : Nat := if v < w then endM d w - w else d.length - (endM d v - v)
section
variable {d : List Int} (h : IsT d)
include h
theorem side_both {v w : Nat} (hv : v < d.length) (hw : w ∈ aroundM d v) : 0 < side d v w ∧ 0 < side d w v ∧ side d v w + side d w v = d.length := by
  have hl := around_lt h hv hw
  have key : ∀ a b : Nat, 0 < b → b < d.length → par d b = a → 0 < side d a b ∧ 0 < side d b a ∧ side d a b + side d b a = d.length := by
    intro a b h0 h1 h2
    have h3 := par_lt h h0 h1
    have h4 := end_gt h h1
    have h5 := end_le h h1
    unfold side
    rw [if_pos (by omega), if_neg (by omega)]
    omega
  rcases (mem_around h hv).1 hw with ⟨h0, h1, h2⟩ | ⟨h0, h2⟩
  · exact key v w h0 h1 h2
  · have := key w v h0 hv h2.symm
    omega
theorem tot_around {w : Nat} (hw : w < d.length) : tot (side d w) (aroundM d w) = d.length - 1 := by
  unfold aroundM
  rw [tot_append]
  have h1 : tot (side d w) (kidsM d w) = endM d w - (w + 1) := by
    rw [← run_tot h (run_kids h hw)]
    refine tot_congr (fun x hx => ?_)
    have := kid_mem h hw hx
    unfold side
    rw [if_pos (by omega)]
  rw [h1]
  have h2 := end_gt h hw
  have h3 := end_le h hw
  by_cases h0 : 0 < w
  · have := par_lt h h0 hw
    rw [if_pos h0]
    simp only [tot, side]
    rw [if_neg (by omega)]
    omega
  · rw [if_neg h0]
    have e : w = 0 := by omega
    subst e
    rw [end_root h]
    simp [tot]
end
/-- The nodes around w that come behind v, v itself left out. -/
def restM (d : List Int) (v w : Nat) : List Nat := (aroundM d w).drop ((aroundM d w).idxOf v + 1) ++ (aroundM d w).take ((aroundM d w).idxOf v)
/-- What is seen from a node, its neighbours in order. -/
def seenM (d : List Int) : Nat → Nat → List Nat → List Int
  | 0, _, _ => []
  | f + 1, v, L => (L.length : Int) :: (L.map fun w => seenM d f w (restM d v w)).flatten
theorem split_at {l : List Nat} {v : Nat} (hv : v ∈ l) : l.idxOf v < l.length ∧ l = l.take (l.idxOf v) ++ v :: l.drop (l.idxOf v + 1) := by
  have hl : l.idxOf v < l.length := List.idxOf_lt_length_of_mem hv
  refine ⟨hl, ?_⟩
  have e : l[l.idxOf v] = v := List.getElem_idxOf hl
  conv => lhs; rw [← List.take_append_drop (l.idxOf v) l, List.drop_eq_getElem_cons hl, e]
section
variable {d : List Int} (h : IsT d)
include h
theorem rest_tot {v w : Nat} (hv : v < d.length) (hw : w ∈ aroundM d v) : tot (side d w) (restM d v w) + 1 = side d v w := by
  have hl := (around_lt h hv hw).1
  have hs := (split_at (around_sym h hv hw)).2
  have h1 := tot_around h hl
  rw [hs, tot_append] at h1
  simp only [tot] at h1
  have h2 := side_both h hv hw
  unfold restM
  rw [tot_append]
  omega
theorem rest_mem {v w x : Nat} (hx : x ∈ restM d v w) : x ∈ aroundM d w := by
  unfold restM at hx
  rcases List.mem_append.1 hx with hx | hx
  · exact List.mem_of_mem_drop hx
  · exact List.mem_of_mem_take hx
theorem rest_length {v w : Nat} (hv : v < d.length) (hw : w ∈ aroundM d v) : (restM d v w).length + 1 = (aroundM d w).length := by
  have hs := (split_at (around_sym h hv hw)).1
  unfold restM
  simp only [List.length_append, List.length_drop, List.length_take]
  omega
theorem seen_length : ∀ (f v w : Nat), v < d.length → w ∈ aroundM d v → side d v w ≤ f → (seenM d f w (restM d v w)).length = side d v w
  | 0, v, w, hv, hw, hf => by have := side_both h hv hw; omega
  | f + 1, v, w, hv, hw, hf => by
    have hl := (around_lt h hv hw).1
    have ht := rest_tot h hv hw
    simp only [seenM, List.length_cons, flat_length]
    rw [tot_congr (g := side d w) (fun x hx => ?_)]
    · omega
    · have h1 := tot_ge (side d w) hx
      exact seen_length f w x hl (rest_mem h hx) (by omega)
theorem seen_root {v : Nat} (hv : v < d.length) {L : List Nat} (hL : ∀ x ∈ L, x ∈ aroundM d v) (ht : tot (side d v) L = d.length - 1) : (seenM d d.length v L).length = d.length := by
  obtain ⟨f, hf⟩ : ∃ f, d.length = f + 1 := ⟨d.length - 1, by have := h.len; omega⟩
  have e : ∀ g, g = f + 1 → (seenM d g v L).length = tot (side d v) L + 1 := by
    intro g hg
    subst hg
    simp only [seenM, List.length_cons, flat_length]
    congr 1
    refine tot_congr (fun x hx => ?_)
    have h1 := tot_ge (side d v) hx
    exact seen_length h f v x hv (hL x hx) (by omega)
  rw [e _ hf, ht]
  omega
theorem rot_tot {v k : Nat} (hv : v < d.length) : tot (side d v) ((aroundM d v).drop k ++ (aroundM d v).take k) = d.length - 1 := by
  rw [← tot_around h hv]
  conv => rhs; rw [← List.take_append_drop k (aroundM d v)]
  rw [tot_append, tot_append]
  omega
end
end Go.Proofs.Ytgbhlmmmighanaa.E
