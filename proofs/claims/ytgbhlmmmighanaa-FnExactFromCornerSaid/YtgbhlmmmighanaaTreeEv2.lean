/- What both sides compute of a tree: parents, depths, meets. -/
import Derived.Test.YtgbhlmmmighanaaTreeEv
import Derived.Test.YtgbhlmmmighanaaEx1
namespace Go.Proofs.Ytgbhlmmmighanaa.E
set_option linter.unusedVariables false
set_option linter.unusedSectionVars false
open Go.RowKit Go.Proofs.YtgbhlmmmighanaaW.PrintWords Go.Proofs.Ytgbhlmmmighanaa.Base Go.Proofs.Ytgbhlmmmighanaa.Tree

/-- The list of parents, those of the nodes below v and of some children of v told; e elsewhere. -/
structure ParInv (d : List Int) (e : Nat → Int) (v : Nat) (S : List Nat) (out : List Int) : Prop where
  len : out.length = d.length
  get : ∀ c, c < d.length → out.getD c 0 = if 0 < c ∧ (par d c < v ∨ c ∈ S) then (par d c : Int) else e c
theorem ParInv.step {d : List Int} (h : IsT d) {e : Nat → Int} {v : Nat} (hv : v < d.length) {S : List Nat} {out : List Int} {c : Nat} (hc : c ∈ kidsM d v) (hi : ParInv d e v S out) : ParInv d e v (S ++ [c]) (out.set c (v : Int)) := by
  have hk := kid_mem h hv hc
  refine ⟨by rw [List.length_set, hi.len], fun x hx => ?_⟩
  by_cases hxc : c = x
  · subst hxc
    rw [get_set_eq (by rw [hi.len]; exact hx), if_pos ⟨by omega, .inr (by simp)⟩, kid_par h hv hc]
  · rw [get_set_ne hxc, hi.get x hx]
    have : (x ∈ S ++ [c]) = (x ∈ S) := by simp [Ne.symm hxc]
    simp only [this]
theorem ParInv.next {d : List Int} (h : IsT d) {e : Nat → Int} {v : Nat} (hv : v < d.length) {out : List Int} (hi : ParInv d e v (kidsM d v) out) : ParInv d e (v + 1) [] out := by
  refine ⟨hi.len, fun x hx => ?_⟩
  rw [hi.get x hx]
  by_cases h0 : 0 < x
  · have : (par d x < v ∨ x ∈ kidsM d v) ↔ par d x < v + 1 := by
      constructor
      · rintro (hl | hm)
        · omega
        · rw [kid_par h hv hm]; omega
      · intro hl
        by_cases hq : par d x = v
        · exact .inr (hq ▸ par_kid h h0 hx)
        · exact .inl (by omega)
    simp only [h0, true_and, this, List.not_mem_nil, or_false]
  · simp [h0]
theorem ParInv.done {d : List Int} (h : IsT d) {e : Nat → Int} {out : List Int} (he : e 0 = -1) (hi : ParInv d e d.length [] out) : out = parL d := by
  refine ext_getD (by simp [parL, hi.len]) (fun c hc => ?_)
  have hc' : c < d.length := by simpa [parL] using hc
  rw [hi.get c hc', parL, getD_map_range hc']
  rcases Nat.eq_zero_or_pos c with h0 | h0
  · subst h0; simp [he]
  · have := par_lt h h0 hc'
    rw [if_pos ⟨h0, .inl (by omega)⟩, if_neg (by omega)]

section
variable {d : List Int} (h : IsT d) (hn : d.length ≤ 1000)
include h hn
theorem impl_parents_in {e : Nat → Int} {v : Nat} (hv : v < d.length) (n : Int) (r : List Int) : ∀ (m j : Nat) (out : List Int), j + m = (kidsM d v).length → ParInv d e v ((kidsM d v).take j) out →
    (∀ out', ParInv d e (v + 1) [] out' → Ev (fun k => impl_parentsOf.l0 k d out' n ((v + 1 : Nat) : Int)) r) → Ev (fun k => impl_parentsOf.l1 k d out (v : Int) n (v : Int) (castL (kidsM d v)) ((castL (kidsM d v)).length : Int) (j : Int)) r := by
  have hf := kids_few h hv
  intro m
  induction m with
  | zero =>
    intro j out h1 hi hr
    refine Ev.step (fun k => by rw [impl_parentsOf.l1]) ?_
    refine ev_neg (by rw [castL_length]; omega) ?_
    rw [w64s (by omega)]
    refine hr out (ParInv.next h hv ?_)
    rwa [List.take_of_length_le (by omega)] at hi
  | succ m ih =>
    intro j out h1 hi hr
    have hj : j < (kidsM d v).length := by omega
    have hmem : (kidsM d v)[j] ∈ kidsM d v := List.getElem_mem hj
    have hk := kid_mem h hv hmem
    refine Ev.step (fun k => by rw [impl_parentsOf.l1]) ?_
    have hg : rd (castL (kidsM d v)) (j : Int) = ((kidsM d v)[j] : Int) := castL_getD _ j hj
    rw [hg]
    refine ev_pos (by rw [castL_length]; omega) (ev_pos (by omega) (ev_pos (by rw [castL_length]; omega) (ev_pos (by omega) (ev_pos (by rw [hi.len]; omega) ?_))))
    rw [w64s (by omega)]
    refine ih (j + 1) _ (by omega) ?_ hr
    have := hi.step h hv hmem
    rwa [List.take_append_getElem hj] at this
theorem impl_parents_loop {e : Nat → Int} (he : e 0 = -1) : ∀ (m v : Nat) (out : List Int), v + m = d.length → ParInv d e v [] out → Ev (fun k => impl_parentsOf.l0 k d out (d.length : Int) (v : Int)) (parL d) := by
  intro m
  induction m with
  | zero =>
    intro v out h1 hi
    have ev : v = d.length := by omega
    subst ev
    refine Ev.step (fun k => by rw [impl_parentsOf.l0]) ?_
    exact ev_neg (by omega) (ev_now (hi.done h he))
  | succ m ih =>
    intro v out h1 hi
    have hv : v < d.length := by omega
    refine Ev.step (fun k => by rw [impl_parentsOf.l0]) ?_
    refine ev_pos (by omega) (Ev.bind (impl_kidsOf_ev h hn hv) ?_)
    exact impl_parents_in h hn hv _ _ (kidsM d v).length 0 out (by omega) (by simpa using hi) (fun out' hi' => ih (v + 1) out' (by omega) hi')
theorem impl_parentsOf_ev : Ev (fun k => impl_parentsOf.f k d) (parL d) := by
  have h0 := h.len
  unfold impl_parentsOf.f
  have e : slices_Repeat_int64_int64.f [-1] (d.length : Int) = some (List.replicate d.length (-1)) := by
    unfold slices_Repeat_int64_int64.f
    rw [if_pos ⟨rfl, by omega, by omega⟩]; rfl
  rw [e]
  refine ev_some ?_
  refine impl_parents_loop h hn (e := fun _ => -1) rfl d.length 0 _ (by omega) ⟨by simp, fun c hc => ?_⟩
  rw [getD_replicate hc, if_neg (by simp)]
theorem spec_parents_in {e : Nat → Int} {v : Nat} (hv : v < d.length) (r : List Int) : ∀ (m j : Nat) (out : List Int), j + m = (kidsM d v).length → ParInv d e v ((kidsM d v).take j) out →
    (∀ out', ParInv d e (v + 1) [] out' → Ev (fun k => spec_l01Parents.l0 k out' ((v + 1 : Nat) : Int) d) r) → Ev (fun k => spec_l01Parents.l1 k out (v : Int) (castL (kidsM d v)) (j : Int) d) r := by
  have hf := kids_few h hv
  intro m
  induction m with
  | zero =>
    intro j out h1 hi hr
    refine Ev.step (fun k => by rw [spec_l01Parents.l1]) ?_
    refine ev_neg (by rw [castL_length]; omega) ?_
    rw [w64s (by omega)]
    refine hr out (ParInv.next h hv ?_)
    rwa [List.take_of_length_le (by omega)] at hi
  | succ m ih =>
    intro j out h1 hi hr
    have hj : j < (kidsM d v).length := by omega
    have hmem : (kidsM d v)[j] ∈ kidsM d v := List.getElem_mem hj
    have hk := kid_mem h hv hmem
    refine Ev.step (fun k => by rw [spec_l01Parents.l1]) ?_
    have hg : rd (castL (kidsM d v)) (j : Int) = ((kidsM d v)[j] : Int) := castL_getD _ j hj
    rw [hg]
    refine ev_pos (by rw [castL_length]; omega) (ev_pos (by omega) (ev_pos (by omega) (ev_pos (by rw [hi.len]; omega) ?_)))
    rw [w64s (by omega)]
    refine ih (j + 1) _ (by omega) ?_ hr
    have := hi.step h hv hmem
    rwa [List.take_append_getElem hj] at this
theorem spec_parents_loop {e : Nat → Int} (he : e 0 = -1) : ∀ (m v : Nat) (out : List Int), v + m = d.length → ParInv d e v [] out → Ev (fun k => spec_l01Parents.l0 k out (v : Int) d) (parL d) := by
  intro m
  induction m with
  | zero =>
    intro v out h1 hi
    have ev : v = d.length := by omega
    subst ev
    refine Ev.step (fun k => by rw [spec_l01Parents.l0]) ?_
    simp only [l01N_ev]
    exact ev_some (ev_neg (by omega) (ev_now (hi.done h he)))
  | succ m ih =>
    intro v out h1 hi
    have hv : v < d.length := by omega
    refine Ev.step (fun k => by rw [spec_l01Parents.l0]) ?_
    simp only [l01N_ev]
    refine ev_some (ev_pos (by omega) (Ev.bind (spec_l01Children_ev h hn hv) ?_))
    exact spec_parents_in h hn hv _ (kidsM d v).length 0 out (by omega) (by simpa using hi) (fun out' hi' => ih (v + 1) out' (by omega) hi')
theorem spec_l01Parents_ev : Ev (fun k => spec_l01Parents.f k d) (parL d) := by
  have h0 := h.len
  unfold spec_l01Parents.f
  simp only [l01N_ev]
  refine ev_some (ev_pos (by omega) (ev_pos (by simp; omega) (ev_some (ev_pos (by simp; omega) ?_))))
  refine spec_parents_loop h hn (e := fun c => if c = 0 then -1 else 0) rfl d.length 0 _ (by omega) ⟨by simp, fun c hc => ?_⟩
  rcases Nat.eq_zero_or_pos c with e | e
  · subst e
    rw [show ((0 : Int)).toNat = 0 from rfl, get_set_eq (by simp; omega), if_neg (by omega)]; rfl
  · rw [show ((0 : Int)).toNat = 0 from rfl, get_set_ne (by omega), show ((d.length : Int)).toNat = d.length from rfl, getD_replicate hc, if_neg (by simp), if_neg (by omega)]

end
theorem parL_length {d : List Int} (_ : IsT d) (_ : d.length ≤ 1000) : (parL d).length = d.length := by simp [parL]
theorem parL_get {d : List Int} (_ : IsT d) (_ : d.length ≤ 1000) {c : Nat} (h0 : 0 < c) (hc : c < d.length) : (parL d).getD c 0 = (par d c : Int) := by
  rw [parL, getD_map_range hc, if_neg (by omega)]
theorem parL_root {d : List Int} (h : IsT d) (_ : d.length ≤ 1000) : (parL d).getD 0 0 = -1 := by
  rw [parL, getD_map_range h.len, if_pos rfl]
/-- Depths, those of the nodes ahead of v told. -/
theorem depInv_step {d : List Int} (h : IsT d) (_ : d.length ≤ 1000) {v : Nat} {out : List Int} (h0 : 0 < v) (hv : v < d.length) (hl : out.length = d.length) (hi : ∀ c, c < v → out.getD c 0 = (depth d c : Int)) : ∀ c, c < v + 1 → (out.set v ((depth d (par d v) : Int) + 1)).getD c 0 = (depth d c : Int) := by
  intro c hc
  by_cases e : v = c
  · subst e
    rw [get_set_eq (by omega), depth_succ h h0 hv]; omega
  · rw [get_set_ne e]
    exact hi c (by omega)
theorem depL_of {d : List Int} (_ : IsT d) (_ : d.length ≤ 1000) {out : List Int} (hl : out.length = d.length) (hi : ∀ c, c < d.length → out.getD c 0 = (depth d c : Int)) : out = depL d := by
  refine ext_getD (by simp [depL, hl]) (fun c hc => ?_)
  have hc' : c < d.length := by simpa [depL] using hc
  rw [hi c hc', depL, getD_map_range hc']
section
variable {d : List Int} (h : IsT d) (hn : d.length ≤ 1000)
include h hn
end
end Go.Proofs.Ytgbhlmmmighanaa.E
