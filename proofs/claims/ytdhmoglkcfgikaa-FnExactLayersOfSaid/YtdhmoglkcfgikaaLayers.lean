/- LayersOf on both sides. -/
import Derived.Test.YtdhmoglkcfgikaaCodes
import Derived.Test.YtdhmoglkcfgikaaEx5
import Derived.Test.YtdhmoglkcfgikaaEx27
namespace Go.Proofs.Ytdhmoglkcfgikaa.E
set_option linter.unusedVariables false
set_option linter.unusedSectionVars false
open Go.RowKit Go.Proofs.YtdhmoglkcfgikaaW.PrintWords Go.Proofs.YtdhmoglkcfgikaaW.PrintMore Go.Proofs.Ytdhmoglkcfgikaa.Base Go.Proofs.Ytdhmoglkcfgikaa.Tree

/-- How many of the nodes are left. -/
def cntL (out : List Int) (ns : List Nat) : Nat := ns.countP fun w => decide (out.getD w 0 < 0)
/-- The nodes below m that the next layer takes. -/
def ownM (d out : List Int) (m : Nat) : List Nat := (List.range m).filter fun v => decide (out.getD v 0 < 0) && decide (cntL out (aroundM d v) < 2)
def negM (out : List Int) : Nat := out.countP fun x => decide (x < 0)
def layM (out : List Int) (own : List Nat) (layer : Int) : List Int := own.foldl (fun o v => o.set v layer) out
def layers (d : List Int) : Nat → List Int → Int → List Int
  | 0, out, _ => out
  | f + 1, out, layer => if negM out = 0 then out else layers d f (layM out (ownM d out d.length) layer) (layer + 1)
theorem cntL_take {out : List Int} {ns : List Nat} {j : Nat} (h : j < ns.length) : cntL out (ns.take (j + 1)) = cntL out (ns.take j) + if out.getD ns[j] 0 < 0 then 1 else 0 := by
  unfold cntL
  rw [← List.take_append_getElem h, List.countP_append, List.countP_singleton]
  congr 1
  by_cases e : out.getD ns[j] 0 < 0
  · rw [if_pos e, if_pos (decide_eq_true e)]
  · rw [if_neg e, if_neg (by rw [decide_eq_false e]; decide)]
theorem cntL_le (out : List Int) (ns : List Nat) : cntL out ns ≤ ns.length := List.countP_le_length
theorem ownM_succ (d out : List Int) (v : Nat) : ownM d out (v + 1) = ownM d out v ++ if out.getD v 0 < 0 ∧ cntL out (aroundM d v) < 2 then [v] else [] := by
  unfold ownM
  rw [List.range_succ, List.filter_append]
  congr 1
  by_cases e : out.getD v 0 < 0 ∧ cntL out (aroundM d v) < 2
  · rw [if_pos e, List.filter_cons, if_pos (by rw [decide_eq_true e.1, decide_eq_true e.2]; rfl)]; rfl
  · rw [if_neg e, List.filter_cons, if_neg (by rw [Bool.and_eq_true, decide_eq_true_eq, decide_eq_true_eq]; exact e)]; rfl
theorem ownM_length (d out : List Int) (v : Nat) : (ownM d out v).length ≤ v := by
  have := List.length_filter_le (fun v => decide (out.getD v 0 < 0) && decide (cntL out (aroundM d v) < 2)) (List.range v)
  rw [List.length_range] at this
  exact this
theorem ownM_mem {d out : List Int} {m v : Nat} : v ∈ ownM d out m ↔ v < m ∧ out.getD v 0 < 0 ∧ cntL out (aroundM d v) < 2 := by
  unfold ownM
  rw [List.mem_filter, List.mem_range, Bool.and_eq_true, decide_eq_true_eq, decide_eq_true_eq]
theorem ownM_nodup (d out : List Int) (m : Nat) : (ownM d out m).Nodup := List.Nodup.sublist List.filter_sublist List.nodup_range
theorem layM_length (own : List Nat) : ∀ (out : List Int) (layer : Int), (layM out own layer).length = out.length := by
  induction own with
  | nil => intro out layer; rfl
  | cons v own ih => intro out layer; exact (ih _ _).trans List.length_set
theorem layM_take (out : List Int) (own : List Nat) (layer : Int) {j : Nat} (h : j < own.length) : layM out (own.take (j + 1)) layer = (layM out (own.take j) layer).set own[j] layer := by
  unfold layM
  rw [← List.take_append_getElem h, List.foldl_append]
  rfl
theorem neg_set {out : List Int} {v : Nat} {layer : Int} (hv : v < out.length) (hx : out.getD v 0 < 0) (hl : 0 ≤ layer) : negM (out.set v layer) + 1 = negM out := by
  unfold negM
  have e : out.getD v 0 = out[v] := by rw [List.getD_eq_getElem?_getD, List.getElem?_eq_getElem hv]; rfl
  have hp : 0 < out.countP fun x => decide (x < 0) := List.countP_pos_iff.2 ⟨out[v], List.getElem_mem hv, decide_eq_true (by omega)⟩
  rw [List.countP_set hv, if_pos (decide_eq_true (by omega)), if_neg (by rw [decide_eq_false (by omega)]; decide)]
  omega
theorem neg_lay {layer : Int} (hl : 0 ≤ layer) : ∀ (own : List Nat) (out : List Int), own.Nodup → (∀ v ∈ own, v < out.length ∧ out.getD v 0 < 0) → negM (layM out own layer) + own.length = negM out := by
  intro own
  induction own with
  | nil => intro out _ _; rfl
  | cons v own ih =>
    intro out hd hm
    rw [List.nodup_cons] at hd
    have h1 := hm v List.mem_cons_self
    have h2 := ih (out.set v layer) hd.2 (fun w hw => by
      have h3 := hm w (List.mem_cons_of_mem _ hw)
      have hne : v ≠ w := fun e => hd.1 (e ▸ hw)
      rw [List.length_set, get_set_ne hne]
      exact h3)
    have h3 := neg_set (layer := layer) h1.1 h1.2 hl
    show negM (layM (out.set v layer) own layer) + (own.length + 1) = negM out
    omega
/-- What stands in the list: -1, or a layer. -/
def okL (out : List Int) : Prop := ∀ x ∈ out, x = -1 ∨ 0 ≤ x
theorem okL_lay {layer : Int} (hl : 0 ≤ layer) : ∀ (own : List Nat) (out : List Int), okL out → okL (layM out own layer) := by
  intro own
  induction own with
  | nil => intro out h; exact h
  | cons v own ih =>
    intro out h
    refine ih _ (fun x hx => ?_)
    rcases List.mem_or_eq_of_mem_set hx with h1 | h1
    · exact h x h1
    · right; omega
theorem around_bd {d : List Int} (h : IsT d) {v : Nat} (hv : v < d.length) : ∀ w ∈ aroundM d v, w < d.length := by
  intro w hw
  unfold aroundM at hw
  rcases List.mem_append.1 hw with h1 | h1
  · exact (kid_mem h hv h1).2.1
  · split at h1
    · have := par_lt h (by omega) hv
      rw [List.mem_singleton] at h1
      omega
    · cases h1
/-- Somebody is taken while somebody is left. -/
theorem own_some {d out : List Int} (h : IsT d) (hl : out.length = d.length) (hneg : negM out ≠ 0) : 0 < (ownM d out d.length).length := by
  have hex : ∃ v, v < d.length ∧ out.getD v 0 < 0 := by
    obtain ⟨x, hx, hx2⟩ := List.countP_pos_iff.1 (Nat.pos_of_ne_zero hneg)
    obtain ⟨v, hv, rfl⟩ := List.mem_iff_getElem.1 hx
    refine ⟨v, by omega, ?_⟩
    rw [List.getD_eq_getElem?_getD, List.getElem?_eq_getElem hv]
    exact of_decide_eq_true hx2
  have hmax : ∀ m, (∃ v, v < d.length ∧ d.length ≤ v + m ∧ out.getD v 0 < 0) → ∃ v, v < d.length ∧ out.getD v 0 < 0 ∧ ∀ w, v < w → w < d.length → ¬ out.getD w 0 < 0 := by
    intro m
    induction m with
    | zero => rintro ⟨v, h1, h2, _⟩; omega
    | succ m ih =>
      rintro ⟨v, h1, h2, h3⟩
      by_cases e : ∃ w, v < w ∧ w < d.length ∧ out.getD w 0 < 0
      · obtain ⟨w, e1, e2, e3⟩ := e
        exact ih ⟨w, e2, by omega, e3⟩
      · exact ⟨v, h1, h3, fun w h4 h5 h6 => e ⟨w, h4, h5, h6⟩⟩
  obtain ⟨v, hv, hx⟩ := hex
  obtain ⟨v, hv, hx, hw⟩ := hmax d.length ⟨v, hv, by omega, hx⟩
  refine List.length_pos_of_mem (ownM_mem.2 ⟨hv, hx, ?_⟩)
  have hk : cntL out (kidsM d v) = 0 := by
    unfold cntL
    rw [List.countP_eq_zero]
    intro c hc
    have hm := kid_mem h hv hc
    have := hw c hm.1 hm.2.1
    simpa using this
  unfold aroundM
  show cntL out (kidsM d v ++ _) < 2
  unfold cntL at hk ⊢
  rw [List.countP_append, hk]
  split
  · have := List.countP_le_length (p := fun w => decide (out.getD w 0 < 0)) (l := [par d v])
    simp only [List.length_cons, List.length_nil] at this
    omega
  · simp
theorem castL_succ (l : List Nat) (v : Nat) : castL l ++ [(v : Int)] = castL (l ++ [v]) := by simp [castL]
theorem index_loop (out : List Int) (ho : okL out) (hn : out.length ≤ 1000) : ∀ (m i : Nat), i + m = out.length → ∃ r, Ev (fun k => slices_Index_int64_int64.l0 k out (-1) (out.length : Int) (i : Int)) r ∧ (0 ≤ r ↔ negM (out.drop i) ≠ 0)
  | 0, i, hi => by
    refine ⟨-1, ?_, ?_⟩
    · refine Ev.step (fun k => by rw [slices_Index_int64_int64.l0]) ?_
      exact ev_neg (by omega) (Ev.now _)
    · rw [List.drop_of_length_le (by omega)]
      exact ⟨fun h => by omega, fun h => absurd rfl h⟩
  | m + 1, i, hi => by
    have hil : i < out.length := by omega
    obtain ⟨r, h1, h2⟩ := index_loop out ho hn m (i + 1) (by omega)
    have e : rd out (i : Int) = out[i] := rd_lt hil
    by_cases hx : out[i] = -1
    · refine ⟨(i : Int), ?_, ?_⟩
      · refine Ev.step (fun k => by rw [slices_Index_int64_int64.l0]) ?_
        rw [e]
        exact ev_pos (by omega) (ev_pos (by omega) (ev_pos (by omega) (ev_pos (by omega) (Ev.now _))))
      · refine ⟨fun _ => ?_, fun _ => by omega⟩
        rw [List.drop_eq_getElem_cons hil]
        unfold negM
        rw [List.countP_cons, if_pos (decide_eq_true (by omega))]
        omega
    · refine ⟨r, ?_, ?_⟩
      · refine Ev.step (fun k => by rw [slices_Index_int64_int64.l0]) ?_
        rw [e]
        refine ev_pos (by omega) (ev_pos (by omega) (ev_pos (by omega) (ev_neg (by omega) ?_)))
        rw [w64s (by omega)]
        exact h1
      · rw [h2, List.drop_eq_getElem_cons hil]
        have := ho _ (List.getElem_mem hil)
        unfold negM
        rw [List.countP_cons, if_neg (by rw [decide_eq_false (by omega)]; decide)]
        rfl
theorem contains_ev (out : List Int) (ho : okL out) (hn : out.length ≤ 1000) : Ev (fun k => slices_Contains_int64_int64.f k out (-1)) (decide (negM out ≠ 0)) := by
  obtain ⟨r, h1, h2⟩ := index_loop out ho hn out.length 0 (by omega)
  unfold slices_Contains_int64_int64.f slices_Index_int64_int64.f
  refine Ev.bind h1 (ev_now ?_)
  exact decide_eq_decide.mpr h2
section
variable {d : List Int} (h : IsT d) (hn : d.length ≤ 1000)
include h hn
theorem spec_lay_in {out : List Int} (ho : out.length = d.length) (left layer : Int) {v : Nat} (hv : v < d.length) (r : List Int × Int)
    (H : Ev (fun k => spec_LayersOf.l2 k (d.length : Int) out left layer (castL (ownM d out (v + 1))) ((v + 1 : Nat) : Int) d) r) : ∀ (m j : Nat), j + m = (aroundM d v).length →
    Ev (fun k => spec_LayersOf.l3 k (d.length : Int) out left layer (castL (ownM d out v)) (v : Int) (castL (aroundM d v)) (cntL out ((aroundM d v).take j) : Int) (j : Int) d) r
  | 0, j, hj => by
    have hl := ownM_length d out v
    have hc := castL_length (ownM d out v)
    have e : rd out (v : Int) = out.getD v 0 := rfl
    rw [ownM_succ] at H
    refine Ev.step (fun k => by rw [spec_LayersOf.l3]) ?_
    rw [castL_length, List.take_of_length_le (by omega), e, w64s (i := v) (by omega)]
    refine ev_neg (by omega) (ev_pos (by omega) (ev_pos (by omega) ?_))
    by_cases h1 : out.getD v 0 < 0
    · by_cases h2 : cntL out (aroundM d v) < 2
      · rw [if_pos ⟨h1, h2⟩, ← castL_succ] at H
        exact ev_pos h1 (ev_pos (by omega) (ev_pos (by omega) H))
      · rw [if_neg (fun e => h2 e.2), List.append_nil] at H
        exact ev_pos h1 (ev_neg (by omega) H)
    · rw [if_neg (fun e => h1 e.1), List.append_nil] at H
      exact ev_neg h1 H
  | m + 1, j, hj => by
    have hf := around_few h hn hv
    have hjl : j < (aroundM d v).length := by omega
    have hb := around_bd h hv _ (List.getElem_mem hjl)
    have hc := cntL_le out ((aroundM d v).take j)
    have hct := List.length_take_le j (aroundM d v)
    have ih := spec_lay_in ho left layer hv r H m (j + 1) (by omega)
    have e : rd (castL (aroundM d v)) (j : Int) = ((aroundM d v)[j] : Int) := castL_getD _ _ hjl
    have e2 : rd out ((aroundM d v)[j] : Int) = out.getD (aroundM d v)[j] 0 := rfl
    rw [cntL_take hjl] at ih
    refine Ev.step (fun k => by rw [spec_LayersOf.l3]) ?_
    rw [castL_length, e, e2]
    refine ev_pos (by omega) (ev_pos (by omega) (ev_pos (by omega) (ev_pos (by omega) ?_)))
    rw [w64s (i := j) (by omega), w64s (i := cntL out ((aroundM d v).take j)) (by omega)]
    by_cases h1 : out.getD (aroundM d v)[j] 0 < 0
    · rw [if_pos h1] at ih
      exact ev_pos h1 ih
    · rw [if_neg h1] at ih
      exact ev_neg h1 ih
theorem spec_lay_own {out : List Int} (ho : out.length = d.length) (left layer : Int) (r : List Int × Int) (H : Ev (fun k => spec_LayersOf.l4 k (d.length : Int) out left layer (castL (ownM d out d.length)) 0 d) r) : ∀ (m v : Nat), v + m = d.length →
    Ev (fun k => spec_LayersOf.l2 k (d.length : Int) out left layer (castL (ownM d out v)) (v : Int) d) r
  | 0, v, hv => by
    obtain rfl : v = d.length := by omega
    refine Ev.step (fun k => by rw [spec_LayersOf.l2]) ?_
    exact ev_neg (by omega) H
  | m + 1, v, hv => by
    refine Ev.step (fun k => by rw [spec_LayersOf.l2]) ?_
    exact ev_pos (by omega) (Ev.bind (spec_l05Around_ev h hn (by omega)) (spec_lay_in h hn ho left layer (by omega) r (spec_lay_own ho left layer r H m (v + 1) (by omega)) (aroundM d v).length 0 (by omega)))
theorem spec_lay_set {out : List Int} (ho : out.length = d.length) (left layer : Int) (r : List Int × Int)
    (H : Ev (fun k => spec_LayersOf.l1 k (d.length : Int) (layM out (ownM d out d.length) layer) (wrap64 (left - ((ownM d out d.length).length : Int))) (wrap64 (layer + 1)) d) r) : ∀ (m j : Nat), j + m = (ownM d out d.length).length →
    Ev (fun k => spec_LayersOf.l4 k (d.length : Int) (layM out ((ownM d out d.length).take j) layer) left layer (castL (ownM d out d.length)) (j : Int) d) r
  | 0, j, hj => by
    refine Ev.step (fun k => by rw [spec_LayersOf.l4]) ?_
    rw [castL_length, List.take_of_length_le (by omega)]
    exact ev_neg (by omega) H
  | m + 1, j, hj => by
    have hjl : j < (ownM d out d.length).length := by omega
    have hb := (ownM_mem.1 (List.getElem_mem hjl)).1
    have hl := ownM_length d out d.length
    have ih := spec_lay_set ho left layer r H m (j + 1) (by omega)
    have e : rd (castL (ownM d out d.length)) (j : Int) = ((ownM d out d.length)[j] : Int) := castL_getD _ _ hjl
    rw [layM_take _ _ _ hjl] at ih
    refine Ev.step (fun k => by rw [spec_LayersOf.l4]) ?_
    rw [castL_length, e, layM_length, w64s (by omega)]
    exact ev_pos (by omega) (ev_pos (by omega) (ev_pos (by omega) (ev_pos (by omega) ih)))
theorem spec_layers_loop : ∀ (f : Nat) (out : List Int) (layer : Int), out.length = d.length → negM out ≤ f → 0 ≤ layer → layer + f ≤ 2000 → Ev (fun k => spec_LayersOf.l1 k (d.length : Int) out (negM out : Int) layer d) (layers d f out layer, 0)
  | 0, out, layer, ho, hf, h0, h1 => by
    refine Ev.step (fun k => by rw [spec_LayersOf.l1]) ?_
    exact ev_neg (by omega) (Ev.now _)
  | f + 1, out, layer, ho, hf, h0, h1 => by
    refine Ev.step (fun k => by rw [spec_LayersOf.l1]) ?_
    unfold layers
    by_cases hx : negM out = 0
    · rw [if_pos hx]
      exact ev_neg (by omega) (Ev.now _)
    · rw [if_neg hx]
      have hs := own_some h ho hx
      have hl := neg_lay h0 (ownM d out d.length) out (ownM_nodup _ _ _) (fun v hv => ⟨by have := (ownM_mem.1 hv).1; omega, (ownM_mem.1 hv).2.1⟩)
      have ih := spec_layers_loop f (layM out (ownM d out d.length) layer) (layer + 1) (by rw [layM_length]; exact ho) (by omega) (by omega) (by omega)
      refine ev_pos (by omega) (spec_lay_own h hn ho _ _ _ (spec_lay_set h hn ho _ _ _ ?_ (ownM d out d.length).length 0 (by omega)) d.length 0 (by omega))
      rw [w64 (by omega) (by omega), w64 (by omega) (by omega), show (negM out : Int) - ((ownM d out d.length).length : Int) = (negM (layM out (ownM d out d.length) layer) : Int) by omega]
      exact ih
theorem impl_lay_in {out : List Int} (ho : out.length = d.length) (layer : Int) {v : Nat} (hv : v < d.length) (r : List Int × Int)
    (H : Ev (fun k => impl_LayersOf.l1 k out layer (castL (ownM d out (v + 1))) (d.length : Int) ((v + 1 : Nat) : Int) d) r) : ∀ (m j : Nat), j + m = (aroundM d v).length →
    Ev (fun k => impl_LayersOf.l2 k out layer (castL (ownM d out v)) (v : Int) (cntL out ((aroundM d v).take j) : Int) (d.length : Int) (v : Int) (castL (aroundM d v)) ((aroundM d v).length : Int) (j : Int) d) r
  | 0, j, hj => by
    have hl := ownM_length d out v
    have hc := castL_length (ownM d out v)
    have e : rd out (v : Int) = out.getD v 0 := rfl
    rw [ownM_succ] at H
    refine Ev.step (fun k => by rw [impl_LayersOf.l2]) ?_
    rw [List.take_of_length_le (by omega), e, w64s (i := v) (by omega)]
    refine ev_neg (by omega) (ev_pos (by omega) (ev_pos (by omega) ?_))
    by_cases h1 : out.getD v 0 < 0
    · by_cases h2 : cntL out (aroundM d v) < 2
      · rw [if_pos ⟨h1, h2⟩, ← castL_succ] at H
        exact ev_pos h1 (ev_pos (by omega) (ev_pos (by omega) H))
      · rw [if_neg (fun e => h2 e.2), List.append_nil] at H
        exact ev_pos h1 (ev_neg (by omega) H)
    · rw [if_neg (fun e => h1 e.1), List.append_nil] at H
      exact ev_neg h1 H
  | m + 1, j, hj => by
    have hf := around_few h hn hv
    have hjl : j < (aroundM d v).length := by omega
    have hb := around_bd h hv _ (List.getElem_mem hjl)
    have hc := cntL_le out ((aroundM d v).take j)
    have hct := List.length_take_le j (aroundM d v)
    have ih := impl_lay_in ho layer hv r H m (j + 1) (by omega)
    have e : rd (castL (aroundM d v)) (j : Int) = ((aroundM d v)[j] : Int) := castL_getD _ _ hjl
    have e2 : rd out ((aroundM d v)[j] : Int) = out.getD (aroundM d v)[j] 0 := rfl
    rw [cntL_take hjl] at ih
    refine Ev.step (fun k => by rw [impl_LayersOf.l2]) ?_
    rw [castL_length, e, e2]
    refine ev_pos (by omega) (ev_pos (by omega) (ev_pos (by omega) (ev_pos (by omega) (ev_pos (by omega) ?_))))
    rw [w64s (i := j) (by omega), w64s (i := cntL out ((aroundM d v).take j)) (by omega)]
    by_cases h1 : out.getD (aroundM d v)[j] 0 < 0
    · rw [if_pos h1] at ih
      exact ev_pos h1 ih
    · rw [if_neg h1] at ih
      exact ev_neg h1 ih
theorem impl_lay_own {out : List Int} (ho : out.length = d.length) (layer : Int) (r : List Int × Int) (H : Ev (fun k => impl_LayersOf.l3 k out layer (castL (ownM d out d.length)) ((ownM d out d.length).length : Int) 0 d) r) : ∀ (m v : Nat), v + m = d.length →
    Ev (fun k => impl_LayersOf.l1 k out layer (castL (ownM d out v)) (d.length : Int) (v : Int) d) r
  | 0, v, hv => by
    obtain rfl : v = d.length := by omega
    refine Ev.step (fun k => by rw [impl_LayersOf.l1]) ?_
    rw [castL_length]
    exact ev_neg (by omega) H
  | m + 1, v, hv => by
    refine Ev.step (fun k => by rw [impl_LayersOf.l1]) ?_
    refine ev_pos (by omega) (Ev.bind (impl_around_ev h hn (by omega)) ?_)
    rw [castL_length]
    exact impl_lay_in h hn ho layer (by omega) r (impl_lay_own ho layer r H m (v + 1) (by omega)) (aroundM d v).length 0 (by omega)
theorem impl_lay_set {out : List Int} (ho : out.length = d.length) (layer : Int) (r : List Int × Int)
    (H : Ev (fun k => impl_LayersOf.l0 k (layM out (ownM d out d.length) layer) (wrap64 (layer + 1)) d) r) : ∀ (m j : Nat), j + m = (ownM d out d.length).length →
    Ev (fun k => impl_LayersOf.l3 k (layM out ((ownM d out d.length).take j) layer) layer (castL (ownM d out d.length)) ((ownM d out d.length).length : Int) (j : Int) d) r
  | 0, j, hj => by
    refine Ev.step (fun k => by rw [impl_LayersOf.l3]) ?_
    rw [List.take_of_length_le (by omega)]
    exact ev_neg (by omega) H
  | m + 1, j, hj => by
    have hjl : j < (ownM d out d.length).length := by omega
    have hb := (ownM_mem.1 (List.getElem_mem hjl)).1
    have hl := ownM_length d out d.length
    have ih := impl_lay_set ho layer r H m (j + 1) (by omega)
    have e : rd (castL (ownM d out d.length)) (j : Int) = ((ownM d out d.length)[j] : Int) := castL_getD _ _ hjl
    rw [layM_take _ _ _ hjl] at ih
    refine Ev.step (fun k => by rw [impl_LayersOf.l3]) ?_
    rw [castL_length, e, layM_length, w64s (by omega)]
    exact ev_pos (by omega) (ev_pos (by omega) (ev_pos (by omega) (ev_pos (by omega) (ev_pos (by omega) ih))))
theorem impl_layers_loop : ∀ (f : Nat) (out : List Int) (layer : Int), out.length = d.length → okL out → negM out ≤ f → 0 ≤ layer → layer + f ≤ 2000 → Ev (fun k => impl_LayersOf.l0 k out layer d) (layers d f out layer, 0)
  | 0, out, layer, ho, hk, hf, h0, h1 => by
    refine Ev.step (fun k => by rw [impl_LayersOf.l0]) ?_
    exact Ev.bind (contains_ev out hk (by omega)) (ev_neg (by rw [decide_eq_true_eq]; omega) (Ev.now _))
  | f + 1, out, layer, ho, hk, hf, h0, h1 => by
    refine Ev.step (fun k => by rw [impl_LayersOf.l0]) ?_
    refine Ev.bind (contains_ev out hk (by omega)) ?_
    unfold layers
    by_cases hx : negM out = 0
    · rw [if_pos hx]
      exact ev_neg (by rw [decide_eq_true_eq]; omega) (Ev.now _)
    · rw [if_neg hx]
      have hs := own_some h ho hx
      have hl := neg_lay h0 (ownM d out d.length) out (ownM_nodup _ _ _) (fun v hv => ⟨by have := (ownM_mem.1 hv).1; omega, (ownM_mem.1 hv).2.1⟩)
      have ih := impl_layers_loop f (layM out (ownM d out d.length) layer) (layer + 1) (by rw [layM_length]; exact ho) (okL_lay h0 _ _ hk) (by omega) (by omega) (by omega)
      refine ev_pos (by rw [decide_eq_true_eq]; omega) ?_
      rw [ho]
      refine impl_lay_own h hn ho _ _ (impl_lay_set h hn ho _ _ ?_ (ownM d out d.length).length 0 (by omega)) d.length 0 (by omega)
      rw [w64 (by omega) (by omega)]
      exact ih
theorem spec_fill_loop (r : List Int × Int) (H : Ev (fun k => spec_LayersOf.l1 k (d.length : Int) (List.replicate d.length (-1)) (d.length : Int) 0 d) r) : ∀ (m v : Nat) (out : List Int), v + m = d.length → out.length = d.length → (∀ j, j < v → out.getD j 0 = -1) →
    Ev (fun k => spec_LayersOf.l0 k (d.length : Int) out (d.length : Int) (d.length : Int) (v : Int) d) r
  | 0, v, out, hv, ho, hi => by
    have e : out = List.replicate d.length (-1) := ext_getD (by rw [List.length_replicate]; exact ho) (fun j hj => by rw [List.length_replicate] at hj; rw [hi j (by omega), getD_replicate hj])
    subst e
    refine Ev.step (fun k => by rw [spec_LayersOf.l0]) ?_
    exact ev_neg (by omega) H
  | m + 1, v, out, hv, ho, hi => by
    refine Ev.step (fun k => by rw [spec_LayersOf.l0]) ?_
    refine ev_pos (by omega) (ev_pos (by omega) (ev_pos (by omega) ?_))
    rw [w64s (by omega)]
    refine spec_fill_loop r H m (v + 1) _ (by omega) (by rw [List.length_set]; exact ho) (fun j hj => ?_)
    show (out.set v (-1)).getD j 0 = -1
    by_cases e : v = j
    · subst e; exact get_set_eq (by omega)
    · rw [get_set_ne e]; exact hi j (by omega)
end
theorem neg_replicate (n : Nat) : negM (List.replicate n (-1)) = n := by
  unfold negM
  rw [List.countP_replicate]
  simp
theorem layers_length (d : List Int) : ∀ (f : Nat) (out : List Int) (layer : Int), (layers d f out layer).length = out.length
  | 0, _, _ => rfl
  | f + 1, out, layer => by
    unfold layers
    split
    · rfl
    · rw [layers_length, layM_length]
theorem both_LayersOf (l : List Int) (hl : l.length ≤ 1048576) : ∃ r : List Int × Int, r.1.length ≤ 1048576 ∧ Ev (fun k => spec_LayersOf.f k l) r ∧ Ev (fun k => impl_LayersOf.f k l) r := by
  by_cases ht : isTreeM l = true
  · obtain ⟨h, hn⟩ := isTreeM_sound ht
    have hn' : l.length ≤ 1000 := by omega
    refine ⟨(layers l l.length (List.replicate l.length (-1)) 0, 0), by rw [layers_length, List.length_replicate]; exact hl, ?_, ?_⟩
    · have hs := spec_layers_loop h hn' l.length (List.replicate l.length (-1)) 0 (by simp) (by rw [neg_replicate]; omega) (by omega) (by omega)
      rw [neg_replicate] at hs
      unfold spec_LayersOf.f
      refine Ev.bind (spec_l01Is_ev l hl) (ev_pos ht ?_)
      simp only [l01N_ev]
      refine ev_some (ev_pos (by omega) (ev_pos (by omega) (ev_some ?_)))
      rw [Int.toNat_natCast, List.length_replicate]
      exact spec_fill_loop h hn' _ hs l.length 0 _ (by omega) (by simp) (fun j hj => absurd hj (Nat.not_lt_zero j))
    · have h0 := h.len
      have e : slices_Repeat_int64_int64.f [-1] (l.length : Int) = some (List.replicate l.length (-1)) := by
        unfold slices_Repeat_int64_int64.f
        rw [if_pos ⟨rfl, by omega, by omega⟩]; rfl
      unfold impl_LayersOf.f
      refine Ev.bind (impl_IsTree_ev l) (ev_pos ht ?_)
      rw [e]
      refine ev_some ?_
      refine impl_layers_loop h hn' l.length _ 0 (by simp) (fun x hx => ?_) (by rw [neg_replicate]; omega) (by omega) (by omega)
      rw [List.mem_replicate] at hx
      left; exact hx.2
  · refine ⟨([], 1), by simp, ?_, ?_⟩
    · unfold spec_LayersOf.f
      exact Ev.bind (spec_l01Is_ev l hl) (ev_neg ht (Ev.now _))
    · unfold impl_LayersOf.f
      exact Ev.bind (impl_IsTree_ev l) (ev_neg ht (Ev.now _))
end Go.Proofs.Ytdhmoglkcfgikaa.E
