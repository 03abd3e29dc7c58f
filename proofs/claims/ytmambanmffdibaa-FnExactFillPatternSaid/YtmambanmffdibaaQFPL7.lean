/- The row of the law FnExactFillPattern, out of its pure statement. -/
import Derived.Test.YtmambanmffdibaaQFPEx0
import Derived.Test.YtmambanmffdibaaQFPEx1
import Derived.Test.YtmambanmffdibaaQFPEx14
import Derived.Test.YtmambanmffdibaaQFPEx15
import Derived.Test.YtmambanmffdibaaQFPEx16
import Derived.Test.YtmambanmffdibaaQFPEx3
import Derived.Test.YtmambanmffdibaaQFPEx6
import Derived.Test.YtmambanmffdibaaQFPL2
import Derived.Test.YtmambanmffdibaaQFPL3
import Derived.Test.YtmambanmffdibaaQFPL5
import Derived.Test.YtmambanmffdibaaQFPW
import Derived.Deep.Slices
import Derived.Lib.SmallJoins
import Derived.OpenShut
import Derived.WalkKit
namespace Go.Proofs.Ytmambanmffdibaa.PT
set_option linter.unusedVariables false
set_option linter.unusedSectionVars false
open Go.RowKit Go.Proofs.YtmambanmffdibaaW.PrintWords Go.Proofs.Ytmambanmffdibaa.Base Go.Proofs.Ytmambanmffdibaa.P Go.Proofs.Ytmambanmffdibaa.E
def endO (p : ByteArray) (n a : Nat) (u : List Bool) : Option (Int × List Bool) := (parse n (from_ p a)).bind fun x => (marks u (letL n x.1)).map fun v => ((p.size : Int) - x.2.size, v)
def loopO (p : ByteArray) (n m a : Nat) (u : List Bool) : Option (Int × List Bool) := (kidsP (parse n) m (from_ p a) []).bind fun x => (marks u (x.1.flatMap (letL n))).bind fun v => if x.2.size = 0 then none else some ((p.size : Int) - x.2.size + 1, v)
theorem endO_end {p : ByteArray} {n a : Nat} {u : List Bool} (h : p.size ≤ a) : endO p (n + 1) a u = none := by
  rw [endO, parse, if_pos (by rw [from_size]; omega)]; rfl
theorem endO_letter {p : ByteArray} {n a : Nat} {u : List Bool} (h : a < p.size) (hb : 97 ≤ bt p a ∧ bt p a ≤ 104) : endO p (n + 1) a u = (mark1 u (bt p a)).map fun v => ((a : Int) + 1, v) := by
  rw [endO, parse, if_neg (by rw [from_size]; omega), bt_from p a h, if_pos hb, Option.bind_some]
  have e : letL (n + 1) (Pat.mk (bt p a) []) = [bt p a] := by rw [letL, if_neg (by show bt p a ≠ 0; omega)]; rfl
  rw [e, marks]
  have e2 : ((from_ p a).extract 1 (from_ p a).size).size = p.size - (a + 1) := by rw [from_from, from_size]
  simp only [e2]
  cases mark1 u (bt p a) with
  | none => rfl
  | some v =>
    show some _ = some _
    rw [show (p.size : Int) - ((p.size - (a + 1) : Nat) : Int) = (a : Int) + 1 by omega]
theorem endO_bad {p : ByteArray} {n a : Nat} {u : List Bool} (h : a < p.size) (hb : ¬ (97 ≤ bt p a ∧ bt p a ≤ 104)) (h40 : bt p a ≠ 40) : endO p (n + 1) a u = none := by
  rw [endO, parse, if_neg (by rw [from_size]; omega), bt_from p a h, if_neg hb, if_pos h40]; rfl
theorem endO_node {p : ByteArray} {n a : Nat} {u : List Bool} (h : a < p.size) (h40 : bt p a = 40) : endO p (n + 1) a u = loopO p n (n + 1) (a + 1) u := by
  rw [endO, parse, if_neg (by rw [from_size]; omega), bt_from p a h, if_neg (by omega), if_neg (by omega), from_from, loopO]
  cases hk : kidsP (parse n) (n + 1) (from_ p (a + 1)) [] with
  | none => rfl
  | some x =>
    rw [Option.bind_some, Option.bind_some]
    by_cases h0 : x.2.size = 0
    · rw [if_pos h0, Option.bind_none]
      cases marks u (x.1.flatMap (letL n)) with
      | none => rfl
      | some v => rw [Option.bind_some, if_pos h0]
    · rw [if_neg h0, Option.bind_some]
      have e : letL (n + 1) (Pat.mk 0 x.1) = x.1.flatMap (letL n) := by rw [letL, if_pos (show (Pat.mk 0 x.1).letter = 0 from rfl)]; rfl
      have e2 : (x.2.extract 1 x.2.size).size = x.2.size - 1 := by rw [ByteArray.size_extract]; omega
      rw [e]
      simp only [e2]
      cases marks u (x.1.flatMap (letL n)) with
      | none => rfl
      | some v =>
        rw [Option.bind_some, if_neg h0, Option.map_some]
        rw [show (p.size : Int) - ((x.2.size - 1 : Nat) : Int) = (p.size : Int) - x.2.size + 1 by omega]
theorem loopO_end {p : ByteArray} {n m a : Nat} {u : List Bool} (h : p.size ≤ a) : loopO p n (m + 1) a u = none := by
  rw [loopO, kidsP_stop (.inl (by rw [from_size]; omega)), Option.bind_some]
  show (marks u []).bind _ = _
  rw [marks, Option.bind_some, if_pos (by rw [from_size]; omega)]
theorem loopO_close {p : ByteArray} {n m a : Nat} {u : List Bool} (h : a < p.size) (hb : bt p a = 41) : loopO p n (m + 1) a u = some ((a : Int) + 1, u) := by
  rw [loopO, kidsP_stop (.inr (by rw [bt_from p a h]; exact hb)), Option.bind_some]
  show (marks u []).bind _ = _
  rw [marks, Option.bind_some, if_neg (by rw [from_size]; omega)]
  show some ((p.size : Int) - (from_ p a).size + 1, u) = _
  rw [from_size, show (p.size : Int) - ((p.size - a : Nat) : Int) + 1 = (a : Int) + 1 by omega]
theorem loopO_kid {p : ByteArray} {n m a : Nat} {u : List Bool} (h : a < p.size) (hb : bt p a ≠ 41) : loopO p n (m + 1) a u = (endO p n a u).bind fun y => loopO p n m y.1.toNat y.2 := by
  rw [loopO, kidsP_cons (by rw [from_size, bt_from p a h]; omega), endO]
  cases hx : parse n (from_ p a) with
  | none => rfl
  | some x =>
    obtain ⟨b, e, hb1, hb2⟩ := parse_from p n a x (by omega) hx
    rw [Option.bind_some, Option.bind_some]
    cases hm : marks u (letL n x.1) with
    | none =>
      rw [Option.map_none, Option.bind_none]
      cases kidsP (parse n) m x.2 [] with
      | none => rfl
      | some z =>
        rw [Option.map_some, Option.bind_some]
        show (marks u ((x.1 :: z.1).flatMap (letL n))).bind _ = _
        rw [List.flatMap_cons, marks_append, hm]; rfl
    | some v =>
      rw [Option.map_some, Option.bind_some]
      show _ = loopO p n m ((p.size : Int) - x.2.size).toNat v
      rw [e, from_size, show ((p.size : Int) - ((p.size - b : Nat) : Int)).toNat = b by omega, loopO]
      cases kidsP (parse n) m (from_ p b) [] with
      | none => rfl
      | some z =>
        rw [Option.map_some, Option.bind_some, Option.bind_some]
        show (marks u ((x.1 :: z.1).flatMap (letL n))).bind _ = _
        rw [List.flatMap_cons, marks_append, hm, Option.bind_some]
def Out (o : Option (Int × List Bool)) (r : Int × List Bool) : Prop := ∀ y, (o = some y → r = y) ∧ (o = none → r.1 = -1)
theorem Out.none_ {u : List Bool} : Out none (-1, u) := fun y => ⟨fun h => (by cases h), fun _ => rfl⟩
theorem Out.some_ {y : Int × List Bool} : Out (some y) y := fun z => ⟨fun h => (by obtain rfl := Option.some.inj h; rfl), fun h => (by cases h)⟩
theorem Out.get {y r : Int × List Bool} {o : Option (Int × List Bool)} (h : Out o r) (e : o = some y) : r = y := (h y).1 e
theorem Out.neg {r : Int × List Bool} {o : Option (Int × List Bool)} (h : Out o r) (e : o = none) : r.1 = -1 := (h r).2 e
theorem endO_some {p : ByteArray} {n a : Nat} {u : List Bool} {y : Int × List Bool} (ha : a ≤ p.size) (hu : u.length = 8) (h : endO p n a u = some y) : (a : Int) < y.1 ∧ y.1 ≤ p.size ∧ y.2.length = 8 := by
  obtain ⟨x, h1, h2⟩ := Option.bind_eq_some_iff.1 h
  obtain ⟨v, h3, rfl⟩ := Option.map_eq_some_iff.1 h2
  obtain ⟨b, e, hb1, hb2⟩ := parse_from p n a x ha h1
  refine ⟨?_, ?_, by rw [marks_length _ _ _ h3]; exact hu⟩
  · show (a : Int) < (p.size : Int) - x.2.size
    rw [e, from_size]; omega
  · show (p.size : Int) - x.2.size ≤ _
    omega
theorem end_ev (p : ByteArray) (hp : p.size ≤ 1048576) : ∀ (n a : Nat) (u : List Bool), u.length = 8 → a ≤ p.size → p.size - a < n → ∃ r, Ev (fun k => spec_l04End.f k p (a : Int) u) r ∧ Out (endO p n a u) r
  | 0, a, u, _, _, h => by omega
  | n + 1, a, u, hu, ha, hn => by
    have loop : ∀ (m a : Nat) (u : List Bool), u.length = 8 → a ≤ p.size → p.size - a < m → p.size - a < n → ∃ r, Ev (fun k => spec_l04End.l0 k p (a : Int) u) r ∧ Out (loopO p n m a u) r := by
      intro m
      induction m with
      | zero => intro a u _ _ h; omega
      | succ m ih =>
        intro a u hu ha hm hn
        by_cases h0 : p.size ≤ a
        · refine ⟨(-1, u), ?_, by rw [loopO_end h0]; exact Out.none_⟩
          refine Ev.step (fun k => by first | rw [spec_l04End.f] | rw [spec_l04End.l0] | rw [spec_l04End.j0] | rw [spec_l04End.j2]) (ev_neg (by omega) ?_)
          refine Ev.step (fun k => by first | rw [spec_l04End.f] | rw [spec_l04End.l0] | rw [spec_l04End.j0] | rw [spec_l04End.j2]) (ev_neg (by decide) (ev_pos (by omega) (ev_now rfl)))
        · by_cases hb : bt p a = 41
          · refine ⟨((a : Int) + 1, u), ?_, by rw [loopO_close (by omega) hb]; exact Out.some_⟩
            refine Ev.step (fun k => by first | rw [spec_l04End.f] | rw [spec_l04End.l0] | rw [spec_l04End.j0] | rw [spec_l04End.j2]) (ev_pos (by omega) (ev_pos (by omega) ?_))
            have hq : (bt p a != 41) = false := bne_eq_false_iff_eq.2 hb
            rw [hq]
            refine Ev.step (fun k => by first | rw [spec_l04End.f] | rw [spec_l04End.l0] | rw [spec_l04End.j0] | rw [spec_l04End.j2]) (ev_neg (by decide) (ev_neg (by omega) (ev_now ?_)))
            rw [w64 (by omega) (by omega)]
          · obtain ⟨r, h1, h2⟩ := end_ev p hp n a u hu ha hn
            have hq : (bt p a != 41) = true := bne_iff_ne.2 hb
            cases hx : endO p n a u with
            | none =>
              have hr := h2.neg hx
              refine ⟨(-1, r.2), ?_, by rw [loopO_kid (by omega) hb, hx]; exact Out.none_⟩
              refine Ev.step (fun k => by first | rw [spec_l04End.f] | rw [spec_l04End.l0] | rw [spec_l04End.j0] | rw [spec_l04End.j2]) (ev_pos (by omega) (ev_pos (by omega) ?_))
              rw [hq]
              exact Ev.step (fun k => by first | rw [spec_l04End.f] | rw [spec_l04End.l0] | rw [spec_l04End.j0] | rw [spec_l04End.j2]) (ev_pos rfl (Ev.bind h1 (ev_pos (show r.1 < 0 by omega) (ev_now rfl))))
            | some y =>
              obtain rfl := h2.get hx
              obtain ⟨hy1, hy2, hy3⟩ := endO_some ha hu hx
              obtain ⟨r2, h3, h4⟩ := ih r.1.toNat r.2 hy3 (by omega) (by omega) (by omega)
              refine ⟨r2, ?_, by rw [loopO_kid (by omega) hb, hx]; exact h4⟩
              refine Ev.step (fun k => by first | rw [spec_l04End.f] | rw [spec_l04End.l0] | rw [spec_l04End.j0] | rw [spec_l04End.j2]) (ev_pos (by omega) (ev_pos (by omega) ?_))
              rw [hq]
              refine Ev.step (fun k => by first | rw [spec_l04End.f] | rw [spec_l04End.l0] | rw [spec_l04End.j0] | rw [spec_l04End.j2]) (ev_pos rfl (Ev.bind h1 (ev_neg (show ¬ r.1 < 0 by omega) ?_)))
              rw [show ((r.1.toNat : Nat) : Int) = r.1 by omega] at h3
              exact h3
    by_cases h0 : p.size ≤ a
    · exact ⟨(-1, u), Ev.step (fun k => by first | rw [spec_l04End.f] | rw [spec_l04End.l0] | rw [spec_l04End.j0] | rw [spec_l04End.j2]) (ev_pos (by omega) (ev_now rfl)), by rw [endO_end h0]; exact Out.none_⟩
    · by_cases hb : 97 ≤ bt p a ∧ bt p a ≤ 104
      · have hd : decide (bt p a ≤ 104) = true := decide_eq_true hb.2
        have hi : (bt p a - 97) % 256 = bt p a - 97 := by omega
        by_cases hm : u.getD (bt p a - 97).toNat false = true
        · refine ⟨(-1, u), ?_, by rw [endO_letter (by omega) hb, mark1, if_pos hm]; exact Out.none_⟩
          refine Ev.step (fun k => by first | rw [spec_l04End.f] | rw [spec_l04End.l0] | rw [spec_l04End.j0] | rw [spec_l04End.j2]) (ev_neg (by omega) (ev_pos (by omega) (ev_pos (by omega) (ev_pos (by omega) ?_))))
          rw [hd]
          refine Ev.step (fun k => by first | rw [spec_l04End.f] | rw [spec_l04End.l0] | rw [spec_l04End.j0] | rw [spec_l04End.j2]) (ev_pos rfl ?_)
          rw [hi]
          exact ev_pos (by omega) (ev_pos (by omega) (ev_pos hm (ev_now rfl)))
        · refine ⟨((a : Int) + 1, u.set (bt p a - 97).toNat true), ?_, by rw [endO_letter (by omega) hb, mark1, if_neg hm]; exact Out.some_⟩
          refine Ev.step (fun k => by first | rw [spec_l04End.f] | rw [spec_l04End.l0] | rw [spec_l04End.j0] | rw [spec_l04End.j2]) (ev_neg (by omega) (ev_pos (by omega) (ev_pos (by omega) (ev_pos (by omega) ?_))))
          rw [hd]
          refine Ev.step (fun k => by first | rw [spec_l04End.f] | rw [spec_l04End.l0] | rw [spec_l04End.j0] | rw [spec_l04End.j2]) (ev_pos rfl ?_)
          rw [hi]
          refine ev_pos (by omega) (ev_pos (by omega) (ev_neg hm (ev_now ?_)))
          rw [w64 (by omega) (by omega)]
      · have go : ∃ r, Ev (fun k => spec_l04End.j0 k p (a : Int) u (bt p a) false) r ∧ Out (endO p (n + 1) a u) r := by
          by_cases h40 : bt p a = 40
          · obtain ⟨r, h1, h2⟩ := loop (n + 1) (a + 1) u hu (by omega) (by omega) (by omega)
            refine ⟨r, ?_, by rw [endO_node (by omega) h40]; exact h2⟩
            refine Ev.step (fun k => by first | rw [spec_l04End.f] | rw [spec_l04End.l0] | rw [spec_l04End.j0] | rw [spec_l04End.j2]) (ev_neg (by decide) (ev_pos (by omega) (ev_pos (by omega) (ev_pos h40 ?_))))
            rw [w64 (by omega) (by omega)]
            exact h1
          · exact ⟨(-1, u), Ev.step (fun k => by first | rw [spec_l04End.f] | rw [spec_l04End.l0] | rw [spec_l04End.j0] | rw [spec_l04End.j2]) (ev_neg (by decide) (ev_pos (by omega) (ev_pos (by omega) (ev_neg h40 (ev_now rfl))))), by rw [endO_bad (by omega) hb h40]; exact Out.none_⟩
        obtain ⟨r, h1, h2⟩ := go
        refine ⟨r, ?_, h2⟩
        refine Ev.step (fun k => by first | rw [spec_l04End.f] | rw [spec_l04End.l0] | rw [spec_l04End.j0] | rw [spec_l04End.j2]) (ev_neg (by omega) (ev_pos (by omega) (ev_pos (by omega) ?_)))
        by_cases h97 : bt p a ≥ 97
        · refine ev_pos h97 ?_
          rw [decide_eq_false (fun h => hb ⟨h97, h⟩)]
          exact h1
        · exact ev_neg h97 h1
theorem endO_whole {p : ByteArray} (hp : p.size ≤ 60) (h0 : 0 < p.size) : (∃ y, endO p 61 0 (List.replicate 8 false) = some y ∧ y.1 = p.size) ↔ isP p = true := by
  rw [isP, toP, whole, if_neg (by omega), endO, from_zero]
  cases hx : parse 61 p with
  | none => simp
  | some x =>
    rw [Option.bind_some, Option.bind_some]
    have hg := (parse_good 61 p x hx).1
    have hm := marks_some (letL 61 x.1) (List.replicate 8 false) rfl (letL_range 61 x.1 hg)
    have hrep : ∀ i, (List.replicate 8 false).getD i false = false := by
      intro i; rw [List.getD_eq_getElem?_getD, List.getElem?_replicate]; split <;> rfl
    by_cases hs : x.2.size = 0
    · rw [if_pos hs, Option.bind_some, letters_eq 61 x.1 hg]
      by_cases hN : (letL 61 x.1).Nodup
      · rw [if_pos hN]
        have := hm.2 ⟨hN, fun c _ => hrep _⟩
        obtain ⟨v, hv⟩ := Option.isSome_iff_exists.1 this
        refine ⟨fun _ => rfl, fun _ => ⟨_, by rw [hv]; rfl, ?_⟩⟩
        show (p.size : Int) - x.2.size = _
        omega
      · rw [if_neg hN]
        refine ⟨?_, fun h => by cases h⟩
        rintro ⟨y, h1, _⟩
        obtain ⟨v, hv, _⟩ := Option.map_eq_some_iff.1 h1
        exact absurd (hm.1 (by rw [hv]; rfl)).1 hN
    · rw [if_neg hs, Option.bind_none]
      refine ⟨?_, fun h => by cases h⟩
      rintro ⟨y, h1, h2⟩
      obtain ⟨v, hv, rfl⟩ := Option.map_eq_some_iff.1 h1
      have h2 : (p.size : Int) - x.2.size = p.size := h2
      omega
theorem l04Is_ev (p : ByteArray) (hp : p.size ≤ 1048576) : Ev (fun k => spec_l04Is.f k p) (isP p) := by
  by_cases h0 : p.size = 0
  · have : isP p = false := by
      rw [isP, toP, whole, if_neg (by omega), parse, if_pos h0]; rfl
    rw [this]
    exact ev_neg (by omega) (ev_now rfl)
  · by_cases h60 : p.size ≤ 60
    · obtain ⟨r, h1, h2⟩ := end_ev p hp 61 0 (List.replicate 8 false) rfl (by omega) (by omega)
      refine ev_pos (by omega) (ev_pos (by omega) (ev_pos (by decide) (Ev.bind h1 (ev_now ?_))))
      have hw := endO_whole h60 (by omega)
      cases hx : endO p 61 0 (List.replicate 8 false) with
      | none =>
        have hr := h2.neg hx
        have : isP p = false := by
          rw [← Bool.not_eq_true, ← hw]
          rintro ⟨y, h, _⟩; rw [hx] at h; cases h
        rw [this]
        exact beq_eq_false_iff_ne.2 (by omega)
      | some y =>
        obtain rfl := h2.get hx
        by_cases hr : r.1 = p.size
        · rw [hw.1 ⟨r, hx, hr⟩, hr]; simp
        · have : isP p = false := by
            rw [← Bool.not_eq_true, ← hw]
            rintro ⟨y, h, hy⟩; rw [hx] at h; obtain rfl := Option.some.inj h; exact hr hy
          rw [this]
          exact beq_eq_false_iff_ne.2 hr
    · have : isP p = false := by
        rw [isP, toP, whole, if_pos (by omega)]; rfl
      rw [this]
      exact ev_pos (by omega) (ev_neg (by omega) (ev_now rfl))
end Go.Proofs.Ytmambanmffdibaa.PT
namespace Go.Proofs.Ytmambanmffdibaa.PT
set_option linter.unusedVariables false
set_option linter.unusedSectionVars false
open Go.RowKit Go.Proofs.YtmambanmffdibaaW.PrintWords Go.Proofs.Ytmambanmffdibaa.Base Go.Proofs.Ytmambanmffdibaa.Tree Go.Proofs.Ytmambanmffdibaa.P Go.Proofs.Ytmambanmffdibaa.E
theorem kfM_nat (d : List Int) (v : Nat) : kfM d (v : Int) = castL (kidsM d v) := by rw [kfM, Int.toNat_natCast]
theorem ofL_append (a b : List Int) : ofL (a ++ b) = ofL a ++ ofL b := by
  apply ByteArray.ext
  simp [ofL, ByteArray.data_append]
theorem ofL_size (a : List Int) : (ofL a).size = a.length := by simp [ofL, ByteArray.size]
theorem bytesL_ofL {l : List Int} (h : ∀ c ∈ l, 0 ≤ c ∧ c < 256) : bytesL (ofL l) = l := by
  simp only [bytesL, ofL, List.map_map]
  conv => rhs; rw [← List.map_id l]
  apply List.map_congr_left
  intro c hc
  have := h c hc
  simp only [Function.comp, id, UInt8.toNat_ofNat']
  omega
theorem tx_range : ∀ (n : Nat) (p : Pat), goodP n p → ∀ c ∈ tx n p, 0 ≤ c ∧ c < 256
  | 0, p, h, _, _ => h.elim
  | n + 1, p, h, c, hc => by
    rw [tx] at hc
    split at hc
    · rcases List.mem_cons.1 hc with rfl | hc
      · omega
      · rcases List.mem_append.1 hc with hc | hc
        · obtain ⟨k, hk, hc⟩ := List.mem_flatMap.1 hc
          exact tx_range n k (h.2 k hk) c hc
        · rw [List.mem_singleton.1 hc]; omega
    · rename_i hz
      rw [List.mem_singleton.1 hc]
      rcases h.1 with h1 | h1
      · exact absurd h1 hz
      · omega
section
variable {d : List Int} (h : IsT d)
include h
theorem tx_tree (n v : Nat) : tx (n + 1) (ofT (kfM d) (n + 1) (v : Int)) = 40 :: ((kidsM d v).flatMap (fun c => tx n (ofT (kfM d) n ((c : Nat) : Int))) ++ [41]) := by
  rw [tx, if_pos (show (ofT (kfM d) (n + 1) (v : Int)).letter = 0 from rfl)]
  show 40 :: (((kfM d (v : Int)).map (ofT (kfM d) n)).flatMap (tx n) ++ [41]) = _
  rw [kfM_nat, castL, List.map_map, List.flatMap_map]
  rfl
theorem tx_tree_len : ∀ (n v : Nat), v < d.length → d.length - v ≤ n → (tx n (ofT (kfM d) n (v : Int))).length = 2 * (endM d v - v)
  | 0, v, hv, hn => by omega
  | n + 1, v, hv, hn => by
    rw [tx_tree h, List.length_cons, List.length_append, List.length_flatMap]
    have e : (kidsM d v).map (fun c => (tx n (ofT (kfM d) n ((c : Nat) : Int))).length) = (kidsM d v).map fun x => 2 * (endM d x - x) := by
      apply List.map_congr_left
      intro c hc
      have := kid_mem h hv hc
      exact tx_tree_len n c this.2.1 (by omega)
    rw [e, kidsM, run_sum h (run_kids h hv)]
    have := run_bd h (run_kids h hv)
    have := end_gt h hv
    simp only [List.length_cons, List.length_nil]
    omega
end
theorem flat_take_le {α β : Type} (f : α → List β) (l : List α) (j : Nat) (hj : j < l.length) : ((l.take j).flatMap f).length + (f l[j]).length ≤ (l.flatMap f).length := by
  have h1 := List.take_append_drop (j + 1) l
  have h2 : l.flatMap f = (l.take (j + 1)).flatMap f ++ (l.drop (j + 1)).flatMap f := by rw [← List.flatMap_append, h1]
  rw [h2, List.take_add_one, List.getElem?_eq_getElem hj, List.flatMap_append, List.length_append, List.length_append]
  show _ ≤ _ + ([l[j]].flatMap f).length + _
  rw [List.flatMap_cons, List.flatMap_nil, List.append_nil]
  omega
section
variable {d : List Int} (h : IsT d) (hn : d.length ≤ 24)
include h hn
theorem text_ev : ∀ (n v : Nat), v < d.length → d.length - v ≤ n → Ev (fun k => spec_l01Text.f k (sub d v)) (ofL (tx n (ofT (kfM d) n (v : Int))))
  | 0, v, hv, hm => by omega
  | n + 1, v, hv, hm => by
    have hg := end_gt h hv
    have hle := end_le h hv
    have hsl := sub_length h hv
    have hs := sub_tree h hv
    have hsk := sub_kids h hv (i := 0) (by omega)
    rw [Nat.add_zero] at hsk
    have htl := tx_tree_len h (n + 1) v hv hm
    rw [tx_tree h, List.length_cons, List.length_append] at htl
    rw [tx_tree h]
    have hc0 : Ev (fun k => spec_l01Children.f k (sub d v) 0) (castL (kidsM (sub d v) 0)) := spec_l01Children_ev hs (by omega) (v := 0) (by omega)
    refine Ev.step (fun k => by rw [spec_l01Text.f]) (Ev.bind hc0 ?_)
    have loop : ∀ (m j : Nat), j + m = (kidsM d v).length → Ev (fun k => spec_l01Text.l0 k (ofL (40 :: ((kidsM d v).take j).flatMap fun c => tx n (ofT (kfM d) n ((c : Nat) : Int)))) (castL (kidsM (sub d v) 0)) (j : Int) (sub d v)) (ofL (40 :: ((kidsM d v).flatMap (fun c => tx n (ofT (kfM d) n ((c : Nat) : Int))) ++ [41]))) := by
      have hcl : (castL (kidsM (sub d v) 0)).length = (kidsM d v).length := by rw [castL_length, hsk, List.length_map]
      have hkf := kids_few h hv
      intro m
      induction m with
      | zero =>
        intro j hj
        refine Ev.step (fun k => by rw [spec_l01Text.l0]) (ev_neg (by omega) (ev_pos ?_ (ev_now ?_)))
        · rw [ofL_size, List.length_cons, List.take_of_length_le (by omega)]; omega
        · rw [List.take_of_length_le (by omega), ← List.cons_append, ofL_append]; rfl
      | succ m ih =>
        intro j hj
        have hjl : j < (kidsM d v).length := by omega
        have hkm := kid_mem h hv (List.getElem_mem hjl)
        have hrd : rd (castL (kidsM (sub d v) 0)) (j : Int) = (((kidsM d v)[j] - v : Nat) : Int) := by
          rw [rd_nat, castL_getD _ _ (by rw [hsk, List.length_map]; exact hjl)]
          simp only [hsk, List.getElem_map]
        have hss : sub (sub d v) ((kidsM d v)[j] - v) = sub d (kidsM d v)[j] := by
          rw [sub_sub h hv (by omega), show v + ((kidsM d v)[j] - v) = (kidsM d v)[j] by omega]
        have hsub : Ev (fun k => spec_l01Subtree.f k (sub d v) (((kidsM d v)[j] - v : Nat) : Int)) (sub d (kidsM d v)[j]) := by
          have h1 := end_gt hs (v := (kidsM d v)[j] - v) (by omega)
          have h2 := end_le hs (v := (kidsM d v)[j] - v) (by omega)
          unfold spec_l01Subtree.f
          refine Ev.bind (spec_l01End_ev hs (by omega) (v := (kidsM d v)[j] - v) (by omega)) (ev_pos (by omega) (ev_pos (by omega) (ev_pos (by omega) ?_)))
          rw [Int.toNat_natCast, Int.toNat_natCast]
          have e : spec_l01Make.f (((sub d v).take (endM (sub d v) ((kidsM d v)[j] - v))).drop ((kidsM d v)[j] - v)) = some (sub d (kidsM d v)[j]) := by
            rw [← hss]
            unfold spec_l01Make.f spec_l01Own.f
            simp only [Option.bind_some, List.nil_append, List.length_nil]
            rw [if_pos (by rw [List.length_drop, List.length_take]; omega)]
            rfl
          rw [e]
          exact ev_now rfl
        have hfl := flat_take_le (fun c => tx n (ofT (kfM d) n ((c : Nat) : Int))) (kidsM d v) j hjl
        refine Ev.step (fun k => by rw [spec_l01Text.l0]) (ev_pos (by omega) (ev_pos (by omega) ?_))
        rw [hrd]
        refine Ev.bind hsub (Ev.bind (text_ev n (kidsM d v)[j] hkm.2.1 (by omega)) (ev_pos ?_ ?_))
        · rw [ofL_size, ofL_size, List.length_cons]; omega
        · rw [← ofL_append, w64s (by omega)]
          have := ih (j + 1) (by omega)
          rw [List.take_add_one, List.getElem?_eq_getElem hjl, List.flatMap_append] at this
          simpa using this
    have := loop (kidsM d v).length 0 (by omega)
    have e : ofL (40 :: ((kidsM d v).take 0).flatMap fun c => tx n (ofT (kfM d) n ((c : Nat) : Int))) = ⟨#[40]⟩ := rfl
    rw [e] at this
    exact this
def textM (d : List Int) (v : Nat) : ByteArray := ofL (tx 24 (treeP d (v : Int)))
theorem text_at {v : Nat} (hv : v < d.length) : Ev (fun k => spec_l01Text.f k (sub d v)) (textM d v) := text_ev h hn 24 v hv (by omega)
end
end Go.Proofs.Ytmambanmffdibaa.PT
namespace Go.Proofs.Ytmambanmffdibaa.PT
set_option linter.unusedVariables false
set_option linter.unusedSectionVars false
open Go.RowKit Go.Proofs.YtmambanmffdibaaW.PrintWords Go.Proofs.Ytmambanmffdibaa.Base Go.Proofs.Ytmambanmffdibaa.Tree Go.Proofs.Ytmambanmffdibaa.P Go.Proofs.Ytmambanmffdibaa.E
def isLet (c : Int) : Bool := decide (c ≠ 40) && decide (c ≠ 41)
theorem let_filter : ∀ (n : Nat) (p : Pat), goodP n p → (tx n p).filter isLet = letL n p
  | 0, p, h => h.elim
  | n + 1, p, h => by
    rw [tx, letL]
    by_cases hz : p.letter = 0
    · rw [if_pos hz, if_pos hz, List.filter_cons_of_neg (by decide), List.filter_append]
      have key : ∀ l : List Pat, (∀ k ∈ l, goodP n k) → (l.flatMap (tx n)).filter isLet = l.flatMap (letL n) := by
        intro l
        induction l with
        | nil => intro _; rfl
        | cons k l ih =>
          intro hl
          rw [List.flatMap_cons, List.flatMap_cons, List.filter_append, let_filter n k (hl k List.mem_cons_self), ih (fun x hx => hl x (List.mem_cons_of_mem _ hx))]
      rw [key p.kids h.2]
      have : ([41] : List Int).filter isLet = [] := by decide
      rw [this, List.append_nil]
    · rw [if_neg hz, if_neg hz]
      rcases h.1 with h1 | h1
      · exact absurd h1 hz
      · rw [List.filter_cons_of_pos (by simp [isLet]; omega)]; rfl
theorem letters_ev (s : ByteArray) (hs : s.size ≤ 1048576) : Ev (fun k => spec_l04Letters.f k s) ((((bytesL s).filter isLet).length : Nat) : Int) := by
  have loop : ∀ (post pre : List Int), bytesL s = pre ++ post → Ev (fun k => spec_l04Letters.l0 k s (((pre.filter isLet).length : Nat) : Int) (pre.length : Int)) ((((bytesL s).filter isLet).length : Nat) : Int) := by
    intro post
    induction post with
    | nil =>
      intro pre hb
      have := size_list hb
      rw [List.append_nil] at hb this
      refine Ev.step (fun k => by rw [spec_l04Letters.l0]) ?_
      exact ev_neg (by omega) (ev_now (by rw [hb]))
    | cons c post ih =>
      intro pre hb
      have hsz := size_list hb
      have hbt := bt_list hb
      rw [List.length_append, List.length_cons] at hsz
      have hih := ih (pre ++ [c]) (by rw [hb]; simp)
      rw [List.length_append, List.filter_append, List.length_append] at hih
      have hfl : (pre.filter isLet).length ≤ pre.length := List.length_filter_le _ _
      refine Ev.step (fun k => by rw [spec_l04Letters.l0]) ?_
      refine ev_pos (by omega) (ev_pos (by omega) ?_)
      rw [w64 (x := (pre.length : Int) + 1) (by omega) (by omega)]
      by_cases h40 : c = 40
      · subst h40
        refine ev_pos hbt ?_
        exact hih
      · refine ev_neg (by omega) ?_
        by_cases h41 : c = 41
        · subst h41
          exact ev_pos hbt hih
        · refine ev_neg (by omega) ?_
          rw [List.filter_cons_of_pos (by simp [isLet, h40, h41])] at hih
          rw [w64 (by omega) (by omega)]
          exact hih
  have := loop (bytesL s) [] rfl
  unfold spec_l04Letters.f
  exact this
theorem fillF_at {L : List Int} {ts : List S31} (hN : L.Nodup) : ∀ (m j : Nat), j < m → m ≤ L.length → fillF L ts m (L.getD j 0) = some (treeP (ts.getD j z31).f0 0)
  | 0, j, h, _ => by omega
  | m + 1, j, h, hm => by
    show (if L.getD j 0 = L.getD m 0 then some (treeP (ts.getD m z31).f0 0) else fillF L ts m (L.getD j 0)) = _
    by_cases e : j = m
    · subst e; rw [if_pos rfl]
    · rw [if_neg, fillF_at hN m j (by omega) (by omega)]
      intro h2
      rw [List.getD_eq_getElem?_getD, List.getElem?_eq_getElem (by omega), List.getD_eq_getElem?_getD, List.getElem?_eq_getElem (by omega)] at h2
      rw [List.nodup_iff_pairwise_ne, List.pairwise_iff_getElem] at hN
      exact hN j m (by omega) (by omega) (by omega) h2
theorem treeP_noL {d : List Int} (h : isTreeM d = true) : noL 24 (treeP d 0) := by
  obtain ⟨hT, hn⟩ := isTreeM_sound h
  have key : ∀ (n v : Nat), v < d.length → d.length - v ≤ n → noL n (ofT (kfM d) n (v : Int)) := by
    intro n
    induction n with
    | zero => intro v hv hm; omega
    | succ n ih =>
      intro v hv hm
      refine ⟨rfl, fun k hk => ?_⟩
      rw [ofT, kfM_nat] at hk
      obtain ⟨c, hc, rfl⟩ := List.mem_map.1 hk
      obtain ⟨x, hx, rfl⟩ := List.mem_map.1 hc
      have := kid_mem hT hv hx
      exact ih x this.2.1 (by omega)
  exact key 24 0 hT.len (by omega)
theorem fill_noL {F : Int → Option Pat} (hF : ∀ c q, F c = some q → noL 24 q) : ∀ (n : Nat) (p : Pat), toldP n F p → noL (n + 24) (fillN n 24 F p)
  | 0, p, h => h.elim
  | n + 1, p, h => by
    rw [fillN]
    by_cases hz : p.letter = 0
    · rw [if_pos hz, show n + 1 + 24 = (n + 24) + 1 by omega]
      refine ⟨rfl, fun k hk => ?_⟩
      obtain ⟨x, hx, rfl⟩ := List.mem_map.1 hk
      exact fill_noL hF n x (h.2.1 x hx)
    · rw [if_neg hz]
      obtain ⟨q, hq⟩ := Option.isSome_iff_exists.1 (h.1 hz)
      rw [hq]
      exact noL_up 24 _ q (by omega) (hF _ _ hq)
theorem fill_tx {F : Int → Option Pat} (n : Nat) {p : Pat} (hz : p.letter = 0) : tx (n + 1 + 24) (fillN (n + 1) 24 F p) = 40 :: (p.kids.flatMap (fun k => tx (n + 24) (fillN n 24 F k)) ++ [41]) := by
  rw [fillN, if_pos hz, show n + 1 + 24 = (n + 24) + 1 by omega, tx, if_pos (show (Pat.mk 0 (p.kids.map (fillN n 24 F))).letter = 0 from rfl)]
  show 40 :: ((p.kids.map (fillN n 24 F)).flatMap (tx (n + 24)) ++ [41]) = _
  rw [List.flatMap_map]
section
variable {P : ByteArray} (hP : P.size ≤ 60) {L : List Int} {ts : List S31} {tt : List ByteArray} {F : Int → Option Pat}
include hP
theorem fill_bracket {out : ByteArray} {j i : Nat} {c : Int} {res : ByteArray} (hi : i < P.size) (hc : c = 40 ∨ c = 41) (hb : bt P i = c) (hbl : (bytesL P)[i]? = some c) (ho : out.size ≤ 48 * i) (h : Ev (fun k => spec_l04Fill.l0 k P tt (out ++ ofL [c]) (j : Int) ((i + 1 : Nat) : Int)) res) : Ev (fun k => spec_l04Fill.l0 k P tt out (j : Int) (i : Int)) res := by
  have hex : P.extract i (i + 1) = ofL [c] := by
    rw [← ofL_bytesL (P.extract i (i + 1)), bytesL_extract]
    congr 1
    obtain ⟨hl, he⟩ := List.getElem?_eq_some_iff.1 hbl
    rw [List.drop_eq_getElem_cons hl, he, show i + 1 - i = 1 by omega]; rfl
  have hw : wrap64 ((i : Int) + 1) = ((i + 1 : Nat) : Int) := w64s (by omega)
  have hsz : (P.extract i (i + 1)).size = 1 := by rw [hex, ofL_size]; rfl
  refine Ev.step (fun k => by rw [spec_l04Fill.l0]) ?_
  refine ev_pos (by omega) (ev_pos (by omega) ?_)
  rw [hw, Int.toNat_natCast, Int.toNat_natCast]
  have go : Ev (fun k => if (i : Int) ≤ ((i + 1 : Nat) : Int) then (if ((i + 1 : Nat) : Int) ≤ (P.size : Int) then (if out.size + (P.extract i (i + 1)).size ≤ 9223372036854775807 then spec_l04Fill.l0 k P tt (out ++ P.extract i (i + 1)) (j : Int) ((i + 1 : Nat) : Int) else none) else none) else none) res := by
    refine ev_pos (by omega) (ev_pos (by omega) (ev_pos (by omega) ?_))
    rw [hex]
    exact h
  rcases hc with rfl | rfl
  · exact ev_pos hb go
  · exact ev_neg (by omega) (ev_pos hb go)
theorem fill_go (hLn : L.length ≤ 1048576) (hF : ∀ c q, F c = some q → noL 24 q ∧ (tx 24 q).length ≤ 48) (hL : ∀ j, j < L.length → ∃ q, F (L.getD j 0) = some q ∧ tt[j]? = some (ofL (tx 24 q))) : ∀ (n : Nat) (p : Pat) (pre post l1 l2 : List Int) (out res : ByteArray), goodP n p → bytesL P = pre ++ (tx n p ++ post) → L = l1 ++ (letL n p ++ l2) → out.size ≤ 48 * pre.length →
    (tx (n + 24) (fillN n 24 F p)).length ≤ 48 * (tx n p).length ∧ (Ev (fun k => spec_l04Fill.l0 k P tt (out ++ ofL (tx (n + 24) (fillN n 24 F p))) ((l1 ++ letL n p).length : Int) ((pre ++ tx n p).length : Int)) res → Ev (fun k => spec_l04Fill.l0 k P tt out (l1.length : Int) (pre.length : Int)) res)
  | 0, p, pre, post, l1, l2, out, res, h, _, _, _ => h.elim
  | n + 1, p, pre, post, l1, l2, out, res, hg, hb, hl, ho => by
    have hsz := size_list hb
    by_cases hz : p.letter = 0
    · have htx : tx (n + 1) p = 40 :: (p.kids.flatMap (tx n) ++ [41]) := by rw [tx, if_pos hz]
      have hle : letL (n + 1) p = p.kids.flatMap (letL n) := by rw [letL, if_pos hz]
      rw [htx] at hb hsz ⊢
      rw [hle] at hl ⊢
      rw [fill_tx n hz]
      have kids : ∀ (l : List Pat) (pr po l1 l2 : List Int) (out res : ByteArray), (∀ k ∈ l, goodP n k) → bytesL P = pr ++ (l.flatMap (tx n) ++ po) → L = l1 ++ (l.flatMap (letL n) ++ l2) → out.size ≤ 48 * pr.length →
          (l.flatMap (fun k => tx (n + 24) (fillN n 24 F k))).length ≤ 48 * (l.flatMap (tx n)).length ∧ (Ev (fun k => spec_l04Fill.l0 k P tt (out ++ ofL (l.flatMap (fun k => tx (n + 24) (fillN n 24 F k)))) ((l1 ++ l.flatMap (letL n)).length : Int) ((pr ++ l.flatMap (tx n)).length : Int)) res → Ev (fun k => spec_l04Fill.l0 k P tt out (l1.length : Int) (pr.length : Int)) res) := by
        intro l
        induction l with
        | nil =>
          intro pr po l1 l2 out res _ _ _ _
          refine ⟨by simp, fun h => ?_⟩
          have e : out ++ ofL (([] : List Pat).flatMap (fun k => tx (n + 24) (fillN n 24 F k))) = out := by
            apply ByteArray.ext; simp [ofL, ByteArray.data_append]
          rw [e] at h
          simpa using h
        | cons a l ih =>
          intro pr po l1 l2 out res hgl hbp hll hop
          rw [List.flatMap_cons, List.append_assoc] at hbp hll
          obtain ⟨i1, i2⟩ := fill_go hLn hF hL n a pr _ l1 _ out res (hgl a List.mem_cons_self) hbp hll hop
          have hopn : (out ++ ofL (tx (n + 24) (fillN n 24 F a))).size ≤ 48 * (pr ++ tx n a).length := by
            rw [ByteArray.size_append, ofL_size, List.length_append]; omega
          obtain ⟨i3, i4⟩ := ih (pr ++ tx n a) po (l1 ++ letL n a) l2 _ res (fun x hx => hgl x (List.mem_cons_of_mem _ hx)) (by rw [hbp]; simp) (by rw [hll]; simp) hopn
          rw [List.flatMap_cons, List.flatMap_cons, List.flatMap_cons, List.length_append, List.length_append]
          refine ⟨by omega, fun h => i2 (i4 ?_)⟩
          rw [ofL_append, ← ByteArray.append_assoc, ← List.append_assoc, ← List.append_assoc] at h
          exact h
      have hlen : pre.length + (1 + ((p.kids.flatMap (tx n)).length + 1)) + post.length = P.size := by rw [hsz]; simp [-List.length_flatMap]; omega
      have hb40 : bt P (pre.length : Int) = 40 := bt_list (post := p.kids.flatMap (tx n) ++ [41] ++ post) (by rw [hb]; simp)
      have ho2 : (out ++ ofL [40]).size ≤ 48 * (pre ++ [40]).length := by
        rw [ByteArray.size_append, ofL_size, List.length_append]; simp; omega
      obtain ⟨k1, k2⟩ := kids p.kids (pre ++ [40]) ([41] ++ post) l1 l2 (out ++ ofL [40]) res hg.2 (by rw [hb]; simp) hl ho2
      refine ⟨by simp [-List.length_flatMap]; omega, fun h => ?_⟩
      refine fill_bracket hP (by omega) (.inl rfl) hb40 (by rw [hb]; simp) ho ?_
      have e1 : ((pre ++ [40]).length : Int) = ((pre.length + 1 : Nat) : Int) := by simp
      rw [e1] at k2
      refine k2 ?_
      have e2 : ((pre ++ [40] ++ p.kids.flatMap (tx n)).length : Int) = ((pre.length + 1 + (p.kids.flatMap (tx n)).length : Nat) : Int) := by simp [-List.length_flatMap]; omega
      rw [e2]
      have hb41 : bt P ((pre.length + 1 + (p.kids.flatMap (tx n)).length : Nat) : Int) = 41 := by
        have := bt_list (s := P) (pre := pre ++ 40 :: p.kids.flatMap (tx n)) (c := 41) (post := post) (by rw [hb]; simp)
        have e : ((pre ++ 40 :: p.kids.flatMap (tx n)).length : Int) = ((pre.length + 1 + (p.kids.flatMap (tx n)).length : Nat) : Int) := by simp [-List.length_flatMap]; omega
        rwa [e] at this
      have hg41 : (bytesL P)[pre.length + 1 + (p.kids.flatMap (tx n)).length]? = some 41 := by
        have e : bytesL P = (pre ++ 40 :: p.kids.flatMap (tx n)) ++ 41 :: post := by rw [hb]; simp
        have e3 : pre.length + 1 + (p.kids.flatMap (tx n)).length = (pre ++ 40 :: p.kids.flatMap (tx n)).length := by simp [-List.length_flatMap]; omega
        rw [e, e3]; simp [-List.length_flatMap]
      refine fill_bracket hP (by omega) (.inr rfl) hb41 hg41 (by rw [ByteArray.size_append, ByteArray.size_append, ofL_size, ofL_size]; simp [-List.length_flatMap]; omega) ?_
      have e5 : ((pre ++ 40 :: (p.kids.flatMap (tx n) ++ [41])).length : Int) = ((pre.length + 1 + (p.kids.flatMap (tx n)).length + 1 : Nat) : Int) := by simp [-List.length_flatMap]; omega
      have e6 : out ++ ofL (40 :: (p.kids.flatMap (fun k => tx (n + 24) (fillN n 24 F k)) ++ [41])) = out ++ ofL [40] ++ ofL (p.kids.flatMap (fun k => tx (n + 24) (fillN n 24 F k))) ++ ofL [41] := by
        rw [show (40 : Int) :: (p.kids.flatMap (fun k => tx (n + 24) (fillN n 24 F k)) ++ [41]) = [40] ++ (p.kids.flatMap (fun k => tx (n + 24) (fillN n 24 F k)) ++ [41]) from rfl, ofL_append, ofL_append, ByteArray.append_assoc, ByteArray.append_assoc]
      rw [e5, e6] at h
      exact h
    · have htx : tx (n + 1) p = [p.letter] := by rw [tx, if_neg hz]
      have hle : letL (n + 1) p = [p.letter] := by rw [letL, if_neg hz]
      have hr : 97 ≤ p.letter ∧ p.letter ≤ 104 := by
        rcases hg.1 with h1 | h1
        · exact absurd h1 hz
        · exact ⟨h1.1, h1.2.1⟩
      rw [htx] at hb hsz ⊢
      rw [hle] at hl ⊢
      have hbc : bt P (pre.length : Int) = p.letter := bt_list (post := post) (by rw [hb]; simp)
      have hll : l1.length < L.length := by rw [hl]; simp
      have hLj : L.getD l1.length 0 = p.letter := by rw [hl, List.getD_eq_getElem?_getD]; simp
      obtain ⟨q, hq, htt⟩ := hL l1.length hll
      rw [hLj] at hq
      obtain ⟨hq1, hq2⟩ := hF _ _ hq
      have hfill : fillN (n + 1) 24 F p = q := by rw [fillN, if_neg hz, hq]; rfl
      have hup := tx_up 24 (n + 1 + 24) q (by omega) hq1
      rw [hfill, hup]
      have hlen : pre.length + 1 + post.length = P.size := by rw [hsz]; simp; omega
      refine ⟨by simp; omega, fun h => ?_⟩
      obtain ⟨htl, hte⟩ := List.getElem?_eq_some_iff.1 htt
      have hrd : rdOf ByteArray.empty tt (l1.length : Int) = ofL (tx 24 q) := by
        show tt.getD (l1.length : Int).toNat ByteArray.empty = _
        rw [Int.toNat_natCast, List.getD_eq_getElem?_getD, htt]; rfl
      refine Ev.step (fun k => by rw [spec_l04Fill.l0]) ?_
      refine ev_pos (by omega) (ev_pos (by omega) (ev_neg (by omega) (ev_neg (by omega) (ev_pos (by omega) (ev_pos (by omega) ?_)))))
      rw [hrd]
      have hl60 : l1.length ≤ 1048576 := by omega
      refine ev_pos (by rw [ofL_size]; omega) ?_
      rw [w64s (by omega), w64s (by omega)]
      have e1 : ((l1 ++ [p.letter]).length : Int) = ((l1.length + 1 : Nat) : Int) := by simp
      have e2 : ((pre ++ [p.letter]).length : Int) = ((pre.length + 1 : Nat) : Int) := by simp
      rw [e1, e2] at h
      exact h
end
def treeTexts (ts : List S31) : List ByteArray := ts.map fun x : S31 => ofL (tx 24 (treeP x.f0 0))
theorem treeTexts_get (ts : List S31) (j : Nat) (hj : j < ts.length) : (treeTexts ts)[j]? = some (ofL (tx 24 (treeP (ts.getD j z31).f0 0))) := by
  rw [treeTexts, List.getElem?_map, List.getElem?_eq_getElem hj, List.getD_eq_getElem?_getD, List.getElem?_eq_getElem hj]; rfl
theorem treeTexts_snoc (ts : List S31) (i : Nat) (hi : i < ts.length) : treeTexts (ts.take (i + 1)) = treeTexts (ts.take i) ++ [ofL (tx 24 (treeP ts[i].f0 0))] := by
  rw [treeTexts, List.take_add_one, List.getElem?_eq_getElem hi, List.map_append]; rfl
theorem treeTexts_length (ts : List S31) : (treeTexts ts).length = ts.length := List.length_map _
theorem is_loop (s : ByteArray) (ts : List S31) (hl : ts.length ≤ 1048576) (hx : ∀ x ∈ ts, x.f0.length ≤ 1048576) {r : List Int × Int} (H : (ts.all fun x => isTreeM x.f0) = true → Ev (fun k => (spec_l04Is.f k s).bind fun t353 => (if t353 = true then ((spec_l04Letters.f k s).bind fun t354 => (if t354 = (ts.length : Int) then (spec_FillPattern.l1 k s ts (([] : List ByteArray)) 0) else (some (([] : List Int), 2)))) else (some (([] : List Int), 6)))) r) (H0 : (ts.all fun x => isTreeM x.f0) = false → r = ([], 1)) :
    ∀ (m i : Nat), i + m = ts.length → (∀ j, j < i → isTreeM (ts.getD j z31).f0 = true) → Ev (fun k => spec_FillPattern.l0 k s ts (i : Int)) r
  | 0, i, hi, hT => by
    refine Ev.step (fun k => by rw [spec_FillPattern.l0]) ?_
    refine ev_neg (by omega) (H (List.all_eq_true.2 fun x hx => ?_))
    obtain ⟨j, hj, rfl⟩ := List.getElem_of_mem hx
    have := hT j (by omega)
    rwa [List.getD_eq_getElem?_getD, List.getElem?_eq_getElem hj] at this
  | m + 1, i, hi, hT => by
    have hil : i < ts.length := by omega
    have he : ts.getD i z31 = ts[i] := by rw [List.getD_eq_getElem?_getD, List.getElem?_eq_getElem hil]; rfl
    refine Ev.step (fun k => by rw [spec_FillPattern.l0]) ?_
    refine ev_pos (by omega) (ev_pos (by omega) ?_)
    have hrd : rd_T31 ts (i : Int) = ts[i] := by
      show ts.getD (i : Int).toNat z31 = _
      rw [Int.toNat_natCast]; exact he
    rw [hrd]
    refine Ev.bind (spec_l01Is_ev ts[i].f0 (hx _ (List.getElem_mem hil))) ?_
    by_cases ht : isTreeM ts[i].f0 = true
    · refine ev_pos ht ?_
      rw [w64s (by omega)]
      refine is_loop s ts hl hx H H0 m (i + 1) (by omega) (fun j hj => ?_)
      by_cases e : j = i
      · subst e; rw [he]; exact ht
      · exact hT j (by omega)
    · refine ev_neg ht (ev_now ?_)
      rw [H0 ?_]
      rw [← Bool.not_eq_true]
      intro h
      exact ht (List.all_eq_true.1 h _ (List.getElem_mem hil))
theorem spec_FillPattern_ev (s : ByteArray) (ts : List S31) (hs : s.size ≤ 1048576) (hl : ts.length ≤ 1048576) (hx : ∀ x ∈ ts, x.f0.length ≤ 1048576) : Ev (fun k => spec_FillPattern.f k s ts) (fillM s ts) := by
  unfold spec_FillPattern.f
  rw [fillM]
  refine is_loop s ts hl hx (fun ht => ?_) (fun ht => by rw [ht]; rfl) ts.length 0 (by omega) (fun j hj => by omega)
  rw [if_pos ht]
  refine Ev.bind (l04Is_ev s hs) ?_
  cases hp : toP s with
  | none => exact ev_neg (by rw [isP, hp]; decide) (ev_now rfl)
  | some p =>
    obtain ⟨hb, hg⟩ := toP_text hp
    have h60 := toP_size hp
    have hlet : (bytesL s).filter isLet = letL 61 p := by rw [hb, let_filter 61 p hg]
    have hLl : (letL 61 p).length ≤ 60 := by
      rw [← hlet]
      have := List.length_filter_le isLet (bytesL s)
      rw [bytesL_length] at this
      omega
    refine ev_pos (by rw [isP, hp]; rfl) (Ev.bind (letters_ev s hs) ?_)
    rw [hlet]
    show Ev _ (if (letL 61 p).length = ts.length then limM (degN 85 (fillN 61 24 (fillF (letL 61 p) ts ts.length) p)) else ([], 2))
    by_cases hlen : (letL 61 p).length = ts.length
    · refine ev_pos (by omega) ?_
      rw [if_pos hlen]
      -- the texts
      have texts : ∀ (m i : Nat), i + m = ts.length → ∀ r, Ev (fun k => spec_FillPattern.l1 k s ts (treeTexts ts) (ts.length : Int)) r → Ev (fun k => spec_FillPattern.l1 k s ts (treeTexts (ts.take i)) (i : Int)) r := by
        intro m
        induction m with
        | zero =>
          intro i hi r h
          rw [List.take_of_length_le (by omega), show i = ts.length by omega]
          exact h
        | succ m ih =>
          intro i hi r h
          have hil : i < ts.length := by omega
          have hti : isTreeM ts[i].f0 = true := List.all_eq_true.1 ht _ (List.getElem_mem hil)
          obtain ⟨hT, hn⟩ := isTreeM_sound hti
          have hrd : rd_T31 ts (i : Int) = ts[i] := by
            show ts.getD (i : Int).toNat z31 = _
            rw [Int.toNat_natCast, List.getD_eq_getElem?_getD, List.getElem?_eq_getElem hil]; rfl
          have htext := text_at hT hn (v := 0) hT.len
          have e : sub ts[i].f0 0 = ts[i].f0 := by rw [sub, end_root hT, List.take_length, List.drop_zero]
          rw [e] at htext
          refine Ev.step (fun k => by rw [spec_FillPattern.l1]) ?_
          refine ev_pos (by omega) (ev_pos (by omega) ?_)
          rw [hrd]
          refine Ev.bind htext (ev_pos (by rw [treeTexts_length, List.length_take]; omega) ?_)
          rw [w64s (by omega)]
          have := ih (i + 1) (by omega) r h
          rw [treeTexts_snoc ts i hil] at this
          exact this
      refine texts ts.length 0 (by omega) _ ?_
      have hN : (letL 61 p).Nodup := by
        obtain ⟨q, hq1, hq2⟩ := Option.bind_eq_some_iff.1 hp
        split at hq2
        · rename_i hN
          obtain rfl := Option.some.inj hq2
          rwa [letters_eq 61 q hg] at hN
        · cases hq2
      have hF : ∀ c q, fillF (letL 61 p) ts ts.length c = some q → noL 24 q ∧ (tx 24 q).length ≤ 48 := by
        intro c q hq
        obtain ⟨t, h1, rfl⟩ := fillF_few ht _ (Nat.le_refl _) c q hq
        have h2 : isTreeM t.f0 = true := List.all_eq_true.1 ht t h1
        have h3 := treeP_noL h2
        refine ⟨h3, ?_⟩
        rw [tx_two 24 _ h3, deg_treeP h2 (Nat.le_refl _)]
        have := (isTreeM_sound h2).2
        omega
      have hL : ∀ j, j < (letL 61 p).length → ∃ q, fillF (letL 61 p) ts ts.length ((letL 61 p).getD j 0) = some q ∧ (treeTexts ts)[j]? = some (ofL (tx 24 q)) := by
        intro j hj
        exact ⟨_, fillF_at hN ts.length j (by omega) (by omega), treeTexts_get ts j (by omega)⟩
      have hL2 : (letL 61 p).length ≤ 1048576 := by omega
      have hb2 : bytesL s = [] ++ (tx 61 p ++ []) := by rw [List.nil_append, List.append_nil]; exact hb
      have hl2 : letL 61 p = [] ++ (letL 61 p ++ []) := by rw [List.nil_append, List.append_nil]
      have hgo := fill_go (P := s) h60 (L := letL 61 p) (tt := treeTexts ts) (F := fillF (letL 61 p) ts ts.length) hL2 hF hL 61 p [] [] [] [] ⟨#[]⟩ (ofL (tx 85 (fillN 61 24 (fillF (letL 61 p) ts ts.length) p))) hg hb2 hl2 (Nat.zero_le _)
      have htold : toldP 61 (fillF (letL 61 p) ts ts.length) p := by
        refine told_all 61 p _ hg (by rw [← hb, bytesL_length]; omega) (fun c hc => ?_)
        obtain ⟨i, hi, rfl⟩ := List.getElem_of_mem hc
        have := fillF_told (letL 61 p) ts ts.length i (by omega)
        rwa [List.getD_eq_getElem?_getD, List.getElem?_eq_getElem hi] at this
      have hno := fill_noL (F := fillF (letL 61 p) ts ts.length) (fun c q hq => (hF c q hq).1) 61 p htold
      have h2x := tx_two 85 _ hno
      have hfill : Ev (fun k => spec_l04Fill.f k s (treeTexts ts)) (ofL (tx 85 (fillN 61 24 (fillF (letL 61 p) ts ts.length) p))) := by
        unfold spec_l04Fill.f
        refine hgo.2 ?_
        refine Ev.step (fun k => by rw [spec_l04Fill.l0]) ?_
        refine ev_neg ?_ (ev_now ?_)
        · rw [size_list hb]; simp
        · apply ByteArray.ext; simp [ofL, ByteArray.data_append]
      have hread : ∀ h48 : (ofL (tx 85 (fillN 61 24 (fillF (letL 61 p) ts ts.length) p))).size ≤ 48, Ev (fun k => spec_l01Read.f k (ofL (tx 85 (fillN 61 24 (fillF (letL 61 p) ts ts.length) p)))) (degN 85 (fillN 61 24 (fillF (letL 61 p) ts ts.length) p), true) := fun h48 => read_ev h48 hno (bytesL_ofL (tx_range 85 _ (noL_good _ _ hno)))
      generalize fillN 61 24 (fillF (letL 61 p) ts ts.length) p = Q at h2x hfill hread ⊢
      have hsz : (ofL (tx 85 Q)).size = (tx 85 Q).length := ofL_size _
      generalize degN 85 Q = D at h2x hread ⊢
      rw [← hsz] at h2x
      clear hsz
      generalize ofL (tx 85 Q) = X at h2x hfill hread ⊢
      clear hno hgo htold hF hL
      refine Ev.step (fun k => by rw [spec_FillPattern.l1]) ?_
      refine ev_neg (by omega) (Ev.bind hfill ?_)
      rw [limM]
      by_cases h24 : D.length > 24
      · rw [if_pos h24]
        exact ev_pos (by omega) (ev_now rfl)
      · rw [if_neg h24]
        exact ev_neg (by omega) (Ev.bind (hread (by omega)) (ev_now rfl))
    · refine ev_neg (by omega) ?_
      rw [if_neg hlen]
      exact ev_now rfl
end Go.Proofs.Ytmambanmffdibaa.PT
namespace Go.Proofs.Ytmambanmffdibaa.Pure
set_option linter.unusedVariables false
set_option linter.unusedSectionVars false
open Go.RowKit Go.Proofs.YtmambanmffdibaaW.PrintWords Go.Proofs.Ytmambanmffdibaa.Base Go.Proofs.Ytmambanmffdibaa.PT Go.Proofs.Ytmambanmffdibaa.E
theorem held_ev (n : Nat) (m0 : Int) (h0 : 0 ≤ m0) (h1 : m0 ≤ 1048576) (hn : n ≤ 1048576) : Ev (fun k => laws_heldTree.f k (E.marks m0 n) m0) (m0 + n) := by
  unfold laws_heldTree.f
  exact Ev.bind (heldInt64S_ev n m0 h0 (by omega) hn) (ev_neg (by omega) (Ev.now _))
theorem FnExactFillPattern (a0 : ByteArray) (l : List S28) (_ : a0.size ≤ maxLen) (hm : l.length ≤ maxLen) (hx : ∀ x ∈ l, x.f0.length ≤ 9223372036854775807) : ∃ k, laws_FnExactFillPattern.f k a0 l = some true := by
  apply Ev.rounds
  unfold laws_FnExactFillPattern.f
  by_cases hs : (a0.size : Int) > 1048576
  · exact ev_pos hs (ev_now rfl)
  · refine ev_neg hs ?_
    obtain ⟨t, h1, h2⟩ := szTreeS_ev l (by unfold maxLen at hm; omega) hx
    refine Ev.bind h1 ?_
    by_cases ht : t < 0
    · exact ev_pos ht (ev_now rfl)
    · refine ev_neg ht ?_
      obtain ⟨hl, hf⟩ := h2 (by omega)
      have hcl : (copyT l).length ≤ 1048576 := by rw [copyT_length]; exact hl
      have hcf : ∀ x ∈ copyT l, x.f0.length ≤ 1048576 := by
        intro x hx
        obtain ⟨y, hy, rfl⟩ := List.mem_map.1 hx
        exact hf y hy
      have hto := toTreeS_ev l hl hf
      have himpl : ∀ k : Nat, impl_FillPattern.f a0 (copyT l) = some (P.fillM a0 (copyT l)) := fun _ => by unfold impl_FillPattern.f; rw [if_pos hcl]
      have hr : (P.fillM a0 (copyT l)).1.length ≤ 1048576 := by
        have h24 : ∀ D : List Int, (P.limM D).1.length ≤ 1048576 := by
          intro D
          rw [P.limM]
          split
          · simp
          · show D.length ≤ _; omega
        rw [P.fillM]
        split
        · split
          · simp
          · split
            · exact h24 _
            · simp
        · simp
      have hspec := spec_FillPattern_ev a0 (copyT l) (by omega) hcl hcf
      generalize P.fillM a0 (copyT l) = R at himpl hr hspec
      have hI := himpl 0
      have himp : Ev (fun _ : Nat => impl_FillPattern.f a0 (copyT l)) R := by rw [hI]; exact Ev.now _
      refine Ev.bind hto (Ev.bind hspec (Ev.bind hto (Ev.bind himp (Ev.bind (eqTree_ev _ hr) (ev_pos rfl ?_)))))
      refine Ev.step (fun k => by rw [laws_FnExactFillPattern.j0]) ?_
      refine ev_neg (by simp) (Ev.bind hto (Ev.bind (eqTreeS_ev _ hcl hcf) (ev_pos rfl (Ev.bind (markTreeS_ev _ 1 (by decide) (by decide) hcl hcf) (ev_neg ?_ (Ev.bind (eqTree_ev _ hr) (ev_pos rfl ?_)))))))
      · have := (endT_le (copyT l) 1 hcf).1
        show ¬ endT 1 (copyT l) < 0
        omega
      refine Ev.step (fun k => by rw [laws_FnExactFillPattern.j1]) ?_
      refine ev_neg (by simp) (Ev.bind (markTree_ev R.1 1 (by decide) (by decide) hr) (Ev.bind (held_ev R.1.length 1 (by decide) (by decide) hr) (ev_neg (by omega) (ev_pos rfl (Ev.bind hto (Ev.bind himp (Ev.bind (eqTree_ev _ hr) (ev_pos rfl ?_))))))))
      refine Ev.step (fun k => by rw [laws_FnExactFillPattern.j2]) ?_
      refine ev_neg (by simp) ?_
      exact Ev.bind (held_ev R.1.length 1 (by decide) (by decide) hr) (ev_neg (by omega) (ev_pos rfl (Ev.now _)))
end Go.Proofs.Ytmambanmffdibaa.Pure
namespace Go.Proofs.Ytmambanmffdibaa.Open
set_option linter.unusedVariables false
set_option linter.unusedSectionVars false
open Go.RowKit Go.ChangeShapes Go.WideShapes Go.ChangeAt Go.Deep Go.Proofs.YtmambanmffdibaaW.PrintWords
section
variable {H : Type} {enc : TypeId × Value → H} {P : Program} {w : World} {base : Nat} {held : Bool}

def Opens {α : Type} (d : Kd α) (Q : α → Prop) (enc : TypeId × Value → H) (P : Program) (w : World) (base : Nat) (held : Bool) (t : TypeId) : Prop :=
  ∀ (fuel : Nat) (cs : List Value) (x : DataW H × List MemPlace), DataW.trod enc P w base (fun _ => true) held fuel t cs = some x → ∃ a, d.K w a cs ∧ Q a
theorem opens_int {t : TypeId} {k : IntKind} (ht : P.underlying t = some (.int k)) : Opens (Kd.int k) (fun n => (Lit.int k n).wf = true) enc P w base held t := by
  intro fuel cs x h
  obtain ⟨n, rfl, _, hw⟩ := DataW.trod_int ht h
  exact ⟨n, rfl, hw⟩
theorem opens_slice {α : Type} [Inhabited α] {d : Kd α} {Q : α → Prop} {t e : TypeId} (ht : P.underlying t = some (.slice e)) (hc : P.cellsOf e = d.sz) (he : Opens d Q enc P w base held e) :
    Opens (Kd.slice e d) (fun xs => xs.length ≤ maxLen ∧ ∀ y ∈ xs, Q y) enc P w base held t := by
  intro fuel cs x h
  rcases open_slice ht h with ⟨rfl, _⟩ | ⟨a, len, cap, m, n, D, Pl, rfl, _, hl, hm, hmm, _, each⟩
  · exact ⟨[], ⟨none, 0, rfl, Nat.le_refl _, rfl, by simp, fun h0 => by simp at h0⟩, by simp, by simp⟩
  · simp only [if_true] at hmm
    have hx : ∀ i, i < len → ∃ y : α, Q y ∧ ∃ cs', w.cells? base (a.add (i * P.cellsOf e)) (P.cellsOf e) = some cs' ∧ d.K w y cs' := by
      intro i hi
      obtain ⟨cs', h1, h2⟩ := each i (by omega)
      obtain ⟨y, hk, hq⟩ := he _ _ _ h2
      exact ⟨y, hq, cs', h1, hk⟩
    obtain ⟨f, hf⟩ := choose_lt hx
    refine ⟨(List.range len).map f, ⟨some a, cap, by simp, by simpa using hl, by simp, by unfold maxLen at hm; simp; omega, fun _ => ⟨a, rfl, fun j p hj => ?_⟩⟩, by simp; omega, fun y hy => ?_⟩
    · rw [List.getElem?_map] at hj
      have hjl : j < len := by
        rcases Nat.lt_or_ge j len with h | h
        · exact h
        · rw [List.getElem?_eq_none (by simpa using h)] at hj
          cases hj
      rw [List.getElem?_range hjl] at hj
      obtain rfl := Option.some.inj hj
      obtain ⟨_, cs', h1, h2⟩ := hf j hjl
      obtain ⟨_, h3, h4⟩ := World.cells?_some h1
      refine ⟨cs', d.K_len h2, h2, fun i u hu => ?_⟩
      have hi : i < P.cellsOf e := by
        rw [← h3]
        exact (List.getElem?_eq_some_iff.1 hu).1
      have h5 := h4 i hi
      rw [hu] at h5
      rw [Go.Deep.add_add] at h5
      rw [← hc]
      exact h5
    · obtain ⟨i, hi, rfl⟩ := List.mem_map.1 hy
      exact (hf i (List.mem_range.1 hi)).1
theorem slice_in {α : Type} [Inhabited α] {d : Kd α} {Q : α → Prop} {t e : TypeId} {v : Value} {fuel : Nat} {x : DataW H × List MemPlace} (ht : P.underlying t = some (.slice e)) (hc : P.cellsOf e = d.sz) (he : Opens d Q enc P w base held e)
    (h : DataW.trod enc P w base (fun _ => true) held fuel t [v] = some x) : ∃ (A : Option Addr) (c : Nat) (xs : List α), v = .slice A xs.length c ∧ xs.length ≤ c ∧ xs.length ≤ maxLen ∧ d.C w A xs.length xs ∧ ∀ y ∈ xs, Q y := by
  obtain ⟨xs, ⟨A, c, hv, hl, hC⟩, hm, hq⟩ := opens_slice ht hc he _ _ _ h
  obtain rfl : v = .slice A xs.length c := by simpa using hv
  exact ⟨A, c, xs, rfl, hl, hm, hC, hq⟩
end
end Go.Proofs.Ytmambanmffdibaa.Open
