/- The reference's l04End tells what the program's reader and the marks of letters tell. -/
import Derived.Test.YtmambanmffdibaaEx1
import Derived.Test.YtmambanmffdibaaPatTh
namespace Go.Proofs.Ytmambanmffdibaa.PT
set_option linter.unusedVariables false
set_option linter.unusedSectionVars false
open Go.RowKit Go.Proofs.YtmambanmffdibaaW.PrintWords Go.Proofs.Ytmambanmffdibaa.Base Go.Proofs.Ytmambanmffdibaa.P Go.Proofs.Ytmambanmffdibaa.E
def endO (p : ByteArray) (n a : Nat) (u : List Bool) : Option (Int × List Bool) := (parse n (from_ p a)).bind fun x => (marks u (letL n x.1)).map fun v => ((p.size : Int) - x.2.size, v)
def loopO (p : ByteArray) (n m a : Nat) (u : List Bool) : Option (Int × List Bool) := (kidsP (parse n) m (from_ p a) []).bind fun x => (marks u (x.1.flatMap (letL n))).bind fun v => if x.2.size = 0 then none else some ((p.size : Int) - x.2.size + 1, v)
theorem endO_end {p : ByteArray} {n a : Nat} {u : List Bool} (h : p.size ≤ a) : endO p (n + 1) a u = none := by
  rw [endO, parse, if_pos (by rw [from_size]; omega)]; rfl
theorem endO_letter {p : ByteArray} {n a : Nat} {u : List Bool} (h : a < p.size) (hb : 97 ≤ bt p a ∧ bt p a ≤ 104) : endO p (n + 1) a u = (mark1 u (bt p a)).map fun v => ((a : Int) + 1, v) := by
  rw [endO, parse, if_neg (by rw [from_size]; omega), bt_from p a h, if_pos hb, Option.bind_some]
  have e : letL (n + 1) (Pat.mk (bt p a) []) = [bt p a] := by rw [letL, if_neg (by show bt p a ≠ 0; omega)]; rfl
  rw [e, marks]
  have e2 : ((from_ p a).extract 1 (from_ p a).size).size = p.size - (a + 1) := by rw [from_from, from_size]
  simp only [e2]
  cases mark1 u (bt p a) with
  | none => rfl
  | some v =>
    show some _ = some _
    rw [show (p.size : Int) - ((p.size - (a + 1) : Nat) : Int) = (a : Int) + 1 by omega]
theorem endO_bad {p : ByteArray} {n a : Nat} {u : List Bool} (h : a < p.size) (hb : ¬ (97 ≤ bt p a ∧ bt p a ≤ 104)) (h40 : bt p a ≠ 40) : endO p (n + 1) a u = none := by
  rw [endO, parse, if_neg (by rw [from_size]; omega), bt_from p a h, if_neg hb, if_pos h40]; rfl
theorem endO_node {p : ByteArray} {n a : Nat} {u : List Bool} (h : a < p.size) (h40 : bt p a = 40) : endO p (n + 1) a u = loopO p n (n + 1) (a + 1) u := by
  rw [endO, parse, if_neg (by rw [from_size]; omega), bt_from p a h, if_neg (by omega), if_neg (by omega), from_from, loopO]
  cases hk : kidsP (parse n) (n + 1) (from_ p (a + 1)) [] with
  | none => rfl
  | some x =>
    rw [Option.bind_some, Option.bind_some]
    by_cases h0 : x.2.size = 0
    · rw [if_pos h0, Option.bind_none]
      cases marks u (x.1.flatMap (letL n)) with
      | none => rfl
      | some v => rw [Option.bind_some, if_pos h0]
    · rw [if_neg h0, Option.bind_some]
      have e : letL (n + 1) (Pat.mk 0 x.1) = x.1.flatMap (letL n) := by rw [letL, if_pos (show (Pat.mk 0 x.1).letter = 0 from rfl)]; rfl
      have e2 : (x.2.extract 1 x.2.size).size = x.2.size - 1 := by rw [ByteArray.size_extract]; omega
      rw [e]
      simp only [e2]
      cases marks u (x.1.flatMap (letL n)) with
      | none => rfl
      | some v =>
        rw [Option.bind_some, if_neg h0, Option.map_some]
        rw [show (p.size : Int) - ((x.2.size - 1 : Nat) : Int) = (p.size : Int) - x.2.size + 1 by omega]
theorem loopO_end {p : ByteArray} {n m a : Nat} {u : List Bool} (h : p.size ≤ a) : loopO p n (m + 1) a u = none := by
  rw [loopO, kidsP_stop (.inl (by rw [from_size]; omega)), Option.bind_some]
  show (marks u []).bind _ = _
  rw [marks, Option.bind_some, if_pos (by rw [from_size]; omega)]
theorem loopO_close {p : ByteArray} {n m a : Nat} {u : List Bool} (h : a < p.size) (hb : bt p a = 41) : loopO p n (m + 1) a u = some ((a : Int) + 1, u) := by
  rw [loopO, kidsP_stop (.inr (by rw [bt_from p a h]; exact hb)), Option.bind_some]
  show (marks u []).bind _ = _
  rw [marks, Option.bind_some, if_neg (by rw [from_size]; omega)]
  show some ((p.size : Int) - (from_ p a).size + 1, u) = _
  rw [from_size, show (p.size : Int) - ((p.size - a : Nat) : Int) + 1 = (a : Int) + 1 by omega]
theorem loopO_kid {p : ByteArray} {n m a : Nat} {u : List Bool} (h : a < p.size) (hb : bt p a ≠ 41) : loopO p n (m + 1) a u = (endO p n a u).bind fun y => loopO p n m y.1.toNat y.2 := by
  rw [loopO, kidsP_cons (by rw [from_size, bt_from p a h]; omega), endO]
  cases hx : parse n (from_ p a) with
  | none => rfl
  | some x =>
    obtain ⟨b, e, hb1, hb2⟩ := parse_from p n a x (by omega) hx
    rw [Option.bind_some, Option.bind_some]
    cases hm : marks u (letL n x.1) with
    | none =>
      rw [Option.map_none, Option.bind_none]
      cases kidsP (parse n) m x.2 [] with
      | none => rfl
      | some z =>
        rw [Option.map_some, Option.bind_some]
        show (marks u ((x.1 :: z.1).flatMap (letL n))).bind _ = _
        rw [List.flatMap_cons, marks_append, hm]; rfl
    | some v =>
      rw [Option.map_some, Option.bind_some]
      show _ = loopO p n m ((p.size : Int) - x.2.size).toNat v
      rw [e, from_size, show ((p.size : Int) - ((p.size - b : Nat) : Int)).toNat = b by omega, loopO]
      cases kidsP (parse n) m (from_ p b) [] with
      | none => rfl
      | some z =>
        rw [Option.map_some, Option.bind_some, Option.bind_some]
        show (marks u ((x.1 :: z.1).flatMap (letL n))).bind _ = _
        rw [List.flatMap_cons, marks_append, hm, Option.bind_some]
/-- The reference's answer: -1 where there is none. -/
def Out (o : Option (Int × List Bool)) (r : Int × List Bool) : Prop := ∀ y, (o = some y → r = y) ∧ (o = none → r.1 = -1)
theorem Out.none_ {u : List Bool} : Out none (-1, u) := fun y => ⟨fun h => (by cases h), fun _ => rfl⟩
theorem Out.some_ {y : Int × List Bool} : Out (some y) y := fun z => ⟨fun h => (by obtain rfl := Option.some.inj h; rfl), fun h => (by cases h)⟩
theorem Out.get {y r : Int × List Bool} {o : Option (Int × List Bool)} (h : Out o r) (e : o = some y) : r = y := (h y).1 e
theorem Out.neg {r : Int × List Bool} {o : Option (Int × List Bool)} (h : Out o r) (e : o = none) : r.1 = -1 := (h r).2 e
theorem endO_some {p : ByteArray} {n a : Nat} {u : List Bool} {y : Int × List Bool} (ha : a ≤ p.size) (hu : u.length = 8) (h : endO p n a u = some y) : (a : Int) < y.1 ∧ y.1 ≤ p.size ∧ y.2.length = 8 := by
  obtain ⟨x, h1, h2⟩ := Option.bind_eq_some_iff.1 h
  obtain ⟨v, h3, rfl⟩ := Option.map_eq_some_iff.1 h2
  obtain ⟨b, e, hb1, hb2⟩ := parse_from p n a x ha h1
  refine ⟨?_, ?_, by rw [marks_length _ _ _ h3]; exact hu⟩
  · show (a : Int) < (p.size : Int) - x.2.size
    rw [e, from_size]; omega
  · show (p.size : Int) - x.2.size ≤ _
    omega
theorem end_ev (p : ByteArray) (hp : p.size ≤ 1048576) : ∀ (n a : Nat) (u : List Bool), u.length = 8 → a ≤ p.size → p.size - a < n → ∃ r, Ev (fun k => spec_l04End.f k p (a : Int) u) r ∧ Out (endO p n a u) r
  | 0, a, u, _, _, h => by omega
  | n + 1, a, u, hu, ha, hn => by
    have loop : ∀ (m a : Nat) (u : List Bool), u.length = 8 → a ≤ p.size → p.size - a < m → p.size - a < n → ∃ r, Ev (fun k => spec_l04End.l0 k p (a : Int) u) r ∧ Out (loopO p n m a u) r := by
      intro m
      induction m with
      | zero => intro a u _ _ h; omega
      | succ m ih =>
        intro a u hu ha hm hn
        by_cases h0 : p.size ≤ a
        · refine ⟨(-1, u), ?_, by rw [loopO_end h0]; exact Out.none_⟩
          refine Ev.step (fun k => by first | rw [spec_l04End.f] | rw [spec_l04End.l0] | rw [spec_l04End.j0] | rw [spec_l04End.j2]) (ev_neg (by omega) ?_)
          refine Ev.step (fun k => by first | rw [spec_l04End.f] | rw [spec_l04End.l0] | rw [spec_l04End.j0] | rw [spec_l04End.j2]) (ev_neg (by decide) (ev_pos (by omega) (ev_now rfl)))
        · by_cases hb : bt p a = 41
          · refine ⟨((a : Int) + 1, u), ?_, by rw [loopO_close (by omega) hb]; exact Out.some_⟩
            refine Ev.step (fun k => by first | rw [spec_l04End.f] | rw [spec_l04End.l0] | rw [spec_l04End.j0] | rw [spec_l04End.j2]) (ev_pos (by omega) (ev_pos (by omega) ?_))
            have hq : (bt p a != 41) = false := bne_eq_false_iff_eq.2 hb
            rw [hq]
            refine Ev.step (fun k => by first | rw [spec_l04End.f] | rw [spec_l04End.l0] | rw [spec_l04End.j0] | rw [spec_l04End.j2]) (ev_neg (by decide) (ev_neg (by omega) (ev_now ?_)))
            rw [w64 (by omega) (by omega)]
          · obtain ⟨r, h1, h2⟩ := end_ev p hp n a u hu ha hn
            have hq : (bt p a != 41) = true := bne_iff_ne.2 hb
            cases hx : endO p n a u with
            | none =>
              have hr := h2.neg hx
              refine ⟨(-1, r.2), ?_, by rw [loopO_kid (by omega) hb, hx]; exact Out.none_⟩
              refine Ev.step (fun k => by first | rw [spec_l04End.f] | rw [spec_l04End.l0] | rw [spec_l04End.j0] | rw [spec_l04End.j2]) (ev_pos (by omega) (ev_pos (by omega) ?_))
              rw [hq]
              exact Ev.step (fun k => by first | rw [spec_l04End.f] | rw [spec_l04End.l0] | rw [spec_l04End.j0] | rw [spec_l04End.j2]) (ev_pos rfl (Ev.bind h1 (ev_pos (show r.1 < 0 by omega) (ev_now rfl))))
            | some y =>
              obtain rfl := h2.get hx
              obtain ⟨hy1, hy2, hy3⟩ := endO_some ha hu hx
              obtain ⟨r2, h3, h4⟩ := ih r.1.toNat r.2 hy3 (by omega) (by omega) (by omega)
              refine ⟨r2, ?_, by rw [loopO_kid (by omega) hb, hx]; exact h4⟩
              refine Ev.step (fun k => by first | rw [spec_l04End.f] | rw [spec_l04End.l0] | rw [spec_l04End.j0] | rw [spec_l04End.j2]) (ev_pos (by omega) (ev_pos (by omega) ?_))
              rw [hq]
              refine Ev.step (fun k => by first | rw [spec_l04End.f] | rw [spec_l04End.l0] | rw [spec_l04End.j0] | rw [spec_l04End.j2]) (ev_pos rfl (Ev.bind h1 (ev_neg (show ¬ r.1 < 0 by omega) ?_)))
              rw [show ((r.1.toNat : Nat) : Int) = r.1 by omega] at h3
              exact h3
    by_cases h0 : p.size ≤ a
    · exact ⟨(-1, u), Ev.step (fun k => by first | rw [spec_l04End.f] | rw [spec_l04End.l0] | rw [spec_l04End.j0] | rw [spec_l04End.j2]) (ev_pos (by omega) (ev_now rfl)), by rw [endO_end h0]; exact Out.none_⟩
    · by_cases hb : 97 ≤ bt p a ∧ bt p a ≤ 104
      · have hd : decide (bt p a ≤ 104) = true := decide_eq_true hb.2
        have hi : (bt p a - 97) % 256 = bt p a - 97 := by omega
        by_cases hm : u.getD (bt p a - 97).toNat false = true
        · refine ⟨(-1, u), ?_, by rw [endO_letter (by omega) hb, mark1, if_pos hm]; exact Out.none_⟩
          refine Ev.step (fun k => by first | rw [spec_l04End.f] | rw [spec_l04End.l0] | rw [spec_l04End.j0] | rw [spec_l04End.j2]) (ev_neg (by omega) (ev_pos (by omega) (ev_pos (by omega) (ev_pos (by omega) ?_))))
          rw [hd]
          refine Ev.step (fun k => by first | rw [spec_l04End.f] | rw [spec_l04End.l0] | rw [spec_l04End.j0] | rw [spec_l04End.j2]) (ev_pos rfl ?_)
          rw [hi]
          exact ev_pos (by omega) (ev_pos (by omega) (ev_pos hm (ev_now rfl)))
        · refine ⟨((a : Int) + 1, u.set (bt p a - 97).toNat true), ?_, by rw [endO_letter (by omega) hb, mark1, if_neg hm]; exact Out.some_⟩
          refine Ev.step (fun k => by first | rw [spec_l04End.f] | rw [spec_l04End.l0] | rw [spec_l04End.j0] | rw [spec_l04End.j2]) (ev_neg (by omega) (ev_pos (by omega) (ev_pos (by omega) (ev_pos (by omega) ?_))))
          rw [hd]
          refine Ev.step (fun k => by first | rw [spec_l04End.f] | rw [spec_l04End.l0] | rw [spec_l04End.j0] | rw [spec_l04End.j2]) (ev_pos rfl ?_)
          rw [hi]
          refine ev_pos (by omega) (ev_pos (by omega) (ev_neg hm (ev_now ?_)))
          rw [w64 (by omega) (by omega)]
      · have go : ∃ r, Ev (fun k => spec_l04End.j0 k p (a : Int) u (bt p a) false) r ∧ Out (endO p (n + 1) a u) r := by
          by_cases h40 : bt p a = 40
          · obtain ⟨r, h1, h2⟩ := loop (n + 1) (a + 1) u hu (by omega) (by omega) (by omega)
            refine ⟨r, ?_, by rw [endO_node (by omega) h40]; exact h2⟩
            refine Ev.step (fun k => by first | rw [spec_l04End.f] | rw [spec_l04End.l0] | rw [spec_l04End.j0] | rw [spec_l04End.j2]) (ev_neg (by decide) (ev_pos (by omega) (ev_pos (by omega) (ev_pos h40 ?_))))
            rw [w64 (by omega) (by omega)]
            exact h1
          · exact ⟨(-1, u), Ev.step (fun k => by first | rw [spec_l04End.f] | rw [spec_l04End.l0] | rw [spec_l04End.j0] | rw [spec_l04End.j2]) (ev_neg (by decide) (ev_pos (by omega) (ev_pos (by omega) (ev_neg h40 (ev_now rfl))))), by rw [endO_bad (by omega) hb h40]; exact Out.none_⟩
        obtain ⟨r, h1, h2⟩ := go
        refine ⟨r, ?_, h2⟩
        refine Ev.step (fun k => by first | rw [spec_l04End.f] | rw [spec_l04End.l0] | rw [spec_l04End.j0] | rw [spec_l04End.j2]) (ev_neg (by omega) (ev_pos (by omega) (ev_pos (by omega) ?_)))
        by_cases h97 : bt p a ≥ 97
        · refine ev_pos h97 ?_
          rw [decide_eq_false (fun h => hb ⟨h97, h⟩)]
          exact h1
        · exact ev_neg h97 h1
theorem endO_whole {p : ByteArray} (hp : p.size ≤ 60) (h0 : 0 < p.size) : (∃ y, endO p 61 0 (List.replicate 8 false) = some y ∧ y.1 = p.size) ↔ isP p = true := by
  rw [isP, toP, whole, if_neg (by omega), endO, from_zero]
  cases hx : parse 61 p with
  | none => simp
  | some x =>
    rw [Option.bind_some, Option.bind_some]
    have hg := (parse_good 61 p x hx).1
    have hm := marks_some (letL 61 x.1) (List.replicate 8 false) rfl (letL_range 61 x.1 hg)
    have hrep : ∀ i, (List.replicate 8 false).getD i false = false := by
      intro i; rw [List.getD_eq_getElem?_getD, List.getElem?_replicate]; split <;> rfl
    by_cases hs : x.2.size = 0
    · rw [if_pos hs, Option.bind_some, letters_eq 61 x.1 hg]
      by_cases hN : (letL 61 x.1).Nodup
      · rw [if_pos hN]
        have := hm.2 ⟨hN, fun c _ => hrep _⟩
        obtain ⟨v, hv⟩ := Option.isSome_iff_exists.1 this
        refine ⟨fun _ => rfl, fun _ => ⟨_, by rw [hv]; rfl, ?_⟩⟩
        show (p.size : Int) - x.2.size = _
        omega
      · rw [if_neg hN]
        refine ⟨?_, fun h => by cases h⟩
        rintro ⟨y, h1, _⟩
        obtain ⟨v, hv, _⟩ := Option.map_eq_some_iff.1 h1
        exact absurd (hm.1 (by rw [hv]; rfl)).1 hN
    · rw [if_neg hs, Option.bind_none]
      refine ⟨?_, fun h => by cases h⟩
      rintro ⟨y, h1, h2⟩
      obtain ⟨v, hv, rfl⟩ := Option.map_eq_some_iff.1 h1
      have h2 : (p.size : Int) - x.2.size = p.size := h2
      omega
/-- The reference's l04Is. -/
theorem l04Is_ev (p : ByteArray) (hp : p.size ≤ 1048576) : Ev (fun k => spec_l04Is.f k p) (isP p) := by
  by_cases h0 : p.size = 0
  · have : isP p = false := by
      rw [isP, toP, whole, if_neg (by omega), parse, if_pos h0]; rfl
    rw [this]
    exact ev_neg (by omega) (ev_now rfl)
  · by_cases h60 : p.size ≤ 60
    · obtain ⟨r, h1, h2⟩ := end_ev p hp 61 0 (List.replicate 8 false) rfl (by omega) (by omega)
      refine ev_pos (by omega) (ev_pos (by omega) (ev_pos (by decide) (Ev.bind h1 (ev_now ?_))))
      have hw := endO_whole h60 (by omega)
      cases hx : endO p 61 0 (List.replicate 8 false) with
      | none =>
        have hr := h2.neg hx
        have : isP p = false := by
          rw [← Bool.not_eq_true, ← hw]
          rintro ⟨y, h, _⟩; rw [hx] at h; cases h
        rw [this]
        exact beq_eq_false_iff_ne.2 (by omega)
      | some y =>
        obtain rfl := h2.get hx
        by_cases hr : r.1 = p.size
        · rw [hw.1 ⟨r, hx, hr⟩, hr]; simp
        · have : isP p = false := by
            rw [← Bool.not_eq_true, ← hw]
            rintro ⟨y, h, hy⟩; rw [hx] at h; obtain rfl := Option.some.inj h; exact hr hy
          rw [this]
          exact beq_eq_false_iff_ne.2 hr
    · have : isP p = false := by
        rw [isP, toP, whole, if_pos (by omega)]; rfl
      rw [this]
      exact ev_pos (by omega) (ev_neg (by omega) (ev_now rfl))
end Go.Proofs.Ytmambanmffdibaa.PT
