/- The row of the law FnExactOpenTrees, out of its pure statement. -/
import Derived.Test.YtmambanmffdibaaQOPEx0
import Derived.Test.YtmambanmffdibaaQOPEx1
import Derived.Test.YtmambanmffdibaaQOPEx17
import Derived.Test.YtmambanmffdibaaQOPEx18
import Derived.Test.YtmambanmffdibaaQOPEx19
import Derived.Test.YtmambanmffdibaaQOPEx2
import Derived.Test.YtmambanmffdibaaQOPEx3
import Derived.Test.YtmambanmffdibaaQOPEx4
import Derived.Test.YtmambanmffdibaaQOPL1
import Derived.Test.YtmambanmffdibaaQOPL2
import Derived.Test.YtmambanmffdibaaQOPL4
import Derived.Test.YtmambanmffdibaaQOPW
import Derived.Deep.Slices
import Derived.Lib.SmallJoins
import Derived.OpenShut
import Derived.WalkKit
namespace Go.Proofs.Ytmambanmffdibaa.PT
set_option linter.unusedVariables false
set_option linter.unusedSectionVars false
open Go.RowKit Go.Proofs.YtmambanmffdibaaW.PrintWords Go.Proofs.Ytmambanmffdibaa.Base Go.Proofs.Ytmambanmffdibaa.P Go.Proofs.Ytmambanmffdibaa.E
def endO (p : ByteArray) (n a : Nat) (u : List Bool) : Option (Int × List Bool) := (parse n (from_ p a)).bind fun x => (marks u (letL n x.1)).map fun v => ((p.size : Int) - x.2.size, v)
def loopO (p : ByteArray) (n m a : Nat) (u : List Bool) : Option (Int × List Bool) := (kidsP (parse n) m (from_ p a) []).bind fun x => (marks u (x.1.flatMap (letL n))).bind fun v => if x.2.size = 0 then none else some ((p.size : Int) - x.2.size + 1, v)
theorem endO_end {p : ByteArray} {n a : Nat} {u : List Bool} (h : p.size ≤ a) : endO p (n + 1) a u = none := by
  rw [endO, parse, if_pos (by rw [from_size]; omega)]; rfl
theorem endO_letter {p : ByteArray} {n a : Nat} {u : List Bool} (h : a < p.size) (hb : 97 ≤ bt p a ∧ bt p a ≤ 104) : endO p (n + 1) a u = (mark1 u (bt p a)).map fun v => ((a : Int) + 1, v) := by
  rw [endO, parse, if_neg (by rw [from_size]; omega), bt_from p a h, if_pos hb, Option.bind_some]
  have e : letL (n + 1) (Pat.mk (bt p a) []) = [bt p a] := by rw [letL, if_neg (by show bt p a ≠ 0; omega)]; rfl
  rw [e, marks]
  have e2 : ((from_ p a).extract 1 (from_ p a).size).size = p.size - (a + 1) := by rw [from_from, from_size]
  simp only [e2]
  cases mark1 u (bt p a) with
  | none => rfl
  | some v =>
    show some _ = some _
    rw [show (p.size : Int) - ((p.size - (a + 1) : Nat) : Int) = (a : Int) + 1 by omega]
theorem endO_bad {p : ByteArray} {n a : Nat} {u : List Bool} (h : a < p.size) (hb : ¬ (97 ≤ bt p a ∧ bt p a ≤ 104)) (h40 : bt p a ≠ 40) : endO p (n + 1) a u = none := by
  rw [endO, parse, if_neg (by rw [from_size]; omega), bt_from p a h, if_neg hb, if_pos h40]; rfl
theorem endO_node {p : ByteArray} {n a : Nat} {u : List Bool} (h : a < p.size) (h40 : bt p a = 40) : endO p (n + 1) a u = loopO p n (n + 1) (a + 1) u := by
  rw [endO, parse, if_neg (by rw [from_size]; omega), bt_from p a h, if_neg (by omega), if_neg (by omega), from_from, loopO]
  cases hk : kidsP (parse n) (n + 1) (from_ p (a + 1)) [] with
  | none => rfl
  | some x =>
    rw [Option.bind_some, Option.bind_some]
    by_cases h0 : x.2.size = 0
    · rw [if_pos h0, Option.bind_none]
      cases marks u (x.1.flatMap (letL n)) with
      | none => rfl
      | some v => rw [Option.bind_some, if_pos h0]
    · rw [if_neg h0, Option.bind_some]
      have e : letL (n + 1) (Pat.mk 0 x.1) = x.1.flatMap (letL n) := by rw [letL, if_pos (show (Pat.mk 0 x.1).letter = 0 from rfl)]; rfl
      have e2 : (x.2.extract 1 x.2.size).size = x.2.size - 1 := by rw [ByteArray.size_extract]; omega
      rw [e]
      simp only [e2]
      cases marks u (x.1.flatMap (letL n)) with
      | none => rfl
      | some v =>
        rw [Option.bind_some, if_neg h0, Option.map_some]
        rw [show (p.size : Int) - ((x.2.size - 1 : Nat) : Int) = (p.size : Int) - x.2.size + 1 by omega]
theorem loopO_end {p : ByteArray} {n m a : Nat} {u : List Bool} (h : p.size ≤ a) : loopO p n (m + 1) a u = none := by
  rw [loopO, kidsP_stop (.inl (by rw [from_size]; omega)), Option.bind_some]
  show (marks u []).bind _ = _
  rw [marks, Option.bind_some, if_pos (by rw [from_size]; omega)]
theorem loopO_close {p : ByteArray} {n m a : Nat} {u : List Bool} (h : a < p.size) (hb : bt p a = 41) : loopO p n (m + 1) a u = some ((a : Int) + 1, u) := by
  rw [loopO, kidsP_stop (.inr (by rw [bt_from p a h]; exact hb)), Option.bind_some]
  show (marks u []).bind _ = _
  rw [marks, Option.bind_some, if_neg (by rw [from_size]; omega)]
  show some ((p.size : Int) - (from_ p a).size + 1, u) = _
  rw [from_size, show (p.size : Int) - ((p.size - a : Nat) : Int) + 1 = (a : Int) + 1 by omega]
theorem loopO_kid {p : ByteArray} {n m a : Nat} {u : List Bool} (h : a < p.size) (hb : bt p a ≠ 41) : loopO p n (m + 1) a u = (endO p n a u).bind fun y => loopO p n m y.1.toNat y.2 := by
  rw [loopO, kidsP_cons (by rw [from_size, bt_from p a h]; omega), endO]
  cases hx : parse n (from_ p a) with
  | none => rfl
  | some x =>
    obtain ⟨b, e, hb1, hb2⟩ := parse_from p n a x (by omega) hx
    rw [Option.bind_some, Option.bind_some]
    cases hm : marks u (letL n x.1) with
    | none =>
      rw [Option.map_none, Option.bind_none]
      cases kidsP (parse n) m x.2 [] with
      | none => rfl
      | some z =>
        rw [Option.map_some, Option.bind_some]
        show (marks u ((x.1 :: z.1).flatMap (letL n))).bind _ = _
        rw [List.flatMap_cons, marks_append, hm]; rfl
    | some v =>
      rw [Option.map_some, Option.bind_some]
      show _ = loopO p n m ((p.size : Int) - x.2.size).toNat v
      rw [e, from_size, show ((p.size : Int) - ((p.size - b : Nat) : Int)).toNat = b by omega, loopO]
      cases kidsP (parse n) m (from_ p b) [] with
      | none => rfl
      | some z =>
        rw [Option.map_some, Option.bind_some, Option.bind_some]
        show (marks u ((x.1 :: z.1).flatMap (letL n))).bind _ = _
        rw [List.flatMap_cons, marks_append, hm, Option.bind_some]
def Out (o : Option (Int × List Bool)) (r : Int × List Bool) : Prop := ∀ y, (o = some y → r = y) ∧ (o = none → r.1 = -1)
theorem Out.none_ {u : List Bool} : Out none (-1, u) := fun y => ⟨fun h => (by cases h), fun _ => rfl⟩
theorem Out.some_ {y : Int × List Bool} : Out (some y) y := fun z => ⟨fun h => (by obtain rfl := Option.some.inj h; rfl), fun h => (by cases h)⟩
theorem Out.get {y r : Int × List Bool} {o : Option (Int × List Bool)} (h : Out o r) (e : o = some y) : r = y := (h y).1 e
theorem Out.neg {r : Int × List Bool} {o : Option (Int × List Bool)} (h : Out o r) (e : o = none) : r.1 = -1 := (h r).2 e
theorem endO_some {p : ByteArray} {n a : Nat} {u : List Bool} {y : Int × List Bool} (ha : a ≤ p.size) (hu : u.length = 8) (h : endO p n a u = some y) : (a : Int) < y.1 ∧ y.1 ≤ p.size ∧ y.2.length = 8 := by
  obtain ⟨x, h1, h2⟩ := Option.bind_eq_some_iff.1 h
  obtain ⟨v, h3, rfl⟩ := Option.map_eq_some_iff.1 h2
  obtain ⟨b, e, hb1, hb2⟩ := parse_from p n a x ha h1
  refine ⟨?_, ?_, by rw [marks_length _ _ _ h3]; exact hu⟩
  · show (a : Int) < (p.size : Int) - x.2.size
    rw [e, from_size]; omega
  · show (p.size : Int) - x.2.size ≤ _
    omega
theorem end_ev (p : ByteArray) (hp : p.size ≤ 1048576) : ∀ (n a : Nat) (u : List Bool), u.length = 8 → a ≤ p.size → p.size - a < n → ∃ r, Ev (fun k => spec_l04End.f k p (a : Int) u) r ∧ Out (endO p n a u) r
  | 0, a, u, _, _, h => by omega
  | n + 1, a, u, hu, ha, hn => by
    have loop : ∀ (m a : Nat) (u : List Bool), u.length = 8 → a ≤ p.size → p.size - a < m → p.size - a < n → ∃ r, Ev (fun k => spec_l04End.l0 k p (a : Int) u) r ∧ Out (loopO p n m a u) r := by
      intro m
      induction m with
      | zero => intro a u _ _ h; omega
      | succ m ih =>
        intro a u hu ha hm hn
        by_cases h0 : p.size ≤ a
        · refine ⟨(-1, u), ?_, by rw [loopO_end h0]; exact Out.none_⟩
          refine Ev.step (fun k => by first | rw [spec_l04End.f] | rw [spec_l04End.l0] | rw [spec_l04End.j0] | rw [spec_l04End.j2]) (ev_neg (by omega) ?_)
          refine Ev.step (fun k => by first | rw [spec_l04End.f] | rw [spec_l04End.l0] | rw [spec_l04End.j0] | rw [spec_l04End.j2]) (ev_neg (by decide) (ev_pos (by omega) (ev_now rfl)))
        · by_cases hb : bt p a = 41
          · refine ⟨((a : Int) + 1, u), ?_, by rw [loopO_close (by omega) hb]; exact Out.some_⟩
            refine Ev.step (fun k => by first | rw [spec_l04End.f] | rw [spec_l04End.l0] | rw [spec_l04End.j0] | rw [spec_l04End.j2]) (ev_pos (by omega) (ev_pos (by omega) ?_))
            have hq : (bt p a != 41) = false := bne_eq_false_iff_eq.2 hb
            rw [hq]
            refine Ev.step (fun k => by first | rw [spec_l04End.f] | rw [spec_l04End.l0] | rw [spec_l04End.j0] | rw [spec_l04End.j2]) (ev_neg (by decide) (ev_neg (by omega) (ev_now ?_)))
            rw [w64 (by omega) (by omega)]
          · obtain ⟨r, h1, h2⟩ := end_ev p hp n a u hu ha hn
            have hq : (bt p a != 41) = true := bne_iff_ne.2 hb
            cases hx : endO p n a u with
            | none =>
              have hr := h2.neg hx
              refine ⟨(-1, r.2), ?_, by rw [loopO_kid (by omega) hb, hx]; exact Out.none_⟩
              refine Ev.step (fun k => by first | rw [spec_l04End.f] | rw [spec_l04End.l0] | rw [spec_l04End.j0] | rw [spec_l04End.j2]) (ev_pos (by omega) (ev_pos (by omega) ?_))
              rw [hq]
              exact Ev.step (fun k => by first | rw [spec_l04End.f] | rw [spec_l04End.l0] | rw [spec_l04End.j0] | rw [spec_l04End.j2]) (ev_pos rfl (Ev.bind h1 (ev_pos (show r.1 < 0 by omega) (ev_now rfl))))
            | some y =>
              obtain rfl := h2.get hx
              obtain ⟨hy1, hy2, hy3⟩ := endO_some ha hu hx
              obtain ⟨r2, h3, h4⟩ := ih r.1.toNat r.2 hy3 (by omega) (by omega) (by omega)
              refine ⟨r2, ?_, by rw [loopO_kid (by omega) hb, hx]; exact h4⟩
              refine Ev.step (fun k => by first | rw [spec_l04End.f] | rw [spec_l04End.l0] | rw [spec_l04End.j0] | rw [spec_l04End.j2]) (ev_pos (by omega) (ev_pos (by omega) ?_))
              rw [hq]
              refine Ev.step (fun k => by first | rw [spec_l04End.f] | rw [spec_l04End.l0] | rw [spec_l04End.j0] | rw [spec_l04End.j2]) (ev_pos rfl (Ev.bind h1 (ev_neg (show ¬ r.1 < 0 by omega) ?_)))
              rw [show ((r.1.toNat : Nat) : Int) = r.1 by omega] at h3
              exact h3
    by_cases h0 : p.size ≤ a
    · exact ⟨(-1, u), Ev.step (fun k => by first | rw [spec_l04End.f] | rw [spec_l04End.l0] | rw [spec_l04End.j0] | rw [spec_l04End.j2]) (ev_pos (by omega) (ev_now rfl)), by rw [endO_end h0]; exact Out.none_⟩
    · by_cases hb : 97 ≤ bt p a ∧ bt p a ≤ 104
      · have hd : decide (bt p a ≤ 104) = true := decide_eq_true hb.2
        have hi : (bt p a - 97) % 256 = bt p a - 97 := by omega
        by_cases hm : u.getD (bt p a - 97).toNat false = true
        · refine ⟨(-1, u), ?_, by rw [endO_letter (by omega) hb, mark1, if_pos hm]; exact Out.none_⟩
          refine Ev.step (fun k => by first | rw [spec_l04End.f] | rw [spec_l04End.l0] | rw [spec_l04End.j0] | rw [spec_l04End.j2]) (ev_neg (by omega) (ev_pos (by omega) (ev_pos (by omega) (ev_pos (by omega) ?_))))
          rw [hd]
          refine Ev.step (fun k => by first | rw [spec_l04End.f] | rw [spec_l04End.l0] | rw [spec_l04End.j0] | rw [spec_l04End.j2]) (ev_pos rfl ?_)
          rw [hi]
          exact ev_pos (by omega) (ev_pos (by omega) (ev_pos hm (ev_now rfl)))
        · refine ⟨((a : Int) + 1, u.set (bt p a - 97).toNat true), ?_, by rw [endO_letter (by omega) hb, mark1, if_neg hm]; exact Out.some_⟩
          refine Ev.step (fun k => by first | rw [spec_l04End.f] | rw [spec_l04End.l0] | rw [spec_l04End.j0] | rw [spec_l04End.j2]) (ev_neg (by omega) (ev_pos (by omega) (ev_pos (by omega) (ev_pos (by omega) ?_))))
          rw [hd]
          refine Ev.step (fun k => by first | rw [spec_l04End.f] | rw [spec_l04End.l0] | rw [spec_l04End.j0] | rw [spec_l04End.j2]) (ev_pos rfl ?_)
          rw [hi]
          refine ev_pos (by omega) (ev_pos (by omega) (ev_neg hm (ev_now ?_)))
          rw [w64 (by omega) (by omega)]
      · have go : ∃ r, Ev (fun k => spec_l04End.j0 k p (a : Int) u (bt p a) false) r ∧ Out (endO p (n + 1) a u) r := by
          by_cases h40 : bt p a = 40
          · obtain ⟨r, h1, h2⟩ := loop (n + 1) (a + 1) u hu (by omega) (by omega) (by omega)
            refine ⟨r, ?_, by rw [endO_node (by omega) h40]; exact h2⟩
            refine Ev.step (fun k => by first | rw [spec_l04End.f] | rw [spec_l04End.l0] | rw [spec_l04End.j0] | rw [spec_l04End.j2]) (ev_neg (by decide) (ev_pos (by omega) (ev_pos (by omega) (ev_pos h40 ?_))))
            rw [w64 (by omega) (by omega)]
            exact h1
          · exact ⟨(-1, u), Ev.step (fun k => by first | rw [spec_l04End.f] | rw [spec_l04End.l0] | rw [spec_l04End.j0] | rw [spec_l04End.j2]) (ev_neg (by decide) (ev_pos (by omega) (ev_pos (by omega) (ev_neg h40 (ev_now rfl))))), by rw [endO_bad (by omega) hb h40]; exact Out.none_⟩
        obtain ⟨r, h1, h2⟩ := go
        refine ⟨r, ?_, h2⟩
        refine Ev.step (fun k => by first | rw [spec_l04End.f] | rw [spec_l04End.l0] | rw [spec_l04End.j0] | rw [spec_l04End.j2]) (ev_neg (by omega) (ev_pos (by omega) (ev_pos (by omega) ?_)))
        by_cases h97 : bt p a ≥ 97
        · refine ev_pos h97 ?_
          rw [decide_eq_false (fun h => hb ⟨h97, h⟩)]
          exact h1
        · exact ev_neg h97 h1
theorem endO_whole {p : ByteArray} (hp : p.size ≤ 60) (h0 : 0 < p.size) : (∃ y, endO p 61 0 (List.replicate 8 false) = some y ∧ y.1 = p.size) ↔ isP p = true := by
  rw [isP, toP, whole, if_neg (by omega), endO, from_zero]
  cases hx : parse 61 p with
  | none => simp
  | some x =>
    rw [Option.bind_some, Option.bind_some]
    have hg := (parse_good 61 p x hx).1
    have hm := marks_some (letL 61 x.1) (List.replicate 8 false) rfl (letL_range 61 x.1 hg)
    have hrep : ∀ i, (List.replicate 8 false).getD i false = false := by
      intro i; rw [List.getD_eq_getElem?_getD, List.getElem?_replicate]; split <;> rfl
    by_cases hs : x.2.size = 0
    · rw [if_pos hs, Option.bind_some, letters_eq 61 x.1 hg]
      by_cases hN : (letL 61 x.1).Nodup
      · rw [if_pos hN]
        have := hm.2 ⟨hN, fun c _ => hrep _⟩
        obtain ⟨v, hv⟩ := Option.isSome_iff_exists.1 this
        refine ⟨fun _ => rfl, fun _ => ⟨_, by rw [hv]; rfl, ?_⟩⟩
        show (p.size : Int) - x.2.size = _
        omega
      · rw [if_neg hN]
        refine ⟨?_, fun h => by cases h⟩
        rintro ⟨y, h1, _⟩
        obtain ⟨v, hv, _⟩ := Option.map_eq_some_iff.1 h1
        exact absurd (hm.1 (by rw [hv]; rfl)).1 hN
    · rw [if_neg hs, Option.bind_none]
      refine ⟨?_, fun h => by cases h⟩
      rintro ⟨y, h1, h2⟩
      obtain ⟨v, hv, rfl⟩ := Option.map_eq_some_iff.1 h1
      have h2 : (p.size : Int) - x.2.size = p.size := h2
      omega
theorem l04Is_ev (p : ByteArray) (hp : p.size ≤ 1048576) : Ev (fun k => spec_l04Is.f k p) (isP p) := by
  by_cases h0 : p.size = 0
  · have : isP p = false := by
      rw [isP, toP, whole, if_neg (by omega), parse, if_pos h0]; rfl
    rw [this]
    exact ev_neg (by omega) (ev_now rfl)
  · by_cases h60 : p.size ≤ 60
    · obtain ⟨r, h1, h2⟩ := end_ev p hp 61 0 (List.replicate 8 false) rfl (by omega) (by omega)
      refine ev_pos (by omega) (ev_pos (by omega) (ev_pos (by decide) (Ev.bind h1 (ev_now ?_))))
      have hw := endO_whole h60 (by omega)
      cases hx : endO p 61 0 (List.replicate 8 false) with
      | none =>
        have hr := h2.neg hx
        have : isP p = false := by
          rw [← Bool.not_eq_true, ← hw]
          rintro ⟨y, h, _⟩; rw [hx] at h; cases h
        rw [this]
        exact beq_eq_false_iff_ne.2 (by omega)
      | some y =>
        obtain rfl := h2.get hx
        by_cases hr : r.1 = p.size
        · rw [hw.1 ⟨r, hx, hr⟩, hr]; simp
        · have : isP p = false := by
            rw [← Bool.not_eq_true, ← hw]
            rintro ⟨y, h, hy⟩; rw [hx] at h; obtain rfl := Option.some.inj h; exact hr hy
          rw [this]
          exact beq_eq_false_iff_ne.2 hr
    · have : isP p = false := by
        rw [isP, toP, whole, if_pos (by omega)]; rfl
      rw [this]
      exact ev_pos (by omega) (ev_neg (by omega) (ev_now rfl))
end Go.Proofs.Ytmambanmffdibaa.PT
namespace Go.Proofs.Ytmambanmffdibaa.PT
set_option linter.unusedVariables false
set_option linter.unusedSectionVars false
open Go.RowKit Go.Proofs.YtmambanmffdibaaW.PrintWords Go.Proofs.Ytmambanmffdibaa.Base Go.Proofs.Ytmambanmffdibaa.Tree Go.Proofs.Ytmambanmffdibaa.P Go.Proofs.Ytmambanmffdibaa.E
theorem kfM_nat (d : List Int) (v : Nat) : kfM d (v : Int) = castL (kidsM d v) := by rw [kfM, Int.toNat_natCast]
theorem ofL_append (a b : List Int) : ofL (a ++ b) = ofL a ++ ofL b := by
  apply ByteArray.ext
  simp [ofL, ByteArray.data_append]
theorem ofL_size (a : List Int) : (ofL a).size = a.length := by simp [ofL, ByteArray.size]
theorem bytesL_ofL {l : List Int} (h : ∀ c ∈ l, 0 ≤ c ∧ c < 256) : bytesL (ofL l) = l := by
  simp only [bytesL, ofL, List.map_map]
  conv => rhs; rw [← List.map_id l]
  apply List.map_congr_left
  intro c hc
  have := h c hc
  simp only [Function.comp, id, UInt8.toNat_ofNat']
  omega
theorem tx_range : ∀ (n : Nat) (p : Pat), goodP n p → ∀ c ∈ tx n p, 0 ≤ c ∧ c < 256
  | 0, p, h, _, _ => h.elim
  | n + 1, p, h, c, hc => by
    rw [tx] at hc
    split at hc
    · rcases List.mem_cons.1 hc with rfl | hc
      · omega
      · rcases List.mem_append.1 hc with hc | hc
        · obtain ⟨k, hk, hc⟩ := List.mem_flatMap.1 hc
          exact tx_range n k (h.2 k hk) c hc
        · rw [List.mem_singleton.1 hc]; omega
    · rename_i hz
      rw [List.mem_singleton.1 hc]
      rcases h.1 with h1 | h1
      · exact absurd h1 hz
      · omega
section
variable {d : List Int} (h : IsT d)
include h
theorem good_tree : ∀ (n v : Nat), v < d.length → d.length - v ≤ n → goodP n (ofT (kfM d) n (v : Int))
  | 0, v, hv, hn => by omega
  | n + 1, v, hv, hn => by
    refine ⟨.inl rfl, fun k hk => ?_⟩
    rw [ofT, kfM_nat] at hk
    obtain ⟨c, hc, rfl⟩ := List.mem_map.1 hk
    obtain ⟨x, hx, rfl⟩ := List.mem_map.1 hc
    have := kid_mem h hv hx
    exact good_tree n x this.2.1 (by omega)
theorem tx_tree (n v : Nat) : tx (n + 1) (ofT (kfM d) (n + 1) (v : Int)) = 40 :: ((kidsM d v).flatMap (fun c => tx n (ofT (kfM d) n ((c : Nat) : Int))) ++ [41]) := by
  rw [tx, if_pos (show (ofT (kfM d) (n + 1) (v : Int)).letter = 0 from rfl)]
  show 40 :: (((kfM d (v : Int)).map (ofT (kfM d) n)).flatMap (tx n) ++ [41]) = _
  rw [kfM_nat, castL, List.map_map, List.flatMap_map]
  rfl
theorem tx_tree_len : ∀ (n v : Nat), v < d.length → d.length - v ≤ n → (tx n (ofT (kfM d) n (v : Int))).length = 2 * (endM d v - v)
  | 0, v, hv, hn => by omega
  | n + 1, v, hv, hn => by
    rw [tx_tree h, List.length_cons, List.length_append, List.length_flatMap]
    have e : (kidsM d v).map (fun c => (tx n (ofT (kfM d) n ((c : Nat) : Int))).length) = (kidsM d v).map fun x => 2 * (endM d x - x) := by
      apply List.map_congr_left
      intro c hc
      have := kid_mem h hv hc
      exact tx_tree_len n c this.2.1 (by omega)
    rw [e, kidsM, run_sum h (run_kids h hv)]
    have := run_bd h (run_kids h hv)
    have := end_gt h hv
    simp only [List.length_cons, List.length_nil]
    omega
end
theorem flat_take_le {α β : Type} (f : α → List β) (l : List α) (j : Nat) (hj : j < l.length) : ((l.take j).flatMap f).length + (f l[j]).length ≤ (l.flatMap f).length := by
  have h1 := List.take_append_drop (j + 1) l
  have h2 : l.flatMap f = (l.take (j + 1)).flatMap f ++ (l.drop (j + 1)).flatMap f := by rw [← List.flatMap_append, h1]
  rw [h2, List.take_add_one, List.getElem?_eq_getElem hj, List.flatMap_append, List.length_append, List.length_append]
  show _ ≤ _ + ([l[j]].flatMap f).length + _
  rw [List.flatMap_cons, List.flatMap_nil, List.append_nil]
  omega
section
variable {d : List Int} (h : IsT d) (hn : d.length ≤ 24)
include h hn
theorem subtree_ev {v : Nat} (hv : v < d.length) : Ev (fun k => spec_l01Subtree.f k d (v : Int)) (sub d v) := by
  have h1 := end_gt h hv
  have h2 := end_le h hv
  unfold spec_l01Subtree.f
  refine Ev.bind (spec_l01End_ev h (by omega) hv) (ev_pos (by omega) (ev_pos (by omega) (ev_pos (by omega) ?_)))
  rw [Int.toNat_natCast, Int.toNat_natCast]
  have e : spec_l01Make.f ((d.take (endM d v)).drop v) = some (sub d v) := by
    unfold spec_l01Make.f spec_l01Own.f
    have hl := sub_length h hv
    rw [sub] at hl
    simp only [Option.bind_some, List.nil_append, List.length_nil]
    rw [if_pos (by omega)]
    rfl
  rw [e]
  exact ev_now rfl
theorem text_ev : ∀ (n v : Nat), v < d.length → d.length - v ≤ n → Ev (fun k => spec_l01Text.f k (sub d v)) (ofL (tx n (ofT (kfM d) n (v : Int))))
  | 0, v, hv, hm => by omega
  | n + 1, v, hv, hm => by
    have hg := end_gt h hv
    have hle := end_le h hv
    have hsl := sub_length h hv
    have hs := sub_tree h hv
    have hsk := sub_kids h hv (i := 0) (by omega)
    rw [Nat.add_zero] at hsk
    have htl := tx_tree_len h (n + 1) v hv hm
    rw [tx_tree h, List.length_cons, List.length_append] at htl
    rw [tx_tree h]
    have hc0 : Ev (fun k => spec_l01Children.f k (sub d v) 0) (castL (kidsM (sub d v) 0)) := spec_l01Children_ev hs (by omega) (v := 0) (by omega)
    refine Ev.step (fun k => by rw [spec_l01Text.f]) (Ev.bind hc0 ?_)
    have loop : ∀ (m j : Nat), j + m = (kidsM d v).length → Ev (fun k => spec_l01Text.l0 k (ofL (40 :: ((kidsM d v).take j).flatMap fun c => tx n (ofT (kfM d) n ((c : Nat) : Int)))) (castL (kidsM (sub d v) 0)) (j : Int) (sub d v)) (ofL (40 :: ((kidsM d v).flatMap (fun c => tx n (ofT (kfM d) n ((c : Nat) : Int))) ++ [41]))) := by
      have hcl : (castL (kidsM (sub d v) 0)).length = (kidsM d v).length := by rw [castL_length, hsk, List.length_map]
      have hkf := kids_few h hv
      intro m
      induction m with
      | zero =>
        intro j hj
        refine Ev.step (fun k => by rw [spec_l01Text.l0]) (ev_neg (by omega) (ev_pos ?_ (ev_now ?_)))
        · rw [ofL_size, List.length_cons, List.take_of_length_le (by omega)]; omega
        · rw [List.take_of_length_le (by omega), ← List.cons_append, ofL_append]; rfl
      | succ m ih =>
        intro j hj
        have hjl : j < (kidsM d v).length := by omega
        have hkm := kid_mem h hv (List.getElem_mem hjl)
        have hrd : rd (castL (kidsM (sub d v) 0)) (j : Int) = (((kidsM d v)[j] - v : Nat) : Int) := by
          rw [rd_nat, castL_getD _ _ (by rw [hsk, List.length_map]; exact hjl)]
          simp only [hsk, List.getElem_map]
        have hss : sub (sub d v) ((kidsM d v)[j] - v) = sub d (kidsM d v)[j] := by
          rw [sub_sub h hv (by omega), show v + ((kidsM d v)[j] - v) = (kidsM d v)[j] by omega]
        have hsub : Ev (fun k => spec_l01Subtree.f k (sub d v) (((kidsM d v)[j] - v : Nat) : Int)) (sub d (kidsM d v)[j]) := by
          have h1 := end_gt hs (v := (kidsM d v)[j] - v) (by omega)
          have h2 := end_le hs (v := (kidsM d v)[j] - v) (by omega)
          unfold spec_l01Subtree.f
          refine Ev.bind (spec_l01End_ev hs (by omega) (v := (kidsM d v)[j] - v) (by omega)) (ev_pos (by omega) (ev_pos (by omega) (ev_pos (by omega) ?_)))
          rw [Int.toNat_natCast, Int.toNat_natCast]
          have e : spec_l01Make.f (((sub d v).take (endM (sub d v) ((kidsM d v)[j] - v))).drop ((kidsM d v)[j] - v)) = some (sub d (kidsM d v)[j]) := by
            rw [← hss]
            unfold spec_l01Make.f spec_l01Own.f
            simp only [Option.bind_some, List.nil_append, List.length_nil]
            rw [if_pos (by rw [List.length_drop, List.length_take]; omega)]
            rfl
          rw [e]
          exact ev_now rfl
        have hfl := flat_take_le (fun c => tx n (ofT (kfM d) n ((c : Nat) : Int))) (kidsM d v) j hjl
        refine Ev.step (fun k => by rw [spec_l01Text.l0]) (ev_pos (by omega) (ev_pos (by omega) ?_))
        rw [hrd]
        refine Ev.bind hsub (Ev.bind (text_ev n (kidsM d v)[j] hkm.2.1 (by omega)) (ev_pos ?_ ?_))
        · rw [ofL_size, ofL_size, List.length_cons]; omega
        · rw [← ofL_append, w64s (by omega)]
          have := ih (j + 1) (by omega)
          rw [List.take_add_one, List.getElem?_eq_getElem hjl, List.flatMap_append] at this
          simpa using this
    have := loop (kidsM d v).length 0 (by omega)
    have e : ofL (40 :: ((kidsM d v).take 0).flatMap fun c => tx n (ofT (kfM d) n ((c : Nat) : Int))) = ⟨#[40]⟩ := rfl
    rw [e] at this
    exact this
def textM (d : List Int) (v : Nat) : ByteArray := ofL (tx 24 (treeP d (v : Int)))
theorem text_at {v : Nat} (hv : v < d.length) : Ev (fun k => spec_l01Text.f k (sub d v)) (textM d v) := text_ev h hn 24 v hv (by omega)
theorem text_match {s : ByteArray} {p : Pat} (hs : s.size ≤ 1048576) (hp : toP s = some p) {v : Nat} (hv : v < d.length) : Ev (fun k => spec_l04Match.f k s (textM d v)) (match matchS 61 24 p (treeP d (v : Int)) with | none => ([], false) | some l => (l, true)) := by
  obtain ⟨t0, g0⟩ := toP_text hp
  have hg := good_tree h 24 v hv (by omega)
  have hl := tx_tree_len h 24 v hv (by omega)
  have hle := end_le h hv
  exact match_ev hs (by rw [textM, ofL_size]; show (tx 24 (ofT (kfM d) 24 (v : Int))).length ≤ _; omega) g0 hg t0 (bytesL_ofL (tx_range 24 _ hg))
theorem hit_eq {s : ByteArray} {p : Pat} (hp : toP s = some p) {v : Nat} (hv : v < d.length) : hitM d p (v : Int) = (matchS 61 24 p (treeP d (v : Int))).isSome :=
  match_isSome 61 24 p _ _ (toP_text hp).2 (good_tree h 24 v hv (by omega))
end
theorem l04Code_ev (d : List Int) (s : ByteArray) (l : List Int) (hd : d.length ≤ 1048576) (hs : s.size ≤ 1048576) (hl : l.length ≤ 1048576) : Ev (fun k => spec_l04Code.f k d s l) (codeM d s l) := by
  unfold spec_l04Code.f
  refine Ev.bind (spec_l01Nodes_ev d hd l hl) ?_
  rw [codeM]
  by_cases ht : isTreeM d = true
  · have hc : codeL d l ≠ 1 := by rw [codeL, if_pos ht]; split <;> decide
    rw [if_pos ht]
    refine ev_neg hc (Ev.bind (l04Is_ev s hs) ?_)
    by_cases hp : isP s = true
    · exact ev_eq (ev_pos hp (ev_now rfl)) (if_pos hp).symm
    · exact ev_eq (ev_neg hp (ev_now rfl)) (if_neg hp).symm
  · have hc : codeL d l = 1 := by rw [codeL, if_neg ht]
    rw [if_neg ht]
    exact ev_pos hc (ev_now hc)
end Go.Proofs.Ytmambanmffdibaa.PT
namespace Go.Proofs.Ytmambanmffdibaa.PT
set_option linter.unusedVariables false
set_option linter.unusedSectionVars false
open Go.RowKit Go.Proofs.YtmambanmffdibaaW.PrintWords Go.Proofs.Ytmambanmffdibaa.Base Go.Proofs.Ytmambanmffdibaa.Tree Go.Proofs.Ytmambanmffdibaa.P Go.Proofs.Ytmambanmffdibaa.E
def txtF (F : Fill) (c : Int) : ByteArray := ofL (tx 24 ((F c).getD default))
theorem match_lists : ∀ (n nq : Nat) (p q : Pat) (F : Fill) (l : List ByteArray), goodP n p → Fine nq q → nq ≤ 24 → (letL n p).Nodup → matchS n nq p q = some l → l = (letL n p).map (txtF (matchP n p q F).2) ∧ ∀ c, c ∉ letL n p → (matchP n p q F).2 c = F c
  | 0, nq, p, q, F, l, h, _, _, _, _ => h.elim
  | n + 1, 0, p, q, F, l, _, h, _, _, _ => h.1.elim
  | n + 1, nq + 1, p, q, F, l, hp, hq, hn, hN, hm => by
    rw [matchS] at hm
    by_cases hz : p.letter = 0
    · have g1 : ¬ p.letter ≠ 0 := fun h => h hz
      have g2 : ¬ q.letter ≠ 0 := fun h => h hq.1.1
      rw [if_neg g1, if_neg g2] at hm
      rw [letL, if_pos hz] at hN
      rw [letL, if_pos hz, matchP, if_neg g1]
      have hl : p.kids.length = q.kids.length := by
        rcases Nat.lt_trichotomy p.kids.length q.kids.length with h | h | h
        · rw [matchSL_ne _ _ (by omega)] at hm; cases hm
        · exact h
        · rw [matchSL_ne _ _ (by omega)] at hm; cases hm
      have g3 : ¬ (q.letter ≠ 0 ∨ p.kids.length ≠ q.kids.length) := fun h => h.elim g2 (fun h => h hl)
      rw [if_neg g3]
      have key : ∀ (ks js : List Pat) (F : Fill) (l : List ByteArray), (∀ k ∈ ks, goodP n k) → (∀ j ∈ js, Fine nq j) → (ks.flatMap (letL n)).Nodup → matchSL (matchS n nq) ks js = some l → l = (ks.flatMap (letL n)).map (txtF (matchL (matchP n) ks js F).2) ∧ ∀ c, c ∉ ks.flatMap (letL n) → (matchL (matchP n) ks js F).2 c = F c := by
        intro ks
        induction ks with
        | nil =>
          intro js F l _ _ _ h
          cases js with
          | nil => obtain rfl := Option.some.inj h; exact ⟨rfl, fun c _ => rfl⟩
          | cons => cases h
        | cons k ks ih =>
          intro js F l hk hj hN h
          cases js with
          | nil => cases h
          | cons j js =>
            rw [matchSL] at h
            obtain ⟨x, h1, h2⟩ := Option.bind_eq_some_iff.1 h
            obtain ⟨y, h3, rfl⟩ := Option.map_eq_some_iff.1 h2
            rw [List.flatMap_cons] at hN ⊢
            obtain ⟨n1, n2, n3⟩ := List.nodup_append.1 hN
            have hgk := hk k List.mem_cons_self
            have hfj := hj j List.mem_cons_self
            obtain ⟨i1, i2⟩ := match_lists n nq k j F x hgk hfj (by omega) n1 h1
            have hs : (matchP n k j F).1 = true := by rw [match_isSome n nq k j F hgk (noL_good _ _ hfj.1), h1]; rfl
            obtain ⟨i3, i4⟩ := ih js (matchP n k j F).2 y (fun a ha => hk a (List.mem_cons_of_mem _ ha)) (fun a ha => hj a (List.mem_cons_of_mem _ ha)) n2 h3
            rw [matchL, if_pos hs, List.map_append]
            refine ⟨?_, fun c hc => ?_⟩
            · rw [← i3, i1]
              congr 1
              apply List.map_congr_left
              intro c hc
              rw [txtF, txtF, i4 c (fun h => n3 c hc c h rfl)]
            · rw [i4 c (fun h => hc (List.mem_append_right _ h)), i2 c (fun h => hc (List.mem_append_left _ h))]
      exact key p.kids q.kids F l hp.2 (fun j hj => fine_kid hq hj) hN hm
    · have g1 : p.letter ≠ 0 := hz
      rw [if_pos g1] at hm
      obtain rfl := Option.some.inj hm
      rw [letL, if_neg hz, matchP, if_pos g1]
      refine ⟨?_, fun c hc => ?_⟩
      · show [ofL (tx (nq + 1) q)] = [txtF (fun c => if c = p.letter then some q else F c) p.letter]
        have e : txtF (fun c => if c = p.letter then some q else F c) p.letter = ofL (tx 24 q) := by
          rw [txtF]
          show ofL (tx 24 ((if p.letter = p.letter then some q else F p.letter).getD default)) = _
          rw [if_pos rfl]; rfl
        rw [e, tx_up (nq + 1) 24 q hn hq.1]
      · show (if c = p.letter then some q else F c) = F c
        rw [if_neg (fun h => hc (by rw [h]; exact List.mem_singleton.2 rfl))]
theorem read_loop (F : Fill) (hF : FineF F) (L : List Int) (hL : ∀ c ∈ L, (F c).isSome = true) (hl : L.length ≤ 1000) : ∀ (m i : Nat), i + m = L.length → Ev (fun k => spec_OpenTrees.l0 k (L.map (txtF F)) ((opensM L F).take i) (i : Int)) (opensM L F, 0)
  | 0, i, hi => by
    rw [List.take_of_length_le (by rw [opensM, List.length_map]; omega)]
    refine Ev.step (fun k => by rw [spec_OpenTrees.l0]) ?_
    exact ev_neg (by rw [List.length_map]; omega) (ev_now rfl)
  | m + 1, i, hi => by
    have hil : i < L.length := by omega
    obtain ⟨q, hq⟩ := Option.isSome_iff_exists.1 (hL L[i] (List.getElem_mem hil))
    have hfq := hF _ q hq
    have htx : txtF F L[i] = ofL (tx 24 q) := by rw [txtF, hq]; rfl
    have hrd : rdOf ByteArray.empty (L.map (txtF F)) (i : Int) = ofL (tx 24 q) := by
      show (L.map (txtF F)).getD (i : Int).toNat ByteArray.empty = _
      rw [Int.toNat_natCast, List.getD_eq_getElem?_getD, List.getElem?_map, List.getElem?_eq_getElem hil, ← htx]; rfl
    have hread := read_ev (T := ofL (tx 24 q)) (by rw [ofL_size, tx_two 24 q hfq.1]; have := hfq.2; omega) hfq.1 (bytesL_ofL (tx_range 24 _ (noL_good _ _ hfq.1)))
    have hol : (opensM L F).length = L.length := by rw [opensM, List.length_map]
    refine Ev.step (fun k => by rw [spec_OpenTrees.l0]) ?_
    refine ev_pos (by rw [List.length_map]; omega) (ev_pos (by omega) ?_)
    rw [hrd]
    refine Ev.bind hread (ev_pos (by rw [List.length_take]; omega) ?_)
    rw [w64s (by omega)]
    have hst : (opensM L F).take (i + 1) = (opensM L F).take i ++ [(⟨degN 24 q⟩ : S31)] := by
      have h1 : i < (opensM L F).length := by rw [hol]; exact hil
      rw [List.take_add_one, List.getElem?_eq_getElem h1]
      congr 1
      show [(opensM L F)[i]] = _
      simp only [opensM, List.getElem_map]
      rw [hq]; rfl
    have := read_loop F hF L hL hl m (i + 1) (by omega)
    rw [hst] at this
    exact this
theorem spec_OpenTrees_ev (d : List Int) (v : Int) (s : ByteArray) (hd : d.length ≤ 1048576) (hs : s.size ≤ 1048576) : Ev (fun k => spec_OpenTrees.f k d v s) (openM d v s) := by
  unfold spec_OpenTrees.f
  refine Ev.bind (l04Code_ev d s [v] hd hs (by simp)) ?_
  rw [openM]
  by_cases h0 : codeM d s [v] = 0
  · rw [if_pos h0]
    refine ev_pos h0 ?_
    obtain ⟨ht, ⟨p, hp⟩, hl⟩ := codeM_zero h0
    obtain ⟨_, u, hv, hu⟩ := codeL_one hl
    obtain ⟨hT, hn⟩ := isTreeM_sound ht
    subst hv
    obtain ⟨hb, hg⟩ := toP_text hp
    have h60 : s.size ≤ 60 := by
      obtain ⟨q, h1, _⟩ := Option.bind_eq_some_iff.1 hp
      rw [whole] at h1
      split at h1
      · cases h1
      · omega
    have hN : (letL 61 p).Nodup := by
      obtain ⟨q, hq1, hq2⟩ := Option.bind_eq_some_iff.1 hp
      split at hq2
      · rename_i hN
        obtain rfl := Option.some.inj hq2
        rwa [letters_eq 61 q hg] at hN
      · cases hq2
    have hLl : (letL 61 p).length ≤ 1000 := by
      have h1 := letters_eq 61 p hg
      have h2 : (lettersN 61 p).size ≤ 60 := by
        obtain ⟨q, hq1, hq2⟩ := Option.bind_eq_some_iff.1 hp
        split at hq2
        · obtain rfl := Option.some.inj hq2
          exact (whole_good hq1).2
        · cases hq2
      rw [← h1, bytesL_length]; omega
    have hfq := treeP_fine hT hn hu
    have hfine := match_fine 61 24 p (treeP d (u : Int)) (fun _ => none) hg hfq (Nat.le_refl _) (fun c q h => by cases h)
    refine Ev.bind (subtree_ev hT hn hu) (Ev.bind (text_at hT hn hu) (Ev.bind (text_match hT hn hs hp hu) ?_))
    rw [hp]
    have hit := hit_eq hT hn hp hu
    have hit2 : hitM d p (u : Int) = (matchP 61 p (treeP d (u : Int)) fun _ => none).1 := rfl
    show Ev _ (if hitM d p (u : Int) = true then (opensM (letL 61 p) (matchP 61 p (treeP d (u : Int)) fun _ => none).2, (0 : Int)) else ([], 4))
    cases hm : matchS 61 24 p (treeP d (u : Int)) with
    | none =>
      rw [hm] at hit
      have hf : ¬ hitM d p (u : Int) = true := by rw [hit]; decide
      rw [if_neg hf]
      exact ev_neg (by decide) (ev_now rfl)
    | some l =>
      rw [hm] at hit
      have hf : hitM d p (u : Int) = true := by rw [hit]; rfl
      rw [if_pos hf]
      obtain ⟨m1, _⟩ := match_lists 61 24 p (treeP d (u : Int)) (fun _ => none) l hg hfq (Nat.le_refl _) hN hm
      obtain ⟨f1, f2⟩ := hfine
      have f3 := (f2 (hit2.symm.trans hf)).2
      have := read_loop _ f1 (letL 61 p) f3 hLl (letL 61 p).length 0 (by omega)
      rw [← m1] at this
      exact ev_pos rfl this
  · rw [if_neg h0]
    exact ev_neg h0 (ev_now rfl)
end Go.Proofs.Ytmambanmffdibaa.PT
namespace Go.Proofs.Ytmambanmffdibaa.Pure
set_option linter.unusedVariables false
set_option linter.unusedSectionVars false
open Go.RowKit Go.Proofs.YtmambanmffdibaaW.PrintWords Go.Proofs.Ytmambanmffdibaa.Base Go.Proofs.Ytmambanmffdibaa.PT Go.Proofs.Ytmambanmffdibaa.E
theorem open_few (d : List Int) (v : Int) (s : ByteArray) (hs : s.size ≤ 1048576) : (P.openM d v s).1.length ≤ 1048576 ∧ ∀ x ∈ (P.openM d v s).1, x.f0.length ≤ 1048576 := by
  rw [P.openM]
  by_cases h0 : P.codeM d s [v] = 0
  · rw [if_pos h0]
    by_cases hh : P.hitM d ((P.toP s).getD default) v = true
    · rw [if_pos hh]
      obtain ⟨ht, ⟨p, hp⟩, hl⟩ := P.codeM_zero h0
      obtain ⟨_, u, hv, hu⟩ := codeL_one hl
      obtain ⟨hT, hn⟩ := isTreeM_sound ht
      subst hv
      have hg := (toP_text hp).2
      have hfine := P.match_fine 61 24 p (P.treeP d (u : Int)) (fun _ => none) hg (P.treeP_fine hT hn hu) (Nat.le_refl _) (fun c q h => by cases h)
      rw [hp] at hh
      have hh2 : (P.matchP 61 p (P.treeP d (u : Int)) fun _ => none).1 = true := hh
      rw [hp]
      show (P.opensM (letL 61 p) (P.matchP 61 p (P.treeP d (u : Int)) fun _ => none).2).length ≤ 1048576 ∧ ∀ x ∈ P.opensM (letL 61 p) (P.matchP 61 p (P.treeP d (u : Int)) fun _ => none).2, x.f0.length ≤ 1048576
      obtain ⟨f1, f2⟩ := hfine
      have f3 := (f2 hh2).2
      generalize (P.matchP 61 p (P.treeP d (u : Int)) fun _ => none).2 = F at f1 f3
      have hLl : (letL 61 p).length ≤ 1048576 := by
        have h1 := letters_eq 61 p hg
        have h2 : (P.lettersN 61 p).size ≤ 60 := by
          obtain ⟨q, hq1, hq2⟩ := Option.bind_eq_some_iff.1 hp
          split at hq2
          · obtain rfl := Option.some.inj hq2
            exact (P.whole_good hq1).2
          · cases hq2
        rw [← h1, P.bytesL_length]; omega
      refine ⟨by rw [P.opensM, List.length_map]; exact hLl, fun x hx => ?_⟩
      obtain ⟨c, hc, rfl⟩ := List.mem_map.1 hx
      obtain ⟨q, hq⟩ := Option.isSome_iff_exists.1 (f3 c hc)
      have := (f1 c q hq).2
      show (P.degN 24 ((F c).getD default)).length ≤ 1048576
      rw [hq]
      show (P.degN 24 q).length ≤ _
      omega
    · rw [if_neg hh]; exact ⟨by simp, fun x hx => by cases hx⟩
  · rw [if_neg h0]; exact ⟨by simp, fun x hx => by cases hx⟩
theorem FnExactOpenTrees (l : List Int) (a1 : Int) (a2 : ByteArray) (hm : l.length ≤ maxLen) (_ : ∀ x ∈ l, (Lit.int .i64 x).wf = true) (_ : (Lit.int .i64 a1).wf = true) (_ : a2.size ≤ maxLen) : ∃ k, laws_FnExactOpenTrees.f k l a1 a2 = some true := by
  apply Ev.rounds
  unfold laws_FnExactOpenTrees.f
  by_cases hs : (a2.size : Int) > 1048576
  · exact ev_pos hs (ev_now rfl)
  · refine ev_neg hs ?_
    simp only [szTree_eq l 1048576 (by decide) (by decide) hm]
    refine ev_some ?_
    by_cases hb : (1048576 : Int) < l.length
    · rw [if_pos hb]
      exact ev_pos (by decide) (Ev.now _)
    · rw [if_neg hb]
      have hl : l.length ≤ 1048576 := by omega
      obtain ⟨hr, hf⟩ := open_few l a1 a2 (by omega)
      have hspec := spec_OpenTrees_ev l a1 a2 hl (by omega)
      have himp : Ev (fun _ : Nat => impl_OpenTrees.f l a1 a2) (P.openM l a1 a2) := Ev.now _
      generalize P.openM l a1 a2 = R at hr hf hspec himp
      have hle := (endT_le R.1 1 hf).1
      refine ev_neg (by omega) ?_
      refine Ev.bind (toTree_ev l hl) (Ev.bind hspec (Ev.bind (toTree_ev l hl) (Ev.bind himp (Ev.bind (eqTreeS_ev _ hr hf) (ev_pos rfl ?_)))))
      refine Ev.step (fun k => by rw [laws_FnExactOpenTrees.j0]) ?_
      refine ev_neg (by simp) ?_
      refine Ev.bind (toTree_ev l hl) (Ev.bind (eqTree_ev l hl) (ev_pos rfl (Ev.bind (markTree_ev l 1 (by decide) (by decide) hl) (ev_neg (by simp only; omega) (Ev.bind (eqTreeS_ev _ hr hf) (ev_pos rfl ?_))))))
      refine Ev.step (fun k => by rw [laws_FnExactOpenTrees.j1]) ?_
      refine ev_neg (by simp) ?_
      refine Ev.bind (markTreeS_ev R.1 1 (by decide) (by decide) hr hf) (Ev.bind (heldTreeS_ev R.1 1 (by decide) (by decide) hr hf) (ev_neg (by omega) (ev_pos rfl (Ev.bind (toTree_ev l hl) (Ev.bind himp (Ev.bind (eqTreeS_ev _ hr hf) (ev_pos rfl ?_)))))))
      refine Ev.step (fun k => by rw [laws_FnExactOpenTrees.j2]) ?_
      refine ev_neg (by simp) ?_
      exact Ev.bind (heldTreeS_ev R.1 1 (by decide) (by decide) hr hf) (ev_neg (by omega) (ev_pos rfl (Ev.now _)))
end Go.Proofs.Ytmambanmffdibaa.Pure
namespace Go.Proofs.Ytmambanmffdibaa.Open
set_option linter.unusedVariables false
set_option linter.unusedSectionVars false
open Go.RowKit Go.ChangeShapes Go.WideShapes Go.ChangeAt Go.Deep Go.Proofs.YtmambanmffdibaaW.PrintWords
section
variable {H : Type} {enc : TypeId × Value → H} {P : Program} {w : World} {base : Nat} {held : Bool}

def Opens {α : Type} (d : Kd α) (Q : α → Prop) (enc : TypeId × Value → H) (P : Program) (w : World) (base : Nat) (held : Bool) (t : TypeId) : Prop :=
  ∀ (fuel : Nat) (cs : List Value) (x : DataW H × List MemPlace), DataW.trod enc P w base (fun _ => true) held fuel t cs = some x → ∃ a, d.K w a cs ∧ Q a
theorem opens_int {t : TypeId} {k : IntKind} (ht : P.underlying t = some (.int k)) : Opens (Kd.int k) (fun n => (Lit.int k n).wf = true) enc P w base held t := by
  intro fuel cs x h
  obtain ⟨n, rfl, _, hw⟩ := DataW.trod_int ht h
  exact ⟨n, rfl, hw⟩
theorem opens_slice {α : Type} [Inhabited α] {d : Kd α} {Q : α → Prop} {t e : TypeId} (ht : P.underlying t = some (.slice e)) (hc : P.cellsOf e = d.sz) (he : Opens d Q enc P w base held e) :
    Opens (Kd.slice e d) (fun xs => xs.length ≤ maxLen ∧ ∀ y ∈ xs, Q y) enc P w base held t := by
  intro fuel cs x h
  rcases open_slice ht h with ⟨rfl, _⟩ | ⟨a, len, cap, m, n, D, Pl, rfl, _, hl, hm, hmm, _, each⟩
  · exact ⟨[], ⟨none, 0, rfl, Nat.le_refl _, rfl, by simp, fun h0 => by simp at h0⟩, by simp, by simp⟩
  · simp only [if_true] at hmm
    have hx : ∀ i, i < len → ∃ y : α, Q y ∧ ∃ cs', w.cells? base (a.add (i * P.cellsOf e)) (P.cellsOf e) = some cs' ∧ d.K w y cs' := by
      intro i hi
      obtain ⟨cs', h1, h2⟩ := each i (by omega)
      obtain ⟨y, hk, hq⟩ := he _ _ _ h2
      exact ⟨y, hq, cs', h1, hk⟩
    obtain ⟨f, hf⟩ := choose_lt hx
    refine ⟨(List.range len).map f, ⟨some a, cap, by simp, by simpa using hl, by simp, by unfold maxLen at hm; simp; omega, fun _ => ⟨a, rfl, fun j p hj => ?_⟩⟩, by simp; omega, fun y hy => ?_⟩
    · rw [List.getElem?_map] at hj
      have hjl : j < len := by
        rcases Nat.lt_or_ge j len with h | h
        · exact h
        · rw [List.getElem?_eq_none (by simpa using h)] at hj
          cases hj
      rw [List.getElem?_range hjl] at hj
      obtain rfl := Option.some.inj hj
      obtain ⟨_, cs', h1, h2⟩ := hf j hjl
      obtain ⟨_, h3, h4⟩ := World.cells?_some h1
      refine ⟨cs', d.K_len h2, h2, fun i u hu => ?_⟩
      have hi : i < P.cellsOf e := by
        rw [← h3]
        exact (List.getElem?_eq_some_iff.1 hu).1
      have h5 := h4 i hi
      rw [hu] at h5
      rw [Go.Deep.add_add] at h5
      rw [← hc]
      exact h5
    · obtain ⟨i, hi, rfl⟩ := List.mem_map.1 hy
      exact (hf i (List.mem_range.1 hi)).1
theorem slice_in {α : Type} [Inhabited α] {d : Kd α} {Q : α → Prop} {t e : TypeId} {v : Value} {fuel : Nat} {x : DataW H × List MemPlace} (ht : P.underlying t = some (.slice e)) (hc : P.cellsOf e = d.sz) (he : Opens d Q enc P w base held e)
    (h : DataW.trod enc P w base (fun _ => true) held fuel t [v] = some x) : ∃ (A : Option Addr) (c : Nat) (xs : List α), v = .slice A xs.length c ∧ xs.length ≤ c ∧ xs.length ≤ maxLen ∧ d.C w A xs.length xs ∧ ∀ y ∈ xs, Q y := by
  obtain ⟨xs, ⟨A, c, hv, hl, hC⟩, hm, hq⟩ := opens_slice ht hc he _ _ _ h
  obtain rfl : v = .slice A xs.length c := by simpa using hv
  exact ⟨A, c, xs, rfl, hl, hm, hC, hq⟩
theorem open_agg1 {spare : Nat → Bool} {r : Reach} {b0 : Nat} {t : TypeId} {f0 : Field} {v : Value} {d : DataW H} {p : List MemPlace} (hs : P.underlying t = some (.struct #[f0])) (hone : oneCellFields P #[f0] = true) (hC : P.cellsOf t = 1)
    (hv : Value.okWide P w r b0 t v) (h : DataW.Trod enc P w base spare held t v d p) :
    ∃ (v0 : Value) (y0 : DataW H × List MemPlace) (n : Nat), v = .agg #[v0] ∧ DataW.trod enc P w base spare held n f0.type [v0] = some y0 := by
  obtain ⟨cs, rfl, hsz⟩ := okWide_struct hs hv
  obtain ⟨c0, rfl⟩ : ∃ c0, cs = #[c0] := by
    obtain ⟨l⟩ := cs
    match l, hsz.trans hC with
    | [c0], _ => exact ⟨c0, rfl⟩
  obtain ⟨fuel, hf⟩ := h
  obtain ⟨y0, n, hx, _, h0⟩ := trod_struct1 hs hf
  obtain ⟨o0, k0⟩ := hone_of hone 0 f0 rfl
  exact ⟨c0, y0, n, rfl, by simpa [Value.cells, o0, k0] using h0⟩
end
end Go.Proofs.Ytmambanmffdibaa.Open
