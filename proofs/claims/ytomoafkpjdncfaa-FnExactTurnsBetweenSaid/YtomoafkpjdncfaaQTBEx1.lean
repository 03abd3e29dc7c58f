/- The row of the law FnExactTurnsBetween, out of its pure statement. -/
import Derived.Test.YtomoafkpjdncfaaQTBEx0
-- Written by wip/ext.py of this claim (contracts by the form of the kit's print; hand-written ones among them).
namespace Go.Proofs.Ytomoafkpjdncfaa.E
open Go.RowKit Go.Proofs.YtomoafkpjdncfaaW.PrintWords Go.Proofs.YtomoafkpjdncfaaW.PrintLast Go.Proofs.YtomoafkpjdncfaaW.PrintMore
attribute [local go_sem] max2_int min2_int max_two min_two max_three min_three max_four min_four   -- for this text's walks alone
set_option linter.unusedVariables false
set_option linter.unusedSimpArgs false

mutual
def spec_l03End.l0 : Nat → ByteArray → Int → Int → Option (Int)
  | 0, _, _, _ => none
  | k + 1, x0, x1, x5 => if x5 > 0 then (if x1 ≥ (x0.size : Int) then (spec_l03End.j1 k x0 x1 x5 true) else (if 0 ≤ x1 then (if x1 < (x0.size : Int) then (if (bt x0 x1) = 48 then (spec_l03End.j1 k x0 x1 x5 false) else (spec_l03End.j1 k x0 x1 x5 ((bt x0 x1) != 49))) else (none)) else (none))) else (some x1)
def spec_l03End.j1 : Nat → ByteArray → Int → Int → Bool → Option (Int)
  | 0, _, _, _, _ => none
  | k + 1, x0, x1, x5, x23 => if x23 = true then (some (-1)) else (if 0 ≤ x1 then (if x1 < (x0.size : Int) then (if (bt x0 x1) = 49 then (spec_l03End.l0 k x0 (wrap64 (x1 + 1)) (wrap64 (x5 + 1))) else (spec_l03End.l0 k x0 (wrap64 (x1 + 1)) (wrap64 (x5 - 1)))) else (none)) else (none))
end
def spec_l03End.f (k : Nat) (a0 : ByteArray) (a1 : Int) : Option (Int) := spec_l03End.l0 k a0 a1 1
set_option maxHeartbeats 8000000 in
set_option maxRecDepth 100000 in
theorem spec_l03End.calls (k : Nat) (a0 : ByteArray) (a1 : Int) (r : Int) (w : World) (h : spec_l03End.f k a0 a1 = some r) :
    Calls Try.prog 14 #[.string a0, .int .i64 a1] w fun e w' => e = .returned (.int .i64 r) ∧ Drawn0 w w' := by
  have H : (spec_l03End.l0 k a0 a1 1) = some r := h
  clear h
  have H' := Aside0.mk H
  clear H
  go_enter Try.func14, Try.ntmps14
  go_wp2
  go_loopg [1, 5] k (fun kq v1 v5 w' => ∃ (x1_1 : Int) (x5_1 : Int), v1 = .int .i64 x1_1 ∧ v5 = .int .i64 x5_1 ∧ Aside0 (spec_l03End.l0 kq a0 x1_1 x5_1 = some r) ∧ Aside0 (kq ≤ k) ∧ Drawn0 w w')
  case atStart => exact ⟨(a1), (1), (by first | rfl | (simp; done) | (simp [*]; done)), (by first | rfl | (simp; done) | (simp [*]; done)), H', ⟨Nat.le_refl _⟩, by repeat (first | exact Drawn0.refl _ | apply Drawn0.step)⟩
  case round =>
    clear H'
    try clear c1
    try clear p2
    obtain ⟨x1_1, x5_1, rfl, rfl, HA, HK1, ⟨m1, rfl⟩⟩ := hrel
    cases gk with
    | zero => exact absurd HA.out (by simp [spec_l03End.l0])
    | succ k1 =>
      have H := HA.out
      clear HA
      simp only [spec_l03End.l0] at H
      by_cases c3 : x5_1 > 0
      · rw [if_pos c3] at H
        have c3b0 : decide (0 < x5_1) = true := decide_eq_true c3
        clear c3
        have HC4 := Aside0.mk H
        clear H
        go_upto_region 3 with (fail)
        go_cut [23] (fun v23 wc => ∃ (kq : Nat) (x23_3 : Bool), v23 = .bool x23_3 ∧ Aside0 (spec_l03End.j1 kq a0 x1_1 x5_1 x23_3 = some r) ∧ Aside0 (kq ≤ k1) ∧ Drawn0 w wc)
        case first =>
          have H := HC4.out
          clear HC4
          by_cases c5 : x1_1 ≥ (a0.size : Int)
          · rw [if_pos c5] at H
            have c5b0 : decide ((a0.size : Int) ≤ x1_1) = true := decide_eq_true c5
            clear c5
            (first | rw [c5b0] | (simp only [i64_w, i32_w]; rw [c5b0]) | skip)
            have H' := Aside0.mk H
            clear H
            go_wp2
            go_meet
            case rel => exact ⟨_, (true), (by first | rfl | (simp; done) | (simp [*]; done)), H', ⟨by have := HK1.out; first | omega | exact Nat.le_refl _⟩, by repeat (first | exact Drawn0.refl _ | apply Drawn0.step)⟩
          · rw [if_neg c5] at H
            have c5b0 : decide ((a0.size : Int) ≤ x1_1) = false := decide_eq_false c5
            clear c5
            (first | rw [c5b0] | (simp only [i64_w, i32_w]; rw [c5b0]) | skip)
            by_cases c6 : 0 ≤ x1_1
            · rw [if_pos c6] at H
              have c6b0 : decide (0 ≤ x1_1) = true := decide_eq_true c6
              clear c6
              by_cases c7 : x1_1 < (a0.size : Int)
              · rw [if_pos c7] at H
                have c7b0 : decide (x1_1 < (a0.size : Int)) = true := decide_eq_true c7
                clear c7
                by_cases c9 : (bt a0 x1_1) = 48
                · rw [if_pos c9] at H
                  have c9b0 : ((bt a0 x1_1) == 48) = true := beq_iff_eq.mpr c9
                  have c9b1 : ((bt a0 x1_1) != 48) = false := bne_eq_false_iff_eq.mpr c9
                  clear c9
                  have H' := Aside0.mk H
                  clear H
                  have p8 : 0 ≤ (x1_1 : Int) := of_decide_eq_true (by first | (with_reducible assumption) | assumption)
                  have q8 : x1_1 < (a0.size : Int) := of_decide_eq_true (by first | (with_reducible assumption) | assumption)
                  have hx8 := bt_at a0 x1_1
                  replace p8 := eq_true p8
                  replace q8 := eq_true q8
                  go_wp2
                  go_meet
                  case rel => exact ⟨_, (false), (by first | rfl | (simp; done) | (simp [*]; done)), H', ⟨by have := HK1.out; first | omega | exact Nat.le_refl _⟩, by repeat (first | exact Drawn0.refl _ | apply Drawn0.step)⟩
                · rw [if_neg c9] at H
                  have c9b0 : ((bt a0 x1_1) == 48) = false := beq_eq_false_iff_ne.mpr c9
                  have c9b1 : ((bt a0 x1_1) != 48) = true := bne_iff_ne.mpr c9
                  have H' := Aside0.mk H
                  clear H
                  have p8 : 0 ≤ (x1_1 : Int) := of_decide_eq_true (by first | (with_reducible assumption) | assumption)
                  have q8 : x1_1 < (a0.size : Int) := of_decide_eq_true (by first | (with_reducible assumption) | assumption)
                  have hx8 := bt_at a0 x1_1
                  replace p8 := eq_true p8
                  replace q8 := eq_true q8
                  have p10 : 0 ≤ (x1_1 : Int) := of_decide_eq_true (by first | (with_reducible assumption) | assumption)
                  have q10 : x1_1 < (a0.size : Int) := of_decide_eq_true (by first | (with_reducible assumption) | assumption)
                  have hx10 := bt_at a0 x1_1
                  replace p10 := eq_true p10
                  replace q10 := eq_true q10
                  go_wp2
                  go_meet
                  case rel => exact ⟨_, (((bt a0 x1_1) != 49)), (by first | rfl | (simp; done) | (simp [*]; done)), H', ⟨by have := HK1.out; first | omega | exact Nat.le_refl _⟩, by repeat (first | exact Drawn0.refl _ | apply Drawn0.step)⟩
              · rw [if_neg c7] at H
                exact absurd H (by simp)
            · rw [if_neg c6] at H
              exact absurd H (by simp)
        case rest =>
          clear HC4
          try clear c1
          try clear p1
          try clear q1
          try clear hx1
          try clear p2
          try clear c3
          try clear c3b0
          try clear c5
          try clear c5b0
          try clear c6
          try clear c6b0
          try clear c7
          try clear c7b0
          try clear p8
          try clear q8
          try clear hx8
          try clear c9
          try clear c9b0
          try clear c9b1
          try clear p10
          try clear q10
          try clear hx10
          try clear p10
          try clear p2
          try clear p8
          try clear q10
          try clear q8
          obtain ⟨kq, x23_3, rfl, HA, HJ3, ⟨mc3, rfl⟩⟩ := hcut
          cases kq with
          | zero => exact absurd HA.out (by simp [spec_l03End.j1])
          | succ kj3 =>
            have H := HA.out
            clear HA
            simp only [spec_l03End.j1] at H
            by_cases c11 : x23_3 = true
            · subst c11
              have H1 : (some (-1)) = some r := by rw [if_pos rfl] at H; exact H
              clear H
              have H := H1
              clear H1
              obtain rfl := Option.some.inj H
              go_wp2
              go_ret
              exact ⟨by first | rfl | (simp; done) | (simp [*]; done), by repeat (first | exact Drawn0.refl _ | apply Drawn0.step)⟩
            · replace c11 := Bool.eq_false_iff.mpr c11
              subst c11
              have H1 : (if 0 ≤ x1_1 then (if x1_1 < (a0.size : Int) then (if (bt a0 x1_1) = 49 then (spec_l03End.l0 kj3 a0 (wrap64 (x1_1 + 1)) (wrap64 (x5_1 + 1))) else (spec_l03End.l0 kj3 a0 (wrap64 (x1_1 + 1)) (wrap64 (x5_1 - 1)))) else (none)) else (none)) = some r := by rw [if_neg (show ¬ (false = true) by decide)] at H; exact H
              clear H
              have H := H1
              clear H1
              by_cases c12 : 0 ≤ x1_1
              · rw [if_pos c12] at H
                have c12b0 : decide (0 ≤ x1_1) = true := decide_eq_true c12
                clear c12
                by_cases c13 : x1_1 < (a0.size : Int)
                · rw [if_pos c13] at H
                  have c13b0 : decide (x1_1 < (a0.size : Int)) = true := decide_eq_true c13
                  clear c13
                  by_cases c15 : (bt a0 x1_1) = 49
                  · rw [if_pos c15] at H
                    have c15b0 : ((bt a0 x1_1) == 49) = true := beq_iff_eq.mpr c15
                    have c15b1 : ((bt a0 x1_1) != 49) = false := bne_eq_false_iff_eq.mpr c15
                    clear c15
                    have H' := Aside0.mk H
                    clear H
                    have p14 : 0 ≤ (x1_1 : Int) := of_decide_eq_true (by first | (with_reducible assumption) | assumption)
                    have q14 : x1_1 < (a0.size : Int) := of_decide_eq_true (by first | (with_reducible assumption) | assumption)
                    have hx14 := bt_at a0 x1_1
                    replace p14 := eq_true p14
                    replace q14 := eq_true q14
                    go_wp2
                    go_roundg kj3
                    case measure => have := HK1.out; have := HJ3.out; omega
                    case rel => exact ⟨(wrap64 (x1_1 + 1)), (wrap64 (x5_1 + 1)), (by first | rfl | (simp; done) | (simp [*]; done)), (by first | rfl | (simp; done) | (simp [*]; done)), H', ⟨by have := HK1.out; have := HJ3.out; omega⟩, by repeat (first | exact Drawn0.refl _ | apply Drawn0.step)⟩
                  · rw [if_neg c15] at H
                    have c15b0 : ((bt a0 x1_1) == 49) = false := beq_eq_false_iff_ne.mpr c15
                    have c15b1 : ((bt a0 x1_1) != 49) = true := bne_iff_ne.mpr c15
                    have H' := Aside0.mk H
                    clear H
                    have p14 : 0 ≤ (x1_1 : Int) := of_decide_eq_true (by first | (with_reducible assumption) | assumption)
                    have q14 : x1_1 < (a0.size : Int) := of_decide_eq_true (by first | (with_reducible assumption) | assumption)
                    have hx14 := bt_at a0 x1_1
                    replace p14 := eq_true p14
                    replace q14 := eq_true q14
                    go_wp2
                    go_roundg kj3
                    case measure => have := HK1.out; have := HJ3.out; omega
                    case rel => exact ⟨(wrap64 (x1_1 + 1)), (wrap64 (x5_1 - 1)), (by first | rfl | (simp; done) | (simp [*]; done)), (by first | rfl | (simp; done) | (simp [*]; done)), H', ⟨by have := HK1.out; have := HJ3.out; omega⟩, by repeat (first | exact Drawn0.refl _ | apply Drawn0.step)⟩
                · rw [if_neg c13] at H
                  exact absurd H (by simp)
              · rw [if_neg c12] at H
                exact absurd H (by simp)
      · rw [if_neg c3] at H
        have c3b0 : decide (0 < x5_1) = false := decide_eq_false c3
        clear c3
        obtain rfl := Option.some.inj H
        go_wp2
        go_ret
        exact ⟨by first | rfl | (simp; done) | (simp [*]; done), by repeat (first | exact Drawn0.refl _ | apply Drawn0.step)⟩

def spec_l03Is.f (k : Nat) (a0 : ByteArray) : Option (Bool) := if (a0.size : Int) ≤ 47 then ((spec_l03End.f k a0 0).bind fun t101 => (some (t101 == (a0.size : Int)))) else (some false)
set_option maxHeartbeats 8000000 in
set_option maxRecDepth 100000 in
theorem spec_l03Is.calls (k : Nat) (a0 : ByteArray) (r : Bool) (w : World) (h : spec_l03Is.f k a0 = some r) :
    Calls Try.prog 12 #[.string a0] w fun e w' => e = .returned (.bool r) ∧ Drawn0 w w' := by
  have H : (if (a0.size : Int) ≤ 47 then ((spec_l03End.f k a0 0).bind fun t101 => (some (t101 == (a0.size : Int)))) else (some false)) = some r := h
  clear h
  by_cases c2 : (a0.size : Int) ≤ 47
  · rw [if_pos c2] at H
    have c2b0 : decide ((a0.size : Int) ≤ 47) = true := decide_eq_true c2
    have c2b1 : decide (a0.size ≤ 47) = true := decide_eq_true (by omega)
    clear c2
    replace H := Option.bind_eq_some_iff.mp H
    obtain ⟨t101, A30, H⟩ := H
    replace H : (some (t101 == (a0.size : Int))) = some r := H
    have A3 := Aside0.mk A30
    clear A30
    obtain rfl := Option.some.inj H
    go_enter Try.func12, Try.ntmps12
    go_wp2_with (first | (go_at_call 14; (with_reducible refine (spec_l03End.calls k a0 0 t101 _ A3.out).mono ?_); rintro e w' ⟨rfl, ⟨nd, rfl⟩⟩))
    go_ret
    exact ⟨by first | rfl | (simp; done) | (simp [*]; done), by repeat (first | exact Drawn0.refl _ | apply Drawn0.step)⟩
  · rw [if_neg c2] at H
    have c2b0 : decide ((a0.size : Int) ≤ 47) = false := decide_eq_false c2
    have c2b1 : decide (a0.size ≤ 47) = false := decide_eq_false (by omega)
    clear c2
    obtain rfl := Option.some.inj H
    go_enter Try.func12, Try.ntmps12
    go_wp2
    go_ret
    exact ⟨by first | rfl | (simp; done) | (simp [*]; done), by repeat (first | exact Drawn0.refl _ | apply Drawn0.step)⟩

def spec_l03Both.j0 : Nat → ByteArray → ByteArray → Bool → Option (Int)
  | 0, _, _, _ => none
  | k + 1, x0, x1, x5 => if x5 = true then (some 1) else (if (x0.size : Int) = (x1.size : Int) then (some 0) else (some 2))
def spec_l03Both.f (k : Nat) (a0 : ByteArray) (a1 : ByteArray) : Option (Int) := (spec_l03Is.f k a0).bind fun t102 => (if t102 = true then ((spec_l03Is.f k a1).bind fun t103 => (spec_l03Both.j0 k a0 a1 (!t103))) else (spec_l03Both.j0 k a0 a1 true))
set_option maxHeartbeats 8000000 in
set_option maxRecDepth 100000 in
theorem spec_l03Both.calls (k : Nat) (a0 : ByteArray) (a1 : ByteArray) (r : Int) (w : World) (h : spec_l03Both.f k a0 a1 = some r) :
    Calls Try.prog 6 #[.string a0, .string a1] w fun e w' => e = .returned (.int .i64 r) ∧ Drawn0 w w' := by
  have H : ((spec_l03Is.f k a0).bind fun t102 => (if t102 = true then ((spec_l03Is.f k a1).bind fun t103 => (spec_l03Both.j0 k a0 a1 (!t103))) else (spec_l03Both.j0 k a0 a1 true))) = some r := h
  clear h
  have HC3 := Aside0.mk H
  clear H
  go_enter Try.func6, Try.ntmps6
  go_upto_region 1 with (fail)
  go_cut [5] (fun v5 wc => ∃ (kq : Nat) (x5_2 : Bool), v5 = .bool x5_2 ∧ Aside0 (spec_l03Both.j0 kq a0 a1 x5_2 = some r) ∧ Aside0 (kq ≤ k) ∧ Drawn0 w wc)
  case first =>
    have H := HC3.out
    clear HC3
    replace H := Option.bind_eq_some_iff.mp H
    obtain ⟨t102, A40, H⟩ := H
    replace H : (if t102 = true then ((spec_l03Is.f k a1).bind fun t103 => (spec_l03Both.j0 k a0 a1 (!t103))) else (spec_l03Both.j0 k a0 a1 true)) = some r := H
    have A4 := Aside0.mk A40
    clear A40
    by_cases c5 : t102 = true
    · subst c5
      have H1 : ((spec_l03Is.f k a1).bind fun t103 => (spec_l03Both.j0 k a0 a1 (!t103))) = some r := by rw [if_pos rfl] at H; exact H
      clear H
      have H := H1
      clear H1
      replace H := Option.bind_eq_some_iff.mp H
      obtain ⟨t103, A60, H⟩ := H
      replace H : (spec_l03Both.j0 k a0 a1 (!t103)) = some r := H
      have A6 := Aside0.mk A60
      clear A60
      have H' := Aside0.mk H
      clear H
      go_wp2_with (first | ((with_reducible refine gate_callee (f := 12) rfl ?_); refine goesL_ (some 7) rfl rfl Try.func12 (by kernel_rfl) rfl #[.string a0] rfl (by (try simp only [List.map_toArray, List.map_cons, List.map_nil]); first | done | rfl | (simp only [List.length_drop, List.length_take]; rfl)) ?_; (with_reducible refine (spec_l03Is.calls k a0 true _ A4.out).mono ?_); rintro e w' ⟨rfl, ⟨nd, rfl⟩⟩; refine ⟨_, rfl, ?_⟩) | (go_at_call 12; (with_reducible refine (spec_l03Is.calls k a1 t103 _ A6.out).mono ?_); rintro e w' ⟨rfl, ⟨nd, rfl⟩⟩))
      go_meet
      case rel => exact ⟨_, (!t103), (by first | rfl | (simp; done) | (simp [*]; done)), H', ⟨by first | omega | exact Nat.le_refl _⟩, by repeat (first | exact Drawn0.refl _ | apply Drawn0.step)⟩
    · replace c5 := Bool.eq_false_iff.mpr c5
      subst c5
      have H1 : (spec_l03Both.j0 k a0 a1 true) = some r := by rw [if_neg (show ¬ (false = true) by decide)] at H; exact H
      clear H
      have H := H1
      clear H1
      have H' := Aside0.mk H
      clear H
      go_wp2_with (first | ((with_reducible refine gate_callee (f := 12) rfl ?_); refine goesL_ (some 7) rfl rfl Try.func12 (by kernel_rfl) rfl #[.string a0] rfl (by (try simp only [List.map_toArray, List.map_cons, List.map_nil]); first | done | rfl | (simp only [List.length_drop, List.length_take]; rfl)) ?_; (with_reducible refine (spec_l03Is.calls k a0 false _ A4.out).mono ?_); rintro e w' ⟨rfl, ⟨nd, rfl⟩⟩; refine ⟨_, rfl, ?_⟩))
      go_meet
      case rel => exact ⟨_, (true), (by first | rfl | (simp; done) | (simp [*]; done)), H', ⟨by first | omega | exact Nat.le_refl _⟩, by repeat (first | exact Drawn0.refl _ | apply Drawn0.step)⟩
  case rest =>
    clear HC3
    try clear c1
    try clear p2
    try clear c5
    try clear c6
    obtain ⟨kq, x5_2, rfl, HA, HJ2, ⟨mc2, rfl⟩⟩ := hcut
    cases kq with
    | zero => exact absurd HA.out (by simp [spec_l03Both.j0])
    | succ kj2 =>
      have H := HA.out
      clear HA
      simp only [spec_l03Both.j0] at H
      by_cases c7 : x5_2 = true
      · subst c7
        have H1 : (some 1) = some r := by rw [if_pos rfl] at H; exact H
        clear H
        have H := H1
        clear H1
        obtain rfl := Option.some.inj H
        go_wp2
        go_ret
        exact ⟨by first | rfl | (simp; done) | (simp [*]; done), by repeat (first | exact Drawn0.refl _ | apply Drawn0.step)⟩
      · replace c7 := Bool.eq_false_iff.mpr c7
        subst c7
        have H1 : (if (a0.size : Int) = (a1.size : Int) then (some 0) else (some 2)) = some r := by rw [if_neg (show ¬ (false = true) by decide)] at H; exact H
        clear H
        have H := H1
        clear H1
        by_cases c8 : (a0.size : Int) = (a1.size : Int)
        · rw [if_pos c8] at H
          have c8b0 : ((a0.size : Int) == (a1.size : Int)) = true := beq_iff_eq.mpr c8
          have c8b1 : ((a0.size : Int) != (a1.size : Int)) = false := bne_eq_false_iff_eq.mpr c8
          have c8b2 : (a0.size == a1.size) = true := by first | simpa using c8 | (simp at c8 ⊢; omega)
          clear c8
          obtain rfl := Option.some.inj H
          go_wp2
          go_ret
          exact ⟨by first | rfl | (simp; done) | (simp [*]; done), by repeat (first | exact Drawn0.refl _ | apply Drawn0.step)⟩
        · rw [if_neg c8] at H
          have c8b0 : ((a0.size : Int) == (a1.size : Int)) = false := beq_eq_false_iff_ne.mpr c8
          have c8b1 : ((a0.size : Int) != (a1.size : Int)) = true := bne_iff_ne.mpr c8
          have c8b2 : (a0.size == a1.size) = false := by first | simpa using c8 | (simp at c8 ⊢; omega)
          obtain rfl := Option.some.inj H
          go_wp2
          go_ret
          exact ⟨by first | rfl | (simp; done) | (simp [*]; done), by repeat (first | exact Drawn0.refl _ | apply Drawn0.step)⟩

def spec_l03N.f (a0 : ByteArray) : Option (Int) := some (wrap64 ((a0.size : Int) / 2))
set_option maxHeartbeats 8000000 in
set_option maxRecDepth 100000 in
theorem spec_l03N.calls (a0 : ByteArray) (r : Int) (w : World) (h : spec_l03N.f a0 = some r) :
    Calls Try.prog 7 #[.string a0] w fun e w' => e = .returned (.int .i64 r) ∧ Drawn0 w w' := by
  have H : (some (wrap64 ((a0.size : Int) / 2))) = some r := h
  clear h
  obtain rfl := Option.some.inj H
  go_enter Try.func7, Try.ntmps7
  go_wp2
  go_ret
  exact ⟨by first | rfl | (simp; done) | (simp [*]; done), by repeat (first | exact Drawn0.refl _ | apply Drawn0.step)⟩

def spec_l03Place.l0 : Nat → ByteArray → Int → Int → Option (Int)
  | 0, _, _, _ => none
  | k + 1, x0, x1, x5 => if 0 ≤ x5 then (if x5 < (x0.size : Int) then (if (bt x0 x5) = 49 then (if x1 = 0 then (some x5) else (spec_l03Place.l0 k x0 (wrap64 (x1 - 1)) (wrap64 (x5 + 1)))) else (spec_l03Place.l0 k x0 x1 (wrap64 (x5 + 1)))) else (none)) else (none)
def spec_l03Place.f (k : Nat) (a0 : ByteArray) (a1 : Int) : Option (Int) := spec_l03Place.l0 k a0 a1 0
set_option maxHeartbeats 8000000 in
set_option maxRecDepth 100000 in
theorem spec_l03Place.calls (k : Nat) (a0 : ByteArray) (a1 : Int) (r : Int) (w : World) (h : spec_l03Place.f k a0 a1 = some r) :
    Calls Try.prog 13 #[.string a0, .int .i64 a1] w fun e w' => e = .returned (.int .i64 r) ∧ Drawn0 w w' := by
  have H : (spec_l03Place.l0 k a0 a1 0) = some r := h
  clear h
  have H' := Aside0.mk H
  clear H
  go_enter Try.func13, Try.ntmps13
  go_wp2
  go_loopg [1, 5] k (fun kq v1 v5 w' => ∃ (x1_1 : Int) (x5_1 : Int), v1 = .int .i64 x1_1 ∧ v5 = .int .i64 x5_1 ∧ Aside0 (spec_l03Place.l0 kq a0 x1_1 x5_1 = some r) ∧ Aside0 (kq ≤ k) ∧ Drawn0 w w')
  case atStart => exact ⟨(a1), (0), (by first | rfl | (simp; done) | (simp [*]; done)), (by first | rfl | (simp; done) | (simp [*]; done)), H', ⟨Nat.le_refl _⟩, by repeat (first | exact Drawn0.refl _ | apply Drawn0.step)⟩
  case round =>
    clear H'
    try clear c1
    try clear p2
    obtain ⟨x1_1, x5_1, rfl, rfl, HA, HK1, ⟨m1, rfl⟩⟩ := hrel
    cases gk with
    | zero => exact absurd HA.out (by simp [spec_l03Place.l0])
    | succ k1 =>
      have H := HA.out
      clear HA
      simp only [spec_l03Place.l0] at H
      by_cases c3 : 0 ≤ x5_1
      · rw [if_pos c3] at H
        have c3b0 : decide (0 ≤ x5_1) = true := decide_eq_true c3
        clear c3
        by_cases c4 : x5_1 < (a0.size : Int)
        · rw [if_pos c4] at H
          have c4b0 : decide (x5_1 < (a0.size : Int)) = true := decide_eq_true c4
          clear c4
          by_cases c6 : (bt a0 x5_1) = 49
          · rw [if_pos c6] at H
            have c6b0 : ((bt a0 x5_1) == 49) = true := beq_iff_eq.mpr c6
            have c6b1 : ((bt a0 x5_1) != 49) = false := bne_eq_false_iff_eq.mpr c6
            clear c6
            by_cases c7 : x1_1 = 0
            · rw [if_pos c7] at H
              have c7b0 : (x1_1 == 0) = true := beq_iff_eq.mpr c7
              have c7b1 : (x1_1 != 0) = false := bne_eq_false_iff_eq.mpr c7
              clear c7
              obtain rfl := Option.some.inj H
              have p5 : 0 ≤ (x5_1 : Int) := of_decide_eq_true (by first | (with_reducible assumption) | assumption)
              have q5 : x5_1 < (a0.size : Int) := of_decide_eq_true (by first | (with_reducible assumption) | assumption)
              have hx5 := bt_at a0 x5_1
              replace p5 := eq_true p5
              replace q5 := eq_true q5
              go_wp2
              go_ret
              exact ⟨by first | rfl | (simp; done) | (simp [*]; done), by repeat (first | exact Drawn0.refl _ | apply Drawn0.step)⟩
            · rw [if_neg c7] at H
              have c7b0 : (x1_1 == 0) = false := beq_eq_false_iff_ne.mpr c7
              have c7b1 : (x1_1 != 0) = true := bne_iff_ne.mpr c7
              have H' := Aside0.mk H
              clear H
              have p5 : 0 ≤ (x5_1 : Int) := of_decide_eq_true (by first | (with_reducible assumption) | assumption)
              have q5 : x5_1 < (a0.size : Int) := of_decide_eq_true (by first | (with_reducible assumption) | assumption)
              have hx5 := bt_at a0 x5_1
              replace p5 := eq_true p5
              replace q5 := eq_true q5
              go_wp2
              go_roundg k1
              case measure => have := HK1.out; omega
              case rel => exact ⟨(wrap64 (x1_1 - 1)), (wrap64 (x5_1 + 1)), (by first | rfl | (simp; done) | (simp [*]; done)), (by first | rfl | (simp; done) | (simp [*]; done)), H', ⟨by have := HK1.out; omega⟩, by repeat (first | exact Drawn0.refl _ | apply Drawn0.step)⟩
          · rw [if_neg c6] at H
            have c6b0 : ((bt a0 x5_1) == 49) = false := beq_eq_false_iff_ne.mpr c6
            have c6b1 : ((bt a0 x5_1) != 49) = true := bne_iff_ne.mpr c6
            have H' := Aside0.mk H
            clear H
            have p5 : 0 ≤ (x5_1 : Int) := of_decide_eq_true (by first | (with_reducible assumption) | assumption)
            have q5 : x5_1 < (a0.size : Int) := of_decide_eq_true (by first | (with_reducible assumption) | assumption)
            have hx5 := bt_at a0 x5_1
            replace p5 := eq_true p5
            replace q5 := eq_true q5
            go_wp2
            go_roundg k1
            case measure => have := HK1.out; omega
            case rel => exact ⟨(x1_1), (wrap64 (x5_1 + 1)), (by first | rfl | (simp; done) | (simp [*]; done)), (by first | rfl | (simp; done) | (simp [*]; done)), H', ⟨by have := HK1.out; omega⟩, by repeat (first | exact Drawn0.refl _ | apply Drawn0.step)⟩
        · rw [if_neg c4] at H
          exact absurd H (by simp)
      · rw [if_neg c3] at H
        exact absurd H (by simp)

def spec_l03Sides.f (k : Nat) (a0 : ByteArray) : Option (ByteArray × ByteArray) := (spec_l03End.f k a0 1).bind fun t104 => (if 1 ≤ t104 then (if t104 ≤ (a0.size : Int) then (if 0 ≤ t104 then (some (a0.extract 1 (t104 : Int).toNat, a0.extract (t104 : Int).toNat a0.size)) else (none)) else (none)) else (none))
set_option maxHeartbeats 8000000 in
set_option maxRecDepth 100000 in
theorem spec_l03Sides.calls (k : Nat) (a0 : ByteArray) (r1 : ByteArray) (r2 : ByteArray) (w : World) (h : spec_l03Sides.f k a0 = some (r1, r2)) :
    Calls Try.prog 15 #[.string a0] w fun e w' => e = .returned (.tuple #[.string r1, .string r2]) ∧ Drawn0 w w' := by
  have H : ((spec_l03End.f k a0 1).bind fun t104 => (if 1 ≤ t104 then (if t104 ≤ (a0.size : Int) then (if 0 ≤ t104 then (some (a0.extract 1 (t104 : Int).toNat, a0.extract (t104 : Int).toNat a0.size)) else (none)) else (none)) else (none))) = some (r1, r2) := h
  clear h
  replace H := Option.bind_eq_some_iff.mp H
  obtain ⟨t104, A20, H⟩ := H
  replace H : (if 1 ≤ t104 then (if t104 ≤ (a0.size : Int) then (if 0 ≤ t104 then (some (a0.extract 1 (t104 : Int).toNat, a0.extract (t104 : Int).toNat a0.size)) else (none)) else (none)) else (none)) = some (r1, r2) := H
  have A2 := Aside0.mk A20
  clear A20
  by_cases c3 : 1 ≤ t104
  · rw [if_pos c3] at H
    have c3b0 := eq_true c3
    have c3b1 : decide (1 ≤ t104) = true := decide_eq_true c3
    clear c3
    by_cases c4 : t104 ≤ (a0.size : Int)
    · rw [if_pos c4] at H
      have c4b0 := eq_true c4
      have c4b1 : decide (t104 ≤ (a0.size : Int)) = true := decide_eq_true c4
      clear c4
      by_cases c5 : 0 ≤ t104
      · rw [if_pos c5] at H
        have c5b0 := eq_true c5
        have c5b1 : decide (0 ≤ t104) = true := decide_eq_true c5
        clear c5
        have c6b0 := eq_true (of_decide_eq_true (by first | (with_reducible assumption) | assumption) : t104 ≤ (a0.size : Int))
        simp only [Option.some.injEq, Prod.mk.injEq] at H
        obtain ⟨rfl, rfl⟩ := H
        go_enter Try.func15, Try.ntmps15
        go_wp2_with (first | (go_at_call 14; (with_reducible refine (spec_l03End.calls k a0 1 t104 _ A2.out).mono ?_); rintro e w' ⟨rfl, ⟨nd, rfl⟩⟩; (try first | exact ⟨rfl, _, World.drewN_drewN _ _ _⟩ | exact ⟨rfl, _, Eq.trans (World.drewN_drewN _ _ _) (congrArg (World.drewN _) (Nat.add_assoc _ _ _))⟩)))
        repeat (go_quiet (first | (go_at_call 14; (with_reducible refine (spec_l03End.calls k a0 1 t104 _ A2.out).mono ?_); rintro e w' ⟨rfl, ⟨nd, rfl⟩⟩; (try first | exact ⟨rfl, _, World.drewN_drewN _ _ _⟩ | exact ⟨rfl, _, Eq.trans (World.drewN_drewN _ _ _) (congrArg (World.drewN _) (Nat.add_assoc _ _ _))⟩))); try go_wp2_with (first | (go_at_call 14; (with_reducible refine (spec_l03End.calls k a0 1 t104 _ A2.out).mono ?_); rintro e w' ⟨rfl, ⟨nd, rfl⟩⟩; (try first | exact ⟨rfl, _, World.drewN_drewN _ _ _⟩ | exact ⟨rfl, _, Eq.trans (World.drewN_drewN _ _ _) (congrArg (World.drewN _) (Nat.add_assoc _ _ _))⟩))))
        go_ret2
        exact ⟨by first | rfl | (simp; done) | (simp [*]; done), by repeat (first | exact Drawn0.refl _ | apply Drawn0.step)⟩
      · rw [if_neg c5] at H
        exact absurd H (by simp)
    · rw [if_neg c4] at H
      exact absurd H (by simp)
  · rw [if_neg c3] at H
    exact absurd H (by simp)

def spec_l03Turn.f (k : Nat) (a0 : ByteArray) (a1 : Int) (a2 : Bool) : Option (ByteArray × Bool) := (spec_l03Place.f k a0 a1).bind fun t105 => ((spec_l03End.f k a0 t105).bind fun t106 => (if 0 ≤ t105 then (if t105 ≤ t106 then (if t106 ≤ (a0.size : Int) then ((spec_l03Sides.f k (a0.extract (t105 : Int).toNat (t106 : Int).toNat)).bind fun bt107 => (if a2 = true then (if bt107.1.toList = ([48] : List UInt8) then (some ((⟨#[]⟩ : ByteArray), false)) else ((spec_l03Sides.f k bt107.1).bind fun bt109 => (if t105 ≤ (a0.size : Int) then (if (a0.extract 0 (t105 : Int).toNat).size + 1 ≤ 9223372036854775807 then (if ((a0.extract 0 (t105 : Int).toNat) ++ (⟨#[49]⟩ : ByteArray)).size + bt109.1.size ≤ 9223372036854775807 then (if (((a0.extract 0 (t105 : Int).toNat) ++ (⟨#[49]⟩ : ByteArray)) ++ bt109.1).size + 1 ≤ 9223372036854775807 then (if ((((a0.extract 0 (t105 : Int).toNat) ++ (⟨#[49]⟩ : ByteArray)) ++ bt109.1) ++ (⟨#[49]⟩ : ByteArray)).size + bt109.2.size ≤ 9223372036854775807 then (if (((((a0.extract 0 (t105 : Int).toNat) ++ (⟨#[49]⟩ : ByteArray)) ++ bt109.1) ++ (⟨#[49]⟩ : ByteArray)) ++ bt109.2).size + bt107.2.size ≤ 9223372036854775807 then (if 0 ≤ t106 then (if ((((((a0.extract 0 (t105 : Int).toNat) ++ (⟨#[49]⟩ : ByteArray)) ++ bt109.1) ++ (⟨#[49]⟩ : ByteArray)) ++ bt109.2) ++ bt107.2).size + (a0.extract (t106 : Int).toNat a0.size).size ≤ 9223372036854775807 then (some (((((((a0.extract 0 (t105 : Int).toNat) ++ (⟨#[49]⟩ : ByteArray)) ++ bt109.1) ++ (⟨#[49]⟩ : ByteArray)) ++ bt109.2) ++ bt107.2) ++ (a0.extract (t106 : Int).toNat a0.size), true)) else (none)) else (none)) else (none)) else (none)) else (none)) else (none)) else (none)) else (none)))) else (if bt107.2.toList = ([48] : List UInt8) then (some ((⟨#[]⟩ : ByteArray), false)) else ((spec_l03Sides.f k bt107.2).bind fun bt111 => (if t105 ≤ (a0.size : Int) then (if (a0.extract 0 (t105 : Int).toNat).size + 2 ≤ 9223372036854775807 then (if ((a0.extract 0 (t105 : Int).toNat) ++ (⟨#[49, 49]⟩ : ByteArray)).size + bt107.1.size ≤ 9223372036854775807 then (if (((a0.extract 0 (t105 : Int).toNat) ++ (⟨#[49, 49]⟩ : ByteArray)) ++ bt107.1).size + bt111.1.size ≤ 9223372036854775807 then (if ((((a0.extract 0 (t105 : Int).toNat) ++ (⟨#[49, 49]⟩ : ByteArray)) ++ bt107.1) ++ bt111.1).size + bt111.2.size ≤ 9223372036854775807 then (if 0 ≤ t106 then (if (((((a0.extract 0 (t105 : Int).toNat) ++ (⟨#[49, 49]⟩ : ByteArray)) ++ bt107.1) ++ bt111.1) ++ bt111.2).size + (a0.extract (t106 : Int).toNat a0.size).size ≤ 9223372036854775807 then (some ((((((a0.extract 0 (t105 : Int).toNat) ++ (⟨#[49, 49]⟩ : ByteArray)) ++ bt107.1) ++ bt111.1) ++ bt111.2) ++ (a0.extract (t106 : Int).toNat a0.size), true)) else (none)) else (none)) else (none)) else (none)) else (none)) else (none)) else (none)))))) else (none)) else (none)) else (none)))
set_option maxHeartbeats 8000000 in
set_option maxRecDepth 100000 in
theorem spec_l03Turn.calls (k : Nat) (a0 : ByteArray) (a1 : Int) (a2 : Bool) (r1 : ByteArray) (r2 : Bool) (w : World) (h : spec_l03Turn.f k a0 a1 a2 = some (r1, r2)) :
    Calls Try.prog 8 #[.string a0, .int .i64 a1, .bool a2] w fun e w' => e = .returned (.tuple #[.string r1, .bool r2]) ∧ Drawn0 w w' := by
  have H : ((spec_l03Place.f k a0 a1).bind fun t105 => ((spec_l03End.f k a0 t105).bind fun t106 => (if 0 ≤ t105 then (if t105 ≤ t106 then (if t106 ≤ (a0.size : Int) then ((spec_l03Sides.f k (a0.extract (t105 : Int).toNat (t106 : Int).toNat)).bind fun bt107 => (if a2 = true then (if bt107.1.toList = ([48] : List UInt8) then (some ((⟨#[]⟩ : ByteArray), false)) else ((spec_l03Sides.f k bt107.1).bind fun bt109 => (if t105 ≤ (a0.size : Int) then (if (a0.extract 0 (t105 : Int).toNat).size + 1 ≤ 9223372036854775807 then (if ((a0.extract 0 (t105 : Int).toNat) ++ (⟨#[49]⟩ : ByteArray)).size + bt109.1.size ≤ 9223372036854775807 then (if (((a0.extract 0 (t105 : Int).toNat) ++ (⟨#[49]⟩ : ByteArray)) ++ bt109.1).size + 1 ≤ 9223372036854775807 then (if ((((a0.extract 0 (t105 : Int).toNat) ++ (⟨#[49]⟩ : ByteArray)) ++ bt109.1) ++ (⟨#[49]⟩ : ByteArray)).size + bt109.2.size ≤ 9223372036854775807 then (if (((((a0.extract 0 (t105 : Int).toNat) ++ (⟨#[49]⟩ : ByteArray)) ++ bt109.1) ++ (⟨#[49]⟩ : ByteArray)) ++ bt109.2).size + bt107.2.size ≤ 9223372036854775807 then (if 0 ≤ t106 then (if ((((((a0.extract 0 (t105 : Int).toNat) ++ (⟨#[49]⟩ : ByteArray)) ++ bt109.1) ++ (⟨#[49]⟩ : ByteArray)) ++ bt109.2) ++ bt107.2).size + (a0.extract (t106 : Int).toNat a0.size).size ≤ 9223372036854775807 then (some (((((((a0.extract 0 (t105 : Int).toNat) ++ (⟨#[49]⟩ : ByteArray)) ++ bt109.1) ++ (⟨#[49]⟩ : ByteArray)) ++ bt109.2) ++ bt107.2) ++ (a0.extract (t106 : Int).toNat a0.size), true)) else (none)) else (none)) else (none)) else (none)) else (none)) else (none)) else (none)) else (none)))) else (if bt107.2.toList = ([48] : List UInt8) then (some ((⟨#[]⟩ : ByteArray), false)) else ((spec_l03Sides.f k bt107.2).bind fun bt111 => (if t105 ≤ (a0.size : Int) then (if (a0.extract 0 (t105 : Int).toNat).size + 2 ≤ 9223372036854775807 then (if ((a0.extract 0 (t105 : Int).toNat) ++ (⟨#[49, 49]⟩ : ByteArray)).size + bt107.1.size ≤ 9223372036854775807 then (if (((a0.extract 0 (t105 : Int).toNat) ++ (⟨#[49, 49]⟩ : ByteArray)) ++ bt107.1).size + bt111.1.size ≤ 9223372036854775807 then (if ((((a0.extract 0 (t105 : Int).toNat) ++ (⟨#[49, 49]⟩ : ByteArray)) ++ bt107.1) ++ bt111.1).size + bt111.2.size ≤ 9223372036854775807 then (if 0 ≤ t106 then (if (((((a0.extract 0 (t105 : Int).toNat) ++ (⟨#[49, 49]⟩ : ByteArray)) ++ bt107.1) ++ bt111.1) ++ bt111.2).size + (a0.extract (t106 : Int).toNat a0.size).size ≤ 9223372036854775807 then (some ((((((a0.extract 0 (t105 : Int).toNat) ++ (⟨#[49, 49]⟩ : ByteArray)) ++ bt107.1) ++ bt111.1) ++ bt111.2) ++ (a0.extract (t106 : Int).toNat a0.size), true)) else (none)) else (none)) else (none)) else (none)) else (none)) else (none)) else (none)))))) else (none)) else (none)) else (none)))) = some (r1, r2) := h
  clear h
  replace H := Option.bind_eq_some_iff.mp H
  obtain ⟨t105, A40, H⟩ := H
  replace H : ((spec_l03End.f k a0 t105).bind fun t106 => (if 0 ≤ t105 then (if t105 ≤ t106 then (if t106 ≤ (a0.size : Int) then ((spec_l03Sides.f k (a0.extract (t105 : Int).toNat (t106 : Int).toNat)).bind fun bt107 => (if a2 = true then (if bt107.1.toList = ([48] : List UInt8) then (some ((⟨#[]⟩ : ByteArray), false)) else ((spec_l03Sides.f k bt107.1).bind fun bt109 => (if t105 ≤ (a0.size : Int) then (if (a0.extract 0 (t105 : Int).toNat).size + 1 ≤ 9223372036854775807 then (if ((a0.extract 0 (t105 : Int).toNat) ++ (⟨#[49]⟩ : ByteArray)).size + bt109.1.size ≤ 9223372036854775807 then (if (((a0.extract 0 (t105 : Int).toNat) ++ (⟨#[49]⟩ : ByteArray)) ++ bt109.1).size + 1 ≤ 9223372036854775807 then (if ((((a0.extract 0 (t105 : Int).toNat) ++ (⟨#[49]⟩ : ByteArray)) ++ bt109.1) ++ (⟨#[49]⟩ : ByteArray)).size + bt109.2.size ≤ 9223372036854775807 then (if (((((a0.extract 0 (t105 : Int).toNat) ++ (⟨#[49]⟩ : ByteArray)) ++ bt109.1) ++ (⟨#[49]⟩ : ByteArray)) ++ bt109.2).size + bt107.2.size ≤ 9223372036854775807 then (if 0 ≤ t106 then (if ((((((a0.extract 0 (t105 : Int).toNat) ++ (⟨#[49]⟩ : ByteArray)) ++ bt109.1) ++ (⟨#[49]⟩ : ByteArray)) ++ bt109.2) ++ bt107.2).size + (a0.extract (t106 : Int).toNat a0.size).size ≤ 9223372036854775807 then (some (((((((a0.extract 0 (t105 : Int).toNat) ++ (⟨#[49]⟩ : ByteArray)) ++ bt109.1) ++ (⟨#[49]⟩ : ByteArray)) ++ bt109.2) ++ bt107.2) ++ (a0.extract (t106 : Int).toNat a0.size), true)) else (none)) else (none)) else (none)) else (none)) else (none)) else (none)) else (none)) else (none)))) else (if bt107.2.toList = ([48] : List UInt8) then (some ((⟨#[]⟩ : ByteArray), false)) else ((spec_l03Sides.f k bt107.2).bind fun bt111 => (if t105 ≤ (a0.size : Int) then (if (a0.extract 0 (t105 : Int).toNat).size + 2 ≤ 9223372036854775807 then (if ((a0.extract 0 (t105 : Int).toNat) ++ (⟨#[49, 49]⟩ : ByteArray)).size + bt107.1.size ≤ 9223372036854775807 then (if (((a0.extract 0 (t105 : Int).toNat) ++ (⟨#[49, 49]⟩ : ByteArray)) ++ bt107.1).size + bt111.1.size ≤ 9223372036854775807 then (if ((((a0.extract 0 (t105 : Int).toNat) ++ (⟨#[49, 49]⟩ : ByteArray)) ++ bt107.1) ++ bt111.1).size + bt111.2.size ≤ 9223372036854775807 then (if 0 ≤ t106 then (if (((((a0.extract 0 (t105 : Int).toNat) ++ (⟨#[49, 49]⟩ : ByteArray)) ++ bt107.1) ++ bt111.1) ++ bt111.2).size + (a0.extract (t106 : Int).toNat a0.size).size ≤ 9223372036854775807 then (some ((((((a0.extract 0 (t105 : Int).toNat) ++ (⟨#[49, 49]⟩ : ByteArray)) ++ bt107.1) ++ bt111.1) ++ bt111.2) ++ (a0.extract (t106 : Int).toNat a0.size), true)) else (none)) else (none)) else (none)) else (none)) else (none)) else (none)) else (none)))))) else (none)) else (none)) else (none))) = some (r1, r2) := H
  have A4 := Aside0.mk A40
  clear A40
  replace H := Option.bind_eq_some_iff.mp H
  obtain ⟨t106, A50, H⟩ := H
  replace H : (if 0 ≤ t105 then (if t105 ≤ t106 then (if t106 ≤ (a0.size : Int) then ((spec_l03Sides.f k (a0.extract (t105 : Int).toNat (t106 : Int).toNat)).bind fun bt107 => (if a2 = true then (if bt107.1.toList = ([48] : List UInt8) then (some ((⟨#[]⟩ : ByteArray), false)) else ((spec_l03Sides.f k bt107.1).bind fun bt109 => (if t105 ≤ (a0.size : Int) then (if (a0.extract 0 (t105 : Int).toNat).size + 1 ≤ 9223372036854775807 then (if ((a0.extract 0 (t105 : Int).toNat) ++ (⟨#[49]⟩ : ByteArray)).size + bt109.1.size ≤ 9223372036854775807 then (if (((a0.extract 0 (t105 : Int).toNat) ++ (⟨#[49]⟩ : ByteArray)) ++ bt109.1).size + 1 ≤ 9223372036854775807 then (if ((((a0.extract 0 (t105 : Int).toNat) ++ (⟨#[49]⟩ : ByteArray)) ++ bt109.1) ++ (⟨#[49]⟩ : ByteArray)).size + bt109.2.size ≤ 9223372036854775807 then (if (((((a0.extract 0 (t105 : Int).toNat) ++ (⟨#[49]⟩ : ByteArray)) ++ bt109.1) ++ (⟨#[49]⟩ : ByteArray)) ++ bt109.2).size + bt107.2.size ≤ 9223372036854775807 then (if 0 ≤ t106 then (if ((((((a0.extract 0 (t105 : Int).toNat) ++ (⟨#[49]⟩ : ByteArray)) ++ bt109.1) ++ (⟨#[49]⟩ : ByteArray)) ++ bt109.2) ++ bt107.2).size + (a0.extract (t106 : Int).toNat a0.size).size ≤ 9223372036854775807 then (some (((((((a0.extract 0 (t105 : Int).toNat) ++ (⟨#[49]⟩ : ByteArray)) ++ bt109.1) ++ (⟨#[49]⟩ : ByteArray)) ++ bt109.2) ++ bt107.2) ++ (a0.extract (t106 : Int).toNat a0.size), true)) else (none)) else (none)) else (none)) else (none)) else (none)) else (none)) else (none)) else (none)))) else (if bt107.2.toList = ([48] : List UInt8) then (some ((⟨#[]⟩ : ByteArray), false)) else ((spec_l03Sides.f k bt107.2).bind fun bt111 => (if t105 ≤ (a0.size : Int) then (if (a0.extract 0 (t105 : Int).toNat).size + 2 ≤ 9223372036854775807 then (if ((a0.extract 0 (t105 : Int).toNat) ++ (⟨#[49, 49]⟩ : ByteArray)).size + bt107.1.size ≤ 9223372036854775807 then (if (((a0.extract 0 (t105 : Int).toNat) ++ (⟨#[49, 49]⟩ : ByteArray)) ++ bt107.1).size + bt111.1.size ≤ 9223372036854775807 then (if ((((a0.extract 0 (t105 : Int).toNat) ++ (⟨#[49, 49]⟩ : ByteArray)) ++ bt107.1) ++ bt111.1).size + bt111.2.size ≤ 9223372036854775807 then (if 0 ≤ t106 then (if (((((a0.extract 0 (t105 : Int).toNat) ++ (⟨#[49, 49]⟩ : ByteArray)) ++ bt107.1) ++ bt111.1) ++ bt111.2).size + (a0.extract (t106 : Int).toNat a0.size).size ≤ 9223372036854775807 then (some ((((((a0.extract 0 (t105 : Int).toNat) ++ (⟨#[49, 49]⟩ : ByteArray)) ++ bt107.1) ++ bt111.1) ++ bt111.2) ++ (a0.extract (t106 : Int).toNat a0.size), true)) else (none)) else (none)) else (none)) else (none)) else (none)) else (none)) else (none)))))) else (none)) else (none)) else (none)) = some (r1, r2) := H
  have A5 := Aside0.mk A50
  clear A50
  by_cases c6 : 0 ≤ t105
  · rw [if_pos c6] at H
    have c6b0 := eq_true c6
    have c6b1 : decide (0 ≤ t105) = true := decide_eq_true c6
    clear c6
    by_cases c7 : t105 ≤ t106
    · rw [if_pos c7] at H
      have c7b0 := eq_true c7
      have c7b1 : decide (t105 ≤ t106) = true := decide_eq_true c7
      clear c7
      by_cases c8 : t106 ≤ (a0.size : Int)
      · rw [if_pos c8] at H
        have c8b0 := eq_true c8
        have c8b1 : decide (t106 ≤ (a0.size : Int)) = true := decide_eq_true c8
        clear c8
        replace H := Option.bind_eq_some_iff.mp H
        obtain ⟨⟨t107, t108⟩, A90, H⟩ := H
        replace H : (if a2 = true then (if t107.toList = ([48] : List UInt8) then (some ((⟨#[]⟩ : ByteArray), false)) else ((spec_l03Sides.f k t107).bind fun bt109 => (if t105 ≤ (a0.size : Int) then (if (a0.extract 0 (t105 : Int).toNat).size + 1 ≤ 9223372036854775807 then (if ((a0.extract 0 (t105 : Int).toNat) ++ (⟨#[49]⟩ : ByteArray)).size + bt109.1.size ≤ 9223372036854775807 then (if (((a0.extract 0 (t105 : Int).toNat) ++ (⟨#[49]⟩ : ByteArray)) ++ bt109.1).size + 1 ≤ 9223372036854775807 then (if ((((a0.extract 0 (t105 : Int).toNat) ++ (⟨#[49]⟩ : ByteArray)) ++ bt109.1) ++ (⟨#[49]⟩ : ByteArray)).size + bt109.2.size ≤ 9223372036854775807 then (if (((((a0.extract 0 (t105 : Int).toNat) ++ (⟨#[49]⟩ : ByteArray)) ++ bt109.1) ++ (⟨#[49]⟩ : ByteArray)) ++ bt109.2).size + t108.size ≤ 9223372036854775807 then (if 0 ≤ t106 then (if ((((((a0.extract 0 (t105 : Int).toNat) ++ (⟨#[49]⟩ : ByteArray)) ++ bt109.1) ++ (⟨#[49]⟩ : ByteArray)) ++ bt109.2) ++ t108).size + (a0.extract (t106 : Int).toNat a0.size).size ≤ 9223372036854775807 then (some (((((((a0.extract 0 (t105 : Int).toNat) ++ (⟨#[49]⟩ : ByteArray)) ++ bt109.1) ++ (⟨#[49]⟩ : ByteArray)) ++ bt109.2) ++ t108) ++ (a0.extract (t106 : Int).toNat a0.size), true)) else (none)) else (none)) else (none)) else (none)) else (none)) else (none)) else (none)) else (none)))) else (if t108.toList = ([48] : List UInt8) then (some ((⟨#[]⟩ : ByteArray), false)) else ((spec_l03Sides.f k t108).bind fun bt111 => (if t105 ≤ (a0.size : Int) then (if (a0.extract 0 (t105 : Int).toNat).size + 2 ≤ 9223372036854775807 then (if ((a0.extract 0 (t105 : Int).toNat) ++ (⟨#[49, 49]⟩ : ByteArray)).size + t107.size ≤ 9223372036854775807 then (if (((a0.extract 0 (t105 : Int).toNat) ++ (⟨#[49, 49]⟩ : ByteArray)) ++ t107).size + bt111.1.size ≤ 9223372036854775807 then (if ((((a0.extract 0 (t105 : Int).toNat) ++ (⟨#[49, 49]⟩ : ByteArray)) ++ t107) ++ bt111.1).size + bt111.2.size ≤ 9223372036854775807 then (if 0 ≤ t106 then (if (((((a0.extract 0 (t105 : Int).toNat) ++ (⟨#[49, 49]⟩ : ByteArray)) ++ t107) ++ bt111.1) ++ bt111.2).size + (a0.extract (t106 : Int).toNat a0.size).size ≤ 9223372036854775807 then (some ((((((a0.extract 0 (t105 : Int).toNat) ++ (⟨#[49, 49]⟩ : ByteArray)) ++ t107) ++ bt111.1) ++ bt111.2) ++ (a0.extract (t106 : Int).toNat a0.size), true)) else (none)) else (none)) else (none)) else (none)) else (none)) else (none)) else (none))))) = some (r1, r2) := H
        have A9 := Aside0.mk A90
        clear A90
        by_cases c10 : a2 = true
        · subst c10
          have H1 : (if t107.toList = ([48] : List UInt8) then (some ((⟨#[]⟩ : ByteArray), false)) else ((spec_l03Sides.f k t107).bind fun bt109 => (if t105 ≤ (a0.size : Int) then (if (a0.extract 0 (t105 : Int).toNat).size + 1 ≤ 9223372036854775807 then (if ((a0.extract 0 (t105 : Int).toNat) ++ (⟨#[49]⟩ : ByteArray)).size + bt109.1.size ≤ 9223372036854775807 then (if (((a0.extract 0 (t105 : Int).toNat) ++ (⟨#[49]⟩ : ByteArray)) ++ bt109.1).size + 1 ≤ 9223372036854775807 then (if ((((a0.extract 0 (t105 : Int).toNat) ++ (⟨#[49]⟩ : ByteArray)) ++ bt109.1) ++ (⟨#[49]⟩ : ByteArray)).size + bt109.2.size ≤ 9223372036854775807 then (if (((((a0.extract 0 (t105 : Int).toNat) ++ (⟨#[49]⟩ : ByteArray)) ++ bt109.1) ++ (⟨#[49]⟩ : ByteArray)) ++ bt109.2).size + t108.size ≤ 9223372036854775807 then (if 0 ≤ t106 then (if ((((((a0.extract 0 (t105 : Int).toNat) ++ (⟨#[49]⟩ : ByteArray)) ++ bt109.1) ++ (⟨#[49]⟩ : ByteArray)) ++ bt109.2) ++ t108).size + (a0.extract (t106 : Int).toNat a0.size).size ≤ 9223372036854775807 then (some (((((((a0.extract 0 (t105 : Int).toNat) ++ (⟨#[49]⟩ : ByteArray)) ++ bt109.1) ++ (⟨#[49]⟩ : ByteArray)) ++ bt109.2) ++ t108) ++ (a0.extract (t106 : Int).toNat a0.size), true)) else (none)) else (none)) else (none)) else (none)) else (none)) else (none)) else (none)) else (none)))) = some (r1, r2) := by rw [if_pos rfl] at H; exact H
          clear H
          have H := H1
          clear H1
          by_cases c11 : t107.toList = ([48] : List UInt8)
          · rw [if_pos c11] at H
            have c11b0 : (t107.toList == ([48] : List UInt8)) = true := beq_iff_eq.mpr c11
            have c11b1 : (t107.toList != ([48] : List UInt8)) = false := bne_eq_false_iff_eq.mpr c11
            clear c11
            simp only [Option.some.injEq, Prod.mk.injEq] at H
            obtain ⟨rfl, rfl⟩ := H
            go_enter Try.func8, Try.ntmps8
            go_wp2_with (first | (go_at_call 13; (with_reducible refine (spec_l03Place.calls k a0 a1 t105 _ A4.out).mono ?_); rintro e w' ⟨rfl, ⟨nd, rfl⟩⟩; (try first | exact ⟨rfl, _, World.drewN_drewN _ _ _⟩ | exact ⟨rfl, _, Eq.trans (World.drewN_drewN _ _ _) (congrArg (World.drewN _) (Nat.add_assoc _ _ _))⟩)) | (go_at_call 14; (with_reducible refine (spec_l03End.calls k a0 t105 t106 _ A5.out).mono ?_); rintro e w' ⟨rfl, ⟨nd, rfl⟩⟩; (try first | exact ⟨rfl, _, World.drewN_drewN _ _ _⟩ | exact ⟨rfl, _, Eq.trans (World.drewN_drewN _ _ _) (congrArg (World.drewN _) (Nat.add_assoc _ _ _))⟩)) | (go_at_call 15; (with_reducible refine (spec_l03Sides.calls k (a0.extract (t105 : Int).toNat (t106 : Int).toNat) t107 t108 _ A9.out).mono ?_); rintro e w' ⟨rfl, ⟨nd, rfl⟩⟩; (try first | exact ⟨rfl, _, World.drewN_drewN _ _ _⟩ | exact ⟨rfl, _, Eq.trans (World.drewN_drewN _ _ _) (congrArg (World.drewN _) (Nat.add_assoc _ _ _))⟩)))
            repeat (go_quiet (first | (go_at_call 13; (with_reducible refine (spec_l03Place.calls k a0 a1 t105 _ A4.out).mono ?_); rintro e w' ⟨rfl, ⟨nd, rfl⟩⟩; (try first | exact ⟨rfl, _, World.drewN_drewN _ _ _⟩ | exact ⟨rfl, _, Eq.trans (World.drewN_drewN _ _ _) (congrArg (World.drewN _) (Nat.add_assoc _ _ _))⟩)) | (go_at_call 14; (with_reducible refine (spec_l03End.calls k a0 t105 t106 _ A5.out).mono ?_); rintro e w' ⟨rfl, ⟨nd, rfl⟩⟩; (try first | exact ⟨rfl, _, World.drewN_drewN _ _ _⟩ | exact ⟨rfl, _, Eq.trans (World.drewN_drewN _ _ _) (congrArg (World.drewN _) (Nat.add_assoc _ _ _))⟩)) | (go_at_call 15; (with_reducible refine (spec_l03Sides.calls k (a0.extract (t105 : Int).toNat (t106 : Int).toNat) t107 t108 _ A9.out).mono ?_); rintro e w' ⟨rfl, ⟨nd, rfl⟩⟩; (try first | exact ⟨rfl, _, World.drewN_drewN _ _ _⟩ | exact ⟨rfl, _, Eq.trans (World.drewN_drewN _ _ _) (congrArg (World.drewN _) (Nat.add_assoc _ _ _))⟩))); try go_wp2_with (first | (go_at_call 13; (with_reducible refine (spec_l03Place.calls k a0 a1 t105 _ A4.out).mono ?_); rintro e w' ⟨rfl, ⟨nd, rfl⟩⟩; (try first | exact ⟨rfl, _, World.drewN_drewN _ _ _⟩ | exact ⟨rfl, _, Eq.trans (World.drewN_drewN _ _ _) (congrArg (World.drewN _) (Nat.add_assoc _ _ _))⟩)) | (go_at_call 14; (with_reducible refine (spec_l03End.calls k a0 t105 t106 _ A5.out).mono ?_); rintro e w' ⟨rfl, ⟨nd, rfl⟩⟩; (try first | exact ⟨rfl, _, World.drewN_drewN _ _ _⟩ | exact ⟨rfl, _, Eq.trans (World.drewN_drewN _ _ _) (congrArg (World.drewN _) (Nat.add_assoc _ _ _))⟩)) | (go_at_call 15; (with_reducible refine (spec_l03Sides.calls k (a0.extract (t105 : Int).toNat (t106 : Int).toNat) t107 t108 _ A9.out).mono ?_); rintro e w' ⟨rfl, ⟨nd, rfl⟩⟩; (try first | exact ⟨rfl, _, World.drewN_drewN _ _ _⟩ | exact ⟨rfl, _, Eq.trans (World.drewN_drewN _ _ _) (congrArg (World.drewN _) (Nat.add_assoc _ _ _))⟩))))
            go_ret2
            exact ⟨by first | rfl | (simp; done) | (simp [*]; done), by repeat (first | exact Drawn0.refl _ | apply Drawn0.step)⟩
          · rw [if_neg c11] at H
            have c11b0 : (t107.toList == ([48] : List UInt8)) = false := beq_eq_false_iff_ne.mpr c11
            have c11b1 : (t107.toList != ([48] : List UInt8)) = true := bne_iff_ne.mpr c11
            replace H := Option.bind_eq_some_iff.mp H
            obtain ⟨⟨t109, t110⟩, A120, H⟩ := H
            replace H : (if t105 ≤ (a0.size : Int) then (if (a0.extract 0 (t105 : Int).toNat).size + 1 ≤ 9223372036854775807 then (if ((a0.extract 0 (t105 : Int).toNat) ++ (⟨#[49]⟩ : ByteArray)).size + t109.size ≤ 9223372036854775807 then (if (((a0.extract 0 (t105 : Int).toNat) ++ (⟨#[49]⟩ : ByteArray)) ++ t109).size + 1 ≤ 9223372036854775807 then (if ((((a0.extract 0 (t105 : Int).toNat) ++ (⟨#[49]⟩ : ByteArray)) ++ t109) ++ (⟨#[49]⟩ : ByteArray)).size + t110.size ≤ 9223372036854775807 then (if (((((a0.extract 0 (t105 : Int).toNat) ++ (⟨#[49]⟩ : ByteArray)) ++ t109) ++ (⟨#[49]⟩ : ByteArray)) ++ t110).size + t108.size ≤ 9223372036854775807 then (if 0 ≤ t106 then (if ((((((a0.extract 0 (t105 : Int).toNat) ++ (⟨#[49]⟩ : ByteArray)) ++ t109) ++ (⟨#[49]⟩ : ByteArray)) ++ t110) ++ t108).size + (a0.extract (t106 : Int).toNat a0.size).size ≤ 9223372036854775807 then (some (((((((a0.extract 0 (t105 : Int).toNat) ++ (⟨#[49]⟩ : ByteArray)) ++ t109) ++ (⟨#[49]⟩ : ByteArray)) ++ t110) ++ t108) ++ (a0.extract (t106 : Int).toNat a0.size), true)) else (none)) else (none)) else (none)) else (none)) else (none)) else (none)) else (none)) else (none)) = some (r1, r2) := H
            have A12 := Aside0.mk A120
            clear A120
            have c13b0 := eq_true (of_decide_eq_true (by first | (with_reducible assumption) | assumption) : 0 ≤ t105)
            by_cases c14 : t105 ≤ (a0.size : Int)
            · rw [if_pos c14] at H
              have c14b0 := eq_true c14
              have c14b1 : decide (t105 ≤ (a0.size : Int)) = true := decide_eq_true c14
              clear c14
              by_cases c15 : (a0.extract 0 (t105 : Int).toNat).size + 1 ≤ 9223372036854775807
              · rw [if_pos c15] at H
                have c15b0 := eq_true c15
                have c15b1 : decide ((a0.extract 0 (t105 : Int).toNat).size + 1 ≤ 9223372036854775807) = true := decide_eq_true c15
                try have c15b2 : (9223372036854775807 < (a0.extract 0 (t105 : Int).toNat).size + 1) = False := eq_false (Nat.not_lt.2 c15)
                try have c15b3 : (9223372036854775807 < (t105 : Int).toNat + 1) = False := eq_false (by have z_ := c15; simp only [ByteArray.size_append, ByteArray.size_extract, decide_eq_true_eq, eq_iff_iff, iff_true] at *; first | omega | (simp at z_; omega))
                by_cases c16 : ((a0.extract 0 (t105 : Int).toNat) ++ (⟨#[49]⟩ : ByteArray)).size + t109.size ≤ 9223372036854775807
                · rw [if_pos c16] at H
                  have c16b0 := eq_true c16
                  have c16b1 : decide (((a0.extract 0 (t105 : Int).toNat) ++ (⟨#[49]⟩ : ByteArray)).size + t109.size ≤ 9223372036854775807) = true := decide_eq_true c16
                  try have c16b2 : (9223372036854775807 < ((a0.extract 0 (t105 : Int).toNat) ++ (⟨#[49]⟩ : ByteArray)).size + t109.size) = False := eq_false (Nat.not_lt.2 c16)
                  try have c16b3 : (9223372036854775807 < (t105 : Int).toNat + 1 + t109.size) = False := eq_false (by have z_ := c16; simp only [ByteArray.size_append, ByteArray.size_extract, decide_eq_true_eq, eq_iff_iff, iff_true, (show (⟨#[49]⟩ : ByteArray).size = 1 from rfl)] at *; first | omega | (simp at z_; omega))
                  by_cases c17 : (((a0.extract 0 (t105 : Int).toNat) ++ (⟨#[49]⟩ : ByteArray)) ++ t109).size + 1 ≤ 9223372036854775807
                  · rw [if_pos c17] at H
                    have c17b0 := eq_true c17
                    have c17b1 : decide ((((a0.extract 0 (t105 : Int).toNat) ++ (⟨#[49]⟩ : ByteArray)) ++ t109).size + 1 ≤ 9223372036854775807) = true := decide_eq_true c17
                    try have c17b2 : (9223372036854775807 < (((a0.extract 0 (t105 : Int).toNat) ++ (⟨#[49]⟩ : ByteArray)) ++ t109).size + 1) = False := eq_false (Nat.not_lt.2 c17)
                    try have c17b3 : (9223372036854775807 < (t105 : Int).toNat + 1 + t109.size + 1) = False := eq_false (by have z_ := c17; simp only [ByteArray.size_append, ByteArray.size_extract, decide_eq_true_eq, eq_iff_iff, iff_true, (show (⟨#[49]⟩ : ByteArray).size = 1 from rfl)] at *; first | omega | (simp at z_; omega))
                    by_cases c18 : ((((a0.extract 0 (t105 : Int).toNat) ++ (⟨#[49]⟩ : ByteArray)) ++ t109) ++ (⟨#[49]⟩ : ByteArray)).size + t110.size ≤ 9223372036854775807
                    · rw [if_pos c18] at H
                      have c18b0 := eq_true c18
                      have c18b1 : decide (((((a0.extract 0 (t105 : Int).toNat) ++ (⟨#[49]⟩ : ByteArray)) ++ t109) ++ (⟨#[49]⟩ : ByteArray)).size + t110.size ≤ 9223372036854775807) = true := decide_eq_true c18
                      try have c18b2 : (9223372036854775807 < ((((a0.extract 0 (t105 : Int).toNat) ++ (⟨#[49]⟩ : ByteArray)) ++ t109) ++ (⟨#[49]⟩ : ByteArray)).size + t110.size) = False := eq_false (Nat.not_lt.2 c18)
                      try have c18b3 : (9223372036854775807 < (t105 : Int).toNat + 1 + t109.size + 1 + t110.size) = False := eq_false (by have z_ := c18; simp only [ByteArray.size_append, ByteArray.size_extract, decide_eq_true_eq, eq_iff_iff, iff_true, (show (⟨#[49]⟩ : ByteArray).size = 1 from rfl)] at *; first | omega | (simp at z_; omega))
                      by_cases c19 : (((((a0.extract 0 (t105 : Int).toNat) ++ (⟨#[49]⟩ : ByteArray)) ++ t109) ++ (⟨#[49]⟩ : ByteArray)) ++ t110).size + t108.size ≤ 9223372036854775807
                      · rw [if_pos c19] at H
                        have c19b0 := eq_true c19
                        have c19b1 : decide ((((((a0.extract 0 (t105 : Int).toNat) ++ (⟨#[49]⟩ : ByteArray)) ++ t109) ++ (⟨#[49]⟩ : ByteArray)) ++ t110).size + t108.size ≤ 9223372036854775807) = true := decide_eq_true c19
                        try have c19b2 : (9223372036854775807 < (((((a0.extract 0 (t105 : Int).toNat) ++ (⟨#[49]⟩ : ByteArray)) ++ t109) ++ (⟨#[49]⟩ : ByteArray)) ++ t110).size + t108.size) = False := eq_false (Nat.not_lt.2 c19)
                        try have c19b3 : (9223372036854775807 < (t105 : Int).toNat + 1 + t109.size + 1 + t110.size + t108.size) = False := eq_false (by have z_ := c19; simp only [ByteArray.size_append, ByteArray.size_extract, decide_eq_true_eq, eq_iff_iff, iff_true, (show (⟨#[49]⟩ : ByteArray).size = 1 from rfl)] at *; first | omega | (simp at z_; omega))
                        by_cases c20 : 0 ≤ t106
                        · rw [if_pos c20] at H
                          have c20b0 := eq_true c20
                          have c20b1 : decide (0 ≤ t106) = true := decide_eq_true c20
                          clear c20
                          have c21b0 := eq_true (of_decide_eq_true (by first | (with_reducible assumption) | assumption) : t106 ≤ (a0.size : Int))
                          by_cases c22 : ((((((a0.extract 0 (t105 : Int).toNat) ++ (⟨#[49]⟩ : ByteArray)) ++ t109) ++ (⟨#[49]⟩ : ByteArray)) ++ t110) ++ t108).size + (a0.extract (t106 : Int).toNat a0.size).size ≤ 9223372036854775807
                          · rw [if_pos c22] at H
                            have c22b0 := eq_true c22
                            have c22b1 : decide (((((((a0.extract 0 (t105 : Int).toNat) ++ (⟨#[49]⟩ : ByteArray)) ++ t109) ++ (⟨#[49]⟩ : ByteArray)) ++ t110) ++ t108).size + (a0.extract (t106 : Int).toNat a0.size).size ≤ 9223372036854775807) = true := decide_eq_true c22
                            try have c22b2 : (9223372036854775807 < ((((((a0.extract 0 (t105 : Int).toNat) ++ (⟨#[49]⟩ : ByteArray)) ++ t109) ++ (⟨#[49]⟩ : ByteArray)) ++ t110) ++ t108).size + (a0.extract (t106 : Int).toNat a0.size).size) = False := eq_false (Nat.not_lt.2 c22)
                            try have c22b3 : (9223372036854775807 < (t105 : Int).toNat + 1 + t109.size + 1 + t110.size + t108.size + (a0.size - ((t106 : Int).toNat))) = False := eq_false (by have z_ := c22; simp only [ByteArray.size_append, ByteArray.size_extract, decide_eq_true_eq, eq_iff_iff, iff_true, (show (⟨#[49]⟩ : ByteArray).size = 1 from rfl)] at *; first | omega | (simp at z_; omega))
                            simp only [Option.some.injEq, Prod.mk.injEq] at H
                            obtain ⟨rfl, rfl⟩ := H
                            go_enter Try.func8, Try.ntmps8
                            go_wp2_with (first | (go_at_call 13; (with_reducible refine (spec_l03Place.calls k a0 a1 t105 _ A4.out).mono ?_); rintro e w' ⟨rfl, ⟨nd, rfl⟩⟩; (try first | exact ⟨rfl, _, World.drewN_drewN _ _ _⟩ | exact ⟨rfl, _, Eq.trans (World.drewN_drewN _ _ _) (congrArg (World.drewN _) (Nat.add_assoc _ _ _))⟩)) | (go_at_call 14; (with_reducible refine (spec_l03End.calls k a0 t105 t106 _ A5.out).mono ?_); rintro e w' ⟨rfl, ⟨nd, rfl⟩⟩; (try first | exact ⟨rfl, _, World.drewN_drewN _ _ _⟩ | exact ⟨rfl, _, Eq.trans (World.drewN_drewN _ _ _) (congrArg (World.drewN _) (Nat.add_assoc _ _ _))⟩)) | (go_at_call 15; (with_reducible refine (spec_l03Sides.calls k (a0.extract (t105 : Int).toNat (t106 : Int).toNat) t107 t108 _ A9.out).mono ?_); rintro e w' ⟨rfl, ⟨nd, rfl⟩⟩; (try first | exact ⟨rfl, _, World.drewN_drewN _ _ _⟩ | exact ⟨rfl, _, Eq.trans (World.drewN_drewN _ _ _) (congrArg (World.drewN _) (Nat.add_assoc _ _ _))⟩)) | (go_at_call 15; (with_reducible refine (spec_l03Sides.calls k t107 t109 t110 _ A12.out).mono ?_); rintro e w' ⟨rfl, ⟨nd, rfl⟩⟩; (try first | exact ⟨rfl, _, World.drewN_drewN _ _ _⟩ | exact ⟨rfl, _, Eq.trans (World.drewN_drewN _ _ _) (congrArg (World.drewN _) (Nat.add_assoc _ _ _))⟩)))
                            repeat (go_quiet (first | (go_at_call 13; (with_reducible refine (spec_l03Place.calls k a0 a1 t105 _ A4.out).mono ?_); rintro e w' ⟨rfl, ⟨nd, rfl⟩⟩; (try first | exact ⟨rfl, _, World.drewN_drewN _ _ _⟩ | exact ⟨rfl, _, Eq.trans (World.drewN_drewN _ _ _) (congrArg (World.drewN _) (Nat.add_assoc _ _ _))⟩)) | (go_at_call 14; (with_reducible refine (spec_l03End.calls k a0 t105 t106 _ A5.out).mono ?_); rintro e w' ⟨rfl, ⟨nd, rfl⟩⟩; (try first | exact ⟨rfl, _, World.drewN_drewN _ _ _⟩ | exact ⟨rfl, _, Eq.trans (World.drewN_drewN _ _ _) (congrArg (World.drewN _) (Nat.add_assoc _ _ _))⟩)) | (go_at_call 15; (with_reducible refine (spec_l03Sides.calls k (a0.extract (t105 : Int).toNat (t106 : Int).toNat) t107 t108 _ A9.out).mono ?_); rintro e w' ⟨rfl, ⟨nd, rfl⟩⟩; (try first | exact ⟨rfl, _, World.drewN_drewN _ _ _⟩ | exact ⟨rfl, _, Eq.trans (World.drewN_drewN _ _ _) (congrArg (World.drewN _) (Nat.add_assoc _ _ _))⟩)) | (go_at_call 15; (with_reducible refine (spec_l03Sides.calls k t107 t109 t110 _ A12.out).mono ?_); rintro e w' ⟨rfl, ⟨nd, rfl⟩⟩; (try first | exact ⟨rfl, _, World.drewN_drewN _ _ _⟩ | exact ⟨rfl, _, Eq.trans (World.drewN_drewN _ _ _) (congrArg (World.drewN _) (Nat.add_assoc _ _ _))⟩))); try go_wp2_with (first | (go_at_call 13; (with_reducible refine (spec_l03Place.calls k a0 a1 t105 _ A4.out).mono ?_); rintro e w' ⟨rfl, ⟨nd, rfl⟩⟩; (try first | exact ⟨rfl, _, World.drewN_drewN _ _ _⟩ | exact ⟨rfl, _, Eq.trans (World.drewN_drewN _ _ _) (congrArg (World.drewN _) (Nat.add_assoc _ _ _))⟩)) | (go_at_call 14; (with_reducible refine (spec_l03End.calls k a0 t105 t106 _ A5.out).mono ?_); rintro e w' ⟨rfl, ⟨nd, rfl⟩⟩; (try first | exact ⟨rfl, _, World.drewN_drewN _ _ _⟩ | exact ⟨rfl, _, Eq.trans (World.drewN_drewN _ _ _) (congrArg (World.drewN _) (Nat.add_assoc _ _ _))⟩)) | (go_at_call 15; (with_reducible refine (spec_l03Sides.calls k (a0.extract (t105 : Int).toNat (t106 : Int).toNat) t107 t108 _ A9.out).mono ?_); rintro e w' ⟨rfl, ⟨nd, rfl⟩⟩; (try first | exact ⟨rfl, _, World.drewN_drewN _ _ _⟩ | exact ⟨rfl, _, Eq.trans (World.drewN_drewN _ _ _) (congrArg (World.drewN _) (Nat.add_assoc _ _ _))⟩)) | (go_at_call 15; (with_reducible refine (spec_l03Sides.calls k t107 t109 t110 _ A12.out).mono ?_); rintro e w' ⟨rfl, ⟨nd, rfl⟩⟩; (try first | exact ⟨rfl, _, World.drewN_drewN _ _ _⟩ | exact ⟨rfl, _, Eq.trans (World.drewN_drewN _ _ _) (congrArg (World.drewN _) (Nat.add_assoc _ _ _))⟩))))
                            go_ret2
                            exact ⟨by first | rfl | (simp; done) | (simp [*]; done), by repeat (first | exact Drawn0.refl _ | apply Drawn0.step)⟩
                          · rw [if_neg c22] at H
                            exact absurd H (by simp)
                        · rw [if_neg c20] at H
                          exact absurd H (by simp)
                      · rw [if_neg c19] at H
                        exact absurd H (by simp)
                    · rw [if_neg c18] at H
                      exact absurd H (by simp)
                  · rw [if_neg c17] at H
                    exact absurd H (by simp)
                · rw [if_neg c16] at H
                  exact absurd H (by simp)
              · rw [if_neg c15] at H
                exact absurd H (by simp)
            · rw [if_neg c14] at H
              exact absurd H (by simp)
        · replace c10 := Bool.eq_false_iff.mpr c10
          subst c10
          have H1 : (if t108.toList = ([48] : List UInt8) then (some ((⟨#[]⟩ : ByteArray), false)) else ((spec_l03Sides.f k t108).bind fun bt111 => (if t105 ≤ (a0.size : Int) then (if (a0.extract 0 (t105 : Int).toNat).size + 2 ≤ 9223372036854775807 then (if ((a0.extract 0 (t105 : Int).toNat) ++ (⟨#[49, 49]⟩ : ByteArray)).size + t107.size ≤ 9223372036854775807 then (if (((a0.extract 0 (t105 : Int).toNat) ++ (⟨#[49, 49]⟩ : ByteArray)) ++ t107).size + bt111.1.size ≤ 9223372036854775807 then (if ((((a0.extract 0 (t105 : Int).toNat) ++ (⟨#[49, 49]⟩ : ByteArray)) ++ t107) ++ bt111.1).size + bt111.2.size ≤ 9223372036854775807 then (if 0 ≤ t106 then (if (((((a0.extract 0 (t105 : Int).toNat) ++ (⟨#[49, 49]⟩ : ByteArray)) ++ t107) ++ bt111.1) ++ bt111.2).size + (a0.extract (t106 : Int).toNat a0.size).size ≤ 9223372036854775807 then (some ((((((a0.extract 0 (t105 : Int).toNat) ++ (⟨#[49, 49]⟩ : ByteArray)) ++ t107) ++ bt111.1) ++ bt111.2) ++ (a0.extract (t106 : Int).toNat a0.size), true)) else (none)) else (none)) else (none)) else (none)) else (none)) else (none)) else (none)))) = some (r1, r2) := by rw [if_neg (show ¬ (false = true) by decide)] at H; exact H
          clear H
          have H := H1
          clear H1
          by_cases c23 : t108.toList = ([48] : List UInt8)
          · rw [if_pos c23] at H
            have c23b0 : (t108.toList == ([48] : List UInt8)) = true := beq_iff_eq.mpr c23
            have c23b1 : (t108.toList != ([48] : List UInt8)) = false := bne_eq_false_iff_eq.mpr c23
            clear c23
            simp only [Option.some.injEq, Prod.mk.injEq] at H
            obtain ⟨rfl, rfl⟩ := H
            go_enter Try.func8, Try.ntmps8
            go_wp2_with (first | (go_at_call 13; (with_reducible refine (spec_l03Place.calls k a0 a1 t105 _ A4.out).mono ?_); rintro e w' ⟨rfl, ⟨nd, rfl⟩⟩; (try first | exact ⟨rfl, _, World.drewN_drewN _ _ _⟩ | exact ⟨rfl, _, Eq.trans (World.drewN_drewN _ _ _) (congrArg (World.drewN _) (Nat.add_assoc _ _ _))⟩)) | (go_at_call 14; (with_reducible refine (spec_l03End.calls k a0 t105 t106 _ A5.out).mono ?_); rintro e w' ⟨rfl, ⟨nd, rfl⟩⟩; (try first | exact ⟨rfl, _, World.drewN_drewN _ _ _⟩ | exact ⟨rfl, _, Eq.trans (World.drewN_drewN _ _ _) (congrArg (World.drewN _) (Nat.add_assoc _ _ _))⟩)) | (go_at_call 15; (with_reducible refine (spec_l03Sides.calls k (a0.extract (t105 : Int).toNat (t106 : Int).toNat) t107 t108 _ A9.out).mono ?_); rintro e w' ⟨rfl, ⟨nd, rfl⟩⟩; (try first | exact ⟨rfl, _, World.drewN_drewN _ _ _⟩ | exact ⟨rfl, _, Eq.trans (World.drewN_drewN _ _ _) (congrArg (World.drewN _) (Nat.add_assoc _ _ _))⟩)))
            repeat (go_quiet (first | (go_at_call 13; (with_reducible refine (spec_l03Place.calls k a0 a1 t105 _ A4.out).mono ?_); rintro e w' ⟨rfl, ⟨nd, rfl⟩⟩; (try first | exact ⟨rfl, _, World.drewN_drewN _ _ _⟩ | exact ⟨rfl, _, Eq.trans (World.drewN_drewN _ _ _) (congrArg (World.drewN _) (Nat.add_assoc _ _ _))⟩)) | (go_at_call 14; (with_reducible refine (spec_l03End.calls k a0 t105 t106 _ A5.out).mono ?_); rintro e w' ⟨rfl, ⟨nd, rfl⟩⟩; (try first | exact ⟨rfl, _, World.drewN_drewN _ _ _⟩ | exact ⟨rfl, _, Eq.trans (World.drewN_drewN _ _ _) (congrArg (World.drewN _) (Nat.add_assoc _ _ _))⟩)) | (go_at_call 15; (with_reducible refine (spec_l03Sides.calls k (a0.extract (t105 : Int).toNat (t106 : Int).toNat) t107 t108 _ A9.out).mono ?_); rintro e w' ⟨rfl, ⟨nd, rfl⟩⟩; (try first | exact ⟨rfl, _, World.drewN_drewN _ _ _⟩ | exact ⟨rfl, _, Eq.trans (World.drewN_drewN _ _ _) (congrArg (World.drewN _) (Nat.add_assoc _ _ _))⟩))); try go_wp2_with (first | (go_at_call 13; (with_reducible refine (spec_l03Place.calls k a0 a1 t105 _ A4.out).mono ?_); rintro e w' ⟨rfl, ⟨nd, rfl⟩⟩; (try first | exact ⟨rfl, _, World.drewN_drewN _ _ _⟩ | exact ⟨rfl, _, Eq.trans (World.drewN_drewN _ _ _) (congrArg (World.drewN _) (Nat.add_assoc _ _ _))⟩)) | (go_at_call 14; (with_reducible refine (spec_l03End.calls k a0 t105 t106 _ A5.out).mono ?_); rintro e w' ⟨rfl, ⟨nd, rfl⟩⟩; (try first | exact ⟨rfl, _, World.drewN_drewN _ _ _⟩ | exact ⟨rfl, _, Eq.trans (World.drewN_drewN _ _ _) (congrArg (World.drewN _) (Nat.add_assoc _ _ _))⟩)) | (go_at_call 15; (with_reducible refine (spec_l03Sides.calls k (a0.extract (t105 : Int).toNat (t106 : Int).toNat) t107 t108 _ A9.out).mono ?_); rintro e w' ⟨rfl, ⟨nd, rfl⟩⟩; (try first | exact ⟨rfl, _, World.drewN_drewN _ _ _⟩ | exact ⟨rfl, _, Eq.trans (World.drewN_drewN _ _ _) (congrArg (World.drewN _) (Nat.add_assoc _ _ _))⟩))))
            go_ret2
            exact ⟨by first | rfl | (simp; done) | (simp [*]; done), by repeat (first | exact Drawn0.refl _ | apply Drawn0.step)⟩
          · rw [if_neg c23] at H
            have c23b0 : (t108.toList == ([48] : List UInt8)) = false := beq_eq_false_iff_ne.mpr c23
            have c23b1 : (t108.toList != ([48] : List UInt8)) = true := bne_iff_ne.mpr c23
            replace H := Option.bind_eq_some_iff.mp H
            obtain ⟨⟨t111, t112⟩, A240, H⟩ := H
            replace H : (if t105 ≤ (a0.size : Int) then (if (a0.extract 0 (t105 : Int).toNat).size + 2 ≤ 9223372036854775807 then (if ((a0.extract 0 (t105 : Int).toNat) ++ (⟨#[49, 49]⟩ : ByteArray)).size + t107.size ≤ 9223372036854775807 then (if (((a0.extract 0 (t105 : Int).toNat) ++ (⟨#[49, 49]⟩ : ByteArray)) ++ t107).size + t111.size ≤ 9223372036854775807 then (if ((((a0.extract 0 (t105 : Int).toNat) ++ (⟨#[49, 49]⟩ : ByteArray)) ++ t107) ++ t111).size + t112.size ≤ 9223372036854775807 then (if 0 ≤ t106 then (if (((((a0.extract 0 (t105 : Int).toNat) ++ (⟨#[49, 49]⟩ : ByteArray)) ++ t107) ++ t111) ++ t112).size + (a0.extract (t106 : Int).toNat a0.size).size ≤ 9223372036854775807 then (some ((((((a0.extract 0 (t105 : Int).toNat) ++ (⟨#[49, 49]⟩ : ByteArray)) ++ t107) ++ t111) ++ t112) ++ (a0.extract (t106 : Int).toNat a0.size), true)) else (none)) else (none)) else (none)) else (none)) else (none)) else (none)) else (none)) = some (r1, r2) := H
            have A24 := Aside0.mk A240
            clear A240
            have c25b0 := eq_true (of_decide_eq_true (by first | (with_reducible assumption) | assumption) : 0 ≤ t105)
            by_cases c26 : t105 ≤ (a0.size : Int)
            · rw [if_pos c26] at H
              have c26b0 := eq_true c26
              have c26b1 : decide (t105 ≤ (a0.size : Int)) = true := decide_eq_true c26
              clear c26
              by_cases c27 : (a0.extract 0 (t105 : Int).toNat).size + 2 ≤ 9223372036854775807
              · rw [if_pos c27] at H
                have c27b0 := eq_true c27
                have c27b1 : decide ((a0.extract 0 (t105 : Int).toNat).size + 2 ≤ 9223372036854775807) = true := decide_eq_true c27
                try have c27b2 : (9223372036854775807 < (a0.extract 0 (t105 : Int).toNat).size + 2) = False := eq_false (Nat.not_lt.2 c27)
                try have c27b3 : (9223372036854775807 < (t105 : Int).toNat + 2) = False := eq_false (by have z_ := c27; simp only [ByteArray.size_append, ByteArray.size_extract, decide_eq_true_eq, eq_iff_iff, iff_true] at *; first | omega | (simp at z_; omega))
                by_cases c28 : ((a0.extract 0 (t105 : Int).toNat) ++ (⟨#[49, 49]⟩ : ByteArray)).size + t107.size ≤ 9223372036854775807
                · rw [if_pos c28] at H
                  have c28b0 := eq_true c28
                  have c28b1 : decide (((a0.extract 0 (t105 : Int).toNat) ++ (⟨#[49, 49]⟩ : ByteArray)).size + t107.size ≤ 9223372036854775807) = true := decide_eq_true c28
                  try have c28b2 : (9223372036854775807 < ((a0.extract 0 (t105 : Int).toNat) ++ (⟨#[49, 49]⟩ : ByteArray)).size + t107.size) = False := eq_false (Nat.not_lt.2 c28)
                  try have c28b3 : (9223372036854775807 < (t105 : Int).toNat + 2 + t107.size) = False := eq_false (by have z_ := c28; simp only [ByteArray.size_append, ByteArray.size_extract, decide_eq_true_eq, eq_iff_iff, iff_true, (show (⟨#[49, 49]⟩ : ByteArray).size = 2 from rfl)] at *; first | omega | (simp at z_; omega))
                  by_cases c29 : (((a0.extract 0 (t105 : Int).toNat) ++ (⟨#[49, 49]⟩ : ByteArray)) ++ t107).size + t111.size ≤ 9223372036854775807
                  · rw [if_pos c29] at H
                    have c29b0 := eq_true c29
                    have c29b1 : decide ((((a0.extract 0 (t105 : Int).toNat) ++ (⟨#[49, 49]⟩ : ByteArray)) ++ t107).size + t111.size ≤ 9223372036854775807) = true := decide_eq_true c29
                    try have c29b2 : (9223372036854775807 < (((a0.extract 0 (t105 : Int).toNat) ++ (⟨#[49, 49]⟩ : ByteArray)) ++ t107).size + t111.size) = False := eq_false (Nat.not_lt.2 c29)
                    try have c29b3 : (9223372036854775807 < (t105 : Int).toNat + 2 + t107.size + t111.size) = False := eq_false (by have z_ := c29; simp only [ByteArray.size_append, ByteArray.size_extract, decide_eq_true_eq, eq_iff_iff, iff_true, (show (⟨#[49, 49]⟩ : ByteArray).size = 2 from rfl)] at *; first | omega | (simp at z_; omega))
                    by_cases c30 : ((((a0.extract 0 (t105 : Int).toNat) ++ (⟨#[49, 49]⟩ : ByteArray)) ++ t107) ++ t111).size + t112.size ≤ 9223372036854775807
                    · rw [if_pos c30] at H
                      have c30b0 := eq_true c30
                      have c30b1 : decide (((((a0.extract 0 (t105 : Int).toNat) ++ (⟨#[49, 49]⟩ : ByteArray)) ++ t107) ++ t111).size + t112.size ≤ 9223372036854775807) = true := decide_eq_true c30
                      try have c30b2 : (9223372036854775807 < ((((a0.extract 0 (t105 : Int).toNat) ++ (⟨#[49, 49]⟩ : ByteArray)) ++ t107) ++ t111).size + t112.size) = False := eq_false (Nat.not_lt.2 c30)
                      try have c30b3 : (9223372036854775807 < (t105 : Int).toNat + 2 + t107.size + t111.size + t112.size) = False := eq_false (by have z_ := c30; simp only [ByteArray.size_append, ByteArray.size_extract, decide_eq_true_eq, eq_iff_iff, iff_true, (show (⟨#[49, 49]⟩ : ByteArray).size = 2 from rfl)] at *; first | omega | (simp at z_; omega))
                      by_cases c31 : 0 ≤ t106
                      · rw [if_pos c31] at H
                        have c31b0 := eq_true c31
                        have c31b1 : decide (0 ≤ t106) = true := decide_eq_true c31
                        clear c31
                        have c32b0 := eq_true (of_decide_eq_true (by first | (with_reducible assumption) | assumption) : t106 ≤ (a0.size : Int))
                        by_cases c33 : (((((a0.extract 0 (t105 : Int).toNat) ++ (⟨#[49, 49]⟩ : ByteArray)) ++ t107) ++ t111) ++ t112).size + (a0.extract (t106 : Int).toNat a0.size).size ≤ 9223372036854775807
                        · rw [if_pos c33] at H
                          have c33b0 := eq_true c33
                          have c33b1 : decide ((((((a0.extract 0 (t105 : Int).toNat) ++ (⟨#[49, 49]⟩ : ByteArray)) ++ t107) ++ t111) ++ t112).size + (a0.extract (t106 : Int).toNat a0.size).size ≤ 9223372036854775807) = true := decide_eq_true c33
                          try have c33b2 : (9223372036854775807 < (((((a0.extract 0 (t105 : Int).toNat) ++ (⟨#[49, 49]⟩ : ByteArray)) ++ t107) ++ t111) ++ t112).size + (a0.extract (t106 : Int).toNat a0.size).size) = False := eq_false (Nat.not_lt.2 c33)
                          try have c33b3 : (9223372036854775807 < (t105 : Int).toNat + 2 + t107.size + t111.size + t112.size + (a0.size - ((t106 : Int).toNat))) = False := eq_false (by have z_ := c33; simp only [ByteArray.size_append, ByteArray.size_extract, decide_eq_true_eq, eq_iff_iff, iff_true, (show (⟨#[49, 49]⟩ : ByteArray).size = 2 from rfl)] at *; first | omega | (simp at z_; omega))
                          simp only [Option.some.injEq, Prod.mk.injEq] at H
                          obtain ⟨rfl, rfl⟩ := H
                          go_enter Try.func8, Try.ntmps8
                          go_wp2_with (first | (go_at_call 13; (with_reducible refine (spec_l03Place.calls k a0 a1 t105 _ A4.out).mono ?_); rintro e w' ⟨rfl, ⟨nd, rfl⟩⟩; (try first | exact ⟨rfl, _, World.drewN_drewN _ _ _⟩ | exact ⟨rfl, _, Eq.trans (World.drewN_drewN _ _ _) (congrArg (World.drewN _) (Nat.add_assoc _ _ _))⟩)) | (go_at_call 14; (with_reducible refine (spec_l03End.calls k a0 t105 t106 _ A5.out).mono ?_); rintro e w' ⟨rfl, ⟨nd, rfl⟩⟩; (try first | exact ⟨rfl, _, World.drewN_drewN _ _ _⟩ | exact ⟨rfl, _, Eq.trans (World.drewN_drewN _ _ _) (congrArg (World.drewN _) (Nat.add_assoc _ _ _))⟩)) | (go_at_call 15; (with_reducible refine (spec_l03Sides.calls k (a0.extract (t105 : Int).toNat (t106 : Int).toNat) t107 t108 _ A9.out).mono ?_); rintro e w' ⟨rfl, ⟨nd, rfl⟩⟩; (try first | exact ⟨rfl, _, World.drewN_drewN _ _ _⟩ | exact ⟨rfl, _, Eq.trans (World.drewN_drewN _ _ _) (congrArg (World.drewN _) (Nat.add_assoc _ _ _))⟩)) | (go_at_call 15; (with_reducible refine (spec_l03Sides.calls k t108 t111 t112 _ A24.out).mono ?_); rintro e w' ⟨rfl, ⟨nd, rfl⟩⟩; (try first | exact ⟨rfl, _, World.drewN_drewN _ _ _⟩ | exact ⟨rfl, _, Eq.trans (World.drewN_drewN _ _ _) (congrArg (World.drewN _) (Nat.add_assoc _ _ _))⟩)))
                          repeat (go_quiet (first | (go_at_call 13; (with_reducible refine (spec_l03Place.calls k a0 a1 t105 _ A4.out).mono ?_); rintro e w' ⟨rfl, ⟨nd, rfl⟩⟩; (try first | exact ⟨rfl, _, World.drewN_drewN _ _ _⟩ | exact ⟨rfl, _, Eq.trans (World.drewN_drewN _ _ _) (congrArg (World.drewN _) (Nat.add_assoc _ _ _))⟩)) | (go_at_call 14; (with_reducible refine (spec_l03End.calls k a0 t105 t106 _ A5.out).mono ?_); rintro e w' ⟨rfl, ⟨nd, rfl⟩⟩; (try first | exact ⟨rfl, _, World.drewN_drewN _ _ _⟩ | exact ⟨rfl, _, Eq.trans (World.drewN_drewN _ _ _) (congrArg (World.drewN _) (Nat.add_assoc _ _ _))⟩)) | (go_at_call 15; (with_reducible refine (spec_l03Sides.calls k (a0.extract (t105 : Int).toNat (t106 : Int).toNat) t107 t108 _ A9.out).mono ?_); rintro e w' ⟨rfl, ⟨nd, rfl⟩⟩; (try first | exact ⟨rfl, _, World.drewN_drewN _ _ _⟩ | exact ⟨rfl, _, Eq.trans (World.drewN_drewN _ _ _) (congrArg (World.drewN _) (Nat.add_assoc _ _ _))⟩)) | (go_at_call 15; (with_reducible refine (spec_l03Sides.calls k t108 t111 t112 _ A24.out).mono ?_); rintro e w' ⟨rfl, ⟨nd, rfl⟩⟩; (try first | exact ⟨rfl, _, World.drewN_drewN _ _ _⟩ | exact ⟨rfl, _, Eq.trans (World.drewN_drewN _ _ _) (congrArg (World.drewN _) (Nat.add_assoc _ _ _))⟩))); try go_wp2_with (first | (go_at_call 13; (with_reducible refine (spec_l03Place.calls k a0 a1 t105 _ A4.out).mono ?_); rintro e w' ⟨rfl, ⟨nd, rfl⟩⟩; (try first | exact ⟨rfl, _, World.drewN_drewN _ _ _⟩ | exact ⟨rfl, _, Eq.trans (World.drewN_drewN _ _ _) (congrArg (World.drewN _) (Nat.add_assoc _ _ _))⟩)) | (go_at_call 14; (with_reducible refine (spec_l03End.calls k a0 t105 t106 _ A5.out).mono ?_); rintro e w' ⟨rfl, ⟨nd, rfl⟩⟩; (try first | exact ⟨rfl, _, World.drewN_drewN _ _ _⟩ | exact ⟨rfl, _, Eq.trans (World.drewN_drewN _ _ _) (congrArg (World.drewN _) (Nat.add_assoc _ _ _))⟩)) | (go_at_call 15; (with_reducible refine (spec_l03Sides.calls k (a0.extract (t105 : Int).toNat (t106 : Int).toNat) t107 t108 _ A9.out).mono ?_); rintro e w' ⟨rfl, ⟨nd, rfl⟩⟩; (try first | exact ⟨rfl, _, World.drewN_drewN _ _ _⟩ | exact ⟨rfl, _, Eq.trans (World.drewN_drewN _ _ _) (congrArg (World.drewN _) (Nat.add_assoc _ _ _))⟩)) | (go_at_call 15; (with_reducible refine (spec_l03Sides.calls k t108 t111 t112 _ A24.out).mono ?_); rintro e w' ⟨rfl, ⟨nd, rfl⟩⟩; (try first | exact ⟨rfl, _, World.drewN_drewN _ _ _⟩ | exact ⟨rfl, _, Eq.trans (World.drewN_drewN _ _ _) (congrArg (World.drewN _) (Nat.add_assoc _ _ _))⟩))))
                          go_ret2
                          exact ⟨by first | rfl | (simp; done) | (simp [*]; done), by repeat (first | exact Drawn0.refl _ | apply Drawn0.step)⟩
                        · rw [if_neg c33] at H
                          exact absurd H (by simp)
                      · rw [if_neg c31] at H
                        exact absurd H (by simp)
                    · rw [if_neg c30] at H
                      exact absurd H (by simp)
                  · rw [if_neg c29] at H
                    exact absurd H (by simp)
                · rw [if_neg c28] at H
                  exact absurd H (by simp)
              · rw [if_neg c27] at H
                exact absurd H (by simp)
            · rw [if_neg c26] at H
              exact absurd H (by simp)
      · rw [if_neg c8] at H
        exact absurd H (by simp)
    · rw [if_neg c7] at H
      exact absurd H (by simp)
  · rw [if_neg c6] at H
    exact absurd H (by simp)

mutual
def spec_TurnsBetween.l0 : Nat → ByteArray → ByteArray → List ByteArray → List Int → Int → Option (Int × Int)
  | 0, _, _, _, _, _ => none
  | k + 1, x0, x1, x7, x8, x9 => if x9 < (x7.length : Int) then (if 0 ≤ x9 then (if (rdOf ByteArray.empty x7 x9).toList = x1.toList then (if x9 < (x8.length : Int) then (some (rd x8 x9, 0)) else (none)) else (spec_TurnsBetween.l1 k x0 x1 x7 x8 x9 0)) else (none)) else (some (0, 0))
def spec_TurnsBetween.l1 : Nat → ByteArray → ByteArray → List ByteArray → List Int → Int → Int → Option (Int × Int)
  | 0, _, _, _, _, _, _ => none
  | k + 1, x0, x1, x7, x8, x9, x10 => (spec_l03N.f x0).bind fun t123 => (if x10 < t123 then (spec_TurnsBetween.l2 k x0 x1 x7 x8 x9 x10 0) else (spec_TurnsBetween.l0 k x0 x1 x7 x8 (wrap64 (x9 + 1))))
def spec_TurnsBetween.l2 : Nat → ByteArray → ByteArray → List ByteArray → List Int → Int → Int → Int → Option (Int × Int)
  | 0, _, _, _, _, _, _, _ => none
  | k + 1, x0, x1, x7, x8, x9, x10, x11 => if x11 < 2 then (if 0 ≤ x9 then (if x9 < (x7.length : Int) then ((spec_l03Turn.f k (rdOf ByteArray.empty x7 x9) x10 (x11 == 0)).bind fun bt125 => (spec_TurnsBetween.l3 k x0 x1 x7 x8 x9 x10 x11 bt125.1 bt125.2 0)) else (none)) else (none)) else (spec_TurnsBetween.l1 k x0 x1 x7 x8 x9 (wrap64 (x10 + 1)))
def spec_TurnsBetween.l3 : Nat → ByteArray → ByteArray → List ByteArray → List Int → Int → Int → Int → ByteArray → Bool → Int → Option (Int × Int)
  | 0, _, _, _, _, _, _, _, _, _, _ => none
  | k + 1, x0, x1, x7, x8, x9, x10, x11, x12, x13, x14 => if x14 < (x7.length : Int) then (if x13 = true then (if 0 ≤ x14 then (spec_TurnsBetween.l3 k x0 x1 x7 x8 x9 x10 x11 x12 ((rdOf ByteArray.empty x7 x14).toList != x12.toList) (wrap64 (x14 + 1))) else (none)) else (spec_TurnsBetween.l2 k x0 x1 x7 x8 x9 x10 (wrap64 (x11 + 1)))) else (if x13 = true then (if x7.length < 8796093022208 then (if 0 ≤ x9 then (if x9 < (x8.length : Int) then (if x8.length < 17592186044416 then (spec_TurnsBetween.l2 k x0 x1 (x7 ++ [x12]) (x8 ++ [wrap64 ((rd x8 x9) + 1)]) x9 x10 (wrap64 (x11 + 1))) else (none)) else (none)) else (none)) else (none)) else (spec_TurnsBetween.l2 k x0 x1 x7 x8 x9 x10 (wrap64 (x11 + 1))))
end
def spec_TurnsBetween.f (k : Nat) (a0 : ByteArray) (a1 : ByteArray) : Option (Int × Int) := (spec_l03Both.f k a0 a1).bind fun t113 => (if t113 = 0 then ((spec_l03N.f a0).bind fun t114 => (if t114 > 7 then (some (0, 3)) else (spec_TurnsBetween.l0 k a0 a1 (([a0] : List ByteArray)) (([0] : List Int)) 0))) else (some (0, t113)))
set_option maxHeartbeats 8000000 in
set_option maxRecDepth 100000 in
theorem spec_TurnsBetween.calls (k : Nat) (a0 : ByteArray) (a1 : ByteArray) (r1 : Int) (r2 : Int) (w : World) (h : spec_TurnsBetween.f k a0 a1 = some (r1, r2)) :
    Calls Try.prog 4 #[.string a0, .string a1] w fun e w' => e = .returned (.tuple #[.int .i64 r1, .int .i64 r2]) ∧ Below w.heap.size w w' := by
  have HB := Aside0.mk (Below.refl w.heap.size w)
  have H : ((spec_l03Both.f k a0 a1).bind fun t113 => (if t113 = 0 then ((spec_l03N.f a0).bind fun t114 => (if t114 > 7 then (some (0, 3)) else (spec_TurnsBetween.l0 k a0 a1 (([a0] : List ByteArray)) (([0] : List Int)) 0))) else (some (0, t113)))) = some (r1, r2) := h
  clear h
  replace H := Option.bind_eq_some_iff.mp H
  obtain ⟨t113, A30, H⟩ := H
  replace H : (if t113 = 0 then ((spec_l03N.f a0).bind fun t114 => (if t114 > 7 then (some (0, 3)) else (spec_TurnsBetween.l0 k a0 a1 (([a0] : List ByteArray)) (([0] : List Int)) 0))) else (some (0, t113))) = some (r1, r2) := H
  have A3 := Aside0.mk A30
  clear A30
  by_cases c4 : t113 = 0
  · rw [if_pos c4] at H
    have c4b0 : (t113 == 0) = true := beq_iff_eq.mpr c4
    have c4b1 : (t113 != 0) = false := bne_eq_false_iff_eq.mpr c4
    clear c4
    replace H := Option.bind_eq_some_iff.mp H
    obtain ⟨t114, A50, H⟩ := H
    replace H : (if t114 > 7 then (some (0, 3)) else (spec_TurnsBetween.l0 k a0 a1 (([a0] : List ByteArray)) (([0] : List Int)) 0)) = some (r1, r2) := H
    have A5 := Aside0.mk A50
    clear A50
    by_cases c6 : t114 > 7
    · rw [if_pos c6] at H
      have c6b0 : decide (7 < t114) = true := decide_eq_true c6
      clear c6
      simp only [Option.some.injEq, Prod.mk.injEq] at H
      obtain ⟨rfl, rfl⟩ := H
      go_enter Try.func4, Try.ntmps4
      go_wp2_with (first | ((with_reducible refine gate_callee (f := 6) rfl ?_); refine goesL_ (some 17) rfl rfl Try.func6 (by kernel_rfl) rfl #[.string a0, .string a1] rfl (by (try simp only [List.map_toArray, List.map_cons, List.map_nil]); first | done | rfl | (simp only [List.length_drop, List.length_take]; rfl)) ?_; (with_reducible refine (spec_l03Both.calls k a0 a1 t113 _ A3.out).mono ?_); rintro e w' ⟨rfl, ⟨nd, rfl⟩⟩; refine ⟨_, rfl, ?_⟩) | ((with_reducible refine gate_callee (f := 7) rfl ?_); refine goesL_ (some 22) rfl rfl Try.func7 (by kernel_rfl) rfl #[.string a0] rfl (by (try simp only [List.map_toArray, List.map_cons, List.map_nil]); first | done | rfl | (simp only [List.length_drop, List.length_take]; rfl)) ?_; (with_reducible refine (spec_l03N.calls a0 t114 _ A5.out).mono ?_); rintro e w' ⟨rfl, ⟨nd, rfl⟩⟩; refine ⟨_, rfl, ?_⟩))
      go_ret2
      exact ⟨by first | rfl | (simp [errW_none, errW_some] <;> rfl) | (simp [*, errW_none, errW_some] <;> rfl), by repeat (first | (with_reducible first | exact HB.out | apply below_alloc | apply pw_below_drewN | apply below_drew1) | exact HB.out)⟩
    · rw [if_neg c6] at H
      have c6b0 : decide (7 < t114) = false := decide_eq_false c6
      clear c6
      obtain ⟨y115, hy115⟩ : ∃ y_ : List ByteArray, y_ = (([a0] : List ByteArray)) := ⟨_, rfl⟩
      replace H : (spec_TurnsBetween.l0 k a0 a1 y115 (([0] : List Int)) 0) = some (r1, r2) := by first | (rw [hy115]; with_reducible exact H) | (have H2_ := (Option.bind_some _ _).symm.trans H; rw [hy115]; with_reducible exact H2_) | (have H2_ := (Option.bind_some _ _).symm.trans H; with_reducible exact H2_) | with_reducible exact H | (rw [hy115]; exact H) | exact H
      have Ny115 := Aside0.mk hy115
      clear hy115
      obtain ⟨y118, hy118⟩ : ∃ y_ : List Int, y_ = (([0] : List Int)) := ⟨_, rfl⟩
      replace H : (spec_TurnsBetween.l0 k a0 a1 y115 y118 0) = some (r1, r2) := by first | (rw [hy118]; with_reducible exact H) | (have H2_ := (Option.bind_some _ _).symm.trans H; rw [hy118]; with_reducible exact H2_) | (have H2_ := (Option.bind_some _ _).symm.trans H; with_reducible exact H2_) | with_reducible exact H | (rw [hy118]; exact H) | exact H
      have Ny118 := Aside0.mk hy118
      clear hy118
      have H' := Aside0.mk H
      clear H
      go_enter Try.func4, Try.ntmps4
      go_wp2_with (first | ((with_reducible refine gate_callee (f := 6) rfl ?_); refine goesL_ (some 17) rfl rfl Try.func6 (by kernel_rfl) rfl #[.string a0, .string a1] rfl (by (try simp only [List.map_toArray, List.map_cons, List.map_nil]); first | done | rfl | (simp only [List.length_drop, List.length_take]; rfl)) ?_; (with_reducible refine (spec_l03Both.calls k a0 a1 t113 _ A3.out).mono ?_); rintro e w' ⟨rfl, ⟨nd, rfl⟩⟩; refine ⟨_, rfl, ?_⟩) | ((with_reducible refine gate_callee (f := 7) rfl ?_); refine goesL_ (some 22) rfl rfl Try.func7 (by kernel_rfl) rfl #[.string a0] rfl (by (try simp only [List.map_toArray, List.map_cons, List.map_nil]); first | done | rfl | (simp only [List.length_drop, List.length_take]; rfl)) ?_; (with_reducible refine (spec_l03N.calls a0 t114 _ A5.out).mono ?_); rintro e w' ⟨rfl, ⟨nd, rfl⟩⟩; refine ⟨_, rfl, ?_⟩) | ((with_reducible refine gate_dst (N := 25) rfl ?_); refine Kd.R_lit Kd.string _ 9 ?hg (N := 25) ?hd (xs := ([a0] : List ByteArray)) (inner := [.string a0]) (ok := fun _ => True) (okp := fun _ => True) ?hr ?hp (fun _ hk => hk) trivial (Below.refl _ _) (Nat.le_refl _) (by simp) ?_; (case hd => rfl); (case hg => rfl); (case hr => first | (go_simp; done) | (go_simp; rfl)); (case hp => exact (Reps.one (show Kd.M Kd.string _ _ _ a0 [.string a0] from rfl) (Reps.none _ _))); intro v116 w7 ho8 hb hg_ hnew_; clear hg_ hnew_; (first | rw [← Ny115.out] at ho8 | (simp only [Int.reduceToNat] at ho8; rw [← Ny115.out] at ho8)); have n0_ := Aside0.mk (Kd.R_lower ho8 (below_size (by repeat (first | (with_reducible first | exact HB.out | apply below_alloc | apply pw_below_drewN | apply below_drew1) | exact HB.out)))); have n1_ := Aside0.mk (below_step (by repeat (first | (with_reducible first | exact HB.out | apply below_alloc | apply pw_below_drewN | apply below_drew1) | exact HB.out)) hb); clear HB; have HO117 := n0_; have HB := n1_; clear n0_ n1_; clear hb ho8) | ((with_reducible refine gate_dst (N := 26) rfl ?_); refine Kd.R_lit (Kd.int .i64) _ 2 ?hg (N := 26) ?hd (xs := ([0] : List Int)) (inner := [.int .i64 0]) (ok := fun _ => True) (okp := fun _ => True) ?hr ?hp (fun _ hk => hk) trivial (Below.refl _ _) (Nat.le_refl _) (by simp) ?_; (case hd => rfl); (case hg => rfl); (case hr => first | (go_simp; done) | (go_simp; rfl)); (case hp => exact (Reps.one (show Kd.M (Kd.int .i64) _ _ _ 0 [.int .i64 0] from rfl) (Reps.none _ _))); intro v119 w9 ho10 hb hg_ hnew_; clear hg_ hnew_; (first | rw [← Ny118.out] at ho10 | (simp only [Int.reduceToNat] at ho10; rw [← Ny118.out] at ho10)); have n0_ := Aside0.mk (Kd.R_below (by (with_reducible repeat (first | apply Kd.R_alloc | apply Kd.R_drewN | apply Kd.R_drew)); exact HO117.out) hb); have n1_ := Aside0.mk (Kd.R_lower ho10 (below_size (by repeat (first | (with_reducible first | exact HB.out | apply below_alloc | apply pw_below_drewN | apply below_drew1) | exact HB.out)))); have n2_ := Aside0.mk (below_step (by repeat (first | (with_reducible first | exact HB.out | apply below_alloc | apply pw_below_drewN | apply below_drew1) | exact HB.out)) hb); clear HO117; clear HB; have HO117 := n0_; have HO120 := n1_; have HB := n2_; clear n0_ n1_ n2_; clear hb ho10))
      go_loopg [7, 8, 9] k (fun kq v7 v8 v9 w' => ∃ (x7_1 : List ByteArray) (x8_1 : List Int) (x9_1 : Int), v9 = .int .i64 x9_1 ∧ Aside0 (spec_TurnsBetween.l0 kq a0 a1 x7_1 x8_1 x9_1 = some (r1, r2)) ∧ Aside0 (kq ≤ k) ∧ Aside0 (Kd.R Kd.string 9 w' w.heap.size (fun _ => True) v7 x7_1) ∧ Aside0 (Kd.R (Kd.int .i64) 2 w' w.heap.size (fun _ => True) v8 x8_1) ∧ Aside0 (Below w.heap.size w w'))
      case atStart => exact ⟨(y115), (y118), (0), (by first | rfl | (simp; done) | (simp [*]; done)), H', ⟨Nat.le_refl _⟩, ⟨by (with_reducible repeat (first | apply Kd.R_alloc | apply Kd.R_drewN | apply Kd.R_drew)); exact HO117.out⟩, ⟨by (with_reducible repeat (first | apply Kd.R_alloc | apply Kd.R_drewN | apply Kd.R_drew)); exact HO120.out⟩, ⟨by repeat (first | (with_reducible first | exact HB.out | apply below_alloc | apply pw_below_drewN | apply below_drew1) | exact HB.out)⟩⟩
      case round =>
        clear H'
        try clear p2
        try clear c4
        try clear c4b0
        try clear c4b1
        try clear c6
        try clear c6b0
        try clear c7
        obtain ⟨x7_1, x8_1, x9_1, rfl, HA, HK1, HO_7, HO_8, HB⟩ := hrel
        cases gk with
        | zero => exact absurd HA.out (by simp [spec_TurnsBetween.l0])
        | succ k1 =>
          have H := HA.out
          clear HA
          simp only [spec_TurnsBetween.l0] at H
          by_cases c11 : x9_1 < (x7_1.length : Int)
          · rw [if_pos c11] at H
            have c11b0 : decide (x9_1 < (x7_1.length : Int)) = true := decide_eq_true c11
            clear c11
            by_cases c12 : 0 ≤ x9_1
            · rw [if_pos c12] at H
              have c12b0 : decide (0 ≤ x9_1) = true := decide_eq_true c12
              clear c12
              by_cases c13 : (rdOf ByteArray.empty x7_1 x9_1).toList = a1.toList
              · rw [if_pos c13] at H
                have c13b0 : ((rdOf ByteArray.empty x7_1 x9_1).toList == a1.toList) = true := beq_iff_eq.mpr c13
                have c13b1 : ((rdOf ByteArray.empty x7_1 x9_1).toList != a1.toList) = false := bne_eq_false_iff_eq.mpr c13
                clear c13
                by_cases c14 : x9_1 < (x8_1.length : Int)
                · rw [if_pos c14] at H
                  have c14b0 : decide (x9_1 < (x8_1.length : Int)) = true := decide_eq_true c14
                  clear c14
                  simp only [Option.some.injEq, Prod.mk.injEq] at H
                  obtain ⟨rfl, rfl⟩ := H
                  obtain ⟨Ao15, co15, eo15⟩ := Kd.R_slice HO_7.out
                  subst eo15
                  have p121 : 0 ≤ (x9_1 : Int) := of_decide_eq_true (by first | (with_reducible assumption) | assumption)
                  have q121 : x9_1 < (x7_1.length : Int) := of_decide_eq_true (by first | (with_reducible assumption) | assumption)
                  obtain ⟨ad121, e121, hx121_0⟩ := Kd.at_string (Kd.R_reads' HO_7.out).2.2 x9_1 p121 q121
                  cases e121
                  replace p121 := eq_true p121
                  replace q121 := eq_true q121
                  obtain ⟨Ao16, co16, eo16⟩ := Kd.R_slice HO_8.out
                  subst eo16
                  have p122 : 0 ≤ (x9_1 : Int) := of_decide_eq_true (by first | (with_reducible assumption) | assumption)
                  have q122 : x9_1 < (x8_1.length : Int) := of_decide_eq_true (by first | (with_reducible assumption) | assumption)
                  obtain ⟨ad122, e122, hx122_0⟩ := Kd.at_int (Kd.R_reads' HO_8.out).2.2 x9_1 p122 q122
                  cases e122
                  replace p122 := eq_true p122
                  replace q122 := eq_true q122
                  go_wp2
                  go_ret2
                  exact ⟨by first | rfl | (simp [errW_none, errW_some] <;> rfl) | (simp [*, errW_none, errW_some] <;> rfl), by repeat (first | (with_reducible first | exact HB.out | apply below_alloc | apply pw_below_drewN | apply below_drew1) | exact HB.out)⟩
                · rw [if_neg c14] at H
                  exact absurd H (by simp)
              · rw [if_neg c13] at H
                have c13b0 : ((rdOf ByteArray.empty x7_1 x9_1).toList == a1.toList) = false := beq_eq_false_iff_ne.mpr c13
                have c13b1 : ((rdOf ByteArray.empty x7_1 x9_1).toList != a1.toList) = true := bne_iff_ne.mpr c13
                have H' := Aside0.mk H
                clear H
                obtain ⟨Ao17, co17, eo17⟩ := Kd.R_slice HO_7.out
                subst eo17
                have p121 : 0 ≤ (x9_1 : Int) := of_decide_eq_true (by first | (with_reducible assumption) | assumption)
                have q121 : x9_1 < (x7_1.length : Int) := of_decide_eq_true (by first | (with_reducible assumption) | assumption)
                obtain ⟨ad121, e121, hx121_0⟩ := Kd.at_string (Kd.R_reads' HO_7.out).2.2 x9_1 p121 q121
                cases e121
                replace p121 := eq_true p121
                replace q121 := eq_true q121
                go_wp2
                go_loopg [7, 8, 10] k1 (fun kq v7 v8 v10 w' => ∃ (x7_2 : List ByteArray) (x8_2 : List Int) (x10_2 : Int), v10 = .int .i64 x10_2 ∧ Aside0 (spec_TurnsBetween.l1 kq a0 a1 x7_2 x8_2 x9_1 x10_2 = some (r1, r2)) ∧ Aside0 (kq ≤ k1) ∧ Aside0 (Kd.R Kd.string 9 w' w.heap.size (fun _ => True) v7 x7_2) ∧ Aside0 (Kd.R (Kd.int .i64) 2 w' w.heap.size (fun _ => True) v8 x8_2) ∧ Aside0 (Below w.heap.size w w'))
                case atStart => exact ⟨(x7_1), (x8_1), (0), (by first | rfl | (simp; done) | (simp [*]; done)), H', ⟨Nat.le_refl _⟩, ⟨by (with_reducible repeat (first | apply Kd.R_alloc | apply Kd.R_drewN | apply Kd.R_drew)); exact HO_7.out⟩, ⟨by (with_reducible repeat (first | apply Kd.R_alloc | apply Kd.R_drewN | apply Kd.R_drew)); exact HO_8.out⟩, ⟨by repeat (first | (with_reducible first | exact HB.out | apply below_alloc | apply pw_below_drewN | apply below_drew1) | exact HB.out)⟩⟩
                case round =>
                  clear H'
                  try clear c1
                  try clear p1
                  try clear q1
                  try clear hx1
                  try clear p2
                  try clear c4
                  try clear c4b0
                  try clear c4b1
                  try clear c6
                  try clear c6b0
                  try clear c7
                  try clear c11
                  try clear c11b0
                  try clear c12
                  try clear c12b0
                  try clear p12
                  try clear q12
                  try clear hx12
                  try clear c13
                  try clear c13b0
                  try clear c13b1
                  try clear c14
                  try clear c14b0
                  try clear hx121_0
                  try clear hx122_0
                  try clear p121
                  try clear p122
                  try clear p2
                  try clear q121
                  try clear q122
                  obtain ⟨x7_2, x8_2, x10_2, rfl, HA, HK2, HO_7, HO_8, HB⟩ := hrel
                  cases gk with
                  | zero => exact absurd HA.out (by simp [spec_TurnsBetween.l1])
                  | succ k2 =>
                    have H := HA.out
                    clear HA
                    simp only [spec_TurnsBetween.l1] at H
                    replace H := Option.bind_eq_some_iff.mp H
                    obtain ⟨t123, A180, H⟩ := H
                    replace H : (if x10_2 < t123 then (spec_TurnsBetween.l2 k2 a0 a1 x7_2 x8_2 x9_1 x10_2 0) else (spec_TurnsBetween.l0 k2 a0 a1 x7_2 x8_2 (wrap64 (x9_1 + 1)))) = some (r1, r2) := H
                    have A18 := Aside0.mk A180
                    clear A180
                    by_cases c19 : x10_2 < t123
                    · rw [if_pos c19] at H
                      have c19b0 : decide (x10_2 < t123) = true := decide_eq_true c19
                      clear c19
                      have H' := Aside0.mk H
                      clear H
                      go_wp2_with (first | ((with_reducible refine gate_callee (f := 7) rfl ?_); refine goesL_ (some 45) rfl rfl Try.func7 (by kernel_rfl) rfl #[.string a0] rfl (by (try simp only [List.map_toArray, List.map_cons, List.map_nil]); first | done | rfl | (simp only [List.length_drop, List.length_take]; rfl)) ?_; (with_reducible refine (spec_l03N.calls a0 t123 _ A18.out).mono ?_); rintro e w' ⟨rfl, ⟨nd, rfl⟩⟩; refine ⟨_, rfl, ?_⟩))
                      go_loopg [7, 8, 11] k2 (fun kq v7 v8 v11 w' => ∃ (x7_3 : List ByteArray) (x8_3 : List Int) (x11_3 : Int), v11 = .int .i64 x11_3 ∧ Aside0 (spec_TurnsBetween.l2 kq a0 a1 x7_3 x8_3 x9_1 x10_2 x11_3 = some (r1, r2)) ∧ Aside0 (kq ≤ k2) ∧ Aside0 (Kd.R Kd.string 9 w' w.heap.size (fun _ => True) v7 x7_3) ∧ Aside0 (Kd.R (Kd.int .i64) 2 w' w.heap.size (fun _ => True) v8 x8_3) ∧ Aside0 (Below w.heap.size w w'))
                      case atStart => exact ⟨(x7_2), (x8_2), (0), (by first | rfl | (simp; done) | (simp [*]; done)), H', ⟨Nat.le_refl _⟩, ⟨by (with_reducible repeat (first | apply Kd.R_alloc | apply Kd.R_drewN | apply Kd.R_drew)); exact HO_7.out⟩, ⟨by (with_reducible repeat (first | apply Kd.R_alloc | apply Kd.R_drewN | apply Kd.R_drew)); exact HO_8.out⟩, ⟨by repeat (first | (with_reducible first | exact HB.out | apply below_alloc | apply pw_below_drewN | apply below_drew1) | exact HB.out)⟩⟩
                      case round =>
                        clear H'
                        try clear c1
                        try clear p1
                        try clear q1
                        try clear hx1
                        try clear p2
                        try clear c4
                        try clear c4b0
                        try clear c4b1
                        try clear c6
                        try clear c6b0
                        try clear p6
                        try clear c7
                        try clear c11
                        try clear c11b0
                        try clear c12
                        try clear c12b0
                        try clear p12
                        try clear q12
                        try clear hx12
                        try clear c13
                        try clear c13b0
                        try clear c13b1
                        try clear c14
                        try clear c14b0
                        try clear c19
                        try clear c19b0
                        try clear hx121_0
                        try clear hx122_0
                        try clear p1
                        try clear p12
                        try clear p121
                        try clear p122
                        try clear p2
                        try clear q1
                        try clear q12
                        try clear q121
                        try clear q122
                        obtain ⟨x7_3, x8_3, x11_3, rfl, HA, HK3, HO_7, HO_8, HB⟩ := hrel
                        cases gk with
                        | zero => exact absurd HA.out (by simp [spec_TurnsBetween.l2])
                        | succ k3 =>
                          have H := HA.out
                          clear HA
                          simp only [spec_TurnsBetween.l2] at H
                          by_cases c20 : x11_3 < 2
                          · rw [if_pos c20] at H
                            have c20b0 : decide (x11_3 < 2) = true := decide_eq_true c20
                            clear c20
                            by_cases c21 : 0 ≤ x9_1
                            · rw [if_pos c21] at H
                              have c21b0 : decide (0 ≤ x9_1) = true := decide_eq_true c21
                              clear c21
                              by_cases c22 : x9_1 < (x7_3.length : Int)
                              · rw [if_pos c22] at H
                                have c22b0 : decide (x9_1 < (x7_3.length : Int)) = true := decide_eq_true c22
                                clear c22
                                replace H := Option.bind_eq_some_iff.mp H
                                obtain ⟨⟨t125, t126⟩, A230, H⟩ := H
                                replace H : (spec_TurnsBetween.l3 k3 a0 a1 x7_3 x8_3 x9_1 x10_2 x11_3 t125 t126 0) = some (r1, r2) := H
                                have A23 := Aside0.mk A230
                                clear A230
                                have H' := Aside0.mk H
                                clear H
                                obtain ⟨Ao24, co24, eo24⟩ := Kd.R_slice HO_7.out
                                subst eo24
                                have p124 : 0 ≤ (x9_1 : Int) := of_decide_eq_true (by first | (with_reducible assumption) | assumption)
                                have q124 : x9_1 < (x7_3.length : Int) := of_decide_eq_true (by first | (with_reducible assumption) | assumption)
                                obtain ⟨ad124, e124, hx124_0⟩ := Kd.at_string (Kd.R_reads' HO_7.out).2.2 x9_1 p124 q124
                                cases e124
                                replace p124 := eq_true p124
                                replace q124 := eq_true q124
                                go_wp2_with (first | ((with_reducible refine gate_callee (f := 8) rfl ?_); refine goesL_ (some 61) rfl rfl Try.func8 (by kernel_rfl) rfl #[.string (rdOf ByteArray.empty x7_3 x9_1), .int .i64 x10_2, .bool (x11_3 == 0)] rfl (by (try simp only [List.map_toArray, List.map_cons, List.map_nil]); first | done | rfl | (simp only [List.length_drop, List.length_take]; rfl)) ?_; (with_reducible refine (spec_l03Turn.calls k3 (rdOf ByteArray.empty x7_3 x9_1) x10_2 (x11_3 == 0) t125 t126 _ A23.out).mono ?_); rintro e w' ⟨rfl, ⟨nd, rfl⟩⟩; refine ⟨_, rfl, ?_⟩))
                                go_loopg [13, 14] k3 (fun kq v13 v14 w' => ∃ (x13_4 : Bool) (x14_4 : Int), v13 = .bool x13_4 ∧ v14 = .int .i64 x14_4 ∧ Aside0 (spec_TurnsBetween.l3 kq a0 a1 x7_3 x8_3 x9_1 x10_2 x11_3 t125 x13_4 x14_4 = some (r1, r2)) ∧ Aside0 (kq ≤ k3) ∧ Aside0 (Kd.R Kd.string 9 w' w.heap.size (fun _ => True) (.slice (some ad124) x7_3.length co24) x7_3) ∧ Aside0 (Kd.R (Kd.int .i64) 2 w' w.heap.size (fun _ => True) u8 x8_3) ∧ Aside0 (Below w.heap.size w w'))
                                case atStart => exact ⟨(t126), (0), (by first | rfl | (simp; done) | (simp [*]; done)), (by first | rfl | (simp; done) | (simp [*]; done)), H', ⟨Nat.le_refl _⟩, ⟨by (with_reducible repeat (first | apply Kd.R_alloc | apply Kd.R_drewN | apply Kd.R_drew)); exact HO_7.out⟩, ⟨by (with_reducible repeat (first | apply Kd.R_alloc | apply Kd.R_drewN | apply Kd.R_drew)); exact HO_8.out⟩, ⟨by repeat (first | (with_reducible first | exact HB.out | apply below_alloc | apply pw_below_drewN | apply below_drew1) | exact HB.out)⟩⟩
                                case round =>
                                  clear H'
                                  try clear c1
                                  try clear p1
                                  try clear q1
                                  try clear hx1
                                  try clear c2
                                  try clear p2
                                  try clear c4
                                  try clear c4b0
                                  try clear c4b1
                                  try clear c6
                                  try clear c6b0
                                  try clear p6
                                  try clear c7
                                  try clear c8
                                  try clear c11
                                  try clear c11b0
                                  try clear c12
                                  try clear c12b0
                                  try clear p12
                                  try clear q12
                                  try clear hx12
                                  try clear c13
                                  try clear c13b0
                                  try clear c13b1
                                  try clear c14
                                  try clear c14b0
                                  try clear c19
                                  try clear c19b0
                                  try clear c20
                                  try clear c20b0
                                  try clear c21
                                  try clear c21b0
                                  try clear c22
                                  try clear c22b0
                                  try clear hx121_0
                                  try clear hx122_0
                                  try clear hx124_0
                                  try clear p1
                                  try clear p12
                                  try clear p121
                                  try clear p122
                                  try clear p124
                                  try clear p2
                                  try clear p6
                                  try clear q1
                                  try clear q12
                                  try clear q121
                                  try clear q122
                                  try clear q124
                                  obtain ⟨x13_4, x14_4, rfl, rfl, HA, HK4, HO_7, HO_8, HB⟩ := hrel
                                  cases gk with
                                  | zero => exact absurd HA.out (by simp [spec_TurnsBetween.l3])
                                  | succ k4 =>
                                    have H := HA.out
                                    clear HA
                                    simp only [spec_TurnsBetween.l3] at H
                                    by_cases c25 : x14_4 < (x7_3.length : Int)
                                    · rw [if_pos c25] at H
                                      have c25b0 : decide (x14_4 < (x7_3.length : Int)) = true := decide_eq_true c25
                                      clear c25
                                      by_cases c26 : x13_4 = true
                                      · subst c26
                                        have H1 : (if 0 ≤ x14_4 then (spec_TurnsBetween.l3 k4 a0 a1 x7_3 x8_3 x9_1 x10_2 x11_3 t125 ((rdOf ByteArray.empty x7_3 x14_4).toList != t125.toList) (wrap64 (x14_4 + 1))) else (none)) = some (r1, r2) := by rw [if_pos rfl] at H; exact H
                                        clear H
                                        have H := H1
                                        clear H1
                                        by_cases c27 : 0 ≤ x14_4
                                        · rw [if_pos c27] at H
                                          have c27b0 : decide (0 ≤ x14_4) = true := decide_eq_true c27
                                          clear c27
                                          have H' := Aside0.mk H
                                          clear H
                                          have p127 : 0 ≤ (x14_4 : Int) := of_decide_eq_true (by first | (with_reducible assumption) | assumption)
                                          have q127 : x14_4 < (x7_3.length : Int) := of_decide_eq_true (by first | (with_reducible assumption) | assumption)
                                          obtain ⟨ad127, e127, hx127_0⟩ := Kd.at_string (Kd.R_reads' HO_7.out).2.2 x14_4 p127 q127
                                          obtain rfl : ad124 = ad127 := (by injection e127)
                                          replace p127 := eq_true p127
                                          replace q127 := eq_true q127
                                          go_wp2
                                          go_roundg k4
                                          case measure => have := HK1.out; have := HK2.out; have := HK3.out; have := HK4.out; omega
                                          case rel => exact ⟨(((rdOf ByteArray.empty x7_3 x14_4).toList != t125.toList)), (wrap64 (x14_4 + 1)), (by first | rfl | (simp; done) | (simp [*]; done)), (by first | rfl | (simp; done) | (simp [*]; done)), H', ⟨by have := HK1.out; have := HK2.out; have := HK3.out; have := HK4.out; omega⟩, ⟨by (with_reducible repeat (first | apply Kd.R_alloc | apply Kd.R_drewN | apply Kd.R_drew)); exact HO_7.out⟩, ⟨by (with_reducible repeat (first | apply Kd.R_alloc | apply Kd.R_drewN | apply Kd.R_drew)); exact HO_8.out⟩, ⟨by repeat (first | (with_reducible first | exact HB.out | apply below_alloc | apply pw_below_drewN | apply below_drew1) | exact HB.out)⟩⟩
                                        · rw [if_neg c27] at H
                                          exact absurd H (by simp)
                                      · replace c26 := Bool.eq_false_iff.mpr c26
                                        subst c26
                                        have H1 : (spec_TurnsBetween.l2 k4 a0 a1 x7_3 x8_3 x9_1 x10_2 (wrap64 (x11_3 + 1))) = some (r1, r2) := by rw [if_neg (show ¬ (false = true) by decide)] at H; exact H
                                        clear H
                                        have H := H1
                                        clear H1
                                        have H' := Aside0.mk H
                                        clear H
                                        go_wp2
                                        go_roundg k4
                                        case measure => have := HK1.out; have := HK2.out; have := HK3.out; have := HK4.out; omega
                                        case rel => exact ⟨(x7_3), (x8_3), (wrap64 (x11_3 + 1)), (by first | rfl | (simp; done) | (simp [*]; done)), H', ⟨by have := HK1.out; have := HK2.out; have := HK3.out; have := HK4.out; omega⟩, ⟨by (with_reducible repeat (first | apply Kd.R_alloc | apply Kd.R_drewN | apply Kd.R_drew)); exact HO_7.out⟩, ⟨by (with_reducible repeat (first | apply Kd.R_alloc | apply Kd.R_drewN | apply Kd.R_drew)); exact HO_8.out⟩, ⟨by repeat (first | (with_reducible first | exact HB.out | apply below_alloc | apply pw_below_drewN | apply below_drew1) | exact HB.out)⟩⟩
                                    · rw [if_neg c25] at H
                                      have c25b0 : decide (x14_4 < (x7_3.length : Int)) = false := decide_eq_false c25
                                      clear c25
                                      by_cases c28 : x13_4 = true
                                      · subst c28
                                        have H1 : (if x7_3.length < 8796093022208 then (if 0 ≤ x9_1 then (if x9_1 < (x8_3.length : Int) then (if x8_3.length < 17592186044416 then (spec_TurnsBetween.l2 k4 a0 a1 (x7_3 ++ [t125]) (x8_3 ++ [wrap64 ((rd x8_3 x9_1) + 1)]) x9_1 x10_2 (wrap64 (x11_3 + 1))) else (none)) else (none)) else (none)) else (none)) = some (r1, r2) := by rw [if_pos rfl] at H; exact H
                                        clear H
                                        have H := H1
                                        clear H1
                                        by_cases c29 : x7_3.length < 8796093022208
                                        · rw [if_pos c29] at H
                                          have LMc29 := Aside0.mk c29
                                          clear c29
                                          obtain ⟨y128, hy128⟩ : ∃ y_ : List ByteArray, y_ = (x7_3 ++ [t125]) := ⟨_, rfl⟩
                                          replace H : (if 0 ≤ x9_1 then (if x9_1 < (x8_3.length : Int) then (if x8_3.length < 17592186044416 then (spec_TurnsBetween.l2 k4 a0 a1 y128 (x8_3 ++ [wrap64 ((rd x8_3 x9_1) + 1)]) x9_1 x10_2 (wrap64 (x11_3 + 1))) else (none)) else (none)) else (none)) = some (r1, r2) := by first | (rw [hy128]; with_reducible exact H) | (have H2_ := (Option.bind_some _ _).symm.trans H; rw [hy128]; with_reducible exact H2_) | (have H2_ := (Option.bind_some _ _).symm.trans H; with_reducible exact H2_) | with_reducible exact H | (rw [hy128]; exact H) | exact H
                                          have Ny128 := Aside0.mk hy128
                                          clear hy128
                                          by_cases c30 : 0 ≤ x9_1
                                          · rw [if_pos c30] at H
                                            have c30b0 : decide (0 ≤ x9_1) = true := decide_eq_true c30
                                            clear c30
                                            by_cases c31 : x9_1 < (x8_3.length : Int)
                                            · rw [if_pos c31] at H
                                              have c31b0 : decide (x9_1 < (x8_3.length : Int)) = true := decide_eq_true c31
                                              clear c31
                                              by_cases c32 : x8_3.length < 17592186044416
                                              · rw [if_pos c32] at H
                                                have LMc32 := Aside0.mk c32
                                                clear c32
                                                obtain ⟨y132, hy132⟩ : ∃ y_ : List Int, y_ = (x8_3 ++ [wrap64 ((rd x8_3 x9_1) + 1)]) := ⟨_, rfl⟩
                                                replace H : (spec_TurnsBetween.l2 k4 a0 a1 y128 y132 x9_1 x10_2 (wrap64 (x11_3 + 1))) = some (r1, r2) := by first | (rw [hy132]; with_reducible exact H) | (have H2_ := (Option.bind_some _ _).symm.trans H; rw [hy132]; with_reducible exact H2_) | (have H2_ := (Option.bind_some _ _).symm.trans H; with_reducible exact H2_) | with_reducible exact H | (rw [hy132]; exact H) | exact H
                                                have Ny132 := Aside0.mk hy132
                                                clear hy132
                                                have H' := Aside0.mk H
                                                clear H
                                                go_wp2_with (first | ((with_reducible refine gate_builtin (b := .append) (xs := #[.tmp 80, .tmp 82]) rfl ?_); at_builtin; refine Kd.R_append Kd.string (w0 := w) w.heap.size rfl (.tmp 80) (.tmp 82) 27 9 (.string ⟨#[]⟩) 16 rfl Try.underlying27 info9 rfl (by decide) (by omega) (.slice (some ad124) x7_3.length co24) x7_3 t125 [.string t125] (fun _ => True) (fun _ => False) rfl rfl ?aP (fun _ hk => hk.elim) ?aF ?aO ?aB ?aS ?aL ?_; (case aP => exact rfl); (case aB => exact (by repeat (first | (with_reducible first | exact HB.out | apply below_alloc | apply pw_below_drewN | apply below_drew1) | exact HB.out))); (case aF => exact (fun _ _ => trivial)); (case aO => exact (by (with_reducible repeat (first | apply Kd.R_alloc | apply Kd.R_drewN | apply Kd.R_drew)); exact HO_7.out)); (case aS => exact (below_size (by repeat (first | (with_reducible first | exact HB.out | apply below_alloc | apply pw_below_drewN | apply below_drew1) | exact HB.out)))); (case aL => have := LMc29.out; omega); intro v129 w33 ho hb hg hat; rw [← Ny128.out] at ho; have n0_ := Aside0.mk (Kd.R_over' (by (with_reducible repeat (first | apply Kd.R_alloc | apply Kd.R_drewN | apply Kd.R_drew)); exact HO_8.out) (Kd.R_typed (by (with_reducible repeat (first | apply Kd.R_alloc | apply Kd.R_drewN | apply Kd.R_drew)); exact HO_7.out)) (by decide) hg); have n1_ := Aside0.mk (hb); have n2_ := Aside0.mk (ho); clear HO_8; clear HB; clear HO_7; have HO_8 := n0_; have HB := n1_; have HO130 := n2_; clear n0_ n1_ n2_; clear ho hb hg hat; obtain ⟨Ao34, co34, eo34⟩ := Kd.R_slice HO_8.out; subst eo34; have p131 : 0 ≤ (x9_1 : Int) := of_decide_eq_true (by first | (with_reducible assumption) | assumption); have q131 : x9_1 < (x8_3.length : Int) := of_decide_eq_true (by first | (with_reducible assumption) | assumption); obtain ⟨ad131, e131, hx131_0⟩ := Kd.at_int (Kd.R_reads' HO_8.out).2.2 x9_1 p131 q131; cases e131; replace p131 := eq_true p131; replace q131 := eq_true q131) | ((with_reducible refine gate_builtin (b := .append) (xs := #[.tmp 84, .tmp 90]) rfl ?_); at_builtin; refine Kd.R_append (Kd.int .i64) (w0 := w) w.heap.size rfl (.tmp 84) (.tmp 90) 28 2 (.int .i64 0) 8 rfl Try.underlying28 info2 rfl (by decide) (by omega) (.slice (some ad131) x8_3.length co34) x8_3 (wrap64 ((rd x8_3 x9_1) + 1)) [.int .i64 (wrap64 ((rd x8_3 x9_1) + 1))] (fun _ => True) (fun _ => False) rfl rfl ?aP (fun _ hk => hk.elim) ?aF ?aO ?aB ?aS ?aL ?_; (case aP => exact rfl); (case aB => exact (by repeat (first | (with_reducible first | exact HB.out | apply below_alloc | apply pw_below_drewN | apply below_drew1) | exact HB.out))); (case aF => exact (fun _ _ => trivial)); (case aO => exact (by (with_reducible repeat (first | apply Kd.R_alloc | apply Kd.R_drewN | apply Kd.R_drew)); exact HO_8.out)); (case aS => exact (below_size (by repeat (first | (with_reducible first | exact HB.out | apply below_alloc | apply pw_below_drewN | apply below_drew1) | exact HB.out)))); (case aL => have := LMc32.out; omega); intro v133 w35 ho hb hg hat; rw [← Ny132.out] at ho; have n0_ := Aside0.mk (Kd.R_over' (by (with_reducible repeat (first | apply Kd.R_alloc | apply Kd.R_drewN | apply Kd.R_drew)); exact HO130.out) (Kd.R_typed (by (with_reducible repeat (first | apply Kd.R_alloc | apply Kd.R_drewN | apply Kd.R_drew)); exact HO_8.out)) (by decide) hg); have n1_ := Aside0.mk (hb); have n2_ := Aside0.mk (ho); clear HO130; clear HB; clear HO_8; have HO130 := n0_; have HB := n1_; have HO134 := n2_; clear n0_ n1_ n2_; clear ho hb hg hat))
                                                go_roundg k4
                                                case measure => have := HK1.out; have := HK2.out; have := HK3.out; have := HK4.out; omega
                                                case rel => exact ⟨(y128), (y132), (wrap64 (x11_3 + 1)), (by first | rfl | (simp; done) | (simp [*]; done)), H', ⟨by have := HK1.out; have := HK2.out; have := HK3.out; have := HK4.out; omega⟩, ⟨by (with_reducible repeat (first | apply Kd.R_alloc | apply Kd.R_drewN | apply Kd.R_drew)); exact HO130.out⟩, ⟨by (with_reducible repeat (first | apply Kd.R_alloc | apply Kd.R_drewN | apply Kd.R_drew)); exact HO134.out⟩, ⟨by repeat (first | (with_reducible first | exact HB.out | apply below_alloc | apply pw_below_drewN | apply below_drew1) | exact HB.out)⟩⟩
                                              · rw [if_neg c32] at H
                                                exact absurd H (by simp)
                                            · rw [if_neg c31] at H
                                              exact absurd H (by simp)
                                          · rw [if_neg c30] at H
                                            exact absurd H (by simp)
                                        · rw [if_neg c29] at H
                                          exact absurd H (by simp)
                                      · replace c28 := Bool.eq_false_iff.mpr c28
                                        subst c28
                                        have H1 : (spec_TurnsBetween.l2 k4 a0 a1 x7_3 x8_3 x9_1 x10_2 (wrap64 (x11_3 + 1))) = some (r1, r2) := by rw [if_neg (show ¬ (false = true) by decide)] at H; exact H
                                        clear H
                                        have H := H1
                                        clear H1
                                        have H' := Aside0.mk H
                                        clear H
                                        go_wp2
                                        go_roundg k4
                                        case measure => have := HK1.out; have := HK2.out; have := HK3.out; have := HK4.out; omega
                                        case rel => exact ⟨(x7_3), (x8_3), (wrap64 (x11_3 + 1)), (by first | rfl | (simp; done) | (simp [*]; done)), H', ⟨by have := HK1.out; have := HK2.out; have := HK3.out; have := HK4.out; omega⟩, ⟨by (with_reducible repeat (first | apply Kd.R_alloc | apply Kd.R_drewN | apply Kd.R_drew)); exact HO_7.out⟩, ⟨by (with_reducible repeat (first | apply Kd.R_alloc | apply Kd.R_drewN | apply Kd.R_drew)); exact HO_8.out⟩, ⟨by repeat (first | (with_reducible first | exact HB.out | apply below_alloc | apply pw_below_drewN | apply below_drew1) | exact HB.out)⟩⟩
                              · rw [if_neg c22] at H
                                exact absurd H (by simp)
                            · rw [if_neg c21] at H
                              exact absurd H (by simp)
                          · rw [if_neg c20] at H
                            have c20b0 : decide (x11_3 < 2) = false := decide_eq_false c20
                            clear c20
                            have H' := Aside0.mk H
                            clear H
                            go_wp2
                            go_roundg k3
                            case measure => have := HK1.out; have := HK2.out; have := HK3.out; omega
                            case rel => exact ⟨(x7_3), (x8_3), (wrap64 (x10_2 + 1)), (by first | rfl | (simp; done) | (simp [*]; done)), H', ⟨by have := HK1.out; have := HK2.out; have := HK3.out; omega⟩, ⟨by (with_reducible repeat (first | apply Kd.R_alloc | apply Kd.R_drewN | apply Kd.R_drew)); exact HO_7.out⟩, ⟨by (with_reducible repeat (first | apply Kd.R_alloc | apply Kd.R_drewN | apply Kd.R_drew)); exact HO_8.out⟩, ⟨by repeat (first | (with_reducible first | exact HB.out | apply below_alloc | apply pw_below_drewN | apply below_drew1) | exact HB.out)⟩⟩
                    · rw [if_neg c19] at H
                      have c19b0 : decide (x10_2 < t123) = false := decide_eq_false c19
                      clear c19
                      have H' := Aside0.mk H
                      clear H
                      go_wp2_with (first | ((with_reducible refine gate_callee (f := 7) rfl ?_); refine goesL_ (some 45) rfl rfl Try.func7 (by kernel_rfl) rfl #[.string a0] rfl (by (try simp only [List.map_toArray, List.map_cons, List.map_nil]); first | done | rfl | (simp only [List.length_drop, List.length_take]; rfl)) ?_; (with_reducible refine (spec_l03N.calls a0 t123 _ A18.out).mono ?_); rintro e w' ⟨rfl, ⟨nd, rfl⟩⟩; refine ⟨_, rfl, ?_⟩))
                      go_roundg k2
                      case measure => have := HK1.out; have := HK2.out; omega
                      case rel => exact ⟨(x7_2), (x8_2), (wrap64 (x9_1 + 1)), (by first | rfl | (simp; done) | (simp [*]; done)), H', ⟨by have := HK1.out; have := HK2.out; omega⟩, ⟨by (with_reducible repeat (first | apply Kd.R_alloc | apply Kd.R_drewN | apply Kd.R_drew)); exact HO_7.out⟩, ⟨by (with_reducible repeat (first | apply Kd.R_alloc | apply Kd.R_drewN | apply Kd.R_drew)); exact HO_8.out⟩, ⟨by repeat (first | (with_reducible first | exact HB.out | apply below_alloc | apply pw_below_drewN | apply below_drew1) | exact HB.out)⟩⟩
            · rw [if_neg c12] at H
              exact absurd H (by simp)
          · rw [if_neg c11] at H
            have c11b0 : decide (x9_1 < (x7_1.length : Int)) = false := decide_eq_false c11
            clear c11
            simp only [Option.some.injEq, Prod.mk.injEq] at H
            obtain ⟨rfl, rfl⟩ := H
            obtain ⟨Ao36, co36, eo36⟩ := Kd.R_slice HO_7.out
            subst eo36
            go_wp2
            go_ret2
            exact ⟨by first | rfl | (simp [errW_none, errW_some] <;> rfl) | (simp [*, errW_none, errW_some] <;> rfl), by repeat (first | (with_reducible first | exact HB.out | apply below_alloc | apply pw_below_drewN | apply below_drew1) | exact HB.out)⟩
  · rw [if_neg c4] at H
    have c4b0 : (t113 == 0) = false := beq_eq_false_iff_ne.mpr c4
    have c4b1 : (t113 != 0) = true := bne_iff_ne.mpr c4
    simp only [Option.some.injEq, Prod.mk.injEq] at H
    obtain ⟨rfl, rfl⟩ := H
    go_enter Try.func4, Try.ntmps4
    go_wp2_with (first | ((with_reducible refine gate_callee (f := 6) rfl ?_); refine goesL_ (some 17) rfl rfl Try.func6 (by kernel_rfl) rfl #[.string a0, .string a1] rfl (by (try simp only [List.map_toArray, List.map_cons, List.map_nil]); first | done | rfl | (simp only [List.length_drop, List.length_take]; rfl)) ?_; (with_reducible refine (spec_l03Both.calls k a0 a1 t113 _ A3.out).mono ?_); rintro e w' ⟨rfl, ⟨nd, rfl⟩⟩; refine ⟨_, rfl, ?_⟩))
    go_ret2
    exact ⟨by first | rfl | (simp [errW_none, errW_some] <;> rfl) | (simp [*, errW_none, errW_some] <;> rfl), by repeat (first | (with_reducible first | exact HB.out | apply below_alloc | apply pw_below_drewN | apply below_drew1) | exact HB.out)⟩

mutual
def impl_endBinary.l0 : Nat → ByteArray → Int → Option (ByteArray × Bool)
  | 0, _, _ => none
  | k + 1, x0, x4 => if x4 > 0 then (if x0.toList = ([] : List UInt8) then (impl_endBinary.j1 k x0 x4 true) else (if 0 < (x0.size : Int) then (if (bt x0 0) = 48 then (impl_endBinary.j1 k x0 x4 false) else (impl_endBinary.j1 k x0 x4 ((bt x0 0) != 49))) else (none))) else (some (x0, true))
def impl_endBinary.j1 : Nat → ByteArray → Int → Bool → Option (ByteArray × Bool)
  | 0, _, _, _ => none
  | k + 1, x0, x4, x9 => if x9 = true then (some ((⟨#[]⟩ : ByteArray), false)) else (if 0 < (x0.size : Int) then (if (bt x0 0) = 49 then (if 1 ≤ (x0.size : Int) then (impl_endBinary.l0 k (x0.extract 1 x0.size) (wrap64 (x4 + 1))) else (none)) else (if 1 ≤ (x0.size : Int) then (impl_endBinary.l0 k (x0.extract 1 x0.size) (wrap64 (x4 - 1))) else (none))) else (none))
end
def impl_endBinary.f (k : Nat) (a0 : ByteArray) : Option (ByteArray × Bool) := impl_endBinary.l0 k a0 1
set_option maxHeartbeats 8000000 in
set_option maxRecDepth 100000 in
theorem impl_endBinary.calls (k : Nat) (a0 : ByteArray) (r1 : ByteArray) (r2 : Bool) (w : World) (h : impl_endBinary.f k a0 = some (r1, r2)) :
    Calls Try.prog 20 #[.string a0] w fun e w' => e = .returned (.tuple #[.string r1, .bool r2]) ∧ Drawn0 w w' := by
  have H : (impl_endBinary.l0 k a0 1) = some (r1, r2) := h
  clear h
  have H' := Aside0.mk H
  clear H
  go_enter Try.func20, Try.ntmps20
  go_wp2
  go_loopg [0, 4] k (fun kq v0 v4 w' => ∃ (x0_1 : ByteArray) (x4_1 : Int), v0 = .string x0_1 ∧ v4 = .int .i64 x4_1 ∧ Aside0 (impl_endBinary.l0 kq x0_1 x4_1 = some (r1, r2)) ∧ Aside0 (kq ≤ k) ∧ Drawn0 w w')
  case atStart => exact ⟨(a0), (1), (by first | rfl | (simp; done) | (simp [*]; done)), (by first | rfl | (simp; done) | (simp [*]; done)), H', ⟨Nat.le_refl _⟩, by repeat (first | exact Drawn0.refl _ | apply Drawn0.step)⟩
  case round =>
    clear H'
    obtain ⟨x0_1, x4_1, rfl, rfl, HA, HK1, ⟨m1, rfl⟩⟩ := hrel
    cases gk with
    | zero => exact absurd HA.out (by simp [impl_endBinary.l0])
    | succ k1 =>
      have H := HA.out
      clear HA
      simp only [impl_endBinary.l0] at H
      by_cases c2 : x4_1 > 0
      · rw [if_pos c2] at H
        have c2b0 : decide (0 < x4_1) = true := decide_eq_true c2
        clear c2
        have HC3 := Aside0.mk H
        clear H
        go_upto_region 4 with (fail)
        go_cut [9] (fun v9 wc => ∃ (kq : Nat) (x9_2 : Bool), v9 = .bool x9_2 ∧ Aside0 (impl_endBinary.j1 kq x0_1 x4_1 x9_2 = some (r1, r2)) ∧ Aside0 (kq ≤ k1) ∧ Drawn0 w wc)
        case first =>
          have H := HC3.out
          clear HC3
          by_cases c4 : x0_1.toList = ([] : List UInt8)
          · rw [if_pos c4] at H
            have c4b0 : (x0_1.toList == ([] : List UInt8)) = true := beq_iff_eq.mpr c4
            have c4b1 : (x0_1.toList != ([] : List UInt8)) = false := bne_eq_false_iff_eq.mpr c4
            clear c4
            (first | rw [c4b0] | (simp only [i64_w, i32_w]; rw [c4b0]) | skip)
            have H' := Aside0.mk H
            clear H
            go_wp2
            go_meet
            case rel => exact ⟨_, (true), (by first | rfl | (simp; done) | (simp [*]; done)), H', ⟨by have := HK1.out; first | omega | exact Nat.le_refl _⟩, by repeat (first | exact Drawn0.refl _ | apply Drawn0.step)⟩
          · rw [if_neg c4] at H
            have c4b0 : (x0_1.toList == ([] : List UInt8)) = false := beq_eq_false_iff_ne.mpr c4
            have c4b1 : (x0_1.toList != ([] : List UInt8)) = true := bne_iff_ne.mpr c4
            (first | rw [c4b0] | (simp only [i64_w, i32_w]; rw [c4b0]) | skip)
            by_cases c5 : 0 < (x0_1.size : Int)
            · rw [if_pos c5] at H
              have c5b0 : decide (0 < (x0_1.size : Int)) = true := decide_eq_true c5
              have c5b1 : decide (0 < x0_1.size) = true := decide_eq_true (by omega)
              clear c5
              by_cases c7 : (bt x0_1 0) = 48
              · rw [if_pos c7] at H
                have c7b0 : ((bt x0_1 0) == 48) = true := beq_iff_eq.mpr c7
                have c7b1 : ((bt x0_1 0) != 48) = false := bne_eq_false_iff_eq.mpr c7
                clear c7
                have H' := Aside0.mk H
                clear H
                have p6 : 0 ≤ (0 : Int) := (by omega)
                have q6 : 0 < x0_1.size := (by have : (0 : Int) < (x0_1.size : Int) := of_decide_eq_true (by first | (with_reducible assumption) | assumption); omega)
                have hx6 : ∀ h : 0 < x0_1.size, ((x0_1[0]'h).toNat : Int) = bt x0_1 0 := bt_at x0_1 0
                clear p6
                have qi6 : (0 < (x0_1.size : Int)) = True := eq_true (of_decide_eq_true (by first | (with_reducible assumption) | assumption))
                replace q6 := eq_true q6
                go_wp2
                go_meet
                case rel => exact ⟨_, (false), (by first | rfl | (simp; done) | (simp [*]; done)), H', ⟨by have := HK1.out; first | omega | exact Nat.le_refl _⟩, by repeat (first | exact Drawn0.refl _ | apply Drawn0.step)⟩
              · rw [if_neg c7] at H
                have c7b0 : ((bt x0_1 0) == 48) = false := beq_eq_false_iff_ne.mpr c7
                have c7b1 : ((bt x0_1 0) != 48) = true := bne_iff_ne.mpr c7
                have H' := Aside0.mk H
                clear H
                have p6 : 0 ≤ (0 : Int) := (by omega)
                have q6 : 0 < x0_1.size := (by have : (0 : Int) < (x0_1.size : Int) := of_decide_eq_true (by first | (with_reducible assumption) | assumption); omega)
                have hx6 : ∀ h : 0 < x0_1.size, ((x0_1[0]'h).toNat : Int) = bt x0_1 0 := bt_at x0_1 0
                clear p6
                have qi6 : (0 < (x0_1.size : Int)) = True := eq_true (of_decide_eq_true (by first | (with_reducible assumption) | assumption))
                replace q6 := eq_true q6
                have p8 : 0 ≤ (0 : Int) := (by omega)
                have q8 : 0 < x0_1.size := (by have : (0 : Int) < (x0_1.size : Int) := of_decide_eq_true (by first | (with_reducible assumption) | assumption); omega)
                have hx8 : ∀ h : 0 < x0_1.size, ((x0_1[0]'h).toNat : Int) = bt x0_1 0 := bt_at x0_1 0
                clear p8
                have qi8 : (0 < (x0_1.size : Int)) = True := eq_true (of_decide_eq_true (by first | (with_reducible assumption) | assumption))
                replace q8 := eq_true q8
                go_wp2
                go_meet
                case rel => exact ⟨_, (((bt x0_1 0) != 49)), (by first | rfl | (simp; done) | (simp [*]; done)), H', ⟨by have := HK1.out; first | omega | exact Nat.le_refl _⟩, by repeat (first | exact Drawn0.refl _ | apply Drawn0.step)⟩
            · rw [if_neg c5] at H
              exact absurd H (by simp)
        case rest =>
          clear HC3
          try clear c2
          try clear c2b0
          try clear p2
          try clear c4
          try clear c4b0
          try clear c4b1
          try clear c5
          try clear c5b0
          try clear c5b1
          try clear p6
          try clear q6
          try clear hx6
          try clear qi6
          try clear c7
          try clear c7b0
          try clear c7b1
          try clear p8
          try clear q8
          try clear hx8
          try clear qi8
          try clear p6
          try clear p8
          try clear q6
          try clear q8
          obtain ⟨kq, x9_2, rfl, HA, HJ2, ⟨mc2, rfl⟩⟩ := hcut
          cases kq with
          | zero => exact absurd HA.out (by simp [impl_endBinary.j1])
          | succ kj2 =>
            have H := HA.out
            clear HA
            simp only [impl_endBinary.j1] at H
            by_cases c9 : x9_2 = true
            · subst c9
              have H1 : (some ((⟨#[]⟩ : ByteArray), false)) = some (r1, r2) := by rw [if_pos rfl] at H; exact H
              clear H
              have H := H1
              clear H1
              simp only [Option.some.injEq, Prod.mk.injEq] at H
              obtain ⟨rfl, rfl⟩ := H
              go_wp2
              go_ret2
              exact ⟨by first | rfl | (simp; done) | (simp [*]; done), by repeat (first | exact Drawn0.refl _ | apply Drawn0.step)⟩
            · replace c9 := Bool.eq_false_iff.mpr c9
              subst c9
              have H1 : (if 0 < (x0_1.size : Int) then (if (bt x0_1 0) = 49 then (if 1 ≤ (x0_1.size : Int) then (impl_endBinary.l0 kj2 (x0_1.extract 1 x0_1.size) (wrap64 (x4_1 + 1))) else (none)) else (if 1 ≤ (x0_1.size : Int) then (impl_endBinary.l0 kj2 (x0_1.extract 1 x0_1.size) (wrap64 (x4_1 - 1))) else (none))) else (none)) = some (r1, r2) := by rw [if_neg (show ¬ (false = true) by decide)] at H; exact H
              clear H
              have H := H1
              clear H1
              by_cases c10 : 0 < (x0_1.size : Int)
              · rw [if_pos c10] at H
                have c10b0 : decide (0 < (x0_1.size : Int)) = true := decide_eq_true c10
                have c10b1 : decide (0 < x0_1.size) = true := decide_eq_true (by omega)
                clear c10
                by_cases c12 : (bt x0_1 0) = 49
                · rw [if_pos c12] at H
                  have c12b0 : ((bt x0_1 0) == 49) = true := beq_iff_eq.mpr c12
                  have c12b1 : ((bt x0_1 0) != 49) = false := bne_eq_false_iff_eq.mpr c12
                  clear c12
                  by_cases c13 : 1 ≤ (x0_1.size : Int)
                  · rw [if_pos c13] at H
                    have c13b0 := eq_true c13
                    have c13b1 : decide (1 ≤ (x0_1.size : Int)) = true := decide_eq_true c13
                    clear c13
                    have H' := Aside0.mk H
                    clear H
                    have p11 : 0 ≤ (0 : Int) := (by omega)
                    have q11 : 0 < x0_1.size := (by have : (0 : Int) < (x0_1.size : Int) := of_decide_eq_true (by first | (with_reducible assumption) | assumption); omega)
                    have hx11 : ∀ h : 0 < x0_1.size, ((x0_1[0]'h).toNat : Int) = bt x0_1 0 := bt_at x0_1 0
                    clear p11
                    have qi11 : (0 < (x0_1.size : Int)) = True := eq_true (of_decide_eq_true (by first | (with_reducible assumption) | assumption))
                    replace q11 := eq_true q11
                    go_wp2
                    go_roundg kj2
                    case measure => have := HK1.out; have := HJ2.out; omega
                    case rel => exact ⟨(x0_1.extract 1 x0_1.size), (wrap64 (x4_1 + 1)), (by first | rfl | (simp; done) | (simp [*]; done)), (by first | rfl | (simp; done) | (simp [*]; done)), H', ⟨by have := HK1.out; have := HJ2.out; omega⟩, by repeat (first | exact Drawn0.refl _ | apply Drawn0.step)⟩
                  · rw [if_neg c13] at H
                    exact absurd H (by simp)
                · rw [if_neg c12] at H
                  have c12b0 : ((bt x0_1 0) == 49) = false := beq_eq_false_iff_ne.mpr c12
                  have c12b1 : ((bt x0_1 0) != 49) = true := bne_iff_ne.mpr c12
                  by_cases c14 : 1 ≤ (x0_1.size : Int)
                  · rw [if_pos c14] at H
                    have c14b0 := eq_true c14
                    have c14b1 : decide (1 ≤ (x0_1.size : Int)) = true := decide_eq_true c14
                    clear c14
                    have H' := Aside0.mk H
                    clear H
                    have p11 : 0 ≤ (0 : Int) := (by omega)
                    have q11 : 0 < x0_1.size := (by have : (0 : Int) < (x0_1.size : Int) := of_decide_eq_true (by first | (with_reducible assumption) | assumption); omega)
                    have hx11 : ∀ h : 0 < x0_1.size, ((x0_1[0]'h).toNat : Int) = bt x0_1 0 := bt_at x0_1 0
                    clear p11
                    have qi11 : (0 < (x0_1.size : Int)) = True := eq_true (of_decide_eq_true (by first | (with_reducible assumption) | assumption))
                    replace q11 := eq_true q11
                    go_wp2
                    go_roundg kj2
                    case measure => have := HK1.out; have := HJ2.out; omega
                    case rel => exact ⟨(x0_1.extract 1 x0_1.size), (wrap64 (x4_1 - 1)), (by first | rfl | (simp; done) | (simp [*]; done)), (by first | rfl | (simp; done) | (simp [*]; done)), H', ⟨by have := HK1.out; have := HJ2.out; omega⟩, by repeat (first | exact Drawn0.refl _ | apply Drawn0.step)⟩
                  · rw [if_neg c14] at H
                    exact absurd H (by simp)
              · rw [if_neg c10] at H
                exact absurd H (by simp)
      · rw [if_neg c2] at H
        have c2b0 : decide (0 < x4_1) = false := decide_eq_false c2
        clear c2
        simp only [Option.some.injEq, Prod.mk.injEq] at H
        obtain ⟨rfl, rfl⟩ := H
        go_wp2
        go_ret2
        exact ⟨by first | rfl | (simp; done) | (simp [*]; done), by repeat (first | exact Drawn0.refl _ | apply Drawn0.step)⟩

def impl_IsBinary.f (k : Nat) (a0 : ByteArray) : Option (Bool) := if (a0.size : Int) > 47 then (some false) else ((impl_endBinary.f k a0).bind fun bt135 => (if bt135.2 = true then (some (bt135.1.toList == ([] : List UInt8))) else (some false)))
set_option maxHeartbeats 8000000 in
set_option maxRecDepth 100000 in
theorem impl_IsBinary.calls (k : Nat) (a0 : ByteArray) (r : Bool) (w : World) (h : impl_IsBinary.f k a0 = some r) :
    Calls Try.prog 19 #[.string a0] w fun e w' => e = .returned (.bool r) ∧ Drawn0 w w' := by
  have H : (if (a0.size : Int) > 47 then (some false) else ((impl_endBinary.f k a0).bind fun bt135 => (if bt135.2 = true then (some (bt135.1.toList == ([] : List UInt8))) else (some false)))) = some r := h
  clear h
  by_cases c2 : (a0.size : Int) > 47
  · rw [if_pos c2] at H
    have c2b0 : decide (47 < (a0.size : Int)) = true := decide_eq_true c2
    have c2b1 : decide (47 < a0.size) = true := decide_eq_true (by omega)
    clear c2
    obtain rfl := Option.some.inj H
    go_enter Try.func19, Try.ntmps19
    go_wp2
    go_ret
    exact ⟨by first | rfl | (simp; done) | (simp [*]; done), by repeat (first | exact Drawn0.refl _ | apply Drawn0.step)⟩
  · rw [if_neg c2] at H
    have c2b0 : decide (47 < (a0.size : Int)) = false := decide_eq_false c2
    have c2b1 : decide (47 < a0.size) = false := decide_eq_false (by omega)
    clear c2
    replace H := Option.bind_eq_some_iff.mp H
    obtain ⟨⟨t135, t136⟩, A30, H⟩ := H
    replace H : (if t136 = true then (some (t135.toList == ([] : List UInt8))) else (some false)) = some r := H
    have A3 := Aside0.mk A30
    clear A30
    by_cases c4 : t136 = true
    · subst c4
      have H1 : (some (t135.toList == ([] : List UInt8))) = some r := by rw [if_pos rfl] at H; exact H
      clear H
      have H := H1
      clear H1
      obtain rfl := Option.some.inj H
      go_enter Try.func19, Try.ntmps19
      go_wp2_with (first | ((with_reducible refine gate_callee (f := 20) rfl ?_); refine goesL_ (some 10) rfl rfl Try.func20 (by kernel_rfl) rfl #[.string a0] rfl (by (try simp only [List.map_toArray, List.map_cons, List.map_nil]); first | done | rfl | (simp only [List.length_drop, List.length_take]; rfl)) ?_; (with_reducible refine (impl_endBinary.calls k a0 t135 true _ A3.out).mono ?_); rintro e w' ⟨rfl, ⟨nd, rfl⟩⟩; refine ⟨_, rfl, ?_⟩))
      go_ret
      exact ⟨by first | rfl | (simp; done) | (simp [*]; done), by repeat (first | exact Drawn0.refl _ | apply Drawn0.step)⟩
    · replace c4 := Bool.eq_false_iff.mpr c4
      subst c4
      have H1 : (some false) = some r := by rw [if_neg (show ¬ (false = true) by decide)] at H; exact H
      clear H
      have H := H1
      clear H1
      obtain rfl := Option.some.inj H
      go_enter Try.func19, Try.ntmps19
      go_wp2_with (first | ((with_reducible refine gate_callee (f := 20) rfl ?_); refine goesL_ (some 10) rfl rfl Try.func20 (by kernel_rfl) rfl #[.string a0] rfl (by (try simp only [List.map_toArray, List.map_cons, List.map_nil]); first | done | rfl | (simp only [List.length_drop, List.length_take]; rfl)) ?_; (with_reducible refine (impl_endBinary.calls k a0 t135 false _ A3.out).mono ?_); rintro e w' ⟨rfl, ⟨nd, rfl⟩⟩; refine ⟨_, rfl, ?_⟩))
      go_ret
      exact ⟨by first | rfl | (simp; done) | (simp [*]; done), by repeat (first | exact Drawn0.refl _ | apply Drawn0.step)⟩

def impl_areBinary.l0 : Nat → List ByteArray → Int → Int → Option (Bool)
  | 0, _, _, _ => none
  | k + 1, x5, x6, x7 => if x7 < x6 then (if 0 ≤ x7 then (if x7 < (x5.length : Int) then ((impl_IsBinary.f k (rdOf ByteArray.empty x5 x7)).bind fun t138 => (if t138 = true then (impl_areBinary.l0 k x5 x6 (wrap64 (x7 + 1))) else (some false))) else (none)) else (none)) else (some true)
def impl_areBinary.f (k : Nat) (l0 : List ByteArray) : Option (Bool) := impl_areBinary.l0 k l0 (l0.length : Int) 0
set_option maxHeartbeats 8000000 in
set_option maxRecDepth 100000 in
theorem impl_areBinary.calls (k : Nat) (A0 : Option Addr) (c0 : Nat) (l0 : List ByteArray) (r : Bool) (w : World) (hr0 : Kd.C Kd.string w A0 l0.length l0) (hc0 : l0.length ≤ c0) (h : impl_areBinary.f k l0 = some r) :
    Calls Try.prog 16 #[.slice A0 l0.length c0] w fun e w' => e = .returned (.bool r) ∧ Drawn0 w w' := by
  have HR0 := Aside0.mk hr0
  have HC0 := Aside0.mk hc0
  clear hr0 hc0
  have H : (impl_areBinary.l0 k l0 (l0.length : Int) 0) = some r := h
  clear h
  have H' := Aside0.mk H
  clear H
  go_enter Try.func16, Try.ntmps16
  go_wp2
  go_loopg [7] k (fun kq v7 w' => ∃ (x7_1 : Int), v7 = .int .i64 x7_1 ∧ Aside0 (impl_areBinary.l0 kq l0 (l0.length : Int) x7_1 = some r) ∧ Aside0 (kq ≤ k) ∧ Drawn0 w w')
  case atStart => exact ⟨(0), (by first | rfl | (simp; done) | (simp [*]; done)), H', ⟨Nat.le_refl _⟩, by repeat (first | exact Drawn0.refl _ | apply Drawn0.step)⟩
  case round =>
    clear H'
    try clear c1
    obtain ⟨x7_1, rfl, HA, HK1, ⟨m1, rfl⟩⟩ := hrel
    cases gk with
    | zero => exact absurd HA.out (by simp [impl_areBinary.l0])
    | succ k1 =>
      have H := HA.out
      clear HA
      simp only [impl_areBinary.l0] at H
      by_cases c2 : x7_1 < (l0.length : Int)
      · rw [if_pos c2] at H
        have c2b0 : decide (x7_1 < (l0.length : Int)) = true := decide_eq_true c2
        clear c2
        by_cases c3 : 0 ≤ x7_1
        · rw [if_pos c3] at H
          have c3b0 : decide (0 ≤ x7_1) = true := decide_eq_true c3
          clear c3
          by_cases c4 : x7_1 < (l0.length : Int)
          · rw [if_pos c4] at H
            have c4b0 : decide (x7_1 < (l0.length : Int)) = true := decide_eq_true c4
            clear c4
            replace H := Option.bind_eq_some_iff.mp H
            obtain ⟨t138, A50, H⟩ := H
            replace H : (if t138 = true then (impl_areBinary.l0 k1 l0 (l0.length : Int) (wrap64 (x7_1 + 1))) else (some false)) = some r := H
            have A5 := Aside0.mk A50
            clear A50
            by_cases c6 : t138 = true
            · subst c6
              have H1 : (impl_areBinary.l0 k1 l0 (l0.length : Int) (wrap64 (x7_1 + 1))) = some r := by rw [if_pos rfl] at H; exact H
              clear H
              have H := H1
              clear H1
              have H' := Aside0.mk H
              clear H
              have p137 : 0 ≤ (x7_1 : Int) := of_decide_eq_true (by first | (with_reducible assumption) | assumption)
              have q137 : x7_1 < (l0.length : Int) := of_decide_eq_true (by first | (with_reducible assumption) | assumption)
              obtain ⟨ad137, e137, hx137_0⟩ := Kd.at_string HR0.out x7_1 p137 q137
              cases e137
              replace p137 := eq_true p137
              replace q137 := eq_true q137
              go_wp2_with (first | ((with_reducible refine gate_callee (f := 19) rfl ?_); refine goesL_ (some 12) rfl rfl Try.func19 (by kernel_rfl) rfl #[.string (rdOf ByteArray.empty l0 x7_1)] rfl (by (try simp only [List.map_toArray, List.map_cons, List.map_nil]); first | done | rfl | (simp only [List.length_drop, List.length_take]; rfl)) ?_; (with_reducible refine (impl_IsBinary.calls k1 (rdOf ByteArray.empty l0 x7_1) true _ A5.out).mono ?_); rintro e w' ⟨rfl, ⟨nd, rfl⟩⟩; refine ⟨_, rfl, ?_⟩))
              go_roundg k1
              case measure => have := HK1.out; omega
              case rel => exact ⟨(wrap64 (x7_1 + 1)), (by first | rfl | (simp; done) | (simp [*]; done)), H', ⟨by have := HK1.out; omega⟩, by repeat (first | exact Drawn0.refl _ | apply Drawn0.step)⟩
            · replace c6 := Bool.eq_false_iff.mpr c6
              subst c6
              have H1 : (some false) = some r := by rw [if_neg (show ¬ (false = true) by decide)] at H; exact H
              clear H
              have H := H1
              clear H1
              obtain rfl := Option.some.inj H
              have p137 : 0 ≤ (x7_1 : Int) := of_decide_eq_true (by first | (with_reducible assumption) | assumption)
              have q137 : x7_1 < (l0.length : Int) := of_decide_eq_true (by first | (with_reducible assumption) | assumption)
              obtain ⟨ad137, e137, hx137_0⟩ := Kd.at_string HR0.out x7_1 p137 q137
              cases e137
              replace p137 := eq_true p137
              replace q137 := eq_true q137
              go_wp2_with (first | ((with_reducible refine gate_callee (f := 19) rfl ?_); refine goesL_ (some 12) rfl rfl Try.func19 (by kernel_rfl) rfl #[.string (rdOf ByteArray.empty l0 x7_1)] rfl (by (try simp only [List.map_toArray, List.map_cons, List.map_nil]); first | done | rfl | (simp only [List.length_drop, List.length_take]; rfl)) ?_; (with_reducible refine (impl_IsBinary.calls k1 (rdOf ByteArray.empty l0 x7_1) false _ A5.out).mono ?_); rintro e w' ⟨rfl, ⟨nd, rfl⟩⟩; refine ⟨_, rfl, ?_⟩))
              go_ret
              exact ⟨by first | rfl | (simp; done) | (simp [*]; done), by repeat (first | exact Drawn0.refl _ | apply Drawn0.step)⟩
          · rw [if_neg c4] at H
            exact absurd H (by simp)
        · rw [if_neg c3] at H
          exact absurd H (by simp)
      · rw [if_neg c2] at H
        have c2b0 : decide (x7_1 < (l0.length : Int)) = false := decide_eq_false c2
        clear c2
        obtain rfl := Option.some.inj H
        go_wp2
        go_ret
        exact ⟨by first | rfl | (simp; done) | (simp [*]; done), by repeat (first | exact Drawn0.refl _ | apply Drawn0.step)⟩

def impl_twoCode.f (k : Nat) (a0 : ByteArray) (a1 : ByteArray) : Option (Int) := (impl_areBinary.f k (([a0, a1] : List ByteArray))).bind fun t142 => (if t142 = true then (if (a0.size : Int) = (a1.size : Int) then (some 0) else (some 2)) else (some 1))
set_option maxHeartbeats 8000000 in
set_option maxRecDepth 100000 in
theorem impl_twoCode.calls (k : Nat) (a0 : ByteArray) (a1 : ByteArray) (r : Int) (w : World) (h : impl_twoCode.f k a0 a1 = some r) :
    Calls Try.prog 9 #[.string a0, .string a1] w fun e w' => e = .returned (.int .i64 r) ∧ Below w.heap.size w w' := by
  have HB := Aside0.mk (Below.refl w.heap.size w)
  have H : ((impl_areBinary.f k (([a0, a1] : List ByteArray))).bind fun t142 => (if t142 = true then (if (a0.size : Int) = (a1.size : Int) then (some 0) else (some 2)) else (some 1))) = some r := h
  clear h
  obtain ⟨y139, hy139⟩ : ∃ y_ : List ByteArray, y_ = (([a0, a1] : List ByteArray)) := ⟨_, rfl⟩
  replace H : ((impl_areBinary.f k y139).bind fun t142 => (if t142 = true then (if (a0.size : Int) = (a1.size : Int) then (some 0) else (some 2)) else (some 1))) = some r := by first | (rw [hy139]; with_reducible exact H) | (have H2_ := (Option.bind_some _ _).symm.trans H; rw [hy139]; with_reducible exact H2_) | (have H2_ := (Option.bind_some _ _).symm.trans H; with_reducible exact H2_) | with_reducible exact H | (rw [hy139]; exact H) | exact H
  have Ny139 := Aside0.mk hy139
  clear hy139
  replace H := Option.bind_eq_some_iff.mp H
  obtain ⟨t142, A30, H⟩ := H
  replace H : (if t142 = true then (if (a0.size : Int) = (a1.size : Int) then (some 0) else (some 2)) else (some 1)) = some r := H
  have A3 := Aside0.mk A30
  clear A30
  by_cases c4 : t142 = true
  · subst c4
    have H1 : (if (a0.size : Int) = (a1.size : Int) then (some 0) else (some 2)) = some r := by rw [if_pos rfl] at H; exact H
    clear H
    have H := H1
    clear H1
    by_cases c5 : (a0.size : Int) = (a1.size : Int)
    · rw [if_pos c5] at H
      have c5b0 : ((a0.size : Int) == (a1.size : Int)) = true := beq_iff_eq.mpr c5
      have c5b1 : ((a0.size : Int) != (a1.size : Int)) = false := bne_eq_false_iff_eq.mpr c5
      have c5b2 : (a0.size == a1.size) = true := by first | simpa using c5 | (simp at c5 ⊢; omega)
      clear c5
      obtain rfl := Option.some.inj H
      go_enter Try.func9, Try.ntmps9
      go_wp2_with (first | ((with_reducible refine gate_dst (N := 8) rfl ?_); refine Kd.R_lit Kd.string _ 9 ?hg (N := 8) ?hd (xs := ([a0, a1] : List ByteArray)) (inner := [.string a0, .string a1]) (ok := fun _ => True) (okp := fun _ => True) ?hr ?hp (fun _ hk => hk) trivial (Below.refl _ _) (Nat.le_refl _) (by simp) ?_; (case hd => rfl); (case hg => rfl); (case hr => first | (go_simp; done) | (go_simp; rfl)); (case hp => exact (Reps.one (show Kd.M Kd.string _ _ _ a0 [.string a0] from rfl) (Reps.one (show Kd.M Kd.string _ _ _ a1 [.string a1] from rfl) (Reps.none _ _)))); intro v140 w6 ho7 hb hg_ hnew_; clear hg_ hnew_; (first | rw [← Ny139.out] at ho7 | (simp only [Int.reduceToNat] at ho7; rw [← Ny139.out] at ho7)); have n0_ := Aside0.mk (Kd.R_lower ho7 (below_size (by repeat (first | (with_reducible first | exact HB.out | apply below_alloc | apply pw_below_drewN | apply below_drew1) | exact HB.out)))); have n1_ := Aside0.mk (below_step (by repeat (first | (with_reducible first | exact HB.out | apply below_alloc | apply pw_below_drewN | apply below_drew1) | exact HB.out)) hb); clear HB; have HO141 := n0_; have HB := n1_; clear n0_ n1_; clear hb ho7; obtain ⟨Ao8, co8, eo8⟩ := Kd.R_slice HO141.out; subst eo8) | ((with_reducible refine gate_callee (f := 16) rfl ?_); refine goesL_ (some 9) rfl rfl Try.func16 (by kernel_rfl) rfl #[.slice Ao8 y139.length co8] rfl (by (try simp only [List.map_toArray, List.map_cons, List.map_nil]); first | done | rfl | (simp only [List.length_drop, List.length_take]; rfl)) ?_; (with_reducible refine (impl_areBinary.calls k _ _ y139 true _ ?side1 ?side2 A3.out).mono ?_); (case side1 => repeat (first | exact (Kd.R_reads' HO141.out).2.2 | (with_reducible refine Kd.C_alloc ?_ _) | (with_reducible refine Kd.C_drewN ?_ _) | (with_reducible refine Kd.C_drew ?_))); (case side2 => exact (Kd.R_reads' HO141.out).2.1); rintro e w' ⟨rfl, ⟨nd, rfl⟩⟩; refine ⟨_, rfl, ?_⟩))
      go_ret
      exact ⟨by first | rfl | (simp [errW_none, errW_some] <;> rfl) | (simp [*, errW_none, errW_some] <;> rfl), by repeat (first | (with_reducible first | exact HB.out | apply below_alloc | apply pw_below_drewN | apply below_drew1) | exact HB.out)⟩
    · rw [if_neg c5] at H
      have c5b0 : ((a0.size : Int) == (a1.size : Int)) = false := beq_eq_false_iff_ne.mpr c5
      have c5b1 : ((a0.size : Int) != (a1.size : Int)) = true := bne_iff_ne.mpr c5
      have c5b2 : (a0.size == a1.size) = false := by first | simpa using c5 | (simp at c5 ⊢; omega)
      obtain rfl := Option.some.inj H
      go_enter Try.func9, Try.ntmps9
      go_wp2_with (first | ((with_reducible refine gate_dst (N := 8) rfl ?_); refine Kd.R_lit Kd.string _ 9 ?hg (N := 8) ?hd (xs := ([a0, a1] : List ByteArray)) (inner := [.string a0, .string a1]) (ok := fun _ => True) (okp := fun _ => True) ?hr ?hp (fun _ hk => hk) trivial (Below.refl _ _) (Nat.le_refl _) (by simp) ?_; (case hd => rfl); (case hg => rfl); (case hr => first | (go_simp; done) | (go_simp; rfl)); (case hp => exact (Reps.one (show Kd.M Kd.string _ _ _ a0 [.string a0] from rfl) (Reps.one (show Kd.M Kd.string _ _ _ a1 [.string a1] from rfl) (Reps.none _ _)))); intro v140 w9 ho10 hb hg_ hnew_; clear hg_ hnew_; (first | rw [← Ny139.out] at ho10 | (simp only [Int.reduceToNat] at ho10; rw [← Ny139.out] at ho10)); have n0_ := Aside0.mk (Kd.R_lower ho10 (below_size (by repeat (first | (with_reducible first | exact HB.out | apply below_alloc | apply pw_below_drewN | apply below_drew1) | exact HB.out)))); have n1_ := Aside0.mk (below_step (by repeat (first | (with_reducible first | exact HB.out | apply below_alloc | apply pw_below_drewN | apply below_drew1) | exact HB.out)) hb); clear HB; have HO141 := n0_; have HB := n1_; clear n0_ n1_; clear hb ho10; obtain ⟨Ao11, co11, eo11⟩ := Kd.R_slice HO141.out; subst eo11) | ((with_reducible refine gate_callee (f := 16) rfl ?_); refine goesL_ (some 9) rfl rfl Try.func16 (by kernel_rfl) rfl #[.slice Ao11 y139.length co11] rfl (by (try simp only [List.map_toArray, List.map_cons, List.map_nil]); first | done | rfl | (simp only [List.length_drop, List.length_take]; rfl)) ?_; (with_reducible refine (impl_areBinary.calls k _ _ y139 true _ ?side1 ?side2 A3.out).mono ?_); (case side1 => repeat (first | exact (Kd.R_reads' HO141.out).2.2 | (with_reducible refine Kd.C_alloc ?_ _) | (with_reducible refine Kd.C_drewN ?_ _) | (with_reducible refine Kd.C_drew ?_))); (case side2 => exact (Kd.R_reads' HO141.out).2.1); rintro e w' ⟨rfl, ⟨nd, rfl⟩⟩; refine ⟨_, rfl, ?_⟩))
      go_ret
      exact ⟨by first | rfl | (simp [errW_none, errW_some] <;> rfl) | (simp [*, errW_none, errW_some] <;> rfl), by repeat (first | (with_reducible first | exact HB.out | apply below_alloc | apply pw_below_drewN | apply below_drew1) | exact HB.out)⟩
  · replace c4 := Bool.eq_false_iff.mpr c4
    subst c4
    have H1 : (some 1) = some r := by rw [if_neg (show ¬ (false = true) by decide)] at H; exact H
    clear H
    have H := H1
    clear H1
    obtain rfl := Option.some.inj H
    go_enter Try.func9, Try.ntmps9
    go_wp2_with (first | ((with_reducible refine gate_dst (N := 8) rfl ?_); refine Kd.R_lit Kd.string _ 9 ?hg (N := 8) ?hd (xs := ([a0, a1] : List ByteArray)) (inner := [.string a0, .string a1]) (ok := fun _ => True) (okp := fun _ => True) ?hr ?hp (fun _ hk => hk) trivial (Below.refl _ _) (Nat.le_refl _) (by simp) ?_; (case hd => rfl); (case hg => rfl); (case hr => first | (go_simp; done) | (go_simp; rfl)); (case hp => exact (Reps.one (show Kd.M Kd.string _ _ _ a0 [.string a0] from rfl) (Reps.one (show Kd.M Kd.string _ _ _ a1 [.string a1] from rfl) (Reps.none _ _)))); intro v140 w12 ho13 hb hg_ hnew_; clear hg_ hnew_; (first | rw [← Ny139.out] at ho13 | (simp only [Int.reduceToNat] at ho13; rw [← Ny139.out] at ho13)); have n0_ := Aside0.mk (Kd.R_lower ho13 (below_size (by repeat (first | (with_reducible first | exact HB.out | apply below_alloc | apply pw_below_drewN | apply below_drew1) | exact HB.out)))); have n1_ := Aside0.mk (below_step (by repeat (first | (with_reducible first | exact HB.out | apply below_alloc | apply pw_below_drewN | apply below_drew1) | exact HB.out)) hb); clear HB; have HO141 := n0_; have HB := n1_; clear n0_ n1_; clear hb ho13; obtain ⟨Ao14, co14, eo14⟩ := Kd.R_slice HO141.out; subst eo14) | ((with_reducible refine gate_callee (f := 16) rfl ?_); refine goesL_ (some 9) rfl rfl Try.func16 (by kernel_rfl) rfl #[.slice Ao14 y139.length co14] rfl (by (try simp only [List.map_toArray, List.map_cons, List.map_nil]); first | done | rfl | (simp only [List.length_drop, List.length_take]; rfl)) ?_; (with_reducible refine (impl_areBinary.calls k _ _ y139 false _ ?side1 ?side2 A3.out).mono ?_); (case side1 => repeat (first | exact (Kd.R_reads' HO141.out).2.2 | (with_reducible refine Kd.C_alloc ?_ _) | (with_reducible refine Kd.C_drewN ?_ _) | (with_reducible refine Kd.C_drew ?_))); (case side2 => exact (Kd.R_reads' HO141.out).2.1); rintro e w' ⟨rfl, ⟨nd, rfl⟩⟩; refine ⟨_, rfl, ?_⟩))
    go_ret
    exact ⟨by first | rfl | (simp [errW_none, errW_some] <;> rfl) | (simp [*, errW_none, errW_some] <;> rfl), by repeat (first | (with_reducible first | exact HB.out | apply below_alloc | apply pw_below_drewN | apply below_drew1) | exact HB.out)⟩

def impl_nodesOf.f (a0 : ByteArray) : Option (Int) := some (wrap64 ((a0.size : Int) / 2))
set_option maxHeartbeats 8000000 in
set_option maxRecDepth 100000 in
theorem impl_nodesOf.calls (a0 : ByteArray) (r : Int) (w : World) (h : impl_nodesOf.f a0 = some r) :
    Calls Try.prog 10 #[.string a0] w fun e w' => e = .returned (.int .i64 r) ∧ Drawn0 w w' := by
  have H : (some (wrap64 ((a0.size : Int) / 2))) = some r := h
  clear h
  obtain rfl := Option.some.inj H
  go_enter Try.func10, Try.ntmps10
  go_wp2
  go_ret
  exact ⟨by first | rfl | (simp; done) | (simp [*]; done), by repeat (first | exact Drawn0.refl _ | apply Drawn0.step)⟩

def impl_partAt.l0 : Nat → ByteArray → Int → Int → Int → Option (ByteArray × ByteArray × ByteArray)
  | 0, _, _, _, _ => none
  | k + 1, x0, x1, x7, x8 => if 0 ≤ x7 then (if x7 < (x0.size : Int) then (if (bt x0 x7) = 49 then (if (wrap64 (x8 + 1)) = x1 then (if x7 ≤ (x0.size : Int) then ((impl_endBinary.f k (x0.extract (x7 : Int).toNat x0.size)).bind fun bt143 => (if x7 ≤ (wrap64 ((x0.size : Int) - (bt143.1.size : Int))) then (if (wrap64 ((x0.size : Int) - (bt143.1.size : Int))) ≤ (x0.size : Int) then (some (x0.extract 0 (x7 : Int).toNat, x0.extract (x7 : Int).toNat ((wrap64 ((x0.size : Int) - (bt143.1.size : Int))) : Int).toNat, bt143.1)) else (none)) else (none))) else (none)) else (impl_partAt.l0 k x0 x1 (wrap64 (x7 + 1)) (wrap64 (x8 + 1)))) else (if x8 = x1 then (if x7 ≤ (x0.size : Int) then ((impl_endBinary.f k (x0.extract (x7 : Int).toNat x0.size)).bind fun bt145 => (if x7 ≤ (wrap64 ((x0.size : Int) - (bt145.1.size : Int))) then (if (wrap64 ((x0.size : Int) - (bt145.1.size : Int))) ≤ (x0.size : Int) then (some (x0.extract 0 (x7 : Int).toNat, x0.extract (x7 : Int).toNat ((wrap64 ((x0.size : Int) - (bt145.1.size : Int))) : Int).toNat, bt145.1)) else (none)) else (none))) else (none)) else (impl_partAt.l0 k x0 x1 (wrap64 (x7 + 1)) x8))) else (none)) else (none)
def impl_partAt.f (k : Nat) (a0 : ByteArray) (a1 : Int) : Option (ByteArray × ByteArray × ByteArray) := impl_partAt.l0 k a0 a1 0 (-1)
set_option maxHeartbeats 8000000 in
set_option maxRecDepth 100000 in
theorem impl_partAt.calls (k : Nat) (a0 : ByteArray) (a1 : Int) (r1 : ByteArray) (r2 : ByteArray) (r3 : ByteArray) (w : World) (h : impl_partAt.f k a0 a1 = some (r1, r2, r3)) :
    Calls Try.prog 17 #[.string a0, .int .i64 a1] w fun e w' => e = .returned (.tuple #[.string r1, .string r2, .string r3]) ∧ Drawn0 w w' := by
  have H : (impl_partAt.l0 k a0 a1 0 (-1)) = some (r1, r2, r3) := h
  clear h
  have H' := Aside0.mk H
  clear H
  go_enter Try.func17, Try.ntmps17
  go_wp2
  repeat (go_quiet (fail); try go_wp2)
  go_loopg [7, 8] k (fun kq v7 v8 w' => ∃ (x7_1 : Int) (x8_1 : Int), v7 = .int .i64 x7_1 ∧ v8 = .int .i64 x8_1 ∧ Aside0 (impl_partAt.l0 kq a0 a1 x7_1 x8_1 = some (r1, r2, r3)) ∧ Aside0 (kq ≤ k) ∧ Drawn0 w w')
  case atStart => exact ⟨(0), ((-1)), (by first | rfl | (simp; done) | (simp [*]; done)), (by first | rfl | (simp; done) | (simp [*]; done)), H', ⟨Nat.le_refl _⟩, by repeat (first | exact Drawn0.refl _ | apply Drawn0.step)⟩
  case round =>
    clear H'
    try clear c1
    try clear p2
    obtain ⟨x7_1, x8_1, rfl, rfl, HA, HK1, ⟨m1, rfl⟩⟩ := hrel
    cases gk with
    | zero => exact absurd HA.out (by simp [impl_partAt.l0])
    | succ k1 =>
      have H := HA.out
      clear HA
      simp only [impl_partAt.l0] at H
      by_cases c3 : 0 ≤ x7_1
      · rw [if_pos c3] at H
        have c3b0 : decide (0 ≤ x7_1) = true := decide_eq_true c3
        clear c3
        by_cases c4 : x7_1 < (a0.size : Int)
        · rw [if_pos c4] at H
          have c4b0 : decide (x7_1 < (a0.size : Int)) = true := decide_eq_true c4
          clear c4
          by_cases c6 : (bt a0 x7_1) = 49
          · rw [if_pos c6] at H
            have c6b0 : ((bt a0 x7_1) == 49) = true := beq_iff_eq.mpr c6
            have c6b1 : ((bt a0 x7_1) != 49) = false := bne_eq_false_iff_eq.mpr c6
            clear c6
            by_cases c7 : (wrap64 (x8_1 + 1)) = a1
            · rw [if_pos c7] at H
              have c7b0 : ((wrap64 (x8_1 + 1)) == a1) = true := beq_iff_eq.mpr c7
              have c7b1 : ((wrap64 (x8_1 + 1)) != a1) = false := bne_eq_false_iff_eq.mpr c7
              clear c7
              have c8b0 := eq_true (of_decide_eq_true (by first | (with_reducible assumption) | assumption) : 0 ≤ x7_1)
              by_cases c9 : x7_1 ≤ (a0.size : Int)
              · rw [if_pos c9] at H
                have c9b0 := eq_true c9
                have c9b1 : decide (x7_1 ≤ (a0.size : Int)) = true := decide_eq_true c9
                clear c9
                replace H := Option.bind_eq_some_iff.mp H
                obtain ⟨⟨t143, t144⟩, A100, H⟩ := H
                replace H : (if x7_1 ≤ (wrap64 ((a0.size : Int) - (t143.size : Int))) then (if (wrap64 ((a0.size : Int) - (t143.size : Int))) ≤ (a0.size : Int) then (some (a0.extract 0 (x7_1 : Int).toNat, a0.extract (x7_1 : Int).toNat ((wrap64 ((a0.size : Int) - (t143.size : Int))) : Int).toNat, t143)) else (none)) else (none)) = some (r1, r2, r3) := H
                have A10 := Aside0.mk A100
                clear A100
                have c11b0 := eq_true (of_decide_eq_true (by first | (with_reducible assumption) | assumption) : 0 ≤ x7_1)
                have c12b0 := eq_true (of_decide_eq_true (by first | (with_reducible assumption) | assumption) : x7_1 ≤ (a0.size : Int))
                have c13b0 := eq_true (of_decide_eq_true (by first | (with_reducible assumption) | assumption) : 0 ≤ x7_1)
                by_cases c14 : x7_1 ≤ (wrap64 ((a0.size : Int) - (t143.size : Int)))
                · rw [if_pos c14] at H
                  have c14b0 := eq_true c14
                  have c14b1 : decide (x7_1 ≤ (wrap64 ((a0.size : Int) - (t143.size : Int)))) = true := decide_eq_true c14
                  clear c14
                  by_cases c15 : (wrap64 ((a0.size : Int) - (t143.size : Int))) ≤ (a0.size : Int)
                  · rw [if_pos c15] at H
                    have c15b0 := eq_true c15
                    have c15b1 : decide ((wrap64 ((a0.size : Int) - (t143.size : Int))) ≤ (a0.size : Int)) = true := decide_eq_true c15
                    clear c15
                    simp only [Option.some.injEq, Prod.mk.injEq] at H
                    obtain ⟨rfl, rfl, rfl⟩ := H
                    have p5 : 0 ≤ (x7_1 : Int) := of_decide_eq_true (by first | (with_reducible assumption) | assumption)
                    have q5 : x7_1 < (a0.size : Int) := of_decide_eq_true (by first | (with_reducible assumption) | assumption)
                    have hx5 := bt_at a0 x7_1
                    replace p5 := eq_true p5
                    replace q5 := eq_true q5
                    go_wp2_with (first | (go_at_call 20; (with_reducible refine (impl_endBinary.calls k1 (a0.extract (x7_1 : Int).toNat a0.size) t143 t144 _ A10.out).mono ?_); rintro e w' ⟨rfl, ⟨nd, rfl⟩⟩; (try first | exact ⟨rfl, _, World.drewN_drewN _ _ _⟩ | exact ⟨rfl, _, Eq.trans (World.drewN_drewN _ _ _) (congrArg (World.drewN _) (Nat.add_assoc _ _ _))⟩)))
                    repeat (go_quiet (first | (go_at_call 20; (with_reducible refine (impl_endBinary.calls k1 (a0.extract (x7_1 : Int).toNat a0.size) t143 t144 _ A10.out).mono ?_); rintro e w' ⟨rfl, ⟨nd, rfl⟩⟩; (try first | exact ⟨rfl, _, World.drewN_drewN _ _ _⟩ | exact ⟨rfl, _, Eq.trans (World.drewN_drewN _ _ _) (congrArg (World.drewN _) (Nat.add_assoc _ _ _))⟩))); try go_wp2_with (first | (go_at_call 20; (with_reducible refine (impl_endBinary.calls k1 (a0.extract (x7_1 : Int).toNat a0.size) t143 t144 _ A10.out).mono ?_); rintro e w' ⟨rfl, ⟨nd, rfl⟩⟩; (try first | exact ⟨rfl, _, World.drewN_drewN _ _ _⟩ | exact ⟨rfl, _, Eq.trans (World.drewN_drewN _ _ _) (congrArg (World.drewN _) (Nat.add_assoc _ _ _))⟩))))
                    go_ret3
                    exact ⟨by first | rfl | (simp; done) | (simp [*]; done), by repeat (first | exact Drawn0.refl _ | apply Drawn0.step)⟩
                  · rw [if_neg c15] at H
                    exact absurd H (by simp)
                · rw [if_neg c14] at H
                  exact absurd H (by simp)
              · rw [if_neg c9] at H
                exact absurd H (by simp)
            · rw [if_neg c7] at H
              have c7b0 : ((wrap64 (x8_1 + 1)) == a1) = false := beq_eq_false_iff_ne.mpr c7
              have c7b1 : ((wrap64 (x8_1 + 1)) != a1) = true := bne_iff_ne.mpr c7
              have H' := Aside0.mk H
              clear H
              have p5 : 0 ≤ (x7_1 : Int) := of_decide_eq_true (by first | (with_reducible assumption) | assumption)
              have q5 : x7_1 < (a0.size : Int) := of_decide_eq_true (by first | (with_reducible assumption) | assumption)
              have hx5 := bt_at a0 x7_1
              replace p5 := eq_true p5
              replace q5 := eq_true q5
              go_wp2
              repeat (go_quiet (fail); try go_wp2)
              go_roundg k1
              case measure => have := HK1.out; omega
              case rel => exact ⟨(wrap64 (x7_1 + 1)), (wrap64 (x8_1 + 1)), (by first | rfl | (simp; done) | (simp [*]; done)), (by first | rfl | (simp; done) | (simp [*]; done)), H', ⟨by have := HK1.out; omega⟩, by repeat (first | exact Drawn0.refl _ | apply Drawn0.step)⟩
          · rw [if_neg c6] at H
            have c6b0 : ((bt a0 x7_1) == 49) = false := beq_eq_false_iff_ne.mpr c6
            have c6b1 : ((bt a0 x7_1) != 49) = true := bne_iff_ne.mpr c6
            by_cases c16 : x8_1 = a1
            · rw [if_pos c16] at H
              have c16b0 : (x8_1 == a1) = true := beq_iff_eq.mpr c16
              have c16b1 : (x8_1 != a1) = false := bne_eq_false_iff_eq.mpr c16
              clear c16
              have c17b0 := eq_true (of_decide_eq_true (by first | (with_reducible assumption) | assumption) : 0 ≤ x7_1)
              by_cases c18 : x7_1 ≤ (a0.size : Int)
              · rw [if_pos c18] at H
                have c18b0 := eq_true c18
                have c18b1 : decide (x7_1 ≤ (a0.size : Int)) = true := decide_eq_true c18
                clear c18
                replace H := Option.bind_eq_some_iff.mp H
                obtain ⟨⟨t145, t146⟩, A190, H⟩ := H
                replace H : (if x7_1 ≤ (wrap64 ((a0.size : Int) - (t145.size : Int))) then (if (wrap64 ((a0.size : Int) - (t145.size : Int))) ≤ (a0.size : Int) then (some (a0.extract 0 (x7_1 : Int).toNat, a0.extract (x7_1 : Int).toNat ((wrap64 ((a0.size : Int) - (t145.size : Int))) : Int).toNat, t145)) else (none)) else (none)) = some (r1, r2, r3) := H
                have A19 := Aside0.mk A190
                clear A190
                have c20b0 := eq_true (of_decide_eq_true (by first | (with_reducible assumption) | assumption) : 0 ≤ x7_1)
                have c21b0 := eq_true (of_decide_eq_true (by first | (with_reducible assumption) | assumption) : x7_1 ≤ (a0.size : Int))
                have c22b0 := eq_true (of_decide_eq_true (by first | (with_reducible assumption) | assumption) : 0 ≤ x7_1)
                by_cases c23 : x7_1 ≤ (wrap64 ((a0.size : Int) - (t145.size : Int)))
                · rw [if_pos c23] at H
                  have c23b0 := eq_true c23
                  have c23b1 : decide (x7_1 ≤ (wrap64 ((a0.size : Int) - (t145.size : Int)))) = true := decide_eq_true c23
                  clear c23
                  by_cases c24 : (wrap64 ((a0.size : Int) - (t145.size : Int))) ≤ (a0.size : Int)
                  · rw [if_pos c24] at H
                    have c24b0 := eq_true c24
                    have c24b1 : decide ((wrap64 ((a0.size : Int) - (t145.size : Int))) ≤ (a0.size : Int)) = true := decide_eq_true c24
                    clear c24
                    simp only [Option.some.injEq, Prod.mk.injEq] at H
                    obtain ⟨rfl, rfl, rfl⟩ := H
                    have p5 : 0 ≤ (x7_1 : Int) := of_decide_eq_true (by first | (with_reducible assumption) | assumption)
                    have q5 : x7_1 < (a0.size : Int) := of_decide_eq_true (by first | (with_reducible assumption) | assumption)
                    have hx5 := bt_at a0 x7_1
                    replace p5 := eq_true p5
                    replace q5 := eq_true q5
                    go_wp2_with (first | (go_at_call 20; (with_reducible refine (impl_endBinary.calls k1 (a0.extract (x7_1 : Int).toNat a0.size) t145 t146 _ A19.out).mono ?_); rintro e w' ⟨rfl, ⟨nd, rfl⟩⟩; (try first | exact ⟨rfl, _, World.drewN_drewN _ _ _⟩ | exact ⟨rfl, _, Eq.trans (World.drewN_drewN _ _ _) (congrArg (World.drewN _) (Nat.add_assoc _ _ _))⟩)))
                    repeat (go_quiet (first | (go_at_call 20; (with_reducible refine (impl_endBinary.calls k1 (a0.extract (x7_1 : Int).toNat a0.size) t145 t146 _ A19.out).mono ?_); rintro e w' ⟨rfl, ⟨nd, rfl⟩⟩; (try first | exact ⟨rfl, _, World.drewN_drewN _ _ _⟩ | exact ⟨rfl, _, Eq.trans (World.drewN_drewN _ _ _) (congrArg (World.drewN _) (Nat.add_assoc _ _ _))⟩))); try go_wp2_with (first | (go_at_call 20; (with_reducible refine (impl_endBinary.calls k1 (a0.extract (x7_1 : Int).toNat a0.size) t145 t146 _ A19.out).mono ?_); rintro e w' ⟨rfl, ⟨nd, rfl⟩⟩; (try first | exact ⟨rfl, _, World.drewN_drewN _ _ _⟩ | exact ⟨rfl, _, Eq.trans (World.drewN_drewN _ _ _) (congrArg (World.drewN _) (Nat.add_assoc _ _ _))⟩))))
                    go_ret3
                    exact ⟨by first | rfl | (simp; done) | (simp [*]; done), by repeat (first | exact Drawn0.refl _ | apply Drawn0.step)⟩
                  · rw [if_neg c24] at H
                    exact absurd H (by simp)
                · rw [if_neg c23] at H
                  exact absurd H (by simp)
              · rw [if_neg c18] at H
                exact absurd H (by simp)
            · rw [if_neg c16] at H
              have c16b0 : (x8_1 == a1) = false := beq_eq_false_iff_ne.mpr c16
              have c16b1 : (x8_1 != a1) = true := bne_iff_ne.mpr c16
              have H' := Aside0.mk H
              clear H
              have p5 : 0 ≤ (x7_1 : Int) := of_decide_eq_true (by first | (with_reducible assumption) | assumption)
              have q5 : x7_1 < (a0.size : Int) := of_decide_eq_true (by first | (with_reducible assumption) | assumption)
              have hx5 := bt_at a0 x7_1
              replace p5 := eq_true p5
              replace q5 := eq_true q5
              go_wp2
              repeat (go_quiet (fail); try go_wp2)
              go_roundg k1
              case measure => have := HK1.out; omega
              case rel => exact ⟨(wrap64 (x7_1 + 1)), (x8_1), (by first | rfl | (simp; done) | (simp [*]; done)), (by first | rfl | (simp; done) | (simp [*]; done)), H', ⟨by have := HK1.out; omega⟩, by repeat (first | exact Drawn0.refl _ | apply Drawn0.step)⟩
        · rw [if_neg c4] at H
          exact absurd H (by simp)
      · rw [if_neg c3] at H
        exact absurd H (by simp)

def impl_sides.f (k : Nat) (a0 : ByteArray) : Option (ByteArray × ByteArray) := if 1 ≤ (a0.size : Int) then ((impl_endBinary.f k (a0.extract 1 a0.size)).bind fun bt147 => (if 1 ≤ (wrap64 ((a0.size : Int) - (bt147.1.size : Int))) then (if (wrap64 ((a0.size : Int) - (bt147.1.size : Int))) ≤ (a0.size : Int) then (some (a0.extract 1 ((wrap64 ((a0.size : Int) - (bt147.1.size : Int))) : Int).toNat, bt147.1)) else (none)) else (none))) else (none)
set_option maxHeartbeats 8000000 in
set_option maxRecDepth 100000 in
theorem impl_sides.calls (k : Nat) (a0 : ByteArray) (r1 : ByteArray) (r2 : ByteArray) (w : World) (h : impl_sides.f k a0 = some (r1, r2)) :
    Calls Try.prog 18 #[.string a0] w fun e w' => e = .returned (.tuple #[.string r1, .string r2]) ∧ Drawn0 w w' := by
  have H : (if 1 ≤ (a0.size : Int) then ((impl_endBinary.f k (a0.extract 1 a0.size)).bind fun bt147 => (if 1 ≤ (wrap64 ((a0.size : Int) - (bt147.1.size : Int))) then (if (wrap64 ((a0.size : Int) - (bt147.1.size : Int))) ≤ (a0.size : Int) then (some (a0.extract 1 ((wrap64 ((a0.size : Int) - (bt147.1.size : Int))) : Int).toNat, bt147.1)) else (none)) else (none))) else (none)) = some (r1, r2) := h
  clear h
  by_cases c2 : 1 ≤ (a0.size : Int)
  · rw [if_pos c2] at H
    have c2b0 := eq_true c2
    have c2b1 : decide (1 ≤ (a0.size : Int)) = true := decide_eq_true c2
    clear c2
    replace H := Option.bind_eq_some_iff.mp H
    obtain ⟨⟨t147, t148⟩, A30, H⟩ := H
    replace H : (if 1 ≤ (wrap64 ((a0.size : Int) - (t147.size : Int))) then (if (wrap64 ((a0.size : Int) - (t147.size : Int))) ≤ (a0.size : Int) then (some (a0.extract 1 ((wrap64 ((a0.size : Int) - (t147.size : Int))) : Int).toNat, t147)) else (none)) else (none)) = some (r1, r2) := H
    have A3 := Aside0.mk A30
    clear A30
    by_cases c4 : 1 ≤ (wrap64 ((a0.size : Int) - (t147.size : Int)))
    · rw [if_pos c4] at H
      have c4b0 := eq_true c4
      have c4b1 : decide (1 ≤ (wrap64 ((a0.size : Int) - (t147.size : Int)))) = true := decide_eq_true c4
      clear c4
      by_cases c5 : (wrap64 ((a0.size : Int) - (t147.size : Int))) ≤ (a0.size : Int)
      · rw [if_pos c5] at H
        have c5b0 := eq_true c5
        have c5b1 : decide ((wrap64 ((a0.size : Int) - (t147.size : Int))) ≤ (a0.size : Int)) = true := decide_eq_true c5
        clear c5
        simp only [Option.some.injEq, Prod.mk.injEq] at H
        obtain ⟨rfl, rfl⟩ := H
        go_enter Try.func18, Try.ntmps18
        go_wp2_with (first | ((with_reducible refine gate_callee (f := 20) rfl ?_); refine goesL_ (some 9) rfl rfl Try.func20 (by kernel_rfl) rfl #[.string (a0.extract 1 a0.size)] rfl (by (try simp only [List.map_toArray, List.map_cons, List.map_nil]); first | done | rfl | (simp only [List.length_drop, List.length_take]; rfl)) ?_; (with_reducible refine (impl_endBinary.calls k (a0.extract 1 a0.size) t147 t148 _ A3.out).mono ?_); rintro e w' ⟨rfl, ⟨nd, rfl⟩⟩; refine ⟨_, rfl, ?_⟩))
        go_ret2
        exact ⟨by first | rfl | (simp; done) | (simp [*]; done), by repeat (first | exact Drawn0.refl _ | apply Drawn0.step)⟩
      · rw [if_neg c5] at H
        exact absurd H (by simp)
    · rw [if_neg c4] at H
      exact absurd H (by simp)
  · rw [if_neg c2] at H
    exact absurd H (by simp)

def impl_rotated.f (k : Nat) (a0 : ByteArray) (a1 : Int) (a2 : Bool) : Option (ByteArray × Bool) := (impl_partAt.f k a0 a1).bind fun bt149 => ((impl_sides.f k bt149.2.1).bind fun bt152 => (if a2 = true then (if bt152.1.toList = ([48] : List UInt8) then (some ((⟨#[]⟩ : ByteArray), false)) else ((impl_sides.f k bt152.1).bind fun bt154 => (if bt149.1.size + 1 ≤ 9223372036854775807 then (if (bt149.1 ++ (⟨#[49]⟩ : ByteArray)).size + bt154.1.size ≤ 9223372036854775807 then (if ((bt149.1 ++ (⟨#[49]⟩ : ByteArray)) ++ bt154.1).size + 1 ≤ 9223372036854775807 then (if (((bt149.1 ++ (⟨#[49]⟩ : ByteArray)) ++ bt154.1) ++ (⟨#[49]⟩ : ByteArray)).size + bt154.2.size ≤ 9223372036854775807 then (if ((((bt149.1 ++ (⟨#[49]⟩ : ByteArray)) ++ bt154.1) ++ (⟨#[49]⟩ : ByteArray)) ++ bt154.2).size + bt152.2.size ≤ 9223372036854775807 then (if (((((bt149.1 ++ (⟨#[49]⟩ : ByteArray)) ++ bt154.1) ++ (⟨#[49]⟩ : ByteArray)) ++ bt154.2) ++ bt152.2).size + bt149.2.2.size ≤ 9223372036854775807 then (some ((((((bt149.1 ++ (⟨#[49]⟩ : ByteArray)) ++ bt154.1) ++ (⟨#[49]⟩ : ByteArray)) ++ bt154.2) ++ bt152.2) ++ bt149.2.2, true)) else (none)) else (none)) else (none)) else (none)) else (none)) else (none)))) else (if bt152.2.toList = ([48] : List UInt8) then (some ((⟨#[]⟩ : ByteArray), false)) else ((impl_sides.f k bt152.2).bind fun bt156 => (if bt149.1.size + 2 ≤ 9223372036854775807 then (if (bt149.1 ++ (⟨#[49, 49]⟩ : ByteArray)).size + bt152.1.size ≤ 9223372036854775807 then (if ((bt149.1 ++ (⟨#[49, 49]⟩ : ByteArray)) ++ bt152.1).size + bt156.1.size ≤ 9223372036854775807 then (if (((bt149.1 ++ (⟨#[49, 49]⟩ : ByteArray)) ++ bt152.1) ++ bt156.1).size + bt156.2.size ≤ 9223372036854775807 then (if ((((bt149.1 ++ (⟨#[49, 49]⟩ : ByteArray)) ++ bt152.1) ++ bt156.1) ++ bt156.2).size + bt149.2.2.size ≤ 9223372036854775807 then (some (((((bt149.1 ++ (⟨#[49, 49]⟩ : ByteArray)) ++ bt152.1) ++ bt156.1) ++ bt156.2) ++ bt149.2.2, true)) else (none)) else (none)) else (none)) else (none)) else (none))))))
set_option maxHeartbeats 8000000 in
set_option maxRecDepth 100000 in
theorem impl_rotated.calls (k : Nat) (a0 : ByteArray) (a1 : Int) (a2 : Bool) (r1 : ByteArray) (r2 : Bool) (w : World) (h : impl_rotated.f k a0 a1 a2 = some (r1, r2)) :
    Calls Try.prog 11 #[.string a0, .int .i64 a1, .bool a2] w fun e w' => e = .returned (.tuple #[.string r1, .bool r2]) ∧ Drawn0 w w' := by
  have H : ((impl_partAt.f k a0 a1).bind fun bt149 => ((impl_sides.f k bt149.2.1).bind fun bt152 => (if a2 = true then (if bt152.1.toList = ([48] : List UInt8) then (some ((⟨#[]⟩ : ByteArray), false)) else ((impl_sides.f k bt152.1).bind fun bt154 => (if bt149.1.size + 1 ≤ 9223372036854775807 then (if (bt149.1 ++ (⟨#[49]⟩ : ByteArray)).size + bt154.1.size ≤ 9223372036854775807 then (if ((bt149.1 ++ (⟨#[49]⟩ : ByteArray)) ++ bt154.1).size + 1 ≤ 9223372036854775807 then (if (((bt149.1 ++ (⟨#[49]⟩ : ByteArray)) ++ bt154.1) ++ (⟨#[49]⟩ : ByteArray)).size + bt154.2.size ≤ 9223372036854775807 then (if ((((bt149.1 ++ (⟨#[49]⟩ : ByteArray)) ++ bt154.1) ++ (⟨#[49]⟩ : ByteArray)) ++ bt154.2).size + bt152.2.size ≤ 9223372036854775807 then (if (((((bt149.1 ++ (⟨#[49]⟩ : ByteArray)) ++ bt154.1) ++ (⟨#[49]⟩ : ByteArray)) ++ bt154.2) ++ bt152.2).size + bt149.2.2.size ≤ 9223372036854775807 then (some ((((((bt149.1 ++ (⟨#[49]⟩ : ByteArray)) ++ bt154.1) ++ (⟨#[49]⟩ : ByteArray)) ++ bt154.2) ++ bt152.2) ++ bt149.2.2, true)) else (none)) else (none)) else (none)) else (none)) else (none)) else (none)))) else (if bt152.2.toList = ([48] : List UInt8) then (some ((⟨#[]⟩ : ByteArray), false)) else ((impl_sides.f k bt152.2).bind fun bt156 => (if bt149.1.size + 2 ≤ 9223372036854775807 then (if (bt149.1 ++ (⟨#[49, 49]⟩ : ByteArray)).size + bt152.1.size ≤ 9223372036854775807 then (if ((bt149.1 ++ (⟨#[49, 49]⟩ : ByteArray)) ++ bt152.1).size + bt156.1.size ≤ 9223372036854775807 then (if (((bt149.1 ++ (⟨#[49, 49]⟩ : ByteArray)) ++ bt152.1) ++ bt156.1).size + bt156.2.size ≤ 9223372036854775807 then (if ((((bt149.1 ++ (⟨#[49, 49]⟩ : ByteArray)) ++ bt152.1) ++ bt156.1) ++ bt156.2).size + bt149.2.2.size ≤ 9223372036854775807 then (some (((((bt149.1 ++ (⟨#[49, 49]⟩ : ByteArray)) ++ bt152.1) ++ bt156.1) ++ bt156.2) ++ bt149.2.2, true)) else (none)) else (none)) else (none)) else (none)) else (none))))))) = some (r1, r2) := h
  clear h
  replace H := Option.bind_eq_some_iff.mp H
  obtain ⟨⟨t149, t150, t151⟩, A40, H⟩ := H
  replace H : ((impl_sides.f k t150).bind fun bt152 => (if a2 = true then (if bt152.1.toList = ([48] : List UInt8) then (some ((⟨#[]⟩ : ByteArray), false)) else ((impl_sides.f k bt152.1).bind fun bt154 => (if t149.size + 1 ≤ 9223372036854775807 then (if (t149 ++ (⟨#[49]⟩ : ByteArray)).size + bt154.1.size ≤ 9223372036854775807 then (if ((t149 ++ (⟨#[49]⟩ : ByteArray)) ++ bt154.1).size + 1 ≤ 9223372036854775807 then (if (((t149 ++ (⟨#[49]⟩ : ByteArray)) ++ bt154.1) ++ (⟨#[49]⟩ : ByteArray)).size + bt154.2.size ≤ 9223372036854775807 then (if ((((t149 ++ (⟨#[49]⟩ : ByteArray)) ++ bt154.1) ++ (⟨#[49]⟩ : ByteArray)) ++ bt154.2).size + bt152.2.size ≤ 9223372036854775807 then (if (((((t149 ++ (⟨#[49]⟩ : ByteArray)) ++ bt154.1) ++ (⟨#[49]⟩ : ByteArray)) ++ bt154.2) ++ bt152.2).size + t151.size ≤ 9223372036854775807 then (some ((((((t149 ++ (⟨#[49]⟩ : ByteArray)) ++ bt154.1) ++ (⟨#[49]⟩ : ByteArray)) ++ bt154.2) ++ bt152.2) ++ t151, true)) else (none)) else (none)) else (none)) else (none)) else (none)) else (none)))) else (if bt152.2.toList = ([48] : List UInt8) then (some ((⟨#[]⟩ : ByteArray), false)) else ((impl_sides.f k bt152.2).bind fun bt156 => (if t149.size + 2 ≤ 9223372036854775807 then (if (t149 ++ (⟨#[49, 49]⟩ : ByteArray)).size + bt152.1.size ≤ 9223372036854775807 then (if ((t149 ++ (⟨#[49, 49]⟩ : ByteArray)) ++ bt152.1).size + bt156.1.size ≤ 9223372036854775807 then (if (((t149 ++ (⟨#[49, 49]⟩ : ByteArray)) ++ bt152.1) ++ bt156.1).size + bt156.2.size ≤ 9223372036854775807 then (if ((((t149 ++ (⟨#[49, 49]⟩ : ByteArray)) ++ bt152.1) ++ bt156.1) ++ bt156.2).size + t151.size ≤ 9223372036854775807 then (some (((((t149 ++ (⟨#[49, 49]⟩ : ByteArray)) ++ bt152.1) ++ bt156.1) ++ bt156.2) ++ t151, true)) else (none)) else (none)) else (none)) else (none)) else (none)))))) = some (r1, r2) := H
  have A4 := Aside0.mk A40
  clear A40
  replace H := Option.bind_eq_some_iff.mp H
  obtain ⟨⟨t152, t153⟩, A50, H⟩ := H
  replace H : (if a2 = true then (if t152.toList = ([48] : List UInt8) then (some ((⟨#[]⟩ : ByteArray), false)) else ((impl_sides.f k t152).bind fun bt154 => (if t149.size + 1 ≤ 9223372036854775807 then (if (t149 ++ (⟨#[49]⟩ : ByteArray)).size + bt154.1.size ≤ 9223372036854775807 then (if ((t149 ++ (⟨#[49]⟩ : ByteArray)) ++ bt154.1).size + 1 ≤ 9223372036854775807 then (if (((t149 ++ (⟨#[49]⟩ : ByteArray)) ++ bt154.1) ++ (⟨#[49]⟩ : ByteArray)).size + bt154.2.size ≤ 9223372036854775807 then (if ((((t149 ++ (⟨#[49]⟩ : ByteArray)) ++ bt154.1) ++ (⟨#[49]⟩ : ByteArray)) ++ bt154.2).size + t153.size ≤ 9223372036854775807 then (if (((((t149 ++ (⟨#[49]⟩ : ByteArray)) ++ bt154.1) ++ (⟨#[49]⟩ : ByteArray)) ++ bt154.2) ++ t153).size + t151.size ≤ 9223372036854775807 then (some ((((((t149 ++ (⟨#[49]⟩ : ByteArray)) ++ bt154.1) ++ (⟨#[49]⟩ : ByteArray)) ++ bt154.2) ++ t153) ++ t151, true)) else (none)) else (none)) else (none)) else (none)) else (none)) else (none)))) else (if t153.toList = ([48] : List UInt8) then (some ((⟨#[]⟩ : ByteArray), false)) else ((impl_sides.f k t153).bind fun bt156 => (if t149.size + 2 ≤ 9223372036854775807 then (if (t149 ++ (⟨#[49, 49]⟩ : ByteArray)).size + t152.size ≤ 9223372036854775807 then (if ((t149 ++ (⟨#[49, 49]⟩ : ByteArray)) ++ t152).size + bt156.1.size ≤ 9223372036854775807 then (if (((t149 ++ (⟨#[49, 49]⟩ : ByteArray)) ++ t152) ++ bt156.1).size + bt156.2.size ≤ 9223372036854775807 then (if ((((t149 ++ (⟨#[49, 49]⟩ : ByteArray)) ++ t152) ++ bt156.1) ++ bt156.2).size + t151.size ≤ 9223372036854775807 then (some (((((t149 ++ (⟨#[49, 49]⟩ : ByteArray)) ++ t152) ++ bt156.1) ++ bt156.2) ++ t151, true)) else (none)) else (none)) else (none)) else (none)) else (none))))) = some (r1, r2) := H
  have A5 := Aside0.mk A50
  clear A50
  by_cases c6 : a2 = true
  · subst c6
    have H1 : (if t152.toList = ([48] : List UInt8) then (some ((⟨#[]⟩ : ByteArray), false)) else ((impl_sides.f k t152).bind fun bt154 => (if t149.size + 1 ≤ 9223372036854775807 then (if (t149 ++ (⟨#[49]⟩ : ByteArray)).size + bt154.1.size ≤ 9223372036854775807 then (if ((t149 ++ (⟨#[49]⟩ : ByteArray)) ++ bt154.1).size + 1 ≤ 9223372036854775807 then (if (((t149 ++ (⟨#[49]⟩ : ByteArray)) ++ bt154.1) ++ (⟨#[49]⟩ : ByteArray)).size + bt154.2.size ≤ 9223372036854775807 then (if ((((t149 ++ (⟨#[49]⟩ : ByteArray)) ++ bt154.1) ++ (⟨#[49]⟩ : ByteArray)) ++ bt154.2).size + t153.size ≤ 9223372036854775807 then (if (((((t149 ++ (⟨#[49]⟩ : ByteArray)) ++ bt154.1) ++ (⟨#[49]⟩ : ByteArray)) ++ bt154.2) ++ t153).size + t151.size ≤ 9223372036854775807 then (some ((((((t149 ++ (⟨#[49]⟩ : ByteArray)) ++ bt154.1) ++ (⟨#[49]⟩ : ByteArray)) ++ bt154.2) ++ t153) ++ t151, true)) else (none)) else (none)) else (none)) else (none)) else (none)) else (none)))) = some (r1, r2) := by rw [if_pos rfl] at H; exact H
    clear H
    have H := H1
    clear H1
    by_cases c7 : t152.toList = ([48] : List UInt8)
    · rw [if_pos c7] at H
      have c7b0 : (t152.toList == ([48] : List UInt8)) = true := beq_iff_eq.mpr c7
      have c7b1 : (t152.toList != ([48] : List UInt8)) = false := bne_eq_false_iff_eq.mpr c7
      clear c7
      simp only [Option.some.injEq, Prod.mk.injEq] at H
      obtain ⟨rfl, rfl⟩ := H
      go_enter Try.func11, Try.ntmps11
      go_wp2_with (first | ((with_reducible refine gate_callee (f := 17) rfl ?_); refine goesL_ (some 20) rfl rfl Try.func17 (by kernel_rfl) rfl #[.string a0, .int .i64 a1] rfl (by (try simp only [List.map_toArray, List.map_cons, List.map_nil]); first | done | rfl | (simp only [List.length_drop, List.length_take]; rfl)) ?_; (with_reducible refine (impl_partAt.calls k a0 a1 t149 t150 t151 _ A4.out).mono ?_); rintro e w' ⟨rfl, ⟨nd, rfl⟩⟩; refine ⟨_, rfl, ?_⟩) | ((with_reducible refine gate_callee (f := 18) rfl ?_); refine goesL_ (some 26) rfl rfl Try.func18 (by kernel_rfl) rfl #[.string t150] rfl (by (try simp only [List.map_toArray, List.map_cons, List.map_nil]); first | done | rfl | (simp only [List.length_drop, List.length_take]; rfl)) ?_; (with_reducible refine (impl_sides.calls k t150 t152 t153 _ A5.out).mono ?_); rintro e w' ⟨rfl, ⟨nd, rfl⟩⟩; refine ⟨_, rfl, ?_⟩))
      go_ret2
      exact ⟨by first | rfl | (simp; done) | (simp [*]; done), by repeat (first | exact Drawn0.refl _ | apply Drawn0.step)⟩
    · rw [if_neg c7] at H
      have c7b0 : (t152.toList == ([48] : List UInt8)) = false := beq_eq_false_iff_ne.mpr c7
      have c7b1 : (t152.toList != ([48] : List UInt8)) = true := bne_iff_ne.mpr c7
      replace H := Option.bind_eq_some_iff.mp H
      obtain ⟨⟨t154, t155⟩, A80, H⟩ := H
      replace H : (if t149.size + 1 ≤ 9223372036854775807 then (if (t149 ++ (⟨#[49]⟩ : ByteArray)).size + t154.size ≤ 9223372036854775807 then (if ((t149 ++ (⟨#[49]⟩ : ByteArray)) ++ t154).size + 1 ≤ 9223372036854775807 then (if (((t149 ++ (⟨#[49]⟩ : ByteArray)) ++ t154) ++ (⟨#[49]⟩ : ByteArray)).size + t155.size ≤ 9223372036854775807 then (if ((((t149 ++ (⟨#[49]⟩ : ByteArray)) ++ t154) ++ (⟨#[49]⟩ : ByteArray)) ++ t155).size + t153.size ≤ 9223372036854775807 then (if (((((t149 ++ (⟨#[49]⟩ : ByteArray)) ++ t154) ++ (⟨#[49]⟩ : ByteArray)) ++ t155) ++ t153).size + t151.size ≤ 9223372036854775807 then (some ((((((t149 ++ (⟨#[49]⟩ : ByteArray)) ++ t154) ++ (⟨#[49]⟩ : ByteArray)) ++ t155) ++ t153) ++ t151, true)) else (none)) else (none)) else (none)) else (none)) else (none)) else (none)) = some (r1, r2) := H
      have A8 := Aside0.mk A80
      clear A80
      by_cases c9 : t149.size + 1 ≤ 9223372036854775807
      · rw [if_pos c9] at H
        have c9b0 := eq_true c9
        have c9b1 : decide (t149.size + 1 ≤ 9223372036854775807) = true := decide_eq_true c9
        try have c9b2 : (9223372036854775807 < t149.size + 1) = False := eq_false (Nat.not_lt.2 c9)
        by_cases c10 : (t149 ++ (⟨#[49]⟩ : ByteArray)).size + t154.size ≤ 9223372036854775807
        · rw [if_pos c10] at H
          have c10b0 := eq_true c10
          have c10b1 : decide ((t149 ++ (⟨#[49]⟩ : ByteArray)).size + t154.size ≤ 9223372036854775807) = true := decide_eq_true c10
          try have c10b2 : (9223372036854775807 < (t149 ++ (⟨#[49]⟩ : ByteArray)).size + t154.size) = False := eq_false (Nat.not_lt.2 c10)
          try have c10b3 : (9223372036854775807 < t149.size + 1 + t154.size) = False := eq_false (by have z_ := c10; simp only [ByteArray.size_append, ByteArray.size_extract, decide_eq_true_eq, eq_iff_iff, iff_true, (show (⟨#[49]⟩ : ByteArray).size = 1 from rfl)] at *; first | omega | (simp at z_; omega))
          by_cases c11 : ((t149 ++ (⟨#[49]⟩ : ByteArray)) ++ t154).size + 1 ≤ 9223372036854775807
          · rw [if_pos c11] at H
            have c11b0 := eq_true c11
            have c11b1 : decide (((t149 ++ (⟨#[49]⟩ : ByteArray)) ++ t154).size + 1 ≤ 9223372036854775807) = true := decide_eq_true c11
            try have c11b2 : (9223372036854775807 < ((t149 ++ (⟨#[49]⟩ : ByteArray)) ++ t154).size + 1) = False := eq_false (Nat.not_lt.2 c11)
            try have c11b3 : (9223372036854775807 < t149.size + 1 + t154.size + 1) = False := eq_false (by have z_ := c11; simp only [ByteArray.size_append, ByteArray.size_extract, decide_eq_true_eq, eq_iff_iff, iff_true, (show (⟨#[49]⟩ : ByteArray).size = 1 from rfl)] at *; first | omega | (simp at z_; omega))
            by_cases c12 : (((t149 ++ (⟨#[49]⟩ : ByteArray)) ++ t154) ++ (⟨#[49]⟩ : ByteArray)).size + t155.size ≤ 9223372036854775807
            · rw [if_pos c12] at H
              have c12b0 := eq_true c12
              have c12b1 : decide ((((t149 ++ (⟨#[49]⟩ : ByteArray)) ++ t154) ++ (⟨#[49]⟩ : ByteArray)).size + t155.size ≤ 9223372036854775807) = true := decide_eq_true c12
              try have c12b2 : (9223372036854775807 < (((t149 ++ (⟨#[49]⟩ : ByteArray)) ++ t154) ++ (⟨#[49]⟩ : ByteArray)).size + t155.size) = False := eq_false (Nat.not_lt.2 c12)
              try have c12b3 : (9223372036854775807 < t149.size + 1 + t154.size + 1 + t155.size) = False := eq_false (by have z_ := c12; simp only [ByteArray.size_append, ByteArray.size_extract, decide_eq_true_eq, eq_iff_iff, iff_true, (show (⟨#[49]⟩ : ByteArray).size = 1 from rfl)] at *; first | omega | (simp at z_; omega))
              by_cases c13 : ((((t149 ++ (⟨#[49]⟩ : ByteArray)) ++ t154) ++ (⟨#[49]⟩ : ByteArray)) ++ t155).size + t153.size ≤ 9223372036854775807
              · rw [if_pos c13] at H
                have c13b0 := eq_true c13
                have c13b1 : decide (((((t149 ++ (⟨#[49]⟩ : ByteArray)) ++ t154) ++ (⟨#[49]⟩ : ByteArray)) ++ t155).size + t153.size ≤ 9223372036854775807) = true := decide_eq_true c13
                try have c13b2 : (9223372036854775807 < ((((t149 ++ (⟨#[49]⟩ : ByteArray)) ++ t154) ++ (⟨#[49]⟩ : ByteArray)) ++ t155).size + t153.size) = False := eq_false (Nat.not_lt.2 c13)
                try have c13b3 : (9223372036854775807 < t149.size + 1 + t154.size + 1 + t155.size + t153.size) = False := eq_false (by have z_ := c13; simp only [ByteArray.size_append, ByteArray.size_extract, decide_eq_true_eq, eq_iff_iff, iff_true, (show (⟨#[49]⟩ : ByteArray).size = 1 from rfl)] at *; first | omega | (simp at z_; omega))
                by_cases c14 : (((((t149 ++ (⟨#[49]⟩ : ByteArray)) ++ t154) ++ (⟨#[49]⟩ : ByteArray)) ++ t155) ++ t153).size + t151.size ≤ 9223372036854775807
                · rw [if_pos c14] at H
                  have c14b0 := eq_true c14
                  have c14b1 : decide ((((((t149 ++ (⟨#[49]⟩ : ByteArray)) ++ t154) ++ (⟨#[49]⟩ : ByteArray)) ++ t155) ++ t153).size + t151.size ≤ 9223372036854775807) = true := decide_eq_true c14
                  try have c14b2 : (9223372036854775807 < (((((t149 ++ (⟨#[49]⟩ : ByteArray)) ++ t154) ++ (⟨#[49]⟩ : ByteArray)) ++ t155) ++ t153).size + t151.size) = False := eq_false (Nat.not_lt.2 c14)
                  try have c14b3 : (9223372036854775807 < t149.size + 1 + t154.size + 1 + t155.size + t153.size + t151.size) = False := eq_false (by have z_ := c14; simp only [ByteArray.size_append, ByteArray.size_extract, decide_eq_true_eq, eq_iff_iff, iff_true, (show (⟨#[49]⟩ : ByteArray).size = 1 from rfl)] at *; first | omega | (simp at z_; omega))
                  simp only [Option.some.injEq, Prod.mk.injEq] at H
                  obtain ⟨rfl, rfl⟩ := H
                  go_enter Try.func11, Try.ntmps11
                  go_wp2_with (first | ((with_reducible refine gate_callee (f := 17) rfl ?_); refine goesL_ (some 20) rfl rfl Try.func17 (by kernel_rfl) rfl #[.string a0, .int .i64 a1] rfl (by (try simp only [List.map_toArray, List.map_cons, List.map_nil]); first | done | rfl | (simp only [List.length_drop, List.length_take]; rfl)) ?_; (with_reducible refine (impl_partAt.calls k a0 a1 t149 t150 t151 _ A4.out).mono ?_); rintro e w' ⟨rfl, ⟨nd, rfl⟩⟩; refine ⟨_, rfl, ?_⟩) | ((with_reducible refine gate_callee (f := 18) rfl ?_); refine goesL_ (some 26) rfl rfl Try.func18 (by kernel_rfl) rfl #[.string t150] rfl (by (try simp only [List.map_toArray, List.map_cons, List.map_nil]); first | done | rfl | (simp only [List.length_drop, List.length_take]; rfl)) ?_; (with_reducible refine (impl_sides.calls k t150 t152 t153 _ A5.out).mono ?_); rintro e w' ⟨rfl, ⟨nd, rfl⟩⟩; refine ⟨_, rfl, ?_⟩) | ((with_reducible refine gate_callee (f := 18) rfl ?_); refine goesL_ (some 34) rfl rfl Try.func18 (by kernel_rfl) rfl #[.string t152] rfl (by (try simp only [List.map_toArray, List.map_cons, List.map_nil]); first | done | rfl | (simp only [List.length_drop, List.length_take]; rfl)) ?_; (with_reducible refine (impl_sides.calls k t152 t154 t155 _ A8.out).mono ?_); rintro e w' ⟨rfl, ⟨nd, rfl⟩⟩; refine ⟨_, rfl, ?_⟩))
                  go_ret2
                  exact ⟨by first | rfl | (simp; done) | (simp [*]; done), by repeat (first | exact Drawn0.refl _ | apply Drawn0.step)⟩
                · rw [if_neg c14] at H
                  exact absurd H (by simp)
              · rw [if_neg c13] at H
                exact absurd H (by simp)
            · rw [if_neg c12] at H
              exact absurd H (by simp)
          · rw [if_neg c11] at H
            exact absurd H (by simp)
        · rw [if_neg c10] at H
          exact absurd H (by simp)
      · rw [if_neg c9] at H
        exact absurd H (by simp)
  · replace c6 := Bool.eq_false_iff.mpr c6
    subst c6
    have H1 : (if t153.toList = ([48] : List UInt8) then (some ((⟨#[]⟩ : ByteArray), false)) else ((impl_sides.f k t153).bind fun bt156 => (if t149.size + 2 ≤ 9223372036854775807 then (if (t149 ++ (⟨#[49, 49]⟩ : ByteArray)).size + t152.size ≤ 9223372036854775807 then (if ((t149 ++ (⟨#[49, 49]⟩ : ByteArray)) ++ t152).size + bt156.1.size ≤ 9223372036854775807 then (if (((t149 ++ (⟨#[49, 49]⟩ : ByteArray)) ++ t152) ++ bt156.1).size + bt156.2.size ≤ 9223372036854775807 then (if ((((t149 ++ (⟨#[49, 49]⟩ : ByteArray)) ++ t152) ++ bt156.1) ++ bt156.2).size + t151.size ≤ 9223372036854775807 then (some (((((t149 ++ (⟨#[49, 49]⟩ : ByteArray)) ++ t152) ++ bt156.1) ++ bt156.2) ++ t151, true)) else (none)) else (none)) else (none)) else (none)) else (none)))) = some (r1, r2) := by rw [if_neg (show ¬ (false = true) by decide)] at H; exact H
    clear H
    have H := H1
    clear H1
    by_cases c15 : t153.toList = ([48] : List UInt8)
    · rw [if_pos c15] at H
      have c15b0 : (t153.toList == ([48] : List UInt8)) = true := beq_iff_eq.mpr c15
      have c15b1 : (t153.toList != ([48] : List UInt8)) = false := bne_eq_false_iff_eq.mpr c15
      clear c15
      simp only [Option.some.injEq, Prod.mk.injEq] at H
      obtain ⟨rfl, rfl⟩ := H
      go_enter Try.func11, Try.ntmps11
      go_wp2_with (first | ((with_reducible refine gate_callee (f := 17) rfl ?_); refine goesL_ (some 20) rfl rfl Try.func17 (by kernel_rfl) rfl #[.string a0, .int .i64 a1] rfl (by (try simp only [List.map_toArray, List.map_cons, List.map_nil]); first | done | rfl | (simp only [List.length_drop, List.length_take]; rfl)) ?_; (with_reducible refine (impl_partAt.calls k a0 a1 t149 t150 t151 _ A4.out).mono ?_); rintro e w' ⟨rfl, ⟨nd, rfl⟩⟩; refine ⟨_, rfl, ?_⟩) | ((with_reducible refine gate_callee (f := 18) rfl ?_); refine goesL_ (some 26) rfl rfl Try.func18 (by kernel_rfl) rfl #[.string t150] rfl (by (try simp only [List.map_toArray, List.map_cons, List.map_nil]); first | done | rfl | (simp only [List.length_drop, List.length_take]; rfl)) ?_; (with_reducible refine (impl_sides.calls k t150 t152 t153 _ A5.out).mono ?_); rintro e w' ⟨rfl, ⟨nd, rfl⟩⟩; refine ⟨_, rfl, ?_⟩))
      go_ret2
      exact ⟨by first | rfl | (simp; done) | (simp [*]; done), by repeat (first | exact Drawn0.refl _ | apply Drawn0.step)⟩
    · rw [if_neg c15] at H
      have c15b0 : (t153.toList == ([48] : List UInt8)) = false := beq_eq_false_iff_ne.mpr c15
      have c15b1 : (t153.toList != ([48] : List UInt8)) = true := bne_iff_ne.mpr c15
      replace H := Option.bind_eq_some_iff.mp H
      obtain ⟨⟨t156, t157⟩, A160, H⟩ := H
      replace H : (if t149.size + 2 ≤ 9223372036854775807 then (if (t149 ++ (⟨#[49, 49]⟩ : ByteArray)).size + t152.size ≤ 9223372036854775807 then (if ((t149 ++ (⟨#[49, 49]⟩ : ByteArray)) ++ t152).size + t156.size ≤ 9223372036854775807 then (if (((t149 ++ (⟨#[49, 49]⟩ : ByteArray)) ++ t152) ++ t156).size + t157.size ≤ 9223372036854775807 then (if ((((t149 ++ (⟨#[49, 49]⟩ : ByteArray)) ++ t152) ++ t156) ++ t157).size + t151.size ≤ 9223372036854775807 then (some (((((t149 ++ (⟨#[49, 49]⟩ : ByteArray)) ++ t152) ++ t156) ++ t157) ++ t151, true)) else (none)) else (none)) else (none)) else (none)) else (none)) = some (r1, r2) := H
      have A16 := Aside0.mk A160
      clear A160
      by_cases c17 : t149.size + 2 ≤ 9223372036854775807
      · rw [if_pos c17] at H
        have c17b0 := eq_true c17
        have c17b1 : decide (t149.size + 2 ≤ 9223372036854775807) = true := decide_eq_true c17
        try have c17b2 : (9223372036854775807 < t149.size + 2) = False := eq_false (Nat.not_lt.2 c17)
        by_cases c18 : (t149 ++ (⟨#[49, 49]⟩ : ByteArray)).size + t152.size ≤ 9223372036854775807
        · rw [if_pos c18] at H
          have c18b0 := eq_true c18
          have c18b1 : decide ((t149 ++ (⟨#[49, 49]⟩ : ByteArray)).size + t152.size ≤ 9223372036854775807) = true := decide_eq_true c18
          try have c18b2 : (9223372036854775807 < (t149 ++ (⟨#[49, 49]⟩ : ByteArray)).size + t152.size) = False := eq_false (Nat.not_lt.2 c18)
          try have c18b3 : (9223372036854775807 < t149.size + 2 + t152.size) = False := eq_false (by have z_ := c18; simp only [ByteArray.size_append, ByteArray.size_extract, decide_eq_true_eq, eq_iff_iff, iff_true, (show (⟨#[49, 49]⟩ : ByteArray).size = 2 from rfl)] at *; first | omega | (simp at z_; omega))
          by_cases c19 : ((t149 ++ (⟨#[49, 49]⟩ : ByteArray)) ++ t152).size + t156.size ≤ 9223372036854775807
          · rw [if_pos c19] at H
            have c19b0 := eq_true c19
            have c19b1 : decide (((t149 ++ (⟨#[49, 49]⟩ : ByteArray)) ++ t152).size + t156.size ≤ 9223372036854775807) = true := decide_eq_true c19
            try have c19b2 : (9223372036854775807 < ((t149 ++ (⟨#[49, 49]⟩ : ByteArray)) ++ t152).size + t156.size) = False := eq_false (Nat.not_lt.2 c19)
            try have c19b3 : (9223372036854775807 < t149.size + 2 + t152.size + t156.size) = False := eq_false (by have z_ := c19; simp only [ByteArray.size_append, ByteArray.size_extract, decide_eq_true_eq, eq_iff_iff, iff_true, (show (⟨#[49, 49]⟩ : ByteArray).size = 2 from rfl)] at *; first | omega | (simp at z_; omega))
            by_cases c20 : (((t149 ++ (⟨#[49, 49]⟩ : ByteArray)) ++ t152) ++ t156).size + t157.size ≤ 9223372036854775807
            · rw [if_pos c20] at H
              have c20b0 := eq_true c20
              have c20b1 : decide ((((t149 ++ (⟨#[49, 49]⟩ : ByteArray)) ++ t152) ++ t156).size + t157.size ≤ 9223372036854775807) = true := decide_eq_true c20
              try have c20b2 : (9223372036854775807 < (((t149 ++ (⟨#[49, 49]⟩ : ByteArray)) ++ t152) ++ t156).size + t157.size) = False := eq_false (Nat.not_lt.2 c20)
              try have c20b3 : (9223372036854775807 < t149.size + 2 + t152.size + t156.size + t157.size) = False := eq_false (by have z_ := c20; simp only [ByteArray.size_append, ByteArray.size_extract, decide_eq_true_eq, eq_iff_iff, iff_true, (show (⟨#[49, 49]⟩ : ByteArray).size = 2 from rfl)] at *; first | omega | (simp at z_; omega))
              by_cases c21 : ((((t149 ++ (⟨#[49, 49]⟩ : ByteArray)) ++ t152) ++ t156) ++ t157).size + t151.size ≤ 9223372036854775807
              · rw [if_pos c21] at H
                have c21b0 := eq_true c21
                have c21b1 : decide (((((t149 ++ (⟨#[49, 49]⟩ : ByteArray)) ++ t152) ++ t156) ++ t157).size + t151.size ≤ 9223372036854775807) = true := decide_eq_true c21
                try have c21b2 : (9223372036854775807 < ((((t149 ++ (⟨#[49, 49]⟩ : ByteArray)) ++ t152) ++ t156) ++ t157).size + t151.size) = False := eq_false (Nat.not_lt.2 c21)
                try have c21b3 : (9223372036854775807 < t149.size + 2 + t152.size + t156.size + t157.size + t151.size) = False := eq_false (by have z_ := c21; simp only [ByteArray.size_append, ByteArray.size_extract, decide_eq_true_eq, eq_iff_iff, iff_true, (show (⟨#[49, 49]⟩ : ByteArray).size = 2 from rfl)] at *; first | omega | (simp at z_; omega))
                simp only [Option.some.injEq, Prod.mk.injEq] at H
                obtain ⟨rfl, rfl⟩ := H
                go_enter Try.func11, Try.ntmps11
                go_wp2_with (first | ((with_reducible refine gate_callee (f := 17) rfl ?_); refine goesL_ (some 20) rfl rfl Try.func17 (by kernel_rfl) rfl #[.string a0, .int .i64 a1] rfl (by (try simp only [List.map_toArray, List.map_cons, List.map_nil]); first | done | rfl | (simp only [List.length_drop, List.length_take]; rfl)) ?_; (with_reducible refine (impl_partAt.calls k a0 a1 t149 t150 t151 _ A4.out).mono ?_); rintro e w' ⟨rfl, ⟨nd, rfl⟩⟩; refine ⟨_, rfl, ?_⟩) | ((with_reducible refine gate_callee (f := 18) rfl ?_); refine goesL_ (some 26) rfl rfl Try.func18 (by kernel_rfl) rfl #[.string t150] rfl (by (try simp only [List.map_toArray, List.map_cons, List.map_nil]); first | done | rfl | (simp only [List.length_drop, List.length_take]; rfl)) ?_; (with_reducible refine (impl_sides.calls k t150 t152 t153 _ A5.out).mono ?_); rintro e w' ⟨rfl, ⟨nd, rfl⟩⟩; refine ⟨_, rfl, ?_⟩) | ((with_reducible refine gate_callee (f := 18) rfl ?_); refine goesL_ (some 52) rfl rfl Try.func18 (by kernel_rfl) rfl #[.string t153] rfl (by (try simp only [List.map_toArray, List.map_cons, List.map_nil]); first | done | rfl | (simp only [List.length_drop, List.length_take]; rfl)) ?_; (with_reducible refine (impl_sides.calls k t153 t156 t157 _ A16.out).mono ?_); rintro e w' ⟨rfl, ⟨nd, rfl⟩⟩; refine ⟨_, rfl, ?_⟩))
                go_ret2
                exact ⟨by first | rfl | (simp; done) | (simp [*]; done), by repeat (first | exact Drawn0.refl _ | apply Drawn0.step)⟩
              · rw [if_neg c21] at H
                exact absurd H (by simp)
            · rw [if_neg c20] at H
              exact absurd H (by simp)
          · rw [if_neg c19] at H
            exact absurd H (by simp)
        · rw [if_neg c18] at H
          exact absurd H (by simp)
      · rw [if_neg c17] at H
        exact absurd H (by simp)

end Go.Proofs.Ytomoafkpjdncfaa.E
