-- Written by wip/ext.py of this claim (contracts by the form of the kit's print; hand-written ones among them).
import Derived.Test.YtgbhlmmmighanaaEx0
import Derived.Test.YtgbhlmmmighanaaEx1
import Derived.Test.YtgbhlmmmighanaaEx4
import Derived.Test.YtgbhlmmmighanaaEx6
namespace Go.Proofs.Ytgbhlmmmighanaa.E
open Go.RowKit Go.Proofs.YtgbhlmmmighanaaW.PrintWords Go.Proofs.YtgbhlmmmighanaaW.PrintLast Go.Proofs.YtgbhlmmmighanaaW.PrintMore
attribute [local go_sem] max2_int min2_int max_two min_two max_three min_three max_four min_four   -- for this text's walks alone
set_option linter.unusedVariables false
set_option linter.unusedSimpArgs false

/-! ### spec_l03Node: function 34 -/
def spec_l03Node.f (k : Nat) (a0 : ByteArray) (a1 : Int) : Option (Int) := (spec_l03Is.f k a0).bind fun t102 => (if t102 = true then ((spec_l03N.f a0).bind fun t103 => ((spec_l01In.f a1 0 (wrap64 (t103 - 1))).bind fun t104 => (if t104 = true then (some 0) else (some 2)))) else (some 1))
theorem spec_l03Node.mono : ∀ a0 a1 k, LeO (spec_l03Node.f k a0 a1) (spec_l03Node.f (k + 1) a0 a1) := by
  intro a0 a1 k
  unfold spec_l03Node.f
  repeat' first
      | (with_reducible exact spec_l03Is.mono _ _)
      | (with_reducible exact LeO.refl _)
      | (with_reducible exact LeO.none _)
      | (with_reducible refine LeO.ite ?_ ?_)
      | (with_reducible refine LeO.bind ?_ (fun _ => ?_))
      | exact spec_l03Is.mono _ _
      | exact LeO.none _
      | refine LeO.ite ?_ ?_
      | refine LeO.bind ?_ (fun _ => ?_)
set_option maxHeartbeats 8000000 in
set_option maxRecDepth 100000 in
theorem spec_l03Node.calls (k : Nat) (a0 : ByteArray) (a1 : Int) (r : Int) (w : World) (h : spec_l03Node.f k a0 a1 = some r) :
    Calls Try.prog 34 #[.string a0, .int .i64 a1] w fun e w' => e = .returned (.int .i64 r) ∧ Drawn0 w w' := by
  have H : ((spec_l03Is.f k a0).bind fun t102 => (if t102 = true then ((spec_l03N.f a0).bind fun t103 => ((spec_l01In.f a1 0 (wrap64 (t103 - 1))).bind fun t104 => (if t104 = true then (some 0) else (some 2)))) else (some 1))) = some r := h
  clear h
  replace H := Option.bind_eq_some_iff.mp H
  obtain ⟨t102, A30, H⟩ := H
  replace H : (if t102 = true then ((spec_l03N.f a0).bind fun t103 => ((spec_l01In.f a1 0 (wrap64 (t103 - 1))).bind fun t104 => (if t104 = true then (some 0) else (some 2)))) else (some 1)) = some r := H
  have A3 := Aside0.mk A30
  clear A30
  by_cases c4 : t102 = true
  · subst c4
    have H1 : ((spec_l03N.f a0).bind fun t103 => ((spec_l01In.f a1 0 (wrap64 (t103 - 1))).bind fun t104 => (if t104 = true then (some 0) else (some 2)))) = some r := by rw [if_pos rfl] at H; exact H
    clear H
    have H := H1
    clear H1
    replace H := Option.bind_eq_some_iff.mp H
    obtain ⟨t103, A50, H⟩ := H
    replace H : ((spec_l01In.f a1 0 (wrap64 (t103 - 1))).bind fun t104 => (if t104 = true then (some 0) else (some 2))) = some r := H
    have A5 := Aside0.mk A50
    clear A50
    replace H := Option.bind_eq_some_iff.mp H
    obtain ⟨t104, A60, H⟩ := H
    replace H : (if t104 = true then (some 0) else (some 2)) = some r := H
    have A6 := Aside0.mk A60
    clear A60
    by_cases c7 : t104 = true
    · subst c7
      have H1 : (some 0) = some r := by rw [if_pos rfl] at H; exact H
      clear H
      have H := H1
      clear H1
      obtain rfl := Option.some.inj H
      go_enter Try.func34, Try.ntmps34
      go_wp2_with (first | ((with_reducible refine gate_callee (f := 37) rfl ?_); refine goesL_ (some 7) rfl rfl Try.func37 (by kernel_rfl) rfl #[.string a0] rfl (by (try simp only [List.map_toArray, List.map_cons, List.map_nil]); first | done | rfl | (simp only [List.length_drop, List.length_take]; rfl)) ?_; (with_reducible refine (spec_l03Is.calls k a0 true _ A3.out).mono ?_); rintro e w' ⟨rfl, ⟨nd, rfl⟩⟩; refine ⟨_, rfl, ?_⟩) | ((with_reducible refine gate_callee (f := 67) rfl ?_); refine goesL_ (some 12) rfl rfl Try.func67 (by kernel_rfl) rfl #[.string a0] rfl (by (try simp only [List.map_toArray, List.map_cons, List.map_nil]); first | done | rfl | (simp only [List.length_drop, List.length_take]; rfl)) ?_; (with_reducible refine (spec_l03N.calls a0 t103 _ A5.out).mono ?_); rintro e w' ⟨rfl, ⟨nd, rfl⟩⟩; refine ⟨_, rfl, ?_⟩) | ((with_reducible refine gate_callee (f := 51) rfl ?_); refine goesL_ (some 14) rfl rfl Try.func51 (by kernel_rfl) rfl #[.int .i64 a1, .int .i64 0, .int .i64 (wrap64 (t103 - 1))] rfl (by (try simp only [List.map_toArray, List.map_cons, List.map_nil]); first | done | rfl | (simp only [List.length_drop, List.length_take]; rfl)) ?_; (with_reducible refine (spec_l01In.calls a1 0 (wrap64 (t103 - 1)) true _ A6.out).mono ?_); rintro e w' ⟨rfl, ⟨nd, rfl⟩⟩; refine ⟨_, rfl, ?_⟩))
      go_ret
      exact ⟨by first | rfl | (simp; done) | (simp [*]; done), by repeat (first | exact Drawn0.refl _ | apply Drawn0.step)⟩
    · replace c7 := Bool.eq_false_iff.mpr c7
      subst c7
      have H1 : (some 2) = some r := by rw [if_neg (show ¬ (false = true) by decide)] at H; exact H
      clear H
      have H := H1
      clear H1
      obtain rfl := Option.some.inj H
      go_enter Try.func34, Try.ntmps34
      go_wp2_with (first | ((with_reducible refine gate_callee (f := 37) rfl ?_); refine goesL_ (some 7) rfl rfl Try.func37 (by kernel_rfl) rfl #[.string a0] rfl (by (try simp only [List.map_toArray, List.map_cons, List.map_nil]); first | done | rfl | (simp only [List.length_drop, List.length_take]; rfl)) ?_; (with_reducible refine (spec_l03Is.calls k a0 true _ A3.out).mono ?_); rintro e w' ⟨rfl, ⟨nd, rfl⟩⟩; refine ⟨_, rfl, ?_⟩) | ((with_reducible refine gate_callee (f := 67) rfl ?_); refine goesL_ (some 12) rfl rfl Try.func67 (by kernel_rfl) rfl #[.string a0] rfl (by (try simp only [List.map_toArray, List.map_cons, List.map_nil]); first | done | rfl | (simp only [List.length_drop, List.length_take]; rfl)) ?_; (with_reducible refine (spec_l03N.calls a0 t103 _ A5.out).mono ?_); rintro e w' ⟨rfl, ⟨nd, rfl⟩⟩; refine ⟨_, rfl, ?_⟩) | ((with_reducible refine gate_callee (f := 51) rfl ?_); refine goesL_ (some 14) rfl rfl Try.func51 (by kernel_rfl) rfl #[.int .i64 a1, .int .i64 0, .int .i64 (wrap64 (t103 - 1))] rfl (by (try simp only [List.map_toArray, List.map_cons, List.map_nil]); first | done | rfl | (simp only [List.length_drop, List.length_take]; rfl)) ?_; (with_reducible refine (spec_l01In.calls a1 0 (wrap64 (t103 - 1)) false _ A6.out).mono ?_); rintro e w' ⟨rfl, ⟨nd, rfl⟩⟩; refine ⟨_, rfl, ?_⟩))
      go_ret
      exact ⟨by first | rfl | (simp; done) | (simp [*]; done), by repeat (first | exact Drawn0.refl _ | apply Drawn0.step)⟩
  · replace c4 := Bool.eq_false_iff.mpr c4
    subst c4
    have H1 : (some 1) = some r := by rw [if_neg (show ¬ (false = true) by decide)] at H; exact H
    clear H
    have H := H1
    clear H1
    obtain rfl := Option.some.inj H
    go_enter Try.func34, Try.ntmps34
    go_wp2_with (first | ((with_reducible refine gate_callee (f := 37) rfl ?_); refine goesL_ (some 7) rfl rfl Try.func37 (by kernel_rfl) rfl #[.string a0] rfl (by (try simp only [List.map_toArray, List.map_cons, List.map_nil]); first | done | rfl | (simp only [List.length_drop, List.length_take]; rfl)) ?_; (with_reducible refine (spec_l03Is.calls k a0 false _ A3.out).mono ?_); rintro e w' ⟨rfl, ⟨nd, rfl⟩⟩; refine ⟨_, rfl, ?_⟩))
    go_ret
    exact ⟨by first | rfl | (simp; done) | (simp [*]; done), by repeat (first | exact Drawn0.refl _ | apply Drawn0.step)⟩

/-! ### spec_l03Place: function 68 -/
def spec_l03Place.l0 : Nat → ByteArray → Int → Int → Option (Int)
  | 0, _, _, _ => none
  | k + 1, x0, x1, x5 => if 0 ≤ x5 then (if x5 < (x0.size : Int) then (if (bt x0 x5) = 49 then (if x1 = 0 then (some x5) else (spec_l03Place.l0 k x0 (wrap64 (x1 - 1)) (wrap64 (x5 + 1)))) else (spec_l03Place.l0 k x0 x1 (wrap64 (x5 + 1)))) else (none)) else (none)
def spec_l03Place.f (k : Nat) (a0 : ByteArray) (a1 : Int) : Option (Int) := spec_l03Place.l0 k a0 a1 0
theorem spec_l03Place.mono_l : ∀ k, (∀ y0 y1 y2, LeO (spec_l03Place.l0 k y0 y1 y2) (spec_l03Place.l0 (k + 1) y0 y1 y2))
  | 0 => fun _ _ _ r h => by simp [spec_l03Place.l0] at h
  | k + 1 => by
    have ih0 := spec_l03Place.mono_l k
    · intro y0 y1 y2
      unfold spec_l03Place.l0
      repeat' first
      | (with_reducible exact ih0 _ _ _)
      | (with_reducible exact LeO.refl _)
      | (with_reducible exact LeO.none _)
      | (with_reducible refine LeO.ite ?_ ?_)
      | (with_reducible refine LeO.bind ?_ (fun _ => ?_))
      | exact ih0 _ _ _
      | exact LeO.none _
      | refine LeO.ite ?_ ?_
      | refine LeO.bind ?_ (fun _ => ?_)
theorem spec_l03Place.mono : ∀ a0 a1 k, LeO (spec_l03Place.f k a0 a1) (spec_l03Place.f (k + 1) a0 a1) := by
  intro a0 a1 k
  have ih0 := spec_l03Place.mono_l k
  unfold spec_l03Place.f
  repeat' first
      | (with_reducible exact ih0 _ _ _)
      | (with_reducible exact LeO.refl _)
      | (with_reducible exact LeO.none _)
      | (with_reducible refine LeO.ite ?_ ?_)
      | (with_reducible refine LeO.bind ?_ (fun _ => ?_))
      | exact ih0 _ _ _
      | exact LeO.none _
      | refine LeO.ite ?_ ?_
      | refine LeO.bind ?_ (fun _ => ?_)
set_option maxHeartbeats 8000000 in
set_option maxRecDepth 100000 in
theorem spec_l03Place.calls (k : Nat) (a0 : ByteArray) (a1 : Int) (r : Int) (w : World) (h : spec_l03Place.f k a0 a1 = some r) :
    Calls Try.prog 68 #[.string a0, .int .i64 a1] w fun e w' => e = .returned (.int .i64 r) ∧ Drawn0 w w' := by
  have H : (spec_l03Place.l0 k a0 a1 0) = some r := h
  clear h
  have H' := Aside0.mk H
  clear H
  go_enter Try.func68, Try.ntmps68
  go_wp2
  go_loopg [1, 5] k (fun kq v1 v5 w' => ∃ (x1_1 : Int) (x5_1 : Int), v1 = .int .i64 x1_1 ∧ v5 = .int .i64 x5_1 ∧ Aside0 (spec_l03Place.l0 kq a0 x1_1 x5_1 = some r) ∧ Aside0 (kq ≤ k) ∧ Drawn0 w w')
  case atStart => exact ⟨(a1), (0), (by first | rfl | (simp; done) | (simp [*]; done)), (by first | rfl | (simp; done) | (simp [*]; done)), H', ⟨Nat.le_refl _⟩, by repeat (first | exact Drawn0.refl _ | apply Drawn0.step)⟩
  case round =>
    clear H'
    try clear p2
    obtain ⟨x1_1, x5_1, rfl, rfl, HA, HK1, ⟨m1, rfl⟩⟩ := hrel
    cases gk with
    | zero => exact absurd HA.out (by simp [spec_l03Place.l0])
    | succ k1 =>
      have H := HA.out
      clear HA
      simp only [spec_l03Place.l0] at H
      by_cases c3 : 0 ≤ x5_1
      · rw [if_pos c3] at H
        have c3b0 : decide (0 ≤ x5_1) = true := decide_eq_true c3
        clear c3
        by_cases c4 : x5_1 < (a0.size : Int)
        · rw [if_pos c4] at H
          have c4b0 : decide (x5_1 < (a0.size : Int)) = true := decide_eq_true c4
          clear c4
          by_cases c6 : (bt a0 x5_1) = 49
          · rw [if_pos c6] at H
            have c6b0 : ((bt a0 x5_1) == 49) = true := beq_iff_eq.mpr c6
            have c6b1 : ((bt a0 x5_1) != 49) = false := bne_eq_false_iff_eq.mpr c6
            clear c6
            by_cases c7 : x1_1 = 0
            · rw [if_pos c7] at H
              have c7b0 : (x1_1 == 0) = true := beq_iff_eq.mpr c7
              have c7b1 : (x1_1 != 0) = false := bne_eq_false_iff_eq.mpr c7
              clear c7
              obtain rfl := Option.some.inj H
              have p5 : 0 ≤ (x5_1 : Int) := of_decide_eq_true (by first | (with_reducible assumption) | assumption)
              have q5 : x5_1 < (a0.size : Int) := of_decide_eq_true (by first | (with_reducible assumption) | assumption)
              have hx5 := bt_at a0 x5_1
              replace p5 := eq_true p5
              replace q5 := eq_true q5
              go_wp2
              go_ret
              exact ⟨by first | rfl | (simp; done) | (simp [*]; done), by repeat (first | exact Drawn0.refl _ | apply Drawn0.step)⟩
            · rw [if_neg c7] at H
              have c7b0 : (x1_1 == 0) = false := beq_eq_false_iff_ne.mpr c7
              have c7b1 : (x1_1 != 0) = true := bne_iff_ne.mpr c7
              have H' := Aside0.mk H
              clear H
              have p5 : 0 ≤ (x5_1 : Int) := of_decide_eq_true (by first | (with_reducible assumption) | assumption)
              have q5 : x5_1 < (a0.size : Int) := of_decide_eq_true (by first | (with_reducible assumption) | assumption)
              have hx5 := bt_at a0 x5_1
              replace p5 := eq_true p5
              replace q5 := eq_true q5
              go_wp2
              go_roundg k1
              case measure => have := HK1.out; omega
              case rel => exact ⟨(wrap64 (x1_1 - 1)), (wrap64 (x5_1 + 1)), (by first | rfl | (simp; done) | (simp [*]; done)), (by first | rfl | (simp; done) | (simp [*]; done)), H', ⟨by have := HK1.out; omega⟩, by repeat (first | exact Drawn0.refl _ | apply Drawn0.step)⟩
          · rw [if_neg c6] at H
            have c6b0 : ((bt a0 x5_1) == 49) = false := beq_eq_false_iff_ne.mpr c6
            have c6b1 : ((bt a0 x5_1) != 49) = true := bne_iff_ne.mpr c6
            have H' := Aside0.mk H
            clear H
            have p5 : 0 ≤ (x5_1 : Int) := of_decide_eq_true (by first | (with_reducible assumption) | assumption)
            have q5 : x5_1 < (a0.size : Int) := of_decide_eq_true (by first | (with_reducible assumption) | assumption)
            have hx5 := bt_at a0 x5_1
            replace p5 := eq_true p5
            replace q5 := eq_true q5
            go_wp2
            go_roundg k1
            case measure => have := HK1.out; omega
            case rel => exact ⟨(x1_1), (wrap64 (x5_1 + 1)), (by first | rfl | (simp; done) | (simp [*]; done)), (by first | rfl | (simp; done) | (simp [*]; done)), H', ⟨by have := HK1.out; omega⟩, by repeat (first | exact Drawn0.refl _ | apply Drawn0.step)⟩
        · rw [if_neg c4] at H
          exact absurd H (by simp)
      · rw [if_neg c3] at H
        exact absurd H (by simp)

/-! ### spec_l03Turn: function 35 -/
def spec_l03Turn.f (k : Nat) (a0 : ByteArray) (a1 : Int) (a2 : Bool) : Option (ByteArray × Bool) := (spec_l03Place.f k a0 a1).bind fun t106 => ((spec_l03End.f k a0 t106).bind fun t107 => (if 0 ≤ t106 then (if t106 ≤ t107 then (if t107 ≤ (a0.size : Int) then ((spec_l03Sides.f k (a0.extract (t106 : Int).toNat (t107 : Int).toNat)).bind fun bt108 => (if a2 = true then (if bt108.1.toList = ([48] : List UInt8) then (some ((⟨#[]⟩ : ByteArray), false)) else ((spec_l03Sides.f k bt108.1).bind fun bt110 => (if t106 ≤ (a0.size : Int) then (if (a0.extract 0 (t106 : Int).toNat).size + 1 ≤ 9223372036854775807 then (if ((a0.extract 0 (t106 : Int).toNat) ++ (⟨#[49]⟩ : ByteArray)).size + bt110.1.size ≤ 9223372036854775807 then (if (((a0.extract 0 (t106 : Int).toNat) ++ (⟨#[49]⟩ : ByteArray)) ++ bt110.1).size + 1 ≤ 9223372036854775807 then (if ((((a0.extract 0 (t106 : Int).toNat) ++ (⟨#[49]⟩ : ByteArray)) ++ bt110.1) ++ (⟨#[49]⟩ : ByteArray)).size + bt110.2.size ≤ 9223372036854775807 then (if (((((a0.extract 0 (t106 : Int).toNat) ++ (⟨#[49]⟩ : ByteArray)) ++ bt110.1) ++ (⟨#[49]⟩ : ByteArray)) ++ bt110.2).size + bt108.2.size ≤ 9223372036854775807 then (if 0 ≤ t107 then (if ((((((a0.extract 0 (t106 : Int).toNat) ++ (⟨#[49]⟩ : ByteArray)) ++ bt110.1) ++ (⟨#[49]⟩ : ByteArray)) ++ bt110.2) ++ bt108.2).size + (a0.extract (t107 : Int).toNat a0.size).size ≤ 9223372036854775807 then (some (((((((a0.extract 0 (t106 : Int).toNat) ++ (⟨#[49]⟩ : ByteArray)) ++ bt110.1) ++ (⟨#[49]⟩ : ByteArray)) ++ bt110.2) ++ bt108.2) ++ (a0.extract (t107 : Int).toNat a0.size), true)) else (none)) else (none)) else (none)) else (none)) else (none)) else (none)) else (none)) else (none)))) else (if bt108.2.toList = ([48] : List UInt8) then (some ((⟨#[]⟩ : ByteArray), false)) else ((spec_l03Sides.f k bt108.2).bind fun bt112 => (if t106 ≤ (a0.size : Int) then (if (a0.extract 0 (t106 : Int).toNat).size + 2 ≤ 9223372036854775807 then (if ((a0.extract 0 (t106 : Int).toNat) ++ (⟨#[49, 49]⟩ : ByteArray)).size + bt108.1.size ≤ 9223372036854775807 then (if (((a0.extract 0 (t106 : Int).toNat) ++ (⟨#[49, 49]⟩ : ByteArray)) ++ bt108.1).size + bt112.1.size ≤ 9223372036854775807 then (if ((((a0.extract 0 (t106 : Int).toNat) ++ (⟨#[49, 49]⟩ : ByteArray)) ++ bt108.1) ++ bt112.1).size + bt112.2.size ≤ 9223372036854775807 then (if 0 ≤ t107 then (if (((((a0.extract 0 (t106 : Int).toNat) ++ (⟨#[49, 49]⟩ : ByteArray)) ++ bt108.1) ++ bt112.1) ++ bt112.2).size + (a0.extract (t107 : Int).toNat a0.size).size ≤ 9223372036854775807 then (some ((((((a0.extract 0 (t106 : Int).toNat) ++ (⟨#[49, 49]⟩ : ByteArray)) ++ bt108.1) ++ bt112.1) ++ bt112.2) ++ (a0.extract (t107 : Int).toNat a0.size), true)) else (none)) else (none)) else (none)) else (none)) else (none)) else (none)) else (none)))))) else (none)) else (none)) else (none)))
theorem spec_l03Turn.mono : ∀ a0 a1 a2 k, LeO (spec_l03Turn.f k a0 a1 a2) (spec_l03Turn.f (k + 1) a0 a1 a2) := by
  intro a0 a1 a2 k
  unfold spec_l03Turn.f
  repeat' first
      | (with_reducible exact spec_l03End.mono _ _ _)
      | (with_reducible exact spec_l03Place.mono _ _ _)
      | (with_reducible exact spec_l03Sides.mono _ _)
      | (with_reducible exact LeO.refl _)
      | (with_reducible exact LeO.none _)
      | (with_reducible refine LeO.ite ?_ ?_)
      | (with_reducible refine LeO.bind ?_ (fun _ => ?_))
      | exact spec_l03End.mono _ _ _
      | exact spec_l03Place.mono _ _ _
      | exact spec_l03Sides.mono _ _
      | exact LeO.none _
      | refine LeO.ite ?_ ?_
      | refine LeO.bind ?_ (fun _ => ?_)
set_option maxHeartbeats 8000000 in
set_option maxRecDepth 100000 in
theorem spec_l03Turn.calls (k : Nat) (a0 : ByteArray) (a1 : Int) (a2 : Bool) (r1 : ByteArray) (r2 : Bool) (w : World) (h : spec_l03Turn.f k a0 a1 a2 = some (r1, r2)) :
    Calls Try.prog 35 #[.string a0, .int .i64 a1, .bool a2] w fun e w' => e = .returned (.tuple #[.string r1, .bool r2]) ∧ Drawn0 w w' := by
  have H : ((spec_l03Place.f k a0 a1).bind fun t106 => ((spec_l03End.f k a0 t106).bind fun t107 => (if 0 ≤ t106 then (if t106 ≤ t107 then (if t107 ≤ (a0.size : Int) then ((spec_l03Sides.f k (a0.extract (t106 : Int).toNat (t107 : Int).toNat)).bind fun bt108 => (if a2 = true then (if bt108.1.toList = ([48] : List UInt8) then (some ((⟨#[]⟩ : ByteArray), false)) else ((spec_l03Sides.f k bt108.1).bind fun bt110 => (if t106 ≤ (a0.size : Int) then (if (a0.extract 0 (t106 : Int).toNat).size + 1 ≤ 9223372036854775807 then (if ((a0.extract 0 (t106 : Int).toNat) ++ (⟨#[49]⟩ : ByteArray)).size + bt110.1.size ≤ 9223372036854775807 then (if (((a0.extract 0 (t106 : Int).toNat) ++ (⟨#[49]⟩ : ByteArray)) ++ bt110.1).size + 1 ≤ 9223372036854775807 then (if ((((a0.extract 0 (t106 : Int).toNat) ++ (⟨#[49]⟩ : ByteArray)) ++ bt110.1) ++ (⟨#[49]⟩ : ByteArray)).size + bt110.2.size ≤ 9223372036854775807 then (if (((((a0.extract 0 (t106 : Int).toNat) ++ (⟨#[49]⟩ : ByteArray)) ++ bt110.1) ++ (⟨#[49]⟩ : ByteArray)) ++ bt110.2).size + bt108.2.size ≤ 9223372036854775807 then (if 0 ≤ t107 then (if ((((((a0.extract 0 (t106 : Int).toNat) ++ (⟨#[49]⟩ : ByteArray)) ++ bt110.1) ++ (⟨#[49]⟩ : ByteArray)) ++ bt110.2) ++ bt108.2).size + (a0.extract (t107 : Int).toNat a0.size).size ≤ 9223372036854775807 then (some (((((((a0.extract 0 (t106 : Int).toNat) ++ (⟨#[49]⟩ : ByteArray)) ++ bt110.1) ++ (⟨#[49]⟩ : ByteArray)) ++ bt110.2) ++ bt108.2) ++ (a0.extract (t107 : Int).toNat a0.size), true)) else (none)) else (none)) else (none)) else (none)) else (none)) else (none)) else (none)) else (none)))) else (if bt108.2.toList = ([48] : List UInt8) then (some ((⟨#[]⟩ : ByteArray), false)) else ((spec_l03Sides.f k bt108.2).bind fun bt112 => (if t106 ≤ (a0.size : Int) then (if (a0.extract 0 (t106 : Int).toNat).size + 2 ≤ 9223372036854775807 then (if ((a0.extract 0 (t106 : Int).toNat) ++ (⟨#[49, 49]⟩ : ByteArray)).size + bt108.1.size ≤ 9223372036854775807 then (if (((a0.extract 0 (t106 : Int).toNat) ++ (⟨#[49, 49]⟩ : ByteArray)) ++ bt108.1).size + bt112.1.size ≤ 9223372036854775807 then (if ((((a0.extract 0 (t106 : Int).toNat) ++ (⟨#[49, 49]⟩ : ByteArray)) ++ bt108.1) ++ bt112.1).size + bt112.2.size ≤ 9223372036854775807 then (if 0 ≤ t107 then (if (((((a0.extract 0 (t106 : Int).toNat) ++ (⟨#[49, 49]⟩ : ByteArray)) ++ bt108.1) ++ bt112.1) ++ bt112.2).size + (a0.extract (t107 : Int).toNat a0.size).size ≤ 9223372036854775807 then (some ((((((a0.extract 0 (t106 : Int).toNat) ++ (⟨#[49, 49]⟩ : ByteArray)) ++ bt108.1) ++ bt112.1) ++ bt112.2) ++ (a0.extract (t107 : Int).toNat a0.size), true)) else (none)) else (none)) else (none)) else (none)) else (none)) else (none)) else (none)))))) else (none)) else (none)) else (none)))) = some (r1, r2) := h
  clear h
  replace H := Option.bind_eq_some_iff.mp H
  obtain ⟨t106, A40, H⟩ := H
  replace H : ((spec_l03End.f k a0 t106).bind fun t107 => (if 0 ≤ t106 then (if t106 ≤ t107 then (if t107 ≤ (a0.size : Int) then ((spec_l03Sides.f k (a0.extract (t106 : Int).toNat (t107 : Int).toNat)).bind fun bt108 => (if a2 = true then (if bt108.1.toList = ([48] : List UInt8) then (some ((⟨#[]⟩ : ByteArray), false)) else ((spec_l03Sides.f k bt108.1).bind fun bt110 => (if t106 ≤ (a0.size : Int) then (if (a0.extract 0 (t106 : Int).toNat).size + 1 ≤ 9223372036854775807 then (if ((a0.extract 0 (t106 : Int).toNat) ++ (⟨#[49]⟩ : ByteArray)).size + bt110.1.size ≤ 9223372036854775807 then (if (((a0.extract 0 (t106 : Int).toNat) ++ (⟨#[49]⟩ : ByteArray)) ++ bt110.1).size + 1 ≤ 9223372036854775807 then (if ((((a0.extract 0 (t106 : Int).toNat) ++ (⟨#[49]⟩ : ByteArray)) ++ bt110.1) ++ (⟨#[49]⟩ : ByteArray)).size + bt110.2.size ≤ 9223372036854775807 then (if (((((a0.extract 0 (t106 : Int).toNat) ++ (⟨#[49]⟩ : ByteArray)) ++ bt110.1) ++ (⟨#[49]⟩ : ByteArray)) ++ bt110.2).size + bt108.2.size ≤ 9223372036854775807 then (if 0 ≤ t107 then (if ((((((a0.extract 0 (t106 : Int).toNat) ++ (⟨#[49]⟩ : ByteArray)) ++ bt110.1) ++ (⟨#[49]⟩ : ByteArray)) ++ bt110.2) ++ bt108.2).size + (a0.extract (t107 : Int).toNat a0.size).size ≤ 9223372036854775807 then (some (((((((a0.extract 0 (t106 : Int).toNat) ++ (⟨#[49]⟩ : ByteArray)) ++ bt110.1) ++ (⟨#[49]⟩ : ByteArray)) ++ bt110.2) ++ bt108.2) ++ (a0.extract (t107 : Int).toNat a0.size), true)) else (none)) else (none)) else (none)) else (none)) else (none)) else (none)) else (none)) else (none)))) else (if bt108.2.toList = ([48] : List UInt8) then (some ((⟨#[]⟩ : ByteArray), false)) else ((spec_l03Sides.f k bt108.2).bind fun bt112 => (if t106 ≤ (a0.size : Int) then (if (a0.extract 0 (t106 : Int).toNat).size + 2 ≤ 9223372036854775807 then (if ((a0.extract 0 (t106 : Int).toNat) ++ (⟨#[49, 49]⟩ : ByteArray)).size + bt108.1.size ≤ 9223372036854775807 then (if (((a0.extract 0 (t106 : Int).toNat) ++ (⟨#[49, 49]⟩ : ByteArray)) ++ bt108.1).size + bt112.1.size ≤ 9223372036854775807 then (if ((((a0.extract 0 (t106 : Int).toNat) ++ (⟨#[49, 49]⟩ : ByteArray)) ++ bt108.1) ++ bt112.1).size + bt112.2.size ≤ 9223372036854775807 then (if 0 ≤ t107 then (if (((((a0.extract 0 (t106 : Int).toNat) ++ (⟨#[49, 49]⟩ : ByteArray)) ++ bt108.1) ++ bt112.1) ++ bt112.2).size + (a0.extract (t107 : Int).toNat a0.size).size ≤ 9223372036854775807 then (some ((((((a0.extract 0 (t106 : Int).toNat) ++ (⟨#[49, 49]⟩ : ByteArray)) ++ bt108.1) ++ bt112.1) ++ bt112.2) ++ (a0.extract (t107 : Int).toNat a0.size), true)) else (none)) else (none)) else (none)) else (none)) else (none)) else (none)) else (none)))))) else (none)) else (none)) else (none))) = some (r1, r2) := H
  have A4 := Aside0.mk A40
  clear A40
  replace H := Option.bind_eq_some_iff.mp H
  obtain ⟨t107, A50, H⟩ := H
  replace H : (if 0 ≤ t106 then (if t106 ≤ t107 then (if t107 ≤ (a0.size : Int) then ((spec_l03Sides.f k (a0.extract (t106 : Int).toNat (t107 : Int).toNat)).bind fun bt108 => (if a2 = true then (if bt108.1.toList = ([48] : List UInt8) then (some ((⟨#[]⟩ : ByteArray), false)) else ((spec_l03Sides.f k bt108.1).bind fun bt110 => (if t106 ≤ (a0.size : Int) then (if (a0.extract 0 (t106 : Int).toNat).size + 1 ≤ 9223372036854775807 then (if ((a0.extract 0 (t106 : Int).toNat) ++ (⟨#[49]⟩ : ByteArray)).size + bt110.1.size ≤ 9223372036854775807 then (if (((a0.extract 0 (t106 : Int).toNat) ++ (⟨#[49]⟩ : ByteArray)) ++ bt110.1).size + 1 ≤ 9223372036854775807 then (if ((((a0.extract 0 (t106 : Int).toNat) ++ (⟨#[49]⟩ : ByteArray)) ++ bt110.1) ++ (⟨#[49]⟩ : ByteArray)).size + bt110.2.size ≤ 9223372036854775807 then (if (((((a0.extract 0 (t106 : Int).toNat) ++ (⟨#[49]⟩ : ByteArray)) ++ bt110.1) ++ (⟨#[49]⟩ : ByteArray)) ++ bt110.2).size + bt108.2.size ≤ 9223372036854775807 then (if 0 ≤ t107 then (if ((((((a0.extract 0 (t106 : Int).toNat) ++ (⟨#[49]⟩ : ByteArray)) ++ bt110.1) ++ (⟨#[49]⟩ : ByteArray)) ++ bt110.2) ++ bt108.2).size + (a0.extract (t107 : Int).toNat a0.size).size ≤ 9223372036854775807 then (some (((((((a0.extract 0 (t106 : Int).toNat) ++ (⟨#[49]⟩ : ByteArray)) ++ bt110.1) ++ (⟨#[49]⟩ : ByteArray)) ++ bt110.2) ++ bt108.2) ++ (a0.extract (t107 : Int).toNat a0.size), true)) else (none)) else (none)) else (none)) else (none)) else (none)) else (none)) else (none)) else (none)))) else (if bt108.2.toList = ([48] : List UInt8) then (some ((⟨#[]⟩ : ByteArray), false)) else ((spec_l03Sides.f k bt108.2).bind fun bt112 => (if t106 ≤ (a0.size : Int) then (if (a0.extract 0 (t106 : Int).toNat).size + 2 ≤ 9223372036854775807 then (if ((a0.extract 0 (t106 : Int).toNat) ++ (⟨#[49, 49]⟩ : ByteArray)).size + bt108.1.size ≤ 9223372036854775807 then (if (((a0.extract 0 (t106 : Int).toNat) ++ (⟨#[49, 49]⟩ : ByteArray)) ++ bt108.1).size + bt112.1.size ≤ 9223372036854775807 then (if ((((a0.extract 0 (t106 : Int).toNat) ++ (⟨#[49, 49]⟩ : ByteArray)) ++ bt108.1) ++ bt112.1).size + bt112.2.size ≤ 9223372036854775807 then (if 0 ≤ t107 then (if (((((a0.extract 0 (t106 : Int).toNat) ++ (⟨#[49, 49]⟩ : ByteArray)) ++ bt108.1) ++ bt112.1) ++ bt112.2).size + (a0.extract (t107 : Int).toNat a0.size).size ≤ 9223372036854775807 then (some ((((((a0.extract 0 (t106 : Int).toNat) ++ (⟨#[49, 49]⟩ : ByteArray)) ++ bt108.1) ++ bt112.1) ++ bt112.2) ++ (a0.extract (t107 : Int).toNat a0.size), true)) else (none)) else (none)) else (none)) else (none)) else (none)) else (none)) else (none)))))) else (none)) else (none)) else (none)) = some (r1, r2) := H
  have A5 := Aside0.mk A50
  clear A50
  by_cases c6 : 0 ≤ t106
  · rw [if_pos c6] at H
    have c6b0 := eq_true c6
    have c6b1 : decide (0 ≤ t106) = true := decide_eq_true c6
    clear c6
    by_cases c7 : t106 ≤ t107
    · rw [if_pos c7] at H
      have c7b0 := eq_true c7
      have c7b1 : decide (t106 ≤ t107) = true := decide_eq_true c7
      clear c7
      by_cases c8 : t107 ≤ (a0.size : Int)
      · rw [if_pos c8] at H
        have c8b0 := eq_true c8
        have c8b1 : decide (t107 ≤ (a0.size : Int)) = true := decide_eq_true c8
        clear c8
        replace H := Option.bind_eq_some_iff.mp H
        obtain ⟨⟨t108, t109⟩, A90, H⟩ := H
        replace H : (if a2 = true then (if t108.toList = ([48] : List UInt8) then (some ((⟨#[]⟩ : ByteArray), false)) else ((spec_l03Sides.f k t108).bind fun bt110 => (if t106 ≤ (a0.size : Int) then (if (a0.extract 0 (t106 : Int).toNat).size + 1 ≤ 9223372036854775807 then (if ((a0.extract 0 (t106 : Int).toNat) ++ (⟨#[49]⟩ : ByteArray)).size + bt110.1.size ≤ 9223372036854775807 then (if (((a0.extract 0 (t106 : Int).toNat) ++ (⟨#[49]⟩ : ByteArray)) ++ bt110.1).size + 1 ≤ 9223372036854775807 then (if ((((a0.extract 0 (t106 : Int).toNat) ++ (⟨#[49]⟩ : ByteArray)) ++ bt110.1) ++ (⟨#[49]⟩ : ByteArray)).size + bt110.2.size ≤ 9223372036854775807 then (if (((((a0.extract 0 (t106 : Int).toNat) ++ (⟨#[49]⟩ : ByteArray)) ++ bt110.1) ++ (⟨#[49]⟩ : ByteArray)) ++ bt110.2).size + t109.size ≤ 9223372036854775807 then (if 0 ≤ t107 then (if ((((((a0.extract 0 (t106 : Int).toNat) ++ (⟨#[49]⟩ : ByteArray)) ++ bt110.1) ++ (⟨#[49]⟩ : ByteArray)) ++ bt110.2) ++ t109).size + (a0.extract (t107 : Int).toNat a0.size).size ≤ 9223372036854775807 then (some (((((((a0.extract 0 (t106 : Int).toNat) ++ (⟨#[49]⟩ : ByteArray)) ++ bt110.1) ++ (⟨#[49]⟩ : ByteArray)) ++ bt110.2) ++ t109) ++ (a0.extract (t107 : Int).toNat a0.size), true)) else (none)) else (none)) else (none)) else (none)) else (none)) else (none)) else (none)) else (none)))) else (if t109.toList = ([48] : List UInt8) then (some ((⟨#[]⟩ : ByteArray), false)) else ((spec_l03Sides.f k t109).bind fun bt112 => (if t106 ≤ (a0.size : Int) then (if (a0.extract 0 (t106 : Int).toNat).size + 2 ≤ 9223372036854775807 then (if ((a0.extract 0 (t106 : Int).toNat) ++ (⟨#[49, 49]⟩ : ByteArray)).size + t108.size ≤ 9223372036854775807 then (if (((a0.extract 0 (t106 : Int).toNat) ++ (⟨#[49, 49]⟩ : ByteArray)) ++ t108).size + bt112.1.size ≤ 9223372036854775807 then (if ((((a0.extract 0 (t106 : Int).toNat) ++ (⟨#[49, 49]⟩ : ByteArray)) ++ t108) ++ bt112.1).size + bt112.2.size ≤ 9223372036854775807 then (if 0 ≤ t107 then (if (((((a0.extract 0 (t106 : Int).toNat) ++ (⟨#[49, 49]⟩ : ByteArray)) ++ t108) ++ bt112.1) ++ bt112.2).size + (a0.extract (t107 : Int).toNat a0.size).size ≤ 9223372036854775807 then (some ((((((a0.extract 0 (t106 : Int).toNat) ++ (⟨#[49, 49]⟩ : ByteArray)) ++ t108) ++ bt112.1) ++ bt112.2) ++ (a0.extract (t107 : Int).toNat a0.size), true)) else (none)) else (none)) else (none)) else (none)) else (none)) else (none)) else (none))))) = some (r1, r2) := H
        have A9 := Aside0.mk A90
        clear A90
        by_cases c10 : a2 = true
        · subst c10
          have H1 : (if t108.toList = ([48] : List UInt8) then (some ((⟨#[]⟩ : ByteArray), false)) else ((spec_l03Sides.f k t108).bind fun bt110 => (if t106 ≤ (a0.size : Int) then (if (a0.extract 0 (t106 : Int).toNat).size + 1 ≤ 9223372036854775807 then (if ((a0.extract 0 (t106 : Int).toNat) ++ (⟨#[49]⟩ : ByteArray)).size + bt110.1.size ≤ 9223372036854775807 then (if (((a0.extract 0 (t106 : Int).toNat) ++ (⟨#[49]⟩ : ByteArray)) ++ bt110.1).size + 1 ≤ 9223372036854775807 then (if ((((a0.extract 0 (t106 : Int).toNat) ++ (⟨#[49]⟩ : ByteArray)) ++ bt110.1) ++ (⟨#[49]⟩ : ByteArray)).size + bt110.2.size ≤ 9223372036854775807 then (if (((((a0.extract 0 (t106 : Int).toNat) ++ (⟨#[49]⟩ : ByteArray)) ++ bt110.1) ++ (⟨#[49]⟩ : ByteArray)) ++ bt110.2).size + t109.size ≤ 9223372036854775807 then (if 0 ≤ t107 then (if ((((((a0.extract 0 (t106 : Int).toNat) ++ (⟨#[49]⟩ : ByteArray)) ++ bt110.1) ++ (⟨#[49]⟩ : ByteArray)) ++ bt110.2) ++ t109).size + (a0.extract (t107 : Int).toNat a0.size).size ≤ 9223372036854775807 then (some (((((((a0.extract 0 (t106 : Int).toNat) ++ (⟨#[49]⟩ : ByteArray)) ++ bt110.1) ++ (⟨#[49]⟩ : ByteArray)) ++ bt110.2) ++ t109) ++ (a0.extract (t107 : Int).toNat a0.size), true)) else (none)) else (none)) else (none)) else (none)) else (none)) else (none)) else (none)) else (none)))) = some (r1, r2) := by rw [if_pos rfl] at H; exact H
          clear H
          have H := H1
          clear H1
          by_cases c11 : t108.toList = ([48] : List UInt8)
          · rw [if_pos c11] at H
            have c11b0 : (t108.toList == ([48] : List UInt8)) = true := beq_iff_eq.mpr c11
            have c11b1 : (t108.toList != ([48] : List UInt8)) = false := bne_eq_false_iff_eq.mpr c11
            clear c11
            simp only [Option.some.injEq, Prod.mk.injEq] at H
            obtain ⟨rfl, rfl⟩ := H
            go_enter Try.func35, Try.ntmps35
            go_wp2_with (first | (go_at_call 68; (with_reducible refine (spec_l03Place.calls k a0 a1 t106 _ A4.out).mono ?_); rintro e w' ⟨rfl, ⟨nd, rfl⟩⟩; (try first | exact ⟨rfl, _, World.drewN_drewN _ _ _⟩ | exact ⟨rfl, _, Eq.trans (World.drewN_drewN _ _ _) (congrArg (World.drewN _) (Nat.add_assoc _ _ _))⟩)) | (go_at_call 69; (with_reducible refine (spec_l03End.calls k a0 t106 t107 _ A5.out).mono ?_); rintro e w' ⟨rfl, ⟨nd, rfl⟩⟩; (try first | exact ⟨rfl, _, World.drewN_drewN _ _ _⟩ | exact ⟨rfl, _, Eq.trans (World.drewN_drewN _ _ _) (congrArg (World.drewN _) (Nat.add_assoc _ _ _))⟩)) | (go_at_call 70; (with_reducible refine (spec_l03Sides.calls k (a0.extract (t106 : Int).toNat (t107 : Int).toNat) t108 t109 _ A9.out).mono ?_); rintro e w' ⟨rfl, ⟨nd, rfl⟩⟩; (try first | exact ⟨rfl, _, World.drewN_drewN _ _ _⟩ | exact ⟨rfl, _, Eq.trans (World.drewN_drewN _ _ _) (congrArg (World.drewN _) (Nat.add_assoc _ _ _))⟩)))
            repeat (go_quiet (first | (go_at_call 68; (with_reducible refine (spec_l03Place.calls k a0 a1 t106 _ A4.out).mono ?_); rintro e w' ⟨rfl, ⟨nd, rfl⟩⟩; (try first | exact ⟨rfl, _, World.drewN_drewN _ _ _⟩ | exact ⟨rfl, _, Eq.trans (World.drewN_drewN _ _ _) (congrArg (World.drewN _) (Nat.add_assoc _ _ _))⟩)) | (go_at_call 69; (with_reducible refine (spec_l03End.calls k a0 t106 t107 _ A5.out).mono ?_); rintro e w' ⟨rfl, ⟨nd, rfl⟩⟩; (try first | exact ⟨rfl, _, World.drewN_drewN _ _ _⟩ | exact ⟨rfl, _, Eq.trans (World.drewN_drewN _ _ _) (congrArg (World.drewN _) (Nat.add_assoc _ _ _))⟩)) | (go_at_call 70; (with_reducible refine (spec_l03Sides.calls k (a0.extract (t106 : Int).toNat (t107 : Int).toNat) t108 t109 _ A9.out).mono ?_); rintro e w' ⟨rfl, ⟨nd, rfl⟩⟩; (try first | exact ⟨rfl, _, World.drewN_drewN _ _ _⟩ | exact ⟨rfl, _, Eq.trans (World.drewN_drewN _ _ _) (congrArg (World.drewN _) (Nat.add_assoc _ _ _))⟩))); try go_wp2_with (first | (go_at_call 68; (with_reducible refine (spec_l03Place.calls k a0 a1 t106 _ A4.out).mono ?_); rintro e w' ⟨rfl, ⟨nd, rfl⟩⟩; (try first | exact ⟨rfl, _, World.drewN_drewN _ _ _⟩ | exact ⟨rfl, _, Eq.trans (World.drewN_drewN _ _ _) (congrArg (World.drewN _) (Nat.add_assoc _ _ _))⟩)) | (go_at_call 69; (with_reducible refine (spec_l03End.calls k a0 t106 t107 _ A5.out).mono ?_); rintro e w' ⟨rfl, ⟨nd, rfl⟩⟩; (try first | exact ⟨rfl, _, World.drewN_drewN _ _ _⟩ | exact ⟨rfl, _, Eq.trans (World.drewN_drewN _ _ _) (congrArg (World.drewN _) (Nat.add_assoc _ _ _))⟩)) | (go_at_call 70; (with_reducible refine (spec_l03Sides.calls k (a0.extract (t106 : Int).toNat (t107 : Int).toNat) t108 t109 _ A9.out).mono ?_); rintro e w' ⟨rfl, ⟨nd, rfl⟩⟩; (try first | exact ⟨rfl, _, World.drewN_drewN _ _ _⟩ | exact ⟨rfl, _, Eq.trans (World.drewN_drewN _ _ _) (congrArg (World.drewN _) (Nat.add_assoc _ _ _))⟩))))
            go_ret2
            exact ⟨by first | rfl | (simp; done) | (simp [*]; done), by repeat (first | exact Drawn0.refl _ | apply Drawn0.step)⟩
          · rw [if_neg c11] at H
            have c11b0 : (t108.toList == ([48] : List UInt8)) = false := beq_eq_false_iff_ne.mpr c11
            have c11b1 : (t108.toList != ([48] : List UInt8)) = true := bne_iff_ne.mpr c11
            replace H := Option.bind_eq_some_iff.mp H
            obtain ⟨⟨t110, t111⟩, A120, H⟩ := H
            replace H : (if t106 ≤ (a0.size : Int) then (if (a0.extract 0 (t106 : Int).toNat).size + 1 ≤ 9223372036854775807 then (if ((a0.extract 0 (t106 : Int).toNat) ++ (⟨#[49]⟩ : ByteArray)).size + t110.size ≤ 9223372036854775807 then (if (((a0.extract 0 (t106 : Int).toNat) ++ (⟨#[49]⟩ : ByteArray)) ++ t110).size + 1 ≤ 9223372036854775807 then (if ((((a0.extract 0 (t106 : Int).toNat) ++ (⟨#[49]⟩ : ByteArray)) ++ t110) ++ (⟨#[49]⟩ : ByteArray)).size + t111.size ≤ 9223372036854775807 then (if (((((a0.extract 0 (t106 : Int).toNat) ++ (⟨#[49]⟩ : ByteArray)) ++ t110) ++ (⟨#[49]⟩ : ByteArray)) ++ t111).size + t109.size ≤ 9223372036854775807 then (if 0 ≤ t107 then (if ((((((a0.extract 0 (t106 : Int).toNat) ++ (⟨#[49]⟩ : ByteArray)) ++ t110) ++ (⟨#[49]⟩ : ByteArray)) ++ t111) ++ t109).size + (a0.extract (t107 : Int).toNat a0.size).size ≤ 9223372036854775807 then (some (((((((a0.extract 0 (t106 : Int).toNat) ++ (⟨#[49]⟩ : ByteArray)) ++ t110) ++ (⟨#[49]⟩ : ByteArray)) ++ t111) ++ t109) ++ (a0.extract (t107 : Int).toNat a0.size), true)) else (none)) else (none)) else (none)) else (none)) else (none)) else (none)) else (none)) else (none)) = some (r1, r2) := H
            have A12 := Aside0.mk A120
            clear A120
            have c13b0 := eq_true (of_decide_eq_true (by first | (with_reducible assumption) | assumption) : 0 ≤ t106)
            by_cases c14 : t106 ≤ (a0.size : Int)
            · rw [if_pos c14] at H
              have c14b0 := eq_true c14
              have c14b1 : decide (t106 ≤ (a0.size : Int)) = true := decide_eq_true c14
              clear c14
              by_cases c15 : (a0.extract 0 (t106 : Int).toNat).size + 1 ≤ 9223372036854775807
              · rw [if_pos c15] at H
                have c15b0 := eq_true c15
                have c15b1 : decide ((a0.extract 0 (t106 : Int).toNat).size + 1 ≤ 9223372036854775807) = true := decide_eq_true c15
                try have c15b2 : (9223372036854775807 < (a0.extract 0 (t106 : Int).toNat).size + 1) = False := eq_false (Nat.not_lt.2 c15)
                try have c15b3 : (9223372036854775807 < (t106 : Int).toNat + 1) = False := eq_false (by have z_ := c15; simp only [ByteArray.size_append, ByteArray.size_extract, decide_eq_true_eq, eq_iff_iff, iff_true] at *; simp at z_; omega)
                by_cases c16 : ((a0.extract 0 (t106 : Int).toNat) ++ (⟨#[49]⟩ : ByteArray)).size + t110.size ≤ 9223372036854775807
                · rw [if_pos c16] at H
                  have c16b0 := eq_true c16
                  have c16b1 : decide (((a0.extract 0 (t106 : Int).toNat) ++ (⟨#[49]⟩ : ByteArray)).size + t110.size ≤ 9223372036854775807) = true := decide_eq_true c16
                  try have c16b2 : (9223372036854775807 < ((a0.extract 0 (t106 : Int).toNat) ++ (⟨#[49]⟩ : ByteArray)).size + t110.size) = False := eq_false (Nat.not_lt.2 c16)
                  try have c16b3 : (9223372036854775807 < (t106 : Int).toNat + 1 + t110.size) = False := eq_false (by have z_ := c16; simp only [ByteArray.size_append, ByteArray.size_extract, decide_eq_true_eq, eq_iff_iff, iff_true, (show (⟨#[49]⟩ : ByteArray).size = 1 from rfl)] at *; simp at z_; omega)
                  by_cases c17 : (((a0.extract 0 (t106 : Int).toNat) ++ (⟨#[49]⟩ : ByteArray)) ++ t110).size + 1 ≤ 9223372036854775807
                  · rw [if_pos c17] at H
                    have c17b0 := eq_true c17
                    have c17b1 : decide ((((a0.extract 0 (t106 : Int).toNat) ++ (⟨#[49]⟩ : ByteArray)) ++ t110).size + 1 ≤ 9223372036854775807) = true := decide_eq_true c17
                    try have c17b2 : (9223372036854775807 < (((a0.extract 0 (t106 : Int).toNat) ++ (⟨#[49]⟩ : ByteArray)) ++ t110).size + 1) = False := eq_false (Nat.not_lt.2 c17)
                    try have c17b3 : (9223372036854775807 < (t106 : Int).toNat + 1 + t110.size + 1) = False := eq_false (by have z_ := c17; simp only [ByteArray.size_append, ByteArray.size_extract, decide_eq_true_eq, eq_iff_iff, iff_true, (show (⟨#[49]⟩ : ByteArray).size = 1 from rfl)] at *; simp at z_; omega)
                    by_cases c18 : ((((a0.extract 0 (t106 : Int).toNat) ++ (⟨#[49]⟩ : ByteArray)) ++ t110) ++ (⟨#[49]⟩ : ByteArray)).size + t111.size ≤ 9223372036854775807
                    · rw [if_pos c18] at H
                      have c18b0 := eq_true c18
                      have c18b1 : decide (((((a0.extract 0 (t106 : Int).toNat) ++ (⟨#[49]⟩ : ByteArray)) ++ t110) ++ (⟨#[49]⟩ : ByteArray)).size + t111.size ≤ 9223372036854775807) = true := decide_eq_true c18
                      try have c18b2 : (9223372036854775807 < ((((a0.extract 0 (t106 : Int).toNat) ++ (⟨#[49]⟩ : ByteArray)) ++ t110) ++ (⟨#[49]⟩ : ByteArray)).size + t111.size) = False := eq_false (Nat.not_lt.2 c18)
                      try have c18b3 : (9223372036854775807 < (t106 : Int).toNat + 1 + t110.size + 1 + t111.size) = False := eq_false (by have z_ := c18; simp only [ByteArray.size_append, ByteArray.size_extract, decide_eq_true_eq, eq_iff_iff, iff_true, (show (⟨#[49]⟩ : ByteArray).size = 1 from rfl)] at *; simp at z_; omega)
                      by_cases c19 : (((((a0.extract 0 (t106 : Int).toNat) ++ (⟨#[49]⟩ : ByteArray)) ++ t110) ++ (⟨#[49]⟩ : ByteArray)) ++ t111).size + t109.size ≤ 9223372036854775807
                      · rw [if_pos c19] at H
                        have c19b0 := eq_true c19
                        have c19b1 : decide ((((((a0.extract 0 (t106 : Int).toNat) ++ (⟨#[49]⟩ : ByteArray)) ++ t110) ++ (⟨#[49]⟩ : ByteArray)) ++ t111).size + t109.size ≤ 9223372036854775807) = true := decide_eq_true c19
                        try have c19b2 : (9223372036854775807 < (((((a0.extract 0 (t106 : Int).toNat) ++ (⟨#[49]⟩ : ByteArray)) ++ t110) ++ (⟨#[49]⟩ : ByteArray)) ++ t111).size + t109.size) = False := eq_false (Nat.not_lt.2 c19)
                        try have c19b3 : (9223372036854775807 < (t106 : Int).toNat + 1 + t110.size + 1 + t111.size + t109.size) = False := eq_false (by have z_ := c19; simp only [ByteArray.size_append, ByteArray.size_extract, decide_eq_true_eq, eq_iff_iff, iff_true, (show (⟨#[49]⟩ : ByteArray).size = 1 from rfl)] at *; simp at z_; omega)
                        by_cases c20 : 0 ≤ t107
                        · rw [if_pos c20] at H
                          have c20b0 := eq_true c20
                          have c20b1 : decide (0 ≤ t107) = true := decide_eq_true c20
                          clear c20
                          have c21b0 := eq_true (of_decide_eq_true (by first | (with_reducible assumption) | assumption) : t107 ≤ (a0.size : Int))
                          by_cases c22 : ((((((a0.extract 0 (t106 : Int).toNat) ++ (⟨#[49]⟩ : ByteArray)) ++ t110) ++ (⟨#[49]⟩ : ByteArray)) ++ t111) ++ t109).size + (a0.extract (t107 : Int).toNat a0.size).size ≤ 9223372036854775807
                          · rw [if_pos c22] at H
                            have c22b0 := eq_true c22
                            have c22b1 : decide (((((((a0.extract 0 (t106 : Int).toNat) ++ (⟨#[49]⟩ : ByteArray)) ++ t110) ++ (⟨#[49]⟩ : ByteArray)) ++ t111) ++ t109).size + (a0.extract (t107 : Int).toNat a0.size).size ≤ 9223372036854775807) = true := decide_eq_true c22
                            try have c22b2 : (9223372036854775807 < ((((((a0.extract 0 (t106 : Int).toNat) ++ (⟨#[49]⟩ : ByteArray)) ++ t110) ++ (⟨#[49]⟩ : ByteArray)) ++ t111) ++ t109).size + (a0.extract (t107 : Int).toNat a0.size).size) = False := eq_false (Nat.not_lt.2 c22)
                            try have c22b3 : (9223372036854775807 < (t106 : Int).toNat + 1 + t110.size + 1 + t111.size + t109.size + (a0.size - ((t107 : Int).toNat))) = False := eq_false (by have z_ := c22; simp only [ByteArray.size_append, ByteArray.size_extract, decide_eq_true_eq, eq_iff_iff, iff_true, (show (⟨#[49]⟩ : ByteArray).size = 1 from rfl)] at *; simp at z_; omega)
                            simp only [Option.some.injEq, Prod.mk.injEq] at H
                            obtain ⟨rfl, rfl⟩ := H
                            go_enter Try.func35, Try.ntmps35
                            go_wp2_with (first | (go_at_call 68; (with_reducible refine (spec_l03Place.calls k a0 a1 t106 _ A4.out).mono ?_); rintro e w' ⟨rfl, ⟨nd, rfl⟩⟩; (try first | exact ⟨rfl, _, World.drewN_drewN _ _ _⟩ | exact ⟨rfl, _, Eq.trans (World.drewN_drewN _ _ _) (congrArg (World.drewN _) (Nat.add_assoc _ _ _))⟩)) | (go_at_call 69; (with_reducible refine (spec_l03End.calls k a0 t106 t107 _ A5.out).mono ?_); rintro e w' ⟨rfl, ⟨nd, rfl⟩⟩; (try first | exact ⟨rfl, _, World.drewN_drewN _ _ _⟩ | exact ⟨rfl, _, Eq.trans (World.drewN_drewN _ _ _) (congrArg (World.drewN _) (Nat.add_assoc _ _ _))⟩)) | (go_at_call 70; (with_reducible refine (spec_l03Sides.calls k (a0.extract (t106 : Int).toNat (t107 : Int).toNat) t108 t109 _ A9.out).mono ?_); rintro e w' ⟨rfl, ⟨nd, rfl⟩⟩; (try first | exact ⟨rfl, _, World.drewN_drewN _ _ _⟩ | exact ⟨rfl, _, Eq.trans (World.drewN_drewN _ _ _) (congrArg (World.drewN _) (Nat.add_assoc _ _ _))⟩)) | (go_at_call 70; (with_reducible refine (spec_l03Sides.calls k t108 t110 t111 _ A12.out).mono ?_); rintro e w' ⟨rfl, ⟨nd, rfl⟩⟩; (try first | exact ⟨rfl, _, World.drewN_drewN _ _ _⟩ | exact ⟨rfl, _, Eq.trans (World.drewN_drewN _ _ _) (congrArg (World.drewN _) (Nat.add_assoc _ _ _))⟩)))
                            repeat (go_quiet (first | (go_at_call 68; (with_reducible refine (spec_l03Place.calls k a0 a1 t106 _ A4.out).mono ?_); rintro e w' ⟨rfl, ⟨nd, rfl⟩⟩; (try first | exact ⟨rfl, _, World.drewN_drewN _ _ _⟩ | exact ⟨rfl, _, Eq.trans (World.drewN_drewN _ _ _) (congrArg (World.drewN _) (Nat.add_assoc _ _ _))⟩)) | (go_at_call 69; (with_reducible refine (spec_l03End.calls k a0 t106 t107 _ A5.out).mono ?_); rintro e w' ⟨rfl, ⟨nd, rfl⟩⟩; (try first | exact ⟨rfl, _, World.drewN_drewN _ _ _⟩ | exact ⟨rfl, _, Eq.trans (World.drewN_drewN _ _ _) (congrArg (World.drewN _) (Nat.add_assoc _ _ _))⟩)) | (go_at_call 70; (with_reducible refine (spec_l03Sides.calls k (a0.extract (t106 : Int).toNat (t107 : Int).toNat) t108 t109 _ A9.out).mono ?_); rintro e w' ⟨rfl, ⟨nd, rfl⟩⟩; (try first | exact ⟨rfl, _, World.drewN_drewN _ _ _⟩ | exact ⟨rfl, _, Eq.trans (World.drewN_drewN _ _ _) (congrArg (World.drewN _) (Nat.add_assoc _ _ _))⟩)) | (go_at_call 70; (with_reducible refine (spec_l03Sides.calls k t108 t110 t111 _ A12.out).mono ?_); rintro e w' ⟨rfl, ⟨nd, rfl⟩⟩; (try first | exact ⟨rfl, _, World.drewN_drewN _ _ _⟩ | exact ⟨rfl, _, Eq.trans (World.drewN_drewN _ _ _) (congrArg (World.drewN _) (Nat.add_assoc _ _ _))⟩))); try go_wp2_with (first | (go_at_call 68; (with_reducible refine (spec_l03Place.calls k a0 a1 t106 _ A4.out).mono ?_); rintro e w' ⟨rfl, ⟨nd, rfl⟩⟩; (try first | exact ⟨rfl, _, World.drewN_drewN _ _ _⟩ | exact ⟨rfl, _, Eq.trans (World.drewN_drewN _ _ _) (congrArg (World.drewN _) (Nat.add_assoc _ _ _))⟩)) | (go_at_call 69; (with_reducible refine (spec_l03End.calls k a0 t106 t107 _ A5.out).mono ?_); rintro e w' ⟨rfl, ⟨nd, rfl⟩⟩; (try first | exact ⟨rfl, _, World.drewN_drewN _ _ _⟩ | exact ⟨rfl, _, Eq.trans (World.drewN_drewN _ _ _) (congrArg (World.drewN _) (Nat.add_assoc _ _ _))⟩)) | (go_at_call 70; (with_reducible refine (spec_l03Sides.calls k (a0.extract (t106 : Int).toNat (t107 : Int).toNat) t108 t109 _ A9.out).mono ?_); rintro e w' ⟨rfl, ⟨nd, rfl⟩⟩; (try first | exact ⟨rfl, _, World.drewN_drewN _ _ _⟩ | exact ⟨rfl, _, Eq.trans (World.drewN_drewN _ _ _) (congrArg (World.drewN _) (Nat.add_assoc _ _ _))⟩)) | (go_at_call 70; (with_reducible refine (spec_l03Sides.calls k t108 t110 t111 _ A12.out).mono ?_); rintro e w' ⟨rfl, ⟨nd, rfl⟩⟩; (try first | exact ⟨rfl, _, World.drewN_drewN _ _ _⟩ | exact ⟨rfl, _, Eq.trans (World.drewN_drewN _ _ _) (congrArg (World.drewN _) (Nat.add_assoc _ _ _))⟩))))
                            go_ret2
                            exact ⟨by first | rfl | (simp; done) | (simp [*]; done), by repeat (first | exact Drawn0.refl _ | apply Drawn0.step)⟩
                          · rw [if_neg c22] at H
                            exact absurd H (by simp)
                        · rw [if_neg c20] at H
                          exact absurd H (by simp)
                      · rw [if_neg c19] at H
                        exact absurd H (by simp)
                    · rw [if_neg c18] at H
                      exact absurd H (by simp)
                  · rw [if_neg c17] at H
                    exact absurd H (by simp)
                · rw [if_neg c16] at H
                  exact absurd H (by simp)
              · rw [if_neg c15] at H
                exact absurd H (by simp)
            · rw [if_neg c14] at H
              exact absurd H (by simp)
        · replace c10 := Bool.eq_false_iff.mpr c10
          subst c10
          have H1 : (if t109.toList = ([48] : List UInt8) then (some ((⟨#[]⟩ : ByteArray), false)) else ((spec_l03Sides.f k t109).bind fun bt112 => (if t106 ≤ (a0.size : Int) then (if (a0.extract 0 (t106 : Int).toNat).size + 2 ≤ 9223372036854775807 then (if ((a0.extract 0 (t106 : Int).toNat) ++ (⟨#[49, 49]⟩ : ByteArray)).size + t108.size ≤ 9223372036854775807 then (if (((a0.extract 0 (t106 : Int).toNat) ++ (⟨#[49, 49]⟩ : ByteArray)) ++ t108).size + bt112.1.size ≤ 9223372036854775807 then (if ((((a0.extract 0 (t106 : Int).toNat) ++ (⟨#[49, 49]⟩ : ByteArray)) ++ t108) ++ bt112.1).size + bt112.2.size ≤ 9223372036854775807 then (if 0 ≤ t107 then (if (((((a0.extract 0 (t106 : Int).toNat) ++ (⟨#[49, 49]⟩ : ByteArray)) ++ t108) ++ bt112.1) ++ bt112.2).size + (a0.extract (t107 : Int).toNat a0.size).size ≤ 9223372036854775807 then (some ((((((a0.extract 0 (t106 : Int).toNat) ++ (⟨#[49, 49]⟩ : ByteArray)) ++ t108) ++ bt112.1) ++ bt112.2) ++ (a0.extract (t107 : Int).toNat a0.size), true)) else (none)) else (none)) else (none)) else (none)) else (none)) else (none)) else (none)))) = some (r1, r2) := by rw [if_neg (show ¬ (false = true) by decide)] at H; exact H
          clear H
          have H := H1
          clear H1
          by_cases c23 : t109.toList = ([48] : List UInt8)
          · rw [if_pos c23] at H
            have c23b0 : (t109.toList == ([48] : List UInt8)) = true := beq_iff_eq.mpr c23
            have c23b1 : (t109.toList != ([48] : List UInt8)) = false := bne_eq_false_iff_eq.mpr c23
            clear c23
            simp only [Option.some.injEq, Prod.mk.injEq] at H
            obtain ⟨rfl, rfl⟩ := H
            go_enter Try.func35, Try.ntmps35
            go_wp2_with (first | (go_at_call 68; (with_reducible refine (spec_l03Place.calls k a0 a1 t106 _ A4.out).mono ?_); rintro e w' ⟨rfl, ⟨nd, rfl⟩⟩; (try first | exact ⟨rfl, _, World.drewN_drewN _ _ _⟩ | exact ⟨rfl, _, Eq.trans (World.drewN_drewN _ _ _) (congrArg (World.drewN _) (Nat.add_assoc _ _ _))⟩)) | (go_at_call 69; (with_reducible refine (spec_l03End.calls k a0 t106 t107 _ A5.out).mono ?_); rintro e w' ⟨rfl, ⟨nd, rfl⟩⟩; (try first | exact ⟨rfl, _, World.drewN_drewN _ _ _⟩ | exact ⟨rfl, _, Eq.trans (World.drewN_drewN _ _ _) (congrArg (World.drewN _) (Nat.add_assoc _ _ _))⟩)) | (go_at_call 70; (with_reducible refine (spec_l03Sides.calls k (a0.extract (t106 : Int).toNat (t107 : Int).toNat) t108 t109 _ A9.out).mono ?_); rintro e w' ⟨rfl, ⟨nd, rfl⟩⟩; (try first | exact ⟨rfl, _, World.drewN_drewN _ _ _⟩ | exact ⟨rfl, _, Eq.trans (World.drewN_drewN _ _ _) (congrArg (World.drewN _) (Nat.add_assoc _ _ _))⟩)))
            repeat (go_quiet (first | (go_at_call 68; (with_reducible refine (spec_l03Place.calls k a0 a1 t106 _ A4.out).mono ?_); rintro e w' ⟨rfl, ⟨nd, rfl⟩⟩; (try first | exact ⟨rfl, _, World.drewN_drewN _ _ _⟩ | exact ⟨rfl, _, Eq.trans (World.drewN_drewN _ _ _) (congrArg (World.drewN _) (Nat.add_assoc _ _ _))⟩)) | (go_at_call 69; (with_reducible refine (spec_l03End.calls k a0 t106 t107 _ A5.out).mono ?_); rintro e w' ⟨rfl, ⟨nd, rfl⟩⟩; (try first | exact ⟨rfl, _, World.drewN_drewN _ _ _⟩ | exact ⟨rfl, _, Eq.trans (World.drewN_drewN _ _ _) (congrArg (World.drewN _) (Nat.add_assoc _ _ _))⟩)) | (go_at_call 70; (with_reducible refine (spec_l03Sides.calls k (a0.extract (t106 : Int).toNat (t107 : Int).toNat) t108 t109 _ A9.out).mono ?_); rintro e w' ⟨rfl, ⟨nd, rfl⟩⟩; (try first | exact ⟨rfl, _, World.drewN_drewN _ _ _⟩ | exact ⟨rfl, _, Eq.trans (World.drewN_drewN _ _ _) (congrArg (World.drewN _) (Nat.add_assoc _ _ _))⟩))); try go_wp2_with (first | (go_at_call 68; (with_reducible refine (spec_l03Place.calls k a0 a1 t106 _ A4.out).mono ?_); rintro e w' ⟨rfl, ⟨nd, rfl⟩⟩; (try first | exact ⟨rfl, _, World.drewN_drewN _ _ _⟩ | exact ⟨rfl, _, Eq.trans (World.drewN_drewN _ _ _) (congrArg (World.drewN _) (Nat.add_assoc _ _ _))⟩)) | (go_at_call 69; (with_reducible refine (spec_l03End.calls k a0 t106 t107 _ A5.out).mono ?_); rintro e w' ⟨rfl, ⟨nd, rfl⟩⟩; (try first | exact ⟨rfl, _, World.drewN_drewN _ _ _⟩ | exact ⟨rfl, _, Eq.trans (World.drewN_drewN _ _ _) (congrArg (World.drewN _) (Nat.add_assoc _ _ _))⟩)) | (go_at_call 70; (with_reducible refine (spec_l03Sides.calls k (a0.extract (t106 : Int).toNat (t107 : Int).toNat) t108 t109 _ A9.out).mono ?_); rintro e w' ⟨rfl, ⟨nd, rfl⟩⟩; (try first | exact ⟨rfl, _, World.drewN_drewN _ _ _⟩ | exact ⟨rfl, _, Eq.trans (World.drewN_drewN _ _ _) (congrArg (World.drewN _) (Nat.add_assoc _ _ _))⟩))))
            go_ret2
            exact ⟨by first | rfl | (simp; done) | (simp [*]; done), by repeat (first | exact Drawn0.refl _ | apply Drawn0.step)⟩
          · rw [if_neg c23] at H
            have c23b0 : (t109.toList == ([48] : List UInt8)) = false := beq_eq_false_iff_ne.mpr c23
            have c23b1 : (t109.toList != ([48] : List UInt8)) = true := bne_iff_ne.mpr c23
            replace H := Option.bind_eq_some_iff.mp H
            obtain ⟨⟨t112, t113⟩, A240, H⟩ := H
            replace H : (if t106 ≤ (a0.size : Int) then (if (a0.extract 0 (t106 : Int).toNat).size + 2 ≤ 9223372036854775807 then (if ((a0.extract 0 (t106 : Int).toNat) ++ (⟨#[49, 49]⟩ : ByteArray)).size + t108.size ≤ 9223372036854775807 then (if (((a0.extract 0 (t106 : Int).toNat) ++ (⟨#[49, 49]⟩ : ByteArray)) ++ t108).size + t112.size ≤ 9223372036854775807 then (if ((((a0.extract 0 (t106 : Int).toNat) ++ (⟨#[49, 49]⟩ : ByteArray)) ++ t108) ++ t112).size + t113.size ≤ 9223372036854775807 then (if 0 ≤ t107 then (if (((((a0.extract 0 (t106 : Int).toNat) ++ (⟨#[49, 49]⟩ : ByteArray)) ++ t108) ++ t112) ++ t113).size + (a0.extract (t107 : Int).toNat a0.size).size ≤ 9223372036854775807 then (some ((((((a0.extract 0 (t106 : Int).toNat) ++ (⟨#[49, 49]⟩ : ByteArray)) ++ t108) ++ t112) ++ t113) ++ (a0.extract (t107 : Int).toNat a0.size), true)) else (none)) else (none)) else (none)) else (none)) else (none)) else (none)) else (none)) = some (r1, r2) := H
            have A24 := Aside0.mk A240
            clear A240
            have c25b0 := eq_true (of_decide_eq_true (by first | (with_reducible assumption) | assumption) : 0 ≤ t106)
            by_cases c26 : t106 ≤ (a0.size : Int)
            · rw [if_pos c26] at H
              have c26b0 := eq_true c26
              have c26b1 : decide (t106 ≤ (a0.size : Int)) = true := decide_eq_true c26
              clear c26
              by_cases c27 : (a0.extract 0 (t106 : Int).toNat).size + 2 ≤ 9223372036854775807
              · rw [if_pos c27] at H
                have c27b0 := eq_true c27
                have c27b1 : decide ((a0.extract 0 (t106 : Int).toNat).size + 2 ≤ 9223372036854775807) = true := decide_eq_true c27
                try have c27b2 : (9223372036854775807 < (a0.extract 0 (t106 : Int).toNat).size + 2) = False := eq_false (Nat.not_lt.2 c27)
                try have c27b3 : (9223372036854775807 < (t106 : Int).toNat + 2) = False := eq_false (by have z_ := c27; simp only [ByteArray.size_append, ByteArray.size_extract, decide_eq_true_eq, eq_iff_iff, iff_true] at *; simp at z_; omega)
                by_cases c28 : ((a0.extract 0 (t106 : Int).toNat) ++ (⟨#[49, 49]⟩ : ByteArray)).size + t108.size ≤ 9223372036854775807
                · rw [if_pos c28] at H
                  have c28b0 := eq_true c28
                  have c28b1 : decide (((a0.extract 0 (t106 : Int).toNat) ++ (⟨#[49, 49]⟩ : ByteArray)).size + t108.size ≤ 9223372036854775807) = true := decide_eq_true c28
                  try have c28b2 : (9223372036854775807 < ((a0.extract 0 (t106 : Int).toNat) ++ (⟨#[49, 49]⟩ : ByteArray)).size + t108.size) = False := eq_false (Nat.not_lt.2 c28)
                  try have c28b3 : (9223372036854775807 < (t106 : Int).toNat + 2 + t108.size) = False := eq_false (by have z_ := c28; simp only [ByteArray.size_append, ByteArray.size_extract, decide_eq_true_eq, eq_iff_iff, iff_true, (show (⟨#[49, 49]⟩ : ByteArray).size = 2 from rfl)] at *; simp at z_; omega)
                  by_cases c29 : (((a0.extract 0 (t106 : Int).toNat) ++ (⟨#[49, 49]⟩ : ByteArray)) ++ t108).size + t112.size ≤ 9223372036854775807
                  · rw [if_pos c29] at H
                    have c29b0 := eq_true c29
                    have c29b1 : decide ((((a0.extract 0 (t106 : Int).toNat) ++ (⟨#[49, 49]⟩ : ByteArray)) ++ t108).size + t112.size ≤ 9223372036854775807) = true := decide_eq_true c29
                    try have c29b2 : (9223372036854775807 < (((a0.extract 0 (t106 : Int).toNat) ++ (⟨#[49, 49]⟩ : ByteArray)) ++ t108).size + t112.size) = False := eq_false (Nat.not_lt.2 c29)
                    try have c29b3 : (9223372036854775807 < (t106 : Int).toNat + 2 + t108.size + t112.size) = False := eq_false (by have z_ := c29; simp only [ByteArray.size_append, ByteArray.size_extract, decide_eq_true_eq, eq_iff_iff, iff_true, (show (⟨#[49, 49]⟩ : ByteArray).size = 2 from rfl)] at *; simp at z_; omega)
                    by_cases c30 : ((((a0.extract 0 (t106 : Int).toNat) ++ (⟨#[49, 49]⟩ : ByteArray)) ++ t108) ++ t112).size + t113.size ≤ 9223372036854775807
                    · rw [if_pos c30] at H
                      have c30b0 := eq_true c30
                      have c30b1 : decide (((((a0.extract 0 (t106 : Int).toNat) ++ (⟨#[49, 49]⟩ : ByteArray)) ++ t108) ++ t112).size + t113.size ≤ 9223372036854775807) = true := decide_eq_true c30
                      try have c30b2 : (9223372036854775807 < ((((a0.extract 0 (t106 : Int).toNat) ++ (⟨#[49, 49]⟩ : ByteArray)) ++ t108) ++ t112).size + t113.size) = False := eq_false (Nat.not_lt.2 c30)
                      try have c30b3 : (9223372036854775807 < (t106 : Int).toNat + 2 + t108.size + t112.size + t113.size) = False := eq_false (by have z_ := c30; simp only [ByteArray.size_append, ByteArray.size_extract, decide_eq_true_eq, eq_iff_iff, iff_true, (show (⟨#[49, 49]⟩ : ByteArray).size = 2 from rfl)] at *; simp at z_; omega)
                      by_cases c31 : 0 ≤ t107
                      · rw [if_pos c31] at H
                        have c31b0 := eq_true c31
                        have c31b1 : decide (0 ≤ t107) = true := decide_eq_true c31
                        clear c31
                        have c32b0 := eq_true (of_decide_eq_true (by first | (with_reducible assumption) | assumption) : t107 ≤ (a0.size : Int))
                        by_cases c33 : (((((a0.extract 0 (t106 : Int).toNat) ++ (⟨#[49, 49]⟩ : ByteArray)) ++ t108) ++ t112) ++ t113).size + (a0.extract (t107 : Int).toNat a0.size).size ≤ 9223372036854775807
                        · rw [if_pos c33] at H
                          have c33b0 := eq_true c33
                          have c33b1 : decide ((((((a0.extract 0 (t106 : Int).toNat) ++ (⟨#[49, 49]⟩ : ByteArray)) ++ t108) ++ t112) ++ t113).size + (a0.extract (t107 : Int).toNat a0.size).size ≤ 9223372036854775807) = true := decide_eq_true c33
                          try have c33b2 : (9223372036854775807 < (((((a0.extract 0 (t106 : Int).toNat) ++ (⟨#[49, 49]⟩ : ByteArray)) ++ t108) ++ t112) ++ t113).size + (a0.extract (t107 : Int).toNat a0.size).size) = False := eq_false (Nat.not_lt.2 c33)
                          try have c33b3 : (9223372036854775807 < (t106 : Int).toNat + 2 + t108.size + t112.size + t113.size + (a0.size - ((t107 : Int).toNat))) = False := eq_false (by have z_ := c33; simp only [ByteArray.size_append, ByteArray.size_extract, decide_eq_true_eq, eq_iff_iff, iff_true, (show (⟨#[49, 49]⟩ : ByteArray).size = 2 from rfl)] at *; simp at z_; omega)
                          simp only [Option.some.injEq, Prod.mk.injEq] at H
                          obtain ⟨rfl, rfl⟩ := H
                          go_enter Try.func35, Try.ntmps35
                          go_wp2_with (first | (go_at_call 68; (with_reducible refine (spec_l03Place.calls k a0 a1 t106 _ A4.out).mono ?_); rintro e w' ⟨rfl, ⟨nd, rfl⟩⟩; (try first | exact ⟨rfl, _, World.drewN_drewN _ _ _⟩ | exact ⟨rfl, _, Eq.trans (World.drewN_drewN _ _ _) (congrArg (World.drewN _) (Nat.add_assoc _ _ _))⟩)) | (go_at_call 69; (with_reducible refine (spec_l03End.calls k a0 t106 t107 _ A5.out).mono ?_); rintro e w' ⟨rfl, ⟨nd, rfl⟩⟩; (try first | exact ⟨rfl, _, World.drewN_drewN _ _ _⟩ | exact ⟨rfl, _, Eq.trans (World.drewN_drewN _ _ _) (congrArg (World.drewN _) (Nat.add_assoc _ _ _))⟩)) | (go_at_call 70; (with_reducible refine (spec_l03Sides.calls k (a0.extract (t106 : Int).toNat (t107 : Int).toNat) t108 t109 _ A9.out).mono ?_); rintro e w' ⟨rfl, ⟨nd, rfl⟩⟩; (try first | exact ⟨rfl, _, World.drewN_drewN _ _ _⟩ | exact ⟨rfl, _, Eq.trans (World.drewN_drewN _ _ _) (congrArg (World.drewN _) (Nat.add_assoc _ _ _))⟩)) | (go_at_call 70; (with_reducible refine (spec_l03Sides.calls k t109 t112 t113 _ A24.out).mono ?_); rintro e w' ⟨rfl, ⟨nd, rfl⟩⟩; (try first | exact ⟨rfl, _, World.drewN_drewN _ _ _⟩ | exact ⟨rfl, _, Eq.trans (World.drewN_drewN _ _ _) (congrArg (World.drewN _) (Nat.add_assoc _ _ _))⟩)))
                          repeat (go_quiet (first | (go_at_call 68; (with_reducible refine (spec_l03Place.calls k a0 a1 t106 _ A4.out).mono ?_); rintro e w' ⟨rfl, ⟨nd, rfl⟩⟩; (try first | exact ⟨rfl, _, World.drewN_drewN _ _ _⟩ | exact ⟨rfl, _, Eq.trans (World.drewN_drewN _ _ _) (congrArg (World.drewN _) (Nat.add_assoc _ _ _))⟩)) | (go_at_call 69; (with_reducible refine (spec_l03End.calls k a0 t106 t107 _ A5.out).mono ?_); rintro e w' ⟨rfl, ⟨nd, rfl⟩⟩; (try first | exact ⟨rfl, _, World.drewN_drewN _ _ _⟩ | exact ⟨rfl, _, Eq.trans (World.drewN_drewN _ _ _) (congrArg (World.drewN _) (Nat.add_assoc _ _ _))⟩)) | (go_at_call 70; (with_reducible refine (spec_l03Sides.calls k (a0.extract (t106 : Int).toNat (t107 : Int).toNat) t108 t109 _ A9.out).mono ?_); rintro e w' ⟨rfl, ⟨nd, rfl⟩⟩; (try first | exact ⟨rfl, _, World.drewN_drewN _ _ _⟩ | exact ⟨rfl, _, Eq.trans (World.drewN_drewN _ _ _) (congrArg (World.drewN _) (Nat.add_assoc _ _ _))⟩)) | (go_at_call 70; (with_reducible refine (spec_l03Sides.calls k t109 t112 t113 _ A24.out).mono ?_); rintro e w' ⟨rfl, ⟨nd, rfl⟩⟩; (try first | exact ⟨rfl, _, World.drewN_drewN _ _ _⟩ | exact ⟨rfl, _, Eq.trans (World.drewN_drewN _ _ _) (congrArg (World.drewN _) (Nat.add_assoc _ _ _))⟩))); try go_wp2_with (first | (go_at_call 68; (with_reducible refine (spec_l03Place.calls k a0 a1 t106 _ A4.out).mono ?_); rintro e w' ⟨rfl, ⟨nd, rfl⟩⟩; (try first | exact ⟨rfl, _, World.drewN_drewN _ _ _⟩ | exact ⟨rfl, _, Eq.trans (World.drewN_drewN _ _ _) (congrArg (World.drewN _) (Nat.add_assoc _ _ _))⟩)) | (go_at_call 69; (with_reducible refine (spec_l03End.calls k a0 t106 t107 _ A5.out).mono ?_); rintro e w' ⟨rfl, ⟨nd, rfl⟩⟩; (try first | exact ⟨rfl, _, World.drewN_drewN _ _ _⟩ | exact ⟨rfl, _, Eq.trans (World.drewN_drewN _ _ _) (congrArg (World.drewN _) (Nat.add_assoc _ _ _))⟩)) | (go_at_call 70; (with_reducible refine (spec_l03Sides.calls k (a0.extract (t106 : Int).toNat (t107 : Int).toNat) t108 t109 _ A9.out).mono ?_); rintro e w' ⟨rfl, ⟨nd, rfl⟩⟩; (try first | exact ⟨rfl, _, World.drewN_drewN _ _ _⟩ | exact ⟨rfl, _, Eq.trans (World.drewN_drewN _ _ _) (congrArg (World.drewN _) (Nat.add_assoc _ _ _))⟩)) | (go_at_call 70; (with_reducible refine (spec_l03Sides.calls k t109 t112 t113 _ A24.out).mono ?_); rintro e w' ⟨rfl, ⟨nd, rfl⟩⟩; (try first | exact ⟨rfl, _, World.drewN_drewN _ _ _⟩ | exact ⟨rfl, _, Eq.trans (World.drewN_drewN _ _ _) (congrArg (World.drewN _) (Nat.add_assoc _ _ _))⟩))))
                          go_ret2
                          exact ⟨by first | rfl | (simp; done) | (simp [*]; done), by repeat (first | exact Drawn0.refl _ | apply Drawn0.step)⟩
                        · rw [if_neg c33] at H
                          exact absurd H (by simp)
                      · rw [if_neg c31] at H
                        exact absurd H (by simp)
                    · rw [if_neg c30] at H
                      exact absurd H (by simp)
                  · rw [if_neg c29] at H
                    exact absurd H (by simp)
                · rw [if_neg c28] at H
                  exact absurd H (by simp)
              · rw [if_neg c27] at H
                exact absurd H (by simp)
            · rw [if_neg c26] at H
              exact absurd H (by simp)
      · rw [if_neg c8] at H
        exact absurd H (by simp)
    · rw [if_neg c7] at H
      exact absurd H (by simp)
  · rw [if_neg c6] at H
    exact absurd H (by simp)

/-! ### impl_partAt: function 91 -/
def impl_partAt.l0 : Nat → ByteArray → Int → Int → Int → Option (ByteArray × ByteArray × ByteArray)
  | 0, _, _, _, _ => none
  | k + 1, x0, x1, x7, x8 => if 0 ≤ x7 then (if x7 < (x0.size : Int) then (if (bt x0 x7) = 49 then (if (wrap64 (x8 + 1)) = x1 then (if x7 ≤ (x0.size : Int) then ((impl_endBinary.f k (x0.extract (x7 : Int).toNat x0.size)).bind fun bt121 => (if x7 ≤ (wrap64 ((x0.size : Int) - (bt121.1.size : Int))) then (if (wrap64 ((x0.size : Int) - (bt121.1.size : Int))) ≤ (x0.size : Int) then (some (x0.extract 0 (x7 : Int).toNat, x0.extract (x7 : Int).toNat ((wrap64 ((x0.size : Int) - (bt121.1.size : Int))) : Int).toNat, bt121.1)) else (none)) else (none))) else (none)) else (impl_partAt.l0 k x0 x1 (wrap64 (x7 + 1)) (wrap64 (x8 + 1)))) else (if x8 = x1 then (if x7 ≤ (x0.size : Int) then ((impl_endBinary.f k (x0.extract (x7 : Int).toNat x0.size)).bind fun bt123 => (if x7 ≤ (wrap64 ((x0.size : Int) - (bt123.1.size : Int))) then (if (wrap64 ((x0.size : Int) - (bt123.1.size : Int))) ≤ (x0.size : Int) then (some (x0.extract 0 (x7 : Int).toNat, x0.extract (x7 : Int).toNat ((wrap64 ((x0.size : Int) - (bt123.1.size : Int))) : Int).toNat, bt123.1)) else (none)) else (none))) else (none)) else (impl_partAt.l0 k x0 x1 (wrap64 (x7 + 1)) x8))) else (none)) else (none)
def impl_partAt.f (k : Nat) (a0 : ByteArray) (a1 : Int) : Option (ByteArray × ByteArray × ByteArray) := impl_partAt.l0 k a0 a1 0 (-1)
theorem impl_partAt.mono_l : ∀ k, (∀ y0 y1 y2 y3, LeO (impl_partAt.l0 k y0 y1 y2 y3) (impl_partAt.l0 (k + 1) y0 y1 y2 y3))
  | 0 => fun _ _ _ _ r h => by simp [impl_partAt.l0] at h
  | k + 1 => by
    have ih0 := impl_partAt.mono_l k
    · intro y0 y1 y2 y3
      unfold impl_partAt.l0
      repeat' first
      | (with_reducible exact ih0 _ _ _ _)
      | (with_reducible exact impl_endBinary.mono _ _)
      | (with_reducible exact LeO.refl _)
      | (with_reducible exact LeO.none _)
      | (with_reducible refine LeO.ite ?_ ?_)
      | (with_reducible refine LeO.bind ?_ (fun _ => ?_))
      | exact ih0 _ _ _ _
      | exact impl_endBinary.mono _ _
      | exact LeO.none _
      | refine LeO.ite ?_ ?_
      | refine LeO.bind ?_ (fun _ => ?_)
theorem impl_partAt.mono : ∀ a0 a1 k, LeO (impl_partAt.f k a0 a1) (impl_partAt.f (k + 1) a0 a1) := by
  intro a0 a1 k
  have ih0 := impl_partAt.mono_l k
  unfold impl_partAt.f
  repeat' first
      | (with_reducible exact ih0 _ _ _ _)
      | (with_reducible exact impl_endBinary.mono _ _)
      | (with_reducible exact LeO.refl _)
      | (with_reducible exact LeO.none _)
      | (with_reducible refine LeO.ite ?_ ?_)
      | (with_reducible refine LeO.bind ?_ (fun _ => ?_))
      | exact ih0 _ _ _ _
      | exact impl_endBinary.mono _ _
      | exact LeO.none _
      | refine LeO.ite ?_ ?_
      | refine LeO.bind ?_ (fun _ => ?_)
set_option maxHeartbeats 8000000 in
set_option maxRecDepth 100000 in
theorem impl_partAt.calls (k : Nat) (a0 : ByteArray) (a1 : Int) (r1 : ByteArray) (r2 : ByteArray) (r3 : ByteArray) (w : World) (h : impl_partAt.f k a0 a1 = some (r1, r2, r3)) :
    Calls Try.prog 91 #[.string a0, .int .i64 a1] w fun e w' => e = .returned (.tuple #[.string r1, .string r2, .string r3]) ∧ Drawn0 w w' := by
  have H : (impl_partAt.l0 k a0 a1 0 (-1)) = some (r1, r2, r3) := h
  clear h
  have H' := Aside0.mk H
  clear H
  go_enter Try.func91, Try.ntmps91
  go_wp2
  repeat (go_quiet (fail); try go_wp2)
  go_loopg [7, 8] k (fun kq v7 v8 w' => ∃ (x7_1 : Int) (x8_1 : Int), v7 = .int .i64 x7_1 ∧ v8 = .int .i64 x8_1 ∧ Aside0 (impl_partAt.l0 kq a0 a1 x7_1 x8_1 = some (r1, r2, r3)) ∧ Aside0 (kq ≤ k) ∧ Drawn0 w w')
  case atStart => exact ⟨(0), ((-1)), (by first | rfl | (simp; done) | (simp [*]; done)), (by first | rfl | (simp; done) | (simp [*]; done)), H', ⟨Nat.le_refl _⟩, by repeat (first | exact Drawn0.refl _ | apply Drawn0.step)⟩
  case round =>
    clear H'
    try clear p2
    obtain ⟨x7_1, x8_1, rfl, rfl, HA, HK1, ⟨m1, rfl⟩⟩ := hrel
    cases gk with
    | zero => exact absurd HA.out (by simp [impl_partAt.l0])
    | succ k1 =>
      have H := HA.out
      clear HA
      simp only [impl_partAt.l0] at H
      by_cases c3 : 0 ≤ x7_1
      · rw [if_pos c3] at H
        have c3b0 : decide (0 ≤ x7_1) = true := decide_eq_true c3
        clear c3
        by_cases c4 : x7_1 < (a0.size : Int)
        · rw [if_pos c4] at H
          have c4b0 : decide (x7_1 < (a0.size : Int)) = true := decide_eq_true c4
          clear c4
          by_cases c6 : (bt a0 x7_1) = 49
          · rw [if_pos c6] at H
            have c6b0 : ((bt a0 x7_1) == 49) = true := beq_iff_eq.mpr c6
            have c6b1 : ((bt a0 x7_1) != 49) = false := bne_eq_false_iff_eq.mpr c6
            clear c6
            by_cases c7 : (wrap64 (x8_1 + 1)) = a1
            · rw [if_pos c7] at H
              have c7b0 : ((wrap64 (x8_1 + 1)) == a1) = true := beq_iff_eq.mpr c7
              have c7b1 : ((wrap64 (x8_1 + 1)) != a1) = false := bne_eq_false_iff_eq.mpr c7
              clear c7
              have c8b0 := eq_true (of_decide_eq_true (by first | (with_reducible assumption) | assumption) : 0 ≤ x7_1)
              by_cases c9 : x7_1 ≤ (a0.size : Int)
              · rw [if_pos c9] at H
                have c9b0 := eq_true c9
                have c9b1 : decide (x7_1 ≤ (a0.size : Int)) = true := decide_eq_true c9
                clear c9
                replace H := Option.bind_eq_some_iff.mp H
                obtain ⟨⟨t121, t122⟩, A100, H⟩ := H
                replace H : (if x7_1 ≤ (wrap64 ((a0.size : Int) - (t121.size : Int))) then (if (wrap64 ((a0.size : Int) - (t121.size : Int))) ≤ (a0.size : Int) then (some (a0.extract 0 (x7_1 : Int).toNat, a0.extract (x7_1 : Int).toNat ((wrap64 ((a0.size : Int) - (t121.size : Int))) : Int).toNat, t121)) else (none)) else (none)) = some (r1, r2, r3) := H
                have A10 := Aside0.mk A100
                clear A100
                have c11b0 := eq_true (of_decide_eq_true (by first | (with_reducible assumption) | assumption) : 0 ≤ x7_1)
                have c12b0 := eq_true (of_decide_eq_true (by first | (with_reducible assumption) | assumption) : x7_1 ≤ (a0.size : Int))
                have c13b0 := eq_true (of_decide_eq_true (by first | (with_reducible assumption) | assumption) : 0 ≤ x7_1)
                by_cases c14 : x7_1 ≤ (wrap64 ((a0.size : Int) - (t121.size : Int)))
                · rw [if_pos c14] at H
                  have c14b0 := eq_true c14
                  have c14b1 : decide (x7_1 ≤ (wrap64 ((a0.size : Int) - (t121.size : Int)))) = true := decide_eq_true c14
                  clear c14
                  by_cases c15 : (wrap64 ((a0.size : Int) - (t121.size : Int))) ≤ (a0.size : Int)
                  · rw [if_pos c15] at H
                    have c15b0 := eq_true c15
                    have c15b1 : decide ((wrap64 ((a0.size : Int) - (t121.size : Int))) ≤ (a0.size : Int)) = true := decide_eq_true c15
                    clear c15
                    simp only [Option.some.injEq, Prod.mk.injEq] at H
                    obtain ⟨rfl, rfl, rfl⟩ := H
                    have p5 : 0 ≤ (x7_1 : Int) := of_decide_eq_true (by first | (with_reducible assumption) | assumption)
                    have q5 : x7_1 < (a0.size : Int) := of_decide_eq_true (by first | (with_reducible assumption) | assumption)
                    have hx5 := bt_at a0 x7_1
                    replace p5 := eq_true p5
                    replace q5 := eq_true q5
                    go_wp2_with (first | (go_at_call 73; (with_reducible refine (impl_endBinary.calls k1 (a0.extract (x7_1 : Int).toNat a0.size) t121 t122 _ A10.out).mono ?_); rintro e w' ⟨rfl, ⟨nd, rfl⟩⟩; (try first | exact ⟨rfl, _, World.drewN_drewN _ _ _⟩ | exact ⟨rfl, _, Eq.trans (World.drewN_drewN _ _ _) (congrArg (World.drewN _) (Nat.add_assoc _ _ _))⟩)))
                    repeat (go_quiet (first | (go_at_call 73; (with_reducible refine (impl_endBinary.calls k1 (a0.extract (x7_1 : Int).toNat a0.size) t121 t122 _ A10.out).mono ?_); rintro e w' ⟨rfl, ⟨nd, rfl⟩⟩; (try first | exact ⟨rfl, _, World.drewN_drewN _ _ _⟩ | exact ⟨rfl, _, Eq.trans (World.drewN_drewN _ _ _) (congrArg (World.drewN _) (Nat.add_assoc _ _ _))⟩))); try go_wp2_with (first | (go_at_call 73; (with_reducible refine (impl_endBinary.calls k1 (a0.extract (x7_1 : Int).toNat a0.size) t121 t122 _ A10.out).mono ?_); rintro e w' ⟨rfl, ⟨nd, rfl⟩⟩; (try first | exact ⟨rfl, _, World.drewN_drewN _ _ _⟩ | exact ⟨rfl, _, Eq.trans (World.drewN_drewN _ _ _) (congrArg (World.drewN _) (Nat.add_assoc _ _ _))⟩))))
                    go_ret3
                    exact ⟨by first | rfl | (simp; done) | (simp [*]; done), by repeat (first | exact Drawn0.refl _ | apply Drawn0.step)⟩
                  · rw [if_neg c15] at H
                    exact absurd H (by simp)
                · rw [if_neg c14] at H
                  exact absurd H (by simp)
              · rw [if_neg c9] at H
                exact absurd H (by simp)
            · rw [if_neg c7] at H
              have c7b0 : ((wrap64 (x8_1 + 1)) == a1) = false := beq_eq_false_iff_ne.mpr c7
              have c7b1 : ((wrap64 (x8_1 + 1)) != a1) = true := bne_iff_ne.mpr c7
              have H' := Aside0.mk H
              clear H
              have p5 : 0 ≤ (x7_1 : Int) := of_decide_eq_true (by first | (with_reducible assumption) | assumption)
              have q5 : x7_1 < (a0.size : Int) := of_decide_eq_true (by first | (with_reducible assumption) | assumption)
              have hx5 := bt_at a0 x7_1
              replace p5 := eq_true p5
              replace q5 := eq_true q5
              go_wp2
              repeat (go_quiet (fail); try go_wp2)
              go_roundg k1
              case measure => have := HK1.out; omega
              case rel => exact ⟨(wrap64 (x7_1 + 1)), (wrap64 (x8_1 + 1)), (by first | rfl | (simp; done) | (simp [*]; done)), (by first | rfl | (simp; done) | (simp [*]; done)), H', ⟨by have := HK1.out; omega⟩, by repeat (first | exact Drawn0.refl _ | apply Drawn0.step)⟩
          · rw [if_neg c6] at H
            have c6b0 : ((bt a0 x7_1) == 49) = false := beq_eq_false_iff_ne.mpr c6
            have c6b1 : ((bt a0 x7_1) != 49) = true := bne_iff_ne.mpr c6
            by_cases c16 : x8_1 = a1
            · rw [if_pos c16] at H
              have c16b0 : (x8_1 == a1) = true := beq_iff_eq.mpr c16
              have c16b1 : (x8_1 != a1) = false := bne_eq_false_iff_eq.mpr c16
              clear c16
              have c17b0 := eq_true (of_decide_eq_true (by first | (with_reducible assumption) | assumption) : 0 ≤ x7_1)
              by_cases c18 : x7_1 ≤ (a0.size : Int)
              · rw [if_pos c18] at H
                have c18b0 := eq_true c18
                have c18b1 : decide (x7_1 ≤ (a0.size : Int)) = true := decide_eq_true c18
                clear c18
                replace H := Option.bind_eq_some_iff.mp H
                obtain ⟨⟨t123, t124⟩, A190, H⟩ := H
                replace H : (if x7_1 ≤ (wrap64 ((a0.size : Int) - (t123.size : Int))) then (if (wrap64 ((a0.size : Int) - (t123.size : Int))) ≤ (a0.size : Int) then (some (a0.extract 0 (x7_1 : Int).toNat, a0.extract (x7_1 : Int).toNat ((wrap64 ((a0.size : Int) - (t123.size : Int))) : Int).toNat, t123)) else (none)) else (none)) = some (r1, r2, r3) := H
                have A19 := Aside0.mk A190
                clear A190
                have c20b0 := eq_true (of_decide_eq_true (by first | (with_reducible assumption) | assumption) : 0 ≤ x7_1)
                have c21b0 := eq_true (of_decide_eq_true (by first | (with_reducible assumption) | assumption) : x7_1 ≤ (a0.size : Int))
                have c22b0 := eq_true (of_decide_eq_true (by first | (with_reducible assumption) | assumption) : 0 ≤ x7_1)
                by_cases c23 : x7_1 ≤ (wrap64 ((a0.size : Int) - (t123.size : Int)))
                · rw [if_pos c23] at H
                  have c23b0 := eq_true c23
                  have c23b1 : decide (x7_1 ≤ (wrap64 ((a0.size : Int) - (t123.size : Int)))) = true := decide_eq_true c23
                  clear c23
                  by_cases c24 : (wrap64 ((a0.size : Int) - (t123.size : Int))) ≤ (a0.size : Int)
                  · rw [if_pos c24] at H
                    have c24b0 := eq_true c24
                    have c24b1 : decide ((wrap64 ((a0.size : Int) - (t123.size : Int))) ≤ (a0.size : Int)) = true := decide_eq_true c24
                    clear c24
                    simp only [Option.some.injEq, Prod.mk.injEq] at H
                    obtain ⟨rfl, rfl, rfl⟩ := H
                    have p5 : 0 ≤ (x7_1 : Int) := of_decide_eq_true (by first | (with_reducible assumption) | assumption)
                    have q5 : x7_1 < (a0.size : Int) := of_decide_eq_true (by first | (with_reducible assumption) | assumption)
                    have hx5 := bt_at a0 x7_1
                    replace p5 := eq_true p5
                    replace q5 := eq_true q5
                    go_wp2_with (first | (go_at_call 73; (with_reducible refine (impl_endBinary.calls k1 (a0.extract (x7_1 : Int).toNat a0.size) t123 t124 _ A19.out).mono ?_); rintro e w' ⟨rfl, ⟨nd, rfl⟩⟩; (try first | exact ⟨rfl, _, World.drewN_drewN _ _ _⟩ | exact ⟨rfl, _, Eq.trans (World.drewN_drewN _ _ _) (congrArg (World.drewN _) (Nat.add_assoc _ _ _))⟩)))
                    repeat (go_quiet (first | (go_at_call 73; (with_reducible refine (impl_endBinary.calls k1 (a0.extract (x7_1 : Int).toNat a0.size) t123 t124 _ A19.out).mono ?_); rintro e w' ⟨rfl, ⟨nd, rfl⟩⟩; (try first | exact ⟨rfl, _, World.drewN_drewN _ _ _⟩ | exact ⟨rfl, _, Eq.trans (World.drewN_drewN _ _ _) (congrArg (World.drewN _) (Nat.add_assoc _ _ _))⟩))); try go_wp2_with (first | (go_at_call 73; (with_reducible refine (impl_endBinary.calls k1 (a0.extract (x7_1 : Int).toNat a0.size) t123 t124 _ A19.out).mono ?_); rintro e w' ⟨rfl, ⟨nd, rfl⟩⟩; (try first | exact ⟨rfl, _, World.drewN_drewN _ _ _⟩ | exact ⟨rfl, _, Eq.trans (World.drewN_drewN _ _ _) (congrArg (World.drewN _) (Nat.add_assoc _ _ _))⟩))))
                    go_ret3
                    exact ⟨by first | rfl | (simp; done) | (simp [*]; done), by repeat (first | exact Drawn0.refl _ | apply Drawn0.step)⟩
                  · rw [if_neg c24] at H
                    exact absurd H (by simp)
                · rw [if_neg c23] at H
                  exact absurd H (by simp)
              · rw [if_neg c18] at H
                exact absurd H (by simp)
            · rw [if_neg c16] at H
              have c16b0 : (x8_1 == a1) = false := beq_eq_false_iff_ne.mpr c16
              have c16b1 : (x8_1 != a1) = true := bne_iff_ne.mpr c16
              have H' := Aside0.mk H
              clear H
              have p5 : 0 ≤ (x7_1 : Int) := of_decide_eq_true (by first | (with_reducible assumption) | assumption)
              have q5 : x7_1 < (a0.size : Int) := of_decide_eq_true (by first | (with_reducible assumption) | assumption)
              have hx5 := bt_at a0 x7_1
              replace p5 := eq_true p5
              replace q5 := eq_true q5
              go_wp2
              repeat (go_quiet (fail); try go_wp2)
              go_roundg k1
              case measure => have := HK1.out; omega
              case rel => exact ⟨(wrap64 (x7_1 + 1)), (x8_1), (by first | rfl | (simp; done) | (simp [*]; done)), (by first | rfl | (simp; done) | (simp [*]; done)), H', ⟨by have := HK1.out; omega⟩, by repeat (first | exact Drawn0.refl _ | apply Drawn0.step)⟩
        · rw [if_neg c4] at H
          exact absurd H (by simp)
      · rw [if_neg c3] at H
        exact absurd H (by simp)

/-! ### impl_rotated: function 72 -/
def impl_rotated.f (k : Nat) (a0 : ByteArray) (a1 : Int) (a2 : Bool) : Option (ByteArray × Bool) := (impl_partAt.f k a0 a1).bind fun bt125 => ((impl_sides.f k bt125.2.1).bind fun bt128 => (if a2 = true then (if bt128.1.toList = ([48] : List UInt8) then (some ((⟨#[]⟩ : ByteArray), false)) else ((impl_sides.f k bt128.1).bind fun bt130 => (if bt125.1.size + 1 ≤ 9223372036854775807 then (if (bt125.1 ++ (⟨#[49]⟩ : ByteArray)).size + bt130.1.size ≤ 9223372036854775807 then (if ((bt125.1 ++ (⟨#[49]⟩ : ByteArray)) ++ bt130.1).size + 1 ≤ 9223372036854775807 then (if (((bt125.1 ++ (⟨#[49]⟩ : ByteArray)) ++ bt130.1) ++ (⟨#[49]⟩ : ByteArray)).size + bt130.2.size ≤ 9223372036854775807 then (if ((((bt125.1 ++ (⟨#[49]⟩ : ByteArray)) ++ bt130.1) ++ (⟨#[49]⟩ : ByteArray)) ++ bt130.2).size + bt128.2.size ≤ 9223372036854775807 then (if (((((bt125.1 ++ (⟨#[49]⟩ : ByteArray)) ++ bt130.1) ++ (⟨#[49]⟩ : ByteArray)) ++ bt130.2) ++ bt128.2).size + bt125.2.2.size ≤ 9223372036854775807 then (some ((((((bt125.1 ++ (⟨#[49]⟩ : ByteArray)) ++ bt130.1) ++ (⟨#[49]⟩ : ByteArray)) ++ bt130.2) ++ bt128.2) ++ bt125.2.2, true)) else (none)) else (none)) else (none)) else (none)) else (none)) else (none)))) else (if bt128.2.toList = ([48] : List UInt8) then (some ((⟨#[]⟩ : ByteArray), false)) else ((impl_sides.f k bt128.2).bind fun bt132 => (if bt125.1.size + 2 ≤ 9223372036854775807 then (if (bt125.1 ++ (⟨#[49, 49]⟩ : ByteArray)).size + bt128.1.size ≤ 9223372036854775807 then (if ((bt125.1 ++ (⟨#[49, 49]⟩ : ByteArray)) ++ bt128.1).size + bt132.1.size ≤ 9223372036854775807 then (if (((bt125.1 ++ (⟨#[49, 49]⟩ : ByteArray)) ++ bt128.1) ++ bt132.1).size + bt132.2.size ≤ 9223372036854775807 then (if ((((bt125.1 ++ (⟨#[49, 49]⟩ : ByteArray)) ++ bt128.1) ++ bt132.1) ++ bt132.2).size + bt125.2.2.size ≤ 9223372036854775807 then (some (((((bt125.1 ++ (⟨#[49, 49]⟩ : ByteArray)) ++ bt128.1) ++ bt132.1) ++ bt132.2) ++ bt125.2.2, true)) else (none)) else (none)) else (none)) else (none)) else (none))))))
theorem impl_rotated.mono : ∀ a0 a1 a2 k, LeO (impl_rotated.f k a0 a1 a2) (impl_rotated.f (k + 1) a0 a1 a2) := by
  intro a0 a1 a2 k
  unfold impl_rotated.f
  repeat' first
      | (with_reducible exact impl_partAt.mono _ _ _)
      | (with_reducible exact impl_sides.mono _ _)
      | (with_reducible exact LeO.refl _)
      | (with_reducible exact LeO.none _)
      | (with_reducible refine LeO.ite ?_ ?_)
      | (with_reducible refine LeO.bind ?_ (fun _ => ?_))
      | exact impl_partAt.mono _ _ _
      | exact impl_sides.mono _ _
      | exact LeO.none _
      | refine LeO.ite ?_ ?_
      | refine LeO.bind ?_ (fun _ => ?_)
set_option maxHeartbeats 8000000 in
set_option maxRecDepth 100000 in
theorem impl_rotated.calls (k : Nat) (a0 : ByteArray) (a1 : Int) (a2 : Bool) (r1 : ByteArray) (r2 : Bool) (w : World) (h : impl_rotated.f k a0 a1 a2 = some (r1, r2)) :
    Calls Try.prog 72 #[.string a0, .int .i64 a1, .bool a2] w fun e w' => e = .returned (.tuple #[.string r1, .bool r2]) ∧ Drawn0 w w' := by
  have H : ((impl_partAt.f k a0 a1).bind fun bt125 => ((impl_sides.f k bt125.2.1).bind fun bt128 => (if a2 = true then (if bt128.1.toList = ([48] : List UInt8) then (some ((⟨#[]⟩ : ByteArray), false)) else ((impl_sides.f k bt128.1).bind fun bt130 => (if bt125.1.size + 1 ≤ 9223372036854775807 then (if (bt125.1 ++ (⟨#[49]⟩ : ByteArray)).size + bt130.1.size ≤ 9223372036854775807 then (if ((bt125.1 ++ (⟨#[49]⟩ : ByteArray)) ++ bt130.1).size + 1 ≤ 9223372036854775807 then (if (((bt125.1 ++ (⟨#[49]⟩ : ByteArray)) ++ bt130.1) ++ (⟨#[49]⟩ : ByteArray)).size + bt130.2.size ≤ 9223372036854775807 then (if ((((bt125.1 ++ (⟨#[49]⟩ : ByteArray)) ++ bt130.1) ++ (⟨#[49]⟩ : ByteArray)) ++ bt130.2).size + bt128.2.size ≤ 9223372036854775807 then (if (((((bt125.1 ++ (⟨#[49]⟩ : ByteArray)) ++ bt130.1) ++ (⟨#[49]⟩ : ByteArray)) ++ bt130.2) ++ bt128.2).size + bt125.2.2.size ≤ 9223372036854775807 then (some ((((((bt125.1 ++ (⟨#[49]⟩ : ByteArray)) ++ bt130.1) ++ (⟨#[49]⟩ : ByteArray)) ++ bt130.2) ++ bt128.2) ++ bt125.2.2, true)) else (none)) else (none)) else (none)) else (none)) else (none)) else (none)))) else (if bt128.2.toList = ([48] : List UInt8) then (some ((⟨#[]⟩ : ByteArray), false)) else ((impl_sides.f k bt128.2).bind fun bt132 => (if bt125.1.size + 2 ≤ 9223372036854775807 then (if (bt125.1 ++ (⟨#[49, 49]⟩ : ByteArray)).size + bt128.1.size ≤ 9223372036854775807 then (if ((bt125.1 ++ (⟨#[49, 49]⟩ : ByteArray)) ++ bt128.1).size + bt132.1.size ≤ 9223372036854775807 then (if (((bt125.1 ++ (⟨#[49, 49]⟩ : ByteArray)) ++ bt128.1) ++ bt132.1).size + bt132.2.size ≤ 9223372036854775807 then (if ((((bt125.1 ++ (⟨#[49, 49]⟩ : ByteArray)) ++ bt128.1) ++ bt132.1) ++ bt132.2).size + bt125.2.2.size ≤ 9223372036854775807 then (some (((((bt125.1 ++ (⟨#[49, 49]⟩ : ByteArray)) ++ bt128.1) ++ bt132.1) ++ bt132.2) ++ bt125.2.2, true)) else (none)) else (none)) else (none)) else (none)) else (none))))))) = some (r1, r2) := h
  clear h
  replace H := Option.bind_eq_some_iff.mp H
  obtain ⟨⟨t125, t126, t127⟩, A40, H⟩ := H
  replace H : ((impl_sides.f k t126).bind fun bt128 => (if a2 = true then (if bt128.1.toList = ([48] : List UInt8) then (some ((⟨#[]⟩ : ByteArray), false)) else ((impl_sides.f k bt128.1).bind fun bt130 => (if t125.size + 1 ≤ 9223372036854775807 then (if (t125 ++ (⟨#[49]⟩ : ByteArray)).size + bt130.1.size ≤ 9223372036854775807 then (if ((t125 ++ (⟨#[49]⟩ : ByteArray)) ++ bt130.1).size + 1 ≤ 9223372036854775807 then (if (((t125 ++ (⟨#[49]⟩ : ByteArray)) ++ bt130.1) ++ (⟨#[49]⟩ : ByteArray)).size + bt130.2.size ≤ 9223372036854775807 then (if ((((t125 ++ (⟨#[49]⟩ : ByteArray)) ++ bt130.1) ++ (⟨#[49]⟩ : ByteArray)) ++ bt130.2).size + bt128.2.size ≤ 9223372036854775807 then (if (((((t125 ++ (⟨#[49]⟩ : ByteArray)) ++ bt130.1) ++ (⟨#[49]⟩ : ByteArray)) ++ bt130.2) ++ bt128.2).size + t127.size ≤ 9223372036854775807 then (some ((((((t125 ++ (⟨#[49]⟩ : ByteArray)) ++ bt130.1) ++ (⟨#[49]⟩ : ByteArray)) ++ bt130.2) ++ bt128.2) ++ t127, true)) else (none)) else (none)) else (none)) else (none)) else (none)) else (none)))) else (if bt128.2.toList = ([48] : List UInt8) then (some ((⟨#[]⟩ : ByteArray), false)) else ((impl_sides.f k bt128.2).bind fun bt132 => (if t125.size + 2 ≤ 9223372036854775807 then (if (t125 ++ (⟨#[49, 49]⟩ : ByteArray)).size + bt128.1.size ≤ 9223372036854775807 then (if ((t125 ++ (⟨#[49, 49]⟩ : ByteArray)) ++ bt128.1).size + bt132.1.size ≤ 9223372036854775807 then (if (((t125 ++ (⟨#[49, 49]⟩ : ByteArray)) ++ bt128.1) ++ bt132.1).size + bt132.2.size ≤ 9223372036854775807 then (if ((((t125 ++ (⟨#[49, 49]⟩ : ByteArray)) ++ bt128.1) ++ bt132.1) ++ bt132.2).size + t127.size ≤ 9223372036854775807 then (some (((((t125 ++ (⟨#[49, 49]⟩ : ByteArray)) ++ bt128.1) ++ bt132.1) ++ bt132.2) ++ t127, true)) else (none)) else (none)) else (none)) else (none)) else (none)))))) = some (r1, r2) := H
  have A4 := Aside0.mk A40
  clear A40
  replace H := Option.bind_eq_some_iff.mp H
  obtain ⟨⟨t128, t129⟩, A50, H⟩ := H
  replace H : (if a2 = true then (if t128.toList = ([48] : List UInt8) then (some ((⟨#[]⟩ : ByteArray), false)) else ((impl_sides.f k t128).bind fun bt130 => (if t125.size + 1 ≤ 9223372036854775807 then (if (t125 ++ (⟨#[49]⟩ : ByteArray)).size + bt130.1.size ≤ 9223372036854775807 then (if ((t125 ++ (⟨#[49]⟩ : ByteArray)) ++ bt130.1).size + 1 ≤ 9223372036854775807 then (if (((t125 ++ (⟨#[49]⟩ : ByteArray)) ++ bt130.1) ++ (⟨#[49]⟩ : ByteArray)).size + bt130.2.size ≤ 9223372036854775807 then (if ((((t125 ++ (⟨#[49]⟩ : ByteArray)) ++ bt130.1) ++ (⟨#[49]⟩ : ByteArray)) ++ bt130.2).size + t129.size ≤ 9223372036854775807 then (if (((((t125 ++ (⟨#[49]⟩ : ByteArray)) ++ bt130.1) ++ (⟨#[49]⟩ : ByteArray)) ++ bt130.2) ++ t129).size + t127.size ≤ 9223372036854775807 then (some ((((((t125 ++ (⟨#[49]⟩ : ByteArray)) ++ bt130.1) ++ (⟨#[49]⟩ : ByteArray)) ++ bt130.2) ++ t129) ++ t127, true)) else (none)) else (none)) else (none)) else (none)) else (none)) else (none)))) else (if t129.toList = ([48] : List UInt8) then (some ((⟨#[]⟩ : ByteArray), false)) else ((impl_sides.f k t129).bind fun bt132 => (if t125.size + 2 ≤ 9223372036854775807 then (if (t125 ++ (⟨#[49, 49]⟩ : ByteArray)).size + t128.size ≤ 9223372036854775807 then (if ((t125 ++ (⟨#[49, 49]⟩ : ByteArray)) ++ t128).size + bt132.1.size ≤ 9223372036854775807 then (if (((t125 ++ (⟨#[49, 49]⟩ : ByteArray)) ++ t128) ++ bt132.1).size + bt132.2.size ≤ 9223372036854775807 then (if ((((t125 ++ (⟨#[49, 49]⟩ : ByteArray)) ++ t128) ++ bt132.1) ++ bt132.2).size + t127.size ≤ 9223372036854775807 then (some (((((t125 ++ (⟨#[49, 49]⟩ : ByteArray)) ++ t128) ++ bt132.1) ++ bt132.2) ++ t127, true)) else (none)) else (none)) else (none)) else (none)) else (none))))) = some (r1, r2) := H
  have A5 := Aside0.mk A50
  clear A50
  by_cases c6 : a2 = true
  · subst c6
    have H1 : (if t128.toList = ([48] : List UInt8) then (some ((⟨#[]⟩ : ByteArray), false)) else ((impl_sides.f k t128).bind fun bt130 => (if t125.size + 1 ≤ 9223372036854775807 then (if (t125 ++ (⟨#[49]⟩ : ByteArray)).size + bt130.1.size ≤ 9223372036854775807 then (if ((t125 ++ (⟨#[49]⟩ : ByteArray)) ++ bt130.1).size + 1 ≤ 9223372036854775807 then (if (((t125 ++ (⟨#[49]⟩ : ByteArray)) ++ bt130.1) ++ (⟨#[49]⟩ : ByteArray)).size + bt130.2.size ≤ 9223372036854775807 then (if ((((t125 ++ (⟨#[49]⟩ : ByteArray)) ++ bt130.1) ++ (⟨#[49]⟩ : ByteArray)) ++ bt130.2).size + t129.size ≤ 9223372036854775807 then (if (((((t125 ++ (⟨#[49]⟩ : ByteArray)) ++ bt130.1) ++ (⟨#[49]⟩ : ByteArray)) ++ bt130.2) ++ t129).size + t127.size ≤ 9223372036854775807 then (some ((((((t125 ++ (⟨#[49]⟩ : ByteArray)) ++ bt130.1) ++ (⟨#[49]⟩ : ByteArray)) ++ bt130.2) ++ t129) ++ t127, true)) else (none)) else (none)) else (none)) else (none)) else (none)) else (none)))) = some (r1, r2) := by rw [if_pos rfl] at H; exact H
    clear H
    have H := H1
    clear H1
    by_cases c7 : t128.toList = ([48] : List UInt8)
    · rw [if_pos c7] at H
      have c7b0 : (t128.toList == ([48] : List UInt8)) = true := beq_iff_eq.mpr c7
      have c7b1 : (t128.toList != ([48] : List UInt8)) = false := bne_eq_false_iff_eq.mpr c7
      clear c7
      simp only [Option.some.injEq, Prod.mk.injEq] at H
      obtain ⟨rfl, rfl⟩ := H
      go_enter Try.func72, Try.ntmps72
      go_wp2_with (first | ((with_reducible refine gate_callee (f := 91) rfl ?_); refine goesL_ (some 20) rfl rfl Try.func91 (by kernel_rfl) rfl #[.string a0, .int .i64 a1] rfl (by (try simp only [List.map_toArray, List.map_cons, List.map_nil]); first | done | rfl | (simp only [List.length_drop, List.length_take]; rfl)) ?_; (with_reducible refine (impl_partAt.calls k a0 a1 t125 t126 t127 _ A4.out).mono ?_); rintro e w' ⟨rfl, ⟨nd, rfl⟩⟩; refine ⟨_, rfl, ?_⟩) | ((with_reducible refine gate_callee (f := 74) rfl ?_); refine goesL_ (some 26) rfl rfl Try.func74 (by kernel_rfl) rfl #[.string t126] rfl (by (try simp only [List.map_toArray, List.map_cons, List.map_nil]); first | done | rfl | (simp only [List.length_drop, List.length_take]; rfl)) ?_; (with_reducible refine (impl_sides.calls k t126 t128 t129 _ A5.out).mono ?_); rintro e w' ⟨rfl, ⟨nd, rfl⟩⟩; refine ⟨_, rfl, ?_⟩))
      go_ret2
      exact ⟨by first | rfl | (simp; done) | (simp [*]; done), by repeat (first | exact Drawn0.refl _ | apply Drawn0.step)⟩
    · rw [if_neg c7] at H
      have c7b0 : (t128.toList == ([48] : List UInt8)) = false := beq_eq_false_iff_ne.mpr c7
      have c7b1 : (t128.toList != ([48] : List UInt8)) = true := bne_iff_ne.mpr c7
      replace H := Option.bind_eq_some_iff.mp H
      obtain ⟨⟨t130, t131⟩, A80, H⟩ := H
      replace H : (if t125.size + 1 ≤ 9223372036854775807 then (if (t125 ++ (⟨#[49]⟩ : ByteArray)).size + t130.size ≤ 9223372036854775807 then (if ((t125 ++ (⟨#[49]⟩ : ByteArray)) ++ t130).size + 1 ≤ 9223372036854775807 then (if (((t125 ++ (⟨#[49]⟩ : ByteArray)) ++ t130) ++ (⟨#[49]⟩ : ByteArray)).size + t131.size ≤ 9223372036854775807 then (if ((((t125 ++ (⟨#[49]⟩ : ByteArray)) ++ t130) ++ (⟨#[49]⟩ : ByteArray)) ++ t131).size + t129.size ≤ 9223372036854775807 then (if (((((t125 ++ (⟨#[49]⟩ : ByteArray)) ++ t130) ++ (⟨#[49]⟩ : ByteArray)) ++ t131) ++ t129).size + t127.size ≤ 9223372036854775807 then (some ((((((t125 ++ (⟨#[49]⟩ : ByteArray)) ++ t130) ++ (⟨#[49]⟩ : ByteArray)) ++ t131) ++ t129) ++ t127, true)) else (none)) else (none)) else (none)) else (none)) else (none)) else (none)) = some (r1, r2) := H
      have A8 := Aside0.mk A80
      clear A80
      by_cases c9 : t125.size + 1 ≤ 9223372036854775807
      · rw [if_pos c9] at H
        have c9b0 := eq_true c9
        have c9b1 : decide (t125.size + 1 ≤ 9223372036854775807) = true := decide_eq_true c9
        try have c9b2 : (9223372036854775807 < t125.size + 1) = False := eq_false (Nat.not_lt.2 c9)
        by_cases c10 : (t125 ++ (⟨#[49]⟩ : ByteArray)).size + t130.size ≤ 9223372036854775807
        · rw [if_pos c10] at H
          have c10b0 := eq_true c10
          have c10b1 : decide ((t125 ++ (⟨#[49]⟩ : ByteArray)).size + t130.size ≤ 9223372036854775807) = true := decide_eq_true c10
          try have c10b2 : (9223372036854775807 < (t125 ++ (⟨#[49]⟩ : ByteArray)).size + t130.size) = False := eq_false (Nat.not_lt.2 c10)
          try have c10b3 : (9223372036854775807 < t125.size + 1 + t130.size) = False := eq_false (by have z_ := c10; simp only [ByteArray.size_append, ByteArray.size_extract, decide_eq_true_eq, eq_iff_iff, iff_true, (show (⟨#[49]⟩ : ByteArray).size = 1 from rfl)] at *; simp at z_; omega)
          by_cases c11 : ((t125 ++ (⟨#[49]⟩ : ByteArray)) ++ t130).size + 1 ≤ 9223372036854775807
          · rw [if_pos c11] at H
            have c11b0 := eq_true c11
            have c11b1 : decide (((t125 ++ (⟨#[49]⟩ : ByteArray)) ++ t130).size + 1 ≤ 9223372036854775807) = true := decide_eq_true c11
            try have c11b2 : (9223372036854775807 < ((t125 ++ (⟨#[49]⟩ : ByteArray)) ++ t130).size + 1) = False := eq_false (Nat.not_lt.2 c11)
            try have c11b3 : (9223372036854775807 < t125.size + 1 + t130.size + 1) = False := eq_false (by have z_ := c11; simp only [ByteArray.size_append, ByteArray.size_extract, decide_eq_true_eq, eq_iff_iff, iff_true, (show (⟨#[49]⟩ : ByteArray).size = 1 from rfl)] at *; simp at z_; omega)
            by_cases c12 : (((t125 ++ (⟨#[49]⟩ : ByteArray)) ++ t130) ++ (⟨#[49]⟩ : ByteArray)).size + t131.size ≤ 9223372036854775807
            · rw [if_pos c12] at H
              have c12b0 := eq_true c12
              have c12b1 : decide ((((t125 ++ (⟨#[49]⟩ : ByteArray)) ++ t130) ++ (⟨#[49]⟩ : ByteArray)).size + t131.size ≤ 9223372036854775807) = true := decide_eq_true c12
              try have c12b2 : (9223372036854775807 < (((t125 ++ (⟨#[49]⟩ : ByteArray)) ++ t130) ++ (⟨#[49]⟩ : ByteArray)).size + t131.size) = False := eq_false (Nat.not_lt.2 c12)
              try have c12b3 : (9223372036854775807 < t125.size + 1 + t130.size + 1 + t131.size) = False := eq_false (by have z_ := c12; simp only [ByteArray.size_append, ByteArray.size_extract, decide_eq_true_eq, eq_iff_iff, iff_true, (show (⟨#[49]⟩ : ByteArray).size = 1 from rfl)] at *; simp at z_; omega)
              by_cases c13 : ((((t125 ++ (⟨#[49]⟩ : ByteArray)) ++ t130) ++ (⟨#[49]⟩ : ByteArray)) ++ t131).size + t129.size ≤ 9223372036854775807
              · rw [if_pos c13] at H
                have c13b0 := eq_true c13
                have c13b1 : decide (((((t125 ++ (⟨#[49]⟩ : ByteArray)) ++ t130) ++ (⟨#[49]⟩ : ByteArray)) ++ t131).size + t129.size ≤ 9223372036854775807) = true := decide_eq_true c13
                try have c13b2 : (9223372036854775807 < ((((t125 ++ (⟨#[49]⟩ : ByteArray)) ++ t130) ++ (⟨#[49]⟩ : ByteArray)) ++ t131).size + t129.size) = False := eq_false (Nat.not_lt.2 c13)
                try have c13b3 : (9223372036854775807 < t125.size + 1 + t130.size + 1 + t131.size + t129.size) = False := eq_false (by have z_ := c13; simp only [ByteArray.size_append, ByteArray.size_extract, decide_eq_true_eq, eq_iff_iff, iff_true, (show (⟨#[49]⟩ : ByteArray).size = 1 from rfl)] at *; simp at z_; omega)
                by_cases c14 : (((((t125 ++ (⟨#[49]⟩ : ByteArray)) ++ t130) ++ (⟨#[49]⟩ : ByteArray)) ++ t131) ++ t129).size + t127.size ≤ 9223372036854775807
                · rw [if_pos c14] at H
                  have c14b0 := eq_true c14
                  have c14b1 : decide ((((((t125 ++ (⟨#[49]⟩ : ByteArray)) ++ t130) ++ (⟨#[49]⟩ : ByteArray)) ++ t131) ++ t129).size + t127.size ≤ 9223372036854775807) = true := decide_eq_true c14
                  try have c14b2 : (9223372036854775807 < (((((t125 ++ (⟨#[49]⟩ : ByteArray)) ++ t130) ++ (⟨#[49]⟩ : ByteArray)) ++ t131) ++ t129).size + t127.size) = False := eq_false (Nat.not_lt.2 c14)
                  try have c14b3 : (9223372036854775807 < t125.size + 1 + t130.size + 1 + t131.size + t129.size + t127.size) = False := eq_false (by have z_ := c14; simp only [ByteArray.size_append, ByteArray.size_extract, decide_eq_true_eq, eq_iff_iff, iff_true, (show (⟨#[49]⟩ : ByteArray).size = 1 from rfl)] at *; simp at z_; omega)
                  simp only [Option.some.injEq, Prod.mk.injEq] at H
                  obtain ⟨rfl, rfl⟩ := H
                  go_enter Try.func72, Try.ntmps72
                  go_wp2_with (first | ((with_reducible refine gate_callee (f := 91) rfl ?_); refine goesL_ (some 20) rfl rfl Try.func91 (by kernel_rfl) rfl #[.string a0, .int .i64 a1] rfl (by (try simp only [List.map_toArray, List.map_cons, List.map_nil]); first | done | rfl | (simp only [List.length_drop, List.length_take]; rfl)) ?_; (with_reducible refine (impl_partAt.calls k a0 a1 t125 t126 t127 _ A4.out).mono ?_); rintro e w' ⟨rfl, ⟨nd, rfl⟩⟩; refine ⟨_, rfl, ?_⟩) | ((with_reducible refine gate_callee (f := 74) rfl ?_); refine goesL_ (some 26) rfl rfl Try.func74 (by kernel_rfl) rfl #[.string t126] rfl (by (try simp only [List.map_toArray, List.map_cons, List.map_nil]); first | done | rfl | (simp only [List.length_drop, List.length_take]; rfl)) ?_; (with_reducible refine (impl_sides.calls k t126 t128 t129 _ A5.out).mono ?_); rintro e w' ⟨rfl, ⟨nd, rfl⟩⟩; refine ⟨_, rfl, ?_⟩) | ((with_reducible refine gate_callee (f := 74) rfl ?_); refine goesL_ (some 34) rfl rfl Try.func74 (by kernel_rfl) rfl #[.string t128] rfl (by (try simp only [List.map_toArray, List.map_cons, List.map_nil]); first | done | rfl | (simp only [List.length_drop, List.length_take]; rfl)) ?_; (with_reducible refine (impl_sides.calls k t128 t130 t131 _ A8.out).mono ?_); rintro e w' ⟨rfl, ⟨nd, rfl⟩⟩; refine ⟨_, rfl, ?_⟩))
                  go_ret2
                  exact ⟨by first | rfl | (simp; done) | (simp [*]; done), by repeat (first | exact Drawn0.refl _ | apply Drawn0.step)⟩
                · rw [if_neg c14] at H
                  exact absurd H (by simp)
              · rw [if_neg c13] at H
                exact absurd H (by simp)
            · rw [if_neg c12] at H
              exact absurd H (by simp)
          · rw [if_neg c11] at H
            exact absurd H (by simp)
        · rw [if_neg c10] at H
          exact absurd H (by simp)
      · rw [if_neg c9] at H
        exact absurd H (by simp)
  · replace c6 := Bool.eq_false_iff.mpr c6
    subst c6
    have H1 : (if t129.toList = ([48] : List UInt8) then (some ((⟨#[]⟩ : ByteArray), false)) else ((impl_sides.f k t129).bind fun bt132 => (if t125.size + 2 ≤ 9223372036854775807 then (if (t125 ++ (⟨#[49, 49]⟩ : ByteArray)).size + t128.size ≤ 9223372036854775807 then (if ((t125 ++ (⟨#[49, 49]⟩ : ByteArray)) ++ t128).size + bt132.1.size ≤ 9223372036854775807 then (if (((t125 ++ (⟨#[49, 49]⟩ : ByteArray)) ++ t128) ++ bt132.1).size + bt132.2.size ≤ 9223372036854775807 then (if ((((t125 ++ (⟨#[49, 49]⟩ : ByteArray)) ++ t128) ++ bt132.1) ++ bt132.2).size + t127.size ≤ 9223372036854775807 then (some (((((t125 ++ (⟨#[49, 49]⟩ : ByteArray)) ++ t128) ++ bt132.1) ++ bt132.2) ++ t127, true)) else (none)) else (none)) else (none)) else (none)) else (none)))) = some (r1, r2) := by rw [if_neg (show ¬ (false = true) by decide)] at H; exact H
    clear H
    have H := H1
    clear H1
    by_cases c15 : t129.toList = ([48] : List UInt8)
    · rw [if_pos c15] at H
      have c15b0 : (t129.toList == ([48] : List UInt8)) = true := beq_iff_eq.mpr c15
      have c15b1 : (t129.toList != ([48] : List UInt8)) = false := bne_eq_false_iff_eq.mpr c15
      clear c15
      simp only [Option.some.injEq, Prod.mk.injEq] at H
      obtain ⟨rfl, rfl⟩ := H
      go_enter Try.func72, Try.ntmps72
      go_wp2_with (first | ((with_reducible refine gate_callee (f := 91) rfl ?_); refine goesL_ (some 20) rfl rfl Try.func91 (by kernel_rfl) rfl #[.string a0, .int .i64 a1] rfl (by (try simp only [List.map_toArray, List.map_cons, List.map_nil]); first | done | rfl | (simp only [List.length_drop, List.length_take]; rfl)) ?_; (with_reducible refine (impl_partAt.calls k a0 a1 t125 t126 t127 _ A4.out).mono ?_); rintro e w' ⟨rfl, ⟨nd, rfl⟩⟩; refine ⟨_, rfl, ?_⟩) | ((with_reducible refine gate_callee (f := 74) rfl ?_); refine goesL_ (some 26) rfl rfl Try.func74 (by kernel_rfl) rfl #[.string t126] rfl (by (try simp only [List.map_toArray, List.map_cons, List.map_nil]); first | done | rfl | (simp only [List.length_drop, List.length_take]; rfl)) ?_; (with_reducible refine (impl_sides.calls k t126 t128 t129 _ A5.out).mono ?_); rintro e w' ⟨rfl, ⟨nd, rfl⟩⟩; refine ⟨_, rfl, ?_⟩))
      go_ret2
      exact ⟨by first | rfl | (simp; done) | (simp [*]; done), by repeat (first | exact Drawn0.refl _ | apply Drawn0.step)⟩
    · rw [if_neg c15] at H
      have c15b0 : (t129.toList == ([48] : List UInt8)) = false := beq_eq_false_iff_ne.mpr c15
      have c15b1 : (t129.toList != ([48] : List UInt8)) = true := bne_iff_ne.mpr c15
      replace H := Option.bind_eq_some_iff.mp H
      obtain ⟨⟨t132, t133⟩, A160, H⟩ := H
      replace H : (if t125.size + 2 ≤ 9223372036854775807 then (if (t125 ++ (⟨#[49, 49]⟩ : ByteArray)).size + t128.size ≤ 9223372036854775807 then (if ((t125 ++ (⟨#[49, 49]⟩ : ByteArray)) ++ t128).size + t132.size ≤ 9223372036854775807 then (if (((t125 ++ (⟨#[49, 49]⟩ : ByteArray)) ++ t128) ++ t132).size + t133.size ≤ 9223372036854775807 then (if ((((t125 ++ (⟨#[49, 49]⟩ : ByteArray)) ++ t128) ++ t132) ++ t133).size + t127.size ≤ 9223372036854775807 then (some (((((t125 ++ (⟨#[49, 49]⟩ : ByteArray)) ++ t128) ++ t132) ++ t133) ++ t127, true)) else (none)) else (none)) else (none)) else (none)) else (none)) = some (r1, r2) := H
      have A16 := Aside0.mk A160
      clear A160
      by_cases c17 : t125.size + 2 ≤ 9223372036854775807
      · rw [if_pos c17] at H
        have c17b0 := eq_true c17
        have c17b1 : decide (t125.size + 2 ≤ 9223372036854775807) = true := decide_eq_true c17
        try have c17b2 : (9223372036854775807 < t125.size + 2) = False := eq_false (Nat.not_lt.2 c17)
        by_cases c18 : (t125 ++ (⟨#[49, 49]⟩ : ByteArray)).size + t128.size ≤ 9223372036854775807
        · rw [if_pos c18] at H
          have c18b0 := eq_true c18
          have c18b1 : decide ((t125 ++ (⟨#[49, 49]⟩ : ByteArray)).size + t128.size ≤ 9223372036854775807) = true := decide_eq_true c18
          try have c18b2 : (9223372036854775807 < (t125 ++ (⟨#[49, 49]⟩ : ByteArray)).size + t128.size) = False := eq_false (Nat.not_lt.2 c18)
          try have c18b3 : (9223372036854775807 < t125.size + 2 + t128.size) = False := eq_false (by have z_ := c18; simp only [ByteArray.size_append, ByteArray.size_extract, decide_eq_true_eq, eq_iff_iff, iff_true, (show (⟨#[49, 49]⟩ : ByteArray).size = 2 from rfl)] at *; simp at z_; omega)
          by_cases c19 : ((t125 ++ (⟨#[49, 49]⟩ : ByteArray)) ++ t128).size + t132.size ≤ 9223372036854775807
          · rw [if_pos c19] at H
            have c19b0 := eq_true c19
            have c19b1 : decide (((t125 ++ (⟨#[49, 49]⟩ : ByteArray)) ++ t128).size + t132.size ≤ 9223372036854775807) = true := decide_eq_true c19
            try have c19b2 : (9223372036854775807 < ((t125 ++ (⟨#[49, 49]⟩ : ByteArray)) ++ t128).size + t132.size) = False := eq_false (Nat.not_lt.2 c19)
            try have c19b3 : (9223372036854775807 < t125.size + 2 + t128.size + t132.size) = False := eq_false (by have z_ := c19; simp only [ByteArray.size_append, ByteArray.size_extract, decide_eq_true_eq, eq_iff_iff, iff_true, (show (⟨#[49, 49]⟩ : ByteArray).size = 2 from rfl)] at *; simp at z_; omega)
            by_cases c20 : (((t125 ++ (⟨#[49, 49]⟩ : ByteArray)) ++ t128) ++ t132).size + t133.size ≤ 9223372036854775807
            · rw [if_pos c20] at H
              have c20b0 := eq_true c20
              have c20b1 : decide ((((t125 ++ (⟨#[49, 49]⟩ : ByteArray)) ++ t128) ++ t132).size + t133.size ≤ 9223372036854775807) = true := decide_eq_true c20
              try have c20b2 : (9223372036854775807 < (((t125 ++ (⟨#[49, 49]⟩ : ByteArray)) ++ t128) ++ t132).size + t133.size) = False := eq_false (Nat.not_lt.2 c20)
              try have c20b3 : (9223372036854775807 < t125.size + 2 + t128.size + t132.size + t133.size) = False := eq_false (by have z_ := c20; simp only [ByteArray.size_append, ByteArray.size_extract, decide_eq_true_eq, eq_iff_iff, iff_true, (show (⟨#[49, 49]⟩ : ByteArray).size = 2 from rfl)] at *; simp at z_; omega)
              by_cases c21 : ((((t125 ++ (⟨#[49, 49]⟩ : ByteArray)) ++ t128) ++ t132) ++ t133).size + t127.size ≤ 9223372036854775807
              · rw [if_pos c21] at H
                have c21b0 := eq_true c21
                have c21b1 : decide (((((t125 ++ (⟨#[49, 49]⟩ : ByteArray)) ++ t128) ++ t132) ++ t133).size + t127.size ≤ 9223372036854775807) = true := decide_eq_true c21
                try have c21b2 : (9223372036854775807 < ((((t125 ++ (⟨#[49, 49]⟩ : ByteArray)) ++ t128) ++ t132) ++ t133).size + t127.size) = False := eq_false (Nat.not_lt.2 c21)
                try have c21b3 : (9223372036854775807 < t125.size + 2 + t128.size + t132.size + t133.size + t127.size) = False := eq_false (by have z_ := c21; simp only [ByteArray.size_append, ByteArray.size_extract, decide_eq_true_eq, eq_iff_iff, iff_true, (show (⟨#[49, 49]⟩ : ByteArray).size = 2 from rfl)] at *; simp at z_; omega)
                simp only [Option.some.injEq, Prod.mk.injEq] at H
                obtain ⟨rfl, rfl⟩ := H
                go_enter Try.func72, Try.ntmps72
                go_wp2_with (first | ((with_reducible refine gate_callee (f := 91) rfl ?_); refine goesL_ (some 20) rfl rfl Try.func91 (by kernel_rfl) rfl #[.string a0, .int .i64 a1] rfl (by (try simp only [List.map_toArray, List.map_cons, List.map_nil]); first | done | rfl | (simp only [List.length_drop, List.length_take]; rfl)) ?_; (with_reducible refine (impl_partAt.calls k a0 a1 t125 t126 t127 _ A4.out).mono ?_); rintro e w' ⟨rfl, ⟨nd, rfl⟩⟩; refine ⟨_, rfl, ?_⟩) | ((with_reducible refine gate_callee (f := 74) rfl ?_); refine goesL_ (some 26) rfl rfl Try.func74 (by kernel_rfl) rfl #[.string t126] rfl (by (try simp only [List.map_toArray, List.map_cons, List.map_nil]); first | done | rfl | (simp only [List.length_drop, List.length_take]; rfl)) ?_; (with_reducible refine (impl_sides.calls k t126 t128 t129 _ A5.out).mono ?_); rintro e w' ⟨rfl, ⟨nd, rfl⟩⟩; refine ⟨_, rfl, ?_⟩) | ((with_reducible refine gate_callee (f := 74) rfl ?_); refine goesL_ (some 52) rfl rfl Try.func74 (by kernel_rfl) rfl #[.string t129] rfl (by (try simp only [List.map_toArray, List.map_cons, List.map_nil]); first | done | rfl | (simp only [List.length_drop, List.length_take]; rfl)) ?_; (with_reducible refine (impl_sides.calls k t129 t132 t133 _ A16.out).mono ?_); rintro e w' ⟨rfl, ⟨nd, rfl⟩⟩; refine ⟨_, rfl, ?_⟩))
                go_ret2
                exact ⟨by first | rfl | (simp; done) | (simp [*]; done), by repeat (first | exact Drawn0.refl _ | apply Drawn0.step)⟩
              · rw [if_neg c21] at H
                exact absurd H (by simp)
            · rw [if_neg c20] at H
              exact absurd H (by simp)
          · rw [if_neg c19] at H
            exact absurd H (by simp)
        · rw [if_neg c18] at H
          exact absurd H (by simp)
      · rw [if_neg c17] at H
        exact absurd H (by simp)

/-! ### impl_rotate: function 36 -/
def impl_rotate.j0 : Nat → ByteArray → Int → Bool → Bool → Option (ByteArray × Int)
  | 0, _, _, _, _ => none
  | k + 1, x0, x1, x2, x14 => if x14 = true then (some ((⟨#[]⟩ : ByteArray), 2)) else ((impl_rotated.f k x0 x1 x2).bind fun bt136 => (if bt136.2 = true then (some (bt136.1, 0)) else (some ((⟨#[]⟩ : ByteArray), 5))))
def impl_rotate.f (k : Nat) (a0 : ByteArray) (a1 : Int) (a2 : Bool) : Option (ByteArray × Int) := (impl_IsBinary.f k a0).bind fun t134 => (if t134 = true then (if a1 < 0 then (impl_rotate.j0 k a0 a1 a2 true) else ((impl_nodesOf.f a0).bind fun t135 => (impl_rotate.j0 k a0 a1 a2 (decide (a1 ≥ t135))))) else (some ((⟨#[]⟩ : ByteArray), 1)))
theorem impl_rotate.mono_l : ∀ k, (∀ y0 y1 y2 y3, LeO (impl_rotate.j0 k y0 y1 y2 y3) (impl_rotate.j0 (k + 1) y0 y1 y2 y3))
  | 0 => fun _ _ _ _ r h => by simp [impl_rotate.j0] at h
  | k + 1 => by
    have ih0 := impl_rotate.mono_l k
    · intro y0 y1 y2 y3
      unfold impl_rotate.j0
      repeat' first
      | (with_reducible exact ih0 _ _ _ _)
      | (with_reducible exact impl_IsBinary.mono _ _)
      | (with_reducible exact impl_rotated.mono _ _ _ _)
      | (with_reducible exact LeO.refl _)
      | (with_reducible exact LeO.none _)
      | (with_reducible refine LeO.ite ?_ ?_)
      | (with_reducible refine LeO.bind ?_ (fun _ => ?_))
      | exact ih0 _ _ _ _
      | exact impl_IsBinary.mono _ _
      | exact impl_rotated.mono _ _ _ _
      | exact LeO.none _
      | refine LeO.ite ?_ ?_
      | refine LeO.bind ?_ (fun _ => ?_)
theorem impl_rotate.mono : ∀ a0 a1 a2 k, LeO (impl_rotate.f k a0 a1 a2) (impl_rotate.f (k + 1) a0 a1 a2) := by
  intro a0 a1 a2 k
  have ih0 := impl_rotate.mono_l k
  unfold impl_rotate.f
  repeat' first
      | (with_reducible exact ih0 _ _ _ _)
      | (with_reducible exact impl_IsBinary.mono _ _)
      | (with_reducible exact impl_rotated.mono _ _ _ _)
      | (with_reducible exact LeO.refl _)
      | (with_reducible exact LeO.none _)
      | (with_reducible refine LeO.ite ?_ ?_)
      | (with_reducible refine LeO.bind ?_ (fun _ => ?_))
      | exact ih0 _ _ _ _
      | exact impl_IsBinary.mono _ _
      | exact impl_rotated.mono _ _ _ _
      | exact LeO.none _
      | refine LeO.ite ?_ ?_
      | refine LeO.bind ?_ (fun _ => ?_)
set_option maxHeartbeats 8000000 in
set_option maxRecDepth 100000 in
theorem impl_rotate.calls (k : Nat) (a0 : ByteArray) (a1 : Int) (a2 : Bool) (r1 : ByteArray) (r2 : Int) (w : World) (h : impl_rotate.f k a0 a1 a2 = some (r1, r2)) :
    Calls Try.prog 36 #[.string a0, .int .i64 a1, .bool a2] w fun e w' => e = .returned (.tuple #[.string r1, .int .i64 r2]) ∧ Drawn0 w w' := by
  have H : ((impl_IsBinary.f k a0).bind fun t134 => (if t134 = true then (if a1 < 0 then (impl_rotate.j0 k a0 a1 a2 true) else ((impl_nodesOf.f a0).bind fun t135 => (impl_rotate.j0 k a0 a1 a2 (decide (a1 ≥ t135))))) else (some ((⟨#[]⟩ : ByteArray), 1)))) = some (r1, r2) := h
  clear h
  replace H := Option.bind_eq_some_iff.mp H
  obtain ⟨t134, A40, H⟩ := H
  replace H : (if t134 = true then (if a1 < 0 then (impl_rotate.j0 k a0 a1 a2 true) else ((impl_nodesOf.f a0).bind fun t135 => (impl_rotate.j0 k a0 a1 a2 (decide (a1 ≥ t135))))) else (some ((⟨#[]⟩ : ByteArray), 1))) = some (r1, r2) := H
  have A4 := Aside0.mk A40
  clear A40
  by_cases c5 : t134 = true
  · subst c5
    have H1 : (if a1 < 0 then (impl_rotate.j0 k a0 a1 a2 true) else ((impl_nodesOf.f a0).bind fun t135 => (impl_rotate.j0 k a0 a1 a2 (decide (a1 ≥ t135))))) = some (r1, r2) := by rw [if_pos rfl] at H; exact H
    clear H
    have H := H1
    clear H1
    have HC6 := Aside0.mk H
    clear H
    go_enter Try.func36, Try.ntmps36
    go_upto_region 3 with (first | ((with_reducible refine gate_callee (f := 39) rfl ?_); refine goesL_ (some 12) rfl rfl Try.func39 (by kernel_rfl) rfl #[.string a0] rfl (by (try simp only [List.map_toArray, List.map_cons, List.map_nil]); first | done | rfl | (simp only [List.length_drop, List.length_take]; rfl)) ?_; (with_reducible refine (impl_IsBinary.calls k a0 true _ A4.out).mono ?_); rintro e w' ⟨rfl, ⟨nd, rfl⟩⟩; refine ⟨_, rfl, ?_⟩))
    (try simp only [Act.put, List.setIfInBounds_toArray, List.set_cons_zero, List.set_cons_succ])
    go_cut [14] (fun v14 wc => ∃ (kq : Nat) (x14_5 : Bool), v14 = .bool x14_5 ∧ Aside0 (impl_rotate.j0 kq a0 a1 a2 x14_5 = some (r1, r2)) ∧ Aside0 (kq ≤ k) ∧ Drawn0 w wc)
    case first =>
      have H := HC6.out
      clear HC6
      by_cases c7 : a1 < 0
      · rw [if_pos c7] at H
        have c7b0 : decide (a1 < 0) = true := decide_eq_true c7
        clear c7
        (first | rw [c7b0] | (simp only [i64_w, i32_w]; rw [c7b0]) | skip)
        have H' := Aside0.mk H
        clear H
        go_wp2
        go_meet
        case rel => exact ⟨_, (true), (by first | rfl | (simp; done) | (simp [*]; done)), H', ⟨by first | omega | exact Nat.le_refl _⟩, by repeat (first | exact Drawn0.refl _ | apply Drawn0.step)⟩
      · rw [if_neg c7] at H
        have c7b0 : decide (a1 < 0) = false := decide_eq_false c7
        clear c7
        (first | rw [c7b0] | (simp only [i64_w, i32_w]; rw [c7b0]) | skip)
        replace H := Option.bind_eq_some_iff.mp H
        obtain ⟨t135, A80, H⟩ := H
        replace H : (impl_rotate.j0 k a0 a1 a2 (decide (a1 ≥ t135))) = some (r1, r2) := H
        have A8 := Aside0.mk A80
        clear A80
        have H' := Aside0.mk H
        clear H
        go_wp2_with (first | (go_at_call 71; (with_reducible refine (impl_nodesOf.calls a0 t135 _ A8.out).mono ?_); rintro e w' ⟨rfl, ⟨nd, rfl⟩⟩))
        go_meet
        case rel => exact ⟨_, (decide (a1 ≥ t135)), (by first | rfl | (simp; done) | (simp [*]; done)), H', ⟨by first | omega | exact Nat.le_refl _⟩, by repeat (first | exact Drawn0.refl _ | apply Drawn0.step)⟩
    case rest =>
      clear HC6
      try clear p2
      try clear c3
      try clear c5
      try clear c7
      try clear c7b0
      obtain ⟨kq, x14_5, rfl, HA, HJ5, ⟨mc5, rfl⟩⟩ := hcut
      cases kq with
      | zero => exact absurd HA.out (by simp [impl_rotate.j0])
      | succ kj5 =>
        have H := HA.out
        clear HA
        simp only [impl_rotate.j0] at H
        by_cases c9 : x14_5 = true
        · subst c9
          have H1 : (some ((⟨#[]⟩ : ByteArray), 2)) = some (r1, r2) := by rw [if_pos rfl] at H; exact H
          clear H
          have H := H1
          clear H1
          simp only [Option.some.injEq, Prod.mk.injEq] at H
          obtain ⟨rfl, rfl⟩ := H
          go_wp2
          go_ret2
          exact ⟨by first | rfl | (simp; done) | (simp [*]; done), by repeat (first | exact Drawn0.refl _ | apply Drawn0.step)⟩
        · replace c9 := Bool.eq_false_iff.mpr c9
          subst c9
          have H1 : ((impl_rotated.f kj5 a0 a1 a2).bind fun bt136 => (if bt136.2 = true then (some (bt136.1, 0)) else (some ((⟨#[]⟩ : ByteArray), 5)))) = some (r1, r2) := by rw [if_neg (show ¬ (false = true) by decide)] at H; exact H
          clear H
          have H := H1
          clear H1
          replace H := Option.bind_eq_some_iff.mp H
          obtain ⟨⟨t136, t137⟩, A100, H⟩ := H
          replace H : (if t137 = true then (some (t136, 0)) else (some ((⟨#[]⟩ : ByteArray), 5))) = some (r1, r2) := H
          have A10 := Aside0.mk A100
          clear A100
          by_cases c11 : t137 = true
          · subst c11
            have H1 : (some (t136, 0)) = some (r1, r2) := by rw [if_pos rfl] at H; exact H
            clear H
            have H := H1
            clear H1
            simp only [Option.some.injEq, Prod.mk.injEq] at H
            obtain ⟨rfl, rfl⟩ := H
            go_wp2_with (first | ((with_reducible refine gate_callee (f := 72) rfl ?_); refine goesL_ (some 27) rfl rfl Try.func72 (by kernel_rfl) rfl #[.string a0, .int .i64 a1, .bool a2] rfl (by (try simp only [List.map_toArray, List.map_cons, List.map_nil]); first | done | rfl | (simp only [List.length_drop, List.length_take]; rfl)) ?_; (with_reducible refine (impl_rotated.calls kj5 a0 a1 a2 t136 true _ A10.out).mono ?_); rintro e w' ⟨rfl, ⟨nd, rfl⟩⟩; refine ⟨_, rfl, ?_⟩))
            go_ret2
            exact ⟨by first | rfl | (simp; done) | (simp [*]; done), by repeat (first | exact Drawn0.refl _ | apply Drawn0.step)⟩
          · replace c11 := Bool.eq_false_iff.mpr c11
            subst c11
            have H1 : (some ((⟨#[]⟩ : ByteArray), 5)) = some (r1, r2) := by rw [if_neg (show ¬ (false = true) by decide)] at H; exact H
            clear H
            have H := H1
            clear H1
            simp only [Option.some.injEq, Prod.mk.injEq] at H
            obtain ⟨rfl, rfl⟩ := H
            go_wp2_with (first | ((with_reducible refine gate_callee (f := 72) rfl ?_); refine goesL_ (some 27) rfl rfl Try.func72 (by kernel_rfl) rfl #[.string a0, .int .i64 a1, .bool a2] rfl (by (try simp only [List.map_toArray, List.map_cons, List.map_nil]); first | done | rfl | (simp only [List.length_drop, List.length_take]; rfl)) ?_; (with_reducible refine (impl_rotated.calls kj5 a0 a1 a2 t136 false _ A10.out).mono ?_); rintro e w' ⟨rfl, ⟨nd, rfl⟩⟩; refine ⟨_, rfl, ?_⟩))
            go_ret2
            exact ⟨by first | rfl | (simp; done) | (simp [*]; done), by repeat (first | exact Drawn0.refl _ | apply Drawn0.step)⟩
  · replace c5 := Bool.eq_false_iff.mpr c5
    subst c5
    have H1 : (some ((⟨#[]⟩ : ByteArray), 1)) = some (r1, r2) := by rw [if_neg (show ¬ (false = true) by decide)] at H; exact H
    clear H
    have H := H1
    clear H1
    simp only [Option.some.injEq, Prod.mk.injEq] at H
    obtain ⟨rfl, rfl⟩ := H
    go_enter Try.func36, Try.ntmps36
    go_wp2_with (first | ((with_reducible refine gate_callee (f := 39) rfl ?_); refine goesL_ (some 12) rfl rfl Try.func39 (by kernel_rfl) rfl #[.string a0] rfl (by (try simp only [List.map_toArray, List.map_cons, List.map_nil]); first | done | rfl | (simp only [List.length_drop, List.length_take]; rfl)) ?_; (with_reducible refine (impl_IsBinary.calls k a0 false _ A4.out).mono ?_); rintro e w' ⟨rfl, ⟨nd, rfl⟩⟩; refine ⟨_, rfl, ?_⟩))
    go_ret2
    exact ⟨by first | rfl | (simp; done) | (simp [*]; done), by repeat (first | exact Drawn0.refl _ | apply Drawn0.step)⟩

end Go.Proofs.Ytgbhlmmmighanaa.E
