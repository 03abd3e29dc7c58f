/- The row of the law FnExactCombineAutomata, out of its pure statement. -/
import Derived.Test.YtpbfideppdmceaaQCMEx0
import Derived.Test.YtpbfideppdmceaaQCMEx7
import Derived.Test.YtpbfideppdmceaaQCML
-- Written by wip/ext.py of this claim (contracts by the form of the kit's print; hand-written ones among them).
namespace Go.Proofs.Ytpbfideppdmceaa.E
open Go.RowKit Go.Proofs.YtpbfideppdmceaaW.PrintWords Go.Proofs.YtpbfideppdmceaaW.PrintLast Go.Proofs.YtpbfideppdmceaaW.PrintMore Go.Proofs.Ytpbfideppdmceaa.Mi
attribute [local go_sem] max2_int min2_int max_two min_two max_three min_three max_four min_four   -- for this text's walks alone
set_option linter.unusedVariables false
set_option linter.unusedSimpArgs false

def laws_heldInt64SS.l0 : Nat → List (List Int) → Int → Int → Option (Int)
  | 0, _, _, _ => none
  | k + 1, x0, x1, x5 => if x5 < (x0.length : Int) then (if 0 ≤ x5 then ((laws_heldInt64S.f k (rd_L1 x0 x5) x1).bind fun t336 => (if t336 < 0 then (some (-1)) else (laws_heldInt64SS.l0 k x0 t336 (wrap64 (x5 + 1))))) else (none)) else (some x1)
def laws_heldInt64SS.f (k : Nat) (l0 : List (List Int)) (a1 : Int) : Option (Int) := laws_heldInt64SS.l0 k l0 a1 0
set_option maxHeartbeats 8000000 in
set_option maxRecDepth 100000 in
theorem laws_heldInt64SS.calls (k : Nat) (A0 : Option Addr) (c0 : Nat) (l0 : List (List Int)) (a1 : Int) (r : Int) (w : World) (hr0 : Kd.C (Kd.slice 2 (Kd.int .i64)) w A0 l0.length l0) (hc0 : l0.length ≤ c0) (h : laws_heldInt64SS.f k l0 a1 = some r) :
    Calls Try.prog 31 #[.slice A0 l0.length c0, .int .i64 a1] w fun e w' => e = .returned (.int .i64 r) ∧ Drawn0 w w' := by
  have HR0 := as_ hr0
  have HC0 := as_ hc0
  clear hr0 hc0
  have H : (laws_heldInt64SS.l0 k l0 a1 0) = some r := h
  clear h
  have H' := as_ H
  clear H
  go_enter Try.func31, Try.ntmps31
  go_wp2
  go_loopg [1, 5] k (fun kq v1 v5 w' => ∃ (x1_1 : Int) (x5_1 : Int), v1 = .int .i64 x1_1 ∧ v5 = .int .i64 x5_1 ∧ Aside0 (laws_heldInt64SS.l0 kq l0 x1_1 x5_1 = some r) ∧ Aside0 (kq ≤ k) ∧ Drawn0 w w')
  case atStart => exact ⟨(a1), (0), rf_, rf_, H', ⟨Nat.le_refl _⟩, by repeat (first | exact Drawn0.refl _ | apply Drawn0.step)⟩
  case round =>
    clear H'
    try clear p2
    obtain ⟨x1_1, x5_1, rfl, rfl, HA, HK1, ⟨m1, rfl⟩⟩ := hrel
    cases gk with
    | zero => exact absurd HA.out (by simp [laws_heldInt64SS.l0])
    | succ k1 =>
      have H := HA.out
      clear HA
      simp only [laws_heldInt64SS.l0] at H
      by_cases c3 : x5_1 < (l0.length : Int)
      rotate_left
      · rw [if_neg c3] at H
        have c3b0 := decide_eq_false c3
        clear c3
        obtain rfl := Option.some.inj H
        go_wp2
        go_ret
        exact ⟨rf_, by repeat (first | exact Drawn0.refl _ | apply Drawn0.step)⟩
      rw [if_pos c3] at H
      have c3b0 := decide_eq_true c3
      clear c3
      obtain ⟨c4b0, H⟩ := ite_d H
      obtain ⟨t336, A5, H⟩ := bo_ H
      by_cases c6 : t336 < 0
      · rw [if_pos c6] at H
        have c6b0 := decide_eq_true c6
        clear c6
        obtain rfl := Option.some.inj H
        have p335 : 0 ≤ (x5_1 : Int) := od_
        have q335 : x5_1 < (l0.length : Int) := od_
        obtain ⟨ad335, A335_0, c335_0, e335, hx335_0, hl335_0, hi335_0⟩ := at_L1 HR0.out x5_1 p335 q335
        cases e335
        have HR335_0 := as_ hi335_0
        have HC335_0 := as_ hl335_0
        clear hi335_0 hl335_0
        replace p335 := eq_true p335
        replace q335 := eq_true q335
        go_wp2_with (first | ((with_reducible refine gate_callee (f := 32) rfl ?_); refine gL_ 17 Try.func32 #[.slice A335_0 (rd_L1 l0 x5_1).length c335_0, .int .i64 x1_1] ?_; (with_reducible refine (laws_heldInt64S.calls k1 _ _ (rd_L1 l0 x5_1) x1_1 t336 _ ?side1 ?side2 A5.out).mono ?_); (case side1 => exact cC_ HR335_0.out); (case side2 => exact HC335_0.out); rintro e w' ⟨rfl, ⟨nd, rfl⟩⟩; refine ⟨_, rfl, ?_⟩))
        go_ret
        exact ⟨rf_, by repeat (first | exact Drawn0.refl _ | apply Drawn0.step)⟩
      rw [if_neg c6] at H
      have c6b0 := decide_eq_false c6
      clear c6
      have H' := as_ H
      clear H
      have p335 : 0 ≤ (x5_1 : Int) := od_
      have q335 : x5_1 < (l0.length : Int) := od_
      obtain ⟨ad335, A335_0, c335_0, e335, hx335_0, hl335_0, hi335_0⟩ := at_L1 HR0.out x5_1 p335 q335
      cases e335
      have HR335_0 := as_ hi335_0
      have HC335_0 := as_ hl335_0
      clear hi335_0 hl335_0
      replace p335 := eq_true p335
      replace q335 := eq_true q335
      go_wp2_with (first | ((with_reducible refine gate_callee (f := 32) rfl ?_); refine gL_ 17 Try.func32 #[.slice A335_0 (rd_L1 l0 x5_1).length c335_0, .int .i64 x1_1] ?_; (with_reducible refine (laws_heldInt64S.calls k1 _ _ (rd_L1 l0 x5_1) x1_1 t336 _ ?side1 ?side2 A5.out).mono ?_); (case side1 => exact cC_ HR335_0.out); (case side2 => exact HC335_0.out); rintro e w' ⟨rfl, ⟨nd, rfl⟩⟩; refine ⟨_, rfl, ?_⟩))
      go_roundg k1
      case measure => have := HK1.out; omega
      case rel => exact ⟨(t336), (wrap64 (x5_1 + 1)), rf_, rf_, H', om_ HK1, by repeat (first | exact Drawn0.refl _ | apply Drawn0.step)⟩

def laws_heldAutomaton.f (k : Nat) (a0_0 : Int) (l0_1 : List (List Int)) (l0_2 : List Int) (a1 : Int) : Option (Int) := (laws_heldInt64SS.f k l0_1 a1).bind fun t338 => (if t338 < 0 then (some (-1)) else ((laws_heldInt64S.f k l0_2 t338).bind fun t339 => (if t339 < 0 then (some (-1)) else (some t339))))
set_option maxHeartbeats 8000000 in
set_option maxRecDepth 100000 in
theorem laws_heldAutomaton.calls (k : Nat) (a0_0 : Int) (A0_1 : Option Addr) (c0_1 : Nat) (l0_1 : List (List Int)) (A0_2 : Option Addr) (c0_2 : Nat) (l0_2 : List Int) (a1 : Int) (r : Int) (w : World) (hr0_1 : Kd.C (Kd.slice 2 (Kd.int .i64)) w A0_1 l0_1.length l0_1) (hc0_1 : l0_1.length ≤ c0_1) (hr0_2 : Kd.C (Kd.int .i64) w A0_2 l0_2.length l0_2) (hc0_2 : l0_2.length ≤ c0_2) (h : laws_heldAutomaton.f k a0_0 l0_1 l0_2 a1 = some r) :
    Calls Try.prog 13 #[.agg #[.int .i64 a0_0, .slice A0_1 l0_1.length c0_1, .slice A0_2 l0_2.length c0_2], .int .i64 a1] w fun e w' => e = .returned (.int .i64 r) ∧ Below w.heap.size w w' := by
  have hu29 := Try.underlying29
  have HR0_1 := as_ hr0_1
  have HC0_1 := as_ hc0_1
  clear hr0_1 hc0_1
  have HR0_2 := as_ hr0_2
  have HC0_2 := as_ hc0_2
  clear hr0_2 hc0_2
  have HB := as_ (Below.refl w.heap.size w)
  have H : ((laws_heldInt64SS.f k l0_1 a1).bind fun t338 => (if t338 < 0 then (some (-1)) else ((laws_heldInt64S.f k l0_2 t338).bind fun t339 => (if t339 < 0 then (some (-1)) else (some t339))))) = some r := h
  clear h
  obtain ⟨t338, A3, H⟩ := bo_ H
  by_cases c4 : t338 < 0
  · rw [if_pos c4] at H
    have c4b0 := decide_eq_true c4
    clear c4
    obtain rfl := Option.some.inj H
    go_enter Try.func13, Try.ntmps13
    go_wp2_with (first | ((with_reducible refine gate_dst (N := 2) rfl ?_); refine bx_ 2 #[.int .i64 a0_0, .slice A0_1 l0_1.length c0_1, .slice A0_2 l0_2.length c0_2] 29 ?_; intro gb337 hg w5 hbox hb; have BK337 := as_ (hbox); have GW337 := gz_ hg (b_ HB); have GE337 := GW337; replace HB := as_ (below_step (b_ HB) hb); clear hb hbox hg; obtain ⟨hcz6_0, hfz6_0, hcz6_1, hfz6_1, hcz6_2, hfz6_2⟩ := tc3_ BK337) | ((with_reducible refine gate_callee (f := 31) rfl ?_); refine gL_ 8 Try.func31 #[.slice A0_1 l0_1.length c0_1, .int .i64 a1] ?_; (with_reducible refine (laws_heldInt64SS.calls k _ _ l0_1 a1 t338 _ ?side1 ?side2 A3.out).mono ?_); (case side1 => exact bC_ HR0_1 HB); (case side2 => exact HC0_1.out); rintro e w' ⟨rfl, ⟨nd, rfl⟩⟩; refine ⟨_, rfl, ?_⟩))
    go_ret
    exact ⟨re_, b1_ HB GE337⟩
  rw [if_neg c4] at H
  have c4b0 := decide_eq_false c4
  clear c4
  obtain ⟨t339, A7, H⟩ := bo_ H
  by_cases c8 : t339 < 0
  · rw [if_pos c8] at H
    have c8b0 := decide_eq_true c8
    clear c8
    obtain rfl := Option.some.inj H
    go_enter Try.func13, Try.ntmps13
    go_wp2_with (first | ((with_reducible refine gate_dst (N := 2) rfl ?_); refine bx_ 2 #[.int .i64 a0_0, .slice A0_1 l0_1.length c0_1, .slice A0_2 l0_2.length c0_2] 29 ?_; intro gb337 hg w9 hbox hb; have BK337 := as_ (hbox); have GW337 := gz_ hg (b_ HB); have GE337 := GW337; replace HB := as_ (below_step (b_ HB) hb); clear hb hbox hg; obtain ⟨hcz10_0, hfz10_0, hcz10_1, hfz10_1, hcz10_2, hfz10_2⟩ := tc3_ BK337) | ((with_reducible refine gate_callee (f := 31) rfl ?_); refine gL_ 8 Try.func31 #[.slice A0_1 l0_1.length c0_1, .int .i64 a1] ?_; (with_reducible refine (laws_heldInt64SS.calls k _ _ l0_1 a1 t338 _ ?side1 ?side2 A3.out).mono ?_); (case side1 => exact bC_ HR0_1 HB); (case side2 => exact HC0_1.out); rintro e w' ⟨rfl, ⟨nd, rfl⟩⟩; refine ⟨_, rfl, ?_⟩) | ((with_reducible refine gate_callee (f := 32) rfl ?_); refine gL_ 14 Try.func32 #[.slice A0_2 l0_2.length c0_2, .int .i64 t338] ?_; (with_reducible refine (laws_heldInt64S.calls k _ _ l0_2 t338 t339 _ ?side1 ?side2 A7.out).mono ?_); (case side1 => repeat (first | exact (Kd.C_below HR0_2.out (b1_ HB GE337)) | (with_reducible refine Kd.C_alloc ?_ _) | (with_reducible refine Kd.C_drewN ?_ _) | (with_reducible refine Kd.C_drew ?_))); (case side2 => exact HC0_2.out); rintro e w' ⟨rfl, ⟨nd, rfl⟩⟩; refine ⟨_, rfl, ?_⟩))
    go_ret
    exact ⟨re_, b1_ HB GE337⟩
  rw [if_neg c8] at H
  have c8b0 := decide_eq_false c8
  clear c8
  obtain rfl := Option.some.inj H
  go_enter Try.func13, Try.ntmps13
  go_wp2_with (first | ((with_reducible refine gate_dst (N := 2) rfl ?_); refine bx_ 2 #[.int .i64 a0_0, .slice A0_1 l0_1.length c0_1, .slice A0_2 l0_2.length c0_2] 29 ?_; intro gb337 hg w11 hbox hb; have BK337 := as_ (hbox); have GW337 := gz_ hg (b_ HB); have GE337 := GW337; replace HB := as_ (below_step (b_ HB) hb); clear hb hbox hg; obtain ⟨hcz12_0, hfz12_0, hcz12_1, hfz12_1, hcz12_2, hfz12_2⟩ := tc3_ BK337) | ((with_reducible refine gate_callee (f := 31) rfl ?_); refine gL_ 8 Try.func31 #[.slice A0_1 l0_1.length c0_1, .int .i64 a1] ?_; (with_reducible refine (laws_heldInt64SS.calls k _ _ l0_1 a1 t338 _ ?side1 ?side2 A3.out).mono ?_); (case side1 => exact bC_ HR0_1 HB); (case side2 => exact HC0_1.out); rintro e w' ⟨rfl, ⟨nd, rfl⟩⟩; refine ⟨_, rfl, ?_⟩) | ((with_reducible refine gate_callee (f := 32) rfl ?_); refine gL_ 14 Try.func32 #[.slice A0_2 l0_2.length c0_2, .int .i64 t338] ?_; (with_reducible refine (laws_heldInt64S.calls k _ _ l0_2 t338 t339 _ ?side1 ?side2 A7.out).mono ?_); (case side1 => repeat (first | exact (Kd.C_below HR0_2.out (b1_ HB GE337)) | (with_reducible refine Kd.C_alloc ?_ _) | (with_reducible refine Kd.C_drewN ?_ _) | (with_reducible refine Kd.C_drew ?_))); (case side2 => exact HC0_2.out); rintro e w' ⟨rfl, ⟨nd, rfl⟩⟩; refine ⟨_, rfl, ?_⟩))
  go_ret
  exact ⟨re_, b1_ HB GE337⟩

end Go.Proofs.Ytpbfideppdmceaa.E
