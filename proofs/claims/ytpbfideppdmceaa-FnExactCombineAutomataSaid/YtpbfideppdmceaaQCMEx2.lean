/- The row of the law FnExactCombineAutomata, out of its pure statement. -/
import Derived.Test.YtpbfideppdmceaaQCMEx0
import Derived.Test.YtpbfideppdmceaaQCML
-- Written by wip/ext.py of this claim (contracts by the form of the kit's print; hand-written ones among them).
namespace Go.Proofs.Ytpbfideppdmceaa.E
open Go.RowKit Go.Proofs.YtpbfideppdmceaaW.PrintWords Go.Proofs.YtpbfideppdmceaaW.PrintLast Go.Proofs.YtpbfideppdmceaaW.PrintMore Go.Proofs.Ytpbfideppdmceaa.Mi
attribute [local go_sem] max2_int min2_int max_two min_two max_three min_three max_four min_four   -- for this text's walks alone
set_option linter.unusedVariables false
set_option linter.unusedSimpArgs false

def laws_szInt64S.f (l0 : List Int) (a1 : Int) : Option (Int) := if (wrap64 (a1 - (l0.length : Int))) < 0 then (some (-1)) else (some (wrap64 (a1 - (l0.length : Int))))
set_option maxHeartbeats 8000000 in
set_option maxRecDepth 100000 in
theorem laws_szInt64S.calls (A0 : Option Addr) (c0 : Nat) (l0 : List Int) (a1 : Int) (r : Int) (w : World) (hr0 : Kd.C (Kd.int .i64) w A0 l0.length l0) (hc0 : l0.length ≤ c0) (h : laws_szInt64S.f l0 a1 = some r) :
    Calls Try.prog 15 #[.slice A0 l0.length c0, .int .i64 a1] w fun e w' => e = .returned (.int .i64 r) ∧ Drawn0 w w' := by
  have HR0 := as_ hr0
  have HC0 := as_ hc0
  clear hr0 hc0
  have H : (if (wrap64 (a1 - (l0.length : Int))) < 0 then (some (-1)) else (some (wrap64 (a1 - (l0.length : Int))))) = some r := h
  clear h
  by_cases c3 : (wrap64 (a1 - (l0.length : Int))) < 0
  · rw [if_pos c3] at H
    have c3b0 := decide_eq_true c3
    clear c3
    obtain rfl := Option.some.inj H
    go_enter Try.func15, Try.ntmps15
    go_wp2
    go_ret
    exact ⟨rf_, by repeat (first | exact Drawn0.refl _ | apply Drawn0.step)⟩
  rw [if_neg c3] at H
  have c3b0 := decide_eq_false c3
  clear c3
  obtain rfl := Option.some.inj H
  go_enter Try.func15, Try.ntmps15
  go_wp2
  go_ret
  exact ⟨rf_, by repeat (first | exact Drawn0.refl _ | apply Drawn0.step)⟩

def laws_szInt64SS.l0 : Nat → List (List Int) → Int → Int → Option (Int)
  | 0, _, _, _ => none
  | k + 1, x0, x1, x5 => if x5 < (x0.length : Int) then (if 0 ≤ x5 then ((laws_szInt64S.f (rd_L1 x0 x5) x1).bind fun t102 => (if t102 < 0 then (some (-1)) else (laws_szInt64SS.l0 k x0 t102 (wrap64 (x5 + 1))))) else (none)) else (some x1)
def laws_szInt64SS.f (k : Nat) (l0 : List (List Int)) (a1 : Int) : Option (Int) := if (wrap64 (a1 - (l0.length : Int))) < 0 then (some (-1)) else (laws_szInt64SS.l0 k l0 (wrap64 (a1 - (l0.length : Int))) 0)
set_option maxHeartbeats 8000000 in
set_option maxRecDepth 100000 in
theorem laws_szInt64SS.calls (k : Nat) (A0 : Option Addr) (c0 : Nat) (l0 : List (List Int)) (a1 : Int) (r : Int) (w : World) (hr0 : Kd.C (Kd.slice 2 (Kd.int .i64)) w A0 l0.length l0) (hc0 : l0.length ≤ c0) (h : laws_szInt64SS.f k l0 a1 = some r) :
    Calls Try.prog 14 #[.slice A0 l0.length c0, .int .i64 a1] w fun e w' => e = .returned (.int .i64 r) ∧ Drawn0 w w' := by
  have HR0 := as_ hr0
  have HC0 := as_ hc0
  clear hr0 hc0
  have H : (if (wrap64 (a1 - (l0.length : Int))) < 0 then (some (-1)) else (laws_szInt64SS.l0 k l0 (wrap64 (a1 - (l0.length : Int))) 0)) = some r := h
  clear h
  by_cases c3 : (wrap64 (a1 - (l0.length : Int))) < 0
  · rw [if_pos c3] at H
    have c3b0 := decide_eq_true c3
    clear c3
    obtain rfl := Option.some.inj H
    go_enter Try.func14, Try.ntmps14
    go_wp2
    go_ret
    exact ⟨rf_, by repeat (first | exact Drawn0.refl _ | apply Drawn0.step)⟩
  rw [if_neg c3] at H
  have c3b0 := decide_eq_false c3
  clear c3
  have H' := as_ H
  clear H
  go_enter Try.func14, Try.ntmps14
  go_wp2
  go_loopg [1, 5] k (fun kq v1 v5 w' => ∃ (x1_1 : Int) (x5_1 : Int), v1 = .int .i64 x1_1 ∧ v5 = .int .i64 x5_1 ∧ Aside0 (laws_szInt64SS.l0 kq l0 x1_1 x5_1 = some r) ∧ Aside0 (kq ≤ k) ∧ Drawn0 w w')
  case atStart => exact ⟨(wrap64 (a1 - (l0.length : Int))), (0), rf_, rf_, H', ⟨Nat.le_refl _⟩, by repeat (first | exact Drawn0.refl _ | apply Drawn0.step)⟩
  case round =>
    clear H'
    (try clear c1); (try clear p2); (try clear c3); (try clear c3b0)
    obtain ⟨x1_1, x5_1, rfl, rfl, HA, HK1, ⟨m1, rfl⟩⟩ := hrel
    cases gk with
    | zero => exact absurd HA.out (by simp [laws_szInt64SS.l0])
    | succ k1 =>
      have H := HA.out
      clear HA
      simp only [laws_szInt64SS.l0] at H
      by_cases c4 : x5_1 < (l0.length : Int)
      rotate_left
      · rw [if_neg c4] at H
        have c4b0 := decide_eq_false c4
        clear c4
        obtain rfl := Option.some.inj H
        go_wp2
        go_ret
        exact ⟨rf_, by repeat (first | exact Drawn0.refl _ | apply Drawn0.step)⟩
      rw [if_pos c4] at H
      have c4b0 := decide_eq_true c4
      clear c4
      obtain ⟨c5b0, H⟩ := ite_d H
      obtain ⟨t102, A6, H⟩ := bo_ H
      by_cases c7 : t102 < 0
      · rw [if_pos c7] at H
        have c7b0 := decide_eq_true c7
        clear c7
        obtain rfl := Option.some.inj H
        have p101 : 0 ≤ (x5_1 : Int) := od_
        have q101 : x5_1 < (l0.length : Int) := od_
        obtain ⟨ad101, A101_0, c101_0, e101, hx101_0, hl101_0, hi101_0⟩ := at_L1 HR0.out x5_1 p101 q101
        cases e101
        have HR101_0 := as_ hi101_0
        have HC101_0 := as_ hl101_0
        clear hi101_0 hl101_0
        replace p101 := eq_true p101
        replace q101 := eq_true q101
        go_wp2_with (first | ((with_reducible refine gate_callee (f := 15) rfl ?_); refine gL_ 23 Try.func15 #[.slice A101_0 (rd_L1 l0 x5_1).length c101_0, .int .i64 x1_1] ?_; (with_reducible refine (laws_szInt64S.calls _ _ (rd_L1 l0 x5_1) x1_1 t102 _ ?side1 ?side2 A6.out).mono ?_); (case side1 => exact cC_ HR101_0.out); (case side2 => exact HC101_0.out); rintro e w' ⟨rfl, ⟨nd, rfl⟩⟩; refine ⟨_, rfl, ?_⟩))
        go_ret
        exact ⟨rf_, by repeat (first | exact Drawn0.refl _ | apply Drawn0.step)⟩
      rw [if_neg c7] at H
      have c7b0 := decide_eq_false c7
      clear c7
      have H' := as_ H
      clear H
      have p101 : 0 ≤ (x5_1 : Int) := od_
      have q101 : x5_1 < (l0.length : Int) := od_
      obtain ⟨ad101, A101_0, c101_0, e101, hx101_0, hl101_0, hi101_0⟩ := at_L1 HR0.out x5_1 p101 q101
      cases e101
      have HR101_0 := as_ hi101_0
      have HC101_0 := as_ hl101_0
      clear hi101_0 hl101_0
      replace p101 := eq_true p101
      replace q101 := eq_true q101
      go_wp2_with (first | ((with_reducible refine gate_callee (f := 15) rfl ?_); refine gL_ 23 Try.func15 #[.slice A101_0 (rd_L1 l0 x5_1).length c101_0, .int .i64 x1_1] ?_; (with_reducible refine (laws_szInt64S.calls _ _ (rd_L1 l0 x5_1) x1_1 t102 _ ?side1 ?side2 A6.out).mono ?_); (case side1 => exact cC_ HR101_0.out); (case side2 => exact HC101_0.out); rintro e w' ⟨rfl, ⟨nd, rfl⟩⟩; refine ⟨_, rfl, ?_⟩))
      go_roundg k1
      case measure => have := HK1.out; omega
      case rel => exact ⟨(t102), (wrap64 (x5_1 + 1)), rf_, rf_, H', om_ HK1, by repeat (first | exact Drawn0.refl _ | apply Drawn0.step)⟩

def laws_szAutomaton.f (k : Nat) (a0_0 : Int) (l0_1 : List (List Int)) (l0_2 : List Int) (a1 : Int) : Option (Int) := (laws_szInt64SS.f k l0_1 a1).bind fun t104 => (if t104 < 0 then (some (-1)) else ((laws_szInt64S.f l0_2 t104).bind fun t105 => (if t105 < 0 then (some (-1)) else (some t105))))
set_option maxHeartbeats 8000000 in
set_option maxRecDepth 100000 in
theorem laws_szAutomaton.calls (k : Nat) (a0_0 : Int) (A0_1 : Option Addr) (c0_1 : Nat) (l0_1 : List (List Int)) (A0_2 : Option Addr) (c0_2 : Nat) (l0_2 : List Int) (a1 : Int) (r : Int) (w : World) (hr0_1 : Kd.C (Kd.slice 2 (Kd.int .i64)) w A0_1 l0_1.length l0_1) (hc0_1 : l0_1.length ≤ c0_1) (hr0_2 : Kd.C (Kd.int .i64) w A0_2 l0_2.length l0_2) (hc0_2 : l0_2.length ≤ c0_2) (h : laws_szAutomaton.f k a0_0 l0_1 l0_2 a1 = some r) :
    Calls Try.prog 5 #[.agg #[.int .i64 a0_0, .slice A0_1 l0_1.length c0_1, .slice A0_2 l0_2.length c0_2], .int .i64 a1] w fun e w' => e = .returned (.int .i64 r) ∧ Below w.heap.size w w' := by
  have hu25 := Try.underlying25
  have HR0_1 := as_ hr0_1
  have HC0_1 := as_ hc0_1
  clear hr0_1 hc0_1
  have HR0_2 := as_ hr0_2
  have HC0_2 := as_ hc0_2
  clear hr0_2 hc0_2
  have HB := as_ (Below.refl w.heap.size w)
  have H : ((laws_szInt64SS.f k l0_1 a1).bind fun t104 => (if t104 < 0 then (some (-1)) else ((laws_szInt64S.f l0_2 t104).bind fun t105 => (if t105 < 0 then (some (-1)) else (some t105))))) = some r := h
  clear h
  obtain ⟨t104, A3, H⟩ := bo_ H
  by_cases c4 : t104 < 0
  · rw [if_pos c4] at H
    have c4b0 := decide_eq_true c4
    clear c4
    obtain rfl := Option.some.inj H
    go_enter Try.func5, Try.ntmps5
    go_wp2_with (first | ((with_reducible refine gate_dst (N := 2) rfl ?_); refine bx_ 2 #[.int .i64 a0_0, .slice A0_1 l0_1.length c0_1, .slice A0_2 l0_2.length c0_2] 25 ?_; intro gb103 hg w5 hbox hb; have BK103 := as_ (hbox); have GW103 := gz_ hg (b_ HB); have GE103 := GW103; replace HB := as_ (below_step (b_ HB) hb); clear hb hbox hg; obtain ⟨hcz6_0, hfz6_0, hcz6_1, hfz6_1, hcz6_2, hfz6_2⟩ := tc3_ BK103) | ((with_reducible refine gate_callee (f := 14) rfl ?_); refine gL_ 8 Try.func14 #[.slice A0_1 l0_1.length c0_1, .int .i64 a1] ?_; (with_reducible refine (laws_szInt64SS.calls k _ _ l0_1 a1 t104 _ ?side1 ?side2 A3.out).mono ?_); (case side1 => exact bC_ HR0_1 HB); (case side2 => exact HC0_1.out); rintro e w' ⟨rfl, ⟨nd, rfl⟩⟩; refine ⟨_, rfl, ?_⟩))
    go_ret
    exact ⟨re_, b1_ HB GE103⟩
  rw [if_neg c4] at H
  have c4b0 := decide_eq_false c4
  clear c4
  obtain ⟨t105, A7, H⟩ := bo_ H
  by_cases c8 : t105 < 0
  · rw [if_pos c8] at H
    have c8b0 := decide_eq_true c8
    clear c8
    obtain rfl := Option.some.inj H
    go_enter Try.func5, Try.ntmps5
    go_wp2_with (first | ((with_reducible refine gate_dst (N := 2) rfl ?_); refine bx_ 2 #[.int .i64 a0_0, .slice A0_1 l0_1.length c0_1, .slice A0_2 l0_2.length c0_2] 25 ?_; intro gb103 hg w9 hbox hb; have BK103 := as_ (hbox); have GW103 := gz_ hg (b_ HB); have GE103 := GW103; replace HB := as_ (below_step (b_ HB) hb); clear hb hbox hg; obtain ⟨hcz10_0, hfz10_0, hcz10_1, hfz10_1, hcz10_2, hfz10_2⟩ := tc3_ BK103) | ((with_reducible refine gate_callee (f := 14) rfl ?_); refine gL_ 8 Try.func14 #[.slice A0_1 l0_1.length c0_1, .int .i64 a1] ?_; (with_reducible refine (laws_szInt64SS.calls k _ _ l0_1 a1 t104 _ ?side1 ?side2 A3.out).mono ?_); (case side1 => exact bC_ HR0_1 HB); (case side2 => exact HC0_1.out); rintro e w' ⟨rfl, ⟨nd, rfl⟩⟩; refine ⟨_, rfl, ?_⟩) | ((with_reducible refine gate_callee (f := 15) rfl ?_); refine gL_ 14 Try.func15 #[.slice A0_2 l0_2.length c0_2, .int .i64 t104] ?_; (with_reducible refine (laws_szInt64S.calls _ _ l0_2 t104 t105 _ ?side1 ?side2 A7.out).mono ?_); (case side1 => repeat (first | exact (Kd.C_below HR0_2.out (b1_ HB GE103)) | (with_reducible refine Kd.C_alloc ?_ _) | (with_reducible refine Kd.C_drewN ?_ _) | (with_reducible refine Kd.C_drew ?_))); (case side2 => exact HC0_2.out); rintro e w' ⟨rfl, ⟨nd, rfl⟩⟩; refine ⟨_, rfl, ?_⟩))
    go_ret
    exact ⟨re_, b1_ HB GE103⟩
  rw [if_neg c8] at H
  have c8b0 := decide_eq_false c8
  clear c8
  obtain rfl := Option.some.inj H
  go_enter Try.func5, Try.ntmps5
  go_wp2_with (first | ((with_reducible refine gate_dst (N := 2) rfl ?_); refine bx_ 2 #[.int .i64 a0_0, .slice A0_1 l0_1.length c0_1, .slice A0_2 l0_2.length c0_2] 25 ?_; intro gb103 hg w11 hbox hb; have BK103 := as_ (hbox); have GW103 := gz_ hg (b_ HB); have GE103 := GW103; replace HB := as_ (below_step (b_ HB) hb); clear hb hbox hg; obtain ⟨hcz12_0, hfz12_0, hcz12_1, hfz12_1, hcz12_2, hfz12_2⟩ := tc3_ BK103) | ((with_reducible refine gate_callee (f := 14) rfl ?_); refine gL_ 8 Try.func14 #[.slice A0_1 l0_1.length c0_1, .int .i64 a1] ?_; (with_reducible refine (laws_szInt64SS.calls k _ _ l0_1 a1 t104 _ ?side1 ?side2 A3.out).mono ?_); (case side1 => exact bC_ HR0_1 HB); (case side2 => exact HC0_1.out); rintro e w' ⟨rfl, ⟨nd, rfl⟩⟩; refine ⟨_, rfl, ?_⟩) | ((with_reducible refine gate_callee (f := 15) rfl ?_); refine gL_ 14 Try.func15 #[.slice A0_2 l0_2.length c0_2, .int .i64 t104] ?_; (with_reducible refine (laws_szInt64S.calls _ _ l0_2 t104 t105 _ ?side1 ?side2 A7.out).mono ?_); (case side1 => repeat (first | exact (Kd.C_below HR0_2.out (b1_ HB GE103)) | (with_reducible refine Kd.C_alloc ?_ _) | (with_reducible refine Kd.C_drewN ?_ _) | (with_reducible refine Kd.C_drew ?_))); (case side2 => exact HC0_2.out); rintro e w' ⟨rfl, ⟨nd, rfl⟩⟩; refine ⟨_, rfl, ?_⟩))
  go_ret
  exact ⟨re_, b1_ HB GE103⟩

def laws_toInt64S.l0 : Nat → List Int → List Int → Int → Option (List Int)
  | 0, _, _, _ => none
  | k + 1, x0, x3, x4 => if x4 < (x0.length : Int) then (if 0 ≤ x4 then (if x4 < (x3.length : Int) then (laws_toInt64S.l0 k x0 (x3.set (x4 : Int).toNat (rd x0 x4)) (wrap64 (x4 + 1))) else (none)) else (none)) else (some x3)
def laws_toInt64S.f (k : Nat) (l0 : List Int) : Option (List Int) := if 0 ≤ (l0.length : Int) then (if ((l0.length : Int) : Int).toNat ≤ 35184372088832 then (laws_toInt64S.l0 k l0 (List.replicate ((l0.length : Int) : Int).toNat 0) 0) else (none)) else (none)
set_option maxHeartbeats 8000000 in
set_option maxRecDepth 100000 in
theorem laws_toInt64S.calls (k : Nat) (A0 : Option Addr) (c0 : Nat) (l0 : List Int) (r : List Int) (w : World) (hr0 : Kd.C (Kd.int .i64) w A0 l0.length l0) (hc0 : l0.length ≤ c0) (h : laws_toInt64S.f k l0 = some r) :
    Calls Try.prog 20 #[.slice A0 l0.length c0] w fun e w' => ∃ v0_ : Value, e = .returned (v0_) ∧ Kd.R (Kd.int .i64) 2 w' w.heap.size (fun _ => True) v0_ r ∧ Below w.heap.size w w' := by
  have HR0 := as_ hr0
  have HC0 := as_ hc0
  clear hr0 hc0
  have HB := as_ (Below.refl w.heap.size w)
  have H : (if 0 ≤ (l0.length : Int) then (if ((l0.length : Int) : Int).toNat ≤ 35184372088832 then (laws_toInt64S.l0 k l0 (List.replicate ((l0.length : Int) : Int).toNat 0) 0) else (none)) else (none)) = some r := h
  clear h
  obtain ⟨c2, H⟩ := ite_s H
  have c2b0 := eq_true c2
  have c2b1 := decide_eq_true c2
  clear c2
  obtain ⟨c3, H⟩ := ite_s H
  have c3b0 := eq_true c3
  have c3b1 := decide_eq_true c3
  clear c3
  obtain ⟨y106, hy106⟩ := ex_ (List.replicate ((l0.length : Int) : Int).toNat 0 : List Int)
  replace H : (laws_toInt64S.l0 k l0 y106 0) = some r := yr_ hy106 H
  have Ny106 := as_ hy106
  clear hy106
  have H' := as_ H
  clear H
  go_enter Try.func20, Try.ntmps20
  go_wp2_with (first | ((with_reducible refine gate_dst (N := 7) rfl ?_); refine Kd.R_make (Kd.int .i64) _ 2 rfl (N := 7) rfl 23 _ _ rfl (l0.length : Int) rfl rfl Try.underlying23 (.int .i64 0) 8 info2 rfl (by decide) (by omega) 0 (ok := fun _ => True) (okp := fun _ => True) rfl (fun _ hk => hk) trivial (od_) (Nat.le_trans (Nat.mul_le_mul_right _ (od_ : (l0.length : Int).toNat ≤ 35184372088832)) (by omega)) (Below.refl _ _) (Nat.le_refl _) ?_; intro v107 w4 ho5 hb hg_ hnew_; clear hg_ hnew_; (first | rw [← Ny106.out] at ho5 | (simp only [Int.reduceToNat] at ho5; rw [← Ny106.out] at ho5)); have HO108 := as_ (Kd.R_lower ho5 (below_size (b_ HB))); replace HB := as_ (below_step (b_ HB) hb); clear hb ho5))
  go_loopg [4] k (fun kq v4 w' => ∃ (x3_1 : List Int) (x4_1 : Int), v4 = .int .i64 x4_1 ∧ Aside0 (laws_toInt64S.l0 kq l0 x3_1 x4_1 = some r) ∧ Aside0 (kq ≤ k) ∧ Aside0 (Kd.R (Kd.int .i64) 2 w' w.heap.size (fun _ => True) v107 x3_1) ∧ Aside0 (Below w.heap.size w w'))
  case atStart => exact ⟨(y106), (0), rf_, H', ⟨Nat.le_refl _⟩, ⟨bR_ HO108⟩, ⟨b_ HB⟩⟩
  case round =>
    clear H'
    (try clear c2); (try clear c2b0); (try clear c2b1); (try clear p2); (try clear c3); (try clear c3b0); (try clear c3b1)
    obtain ⟨x3_1, x4_1, rfl, HA, HK1, HO_3, HB⟩ := hrel
    cases gk with
    | zero => exact absurd HA.out (by simp [laws_toInt64S.l0])
    | succ k1 =>
      have H := HA.out
      clear HA
      simp only [laws_toInt64S.l0] at H
      by_cases c6 : x4_1 < (l0.length : Int)
      rotate_left
      · rw [if_neg c6] at H
        have c6b0 := decide_eq_false c6
        clear c6
        obtain rfl := Option.some.inj H
        go_wp2
        go_ret
        exact ⟨_, re_, bR_ HO_3, b_ HB⟩
      rw [if_pos c6] at H
      have c6b0 := decide_eq_true c6
      clear c6
      obtain ⟨c7b0, H⟩ := ite_d H
      obtain ⟨c8b0, H⟩ := ite_d H
      obtain ⟨y110, hy110⟩ := ex_ (x3_1.set (x4_1 : Int).toNat (rd l0 x4_1) : List Int)
      replace H : (laws_toInt64S.l0 k1 l0 y110 (wrap64 (x4_1 + 1))) = some r := yr_ hy110 H
      have Ny110 := as_ hy110
      clear hy110
      have H' := as_ H
      clear H
      have p109 : 0 ≤ (x4_1 : Int) := od_
      have q109 : x4_1 < (l0.length : Int) := od_
      obtain ⟨ad109, e109, hx109_0⟩ := Kd.at_int HR0.out x4_1 p109 q109
      cases e109
      try replace hx109_0 := hx_ HB hx109_0
      replace p109 := eq_true p109
      replace q109 := eq_true q109
      have p9 : 0 ≤ (x4_1 : Int) := od_
      have q9 : (x4_1 : Int) < ((x3_1.length : Int) : Int) := od_
      obtain ⟨go9, co9, eo9, gb9, gl9, cl9, HG9⟩ := Kd.R_form HO_3.out (by omega)
      (first | cases eo9 | (injection eo9 with ea_ en_ ec_; (first | subst ea_ | (injection ea_ with ea_; subst ea_)); subst ec_; clear en_))
      have GB9 := as_ gb9
      have GG9 := as_ HG9
      clear gb9 gl9 HG9
      obtain ⟨hx9_0, hf9_0⟩ := Kd.R_celln 0 HO_3.out (x4_1 : Int) p9 q9
      replace p9 := eq_true p9
      replace q9 := eq_true q9
      have HP10 := Kd.R_putg HO_3.out (x4_1 : Int) (rd l0 x4_1)
      go_wp2_with (first | ((with_reducible refine gate_store (t := 2) (p := 20) rfl ?_); refine store_event (t := 2) (p := 20) (v := ?vo_w11) (w1 := (wr.setCell ⟨go9, (x4_1 : Int).toNat, none⟩ (.int .i64 (rd l0 x4_1)))) ?hg ?ho ?hn ?hr ?_; (case ho => rfl); (case hg => rfl); (case hn => rfl); (case hr => first | (go_simp; done) | (go_simp; rfl)); intro w11 hw; have hg : wr.grownBy w11 (some go9) := (by rw [hw]; exact HP10.2); have hp_ : Kd.R (Kd.int .i64) 2 w11 w.heap.size (fun _ => True) (.slice (some ⟨go9, 0, none⟩) x3_1.length co9) y110 := (by rw [hw, Ny110.out]; exact HP10.1); clear HP10; replace HO_3 := as_ (hp_); replace HB := as_ ((by rw [hw]; exact below_set (HB.out) GB9.out : Below w.heap.size w w11)); clear hg hw hp_))
      go_roundg k1
      case measure => have := HK1.out; omega
      case rel => exact ⟨(y110), (wrap64 (x4_1 + 1)), rf_, H', om_ HK1, ⟨bR_ HO_3⟩, ⟨b_ HB⟩⟩

def laws_toInt64SS.l0 : Nat → List (List Int) → List (List Int) → Int → Option ((List (List Int)))
  | 0, _, _, _ => none
  | k + 1, x0, x3, x4 => if x4 < (x0.length : Int) then (if 0 ≤ x4 then ((laws_toInt64S.f k (rd_L1 x0 x4)).bind fun t115 => (if x4 < (x3.length : Int) then (laws_toInt64SS.l0 k x0 (x3.set (x4 : Int).toNat t115) (wrap64 (x4 + 1))) else (none))) else (none)) else (some x3)
def laws_toInt64SS.f (k : Nat) (l0 : List (List Int)) : Option ((List (List Int))) := if 0 ≤ (l0.length : Int) then (if ((l0.length : Int) : Int).toNat ≤ 11728124029610 then (laws_toInt64SS.l0 k l0 (List.replicate ((l0.length : Int) : Int).toNat []) 0) else (none)) else (none)
set_option maxHeartbeats 8000000 in
set_option maxRecDepth 100000 in
theorem laws_toInt64SS.calls (k : Nat) (A0 : Option Addr) (c0 : Nat) (l0 : List (List Int)) (r : List (List Int)) (w : World) (hr0 : Kd.C (Kd.slice 2 (Kd.int .i64)) w A0 l0.length l0) (hc0 : l0.length ≤ c0) (h : laws_toInt64SS.f k l0 = some r) :
    Calls Try.prog 19 #[.slice A0 l0.length c0] w fun e w' => ∃ v0_ : Value, e = .returned (v0_) ∧ Kd.S (Kd.slice 2 (Kd.int .i64)) 23 w' w.heap.size (fun _ => True) v0_ r ∧ Below w.heap.size w w' := by
  have HR0 := as_ hr0
  have HC0 := as_ hc0
  clear hr0 hc0
  have HB := as_ (Below.refl w.heap.size w)
  have H : (if 0 ≤ (l0.length : Int) then (if ((l0.length : Int) : Int).toNat ≤ 11728124029610 then (laws_toInt64SS.l0 k l0 (List.replicate ((l0.length : Int) : Int).toNat []) 0) else (none)) else (none)) = some r := h
  clear h
  obtain ⟨c2, H⟩ := ite_s H
  have c2b0 := eq_true c2
  have c2b1 := decide_eq_true c2
  clear c2
  obtain ⟨c3, H⟩ := ite_s H
  have c3b0 := eq_true c3
  have c3b1 := decide_eq_true c3
  clear c3
  obtain ⟨y111, hy111⟩ := ex_ (List.replicate ((l0.length : Int) : Int).toNat [] : List (List Int))
  replace H : (laws_toInt64SS.l0 k l0 y111 0) = some r := yr_ hy111 H
  have Ny111 := as_ hy111
  clear hy111
  have H' := as_ H
  clear H
  go_enter Try.func19, Try.ntmps19
  go_wp2_with (first | ((with_reducible refine gate_dst (N := 7) rfl ?_); refine Kd.S_make (Kd.slice 2 (Kd.int .i64)) _ 23 rfl (N := 7) rfl 22 _ _ rfl (l0.length : Int) rfl rfl Try.underlying22 (.slice none 0 0) 24 info23 rfl (by decide) (by omega) [] (ok := fun _ => True) (okp := fun _ => True) ⟨_, rfl, Kd.R_nil _ _ _ _ _⟩ (fun _ hk => hk) trivial (od_) (Nat.le_trans (Nat.mul_le_mul_right _ (od_ : (l0.length : Int).toNat ≤ 11728124029610)) (by omega)) (Below.refl _ _) (Nat.le_refl _) ?_; intro v112 w4 ho5 hb hg_ hnew_; clear hg_ hnew_; (first | rw [← Ny111.out] at ho5 | (simp only [Int.reduceToNat] at ho5; rw [← Ny111.out] at ho5)); have HO113 := as_ (Kd.S_lower ho5 (below_size (b_ HB))); replace HB := as_ (below_step (b_ HB) hb); clear hb ho5))
  go_loopg [4] k (fun kq v4 w' => ∃ (x3_1 : List (List Int)) (x4_1 : Int), v4 = .int .i64 x4_1 ∧ Aside0 (laws_toInt64SS.l0 kq l0 x3_1 x4_1 = some r) ∧ Aside0 (kq ≤ k) ∧ Aside0 (Kd.S (Kd.slice 2 (Kd.int .i64)) 23 w' w.heap.size (fun _ => True) v112 x3_1) ∧ Aside0 (Below w.heap.size w w'))
  case atStart => exact ⟨(y111), (0), rf_, H', ⟨Nat.le_refl _⟩, ⟨bS_ HO113⟩, ⟨b_ HB⟩⟩
  case round =>
    clear H'
    (try clear c1); (try clear c2); (try clear c2b0); (try clear c2b1); (try clear p2); (try clear c3); (try clear c3b0); (try clear c3b1)
    obtain ⟨x3_1, x4_1, rfl, HA, HK1, HO_3, HB⟩ := hrel
    cases gk with
    | zero => exact absurd HA.out (by simp [laws_toInt64SS.l0])
    | succ k1 =>
      have H := HA.out
      clear HA
      simp only [laws_toInt64SS.l0] at H
      by_cases c6 : x4_1 < (l0.length : Int)
      rotate_left
      · rw [if_neg c6] at H
        have c6b0 := decide_eq_false c6
        clear c6
        obtain rfl := Option.some.inj H
        go_wp2
        go_ret
        exact ⟨_, re_, bS_ HO_3, b_ HB⟩
      rw [if_pos c6] at H
      have c6b0 := decide_eq_true c6
      clear c6
      obtain ⟨c7b0, H⟩ := ite_d H
      obtain ⟨t115, A8, H⟩ := bo_ H
      obtain ⟨c9b0, H⟩ := ite_d H
      obtain ⟨y118, hy118⟩ := ex_ (x3_1.set (x4_1 : Int).toNat t115 : List (List Int))
      replace H : (laws_toInt64SS.l0 k1 l0 y118 (wrap64 (x4_1 + 1))) = some r := yr_ hy118 H
      have Ny118 := as_ hy118
      clear hy118
      have H' := as_ H
      clear H
      have p114 : 0 ≤ (x4_1 : Int) := od_
      have q114 : x4_1 < (l0.length : Int) := od_
      obtain ⟨ad114, A114_0, c114_0, e114, hx114_0, hl114_0, hi114_0⟩ := at_L1 HR0.out x4_1 p114 q114
      cases e114
      try replace hx114_0 := hx_ HB hx114_0
      have HR114_0 := as_ hi114_0
      have HC114_0 := as_ hl114_0
      clear hi114_0 hl114_0
      replace p114 := eq_true p114
      replace q114 := eq_true q114
      go_wp2_with (first | ((with_reducible refine gate_callee (f := 20) rfl ?_); refine gL_ 20 Try.func20 #[.slice A114_0 (rd_L1 l0 x4_1).length c114_0] ?_; (with_reducible refine (laws_toInt64S.calls k1 _ _ (rd_L1 l0 x4_1) t115 _ ?side1 ?side2 A8.out).mono ?_); (case side1 => exact bC_ HR114_0 HB); (case side2 => exact HC114_0.out); rintro e w11 ⟨v116, rfl, ho0, hb⟩; refine ⟨_, rfl, ?_⟩; replace HO_3 := eS_ HO_3 (Kd.R_base ho0) hb; have HO117 := as_ (Kd.R_lower ho0 (below_size (b_ HB))); replace HB := as_ (below_step (b_ HB) hb); clear hb ho0; have p10 : 0 ≤ (x4_1 : Int) := od_; have q10 : (x4_1 : Int) < ((x3_1.length : Int) : Int) := od_; obtain ⟨go10, co10, eo10, gb10, gl10, cl10, HG10⟩ := Kd.S_form HO_3.out (by omega); (first | cases eo10 | (injection eo10 with ea_ en_ ec_; (first | subst ea_ | (injection ea_ with ea_; subst ea_)); subst ec_; clear en_)); have GB10 := as_ gb10; have GG10 := as_ HG10; clear gb10 gl10 HG10; obtain ⟨_, ce10, hcl10, hM10, hcc10, hfr10, _, _⟩ := Kd.S_elem HO_3.out [] (x4_1 : Int) p10 q10; obtain ⟨ve10_0, rfl, ge10_0⟩ := hM10; have hx10_0 := hcc10 0 _ rfl; have hf10_0 := hfr10 0; (try simp only [show ((Kd.slice 2 (Kd.int .i64))).sz = 1 from rfl, Nat.mul_one, Nat.add_zero] at hx10_0); (try simp only [show ((Kd.slice 2 (Kd.int .i64))).sz = 1 from rfl, Nat.mul_one, Nat.add_zero] at hf10_0); clear hcl10 hcc10 hfr10; (try clear hM10); replace p10 := eq_true p10; replace q10 := eq_true q10; have n_ := as_ (Kd.S_mono (ok' := (fun k_ => some k_ ≠ (v116 : Value).ownBlock)) HO_3.out (fun k_ hk => hk.2)); clear HO_3; have HO_3 := n_; clear n_; have HX12 := as_ (show Kd.S (Kd.slice 2 (Kd.int .i64)) 23 w11 w.heap.size (fun k_ => ((fun _ => True)) k_ ∧ ¬ ((fun k_ => some k_ = (v116 : Value).ownBlock)) k_) (.slice (some ⟨go10, 0, none⟩) x3_1.length co10) x3_1 from (by (with_reducible repeat (first | apply Kd.S_alloc | apply Kd.S_drewN | apply Kd.S_drew)); exact Kd.S_mono HO_3.out (fun k_ hk => ⟨trivial, fun e_ => hk e_⟩))); obtain ⟨oki12, ce12, hcl12, hM12, hcc12, hfr12, hoki12, hH12⟩ := Kd.S_elem HX12.out [] (x4_1 : Int) (od_) (by have h_ : (x4_1 : Int) < ((x3_1.length : Int) : Int) := od_; first | exact h_ | (have e_ := (Kd.S_reads' HO_3.out).1; omega) | simpa using h_); obtain ⟨ve12_0, rfl, ge12_0⟩ := hM12; have HP12 := Kd.S_seg hH12 (od_) (by have h_ : (x4_1 : Int) < ((x3_1.length : Int) : Int) := od_; first | exact h_ | (have e_ := (Kd.S_reads' HO_3.out).1; omega) | simpa using h_) (seg := [v116]) (j := 0) (show 1 ≤ 1 from by decide) (x' := t115) (Kd.M_row (Kd.R_mono (Kd.R_tight rfl (Kd.R_mono (ok' := fun k_ => ((fun _ => True)) k_ ∧ k_ ≠ go10) (Kd.R_apart' (HO117.out) (Kd.S_typed HO_3.out) (by decide)) (fun k_ hk => ⟨trivial, fun e_ => (hk.2) (by rw [e_]; rfl)⟩))) (fun _ h_ => Or.inr (h_)))) (fun _ hk => hk) (fun k_ hk_ => ((Kd.R_mono (ok' := fun k_ => ((fun _ => True)) k_ ∧ k_ ≠ go10) (Kd.R_apart' (HO117.out) (Kd.S_typed HO_3.out) (by decide)) (fun k_ hk => ⟨trivial, fun e_ => (hk.2) (by rw [e_]; rfl)⟩))).1 k_ hk_.symm); have hx12_0 := hcc12 0 _ rfl; (try simp only [show ((Kd.slice 2 (Kd.int .i64))).sz = 1 from rfl, Nat.mul_one, Nat.add_zero] at hx12_0); have hf12_0 := hfr12 0; (try simp only [show ((Kd.slice 2 (Kd.int .i64))).sz = 1 from rfl, Nat.mul_one, Nat.add_zero] at hf12_0); clear hcl12 hcc12 hfr12; (try clear hM12); clear hoki12 hH12; (try simp only [show ((Kd.slice 2 (Kd.int .i64))).sz = 1 from rfl, Nat.mul_one, Nat.add_zero] at HP12)) | ((with_reducible refine gate_store (t := 23) (p := 21) rfl ?_); refine store_event (t := 23) (p := 21) (v := ?vo_w13) (w1 := (w11.setCell ⟨go10, (x4_1 : Int).toNat, none⟩ (v116))) ?hg ?ho ?hn ?hr ?_; (case ho => rfl); (case hg => rfl); (case hn => rfl); (case hr => first | (go_simp; done) | (go_simp; rfl) | (obtain ⟨A_, c_, e_⟩ := Kd.R_slice HO117.out; simp only [e_]; first | (go_simp; done) | (go_simp; rfl))); intro w13 hw; have hg : w11.grownBy w13 (some go10) := (by rw [hw]; exact HP12.2); have hp_ : Kd.S (Kd.slice 2 (Kd.int .i64)) 23 w13 w.heap.size (fun _ => True) (.slice (some ⟨go10, 0, none⟩) x3_1.length co10) y118 := (by rw [hw, Ny118.out]; exact HP12.1); clear HP12; replace HO_3 := as_ (hp_); replace HB := as_ ((by rw [hw]; exact below_set (HB.out) GB10.out : Below w.heap.size w w13)); clear HO117; clear hg hw hp_))
      go_roundg k1
      case measure => have := HK1.out; omega
      case rel => exact ⟨(y118), (wrap64 (x4_1 + 1)), rf_, H', om_ HK1, ⟨bS_ HO_3⟩, ⟨b_ HB⟩⟩

def laws_toAutomaton.f (k : Nat) (a0_0 : Int) (l0_1 : List (List Int)) (l0_2 : List Int) : Option (Int × (List (List Int)) × List Int) := (laws_toInt64SS.f k l0_1).bind fun t122 => ((laws_toInt64S.f k l0_2).bind fun t125 => (some (a0_0, t122, t125)))
set_option maxHeartbeats 8000000 in
set_option maxRecDepth 100000 in
theorem laws_toAutomaton.calls (k : Nat) (a0_0 : Int) (A0_1 : Option Addr) (c0_1 : Nat) (l0_1 : List (List Int)) (A0_2 : Option Addr) (c0_2 : Nat) (l0_2 : List Int) (r1 : Int) (r2 : List (List Int)) (r3 : List Int) (w : World) (hr0_1 : Kd.C (Kd.slice 2 (Kd.int .i64)) w A0_1 l0_1.length l0_1) (hc0_1 : l0_1.length ≤ c0_1) (hr0_2 : Kd.C (Kd.int .i64) w A0_2 l0_2.length l0_2) (hc0_2 : l0_2.length ≤ c0_2) (h : laws_toAutomaton.f k a0_0 l0_1 l0_2 = some (r1, r2, r3)) :
    Calls Try.prog 7 #[.agg #[.int .i64 a0_0, .slice A0_1 l0_1.length c0_1, .slice A0_2 l0_2.length c0_2]] w fun e w' => ∃ v1_ v2_ : Value, e = .returned (.agg #[.int .i64 r1, v1_, v2_]) ∧ Kd.S (Kd.slice 2 (Kd.int .i64)) 23 w' w.heap.size (fun k_ => some k_ ≠ (v2_ : Value).ownBlock) v1_ r2 ∧ Kd.R (Kd.int .i64) 2 w' w.heap.size (fun _ => True) v2_ r3 ∧ Below w.heap.size w w' := by
  have hu25 := Try.underlying25
  have hu29 := Try.underlying29
  have HR0_1 := as_ hr0_1
  have HC0_1 := as_ hc0_1
  clear hr0_1 hc0_1
  have HR0_2 := as_ hr0_2
  have HC0_2 := as_ hc0_2
  clear hr0_2 hc0_2
  have HB := as_ (Below.refl w.heap.size w)
  have H : ((laws_toInt64SS.f k l0_1).bind fun t122 => ((laws_toInt64S.f k l0_2).bind fun t125 => (some (a0_0, t122, t125)))) = some (r1, r2, r3) := h
  clear h
  obtain ⟨t122, A2, H⟩ := bo_ H
  obtain ⟨t125, A3, H⟩ := bo_ H
  simp only [Option.some.injEq, Prod.mk.injEq] at H
  obtain ⟨rfl, rfl, rfl⟩ := H
  go_enter Try.func7, Try.ntmps7
  go_wp2_with (first | ((with_reducible refine gate_dst (N := 1) rfl ?_); refine bx_ 1 #[.int .i64 a0_0, .slice A0_1 l0_1.length c0_1, .slice A0_2 l0_2.length c0_2] 25 ?_; intro gb119 hg w4 hbox hb; have BK119 := as_ (hbox); have GW119 := gz_ hg (b_ HB); have GE119 := GW119; replace HB := as_ (below_step (b_ HB) hb); clear hb hbox hg) | ((with_reducible refine gate_dst (N := 2) rfl ?_); refine bx_ 2 #[.int .i64 0, .slice none 0 0, .slice none 0 0] 29 ?_; intro gb120 hg w5 hbox hb; have BK120 := as_ (hbox); have GW120 := gz_ hg (b1_ HB GE119); have GE120 := GW120; replace HB := as_ (below_step (b1_ HB GE119) hb); have NB119_120 := nl_ hg (bk_ BK119); have NB120_119 := ng_ hg (bk_ BK119); replace BK119 := kb_ BK119 hb; clear hb hbox hg) | ((with_reducible refine gate_dst (N := 3) rfl ?_); refine bx_ 3 #[.int .i64 0, .slice none 0 0, .slice none 0 0] 29 ?_; intro gb121 hg w6 hbox hb; have BK121 := as_ (hbox); have GW121 := gz_ hg (b2_ HB GE119 GE120); have GE121 := GW121; replace HB := as_ (below_step (b2_ HB GE119 GE120) hb); have NB119_121 := nl_ hg (bk_ BK119); have NB121_119 := ng_ hg (bk_ BK119); replace BK119 := kb_ BK119 hb; have NB120_121 := nl_ hg (bk_ BK120); have NB121_120 := ng_ hg (bk_ BK120); replace BK120 := kb_ BK120 hb; clear hb hbox hg; have hnb7 := NB119_120.out; have hnc7 := NB120_119.out; have hnb8 := NB119_121.out; have hnc8 := NB121_119.out; obtain ⟨hcz9_0, hfz9_0, hcz9_1, hfz9_1, hcz9_2, hfz9_2⟩ := tc3_ BK119; have hnb10 := NB121_120.out; have hnc10 := NB120_121.out; obtain ⟨hcz11_0, hfz11_0, hcz11_1, hfz11_1, hcz11_2, hfz11_2⟩ := tc3_ BK121) | ((with_reducible refine gate_callee (f := 19) rfl ?_); refine gL_ 9 Try.func19 #[.slice A0_1 l0_1.length c0_1] ?_; (with_reducible refine (laws_toInt64SS.calls k _ _ l0_1 t122 _ ?side1 ?side2 A2.out).mono ?_); (case side1 => exact Kd.C_below HR0_1.out (b3_ HB GE119 GE120 GE121)); (case side2 => exact HC0_1.out); rintro e w12 ⟨v123, rfl, ho0, hb⟩; refine ⟨_, rfl, ?_⟩; have HO124 := as_ (Kd.S_lower ho0 (below_size (b3_ HB GE119 GE120 GE121))); replace BK119 := as_ (blk_below (bf_ BK119 NB119_121) hb); replace BK120 := as_ (blk_below (bf_ BK120 NB120_121) hb); replace BK121 := as_ (blk_below (g := gb121) (o := .cells #[.int .i64 a0_0, .slice none 0 0, .slice none 0 0] 29 (0, 0)) (bp_ BK121) hb); replace HB := as_ (below_step (b3_ HB GE119 GE120 GE121) hb); clear hb ho0; obtain ⟨Ao13, co13, eo13⟩ := Kd.S_slice HO124.out; subst eo13; obtain ⟨hcz14_0, hfz14_0, hcz14_1, hfz14_1, hcz14_2, hfz14_2⟩ := tc3_ BK121; obtain ⟨hcz15_0, hfz15_0, hcz15_1, hfz15_1, hcz15_2, hfz15_2⟩ := tc3_ BK119) | ((with_reducible refine gate_callee (f := 20) rfl ?_); refine gL_ 13 Try.func20 #[.slice A0_2 l0_2.length c0_2] ?_; (with_reducible refine (laws_toInt64S.calls k _ _ l0_2 t125 _ ?side1 ?side2 A3.out).mono ?_); (case side1 => exact Kd.C_below HR0_2.out (b3_ HB GE119 GE120 GE121)); (case side2 => exact HC0_2.out); rintro e w16 ⟨v126, rfl, ho0, hb⟩; refine ⟨_, rfl, ?_⟩; replace HO124 := as_ (Kd.S_elder' (iS1_ HO124 BK121) (Kd.R_base ho0) hb); have HO127 := as_ (Kd.R_lower ho0 (below_size (b3_ HB GE119 GE120 GE121))); replace BK119 := as_ (blk_below (bf_ BK119 NB119_121) hb); replace BK120 := as_ (blk_below (bf_ BK120 NB120_121) hb); replace BK121 := as_ (blk_below (g := gb121) (o := .cells #[.int .i64 a0_0, .slice Ao13 t122.length co13, .slice none 0 0] 29 (0, 0)) (bp_ BK121) hb); replace HB := as_ (below_step (b3_ HB GE119 GE120 GE121) hb); clear hb ho0; obtain ⟨Ao17, co17, eo17⟩ := Kd.R_slice HO127.out; subst eo17; obtain ⟨hcz18_0, hfz18_0, hcz18_1, hfz18_1, hcz18_2, hfz18_2⟩ := tc3_ BK121; obtain ⟨hcz19_0, hfz19_0, hcz19_1, hfz19_1, hcz19_2, hfz19_2⟩ := tc3_ BK120))
  refine bodyPost_ret (results_cell_row rfl _ _ gb120 29 #[.int .i64 a0_0, .slice Ao13 t122.length co13, .slice Ao17 t125.length co17] (0, 0) _ rfl (by (with_reducible repeat (first | refine blk_drewN ?_ _ | refine blk_drew ?_ | refine blk_alloc ?_ _)); refine blk_put (cs := #[.int .i64 a0_0, .slice Ao13 t122.length co13, .slice none 0 0]) ?_ 2 _ rfl; (with_reducible repeat (first | refine blk_drewN ?_ _ | refine blk_drew ?_ | refine blk_alloc ?_ _)); refine blk_put (cs := #[.int .i64 a0_0, .slice none 0 0, .slice none 0 0]) ?_ 1 _ rfl; (with_reducible repeat (first | refine blk_drewN ?_ _ | refine blk_drew ?_ | refine blk_alloc ?_ _)); refine blk_put (cs := #[.int .i64 0, .slice none 0 0, .slice none 0 0]) ?_ 0 _ rfl; (with_reducible repeat (first | refine blk_drewN ?_ _ | refine blk_drew ?_ | refine blk_alloc ?_ _)); refine blk_far ?_ NB120_121.out _; (with_reducible repeat (first | refine blk_drewN ?_ _ | refine blk_drew ?_ | refine blk_alloc ?_ _)); exact BK120.out) Try.underlying29 rfl (by kernel_rfl)) rfl ?_
  exact ⟨_, _, re_, fS2_ HO124 BK121 BK120, fR2_ HO127 BK121 BK120, b3_ HB GE119 GE120 GE121⟩

def laws_eqInt64S.l0 : Nat → List Int → List Int → Int → Option (Bool)
  | 0, _, _, _ => none
  | k + 1, x0, x1, x5 => if x5 < (x0.length : Int) then (if 0 ≤ x5 then (if x5 < (x1.length : Int) then (if (rd x0 x5) = (rd x1 x5) then (laws_eqInt64S.l0 k x0 x1 (wrap64 (x5 + 1))) else (some false)) else (none)) else (none)) else (some true)
def laws_eqInt64S.f (k : Nat) (l0 : List Int) (l1 : List Int) : Option (Bool) := if (l0.length : Int) = (l1.length : Int) then (laws_eqInt64S.l0 k l0 l1 0) else (some false)
set_option maxHeartbeats 8000000 in
set_option maxRecDepth 100000 in
theorem laws_eqInt64S.calls (k : Nat) (A0 : Option Addr) (c0 : Nat) (l0 : List Int) (A1 : Option Addr) (c1 : Nat) (l1 : List Int) (r : Bool) (w : World) (hr0 : Kd.C (Kd.int .i64) w A0 l0.length l0) (hc0 : l0.length ≤ c0) (hr1 : Kd.C (Kd.int .i64) w A1 l1.length l1) (hc1 : l1.length ≤ c1) (h : laws_eqInt64S.f k l0 l1 = some r) :
    Calls Try.prog 25 #[.slice A0 l0.length c0, .slice A1 l1.length c1] w fun e w' => e = .returned (.bool r) ∧ Drawn0 w w' := by
  have HR0 := as_ hr0
  have HC0 := as_ hc0
  clear hr0 hc0
  have HR1 := as_ hr1
  have HC1 := as_ hc1
  clear hr1 hc1
  have H : (if (l0.length : Int) = (l1.length : Int) then (laws_eqInt64S.l0 k l0 l1 0) else (some false)) = some r := h
  clear h
  by_cases c3 : (l0.length : Int) = (l1.length : Int)
  rotate_left
  · rw [if_neg c3] at H
    have c3b0 := beq_eq_false_iff_ne.mpr c3
    have c3b1 := bne_iff_ne.mpr c3
    have c3b2 : (l0.length == l1.length) = false := by first | simpa using c3 | (simp at c3 ⊢; omega)
    obtain rfl := Option.some.inj H
    go_enter Try.func25, Try.ntmps25
    go_wp2
    repeat (go_quiet (fail); try go_wp2)
    go_ret
    exact ⟨rf_, by repeat (first | exact Drawn0.refl _ | apply Drawn0.step)⟩
  rw [if_pos c3] at H
  have c3b0 := beq_iff_eq.mpr c3
  have c3b1 := bne_eq_false_iff_eq.mpr c3
  have c3b2 : (l0.length == l1.length) = true := by first | simpa using c3 | (simp at c3 ⊢; omega)
  clear c3
  have H' := as_ H
  clear H
  go_enter Try.func25, Try.ntmps25
  go_wp2
  repeat (go_quiet (fail); try go_wp2)
  go_loopg [5] k (fun kq v5 w' => ∃ (x5_1 : Int), v5 = .int .i64 x5_1 ∧ Aside0 (laws_eqInt64S.l0 kq l0 l1 x5_1 = some r) ∧ Aside0 (kq ≤ k) ∧ Drawn0 w w')
  case atStart => exact ⟨(0), rf_, H', ⟨Nat.le_refl _⟩, by repeat (first | exact Drawn0.refl _ | apply Drawn0.step)⟩
  case round =>
    clear H'
    (try clear c1); (try clear c2); (try clear p2); (try clear c3); (try clear c3b0); (try clear c3b1); (try clear c3b2)
    obtain ⟨x5_1, rfl, HA, HK1, ⟨m1, rfl⟩⟩ := hrel
    cases gk with
    | zero => exact absurd HA.out (by simp [laws_eqInt64S.l0])
    | succ k1 =>
      have H := HA.out
      clear HA
      simp only [laws_eqInt64S.l0] at H
      by_cases c4 : x5_1 < (l0.length : Int)
      rotate_left
      · rw [if_neg c4] at H
        have c4b0 := decide_eq_false c4
        clear c4
        obtain rfl := Option.some.inj H
        go_wp2
        repeat (go_quiet (fail); try go_wp2)
        go_ret
        exact ⟨rf_, by repeat (first | exact Drawn0.refl _ | apply Drawn0.step)⟩
      rw [if_pos c4] at H
      have c4b0 := decide_eq_true c4
      clear c4
      obtain ⟨c5b0, H⟩ := ite_d H
      obtain ⟨c6b0, H⟩ := ite_d H
      by_cases c7 : (rd l0 x5_1) = (rd l1 x5_1)
      · rw [if_pos c7] at H
        have c7b0 := beq_iff_eq.mpr c7
        have c7b1 := bne_eq_false_iff_eq.mpr c7
        clear c7
        have H' := as_ H
        clear H
        have p128 : 0 ≤ (x5_1 : Int) := od_
        have q128 : x5_1 < (l0.length : Int) := od_
        obtain ⟨ad128, e128, hx128_0⟩ := Kd.at_int HR0.out x5_1 p128 q128
        cases e128
        replace p128 := eq_true p128
        replace q128 := eq_true q128
        have p129 : 0 ≤ (x5_1 : Int) := od_
        have q129 : x5_1 < (l1.length : Int) := od_
        obtain ⟨ad129, e129, hx129_0⟩ := Kd.at_int HR1.out x5_1 p129 q129
        cases e129
        replace p129 := eq_true p129
        replace q129 := eq_true q129
        go_wp2
        repeat (go_quiet (fail); try go_wp2)
        go_roundg k1
        case measure => have := HK1.out; omega
        case rel => exact ⟨(wrap64 (x5_1 + 1)), rf_, H', om_ HK1, by repeat (first | exact Drawn0.refl _ | apply Drawn0.step)⟩
      rw [if_neg c7] at H
      have c7b0 := beq_eq_false_iff_ne.mpr c7
      have c7b1 := bne_iff_ne.mpr c7
      obtain rfl := Option.some.inj H
      have p128 : 0 ≤ (x5_1 : Int) := od_
      have q128 : x5_1 < (l0.length : Int) := od_
      obtain ⟨ad128, e128, hx128_0⟩ := Kd.at_int HR0.out x5_1 p128 q128
      cases e128
      replace p128 := eq_true p128
      replace q128 := eq_true q128
      have p129 : 0 ≤ (x5_1 : Int) := od_
      have q129 : x5_1 < (l1.length : Int) := od_
      obtain ⟨ad129, e129, hx129_0⟩ := Kd.at_int HR1.out x5_1 p129 q129
      cases e129
      replace p129 := eq_true p129
      replace q129 := eq_true q129
      go_wp2
      repeat (go_quiet (fail); try go_wp2)
      go_ret
      exact ⟨rf_, by repeat (first | exact Drawn0.refl _ | apply Drawn0.step)⟩

def laws_eqInt64SS.l0 : Nat → List (List Int) → List (List Int) → Int → Option (Bool)
  | 0, _, _, _ => none
  | k + 1, x0, x1, x5 => if x5 < (x0.length : Int) then (if 0 ≤ x5 then (if x5 < (x1.length : Int) then ((laws_eqInt64S.f k (rd_L1 x0 x5) (rd_L1 x1 x5)).bind fun t132 => (if t132 = true then (laws_eqInt64SS.l0 k x0 x1 (wrap64 (x5 + 1))) else (some false))) else (none)) else (none)) else (some true)
def laws_eqInt64SS.f (k : Nat) (l0 : List (List Int)) (l1 : List (List Int)) : Option (Bool) := if (l0.length : Int) = (l1.length : Int) then (laws_eqInt64SS.l0 k l0 l1 0) else (some false)
set_option maxHeartbeats 8000000 in
set_option maxRecDepth 100000 in
theorem laws_eqInt64SS.calls (k : Nat) (A0 : Option Addr) (c0 : Nat) (l0 : List (List Int)) (A1 : Option Addr) (c1 : Nat) (l1 : List (List Int)) (r : Bool) (w : World) (hr0 : Kd.C (Kd.slice 2 (Kd.int .i64)) w A0 l0.length l0) (hc0 : l0.length ≤ c0) (hr1 : Kd.C (Kd.slice 2 (Kd.int .i64)) w A1 l1.length l1) (hc1 : l1.length ≤ c1) (h : laws_eqInt64SS.f k l0 l1 = some r) :
    Calls Try.prog 24 #[.slice A0 l0.length c0, .slice A1 l1.length c1] w fun e w' => e = .returned (.bool r) ∧ Drawn0 w w' := by
  have HR0 := as_ hr0
  have HC0 := as_ hc0
  clear hr0 hc0
  have HR1 := as_ hr1
  have HC1 := as_ hc1
  clear hr1 hc1
  have H : (if (l0.length : Int) = (l1.length : Int) then (laws_eqInt64SS.l0 k l0 l1 0) else (some false)) = some r := h
  clear h
  by_cases c3 : (l0.length : Int) = (l1.length : Int)
  rotate_left
  · rw [if_neg c3] at H
    have c3b0 := beq_eq_false_iff_ne.mpr c3
    have c3b1 := bne_iff_ne.mpr c3
    have c3b2 : (l0.length == l1.length) = false := by first | simpa using c3 | (simp at c3 ⊢; omega)
    obtain rfl := Option.some.inj H
    go_enter Try.func24, Try.ntmps24
    go_wp2
    repeat (go_quiet (fail); try go_wp2)
    go_ret
    exact ⟨rf_, by repeat (first | exact Drawn0.refl _ | apply Drawn0.step)⟩
  rw [if_pos c3] at H
  have c3b0 := beq_iff_eq.mpr c3
  have c3b1 := bne_eq_false_iff_eq.mpr c3
  have c3b2 : (l0.length == l1.length) = true := by first | simpa using c3 | (simp at c3 ⊢; omega)
  clear c3
  have H' := as_ H
  clear H
  go_enter Try.func24, Try.ntmps24
  go_wp2
  repeat (go_quiet (fail); try go_wp2)
  go_loopg [5] k (fun kq v5 w' => ∃ (x5_1 : Int), v5 = .int .i64 x5_1 ∧ Aside0 (laws_eqInt64SS.l0 kq l0 l1 x5_1 = some r) ∧ Aside0 (kq ≤ k) ∧ Drawn0 w w')
  case atStart => exact ⟨(0), rf_, H', ⟨Nat.le_refl _⟩, by repeat (first | exact Drawn0.refl _ | apply Drawn0.step)⟩
  case round =>
    clear H'
    (try clear c1); (try clear c2); (try clear p2); (try clear c3); (try clear c3b0); (try clear c3b1); (try clear c3b2)
    obtain ⟨x5_1, rfl, HA, HK1, ⟨m1, rfl⟩⟩ := hrel
    cases gk with
    | zero => exact absurd HA.out (by simp [laws_eqInt64SS.l0])
    | succ k1 =>
      have H := HA.out
      clear HA
      simp only [laws_eqInt64SS.l0] at H
      by_cases c4 : x5_1 < (l0.length : Int)
      rotate_left
      · rw [if_neg c4] at H
        have c4b0 := decide_eq_false c4
        clear c4
        obtain rfl := Option.some.inj H
        go_wp2
        repeat (go_quiet (fail); try go_wp2)
        go_ret
        exact ⟨rf_, by repeat (first | exact Drawn0.refl _ | apply Drawn0.step)⟩
      rw [if_pos c4] at H
      have c4b0 := decide_eq_true c4
      clear c4
      obtain ⟨c5b0, H⟩ := ite_d H
      obtain ⟨c6b0, H⟩ := ite_d H
      obtain ⟨t132, A7, H⟩ := bo_ H
      by_cases c8 : t132 = true
      · subst c8
        replace H := it_ H
        have H' := as_ H
        clear H
        have p130 : 0 ≤ (x5_1 : Int) := od_
        have q130 : x5_1 < (l0.length : Int) := od_
        obtain ⟨ad130, A130_0, c130_0, e130, hx130_0, hl130_0, hi130_0⟩ := at_L1 HR0.out x5_1 p130 q130
        cases e130
        have HR130_0 := as_ hi130_0
        have HC130_0 := as_ hl130_0
        clear hi130_0 hl130_0
        replace p130 := eq_true p130
        replace q130 := eq_true q130
        have p131 : 0 ≤ (x5_1 : Int) := od_
        have q131 : x5_1 < (l1.length : Int) := od_
        obtain ⟨ad131, A131_0, c131_0, e131, hx131_0, hl131_0, hi131_0⟩ := at_L1 HR1.out x5_1 p131 q131
        cases e131
        have HR131_0 := as_ hi131_0
        have HC131_0 := as_ hl131_0
        clear hi131_0 hl131_0
        replace p131 := eq_true p131
        replace q131 := eq_true q131
        go_wp2_with (first | (go_at_call 25; (with_reducible refine (laws_eqInt64S.calls k1 _ _ (rd_L1 l0 x5_1) _ _ (rd_L1 l1 x5_1) true _ ?side1 ?side2 ?side3 ?side4 A7.out).mono ?_); (case side1 => exact cC_ HR130_0.out); (case side2 => exact HC130_0.out); (case side3 => exact cC_ HR131_0.out); (case side4 => exact HC131_0.out); rintro e w' ⟨rfl, ⟨nd, rfl⟩⟩; (try exact dd_)))
        repeat (go_quiet (first | (go_at_call 25; (with_reducible refine (laws_eqInt64S.calls k1 _ _ (rd_L1 l0 x5_1) _ _ (rd_L1 l1 x5_1) true _ ?side1 ?side2 ?side3 ?side4 A7.out).mono ?_); (case side1 => exact cC_ HR130_0.out); (case side2 => exact HC130_0.out); (case side3 => exact cC_ HR131_0.out); (case side4 => exact HC131_0.out); rintro e w' ⟨rfl, ⟨nd, rfl⟩⟩; (try exact dd_))); try go_wp2_with (first | (go_at_call 25; (with_reducible refine (laws_eqInt64S.calls k1 _ _ (rd_L1 l0 x5_1) _ _ (rd_L1 l1 x5_1) true _ ?side1 ?side2 ?side3 ?side4 A7.out).mono ?_); (case side1 => exact cC_ HR130_0.out); (case side2 => exact HC130_0.out); (case side3 => exact cC_ HR131_0.out); (case side4 => exact HC131_0.out); rintro e w' ⟨rfl, ⟨nd, rfl⟩⟩; (try exact dd_))))
        go_roundg k1
        case measure => have := HK1.out; omega
        case rel => exact ⟨(wrap64 (x5_1 + 1)), rf_, H', om_ HK1, by repeat (first | exact Drawn0.refl _ | apply Drawn0.step)⟩
      replace c8 := Bool.eq_false_iff.mpr c8
      subst c8
      replace H := if_ H
      obtain rfl := Option.some.inj H
      have p130 : 0 ≤ (x5_1 : Int) := od_
      have q130 : x5_1 < (l0.length : Int) := od_
      obtain ⟨ad130, A130_0, c130_0, e130, hx130_0, hl130_0, hi130_0⟩ := at_L1 HR0.out x5_1 p130 q130
      cases e130
      have HR130_0 := as_ hi130_0
      have HC130_0 := as_ hl130_0
      clear hi130_0 hl130_0
      replace p130 := eq_true p130
      replace q130 := eq_true q130
      have p131 : 0 ≤ (x5_1 : Int) := od_
      have q131 : x5_1 < (l1.length : Int) := od_
      obtain ⟨ad131, A131_0, c131_0, e131, hx131_0, hl131_0, hi131_0⟩ := at_L1 HR1.out x5_1 p131 q131
      cases e131
      have HR131_0 := as_ hi131_0
      have HC131_0 := as_ hl131_0
      clear hi131_0 hl131_0
      replace p131 := eq_true p131
      replace q131 := eq_true q131
      go_wp2_with (first | (go_at_call 25; (with_reducible refine (laws_eqInt64S.calls k1 _ _ (rd_L1 l0 x5_1) _ _ (rd_L1 l1 x5_1) false _ ?side1 ?side2 ?side3 ?side4 A7.out).mono ?_); (case side1 => exact cC_ HR130_0.out); (case side2 => exact HC130_0.out); (case side3 => exact cC_ HR131_0.out); (case side4 => exact HC131_0.out); rintro e w' ⟨rfl, ⟨nd, rfl⟩⟩; (try exact dd_)))
      repeat (go_quiet (first | (go_at_call 25; (with_reducible refine (laws_eqInt64S.calls k1 _ _ (rd_L1 l0 x5_1) _ _ (rd_L1 l1 x5_1) false _ ?side1 ?side2 ?side3 ?side4 A7.out).mono ?_); (case side1 => exact cC_ HR130_0.out); (case side2 => exact HC130_0.out); (case side3 => exact cC_ HR131_0.out); (case side4 => exact HC131_0.out); rintro e w' ⟨rfl, ⟨nd, rfl⟩⟩; (try exact dd_))); try go_wp2_with (first | (go_at_call 25; (with_reducible refine (laws_eqInt64S.calls k1 _ _ (rd_L1 l0 x5_1) _ _ (rd_L1 l1 x5_1) false _ ?side1 ?side2 ?side3 ?side4 A7.out).mono ?_); (case side1 => exact cC_ HR130_0.out); (case side2 => exact HC130_0.out); (case side3 => exact cC_ HR131_0.out); (case side4 => exact HC131_0.out); rintro e w' ⟨rfl, ⟨nd, rfl⟩⟩; (try exact dd_))))
      go_ret
      exact ⟨rf_, by repeat (first | exact Drawn0.refl _ | apply Drawn0.step)⟩

def laws_eqAutomaton.f (k : Nat) (a0_0 : Int) (l0_1 : List (List Int)) (l0_2 : List Int) (a1_0 : Int) (l1_1 : List (List Int)) (l1_2 : List Int) : Option (Bool) := if a0_0 = a1_0 then ((laws_eqInt64SS.f k l0_1 l1_1).bind fun t135 => (if t135 = true then ((laws_eqInt64S.f k l0_2 l1_2).bind fun t136 => (if t136 = true then (some true) else (some false))) else (some false))) else (some false)
set_option maxHeartbeats 8000000 in
set_option maxRecDepth 100000 in
theorem laws_eqAutomaton.calls (k : Nat) (a0_0 : Int) (A0_1 : Option Addr) (c0_1 : Nat) (l0_1 : List (List Int)) (A0_2 : Option Addr) (c0_2 : Nat) (l0_2 : List Int) (a1_0 : Int) (A1_1 : Option Addr) (c1_1 : Nat) (l1_1 : List (List Int)) (A1_2 : Option Addr) (c1_2 : Nat) (l1_2 : List Int) (r : Bool) (w : World) (hr0_1 : Kd.C (Kd.slice 2 (Kd.int .i64)) w A0_1 l0_1.length l0_1) (hc0_1 : l0_1.length ≤ c0_1) (hr0_2 : Kd.C (Kd.int .i64) w A0_2 l0_2.length l0_2) (hc0_2 : l0_2.length ≤ c0_2) (hr1_1 : Kd.C (Kd.slice 2 (Kd.int .i64)) w A1_1 l1_1.length l1_1) (hc1_1 : l1_1.length ≤ c1_1) (hr1_2 : Kd.C (Kd.int .i64) w A1_2 l1_2.length l1_2) (hc1_2 : l1_2.length ≤ c1_2) (h : laws_eqAutomaton.f k a0_0 l0_1 l0_2 a1_0 l1_1 l1_2 = some r) :
    Calls Try.prog 9 #[.agg #[.int .i64 a0_0, .slice A0_1 l0_1.length c0_1, .slice A0_2 l0_2.length c0_2], .agg #[.int .i64 a1_0, .slice A1_1 l1_1.length c1_1, .slice A1_2 l1_2.length c1_2]] w fun e w' => e = .returned (.bool r) ∧ Below w.heap.size w w' := by
  have hu29 := Try.underlying29
  have HR0_1 := as_ hr0_1
  have HC0_1 := as_ hc0_1
  clear hr0_1 hc0_1
  have HR0_2 := as_ hr0_2
  have HC0_2 := as_ hc0_2
  clear hr0_2 hc0_2
  have HR1_1 := as_ hr1_1
  have HC1_1 := as_ hc1_1
  clear hr1_1 hc1_1
  have HR1_2 := as_ hr1_2
  have HC1_2 := as_ hc1_2
  clear hr1_2 hc1_2
  have HB := as_ (Below.refl w.heap.size w)
  have H : (if a0_0 = a1_0 then ((laws_eqInt64SS.f k l0_1 l1_1).bind fun t135 => (if t135 = true then ((laws_eqInt64S.f k l0_2 l1_2).bind fun t136 => (if t136 = true then (some true) else (some false))) else (some false))) else (some false)) = some r := h
  clear h
  by_cases c3 : a0_0 = a1_0
  rotate_left
  · rw [if_neg c3] at H
    have c3b0 := beq_eq_false_iff_ne.mpr c3
    have c3b1 := bne_iff_ne.mpr c3
    obtain rfl := Option.some.inj H
    go_enter Try.func9, Try.ntmps9
    go_wp2_with (first | ((with_reducible refine gate_dst (N := 2) rfl ?_); refine bx_ 2 #[.int .i64 a0_0, .slice A0_1 l0_1.length c0_1, .slice A0_2 l0_2.length c0_2] 29 ?_; intro gb133 hg w23 hbox hb; have BK133 := as_ (hbox); have GW133 := gz_ hg (b_ HB); have GE133 := GW133; replace HB := as_ (below_step (b_ HB) hb); clear hb hbox hg) | ((with_reducible refine gate_dst (N := 3) rfl ?_); refine bx_ 3 #[.int .i64 a1_0, .slice A1_1 l1_1.length c1_1, .slice A1_2 l1_2.length c1_2] 29 ?_; intro gb134 hg w24 hbox hb; have BK134 := as_ (hbox); have GW134 := gz_ hg (b1_ HB GE133); have GE134 := GW134; replace HB := as_ (below_step (b1_ HB GE133) hb); have NB133_134 := nl_ hg (bk_ BK133); have NB134_133 := ng_ hg (bk_ BK133); replace BK133 := kb_ BK133 hb; clear hb hbox hg; have hnb25 := NB133_134.out; have hnc25 := NB134_133.out; obtain ⟨hcz26_0, hfz26_0, hcz26_1, hfz26_1, hcz26_2, hfz26_2⟩ := tc3_ BK133; obtain ⟨hcz27_0, hfz27_0, hcz27_1, hfz27_1, hcz27_2, hfz27_2⟩ := tc3_ BK134))
    go_ret
    exact ⟨re_, b2_ HB GE133 GE134⟩
  rw [if_pos c3] at H
  have c3b0 := beq_iff_eq.mpr c3
  have c3b1 := bne_eq_false_iff_eq.mpr c3
  clear c3
  obtain ⟨t135, A4, H⟩ := bo_ H
  by_cases c5 : t135 = true
  rotate_left
  · replace c5 := Bool.eq_false_iff.mpr c5
    subst c5
    replace H := if_ H
    obtain rfl := Option.some.inj H
    go_enter Try.func9, Try.ntmps9
    go_wp2_with (first | ((with_reducible refine gate_dst (N := 2) rfl ?_); refine bx_ 2 #[.int .i64 a0_0, .slice A0_1 l0_1.length c0_1, .slice A0_2 l0_2.length c0_2] 29 ?_; intro gb133 hg w18 hbox hb; have BK133 := as_ (hbox); have GW133 := gz_ hg (b_ HB); have GE133 := GW133; replace HB := as_ (below_step (b_ HB) hb); clear hb hbox hg) | ((with_reducible refine gate_dst (N := 3) rfl ?_); refine bx_ 3 #[.int .i64 a1_0, .slice A1_1 l1_1.length c1_1, .slice A1_2 l1_2.length c1_2] 29 ?_; intro gb134 hg w19 hbox hb; have BK134 := as_ (hbox); have GW134 := gz_ hg (b1_ HB GE133); have GE134 := GW134; replace HB := as_ (below_step (b1_ HB GE133) hb); have NB133_134 := nl_ hg (bk_ BK133); have NB134_133 := ng_ hg (bk_ BK133); replace BK133 := kb_ BK133 hb; clear hb hbox hg; have hnb20 := NB133_134.out; have hnc20 := NB134_133.out; obtain ⟨hcz21_0, hfz21_0, hcz21_1, hfz21_1, hcz21_2, hfz21_2⟩ := tc3_ BK133; obtain ⟨hcz22_0, hfz22_0, hcz22_1, hfz22_1, hcz22_2, hfz22_2⟩ := tc3_ BK134) | ((with_reducible refine gate_callee (f := 24) rfl ?_); refine gL_ 14 Try.func24 #[.slice A0_1 l0_1.length c0_1, .slice A1_1 l1_1.length c1_1] ?_; (with_reducible refine (laws_eqInt64SS.calls k _ _ l0_1 _ _ l1_1 false _ ?side1 ?side2 ?side3 ?side4 A4.out).mono ?_); (case side1 => exact bC_ HR0_1 HB); (case side2 => exact HC0_1.out); (case side3 => exact bC_ HR1_1 HB); (case side4 => exact HC1_1.out); rintro e w' ⟨rfl, ⟨nd, rfl⟩⟩; refine ⟨_, rfl, ?_⟩))
    go_ret
    exact ⟨re_, b2_ HB GE133 GE134⟩
  subst c5
  replace H := it_ H
  obtain ⟨t136, A6, H⟩ := bo_ H
  by_cases c7 : t136 = true
  · subst c7
    replace H := it_ H
    obtain rfl := Option.some.inj H
    go_enter Try.func9, Try.ntmps9
    go_wp2_with (first | ((with_reducible refine gate_dst (N := 2) rfl ?_); refine bx_ 2 #[.int .i64 a0_0, .slice A0_1 l0_1.length c0_1, .slice A0_2 l0_2.length c0_2] 29 ?_; intro gb133 hg w8 hbox hb; have BK133 := as_ (hbox); have GW133 := gz_ hg (b_ HB); have GE133 := GW133; replace HB := as_ (below_step (b_ HB) hb); clear hb hbox hg) | ((with_reducible refine gate_dst (N := 3) rfl ?_); refine bx_ 3 #[.int .i64 a1_0, .slice A1_1 l1_1.length c1_1, .slice A1_2 l1_2.length c1_2] 29 ?_; intro gb134 hg w9 hbox hb; have BK134 := as_ (hbox); have GW134 := gz_ hg (b1_ HB GE133); have GE134 := GW134; replace HB := as_ (below_step (b1_ HB GE133) hb); have NB133_134 := nl_ hg (bk_ BK133); have NB134_133 := ng_ hg (bk_ BK133); replace BK133 := kb_ BK133 hb; clear hb hbox hg; have hnb10 := NB133_134.out; have hnc10 := NB134_133.out; obtain ⟨hcz11_0, hfz11_0, hcz11_1, hfz11_1, hcz11_2, hfz11_2⟩ := tc3_ BK133; obtain ⟨hcz12_0, hfz12_0, hcz12_1, hfz12_1, hcz12_2, hfz12_2⟩ := tc3_ BK134) | ((with_reducible refine gate_callee (f := 24) rfl ?_); refine gL_ 14 Try.func24 #[.slice A0_1 l0_1.length c0_1, .slice A1_1 l1_1.length c1_1] ?_; (with_reducible refine (laws_eqInt64SS.calls k _ _ l0_1 _ _ l1_1 true _ ?side1 ?side2 ?side3 ?side4 A4.out).mono ?_); (case side1 => exact bC_ HR0_1 HB); (case side2 => exact HC0_1.out); (case side3 => exact bC_ HR1_1 HB); (case side4 => exact HC1_1.out); rintro e w' ⟨rfl, ⟨nd, rfl⟩⟩; refine ⟨_, rfl, ?_⟩) | ((with_reducible refine gate_callee (f := 25) rfl ?_); refine gL_ 20 Try.func25 #[.slice A0_2 l0_2.length c0_2, .slice A1_2 l1_2.length c1_2] ?_; (with_reducible refine (laws_eqInt64S.calls k _ _ l0_2 _ _ l1_2 true _ ?side1 ?side2 ?side3 ?side4 A6.out).mono ?_); (case side1 => repeat (first | exact (Kd.C_below HR0_2.out (b2_ HB GE133 GE134)) | (with_reducible refine Kd.C_alloc ?_ _) | (with_reducible refine Kd.C_drewN ?_ _) | (with_reducible refine Kd.C_drew ?_))); (case side2 => exact HC0_2.out); (case side3 => repeat (first | exact (Kd.C_below HR1_2.out (b2_ HB GE133 GE134)) | (with_reducible refine Kd.C_alloc ?_ _) | (with_reducible refine Kd.C_drewN ?_ _) | (with_reducible refine Kd.C_drew ?_))); (case side4 => exact HC1_2.out); rintro e w' ⟨rfl, ⟨nd, rfl⟩⟩; refine ⟨_, rfl, ?_⟩))
    go_ret
    exact ⟨re_, b2_ HB GE133 GE134⟩
  replace c7 := Bool.eq_false_iff.mpr c7
  subst c7
  replace H := if_ H
  obtain rfl := Option.some.inj H
  go_enter Try.func9, Try.ntmps9
  go_wp2_with (first | ((with_reducible refine gate_dst (N := 2) rfl ?_); refine bx_ 2 #[.int .i64 a0_0, .slice A0_1 l0_1.length c0_1, .slice A0_2 l0_2.length c0_2] 29 ?_; intro gb133 hg w13 hbox hb; have BK133 := as_ (hbox); have GW133 := gz_ hg (b_ HB); have GE133 := GW133; replace HB := as_ (below_step (b_ HB) hb); clear hb hbox hg) | ((with_reducible refine gate_dst (N := 3) rfl ?_); refine bx_ 3 #[.int .i64 a1_0, .slice A1_1 l1_1.length c1_1, .slice A1_2 l1_2.length c1_2] 29 ?_; intro gb134 hg w14 hbox hb; have BK134 := as_ (hbox); have GW134 := gz_ hg (b1_ HB GE133); have GE134 := GW134; replace HB := as_ (below_step (b1_ HB GE133) hb); have NB133_134 := nl_ hg (bk_ BK133); have NB134_133 := ng_ hg (bk_ BK133); replace BK133 := kb_ BK133 hb; clear hb hbox hg; have hnb15 := NB133_134.out; have hnc15 := NB134_133.out; obtain ⟨hcz16_0, hfz16_0, hcz16_1, hfz16_1, hcz16_2, hfz16_2⟩ := tc3_ BK133; obtain ⟨hcz17_0, hfz17_0, hcz17_1, hfz17_1, hcz17_2, hfz17_2⟩ := tc3_ BK134) | ((with_reducible refine gate_callee (f := 24) rfl ?_); refine gL_ 14 Try.func24 #[.slice A0_1 l0_1.length c0_1, .slice A1_1 l1_1.length c1_1] ?_; (with_reducible refine (laws_eqInt64SS.calls k _ _ l0_1 _ _ l1_1 true _ ?side1 ?side2 ?side3 ?side4 A4.out).mono ?_); (case side1 => exact bC_ HR0_1 HB); (case side2 => exact HC0_1.out); (case side3 => exact bC_ HR1_1 HB); (case side4 => exact HC1_1.out); rintro e w' ⟨rfl, ⟨nd, rfl⟩⟩; refine ⟨_, rfl, ?_⟩) | ((with_reducible refine gate_callee (f := 25) rfl ?_); refine gL_ 20 Try.func25 #[.slice A0_2 l0_2.length c0_2, .slice A1_2 l1_2.length c1_2] ?_; (with_reducible refine (laws_eqInt64S.calls k _ _ l0_2 _ _ l1_2 false _ ?side1 ?side2 ?side3 ?side4 A6.out).mono ?_); (case side1 => repeat (first | exact (Kd.C_below HR0_2.out (b2_ HB GE133 GE134)) | (with_reducible refine Kd.C_alloc ?_ _) | (with_reducible refine Kd.C_drewN ?_ _) | (with_reducible refine Kd.C_drew ?_))); (case side2 => exact HC0_2.out); (case side3 => repeat (first | exact (Kd.C_below HR1_2.out (b2_ HB GE133 GE134)) | (with_reducible refine Kd.C_alloc ?_ _) | (with_reducible refine Kd.C_drewN ?_ _) | (with_reducible refine Kd.C_drew ?_))); (case side4 => exact HC1_2.out); rintro e w' ⟨rfl, ⟨nd, rfl⟩⟩; refine ⟨_, rfl, ?_⟩))
  go_ret
  exact ⟨re_, b2_ HB GE133 GE134⟩

def spec_l01In.f (a0 : Int) (a1 : Int) (a2 : Int) : Option (Bool) := if a0 ≥ a1 then (some (decide (a0 ≤ a2))) else (some false)
set_option maxHeartbeats 8000000 in
set_option maxRecDepth 100000 in
theorem spec_l01In.calls (a0 : Int) (a1 : Int) (a2 : Int) (r : Bool) (w : World) (h : spec_l01In.f a0 a1 a2 = some r) :
    Calls Try.prog 26 #[.int .i64 a0, .int .i64 a1, .int .i64 a2] w fun e w' => e = .returned (.bool r) ∧ Drawn0 w w' := by
  have H : (if a0 ≥ a1 then (some (decide (a0 ≤ a2))) else (some false)) = some r := h
  clear h
  by_cases c4 : a0 ≥ a1
  · rw [if_pos c4] at H
    have c4b0 := decide_eq_true c4
    clear c4
    obtain rfl := Option.some.inj H
    go_enter Try.func26, Try.ntmps26
    go_wp2
    go_ret
    exact ⟨rf_, by repeat (first | exact Drawn0.refl _ | apply Drawn0.step)⟩
  rw [if_neg c4] at H
  have c4b0 := decide_eq_false c4
  clear c4
  obtain rfl := Option.some.inj H
  go_enter Try.func26, Try.ntmps26
  go_wp2
  go_ret
  exact ⟨rf_, by repeat (first | exact Drawn0.refl _ | apply Drawn0.step)⟩

mutual
def spec_l06Is.j0 : Nat → Int → Bool → Int → List (List Int) → List Int → Option (Bool)
  | 0, _, _, _, _, _ => none
  | k + 1, x3, x20, x138000, x138001, x138002 => if x20 = true then (some false) else (spec_l06Is.l0 k x3 0 x138000 x138001 x138002)
def spec_l06Is.l0 : Nat → Int → Int → Int → List (List Int) → List Int → Option (Bool)
  | 0, _, _, _, _, _ => none
  | k + 1, x3, x4, x138000, x138001, x138002 => if x4 < x3 then (if 0 ≤ x4 then (if x4 < (x138001.length : Int) then (if ((rd_L1 x138001 x4).length : Int) = x3 then (spec_l06Is.l1 k x3 x4 0 x138000 x138001 x138002) else (some false)) else (none)) else (none)) else (spec_l06Is.l2 k x3 0 x138000 x138001 x138002)
def spec_l06Is.l1 : Nat → Int → Int → Int → Int → List (List Int) → List Int → Option (Bool)
  | 0, _, _, _, _, _, _ => none
  | k + 1, x3, x4, x5, x138000, x138001, x138002 => if x5 < x3 then (if 0 ≤ x4 then (if x4 < (x138001.length : Int) then (if 0 ≤ x5 then (if x5 < ((rd_L1 x138001 x4).length : Int) then ((spec_l01In.f (rd (rd_L1 x138001 x4) x5) 0 (wrap64 (x3 - 1))).bind fun t143 => (if t143 = true then (spec_l06Is.l1 k x3 x4 (wrap64 (x5 + 1)) x138000 x138001 x138002) else (some false))) else (none)) else (none)) else (none)) else (none)) else (spec_l06Is.l0 k x3 (wrap64 (x4 + 1)) x138000 x138001 x138002)
def spec_l06Is.l2 : Nat → Int → Int → Int → List (List Int) → List Int → Option (Bool)
  | 0, _, _, _, _, _ => none
  | k + 1, x3, x6, x138000, x138001, x138002 => if x6 < (x138002.length : Int) then (if 0 ≤ x6 then ((spec_l01In.f (rd x138002 x6) 0 (wrap64 (x3 - 1))).bind fun t145 => (if t145 = true then (if x6 > 0 then (if 0 ≤ (wrap64 (x6 - 1)) then (if (wrap64 (x6 - 1)) < (x138002.length : Int) then (if (rd x138002 (wrap64 (x6 - 1))) ≥ (rd x138002 x6) then (some false) else (spec_l06Is.l2 k x3 (wrap64 (x6 + 1)) x138000 x138001 x138002)) else (none)) else (none)) else (spec_l06Is.l2 k x3 (wrap64 (x6 + 1)) x138000 x138001 x138002)) else (some false))) else (none)) else (some true)
end
def spec_l06Is.f (k : Nat) (a0_0 : Int) (l0_1 : List (List Int)) (l0_2 : List Int) : Option (Bool) := (spec_l01In.f (l0_1.length : Int) 1 9).bind fun t138 => (if t138 = true then ((spec_l01In.f a0_0 0 (wrap64 ((l0_1.length : Int) - 1))).bind fun t139 => (spec_l06Is.j0 k (l0_1.length : Int) (!t139) a0_0 l0_1 l0_2)) else (spec_l06Is.j0 k (l0_1.length : Int) true a0_0 l0_1 l0_2))
set_option maxHeartbeats 8000000 in
set_option maxRecDepth 100000 in
theorem spec_l06Is.calls (k : Nat) (a0_0 : Int) (A0_1 : Option Addr) (c0_1 : Nat) (l0_1 : List (List Int)) (A0_2 : Option Addr) (c0_2 : Nat) (l0_2 : List Int) (r : Bool) (w : World) (hr0_1 : Kd.C (Kd.slice 2 (Kd.int .i64)) w A0_1 l0_1.length l0_1) (hc0_1 : l0_1.length ≤ c0_1) (hr0_2 : Kd.C (Kd.int .i64) w A0_2 l0_2.length l0_2) (hc0_2 : l0_2.length ≤ c0_2) (h : spec_l06Is.f k a0_0 l0_1 l0_2 = some r) :
    Calls Try.prog 16 #[.agg #[.int .i64 a0_0, .slice A0_1 l0_1.length c0_1, .slice A0_2 l0_2.length c0_2]] w fun e w' => e = .returned (.bool r) ∧ Below w.heap.size w w' := by
  have hu29 := Try.underlying29
  have HR0_1 := as_ hr0_1
  have HC0_1 := as_ hc0_1
  clear hr0_1 hc0_1
  have HR0_2 := as_ hr0_2
  have HC0_2 := as_ hc0_2
  clear hr0_2 hc0_2
  have HB := as_ (Below.refl w.heap.size w)
  have H : ((spec_l01In.f (l0_1.length : Int) 1 9).bind fun t138 => (if t138 = true then ((spec_l01In.f a0_0 0 (wrap64 ((l0_1.length : Int) - 1))).bind fun t139 => (spec_l06Is.j0 k (l0_1.length : Int) (!t139) a0_0 l0_1 l0_2)) else (spec_l06Is.j0 k (l0_1.length : Int) true a0_0 l0_1 l0_2))) = some r := h
  clear h
  have HC2 := as_ H
  clear H
  go_enter Try.func16, Try.ntmps16
  go_upto_region 2 with (first | ((with_reducible refine gate_dst (N := 1) rfl ?_); refine bx_ 1 #[.int .i64 a0_0, .slice A0_1 l0_1.length c0_1, .slice A0_2 l0_2.length c0_2] 29 ?_; intro gb137 hg w3 hbox hb; have BK137 := as_ (hbox); have GW137 := gz_ hg (b_ HB); have GE137 := GW137; replace HB := as_ (below_step (b_ HB) hb); clear hb hbox hg; obtain ⟨hcz4_0, hfz4_0, hcz4_1, hfz4_1, hcz4_2, hfz4_2⟩ := tc3_ BK137))
  repeat (go_quiet (first | ((with_reducible refine gate_dst (N := 1) rfl ?_); refine bx_ 1 #[.int .i64 a0_0, .slice A0_1 l0_1.length c0_1, .slice A0_2 l0_2.length c0_2] 29 ?_; intro gb137 hg w3 hbox hb; have BK137 := as_ (hbox); have GW137 := gz_ hg (b_ HB); have GE137 := GW137; replace HB := as_ (below_step (b_ HB) hb); clear hb hbox hg; obtain ⟨hcz4_0, hfz4_0, hcz4_1, hfz4_1, hcz4_2, hfz4_2⟩ := tc3_ BK137)); go_upto_region 2 with (first | ((with_reducible refine gate_dst (N := 1) rfl ?_); refine bx_ 1 #[.int .i64 a0_0, .slice A0_1 l0_1.length c0_1, .slice A0_2 l0_2.length c0_2] 29 ?_; intro gb137 hg w3 hbox hb; have BK137 := as_ (hbox); have GW137 := gz_ hg (b_ HB); have GE137 := GW137; replace HB := as_ (below_step (b_ HB) hb); clear hb hbox hg; obtain ⟨hcz4_0, hfz4_0, hcz4_1, hfz4_1, hcz4_2, hfz4_2⟩ := tc3_ BK137)))
  (try simp only [Act.put, List.setIfInBounds_toArray, List.set_cons_zero, List.set_cons_succ])
  go_cut [20] (fun v20 wc => ∃ (kq : Nat) (x20_1 : Bool), v20 = .bool x20_1 ∧ Aside0 (spec_l06Is.j0 kq (l0_1.length : Int) x20_1 a0_0 l0_1 l0_2 = some r) ∧ Aside0 (kq ≤ k) ∧ Aside0 (wc.heap[gb137]? = some (.cells #[.int .i64 a0_0, (.slice A0_1 l0_1.length c0_1), (.slice A0_2 l0_2.length c0_2)] 29 (0, 0))) ∧ Aside0 (Below w.heap.size w wc))
  case first =>
    have H := HC2.out
    clear HC2
    obtain ⟨t138, A5, H⟩ := bo_ H
    by_cases c6 : t138 = true
    · subst c6
      replace H := it_ H
      obtain ⟨t139, A7, H⟩ := bo_ H
      have H' := as_ H
      clear H
      go_wp2_with (first | (go_at_call 26; (with_reducible refine (spec_l01In.calls (l0_1.length : Int) 1 9 true _ A5.out).mono ?_); rintro e w' ⟨rfl, ⟨nd, rfl⟩⟩; (try exact dd_); obtain ⟨hcz8_0, hfz8_0, hcz8_1, hfz8_1, hcz8_2, hfz8_2⟩ := tc3_ BK137) | (go_at_call 26; (with_reducible refine (spec_l01In.calls a0_0 0 (wrap64 ((l0_1.length : Int) - 1)) t139 _ A7.out).mono ?_); rintro e w' ⟨rfl, ⟨nd, rfl⟩⟩; (try exact dd_)))
      repeat (go_quiet (first | (go_at_call 26; (with_reducible refine (spec_l01In.calls (l0_1.length : Int) 1 9 true _ A5.out).mono ?_); rintro e w' ⟨rfl, ⟨nd, rfl⟩⟩; (try exact dd_); obtain ⟨hcz8_0, hfz8_0, hcz8_1, hfz8_1, hcz8_2, hfz8_2⟩ := tc3_ BK137) | (go_at_call 26; (with_reducible refine (spec_l01In.calls a0_0 0 (wrap64 ((l0_1.length : Int) - 1)) t139 _ A7.out).mono ?_); rintro e w' ⟨rfl, ⟨nd, rfl⟩⟩; (try exact dd_))); try go_wp2_with (first | (go_at_call 26; (with_reducible refine (spec_l01In.calls (l0_1.length : Int) 1 9 true _ A5.out).mono ?_); rintro e w' ⟨rfl, ⟨nd, rfl⟩⟩; (try exact dd_); obtain ⟨hcz8_0, hfz8_0, hcz8_1, hfz8_1, hcz8_2, hfz8_2⟩ := tc3_ BK137) | (go_at_call 26; (with_reducible refine (spec_l01In.calls a0_0 0 (wrap64 ((l0_1.length : Int) - 1)) t139 _ A7.out).mono ?_); rintro e w' ⟨rfl, ⟨nd, rfl⟩⟩; (try exact dd_))))
      go_meet
      case rel => exact ⟨_, (!t139), rf_, H', ⟨by first | omega | exact Nat.le_refl _⟩, ⟨bk_ BK137⟩, ⟨b1_ HB GE137⟩⟩
    replace c6 := Bool.eq_false_iff.mpr c6
    subst c6
    replace H := if_ H
    have H' := as_ H
    clear H
    go_wp2_with (first | (go_at_call 26; (with_reducible refine (spec_l01In.calls (l0_1.length : Int) 1 9 false _ A5.out).mono ?_); rintro e w' ⟨rfl, ⟨nd, rfl⟩⟩; (try exact dd_)))
    repeat (go_quiet (first | (go_at_call 26; (with_reducible refine (spec_l01In.calls (l0_1.length : Int) 1 9 false _ A5.out).mono ?_); rintro e w' ⟨rfl, ⟨nd, rfl⟩⟩; (try exact dd_))); try go_wp2_with (first | (go_at_call 26; (with_reducible refine (spec_l01In.calls (l0_1.length : Int) 1 9 false _ A5.out).mono ?_); rintro e w' ⟨rfl, ⟨nd, rfl⟩⟩; (try exact dd_))))
    go_meet
    case rel => exact ⟨_, (true), rf_, H', ⟨by first | omega | exact Nat.le_refl _⟩, ⟨bk_ BK137⟩, ⟨b1_ HB GE137⟩⟩
  case rest =>
    clear HC2
    (try clear c1); (try clear p2); (try clear c6); (try clear p6); (try clear hcz4_0); (try clear hcz4_1); (try clear hcz4_2); (try clear hcz8_0); (try clear hcz8_1); (try clear hcz8_2); (try clear hfz4_0); (try clear hfz4_1); (try clear hfz4_2); (try clear hfz8_0); (try clear hfz8_1); (try clear hfz8_2)
    obtain ⟨kq, x20_1, rfl, HA, HJ1, BK137, HB⟩ := hcut
    cases kq with
    | zero => exact absurd HA.out (by simp [spec_l06Is.j0])
    | succ kj1 =>
      have H := HA.out
      clear HA
      simp only [spec_l06Is.j0] at H
      by_cases c9 : x20_1 = true
      · subst c9
        replace H := it_ H
        obtain rfl := Option.some.inj H
        go_wp2
        repeat (go_quiet (fail); try go_wp2)
        go_ret
        exact ⟨re_, b1_ HB GE137⟩
      replace c9 := Bool.eq_false_iff.mpr c9
      subst c9
      replace H := if_ H
      have H' := as_ H
      clear H
      go_wp2
      repeat (go_quiet (fail); try go_wp2)
      go_loopg [4] kj1 (fun kq v4 w' => ∃ (x4_2 : Int), v4 = .int .i64 x4_2 ∧ Aside0 (spec_l06Is.l0 kq (l0_1.length : Int) x4_2 a0_0 l0_1 l0_2 = some r) ∧ Aside0 (kq ≤ kj1) ∧ Aside0 (w'.heap[gb137]? = some (.cells #[.int .i64 a0_0, (.slice A0_1 l0_1.length c0_1), (.slice A0_2 l0_2.length c0_2)] 29 (0, 0))) ∧ Aside0 (Below w.heap.size w w'))
      case atStart => exact ⟨(0), rf_, H', ⟨Nat.le_refl _⟩, ⟨bk_ BK137⟩, ⟨b1_ HB GE137⟩⟩
      case round =>
        clear H'
        (try clear c1); (try clear p2); (try clear c6); (try clear p6); (try clear c9); (try clear hcz4_0); (try clear hcz4_1); (try clear hcz4_2); (try clear hcz8_0); (try clear hcz8_1); (try clear hcz8_2); (try clear hfz4_0); (try clear hfz4_1); (try clear hfz4_2); (try clear hfz8_0); (try clear hfz8_1); (try clear hfz8_2); (try clear p2); (try clear p6)
        obtain ⟨x4_2, rfl, HA, HK2, BK137, HB⟩ := hrel
        cases gk with
        | zero => exact absurd HA.out (by simp [spec_l06Is.l0])
        | succ k2 =>
          have H := HA.out
          clear HA
          simp only [spec_l06Is.l0] at H
          by_cases c10 : x4_2 < (l0_1.length : Int)
          · rw [if_pos c10] at H
            have c10b0 := decide_eq_true c10
            clear c10
            obtain ⟨c11b0, H⟩ := ite_d H
            obtain ⟨c12b0, H⟩ := ite_d H
            by_cases c13 : ((rd_L1 l0_1 x4_2).length : Int) = (l0_1.length : Int)
            rotate_left
            · rw [if_neg c13] at H
              have c13b0 := beq_eq_false_iff_ne.mpr c13
              have c13b1 := bne_iff_ne.mpr c13
              have c13b2 : ((rd_L1 l0_1 x4_2).length == l0_1.length) = false := by first | simpa using c13 | (simp at c13 ⊢; omega)
              obtain rfl := Option.some.inj H
              obtain ⟨hcz24_0, hfz24_0, hcz24_1, hfz24_1, hcz24_2, hfz24_2⟩ := tc3_ BK137
              have p140 : 0 ≤ (x4_2 : Int) := od_
              have q140 : x4_2 < (l0_1.length : Int) := od_
              obtain ⟨ad140, A140_0, c140_0, e140, hx140_0, hl140_0, hi140_0⟩ := at_L1 HR0_1.out x4_2 p140 q140
              cases e140
              try replace hx140_0 := hx_ HB hx140_0
              have HR140_0 := as_ hi140_0
              have HC140_0 := as_ hl140_0
              clear hi140_0 hl140_0
              replace p140 := eq_true p140
              replace q140 := eq_true q140
              go_wp2
              repeat (go_quiet (fail); try go_wp2)
              go_ret
              exact ⟨re_, b1_ HB GE137⟩
            rw [if_pos c13] at H
            have c13b0 := beq_iff_eq.mpr c13
            have c13b1 := bne_eq_false_iff_eq.mpr c13
            have c13b2 : ((rd_L1 l0_1 x4_2).length == l0_1.length) = true := by first | simpa using c13 | (simp at c13 ⊢; omega)
            clear c13
            have H' := as_ H
            clear H
            obtain ⟨hcz14_0, hfz14_0, hcz14_1, hfz14_1, hcz14_2, hfz14_2⟩ := tc3_ BK137
            have p140 : 0 ≤ (x4_2 : Int) := od_
            have q140 : x4_2 < (l0_1.length : Int) := od_
            obtain ⟨ad140, A140_0, c140_0, e140, hx140_0, hl140_0, hi140_0⟩ := at_L1 HR0_1.out x4_2 p140 q140
            cases e140
            try replace hx140_0 := hx_ HB hx140_0
            have HR140_0 := as_ hi140_0
            have HC140_0 := as_ hl140_0
            clear hi140_0 hl140_0
            replace p140 := eq_true p140
            replace q140 := eq_true q140
            go_wp2
            repeat (go_quiet (fail); try go_wp2)
            go_loopg [5] k2 (fun kq v5 w' => ∃ (x5_3 : Int), v5 = .int .i64 x5_3 ∧ Aside0 (spec_l06Is.l1 kq (l0_1.length : Int) x4_2 x5_3 a0_0 l0_1 l0_2 = some r) ∧ Aside0 (kq ≤ k2) ∧ Aside0 (w'.heap[gb137]? = some (.cells #[.int .i64 a0_0, (.slice (some ad140) l0_1.length c0_1), (.slice A0_2 l0_2.length c0_2)] 29 (0, 0))) ∧ Aside0 (Below w.heap.size w w'))
            case atStart => exact ⟨(0), rf_, H', ⟨Nat.le_refl _⟩, ⟨bk_ BK137⟩, ⟨b1_ HB GE137⟩⟩
            case round =>
              clear H'
              (try clear c1); (try clear p1); (try clear q1); (try clear hx1); (try clear p2); (try clear c6); (try clear p6); (try clear c9); (try clear c10); (try clear c10b0); (try clear c11); (try clear c11b0); (try clear c12); (try clear c12b0); (try clear c13); (try clear c13b0); (try clear c13b1); (try clear c13b2); (try clear c14); (try clear p14); (try clear q14); (try clear hx14); (try clear hcz14_0); (try clear hcz14_1); (try clear hcz14_2); (try clear hcz4_0); (try clear hcz4_1); (try clear hcz4_2); (try clear hcz8_0); (try clear hcz8_1); (try clear hcz8_2); (try clear hfz14_0); (try clear hfz14_1); (try clear hfz14_2); (try clear hfz4_0); (try clear hfz4_1); (try clear hfz4_2); (try clear hfz8_0); (try clear hfz8_1); (try clear hfz8_2); (try clear hx140_0); (try clear p140); (try clear p2); (try clear p6); (try clear q140)
              obtain ⟨x5_3, rfl, HA, HK3, BK137, HB⟩ := hrel
              cases gk with
              | zero => exact absurd HA.out (by simp [spec_l06Is.l1])
              | succ k3 =>
                have H := HA.out
                clear HA
                simp only [spec_l06Is.l1] at H
                by_cases c15 : x5_3 < (l0_1.length : Int)
                rotate_left
                · rw [if_neg c15] at H
                  have c15b0 := decide_eq_false c15
                  clear c15
                  have H' := as_ H
                  clear H
                  go_wp2
                  repeat (go_quiet (fail); try go_wp2)
                  go_roundg k3
                  case measure => have := HJ1.out; have := HK2.out; have := HK3.out; omega
                  case rel => exact ⟨(wrap64 (x4_2 + 1)), rf_, H', ⟨by have := HJ1.out; have := HK2.out; have := HK3.out; omega⟩, ⟨bk_ BK137⟩, ⟨b1_ HB GE137⟩⟩
                rw [if_pos c15] at H
                have c15b0 := decide_eq_true c15
                clear c15
                obtain ⟨c16b0, H⟩ := ite_d H
                obtain ⟨c17b0, H⟩ := ite_d H
                obtain ⟨c18b0, H⟩ := ite_d H
                obtain ⟨c19b0, H⟩ := ite_d H
                obtain ⟨t143, A20, H⟩ := bo_ H
                by_cases c21 : t143 = true
                · subst c21
                  replace H := it_ H
                  have H' := as_ H
                  clear H
                  obtain ⟨hcz22_0, hfz22_0, hcz22_1, hfz22_1, hcz22_2, hfz22_2⟩ := tc3_ BK137
                  have p141 : 0 ≤ (x4_2 : Int) := od_
                  have q141 : x4_2 < (l0_1.length : Int) := od_
                  obtain ⟨ad141, A141_0, c141_0, e141, hx141_0, hl141_0, hi141_0⟩ := at_L1 HR0_1.out x4_2 p141 q141
                  obtain rfl : ad140 = ad141 := (by injection e141)
                  try replace hx141_0 := hx_ HB hx141_0
                  have HR141_0 := as_ hi141_0
                  have HC141_0 := as_ hl141_0
                  clear hi141_0 hl141_0
                  replace p141 := eq_true p141
                  replace q141 := eq_true q141
                  have p142 : 0 ≤ (x5_3 : Int) := od_
                  have q142 : x5_3 < ((rd_L1 l0_1 x4_2).length : Int) := od_
                  obtain ⟨ad142, e142, hx142_0⟩ := Kd.at_int HR141_0.out x5_3 p142 q142
                  cases e142
                  try replace hx142_0 := hx_ HB hx142_0
                  replace p142 := eq_true p142
                  replace q142 := eq_true q142
                  go_wp2_with (first | (go_at_call 26; (with_reducible refine (spec_l01In.calls (rd (rd_L1 l0_1 x4_2) x5_3) 0 (wrap64 ((l0_1.length : Int) - 1)) true _ A20.out).mono ?_); rintro e w' ⟨rfl, ⟨nd, rfl⟩⟩; (try exact dd_)))
                  repeat (go_quiet (first | (go_at_call 26; (with_reducible refine (spec_l01In.calls (rd (rd_L1 l0_1 x4_2) x5_3) 0 (wrap64 ((l0_1.length : Int) - 1)) true _ A20.out).mono ?_); rintro e w' ⟨rfl, ⟨nd, rfl⟩⟩; (try exact dd_))); try go_wp2_with (first | (go_at_call 26; (with_reducible refine (spec_l01In.calls (rd (rd_L1 l0_1 x4_2) x5_3) 0 (wrap64 ((l0_1.length : Int) - 1)) true _ A20.out).mono ?_); rintro e w' ⟨rfl, ⟨nd, rfl⟩⟩; (try exact dd_))))
                  go_roundg k3
                  case measure => have := HJ1.out; have := HK2.out; have := HK3.out; omega
                  case rel => exact ⟨(wrap64 (x5_3 + 1)), rf_, H', ⟨by have := HJ1.out; have := HK2.out; have := HK3.out; omega⟩, ⟨bk_ BK137⟩, ⟨b1_ HB GE137⟩⟩
                replace c21 := Bool.eq_false_iff.mpr c21
                subst c21
                replace H := if_ H
                obtain rfl := Option.some.inj H
                obtain ⟨hcz23_0, hfz23_0, hcz23_1, hfz23_1, hcz23_2, hfz23_2⟩ := tc3_ BK137
                have p141 : 0 ≤ (x4_2 : Int) := od_
                have q141 : x4_2 < (l0_1.length : Int) := od_
                obtain ⟨ad141, A141_0, c141_0, e141, hx141_0, hl141_0, hi141_0⟩ := at_L1 HR0_1.out x4_2 p141 q141
                obtain rfl : ad140 = ad141 := (by injection e141)
                try replace hx141_0 := hx_ HB hx141_0
                have HR141_0 := as_ hi141_0
                have HC141_0 := as_ hl141_0
                clear hi141_0 hl141_0
                replace p141 := eq_true p141
                replace q141 := eq_true q141
                have p142 : 0 ≤ (x5_3 : Int) := od_
                have q142 : x5_3 < ((rd_L1 l0_1 x4_2).length : Int) := od_
                obtain ⟨ad142, e142, hx142_0⟩ := Kd.at_int HR141_0.out x5_3 p142 q142
                cases e142
                try replace hx142_0 := hx_ HB hx142_0
                replace p142 := eq_true p142
                replace q142 := eq_true q142
                go_wp2_with (first | (go_at_call 26; (with_reducible refine (spec_l01In.calls (rd (rd_L1 l0_1 x4_2) x5_3) 0 (wrap64 ((l0_1.length : Int) - 1)) false _ A20.out).mono ?_); rintro e w' ⟨rfl, ⟨nd, rfl⟩⟩; (try exact dd_)))
                repeat (go_quiet (first | (go_at_call 26; (with_reducible refine (spec_l01In.calls (rd (rd_L1 l0_1 x4_2) x5_3) 0 (wrap64 ((l0_1.length : Int) - 1)) false _ A20.out).mono ?_); rintro e w' ⟨rfl, ⟨nd, rfl⟩⟩; (try exact dd_))); try go_wp2_with (first | (go_at_call 26; (with_reducible refine (spec_l01In.calls (rd (rd_L1 l0_1 x4_2) x5_3) 0 (wrap64 ((l0_1.length : Int) - 1)) false _ A20.out).mono ?_); rintro e w' ⟨rfl, ⟨nd, rfl⟩⟩; (try exact dd_))))
                go_ret
                exact ⟨re_, b1_ HB GE137⟩
          rw [if_neg c10] at H
          have c10b0 := decide_eq_false c10
          clear c10
          have H' := as_ H
          clear H
          go_wp2
          repeat (go_quiet (fail); try go_wp2)
          go_loopg [6] k2 (fun kq v6 w' => ∃ (x6_3 : Int), v6 = .int .i64 x6_3 ∧ Aside0 (spec_l06Is.l2 kq (l0_1.length : Int) x6_3 a0_0 l0_1 l0_2 = some r) ∧ Aside0 (kq ≤ k2) ∧ Aside0 (w'.heap[gb137]? = some (.cells #[.int .i64 a0_0, (.slice A0_1 l0_1.length c0_1), (.slice A0_2 l0_2.length c0_2)] 29 (0, 0))) ∧ Aside0 (Below w.heap.size w w'))
          case atStart => exact ⟨(0), rf_, H', ⟨Nat.le_refl _⟩, ⟨bk_ BK137⟩, ⟨b1_ HB GE137⟩⟩
          case round =>
            clear H'
            (try clear c1); (try clear p1); (try clear q1); (try clear hx1); (try clear c2); (try clear p2); (try clear c6); (try clear p6); (try clear c9); (try clear c10); (try clear c10b0); (try clear c11); (try clear c11b0); (try clear c12); (try clear c12b0); (try clear c13); (try clear c13b0); (try clear c13b1); (try clear c13b2); (try clear c14); (try clear p14); (try clear q14); (try clear hx14); (try clear c15); (try clear c15b0); (try clear c16); (try clear c16b0); (try clear c17); (try clear c17b0); (try clear c18); (try clear c18b0); (try clear c19); (try clear c19b0); (try clear c21); (try clear hcz14_0); (try clear hcz14_1); (try clear hcz14_2); (try clear hcz22_0); (try clear hcz22_1); (try clear hcz22_2); (try clear hcz23_0); (try clear hcz23_1); (try clear hcz23_2); (try clear hcz24_0); (try clear hcz24_1); (try clear hcz24_2); (try clear hcz4_0); (try clear hcz4_1); (try clear hcz4_2); (try clear hcz8_0); (try clear hcz8_1); (try clear hcz8_2); (try clear hfz14_0); (try clear hfz14_1); (try clear hfz14_2); (try clear hfz22_0); (try clear hfz22_1); (try clear hfz22_2); (try clear hfz23_0); (try clear hfz23_1); (try clear hfz23_2); (try clear hfz24_0); (try clear hfz24_1); (try clear hfz24_2); (try clear hfz4_0); (try clear hfz4_1); (try clear hfz4_2); (try clear hfz8_0); (try clear hfz8_1); (try clear hfz8_2); (try clear hx140_0); (try clear hx141_0); (try clear hx142_0); (try clear p1); (try clear p14); (try clear p140); (try clear p141); (try clear p142); (try clear p2); (try clear p6); (try clear q1); (try clear q14); (try clear q140); (try clear q141); (try clear q142)
            obtain ⟨x6_3, rfl, HA, HK3, BK137, HB⟩ := hrel
            cases gk with
            | zero => exact absurd HA.out (by simp [spec_l06Is.l2])
            | succ k3 =>
              have H := HA.out
              clear HA
              simp only [spec_l06Is.l2] at H
              by_cases c25 : x6_3 < (l0_2.length : Int)
              rotate_left
              · rw [if_neg c25] at H
                have c25b0 := decide_eq_false c25
                clear c25
                obtain rfl := Option.some.inj H
                obtain ⟨hcz38_0, hfz38_0, hcz38_1, hfz38_1, hcz38_2, hfz38_2⟩ := tc3_ BK137
                go_wp2
                repeat (go_quiet (fail); try go_wp2)
                go_ret
                exact ⟨re_, b1_ HB GE137⟩
              rw [if_pos c25] at H
              have c25b0 := decide_eq_true c25
              clear c25
              obtain ⟨c26b0, H⟩ := ite_d H
              obtain ⟨t145, A27, H⟩ := bo_ H
              by_cases c28 : t145 = true
              rotate_left
              · replace c28 := Bool.eq_false_iff.mpr c28
                subst c28
                replace H := if_ H
                obtain rfl := Option.some.inj H
                obtain ⟨hcz37_0, hfz37_0, hcz37_1, hfz37_1, hcz37_2, hfz37_2⟩ := tc3_ BK137
                have p144 : 0 ≤ (x6_3 : Int) := od_
                have q144 : x6_3 < (l0_2.length : Int) := od_
                obtain ⟨ad144, e144, hx144_0⟩ := Kd.at_int HR0_2.out x6_3 p144 q144
                cases e144
                try replace hx144_0 := hx_ HB hx144_0
                replace p144 := eq_true p144
                replace q144 := eq_true q144
                go_wp2_with (first | (go_at_call 26; (with_reducible refine (spec_l01In.calls (rd l0_2 x6_3) 0 (wrap64 ((l0_1.length : Int) - 1)) false _ A27.out).mono ?_); rintro e w' ⟨rfl, ⟨nd, rfl⟩⟩; (try exact dd_)))
                repeat (go_quiet (first | (go_at_call 26; (with_reducible refine (spec_l01In.calls (rd l0_2 x6_3) 0 (wrap64 ((l0_1.length : Int) - 1)) false _ A27.out).mono ?_); rintro e w' ⟨rfl, ⟨nd, rfl⟩⟩; (try exact dd_))); try go_wp2_with (first | (go_at_call 26; (with_reducible refine (spec_l01In.calls (rd l0_2 x6_3) 0 (wrap64 ((l0_1.length : Int) - 1)) false _ A27.out).mono ?_); rintro e w' ⟨rfl, ⟨nd, rfl⟩⟩; (try exact dd_))))
                go_ret
                exact ⟨re_, b1_ HB GE137⟩
              subst c28
              replace H := it_ H
              by_cases c29 : x6_3 > 0
              rotate_left
              · rw [if_neg c29] at H
                have c29b0 : decide (0 < x6_3) = false := decide_eq_false c29
                clear c29
                have H' := as_ H
                clear H
                obtain ⟨hcz36_0, hfz36_0, hcz36_1, hfz36_1, hcz36_2, hfz36_2⟩ := tc3_ BK137
                have p144 : 0 ≤ (x6_3 : Int) := od_
                have q144 : x6_3 < (l0_2.length : Int) := od_
                obtain ⟨ad144, e144, hx144_0⟩ := Kd.at_int HR0_2.out x6_3 p144 q144
                cases e144
                try replace hx144_0 := hx_ HB hx144_0
                replace p144 := eq_true p144
                replace q144 := eq_true q144
                go_wp2_with (first | (go_at_call 26; (with_reducible refine (spec_l01In.calls (rd l0_2 x6_3) 0 (wrap64 ((l0_1.length : Int) - 1)) true _ A27.out).mono ?_); rintro e w' ⟨rfl, ⟨nd, rfl⟩⟩; (try exact dd_)))
                repeat (go_quiet (first | (go_at_call 26; (with_reducible refine (spec_l01In.calls (rd l0_2 x6_3) 0 (wrap64 ((l0_1.length : Int) - 1)) true _ A27.out).mono ?_); rintro e w' ⟨rfl, ⟨nd, rfl⟩⟩; (try exact dd_))); try go_wp2_with (first | (go_at_call 26; (with_reducible refine (spec_l01In.calls (rd l0_2 x6_3) 0 (wrap64 ((l0_1.length : Int) - 1)) true _ A27.out).mono ?_); rintro e w' ⟨rfl, ⟨nd, rfl⟩⟩; (try exact dd_))))
                go_roundg k3
                case measure => have := HJ1.out; have := HK2.out; have := HK3.out; omega
                case rel => exact ⟨(wrap64 (x6_3 + 1)), rf_, H', ⟨by have := HJ1.out; have := HK2.out; have := HK3.out; omega⟩, ⟨bk_ BK137⟩, ⟨b1_ HB GE137⟩⟩
              rw [if_pos c29] at H
              have c29b0 : decide (0 < x6_3) = true := decide_eq_true c29
              clear c29
              obtain ⟨ji30, hji30⟩ : ∃ j_ : Int, (wrap64 (x6_3 - 1)) = j_ := ⟨_, rfl⟩
              replace H : (if 0 ≤ (ji30) then (if (ji30) < (l0_2.length : Int) then (if (rd l0_2 (ji30)) ≥ (rd l0_2 x6_3) then (some false) else (spec_l06Is.l2 k3 (l0_1.length : Int) (wrap64 (x6_3 + 1)) a0_0 l0_1 l0_2)) else (none)) else (none)) = some r := by first | (rw [hji30] at H; exact H) | (simp only [hji30] at H ⊢; exact H)
              (try rw [hji30] at A27)
              have hji30w : (IntKind.i64.wrap (x6_3 - 1)) = ji30 := (i64_w _).trans hji30
              obtain ⟨c31b0, H⟩ := ite_d H
              obtain ⟨c32b0, H⟩ := ite_d H
              by_cases c33 : (rd l0_2 (ji30)) ≥ (rd l0_2 x6_3)
              · rw [if_pos c33] at H
                have c33b0 := decide_eq_true c33
                clear c33
                obtain rfl := Option.some.inj H
                obtain ⟨hcz34_0, hfz34_0, hcz34_1, hfz34_1, hcz34_2, hfz34_2⟩ := tc3_ BK137
                have p144 : 0 ≤ (x6_3 : Int) := od_
                have q144 : x6_3 < (l0_2.length : Int) := od_
                obtain ⟨ad144, e144, hx144_0⟩ := Kd.at_int HR0_2.out x6_3 p144 q144
                cases e144
                try replace hx144_0 := hx_ HB hx144_0
                replace p144 := eq_true p144
                replace q144 := eq_true q144
                go_wp2_with (first | (go_at_call 26; (with_reducible refine (spec_l01In.calls (rd l0_2 x6_3) 0 (wrap64 ((l0_1.length : Int) - 1)) true _ A27.out).mono ?_); rintro e w' ⟨rfl, ⟨nd, rfl⟩⟩; (try exact dd_); have p146 : 0 ≤ ((ji30) : Int) := od_; have q146 : (ji30) < (l0_2.length : Int) := od_; obtain ⟨ad146, e146, hx146_0⟩ := Kd.at_int HR0_2.out (ji30) p146 q146; obtain rfl : ad144 = ad146 := (by injection e146); replace hx146_0 := (HB.out.cell (World.block_lt_of_cell? w _ hx146_0)).trans hx146_0; replace p146 := eq_true p146; replace q146 := eq_true q146; have p147 : 0 ≤ (x6_3 : Int) := od_; have q147 : x6_3 < (l0_2.length : Int) := od_; obtain ⟨ad147, e147, hx147_0⟩ := Kd.at_int HR0_2.out x6_3 p147 q147; obtain rfl : ad144 = ad147 := (by injection e147); replace hx147_0 := (HB.out.cell (World.block_lt_of_cell? w _ hx147_0)).trans hx147_0; replace p147 := eq_true p147; replace q147 := eq_true q147))
                repeat ((try (have p146 : 0 ≤ ((ji30) : Int) := od_; have q146 : (ji30) < (l0_2.length : Int) := od_; obtain ⟨ad146, e146, hx146_0⟩ := Kd.at_int HR0_2.out (ji30) p146 q146; obtain rfl : ad144 = ad146 := (by injection e146); replace hx146_0 := (HB.out.cell (World.block_lt_of_cell? w _ hx146_0)).trans hx146_0; replace p146 := eq_true p146; replace q146 := eq_true q146; have p147 : 0 ≤ (x6_3 : Int) := od_; have q147 : x6_3 < (l0_2.length : Int) := od_; obtain ⟨ad147, e147, hx147_0⟩ := Kd.at_int HR0_2.out x6_3 p147 q147; obtain rfl : ad144 = ad147 := (by injection e147); replace hx147_0 := (HB.out.cell (World.block_lt_of_cell? w _ hx147_0)).trans hx147_0; replace p147 := eq_true p147; replace q147 := eq_true q147)); go_quiet (first | (go_at_call 26; (with_reducible refine (spec_l01In.calls (rd l0_2 x6_3) 0 (wrap64 ((l0_1.length : Int) - 1)) true _ A27.out).mono ?_); rintro e w' ⟨rfl, ⟨nd, rfl⟩⟩; (try exact dd_))); try go_wp2_with (first | (go_at_call 26; (with_reducible refine (spec_l01In.calls (rd l0_2 x6_3) 0 (wrap64 ((l0_1.length : Int) - 1)) true _ A27.out).mono ?_); rintro e w' ⟨rfl, ⟨nd, rfl⟩⟩; (try exact dd_); have p146 : 0 ≤ ((ji30) : Int) := od_; have q146 : (ji30) < (l0_2.length : Int) := od_; obtain ⟨ad146, e146, hx146_0⟩ := Kd.at_int HR0_2.out (ji30) p146 q146; obtain rfl : ad144 = ad146 := (by injection e146); replace hx146_0 := (HB.out.cell (World.block_lt_of_cell? w _ hx146_0)).trans hx146_0; replace p146 := eq_true p146; replace q146 := eq_true q146; have p147 : 0 ≤ (x6_3 : Int) := od_; have q147 : x6_3 < (l0_2.length : Int) := od_; obtain ⟨ad147, e147, hx147_0⟩ := Kd.at_int HR0_2.out x6_3 p147 q147; obtain rfl : ad144 = ad147 := (by injection e147); replace hx147_0 := (HB.out.cell (World.block_lt_of_cell? w _ hx147_0)).trans hx147_0; replace p147 := eq_true p147; replace q147 := eq_true q147)))
                repeat (go_quiet (first | (go_at_call 26; (with_reducible refine (spec_l01In.calls (rd l0_2 x6_3) 0 (wrap64 ((l0_1.length : Int) - 1)) true _ A27.out).mono ?_); rintro e w' ⟨rfl, ⟨nd, rfl⟩⟩; (try exact dd_); have p146 : 0 ≤ ((ji30) : Int) := od_; have q146 : (ji30) < (l0_2.length : Int) := od_; obtain ⟨ad146, e146, hx146_0⟩ := Kd.at_int HR0_2.out (ji30) p146 q146; obtain rfl : ad144 = ad146 := (by injection e146); replace hx146_0 := (HB.out.cell (World.block_lt_of_cell? w _ hx146_0)).trans hx146_0; replace p146 := eq_true p146; replace q146 := eq_true q146; have p147 : 0 ≤ (x6_3 : Int) := od_; have q147 : x6_3 < (l0_2.length : Int) := od_; obtain ⟨ad147, e147, hx147_0⟩ := Kd.at_int HR0_2.out x6_3 p147 q147; obtain rfl : ad144 = ad147 := (by injection e147); replace hx147_0 := (HB.out.cell (World.block_lt_of_cell? w _ hx147_0)).trans hx147_0; replace p147 := eq_true p147; replace q147 := eq_true q147)); try go_wp2_with (first | (go_at_call 26; (with_reducible refine (spec_l01In.calls (rd l0_2 x6_3) 0 (wrap64 ((l0_1.length : Int) - 1)) true _ A27.out).mono ?_); rintro e w' ⟨rfl, ⟨nd, rfl⟩⟩; (try exact dd_); have p146 : 0 ≤ ((ji30) : Int) := od_; have q146 : (ji30) < (l0_2.length : Int) := od_; obtain ⟨ad146, e146, hx146_0⟩ := Kd.at_int HR0_2.out (ji30) p146 q146; obtain rfl : ad144 = ad146 := (by injection e146); replace hx146_0 := (HB.out.cell (World.block_lt_of_cell? w _ hx146_0)).trans hx146_0; replace p146 := eq_true p146; replace q146 := eq_true q146; have p147 : 0 ≤ (x6_3 : Int) := od_; have q147 : x6_3 < (l0_2.length : Int) := od_; obtain ⟨ad147, e147, hx147_0⟩ := Kd.at_int HR0_2.out x6_3 p147 q147; obtain rfl : ad144 = ad147 := (by injection e147); replace hx147_0 := (HB.out.cell (World.block_lt_of_cell? w _ hx147_0)).trans hx147_0; replace p147 := eq_true p147; replace q147 := eq_true q147)))
                go_ret
                exact ⟨by first | rfl | (simp [errW_none, errW_some] <;> rfl) | (simp only [← hji30]; first | rfl | (simp [errW_none, errW_some] <;> rfl)) | (simp [*, errW_none, errW_some] <;> rfl), b1_ HB GE137⟩
              rw [if_neg c33] at H
              have c33b0 := decide_eq_false c33
              clear c33
              have H' := as_ H
              clear H
              obtain ⟨hcz35_0, hfz35_0, hcz35_1, hfz35_1, hcz35_2, hfz35_2⟩ := tc3_ BK137
              have p144 : 0 ≤ (x6_3 : Int) := od_
              have q144 : x6_3 < (l0_2.length : Int) := od_
              obtain ⟨ad144, e144, hx144_0⟩ := Kd.at_int HR0_2.out x6_3 p144 q144
              cases e144
              try replace hx144_0 := hx_ HB hx144_0
              replace p144 := eq_true p144
              replace q144 := eq_true q144
              go_wp2_with (first | (go_at_call 26; (with_reducible refine (spec_l01In.calls (rd l0_2 x6_3) 0 (wrap64 ((l0_1.length : Int) - 1)) true _ A27.out).mono ?_); rintro e w' ⟨rfl, ⟨nd, rfl⟩⟩; (try exact dd_); have p146 : 0 ≤ ((ji30) : Int) := od_; have q146 : (ji30) < (l0_2.length : Int) := od_; obtain ⟨ad146, e146, hx146_0⟩ := Kd.at_int HR0_2.out (ji30) p146 q146; obtain rfl : ad144 = ad146 := (by injection e146); replace hx146_0 := (HB.out.cell (World.block_lt_of_cell? w _ hx146_0)).trans hx146_0; replace p146 := eq_true p146; replace q146 := eq_true q146; have p147 : 0 ≤ (x6_3 : Int) := od_; have q147 : x6_3 < (l0_2.length : Int) := od_; obtain ⟨ad147, e147, hx147_0⟩ := Kd.at_int HR0_2.out x6_3 p147 q147; obtain rfl : ad144 = ad147 := (by injection e147); replace hx147_0 := (HB.out.cell (World.block_lt_of_cell? w _ hx147_0)).trans hx147_0; replace p147 := eq_true p147; replace q147 := eq_true q147))
              repeat ((try (have p146 : 0 ≤ ((ji30) : Int) := od_; have q146 : (ji30) < (l0_2.length : Int) := od_; obtain ⟨ad146, e146, hx146_0⟩ := Kd.at_int HR0_2.out (ji30) p146 q146; obtain rfl : ad144 = ad146 := (by injection e146); replace hx146_0 := (HB.out.cell (World.block_lt_of_cell? w _ hx146_0)).trans hx146_0; replace p146 := eq_true p146; replace q146 := eq_true q146; have p147 : 0 ≤ (x6_3 : Int) := od_; have q147 : x6_3 < (l0_2.length : Int) := od_; obtain ⟨ad147, e147, hx147_0⟩ := Kd.at_int HR0_2.out x6_3 p147 q147; obtain rfl : ad144 = ad147 := (by injection e147); replace hx147_0 := (HB.out.cell (World.block_lt_of_cell? w _ hx147_0)).trans hx147_0; replace p147 := eq_true p147; replace q147 := eq_true q147)); go_quiet (first | (go_at_call 26; (with_reducible refine (spec_l01In.calls (rd l0_2 x6_3) 0 (wrap64 ((l0_1.length : Int) - 1)) true _ A27.out).mono ?_); rintro e w' ⟨rfl, ⟨nd, rfl⟩⟩; (try exact dd_))); try go_wp2_with (first | (go_at_call 26; (with_reducible refine (spec_l01In.calls (rd l0_2 x6_3) 0 (wrap64 ((l0_1.length : Int) - 1)) true _ A27.out).mono ?_); rintro e w' ⟨rfl, ⟨nd, rfl⟩⟩; (try exact dd_); have p146 : 0 ≤ ((ji30) : Int) := od_; have q146 : (ji30) < (l0_2.length : Int) := od_; obtain ⟨ad146, e146, hx146_0⟩ := Kd.at_int HR0_2.out (ji30) p146 q146; obtain rfl : ad144 = ad146 := (by injection e146); replace hx146_0 := (HB.out.cell (World.block_lt_of_cell? w _ hx146_0)).trans hx146_0; replace p146 := eq_true p146; replace q146 := eq_true q146; have p147 : 0 ≤ (x6_3 : Int) := od_; have q147 : x6_3 < (l0_2.length : Int) := od_; obtain ⟨ad147, e147, hx147_0⟩ := Kd.at_int HR0_2.out x6_3 p147 q147; obtain rfl : ad144 = ad147 := (by injection e147); replace hx147_0 := (HB.out.cell (World.block_lt_of_cell? w _ hx147_0)).trans hx147_0; replace p147 := eq_true p147; replace q147 := eq_true q147)))
              repeat (go_quiet (first | (go_at_call 26; (with_reducible refine (spec_l01In.calls (rd l0_2 x6_3) 0 (wrap64 ((l0_1.length : Int) - 1)) true _ A27.out).mono ?_); rintro e w' ⟨rfl, ⟨nd, rfl⟩⟩; (try exact dd_); have p146 : 0 ≤ ((ji30) : Int) := od_; have q146 : (ji30) < (l0_2.length : Int) := od_; obtain ⟨ad146, e146, hx146_0⟩ := Kd.at_int HR0_2.out (ji30) p146 q146; obtain rfl : ad144 = ad146 := (by injection e146); replace hx146_0 := (HB.out.cell (World.block_lt_of_cell? w _ hx146_0)).trans hx146_0; replace p146 := eq_true p146; replace q146 := eq_true q146; have p147 : 0 ≤ (x6_3 : Int) := od_; have q147 : x6_3 < (l0_2.length : Int) := od_; obtain ⟨ad147, e147, hx147_0⟩ := Kd.at_int HR0_2.out x6_3 p147 q147; obtain rfl : ad144 = ad147 := (by injection e147); replace hx147_0 := (HB.out.cell (World.block_lt_of_cell? w _ hx147_0)).trans hx147_0; replace p147 := eq_true p147; replace q147 := eq_true q147)); try go_wp2_with (first | (go_at_call 26; (with_reducible refine (spec_l01In.calls (rd l0_2 x6_3) 0 (wrap64 ((l0_1.length : Int) - 1)) true _ A27.out).mono ?_); rintro e w' ⟨rfl, ⟨nd, rfl⟩⟩; (try exact dd_); have p146 : 0 ≤ ((ji30) : Int) := od_; have q146 : (ji30) < (l0_2.length : Int) := od_; obtain ⟨ad146, e146, hx146_0⟩ := Kd.at_int HR0_2.out (ji30) p146 q146; obtain rfl : ad144 = ad146 := (by injection e146); replace hx146_0 := (HB.out.cell (World.block_lt_of_cell? w _ hx146_0)).trans hx146_0; replace p146 := eq_true p146; replace q146 := eq_true q146; have p147 : 0 ≤ (x6_3 : Int) := od_; have q147 : x6_3 < (l0_2.length : Int) := od_; obtain ⟨ad147, e147, hx147_0⟩ := Kd.at_int HR0_2.out x6_3 p147 q147; obtain rfl : ad144 = ad147 := (by injection e147); replace hx147_0 := (HB.out.cell (World.block_lt_of_cell? w _ hx147_0)).trans hx147_0; replace p147 := eq_true p147; replace q147 := eq_true q147)))
              go_roundg k3
              case measure => have := HJ1.out; have := HK2.out; have := HK3.out; omega
              case rel => exact ⟨(wrap64 (x6_3 + 1)), rf_, H', ⟨by have := HJ1.out; have := HK2.out; have := HK3.out; omega⟩, ⟨bk_ BK137⟩, ⟨b1_ HB GE137⟩⟩

def spec_l06Number.l0 : Nat → List (List Int) → Int → Int → Int → Option (Int × (List (List Int)))
  | 0, _, _, _, _ => none
  | k + 1, x0, x1, x2, x8 => if x8 < (x0.length : Int) then (if 0 ≤ x8 then (if 0 < ((rd_L1 x0 x8).length : Int) then (if (rd (rd_L1 x0 x8) 0) = x1 then (if 1 < ((rd_L1 x0 x8).length : Int) then (if (rd (rd_L1 x0 x8) 1) = x2 then (some (x8, x0)) else (spec_l06Number.l0 k x0 x1 x2 (wrap64 (x8 + 1)))) else (none)) else (spec_l06Number.l0 k x0 x1 x2 (wrap64 (x8 + 1)))) else (none)) else (none)) else (none)
def spec_l06Number.f (k : Nat) (l0 : List (List Int)) (a1 : Int) (a2 : Int) : Option (Int × (List (List Int))) := spec_l06Number.l0 k l0 a1 a2 0
set_option maxHeartbeats 8000000 in
set_option maxRecDepth 100000 in
theorem spec_l06Number.calls (k : Nat) (P0_ : Nat → Prop) (A0 : Option Addr) (c0 : Nat) (l0 : List (List Int)) (a1 : Int) (a2 : Int) (r1 : Int) (r2 : List (List Int)) (w : World) (hs0 : Kd.V (Kd.slice 2 (Kd.int .i64)) 23 w w.heap.size (fun k_ => P0_ k_) (.slice A0 l0.length c0) l0) (h : spec_l06Number.f k l0 a1 a2 = some (r1, r2)) :
    Calls Try.prog 33 #[.slice A0 l0.length c0, .int .i64 a1, .int .i64 a2] w fun e w' => ∃ v1_ : Value, e = .returned (.tuple #[.int .i64 r1, v1_]) ∧ Kd.V (Kd.slice 2 (Kd.int .i64)) 23 w' w.heap.size (fun k_ => (P0_ k_ ∨ w.heap.size ≤ k_)) v1_ r2 ∧ Below w.heap.size w w' := by
  have HO0 := as_ (show Kd.V (Kd.slice 2 (Kd.int .i64)) 23 w w.heap.size (fun k_ => (P0_ k_ ∨ w.heap.size ≤ k_)) (.slice A0 l0.length c0) l0 from Kd.V_mono hs0 (fun k_ hk => .inl hk))
  have HB := as_ (Below.refl w.heap.size w)
  have H : (spec_l06Number.l0 k l0 a1 a2 0) = some (r1, r2) := h
  clear h
  have H' := as_ H
  clear H
  go_enter Try.func33, Try.ntmps33
  go_wp2
  go_loopg [8] k (fun kq v8 w' => ∃ (x8_1 : Int), v8 = .int .i64 x8_1 ∧ Aside0 (spec_l06Number.l0 kq l0 a1 a2 x8_1 = some (r1, r2)) ∧ Aside0 (kq ≤ k) ∧ Aside0 (Kd.V (Kd.slice 2 (Kd.int .i64)) 23 w' w.heap.size (fun k_ => (P0_ k_ ∨ w.heap.size ≤ k_)) (.slice A0 l0.length c0) l0) ∧ Aside0 (Below w.heap.size w w'))
  case atStart => exact ⟨(0), rf_, H', ⟨Nat.le_refl _⟩, ⟨iV_ HO0⟩, ⟨b_ HB⟩⟩
  case round =>
    clear H'
    (try clear p2); (try clear c3)
    obtain ⟨x8_1, rfl, HA, HK1, HO_0, HB⟩ := hrel
    cases gk with
    | zero => exact absurd HA.out (by simp [spec_l06Number.l0])
    | succ k1 =>
      have H := HA.out
      clear HA
      simp only [spec_l06Number.l0] at H
      by_cases c4 : x8_1 < (l0.length : Int)
      rotate_left
      · rw [if_neg c4] at H
        have c4b0 := decide_eq_false c4
        clear c4
        obtain ⟨y152, hy152⟩ := ex_ (([a1, a2] : List Int) : List Int)
        replace H : (none) = some (r1, r2) := yr_ hy152 H
        have Ny152 := as_ hy152
        clear hy152
        exact absurd H (by simp)
      rw [if_pos c4] at H
      have c4b0 := decide_eq_true c4
      clear c4
      obtain ⟨c5b0, H⟩ := ite_d H
      obtain ⟨c6, H⟩ := ite_s H
      have c6b0 : decide (0 < ((rd_L1 l0 x8_1).length : Int)) = true := decide_eq_true c6
      have c6b1 : decide (0 < (rd_L1 l0 x8_1).length) = true := decide_eq_true (by omega)
      clear c6
      by_cases c7 : (rd (rd_L1 l0 x8_1) 0) = a1
      rotate_left
      · rw [if_neg c7] at H
        have c7b0 := beq_eq_false_iff_ne.mpr c7
        have c7b1 := bne_iff_ne.mpr c7
        have H' := as_ H
        clear H
        have p148 : 0 ≤ (x8_1 : Int) := od_
        have q148 : x8_1 < (l0.length : Int) := od_
        obtain ⟨ad148, A148_0, c148_0, e148, hx148_0, hl148_0, hi148_0⟩ := at_L1 (Kd.V_reads' HO_0.out).2.2 x8_1 p148 q148
        cases e148
        obtain ⟨ce148, hce148, hMe148, hcc148⟩ := Kd.V_get HO_0.out [] x8_1 p148 (by first | exact q148 | exact od_ | (have e_ := (Kd.V_reads' HO_0.out).1; omega))
        obtain ⟨ua148_0, uc148_0, rfl, ul148_0, ge148_0⟩ := Kd.FK_slice_open hMe148
        have hv148_0 := hcc148 0 _ rfl
        rw [Nat.add_zero, show ((Kd.slice 2 (Kd.int .i64))).sz = 1 from rfl, Nat.mul_one] at hv148_0
        replace hv148_0 := Option.some.inj (hv148_0.symm.trans hx148_0)
        injection hv148_0 with hva_ hvn_ hvc_
        rw [hva_] at ge148_0
        rw [hvc_] at ul148_0
        have HL148_0 := as_ (show Kd.V (Kd.int .i64) 2 _ w.heap.size _ _ (rd_L1 l0 x8_1) from Kd.V_mk ul148_0 ge148_0)
        clear hva_ hvn_ hvc_ ge148_0 ul148_0
        clear hcc148 hce148
        have HR148_0 := as_ hi148_0
        have HC148_0 := as_ hl148_0
        clear hi148_0 hl148_0
        replace p148 := eq_true p148
        replace q148 := eq_true q148
        have p149 : 0 ≤ (0 : Int) := (by omega)
        have q149 : 0 < ((rd_L1 l0 x8_1).length : Int) := od_
        obtain ⟨ad149, e149, hx149_0⟩ := Kd.at_int (by repeat (first | (with_reducible exact HR148_0.out) | (with_reducible refine Kd.C_alloc ?_ _) | (with_reducible refine Kd.C_drewN ?_ _) | (with_reducible refine Kd.C_drew ?_) | exact HR148_0.out)) 0 p149 q149
        cases e149
        have qi149 : (0 < (rd_L1 l0 x8_1).length) = True := eq_true (by omega)
        (try rw [show ((0 : Int)).toNat = 0 from rfl] at hx149_0)
        (try rw [Addr.add_zero'] at hx149_0)
        replace p149 := eq_true p149
        replace q149 := eq_true q149
        go_wp2
        go_roundg k1
        case measure => have := HK1.out; omega
        case rel => exact ⟨(wrap64 (x8_1 + 1)), rf_, H', om_ HK1, ⟨iV_ HO_0⟩, ⟨b_ HB⟩⟩
      rw [if_pos c7] at H
      have c7b0 := beq_iff_eq.mpr c7
      have c7b1 := bne_eq_false_iff_eq.mpr c7
      clear c7
      obtain ⟨c8, H⟩ := ite_s H
      have c8b0 := decide_eq_true c8
      have c8b1 : decide (1 < (rd_L1 l0 x8_1).length) = true := decide_eq_true (by omega)
      clear c8
      by_cases c9 : (rd (rd_L1 l0 x8_1) 1) = a2
      · rw [if_pos c9] at H
        have c9b0 := beq_iff_eq.mpr c9
        have c9b1 := bne_eq_false_iff_eq.mpr c9
        clear c9
        simp only [Option.some.injEq, Prod.mk.injEq] at H
        obtain ⟨rfl, rfl⟩ := H
        have p148 : 0 ≤ (x8_1 : Int) := od_
        have q148 : x8_1 < (l0.length : Int) := od_
        obtain ⟨ad148, A148_0, c148_0, e148, hx148_0, hl148_0, hi148_0⟩ := at_L1 (Kd.V_reads' HO_0.out).2.2 x8_1 p148 q148
        cases e148
        obtain ⟨ce148, hce148, hMe148, hcc148⟩ := Kd.V_get HO_0.out [] x8_1 p148 (by first | exact q148 | exact od_ | (have e_ := (Kd.V_reads' HO_0.out).1; omega))
        obtain ⟨ua148_0, uc148_0, rfl, ul148_0, ge148_0⟩ := Kd.FK_slice_open hMe148
        have hv148_0 := hcc148 0 _ rfl
        rw [Nat.add_zero, show ((Kd.slice 2 (Kd.int .i64))).sz = 1 from rfl, Nat.mul_one] at hv148_0
        replace hv148_0 := Option.some.inj (hv148_0.symm.trans hx148_0)
        injection hv148_0 with hva_ hvn_ hvc_
        rw [hva_] at ge148_0
        rw [hvc_] at ul148_0
        have HL148_0 := as_ (show Kd.V (Kd.int .i64) 2 _ w.heap.size _ _ (rd_L1 l0 x8_1) from Kd.V_mk ul148_0 ge148_0)
        clear hva_ hvn_ hvc_ ge148_0 ul148_0
        clear hcc148 hce148
        have HR148_0 := as_ hi148_0
        have HC148_0 := as_ hl148_0
        clear hi148_0 hl148_0
        replace p148 := eq_true p148
        replace q148 := eq_true q148
        have p149 : 0 ≤ (0 : Int) := (by omega)
        have q149 : 0 < ((rd_L1 l0 x8_1).length : Int) := od_
        obtain ⟨ad149, e149, hx149_0⟩ := Kd.at_int (by repeat (first | (with_reducible exact HR148_0.out) | (with_reducible refine Kd.C_alloc ?_ _) | (with_reducible refine Kd.C_drewN ?_ _) | (with_reducible refine Kd.C_drew ?_) | exact HR148_0.out)) 0 p149 q149
        cases e149
        have qi149 : (0 < (rd_L1 l0 x8_1).length) = True := eq_true (by omega)
        (try rw [show ((0 : Int)).toNat = 0 from rfl] at hx149_0)
        (try rw [Addr.add_zero'] at hx149_0)
        replace p149 := eq_true p149
        replace q149 := eq_true q149
        have p150 : 0 ≤ (x8_1 : Int) := od_
        have q150 : x8_1 < (l0.length : Int) := od_
        obtain ⟨ad150, A150_0, c150_0, e150, hx150_0, hl150_0, hi150_0⟩ := at_L1 (Kd.V_reads' HO_0.out).2.2 x8_1 p150 q150
        obtain rfl : ad148 = ad150 := (by injection e150)
        obtain ⟨ce150, hce150, hMe150, hcc150⟩ := Kd.V_get HO_0.out [] x8_1 p150 (by first | exact q150 | exact od_ | (have e_ := (Kd.V_reads' HO_0.out).1; omega))
        obtain ⟨ua150_0, uc150_0, rfl, ul150_0, ge150_0⟩ := Kd.FK_slice_open hMe150
        have hv150_0 := hcc150 0 _ rfl
        rw [Nat.add_zero, show ((Kd.slice 2 (Kd.int .i64))).sz = 1 from rfl, Nat.mul_one] at hv150_0
        replace hv150_0 := Option.some.inj (hv150_0.symm.trans hx150_0)
        injection hv150_0 with hva_ hvn_ hvc_
        rw [hva_] at ge150_0
        rw [hvc_] at ul150_0
        have HL150_0 := as_ (show Kd.V (Kd.int .i64) 2 _ w.heap.size _ _ (rd_L1 l0 x8_1) from Kd.V_mk ul150_0 ge150_0)
        clear hva_ hvn_ hvc_ ge150_0 ul150_0
        clear hcc150 hce150
        have HR150_0 := as_ hi150_0
        have HC150_0 := as_ hl150_0
        clear hi150_0 hl150_0
        replace p150 := eq_true p150
        replace q150 := eq_true q150
        have ea_ := Option.some.inj (hx148_0.symm.trans hx150_0)
        injection ea_ with ea_ en_ ec_
        subst ea_
        subst ec_
        clear en_
        have p151 : 0 ≤ (1 : Int) := (by omega)
        have q151 : 1 < ((rd_L1 l0 x8_1).length : Int) := od_
        obtain ⟨ad151, e151, hx151_0⟩ := Kd.at_int (by repeat (first | (with_reducible exact HR150_0.out) | (with_reducible refine Kd.C_alloc ?_ _) | (with_reducible refine Kd.C_drewN ?_ _) | (with_reducible refine Kd.C_drew ?_) | exact HR150_0.out)) 1 p151 q151
        cases e151
        (try simp only [show (1 : Int).toNat = 1 from rfl, Nat.reduceMul, Nat.reduceEqDiff, Go.Addr.add, ↓reduceIte] at hx151_0)
        have qi151 : (1 < (rd_L1 l0 x8_1).length) = True := eq_true (by omega)
        (try rw [show ((1 : Int)).toNat = 1 from rfl] at hx151_0)
        replace p151 := eq_true p151
        replace q151 := eq_true q151
        go_wp2
        go_ret2
        exact ⟨_, re_, iV_ HO_0, b_ HB⟩
      rw [if_neg c9] at H
      have c9b0 := beq_eq_false_iff_ne.mpr c9
      have c9b1 := bne_iff_ne.mpr c9
      have H' := as_ H
      clear H
      have p148 : 0 ≤ (x8_1 : Int) := od_
      have q148 : x8_1 < (l0.length : Int) := od_
      obtain ⟨ad148, A148_0, c148_0, e148, hx148_0, hl148_0, hi148_0⟩ := at_L1 (Kd.V_reads' HO_0.out).2.2 x8_1 p148 q148
      cases e148
      obtain ⟨ce148, hce148, hMe148, hcc148⟩ := Kd.V_get HO_0.out [] x8_1 p148 (by first | exact q148 | exact od_ | (have e_ := (Kd.V_reads' HO_0.out).1; omega))
      obtain ⟨ua148_0, uc148_0, rfl, ul148_0, ge148_0⟩ := Kd.FK_slice_open hMe148
      have hv148_0 := hcc148 0 _ rfl
      rw [Nat.add_zero, show ((Kd.slice 2 (Kd.int .i64))).sz = 1 from rfl, Nat.mul_one] at hv148_0
      replace hv148_0 := Option.some.inj (hv148_0.symm.trans hx148_0)
      injection hv148_0 with hva_ hvn_ hvc_
      rw [hva_] at ge148_0
      rw [hvc_] at ul148_0
      have HL148_0 := as_ (show Kd.V (Kd.int .i64) 2 _ w.heap.size _ _ (rd_L1 l0 x8_1) from Kd.V_mk ul148_0 ge148_0)
      clear hva_ hvn_ hvc_ ge148_0 ul148_0
      clear hcc148 hce148
      have HR148_0 := as_ hi148_0
      have HC148_0 := as_ hl148_0
      clear hi148_0 hl148_0
      replace p148 := eq_true p148
      replace q148 := eq_true q148
      have p149 : 0 ≤ (0 : Int) := (by omega)
      have q149 : 0 < ((rd_L1 l0 x8_1).length : Int) := od_
      obtain ⟨ad149, e149, hx149_0⟩ := Kd.at_int (by repeat (first | (with_reducible exact HR148_0.out) | (with_reducible refine Kd.C_alloc ?_ _) | (with_reducible refine Kd.C_drewN ?_ _) | (with_reducible refine Kd.C_drew ?_) | exact HR148_0.out)) 0 p149 q149
      cases e149
      have qi149 : (0 < (rd_L1 l0 x8_1).length) = True := eq_true (by omega)
      (try rw [show ((0 : Int)).toNat = 0 from rfl] at hx149_0)
      (try rw [Addr.add_zero'] at hx149_0)
      replace p149 := eq_true p149
      replace q149 := eq_true q149
      have p150 : 0 ≤ (x8_1 : Int) := od_
      have q150 : x8_1 < (l0.length : Int) := od_
      obtain ⟨ad150, A150_0, c150_0, e150, hx150_0, hl150_0, hi150_0⟩ := at_L1 (Kd.V_reads' HO_0.out).2.2 x8_1 p150 q150
      obtain rfl : ad148 = ad150 := (by injection e150)
      obtain ⟨ce150, hce150, hMe150, hcc150⟩ := Kd.V_get HO_0.out [] x8_1 p150 (by first | exact q150 | exact od_ | (have e_ := (Kd.V_reads' HO_0.out).1; omega))
      obtain ⟨ua150_0, uc150_0, rfl, ul150_0, ge150_0⟩ := Kd.FK_slice_open hMe150
      have hv150_0 := hcc150 0 _ rfl
      rw [Nat.add_zero, show ((Kd.slice 2 (Kd.int .i64))).sz = 1 from rfl, Nat.mul_one] at hv150_0
      replace hv150_0 := Option.some.inj (hv150_0.symm.trans hx150_0)
      injection hv150_0 with hva_ hvn_ hvc_
      rw [hva_] at ge150_0
      rw [hvc_] at ul150_0
      have HL150_0 := as_ (show Kd.V (Kd.int .i64) 2 _ w.heap.size _ _ (rd_L1 l0 x8_1) from Kd.V_mk ul150_0 ge150_0)
      clear hva_ hvn_ hvc_ ge150_0 ul150_0
      clear hcc150 hce150
      have HR150_0 := as_ hi150_0
      have HC150_0 := as_ hl150_0
      clear hi150_0 hl150_0
      replace p150 := eq_true p150
      replace q150 := eq_true q150
      have ea_ := Option.some.inj (hx148_0.symm.trans hx150_0)
      injection ea_ with ea_ en_ ec_
      subst ea_
      subst ec_
      clear en_
      have p151 : 0 ≤ (1 : Int) := (by omega)
      have q151 : 1 < ((rd_L1 l0 x8_1).length : Int) := od_
      obtain ⟨ad151, e151, hx151_0⟩ := Kd.at_int (by repeat (first | (with_reducible exact HR150_0.out) | (with_reducible refine Kd.C_alloc ?_ _) | (with_reducible refine Kd.C_drewN ?_ _) | (with_reducible refine Kd.C_drew ?_) | exact HR150_0.out)) 1 p151 q151
      cases e151
      (try simp only [show (1 : Int).toNat = 1 from rfl, Nat.reduceMul, Nat.reduceEqDiff, Go.Addr.add, ↓reduceIte] at hx151_0)
      have qi151 : (1 < (rd_L1 l0 x8_1).length) = True := eq_true (by omega)
      (try rw [show ((1 : Int)).toNat = 1 from rfl] at hx151_0)
      replace p151 := eq_true p151
      replace q151 := eq_true q151
      go_wp2
      go_roundg k1
      case measure => have := HK1.out; omega
      case rel => exact ⟨(wrap64 (x8_1 + 1)), rf_, H', om_ HK1, ⟨iV_ HO_0⟩, ⟨b_ HB⟩⟩

end Go.Proofs.Ytpbfideppdmceaa.E
