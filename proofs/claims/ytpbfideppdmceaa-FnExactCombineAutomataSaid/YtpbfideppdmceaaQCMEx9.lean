/- The row of the law FnExactCombineAutomata, out of its pure statement. -/
import Derived.Test.YtpbfideppdmceaaQCMEx0
import Derived.Test.YtpbfideppdmceaaQCMEx2
import Derived.Test.YtpbfideppdmceaaQCMEx5
import Derived.Test.YtpbfideppdmceaaQCMEx7
import Derived.Test.YtpbfideppdmceaaQCMEx8
import Derived.Test.YtpbfideppdmceaaQCML
-- Written by wip/ext.py of this claim (contracts by the form of the kit's print; hand-written ones among them).
namespace Go.Proofs.Ytpbfideppdmceaa.E
open Go.RowKit Go.Proofs.YtpbfideppdmceaaW.PrintWords Go.Proofs.YtpbfideppdmceaaW.PrintLast Go.Proofs.YtpbfideppdmceaaW.PrintMore Go.Proofs.Ytpbfideppdmceaa.Mi
attribute [local go_sem] max2_int min2_int max_two min_two max_three min_three max_four min_four   -- for this text's walks alone
set_option linter.unusedVariables false
set_option linter.unusedSimpArgs false

mutual
def laws_FnExactCombineAutomata.j0 : Nat → Int → Int → Int → Bool → Int → List (List Int) → List Int → Int → List (List Int) → List Int → Int → List (List Int) → List Int → Int → List (List Int) → List Int → Int → List (List Int) → List Int → Int → List (List Int) → List Int → Option (Bool)
  | 0, _, _, _, _, _, _, _, _, _, _, _, _, _, _, _, _, _, _, _, _, _, _ => none
  | k + 1, x2, x9, x13, x57, x341000, x341001, x341002, x342000, x342001, x342002, x367000, x367001, x367002, x375000, x375001, x375002, x383000, x383001, x383002, x392000, x392001, x392002 => if x57 = true then (some false) else ((laws_toAutomaton.f k x341000 x341001 x341002).bind fun bt393 => ((laws_eqAutomaton.f k x375000 x375001 x375002 bt393.1 bt393.2.1 bt393.2.2).bind fun t400 => (if t400 = true then ((laws_toAutomaton.f k x342000 x342001 x342002).bind fun bt401 => ((laws_eqAutomaton.f k x383000 x383001 x383002 bt401.1 bt401.2.1 bt401.2.2).bind fun t408 => (if t408 = true then ((laws_markAutomaton.f k x375000 x375001 x375002 1).bind fun bt409 => ((laws_markAutomaton.f k x383000 x383001 x383002 bt409.1).bind fun bt412 => (if bt412.1 < 0 then (laws_FnExactCombineAutomata.j1 k x2 x9 true x341000 x341001 x341002 x342000 x342001 x342002 x367000 x367001 x367002 x392000 x392001 x392002) else ((laws_eqAutomaton.f k x392000 x392001 x392002 x367000 x367001 x367002).bind fun t415 => (if t415 = true then (laws_FnExactCombineAutomata.j1 k x2 x9 (x13 != x9) x341000 x341001 x341002 x342000 x342001 x342002 x367000 x367001 x367002 x392000 x392001 x392002) else (laws_FnExactCombineAutomata.j1 k x2 x9 true x341000 x341001 x341002 x342000 x342001 x342002 x367000 x367001 x367002 x392000 x392001 x392002)))))) else (some false)))) else (some false))))
def laws_FnExactCombineAutomata.j1 : Nat → Int → Int → Bool → Int → List (List Int) → List Int → Int → List (List Int) → List Int → Int → List (List Int) → List Int → Int → List (List Int) → List Int → Option (Bool)
  | 0, _, _, _, _, _, _, _, _, _, _, _, _, _, _, _ => none
  | k + 1, x2, x9, x86, x341000, x341001, x341002, x342000, x342001, x342002, x367000, x367001, x367002, x392000, x392001, x392002 => if x86 = true then (some false) else ((laws_markAutomaton.f k x392000 x392001 x392002 1).bind fun bt416 => ((laws_heldAutomaton.f k x392000 bt416.2.1 bt416.2.2 1).bind fun t419 => (if t419 < 0 then (some false) else (if t419 = bt416.1 then ((laws_toAutomaton.f k x341000 x341001 x341002).bind fun bt420 => ((laws_toAutomaton.f k x342000 x342001 x342002).bind fun bt427 => ((impl_CombineAutomata.f k bt420.1 bt420.2.1 bt420.2.2 bt427.1 bt427.2.1 bt427.2.2 x2).bind fun bt434 => ((laws_eqAutomaton.f k bt434.1 bt434.2.1 bt434.2.2.1 x367000 x367001 x367002).bind fun t443 => (if t443 = true then (laws_FnExactCombineAutomata.j2 k bt416.1 (bt434.2.2.2 != x9) x392000 bt416.2.1 bt416.2.2) else (laws_FnExactCombineAutomata.j2 k bt416.1 true x392000 bt416.2.1 bt416.2.2)))))) else (some false)))))
def laws_FnExactCombineAutomata.j2 : Nat → Int → Bool → Int → List (List Int) → List Int → Option (Bool)
  | 0, _, _, _, _, _ => none
  | k + 1, x15, x115, x392000, x392001, x392002 => if x115 = true then (some false) else ((laws_heldAutomaton.f k x392000 x392001 x392002 1).bind fun t444 => (if t444 < 0 then (some false) else (if t444 = x15 then (some true) else (some false))))
end
def laws_FnExactCombineAutomata.f (k : Nat) (a0_0 : Int) (l0_1 : List (List Int)) (l0_2 : List Int) (a1_0 : Int) (l1_1 : List (List Int)) (l1_2 : List Int) (a2 : Int) : Option (Bool) := (laws_szAutomaton.f k a0_0 l0_1 l0_2 1048576).bind fun t342 => (if t342 < 0 then (some true) else ((laws_szAutomaton.f k a1_0 l1_1 l1_2 t342).bind fun t343 => (if t343 < 0 then (some true) else ((laws_toAutomaton.f k a0_0 l0_1 l0_2).bind fun bt344 => ((laws_toAutomaton.f k a1_0 l1_1 l1_2).bind fun bt351 => ((spec_CombineAutomata.f k bt344.1 bt344.2.1 bt344.2.2 bt351.1 bt351.2.1 bt351.2.2 a2).bind fun bt358 => ((laws_toAutomaton.f k a0_0 l0_1 l0_2).bind fun bt367 => ((laws_toAutomaton.f k a1_0 l1_1 l1_2).bind fun bt375 => ((impl_CombineAutomata.f k bt367.1 bt367.2.1 bt367.2.2 bt375.1 bt375.2.1 bt375.2.2 a2).bind fun bt383 => ((laws_eqAutomaton.f k bt383.1 bt383.2.1 bt383.2.2.1 bt358.1 bt358.2.1 bt358.2.2.1).bind fun t392 => (if t392 = true then (laws_FnExactCombineAutomata.j0 k a2 bt358.2.2.2 bt383.2.2.2 (bt383.2.2.2 != bt358.2.2.2) a0_0 l0_1 l0_2 a1_0 l1_1 l1_2 bt358.1 bt358.2.1 bt358.2.2.1 bt367.1 bt367.2.1 bt367.2.2 bt375.1 bt375.2.1 bt375.2.2 bt383.1 bt383.2.1 bt383.2.2.1) else (laws_FnExactCombineAutomata.j0 k a2 bt358.2.2.2 bt383.2.2.2 true a0_0 l0_1 l0_2 a1_0 l1_1 l1_2 bt358.1 bt358.2.1 bt358.2.2.1 bt367.1 bt367.2.1 bt367.2.2 bt375.1 bt375.2.1 bt375.2.2 bt383.1 bt383.2.1 bt383.2.2.1))))))))))))
def laws_FnExactCombineAutomata.T8 : Bool × List (List Nat × List Nat) := (true, [([], []), ([0], [0]), ([], []), ([2, 1], [2]), ([], []), ([1, 3, 4, 3], [1, 3, 4]), ([5], [5]), ([6], [6]), ([6], [6]), ([], []), ([9, 7, 5, 0, 1, 2, 3, 4, 5, 6, 7, 9], [7, 9]), ([8, 10, 0, 1, 2, 3, 4, 5, 6, 7, 8, 9, 10], [8])])
def laws_FnExactCombineAutomata.B8 : List Nat := [0, 1, 0, 7, 0, 31, 63, 127, 127, 0, 767, 2047]
theorem laws_FnExactCombineAutomata.tab8 : rtab .any (opsOf Try.f4 8) = laws_FnExactCombineAutomata.T8 := by kernel_rfl
theorem laws_FnExactCombineAutomata.bits8 : waitsOk laws_FnExactCombineAutomata.T8.2 laws_FnExactCombineAutomata.B8 = true := by kernel_rfl
def laws_FnExactCombineAutomata.T31 : Bool × List (List Nat × List Nat) := (true, [([], []), ([0], [0]), ([], []), ([2, 1], [2]), ([], []), ([1, 3, 4, 3], [1, 3, 4]), ([5], [5]), ([6], [6]), ([6], [6]), ([], []), ([9, 7, 5, 0, 1, 2, 3, 4, 5, 6, 7, 9], [7, 9]), ([8, 10, 0, 1, 2, 3, 4, 5, 6, 7, 8, 9, 10], [8])])
def laws_FnExactCombineAutomata.B31 : List Nat := [0, 1, 0, 7, 0, 31, 63, 127, 127, 0, 767, 2047]
theorem laws_FnExactCombineAutomata.tab31 : rtab .any (opsOf Try.f4 31) = laws_FnExactCombineAutomata.T31 := by kernel_rfl
theorem laws_FnExactCombineAutomata.bits31 : waitsOk laws_FnExactCombineAutomata.T31.2 laws_FnExactCombineAutomata.B31 = true := by kernel_rfl
set_option maxHeartbeats 8000000 in
set_option maxRecDepth 100000 in
theorem laws_FnExactCombineAutomata.calls (k : Nat) (a0_0 : Int) (A0_1 : Option Addr) (c0_1 : Nat) (l0_1 : List (List Int)) (A0_2 : Option Addr) (c0_2 : Nat) (l0_2 : List Int) (a1_0 : Int) (A1_1 : Option Addr) (c1_1 : Nat) (l1_1 : List (List Int)) (A1_2 : Option Addr) (c1_2 : Nat) (l1_2 : List Int) (a2 : Int) (r : Bool) (w : World) (hr0_1 : Kd.C (Kd.slice 2 (Kd.int .i64)) w A0_1 l0_1.length l0_1) (hc0_1 : l0_1.length ≤ c0_1) (hr0_2 : Kd.C (Kd.int .i64) w A0_2 l0_2.length l0_2) (hc0_2 : l0_2.length ≤ c0_2) (hr1_1 : Kd.C (Kd.slice 2 (Kd.int .i64)) w A1_1 l1_1.length l1_1) (hc1_1 : l1_1.length ≤ c1_1) (hr1_2 : Kd.C (Kd.int .i64) w A1_2 l1_2.length l1_2) (hc1_2 : l1_2.length ≤ c1_2) (h : laws_FnExactCombineAutomata.f k a0_0 l0_1 l0_2 a1_0 l1_1 l1_2 a2 = some r) :
    Calls Try.prog 4 #[.agg #[.int .i64 a0_0, .slice A0_1 l0_1.length c0_1, .slice A0_2 l0_2.length c0_2], .agg #[.int .i64 a1_0, .slice A1_1 l1_1.length c1_1, .slice A1_2 l1_2.length c1_2], .int .i64 a2] w fun e w' => e = .returned (.bool r) ∧ Below w.heap.size w w' := by
  have hu25 := Try.underlying25
  have hu29 := Try.underlying29
  have HR0_1 := as_ hr0_1
  have HC0_1 := as_ hc0_1
  clear hr0_1 hc0_1
  have HR0_2 := as_ hr0_2
  have HC0_2 := as_ hc0_2
  clear hr0_2 hc0_2
  have HR1_1 := as_ hr1_1
  have HC1_1 := as_ hc1_1
  clear hr1_1 hc1_1
  have HR1_2 := as_ hr1_2
  have HC1_2 := as_ hc1_2
  clear hr1_2 hc1_2
  have HB := as_ (Below.refl w.heap.size w)
  have H : ((laws_szAutomaton.f k a0_0 l0_1 l0_2 1048576).bind fun t342 => (if t342 < 0 then (some true) else ((laws_szAutomaton.f k a1_0 l1_1 l1_2 t342).bind fun t343 => (if t343 < 0 then (some true) else ((laws_toAutomaton.f k a0_0 l0_1 l0_2).bind fun bt344 => ((laws_toAutomaton.f k a1_0 l1_1 l1_2).bind fun bt351 => ((spec_CombineAutomata.f k bt344.1 bt344.2.1 bt344.2.2 bt351.1 bt351.2.1 bt351.2.2 a2).bind fun bt358 => ((laws_toAutomaton.f k a0_0 l0_1 l0_2).bind fun bt367 => ((laws_toAutomaton.f k a1_0 l1_1 l1_2).bind fun bt375 => ((impl_CombineAutomata.f k bt367.1 bt367.2.1 bt367.2.2 bt375.1 bt375.2.1 bt375.2.2 a2).bind fun bt383 => ((laws_eqAutomaton.f k bt383.1 bt383.2.1 bt383.2.2.1 bt358.1 bt358.2.1 bt358.2.2.1).bind fun t392 => (if t392 = true then (laws_FnExactCombineAutomata.j0 k a2 bt358.2.2.2 bt383.2.2.2 (bt383.2.2.2 != bt358.2.2.2) a0_0 l0_1 l0_2 a1_0 l1_1 l1_2 bt358.1 bt358.2.1 bt358.2.2.1 bt367.1 bt367.2.1 bt367.2.2 bt375.1 bt375.2.1 bt375.2.2 bt383.1 bt383.2.1 bt383.2.2.1) else (laws_FnExactCombineAutomata.j0 k a2 bt358.2.2.2 bt383.2.2.2 true a0_0 l0_1 l0_2 a1_0 l1_1 l1_2 bt358.1 bt358.2.1 bt358.2.2.1 bt367.1 bt367.2.1 bt367.2.2 bt375.1 bt375.2.1 bt375.2.2 bt383.1 bt383.2.1 bt383.2.2.1))))))))))))) = some r := h
  clear h
  obtain ⟨t342, A4, H⟩ := bo_ H
  by_cases c5 : t342 < 0
  · rw [if_pos c5] at H
    have c5b0 := decide_eq_true c5
    clear c5
    obtain rfl := Option.some.inj H
    go_enter Try.func4, Try.ntmps4
    go_wp2_with (first | ((with_reducible refine gate_dst (N := 3) rfl ?_); refine bx_ 3 #[.int .i64 a0_0, .slice A0_1 l0_1.length c0_1, .slice A0_2 l0_2.length c0_2] 25 ?_; intro gb340 hg w6 hbox hb; have BK340 := as_ (hbox); have GW340 := gz_ hg (b_ HB); have GE340 := GW340; replace HB := as_ (below_step (b_ HB) hb); clear hb hbox hg) | ((with_reducible refine gate_dst (N := 4) rfl ?_); refine bx_ 4 #[.int .i64 a1_0, .slice A1_1 l1_1.length c1_1, .slice A1_2 l1_2.length c1_2] 25 ?_; intro gb341 hg w7 hbox hb; have BK341 := as_ (hbox); have GW341 := gz_ hg (b1_ HB GE340); have GE341 := GW341; replace HB := as_ (below_step (b1_ HB GE340) hb); have NB340_341 := nl_ hg (bk_ BK340); have NB341_340 := ng_ hg (bk_ BK340); replace BK340 := kb_ BK340 hb; clear hb hbox hg; have hnb8 := NB340_341.out; have hnc8 := NB341_340.out; obtain ⟨hcz9_0, hfz9_0, hcz9_1, hfz9_1, hcz9_2, hfz9_2⟩ := tc3_ BK340) | ((with_reducible refine gate_callee (f := 5) rfl ?_); refine gL_ 21 Try.func5 #[.agg #[.int .i64 a0_0, .slice A0_1 l0_1.length c0_1, .slice A0_2 l0_2.length c0_2], .int .i64 1048576] ?_; (with_reducible refine (laws_szAutomaton.calls k a0_0 _ _ l0_1 _ _ l0_2 1048576 t342 _ ?side1 ?side2 ?side3 ?side4 A4.out).mono ?_); (case side1 => exact bC_ HR0_1 HB); (case side2 => exact HC0_1.out); (case side3 => exact bC_ HR0_2 HB); (case side4 => exact HC0_2.out); rintro e w10 ⟨rfl, hb⟩; refine ⟨_, rfl, ?_⟩; replace BK340 := kb_ BK340 hb; replace BK341 := kb_ BK341 hb; replace HB := as_ (below_step (b2_ HB GE340 GE341) hb); clear hb))
    go_ret
    exact ⟨re_, b2_ HB GE340 GE341⟩
  rw [if_neg c5] at H
  have c5b0 := decide_eq_false c5
  clear c5
  obtain ⟨t343, A11, H⟩ := bo_ H
  by_cases c12 : t343 < 0
  · rw [if_pos c12] at H
    have c12b0 := decide_eq_true c12
    clear c12
    obtain rfl := Option.some.inj H
    go_enter Try.func4, Try.ntmps4
    go_wp2_with (first | ((with_reducible refine gate_dst (N := 3) rfl ?_); refine bx_ 3 #[.int .i64 a0_0, .slice A0_1 l0_1.length c0_1, .slice A0_2 l0_2.length c0_2] 25 ?_; intro gb340 hg w13 hbox hb; have BK340 := as_ (hbox); have GW340 := gz_ hg (b_ HB); have GE340 := GW340; replace HB := as_ (below_step (b_ HB) hb); clear hb hbox hg) | ((with_reducible refine gate_dst (N := 4) rfl ?_); refine bx_ 4 #[.int .i64 a1_0, .slice A1_1 l1_1.length c1_1, .slice A1_2 l1_2.length c1_2] 25 ?_; intro gb341 hg w14 hbox hb; have BK341 := as_ (hbox); have GW341 := gz_ hg (b1_ HB GE340); have GE341 := GW341; replace HB := as_ (below_step (b1_ HB GE340) hb); have NB340_341 := nl_ hg (bk_ BK340); have NB341_340 := ng_ hg (bk_ BK340); replace BK340 := kb_ BK340 hb; clear hb hbox hg; have hnb15 := NB340_341.out; have hnc15 := NB341_340.out; obtain ⟨hcz16_0, hfz16_0, hcz16_1, hfz16_1, hcz16_2, hfz16_2⟩ := tc3_ BK340) | ((with_reducible refine gate_callee (f := 5) rfl ?_); refine gL_ 21 Try.func5 #[.agg #[.int .i64 a0_0, .slice A0_1 l0_1.length c0_1, .slice A0_2 l0_2.length c0_2], .int .i64 1048576] ?_; (with_reducible refine (laws_szAutomaton.calls k a0_0 _ _ l0_1 _ _ l0_2 1048576 t342 _ ?side1 ?side2 ?side3 ?side4 A4.out).mono ?_); (case side1 => exact bC_ HR0_1 HB); (case side2 => exact HC0_1.out); (case side3 => exact bC_ HR0_2 HB); (case side4 => exact HC0_2.out); rintro e w17 ⟨rfl, hb⟩; refine ⟨_, rfl, ?_⟩; replace BK340 := kb_ BK340 hb; replace BK341 := kb_ BK341 hb; replace HB := as_ (below_step (b2_ HB GE340 GE341) hb); clear hb; obtain ⟨hcz18_0, hfz18_0, hcz18_1, hfz18_1, hcz18_2, hfz18_2⟩ := tc3_ BK341) | ((with_reducible refine gate_callee (f := 5) rfl ?_); refine gL_ 26 Try.func5 #[.agg #[.int .i64 a1_0, .slice A1_1 l1_1.length c1_1, .slice A1_2 l1_2.length c1_2], .int .i64 t342] ?_; (with_reducible refine (laws_szAutomaton.calls k a1_0 _ _ l1_1 _ _ l1_2 t342 t343 _ ?side1 ?side2 ?side3 ?side4 A11.out).mono ?_); (case side1 => exact bC_ HR1_1 HB); (case side2 => exact HC1_1.out); (case side3 => exact bC_ HR1_2 HB); (case side4 => exact HC1_2.out); rintro e w19 ⟨rfl, hb⟩; refine ⟨_, rfl, ?_⟩; replace BK340 := kb_ BK340 hb; replace BK341 := kb_ BK341 hb; replace HB := as_ (below_step (b2_ HB GE340 GE341) hb); clear hb))
    go_ret
    exact ⟨re_, b2_ HB GE340 GE341⟩
  rw [if_neg c12] at H
  have c12b0 := decide_eq_false c12
  clear c12
  obtain ⟨⟨t344, t345, t348⟩, A20, H⟩ := bo_ H
  dsimp only at H
  obtain ⟨⟨t351, t352, t355⟩, A21, H⟩ := bo_ H
  dsimp only at H
  obtain ⟨⟨t358, t359, t362, t365⟩, A22, H⟩ := bo_ H
  dsimp only at H
  obtain ⟨⟨t367, t368, t371⟩, A23, H⟩ := bo_ H
  dsimp only at H
  obtain ⟨⟨t375, t376, t379⟩, A24, H⟩ := bo_ H
  dsimp only at H
  obtain ⟨⟨t383, t384, t387, t390⟩, A25, H⟩ := bo_ H
  dsimp only at H
  have HC26 := as_ H
  clear H
  go_enter Try.func4, Try.ntmps4
  try go_wp2_with (first | ((with_reducible refine gate_dst (N := 3) rfl ?_); refine bx_ 3 #[.int .i64 a0_0, .slice A0_1 l0_1.length c0_1, .slice A0_2 l0_2.length c0_2] 25 ?_; intro gb340 hg w27 hbox hb; have BK340 := as_ (hbox); have GW340 := gz_ hg (b_ HB); have GE340 := GW340; replace HB := as_ (below_step (b_ HB) hb); clear hb hbox hg) | ((with_reducible refine gate_dst (N := 4) rfl ?_); refine bx_ 4 #[.int .i64 a1_0, .slice A1_1 l1_1.length c1_1, .slice A1_2 l1_2.length c1_2] 25 ?_; intro gb341 hg w28 hbox hb; have BK341 := as_ (hbox); have GW341 := gz_ hg (b1_ HB GE340); have GE341 := GW341; replace HB := as_ (below_step (b1_ HB GE340) hb); have NB340_341 := nl_ hg (bk_ BK340); have NB341_340 := ng_ hg (bk_ BK340); replace BK340 := kb_ BK340 hb; clear hb hbox hg; have hnb29 := NB340_341.out; have hnc29 := NB341_340.out; obtain ⟨hcz30_0, hfz30_0, hcz30_1, hfz30_1, hcz30_2, hfz30_2⟩ := tc3_ BK340) | ((with_reducible refine gate_callee (f := 5) rfl ?_); refine gL_ 21 Try.func5 #[.agg #[.int .i64 a0_0, .slice A0_1 l0_1.length c0_1, .slice A0_2 l0_2.length c0_2], .int .i64 1048576] ?_; (with_reducible refine (laws_szAutomaton.calls k a0_0 _ _ l0_1 _ _ l0_2 1048576 t342 _ ?side1 ?side2 ?side3 ?side4 A4.out).mono ?_); (case side1 => exact bC_ HR0_1 HB); (case side2 => exact HC0_1.out); (case side3 => exact bC_ HR0_2 HB); (case side4 => exact HC0_2.out); rintro e w31 ⟨rfl, hb⟩; refine ⟨_, rfl, ?_⟩; replace BK340 := kb_ BK340 hb; replace BK341 := kb_ BK341 hb; replace HB := as_ (below_step (b2_ HB GE340 GE341) hb); clear hb; obtain ⟨hcz32_0, hfz32_0, hcz32_1, hfz32_1, hcz32_2, hfz32_2⟩ := tc3_ BK341) | ((with_reducible refine gate_callee (f := 5) rfl ?_); refine gL_ 26 Try.func5 #[.agg #[.int .i64 a1_0, .slice A1_1 l1_1.length c1_1, .slice A1_2 l1_2.length c1_2], .int .i64 t342] ?_; (with_reducible refine (laws_szAutomaton.calls k a1_0 _ _ l1_1 _ _ l1_2 t342 t343 _ ?side1 ?side2 ?side3 ?side4 A11.out).mono ?_); (case side1 => exact bC_ HR1_1 HB); (case side2 => exact HC1_1.out); (case side3 => exact bC_ HR1_2 HB); (case side4 => exact HC1_2.out); rintro e w33 ⟨rfl, hb⟩; refine ⟨_, rfl, ?_⟩; replace BK340 := kb_ BK340 hb; replace BK341 := kb_ BK341 hb; replace HB := as_ (below_step (b2_ HB GE340 GE341) hb); clear hb))
  replace BK340 := dk_ BK340; replace BK341 := dk_ BK341; replace HB := db_ HB
  refine start_ (n := 12) (S := fun w' => w'.cell? ⟨gb340, 0, none⟩ = some (.int .i64 a0_0) ∧ w'.cell? ⟨gb340, 1, none⟩ = some (.slice A0_1 l0_1.length c0_1) ∧ w'.cell? ⟨gb340, 2, none⟩ = some (.slice A0_2 l0_2.length c0_2) ∧ w'.cell? ⟨gb341, 0, none⟩ = some (.int .i64 a1_0) ∧ w'.cell? ⟨gb341, 1, none⟩ = some (.slice A1_1 l1_1.length c1_1) ∧ w'.cell? ⟨gb341, 2, none⟩ = some (.slice A1_2 l1_2.length c1_2)) (ds := []) #[false, false, false, false, false, false, false, false, false, false, false, false] (by kernel_rfl) rfl rfl (tz3_ BK340 (ty3_ BK341)) (fun hHeld => ?_); refine with_tabW laws_FnExactCombineAutomata.tab8 laws_FnExactCombineAutomata.bits8 (fun HT_ HW_ => ?_)
  generalize w33.drew = w34 at BK340 BK341 HB hHeld ⊢
  refine pu_ 4 34 HT_ ?_
  refine tk_ 0 30 HT_ HW_ hHeld ?_
  refine tk_ 2 32 HT_ HW_ hHeld ?_
  refine join_ (σ := Value × Value × Value × Value × Value × Value × Nat) 2 #[true, true, true, true, true, true, true, true, true, true, false, false] (fun s_ => [(31, .agg #[.int .i64 t344, s_.1, s_.2.1]), (33, .agg #[.int .i64 t351, s_.2.2.1, s_.2.2.2.1]), (35, .tuple #[.agg #[.int .i64 t358, s_.2.2.2.2.1, s_.2.2.2.2.2.1], .int .i64 t365]), (8, .pointer (some ⟨s_.2.2.2.2.2.2, 0, none⟩)), (29, .tuple #[.agg #[.int .i64 t358, s_.2.2.2.2.1, s_.2.2.2.2.2.1], .int .i64 t365]), (36, .agg #[.int .i64 t358, s_.2.2.2.2.1, s_.2.2.2.2.2.1]), (37, .int .i64 t365)]) (fun s_ w' => (w'.cell? ⟨gb340, 0, none⟩ = some (.int .i64 a0_0) ∧ w'.cell? ⟨gb340, 1, none⟩ = some (.slice A0_1 l0_1.length c0_1) ∧ w'.cell? ⟨gb340, 2, none⟩ = some (.slice A0_2 l0_2.length c0_2) ∧ w'.cell? ⟨gb341, 0, none⟩ = some (.int .i64 a1_0) ∧ w'.cell? ⟨gb341, 1, none⟩ = some (.slice A1_1 l1_1.length c1_1) ∧ w'.cell? ⟨gb341, 2, none⟩ = some (.slice A1_2 l1_2.length c1_2)) ∧ (Kd.S (Kd.slice 2 (Kd.int .i64)) 23 w' w.heap.size (fun k_ => some k_ ≠ (s_.2.1 : Value).ownBlock ∧ some k_ ≠ (s_.2.2.1 : Value).ownBlock ∧ some k_ ≠ (s_.2.2.2.1 : Value).ownBlock ∧ some k_ ≠ (s_.2.2.2.2.1 : Value).ownBlock ∧ some k_ ≠ (s_.2.2.2.2.2.1 : Value).ownBlock) s_.1 t345) ∧ (Kd.R (Kd.int .i64) 2 w' w.heap.size (fun k_ => some k_ ≠ (s_.2.2.2.1 : Value).ownBlock ∧ some k_ ≠ (s_.2.2.2.2.2.1 : Value).ownBlock) s_.2.1 t348) ∧ (Kd.S (Kd.slice 2 (Kd.int .i64)) 23 w' w.heap.size (fun k_ => some k_ ≠ (s_.1 : Value).ownBlock ∧ some k_ ≠ (s_.2.1 : Value).ownBlock ∧ some k_ ≠ (s_.2.2.2.1 : Value).ownBlock ∧ some k_ ≠ (s_.2.2.2.2.1 : Value).ownBlock ∧ some k_ ≠ (s_.2.2.2.2.2.1 : Value).ownBlock) s_.2.2.1 t352) ∧ (Kd.R (Kd.int .i64) 2 w' w.heap.size (fun k_ => some k_ ≠ (s_.2.1 : Value).ownBlock ∧ some k_ ≠ (s_.2.2.2.2.2.1 : Value).ownBlock) s_.2.2.2.1 t355) ∧ (Kd.S (Kd.slice 2 (Kd.int .i64)) 23 w' w.heap.size (fun k_ => some k_ ≠ (s_.1 : Value).ownBlock ∧ some k_ ≠ (s_.2.1 : Value).ownBlock ∧ some k_ ≠ (s_.2.2.1 : Value).ownBlock ∧ some k_ ≠ (s_.2.2.2.1 : Value).ownBlock ∧ some k_ ≠ (s_.2.2.2.2.2.1 : Value).ownBlock) s_.2.2.2.2.1 t359) ∧ (Kd.R (Kd.int .i64) 2 w' w.heap.size (fun k_ => some k_ ≠ (s_.2.1 : Value).ownBlock ∧ some k_ ≠ (s_.2.2.2.1 : Value).ownBlock) s_.2.2.2.2.2.1 t362) ∧ (w'.heap[gb340]? = some (.cells #[.int .i64 a0_0, .slice A0_1 l0_1.length c0_1, .slice A0_2 l0_2.length c0_2] 25 (0, 0))) ∧ (w'.heap[gb341]? = some (.cells #[.int .i64 a1_0, .slice A1_1 l1_1.length c1_1, .slice A1_2 l1_2.length c1_2] 25 (0, 0))) ∧ (w'.heap[s_.2.2.2.2.2.2]? = some (.cells #[.int .i64 0, .slice none 0 0, .slice none 0 0] 29 (0, 0))) ∧ (w.heap.size ≤ s_.2.2.2.2.2.2) ∧ (w.heap.size ≤ s_.2.2.2.2.2.2) ∧ (gb340 ≠ s_.2.2.2.2.2.2) ∧ (s_.2.2.2.2.2.2 ≠ gb340) ∧ (gb341 ≠ s_.2.2.2.2.2.2) ∧ (s_.2.2.2.2.2.2 ≠ gb341) ∧ (Below w.heap.size w w')) ?_ ?_
  rotate_left
  · intro hCont
    refine tw_ 1 9 (some 31) (some 8) HT_ (fun K hK => ?_) (fun K hK => ?_)
    · skip
      refine gR_ Try.func7 #[.agg #[.int .i64 a0_0, .slice A0_1 l0_1.length c0_1, .slice A0_2 l0_2.length c0_2]] ?_
      with_reducible refine (laws_toAutomaton.calls k a0_0 _ _ l0_1 _ _ l0_2 t344 t345 t348 _ ?side1 ?side2 ?side3 ?side4 A20.out).mono ?_
      (case side1 => exact bC_ HR0_1 HB)
      (case side2 => exact HC0_1.out)
      (case side3 => exact bC_ HR0_2 HB)
      (case side4 => exact HC0_2.out)
      rintro e w35 ⟨v346, v349, rfl, ho0, ho1, hb⟩
      refine ⟨_, rfl, ?_⟩
      have HO347 := as_ (Kd.S_lower ho0 (below_size (b2_ HB GE340 GE341))); have HO350 := as_ (Kd.R_lower ho1 (below_size (b2_ HB GE340 GE341))); replace BK340 := kb_ BK340 hb; replace BK341 := kb_ BK341 hb; replace HB := as_ (below_step (b2_ HB GE340 GE341) hb)
      clear hb ho0 ho1
      refine hK.out _ _ (tz3_ BK340 (ty3_ BK341)) (fun hHeld => ?_)
      clear hK K
      refine nm_ 31 ?_
      refine tw_ 3 9 (some 33) (some 8) HT_ (fun K hK => ?_) (fun K hK => ?_)
      · skip
        refine gR_ Try.func7 #[.agg #[.int .i64 a1_0, .slice A1_1 l1_1.length c1_1, .slice A1_2 l1_2.length c1_2]] ?_
        with_reducible refine (laws_toAutomaton.calls k a1_0 _ _ l1_1 _ _ l1_2 t351 t352 t355 _ ?side1 ?side2 ?side3 ?side4 A21.out).mono ?_
        (case side1 => exact bC_ HR1_1 HB)
        (case side2 => exact HC1_1.out)
        (case side3 => exact bC_ HR1_2 HB)
        (case side4 => exact HC1_2.out)
        rintro e w36 ⟨v353, v356, rfl, ho0, ho1, hb⟩
        refine ⟨_, rfl, ?_⟩
        have HO354 := as_ (Kd.S_lower (nSR_ (nSS_ ho0 HO347) HO350) (below_size (b2_ HB GE340 GE341))); replace HO347 := so2_ (bS_ HO347) hb (Kd.S_base ho0) (Kd.R_base ho1); have HO357 := as_ (Kd.R_lower (nRR_ ho1 HO350) (below_size (b2_ HB GE340 GE341))); replace HO350 := eR_ HO350 (Kd.R_base ho1) hb; replace BK340 := kb_ BK340 hb; replace BK341 := kb_ BK341 hb; replace HB := as_ (below_step (b2_ HB GE340 GE341) hb)
        clear hb ho0 ho1
        obtain ⟨Ao37, co37, eo37⟩ := Kd.S_slice HO347.out
        (first | subst eo37 | (injection eo37 with f1_ f2_ f3_; have f4_ := f1_.symm; have f5_ := f3_.symm; clear f1_ f2_ f3_; subst f4_; subst f5_))
        obtain ⟨Ao38, co38, eo38⟩ := Kd.R_slice HO350.out
        (first | subst eo38 | (injection eo38 with f1_ f2_ f3_; have f4_ := f1_.symm; have f5_ := f3_.symm; clear f1_ f2_ f3_; subst f4_; subst f5_))
        obtain ⟨Ao39, co39, eo39⟩ := Kd.S_slice HO354.out
        (first | subst eo39 | (injection eo39 with f1_ f2_ f3_; have f4_ := f1_.symm; have f5_ := f3_.symm; clear f1_ f2_ f3_; subst f4_; subst f5_))
        obtain ⟨Ao40, co40, eo40⟩ := Kd.R_slice HO357.out
        (first | subst eo40 | (injection eo40 with f1_ f2_ f3_; have f4_ := f1_.symm; have f5_ := f3_.symm; clear f1_ f2_ f3_; subst f4_; subst f5_))
        refine hK.out _ _ (tz3_ BK340 (ty3_ BK341)) (fun hHeld => ?_)
        clear hK K
        refine nm_ 33 ?_
        refine tw_ 5 9 (some 35) (some 8) HT_ (fun K hK => ?_) (fun K hK => ?_)
        · skip
          refine gR_ Try.func10 #[.agg #[.int .i64 t344, .slice Ao37 t345.length co37, .slice Ao38 t348.length co38], .agg #[.int .i64 t351, .slice Ao39 t352.length co39, .slice Ao40 t355.length co40], .int .i64 a2] ?_
          with_reducible refine (spec_CombineAutomata.calls k t344 _ _ t345 _ _ t348 t351 _ _ t352 _ _ t355 a2 t358 t359 t362 t365 _ ?side1 ?side2 ?side3 ?side4 ?side5 ?side6 ?side7 ?side8 A22.out).mono ?_
          (case side1 => exact cC_ (Kd.S_reads' HO347.out).2.2)
          (case side2 => exact (Kd.S_reads' HO347.out).2.1)
          (case side3 => exact cC_ (Kd.R_reads' HO350.out).2.2)
          (case side4 => exact (Kd.R_reads' HO350.out).2.1)
          (case side5 => exact cC_ (Kd.S_reads' HO354.out).2.2)
          (case side6 => exact (Kd.S_reads' HO354.out).2.1)
          (case side7 => exact cC_ (Kd.R_reads' HO357.out).2.2)
          (case side8 => exact (Kd.R_reads' HO357.out).2.1)
          rintro e w41 ⟨v360, v363, rfl, ho0, ho1, hb⟩
          refine ⟨_, rfl, ?_⟩
          have HO361 := as_ (Kd.S_lower (nSR_ (nSS_ (nSR_ (nSS_ ho0 HO347) HO350) HO354) HO357) (below_size (b2_ HB GE340 GE341))); replace HO347 := so2_ (bS_ HO347) hb (Kd.S_base ho0) (Kd.R_base ho1); replace HO354 := so2_ (bS_ HO354) hb (Kd.S_base ho0) (Kd.R_base ho1); have HO364 := as_ (Kd.R_lower (nRR_ (nRR_ ho1 HO350) HO357) (below_size (b2_ HB GE340 GE341))); replace HO350 := eR_ HO350 (Kd.R_base ho1) hb; replace HO357 := eR_ HO357 (Kd.R_base ho1) hb; replace BK340 := kb_ BK340 hb; replace BK341 := kb_ BK341 hb; replace HB := as_ (below_step (b2_ HB GE340 GE341) hb)
          clear hb ho0 ho1
          refine hK.out _ _ (tz3_ BK340 (ty3_ BK341)) (fun hHeld => ?_)
          clear hK K
          refine nm_ 35 ?_
          refine pu_ 6 29 HT_ ?_
          refine pu_ 7 36 HT_ ?_
          refine pu_ 8 37 HT_ ?_
          refine on_ 9 (some 8) HT_ fun K hK => ?_
          refine box_step ?hg (N := 8) ?hd (cs := #[.int .i64 0, .slice none 0 0, .slice none 0 0]) (t := 29) ?hr ?_; (case hd => rfl); (case hg => rfl); (case hr => first | (go_simp; done) | (go_simp; rfl))
          intro gb366 hg w42 hbox hb
          replace HO347 := sb_ HO347 hb; replace HO350 := rb_ HO350 hb; replace HO354 := sb_ HO354 hb; replace HO357 := rb_ HO357 hb; replace HO361 := sb_ HO361 hb; replace HO364 := rb_ HO364 hb; have BK366 := as_ (hbox); have GW366 := gz_ hg (b2_ HB GE340 GE341); have GE366 := gz_ hg (b2_ HB GE340 GE341); replace HB := as_ (below_step (b2_ HB GE340 GE341) hb); have NB340_366 := nl_ hg (bk_ BK340); have NB366_340 := ng_ hg (bk_ BK340); replace BK340 := kb_ BK340 hb; have NB341_366 := nl_ hg (bk_ BK341); have NB366_341 := ng_ hg (bk_ BK341); replace BK341 := kb_ BK341 hb; clear hb hbox hg
          refine hK.out _ _ (tz3_ BK340 (ty3_ BK341)) (fun hHeld => ?_)
          clear hK K
          refine nm_ 8 ?_
          exact norm_ (by simp only [putAll, Act.put, List.setIfInBounds_toArray, List.set_cons_zero, List.set_cons_succ]) (hCont (.slice Ao37 t345.length co37, .slice Ao38 t348.length co38, .slice Ao39 t352.length co39, .slice Ao40 t355.length co40, v360, v363, gb366) _ ⟨hHeld, (fS_ HO347), (fR_ HO350), (fS_ HO354), (fR_ HO357), (fS_ HO361), (fR_ HO364), (bk_ BK340), (bk_ BK341), (bk_ BK366), GW366.out, GE366.out, NB340_366.out, NB366_340.out, NB341_366.out, NB366_341.out, (b3_ HB GE340 GE341 GE366)⟩)
        · skip
          refine box_step ?hg (N := 8) ?hd (cs := #[.int .i64 0, .slice none 0 0, .slice none 0 0]) (t := 29) ?hr ?_; (case hd => rfl); (case hg => rfl); (case hr => first | (go_simp; done) | (go_simp; rfl))
          intro gb366 hg w37 hbox hb
          replace HO347 := sb_ HO347 hb; replace HO350 := rb_ HO350 hb; replace HO354 := sb_ HO354 hb; replace HO357 := rb_ HO357 hb; have BK366 := as_ (hbox); have GW366 := gz_ hg (b2_ HB GE340 GE341); have GE366 := gz_ hg (b2_ HB GE340 GE341); replace HB := as_ (below_step (b2_ HB GE340 GE341) hb); have NB340_366 := nl_ hg (bk_ BK340); have NB366_340 := ng_ hg (bk_ BK340); replace BK340 := kb_ BK340 hb; have NB341_366 := nl_ hg (bk_ BK341); have NB366_341 := ng_ hg (bk_ BK341); replace BK341 := kb_ BK341 hb; clear hb hbox hg
          obtain ⟨Ao38, co38, eo38⟩ := Kd.S_slice HO347.out
          (first | subst eo38 | (injection eo38 with f1_ f2_ f3_; have f4_ := f1_.symm; have f5_ := f3_.symm; clear f1_ f2_ f3_; subst f4_; subst f5_))
          obtain ⟨Ao39, co39, eo39⟩ := Kd.R_slice HO350.out
          (first | subst eo39 | (injection eo39 with f1_ f2_ f3_; have f4_ := f1_.symm; have f5_ := f3_.symm; clear f1_ f2_ f3_; subst f4_; subst f5_))
          obtain ⟨Ao40, co40, eo40⟩ := Kd.S_slice HO354.out
          (first | subst eo40 | (injection eo40 with f1_ f2_ f3_; have f4_ := f1_.symm; have f5_ := f3_.symm; clear f1_ f2_ f3_; subst f4_; subst f5_))
          obtain ⟨Ao41, co41, eo41⟩ := Kd.R_slice HO357.out
          (first | subst eo41 | (injection eo41 with f1_ f2_ f3_; have f4_ := f1_.symm; have f5_ := f3_.symm; clear f1_ f2_ f3_; subst f4_; subst f5_))
          refine hK.out _ _ (tz3_ BK340 (ty3_ BK341)) (fun hHeld => ?_)
          clear hK K
          refine nm_ 8 ?_
          refine on_ 5 (some 35) HT_ fun K hK => ?_
          refine gR_ Try.func10 #[.agg #[.int .i64 t344, .slice Ao38 t345.length co38, .slice Ao39 t348.length co39], .agg #[.int .i64 t351, .slice Ao40 t352.length co40, .slice Ao41 t355.length co41], .int .i64 a2] ?_
          with_reducible refine (spec_CombineAutomata.calls k t344 _ _ t345 _ _ t348 t351 _ _ t352 _ _ t355 a2 t358 t359 t362 t365 _ ?side1 ?side2 ?side3 ?side4 ?side5 ?side6 ?side7 ?side8 A22.out).mono ?_
          (case side1 => exact cC_ (Kd.S_reads' HO347.out).2.2)
          (case side2 => exact (Kd.S_reads' HO347.out).2.1)
          (case side3 => exact cC_ (Kd.R_reads' HO350.out).2.2)
          (case side4 => exact (Kd.R_reads' HO350.out).2.1)
          (case side5 => exact cC_ (Kd.S_reads' HO354.out).2.2)
          (case side6 => exact (Kd.S_reads' HO354.out).2.1)
          (case side7 => exact cC_ (Kd.R_reads' HO357.out).2.2)
          (case side8 => exact (Kd.R_reads' HO357.out).2.1)
          rintro e w42 ⟨v360, v363, rfl, ho0, ho1, hb⟩
          refine ⟨_, rfl, ?_⟩
          have HO361 := as_ (Kd.S_lower (nSR_ (nSS_ (nSR_ (nSS_ ho0 HO347) HO350) HO354) HO357) (below_size (b3_ HB GE340 GE341 GE366))); replace HO347 := so2_ (bS_ HO347) hb (Kd.S_base ho0) (Kd.R_base ho1); replace HO354 := so2_ (bS_ HO354) hb (Kd.S_base ho0) (Kd.R_base ho1); have HO364 := as_ (Kd.R_lower (nRR_ (nRR_ ho1 HO350) HO357) (below_size (b3_ HB GE340 GE341 GE366))); replace HO350 := eR_ HO350 (Kd.R_base ho1) hb; replace HO357 := eR_ HO357 (Kd.R_base ho1) hb; replace BK340 := kb_ BK340 hb; replace BK341 := kb_ BK341 hb; replace BK366 := kb_ BK366 hb; replace HB := as_ (below_step (b3_ HB GE340 GE341 GE366) hb)
          clear hb ho0 ho1
          refine hK.out _ _ (tz3_ BK340 (ty3_ BK341)) (fun hHeld => ?_)
          clear hK K
          refine nm_ 35 ?_
          refine pu_ 6 29 HT_ ?_
          refine pu_ 7 36 HT_ ?_
          refine pu_ 8 37 HT_ ?_
          exact norm_ (by simp only [putAll, Act.put, List.setIfInBounds_toArray, List.set_cons_zero, List.set_cons_succ]) (hCont (.slice Ao38 t345.length co38, .slice Ao39 t348.length co39, .slice Ao40 t352.length co40, .slice Ao41 t355.length co41, v360, v363, gb366) _ ⟨hHeld, (fS_ HO347), (fR_ HO350), (fS_ HO354), (fR_ HO357), (fS_ HO361), (fR_ HO364), (bk_ BK340), (bk_ BK341), (bk_ BK366), GW366.out, GE366.out, NB340_366.out, NB366_340.out, NB341_366.out, NB366_341.out, (b3_ HB GE340 GE341 GE366)⟩)
      · skip
        refine box_step ?hg (N := 8) ?hd (cs := #[.int .i64 0, .slice none 0 0, .slice none 0 0]) (t := 29) ?hr ?_; (case hd => rfl); (case hg => rfl); (case hr => first | (go_simp; done) | (go_simp; rfl))
        intro gb366 hg w36 hbox hb
        replace HO347 := sb_ HO347 hb; replace HO350 := rb_ HO350 hb; have BK366 := as_ (hbox); have GW366 := gz_ hg (b2_ HB GE340 GE341); have GE366 := gz_ hg (b2_ HB GE340 GE341); replace HB := as_ (below_step (b2_ HB GE340 GE341) hb); have NB340_366 := nl_ hg (bk_ BK340); have NB366_340 := ng_ hg (bk_ BK340); replace BK340 := kb_ BK340 hb; have NB341_366 := nl_ hg (bk_ BK341); have NB366_341 := ng_ hg (bk_ BK341); replace BK341 := kb_ BK341 hb; clear hb hbox hg
        refine hK.out _ _ (tz3_ BK340 (ty3_ BK341)) (fun hHeld => ?_)
        clear hK K
        refine nm_ 8 ?_
        refine on_ 3 (some 33) HT_ fun K hK => ?_
        refine gR_ Try.func7 #[.agg #[.int .i64 a1_0, .slice A1_1 l1_1.length c1_1, .slice A1_2 l1_2.length c1_2]] ?_
        with_reducible refine (laws_toAutomaton.calls k a1_0 _ _ l1_1 _ _ l1_2 t351 t352 t355 _ ?side1 ?side2 ?side3 ?side4 A21.out).mono ?_
        (case side1 => exact bC_ HR1_1 HB)
        (case side2 => exact HC1_1.out)
        (case side3 => exact bC_ HR1_2 HB)
        (case side4 => exact HC1_2.out)
        rintro e w37 ⟨v353, v356, rfl, ho0, ho1, hb⟩
        refine ⟨_, rfl, ?_⟩
        have HO354 := as_ (Kd.S_lower (nSR_ (nSS_ ho0 HO347) HO350) (below_size (b3_ HB GE340 GE341 GE366))); replace HO347 := so2_ (bS_ HO347) hb (Kd.S_base ho0) (Kd.R_base ho1); have HO357 := as_ (Kd.R_lower (nRR_ ho1 HO350) (below_size (b3_ HB GE340 GE341 GE366))); replace HO350 := eR_ HO350 (Kd.R_base ho1) hb; replace BK340 := kb_ BK340 hb; replace BK341 := kb_ BK341 hb; replace BK366 := kb_ BK366 hb; replace HB := as_ (below_step (b3_ HB GE340 GE341 GE366) hb)
        clear hb ho0 ho1
        obtain ⟨Ao38, co38, eo38⟩ := Kd.S_slice HO347.out
        (first | subst eo38 | (injection eo38 with f1_ f2_ f3_; have f4_ := f1_.symm; have f5_ := f3_.symm; clear f1_ f2_ f3_; subst f4_; subst f5_))
        obtain ⟨Ao39, co39, eo39⟩ := Kd.R_slice HO350.out
        (first | subst eo39 | (injection eo39 with f1_ f2_ f3_; have f4_ := f1_.symm; have f5_ := f3_.symm; clear f1_ f2_ f3_; subst f4_; subst f5_))
        obtain ⟨Ao40, co40, eo40⟩ := Kd.S_slice HO354.out
        (first | subst eo40 | (injection eo40 with f1_ f2_ f3_; have f4_ := f1_.symm; have f5_ := f3_.symm; clear f1_ f2_ f3_; subst f4_; subst f5_))
        obtain ⟨Ao41, co41, eo41⟩ := Kd.R_slice HO357.out
        (first | subst eo41 | (injection eo41 with f1_ f2_ f3_; have f4_ := f1_.symm; have f5_ := f3_.symm; clear f1_ f2_ f3_; subst f4_; subst f5_))
        refine hK.out _ _ (tz3_ BK340 (ty3_ BK341)) (fun hHeld => ?_)
        clear hK K
        refine nm_ 33 ?_
        refine on_ 5 (some 35) HT_ fun K hK => ?_
        refine gR_ Try.func10 #[.agg #[.int .i64 t344, .slice Ao38 t345.length co38, .slice Ao39 t348.length co39], .agg #[.int .i64 t351, .slice Ao40 t352.length co40, .slice Ao41 t355.length co41], .int .i64 a2] ?_
        with_reducible refine (spec_CombineAutomata.calls k t344 _ _ t345 _ _ t348 t351 _ _ t352 _ _ t355 a2 t358 t359 t362 t365 _ ?side1 ?side2 ?side3 ?side4 ?side5 ?side6 ?side7 ?side8 A22.out).mono ?_
        (case side1 => exact cC_ (Kd.S_reads' HO347.out).2.2)
        (case side2 => exact (Kd.S_reads' HO347.out).2.1)
        (case side3 => exact cC_ (Kd.R_reads' HO350.out).2.2)
        (case side4 => exact (Kd.R_reads' HO350.out).2.1)
        (case side5 => exact cC_ (Kd.S_reads' HO354.out).2.2)
        (case side6 => exact (Kd.S_reads' HO354.out).2.1)
        (case side7 => exact cC_ (Kd.R_reads' HO357.out).2.2)
        (case side8 => exact (Kd.R_reads' HO357.out).2.1)
        rintro e w42 ⟨v360, v363, rfl, ho0, ho1, hb⟩
        refine ⟨_, rfl, ?_⟩
        have HO361 := as_ (Kd.S_lower (nSR_ (nSS_ (nSR_ (nSS_ ho0 HO347) HO350) HO354) HO357) (below_size (b3_ HB GE340 GE341 GE366))); replace HO347 := so2_ (bS_ HO347) hb (Kd.S_base ho0) (Kd.R_base ho1); replace HO354 := so2_ (bS_ HO354) hb (Kd.S_base ho0) (Kd.R_base ho1); have HO364 := as_ (Kd.R_lower (nRR_ (nRR_ ho1 HO350) HO357) (below_size (b3_ HB GE340 GE341 GE366))); replace HO350 := eR_ HO350 (Kd.R_base ho1) hb; replace HO357 := eR_ HO357 (Kd.R_base ho1) hb; replace BK340 := kb_ BK340 hb; replace BK341 := kb_ BK341 hb; replace BK366 := kb_ BK366 hb; replace HB := as_ (below_step (b3_ HB GE340 GE341 GE366) hb)
        clear hb ho0 ho1
        refine hK.out _ _ (tz3_ BK340 (ty3_ BK341)) (fun hHeld => ?_)
        clear hK K
        refine nm_ 35 ?_
        refine pu_ 6 29 HT_ ?_
        refine pu_ 7 36 HT_ ?_
        refine pu_ 8 37 HT_ ?_
        exact norm_ (by simp only [putAll, Act.put, List.setIfInBounds_toArray, List.set_cons_zero, List.set_cons_succ]) (hCont (.slice Ao38 t345.length co38, .slice Ao39 t348.length co39, .slice Ao40 t352.length co40, .slice Ao41 t355.length co41, v360, v363, gb366) _ ⟨hHeld, (fS_ HO347), (fR_ HO350), (fS_ HO354), (fR_ HO357), (fS_ HO361), (fR_ HO364), (bk_ BK340), (bk_ BK341), (bk_ BK366), GW366.out, GE366.out, NB340_366.out, NB366_340.out, NB341_366.out, NB366_341.out, (b3_ HB GE340 GE341 GE366)⟩)
    · skip
      refine box_step ?hg (N := 8) ?hd (cs := #[.int .i64 0, .slice none 0 0, .slice none 0 0]) (t := 29) ?hr ?_; (case hd => rfl); (case hg => rfl); (case hr => first | (go_simp; done) | (go_simp; rfl))
      intro gb366 hg w35 hbox hb
      have BK366 := as_ (hbox); have GW366 := gz_ hg (b2_ HB GE340 GE341); have GE366 := gz_ hg (b2_ HB GE340 GE341); replace HB := as_ (below_step (b2_ HB GE340 GE341) hb); have NB340_366 := nl_ hg (bk_ BK340); have NB366_340 := ng_ hg (bk_ BK340); replace BK340 := kb_ BK340 hb; have NB341_366 := nl_ hg (bk_ BK341); have NB366_341 := ng_ hg (bk_ BK341); replace BK341 := kb_ BK341 hb; clear hb hbox hg
      refine hK.out _ _ (tz3_ BK340 (ty3_ BK341)) (fun hHeld => ?_)
      clear hK K
      refine nm_ 8 ?_
      refine on_ 1 (some 31) HT_ fun K hK => ?_
      refine gR_ Try.func7 #[.agg #[.int .i64 a0_0, .slice A0_1 l0_1.length c0_1, .slice A0_2 l0_2.length c0_2]] ?_
      with_reducible refine (laws_toAutomaton.calls k a0_0 _ _ l0_1 _ _ l0_2 t344 t345 t348 _ ?side1 ?side2 ?side3 ?side4 A20.out).mono ?_
      (case side1 => exact bC_ HR0_1 HB)
      (case side2 => exact HC0_1.out)
      (case side3 => exact bC_ HR0_2 HB)
      (case side4 => exact HC0_2.out)
      rintro e w36 ⟨v346, v349, rfl, ho0, ho1, hb⟩
      refine ⟨_, rfl, ?_⟩
      have HO347 := as_ (Kd.S_lower ho0 (below_size (b3_ HB GE340 GE341 GE366))); have HO350 := as_ (Kd.R_lower ho1 (below_size (b3_ HB GE340 GE341 GE366))); replace BK340 := kb_ BK340 hb; replace BK341 := kb_ BK341 hb; replace BK366 := kb_ BK366 hb; replace HB := as_ (below_step (b3_ HB GE340 GE341 GE366) hb)
      clear hb ho0 ho1
      refine hK.out _ _ (tz3_ BK340 (ty3_ BK341)) (fun hHeld => ?_)
      clear hK K
      refine nm_ 31 ?_
      refine on_ 3 (some 33) HT_ fun K hK => ?_
      refine gR_ Try.func7 #[.agg #[.int .i64 a1_0, .slice A1_1 l1_1.length c1_1, .slice A1_2 l1_2.length c1_2]] ?_
      with_reducible refine (laws_toAutomaton.calls k a1_0 _ _ l1_1 _ _ l1_2 t351 t352 t355 _ ?side1 ?side2 ?side3 ?side4 A21.out).mono ?_
      (case side1 => exact bC_ HR1_1 HB)
      (case side2 => exact HC1_1.out)
      (case side3 => exact bC_ HR1_2 HB)
      (case side4 => exact HC1_2.out)
      rintro e w37 ⟨v353, v356, rfl, ho0, ho1, hb⟩
      refine ⟨_, rfl, ?_⟩
      have HO354 := as_ (Kd.S_lower (nSR_ (nSS_ ho0 HO347) HO350) (below_size (b3_ HB GE340 GE341 GE366))); replace HO347 := so2_ (bS_ HO347) hb (Kd.S_base ho0) (Kd.R_base ho1); have HO357 := as_ (Kd.R_lower (nRR_ ho1 HO350) (below_size (b3_ HB GE340 GE341 GE366))); replace HO350 := eR_ HO350 (Kd.R_base ho1) hb; replace BK340 := kb_ BK340 hb; replace BK341 := kb_ BK341 hb; replace BK366 := kb_ BK366 hb; replace HB := as_ (below_step (b3_ HB GE340 GE341 GE366) hb)
      clear hb ho0 ho1
      obtain ⟨Ao38, co38, eo38⟩ := Kd.S_slice HO347.out
      (first | subst eo38 | (injection eo38 with f1_ f2_ f3_; have f4_ := f1_.symm; have f5_ := f3_.symm; clear f1_ f2_ f3_; subst f4_; subst f5_))
      obtain ⟨Ao39, co39, eo39⟩ := Kd.R_slice HO350.out
      (first | subst eo39 | (injection eo39 with f1_ f2_ f3_; have f4_ := f1_.symm; have f5_ := f3_.symm; clear f1_ f2_ f3_; subst f4_; subst f5_))
      obtain ⟨Ao40, co40, eo40⟩ := Kd.S_slice HO354.out
      (first | subst eo40 | (injection eo40 with f1_ f2_ f3_; have f4_ := f1_.symm; have f5_ := f3_.symm; clear f1_ f2_ f3_; subst f4_; subst f5_))
      obtain ⟨Ao41, co41, eo41⟩ := Kd.R_slice HO357.out
      (first | subst eo41 | (injection eo41 with f1_ f2_ f3_; have f4_ := f1_.symm; have f5_ := f3_.symm; clear f1_ f2_ f3_; subst f4_; subst f5_))
      refine hK.out _ _ (tz3_ BK340 (ty3_ BK341)) (fun hHeld => ?_)
      clear hK K
      refine nm_ 33 ?_
      refine on_ 5 (some 35) HT_ fun K hK => ?_
      refine gR_ Try.func10 #[.agg #[.int .i64 t344, .slice Ao38 t345.length co38, .slice Ao39 t348.length co39], .agg #[.int .i64 t351, .slice Ao40 t352.length co40, .slice Ao41 t355.length co41], .int .i64 a2] ?_
      with_reducible refine (spec_CombineAutomata.calls k t344 _ _ t345 _ _ t348 t351 _ _ t352 _ _ t355 a2 t358 t359 t362 t365 _ ?side1 ?side2 ?side3 ?side4 ?side5 ?side6 ?side7 ?side8 A22.out).mono ?_
      (case side1 => exact cC_ (Kd.S_reads' HO347.out).2.2)
      (case side2 => exact (Kd.S_reads' HO347.out).2.1)
      (case side3 => exact cC_ (Kd.R_reads' HO350.out).2.2)
      (case side4 => exact (Kd.R_reads' HO350.out).2.1)
      (case side5 => exact cC_ (Kd.S_reads' HO354.out).2.2)
      (case side6 => exact (Kd.S_reads' HO354.out).2.1)
      (case side7 => exact cC_ (Kd.R_reads' HO357.out).2.2)
      (case side8 => exact (Kd.R_reads' HO357.out).2.1)
      rintro e w42 ⟨v360, v363, rfl, ho0, ho1, hb⟩
      refine ⟨_, rfl, ?_⟩
      have HO361 := as_ (Kd.S_lower (nSR_ (nSS_ (nSR_ (nSS_ ho0 HO347) HO350) HO354) HO357) (below_size (b3_ HB GE340 GE341 GE366))); replace HO347 := so2_ (bS_ HO347) hb (Kd.S_base ho0) (Kd.R_base ho1); replace HO354 := so2_ (bS_ HO354) hb (Kd.S_base ho0) (Kd.R_base ho1); have HO364 := as_ (Kd.R_lower (nRR_ (nRR_ ho1 HO350) HO357) (below_size (b3_ HB GE340 GE341 GE366))); replace HO350 := eR_ HO350 (Kd.R_base ho1) hb; replace HO357 := eR_ HO357 (Kd.R_base ho1) hb; replace BK340 := kb_ BK340 hb; replace BK341 := kb_ BK341 hb; replace BK366 := kb_ BK366 hb; replace HB := as_ (below_step (b3_ HB GE340 GE341 GE366) hb)
      clear hb ho0 ho1
      refine hK.out _ _ (tz3_ BK340 (ty3_ BK341)) (fun hHeld => ?_)
      clear hK K
      refine nm_ 35 ?_
      refine pu_ 6 29 HT_ ?_
      refine pu_ 7 36 HT_ ?_
      refine pu_ 8 37 HT_ ?_
      exact norm_ (by simp only [putAll, Act.put, List.setIfInBounds_toArray, List.set_cons_zero, List.set_cons_succ]) (hCont (.slice Ao38 t345.length co38, .slice Ao39 t348.length co39, .slice Ao40 t352.length co40, .slice Ao41 t355.length co41, v360, v363, gb366) _ ⟨hHeld, (fS_ HO347), (fR_ HO350), (fS_ HO354), (fR_ HO357), (fS_ HO361), (fR_ HO364), (bk_ BK340), (bk_ BK341), (bk_ BK366), GW366.out, GE366.out, NB340_366.out, NB366_340.out, NB341_366.out, NB366_341.out, (b3_ HB GE340 GE341 GE366)⟩)
  rintro ⟨v346, v349, v353, v356, v360, v363, gb366⟩ w43 ⟨hS_, h0_, h1_, h2_, h3_, h4_, h5_, h6_, h7_, h8_, h9_, h10_, h11_, h12_, h13_, h14_, h15_⟩
  have HO347 : Aside0 (Kd.S (Kd.slice 2 (Kd.int .i64)) 23 w43 w.heap.size (fun k_ => some k_ ≠ (v349 : Value).ownBlock ∧ some k_ ≠ (v353 : Value).ownBlock ∧ some k_ ≠ (v356 : Value).ownBlock ∧ some k_ ≠ (v360 : Value).ownBlock ∧ some k_ ≠ (v363 : Value).ownBlock) v346 t345) := ⟨h0_⟩; have HO350 : Aside0 (Kd.R (Kd.int .i64) 2 w43 w.heap.size (fun k_ => some k_ ≠ (v356 : Value).ownBlock ∧ some k_ ≠ (v363 : Value).ownBlock) v349 t348) := ⟨h1_⟩; have HO354 : Aside0 (Kd.S (Kd.slice 2 (Kd.int .i64)) 23 w43 w.heap.size (fun k_ => some k_ ≠ (v346 : Value).ownBlock ∧ some k_ ≠ (v349 : Value).ownBlock ∧ some k_ ≠ (v356 : Value).ownBlock ∧ some k_ ≠ (v360 : Value).ownBlock ∧ some k_ ≠ (v363 : Value).ownBlock) v353 t352) := ⟨h2_⟩; have HO357 : Aside0 (Kd.R (Kd.int .i64) 2 w43 w.heap.size (fun k_ => some k_ ≠ (v349 : Value).ownBlock ∧ some k_ ≠ (v363 : Value).ownBlock) v356 t355) := ⟨h3_⟩; have HO361 : Aside0 (Kd.S (Kd.slice 2 (Kd.int .i64)) 23 w43 w.heap.size (fun k_ => some k_ ≠ (v346 : Value).ownBlock ∧ some k_ ≠ (v349 : Value).ownBlock ∧ some k_ ≠ (v353 : Value).ownBlock ∧ some k_ ≠ (v356 : Value).ownBlock ∧ some k_ ≠ (v363 : Value).ownBlock) v360 t359) := ⟨h4_⟩; have HO364 : Aside0 (Kd.R (Kd.int .i64) 2 w43 w.heap.size (fun k_ => some k_ ≠ (v349 : Value).ownBlock ∧ some k_ ≠ (v356 : Value).ownBlock) v363 t362) := ⟨h5_⟩; replace BK340 : Aside0 (w43.heap[gb340]? = some (.cells #[.int .i64 a0_0, .slice A0_1 l0_1.length c0_1, .slice A0_2 l0_2.length c0_2] 25 (0, 0))) := ⟨h6_⟩; replace BK341 : Aside0 (w43.heap[gb341]? = some (.cells #[.int .i64 a1_0, .slice A1_1 l1_1.length c1_1, .slice A1_2 l1_2.length c1_2] 25 (0, 0))) := ⟨h7_⟩; have BK366 : Aside0 (w43.heap[gb366]? = some (.cells #[.int .i64 0, .slice none 0 0, .slice none 0 0] 29 (0, 0))) := ⟨h8_⟩; have GW366 : Aside0 (w.heap.size ≤ gb366) := ⟨h9_⟩; have GE366 : Aside0 (w.heap.size ≤ gb366) := ⟨h10_⟩; have NB340_366 : Aside0 (gb340 ≠ gb366) := ⟨h11_⟩; have NB366_340 : Aside0 (gb366 ≠ gb340) := ⟨h12_⟩; have NB341_366 : Aside0 (gb341 ≠ gb366) := ⟨h13_⟩; have NB366_341 : Aside0 (gb366 ≠ gb341) := ⟨h14_⟩; replace HB : Aside0 (Below w.heap.size w w43) := ⟨h15_⟩; clear h0_ h1_ h2_ h3_ h4_ h5_ h6_ h7_ h8_ h9_ h10_ h11_ h12_ h13_ h14_ h15_
  have hHeld : w43.cell? ⟨gb340, 0, none⟩ = some (.int .i64 a0_0) ∧ w43.cell? ⟨gb340, 1, none⟩ = some (.slice A0_1 l0_1.length c0_1) ∧ w43.cell? ⟨gb340, 2, none⟩ = some (.slice A0_2 l0_2.length c0_2) ∧ w43.cell? ⟨gb341, 0, none⟩ = some (.int .i64 a1_0) ∧ w43.cell? ⟨gb341, 1, none⟩ = some (.slice A1_1 l1_1.length c1_1) ∧ w43.cell? ⟨gb341, 2, none⟩ = some (.slice A1_2 l1_2.length c1_2) := hS_
  obtain ⟨Ao45, co45, eo45⟩ := Kd.S_slice HO361.out
  (first | subst eo45 | (injection eo45 with f1_ f2_ f3_; have f4_ := f1_.symm; have f5_ := f3_.symm; clear f1_ f2_ f3_; subst f4_; subst f5_))
  obtain ⟨Ao47, co47, eo47⟩ := Kd.R_slice HO364.out
  (first | subst eo47 | (injection eo47 with f1_ f2_ f3_; have f4_ := f1_.symm; have f5_ := f3_.symm; clear f1_ f2_ f3_; subst f4_; subst f5_))
  refine norm_ (a' := ?_) ?_ ?_
  rotate_left
  · simp only [putAll, Act.put, List.setIfInBounds_toArray, List.set_cons_zero, List.set_cons_succ]
    rfl
  refine on_ 10 none HT_ fun K hK => ?_
  have hs44 : w43.cell? ⟨gb366, 0, none⟩ = some (.int .i64 0) := (blk_cell BK366.out 0).trans rfl
  have hfs44 := blk_frozen BK366.out 0
  have hns44_0 := NB340_366.out
  have hns44_1 := NB341_366.out
  have hms44_0 := NB366_340.out
  have hms44_1 := NB366_341.out
  have hs46 : w43.cell? ⟨gb366, 1, none⟩ = some (.slice none 0 0) := (blk_cell BK366.out 1).trans rfl
  have hfs46 := blk_frozen BK366.out 1
  have hns46_0 := NB340_366.out
  have hns46_1 := NB341_366.out
  have hms46_0 := NB366_340.out
  have hms46_1 := NB366_341.out
  have hs48 : w43.cell? ⟨gb366, 2, none⟩ = some (.slice none 0 0) := (blk_cell BK366.out 2).trans rfl
  have hfs48 := blk_frozen BK366.out 2
  have hns48_0 := NB340_366.out
  have hns48_1 := NB341_366.out
  have hms48_0 := NB366_340.out
  have hms48_1 := NB366_341.out
  refine skip_ (w1 := ?_) (by rfl) rfl ?_ ?_
  rotate_left
  · go_simp
    rfl
  refine hK.out _ _ ⟨((cell_far (p := ⟨gb366, _, none⟩) NB340_366.out _).trans (((cell_far (p := ⟨gb366, _, none⟩) NB340_366.out _).trans (((cell_far (p := ⟨gb366, _, none⟩) NB340_366.out _).trans (hHeld.1)))))), ((cell_far (p := ⟨gb366, _, none⟩) NB340_366.out _).trans (((cell_far (p := ⟨gb366, _, none⟩) NB340_366.out _).trans (((cell_far (p := ⟨gb366, _, none⟩) NB340_366.out _).trans (hHeld.2.1)))))), ((cell_far (p := ⟨gb366, _, none⟩) NB340_366.out _).trans (((cell_far (p := ⟨gb366, _, none⟩) NB340_366.out _).trans (((cell_far (p := ⟨gb366, _, none⟩) NB340_366.out _).trans (hHeld.2.2.1)))))), ((cell_far (p := ⟨gb366, _, none⟩) NB341_366.out _).trans (((cell_far (p := ⟨gb366, _, none⟩) NB341_366.out _).trans (((cell_far (p := ⟨gb366, _, none⟩) NB341_366.out _).trans (hHeld.2.2.2.1)))))), ((cell_far (p := ⟨gb366, _, none⟩) NB341_366.out _).trans (((cell_far (p := ⟨gb366, _, none⟩) NB341_366.out _).trans (((cell_far (p := ⟨gb366, _, none⟩) NB341_366.out _).trans (hHeld.2.2.2.2.1)))))), ((cell_far (p := ⟨gb366, _, none⟩) NB341_366.out _).trans (((cell_far (p := ⟨gb366, _, none⟩) NB341_366.out _).trans (((cell_far (p := ⟨gb366, _, none⟩) NB341_366.out _).trans (hHeld.2.2.2.2.2))))))⟩ (fun hHeld => ?_)
  clear hK K
  refine pu_ 11 9 HT_ ?_
  refine dn_ HT_ ?_
  have hnb49 := NB340_366.out
  have hnc49 := NB366_340.out
  obtain ⟨hcz50_0, hfz50_0, hcz50_1, hfz50_1, hcz50_2, hfz50_2⟩ := tc3_ BK340
  go_upto_region 12 with (first | ((with_reducible refine gate_callee (f := 7) rfl ?_); refine gL_ 39 Try.func7 #[.agg #[.int .i64 a0_0, .slice A0_1 l0_1.length c0_1, .slice A0_2 l0_2.length c0_2]] ?_; (with_reducible refine (laws_toAutomaton.calls k a0_0 _ _ l0_1 _ _ l0_2 t367 t368 t371 _ ?side1 ?side2 ?side3 ?side4 A23.out).mono ?_); (case side1 => exact Kd.C_below HR0_1.out (b3_ HB GE340 GE341 GE366)); (case side2 => exact HC0_1.out); (case side3 => exact Kd.C_below HR0_2.out (b3_ HB GE340 GE341 GE366)); (case side4 => exact HC0_2.out); rintro e w51 ⟨v369, v372, rfl, ho0, ho1, hb⟩; refine ⟨_, rfl, ?_⟩; obtain ⟨N52, hN52⟩ := nat_of_below hb; have HO370 := as_ (Kd.S_lower (Kd.S_new' (Kd.S_new' (Kd.S_new' (Kd.S_new' (Kd.S_new' (Kd.S_new' (S_geN hN52 ho0) (Kd.S_lt (iS1_ HO347 BK366))) (Kd.R_lt (iR1_ HO350 BK366))) (Kd.S_lt (iS1_ HO354 BK366))) (Kd.R_lt (iR1_ HO357 BK366))) (Kd.S_lt (iS1_ HO361 BK366))) (Kd.R_lt (iR1_ HO364 BK366))) (below_size (b3_ HB GE340 GE341 GE366))); replace HO347 := as_ (Kd.S_mono (Kd.S_told (Kd.S_told (Kd.S_old ((S_ltN (iS1_ HO347 BK366) hN52)) hb) (Kd.S_base ho0)) (Kd.R_base ho1)) (fun _ h_ => h_.1)); replace HO354 := as_ (Kd.S_mono (Kd.S_told (Kd.S_told (Kd.S_old ((S_ltN (iS1_ HO354 BK366) hN52)) hb) (Kd.S_base ho0)) (Kd.R_base ho1)) (fun _ h_ => h_.1)); replace HO361 := as_ (Kd.S_mono (Kd.S_told (Kd.S_told (Kd.S_old ((S_ltN (iS1_ HO361 BK366) hN52)) hb) (Kd.S_base ho0)) (Kd.R_base ho1)) (fun _ h_ => h_.1)); have HO373 := as_ (Kd.R_lower (Kd.R_new' (Kd.R_new' (Kd.R_new' ho1 (Kd.R_lt (iR1_ HO350 BK366))) (Kd.R_lt (iR1_ HO357 BK366))) (Kd.R_lt (iR1_ HO364 BK366))) (below_size (b3_ HB GE340 GE341 GE366))); replace HO350 := as_ (Kd.R_elder' (iR1_ HO350 BK366) (Kd.R_base ho1) hb); replace HO357 := as_ (Kd.R_elder' (iR1_ HO357 BK366) (Kd.R_base ho1) hb); replace HO364 := as_ (Kd.R_elder' (iR1_ HO364 BK366) (Kd.R_base ho1) hb); replace BK340 := as_ (blk_below (bf_ BK340 NB340_366) hb); replace BK341 := as_ (blk_below (bf_ BK341 NB341_366) hb); replace BK366 := as_ (blk_below (g := gb366) (o := .cells #[.int .i64 t358, .slice Ao45 t359.length co45, .slice Ao47 t362.length co47] 29 (0, 0)) (bp_ BK366) hb); replace HB := as_ (below_step (b3_ HB GE340 GE341 GE366) hb); clear hb ho0 ho1) | ((with_reducible refine gate_dst (N := 10) rfl ?_); refine bx_ 10 #[.int .i64 0, .slice none 0 0, .slice none 0 0] 29 ?_; intro gb374 hg w53 hbox hb; replace HO347 := sb_ HO347 hb; replace HO350 := rb_ HO350 hb; replace HO354 := sb_ HO354 hb; replace HO357 := rb_ HO357 hb; replace HO361 := sb_ HO361 hb; replace HO364 := rb_ HO364 hb; replace HO370 := sb_ HO370 hb; replace HO373 := rb_ HO373 hb; have BK374 := as_ (hbox); have GW374 := gz_ hg (b3_ HB GE340 GE341 GE366); have GE374 := GW374; replace HB := as_ (below_step (b3_ HB GE340 GE341 GE366) hb); have NB340_374 := nl_ hg (bk_ BK340); have NB374_340 := ng_ hg (bk_ BK340); replace BK340 := kb_ BK340 hb; have NB341_374 := nl_ hg (bk_ BK341); have NB374_341 := ng_ hg (bk_ BK341); replace BK341 := kb_ BK341 hb; have NB366_374 := nl_ hg (bk_ BK366); have NB374_366 := ng_ hg (bk_ BK366); replace BK366 := kb_ BK366 hb; clear hb hbox hg; have hnb54 := NB374_340.out; have hnc54 := NB340_374.out; have hnb55 := NB374_341.out; have hnc55 := NB341_374.out; have hnb56 := NB374_366.out; have hnc56 := NB366_374.out; obtain ⟨hcz57_0, hfz57_0, hcz57_1, hfz57_1, hcz57_2, hfz57_2⟩ := tc3_ BK374; obtain ⟨Ao58, co58, eo58⟩ := Kd.S_slice HO370.out; subst eo58; obtain ⟨Ao59, co59, eo59⟩ := Kd.R_slice HO373.out; subst eo59; have hnb60 := NB341_366.out; have hnc60 := NB366_341.out; obtain ⟨hcz61_0, hfz61_0, hcz61_1, hfz61_1, hcz61_2, hfz61_2⟩ := tc3_ BK341) | ((with_reducible refine gate_callee (f := 7) rfl ?_); refine gL_ 41 Try.func7 #[.agg #[.int .i64 a1_0, .slice A1_1 l1_1.length c1_1, .slice A1_2 l1_2.length c1_2]] ?_; (with_reducible refine (laws_toAutomaton.calls k a1_0 _ _ l1_1 _ _ l1_2 t375 t376 t379 _ ?side1 ?side2 ?side3 ?side4 A24.out).mono ?_); (case side1 => exact Kd.C_below HR1_1.out (b4_ HB GE340 GE341 GE366 GE374)); (case side2 => exact HC1_1.out); (case side3 => exact Kd.C_below HR1_2.out (b4_ HB GE340 GE341 GE366 GE374)); (case side4 => exact HC1_2.out); rintro e w62 ⟨v377, v380, rfl, ho0, ho1, hb⟩; refine ⟨_, rfl, ?_⟩; obtain ⟨N63, hN63⟩ := nat_of_below hb; have HO378 := as_ (Kd.S_lower (Kd.S_new' (Kd.S_new' (Kd.S_new' (Kd.S_new' (Kd.S_new' (Kd.S_new' (Kd.S_new' (Kd.S_new' (S_geN hN63 ho0) (Kd.S_lt (iS1_ HO347 BK374))) (Kd.R_lt (iR1_ HO350 BK374))) (Kd.S_lt (iS1_ HO354 BK374))) (Kd.R_lt (iR1_ HO357 BK374))) (Kd.S_lt (iS1_ HO361 BK374))) (Kd.R_lt (iR1_ HO364 BK374))) (Kd.S_lt (iS1_ HO370 BK374))) (Kd.R_lt (iR1_ HO373 BK374))) (below_size (b4_ HB GE340 GE341 GE366 GE374))); replace HO347 := as_ (Kd.S_mono (Kd.S_told (Kd.S_told (Kd.S_old ((S_ltN (iS1_ HO347 BK374) hN63)) hb) (Kd.S_base ho0)) (Kd.R_base ho1)) (fun _ h_ => h_.1)); replace HO354 := as_ (Kd.S_mono (Kd.S_told (Kd.S_told (Kd.S_old ((S_ltN (iS1_ HO354 BK374) hN63)) hb) (Kd.S_base ho0)) (Kd.R_base ho1)) (fun _ h_ => h_.1)); replace HO361 := as_ (Kd.S_mono (Kd.S_told (Kd.S_told (Kd.S_old ((S_ltN (iS1_ HO361 BK374) hN63)) hb) (Kd.S_base ho0)) (Kd.R_base ho1)) (fun _ h_ => h_.1)); replace HO370 := as_ (Kd.S_mono (Kd.S_told (Kd.S_told (Kd.S_old ((S_ltN (iS1_ HO370 BK374) hN63)) hb) (Kd.S_base ho0)) (Kd.R_base ho1)) (fun _ h_ => h_.1)); have HO381 := as_ (Kd.R_lower (Kd.R_new' (Kd.R_new' (Kd.R_new' (Kd.R_new' ho1 (Kd.R_lt (iR1_ HO350 BK374))) (Kd.R_lt (iR1_ HO357 BK374))) (Kd.R_lt (iR1_ HO364 BK374))) (Kd.R_lt (iR1_ HO373 BK374))) (below_size (b4_ HB GE340 GE341 GE366 GE374))); replace HO350 := as_ (Kd.R_elder' (iR1_ HO350 BK374) (Kd.R_base ho1) hb); replace HO357 := as_ (Kd.R_elder' (iR1_ HO357 BK374) (Kd.R_base ho1) hb); replace HO364 := as_ (Kd.R_elder' (iR1_ HO364 BK374) (Kd.R_base ho1) hb); replace HO373 := as_ (Kd.R_elder' (iR1_ HO373 BK374) (Kd.R_base ho1) hb); replace BK340 := as_ (blk_below (bf_ BK340 NB340_374) hb); replace BK341 := as_ (blk_below (bf_ BK341 NB341_374) hb); replace BK366 := as_ (blk_below (bf_ BK366 NB366_374) hb); replace BK374 := as_ (blk_below (g := gb374) (o := .cells #[.int .i64 t367, .slice Ao58 t368.length co58, .slice Ao59 t371.length co59] 29 (0, 0)) (bp_ BK374) hb); replace HB := as_ (below_step (b4_ HB GE340 GE341 GE366 GE374) hb); clear hb ho0 ho1) | ((with_reducible refine gate_dst (N := 11) rfl ?_); refine bx_ 11 #[.int .i64 0, .slice none 0 0, .slice none 0 0] 29 ?_; intro gb382 hg w64 hbox hb; replace HO347 := sb_ HO347 hb; replace HO350 := rb_ HO350 hb; replace HO354 := sb_ HO354 hb; replace HO357 := rb_ HO357 hb; replace HO361 := sb_ HO361 hb; replace HO364 := rb_ HO364 hb; replace HO370 := sb_ HO370 hb; replace HO373 := rb_ HO373 hb; replace HO378 := sb_ HO378 hb; replace HO381 := rb_ HO381 hb; have BK382 := as_ (hbox); have GW382 := gz_ hg (b4_ HB GE340 GE341 GE366 GE374); have GE382 := GW382; replace HB := as_ (below_step (b4_ HB GE340 GE341 GE366 GE374) hb); have NB340_382 := nl_ hg (bk_ BK340); have NB382_340 := ng_ hg (bk_ BK340); replace BK340 := kb_ BK340 hb; have NB341_382 := nl_ hg (bk_ BK341); have NB382_341 := ng_ hg (bk_ BK341); replace BK341 := kb_ BK341 hb; have NB366_382 := nl_ hg (bk_ BK366); have NB382_366 := ng_ hg (bk_ BK366); replace BK366 := kb_ BK366 hb; have NB374_382 := nl_ hg (bk_ BK374); have NB382_374 := ng_ hg (bk_ BK374); replace BK374 := kb_ BK374 hb; clear hb hbox hg; have hnb65 := NB382_340.out; have hnc65 := NB340_382.out; have hnb66 := NB382_341.out; have hnc66 := NB341_382.out; have hnb67 := NB382_366.out; have hnc67 := NB366_382.out; have hnb68 := NB382_374.out; have hnc68 := NB374_382.out; obtain ⟨hcz69_0, hfz69_0, hcz69_1, hfz69_1, hcz69_2, hfz69_2⟩ := tc3_ BK382; obtain ⟨Ao70, co70, eo70⟩ := Kd.S_slice HO378.out; subst eo70; obtain ⟨Ao71, co71, eo71⟩ := Kd.R_slice HO381.out; subst eo71; obtain ⟨hcz72_0, hfz72_0, hcz72_1, hfz72_1, hcz72_2, hfz72_2⟩ := tc3_ BK374) | ((with_reducible refine gate_callee (f := 11) rfl ?_); refine gL_ 46 Try.func11 #[.agg #[.int .i64 t367, .slice Ao58 t368.length co58, .slice Ao59 t371.length co59], .agg #[.int .i64 t375, .slice Ao70 t376.length co70, .slice Ao71 t379.length co71], .int .i64 a2] ?_; (with_reducible refine (impl_CombineAutomata.calls k t367 _ _ t368 _ _ t371 t375 _ _ t376 _ _ t379 a2 t383 t384 t387 t390 _ ?side1 ?side2 ?side3 ?side4 ?side5 ?side6 ?side7 ?side8 A25.out).mono ?_); (case side1 => exact rS1_ HO370 BK382); (case side2 => exact (Kd.S_reads' HO370.out).2.1); (case side3 => exact rR1_ HO373 BK382); (case side4 => exact (Kd.R_reads' HO373.out).2.1); (case side5 => exact rS1_ HO378 BK382); (case side6 => exact (Kd.S_reads' HO378.out).2.1); (case side7 => exact rR1_ HO381 BK382); (case side8 => exact (Kd.R_reads' HO381.out).2.1); rintro e w73 ⟨v385, v388, rfl, ho0, ho1, hb⟩; refine ⟨_, rfl, ?_⟩; obtain ⟨N74, hN74⟩ := nat_of_below hb; have HO386 := as_ (Kd.S_lower (Kd.S_new' (Kd.S_new' (Kd.S_new' (Kd.S_new' (Kd.S_new' (Kd.S_new' (Kd.S_new' (Kd.S_new' (Kd.S_new' (Kd.S_new' (S_geN hN74 ho0) (Kd.S_lt (iS1_ HO347 BK382))) (Kd.R_lt (iR1_ HO350 BK382))) (Kd.S_lt (iS1_ HO354 BK382))) (Kd.R_lt (iR1_ HO357 BK382))) (Kd.S_lt (iS1_ HO361 BK382))) (Kd.R_lt (iR1_ HO364 BK382))) (Kd.S_lt (iS1_ HO370 BK382))) (Kd.R_lt (iR1_ HO373 BK382))) (Kd.S_lt (iS1_ HO378 BK382))) (Kd.R_lt (iR1_ HO381 BK382))) (below_size (b5_ HB GE340 GE341 GE366 GE374 GE382))); replace HO347 := as_ (Kd.S_mono (Kd.S_told (Kd.S_told (Kd.S_old ((S_ltN (iS1_ HO347 BK382) hN74)) hb) (Kd.S_base ho0)) (Kd.R_base ho1)) (fun _ h_ => h_.1)); replace HO354 := as_ (Kd.S_mono (Kd.S_told (Kd.S_told (Kd.S_old ((S_ltN (iS1_ HO354 BK382) hN74)) hb) (Kd.S_base ho0)) (Kd.R_base ho1)) (fun _ h_ => h_.1)); replace HO361 := as_ (Kd.S_mono (Kd.S_told (Kd.S_told (Kd.S_old ((S_ltN (iS1_ HO361 BK382) hN74)) hb) (Kd.S_base ho0)) (Kd.R_base ho1)) (fun _ h_ => h_.1)); replace HO370 := as_ (Kd.S_mono (Kd.S_told (Kd.S_told (Kd.S_old ((S_ltN (iS1_ HO370 BK382) hN74)) hb) (Kd.S_base ho0)) (Kd.R_base ho1)) (fun _ h_ => h_.1)); replace HO378 := as_ (Kd.S_mono (Kd.S_told (Kd.S_told (Kd.S_old ((S_ltN (iS1_ HO378 BK382) hN74)) hb) (Kd.S_base ho0)) (Kd.R_base ho1)) (fun _ h_ => h_.1)); have HO389 := as_ (Kd.R_lower (Kd.R_new' (Kd.R_new' (Kd.R_new' (Kd.R_new' (Kd.R_new' ho1 (Kd.R_lt (iR1_ HO350 BK382))) (Kd.R_lt (iR1_ HO357 BK382))) (Kd.R_lt (iR1_ HO364 BK382))) (Kd.R_lt (iR1_ HO373 BK382))) (Kd.R_lt (iR1_ HO381 BK382))) (below_size (b5_ HB GE340 GE341 GE366 GE374 GE382))); replace HO350 := as_ (Kd.R_elder' (iR1_ HO350 BK382) (Kd.R_base ho1) hb); replace HO357 := as_ (Kd.R_elder' (iR1_ HO357 BK382) (Kd.R_base ho1) hb); replace HO364 := as_ (Kd.R_elder' (iR1_ HO364 BK382) (Kd.R_base ho1) hb); replace HO373 := as_ (Kd.R_elder' (iR1_ HO373 BK382) (Kd.R_base ho1) hb); replace HO381 := as_ (Kd.R_elder' (iR1_ HO381 BK382) (Kd.R_base ho1) hb); replace BK340 := as_ (blk_below (bf_ BK340 NB340_382) hb); replace BK341 := as_ (blk_below (bf_ BK341 NB341_382) hb); replace BK366 := as_ (blk_below (bf_ BK366 NB366_382) hb); replace BK374 := as_ (blk_below (bf_ BK374 NB374_382) hb); replace BK382 := as_ (blk_below (g := gb382) (o := .cells #[.int .i64 t375, .slice Ao70 t376.length co70, .slice Ao71 t379.length co71] 29 (0, 0)) (bp_ BK382) hb); replace HB := as_ (below_step (b5_ HB GE340 GE341 GE366 GE374 GE382) hb); clear hb ho0 ho1) | ((with_reducible refine gate_dst (N := 12) rfl ?_); refine bx_ 12 #[.int .i64 0, .slice none 0 0, .slice none 0 0] 29 ?_; intro gb391 hg w75 hbox hb; replace HO347 := sb_ HO347 hb; replace HO350 := rb_ HO350 hb; replace HO354 := sb_ HO354 hb; replace HO357 := rb_ HO357 hb; replace HO361 := sb_ HO361 hb; replace HO364 := rb_ HO364 hb; replace HO370 := sb_ HO370 hb; replace HO373 := rb_ HO373 hb; replace HO378 := sb_ HO378 hb; replace HO381 := rb_ HO381 hb; replace HO386 := sb_ HO386 hb; replace HO389 := rb_ HO389 hb; have BK391 := as_ (hbox); have GW391 := gz_ hg (b5_ HB GE340 GE341 GE366 GE374 GE382); have GE391 := GW391; replace HB := as_ (below_step (b5_ HB GE340 GE341 GE366 GE374 GE382) hb); have NB340_391 := nl_ hg (bk_ BK340); have NB391_340 := ng_ hg (bk_ BK340); replace BK340 := kb_ BK340 hb; have NB341_391 := nl_ hg (bk_ BK341); have NB391_341 := ng_ hg (bk_ BK341); replace BK341 := kb_ BK341 hb; have NB366_391 := nl_ hg (bk_ BK366); have NB391_366 := ng_ hg (bk_ BK366); replace BK366 := kb_ BK366 hb; have NB374_391 := nl_ hg (bk_ BK374); have NB391_374 := ng_ hg (bk_ BK374); replace BK374 := kb_ BK374 hb; have NB382_391 := nl_ hg (bk_ BK382); have NB391_382 := ng_ hg (bk_ BK382); replace BK382 := kb_ BK382 hb; clear hb hbox hg; have hnb76 := NB391_340.out; have hnc76 := NB340_391.out; have hnb77 := NB391_341.out; have hnc77 := NB341_391.out; have hnb78 := NB391_366.out; have hnc78 := NB366_391.out; have hnb79 := NB391_374.out; have hnc79 := NB374_391.out; have hnb80 := NB391_382.out; have hnc80 := NB382_391.out; obtain ⟨hcz81_0, hfz81_0, hcz81_1, hfz81_1, hcz81_2, hfz81_2⟩ := tc3_ BK391; obtain ⟨Ao82, co82, eo82⟩ := Kd.S_slice HO386.out; subst eo82; obtain ⟨Ao83, co83, eo83⟩ := Kd.R_slice HO389.out; subst eo83))
  (try simp only [Act.put, List.setIfInBounds_toArray, List.set_cons_zero, List.set_cons_succ])
  go_cut [57] (fun v57 wc => ∃ (kq : Nat) (x57_25 : Bool), v57 = .bool x57_25 ∧ Aside0 (laws_FnExactCombineAutomata.j0 kq a2 t365 t390 x57_25 a0_0 l0_1 l0_2 a1_0 l1_1 l1_2 t358 t359 t362 t367 t368 t371 t375 t376 t379 t383 t384 t387 = some r) ∧ Aside0 (kq ≤ k) ∧ Aside0 (Kd.S (Kd.slice 2 (Kd.int .i64)) 23 wc w.heap.size (fun k_ => some k_ ≠ ((.slice Ao47 t362.length co47) : Value).ownBlock ∧ some k_ ≠ ((.slice Ao58 t368.length co58) : Value).ownBlock ∧ some k_ ≠ ((.slice Ao59 t371.length co59) : Value).ownBlock ∧ some k_ ≠ ((.slice Ao70 t376.length co70) : Value).ownBlock ∧ some k_ ≠ ((.slice Ao71 t379.length co71) : Value).ownBlock ∧ some k_ ≠ ((.slice Ao82 t384.length co82) : Value).ownBlock ∧ some k_ ≠ ((.slice Ao83 t387.length co83) : Value).ownBlock ∧ k_ ≠ lt_ N52 k_ ∧ k_ ≠ lt_ N63 k_ ∧ k_ ≠ lt_ N74 k_) (.slice Ao45 t359.length co45) t359) ∧ Aside0 (Kd.R (Kd.int .i64) 2 wc w.heap.size (fun k_ => some k_ ≠ ((.slice Ao59 t371.length co59) : Value).ownBlock ∧ some k_ ≠ ((.slice Ao71 t379.length co71) : Value).ownBlock ∧ some k_ ≠ ((.slice Ao83 t387.length co83) : Value).ownBlock) (.slice Ao47 t362.length co47) t362) ∧ Aside0 (Kd.S (Kd.slice 2 (Kd.int .i64)) 23 wc w.heap.size (fun k_ => some k_ ≠ ((.slice Ao45 t359.length co45) : Value).ownBlock ∧ some k_ ≠ ((.slice Ao47 t362.length co47) : Value).ownBlock ∧ some k_ ≠ ((.slice Ao59 t371.length co59) : Value).ownBlock ∧ some k_ ≠ ((.slice Ao70 t376.length co70) : Value).ownBlock ∧ some k_ ≠ ((.slice Ao71 t379.length co71) : Value).ownBlock ∧ some k_ ≠ ((.slice Ao82 t384.length co82) : Value).ownBlock ∧ some k_ ≠ ((.slice Ao83 t387.length co83) : Value).ownBlock ∧ k_ ≠ ge_ N52 k_ ∧ k_ ≠ lt_ N63 k_ ∧ k_ ≠ lt_ N74 k_) (.slice Ao58 t368.length co58) t368) ∧ Aside0 (Kd.R (Kd.int .i64) 2 wc w.heap.size (fun k_ => some k_ ≠ ((.slice Ao47 t362.length co47) : Value).ownBlock ∧ some k_ ≠ ((.slice Ao71 t379.length co71) : Value).ownBlock ∧ some k_ ≠ ((.slice Ao83 t387.length co83) : Value).ownBlock) (.slice Ao59 t371.length co59) t371) ∧ Aside0 (Kd.S (Kd.slice 2 (Kd.int .i64)) 23 wc w.heap.size (fun k_ => some k_ ≠ ((.slice Ao45 t359.length co45) : Value).ownBlock ∧ some k_ ≠ ((.slice Ao47 t362.length co47) : Value).ownBlock ∧ some k_ ≠ ((.slice Ao58 t368.length co58) : Value).ownBlock ∧ some k_ ≠ ((.slice Ao59 t371.length co59) : Value).ownBlock ∧ some k_ ≠ ((.slice Ao71 t379.length co71) : Value).ownBlock ∧ some k_ ≠ ((.slice Ao82 t384.length co82) : Value).ownBlock ∧ some k_ ≠ ((.slice Ao83 t387.length co83) : Value).ownBlock ∧ k_ ≠ ge_ N63 k_ ∧ k_ ≠ lt_ N74 k_) (.slice Ao70 t376.length co70) t376) ∧ Aside0 (Kd.R (Kd.int .i64) 2 wc w.heap.size (fun k_ => some k_ ≠ ((.slice Ao47 t362.length co47) : Value).ownBlock ∧ some k_ ≠ ((.slice Ao59 t371.length co59) : Value).ownBlock ∧ some k_ ≠ ((.slice Ao83 t387.length co83) : Value).ownBlock) (.slice Ao71 t379.length co71) t379) ∧ Aside0 (Kd.S (Kd.slice 2 (Kd.int .i64)) 23 wc w.heap.size (fun k_ => some k_ ≠ ((.slice Ao45 t359.length co45) : Value).ownBlock ∧ some k_ ≠ ((.slice Ao47 t362.length co47) : Value).ownBlock ∧ some k_ ≠ ((.slice Ao58 t368.length co58) : Value).ownBlock ∧ some k_ ≠ ((.slice Ao59 t371.length co59) : Value).ownBlock ∧ some k_ ≠ ((.slice Ao70 t376.length co70) : Value).ownBlock ∧ some k_ ≠ ((.slice Ao71 t379.length co71) : Value).ownBlock ∧ some k_ ≠ ((.slice Ao83 t387.length co83) : Value).ownBlock ∧ k_ ≠ ge_ N74 k_) (.slice Ao82 t384.length co82) t384) ∧ Aside0 (Kd.R (Kd.int .i64) 2 wc w.heap.size (fun k_ => some k_ ≠ ((.slice Ao47 t362.length co47) : Value).ownBlock ∧ some k_ ≠ ((.slice Ao59 t371.length co59) : Value).ownBlock ∧ some k_ ≠ ((.slice Ao71 t379.length co71) : Value).ownBlock) (.slice Ao83 t387.length co83) t387) ∧ Aside0 (wc.heap[gb340]? = some (.cells #[.int .i64 a0_0, (.slice A0_1 l0_1.length c0_1), (.slice A0_2 l0_2.length c0_2)] 25 (0, 0))) ∧ Aside0 (wc.heap[gb341]? = some (.cells #[.int .i64 a1_0, (.slice A1_1 l1_1.length c1_1), (.slice A1_2 l1_2.length c1_2)] 25 (0, 0))) ∧ Aside0 (wc.heap[gb366]? = some (.cells #[.int .i64 t358, (.slice Ao45 t359.length co45), (.slice Ao47 t362.length co47)] 29 (0, 0))) ∧ Aside0 (wc.heap[gb374]? = some (.cells #[.int .i64 t367, (.slice Ao58 t368.length co58), (.slice Ao59 t371.length co59)] 29 (0, 0))) ∧ Aside0 (wc.heap[gb382]? = some (.cells #[.int .i64 t375, (.slice Ao70 t376.length co70), (.slice Ao71 t379.length co71)] 29 (0, 0))) ∧ Aside0 (wc.heap[gb391]? = some (.cells #[.int .i64 t383, (.slice Ao82 t384.length co82), (.slice Ao83 t387.length co83)] 29 (0, 0))) ∧ Aside0 (Below w.heap.size w wc))
  case first => as_aux_lemma =>
    have H := HC26.out
    clear HC26
    obtain ⟨t392, A84, H⟩ := bo_ H
    by_cases c85 : t392 = true
    · subst c85
      replace H := it_ H
      have H' := as_ H
      clear H
      have hnb86 := NB391_340.out
      have hnc86 := NB340_391.out
      have hnb87 := NB391_341.out
      have hnc87 := NB341_391.out
      have hnb88 := NB391_366.out
      have hnc88 := NB366_391.out
      have hnb89 := NB391_374.out
      have hnc89 := NB374_391.out
      have hnb90 := NB391_382.out
      have hnc90 := NB382_391.out
      obtain ⟨hcz91_0, hfz91_0, hcz91_1, hfz91_1, hcz91_2, hfz91_2⟩ := tc3_ BK391
      have hnb92 := NB366_340.out
      have hnc92 := NB340_366.out
      have hnb93 := NB366_341.out
      have hnc93 := NB341_366.out
      have hnb94 := NB366_374.out
      have hnc94 := NB374_366.out
      have hnb95 := NB366_382.out
      have hnc95 := NB382_366.out
      obtain ⟨hcz96_0, hfz96_0, hcz96_1, hfz96_1, hcz96_2, hfz96_2⟩ := tc3_ BK366
      go_wp2_with (first | ((with_reducible refine gate_callee (f := 9) rfl ?_); refine gL_ 51 Try.func9 #[.agg #[.int .i64 t383, .slice Ao82 t384.length co82, .slice Ao83 t387.length co83], .agg #[.int .i64 t358, .slice Ao45 t359.length co45, .slice Ao47 t362.length co47]] ?_; (with_reducible refine (laws_eqAutomaton.calls k t383 _ _ t384 _ _ t387 t358 _ _ t359 _ _ t362 true _ ?side1 ?side2 ?side3 ?side4 ?side5 ?side6 ?side7 ?side8 A84.out).mono ?_); (case side1 => exact rS1_ HO386 BK391); (case side2 => exact (Kd.S_reads' HO386.out).2.1); (case side3 => exact rR1_ HO389 BK391); (case side4 => exact (Kd.R_reads' HO389.out).2.1); (case side5 => exact rS1_ HO361 BK391); (case side6 => exact (Kd.S_reads' HO361.out).2.1); (case side7 => exact rR1_ HO364 BK391); (case side8 => exact (Kd.R_reads' HO364.out).2.1); rintro e w97 ⟨rfl, hb⟩; refine ⟨_, rfl, ?_⟩; replace HO347 := as_ (Kd.S_below (iS1_ HO347 BK391) hb); replace HO350 := as_ (Kd.R_below (iR1_ HO350 BK391) hb); replace HO354 := as_ (Kd.S_below (iS1_ HO354 BK391) hb); replace HO357 := as_ (Kd.R_below (iR1_ HO357 BK391) hb); replace HO361 := as_ (Kd.S_below (iS1_ HO361 BK391) hb); replace HO364 := as_ (Kd.R_below (iR1_ HO364 BK391) hb); replace HO370 := as_ (Kd.S_below (iS1_ HO370 BK391) hb); replace HO373 := as_ (Kd.R_below (iR1_ HO373 BK391) hb); replace HO378 := as_ (Kd.S_below (iS1_ HO378 BK391) hb); replace HO381 := as_ (Kd.R_below (iR1_ HO381 BK391) hb); replace HO386 := as_ (Kd.S_below (iS1_ HO386 BK391) hb); replace HO389 := as_ (Kd.R_below (iR1_ HO389 BK391) hb); replace BK340 := as_ (blk_below (bf_ BK340 NB340_391) hb); replace BK341 := as_ (blk_below (bf_ BK341 NB341_391) hb); replace BK366 := as_ (blk_below (bf_ BK366 NB366_391) hb); replace BK374 := as_ (blk_below (bf_ BK374 NB374_391) hb); replace BK382 := as_ (blk_below (bf_ BK382 NB382_391) hb); replace BK391 := as_ (blk_below (g := gb391) (o := .cells #[.int .i64 t383, .slice Ao82 t384.length co82, .slice Ao83 t387.length co83] 29 (0, 0)) (bp_ BK391) hb); replace HB := as_ (below_step (b6_ HB GE340 GE341 GE366 GE374 GE382 GE391) hb); clear hb))
      go_meet
      case rel => exact ⟨_, ((t390 != t365)), rf_, H', ⟨by first | omega | exact Nat.le_refl _⟩, ⟨fS_ HO361⟩, ⟨fR_ HO364⟩, ⟨fS_ HO370⟩, ⟨fR_ HO373⟩, ⟨fS_ HO378⟩, ⟨fR_ HO381⟩, ⟨fS_ HO386⟩, ⟨fR_ HO389⟩, ⟨bk_ BK340⟩, ⟨bk_ BK341⟩, ⟨bk_ BK366⟩, ⟨bk_ BK374⟩, ⟨bk_ BK382⟩, ⟨bk_ BK391⟩, ⟨b6_ HB GE340 GE341 GE366 GE374 GE382 GE391⟩⟩
    replace c85 := Bool.eq_false_iff.mpr c85
    subst c85
    replace H := if_ H
    have H' := as_ H
    clear H
    have hnb98 := NB391_340.out
    have hnc98 := NB340_391.out
    have hnb99 := NB391_341.out
    have hnc99 := NB341_391.out
    have hnb100 := NB391_366.out
    have hnc100 := NB366_391.out
    have hnb101 := NB391_374.out
    have hnc101 := NB374_391.out
    have hnb102 := NB391_382.out
    have hnc102 := NB382_391.out
    obtain ⟨hcz103_0, hfz103_0, hcz103_1, hfz103_1, hcz103_2, hfz103_2⟩ := tc3_ BK391
    have hnb104 := NB366_340.out
    have hnc104 := NB340_366.out
    have hnb105 := NB366_341.out
    have hnc105 := NB341_366.out
    have hnb106 := NB366_374.out
    have hnc106 := NB374_366.out
    have hnb107 := NB366_382.out
    have hnc107 := NB382_366.out
    obtain ⟨hcz108_0, hfz108_0, hcz108_1, hfz108_1, hcz108_2, hfz108_2⟩ := tc3_ BK366
    go_wp2_with (first | ((with_reducible refine gate_callee (f := 9) rfl ?_); refine gL_ 51 Try.func9 #[.agg #[.int .i64 t383, .slice Ao82 t384.length co82, .slice Ao83 t387.length co83], .agg #[.int .i64 t358, .slice Ao45 t359.length co45, .slice Ao47 t362.length co47]] ?_; (with_reducible refine (laws_eqAutomaton.calls k t383 _ _ t384 _ _ t387 t358 _ _ t359 _ _ t362 false _ ?side1 ?side2 ?side3 ?side4 ?side5 ?side6 ?side7 ?side8 A84.out).mono ?_); (case side1 => exact rS1_ HO386 BK391); (case side2 => exact (Kd.S_reads' HO386.out).2.1); (case side3 => exact rR1_ HO389 BK391); (case side4 => exact (Kd.R_reads' HO389.out).2.1); (case side5 => exact rS1_ HO361 BK391); (case side6 => exact (Kd.S_reads' HO361.out).2.1); (case side7 => exact rR1_ HO364 BK391); (case side8 => exact (Kd.R_reads' HO364.out).2.1); rintro e w109 ⟨rfl, hb⟩; refine ⟨_, rfl, ?_⟩; replace HO347 := as_ (Kd.S_below (iS1_ HO347 BK391) hb); replace HO350 := as_ (Kd.R_below (iR1_ HO350 BK391) hb); replace HO354 := as_ (Kd.S_below (iS1_ HO354 BK391) hb); replace HO357 := as_ (Kd.R_below (iR1_ HO357 BK391) hb); replace HO361 := as_ (Kd.S_below (iS1_ HO361 BK391) hb); replace HO364 := as_ (Kd.R_below (iR1_ HO364 BK391) hb); replace HO370 := as_ (Kd.S_below (iS1_ HO370 BK391) hb); replace HO373 := as_ (Kd.R_below (iR1_ HO373 BK391) hb); replace HO378 := as_ (Kd.S_below (iS1_ HO378 BK391) hb); replace HO381 := as_ (Kd.R_below (iR1_ HO381 BK391) hb); replace HO386 := as_ (Kd.S_below (iS1_ HO386 BK391) hb); replace HO389 := as_ (Kd.R_below (iR1_ HO389 BK391) hb); replace BK340 := as_ (blk_below (bf_ BK340 NB340_391) hb); replace BK341 := as_ (blk_below (bf_ BK341 NB341_391) hb); replace BK366 := as_ (blk_below (bf_ BK366 NB366_391) hb); replace BK374 := as_ (blk_below (bf_ BK374 NB374_391) hb); replace BK382 := as_ (blk_below (bf_ BK382 NB382_391) hb); replace BK391 := as_ (blk_below (g := gb391) (o := .cells #[.int .i64 t383, .slice Ao82 t384.length co82, .slice Ao83 t387.length co83] 29 (0, 0)) (bp_ BK391) hb); replace HB := as_ (below_step (b6_ HB GE340 GE341 GE366 GE374 GE382 GE391) hb); clear hb))
    go_meet
    case rel => exact ⟨_, (true), rf_, H', ⟨by first | omega | exact Nat.le_refl _⟩, ⟨fS_ HO361⟩, ⟨fR_ HO364⟩, ⟨fS_ HO370⟩, ⟨fR_ HO373⟩, ⟨fS_ HO378⟩, ⟨fR_ HO381⟩, ⟨fS_ HO386⟩, ⟨fR_ HO389⟩, ⟨bk_ BK340⟩, ⟨bk_ BK341⟩, ⟨bk_ BK366⟩, ⟨bk_ BK374⟩, ⟨bk_ BK382⟩, ⟨bk_ BK391⟩, ⟨b6_ HB GE340 GE341 GE366 GE374 GE382 GE391⟩⟩
  case rest => as_aux_lemma =>
    clear HC26
    (try clear c1); (try clear p2); (try clear c4); (try clear c5); (try clear c6); (try clear c7); (try clear c8); (try clear c9); (try clear c10); (try clear c11); (try clear c49); (try clear c54); (try clear c55); (try clear c56); (try clear c60); (try clear c65); (try clear c66); (try clear c67); (try clear c68); (try clear c76); (try clear c77); (try clear c78); (try clear c79); (try clear c80); (try clear c85); (try clear c86); (try clear c87); (try clear c88); (try clear c89); (try clear c90); (try clear c92); (try clear c93); (try clear c94); (try clear c95); (try clear c98); (try clear c99); (try clear c100); (try clear c101); (try clear c102); (try clear c104); (try clear c105); (try clear c106); (try clear c107); (try clear hcz103_0); (try clear hcz103_1); (try clear hcz103_2); (try clear hcz108_0); (try clear hcz108_1); (try clear hcz108_2); (try clear hcz50_0); (try clear hcz50_1); (try clear hcz50_2); (try clear hcz57_0); (try clear hcz57_1); (try clear hcz57_2); (try clear hcz61_0); (try clear hcz61_1); (try clear hcz61_2); (try clear hcz69_0); (try clear hcz69_1); (try clear hcz69_2); (try clear hcz72_0); (try clear hcz72_1); (try clear hcz72_2); (try clear hcz81_0); (try clear hcz81_1); (try clear hcz81_2); (try clear hcz91_0); (try clear hcz91_1); (try clear hcz91_2); (try clear hcz96_0); (try clear hcz96_1); (try clear hcz96_2); (try clear hfz103_0); (try clear hfz103_1); (try clear hfz103_2); (try clear hfz108_0); (try clear hfz108_1); (try clear hfz108_2); (try clear hfz50_0); (try clear hfz50_1); (try clear hfz50_2); (try clear hfz57_0); (try clear hfz57_1); (try clear hfz57_2); (try clear hfz61_0); (try clear hfz61_1); (try clear hfz61_2); (try clear hfz69_0); (try clear hfz69_1); (try clear hfz69_2); (try clear hfz72_0); (try clear hfz72_1); (try clear hfz72_2); (try clear hfz81_0); (try clear hfz81_1); (try clear hfz81_2); (try clear hfz91_0); (try clear hfz91_1); (try clear hfz91_2); (try clear hfz96_0); (try clear hfz96_1); (try clear hfz96_2)
    obtain ⟨kq, x57_25, rfl, HA, HJ25, HO_367001, HO_367002, HO_375001, HO_375002, HO_383001, HO_383002, HO_392001, HO_392002, BK340, BK341, BK366, BK374, BK382, BK391, HB⟩ := hcut
    cases kq with
    | zero => exact absurd HA.out (by simp [laws_FnExactCombineAutomata.j0])
    | succ kj25 =>
      have H := HA.out
      clear HA
      simp only [laws_FnExactCombineAutomata.j0] at H
      by_cases c110 : x57_25 = true
      · subst c110
        replace H := it_ H
        obtain rfl := Option.some.inj H
        go_wp2
        go_ret
        exact ⟨re_, b6_ HB GE340 GE341 GE366 GE374 GE382 GE391⟩
      replace c110 := Bool.eq_false_iff.mpr c110
      subst c110
      replace H := if_ H
      obtain ⟨⟨t393, t394, t397⟩, A111, H⟩ := bo_ H
      dsimp only at H
      obtain ⟨t400, A112, H⟩ := bo_ H
      by_cases c113 : t400 = true
      rotate_left
      · replace c113 := Bool.eq_false_iff.mpr c113
        subst c113
        replace H := if_ H
        obtain rfl := Option.some.inj H
        try go_wp2
        replace HO_367001 := dS_ HO_367001; replace HO_367002 := dR_ HO_367002; replace HO_375001 := dS_ HO_375001; replace HO_375002 := dR_ HO_375002; replace HO_383001 := dS_ HO_383001; replace HO_383002 := dR_ HO_383002; replace HO_392001 := dS_ HO_392001; replace HO_392002 := dR_ HO_392002; replace BK340 := dk_ BK340; replace BK341 := dk_ BK341; replace BK366 := dk_ BK366; replace BK374 := dk_ BK374; replace BK382 := dk_ BK382; replace BK391 := dk_ BK391; replace HB := db_ HB
        refine start_ (n := 5) (S := fun w' => w'.cell? ⟨gb374, 0, none⟩ = some (.int .i64 t367) ∧ w'.cell? ⟨gb374, 1, none⟩ = some (.slice Ao58 t368.length co58) ∧ w'.cell? ⟨gb374, 2, none⟩ = some (.slice Ao59 t371.length co59) ∧ w'.cell? ⟨gb340, 0, none⟩ = some (.int .i64 a0_0) ∧ w'.cell? ⟨gb340, 1, none⟩ = some (.slice A0_1 l0_1.length c0_1) ∧ w'.cell? ⟨gb340, 2, none⟩ = some (.slice A0_2 l0_2.length c0_2)) (ds := []) #[false, false, false, false, false] (by kernel_rfl) rfl rfl (tz3_ BK374 (ty3_ BK340)) (fun hHeld => ?_)
        generalize wc.drew = w294 at HO_367001 HO_367002 HO_375001 HO_375002 HO_383001 HO_383002 HO_392001 HO_392002 BK340 BK341 BK366 BK374 BK382 BK391 HB hHeld ⊢
        refine take_ (i := 0) (N := some 58) (v := ?_) (a' := ?_) #[true, false, false, false, false] rfl rfl (by kernel_rfl) (fun _ _ _ h => h) (Or.inl ⟨by rfl, ?_⟩) hHeld ?_ ?_
        rotate_left
        · rintro w' ⟨s0, s1, s2, s3, s4, s5⟩
          go_simp
          with_reducible rfl
        rotate_left
        · simp only [Act.put, List.setIfInBounds_toArray, List.set_cons_zero, List.set_cons_succ, i64_w, i32_w]
          rfl
        refine take_ (i := 1) (N := some 59) (v := ?_) (a' := ?_) #[true, true, false, false, false] rfl rfl (by kernel_rfl) (fun _ _ _ h => h) (Or.inl ⟨by rfl, ?_⟩) hHeld ?_ ?_
        rotate_left
        · rintro w' ⟨s0, s1, s2, s3, s4, s5⟩
          go_simp
          with_reducible rfl
        rotate_left
        · simp only [Act.put, List.setIfInBounds_toArray, List.set_cons_zero, List.set_cons_succ, i64_w, i32_w]
          rfl
        refine one_ (i := 2) (N := some 60) #[true, true, true, false, false] rfl rfl (by kernel_rfl) (by decide) (fun K hK => ?_)
        refine gR_ Try.func7 #[.agg #[.int .i64 a0_0, .slice A0_1 l0_1.length c0_1, .slice A0_2 l0_2.length c0_2]] ?_
        with_reducible refine (laws_toAutomaton.calls kj25 a0_0 _ _ l0_1 _ _ l0_2 t393 t394 t397 _ ?side1 ?side2 ?side3 ?side4 A111.out).mono ?_
        (case side1 => exact bC_ HR0_1 HB)
        (case side2 => exact HC0_1.out)
        (case side3 => exact bC_ HR0_2 HB)
        (case side4 => exact HC0_2.out)
        rintro e w295 ⟨v395, v398, rfl, ho0, ho1, hb⟩
        refine ⟨_, rfl, ?_⟩
        have HO396 := as_ (Kd.S_lower (nSR_ (nSS_ (nSR_ (nSS_ (nSR_ (nSS_ (nSR_ (nSS_ ho0 HO_367001) HO_367002) HO_375001) HO_375002) HO_383001) HO_383002) HO_392001) HO_392002) (below_size (b6_ HB GE340 GE341 GE366 GE374 GE382 GE391))); replace HO_367001 := so2_ (bS_ HO_367001) hb (Kd.S_base ho0) (Kd.R_base ho1); replace HO_375001 := so2_ (bS_ HO_375001) hb (Kd.S_base ho0) (Kd.R_base ho1); replace HO_383001 := so2_ (bS_ HO_383001) hb (Kd.S_base ho0) (Kd.R_base ho1); replace HO_392001 := so2_ (bS_ HO_392001) hb (Kd.S_base ho0) (Kd.R_base ho1); have HO399 := as_ (Kd.R_lower (nRR_ (nRR_ (nRR_ (nRR_ ho1 HO_367002) HO_375002) HO_383002) HO_392002) (below_size (b6_ HB GE340 GE341 GE366 GE374 GE382 GE391))); replace HO_367002 := eR_ HO_367002 (Kd.R_base ho1) hb; replace HO_375002 := eR_ HO_375002 (Kd.R_base ho1) hb; replace HO_383002 := eR_ HO_383002 (Kd.R_base ho1) hb; replace HO_392002 := eR_ HO_392002 (Kd.R_base ho1) hb; replace BK340 := kb_ BK340 hb; replace BK341 := kb_ BK341 hb; replace BK366 := kb_ BK366 hb; replace BK374 := kb_ BK374 hb; replace BK382 := kb_ BK382 hb; replace BK391 := kb_ BK391 hb; replace HB := as_ (below_step (b6_ HB GE340 GE341 GE366 GE374 GE382 GE391) hb)
        clear hb ho0 ho1
        obtain ⟨Ao296, co296, eo296⟩ := Kd.S_slice HO396.out
        (first | subst eo296 | (injection eo296 with f1_ f2_ f3_; have f4_ := f1_.symm; have f5_ := f3_.symm; clear f1_ f2_ f3_; subst f4_; subst f5_))
        obtain ⟨Ao297, co297, eo297⟩ := Kd.R_slice HO399.out
        (first | subst eo297 | (injection eo297 with f1_ f2_ f3_; have f4_ := f1_.symm; have f5_ := f3_.symm; clear f1_ f2_ f3_; subst f4_; subst f5_))
        refine hK.out _ _ (tz3_ BK374 (ty3_ BK340)) (fun hHeld => ?_)
        clear hK K
        refine nm_ 60 ?_
        refine one_ (i := 3) (N := some 61) #[true, true, true, true, false] rfl rfl (by kernel_rfl) (by decide) (fun K hK => ?_)
        refine gR_ Try.func9 #[.agg #[.int .i64 t367, .slice Ao58 t368.length co58, .slice Ao59 t371.length co59], .agg #[.int .i64 t393, .slice Ao296 t394.length co296, .slice Ao297 t397.length co297]] ?_
        with_reducible refine (laws_eqAutomaton.calls kj25 t367 _ _ t368 _ _ t371 t393 _ _ t394 _ _ t397 false _ ?side1 ?side2 ?side3 ?side4 ?side5 ?side6 ?side7 ?side8 A112.out).mono ?_
        (case side1 => exact cC_ (Kd.S_reads' HO_375001.out).2.2)
        (case side2 => exact (Kd.S_reads' HO_375001.out).2.1)
        (case side3 => exact cC_ (Kd.R_reads' HO_375002.out).2.2)
        (case side4 => exact (Kd.R_reads' HO_375002.out).2.1)
        (case side5 => exact cC_ (Kd.S_reads' HO396.out).2.2)
        (case side6 => exact (Kd.S_reads' HO396.out).2.1)
        (case side7 => exact cC_ (Kd.R_reads' HO399.out).2.2)
        (case side8 => exact (Kd.R_reads' HO399.out).2.1)
        rintro e w298 ⟨rfl, hb⟩
        refine ⟨_, rfl, ?_⟩
        replace HO_367001 := sb_ HO_367001 hb; replace HO_367002 := rb_ HO_367002 hb; replace HO_375001 := sb_ HO_375001 hb; replace HO_375002 := rb_ HO_375002 hb; replace HO_383001 := sb_ HO_383001 hb; replace HO_383002 := rb_ HO_383002 hb; replace HO_392001 := sb_ HO_392001 hb; replace HO_392002 := rb_ HO_392002 hb; replace HO396 := sb_ HO396 hb; replace HO399 := rb_ HO399 hb; replace BK340 := kb_ BK340 hb; replace BK341 := kb_ BK341 hb; replace BK366 := kb_ BK366 hb; replace BK374 := kb_ BK374 hb; replace BK382 := kb_ BK382 hb; replace BK391 := kb_ BK391 hb; replace HB := as_ (below_step (b6_ HB GE340 GE341 GE366 GE374 GE382 GE391) hb)
        clear hb
        refine hK.out _ _ (tz3_ BK374 (ty3_ BK340)) (fun hHeld => ?_)
        clear hK K
        refine nm_ 61 ?_
        refine pure_ (i := 4) (N := some 62) (v := ?_) (a' := ?_) #[true, true, true, true, true] rfl rfl (by kernel_rfl) (fun _ _ _ h => h) (Or.inl ⟨by rfl, ?_⟩) ?_ ?_
        rotate_left
        · intro w'
          go_simp
          with_reducible rfl
        rotate_left
        · simp only [Act.put, List.setIfInBounds_toArray, List.set_cons_zero, List.set_cons_succ, i64_w, i32_w]
          rfl
        refine done_ (by kernel_rfl) ?_
        try go_wp2
        go_ret
        exact ⟨re_, b6_ HB GE340 GE341 GE366 GE374 GE382 GE391⟩
      subst c113
      replace H := it_ H
      obtain ⟨⟨t401, t402, t405⟩, A114, H⟩ := bo_ H
      dsimp only at H
      obtain ⟨t408, A115, H⟩ := bo_ H
      by_cases c116 : t408 = true
      rotate_left
      · replace c116 := Bool.eq_false_iff.mpr c116
        subst c116
        replace H := if_ H
        obtain rfl := Option.some.inj H
        try go_wp2
        replace HO_367001 := dS_ HO_367001; replace HO_367002 := dR_ HO_367002; replace HO_375001 := dS_ HO_375001; replace HO_375002 := dR_ HO_375002; replace HO_383001 := dS_ HO_383001; replace HO_383002 := dR_ HO_383002; replace HO_392001 := dS_ HO_392001; replace HO_392002 := dR_ HO_392002; replace BK340 := dk_ BK340; replace BK341 := dk_ BK341; replace BK366 := dk_ BK366; replace BK374 := dk_ BK374; replace BK382 := dk_ BK382; replace BK391 := dk_ BK391; replace HB := db_ HB
        refine start_ (n := 5) (S := fun w' => w'.cell? ⟨gb374, 0, none⟩ = some (.int .i64 t367) ∧ w'.cell? ⟨gb374, 1, none⟩ = some (.slice Ao58 t368.length co58) ∧ w'.cell? ⟨gb374, 2, none⟩ = some (.slice Ao59 t371.length co59) ∧ w'.cell? ⟨gb340, 0, none⟩ = some (.int .i64 a0_0) ∧ w'.cell? ⟨gb340, 1, none⟩ = some (.slice A0_1 l0_1.length c0_1) ∧ w'.cell? ⟨gb340, 2, none⟩ = some (.slice A0_2 l0_2.length c0_2)) (ds := []) #[false, false, false, false, false] (by kernel_rfl) rfl rfl (tz3_ BK374 (ty3_ BK340)) (fun hHeld => ?_)
        generalize wc.drew = w284 at HO_367001 HO_367002 HO_375001 HO_375002 HO_383001 HO_383002 HO_392001 HO_392002 BK340 BK341 BK366 BK374 BK382 BK391 HB hHeld ⊢
        refine take_ (i := 0) (N := some 58) (v := ?_) (a' := ?_) #[true, false, false, false, false] rfl rfl (by kernel_rfl) (fun _ _ _ h => h) (Or.inl ⟨by rfl, ?_⟩) hHeld ?_ ?_
        rotate_left
        · rintro w' ⟨s0, s1, s2, s3, s4, s5⟩
          go_simp
          with_reducible rfl
        rotate_left
        · simp only [Act.put, List.setIfInBounds_toArray, List.set_cons_zero, List.set_cons_succ, i64_w, i32_w]
          rfl
        refine take_ (i := 1) (N := some 59) (v := ?_) (a' := ?_) #[true, true, false, false, false] rfl rfl (by kernel_rfl) (fun _ _ _ h => h) (Or.inl ⟨by rfl, ?_⟩) hHeld ?_ ?_
        rotate_left
        · rintro w' ⟨s0, s1, s2, s3, s4, s5⟩
          go_simp
          with_reducible rfl
        rotate_left
        · simp only [Act.put, List.setIfInBounds_toArray, List.set_cons_zero, List.set_cons_succ, i64_w, i32_w]
          rfl
        refine one_ (i := 2) (N := some 60) #[true, true, true, false, false] rfl rfl (by kernel_rfl) (by decide) (fun K hK => ?_)
        refine gR_ Try.func7 #[.agg #[.int .i64 a0_0, .slice A0_1 l0_1.length c0_1, .slice A0_2 l0_2.length c0_2]] ?_
        with_reducible refine (laws_toAutomaton.calls kj25 a0_0 _ _ l0_1 _ _ l0_2 t393 t394 t397 _ ?side1 ?side2 ?side3 ?side4 A111.out).mono ?_
        (case side1 => exact bC_ HR0_1 HB)
        (case side2 => exact HC0_1.out)
        (case side3 => exact bC_ HR0_2 HB)
        (case side4 => exact HC0_2.out)
        rintro e w285 ⟨v395, v398, rfl, ho0, ho1, hb⟩
        refine ⟨_, rfl, ?_⟩
        have HO396 := as_ (Kd.S_lower (nSR_ (nSS_ (nSR_ (nSS_ (nSR_ (nSS_ (nSR_ (nSS_ ho0 HO_367001) HO_367002) HO_375001) HO_375002) HO_383001) HO_383002) HO_392001) HO_392002) (below_size (b6_ HB GE340 GE341 GE366 GE374 GE382 GE391))); replace HO_367001 := so2_ (bS_ HO_367001) hb (Kd.S_base ho0) (Kd.R_base ho1); replace HO_375001 := so2_ (bS_ HO_375001) hb (Kd.S_base ho0) (Kd.R_base ho1); replace HO_383001 := so2_ (bS_ HO_383001) hb (Kd.S_base ho0) (Kd.R_base ho1); replace HO_392001 := so2_ (bS_ HO_392001) hb (Kd.S_base ho0) (Kd.R_base ho1); have HO399 := as_ (Kd.R_lower (nRR_ (nRR_ (nRR_ (nRR_ ho1 HO_367002) HO_375002) HO_383002) HO_392002) (below_size (b6_ HB GE340 GE341 GE366 GE374 GE382 GE391))); replace HO_367002 := eR_ HO_367002 (Kd.R_base ho1) hb; replace HO_375002 := eR_ HO_375002 (Kd.R_base ho1) hb; replace HO_383002 := eR_ HO_383002 (Kd.R_base ho1) hb; replace HO_392002 := eR_ HO_392002 (Kd.R_base ho1) hb; replace BK340 := kb_ BK340 hb; replace BK341 := kb_ BK341 hb; replace BK366 := kb_ BK366 hb; replace BK374 := kb_ BK374 hb; replace BK382 := kb_ BK382 hb; replace BK391 := kb_ BK391 hb; replace HB := as_ (below_step (b6_ HB GE340 GE341 GE366 GE374 GE382 GE391) hb)
        clear hb ho0 ho1
        obtain ⟨Ao286, co286, eo286⟩ := Kd.S_slice HO396.out
        (first | subst eo286 | (injection eo286 with f1_ f2_ f3_; have f4_ := f1_.symm; have f5_ := f3_.symm; clear f1_ f2_ f3_; subst f4_; subst f5_))
        obtain ⟨Ao287, co287, eo287⟩ := Kd.R_slice HO399.out
        (first | subst eo287 | (injection eo287 with f1_ f2_ f3_; have f4_ := f1_.symm; have f5_ := f3_.symm; clear f1_ f2_ f3_; subst f4_; subst f5_))
        refine hK.out _ _ (tz3_ BK374 (ty3_ BK340)) (fun hHeld => ?_)
        clear hK K
        refine nm_ 60 ?_
        refine one_ (i := 3) (N := some 61) #[true, true, true, true, false] rfl rfl (by kernel_rfl) (by decide) (fun K hK => ?_)
        refine gR_ Try.func9 #[.agg #[.int .i64 t367, .slice Ao58 t368.length co58, .slice Ao59 t371.length co59], .agg #[.int .i64 t393, .slice Ao286 t394.length co286, .slice Ao287 t397.length co287]] ?_
        with_reducible refine (laws_eqAutomaton.calls kj25 t367 _ _ t368 _ _ t371 t393 _ _ t394 _ _ t397 true _ ?side1 ?side2 ?side3 ?side4 ?side5 ?side6 ?side7 ?side8 A112.out).mono ?_
        (case side1 => exact cC_ (Kd.S_reads' HO_375001.out).2.2)
        (case side2 => exact (Kd.S_reads' HO_375001.out).2.1)
        (case side3 => exact cC_ (Kd.R_reads' HO_375002.out).2.2)
        (case side4 => exact (Kd.R_reads' HO_375002.out).2.1)
        (case side5 => exact cC_ (Kd.S_reads' HO396.out).2.2)
        (case side6 => exact (Kd.S_reads' HO396.out).2.1)
        (case side7 => exact cC_ (Kd.R_reads' HO399.out).2.2)
        (case side8 => exact (Kd.R_reads' HO399.out).2.1)
        rintro e w288 ⟨rfl, hb⟩
        refine ⟨_, rfl, ?_⟩
        replace HO_367001 := sb_ HO_367001 hb; replace HO_367002 := rb_ HO_367002 hb; replace HO_375001 := sb_ HO_375001 hb; replace HO_375002 := rb_ HO_375002 hb; replace HO_383001 := sb_ HO_383001 hb; replace HO_383002 := rb_ HO_383002 hb; replace HO_392001 := sb_ HO_392001 hb; replace HO_392002 := rb_ HO_392002 hb; replace HO396 := sb_ HO396 hb; replace HO399 := rb_ HO399 hb; replace BK340 := kb_ BK340 hb; replace BK341 := kb_ BK341 hb; replace BK366 := kb_ BK366 hb; replace BK374 := kb_ BK374 hb; replace BK382 := kb_ BK382 hb; replace BK391 := kb_ BK391 hb; replace HB := as_ (below_step (b6_ HB GE340 GE341 GE366 GE374 GE382 GE391) hb)
        clear hb
        refine hK.out _ _ (tz3_ BK374 (ty3_ BK340)) (fun hHeld => ?_)
        clear hK K
        refine nm_ 61 ?_
        refine pure_ (i := 4) (N := some 62) (v := ?_) (a' := ?_) #[true, true, true, true, true] rfl rfl (by kernel_rfl) (fun _ _ _ h => h) (Or.inl ⟨by rfl, ?_⟩) ?_ ?_
        rotate_left
        · intro w'
          go_simp
          with_reducible rfl
        rotate_left
        · simp only [Act.put, List.setIfInBounds_toArray, List.set_cons_zero, List.set_cons_succ, i64_w, i32_w]
          rfl
        refine done_ (by kernel_rfl) ?_
        try go_wp2
        replace HO_367001 := dS_ HO_367001; replace HO_367002 := dR_ HO_367002; replace HO_375001 := dS_ HO_375001; replace HO_375002 := dR_ HO_375002; replace HO_383001 := dS_ HO_383001; replace HO_383002 := dR_ HO_383002; replace HO_392001 := dS_ HO_392001; replace HO_392002 := dR_ HO_392002; replace HO396 := dS_ HO396; replace HO399 := dR_ HO399; replace BK340 := dk_ BK340; replace BK341 := dk_ BK341; replace BK366 := dk_ BK366; replace BK374 := dk_ BK374; replace BK382 := dk_ BK382; replace BK391 := dk_ BK391; replace HB := db_ HB
        refine start_ (n := 5) (S := fun w' => w'.cell? ⟨gb382, 0, none⟩ = some (.int .i64 t375) ∧ w'.cell? ⟨gb382, 1, none⟩ = some (.slice Ao70 t376.length co70) ∧ w'.cell? ⟨gb382, 2, none⟩ = some (.slice Ao71 t379.length co71) ∧ w'.cell? ⟨gb341, 0, none⟩ = some (.int .i64 a1_0) ∧ w'.cell? ⟨gb341, 1, none⟩ = some (.slice A1_1 l1_1.length c1_1) ∧ w'.cell? ⟨gb341, 2, none⟩ = some (.slice A1_2 l1_2.length c1_2)) (ds := []) #[false, false, false, false, false] (by kernel_rfl) rfl rfl (tz3_ BK382 (ty3_ BK341)) (fun hHeld => ?_)
        generalize w288.drew = w289 at HO_367001 HO_367002 HO_375001 HO_375002 HO_383001 HO_383002 HO_392001 HO_392002 HO396 HO399 BK340 BK341 BK366 BK374 BK382 BK391 HB hHeld ⊢
        refine take_ (i := 0) (N := some 63) (v := ?_) (a' := ?_) #[true, false, false, false, false] rfl rfl (by kernel_rfl) (fun _ _ _ h => h) (Or.inl ⟨by rfl, ?_⟩) hHeld ?_ ?_
        rotate_left
        · rintro w' ⟨s0, s1, s2, s3, s4, s5⟩
          go_simp
          with_reducible rfl
        rotate_left
        · simp only [Act.put, List.setIfInBounds_toArray, List.set_cons_zero, List.set_cons_succ, i64_w, i32_w]
          rfl
        refine take_ (i := 1) (N := some 64) (v := ?_) (a' := ?_) #[true, true, false, false, false] rfl rfl (by kernel_rfl) (fun _ _ _ h => h) (Or.inl ⟨by rfl, ?_⟩) hHeld ?_ ?_
        rotate_left
        · rintro w' ⟨s0, s1, s2, s3, s4, s5⟩
          go_simp
          with_reducible rfl
        rotate_left
        · simp only [Act.put, List.setIfInBounds_toArray, List.set_cons_zero, List.set_cons_succ, i64_w, i32_w]
          rfl
        refine one_ (i := 2) (N := some 65) #[true, true, true, false, false] rfl rfl (by kernel_rfl) (by decide) (fun K hK => ?_)
        refine gR_ Try.func7 #[.agg #[.int .i64 a1_0, .slice A1_1 l1_1.length c1_1, .slice A1_2 l1_2.length c1_2]] ?_
        with_reducible refine (laws_toAutomaton.calls kj25 a1_0 _ _ l1_1 _ _ l1_2 t401 t402 t405 _ ?side1 ?side2 ?side3 ?side4 A114.out).mono ?_
        (case side1 => exact bC_ HR1_1 HB)
        (case side2 => exact HC1_1.out)
        (case side3 => exact bC_ HR1_2 HB)
        (case side4 => exact HC1_2.out)
        rintro e w290 ⟨v403, v406, rfl, ho0, ho1, hb⟩
        refine ⟨_, rfl, ?_⟩
        have HO404 := as_ (Kd.S_lower (nSR_ (nSS_ (nSR_ (nSS_ (nSR_ (nSS_ (nSR_ (nSS_ (nSR_ (nSS_ ho0 HO_367001) HO_367002) HO_375001) HO_375002) HO_383001) HO_383002) HO_392001) HO_392002) HO396) HO399) (below_size (b6_ HB GE340 GE341 GE366 GE374 GE382 GE391))); replace HO_367001 := so2_ (bS_ HO_367001) hb (Kd.S_base ho0) (Kd.R_base ho1); replace HO_375001 := so2_ (bS_ HO_375001) hb (Kd.S_base ho0) (Kd.R_base ho1); replace HO_383001 := so2_ (bS_ HO_383001) hb (Kd.S_base ho0) (Kd.R_base ho1); replace HO_392001 := so2_ (bS_ HO_392001) hb (Kd.S_base ho0) (Kd.R_base ho1); replace HO396 := so2_ (bS_ HO396) hb (Kd.S_base ho0) (Kd.R_base ho1); have HO407 := as_ (Kd.R_lower (nRR_ (nRR_ (nRR_ (nRR_ (nRR_ ho1 HO_367002) HO_375002) HO_383002) HO_392002) HO399) (below_size (b6_ HB GE340 GE341 GE366 GE374 GE382 GE391))); replace HO_367002 := eR_ HO_367002 (Kd.R_base ho1) hb; replace HO_375002 := eR_ HO_375002 (Kd.R_base ho1) hb; replace HO_383002 := eR_ HO_383002 (Kd.R_base ho1) hb; replace HO_392002 := eR_ HO_392002 (Kd.R_base ho1) hb; replace HO399 := eR_ HO399 (Kd.R_base ho1) hb; replace BK340 := kb_ BK340 hb; replace BK341 := kb_ BK341 hb; replace BK366 := kb_ BK366 hb; replace BK374 := kb_ BK374 hb; replace BK382 := kb_ BK382 hb; replace BK391 := kb_ BK391 hb; replace HB := as_ (below_step (b6_ HB GE340 GE341 GE366 GE374 GE382 GE391) hb)
        clear hb ho0 ho1
        obtain ⟨Ao291, co291, eo291⟩ := Kd.S_slice HO404.out
        (first | subst eo291 | (injection eo291 with f1_ f2_ f3_; have f4_ := f1_.symm; have f5_ := f3_.symm; clear f1_ f2_ f3_; subst f4_; subst f5_))
        obtain ⟨Ao292, co292, eo292⟩ := Kd.R_slice HO407.out
        (first | subst eo292 | (injection eo292 with f1_ f2_ f3_; have f4_ := f1_.symm; have f5_ := f3_.symm; clear f1_ f2_ f3_; subst f4_; subst f5_))
        refine hK.out _ _ (tz3_ BK382 (ty3_ BK341)) (fun hHeld => ?_)
        clear hK K
        refine nm_ 65 ?_
        refine one_ (i := 3) (N := some 66) #[true, true, true, true, false] rfl rfl (by kernel_rfl) (by decide) (fun K hK => ?_)
        refine gR_ Try.func9 #[.agg #[.int .i64 t375, .slice Ao70 t376.length co70, .slice Ao71 t379.length co71], .agg #[.int .i64 t401, .slice Ao291 t402.length co291, .slice Ao292 t405.length co292]] ?_
        with_reducible refine (laws_eqAutomaton.calls kj25 t375 _ _ t376 _ _ t379 t401 _ _ t402 _ _ t405 false _ ?side1 ?side2 ?side3 ?side4 ?side5 ?side6 ?side7 ?side8 A115.out).mono ?_
        (case side1 => exact cC_ (Kd.S_reads' HO_383001.out).2.2)
        (case side2 => exact (Kd.S_reads' HO_383001.out).2.1)
        (case side3 => exact cC_ (Kd.R_reads' HO_383002.out).2.2)
        (case side4 => exact (Kd.R_reads' HO_383002.out).2.1)
        (case side5 => exact cC_ (Kd.S_reads' HO404.out).2.2)
        (case side6 => exact (Kd.S_reads' HO404.out).2.1)
        (case side7 => exact cC_ (Kd.R_reads' HO407.out).2.2)
        (case side8 => exact (Kd.R_reads' HO407.out).2.1)
        rintro e w293 ⟨rfl, hb⟩
        refine ⟨_, rfl, ?_⟩
        replace HO_367001 := sb_ HO_367001 hb; replace HO_367002 := rb_ HO_367002 hb; replace HO_375001 := sb_ HO_375001 hb; replace HO_375002 := rb_ HO_375002 hb; replace HO_383001 := sb_ HO_383001 hb; replace HO_383002 := rb_ HO_383002 hb; replace HO_392001 := sb_ HO_392001 hb; replace HO_392002 := rb_ HO_392002 hb; replace HO396 := sb_ HO396 hb; replace HO399 := rb_ HO399 hb; replace HO404 := sb_ HO404 hb; replace HO407 := rb_ HO407 hb; replace BK340 := kb_ BK340 hb; replace BK341 := kb_ BK341 hb; replace BK366 := kb_ BK366 hb; replace BK374 := kb_ BK374 hb; replace BK382 := kb_ BK382 hb; replace BK391 := kb_ BK391 hb; replace HB := as_ (below_step (b6_ HB GE340 GE341 GE366 GE374 GE382 GE391) hb)
        clear hb
        refine hK.out _ _ (tz3_ BK382 (ty3_ BK341)) (fun hHeld => ?_)
        clear hK K
        refine nm_ 66 ?_
        refine pure_ (i := 4) (N := some 67) (v := ?_) (a' := ?_) #[true, true, true, true, true] rfl rfl (by kernel_rfl) (fun _ _ _ h => h) (Or.inl ⟨by rfl, ?_⟩) ?_ ?_
        rotate_left
        · intro w'
          go_simp
          with_reducible rfl
        rotate_left
        · simp only [Act.put, List.setIfInBounds_toArray, List.set_cons_zero, List.set_cons_succ, i64_w, i32_w]
          rfl
        refine done_ (by kernel_rfl) ?_
        try go_wp2
        go_ret
        exact ⟨re_, b6_ HB GE340 GE341 GE366 GE374 GE382 GE391⟩
      subst c116
      replace H := it_ H
      obtain ⟨⟨t409, t410, t411⟩, A117, H⟩ := bo_ H
      dsimp only at H
      obtain ⟨⟨t412, t413, t414⟩, A118, H⟩ := bo_ H
      dsimp only at H
      have HC119 := as_ H
      clear H
      try go_wp2
      replace HO_367001 := dS_ HO_367001; replace HO_367002 := dR_ HO_367002; replace HO_375001 := dS_ HO_375001; replace HO_375002 := dR_ HO_375002; replace HO_383001 := dS_ HO_383001; replace HO_383002 := dR_ HO_383002; replace HO_392001 := dS_ HO_392001; replace HO_392002 := dR_ HO_392002; replace BK340 := dk_ BK340; replace BK341 := dk_ BK341; replace BK366 := dk_ BK366; replace BK374 := dk_ BK374; replace BK382 := dk_ BK382; replace BK391 := dk_ BK391; replace HB := db_ HB
      refine start_ (n := 5) (S := fun w' => w'.cell? ⟨gb374, 0, none⟩ = some (.int .i64 t367) ∧ w'.cell? ⟨gb374, 1, none⟩ = some (.slice Ao58 t368.length co58) ∧ w'.cell? ⟨gb374, 2, none⟩ = some (.slice Ao59 t371.length co59) ∧ w'.cell? ⟨gb340, 0, none⟩ = some (.int .i64 a0_0) ∧ w'.cell? ⟨gb340, 1, none⟩ = some (.slice A0_1 l0_1.length c0_1) ∧ w'.cell? ⟨gb340, 2, none⟩ = some (.slice A0_2 l0_2.length c0_2)) (ds := []) #[false, false, false, false, false] (by kernel_rfl) rfl rfl (tz3_ BK374 (ty3_ BK340)) (fun hHeld => ?_)
      generalize wc.drew = w120 at HO_367001 HO_367002 HO_375001 HO_375002 HO_383001 HO_383002 HO_392001 HO_392002 BK340 BK341 BK366 BK374 BK382 BK391 HB hHeld ⊢
      refine take_ (i := 0) (N := some 58) (v := ?_) (a' := ?_) #[true, false, false, false, false] rfl rfl (by kernel_rfl) (fun _ _ _ h => h) (Or.inl ⟨by rfl, ?_⟩) hHeld ?_ ?_
      rotate_left
      · rintro w' ⟨s0, s1, s2, s3, s4, s5⟩
        go_simp
        with_reducible rfl
      rotate_left
      · simp only [Act.put, List.setIfInBounds_toArray, List.set_cons_zero, List.set_cons_succ, i64_w, i32_w]
        rfl
      refine take_ (i := 1) (N := some 59) (v := ?_) (a' := ?_) #[true, true, false, false, false] rfl rfl (by kernel_rfl) (fun _ _ _ h => h) (Or.inl ⟨by rfl, ?_⟩) hHeld ?_ ?_
      rotate_left
      · rintro w' ⟨s0, s1, s2, s3, s4, s5⟩
        go_simp
        with_reducible rfl
      rotate_left
      · simp only [Act.put, List.setIfInBounds_toArray, List.set_cons_zero, List.set_cons_succ, i64_w, i32_w]
        rfl
      refine one_ (i := 2) (N := some 60) #[true, true, true, false, false] rfl rfl (by kernel_rfl) (by decide) (fun K hK => ?_)
      refine gR_ Try.func7 #[.agg #[.int .i64 a0_0, .slice A0_1 l0_1.length c0_1, .slice A0_2 l0_2.length c0_2]] ?_
      with_reducible refine (laws_toAutomaton.calls kj25 a0_0 _ _ l0_1 _ _ l0_2 t393 t394 t397 _ ?side1 ?side2 ?side3 ?side4 A111.out).mono ?_
      (case side1 => exact bC_ HR0_1 HB)
      (case side2 => exact HC0_1.out)
      (case side3 => exact bC_ HR0_2 HB)
      (case side4 => exact HC0_2.out)
      rintro e w121 ⟨v395, v398, rfl, ho0, ho1, hb⟩
      refine ⟨_, rfl, ?_⟩
      have HO396 := as_ (Kd.S_lower (nSR_ (nSS_ (nSR_ (nSS_ (nSR_ (nSS_ (nSR_ (nSS_ ho0 HO_367001) HO_367002) HO_375001) HO_375002) HO_383001) HO_383002) HO_392001) HO_392002) (below_size (b6_ HB GE340 GE341 GE366 GE374 GE382 GE391))); replace HO_367001 := so2_ (bS_ HO_367001) hb (Kd.S_base ho0) (Kd.R_base ho1); replace HO_375001 := so2_ (bS_ HO_375001) hb (Kd.S_base ho0) (Kd.R_base ho1); replace HO_383001 := so2_ (bS_ HO_383001) hb (Kd.S_base ho0) (Kd.R_base ho1); replace HO_392001 := so2_ (bS_ HO_392001) hb (Kd.S_base ho0) (Kd.R_base ho1); have HO399 := as_ (Kd.R_lower (nRR_ (nRR_ (nRR_ (nRR_ ho1 HO_367002) HO_375002) HO_383002) HO_392002) (below_size (b6_ HB GE340 GE341 GE366 GE374 GE382 GE391))); replace HO_367002 := eR_ HO_367002 (Kd.R_base ho1) hb; replace HO_375002 := eR_ HO_375002 (Kd.R_base ho1) hb; replace HO_383002 := eR_ HO_383002 (Kd.R_base ho1) hb; replace HO_392002 := eR_ HO_392002 (Kd.R_base ho1) hb; replace BK340 := kb_ BK340 hb; replace BK341 := kb_ BK341 hb; replace BK366 := kb_ BK366 hb; replace BK374 := kb_ BK374 hb; replace BK382 := kb_ BK382 hb; replace BK391 := kb_ BK391 hb; replace HB := as_ (below_step (b6_ HB GE340 GE341 GE366 GE374 GE382 GE391) hb)
      clear hb ho0 ho1
      obtain ⟨Ao122, co122, eo122⟩ := Kd.S_slice HO396.out
      (first | subst eo122 | (injection eo122 with f1_ f2_ f3_; have f4_ := f1_.symm; have f5_ := f3_.symm; clear f1_ f2_ f3_; subst f4_; subst f5_))
      obtain ⟨Ao123, co123, eo123⟩ := Kd.R_slice HO399.out
      (first | subst eo123 | (injection eo123 with f1_ f2_ f3_; have f4_ := f1_.symm; have f5_ := f3_.symm; clear f1_ f2_ f3_; subst f4_; subst f5_))
      refine hK.out _ _ (tz3_ BK374 (ty3_ BK340)) (fun hHeld => ?_)
      clear hK K
      refine nm_ 60 ?_
      refine one_ (i := 3) (N := some 61) #[true, true, true, true, false] rfl rfl (by kernel_rfl) (by decide) (fun K hK => ?_)
      refine gR_ Try.func9 #[.agg #[.int .i64 t367, .slice Ao58 t368.length co58, .slice Ao59 t371.length co59], .agg #[.int .i64 t393, .slice Ao122 t394.length co122, .slice Ao123 t397.length co123]] ?_
      with_reducible refine (laws_eqAutomaton.calls kj25 t367 _ _ t368 _ _ t371 t393 _ _ t394 _ _ t397 true _ ?side1 ?side2 ?side3 ?side4 ?side5 ?side6 ?side7 ?side8 A112.out).mono ?_
      (case side1 => exact cC_ (Kd.S_reads' HO_375001.out).2.2)
      (case side2 => exact (Kd.S_reads' HO_375001.out).2.1)
      (case side3 => exact cC_ (Kd.R_reads' HO_375002.out).2.2)
      (case side4 => exact (Kd.R_reads' HO_375002.out).2.1)
      (case side5 => exact cC_ (Kd.S_reads' HO396.out).2.2)
      (case side6 => exact (Kd.S_reads' HO396.out).2.1)
      (case side7 => exact cC_ (Kd.R_reads' HO399.out).2.2)
      (case side8 => exact (Kd.R_reads' HO399.out).2.1)
      rintro e w124 ⟨rfl, hb⟩
      refine ⟨_, rfl, ?_⟩
      replace HO_367001 := sb_ HO_367001 hb; replace HO_367002 := rb_ HO_367002 hb; replace HO_375001 := sb_ HO_375001 hb; replace HO_375002 := rb_ HO_375002 hb; replace HO_383001 := sb_ HO_383001 hb; replace HO_383002 := rb_ HO_383002 hb; replace HO_392001 := sb_ HO_392001 hb; replace HO_392002 := rb_ HO_392002 hb; replace HO396 := sb_ HO396 hb; replace HO399 := rb_ HO399 hb; replace BK340 := kb_ BK340 hb; replace BK341 := kb_ BK341 hb; replace BK366 := kb_ BK366 hb; replace BK374 := kb_ BK374 hb; replace BK382 := kb_ BK382 hb; replace BK391 := kb_ BK391 hb; replace HB := as_ (below_step (b6_ HB GE340 GE341 GE366 GE374 GE382 GE391) hb)
      clear hb
      refine hK.out _ _ (tz3_ BK374 (ty3_ BK340)) (fun hHeld => ?_)
      clear hK K
      refine nm_ 61 ?_
      refine pure_ (i := 4) (N := some 62) (v := ?_) (a' := ?_) #[true, true, true, true, true] rfl rfl (by kernel_rfl) (fun _ _ _ h => h) (Or.inl ⟨by rfl, ?_⟩) ?_ ?_
      rotate_left
      · intro w'
        go_simp
        with_reducible rfl
      rotate_left
      · simp only [Act.put, List.setIfInBounds_toArray, List.set_cons_zero, List.set_cons_succ, i64_w, i32_w]
        rfl
      refine done_ (by kernel_rfl) ?_
      try go_wp2
      replace HO_367001 := dS_ HO_367001; replace HO_367002 := dR_ HO_367002; replace HO_375001 := dS_ HO_375001; replace HO_375002 := dR_ HO_375002; replace HO_383001 := dS_ HO_383001; replace HO_383002 := dR_ HO_383002; replace HO_392001 := dS_ HO_392001; replace HO_392002 := dR_ HO_392002; replace HO396 := dS_ HO396; replace HO399 := dR_ HO399; replace BK340 := dk_ BK340; replace BK341 := dk_ BK341; replace BK366 := dk_ BK366; replace BK374 := dk_ BK374; replace BK382 := dk_ BK382; replace BK391 := dk_ BK391; replace HB := db_ HB
      refine start_ (n := 5) (S := fun w' => w'.cell? ⟨gb382, 0, none⟩ = some (.int .i64 t375) ∧ w'.cell? ⟨gb382, 1, none⟩ = some (.slice Ao70 t376.length co70) ∧ w'.cell? ⟨gb382, 2, none⟩ = some (.slice Ao71 t379.length co71) ∧ w'.cell? ⟨gb341, 0, none⟩ = some (.int .i64 a1_0) ∧ w'.cell? ⟨gb341, 1, none⟩ = some (.slice A1_1 l1_1.length c1_1) ∧ w'.cell? ⟨gb341, 2, none⟩ = some (.slice A1_2 l1_2.length c1_2)) (ds := []) #[false, false, false, false, false] (by kernel_rfl) rfl rfl (tz3_ BK382 (ty3_ BK341)) (fun hHeld => ?_)
      generalize w124.drew = w125 at HO_367001 HO_367002 HO_375001 HO_375002 HO_383001 HO_383002 HO_392001 HO_392002 HO396 HO399 BK340 BK341 BK366 BK374 BK382 BK391 HB hHeld ⊢
      refine take_ (i := 0) (N := some 63) (v := ?_) (a' := ?_) #[true, false, false, false, false] rfl rfl (by kernel_rfl) (fun _ _ _ h => h) (Or.inl ⟨by rfl, ?_⟩) hHeld ?_ ?_
      rotate_left
      · rintro w' ⟨s0, s1, s2, s3, s4, s5⟩
        go_simp
        with_reducible rfl
      rotate_left
      · simp only [Act.put, List.setIfInBounds_toArray, List.set_cons_zero, List.set_cons_succ, i64_w, i32_w]
        rfl
      refine take_ (i := 1) (N := some 64) (v := ?_) (a' := ?_) #[true, true, false, false, false] rfl rfl (by kernel_rfl) (fun _ _ _ h => h) (Or.inl ⟨by rfl, ?_⟩) hHeld ?_ ?_
      rotate_left
      · rintro w' ⟨s0, s1, s2, s3, s4, s5⟩
        go_simp
        with_reducible rfl
      rotate_left
      · simp only [Act.put, List.setIfInBounds_toArray, List.set_cons_zero, List.set_cons_succ, i64_w, i32_w]
        rfl
      refine one_ (i := 2) (N := some 65) #[true, true, true, false, false] rfl rfl (by kernel_rfl) (by decide) (fun K hK => ?_)
      refine gR_ Try.func7 #[.agg #[.int .i64 a1_0, .slice A1_1 l1_1.length c1_1, .slice A1_2 l1_2.length c1_2]] ?_
      with_reducible refine (laws_toAutomaton.calls kj25 a1_0 _ _ l1_1 _ _ l1_2 t401 t402 t405 _ ?side1 ?side2 ?side3 ?side4 A114.out).mono ?_
      (case side1 => exact bC_ HR1_1 HB)
      (case side2 => exact HC1_1.out)
      (case side3 => exact bC_ HR1_2 HB)
      (case side4 => exact HC1_2.out)
      rintro e w126 ⟨v403, v406, rfl, ho0, ho1, hb⟩
      refine ⟨_, rfl, ?_⟩
      have HO404 := as_ (Kd.S_lower (nSR_ (nSS_ (nSR_ (nSS_ (nSR_ (nSS_ (nSR_ (nSS_ (nSR_ (nSS_ ho0 HO_367001) HO_367002) HO_375001) HO_375002) HO_383001) HO_383002) HO_392001) HO_392002) HO396) HO399) (below_size (b6_ HB GE340 GE341 GE366 GE374 GE382 GE391))); replace HO_367001 := so2_ (bS_ HO_367001) hb (Kd.S_base ho0) (Kd.R_base ho1); replace HO_375001 := so2_ (bS_ HO_375001) hb (Kd.S_base ho0) (Kd.R_base ho1); replace HO_383001 := so2_ (bS_ HO_383001) hb (Kd.S_base ho0) (Kd.R_base ho1); replace HO_392001 := so2_ (bS_ HO_392001) hb (Kd.S_base ho0) (Kd.R_base ho1); replace HO396 := so2_ (bS_ HO396) hb (Kd.S_base ho0) (Kd.R_base ho1); have HO407 := as_ (Kd.R_lower (nRR_ (nRR_ (nRR_ (nRR_ (nRR_ ho1 HO_367002) HO_375002) HO_383002) HO_392002) HO399) (below_size (b6_ HB GE340 GE341 GE366 GE374 GE382 GE391))); replace HO_367002 := eR_ HO_367002 (Kd.R_base ho1) hb; replace HO_375002 := eR_ HO_375002 (Kd.R_base ho1) hb; replace HO_383002 := eR_ HO_383002 (Kd.R_base ho1) hb; replace HO_392002 := eR_ HO_392002 (Kd.R_base ho1) hb; replace HO399 := eR_ HO399 (Kd.R_base ho1) hb; replace BK340 := kb_ BK340 hb; replace BK341 := kb_ BK341 hb; replace BK366 := kb_ BK366 hb; replace BK374 := kb_ BK374 hb; replace BK382 := kb_ BK382 hb; replace BK391 := kb_ BK391 hb; replace HB := as_ (below_step (b6_ HB GE340 GE341 GE366 GE374 GE382 GE391) hb)
      clear hb ho0 ho1
      obtain ⟨Ao127, co127, eo127⟩ := Kd.S_slice HO404.out
      (first | subst eo127 | (injection eo127 with f1_ f2_ f3_; have f4_ := f1_.symm; have f5_ := f3_.symm; clear f1_ f2_ f3_; subst f4_; subst f5_))
      obtain ⟨Ao128, co128, eo128⟩ := Kd.R_slice HO407.out
      (first | subst eo128 | (injection eo128 with f1_ f2_ f3_; have f4_ := f1_.symm; have f5_ := f3_.symm; clear f1_ f2_ f3_; subst f4_; subst f5_))
      refine hK.out _ _ (tz3_ BK382 (ty3_ BK341)) (fun hHeld => ?_)
      clear hK K
      refine nm_ 65 ?_
      refine one_ (i := 3) (N := some 66) #[true, true, true, true, false] rfl rfl (by kernel_rfl) (by decide) (fun K hK => ?_)
      refine gR_ Try.func9 #[.agg #[.int .i64 t375, .slice Ao70 t376.length co70, .slice Ao71 t379.length co71], .agg #[.int .i64 t401, .slice Ao127 t402.length co127, .slice Ao128 t405.length co128]] ?_
      with_reducible refine (laws_eqAutomaton.calls kj25 t375 _ _ t376 _ _ t379 t401 _ _ t402 _ _ t405 true _ ?side1 ?side2 ?side3 ?side4 ?side5 ?side6 ?side7 ?side8 A115.out).mono ?_
      (case side1 => exact cC_ (Kd.S_reads' HO_383001.out).2.2)
      (case side2 => exact (Kd.S_reads' HO_383001.out).2.1)
      (case side3 => exact cC_ (Kd.R_reads' HO_383002.out).2.2)
      (case side4 => exact (Kd.R_reads' HO_383002.out).2.1)
      (case side5 => exact cC_ (Kd.S_reads' HO404.out).2.2)
      (case side6 => exact (Kd.S_reads' HO404.out).2.1)
      (case side7 => exact cC_ (Kd.R_reads' HO407.out).2.2)
      (case side8 => exact (Kd.R_reads' HO407.out).2.1)
      rintro e w129 ⟨rfl, hb⟩
      refine ⟨_, rfl, ?_⟩
      replace HO_367001 := sb_ HO_367001 hb; replace HO_367002 := rb_ HO_367002 hb; replace HO_375001 := sb_ HO_375001 hb; replace HO_375002 := rb_ HO_375002 hb; replace HO_383001 := sb_ HO_383001 hb; replace HO_383002 := rb_ HO_383002 hb; replace HO_392001 := sb_ HO_392001 hb; replace HO_392002 := rb_ HO_392002 hb; replace HO396 := sb_ HO396 hb; replace HO399 := rb_ HO399 hb; replace HO404 := sb_ HO404 hb; replace HO407 := rb_ HO407 hb; replace BK340 := kb_ BK340 hb; replace BK341 := kb_ BK341 hb; replace BK366 := kb_ BK366 hb; replace BK374 := kb_ BK374 hb; replace BK382 := kb_ BK382 hb; replace BK391 := kb_ BK391 hb; replace HB := as_ (below_step (b6_ HB GE340 GE341 GE366 GE374 GE382 GE391) hb)
      clear hb
      refine hK.out _ _ (tz3_ BK382 (ty3_ BK341)) (fun hHeld => ?_)
      clear hK K
      refine nm_ 66 ?_
      refine pure_ (i := 4) (N := some 67) (v := ?_) (a' := ?_) #[true, true, true, true, true] rfl rfl (by kernel_rfl) (fun _ _ _ h => h) (Or.inl ⟨by rfl, ?_⟩) ?_ ?_
      rotate_left
      · intro w'
        go_simp
        with_reducible rfl
      rotate_left
      · simp only [Act.put, List.setIfInBounds_toArray, List.set_cons_zero, List.set_cons_succ, i64_w, i32_w]
        rfl
      refine done_ (by kernel_rfl) ?_
      have hnb130 := NB374_340.out
      have hnc130 := NB340_374.out
      have hnb131 := NB374_341.out
      have hnc131 := NB341_374.out
      have hnb132 := NB374_366.out
      have hnc132 := NB366_374.out
      have hnb133 := NB374_382.out
      have hnc133 := NB382_374.out
      have hnb134 := NB374_391.out
      have hnc134 := NB391_374.out
      obtain ⟨hcz135_0, hfz135_0, hcz135_1, hfz135_1, hcz135_2, hfz135_2⟩ := tc3_ BK374
      go_upto_region 21 with (first | ((with_reducible refine gate_callee (f := 12) rfl ?_); refine gL_ 70 Try.func12 #[.agg #[.int .i64 t367, .slice Ao58 t368.length co58, .slice Ao59 t371.length co59], .int .i64 1] ?_; obtain ⟨PS136, hPS136, kPS136⟩ := S_open (HO_375001.out); (with_reducible refine (laws_markAutomaton.calls kj25 t367 PS136 (.slice Ao58 t368.length co58) t368 (fun k_ => some k_ = (.slice Ao59 t371.length co59 : Value).ownBlock) (.slice Ao59 t371.length co59) t371 1 t409 t410 t411 w _ ?side1 ?side2 ?side3 ?side4 A117.out).mono ?_); (case side1 => repeat (first | (with_reducible first | exact HB.out | apply below_alloc | apply pw_below_drewN | apply below_drew1 | refine below_set ?_ GE340.out | refine below_set ?_ GE341.out | refine below_set ?_ GE366.out | refine below_set ?_ GE374.out | refine below_set ?_ GE382.out | refine below_set ?_ GE391.out) | exact HB.out)); (case side2 => exact kPS136); (case side3 => exact fun k_ e_ e2_ => ((hPS136 k_ e_).1.1.1.1.1.2.2.1) e2_); (case side4 => exact Kd.R_tight rfl HO_375002.out); rintro e w137 ⟨rfl, hy0, hy1, hb, hkp⟩; refine ⟨_, rfl, ?_⟩; replace HO_367001 := as_ (Kd.S_mono (ok' := fun k_ => some k_ ≠ (.slice Ao47 t362.length co47 : Value).ownBlock ∧ some k_ ≠ (.slice Ao58 t368.length co58 : Value).ownBlock ∧ some k_ ≠ (.slice Ao59 t371.length co59 : Value).ownBlock ∧ some k_ ≠ (.slice Ao70 t376.length co70 : Value).ownBlock ∧ some k_ ≠ (.slice Ao71 t379.length co71 : Value).ownBlock ∧ some k_ ≠ (.slice Ao82 t384.length co82 : Value).ownBlock ∧ some k_ ≠ (.slice Ao83 t387.length co83 : Value).ownBlock ∧ some k_ ≠ (.slice Ao123 t397.length co123 : Value).ownBlock ∧ some k_ ≠ (.slice Ao128 t405.length co128 : Value).ownBlock ∧ k_ ≠ lt_ N52 k_ ∧ k_ ≠ lt_ N63 k_ ∧ k_ ≠ lt_ N74 k_) (Kd.S_keptB ((S_awayP (P := PS136) HO_367001.out (fun k_ h_ e_ => no_lap (h_.1.1.1.1.2.2.2.2.2.2.2.1) ((hPS136 k_ e_).1.1.1.1.1.2.2.2.2.2.2.2.1)))) hkp (fun k_ hk_ hs_ => Or.elim hs_ (fun e_ => (hk_.2) e_) (fun e_ => (hk_.1.1.1.1.1.2.2.1) e_))) (fun k_ hk_ => ⟨hk_.1.1.1.1.1.1.1, hk_.1.1.1.1.1.1.2.1, hk_.1.1.1.1.1.1.2.2.1, hk_.1.1.1.1.1.1.2.2.2.1, hk_.1.1.1.1.1.1.2.2.2.2.1, hk_.1.1.1.1.1.1.2.2.2.2.2.1, hk_.1.1.1.1.1.1.2.2.2.2.2.2.1, hk_.1.1.1.1.2, hk_.1.1.2, hk_.1.1.1.1.1.1.2.2.2.2.2.2.2.1, hk_.1.1.1.1.1.1.2.2.2.2.2.2.2.2.1, hk_.1.1.1.1.1.1.2.2.2.2.2.2.2.2.2⟩)); replace HO_367002 := as_ (Kd.R_mono (ok' := fun k_ => some k_ ≠ (.slice Ao59 t371.length co59 : Value).ownBlock ∧ some k_ ≠ (.slice Ao71 t379.length co71 : Value).ownBlock ∧ some k_ ≠ (.slice Ao83 t387.length co83 : Value).ownBlock ∧ some k_ ≠ (.slice Ao123 t397.length co123 : Value).ownBlock ∧ some k_ ≠ (.slice Ao128 t405.length co128 : Value).ownBlock) (Kd.R_keptB ((R_awayS (P := PS136) rfl HO_367002.out (fun k_ e_ => (hPS136 k_ e_).1.1.1.1.1.2.1))) hkp (fun k_ hk_ hs_ => Or.elim hs_ (fun e_ => (hk_.2) e_) (fun e_ => (hk_.1.1.1.1) e_))) (fun k_ hk_ => ⟨hk_.1.1.1.1.1, hk_.1.1.1.1.2.1, hk_.1.1.1.1.2.2, hk_.1.1.1.2, hk_.1.1.2⟩)); replace HO_375001 := as_ (Kd.S_mono hy0 (fun k_ e_ => (hPS136 k_ e_).1)); replace HO_383001 := as_ (Kd.S_mono (ok' := fun k_ => some k_ ≠ (.slice Ao45 t359.length co45 : Value).ownBlock ∧ some k_ ≠ (.slice Ao47 t362.length co47 : Value).ownBlock ∧ some k_ ≠ (.slice Ao58 t368.length co58 : Value).ownBlock ∧ some k_ ≠ (.slice Ao59 t371.length co59 : Value).ownBlock ∧ some k_ ≠ (.slice Ao71 t379.length co71 : Value).ownBlock ∧ some k_ ≠ (.slice Ao82 t384.length co82 : Value).ownBlock ∧ some k_ ≠ (.slice Ao83 t387.length co83 : Value).ownBlock ∧ some k_ ≠ (.slice Ao123 t397.length co123 : Value).ownBlock ∧ some k_ ≠ (.slice Ao128 t405.length co128 : Value).ownBlock ∧ k_ ≠ ge_ N63 k_ ∧ k_ ≠ lt_ N74 k_) (Kd.S_keptB ((S_awayP (P := PS136) HO_383001.out (fun k_ h_ e_ => no_lap ((hPS136 k_ e_).1.1.1.1.1.2.2.2.2.2.2.2.2.1) (h_.1.1.1.1.2.2.2.2.2.2.2.1)))) hkp (fun k_ hk_ hs_ => Or.elim hs_ (fun e_ => (hk_.2) e_) (fun e_ => (hk_.1.1.1.1.1.2.2.2.1) e_))) (fun k_ hk_ => ⟨hk_.1.1.1.1.1.1.1, hk_.1.1.1.1.1.1.2.1, hk_.1.1.1.1.1.1.2.2.1, hk_.1.1.1.1.1.1.2.2.2.1, hk_.1.1.1.1.1.1.2.2.2.2.1, hk_.1.1.1.1.1.1.2.2.2.2.2.1, hk_.1.1.1.1.1.1.2.2.2.2.2.2.1, hk_.1.1.1.1.2, hk_.1.1.2, hk_.1.1.1.1.1.1.2.2.2.2.2.2.2.1, hk_.1.1.1.1.1.1.2.2.2.2.2.2.2.2⟩)); replace HO_383002 := as_ (Kd.R_mono (ok' := fun k_ => some k_ ≠ (.slice Ao47 t362.length co47 : Value).ownBlock ∧ some k_ ≠ (.slice Ao59 t371.length co59 : Value).ownBlock ∧ some k_ ≠ (.slice Ao83 t387.length co83 : Value).ownBlock ∧ some k_ ≠ (.slice Ao123 t397.length co123 : Value).ownBlock ∧ some k_ ≠ (.slice Ao128 t405.length co128 : Value).ownBlock) (Kd.R_keptB ((R_awayS (P := PS136) rfl HO_383002.out (fun k_ e_ => (hPS136 k_ e_).1.1.1.1.1.2.2.2.2.1))) hkp (fun k_ hk_ hs_ => Or.elim hs_ (fun e_ => (hk_.2) e_) (fun e_ => (hk_.1.1.1.2.1) e_))) (fun k_ hk_ => ⟨hk_.1.1.1.1.1, hk_.1.1.1.1.2.1, hk_.1.1.1.1.2.2, hk_.1.1.1.2, hk_.1.1.2⟩)); replace HO_392001 := as_ (Kd.S_mono (ok' := fun k_ => some k_ ≠ (.slice Ao45 t359.length co45 : Value).ownBlock ∧ some k_ ≠ (.slice Ao47 t362.length co47 : Value).ownBlock ∧ some k_ ≠ (.slice Ao58 t368.length co58 : Value).ownBlock ∧ some k_ ≠ (.slice Ao59 t371.length co59 : Value).ownBlock ∧ some k_ ≠ (.slice Ao70 t376.length co70 : Value).ownBlock ∧ some k_ ≠ (.slice Ao71 t379.length co71 : Value).ownBlock ∧ some k_ ≠ (.slice Ao83 t387.length co83 : Value).ownBlock ∧ some k_ ≠ (.slice Ao123 t397.length co123 : Value).ownBlock ∧ some k_ ≠ (.slice Ao128 t405.length co128 : Value).ownBlock ∧ k_ ≠ ge_ N74 k_) (Kd.S_keptB ((S_awayP (P := PS136) HO_392001.out (fun k_ h_ e_ => no_lap ((hPS136 k_ e_).1.1.1.1.1.2.2.2.2.2.2.2.2.2) (h_.1.1.1.1.2.2.2.2.2.2.2)))) hkp (fun k_ hk_ hs_ => Or.elim hs_ (fun e_ => (hk_.2) e_) (fun e_ => (hk_.1.1.1.1.1.2.2.2.1) e_))) (fun k_ hk_ => ⟨hk_.1.1.1.1.1.1.1, hk_.1.1.1.1.1.1.2.1, hk_.1.1.1.1.1.1.2.2.1, hk_.1.1.1.1.1.1.2.2.2.1, hk_.1.1.1.1.1.1.2.2.2.2.1, hk_.1.1.1.1.1.1.2.2.2.2.2.1, hk_.1.1.1.1.1.1.2.2.2.2.2.2.1, hk_.1.1.1.1.2, hk_.1.1.2, hk_.1.1.1.1.1.1.2.2.2.2.2.2.2⟩)); replace HO_392002 := as_ (Kd.R_mono (ok' := fun k_ => some k_ ≠ (.slice Ao47 t362.length co47 : Value).ownBlock ∧ some k_ ≠ (.slice Ao59 t371.length co59 : Value).ownBlock ∧ some k_ ≠ (.slice Ao71 t379.length co71 : Value).ownBlock ∧ some k_ ≠ (.slice Ao123 t397.length co123 : Value).ownBlock ∧ some k_ ≠ (.slice Ao128 t405.length co128 : Value).ownBlock) (Kd.R_keptB ((R_awayS (P := PS136) rfl HO_392002.out (fun k_ e_ => (hPS136 k_ e_).1.1.1.1.1.2.2.2.2.2.2.1))) hkp (fun k_ hk_ hs_ => Or.elim hs_ (fun e_ => (hk_.2) e_) (fun e_ => (hk_.1.1.1.2.1) e_))) (fun k_ hk_ => ⟨hk_.1.1.1.1.1, hk_.1.1.1.1.2.1, hk_.1.1.1.1.2.2, hk_.1.1.1.2, hk_.1.1.2⟩)); replace BK340 := as_ (blk_kept (bk_ BK340) hkp (fun hs_ => Or.elim hs_ (fun e_ => (fun e_ => (by first | exact far_S (hPS136 _ e_).2.2.2 BK340.out (by decide) | (have h_ := (hPS136 _ e_).1; simp at h_))) e_) (fun e_ => (fun e_ => (Kd.R_ne HO_375002.out BK340.out (by decide)) e_) e_))); replace BK341 := as_ (blk_kept (bk_ BK341) hkp (fun hs_ => Or.elim hs_ (fun e_ => (fun e_ => (by first | exact far_S (hPS136 _ e_).2.2.2 BK341.out (by decide) | (have h_ := (hPS136 _ e_).1; simp at h_))) e_) (fun e_ => (fun e_ => (Kd.R_ne HO_375002.out BK341.out (by decide)) e_) e_))); replace BK366 := as_ (blk_kept (bk_ BK366) hkp (fun hs_ => Or.elim hs_ (fun e_ => (fun e_ => (by first | exact far_S (hPS136 _ e_).2.2.2 BK366.out (by decide) | (have h_ := (hPS136 _ e_).1; simp at h_))) e_) (fun e_ => (fun e_ => (Kd.R_ne HO_375002.out BK366.out (by decide)) e_) e_))); replace BK374 := as_ (blk_kept (bk_ BK374) hkp (fun hs_ => Or.elim hs_ (fun e_ => (fun e_ => (by first | exact far_S (hPS136 _ e_).2.2.2 BK374.out (by decide) | (have h_ := (hPS136 _ e_).1; simp at h_))) e_) (fun e_ => (fun e_ => (Kd.R_ne HO_375002.out BK374.out (by decide)) e_) e_))); replace BK382 := as_ (blk_kept (bk_ BK382) hkp (fun hs_ => Or.elim hs_ (fun e_ => (fun e_ => (by first | exact far_S (hPS136 _ e_).2.2.2 BK382.out (by decide) | (have h_ := (hPS136 _ e_).1; simp at h_))) e_) (fun e_ => (fun e_ => (Kd.R_ne HO_375002.out BK382.out (by decide)) e_) e_))); replace BK391 := as_ (blk_kept (bk_ BK391) hkp (fun hs_ => Or.elim hs_ (fun e_ => (fun e_ => (by first | exact far_S (hPS136 _ e_).2.2.2 BK391.out (by decide) | (have h_ := (hPS136 _ e_).1; simp at h_))) e_) (fun e_ => (fun e_ => (Kd.R_ne HO_375002.out BK391.out (by decide)) e_) e_))); replace HO_375002 := as_ (Kd.R_reok rfl hy1 (fun k_ e_ => HO_375002.out.1 k_ e_)); replace HO399 := as_ (Kd.R_mono (ok' := fun k_ => some k_ ≠ (.slice Ao47 t362.length co47 : Value).ownBlock ∧ some k_ ≠ (.slice Ao59 t371.length co59 : Value).ownBlock ∧ some k_ ≠ (.slice Ao71 t379.length co71 : Value).ownBlock ∧ some k_ ≠ (.slice Ao83 t387.length co83 : Value).ownBlock ∧ some k_ ≠ (.slice Ao128 t405.length co128 : Value).ownBlock) (Kd.R_keptB ((R_awayS (P := PS136) rfl HO399.out (fun k_ e_ => (hPS136 k_ e_).1.1.1.2))) hkp (fun k_ hk_ hs_ => Or.elim hs_ (fun e_ => (hk_.2) e_) (fun e_ => (hk_.1.1.1.1.2) e_))) (fun k_ hk_ => ⟨hk_.1.1.1.1.1.1.2, hk_.1.1.1.1.1.2, hk_.1.1.1.1.2, hk_.1.1.1.2, hk_.1.1.2⟩)); replace HO407 := as_ (Kd.R_mono (ok' := fun k_ => some k_ ≠ (.slice Ao47 t362.length co47 : Value).ownBlock ∧ some k_ ≠ (.slice Ao59 t371.length co59 : Value).ownBlock ∧ some k_ ≠ (.slice Ao71 t379.length co71 : Value).ownBlock ∧ some k_ ≠ (.slice Ao83 t387.length co83 : Value).ownBlock ∧ some k_ ≠ (.slice Ao123 t397.length co123 : Value).ownBlock) (Kd.R_keptB ((R_awayS (P := PS136) rfl HO407.out (fun k_ e_ => (hPS136 k_ e_).1.2))) hkp (fun k_ hk_ hs_ => Or.elim hs_ (fun e_ => (hk_.2) e_) (fun e_ => (hk_.1.1.1.1.2) e_))) (fun k_ hk_ => ⟨hk_.1.1.1.1.1.1.2, hk_.1.1.1.1.1.2, hk_.1.1.1.1.2, hk_.1.1.1.2, hk_.1.1.2⟩)); replace HB := as_ (hb); clear HO396 HO404; (try clear hb); (try clear hkp); (try clear hy0); (try clear hy1); (try clear hPS136 kPS136); have hnb138 := NB382_340.out; have hnc138 := NB340_382.out; have hnb139 := NB382_341.out; have hnc139 := NB341_382.out; have hnb140 := NB382_366.out; have hnc140 := NB366_382.out; have hnb141 := NB382_391.out; have hnc141 := NB391_382.out; obtain ⟨hcz142_0, hfz142_0, hcz142_1, hfz142_1, hcz142_2, hfz142_2⟩ := tc3_ BK382) | ((with_reducible refine gate_callee (f := 12) rfl ?_); refine gL_ 73 Try.func12 #[.agg #[.int .i64 t375, .slice Ao70 t376.length co70, .slice Ao71 t379.length co71], .int .i64 t409] ?_; obtain ⟨PS143, hPS143, kPS143⟩ := S_open (HO_383001.out); (with_reducible refine (laws_markAutomaton.calls kj25 t375 PS143 (.slice Ao70 t376.length co70) t376 (fun k_ => some k_ = (.slice Ao71 t379.length co71 : Value).ownBlock) (.slice Ao71 t379.length co71) t379 t409 t412 t413 t414 w _ ?side1 ?side2 ?side3 ?side4 A118.out).mono ?_); (case side1 => repeat (first | (with_reducible first | exact HB.out | apply below_alloc | apply pw_below_drewN | apply below_drew1 | refine below_set ?_ GE340.out | refine below_set ?_ GE341.out | refine below_set ?_ GE366.out | refine below_set ?_ GE374.out | refine below_set ?_ GE382.out | refine below_set ?_ GE391.out) | exact HB.out)); (case side2 => exact kPS143); (case side3 => exact fun k_ e_ e2_ => ((hPS143 k_ e_).1.2.2.2.2.1) e2_); (case side4 => exact Kd.R_tight rfl HO_383002.out); rintro e w144 ⟨rfl, hy0, hy1, hb, hkp⟩; refine ⟨_, rfl, ?_⟩; replace HO_367001 := as_ (Kd.S_mono (ok' := fun k_ => some k_ ≠ (.slice Ao47 t362.length co47 : Value).ownBlock ∧ some k_ ≠ (.slice Ao58 t368.length co58 : Value).ownBlock ∧ some k_ ≠ (.slice Ao59 t371.length co59 : Value).ownBlock ∧ some k_ ≠ (.slice Ao70 t376.length co70 : Value).ownBlock ∧ some k_ ≠ (.slice Ao71 t379.length co71 : Value).ownBlock ∧ some k_ ≠ (.slice Ao82 t384.length co82 : Value).ownBlock ∧ some k_ ≠ (.slice Ao83 t387.length co83 : Value).ownBlock ∧ some k_ ≠ (.slice Ao123 t397.length co123 : Value).ownBlock ∧ some k_ ≠ (.slice Ao128 t405.length co128 : Value).ownBlock ∧ k_ ≠ lt_ N52 k_ ∧ k_ ≠ lt_ N63 k_ ∧ k_ ≠ lt_ N74 k_) (Kd.S_keptB ((S_awayP (P := PS143) HO_367001.out (fun k_ h_ e_ => no_lap (h_.2.2.2.2.2.2.2.2.2.2.1) ((hPS143 k_ e_).1.2.2.2.2.2.2.2.2.2.1)))) hkp (fun k_ hk_ hs_ => Or.elim hs_ (fun e_ => (hk_.2) e_) (fun e_ => (hk_.1.2.2.2.2.1) e_))) (fun k_ hk_ => ⟨hk_.1.1.1, hk_.1.1.2.1, hk_.1.1.2.2.1, hk_.1.1.2.2.2.1, hk_.1.1.2.2.2.2.1, hk_.1.1.2.2.2.2.2.1, hk_.1.1.2.2.2.2.2.2.1, hk_.1.1.2.2.2.2.2.2.2.1, hk_.1.1.2.2.2.2.2.2.2.2.1, hk_.1.1.2.2.2.2.2.2.2.2.2.1, hk_.1.1.2.2.2.2.2.2.2.2.2.2.1, hk_.1.1.2.2.2.2.2.2.2.2.2.2.2⟩)); replace HO_367002 := as_ (Kd.R_mono (ok' := fun k_ => some k_ ≠ (.slice Ao59 t371.length co59 : Value).ownBlock ∧ some k_ ≠ (.slice Ao71 t379.length co71 : Value).ownBlock ∧ some k_ ≠ (.slice Ao83 t387.length co83 : Value).ownBlock ∧ some k_ ≠ (.slice Ao123 t397.length co123 : Value).ownBlock ∧ some k_ ≠ (.slice Ao128 t405.length co128 : Value).ownBlock) (Kd.R_keptB ((R_awayS (P := PS143) rfl HO_367002.out (fun k_ e_ => (hPS143 k_ e_).1.2.1))) hkp (fun k_ hk_ hs_ => Or.elim hs_ (fun e_ => (hk_.2) e_) (fun e_ => (hk_.1.2.1) e_))) (fun k_ hk_ => ⟨hk_.1.1.1, hk_.1.1.2.1, hk_.1.1.2.2.1, hk_.1.1.2.2.2.1, hk_.1.1.2.2.2.2⟩)); replace HO_375001 := as_ (Kd.S_mono (ok' := fun k_ => some k_ ≠ (.slice Ao45 t359.length co45 : Value).ownBlock ∧ some k_ ≠ (.slice Ao47 t362.length co47 : Value).ownBlock ∧ some k_ ≠ (.slice Ao59 t371.length co59 : Value).ownBlock ∧ some k_ ≠ (.slice Ao70 t376.length co70 : Value).ownBlock ∧ some k_ ≠ (.slice Ao71 t379.length co71 : Value).ownBlock ∧ some k_ ≠ (.slice Ao82 t384.length co82 : Value).ownBlock ∧ some k_ ≠ (.slice Ao83 t387.length co83 : Value).ownBlock ∧ some k_ ≠ (.slice Ao123 t397.length co123 : Value).ownBlock ∧ some k_ ≠ (.slice Ao128 t405.length co128 : Value).ownBlock ∧ k_ ≠ ge_ N52 k_ ∧ k_ ≠ lt_ N63 k_ ∧ k_ ≠ lt_ N74 k_) (Kd.S_keptB ((S_awayP (P := PS143) HO_375001.out (fun k_ h_ e_ => no_lap (h_.1.1.1.1.2.2.2.2.2.2.2.2.1) ((hPS143 k_ e_).1.2.2.2.2.2.2.2.2.2.1)))) hkp (fun k_ hk_ hs_ => Or.elim hs_ (fun e_ => (hk_.2) e_) (fun e_ => (hk_.1.1.1.1.1.2.2.2.2.1) e_))) (fun k_ hk_ => ⟨hk_.1.1.1.1.1.1.1, hk_.1.1.1.1.1.1.2.1, hk_.1.1.1.1.1.1.2.2.1, hk_.1.1.1.1.1.1.2.2.2.1, hk_.1.1.1.1.1.1.2.2.2.2.1, hk_.1.1.1.1.1.1.2.2.2.2.2.1, hk_.1.1.1.1.1.1.2.2.2.2.2.2.1, hk_.1.1.1.1.2, hk_.1.1.2, hk_.1.1.1.1.1.1.2.2.2.2.2.2.2.1, hk_.1.1.1.1.1.1.2.2.2.2.2.2.2.2.1, hk_.1.1.1.1.1.1.2.2.2.2.2.2.2.2.2⟩)); replace HO_375002 := as_ (Kd.R_mono (ok' := fun k_ => some k_ ≠ (.slice Ao47 t362.length co47 : Value).ownBlock ∧ some k_ ≠ (.slice Ao71 t379.length co71 : Value).ownBlock ∧ some k_ ≠ (.slice Ao83 t387.length co83 : Value).ownBlock ∧ some k_ ≠ (.slice Ao123 t397.length co123 : Value).ownBlock ∧ some k_ ≠ (.slice Ao128 t405.length co128 : Value).ownBlock) (Kd.R_keptB ((R_awayS (P := PS143) rfl HO_375002.out (fun k_ e_ => (hPS143 k_ e_).1.2.2.2.1))) hkp (fun k_ hk_ hs_ => Or.elim hs_ (fun e_ => (hk_.2) e_) (fun e_ => (hk_.1.1.1.2.1) e_))) (fun k_ hk_ => ⟨hk_.1.1.1.1.1, hk_.1.1.1.1.2.1, hk_.1.1.1.1.2.2, hk_.1.1.1.2, hk_.1.1.2⟩)); replace HO_383001 := as_ (Kd.S_mono hy0 (fun k_ e_ => (hPS143 k_ e_).1)); replace HO_392001 := as_ (Kd.S_mono (ok' := fun k_ => some k_ ≠ (.slice Ao45 t359.length co45 : Value).ownBlock ∧ some k_ ≠ (.slice Ao47 t362.length co47 : Value).ownBlock ∧ some k_ ≠ (.slice Ao58 t368.length co58 : Value).ownBlock ∧ some k_ ≠ (.slice Ao59 t371.length co59 : Value).ownBlock ∧ some k_ ≠ (.slice Ao70 t376.length co70 : Value).ownBlock ∧ some k_ ≠ (.slice Ao71 t379.length co71 : Value).ownBlock ∧ some k_ ≠ (.slice Ao83 t387.length co83 : Value).ownBlock ∧ some k_ ≠ (.slice Ao123 t397.length co123 : Value).ownBlock ∧ some k_ ≠ (.slice Ao128 t405.length co128 : Value).ownBlock ∧ k_ ≠ ge_ N74 k_) (Kd.S_keptB ((S_awayP (P := PS143) HO_392001.out (fun k_ h_ e_ => no_lap ((hPS143 k_ e_).1.2.2.2.2.2.2.2.2.2.2) (h_.2.2.2.2.2.2.2.2.2)))) hkp (fun k_ hk_ hs_ => Or.elim hs_ (fun e_ => (hk_.2) e_) (fun e_ => (hk_.1.2.2.2.2.2.1) e_))) (fun k_ hk_ => ⟨hk_.1.1.1, hk_.1.1.2.1, hk_.1.1.2.2.1, hk_.1.1.2.2.2.1, hk_.1.1.2.2.2.2.1, hk_.1.1.2.2.2.2.2.1, hk_.1.1.2.2.2.2.2.2.1, hk_.1.1.2.2.2.2.2.2.2.1, hk_.1.1.2.2.2.2.2.2.2.2.1, hk_.1.1.2.2.2.2.2.2.2.2.2⟩)); replace HO_392002 := as_ (Kd.R_mono (ok' := fun k_ => some k_ ≠ (.slice Ao47 t362.length co47 : Value).ownBlock ∧ some k_ ≠ (.slice Ao59 t371.length co59 : Value).ownBlock ∧ some k_ ≠ (.slice Ao71 t379.length co71 : Value).ownBlock ∧ some k_ ≠ (.slice Ao123 t397.length co123 : Value).ownBlock ∧ some k_ ≠ (.slice Ao128 t405.length co128 : Value).ownBlock) (Kd.R_keptB ((R_awayS (P := PS143) rfl HO_392002.out (fun k_ e_ => (hPS143 k_ e_).1.2.2.2.2.2.2.1))) hkp (fun k_ hk_ hs_ => Or.elim hs_ (fun e_ => (hk_.2) e_) (fun e_ => (hk_.1.2.2.1) e_))) (fun k_ hk_ => ⟨hk_.1.1.1, hk_.1.1.2.1, hk_.1.1.2.2.1, hk_.1.1.2.2.2.1, hk_.1.1.2.2.2.2⟩)); replace BK340 := as_ (blk_kept (bk_ BK340) hkp (fun hs_ => Or.elim hs_ (fun e_ => (fun e_ => (by first | exact far_S (hPS143 _ e_).2.2.2 BK340.out (by decide) | (have h_ := (hPS143 _ e_).1; simp at h_))) e_) (fun e_ => (fun e_ => (Kd.R_ne HO_383002.out BK340.out (by decide)) e_) e_))); replace BK341 := as_ (blk_kept (bk_ BK341) hkp (fun hs_ => Or.elim hs_ (fun e_ => (fun e_ => (by first | exact far_S (hPS143 _ e_).2.2.2 BK341.out (by decide) | (have h_ := (hPS143 _ e_).1; simp at h_))) e_) (fun e_ => (fun e_ => (Kd.R_ne HO_383002.out BK341.out (by decide)) e_) e_))); replace BK366 := as_ (blk_kept (bk_ BK366) hkp (fun hs_ => Or.elim hs_ (fun e_ => (fun e_ => (by first | exact far_S (hPS143 _ e_).2.2.2 BK366.out (by decide) | (have h_ := (hPS143 _ e_).1; simp at h_))) e_) (fun e_ => (fun e_ => (Kd.R_ne HO_383002.out BK366.out (by decide)) e_) e_))); replace BK374 := as_ (blk_kept (bk_ BK374) hkp (fun hs_ => Or.elim hs_ (fun e_ => (fun e_ => (by first | exact far_S (hPS143 _ e_).2.2.2 BK374.out (by decide) | (have h_ := (hPS143 _ e_).1; simp at h_))) e_) (fun e_ => (fun e_ => (Kd.R_ne HO_383002.out BK374.out (by decide)) e_) e_))); replace BK382 := as_ (blk_kept (bk_ BK382) hkp (fun hs_ => Or.elim hs_ (fun e_ => (fun e_ => (by first | exact far_S (hPS143 _ e_).2.2.2 BK382.out (by decide) | (have h_ := (hPS143 _ e_).1; simp at h_))) e_) (fun e_ => (fun e_ => (Kd.R_ne HO_383002.out BK382.out (by decide)) e_) e_))); replace BK391 := as_ (blk_kept (bk_ BK391) hkp (fun hs_ => Or.elim hs_ (fun e_ => (fun e_ => (by first | exact far_S (hPS143 _ e_).2.2.2 BK391.out (by decide) | (have h_ := (hPS143 _ e_).1; simp at h_))) e_) (fun e_ => (fun e_ => (Kd.R_ne HO_383002.out BK391.out (by decide)) e_) e_))); replace HO_383002 := as_ (Kd.R_reok rfl hy1 (fun k_ e_ => HO_383002.out.1 k_ e_)); replace HO399 := as_ (Kd.R_mono (ok' := fun k_ => some k_ ≠ (.slice Ao47 t362.length co47 : Value).ownBlock ∧ some k_ ≠ (.slice Ao59 t371.length co59 : Value).ownBlock ∧ some k_ ≠ (.slice Ao71 t379.length co71 : Value).ownBlock ∧ some k_ ≠ (.slice Ao83 t387.length co83 : Value).ownBlock ∧ some k_ ≠ (.slice Ao128 t405.length co128 : Value).ownBlock) (Kd.R_keptB ((R_awayS (P := PS143) rfl HO399.out (fun k_ e_ => (hPS143 k_ e_).1.2.2.2.2.2.2.2.1))) hkp (fun k_ hk_ hs_ => Or.elim hs_ (fun e_ => (hk_.2) e_) (fun e_ => (hk_.1.2.2.1) e_))) (fun k_ hk_ => ⟨hk_.1.1.1, hk_.1.1.2.1, hk_.1.1.2.2.1, hk_.1.1.2.2.2.1, hk_.1.1.2.2.2.2⟩)); replace HO407 := as_ (Kd.R_mono (ok' := fun k_ => some k_ ≠ (.slice Ao47 t362.length co47 : Value).ownBlock ∧ some k_ ≠ (.slice Ao59 t371.length co59 : Value).ownBlock ∧ some k_ ≠ (.slice Ao71 t379.length co71 : Value).ownBlock ∧ some k_ ≠ (.slice Ao83 t387.length co83 : Value).ownBlock ∧ some k_ ≠ (.slice Ao123 t397.length co123 : Value).ownBlock) (Kd.R_keptB ((R_awayS (P := PS143) rfl HO407.out (fun k_ e_ => (hPS143 k_ e_).1.2.2.2.2.2.2.2.2.1))) hkp (fun k_ hk_ hs_ => Or.elim hs_ (fun e_ => (hk_.2) e_) (fun e_ => (hk_.1.2.2.1) e_))) (fun k_ hk_ => ⟨hk_.1.1.1, hk_.1.1.2.1, hk_.1.1.2.2.1, hk_.1.1.2.2.2.1, hk_.1.1.2.2.2.2⟩)); replace HB := as_ (hb); (try clear hb); (try clear hkp); (try clear hy0); (try clear hy1); (try clear hPS143 kPS143)))
      (try simp only [Act.put, List.setIfInBounds_toArray, List.set_cons_zero, List.set_cons_succ])
      go_cut [86] (fun v86 wc => ∃ (kq : Nat) (x86_118 : Bool), v86 = .bool x86_118 ∧ Aside0 (laws_FnExactCombineAutomata.j1 kq a2 t365 x86_118 a0_0 l0_1 l0_2 a1_0 l1_1 l1_2 t358 t359 t362 t383 t384 t387 = some r) ∧ Aside0 (kq ≤ kj25) ∧ Aside0 (Kd.S (Kd.slice 2 (Kd.int .i64)) 23 wc w.heap.size (fun k_ => some k_ ≠ ((.slice Ao47 t362.length co47) : Value).ownBlock ∧ some k_ ≠ ((.slice Ao58 t368.length co58) : Value).ownBlock ∧ some k_ ≠ ((.slice Ao59 t371.length co59) : Value).ownBlock ∧ some k_ ≠ ((.slice Ao70 t376.length co70) : Value).ownBlock ∧ some k_ ≠ ((.slice Ao71 t379.length co71) : Value).ownBlock ∧ some k_ ≠ ((.slice Ao82 t384.length co82) : Value).ownBlock ∧ some k_ ≠ ((.slice Ao83 t387.length co83) : Value).ownBlock ∧ k_ ≠ lt_ N52 k_ ∧ k_ ≠ lt_ N63 k_ ∧ k_ ≠ lt_ N74 k_) (.slice Ao45 t359.length co45) t359) ∧ Aside0 (Kd.R (Kd.int .i64) 2 wc w.heap.size (fun k_ => some k_ ≠ ((.slice Ao59 t371.length co59) : Value).ownBlock ∧ some k_ ≠ ((.slice Ao71 t379.length co71) : Value).ownBlock ∧ some k_ ≠ ((.slice Ao83 t387.length co83) : Value).ownBlock) (.slice Ao47 t362.length co47) t362) ∧ Aside0 (Kd.S (Kd.slice 2 (Kd.int .i64)) 23 wc w.heap.size (fun k_ => some k_ ≠ ((.slice Ao45 t359.length co45) : Value).ownBlock ∧ some k_ ≠ ((.slice Ao47 t362.length co47) : Value).ownBlock ∧ some k_ ≠ ((.slice Ao59 t371.length co59) : Value).ownBlock ∧ some k_ ≠ ((.slice Ao70 t376.length co70) : Value).ownBlock ∧ some k_ ≠ ((.slice Ao71 t379.length co71) : Value).ownBlock ∧ some k_ ≠ ((.slice Ao82 t384.length co82) : Value).ownBlock ∧ some k_ ≠ ((.slice Ao83 t387.length co83) : Value).ownBlock ∧ k_ ≠ ge_ N52 k_ ∧ k_ ≠ lt_ N63 k_ ∧ k_ ≠ lt_ N74 k_) (.slice Ao58 t368.length co58) t410) ∧ Aside0 (Kd.R (Kd.int .i64) 2 wc w.heap.size (fun k_ => some k_ ≠ ((.slice Ao47 t362.length co47) : Value).ownBlock ∧ some k_ ≠ ((.slice Ao71 t379.length co71) : Value).ownBlock ∧ some k_ ≠ ((.slice Ao83 t387.length co83) : Value).ownBlock) (.slice Ao59 t371.length co59) t411) ∧ Aside0 (Kd.S (Kd.slice 2 (Kd.int .i64)) 23 wc w.heap.size (fun k_ => some k_ ≠ ((.slice Ao45 t359.length co45) : Value).ownBlock ∧ some k_ ≠ ((.slice Ao47 t362.length co47) : Value).ownBlock ∧ some k_ ≠ ((.slice Ao58 t368.length co58) : Value).ownBlock ∧ some k_ ≠ ((.slice Ao59 t371.length co59) : Value).ownBlock ∧ some k_ ≠ ((.slice Ao71 t379.length co71) : Value).ownBlock ∧ some k_ ≠ ((.slice Ao82 t384.length co82) : Value).ownBlock ∧ some k_ ≠ ((.slice Ao83 t387.length co83) : Value).ownBlock ∧ k_ ≠ ge_ N63 k_ ∧ k_ ≠ lt_ N74 k_) (.slice Ao70 t376.length co70) t413) ∧ Aside0 (Kd.R (Kd.int .i64) 2 wc w.heap.size (fun k_ => some k_ ≠ ((.slice Ao47 t362.length co47) : Value).ownBlock ∧ some k_ ≠ ((.slice Ao59 t371.length co59) : Value).ownBlock ∧ some k_ ≠ ((.slice Ao83 t387.length co83) : Value).ownBlock) (.slice Ao71 t379.length co71) t414) ∧ Aside0 (Kd.S (Kd.slice 2 (Kd.int .i64)) 23 wc w.heap.size (fun k_ => some k_ ≠ ((.slice Ao45 t359.length co45) : Value).ownBlock ∧ some k_ ≠ ((.slice Ao47 t362.length co47) : Value).ownBlock ∧ some k_ ≠ ((.slice Ao58 t368.length co58) : Value).ownBlock ∧ some k_ ≠ ((.slice Ao59 t371.length co59) : Value).ownBlock ∧ some k_ ≠ ((.slice Ao70 t376.length co70) : Value).ownBlock ∧ some k_ ≠ ((.slice Ao71 t379.length co71) : Value).ownBlock ∧ some k_ ≠ ((.slice Ao83 t387.length co83) : Value).ownBlock ∧ k_ ≠ ge_ N74 k_) (.slice Ao82 t384.length co82) t384) ∧ Aside0 (Kd.R (Kd.int .i64) 2 wc w.heap.size (fun k_ => some k_ ≠ ((.slice Ao47 t362.length co47) : Value).ownBlock ∧ some k_ ≠ ((.slice Ao59 t371.length co59) : Value).ownBlock ∧ some k_ ≠ ((.slice Ao71 t379.length co71) : Value).ownBlock) (.slice Ao83 t387.length co83) t387) ∧ Aside0 (wc.heap[gb340]? = some (.cells #[.int .i64 a0_0, (.slice A0_1 l0_1.length c0_1), (.slice A0_2 l0_2.length c0_2)] 25 (0, 0))) ∧ Aside0 (wc.heap[gb341]? = some (.cells #[.int .i64 a1_0, (.slice A1_1 l1_1.length c1_1), (.slice A1_2 l1_2.length c1_2)] 25 (0, 0))) ∧ Aside0 (wc.heap[gb366]? = some (.cells #[.int .i64 t358, (.slice Ao45 t359.length co45), (.slice Ao47 t362.length co47)] 29 (0, 0))) ∧ Aside0 (wc.heap[gb374]? = some (.cells #[.int .i64 t367, (.slice Ao58 t368.length co58), (.slice Ao59 t371.length co59)] 29 (0, 0))) ∧ Aside0 (wc.heap[gb382]? = some (.cells #[.int .i64 t375, (.slice Ao70 t376.length co70), (.slice Ao71 t379.length co71)] 29 (0, 0))) ∧ Aside0 (wc.heap[gb391]? = some (.cells #[.int .i64 t383, (.slice Ao82 t384.length co82), (.slice Ao83 t387.length co83)] 29 (0, 0))) ∧ Aside0 (Below w.heap.size w wc))
      case first => as_aux_lemma =>
        have H := HC119.out
        clear HC119
        by_cases c145 : t412 < 0
        · rw [if_pos c145] at H
          have c145b0 := decide_eq_true c145
          clear c145
          (first | rw [c145b0] | (simp only [i64_w, i32_w]; rw [c145b0]) | skip)
          have H' := as_ H
          clear H
          go_wp2
          go_meet
          case rel => exact ⟨_, (true), rf_, H', ⟨by have := HJ25.out; first | omega | exact Nat.le_refl _⟩, ⟨fS_ HO_367001⟩, ⟨fR_ HO_367002⟩, ⟨fS_ HO_375001⟩, ⟨fR_ HO_375002⟩, ⟨fS_ HO_383001⟩, ⟨fR_ HO_383002⟩, ⟨fS_ HO_392001⟩, ⟨fR_ HO_392002⟩, ⟨bk_ BK340⟩, ⟨bk_ BK341⟩, ⟨bk_ BK366⟩, ⟨bk_ BK374⟩, ⟨bk_ BK382⟩, ⟨bk_ BK391⟩, ⟨b6_ HB GE340 GE341 GE366 GE374 GE382 GE391⟩⟩
        rw [if_neg c145] at H
        have c145b0 := decide_eq_false c145
        clear c145
        (first | rw [c145b0] | (simp only [i64_w, i32_w]; rw [c145b0]) | skip)
        obtain ⟨t415, A146, H⟩ := bo_ H
        by_cases c147 : t415 = true
        · subst c147
          replace H := it_ H
          have H' := as_ H
          clear H
          have hnb148 := NB391_340.out
          have hnc148 := NB340_391.out
          have hnb149 := NB391_341.out
          have hnc149 := NB341_391.out
          have hnb150 := NB391_366.out
          have hnc150 := NB366_391.out
          have hnb151 := NB391_374.out
          have hnc151 := NB374_391.out
          have hnb152 := NB391_382.out
          have hnc152 := NB382_391.out
          obtain ⟨hcz153_0, hfz153_0, hcz153_1, hfz153_1, hcz153_2, hfz153_2⟩ := tc3_ BK391
          have hnb154 := NB366_340.out
          have hnc154 := NB340_366.out
          have hnb155 := NB366_341.out
          have hnc155 := NB341_366.out
          have hnb156 := NB366_374.out
          have hnc156 := NB374_366.out
          have hnb157 := NB366_382.out
          have hnc157 := NB382_366.out
          obtain ⟨hcz158_0, hfz158_0, hcz158_1, hfz158_1, hcz158_2, hfz158_2⟩ := tc3_ BK366
          go_wp2_with (first | (go_at_call 9; (with_reducible refine (laws_eqAutomaton.calls kj25 t383 _ _ t384 _ _ t387 t358 _ _ t359 _ _ t362 true _ ?side1 ?side2 ?side3 ?side4 ?side5 ?side6 ?side7 ?side8 A146.out).mono ?_); (case side1 => exact cC_ (Kd.S_reads' HO_392001.out).2.2); (case side2 => exact (Kd.S_reads' HO_392001.out).2.1); (case side3 => exact cC_ (Kd.R_reads' HO_392002.out).2.2); (case side4 => exact (Kd.R_reads' HO_392002.out).2.1); (case side5 => exact cC_ (Kd.S_reads' HO_367001.out).2.2); (case side6 => exact (Kd.S_reads' HO_367001.out).2.1); (case side7 => exact cC_ (Kd.R_reads' HO_367002.out).2.2); (case side8 => exact (Kd.R_reads' HO_367002.out).2.1); rintro e w159 ⟨rfl, hb⟩; replace HO_367001 := sb_ HO_367001 hb; replace HO_367002 := rb_ HO_367002 hb; replace HO_375001 := sb_ HO_375001 hb; replace HO_375002 := rb_ HO_375002 hb; replace HO_383001 := sb_ HO_383001 hb; replace HO_383002 := rb_ HO_383002 hb; replace HO_392001 := sb_ HO_392001 hb; replace HO_392002 := rb_ HO_392002 hb; replace HO399 := rb_ HO399 hb; replace HO407 := rb_ HO407 hb; replace BK340 := kb_ BK340 hb; replace BK341 := kb_ BK341 hb; replace BK366 := kb_ BK366 hb; replace BK374 := kb_ BK374 hb; replace BK382 := kb_ BK382 hb; replace BK391 := kb_ BK391 hb; replace HB := as_ (below_step (b6_ HB GE340 GE341 GE366 GE374 GE382 GE391) hb); clear hb))
          go_meet
          case rel => exact ⟨_, ((t390 != t365)), rf_, H', ⟨by have := HJ25.out; first | omega | exact Nat.le_refl _⟩, ⟨fS_ HO_367001⟩, ⟨fR_ HO_367002⟩, ⟨fS_ HO_375001⟩, ⟨fR_ HO_375002⟩, ⟨fS_ HO_383001⟩, ⟨fR_ HO_383002⟩, ⟨fS_ HO_392001⟩, ⟨fR_ HO_392002⟩, ⟨bk_ BK340⟩, ⟨bk_ BK341⟩, ⟨bk_ BK366⟩, ⟨bk_ BK374⟩, ⟨bk_ BK382⟩, ⟨bk_ BK391⟩, ⟨b6_ HB GE340 GE341 GE366 GE374 GE382 GE391⟩⟩
        replace c147 := Bool.eq_false_iff.mpr c147
        subst c147
        replace H := if_ H
        have H' := as_ H
        clear H
        have hnb160 := NB391_340.out
        have hnc160 := NB340_391.out
        have hnb161 := NB391_341.out
        have hnc161 := NB341_391.out
        have hnb162 := NB391_366.out
        have hnc162 := NB366_391.out
        have hnb163 := NB391_374.out
        have hnc163 := NB374_391.out
        have hnb164 := NB391_382.out
        have hnc164 := NB382_391.out
        obtain ⟨hcz165_0, hfz165_0, hcz165_1, hfz165_1, hcz165_2, hfz165_2⟩ := tc3_ BK391
        have hnb166 := NB366_340.out
        have hnc166 := NB340_366.out
        have hnb167 := NB366_341.out
        have hnc167 := NB341_366.out
        have hnb168 := NB366_374.out
        have hnc168 := NB374_366.out
        have hnb169 := NB366_382.out
        have hnc169 := NB382_366.out
        obtain ⟨hcz170_0, hfz170_0, hcz170_1, hfz170_1, hcz170_2, hfz170_2⟩ := tc3_ BK366
        go_wp2_with (first | (go_at_call 9; (with_reducible refine (laws_eqAutomaton.calls kj25 t383 _ _ t384 _ _ t387 t358 _ _ t359 _ _ t362 false _ ?side1 ?side2 ?side3 ?side4 ?side5 ?side6 ?side7 ?side8 A146.out).mono ?_); (case side1 => exact cC_ (Kd.S_reads' HO_392001.out).2.2); (case side2 => exact (Kd.S_reads' HO_392001.out).2.1); (case side3 => exact cC_ (Kd.R_reads' HO_392002.out).2.2); (case side4 => exact (Kd.R_reads' HO_392002.out).2.1); (case side5 => exact cC_ (Kd.S_reads' HO_367001.out).2.2); (case side6 => exact (Kd.S_reads' HO_367001.out).2.1); (case side7 => exact cC_ (Kd.R_reads' HO_367002.out).2.2); (case side8 => exact (Kd.R_reads' HO_367002.out).2.1); rintro e w171 ⟨rfl, hb⟩; replace HO_367001 := sb_ HO_367001 hb; replace HO_367002 := rb_ HO_367002 hb; replace HO_375001 := sb_ HO_375001 hb; replace HO_375002 := rb_ HO_375002 hb; replace HO_383001 := sb_ HO_383001 hb; replace HO_383002 := rb_ HO_383002 hb; replace HO_392001 := sb_ HO_392001 hb; replace HO_392002 := rb_ HO_392002 hb; replace HO399 := rb_ HO399 hb; replace HO407 := rb_ HO407 hb; replace BK340 := kb_ BK340 hb; replace BK341 := kb_ BK341 hb; replace BK366 := kb_ BK366 hb; replace BK374 := kb_ BK374 hb; replace BK382 := kb_ BK382 hb; replace BK391 := kb_ BK391 hb; replace HB := as_ (below_step (b6_ HB GE340 GE341 GE366 GE374 GE382 GE391) hb); clear hb))
        go_meet
        case rel => exact ⟨_, (true), rf_, H', ⟨by have := HJ25.out; first | omega | exact Nat.le_refl _⟩, ⟨fS_ HO_367001⟩, ⟨fR_ HO_367002⟩, ⟨fS_ HO_375001⟩, ⟨fR_ HO_375002⟩, ⟨fS_ HO_383001⟩, ⟨fR_ HO_383002⟩, ⟨fS_ HO_392001⟩, ⟨fR_ HO_392002⟩, ⟨bk_ BK340⟩, ⟨bk_ BK341⟩, ⟨bk_ BK366⟩, ⟨bk_ BK374⟩, ⟨bk_ BK382⟩, ⟨bk_ BK391⟩, ⟨b6_ HB GE340 GE341 GE366 GE374 GE382 GE391⟩⟩
      case rest => as_aux_lemma =>
        clear HC119
        (try clear c1); (try clear p2); (try clear c7); (try clear c9); (try clear c12); (try clear c13); (try clear c14); (try clear c15); (try clear c16); (try clear c130); (try clear c131); (try clear c132); (try clear c133); (try clear c134); (try clear c138); (try clear c139); (try clear c140); (try clear c141); (try clear c145); (try clear c145b0); (try clear c147); (try clear c148); (try clear c149); (try clear c150); (try clear c151); (try clear c152); (try clear c154); (try clear c155); (try clear c156); (try clear c157); (try clear c160); (try clear c161); (try clear c162); (try clear c163); (try clear c164); (try clear c166); (try clear c167); (try clear c168); (try clear c169); (try clear hcz135_0); (try clear hcz135_1); (try clear hcz135_2); (try clear hcz142_0); (try clear hcz142_1); (try clear hcz142_2); (try clear hcz153_0); (try clear hcz153_1); (try clear hcz153_2); (try clear hcz158_0); (try clear hcz158_1); (try clear hcz158_2); (try clear hcz165_0); (try clear hcz165_1); (try clear hcz165_2); (try clear hcz170_0); (try clear hcz170_1); (try clear hcz170_2); (try clear hfz135_0); (try clear hfz135_1); (try clear hfz135_2); (try clear hfz142_0); (try clear hfz142_1); (try clear hfz142_2); (try clear hfz153_0); (try clear hfz153_1); (try clear hfz153_2); (try clear hfz158_0); (try clear hfz158_1); (try clear hfz158_2); (try clear hfz165_0); (try clear hfz165_1); (try clear hfz165_2); (try clear hfz170_0); (try clear hfz170_1); (try clear hfz170_2)
        obtain ⟨kq, x86_118, rfl, HA, HJ118, HO_367001, HO_367002, HO_375001, HO_375002, HO_383001, HO_383002, HO_392001, HO_392002, BK340, BK341, BK366, BK374, BK382, BK391, HB⟩ := hcut
        have hl375001_118 := (Kd.S_reads' HO_375001.out).1
        rw [hl375001_118] at HO_375001
        (try simp only [hl375001_118])
        (try simp only [hl375001_118] at BK340)
        (try simp only [hl375001_118] at BK341)
        (try simp only [hl375001_118] at BK366)
        (try simp only [hl375001_118] at BK374)
        (try simp only [hl375001_118] at BK382)
        (try simp only [hl375001_118] at BK391)
        (try simp only [hl375001_118] at HO_367001)
        (try simp only [hl375001_118] at HO_367002)
        (try simp only [hl375001_118] at HO_375002)
        (try simp only [hl375001_118] at HO_383001)
        (try simp only [hl375001_118] at HO_383002)
        (try simp only [hl375001_118] at HO_392001)
        (try simp only [hl375001_118] at HO_392002)
        have hl375002_118 := (Kd.R_reads' HO_375002.out).1
        rw [hl375002_118] at HO_375002
        (try simp only [hl375002_118])
        (try simp only [hl375002_118] at BK340)
        (try simp only [hl375002_118] at BK341)
        (try simp only [hl375002_118] at BK366)
        (try simp only [hl375002_118] at BK374)
        (try simp only [hl375002_118] at BK382)
        (try simp only [hl375002_118] at BK391)
        (try simp only [hl375002_118] at HO_367001)
        (try simp only [hl375002_118] at HO_367002)
        (try simp only [hl375002_118] at HO_375001)
        (try simp only [hl375002_118] at HO_383001)
        (try simp only [hl375002_118] at HO_383002)
        (try simp only [hl375002_118] at HO_392001)
        (try simp only [hl375002_118] at HO_392002)
        have hl383001_118 := (Kd.S_reads' HO_383001.out).1
        rw [hl383001_118] at HO_383001
        (try simp only [hl383001_118])
        (try simp only [hl383001_118] at BK340)
        (try simp only [hl383001_118] at BK341)
        (try simp only [hl383001_118] at BK366)
        (try simp only [hl383001_118] at BK374)
        (try simp only [hl383001_118] at BK382)
        (try simp only [hl383001_118] at BK391)
        (try simp only [hl383001_118] at HO_367001)
        (try simp only [hl383001_118] at HO_367002)
        (try simp only [hl383001_118] at HO_375001)
        (try simp only [hl383001_118] at HO_375002)
        (try simp only [hl383001_118] at HO_383002)
        (try simp only [hl383001_118] at HO_392001)
        (try simp only [hl383001_118] at HO_392002)
        have hl383002_118 := (Kd.R_reads' HO_383002.out).1
        rw [hl383002_118] at HO_383002
        (try simp only [hl383002_118])
        (try simp only [hl383002_118] at BK340)
        (try simp only [hl383002_118] at BK341)
        (try simp only [hl383002_118] at BK366)
        (try simp only [hl383002_118] at BK374)
        (try simp only [hl383002_118] at BK382)
        (try simp only [hl383002_118] at BK391)
        (try simp only [hl383002_118] at HO_367001)
        (try simp only [hl383002_118] at HO_367002)
        (try simp only [hl383002_118] at HO_375001)
        (try simp only [hl383002_118] at HO_375002)
        (try simp only [hl383002_118] at HO_383001)
        (try simp only [hl383002_118] at HO_392001)
        (try simp only [hl383002_118] at HO_392002)
        cases kq with
        | zero => exact absurd HA.out (by simp [laws_FnExactCombineAutomata.j1])
        | succ kj118 =>
          have H := HA.out
          clear HA
          simp only [laws_FnExactCombineAutomata.j1] at H
          by_cases c172 : x86_118 = true
          · subst c172
            replace H := it_ H
            obtain rfl := Option.some.inj H
            go_wp2
            go_ret
            exact ⟨re_, b6_ HB GE340 GE341 GE366 GE374 GE382 GE391⟩
          replace c172 := Bool.eq_false_iff.mpr c172
          subst c172
          replace H := if_ H
          obtain ⟨⟨t416, t417, t418⟩, A173, H⟩ := bo_ H
          dsimp only at H
          obtain ⟨t419, A174, H⟩ := bo_ H
          by_cases c175 : t419 < 0
          · rw [if_pos c175] at H
            have c175b0 := decide_eq_true c175
            clear c175
            obtain rfl := Option.some.inj H
            have hnb176 := NB391_340.out
            have hnc176 := NB340_391.out
            have hnb177 := NB391_341.out
            have hnc177 := NB341_391.out
            have hnb178 := NB391_366.out
            have hnc178 := NB366_391.out
            have hnb179 := NB391_374.out
            have hnc179 := NB374_391.out
            have hnb180 := NB391_382.out
            have hnc180 := NB382_391.out
            obtain ⟨hcz181_0, hfz181_0, hcz181_1, hfz181_1, hcz181_2, hfz181_2⟩ := tc3_ BK391
            go_wp2_with (first | ((with_reducible refine gate_callee (f := 12) rfl ?_); refine gL_ 89 Try.func12 #[.agg #[.int .i64 t383, .slice Ao82 t384.length co82, .slice Ao83 t387.length co83], .int .i64 1] ?_; obtain ⟨PS182, hPS182, kPS182⟩ := S_open (HO_392001.out); (with_reducible refine (laws_markAutomaton.calls kj118 t383 PS182 (.slice Ao82 t384.length co82) t384 (fun k_ => some k_ = (.slice Ao83 t387.length co83 : Value).ownBlock) (.slice Ao83 t387.length co83) t387 1 t416 t417 t418 w _ ?side1 ?side2 ?side3 ?side4 A173.out).mono ?_); (case side1 => repeat (first | (with_reducible first | exact HB.out | apply below_alloc | apply pw_below_drewN | apply below_drew1 | refine below_set ?_ GE340.out | refine below_set ?_ GE341.out | refine below_set ?_ GE366.out | refine below_set ?_ GE374.out | refine below_set ?_ GE382.out | refine below_set ?_ GE391.out) | exact HB.out)); (case side2 => exact kPS182); (case side3 => exact fun k_ e_ e2_ => ((hPS182 k_ e_).1.2.2.2.2.2.2.1) e2_); (case side4 => exact Kd.R_tight rfl HO_392002.out); rintro e w183 ⟨rfl, hy0, hy1, hb, hkp⟩; refine ⟨_, rfl, ?_⟩; replace HO_367001 := as_ (Kd.S_mono (ok' := fun k_ => some k_ ≠ (.slice Ao47 t362.length co47 : Value).ownBlock ∧ some k_ ≠ (.slice Ao58 t410.length co58 : Value).ownBlock ∧ some k_ ≠ (.slice Ao59 t411.length co59 : Value).ownBlock ∧ some k_ ≠ (.slice Ao70 t413.length co70 : Value).ownBlock ∧ some k_ ≠ (.slice Ao71 t414.length co71 : Value).ownBlock ∧ some k_ ≠ (.slice Ao82 t384.length co82 : Value).ownBlock ∧ some k_ ≠ (.slice Ao83 t387.length co83 : Value).ownBlock ∧ k_ ≠ lt_ N52 k_ ∧ k_ ≠ lt_ N63 k_ ∧ k_ ≠ lt_ N74 k_) (Kd.S_keptB ((S_awayP (P := PS182) HO_367001.out (fun k_ h_ e_ => no_lap (h_.2.2.2.2.2.2.2.2.2) ((hPS182 k_ e_).1.2.2.2.2.2.2.2)))) hkp (fun k_ hk_ hs_ => Or.elim hs_ (fun e_ => (hk_.2) e_) (fun e_ => (hk_.1.2.2.2.2.2.2.1) e_))) (fun k_ hk_ => ⟨hk_.1.1.1, hk_.1.1.2.1, hk_.1.1.2.2.1, hk_.1.1.2.2.2.1, hk_.1.1.2.2.2.2.1, hk_.1.1.2.2.2.2.2.1, hk_.1.1.2.2.2.2.2.2.1, hk_.1.1.2.2.2.2.2.2.2.1, hk_.1.1.2.2.2.2.2.2.2.2.1, hk_.1.1.2.2.2.2.2.2.2.2.2⟩)); replace HO_367002 := as_ (Kd.R_mono (ok' := fun k_ => some k_ ≠ (.slice Ao59 t411.length co59 : Value).ownBlock ∧ some k_ ≠ (.slice Ao71 t414.length co71 : Value).ownBlock ∧ some k_ ≠ (.slice Ao83 t387.length co83 : Value).ownBlock) (Kd.R_keptB ((R_awayS (P := PS182) rfl HO_367002.out (fun k_ e_ => (hPS182 k_ e_).1.2.1))) hkp (fun k_ hk_ hs_ => Or.elim hs_ (fun e_ => (hk_.2) e_) (fun e_ => (hk_.1.2.2) e_))) (fun k_ hk_ => ⟨hk_.1.1.1, hk_.1.1.2.1, hk_.1.1.2.2⟩)); replace HO_375001 := as_ (Kd.S_mono (ok' := fun k_ => some k_ ≠ (.slice Ao45 t359.length co45 : Value).ownBlock ∧ some k_ ≠ (.slice Ao47 t362.length co47 : Value).ownBlock ∧ some k_ ≠ (.slice Ao59 t411.length co59 : Value).ownBlock ∧ some k_ ≠ (.slice Ao70 t413.length co70 : Value).ownBlock ∧ some k_ ≠ (.slice Ao71 t414.length co71 : Value).ownBlock ∧ some k_ ≠ (.slice Ao82 t384.length co82 : Value).ownBlock ∧ some k_ ≠ (.slice Ao83 t387.length co83 : Value).ownBlock ∧ k_ ≠ ge_ N52 k_ ∧ k_ ≠ lt_ N63 k_ ∧ k_ ≠ lt_ N74 k_) (Kd.S_keptB ((S_awayP (P := PS182) HO_375001.out (fun k_ h_ e_ => no_lap (h_.2.2.2.2.2.2.2.2.2) ((hPS182 k_ e_).1.2.2.2.2.2.2.2)))) hkp (fun k_ hk_ hs_ => Or.elim hs_ (fun e_ => (hk_.2) e_) (fun e_ => (hk_.1.2.2.2.2.2.2.1) e_))) (fun k_ hk_ => ⟨hk_.1.1.1, hk_.1.1.2.1, hk_.1.1.2.2.1, hk_.1.1.2.2.2.1, hk_.1.1.2.2.2.2.1, hk_.1.1.2.2.2.2.2.1, hk_.1.1.2.2.2.2.2.2.1, hk_.1.1.2.2.2.2.2.2.2.1, hk_.1.1.2.2.2.2.2.2.2.2.1, hk_.1.1.2.2.2.2.2.2.2.2.2⟩)); replace HO_375002 := as_ (Kd.R_mono (ok' := fun k_ => some k_ ≠ (.slice Ao47 t362.length co47 : Value).ownBlock ∧ some k_ ≠ (.slice Ao71 t414.length co71 : Value).ownBlock ∧ some k_ ≠ (.slice Ao83 t387.length co83 : Value).ownBlock) (Kd.R_keptB ((R_awayS (P := PS182) rfl HO_375002.out (fun k_ e_ => (hPS182 k_ e_).1.2.2.2.1))) hkp (fun k_ hk_ hs_ => Or.elim hs_ (fun e_ => (hk_.2) e_) (fun e_ => (hk_.1.2.2) e_))) (fun k_ hk_ => ⟨hk_.1.1.1, hk_.1.1.2.1, hk_.1.1.2.2⟩)); replace HO_383001 := as_ (Kd.S_mono (ok' := fun k_ => some k_ ≠ (.slice Ao45 t359.length co45 : Value).ownBlock ∧ some k_ ≠ (.slice Ao47 t362.length co47 : Value).ownBlock ∧ some k_ ≠ (.slice Ao58 t410.length co58 : Value).ownBlock ∧ some k_ ≠ (.slice Ao59 t411.length co59 : Value).ownBlock ∧ some k_ ≠ (.slice Ao71 t414.length co71 : Value).ownBlock ∧ some k_ ≠ (.slice Ao82 t384.length co82 : Value).ownBlock ∧ some k_ ≠ (.slice Ao83 t387.length co83 : Value).ownBlock ∧ k_ ≠ ge_ N63 k_ ∧ k_ ≠ lt_ N74 k_) (Kd.S_keptB ((S_awayP (P := PS182) HO_383001.out (fun k_ h_ e_ => no_lap (h_.2.2.2.2.2.2.2.2) ((hPS182 k_ e_).1.2.2.2.2.2.2.2)))) hkp (fun k_ hk_ hs_ => Or.elim hs_ (fun e_ => (hk_.2) e_) (fun e_ => (hk_.1.2.2.2.2.2.2.1) e_))) (fun k_ hk_ => ⟨hk_.1.1.1, hk_.1.1.2.1, hk_.1.1.2.2.1, hk_.1.1.2.2.2.1, hk_.1.1.2.2.2.2.1, hk_.1.1.2.2.2.2.2.1, hk_.1.1.2.2.2.2.2.2.1, hk_.1.1.2.2.2.2.2.2.2.1, hk_.1.1.2.2.2.2.2.2.2.2⟩)); replace HO_383002 := as_ (Kd.R_mono (ok' := fun k_ => some k_ ≠ (.slice Ao47 t362.length co47 : Value).ownBlock ∧ some k_ ≠ (.slice Ao59 t411.length co59 : Value).ownBlock ∧ some k_ ≠ (.slice Ao83 t387.length co83 : Value).ownBlock) (Kd.R_keptB ((R_awayS (P := PS182) rfl HO_383002.out (fun k_ e_ => (hPS182 k_ e_).1.2.2.2.2.2.1))) hkp (fun k_ hk_ hs_ => Or.elim hs_ (fun e_ => (hk_.2) e_) (fun e_ => (hk_.1.2.2) e_))) (fun k_ hk_ => ⟨hk_.1.1.1, hk_.1.1.2.1, hk_.1.1.2.2⟩)); replace HO_392001 := as_ (Kd.S_mono hy0 (fun k_ e_ => (hPS182 k_ e_).1)); replace BK340 := as_ (blk_kept (bk_ BK340) hkp (fun hs_ => Or.elim hs_ (fun e_ => (fun e_ => (by first | exact far_S (hPS182 _ e_).2.2.2 BK340.out (by decide) | (have h_ := (hPS182 _ e_).1; simp at h_))) e_) (fun e_ => (fun e_ => (Kd.R_ne HO_392002.out BK340.out (by decide)) e_) e_))); replace BK341 := as_ (blk_kept (bk_ BK341) hkp (fun hs_ => Or.elim hs_ (fun e_ => (fun e_ => (by first | exact far_S (hPS182 _ e_).2.2.2 BK341.out (by decide) | (have h_ := (hPS182 _ e_).1; simp at h_))) e_) (fun e_ => (fun e_ => (Kd.R_ne HO_392002.out BK341.out (by decide)) e_) e_))); replace BK366 := as_ (blk_kept (bk_ BK366) hkp (fun hs_ => Or.elim hs_ (fun e_ => (fun e_ => (by first | exact far_S (hPS182 _ e_).2.2.2 BK366.out (by decide) | (have h_ := (hPS182 _ e_).1; simp at h_))) e_) (fun e_ => (fun e_ => (Kd.R_ne HO_392002.out BK366.out (by decide)) e_) e_))); replace BK374 := as_ (blk_kept (bk_ BK374) hkp (fun hs_ => Or.elim hs_ (fun e_ => (fun e_ => (by first | exact far_S (hPS182 _ e_).2.2.2 BK374.out (by decide) | (have h_ := (hPS182 _ e_).1; simp at h_))) e_) (fun e_ => (fun e_ => (Kd.R_ne HO_392002.out BK374.out (by decide)) e_) e_))); replace BK382 := as_ (blk_kept (bk_ BK382) hkp (fun hs_ => Or.elim hs_ (fun e_ => (fun e_ => (by first | exact far_S (hPS182 _ e_).2.2.2 BK382.out (by decide) | (have h_ := (hPS182 _ e_).1; simp at h_))) e_) (fun e_ => (fun e_ => (Kd.R_ne HO_392002.out BK382.out (by decide)) e_) e_))); replace BK391 := as_ (blk_kept (bk_ BK391) hkp (fun hs_ => Or.elim hs_ (fun e_ => (fun e_ => (by first | exact far_S (hPS182 _ e_).2.2.2 BK391.out (by decide) | (have h_ := (hPS182 _ e_).1; simp at h_))) e_) (fun e_ => (fun e_ => (Kd.R_ne HO_392002.out BK391.out (by decide)) e_) e_))); replace HO_392002 := as_ (Kd.R_reok rfl hy1 (fun k_ e_ => HO_392002.out.1 k_ e_)); replace HB := as_ (hb); (try clear hb); (try clear hkp); (try clear hy0); (try clear hy1); (try clear hPS182 kPS182); obtain ⟨hcz184_0, hfz184_0, hcz184_1, hfz184_1, hcz184_2, hfz184_2⟩ := tc3_ BK391) | ((with_reducible refine gate_callee (f := 13) rfl ?_); refine gL_ 92 Try.func13 #[.agg #[.int .i64 t383, .slice Ao82 t417.length co82, .slice Ao83 t418.length co83], .int .i64 1] ?_ (hargs := (by (try simp only [List.map_toArray, List.map_cons, List.map_nil]); first | done | (rw [show t417.length = t384.length from (Kd.S_reads' HO_392001.out).1.symm, show t418.length = t387.length from (Kd.R_reads' HO_392002.out).1.symm] <;> rfl) | rfl | (simp only [List.length_drop, List.length_take]; rfl))); (with_reducible refine (laws_heldAutomaton.calls kj118 t383 _ _ t417 _ _ t418 1 t419 _ ?side1 ?side2 ?side3 ?side4 A174.out).mono ?_); (case side1 => exact cC_ (Kd.S_reads' HO_392001.out).2.2); (case side2 => rw [show t417.length = t384.length from (Kd.S_reads' HO_392001.out).1.symm]; exact (Kd.S_reads' HO_392001.out).2.1); (case side3 => exact cC_ (Kd.R_reads' HO_392002.out).2.2); (case side4 => rw [show t418.length = t387.length from (Kd.R_reads' HO_392002.out).1.symm]; exact (Kd.R_reads' HO_392002.out).2.1); rintro e w185 ⟨rfl, hb⟩; refine ⟨_, rfl, ?_⟩; replace HO_367001 := sb_ HO_367001 hb; replace HO_367002 := rb_ HO_367002 hb; replace HO_375001 := sb_ HO_375001 hb; replace HO_375002 := rb_ HO_375002 hb; replace HO_383001 := sb_ HO_383001 hb; replace HO_383002 := rb_ HO_383002 hb; replace HO_392001 := sb_ HO_392001 hb; replace HO_392002 := rb_ HO_392002 hb; replace BK340 := kb_ BK340 hb; replace BK341 := kb_ BK341 hb; replace BK366 := kb_ BK366 hb; replace BK374 := kb_ BK374 hb; replace BK382 := kb_ BK382 hb; replace BK391 := kb_ BK391 hb; replace HB := as_ (below_step (b6_ HB GE340 GE341 GE366 GE374 GE382 GE391) hb); clear hb))
            go_ret
            exact ⟨re_, b6_ HB GE340 GE341 GE366 GE374 GE382 GE391⟩
          rw [if_neg c175] at H
          have c175b0 := decide_eq_false c175
          clear c175
          by_cases c186 : t419 = t416
          rotate_left
          · rw [if_neg c186] at H
            have c186b0 := beq_eq_false_iff_ne.mpr c186
            have c186b1 := bne_iff_ne.mpr c186
            obtain rfl := Option.some.inj H
            have hnb274 := NB391_340.out
            have hnc274 := NB340_391.out
            have hnb275 := NB391_341.out
            have hnc275 := NB341_391.out
            have hnb276 := NB391_366.out
            have hnc276 := NB366_391.out
            have hnb277 := NB391_374.out
            have hnc277 := NB374_391.out
            have hnb278 := NB391_382.out
            have hnc278 := NB382_391.out
            obtain ⟨hcz279_0, hfz279_0, hcz279_1, hfz279_1, hcz279_2, hfz279_2⟩ := tc3_ BK391
            go_wp2_with (first | ((with_reducible refine gate_callee (f := 12) rfl ?_); refine gL_ 89 Try.func12 #[.agg #[.int .i64 t383, .slice Ao82 t384.length co82, .slice Ao83 t387.length co83], .int .i64 1] ?_; obtain ⟨PS280, hPS280, kPS280⟩ := S_open (HO_392001.out); (with_reducible refine (laws_markAutomaton.calls kj118 t383 PS280 (.slice Ao82 t384.length co82) t384 (fun k_ => some k_ = (.slice Ao83 t387.length co83 : Value).ownBlock) (.slice Ao83 t387.length co83) t387 1 t416 t417 t418 w _ ?side1 ?side2 ?side3 ?side4 A173.out).mono ?_); (case side1 => repeat (first | (with_reducible first | exact HB.out | apply below_alloc | apply pw_below_drewN | apply below_drew1 | refine below_set ?_ GE340.out | refine below_set ?_ GE341.out | refine below_set ?_ GE366.out | refine below_set ?_ GE374.out | refine below_set ?_ GE382.out | refine below_set ?_ GE391.out) | exact HB.out)); (case side2 => exact kPS280); (case side3 => exact fun k_ e_ e2_ => ((hPS280 k_ e_).1.2.2.2.2.2.2.1) e2_); (case side4 => exact Kd.R_tight rfl HO_392002.out); rintro e w281 ⟨rfl, hy0, hy1, hb, hkp⟩; refine ⟨_, rfl, ?_⟩; replace HO_367001 := as_ (Kd.S_mono (ok' := fun k_ => some k_ ≠ (.slice Ao47 t362.length co47 : Value).ownBlock ∧ some k_ ≠ (.slice Ao58 t410.length co58 : Value).ownBlock ∧ some k_ ≠ (.slice Ao59 t411.length co59 : Value).ownBlock ∧ some k_ ≠ (.slice Ao70 t413.length co70 : Value).ownBlock ∧ some k_ ≠ (.slice Ao71 t414.length co71 : Value).ownBlock ∧ some k_ ≠ (.slice Ao82 t384.length co82 : Value).ownBlock ∧ some k_ ≠ (.slice Ao83 t387.length co83 : Value).ownBlock ∧ k_ ≠ lt_ N52 k_ ∧ k_ ≠ lt_ N63 k_ ∧ k_ ≠ lt_ N74 k_) (Kd.S_keptB ((S_awayP (P := PS280) HO_367001.out (fun k_ h_ e_ => no_lap (h_.2.2.2.2.2.2.2.2.2) ((hPS280 k_ e_).1.2.2.2.2.2.2.2)))) hkp (fun k_ hk_ hs_ => Or.elim hs_ (fun e_ => (hk_.2) e_) (fun e_ => (hk_.1.2.2.2.2.2.2.1) e_))) (fun k_ hk_ => ⟨hk_.1.1.1, hk_.1.1.2.1, hk_.1.1.2.2.1, hk_.1.1.2.2.2.1, hk_.1.1.2.2.2.2.1, hk_.1.1.2.2.2.2.2.1, hk_.1.1.2.2.2.2.2.2.1, hk_.1.1.2.2.2.2.2.2.2.1, hk_.1.1.2.2.2.2.2.2.2.2.1, hk_.1.1.2.2.2.2.2.2.2.2.2⟩)); replace HO_367002 := as_ (Kd.R_mono (ok' := fun k_ => some k_ ≠ (.slice Ao59 t411.length co59 : Value).ownBlock ∧ some k_ ≠ (.slice Ao71 t414.length co71 : Value).ownBlock ∧ some k_ ≠ (.slice Ao83 t387.length co83 : Value).ownBlock) (Kd.R_keptB ((R_awayS (P := PS280) rfl HO_367002.out (fun k_ e_ => (hPS280 k_ e_).1.2.1))) hkp (fun k_ hk_ hs_ => Or.elim hs_ (fun e_ => (hk_.2) e_) (fun e_ => (hk_.1.2.2) e_))) (fun k_ hk_ => ⟨hk_.1.1.1, hk_.1.1.2.1, hk_.1.1.2.2⟩)); replace HO_375001 := as_ (Kd.S_mono (ok' := fun k_ => some k_ ≠ (.slice Ao45 t359.length co45 : Value).ownBlock ∧ some k_ ≠ (.slice Ao47 t362.length co47 : Value).ownBlock ∧ some k_ ≠ (.slice Ao59 t411.length co59 : Value).ownBlock ∧ some k_ ≠ (.slice Ao70 t413.length co70 : Value).ownBlock ∧ some k_ ≠ (.slice Ao71 t414.length co71 : Value).ownBlock ∧ some k_ ≠ (.slice Ao82 t384.length co82 : Value).ownBlock ∧ some k_ ≠ (.slice Ao83 t387.length co83 : Value).ownBlock ∧ k_ ≠ ge_ N52 k_ ∧ k_ ≠ lt_ N63 k_ ∧ k_ ≠ lt_ N74 k_) (Kd.S_keptB ((S_awayP (P := PS280) HO_375001.out (fun k_ h_ e_ => no_lap (h_.2.2.2.2.2.2.2.2.2) ((hPS280 k_ e_).1.2.2.2.2.2.2.2)))) hkp (fun k_ hk_ hs_ => Or.elim hs_ (fun e_ => (hk_.2) e_) (fun e_ => (hk_.1.2.2.2.2.2.2.1) e_))) (fun k_ hk_ => ⟨hk_.1.1.1, hk_.1.1.2.1, hk_.1.1.2.2.1, hk_.1.1.2.2.2.1, hk_.1.1.2.2.2.2.1, hk_.1.1.2.2.2.2.2.1, hk_.1.1.2.2.2.2.2.2.1, hk_.1.1.2.2.2.2.2.2.2.1, hk_.1.1.2.2.2.2.2.2.2.2.1, hk_.1.1.2.2.2.2.2.2.2.2.2⟩)); replace HO_375002 := as_ (Kd.R_mono (ok' := fun k_ => some k_ ≠ (.slice Ao47 t362.length co47 : Value).ownBlock ∧ some k_ ≠ (.slice Ao71 t414.length co71 : Value).ownBlock ∧ some k_ ≠ (.slice Ao83 t387.length co83 : Value).ownBlock) (Kd.R_keptB ((R_awayS (P := PS280) rfl HO_375002.out (fun k_ e_ => (hPS280 k_ e_).1.2.2.2.1))) hkp (fun k_ hk_ hs_ => Or.elim hs_ (fun e_ => (hk_.2) e_) (fun e_ => (hk_.1.2.2) e_))) (fun k_ hk_ => ⟨hk_.1.1.1, hk_.1.1.2.1, hk_.1.1.2.2⟩)); replace HO_383001 := as_ (Kd.S_mono (ok' := fun k_ => some k_ ≠ (.slice Ao45 t359.length co45 : Value).ownBlock ∧ some k_ ≠ (.slice Ao47 t362.length co47 : Value).ownBlock ∧ some k_ ≠ (.slice Ao58 t410.length co58 : Value).ownBlock ∧ some k_ ≠ (.slice Ao59 t411.length co59 : Value).ownBlock ∧ some k_ ≠ (.slice Ao71 t414.length co71 : Value).ownBlock ∧ some k_ ≠ (.slice Ao82 t384.length co82 : Value).ownBlock ∧ some k_ ≠ (.slice Ao83 t387.length co83 : Value).ownBlock ∧ k_ ≠ ge_ N63 k_ ∧ k_ ≠ lt_ N74 k_) (Kd.S_keptB ((S_awayP (P := PS280) HO_383001.out (fun k_ h_ e_ => no_lap (h_.2.2.2.2.2.2.2.2) ((hPS280 k_ e_).1.2.2.2.2.2.2.2)))) hkp (fun k_ hk_ hs_ => Or.elim hs_ (fun e_ => (hk_.2) e_) (fun e_ => (hk_.1.2.2.2.2.2.2.1) e_))) (fun k_ hk_ => ⟨hk_.1.1.1, hk_.1.1.2.1, hk_.1.1.2.2.1, hk_.1.1.2.2.2.1, hk_.1.1.2.2.2.2.1, hk_.1.1.2.2.2.2.2.1, hk_.1.1.2.2.2.2.2.2.1, hk_.1.1.2.2.2.2.2.2.2.1, hk_.1.1.2.2.2.2.2.2.2.2⟩)); replace HO_383002 := as_ (Kd.R_mono (ok' := fun k_ => some k_ ≠ (.slice Ao47 t362.length co47 : Value).ownBlock ∧ some k_ ≠ (.slice Ao59 t411.length co59 : Value).ownBlock ∧ some k_ ≠ (.slice Ao83 t387.length co83 : Value).ownBlock) (Kd.R_keptB ((R_awayS (P := PS280) rfl HO_383002.out (fun k_ e_ => (hPS280 k_ e_).1.2.2.2.2.2.1))) hkp (fun k_ hk_ hs_ => Or.elim hs_ (fun e_ => (hk_.2) e_) (fun e_ => (hk_.1.2.2) e_))) (fun k_ hk_ => ⟨hk_.1.1.1, hk_.1.1.2.1, hk_.1.1.2.2⟩)); replace HO_392001 := as_ (Kd.S_mono hy0 (fun k_ e_ => (hPS280 k_ e_).1)); replace BK340 := as_ (blk_kept (bk_ BK340) hkp (fun hs_ => Or.elim hs_ (fun e_ => (fun e_ => (by first | exact far_S (hPS280 _ e_).2.2.2 BK340.out (by decide) | (have h_ := (hPS280 _ e_).1; simp at h_))) e_) (fun e_ => (fun e_ => (Kd.R_ne HO_392002.out BK340.out (by decide)) e_) e_))); replace BK341 := as_ (blk_kept (bk_ BK341) hkp (fun hs_ => Or.elim hs_ (fun e_ => (fun e_ => (by first | exact far_S (hPS280 _ e_).2.2.2 BK341.out (by decide) | (have h_ := (hPS280 _ e_).1; simp at h_))) e_) (fun e_ => (fun e_ => (Kd.R_ne HO_392002.out BK341.out (by decide)) e_) e_))); replace BK366 := as_ (blk_kept (bk_ BK366) hkp (fun hs_ => Or.elim hs_ (fun e_ => (fun e_ => (by first | exact far_S (hPS280 _ e_).2.2.2 BK366.out (by decide) | (have h_ := (hPS280 _ e_).1; simp at h_))) e_) (fun e_ => (fun e_ => (Kd.R_ne HO_392002.out BK366.out (by decide)) e_) e_))); replace BK374 := as_ (blk_kept (bk_ BK374) hkp (fun hs_ => Or.elim hs_ (fun e_ => (fun e_ => (by first | exact far_S (hPS280 _ e_).2.2.2 BK374.out (by decide) | (have h_ := (hPS280 _ e_).1; simp at h_))) e_) (fun e_ => (fun e_ => (Kd.R_ne HO_392002.out BK374.out (by decide)) e_) e_))); replace BK382 := as_ (blk_kept (bk_ BK382) hkp (fun hs_ => Or.elim hs_ (fun e_ => (fun e_ => (by first | exact far_S (hPS280 _ e_).2.2.2 BK382.out (by decide) | (have h_ := (hPS280 _ e_).1; simp at h_))) e_) (fun e_ => (fun e_ => (Kd.R_ne HO_392002.out BK382.out (by decide)) e_) e_))); replace BK391 := as_ (blk_kept (bk_ BK391) hkp (fun hs_ => Or.elim hs_ (fun e_ => (fun e_ => (by first | exact far_S (hPS280 _ e_).2.2.2 BK391.out (by decide) | (have h_ := (hPS280 _ e_).1; simp at h_))) e_) (fun e_ => (fun e_ => (Kd.R_ne HO_392002.out BK391.out (by decide)) e_) e_))); replace HO_392002 := as_ (Kd.R_reok rfl hy1 (fun k_ e_ => HO_392002.out.1 k_ e_)); replace HB := as_ (hb); (try clear hb); (try clear hkp); (try clear hy0); (try clear hy1); (try clear hPS280 kPS280); obtain ⟨hcz282_0, hfz282_0, hcz282_1, hfz282_1, hcz282_2, hfz282_2⟩ := tc3_ BK391) | ((with_reducible refine gate_callee (f := 13) rfl ?_); refine gL_ 92 Try.func13 #[.agg #[.int .i64 t383, .slice Ao82 t417.length co82, .slice Ao83 t418.length co83], .int .i64 1] ?_ (hargs := (by (try simp only [List.map_toArray, List.map_cons, List.map_nil]); first | done | (rw [show t417.length = t384.length from (Kd.S_reads' HO_392001.out).1.symm, show t418.length = t387.length from (Kd.R_reads' HO_392002.out).1.symm] <;> rfl) | rfl | (simp only [List.length_drop, List.length_take]; rfl))); (with_reducible refine (laws_heldAutomaton.calls kj118 t383 _ _ t417 _ _ t418 1 t419 _ ?side1 ?side2 ?side3 ?side4 A174.out).mono ?_); (case side1 => exact cC_ (Kd.S_reads' HO_392001.out).2.2); (case side2 => rw [show t417.length = t384.length from (Kd.S_reads' HO_392001.out).1.symm]; exact (Kd.S_reads' HO_392001.out).2.1); (case side3 => exact cC_ (Kd.R_reads' HO_392002.out).2.2); (case side4 => rw [show t418.length = t387.length from (Kd.R_reads' HO_392002.out).1.symm]; exact (Kd.R_reads' HO_392002.out).2.1); rintro e w283 ⟨rfl, hb⟩; refine ⟨_, rfl, ?_⟩; replace HO_367001 := sb_ HO_367001 hb; replace HO_367002 := rb_ HO_367002 hb; replace HO_375001 := sb_ HO_375001 hb; replace HO_375002 := rb_ HO_375002 hb; replace HO_383001 := sb_ HO_383001 hb; replace HO_383002 := rb_ HO_383002 hb; replace HO_392001 := sb_ HO_392001 hb; replace HO_392002 := rb_ HO_392002 hb; replace BK340 := kb_ BK340 hb; replace BK341 := kb_ BK341 hb; replace BK366 := kb_ BK366 hb; replace BK374 := kb_ BK374 hb; replace BK382 := kb_ BK382 hb; replace BK391 := kb_ BK391 hb; replace HB := as_ (below_step (b6_ HB GE340 GE341 GE366 GE374 GE382 GE391) hb); clear hb))
            go_ret
            exact ⟨re_, b6_ HB GE340 GE341 GE366 GE374 GE382 GE391⟩
          rw [if_pos c186] at H
          have c186b0 := beq_iff_eq.mpr c186
          have c186b1 := bne_eq_false_iff_eq.mpr c186
          clear c186
          obtain ⟨⟨t420, t421, t424⟩, A187, H⟩ := bo_ H
          dsimp only at H
          obtain ⟨⟨t427, t428, t431⟩, A188, H⟩ := bo_ H
          dsimp only at H
          obtain ⟨⟨t434, t435, t438, t441⟩, A189, H⟩ := bo_ H
          dsimp only at H
          have HC190 := as_ H
          clear H
          have hnb191 := NB391_340.out
          have hnc191 := NB340_391.out
          have hnb192 := NB391_341.out
          have hnc192 := NB341_391.out
          have hnb193 := NB391_366.out
          have hnc193 := NB366_391.out
          have hnb194 := NB391_374.out
          have hnc194 := NB374_391.out
          have hnb195 := NB391_382.out
          have hnc195 := NB382_391.out
          obtain ⟨hcz196_0, hfz196_0, hcz196_1, hfz196_1, hcz196_2, hfz196_2⟩ := tc3_ BK391
          try go_wp2_with (first | ((with_reducible refine gate_callee (f := 12) rfl ?_); refine gL_ 89 Try.func12 #[.agg #[.int .i64 t383, .slice Ao82 t384.length co82, .slice Ao83 t387.length co83], .int .i64 1] ?_; obtain ⟨PS197, hPS197, kPS197⟩ := S_open (HO_392001.out); (with_reducible refine (laws_markAutomaton.calls kj118 t383 PS197 (.slice Ao82 t384.length co82) t384 (fun k_ => some k_ = (.slice Ao83 t387.length co83 : Value).ownBlock) (.slice Ao83 t387.length co83) t387 1 t416 t417 t418 w _ ?side1 ?side2 ?side3 ?side4 A173.out).mono ?_); (case side1 => repeat (first | (with_reducible first | exact HB.out | apply below_alloc | apply pw_below_drewN | apply below_drew1 | refine below_set ?_ GE340.out | refine below_set ?_ GE341.out | refine below_set ?_ GE366.out | refine below_set ?_ GE374.out | refine below_set ?_ GE382.out | refine below_set ?_ GE391.out) | exact HB.out)); (case side2 => exact kPS197); (case side3 => exact fun k_ e_ e2_ => ((hPS197 k_ e_).1.2.2.2.2.2.2.1) e2_); (case side4 => exact Kd.R_tight rfl HO_392002.out); rintro e w198 ⟨rfl, hy0, hy1, hb, hkp⟩; refine ⟨_, rfl, ?_⟩; replace HO_367001 := as_ (Kd.S_mono (ok' := fun k_ => some k_ ≠ (.slice Ao47 t362.length co47 : Value).ownBlock ∧ some k_ ≠ (.slice Ao58 t410.length co58 : Value).ownBlock ∧ some k_ ≠ (.slice Ao59 t411.length co59 : Value).ownBlock ∧ some k_ ≠ (.slice Ao70 t413.length co70 : Value).ownBlock ∧ some k_ ≠ (.slice Ao71 t414.length co71 : Value).ownBlock ∧ some k_ ≠ (.slice Ao82 t384.length co82 : Value).ownBlock ∧ some k_ ≠ (.slice Ao83 t387.length co83 : Value).ownBlock ∧ k_ ≠ lt_ N52 k_ ∧ k_ ≠ lt_ N63 k_ ∧ k_ ≠ lt_ N74 k_) (Kd.S_keptB ((S_awayP (P := PS197) HO_367001.out (fun k_ h_ e_ => no_lap (h_.2.2.2.2.2.2.2.2.2) ((hPS197 k_ e_).1.2.2.2.2.2.2.2)))) hkp (fun k_ hk_ hs_ => Or.elim hs_ (fun e_ => (hk_.2) e_) (fun e_ => (hk_.1.2.2.2.2.2.2.1) e_))) (fun k_ hk_ => ⟨hk_.1.1.1, hk_.1.1.2.1, hk_.1.1.2.2.1, hk_.1.1.2.2.2.1, hk_.1.1.2.2.2.2.1, hk_.1.1.2.2.2.2.2.1, hk_.1.1.2.2.2.2.2.2.1, hk_.1.1.2.2.2.2.2.2.2.1, hk_.1.1.2.2.2.2.2.2.2.2.1, hk_.1.1.2.2.2.2.2.2.2.2.2⟩)); replace HO_367002 := as_ (Kd.R_mono (ok' := fun k_ => some k_ ≠ (.slice Ao59 t411.length co59 : Value).ownBlock ∧ some k_ ≠ (.slice Ao71 t414.length co71 : Value).ownBlock ∧ some k_ ≠ (.slice Ao83 t387.length co83 : Value).ownBlock) (Kd.R_keptB ((R_awayS (P := PS197) rfl HO_367002.out (fun k_ e_ => (hPS197 k_ e_).1.2.1))) hkp (fun k_ hk_ hs_ => Or.elim hs_ (fun e_ => (hk_.2) e_) (fun e_ => (hk_.1.2.2) e_))) (fun k_ hk_ => ⟨hk_.1.1.1, hk_.1.1.2.1, hk_.1.1.2.2⟩)); replace HO_375001 := as_ (Kd.S_mono (ok' := fun k_ => some k_ ≠ (.slice Ao45 t359.length co45 : Value).ownBlock ∧ some k_ ≠ (.slice Ao47 t362.length co47 : Value).ownBlock ∧ some k_ ≠ (.slice Ao59 t411.length co59 : Value).ownBlock ∧ some k_ ≠ (.slice Ao70 t413.length co70 : Value).ownBlock ∧ some k_ ≠ (.slice Ao71 t414.length co71 : Value).ownBlock ∧ some k_ ≠ (.slice Ao82 t384.length co82 : Value).ownBlock ∧ some k_ ≠ (.slice Ao83 t387.length co83 : Value).ownBlock ∧ k_ ≠ ge_ N52 k_ ∧ k_ ≠ lt_ N63 k_ ∧ k_ ≠ lt_ N74 k_) (Kd.S_keptB ((S_awayP (P := PS197) HO_375001.out (fun k_ h_ e_ => no_lap (h_.2.2.2.2.2.2.2.2.2) ((hPS197 k_ e_).1.2.2.2.2.2.2.2)))) hkp (fun k_ hk_ hs_ => Or.elim hs_ (fun e_ => (hk_.2) e_) (fun e_ => (hk_.1.2.2.2.2.2.2.1) e_))) (fun k_ hk_ => ⟨hk_.1.1.1, hk_.1.1.2.1, hk_.1.1.2.2.1, hk_.1.1.2.2.2.1, hk_.1.1.2.2.2.2.1, hk_.1.1.2.2.2.2.2.1, hk_.1.1.2.2.2.2.2.2.1, hk_.1.1.2.2.2.2.2.2.2.1, hk_.1.1.2.2.2.2.2.2.2.2.1, hk_.1.1.2.2.2.2.2.2.2.2.2⟩)); replace HO_375002 := as_ (Kd.R_mono (ok' := fun k_ => some k_ ≠ (.slice Ao47 t362.length co47 : Value).ownBlock ∧ some k_ ≠ (.slice Ao71 t414.length co71 : Value).ownBlock ∧ some k_ ≠ (.slice Ao83 t387.length co83 : Value).ownBlock) (Kd.R_keptB ((R_awayS (P := PS197) rfl HO_375002.out (fun k_ e_ => (hPS197 k_ e_).1.2.2.2.1))) hkp (fun k_ hk_ hs_ => Or.elim hs_ (fun e_ => (hk_.2) e_) (fun e_ => (hk_.1.2.2) e_))) (fun k_ hk_ => ⟨hk_.1.1.1, hk_.1.1.2.1, hk_.1.1.2.2⟩)); replace HO_383001 := as_ (Kd.S_mono (ok' := fun k_ => some k_ ≠ (.slice Ao45 t359.length co45 : Value).ownBlock ∧ some k_ ≠ (.slice Ao47 t362.length co47 : Value).ownBlock ∧ some k_ ≠ (.slice Ao58 t410.length co58 : Value).ownBlock ∧ some k_ ≠ (.slice Ao59 t411.length co59 : Value).ownBlock ∧ some k_ ≠ (.slice Ao71 t414.length co71 : Value).ownBlock ∧ some k_ ≠ (.slice Ao82 t384.length co82 : Value).ownBlock ∧ some k_ ≠ (.slice Ao83 t387.length co83 : Value).ownBlock ∧ k_ ≠ ge_ N63 k_ ∧ k_ ≠ lt_ N74 k_) (Kd.S_keptB ((S_awayP (P := PS197) HO_383001.out (fun k_ h_ e_ => no_lap (h_.2.2.2.2.2.2.2.2) ((hPS197 k_ e_).1.2.2.2.2.2.2.2)))) hkp (fun k_ hk_ hs_ => Or.elim hs_ (fun e_ => (hk_.2) e_) (fun e_ => (hk_.1.2.2.2.2.2.2.1) e_))) (fun k_ hk_ => ⟨hk_.1.1.1, hk_.1.1.2.1, hk_.1.1.2.2.1, hk_.1.1.2.2.2.1, hk_.1.1.2.2.2.2.1, hk_.1.1.2.2.2.2.2.1, hk_.1.1.2.2.2.2.2.2.1, hk_.1.1.2.2.2.2.2.2.2.1, hk_.1.1.2.2.2.2.2.2.2.2⟩)); replace HO_383002 := as_ (Kd.R_mono (ok' := fun k_ => some k_ ≠ (.slice Ao47 t362.length co47 : Value).ownBlock ∧ some k_ ≠ (.slice Ao59 t411.length co59 : Value).ownBlock ∧ some k_ ≠ (.slice Ao83 t387.length co83 : Value).ownBlock) (Kd.R_keptB ((R_awayS (P := PS197) rfl HO_383002.out (fun k_ e_ => (hPS197 k_ e_).1.2.2.2.2.2.1))) hkp (fun k_ hk_ hs_ => Or.elim hs_ (fun e_ => (hk_.2) e_) (fun e_ => (hk_.1.2.2) e_))) (fun k_ hk_ => ⟨hk_.1.1.1, hk_.1.1.2.1, hk_.1.1.2.2⟩)); replace HO_392001 := as_ (Kd.S_mono hy0 (fun k_ e_ => (hPS197 k_ e_).1)); replace BK340 := as_ (blk_kept (bk_ BK340) hkp (fun hs_ => Or.elim hs_ (fun e_ => (fun e_ => (by first | exact far_S (hPS197 _ e_).2.2.2 BK340.out (by decide) | (have h_ := (hPS197 _ e_).1; simp at h_))) e_) (fun e_ => (fun e_ => (Kd.R_ne HO_392002.out BK340.out (by decide)) e_) e_))); replace BK341 := as_ (blk_kept (bk_ BK341) hkp (fun hs_ => Or.elim hs_ (fun e_ => (fun e_ => (by first | exact far_S (hPS197 _ e_).2.2.2 BK341.out (by decide) | (have h_ := (hPS197 _ e_).1; simp at h_))) e_) (fun e_ => (fun e_ => (Kd.R_ne HO_392002.out BK341.out (by decide)) e_) e_))); replace BK366 := as_ (blk_kept (bk_ BK366) hkp (fun hs_ => Or.elim hs_ (fun e_ => (fun e_ => (by first | exact far_S (hPS197 _ e_).2.2.2 BK366.out (by decide) | (have h_ := (hPS197 _ e_).1; simp at h_))) e_) (fun e_ => (fun e_ => (Kd.R_ne HO_392002.out BK366.out (by decide)) e_) e_))); replace BK374 := as_ (blk_kept (bk_ BK374) hkp (fun hs_ => Or.elim hs_ (fun e_ => (fun e_ => (by first | exact far_S (hPS197 _ e_).2.2.2 BK374.out (by decide) | (have h_ := (hPS197 _ e_).1; simp at h_))) e_) (fun e_ => (fun e_ => (Kd.R_ne HO_392002.out BK374.out (by decide)) e_) e_))); replace BK382 := as_ (blk_kept (bk_ BK382) hkp (fun hs_ => Or.elim hs_ (fun e_ => (fun e_ => (by first | exact far_S (hPS197 _ e_).2.2.2 BK382.out (by decide) | (have h_ := (hPS197 _ e_).1; simp at h_))) e_) (fun e_ => (fun e_ => (Kd.R_ne HO_392002.out BK382.out (by decide)) e_) e_))); replace BK391 := as_ (blk_kept (bk_ BK391) hkp (fun hs_ => Or.elim hs_ (fun e_ => (fun e_ => (by first | exact far_S (hPS197 _ e_).2.2.2 BK391.out (by decide) | (have h_ := (hPS197 _ e_).1; simp at h_))) e_) (fun e_ => (fun e_ => (Kd.R_ne HO_392002.out BK391.out (by decide)) e_) e_))); replace HO_392002 := as_ (Kd.R_reok rfl hy1 (fun k_ e_ => HO_392002.out.1 k_ e_)); replace HB := as_ (hb); (try clear hb); (try clear hkp); (try clear hy0); (try clear hy1); (try clear hPS197 kPS197); obtain ⟨hcz199_0, hfz199_0, hcz199_1, hfz199_1, hcz199_2, hfz199_2⟩ := tc3_ BK391) | ((with_reducible refine gate_callee (f := 13) rfl ?_); refine gL_ 92 Try.func13 #[.agg #[.int .i64 t383, .slice Ao82 t417.length co82, .slice Ao83 t418.length co83], .int .i64 1] ?_ (hargs := (by (try simp only [List.map_toArray, List.map_cons, List.map_nil]); first | done | (rw [show t417.length = t384.length from (Kd.S_reads' HO_392001.out).1.symm, show t418.length = t387.length from (Kd.R_reads' HO_392002.out).1.symm] <;> rfl) | rfl | (simp only [List.length_drop, List.length_take]; rfl))); (with_reducible refine (laws_heldAutomaton.calls kj118 t383 _ _ t417 _ _ t418 1 t419 _ ?side1 ?side2 ?side3 ?side4 A174.out).mono ?_); (case side1 => exact cC_ (Kd.S_reads' HO_392001.out).2.2); (case side2 => rw [show t417.length = t384.length from (Kd.S_reads' HO_392001.out).1.symm]; exact (Kd.S_reads' HO_392001.out).2.1); (case side3 => exact cC_ (Kd.R_reads' HO_392002.out).2.2); (case side4 => rw [show t418.length = t387.length from (Kd.R_reads' HO_392002.out).1.symm]; exact (Kd.R_reads' HO_392002.out).2.1); rintro e w200 ⟨rfl, hb⟩; refine ⟨_, rfl, ?_⟩; replace HO_367001 := sb_ HO_367001 hb; replace HO_367002 := rb_ HO_367002 hb; replace HO_375001 := sb_ HO_375001 hb; replace HO_375002 := rb_ HO_375002 hb; replace HO_383001 := sb_ HO_383001 hb; replace HO_383002 := rb_ HO_383002 hb; replace HO_392001 := sb_ HO_392001 hb; replace HO_392002 := rb_ HO_392002 hb; replace BK340 := kb_ BK340 hb; replace BK341 := kb_ BK341 hb; replace BK366 := kb_ BK366 hb; replace BK374 := kb_ BK374 hb; replace BK382 := kb_ BK382 hb; replace BK391 := kb_ BK391 hb; replace HB := as_ (below_step (b6_ HB GE340 GE341 GE366 GE374 GE382 GE391) hb); clear hb))
          replace HO_367001 := dS_ HO_367001; replace HO_367002 := dR_ HO_367002; replace HO_375001 := dS_ HO_375001; replace HO_375002 := dR_ HO_375002; replace HO_383001 := dS_ HO_383001; replace HO_383002 := dR_ HO_383002; replace HO_392001 := dS_ HO_392001; replace HO_392002 := dR_ HO_392002; replace BK340 := dk_ BK340; replace BK341 := dk_ BK341; replace BK366 := dk_ BK366; replace BK374 := dk_ BK374; replace BK382 := dk_ BK382; replace BK391 := dk_ BK391; replace HB := db_ HB
          refine start_ (n := 12) (S := fun w' => w'.cell? ⟨gb340, 0, none⟩ = some (.int .i64 a0_0) ∧ w'.cell? ⟨gb340, 1, none⟩ = some (.slice A0_1 l0_1.length c0_1) ∧ w'.cell? ⟨gb340, 2, none⟩ = some (.slice A0_2 l0_2.length c0_2) ∧ w'.cell? ⟨gb341, 0, none⟩ = some (.int .i64 a1_0) ∧ w'.cell? ⟨gb341, 1, none⟩ = some (.slice A1_1 l1_1.length c1_1) ∧ w'.cell? ⟨gb341, 2, none⟩ = some (.slice A1_2 l1_2.length c1_2)) (ds := []) #[false, false, false, false, false, false, false, false, false, false, false, false] (by kernel_rfl) rfl rfl (tz3_ BK340 (ty3_ BK341)) (fun hHeld => ?_); refine with_tabW laws_FnExactCombineAutomata.tab31 laws_FnExactCombineAutomata.bits31 (fun HT_ HW_ => ?_)
          generalize w200.drew = w201 at HO_367001 HO_367002 HO_375001 HO_375002 HO_383001 HO_383002 HO_392001 HO_392002 BK340 BK341 BK366 BK374 BK382 BK391 HB hHeld ⊢
          refine pu_ 4 103 HT_ ?_
          refine tk_ 0 99 HT_ HW_ hHeld ?_
          refine tk_ 2 101 HT_ HW_ hHeld ?_
          refine join_ (σ := Value × Value × Value × Value × Value × Value × Nat) 2 #[true, true, true, true, true, true, true, true, true, true, false, false] (fun s_ => [(100, .agg #[.int .i64 t420, s_.1, s_.2.1]), (102, .agg #[.int .i64 t427, s_.2.2.1, s_.2.2.2.1]), (104, .tuple #[.agg #[.int .i64 t434, s_.2.2.2.2.1, s_.2.2.2.2.2.1], .int .i64 t441]), (17, .pointer (some ⟨s_.2.2.2.2.2.2, 0, none⟩)), (98, .tuple #[.agg #[.int .i64 t434, s_.2.2.2.2.1, s_.2.2.2.2.2.1], .int .i64 t441]), (105, .agg #[.int .i64 t434, s_.2.2.2.2.1, s_.2.2.2.2.2.1]), (106, .int .i64 t441)]) (fun s_ w' => (w'.cell? ⟨gb340, 0, none⟩ = some (.int .i64 a0_0) ∧ w'.cell? ⟨gb340, 1, none⟩ = some (.slice A0_1 l0_1.length c0_1) ∧ w'.cell? ⟨gb340, 2, none⟩ = some (.slice A0_2 l0_2.length c0_2) ∧ w'.cell? ⟨gb341, 0, none⟩ = some (.int .i64 a1_0) ∧ w'.cell? ⟨gb341, 1, none⟩ = some (.slice A1_1 l1_1.length c1_1) ∧ w'.cell? ⟨gb341, 2, none⟩ = some (.slice A1_2 l1_2.length c1_2)) ∧ (Kd.S (Kd.slice 2 (Kd.int .i64)) 23 w' w.heap.size (fun k_ => some k_ ≠ (s_.2.1 : Value).ownBlock ∧ some k_ ≠ (s_.2.2.1 : Value).ownBlock ∧ some k_ ≠ (s_.2.2.2.1 : Value).ownBlock ∧ some k_ ≠ (s_.2.2.2.2.1 : Value).ownBlock ∧ some k_ ≠ (s_.2.2.2.2.2.1 : Value).ownBlock ∧ some k_ ≠ (.slice Ao45 t359.length co45 : Value).ownBlock ∧ some k_ ≠ (.slice Ao47 t362.length co47 : Value).ownBlock ∧ some k_ ≠ (.slice Ao58 t410.length co58 : Value).ownBlock ∧ some k_ ≠ (.slice Ao59 t411.length co59 : Value).ownBlock ∧ some k_ ≠ (.slice Ao70 t413.length co70 : Value).ownBlock ∧ some k_ ≠ (.slice Ao71 t414.length co71 : Value).ownBlock ∧ some k_ ≠ (.slice Ao82 t384.length co82 : Value).ownBlock ∧ some k_ ≠ (.slice Ao83 t387.length co83 : Value).ownBlock) s_.1 t421) ∧ (Kd.R (Kd.int .i64) 2 w' w.heap.size (fun k_ => some k_ ≠ (s_.2.2.2.1 : Value).ownBlock ∧ some k_ ≠ (s_.2.2.2.2.2.1 : Value).ownBlock ∧ some k_ ≠ (.slice Ao47 t362.length co47 : Value).ownBlock ∧ some k_ ≠ (.slice Ao59 t411.length co59 : Value).ownBlock ∧ some k_ ≠ (.slice Ao71 t414.length co71 : Value).ownBlock ∧ some k_ ≠ (.slice Ao83 t387.length co83 : Value).ownBlock) s_.2.1 t424) ∧ (Kd.S (Kd.slice 2 (Kd.int .i64)) 23 w' w.heap.size (fun k_ => some k_ ≠ (s_.1 : Value).ownBlock ∧ some k_ ≠ (s_.2.1 : Value).ownBlock ∧ some k_ ≠ (s_.2.2.2.1 : Value).ownBlock ∧ some k_ ≠ (s_.2.2.2.2.1 : Value).ownBlock ∧ some k_ ≠ (s_.2.2.2.2.2.1 : Value).ownBlock ∧ some k_ ≠ (.slice Ao45 t359.length co45 : Value).ownBlock ∧ some k_ ≠ (.slice Ao47 t362.length co47 : Value).ownBlock ∧ some k_ ≠ (.slice Ao58 t410.length co58 : Value).ownBlock ∧ some k_ ≠ (.slice Ao59 t411.length co59 : Value).ownBlock ∧ some k_ ≠ (.slice Ao70 t413.length co70 : Value).ownBlock ∧ some k_ ≠ (.slice Ao71 t414.length co71 : Value).ownBlock ∧ some k_ ≠ (.slice Ao82 t384.length co82 : Value).ownBlock ∧ some k_ ≠ (.slice Ao83 t387.length co83 : Value).ownBlock) s_.2.2.1 t428) ∧ (Kd.R (Kd.int .i64) 2 w' w.heap.size (fun k_ => some k_ ≠ (s_.2.1 : Value).ownBlock ∧ some k_ ≠ (s_.2.2.2.2.2.1 : Value).ownBlock ∧ some k_ ≠ (.slice Ao47 t362.length co47 : Value).ownBlock ∧ some k_ ≠ (.slice Ao59 t411.length co59 : Value).ownBlock ∧ some k_ ≠ (.slice Ao71 t414.length co71 : Value).ownBlock ∧ some k_ ≠ (.slice Ao83 t387.length co83 : Value).ownBlock) s_.2.2.2.1 t431) ∧ (Kd.S (Kd.slice 2 (Kd.int .i64)) 23 w' w.heap.size (fun k_ => some k_ ≠ (s_.1 : Value).ownBlock ∧ some k_ ≠ (s_.2.1 : Value).ownBlock ∧ some k_ ≠ (s_.2.2.1 : Value).ownBlock ∧ some k_ ≠ (s_.2.2.2.1 : Value).ownBlock ∧ some k_ ≠ (s_.2.2.2.2.2.1 : Value).ownBlock ∧ some k_ ≠ (.slice Ao45 t359.length co45 : Value).ownBlock ∧ some k_ ≠ (.slice Ao47 t362.length co47 : Value).ownBlock ∧ some k_ ≠ (.slice Ao58 t410.length co58 : Value).ownBlock ∧ some k_ ≠ (.slice Ao59 t411.length co59 : Value).ownBlock ∧ some k_ ≠ (.slice Ao70 t413.length co70 : Value).ownBlock ∧ some k_ ≠ (.slice Ao71 t414.length co71 : Value).ownBlock ∧ some k_ ≠ (.slice Ao82 t384.length co82 : Value).ownBlock ∧ some k_ ≠ (.slice Ao83 t387.length co83 : Value).ownBlock) s_.2.2.2.2.1 t435) ∧ (Kd.R (Kd.int .i64) 2 w' w.heap.size (fun k_ => some k_ ≠ (s_.2.1 : Value).ownBlock ∧ some k_ ≠ (s_.2.2.2.1 : Value).ownBlock ∧ some k_ ≠ (.slice Ao47 t362.length co47 : Value).ownBlock ∧ some k_ ≠ (.slice Ao59 t411.length co59 : Value).ownBlock ∧ some k_ ≠ (.slice Ao71 t414.length co71 : Value).ownBlock ∧ some k_ ≠ (.slice Ao83 t387.length co83 : Value).ownBlock) s_.2.2.2.2.2.1 t438) ∧ (Kd.S (Kd.slice 2 (Kd.int .i64)) 23 w' w.heap.size (fun k_ => some k_ ≠ (s_.1 : Value).ownBlock ∧ some k_ ≠ (s_.2.1 : Value).ownBlock ∧ some k_ ≠ (s_.2.2.1 : Value).ownBlock ∧ some k_ ≠ (s_.2.2.2.1 : Value).ownBlock ∧ some k_ ≠ (s_.2.2.2.2.1 : Value).ownBlock ∧ some k_ ≠ (s_.2.2.2.2.2.1 : Value).ownBlock ∧ some k_ ≠ (.slice Ao47 t362.length co47 : Value).ownBlock ∧ some k_ ≠ (.slice Ao58 t410.length co58 : Value).ownBlock ∧ some k_ ≠ (.slice Ao59 t411.length co59 : Value).ownBlock ∧ some k_ ≠ (.slice Ao70 t413.length co70 : Value).ownBlock ∧ some k_ ≠ (.slice Ao71 t414.length co71 : Value).ownBlock ∧ some k_ ≠ (.slice Ao82 t384.length co82 : Value).ownBlock ∧ some k_ ≠ (.slice Ao83 t387.length co83 : Value).ownBlock ∧ k_ ≠ lt_ N52 k_ ∧ k_ ≠ lt_ N63 k_ ∧ k_ ≠ lt_ N74 k_) (.slice Ao45 t359.length co45) t359) ∧ (Kd.R (Kd.int .i64) 2 w' w.heap.size (fun k_ => some k_ ≠ (s_.2.1 : Value).ownBlock ∧ some k_ ≠ (s_.2.2.2.1 : Value).ownBlock ∧ some k_ ≠ (s_.2.2.2.2.2.1 : Value).ownBlock ∧ some k_ ≠ (.slice Ao59 t411.length co59 : Value).ownBlock ∧ some k_ ≠ (.slice Ao71 t414.length co71 : Value).ownBlock ∧ some k_ ≠ (.slice Ao83 t387.length co83 : Value).ownBlock) (.slice Ao47 t362.length co47) t362) ∧ (Kd.S (Kd.slice 2 (Kd.int .i64)) 23 w' w.heap.size (fun k_ => some k_ ≠ (s_.1 : Value).ownBlock ∧ some k_ ≠ (s_.2.1 : Value).ownBlock ∧ some k_ ≠ (s_.2.2.1 : Value).ownBlock ∧ some k_ ≠ (s_.2.2.2.1 : Value).ownBlock ∧ some k_ ≠ (s_.2.2.2.2.1 : Value).ownBlock ∧ some k_ ≠ (s_.2.2.2.2.2.1 : Value).ownBlock ∧ some k_ ≠ (.slice Ao45 t359.length co45 : Value).ownBlock ∧ some k_ ≠ (.slice Ao47 t362.length co47 : Value).ownBlock ∧ some k_ ≠ (.slice Ao59 t411.length co59 : Value).ownBlock ∧ some k_ ≠ (.slice Ao70 t413.length co70 : Value).ownBlock ∧ some k_ ≠ (.slice Ao71 t414.length co71 : Value).ownBlock ∧ some k_ ≠ (.slice Ao82 t384.length co82 : Value).ownBlock ∧ some k_ ≠ (.slice Ao83 t387.length co83 : Value).ownBlock ∧ k_ ≠ ge_ N52 k_ ∧ k_ ≠ lt_ N63 k_ ∧ k_ ≠ lt_ N74 k_) (.slice Ao58 t410.length co58) t410) ∧ (Kd.R (Kd.int .i64) 2 w' w.heap.size (fun k_ => some k_ ≠ (s_.2.1 : Value).ownBlock ∧ some k_ ≠ (s_.2.2.2.1 : Value).ownBlock ∧ some k_ ≠ (s_.2.2.2.2.2.1 : Value).ownBlock ∧ some k_ ≠ (.slice Ao47 t362.length co47 : Value).ownBlock ∧ some k_ ≠ (.slice Ao71 t414.length co71 : Value).ownBlock ∧ some k_ ≠ (.slice Ao83 t387.length co83 : Value).ownBlock) (.slice Ao59 t411.length co59) t411) ∧ (Kd.S (Kd.slice 2 (Kd.int .i64)) 23 w' w.heap.size (fun k_ => some k_ ≠ (s_.1 : Value).ownBlock ∧ some k_ ≠ (s_.2.1 : Value).ownBlock ∧ some k_ ≠ (s_.2.2.1 : Value).ownBlock ∧ some k_ ≠ (s_.2.2.2.1 : Value).ownBlock ∧ some k_ ≠ (s_.2.2.2.2.1 : Value).ownBlock ∧ some k_ ≠ (s_.2.2.2.2.2.1 : Value).ownBlock ∧ some k_ ≠ (.slice Ao45 t359.length co45 : Value).ownBlock ∧ some k_ ≠ (.slice Ao47 t362.length co47 : Value).ownBlock ∧ some k_ ≠ (.slice Ao58 t410.length co58 : Value).ownBlock ∧ some k_ ≠ (.slice Ao59 t411.length co59 : Value).ownBlock ∧ some k_ ≠ (.slice Ao71 t414.length co71 : Value).ownBlock ∧ some k_ ≠ (.slice Ao82 t384.length co82 : Value).ownBlock ∧ some k_ ≠ (.slice Ao83 t387.length co83 : Value).ownBlock ∧ k_ ≠ ge_ N63 k_ ∧ k_ ≠ lt_ N74 k_) (.slice Ao70 t413.length co70) t413) ∧ (Kd.R (Kd.int .i64) 2 w' w.heap.size (fun k_ => some k_ ≠ (s_.2.1 : Value).ownBlock ∧ some k_ ≠ (s_.2.2.2.1 : Value).ownBlock ∧ some k_ ≠ (s_.2.2.2.2.2.1 : Value).ownBlock ∧ some k_ ≠ (.slice Ao47 t362.length co47 : Value).ownBlock ∧ some k_ ≠ (.slice Ao59 t411.length co59 : Value).ownBlock ∧ some k_ ≠ (.slice Ao83 t387.length co83 : Value).ownBlock) (.slice Ao71 t414.length co71) t414) ∧ (Kd.S (Kd.slice 2 (Kd.int .i64)) 23 w' w.heap.size (fun k_ => some k_ ≠ (s_.1 : Value).ownBlock ∧ some k_ ≠ (s_.2.1 : Value).ownBlock ∧ some k_ ≠ (s_.2.2.1 : Value).ownBlock ∧ some k_ ≠ (s_.2.2.2.1 : Value).ownBlock ∧ some k_ ≠ (s_.2.2.2.2.1 : Value).ownBlock ∧ some k_ ≠ (s_.2.2.2.2.2.1 : Value).ownBlock ∧ some k_ ≠ (.slice Ao45 t359.length co45 : Value).ownBlock ∧ some k_ ≠ (.slice Ao47 t362.length co47 : Value).ownBlock ∧ some k_ ≠ (.slice Ao58 t410.length co58 : Value).ownBlock ∧ some k_ ≠ (.slice Ao59 t411.length co59 : Value).ownBlock ∧ some k_ ≠ (.slice Ao70 t413.length co70 : Value).ownBlock ∧ some k_ ≠ (.slice Ao71 t414.length co71 : Value).ownBlock ∧ some k_ ≠ (.slice Ao83 t387.length co83 : Value).ownBlock ∧ k_ ≠ ge_ N74 k_) (.slice Ao82 t384.length co82) t417) ∧ (Kd.R (Kd.int .i64) 2 w' w.heap.size (fun k_ => some k_ ≠ (s_.2.1 : Value).ownBlock ∧ some k_ ≠ (s_.2.2.2.1 : Value).ownBlock ∧ some k_ ≠ (s_.2.2.2.2.2.1 : Value).ownBlock ∧ some k_ ≠ (.slice Ao47 t362.length co47 : Value).ownBlock ∧ some k_ ≠ (.slice Ao59 t411.length co59 : Value).ownBlock ∧ some k_ ≠ (.slice Ao71 t414.length co71 : Value).ownBlock) (.slice Ao83 t387.length co83) t418) ∧ (w'.heap[gb340]? = some (.cells #[.int .i64 a0_0, .slice A0_1 l0_1.length c0_1, .slice A0_2 l0_2.length c0_2] 25 (0, 0))) ∧ (w'.heap[gb341]? = some (.cells #[.int .i64 a1_0, .slice A1_1 l1_1.length c1_1, .slice A1_2 l1_2.length c1_2] 25 (0, 0))) ∧ (w'.heap[gb366]? = some (.cells #[.int .i64 t358, .slice Ao45 t359.length co45, .slice Ao47 t362.length co47] 29 (0, 0))) ∧ (w'.heap[gb374]? = some (.cells #[.int .i64 t367, .slice Ao58 t410.length co58, .slice Ao59 t411.length co59] 29 (0, 0))) ∧ (w'.heap[gb382]? = some (.cells #[.int .i64 t375, .slice Ao70 t413.length co70, .slice Ao71 t414.length co71] 29 (0, 0))) ∧ (w'.heap[gb391]? = some (.cells #[.int .i64 t383, .slice Ao82 t384.length co82, .slice Ao83 t387.length co83] 29 (0, 0))) ∧ (w'.heap[s_.2.2.2.2.2.2]? = some (.cells #[.int .i64 0, .slice none 0 0, .slice none 0 0] 29 (0, 0))) ∧ (w.heap.size ≤ s_.2.2.2.2.2.2) ∧ (w.heap.size ≤ s_.2.2.2.2.2.2) ∧ (gb340 ≠ s_.2.2.2.2.2.2) ∧ (s_.2.2.2.2.2.2 ≠ gb340) ∧ (gb341 ≠ s_.2.2.2.2.2.2) ∧ (s_.2.2.2.2.2.2 ≠ gb341) ∧ (gb366 ≠ s_.2.2.2.2.2.2) ∧ (s_.2.2.2.2.2.2 ≠ gb366) ∧ (gb374 ≠ s_.2.2.2.2.2.2) ∧ (s_.2.2.2.2.2.2 ≠ gb374) ∧ (gb382 ≠ s_.2.2.2.2.2.2) ∧ (s_.2.2.2.2.2.2 ≠ gb382) ∧ (gb391 ≠ s_.2.2.2.2.2.2) ∧ (s_.2.2.2.2.2.2 ≠ gb391) ∧ (Below w.heap.size w w')) ?_ ?_
          rotate_left
          · intro hCont
            refine tw_ 1 9 (some 100) (some 17) HT_ (fun K hK => ?_) (fun K hK => ?_)
            · skip
              refine gR_ Try.func7 #[.agg #[.int .i64 a0_0, .slice A0_1 l0_1.length c0_1, .slice A0_2 l0_2.length c0_2]] ?_
              with_reducible refine (laws_toAutomaton.calls kj118 a0_0 _ _ l0_1 _ _ l0_2 t420 t421 t424 _ ?side1 ?side2 ?side3 ?side4 A187.out).mono ?_
              (case side1 => exact bC_ HR0_1 HB)
              (case side2 => exact HC0_1.out)
              (case side3 => exact bC_ HR0_2 HB)
              (case side4 => exact HC0_2.out)
              rintro e w202 ⟨v422, v425, rfl, ho0, ho1, hb⟩
              refine ⟨_, rfl, ?_⟩
              have HO423 := as_ (Kd.S_lower (nSR_ (nSS_ (nSR_ (nSS_ (nSR_ (nSS_ (nSR_ (nSS_ ho0 HO_367001) HO_367002) HO_375001) HO_375002) HO_383001) HO_383002) HO_392001) HO_392002) (below_size (b6_ HB GE340 GE341 GE366 GE374 GE382 GE391))); replace HO_367001 := so2_ (bS_ HO_367001) hb (Kd.S_base ho0) (Kd.R_base ho1); replace HO_375001 := so2_ (bS_ HO_375001) hb (Kd.S_base ho0) (Kd.R_base ho1); replace HO_383001 := so2_ (bS_ HO_383001) hb (Kd.S_base ho0) (Kd.R_base ho1); replace HO_392001 := so2_ (bS_ HO_392001) hb (Kd.S_base ho0) (Kd.R_base ho1); have HO426 := as_ (Kd.R_lower (nRR_ (nRR_ (nRR_ (nRR_ ho1 HO_367002) HO_375002) HO_383002) HO_392002) (below_size (b6_ HB GE340 GE341 GE366 GE374 GE382 GE391))); replace HO_367002 := eR_ HO_367002 (Kd.R_base ho1) hb; replace HO_375002 := eR_ HO_375002 (Kd.R_base ho1) hb; replace HO_383002 := eR_ HO_383002 (Kd.R_base ho1) hb; replace HO_392002 := eR_ HO_392002 (Kd.R_base ho1) hb; replace BK340 := kb_ BK340 hb; replace BK341 := kb_ BK341 hb; replace BK366 := kb_ BK366 hb; replace BK374 := kb_ BK374 hb; replace BK382 := kb_ BK382 hb; replace BK391 := kb_ BK391 hb; replace HB := as_ (below_step (b6_ HB GE340 GE341 GE366 GE374 GE382 GE391) hb)
              clear hb ho0 ho1
              refine hK.out _ _ (tz3_ BK340 (ty3_ BK341)) (fun hHeld => ?_)
              clear hK K
              refine nm_ 100 ?_
              refine tw_ 3 9 (some 102) (some 17) HT_ (fun K hK => ?_) (fun K hK => ?_)
              · skip
                refine gR_ Try.func7 #[.agg #[.int .i64 a1_0, .slice A1_1 l1_1.length c1_1, .slice A1_2 l1_2.length c1_2]] ?_
                with_reducible refine (laws_toAutomaton.calls kj118 a1_0 _ _ l1_1 _ _ l1_2 t427 t428 t431 _ ?side1 ?side2 ?side3 ?side4 A188.out).mono ?_
                (case side1 => exact bC_ HR1_1 HB)
                (case side2 => exact HC1_1.out)
                (case side3 => exact bC_ HR1_2 HB)
                (case side4 => exact HC1_2.out)
                rintro e w203 ⟨v429, v432, rfl, ho0, ho1, hb⟩
                refine ⟨_, rfl, ?_⟩
                have HO430 := as_ (Kd.S_lower (nSR_ (nSS_ (nSR_ (nSS_ (nSR_ (nSS_ (nSR_ (nSS_ (nSR_ (nSS_ ho0 HO_367001) HO_367002) HO_375001) HO_375002) HO_383001) HO_383002) HO_392001) HO_392002) HO423) HO426) (below_size (b6_ HB GE340 GE341 GE366 GE374 GE382 GE391))); replace HO_367001 := so2_ (bS_ HO_367001) hb (Kd.S_base ho0) (Kd.R_base ho1); replace HO_375001 := so2_ (bS_ HO_375001) hb (Kd.S_base ho0) (Kd.R_base ho1); replace HO_383001 := so2_ (bS_ HO_383001) hb (Kd.S_base ho0) (Kd.R_base ho1); replace HO_392001 := so2_ (bS_ HO_392001) hb (Kd.S_base ho0) (Kd.R_base ho1); replace HO423 := so2_ (bS_ HO423) hb (Kd.S_base ho0) (Kd.R_base ho1); have HO433 := as_ (Kd.R_lower (nRR_ (nRR_ (nRR_ (nRR_ (nRR_ ho1 HO_367002) HO_375002) HO_383002) HO_392002) HO426) (below_size (b6_ HB GE340 GE341 GE366 GE374 GE382 GE391))); replace HO_367002 := eR_ HO_367002 (Kd.R_base ho1) hb; replace HO_375002 := eR_ HO_375002 (Kd.R_base ho1) hb; replace HO_383002 := eR_ HO_383002 (Kd.R_base ho1) hb; replace HO_392002 := eR_ HO_392002 (Kd.R_base ho1) hb; replace HO426 := eR_ HO426 (Kd.R_base ho1) hb; replace BK340 := kb_ BK340 hb; replace BK341 := kb_ BK341 hb; replace BK366 := kb_ BK366 hb; replace BK374 := kb_ BK374 hb; replace BK382 := kb_ BK382 hb; replace BK391 := kb_ BK391 hb; replace HB := as_ (below_step (b6_ HB GE340 GE341 GE366 GE374 GE382 GE391) hb)
                clear hb ho0 ho1
                obtain ⟨Ao204, co204, eo204⟩ := Kd.S_slice HO423.out
                (first | subst eo204 | (injection eo204 with f1_ f2_ f3_; have f4_ := f1_.symm; have f5_ := f3_.symm; clear f1_ f2_ f3_; subst f4_; subst f5_))
                obtain ⟨Ao205, co205, eo205⟩ := Kd.R_slice HO426.out
                (first | subst eo205 | (injection eo205 with f1_ f2_ f3_; have f4_ := f1_.symm; have f5_ := f3_.symm; clear f1_ f2_ f3_; subst f4_; subst f5_))
                obtain ⟨Ao206, co206, eo206⟩ := Kd.S_slice HO430.out
                (first | subst eo206 | (injection eo206 with f1_ f2_ f3_; have f4_ := f1_.symm; have f5_ := f3_.symm; clear f1_ f2_ f3_; subst f4_; subst f5_))
                obtain ⟨Ao207, co207, eo207⟩ := Kd.R_slice HO433.out
                (first | subst eo207 | (injection eo207 with f1_ f2_ f3_; have f4_ := f1_.symm; have f5_ := f3_.symm; clear f1_ f2_ f3_; subst f4_; subst f5_))
                refine hK.out _ _ (tz3_ BK340 (ty3_ BK341)) (fun hHeld => ?_)
                clear hK K
                refine nm_ 102 ?_
                refine tw_ 5 9 (some 104) (some 17) HT_ (fun K hK => ?_) (fun K hK => ?_)
                · skip
                  refine gR_ Try.func11 #[.agg #[.int .i64 t420, .slice Ao204 t421.length co204, .slice Ao205 t424.length co205], .agg #[.int .i64 t427, .slice Ao206 t428.length co206, .slice Ao207 t431.length co207], .int .i64 a2] ?_
                  with_reducible refine (impl_CombineAutomata.calls kj118 t420 _ _ t421 _ _ t424 t427 _ _ t428 _ _ t431 a2 t434 t435 t438 t441 _ ?side1 ?side2 ?side3 ?side4 ?side5 ?side6 ?side7 ?side8 A189.out).mono ?_
                  (case side1 => exact cC_ (Kd.S_reads' HO423.out).2.2)
                  (case side2 => exact (Kd.S_reads' HO423.out).2.1)
                  (case side3 => exact cC_ (Kd.R_reads' HO426.out).2.2)
                  (case side4 => exact (Kd.R_reads' HO426.out).2.1)
                  (case side5 => exact cC_ (Kd.S_reads' HO430.out).2.2)
                  (case side6 => exact (Kd.S_reads' HO430.out).2.1)
                  (case side7 => exact cC_ (Kd.R_reads' HO433.out).2.2)
                  (case side8 => exact (Kd.R_reads' HO433.out).2.1)
                  rintro e w208 ⟨v436, v439, rfl, ho0, ho1, hb⟩
                  refine ⟨_, rfl, ?_⟩
                  have HO437 := as_ (Kd.S_lower (nSR_ (nSS_ (nSR_ (nSS_ (nSR_ (nSS_ (nSR_ (nSS_ (nSR_ (nSS_ (nSR_ (nSS_ ho0 HO_367001) HO_367002) HO_375001) HO_375002) HO_383001) HO_383002) HO_392001) HO_392002) HO423) HO426) HO430) HO433) (below_size (b6_ HB GE340 GE341 GE366 GE374 GE382 GE391))); replace HO_367001 := so2_ (bS_ HO_367001) hb (Kd.S_base ho0) (Kd.R_base ho1); replace HO_375001 := so2_ (bS_ HO_375001) hb (Kd.S_base ho0) (Kd.R_base ho1); replace HO_383001 := so2_ (bS_ HO_383001) hb (Kd.S_base ho0) (Kd.R_base ho1); replace HO_392001 := so2_ (bS_ HO_392001) hb (Kd.S_base ho0) (Kd.R_base ho1); replace HO423 := so2_ (bS_ HO423) hb (Kd.S_base ho0) (Kd.R_base ho1); replace HO430 := so2_ (bS_ HO430) hb (Kd.S_base ho0) (Kd.R_base ho1); have HO440 := as_ (Kd.R_lower (nRR_ (nRR_ (nRR_ (nRR_ (nRR_ (nRR_ ho1 HO_367002) HO_375002) HO_383002) HO_392002) HO426) HO433) (below_size (b6_ HB GE340 GE341 GE366 GE374 GE382 GE391))); replace HO_367002 := eR_ HO_367002 (Kd.R_base ho1) hb; replace HO_375002 := eR_ HO_375002 (Kd.R_base ho1) hb; replace HO_383002 := eR_ HO_383002 (Kd.R_base ho1) hb; replace HO_392002 := eR_ HO_392002 (Kd.R_base ho1) hb; replace HO426 := eR_ HO426 (Kd.R_base ho1) hb; replace HO433 := eR_ HO433 (Kd.R_base ho1) hb; replace BK340 := kb_ BK340 hb; replace BK341 := kb_ BK341 hb; replace BK366 := kb_ BK366 hb; replace BK374 := kb_ BK374 hb; replace BK382 := kb_ BK382 hb; replace BK391 := kb_ BK391 hb; replace HB := as_ (below_step (b6_ HB GE340 GE341 GE366 GE374 GE382 GE391) hb)
                  clear hb ho0 ho1
                  refine hK.out _ _ (tz3_ BK340 (ty3_ BK341)) (fun hHeld => ?_)
                  clear hK K
                  refine nm_ 104 ?_
                  refine pu_ 6 98 HT_ ?_
                  refine pu_ 7 105 HT_ ?_
                  refine pu_ 8 106 HT_ ?_
                  refine on_ 9 (some 17) HT_ fun K hK => ?_
                  refine box_step ?hg (N := 17) ?hd (cs := #[.int .i64 0, .slice none 0 0, .slice none 0 0]) (t := 29) ?hr ?_; (case hd => rfl); (case hg => rfl); (case hr => first | (go_simp; done) | (go_simp; rfl))
                  intro gb442 hg w209 hbox hb
                  replace HO_367001 := sb_ HO_367001 hb; replace HO_367002 := rb_ HO_367002 hb; replace HO_375001 := sb_ HO_375001 hb; replace HO_375002 := rb_ HO_375002 hb; replace HO_383001 := sb_ HO_383001 hb; replace HO_383002 := rb_ HO_383002 hb; replace HO_392001 := sb_ HO_392001 hb; replace HO_392002 := rb_ HO_392002 hb; replace HO423 := sb_ HO423 hb; replace HO426 := rb_ HO426 hb; replace HO430 := sb_ HO430 hb; replace HO433 := rb_ HO433 hb; replace HO437 := sb_ HO437 hb; replace HO440 := rb_ HO440 hb; have BK442 := as_ (hbox); have GW442 := gz_ hg (b6_ HB GE340 GE341 GE366 GE374 GE382 GE391); have GE442 := gz_ hg (b6_ HB GE340 GE341 GE366 GE374 GE382 GE391); replace HB := as_ (below_step (b6_ HB GE340 GE341 GE366 GE374 GE382 GE391) hb); have NB340_442 := nl_ hg (bk_ BK340); have NB442_340 := ng_ hg (bk_ BK340); replace BK340 := kb_ BK340 hb; have NB341_442 := nl_ hg (bk_ BK341); have NB442_341 := ng_ hg (bk_ BK341); replace BK341 := kb_ BK341 hb; have NB366_442 := nl_ hg (bk_ BK366); have NB442_366 := ng_ hg (bk_ BK366); replace BK366 := kb_ BK366 hb; have NB374_442 := nl_ hg (bk_ BK374); have NB442_374 := ng_ hg (bk_ BK374); replace BK374 := kb_ BK374 hb; have NB382_442 := nl_ hg (bk_ BK382); have NB442_382 := ng_ hg (bk_ BK382); replace BK382 := kb_ BK382 hb; have NB391_442 := nl_ hg (bk_ BK391); have NB442_391 := ng_ hg (bk_ BK391); replace BK391 := kb_ BK391 hb; clear hb hbox hg
                  refine hK.out _ _ (tz3_ BK340 (ty3_ BK341)) (fun hHeld => ?_)
                  clear hK K
                  refine nm_ 17 ?_
                  exact norm_ (by simp only [putAll, Act.put, List.setIfInBounds_toArray, List.set_cons_zero, List.set_cons_succ]) (hCont (.slice Ao204 t421.length co204, .slice Ao205 t424.length co205, .slice Ao206 t428.length co206, .slice Ao207 t431.length co207, v436, v439, gb442) _ ⟨hHeld, (fS_ HO423), (fR_ HO426), (fS_ HO430), (fR_ HO433), (fS_ HO437), (fR_ HO440), (fS_ HO_367001), (fR_ HO_367002), (fS_ HO_375001), (fR_ HO_375002), (fS_ HO_383001), (fR_ HO_383002), (fS_ HO_392001), (fR_ HO_392002), (bk_ BK340), (bk_ BK341), (bk_ BK366), (bk_ BK374), (bk_ BK382), (bk_ BK391), (bk_ BK442), GW442.out, GE442.out, NB340_442.out, NB442_340.out, NB341_442.out, NB442_341.out, NB366_442.out, NB442_366.out, NB374_442.out, NB442_374.out, NB382_442.out, NB442_382.out, NB391_442.out, NB442_391.out, (b7_ HB GE340 GE341 GE366 GE374 GE382 GE391 GE442)⟩)
                · skip
                  refine box_step ?hg (N := 17) ?hd (cs := #[.int .i64 0, .slice none 0 0, .slice none 0 0]) (t := 29) ?hr ?_; (case hd => rfl); (case hg => rfl); (case hr => first | (go_simp; done) | (go_simp; rfl))
                  intro gb442 hg w204 hbox hb
                  replace HO_367001 := sb_ HO_367001 hb; replace HO_367002 := rb_ HO_367002 hb; replace HO_375001 := sb_ HO_375001 hb; replace HO_375002 := rb_ HO_375002 hb; replace HO_383001 := sb_ HO_383001 hb; replace HO_383002 := rb_ HO_383002 hb; replace HO_392001 := sb_ HO_392001 hb; replace HO_392002 := rb_ HO_392002 hb; replace HO423 := sb_ HO423 hb; replace HO426 := rb_ HO426 hb; replace HO430 := sb_ HO430 hb; replace HO433 := rb_ HO433 hb; have BK442 := as_ (hbox); have GW442 := gz_ hg (b6_ HB GE340 GE341 GE366 GE374 GE382 GE391); have GE442 := gz_ hg (b6_ HB GE340 GE341 GE366 GE374 GE382 GE391); replace HB := as_ (below_step (b6_ HB GE340 GE341 GE366 GE374 GE382 GE391) hb); have NB340_442 := nl_ hg (bk_ BK340); have NB442_340 := ng_ hg (bk_ BK340); replace BK340 := kb_ BK340 hb; have NB341_442 := nl_ hg (bk_ BK341); have NB442_341 := ng_ hg (bk_ BK341); replace BK341 := kb_ BK341 hb; have NB366_442 := nl_ hg (bk_ BK366); have NB442_366 := ng_ hg (bk_ BK366); replace BK366 := kb_ BK366 hb; have NB374_442 := nl_ hg (bk_ BK374); have NB442_374 := ng_ hg (bk_ BK374); replace BK374 := kb_ BK374 hb; have NB382_442 := nl_ hg (bk_ BK382); have NB442_382 := ng_ hg (bk_ BK382); replace BK382 := kb_ BK382 hb; have NB391_442 := nl_ hg (bk_ BK391); have NB442_391 := ng_ hg (bk_ BK391); replace BK391 := kb_ BK391 hb; clear hb hbox hg
                  obtain ⟨Ao205, co205, eo205⟩ := Kd.S_slice HO423.out
                  (first | subst eo205 | (injection eo205 with f1_ f2_ f3_; have f4_ := f1_.symm; have f5_ := f3_.symm; clear f1_ f2_ f3_; subst f4_; subst f5_))
                  obtain ⟨Ao206, co206, eo206⟩ := Kd.R_slice HO426.out
                  (first | subst eo206 | (injection eo206 with f1_ f2_ f3_; have f4_ := f1_.symm; have f5_ := f3_.symm; clear f1_ f2_ f3_; subst f4_; subst f5_))
                  obtain ⟨Ao207, co207, eo207⟩ := Kd.S_slice HO430.out
                  (first | subst eo207 | (injection eo207 with f1_ f2_ f3_; have f4_ := f1_.symm; have f5_ := f3_.symm; clear f1_ f2_ f3_; subst f4_; subst f5_))
                  obtain ⟨Ao208, co208, eo208⟩ := Kd.R_slice HO433.out
                  (first | subst eo208 | (injection eo208 with f1_ f2_ f3_; have f4_ := f1_.symm; have f5_ := f3_.symm; clear f1_ f2_ f3_; subst f4_; subst f5_))
                  refine hK.out _ _ (tz3_ BK340 (ty3_ BK341)) (fun hHeld => ?_)
                  clear hK K
                  refine nm_ 17 ?_
                  refine on_ 5 (some 104) HT_ fun K hK => ?_
                  refine gR_ Try.func11 #[.agg #[.int .i64 t420, .slice Ao205 t421.length co205, .slice Ao206 t424.length co206], .agg #[.int .i64 t427, .slice Ao207 t428.length co207, .slice Ao208 t431.length co208], .int .i64 a2] ?_
                  with_reducible refine (impl_CombineAutomata.calls kj118 t420 _ _ t421 _ _ t424 t427 _ _ t428 _ _ t431 a2 t434 t435 t438 t441 _ ?side1 ?side2 ?side3 ?side4 ?side5 ?side6 ?side7 ?side8 A189.out).mono ?_
                  (case side1 => exact cC_ (Kd.S_reads' HO423.out).2.2)
                  (case side2 => exact (Kd.S_reads' HO423.out).2.1)
                  (case side3 => exact cC_ (Kd.R_reads' HO426.out).2.2)
                  (case side4 => exact (Kd.R_reads' HO426.out).2.1)
                  (case side5 => exact cC_ (Kd.S_reads' HO430.out).2.2)
                  (case side6 => exact (Kd.S_reads' HO430.out).2.1)
                  (case side7 => exact cC_ (Kd.R_reads' HO433.out).2.2)
                  (case side8 => exact (Kd.R_reads' HO433.out).2.1)
                  rintro e w209 ⟨v436, v439, rfl, ho0, ho1, hb⟩
                  refine ⟨_, rfl, ?_⟩
                  have HO437 := as_ (Kd.S_lower (nSR_ (nSS_ (nSR_ (nSS_ (nSR_ (nSS_ (nSR_ (nSS_ (nSR_ (nSS_ (nSR_ (nSS_ ho0 HO_367001) HO_367002) HO_375001) HO_375002) HO_383001) HO_383002) HO_392001) HO_392002) HO423) HO426) HO430) HO433) (below_size (b7_ HB GE340 GE341 GE366 GE374 GE382 GE391 GE442))); replace HO_367001 := so2_ (bS_ HO_367001) hb (Kd.S_base ho0) (Kd.R_base ho1); replace HO_375001 := so2_ (bS_ HO_375001) hb (Kd.S_base ho0) (Kd.R_base ho1); replace HO_383001 := so2_ (bS_ HO_383001) hb (Kd.S_base ho0) (Kd.R_base ho1); replace HO_392001 := so2_ (bS_ HO_392001) hb (Kd.S_base ho0) (Kd.R_base ho1); replace HO423 := so2_ (bS_ HO423) hb (Kd.S_base ho0) (Kd.R_base ho1); replace HO430 := so2_ (bS_ HO430) hb (Kd.S_base ho0) (Kd.R_base ho1); have HO440 := as_ (Kd.R_lower (nRR_ (nRR_ (nRR_ (nRR_ (nRR_ (nRR_ ho1 HO_367002) HO_375002) HO_383002) HO_392002) HO426) HO433) (below_size (b7_ HB GE340 GE341 GE366 GE374 GE382 GE391 GE442))); replace HO_367002 := eR_ HO_367002 (Kd.R_base ho1) hb; replace HO_375002 := eR_ HO_375002 (Kd.R_base ho1) hb; replace HO_383002 := eR_ HO_383002 (Kd.R_base ho1) hb; replace HO_392002 := eR_ HO_392002 (Kd.R_base ho1) hb; replace HO426 := eR_ HO426 (Kd.R_base ho1) hb; replace HO433 := eR_ HO433 (Kd.R_base ho1) hb; replace BK340 := kb_ BK340 hb; replace BK341 := kb_ BK341 hb; replace BK366 := kb_ BK366 hb; replace BK374 := kb_ BK374 hb; replace BK382 := kb_ BK382 hb; replace BK391 := kb_ BK391 hb; replace BK442 := kb_ BK442 hb; replace HB := as_ (below_step (b7_ HB GE340 GE341 GE366 GE374 GE382 GE391 GE442) hb)
                  clear hb ho0 ho1
                  refine hK.out _ _ (tz3_ BK340 (ty3_ BK341)) (fun hHeld => ?_)
                  clear hK K
                  refine nm_ 104 ?_
                  refine pu_ 6 98 HT_ ?_
                  refine pu_ 7 105 HT_ ?_
                  refine pu_ 8 106 HT_ ?_
                  exact norm_ (by simp only [putAll, Act.put, List.setIfInBounds_toArray, List.set_cons_zero, List.set_cons_succ]) (hCont (.slice Ao205 t421.length co205, .slice Ao206 t424.length co206, .slice Ao207 t428.length co207, .slice Ao208 t431.length co208, v436, v439, gb442) _ ⟨hHeld, (fS_ HO423), (fR_ HO426), (fS_ HO430), (fR_ HO433), (fS_ HO437), (fR_ HO440), (fS_ HO_367001), (fR_ HO_367002), (fS_ HO_375001), (fR_ HO_375002), (fS_ HO_383001), (fR_ HO_383002), (fS_ HO_392001), (fR_ HO_392002), (bk_ BK340), (bk_ BK341), (bk_ BK366), (bk_ BK374), (bk_ BK382), (bk_ BK391), (bk_ BK442), GW442.out, GE442.out, NB340_442.out, NB442_340.out, NB341_442.out, NB442_341.out, NB366_442.out, NB442_366.out, NB374_442.out, NB442_374.out, NB382_442.out, NB442_382.out, NB391_442.out, NB442_391.out, (b7_ HB GE340 GE341 GE366 GE374 GE382 GE391 GE442)⟩)
              · skip
                refine box_step ?hg (N := 17) ?hd (cs := #[.int .i64 0, .slice none 0 0, .slice none 0 0]) (t := 29) ?hr ?_; (case hd => rfl); (case hg => rfl); (case hr => first | (go_simp; done) | (go_simp; rfl))
                intro gb442 hg w203 hbox hb
                replace HO_367001 := sb_ HO_367001 hb; replace HO_367002 := rb_ HO_367002 hb; replace HO_375001 := sb_ HO_375001 hb; replace HO_375002 := rb_ HO_375002 hb; replace HO_383001 := sb_ HO_383001 hb; replace HO_383002 := rb_ HO_383002 hb; replace HO_392001 := sb_ HO_392001 hb; replace HO_392002 := rb_ HO_392002 hb; replace HO423 := sb_ HO423 hb; replace HO426 := rb_ HO426 hb; have BK442 := as_ (hbox); have GW442 := gz_ hg (b6_ HB GE340 GE341 GE366 GE374 GE382 GE391); have GE442 := gz_ hg (b6_ HB GE340 GE341 GE366 GE374 GE382 GE391); replace HB := as_ (below_step (b6_ HB GE340 GE341 GE366 GE374 GE382 GE391) hb); have NB340_442 := nl_ hg (bk_ BK340); have NB442_340 := ng_ hg (bk_ BK340); replace BK340 := kb_ BK340 hb; have NB341_442 := nl_ hg (bk_ BK341); have NB442_341 := ng_ hg (bk_ BK341); replace BK341 := kb_ BK341 hb; have NB366_442 := nl_ hg (bk_ BK366); have NB442_366 := ng_ hg (bk_ BK366); replace BK366 := kb_ BK366 hb; have NB374_442 := nl_ hg (bk_ BK374); have NB442_374 := ng_ hg (bk_ BK374); replace BK374 := kb_ BK374 hb; have NB382_442 := nl_ hg (bk_ BK382); have NB442_382 := ng_ hg (bk_ BK382); replace BK382 := kb_ BK382 hb; have NB391_442 := nl_ hg (bk_ BK391); have NB442_391 := ng_ hg (bk_ BK391); replace BK391 := kb_ BK391 hb; clear hb hbox hg
                refine hK.out _ _ (tz3_ BK340 (ty3_ BK341)) (fun hHeld => ?_)
                clear hK K
                refine nm_ 17 ?_
                refine on_ 3 (some 102) HT_ fun K hK => ?_
                refine gR_ Try.func7 #[.agg #[.int .i64 a1_0, .slice A1_1 l1_1.length c1_1, .slice A1_2 l1_2.length c1_2]] ?_
                with_reducible refine (laws_toAutomaton.calls kj118 a1_0 _ _ l1_1 _ _ l1_2 t427 t428 t431 _ ?side1 ?side2 ?side3 ?side4 A188.out).mono ?_
                (case side1 => exact bC_ HR1_1 HB)
                (case side2 => exact HC1_1.out)
                (case side3 => exact bC_ HR1_2 HB)
                (case side4 => exact HC1_2.out)
                rintro e w204 ⟨v429, v432, rfl, ho0, ho1, hb⟩
                refine ⟨_, rfl, ?_⟩
                have HO430 := as_ (Kd.S_lower (nSR_ (nSS_ (nSR_ (nSS_ (nSR_ (nSS_ (nSR_ (nSS_ (nSR_ (nSS_ ho0 HO_367001) HO_367002) HO_375001) HO_375002) HO_383001) HO_383002) HO_392001) HO_392002) HO423) HO426) (below_size (b7_ HB GE340 GE341 GE366 GE374 GE382 GE391 GE442))); replace HO_367001 := so2_ (bS_ HO_367001) hb (Kd.S_base ho0) (Kd.R_base ho1); replace HO_375001 := so2_ (bS_ HO_375001) hb (Kd.S_base ho0) (Kd.R_base ho1); replace HO_383001 := so2_ (bS_ HO_383001) hb (Kd.S_base ho0) (Kd.R_base ho1); replace HO_392001 := so2_ (bS_ HO_392001) hb (Kd.S_base ho0) (Kd.R_base ho1); replace HO423 := so2_ (bS_ HO423) hb (Kd.S_base ho0) (Kd.R_base ho1); have HO433 := as_ (Kd.R_lower (nRR_ (nRR_ (nRR_ (nRR_ (nRR_ ho1 HO_367002) HO_375002) HO_383002) HO_392002) HO426) (below_size (b7_ HB GE340 GE341 GE366 GE374 GE382 GE391 GE442))); replace HO_367002 := eR_ HO_367002 (Kd.R_base ho1) hb; replace HO_375002 := eR_ HO_375002 (Kd.R_base ho1) hb; replace HO_383002 := eR_ HO_383002 (Kd.R_base ho1) hb; replace HO_392002 := eR_ HO_392002 (Kd.R_base ho1) hb; replace HO426 := eR_ HO426 (Kd.R_base ho1) hb; replace BK340 := kb_ BK340 hb; replace BK341 := kb_ BK341 hb; replace BK366 := kb_ BK366 hb; replace BK374 := kb_ BK374 hb; replace BK382 := kb_ BK382 hb; replace BK391 := kb_ BK391 hb; replace BK442 := kb_ BK442 hb; replace HB := as_ (below_step (b7_ HB GE340 GE341 GE366 GE374 GE382 GE391 GE442) hb)
                clear hb ho0 ho1
                obtain ⟨Ao205, co205, eo205⟩ := Kd.S_slice HO423.out
                (first | subst eo205 | (injection eo205 with f1_ f2_ f3_; have f4_ := f1_.symm; have f5_ := f3_.symm; clear f1_ f2_ f3_; subst f4_; subst f5_))
                obtain ⟨Ao206, co206, eo206⟩ := Kd.R_slice HO426.out
                (first | subst eo206 | (injection eo206 with f1_ f2_ f3_; have f4_ := f1_.symm; have f5_ := f3_.symm; clear f1_ f2_ f3_; subst f4_; subst f5_))
                obtain ⟨Ao207, co207, eo207⟩ := Kd.S_slice HO430.out
                (first | subst eo207 | (injection eo207 with f1_ f2_ f3_; have f4_ := f1_.symm; have f5_ := f3_.symm; clear f1_ f2_ f3_; subst f4_; subst f5_))
                obtain ⟨Ao208, co208, eo208⟩ := Kd.R_slice HO433.out
                (first | subst eo208 | (injection eo208 with f1_ f2_ f3_; have f4_ := f1_.symm; have f5_ := f3_.symm; clear f1_ f2_ f3_; subst f4_; subst f5_))
                refine hK.out _ _ (tz3_ BK340 (ty3_ BK341)) (fun hHeld => ?_)
                clear hK K
                refine nm_ 102 ?_
                refine on_ 5 (some 104) HT_ fun K hK => ?_
                refine gR_ Try.func11 #[.agg #[.int .i64 t420, .slice Ao205 t421.length co205, .slice Ao206 t424.length co206], .agg #[.int .i64 t427, .slice Ao207 t428.length co207, .slice Ao208 t431.length co208], .int .i64 a2] ?_
                with_reducible refine (impl_CombineAutomata.calls kj118 t420 _ _ t421 _ _ t424 t427 _ _ t428 _ _ t431 a2 t434 t435 t438 t441 _ ?side1 ?side2 ?side3 ?side4 ?side5 ?side6 ?side7 ?side8 A189.out).mono ?_
                (case side1 => exact cC_ (Kd.S_reads' HO423.out).2.2)
                (case side2 => exact (Kd.S_reads' HO423.out).2.1)
                (case side3 => exact cC_ (Kd.R_reads' HO426.out).2.2)
                (case side4 => exact (Kd.R_reads' HO426.out).2.1)
                (case side5 => exact cC_ (Kd.S_reads' HO430.out).2.2)
                (case side6 => exact (Kd.S_reads' HO430.out).2.1)
                (case side7 => exact cC_ (Kd.R_reads' HO433.out).2.2)
                (case side8 => exact (Kd.R_reads' HO433.out).2.1)
                rintro e w209 ⟨v436, v439, rfl, ho0, ho1, hb⟩
                refine ⟨_, rfl, ?_⟩
                have HO437 := as_ (Kd.S_lower (nSR_ (nSS_ (nSR_ (nSS_ (nSR_ (nSS_ (nSR_ (nSS_ (nSR_ (nSS_ (nSR_ (nSS_ ho0 HO_367001) HO_367002) HO_375001) HO_375002) HO_383001) HO_383002) HO_392001) HO_392002) HO423) HO426) HO430) HO433) (below_size (b7_ HB GE340 GE341 GE366 GE374 GE382 GE391 GE442))); replace HO_367001 := so2_ (bS_ HO_367001) hb (Kd.S_base ho0) (Kd.R_base ho1); replace HO_375001 := so2_ (bS_ HO_375001) hb (Kd.S_base ho0) (Kd.R_base ho1); replace HO_383001 := so2_ (bS_ HO_383001) hb (Kd.S_base ho0) (Kd.R_base ho1); replace HO_392001 := so2_ (bS_ HO_392001) hb (Kd.S_base ho0) (Kd.R_base ho1); replace HO423 := so2_ (bS_ HO423) hb (Kd.S_base ho0) (Kd.R_base ho1); replace HO430 := so2_ (bS_ HO430) hb (Kd.S_base ho0) (Kd.R_base ho1); have HO440 := as_ (Kd.R_lower (nRR_ (nRR_ (nRR_ (nRR_ (nRR_ (nRR_ ho1 HO_367002) HO_375002) HO_383002) HO_392002) HO426) HO433) (below_size (b7_ HB GE340 GE341 GE366 GE374 GE382 GE391 GE442))); replace HO_367002 := eR_ HO_367002 (Kd.R_base ho1) hb; replace HO_375002 := eR_ HO_375002 (Kd.R_base ho1) hb; replace HO_383002 := eR_ HO_383002 (Kd.R_base ho1) hb; replace HO_392002 := eR_ HO_392002 (Kd.R_base ho1) hb; replace HO426 := eR_ HO426 (Kd.R_base ho1) hb; replace HO433 := eR_ HO433 (Kd.R_base ho1) hb; replace BK340 := kb_ BK340 hb; replace BK341 := kb_ BK341 hb; replace BK366 := kb_ BK366 hb; replace BK374 := kb_ BK374 hb; replace BK382 := kb_ BK382 hb; replace BK391 := kb_ BK391 hb; replace BK442 := kb_ BK442 hb; replace HB := as_ (below_step (b7_ HB GE340 GE341 GE366 GE374 GE382 GE391 GE442) hb)
                clear hb ho0 ho1
                refine hK.out _ _ (tz3_ BK340 (ty3_ BK341)) (fun hHeld => ?_)
                clear hK K
                refine nm_ 104 ?_
                refine pu_ 6 98 HT_ ?_
                refine pu_ 7 105 HT_ ?_
                refine pu_ 8 106 HT_ ?_
                exact norm_ (by simp only [putAll, Act.put, List.setIfInBounds_toArray, List.set_cons_zero, List.set_cons_succ]) (hCont (.slice Ao205 t421.length co205, .slice Ao206 t424.length co206, .slice Ao207 t428.length co207, .slice Ao208 t431.length co208, v436, v439, gb442) _ ⟨hHeld, (fS_ HO423), (fR_ HO426), (fS_ HO430), (fR_ HO433), (fS_ HO437), (fR_ HO440), (fS_ HO_367001), (fR_ HO_367002), (fS_ HO_375001), (fR_ HO_375002), (fS_ HO_383001), (fR_ HO_383002), (fS_ HO_392001), (fR_ HO_392002), (bk_ BK340), (bk_ BK341), (bk_ BK366), (bk_ BK374), (bk_ BK382), (bk_ BK391), (bk_ BK442), GW442.out, GE442.out, NB340_442.out, NB442_340.out, NB341_442.out, NB442_341.out, NB366_442.out, NB442_366.out, NB374_442.out, NB442_374.out, NB382_442.out, NB442_382.out, NB391_442.out, NB442_391.out, (b7_ HB GE340 GE341 GE366 GE374 GE382 GE391 GE442)⟩)
            · skip
              refine box_step ?hg (N := 17) ?hd (cs := #[.int .i64 0, .slice none 0 0, .slice none 0 0]) (t := 29) ?hr ?_; (case hd => rfl); (case hg => rfl); (case hr => first | (go_simp; done) | (go_simp; rfl))
              intro gb442 hg w202 hbox hb
              replace HO_367001 := sb_ HO_367001 hb; replace HO_367002 := rb_ HO_367002 hb; replace HO_375001 := sb_ HO_375001 hb; replace HO_375002 := rb_ HO_375002 hb; replace HO_383001 := sb_ HO_383001 hb; replace HO_383002 := rb_ HO_383002 hb; replace HO_392001 := sb_ HO_392001 hb; replace HO_392002 := rb_ HO_392002 hb; have BK442 := as_ (hbox); have GW442 := gz_ hg (b6_ HB GE340 GE341 GE366 GE374 GE382 GE391); have GE442 := gz_ hg (b6_ HB GE340 GE341 GE366 GE374 GE382 GE391); replace HB := as_ (below_step (b6_ HB GE340 GE341 GE366 GE374 GE382 GE391) hb); have NB340_442 := nl_ hg (bk_ BK340); have NB442_340 := ng_ hg (bk_ BK340); replace BK340 := kb_ BK340 hb; have NB341_442 := nl_ hg (bk_ BK341); have NB442_341 := ng_ hg (bk_ BK341); replace BK341 := kb_ BK341 hb; have NB366_442 := nl_ hg (bk_ BK366); have NB442_366 := ng_ hg (bk_ BK366); replace BK366 := kb_ BK366 hb; have NB374_442 := nl_ hg (bk_ BK374); have NB442_374 := ng_ hg (bk_ BK374); replace BK374 := kb_ BK374 hb; have NB382_442 := nl_ hg (bk_ BK382); have NB442_382 := ng_ hg (bk_ BK382); replace BK382 := kb_ BK382 hb; have NB391_442 := nl_ hg (bk_ BK391); have NB442_391 := ng_ hg (bk_ BK391); replace BK391 := kb_ BK391 hb; clear hb hbox hg
              refine hK.out _ _ (tz3_ BK340 (ty3_ BK341)) (fun hHeld => ?_)
              clear hK K
              refine nm_ 17 ?_
              refine on_ 1 (some 100) HT_ fun K hK => ?_
              refine gR_ Try.func7 #[.agg #[.int .i64 a0_0, .slice A0_1 l0_1.length c0_1, .slice A0_2 l0_2.length c0_2]] ?_
              with_reducible refine (laws_toAutomaton.calls kj118 a0_0 _ _ l0_1 _ _ l0_2 t420 t421 t424 _ ?side1 ?side2 ?side3 ?side4 A187.out).mono ?_
              (case side1 => exact bC_ HR0_1 HB)
              (case side2 => exact HC0_1.out)
              (case side3 => exact bC_ HR0_2 HB)
              (case side4 => exact HC0_2.out)
              rintro e w203 ⟨v422, v425, rfl, ho0, ho1, hb⟩
              refine ⟨_, rfl, ?_⟩
              have HO423 := as_ (Kd.S_lower (nSR_ (nSS_ (nSR_ (nSS_ (nSR_ (nSS_ (nSR_ (nSS_ ho0 HO_367001) HO_367002) HO_375001) HO_375002) HO_383001) HO_383002) HO_392001) HO_392002) (below_size (b7_ HB GE340 GE341 GE366 GE374 GE382 GE391 GE442))); replace HO_367001 := so2_ (bS_ HO_367001) hb (Kd.S_base ho0) (Kd.R_base ho1); replace HO_375001 := so2_ (bS_ HO_375001) hb (Kd.S_base ho0) (Kd.R_base ho1); replace HO_383001 := so2_ (bS_ HO_383001) hb (Kd.S_base ho0) (Kd.R_base ho1); replace HO_392001 := so2_ (bS_ HO_392001) hb (Kd.S_base ho0) (Kd.R_base ho1); have HO426 := as_ (Kd.R_lower (nRR_ (nRR_ (nRR_ (nRR_ ho1 HO_367002) HO_375002) HO_383002) HO_392002) (below_size (b7_ HB GE340 GE341 GE366 GE374 GE382 GE391 GE442))); replace HO_367002 := eR_ HO_367002 (Kd.R_base ho1) hb; replace HO_375002 := eR_ HO_375002 (Kd.R_base ho1) hb; replace HO_383002 := eR_ HO_383002 (Kd.R_base ho1) hb; replace HO_392002 := eR_ HO_392002 (Kd.R_base ho1) hb; replace BK340 := kb_ BK340 hb; replace BK341 := kb_ BK341 hb; replace BK366 := kb_ BK366 hb; replace BK374 := kb_ BK374 hb; replace BK382 := kb_ BK382 hb; replace BK391 := kb_ BK391 hb; replace BK442 := kb_ BK442 hb; replace HB := as_ (below_step (b7_ HB GE340 GE341 GE366 GE374 GE382 GE391 GE442) hb)
              clear hb ho0 ho1
              refine hK.out _ _ (tz3_ BK340 (ty3_ BK341)) (fun hHeld => ?_)
              clear hK K
              refine nm_ 100 ?_
              refine on_ 3 (some 102) HT_ fun K hK => ?_
              refine gR_ Try.func7 #[.agg #[.int .i64 a1_0, .slice A1_1 l1_1.length c1_1, .slice A1_2 l1_2.length c1_2]] ?_
              with_reducible refine (laws_toAutomaton.calls kj118 a1_0 _ _ l1_1 _ _ l1_2 t427 t428 t431 _ ?side1 ?side2 ?side3 ?side4 A188.out).mono ?_
              (case side1 => exact bC_ HR1_1 HB)
              (case side2 => exact HC1_1.out)
              (case side3 => exact bC_ HR1_2 HB)
              (case side4 => exact HC1_2.out)
              rintro e w204 ⟨v429, v432, rfl, ho0, ho1, hb⟩
              refine ⟨_, rfl, ?_⟩
              have HO430 := as_ (Kd.S_lower (nSR_ (nSS_ (nSR_ (nSS_ (nSR_ (nSS_ (nSR_ (nSS_ (nSR_ (nSS_ ho0 HO_367001) HO_367002) HO_375001) HO_375002) HO_383001) HO_383002) HO_392001) HO_392002) HO423) HO426) (below_size (b7_ HB GE340 GE341 GE366 GE374 GE382 GE391 GE442))); replace HO_367001 := so2_ (bS_ HO_367001) hb (Kd.S_base ho0) (Kd.R_base ho1); replace HO_375001 := so2_ (bS_ HO_375001) hb (Kd.S_base ho0) (Kd.R_base ho1); replace HO_383001 := so2_ (bS_ HO_383001) hb (Kd.S_base ho0) (Kd.R_base ho1); replace HO_392001 := so2_ (bS_ HO_392001) hb (Kd.S_base ho0) (Kd.R_base ho1); replace HO423 := so2_ (bS_ HO423) hb (Kd.S_base ho0) (Kd.R_base ho1); have HO433 := as_ (Kd.R_lower (nRR_ (nRR_ (nRR_ (nRR_ (nRR_ ho1 HO_367002) HO_375002) HO_383002) HO_392002) HO426) (below_size (b7_ HB GE340 GE341 GE366 GE374 GE382 GE391 GE442))); replace HO_367002 := eR_ HO_367002 (Kd.R_base ho1) hb; replace HO_375002 := eR_ HO_375002 (Kd.R_base ho1) hb; replace HO_383002 := eR_ HO_383002 (Kd.R_base ho1) hb; replace HO_392002 := eR_ HO_392002 (Kd.R_base ho1) hb; replace HO426 := eR_ HO426 (Kd.R_base ho1) hb; replace BK340 := kb_ BK340 hb; replace BK341 := kb_ BK341 hb; replace BK366 := kb_ BK366 hb; replace BK374 := kb_ BK374 hb; replace BK382 := kb_ BK382 hb; replace BK391 := kb_ BK391 hb; replace BK442 := kb_ BK442 hb; replace HB := as_ (below_step (b7_ HB GE340 GE341 GE366 GE374 GE382 GE391 GE442) hb)
              clear hb ho0 ho1
              obtain ⟨Ao205, co205, eo205⟩ := Kd.S_slice HO423.out
              (first | subst eo205 | (injection eo205 with f1_ f2_ f3_; have f4_ := f1_.symm; have f5_ := f3_.symm; clear f1_ f2_ f3_; subst f4_; subst f5_))
              obtain ⟨Ao206, co206, eo206⟩ := Kd.R_slice HO426.out
              (first | subst eo206 | (injection eo206 with f1_ f2_ f3_; have f4_ := f1_.symm; have f5_ := f3_.symm; clear f1_ f2_ f3_; subst f4_; subst f5_))
              obtain ⟨Ao207, co207, eo207⟩ := Kd.S_slice HO430.out
              (first | subst eo207 | (injection eo207 with f1_ f2_ f3_; have f4_ := f1_.symm; have f5_ := f3_.symm; clear f1_ f2_ f3_; subst f4_; subst f5_))
              obtain ⟨Ao208, co208, eo208⟩ := Kd.R_slice HO433.out
              (first | subst eo208 | (injection eo208 with f1_ f2_ f3_; have f4_ := f1_.symm; have f5_ := f3_.symm; clear f1_ f2_ f3_; subst f4_; subst f5_))
              refine hK.out _ _ (tz3_ BK340 (ty3_ BK341)) (fun hHeld => ?_)
              clear hK K
              refine nm_ 102 ?_
              refine on_ 5 (some 104) HT_ fun K hK => ?_
              refine gR_ Try.func11 #[.agg #[.int .i64 t420, .slice Ao205 t421.length co205, .slice Ao206 t424.length co206], .agg #[.int .i64 t427, .slice Ao207 t428.length co207, .slice Ao208 t431.length co208], .int .i64 a2] ?_
              with_reducible refine (impl_CombineAutomata.calls kj118 t420 _ _ t421 _ _ t424 t427 _ _ t428 _ _ t431 a2 t434 t435 t438 t441 _ ?side1 ?side2 ?side3 ?side4 ?side5 ?side6 ?side7 ?side8 A189.out).mono ?_
              (case side1 => exact cC_ (Kd.S_reads' HO423.out).2.2)
              (case side2 => exact (Kd.S_reads' HO423.out).2.1)
              (case side3 => exact cC_ (Kd.R_reads' HO426.out).2.2)
              (case side4 => exact (Kd.R_reads' HO426.out).2.1)
              (case side5 => exact cC_ (Kd.S_reads' HO430.out).2.2)
              (case side6 => exact (Kd.S_reads' HO430.out).2.1)
              (case side7 => exact cC_ (Kd.R_reads' HO433.out).2.2)
              (case side8 => exact (Kd.R_reads' HO433.out).2.1)
              rintro e w209 ⟨v436, v439, rfl, ho0, ho1, hb⟩
              refine ⟨_, rfl, ?_⟩
              have HO437 := as_ (Kd.S_lower (nSR_ (nSS_ (nSR_ (nSS_ (nSR_ (nSS_ (nSR_ (nSS_ (nSR_ (nSS_ (nSR_ (nSS_ ho0 HO_367001) HO_367002) HO_375001) HO_375002) HO_383001) HO_383002) HO_392001) HO_392002) HO423) HO426) HO430) HO433) (below_size (b7_ HB GE340 GE341 GE366 GE374 GE382 GE391 GE442))); replace HO_367001 := so2_ (bS_ HO_367001) hb (Kd.S_base ho0) (Kd.R_base ho1); replace HO_375001 := so2_ (bS_ HO_375001) hb (Kd.S_base ho0) (Kd.R_base ho1); replace HO_383001 := so2_ (bS_ HO_383001) hb (Kd.S_base ho0) (Kd.R_base ho1); replace HO_392001 := so2_ (bS_ HO_392001) hb (Kd.S_base ho0) (Kd.R_base ho1); replace HO423 := so2_ (bS_ HO423) hb (Kd.S_base ho0) (Kd.R_base ho1); replace HO430 := so2_ (bS_ HO430) hb (Kd.S_base ho0) (Kd.R_base ho1); have HO440 := as_ (Kd.R_lower (nRR_ (nRR_ (nRR_ (nRR_ (nRR_ (nRR_ ho1 HO_367002) HO_375002) HO_383002) HO_392002) HO426) HO433) (below_size (b7_ HB GE340 GE341 GE366 GE374 GE382 GE391 GE442))); replace HO_367002 := eR_ HO_367002 (Kd.R_base ho1) hb; replace HO_375002 := eR_ HO_375002 (Kd.R_base ho1) hb; replace HO_383002 := eR_ HO_383002 (Kd.R_base ho1) hb; replace HO_392002 := eR_ HO_392002 (Kd.R_base ho1) hb; replace HO426 := eR_ HO426 (Kd.R_base ho1) hb; replace HO433 := eR_ HO433 (Kd.R_base ho1) hb; replace BK340 := kb_ BK340 hb; replace BK341 := kb_ BK341 hb; replace BK366 := kb_ BK366 hb; replace BK374 := kb_ BK374 hb; replace BK382 := kb_ BK382 hb; replace BK391 := kb_ BK391 hb; replace BK442 := kb_ BK442 hb; replace HB := as_ (below_step (b7_ HB GE340 GE341 GE366 GE374 GE382 GE391 GE442) hb)
              clear hb ho0 ho1
              refine hK.out _ _ (tz3_ BK340 (ty3_ BK341)) (fun hHeld => ?_)
              clear hK K
              refine nm_ 104 ?_
              refine pu_ 6 98 HT_ ?_
              refine pu_ 7 105 HT_ ?_
              refine pu_ 8 106 HT_ ?_
              exact norm_ (by simp only [putAll, Act.put, List.setIfInBounds_toArray, List.set_cons_zero, List.set_cons_succ]) (hCont (.slice Ao205 t421.length co205, .slice Ao206 t424.length co206, .slice Ao207 t428.length co207, .slice Ao208 t431.length co208, v436, v439, gb442) _ ⟨hHeld, (fS_ HO423), (fR_ HO426), (fS_ HO430), (fR_ HO433), (fS_ HO437), (fR_ HO440), (fS_ HO_367001), (fR_ HO_367002), (fS_ HO_375001), (fR_ HO_375002), (fS_ HO_383001), (fR_ HO_383002), (fS_ HO_392001), (fR_ HO_392002), (bk_ BK340), (bk_ BK341), (bk_ BK366), (bk_ BK374), (bk_ BK382), (bk_ BK391), (bk_ BK442), GW442.out, GE442.out, NB340_442.out, NB442_340.out, NB341_442.out, NB442_341.out, NB366_442.out, NB442_366.out, NB374_442.out, NB442_374.out, NB382_442.out, NB442_382.out, NB391_442.out, NB442_391.out, (b7_ HB GE340 GE341 GE366 GE374 GE382 GE391 GE442)⟩)
          rintro ⟨v422, v425, v429, v432, v436, v439, gb442⟩ w210 ⟨hS_, h0_, h1_, h2_, h3_, h4_, h5_, h6_, h7_, h8_, h9_, h10_, h11_, h12_, h13_, h14_, h15_, h16_, h17_, h18_, h19_, h20_, h21_, h22_, h23_, h24_, h25_, h26_, h27_, h28_, h29_, h30_, h31_, h32_, h33_, h34_, h35_⟩
          have HO423 : Aside0 (Kd.S (Kd.slice 2 (Kd.int .i64)) 23 w210 w.heap.size (fun k_ => some k_ ≠ (v425 : Value).ownBlock ∧ some k_ ≠ (v429 : Value).ownBlock ∧ some k_ ≠ (v432 : Value).ownBlock ∧ some k_ ≠ (v436 : Value).ownBlock ∧ some k_ ≠ (v439 : Value).ownBlock ∧ some k_ ≠ (.slice Ao45 t359.length co45 : Value).ownBlock ∧ some k_ ≠ (.slice Ao47 t362.length co47 : Value).ownBlock ∧ some k_ ≠ (.slice Ao58 t410.length co58 : Value).ownBlock ∧ some k_ ≠ (.slice Ao59 t411.length co59 : Value).ownBlock ∧ some k_ ≠ (.slice Ao70 t413.length co70 : Value).ownBlock ∧ some k_ ≠ (.slice Ao71 t414.length co71 : Value).ownBlock ∧ some k_ ≠ (.slice Ao82 t384.length co82 : Value).ownBlock ∧ some k_ ≠ (.slice Ao83 t387.length co83 : Value).ownBlock) v422 t421) := ⟨h0_⟩; have HO426 : Aside0 (Kd.R (Kd.int .i64) 2 w210 w.heap.size (fun k_ => some k_ ≠ (v432 : Value).ownBlock ∧ some k_ ≠ (v439 : Value).ownBlock ∧ some k_ ≠ (.slice Ao47 t362.length co47 : Value).ownBlock ∧ some k_ ≠ (.slice Ao59 t411.length co59 : Value).ownBlock ∧ some k_ ≠ (.slice Ao71 t414.length co71 : Value).ownBlock ∧ some k_ ≠ (.slice Ao83 t387.length co83 : Value).ownBlock) v425 t424) := ⟨h1_⟩; have HO430 : Aside0 (Kd.S (Kd.slice 2 (Kd.int .i64)) 23 w210 w.heap.size (fun k_ => some k_ ≠ (v422 : Value).ownBlock ∧ some k_ ≠ (v425 : Value).ownBlock ∧ some k_ ≠ (v432 : Value).ownBlock ∧ some k_ ≠ (v436 : Value).ownBlock ∧ some k_ ≠ (v439 : Value).ownBlock ∧ some k_ ≠ (.slice Ao45 t359.length co45 : Value).ownBlock ∧ some k_ ≠ (.slice Ao47 t362.length co47 : Value).ownBlock ∧ some k_ ≠ (.slice Ao58 t410.length co58 : Value).ownBlock ∧ some k_ ≠ (.slice Ao59 t411.length co59 : Value).ownBlock ∧ some k_ ≠ (.slice Ao70 t413.length co70 : Value).ownBlock ∧ some k_ ≠ (.slice Ao71 t414.length co71 : Value).ownBlock ∧ some k_ ≠ (.slice Ao82 t384.length co82 : Value).ownBlock ∧ some k_ ≠ (.slice Ao83 t387.length co83 : Value).ownBlock) v429 t428) := ⟨h2_⟩; have HO433 : Aside0 (Kd.R (Kd.int .i64) 2 w210 w.heap.size (fun k_ => some k_ ≠ (v425 : Value).ownBlock ∧ some k_ ≠ (v439 : Value).ownBlock ∧ some k_ ≠ (.slice Ao47 t362.length co47 : Value).ownBlock ∧ some k_ ≠ (.slice Ao59 t411.length co59 : Value).ownBlock ∧ some k_ ≠ (.slice Ao71 t414.length co71 : Value).ownBlock ∧ some k_ ≠ (.slice Ao83 t387.length co83 : Value).ownBlock) v432 t431) := ⟨h3_⟩; have HO437 : Aside0 (Kd.S (Kd.slice 2 (Kd.int .i64)) 23 w210 w.heap.size (fun k_ => some k_ ≠ (v422 : Value).ownBlock ∧ some k_ ≠ (v425 : Value).ownBlock ∧ some k_ ≠ (v429 : Value).ownBlock ∧ some k_ ≠ (v432 : Value).ownBlock ∧ some k_ ≠ (v439 : Value).ownBlock ∧ some k_ ≠ (.slice Ao45 t359.length co45 : Value).ownBlock ∧ some k_ ≠ (.slice Ao47 t362.length co47 : Value).ownBlock ∧ some k_ ≠ (.slice Ao58 t410.length co58 : Value).ownBlock ∧ some k_ ≠ (.slice Ao59 t411.length co59 : Value).ownBlock ∧ some k_ ≠ (.slice Ao70 t413.length co70 : Value).ownBlock ∧ some k_ ≠ (.slice Ao71 t414.length co71 : Value).ownBlock ∧ some k_ ≠ (.slice Ao82 t384.length co82 : Value).ownBlock ∧ some k_ ≠ (.slice Ao83 t387.length co83 : Value).ownBlock) v436 t435) := ⟨h4_⟩; have HO440 : Aside0 (Kd.R (Kd.int .i64) 2 w210 w.heap.size (fun k_ => some k_ ≠ (v425 : Value).ownBlock ∧ some k_ ≠ (v432 : Value).ownBlock ∧ some k_ ≠ (.slice Ao47 t362.length co47 : Value).ownBlock ∧ some k_ ≠ (.slice Ao59 t411.length co59 : Value).ownBlock ∧ some k_ ≠ (.slice Ao71 t414.length co71 : Value).ownBlock ∧ some k_ ≠ (.slice Ao83 t387.length co83 : Value).ownBlock) v439 t438) := ⟨h5_⟩; replace HO_367001 : Aside0 (Kd.S (Kd.slice 2 (Kd.int .i64)) 23 w210 w.heap.size (fun k_ => some k_ ≠ (v422 : Value).ownBlock ∧ some k_ ≠ (v425 : Value).ownBlock ∧ some k_ ≠ (v429 : Value).ownBlock ∧ some k_ ≠ (v432 : Value).ownBlock ∧ some k_ ≠ (v436 : Value).ownBlock ∧ some k_ ≠ (v439 : Value).ownBlock ∧ some k_ ≠ (.slice Ao47 t362.length co47 : Value).ownBlock ∧ some k_ ≠ (.slice Ao58 t410.length co58 : Value).ownBlock ∧ some k_ ≠ (.slice Ao59 t411.length co59 : Value).ownBlock ∧ some k_ ≠ (.slice Ao70 t413.length co70 : Value).ownBlock ∧ some k_ ≠ (.slice Ao71 t414.length co71 : Value).ownBlock ∧ some k_ ≠ (.slice Ao82 t384.length co82 : Value).ownBlock ∧ some k_ ≠ (.slice Ao83 t387.length co83 : Value).ownBlock ∧ k_ ≠ lt_ N52 k_ ∧ k_ ≠ lt_ N63 k_ ∧ k_ ≠ lt_ N74 k_) (.slice Ao45 t359.length co45) t359) := ⟨h6_⟩; replace HO_367002 : Aside0 (Kd.R (Kd.int .i64) 2 w210 w.heap.size (fun k_ => some k_ ≠ (v425 : Value).ownBlock ∧ some k_ ≠ (v432 : Value).ownBlock ∧ some k_ ≠ (v439 : Value).ownBlock ∧ some k_ ≠ (.slice Ao59 t411.length co59 : Value).ownBlock ∧ some k_ ≠ (.slice Ao71 t414.length co71 : Value).ownBlock ∧ some k_ ≠ (.slice Ao83 t387.length co83 : Value).ownBlock) (.slice Ao47 t362.length co47) t362) := ⟨h7_⟩; replace HO_375001 : Aside0 (Kd.S (Kd.slice 2 (Kd.int .i64)) 23 w210 w.heap.size (fun k_ => some k_ ≠ (v422 : Value).ownBlock ∧ some k_ ≠ (v425 : Value).ownBlock ∧ some k_ ≠ (v429 : Value).ownBlock ∧ some k_ ≠ (v432 : Value).ownBlock ∧ some k_ ≠ (v436 : Value).ownBlock ∧ some k_ ≠ (v439 : Value).ownBlock ∧ some k_ ≠ (.slice Ao45 t359.length co45 : Value).ownBlock ∧ some k_ ≠ (.slice Ao47 t362.length co47 : Value).ownBlock ∧ some k_ ≠ (.slice Ao59 t411.length co59 : Value).ownBlock ∧ some k_ ≠ (.slice Ao70 t413.length co70 : Value).ownBlock ∧ some k_ ≠ (.slice Ao71 t414.length co71 : Value).ownBlock ∧ some k_ ≠ (.slice Ao82 t384.length co82 : Value).ownBlock ∧ some k_ ≠ (.slice Ao83 t387.length co83 : Value).ownBlock ∧ k_ ≠ ge_ N52 k_ ∧ k_ ≠ lt_ N63 k_ ∧ k_ ≠ lt_ N74 k_) (.slice Ao58 t410.length co58) t410) := ⟨h8_⟩; replace HO_375002 : Aside0 (Kd.R (Kd.int .i64) 2 w210 w.heap.size (fun k_ => some k_ ≠ (v425 : Value).ownBlock ∧ some k_ ≠ (v432 : Value).ownBlock ∧ some k_ ≠ (v439 : Value).ownBlock ∧ some k_ ≠ (.slice Ao47 t362.length co47 : Value).ownBlock ∧ some k_ ≠ (.slice Ao71 t414.length co71 : Value).ownBlock ∧ some k_ ≠ (.slice Ao83 t387.length co83 : Value).ownBlock) (.slice Ao59 t411.length co59) t411) := ⟨h9_⟩; replace HO_383001 : Aside0 (Kd.S (Kd.slice 2 (Kd.int .i64)) 23 w210 w.heap.size (fun k_ => some k_ ≠ (v422 : Value).ownBlock ∧ some k_ ≠ (v425 : Value).ownBlock ∧ some k_ ≠ (v429 : Value).ownBlock ∧ some k_ ≠ (v432 : Value).ownBlock ∧ some k_ ≠ (v436 : Value).ownBlock ∧ some k_ ≠ (v439 : Value).ownBlock ∧ some k_ ≠ (.slice Ao45 t359.length co45 : Value).ownBlock ∧ some k_ ≠ (.slice Ao47 t362.length co47 : Value).ownBlock ∧ some k_ ≠ (.slice Ao58 t410.length co58 : Value).ownBlock ∧ some k_ ≠ (.slice Ao59 t411.length co59 : Value).ownBlock ∧ some k_ ≠ (.slice Ao71 t414.length co71 : Value).ownBlock ∧ some k_ ≠ (.slice Ao82 t384.length co82 : Value).ownBlock ∧ some k_ ≠ (.slice Ao83 t387.length co83 : Value).ownBlock ∧ k_ ≠ ge_ N63 k_ ∧ k_ ≠ lt_ N74 k_) (.slice Ao70 t413.length co70) t413) := ⟨h10_⟩; replace HO_383002 : Aside0 (Kd.R (Kd.int .i64) 2 w210 w.heap.size (fun k_ => some k_ ≠ (v425 : Value).ownBlock ∧ some k_ ≠ (v432 : Value).ownBlock ∧ some k_ ≠ (v439 : Value).ownBlock ∧ some k_ ≠ (.slice Ao47 t362.length co47 : Value).ownBlock ∧ some k_ ≠ (.slice Ao59 t411.length co59 : Value).ownBlock ∧ some k_ ≠ (.slice Ao83 t387.length co83 : Value).ownBlock) (.slice Ao71 t414.length co71) t414) := ⟨h11_⟩; replace HO_392001 : Aside0 (Kd.S (Kd.slice 2 (Kd.int .i64)) 23 w210 w.heap.size (fun k_ => some k_ ≠ (v422 : Value).ownBlock ∧ some k_ ≠ (v425 : Value).ownBlock ∧ some k_ ≠ (v429 : Value).ownBlock ∧ some k_ ≠ (v432 : Value).ownBlock ∧ some k_ ≠ (v436 : Value).ownBlock ∧ some k_ ≠ (v439 : Value).ownBlock ∧ some k_ ≠ (.slice Ao45 t359.length co45 : Value).ownBlock ∧ some k_ ≠ (.slice Ao47 t362.length co47 : Value).ownBlock ∧ some k_ ≠ (.slice Ao58 t410.length co58 : Value).ownBlock ∧ some k_ ≠ (.slice Ao59 t411.length co59 : Value).ownBlock ∧ some k_ ≠ (.slice Ao70 t413.length co70 : Value).ownBlock ∧ some k_ ≠ (.slice Ao71 t414.length co71 : Value).ownBlock ∧ some k_ ≠ (.slice Ao83 t387.length co83 : Value).ownBlock ∧ k_ ≠ ge_ N74 k_) (.slice Ao82 t384.length co82) t417) := ⟨h12_⟩; replace HO_392002 : Aside0 (Kd.R (Kd.int .i64) 2 w210 w.heap.size (fun k_ => some k_ ≠ (v425 : Value).ownBlock ∧ some k_ ≠ (v432 : Value).ownBlock ∧ some k_ ≠ (v439 : Value).ownBlock ∧ some k_ ≠ (.slice Ao47 t362.length co47 : Value).ownBlock ∧ some k_ ≠ (.slice Ao59 t411.length co59 : Value).ownBlock ∧ some k_ ≠ (.slice Ao71 t414.length co71 : Value).ownBlock) (.slice Ao83 t387.length co83) t418) := ⟨h13_⟩; replace BK340 : Aside0 (w210.heap[gb340]? = some (.cells #[.int .i64 a0_0, .slice A0_1 l0_1.length c0_1, .slice A0_2 l0_2.length c0_2] 25 (0, 0))) := ⟨h14_⟩; replace BK341 : Aside0 (w210.heap[gb341]? = some (.cells #[.int .i64 a1_0, .slice A1_1 l1_1.length c1_1, .slice A1_2 l1_2.length c1_2] 25 (0, 0))) := ⟨h15_⟩; replace BK366 : Aside0 (w210.heap[gb366]? = some (.cells #[.int .i64 t358, .slice Ao45 t359.length co45, .slice Ao47 t362.length co47] 29 (0, 0))) := ⟨h16_⟩; replace BK374 : Aside0 (w210.heap[gb374]? = some (.cells #[.int .i64 t367, .slice Ao58 t410.length co58, .slice Ao59 t411.length co59] 29 (0, 0))) := ⟨h17_⟩; replace BK382 : Aside0 (w210.heap[gb382]? = some (.cells #[.int .i64 t375, .slice Ao70 t413.length co70, .slice Ao71 t414.length co71] 29 (0, 0))) := ⟨h18_⟩; replace BK391 : Aside0 (w210.heap[gb391]? = some (.cells #[.int .i64 t383, .slice Ao82 t384.length co82, .slice Ao83 t387.length co83] 29 (0, 0))) := ⟨h19_⟩; have BK442 : Aside0 (w210.heap[gb442]? = some (.cells #[.int .i64 0, .slice none 0 0, .slice none 0 0] 29 (0, 0))) := ⟨h20_⟩; have GW442 : Aside0 (w.heap.size ≤ gb442) := ⟨h21_⟩; have GE442 : Aside0 (w.heap.size ≤ gb442) := ⟨h22_⟩; have NB340_442 : Aside0 (gb340 ≠ gb442) := ⟨h23_⟩; have NB442_340 : Aside0 (gb442 ≠ gb340) := ⟨h24_⟩; have NB341_442 : Aside0 (gb341 ≠ gb442) := ⟨h25_⟩; have NB442_341 : Aside0 (gb442 ≠ gb341) := ⟨h26_⟩; have NB366_442 : Aside0 (gb366 ≠ gb442) := ⟨h27_⟩; have NB442_366 : Aside0 (gb442 ≠ gb366) := ⟨h28_⟩; have NB374_442 : Aside0 (gb374 ≠ gb442) := ⟨h29_⟩; have NB442_374 : Aside0 (gb442 ≠ gb374) := ⟨h30_⟩; have NB382_442 : Aside0 (gb382 ≠ gb442) := ⟨h31_⟩; have NB442_382 : Aside0 (gb442 ≠ gb382) := ⟨h32_⟩; have NB391_442 : Aside0 (gb391 ≠ gb442) := ⟨h33_⟩; have NB442_391 : Aside0 (gb442 ≠ gb391) := ⟨h34_⟩; replace HB : Aside0 (Below w.heap.size w w210) := ⟨h35_⟩; clear h0_ h1_ h2_ h3_ h4_ h5_ h6_ h7_ h8_ h9_ h10_ h11_ h12_ h13_ h14_ h15_ h16_ h17_ h18_ h19_ h20_ h21_ h22_ h23_ h24_ h25_ h26_ h27_ h28_ h29_ h30_ h31_ h32_ h33_ h34_ h35_
          have hHeld : w210.cell? ⟨gb340, 0, none⟩ = some (.int .i64 a0_0) ∧ w210.cell? ⟨gb340, 1, none⟩ = some (.slice A0_1 l0_1.length c0_1) ∧ w210.cell? ⟨gb340, 2, none⟩ = some (.slice A0_2 l0_2.length c0_2) ∧ w210.cell? ⟨gb341, 0, none⟩ = some (.int .i64 a1_0) ∧ w210.cell? ⟨gb341, 1, none⟩ = some (.slice A1_1 l1_1.length c1_1) ∧ w210.cell? ⟨gb341, 2, none⟩ = some (.slice A1_2 l1_2.length c1_2) := hS_
          obtain ⟨Ao212, co212, eo212⟩ := Kd.S_slice HO437.out
          (first | subst eo212 | (injection eo212 with f1_ f2_ f3_; have f4_ := f1_.symm; have f5_ := f3_.symm; clear f1_ f2_ f3_; subst f4_; subst f5_))
          obtain ⟨Ao214, co214, eo214⟩ := Kd.R_slice HO440.out
          (first | subst eo214 | (injection eo214 with f1_ f2_ f3_; have f4_ := f1_.symm; have f5_ := f3_.symm; clear f1_ f2_ f3_; subst f4_; subst f5_))
          refine norm_ (a' := ?_) ?_ ?_
          rotate_left
          · simp only [putAll, Act.put, List.setIfInBounds_toArray, List.set_cons_zero, List.set_cons_succ]
            rfl
          refine on_ 10 none HT_ fun K hK => ?_
          have hs211 : w210.cell? ⟨gb442, 0, none⟩ = some (.int .i64 0) := (blk_cell BK442.out 0).trans rfl
          have hfs211 := blk_frozen BK442.out 0
          have hns211_0 := NB340_442.out
          have hns211_1 := NB341_442.out
          have hns211_2 := NB366_442.out
          have hns211_3 := NB374_442.out
          have hns211_4 := NB382_442.out
          have hns211_5 := NB391_442.out
          have hms211_0 := NB442_340.out
          have hms211_1 := NB442_341.out
          have hms211_2 := NB442_366.out
          have hms211_3 := NB442_374.out
          have hms211_4 := NB442_382.out
          have hms211_5 := NB442_391.out
          have hs213 : w210.cell? ⟨gb442, 1, none⟩ = some (.slice none 0 0) := (blk_cell BK442.out 1).trans rfl
          have hfs213 := blk_frozen BK442.out 1
          have hns213_0 := NB340_442.out
          have hns213_1 := NB341_442.out
          have hns213_2 := NB366_442.out
          have hns213_3 := NB374_442.out
          have hns213_4 := NB382_442.out
          have hns213_5 := NB391_442.out
          have hms213_0 := NB442_340.out
          have hms213_1 := NB442_341.out
          have hms213_2 := NB442_366.out
          have hms213_3 := NB442_374.out
          have hms213_4 := NB442_382.out
          have hms213_5 := NB442_391.out
          have hs215 : w210.cell? ⟨gb442, 2, none⟩ = some (.slice none 0 0) := (blk_cell BK442.out 2).trans rfl
          have hfs215 := blk_frozen BK442.out 2
          have hns215_0 := NB340_442.out
          have hns215_1 := NB341_442.out
          have hns215_2 := NB366_442.out
          have hns215_3 := NB374_442.out
          have hns215_4 := NB382_442.out
          have hns215_5 := NB391_442.out
          have hms215_0 := NB442_340.out
          have hms215_1 := NB442_341.out
          have hms215_2 := NB442_366.out
          have hms215_3 := NB442_374.out
          have hms215_4 := NB442_382.out
          have hms215_5 := NB442_391.out
          refine skip_ (w1 := ?_) (by rfl) rfl ?_ ?_
          rotate_left
          · go_simp
            rfl
          refine hK.out _ _ ⟨((cell_far (p := ⟨gb442, _, none⟩) NB340_442.out _).trans (((cell_far (p := ⟨gb442, _, none⟩) NB340_442.out _).trans (((cell_far (p := ⟨gb442, _, none⟩) NB340_442.out _).trans (hHeld.1)))))), ((cell_far (p := ⟨gb442, _, none⟩) NB340_442.out _).trans (((cell_far (p := ⟨gb442, _, none⟩) NB340_442.out _).trans (((cell_far (p := ⟨gb442, _, none⟩) NB340_442.out _).trans (hHeld.2.1)))))), ((cell_far (p := ⟨gb442, _, none⟩) NB340_442.out _).trans (((cell_far (p := ⟨gb442, _, none⟩) NB340_442.out _).trans (((cell_far (p := ⟨gb442, _, none⟩) NB340_442.out _).trans (hHeld.2.2.1)))))), ((cell_far (p := ⟨gb442, _, none⟩) NB341_442.out _).trans (((cell_far (p := ⟨gb442, _, none⟩) NB341_442.out _).trans (((cell_far (p := ⟨gb442, _, none⟩) NB341_442.out _).trans (hHeld.2.2.2.1)))))), ((cell_far (p := ⟨gb442, _, none⟩) NB341_442.out _).trans (((cell_far (p := ⟨gb442, _, none⟩) NB341_442.out _).trans (((cell_far (p := ⟨gb442, _, none⟩) NB341_442.out _).trans (hHeld.2.2.2.2.1)))))), ((cell_far (p := ⟨gb442, _, none⟩) NB341_442.out _).trans (((cell_far (p := ⟨gb442, _, none⟩) NB341_442.out _).trans (((cell_far (p := ⟨gb442, _, none⟩) NB341_442.out _).trans (hHeld.2.2.2.2.2))))))⟩ (fun hHeld => ?_)
          clear hK K
          refine pu_ 11 18 HT_ ?_
          refine dn_ HT_ ?_
          go_upto_region 32 with (fail)
          go_cut [115] (fun v115 wc => ∃ (kq : Nat) (x115_189 : Bool), v115 = .bool x115_189 ∧ Aside0 (laws_FnExactCombineAutomata.j2 kq t416 x115_189 t383 t417 t418 = some r) ∧ Aside0 (kq ≤ kj118) ∧ Aside0 (Kd.S (Kd.slice 2 (Kd.int .i64)) 23 wc w.heap.size (fun k_ => some k_ ≠ ((.slice Ao47 t362.length co47) : Value).ownBlock ∧ some k_ ≠ ((.slice Ao58 t410.length co58) : Value).ownBlock ∧ some k_ ≠ ((.slice Ao59 t411.length co59) : Value).ownBlock ∧ some k_ ≠ ((.slice Ao70 t413.length co70) : Value).ownBlock ∧ some k_ ≠ ((.slice Ao71 t414.length co71) : Value).ownBlock ∧ some k_ ≠ ((.slice Ao82 t384.length co82) : Value).ownBlock ∧ some k_ ≠ ((.slice Ao83 t387.length co83) : Value).ownBlock ∧ some k_ ≠ ((.slice Ao212 t435.length co212) : Value).ownBlock ∧ some k_ ≠ ((.slice Ao214 t438.length co214) : Value).ownBlock ∧ k_ ≠ lt_ N52 k_ ∧ k_ ≠ lt_ N63 k_ ∧ k_ ≠ lt_ N74 k_) (.slice Ao45 t359.length co45) t359) ∧ Aside0 (Kd.R (Kd.int .i64) 2 wc w.heap.size (fun k_ => some k_ ≠ ((.slice Ao59 t411.length co59) : Value).ownBlock ∧ some k_ ≠ ((.slice Ao71 t414.length co71) : Value).ownBlock ∧ some k_ ≠ ((.slice Ao83 t387.length co83) : Value).ownBlock ∧ some k_ ≠ ((.slice Ao214 t438.length co214) : Value).ownBlock) (.slice Ao47 t362.length co47) t362) ∧ Aside0 (Kd.S (Kd.slice 2 (Kd.int .i64)) 23 wc w.heap.size (fun k_ => some k_ ≠ ((.slice Ao45 t359.length co45) : Value).ownBlock ∧ some k_ ≠ ((.slice Ao47 t362.length co47) : Value).ownBlock ∧ some k_ ≠ ((.slice Ao59 t411.length co59) : Value).ownBlock ∧ some k_ ≠ ((.slice Ao70 t413.length co70) : Value).ownBlock ∧ some k_ ≠ ((.slice Ao71 t414.length co71) : Value).ownBlock ∧ some k_ ≠ ((.slice Ao82 t384.length co82) : Value).ownBlock ∧ some k_ ≠ ((.slice Ao83 t387.length co83) : Value).ownBlock ∧ some k_ ≠ ((.slice Ao212 t435.length co212) : Value).ownBlock ∧ some k_ ≠ ((.slice Ao214 t438.length co214) : Value).ownBlock ∧ k_ ≠ ge_ N52 k_ ∧ k_ ≠ lt_ N63 k_ ∧ k_ ≠ lt_ N74 k_) (.slice Ao58 t410.length co58) t410) ∧ Aside0 (Kd.R (Kd.int .i64) 2 wc w.heap.size (fun k_ => some k_ ≠ ((.slice Ao47 t362.length co47) : Value).ownBlock ∧ some k_ ≠ ((.slice Ao71 t414.length co71) : Value).ownBlock ∧ some k_ ≠ ((.slice Ao83 t387.length co83) : Value).ownBlock ∧ some k_ ≠ ((.slice Ao214 t438.length co214) : Value).ownBlock) (.slice Ao59 t411.length co59) t411) ∧ Aside0 (Kd.S (Kd.slice 2 (Kd.int .i64)) 23 wc w.heap.size (fun k_ => some k_ ≠ ((.slice Ao45 t359.length co45) : Value).ownBlock ∧ some k_ ≠ ((.slice Ao47 t362.length co47) : Value).ownBlock ∧ some k_ ≠ ((.slice Ao58 t410.length co58) : Value).ownBlock ∧ some k_ ≠ ((.slice Ao59 t411.length co59) : Value).ownBlock ∧ some k_ ≠ ((.slice Ao71 t414.length co71) : Value).ownBlock ∧ some k_ ≠ ((.slice Ao82 t384.length co82) : Value).ownBlock ∧ some k_ ≠ ((.slice Ao83 t387.length co83) : Value).ownBlock ∧ some k_ ≠ ((.slice Ao212 t435.length co212) : Value).ownBlock ∧ some k_ ≠ ((.slice Ao214 t438.length co214) : Value).ownBlock ∧ k_ ≠ ge_ N63 k_ ∧ k_ ≠ lt_ N74 k_) (.slice Ao70 t413.length co70) t413) ∧ Aside0 (Kd.R (Kd.int .i64) 2 wc w.heap.size (fun k_ => some k_ ≠ ((.slice Ao47 t362.length co47) : Value).ownBlock ∧ some k_ ≠ ((.slice Ao59 t411.length co59) : Value).ownBlock ∧ some k_ ≠ ((.slice Ao83 t387.length co83) : Value).ownBlock ∧ some k_ ≠ ((.slice Ao214 t438.length co214) : Value).ownBlock) (.slice Ao71 t414.length co71) t414) ∧ Aside0 (Kd.S (Kd.slice 2 (Kd.int .i64)) 23 wc w.heap.size (fun k_ => some k_ ≠ ((.slice Ao45 t359.length co45) : Value).ownBlock ∧ some k_ ≠ ((.slice Ao47 t362.length co47) : Value).ownBlock ∧ some k_ ≠ ((.slice Ao58 t410.length co58) : Value).ownBlock ∧ some k_ ≠ ((.slice Ao59 t411.length co59) : Value).ownBlock ∧ some k_ ≠ ((.slice Ao70 t413.length co70) : Value).ownBlock ∧ some k_ ≠ ((.slice Ao71 t414.length co71) : Value).ownBlock ∧ some k_ ≠ ((.slice Ao83 t387.length co83) : Value).ownBlock ∧ some k_ ≠ ((.slice Ao212 t435.length co212) : Value).ownBlock ∧ some k_ ≠ ((.slice Ao214 t438.length co214) : Value).ownBlock ∧ k_ ≠ ge_ N74 k_) (.slice Ao82 t384.length co82) t417) ∧ Aside0 (Kd.R (Kd.int .i64) 2 wc w.heap.size (fun k_ => some k_ ≠ ((.slice Ao47 t362.length co47) : Value).ownBlock ∧ some k_ ≠ ((.slice Ao59 t411.length co59) : Value).ownBlock ∧ some k_ ≠ ((.slice Ao71 t414.length co71) : Value).ownBlock ∧ some k_ ≠ ((.slice Ao214 t438.length co214) : Value).ownBlock) (.slice Ao83 t387.length co83) t418) ∧ Aside0 (Kd.S (Kd.slice 2 (Kd.int .i64)) 23 wc w.heap.size (fun k_ => some k_ ≠ ((.slice Ao45 t359.length co45) : Value).ownBlock ∧ some k_ ≠ ((.slice Ao47 t362.length co47) : Value).ownBlock ∧ some k_ ≠ ((.slice Ao58 t410.length co58) : Value).ownBlock ∧ some k_ ≠ ((.slice Ao59 t411.length co59) : Value).ownBlock ∧ some k_ ≠ ((.slice Ao70 t413.length co70) : Value).ownBlock ∧ some k_ ≠ ((.slice Ao71 t414.length co71) : Value).ownBlock ∧ some k_ ≠ ((.slice Ao82 t384.length co82) : Value).ownBlock ∧ some k_ ≠ ((.slice Ao83 t387.length co83) : Value).ownBlock ∧ some k_ ≠ ((.slice Ao214 t438.length co214) : Value).ownBlock) (.slice Ao212 t435.length co212) t435) ∧ Aside0 (Kd.R (Kd.int .i64) 2 wc w.heap.size (fun k_ => some k_ ≠ ((.slice Ao47 t362.length co47) : Value).ownBlock ∧ some k_ ≠ ((.slice Ao59 t411.length co59) : Value).ownBlock ∧ some k_ ≠ ((.slice Ao71 t414.length co71) : Value).ownBlock ∧ some k_ ≠ ((.slice Ao83 t387.length co83) : Value).ownBlock) (.slice Ao214 t438.length co214) t438) ∧ Aside0 (wc.heap[gb340]? = some (.cells #[.int .i64 a0_0, (.slice A0_1 l0_1.length c0_1), (.slice A0_2 l0_2.length c0_2)] 25 (0, 0))) ∧ Aside0 (wc.heap[gb341]? = some (.cells #[.int .i64 a1_0, (.slice A1_1 l1_1.length c1_1), (.slice A1_2 l1_2.length c1_2)] 25 (0, 0))) ∧ Aside0 (wc.heap[gb366]? = some (.cells #[.int .i64 t358, (.slice Ao45 t359.length co45), (.slice Ao47 t362.length co47)] 29 (0, 0))) ∧ Aside0 (wc.heap[gb374]? = some (.cells #[.int .i64 t367, (.slice Ao58 t410.length co58), (.slice Ao59 t411.length co59)] 29 (0, 0))) ∧ Aside0 (wc.heap[gb382]? = some (.cells #[.int .i64 t375, (.slice Ao70 t413.length co70), (.slice Ao71 t414.length co71)] 29 (0, 0))) ∧ Aside0 (wc.heap[gb391]? = some (.cells #[.int .i64 t383, (.slice Ao82 t384.length co82), (.slice Ao83 t387.length co83)] 29 (0, 0))) ∧ Aside0 (wc.heap[gb442]? = some (.cells #[.int .i64 t434, (.slice Ao212 t435.length co212), (.slice Ao214 t438.length co214)] 29 (0, 0))) ∧ Aside0 (Below w.heap.size w wc))
          case first => as_aux_lemma =>
            have H := HC190.out
            clear HC190
            obtain ⟨t443, A216, H⟩ := bo_ H
            by_cases c217 : t443 = true
            · subst c217
              replace H := it_ H
              have H' := as_ H
              clear H
              have hnb218 := NB442_340.out
              have hnc218 := NB340_442.out
              have hnb219 := NB442_341.out
              have hnc219 := NB341_442.out
              have hnb220 := NB442_366.out
              have hnc220 := NB366_442.out
              have hnb221 := NB442_374.out
              have hnc221 := NB374_442.out
              have hnb222 := NB442_382.out
              have hnc222 := NB382_442.out
              have hnb223 := NB442_391.out
              have hnc223 := NB391_442.out
              obtain ⟨hcz224_0, hfz224_0, hcz224_1, hfz224_1, hcz224_2, hfz224_2⟩ := tc3_ BK442
              have hnb225 := NB366_340.out
              have hnc225 := NB340_366.out
              have hnb226 := NB366_341.out
              have hnc226 := NB341_366.out
              have hnb227 := NB366_374.out
              have hnc227 := NB374_366.out
              have hnb228 := NB366_382.out
              have hnc228 := NB382_366.out
              have hnb229 := NB366_391.out
              have hnc229 := NB391_366.out
              obtain ⟨hcz230_0, hfz230_0, hcz230_1, hfz230_1, hcz230_2, hfz230_2⟩ := tc3_ BK366
              go_wp2_with (first | ((with_reducible refine gate_callee (f := 9) rfl ?_); refine gL_ 109 Try.func9 #[.agg #[.int .i64 t434, .slice Ao212 t435.length co212, .slice Ao214 t438.length co214], .agg #[.int .i64 t358, .slice Ao45 t359.length co45, .slice Ao47 t362.length co47]] ?_; (with_reducible refine (laws_eqAutomaton.calls kj118 t434 _ _ t435 _ _ t438 t358 _ _ t359 _ _ t362 true _ ?side1 ?side2 ?side3 ?side4 ?side5 ?side6 ?side7 ?side8 A216.out).mono ?_); (case side1 => exact rS1_ HO437 BK442); (case side2 => exact (Kd.S_reads' HO437.out).2.1); (case side3 => exact rR1_ HO440 BK442); (case side4 => exact (Kd.R_reads' HO440.out).2.1); (case side5 => exact rS1_ HO_367001 BK442); (case side6 => exact (Kd.S_reads' HO_367001.out).2.1); (case side7 => exact rR1_ HO_367002 BK442); (case side8 => exact (Kd.R_reads' HO_367002.out).2.1); rintro e w231 ⟨rfl, hb⟩; refine ⟨_, rfl, ?_⟩; replace HO_367001 := as_ (Kd.S_below (iS1_ HO_367001 BK442) hb); replace HO_367002 := as_ (Kd.R_below (iR1_ HO_367002 BK442) hb); replace HO_375001 := as_ (Kd.S_below (iS1_ HO_375001 BK442) hb); replace HO_375002 := as_ (Kd.R_below (iR1_ HO_375002 BK442) hb); replace HO_383001 := as_ (Kd.S_below (iS1_ HO_383001 BK442) hb); replace HO_383002 := as_ (Kd.R_below (iR1_ HO_383002 BK442) hb); replace HO_392001 := as_ (Kd.S_below (iS1_ HO_392001 BK442) hb); replace HO_392002 := as_ (Kd.R_below (iR1_ HO_392002 BK442) hb); replace HO423 := as_ (Kd.S_below (iS1_ HO423 BK442) hb); replace HO426 := as_ (Kd.R_below (iR1_ HO426 BK442) hb); replace HO430 := as_ (Kd.S_below (iS1_ HO430 BK442) hb); replace HO433 := as_ (Kd.R_below (iR1_ HO433 BK442) hb); replace HO437 := as_ (Kd.S_below (iS1_ HO437 BK442) hb); replace HO440 := as_ (Kd.R_below (iR1_ HO440 BK442) hb); replace BK340 := as_ (blk_below (bf_ BK340 NB340_442) hb); replace BK341 := as_ (blk_below (bf_ BK341 NB341_442) hb); replace BK366 := as_ (blk_below (bf_ BK366 NB366_442) hb); replace BK374 := as_ (blk_below (bf_ BK374 NB374_442) hb); replace BK382 := as_ (blk_below (bf_ BK382 NB382_442) hb); replace BK391 := as_ (blk_below (bf_ BK391 NB391_442) hb); replace BK442 := as_ (blk_below (g := gb442) (o := .cells #[.int .i64 t434, .slice Ao212 t435.length co212, .slice Ao214 t438.length co214] 29 (0, 0)) (bp_ BK442) hb); replace HB := as_ (below_step (b7_ HB GE340 GE341 GE366 GE374 GE382 GE391 GE442) hb); clear hb))
              go_meet
              case rel => exact ⟨_, ((t441 != t365)), rf_, H', ⟨by have := HJ25.out; have := HJ118.out; first | omega | exact Nat.le_refl _⟩, ⟨by (try simp only [hl375001_118]); (try simp only [hl375002_118]); (try simp only [hl383001_118]); (try simp only [hl383002_118]); (with_reducible repeat (first | apply Kd.S_alloc | apply Kd.S_drewN | apply Kd.S_drew)); exact Kd.S_mono HO_367001.out (fun _ hk => ⟨hk.2.2.2.2.2.2.1, ⟨hk.2.2.2.2.2.2.2.1, ⟨hk.2.2.2.2.2.2.2.2.1, ⟨hk.2.2.2.2.2.2.2.2.2.1, ⟨hk.2.2.2.2.2.2.2.2.2.2.1, ⟨hk.2.2.2.2.2.2.2.2.2.2.2.1, ⟨hk.2.2.2.2.2.2.2.2.2.2.2.2.1, ⟨hk.2.2.2.2.1, ⟨hk.2.2.2.2.2.1, ⟨hk.2.2.2.2.2.2.2.2.2.2.2.2.2.1, ⟨hk.2.2.2.2.2.2.2.2.2.2.2.2.2.2.1, hk.2.2.2.2.2.2.2.2.2.2.2.2.2.2.2⟩⟩⟩⟩⟩⟩⟩⟩⟩⟩⟩)⟩, ⟨by (try simp only [hl375001_118]); (try simp only [hl375002_118]); (try simp only [hl383001_118]); (try simp only [hl383002_118]); (with_reducible repeat (first | apply Kd.R_alloc | apply Kd.R_drewN | apply Kd.R_drew)); exact Kd.R_mono HO_367002.out (fun _ hk => ⟨hk.2.2.2.1, ⟨hk.2.2.2.2.1, ⟨hk.2.2.2.2.2, hk.2.2.1⟩⟩⟩)⟩, ⟨by (try simp only [hl375001_118]); (try simp only [hl375002_118]); (try simp only [hl383001_118]); (try simp only [hl383002_118]); (with_reducible repeat (first | apply Kd.S_alloc | apply Kd.S_drewN | apply Kd.S_drew)); exact Kd.S_mono HO_375001.out (fun _ hk => ⟨hk.2.2.2.2.2.2.1, ⟨hk.2.2.2.2.2.2.2.1, ⟨hk.2.2.2.2.2.2.2.2.1, ⟨hk.2.2.2.2.2.2.2.2.2.1, ⟨hk.2.2.2.2.2.2.2.2.2.2.1, ⟨hk.2.2.2.2.2.2.2.2.2.2.2.1, ⟨hk.2.2.2.2.2.2.2.2.2.2.2.2.1, ⟨hk.2.2.2.2.1, ⟨hk.2.2.2.2.2.1, ⟨hk.2.2.2.2.2.2.2.2.2.2.2.2.2.1, ⟨hk.2.2.2.2.2.2.2.2.2.2.2.2.2.2.1, hk.2.2.2.2.2.2.2.2.2.2.2.2.2.2.2⟩⟩⟩⟩⟩⟩⟩⟩⟩⟩⟩)⟩, ⟨by (try simp only [hl375001_118]); (try simp only [hl375002_118]); (try simp only [hl383001_118]); (try simp only [hl383002_118]); (with_reducible repeat (first | apply Kd.R_alloc | apply Kd.R_drewN | apply Kd.R_drew)); exact Kd.R_mono HO_375002.out (fun _ hk => ⟨hk.2.2.2.1, ⟨hk.2.2.2.2.1, ⟨hk.2.2.2.2.2, hk.2.2.1⟩⟩⟩)⟩, ⟨by (try simp only [hl375001_118]); (try simp only [hl375002_118]); (try simp only [hl383001_118]); (try simp only [hl383002_118]); (with_reducible repeat (first | apply Kd.S_alloc | apply Kd.S_drewN | apply Kd.S_drew)); exact Kd.S_mono HO_383001.out (fun _ hk => ⟨hk.2.2.2.2.2.2.1, ⟨hk.2.2.2.2.2.2.2.1, ⟨hk.2.2.2.2.2.2.2.2.1, ⟨hk.2.2.2.2.2.2.2.2.2.1, ⟨hk.2.2.2.2.2.2.2.2.2.2.1, ⟨hk.2.2.2.2.2.2.2.2.2.2.2.1, ⟨hk.2.2.2.2.2.2.2.2.2.2.2.2.1, ⟨hk.2.2.2.2.1, ⟨hk.2.2.2.2.2.1, ⟨hk.2.2.2.2.2.2.2.2.2.2.2.2.2.1, hk.2.2.2.2.2.2.2.2.2.2.2.2.2.2⟩⟩⟩⟩⟩⟩⟩⟩⟩⟩)⟩, ⟨by (try simp only [hl375001_118]); (try simp only [hl375002_118]); (try simp only [hl383001_118]); (try simp only [hl383002_118]); (with_reducible repeat (first | apply Kd.R_alloc | apply Kd.R_drewN | apply Kd.R_drew)); exact Kd.R_mono HO_383002.out (fun _ hk => ⟨hk.2.2.2.1, ⟨hk.2.2.2.2.1, ⟨hk.2.2.2.2.2, hk.2.2.1⟩⟩⟩)⟩, ⟨by (try simp only [hl375001_118]); (try simp only [hl375002_118]); (try simp only [hl383001_118]); (try simp only [hl383002_118]); (with_reducible repeat (first | apply Kd.S_alloc | apply Kd.S_drewN | apply Kd.S_drew)); exact Kd.S_mono HO_392001.out (fun _ hk => ⟨hk.2.2.2.2.2.2.1, ⟨hk.2.2.2.2.2.2.2.1, ⟨hk.2.2.2.2.2.2.2.2.1, ⟨hk.2.2.2.2.2.2.2.2.2.1, ⟨hk.2.2.2.2.2.2.2.2.2.2.1, ⟨hk.2.2.2.2.2.2.2.2.2.2.2.1, ⟨hk.2.2.2.2.2.2.2.2.2.2.2.2.1, ⟨hk.2.2.2.2.1, ⟨hk.2.2.2.2.2.1, hk.2.2.2.2.2.2.2.2.2.2.2.2.2⟩⟩⟩⟩⟩⟩⟩⟩⟩)⟩, ⟨by (try simp only [hl375001_118]); (try simp only [hl375002_118]); (try simp only [hl383001_118]); (try simp only [hl383002_118]); (with_reducible repeat (first | apply Kd.R_alloc | apply Kd.R_drewN | apply Kd.R_drew)); exact Kd.R_mono HO_392002.out (fun _ hk => ⟨hk.2.2.2.1, ⟨hk.2.2.2.2.1, ⟨hk.2.2.2.2.2, hk.2.2.1⟩⟩⟩)⟩, ⟨by (try simp only [hl375001_118]); (try simp only [hl375002_118]); (try simp only [hl383001_118]); (try simp only [hl383002_118]); (with_reducible repeat (first | apply Kd.S_alloc | apply Kd.S_drewN | apply Kd.S_drew)); exact Kd.S_mono HO437.out (fun _ hk => ⟨hk.2.2.2.2.2.1, ⟨hk.2.2.2.2.2.2.1, ⟨hk.2.2.2.2.2.2.2.1, ⟨hk.2.2.2.2.2.2.2.2.1, ⟨hk.2.2.2.2.2.2.2.2.2.1, ⟨hk.2.2.2.2.2.2.2.2.2.2.1, ⟨hk.2.2.2.2.2.2.2.2.2.2.2.1, ⟨hk.2.2.2.2.2.2.2.2.2.2.2.2, hk.2.2.2.2.1⟩⟩⟩⟩⟩⟩⟩⟩)⟩, ⟨by (try simp only [hl375001_118]); (try simp only [hl375002_118]); (try simp only [hl383001_118]); (try simp only [hl383002_118]); (with_reducible repeat (first | apply Kd.R_alloc | apply Kd.R_drewN | apply Kd.R_drew)); exact Kd.R_mono HO440.out (fun _ hk => ⟨hk.2.2.1, ⟨hk.2.2.2.1, ⟨hk.2.2.2.2.1, hk.2.2.2.2.2⟩⟩⟩)⟩, ⟨by (try simp only [hl375001_118]); (try simp only [hl375002_118]); (try simp only [hl383001_118]); (try simp only [hl383002_118]); (with_reducible repeat (first | refine blk_drewN ?_ _ | refine blk_drew ?_ | refine blk_alloc ?_ _)); exact BK340.out⟩, ⟨by (try simp only [hl375001_118]); (try simp only [hl375002_118]); (try simp only [hl383001_118]); (try simp only [hl383002_118]); (with_reducible repeat (first | refine blk_drewN ?_ _ | refine blk_drew ?_ | refine blk_alloc ?_ _)); exact BK341.out⟩, ⟨by (try simp only [hl375001_118]); (try simp only [hl375002_118]); (try simp only [hl383001_118]); (try simp only [hl383002_118]); (with_reducible repeat (first | refine blk_drewN ?_ _ | refine blk_drew ?_ | refine blk_alloc ?_ _)); exact BK366.out⟩, ⟨by (try simp only [hl375001_118]); (try simp only [hl375002_118]); (try simp only [hl383001_118]); (try simp only [hl383002_118]); (with_reducible repeat (first | refine blk_drewN ?_ _ | refine blk_drew ?_ | refine blk_alloc ?_ _)); exact BK374.out⟩, ⟨by (try simp only [hl375001_118]); (try simp only [hl375002_118]); (try simp only [hl383001_118]); (try simp only [hl383002_118]); (with_reducible repeat (first | refine blk_drewN ?_ _ | refine blk_drew ?_ | refine blk_alloc ?_ _)); exact BK382.out⟩, ⟨by (try simp only [hl375001_118]); (try simp only [hl375002_118]); (try simp only [hl383001_118]); (try simp only [hl383002_118]); (with_reducible repeat (first | refine blk_drewN ?_ _ | refine blk_drew ?_ | refine blk_alloc ?_ _)); exact BK391.out⟩, ⟨by (try simp only [hl375001_118]); (try simp only [hl375002_118]); (try simp only [hl383001_118]); (try simp only [hl383002_118]); (with_reducible repeat (first | refine blk_drewN ?_ _ | refine blk_drew ?_ | refine blk_alloc ?_ _)); exact BK442.out⟩, ⟨b7_ HB GE340 GE341 GE366 GE374 GE382 GE391 GE442⟩⟩
            replace c217 := Bool.eq_false_iff.mpr c217
            subst c217
            replace H := if_ H
            have H' := as_ H
            clear H
            have hnb232 := NB442_340.out
            have hnc232 := NB340_442.out
            have hnb233 := NB442_341.out
            have hnc233 := NB341_442.out
            have hnb234 := NB442_366.out
            have hnc234 := NB366_442.out
            have hnb235 := NB442_374.out
            have hnc235 := NB374_442.out
            have hnb236 := NB442_382.out
            have hnc236 := NB382_442.out
            have hnb237 := NB442_391.out
            have hnc237 := NB391_442.out
            obtain ⟨hcz238_0, hfz238_0, hcz238_1, hfz238_1, hcz238_2, hfz238_2⟩ := tc3_ BK442
            have hnb239 := NB366_340.out
            have hnc239 := NB340_366.out
            have hnb240 := NB366_341.out
            have hnc240 := NB341_366.out
            have hnb241 := NB366_374.out
            have hnc241 := NB374_366.out
            have hnb242 := NB366_382.out
            have hnc242 := NB382_366.out
            have hnb243 := NB366_391.out
            have hnc243 := NB391_366.out
            obtain ⟨hcz244_0, hfz244_0, hcz244_1, hfz244_1, hcz244_2, hfz244_2⟩ := tc3_ BK366
            go_wp2_with (first | ((with_reducible refine gate_callee (f := 9) rfl ?_); refine gL_ 109 Try.func9 #[.agg #[.int .i64 t434, .slice Ao212 t435.length co212, .slice Ao214 t438.length co214], .agg #[.int .i64 t358, .slice Ao45 t359.length co45, .slice Ao47 t362.length co47]] ?_; (with_reducible refine (laws_eqAutomaton.calls kj118 t434 _ _ t435 _ _ t438 t358 _ _ t359 _ _ t362 false _ ?side1 ?side2 ?side3 ?side4 ?side5 ?side6 ?side7 ?side8 A216.out).mono ?_); (case side1 => exact rS1_ HO437 BK442); (case side2 => exact (Kd.S_reads' HO437.out).2.1); (case side3 => exact rR1_ HO440 BK442); (case side4 => exact (Kd.R_reads' HO440.out).2.1); (case side5 => exact rS1_ HO_367001 BK442); (case side6 => exact (Kd.S_reads' HO_367001.out).2.1); (case side7 => exact rR1_ HO_367002 BK442); (case side8 => exact (Kd.R_reads' HO_367002.out).2.1); rintro e w245 ⟨rfl, hb⟩; refine ⟨_, rfl, ?_⟩; replace HO_367001 := as_ (Kd.S_below (iS1_ HO_367001 BK442) hb); replace HO_367002 := as_ (Kd.R_below (iR1_ HO_367002 BK442) hb); replace HO_375001 := as_ (Kd.S_below (iS1_ HO_375001 BK442) hb); replace HO_375002 := as_ (Kd.R_below (iR1_ HO_375002 BK442) hb); replace HO_383001 := as_ (Kd.S_below (iS1_ HO_383001 BK442) hb); replace HO_383002 := as_ (Kd.R_below (iR1_ HO_383002 BK442) hb); replace HO_392001 := as_ (Kd.S_below (iS1_ HO_392001 BK442) hb); replace HO_392002 := as_ (Kd.R_below (iR1_ HO_392002 BK442) hb); replace HO423 := as_ (Kd.S_below (iS1_ HO423 BK442) hb); replace HO426 := as_ (Kd.R_below (iR1_ HO426 BK442) hb); replace HO430 := as_ (Kd.S_below (iS1_ HO430 BK442) hb); replace HO433 := as_ (Kd.R_below (iR1_ HO433 BK442) hb); replace HO437 := as_ (Kd.S_below (iS1_ HO437 BK442) hb); replace HO440 := as_ (Kd.R_below (iR1_ HO440 BK442) hb); replace BK340 := as_ (blk_below (bf_ BK340 NB340_442) hb); replace BK341 := as_ (blk_below (bf_ BK341 NB341_442) hb); replace BK366 := as_ (blk_below (bf_ BK366 NB366_442) hb); replace BK374 := as_ (blk_below (bf_ BK374 NB374_442) hb); replace BK382 := as_ (blk_below (bf_ BK382 NB382_442) hb); replace BK391 := as_ (blk_below (bf_ BK391 NB391_442) hb); replace BK442 := as_ (blk_below (g := gb442) (o := .cells #[.int .i64 t434, .slice Ao212 t435.length co212, .slice Ao214 t438.length co214] 29 (0, 0)) (bp_ BK442) hb); replace HB := as_ (below_step (b7_ HB GE340 GE341 GE366 GE374 GE382 GE391 GE442) hb); clear hb))
            go_meet
            case rel => exact ⟨_, (true), rf_, H', ⟨by have := HJ25.out; have := HJ118.out; first | omega | exact Nat.le_refl _⟩, ⟨by (try simp only [hl375001_118]); (try simp only [hl375002_118]); (try simp only [hl383001_118]); (try simp only [hl383002_118]); (with_reducible repeat (first | apply Kd.S_alloc | apply Kd.S_drewN | apply Kd.S_drew)); exact Kd.S_mono HO_367001.out (fun _ hk => ⟨hk.2.2.2.2.2.2.1, ⟨hk.2.2.2.2.2.2.2.1, ⟨hk.2.2.2.2.2.2.2.2.1, ⟨hk.2.2.2.2.2.2.2.2.2.1, ⟨hk.2.2.2.2.2.2.2.2.2.2.1, ⟨hk.2.2.2.2.2.2.2.2.2.2.2.1, ⟨hk.2.2.2.2.2.2.2.2.2.2.2.2.1, ⟨hk.2.2.2.2.1, ⟨hk.2.2.2.2.2.1, ⟨hk.2.2.2.2.2.2.2.2.2.2.2.2.2.1, ⟨hk.2.2.2.2.2.2.2.2.2.2.2.2.2.2.1, hk.2.2.2.2.2.2.2.2.2.2.2.2.2.2.2⟩⟩⟩⟩⟩⟩⟩⟩⟩⟩⟩)⟩, ⟨by (try simp only [hl375001_118]); (try simp only [hl375002_118]); (try simp only [hl383001_118]); (try simp only [hl383002_118]); (with_reducible repeat (first | apply Kd.R_alloc | apply Kd.R_drewN | apply Kd.R_drew)); exact Kd.R_mono HO_367002.out (fun _ hk => ⟨hk.2.2.2.1, ⟨hk.2.2.2.2.1, ⟨hk.2.2.2.2.2, hk.2.2.1⟩⟩⟩)⟩, ⟨by (try simp only [hl375001_118]); (try simp only [hl375002_118]); (try simp only [hl383001_118]); (try simp only [hl383002_118]); (with_reducible repeat (first | apply Kd.S_alloc | apply Kd.S_drewN | apply Kd.S_drew)); exact Kd.S_mono HO_375001.out (fun _ hk => ⟨hk.2.2.2.2.2.2.1, ⟨hk.2.2.2.2.2.2.2.1, ⟨hk.2.2.2.2.2.2.2.2.1, ⟨hk.2.2.2.2.2.2.2.2.2.1, ⟨hk.2.2.2.2.2.2.2.2.2.2.1, ⟨hk.2.2.2.2.2.2.2.2.2.2.2.1, ⟨hk.2.2.2.2.2.2.2.2.2.2.2.2.1, ⟨hk.2.2.2.2.1, ⟨hk.2.2.2.2.2.1, ⟨hk.2.2.2.2.2.2.2.2.2.2.2.2.2.1, ⟨hk.2.2.2.2.2.2.2.2.2.2.2.2.2.2.1, hk.2.2.2.2.2.2.2.2.2.2.2.2.2.2.2⟩⟩⟩⟩⟩⟩⟩⟩⟩⟩⟩)⟩, ⟨by (try simp only [hl375001_118]); (try simp only [hl375002_118]); (try simp only [hl383001_118]); (try simp only [hl383002_118]); (with_reducible repeat (first | apply Kd.R_alloc | apply Kd.R_drewN | apply Kd.R_drew)); exact Kd.R_mono HO_375002.out (fun _ hk => ⟨hk.2.2.2.1, ⟨hk.2.2.2.2.1, ⟨hk.2.2.2.2.2, hk.2.2.1⟩⟩⟩)⟩, ⟨by (try simp only [hl375001_118]); (try simp only [hl375002_118]); (try simp only [hl383001_118]); (try simp only [hl383002_118]); (with_reducible repeat (first | apply Kd.S_alloc | apply Kd.S_drewN | apply Kd.S_drew)); exact Kd.S_mono HO_383001.out (fun _ hk => ⟨hk.2.2.2.2.2.2.1, ⟨hk.2.2.2.2.2.2.2.1, ⟨hk.2.2.2.2.2.2.2.2.1, ⟨hk.2.2.2.2.2.2.2.2.2.1, ⟨hk.2.2.2.2.2.2.2.2.2.2.1, ⟨hk.2.2.2.2.2.2.2.2.2.2.2.1, ⟨hk.2.2.2.2.2.2.2.2.2.2.2.2.1, ⟨hk.2.2.2.2.1, ⟨hk.2.2.2.2.2.1, ⟨hk.2.2.2.2.2.2.2.2.2.2.2.2.2.1, hk.2.2.2.2.2.2.2.2.2.2.2.2.2.2⟩⟩⟩⟩⟩⟩⟩⟩⟩⟩)⟩, ⟨by (try simp only [hl375001_118]); (try simp only [hl375002_118]); (try simp only [hl383001_118]); (try simp only [hl383002_118]); (with_reducible repeat (first | apply Kd.R_alloc | apply Kd.R_drewN | apply Kd.R_drew)); exact Kd.R_mono HO_383002.out (fun _ hk => ⟨hk.2.2.2.1, ⟨hk.2.2.2.2.1, ⟨hk.2.2.2.2.2, hk.2.2.1⟩⟩⟩)⟩, ⟨by (try simp only [hl375001_118]); (try simp only [hl375002_118]); (try simp only [hl383001_118]); (try simp only [hl383002_118]); (with_reducible repeat (first | apply Kd.S_alloc | apply Kd.S_drewN | apply Kd.S_drew)); exact Kd.S_mono HO_392001.out (fun _ hk => ⟨hk.2.2.2.2.2.2.1, ⟨hk.2.2.2.2.2.2.2.1, ⟨hk.2.2.2.2.2.2.2.2.1, ⟨hk.2.2.2.2.2.2.2.2.2.1, ⟨hk.2.2.2.2.2.2.2.2.2.2.1, ⟨hk.2.2.2.2.2.2.2.2.2.2.2.1, ⟨hk.2.2.2.2.2.2.2.2.2.2.2.2.1, ⟨hk.2.2.2.2.1, ⟨hk.2.2.2.2.2.1, hk.2.2.2.2.2.2.2.2.2.2.2.2.2⟩⟩⟩⟩⟩⟩⟩⟩⟩)⟩, ⟨by (try simp only [hl375001_118]); (try simp only [hl375002_118]); (try simp only [hl383001_118]); (try simp only [hl383002_118]); (with_reducible repeat (first | apply Kd.R_alloc | apply Kd.R_drewN | apply Kd.R_drew)); exact Kd.R_mono HO_392002.out (fun _ hk => ⟨hk.2.2.2.1, ⟨hk.2.2.2.2.1, ⟨hk.2.2.2.2.2, hk.2.2.1⟩⟩⟩)⟩, ⟨by (try simp only [hl375001_118]); (try simp only [hl375002_118]); (try simp only [hl383001_118]); (try simp only [hl383002_118]); (with_reducible repeat (first | apply Kd.S_alloc | apply Kd.S_drewN | apply Kd.S_drew)); exact Kd.S_mono HO437.out (fun _ hk => ⟨hk.2.2.2.2.2.1, ⟨hk.2.2.2.2.2.2.1, ⟨hk.2.2.2.2.2.2.2.1, ⟨hk.2.2.2.2.2.2.2.2.1, ⟨hk.2.2.2.2.2.2.2.2.2.1, ⟨hk.2.2.2.2.2.2.2.2.2.2.1, ⟨hk.2.2.2.2.2.2.2.2.2.2.2.1, ⟨hk.2.2.2.2.2.2.2.2.2.2.2.2, hk.2.2.2.2.1⟩⟩⟩⟩⟩⟩⟩⟩)⟩, ⟨by (try simp only [hl375001_118]); (try simp only [hl375002_118]); (try simp only [hl383001_118]); (try simp only [hl383002_118]); (with_reducible repeat (first | apply Kd.R_alloc | apply Kd.R_drewN | apply Kd.R_drew)); exact Kd.R_mono HO440.out (fun _ hk => ⟨hk.2.2.1, ⟨hk.2.2.2.1, ⟨hk.2.2.2.2.1, hk.2.2.2.2.2⟩⟩⟩)⟩, ⟨by (try simp only [hl375001_118]); (try simp only [hl375002_118]); (try simp only [hl383001_118]); (try simp only [hl383002_118]); (with_reducible repeat (first | refine blk_drewN ?_ _ | refine blk_drew ?_ | refine blk_alloc ?_ _)); exact BK340.out⟩, ⟨by (try simp only [hl375001_118]); (try simp only [hl375002_118]); (try simp only [hl383001_118]); (try simp only [hl383002_118]); (with_reducible repeat (first | refine blk_drewN ?_ _ | refine blk_drew ?_ | refine blk_alloc ?_ _)); exact BK341.out⟩, ⟨by (try simp only [hl375001_118]); (try simp only [hl375002_118]); (try simp only [hl383001_118]); (try simp only [hl383002_118]); (with_reducible repeat (first | refine blk_drewN ?_ _ | refine blk_drew ?_ | refine blk_alloc ?_ _)); exact BK366.out⟩, ⟨by (try simp only [hl375001_118]); (try simp only [hl375002_118]); (try simp only [hl383001_118]); (try simp only [hl383002_118]); (with_reducible repeat (first | refine blk_drewN ?_ _ | refine blk_drew ?_ | refine blk_alloc ?_ _)); exact BK374.out⟩, ⟨by (try simp only [hl375001_118]); (try simp only [hl375002_118]); (try simp only [hl383001_118]); (try simp only [hl383002_118]); (with_reducible repeat (first | refine blk_drewN ?_ _ | refine blk_drew ?_ | refine blk_alloc ?_ _)); exact BK382.out⟩, ⟨by (try simp only [hl375001_118]); (try simp only [hl375002_118]); (try simp only [hl383001_118]); (try simp only [hl383002_118]); (with_reducible repeat (first | refine blk_drewN ?_ _ | refine blk_drew ?_ | refine blk_alloc ?_ _)); exact BK391.out⟩, ⟨by (try simp only [hl375001_118]); (try simp only [hl375002_118]); (try simp only [hl383001_118]); (try simp only [hl383002_118]); (with_reducible repeat (first | refine blk_drewN ?_ _ | refine blk_drew ?_ | refine blk_alloc ?_ _)); exact BK442.out⟩, ⟨b7_ HB GE340 GE341 GE366 GE374 GE382 GE391 GE442⟩⟩
          case rest => as_aux_lemma =>
            clear HC190
            (try clear c1); (try clear c2); (try clear p2); (try clear c7); (try clear c9); (try clear c11); (try clear c21); (try clear c22); (try clear c23); (try clear c24); (try clear c217); (try clear c218); (try clear c219); (try clear c220); (try clear c221); (try clear c222); (try clear c223); (try clear c225); (try clear c226); (try clear c227); (try clear c228); (try clear c229); (try clear c232); (try clear c233); (try clear c234); (try clear c235); (try clear c236); (try clear c237); (try clear c239); (try clear c240); (try clear c241); (try clear c242); (try clear c243); (try clear hcz224_0); (try clear hcz224_1); (try clear hcz224_2); (try clear hcz230_0); (try clear hcz230_1); (try clear hcz230_2); (try clear hcz238_0); (try clear hcz238_1); (try clear hcz238_2); (try clear hcz244_0); (try clear hcz244_1); (try clear hcz244_2); (try clear hfz224_0); (try clear hfz224_1); (try clear hfz224_2); (try clear hfz230_0); (try clear hfz230_1); (try clear hfz230_2); (try clear hfz238_0); (try clear hfz238_1); (try clear hfz238_2); (try clear hfz244_0); (try clear hfz244_1); (try clear hfz244_2)
            obtain ⟨kq, x115_189, rfl, HA, HJ189, HO_367001, HO_367002, HO_375001, HO_375002, HO_383001, HO_383002, HO_392001, HO_392002, HO_443001, HO_443002, BK340, BK341, BK366, BK374, BK382, BK391, BK442, HB⟩ := hcut
            have hl392001_189 := (Kd.S_reads' HO_392001.out).1
            rw [hl392001_189] at HO_392001
            (try simp only [hl392001_189])
            (try simp only [hl392001_189] at BK340)
            (try simp only [hl392001_189] at BK341)
            (try simp only [hl392001_189] at BK366)
            (try simp only [hl392001_189] at BK374)
            (try simp only [hl392001_189] at BK382)
            (try simp only [hl392001_189] at BK391)
            (try simp only [hl392001_189] at BK442)
            (try simp only [hl392001_189] at HO_367001)
            (try simp only [hl392001_189] at HO_367002)
            (try simp only [hl392001_189] at HO_375001)
            (try simp only [hl392001_189] at HO_375002)
            (try simp only [hl392001_189] at HO_383001)
            (try simp only [hl392001_189] at HO_383002)
            (try simp only [hl392001_189] at HO_392002)
            (try simp only [hl392001_189] at HO_443001)
            (try simp only [hl392001_189] at HO_443002)
            have hl392002_189 := (Kd.R_reads' HO_392002.out).1
            rw [hl392002_189] at HO_392002
            (try simp only [hl392002_189])
            (try simp only [hl392002_189] at BK340)
            (try simp only [hl392002_189] at BK341)
            (try simp only [hl392002_189] at BK366)
            (try simp only [hl392002_189] at BK374)
            (try simp only [hl392002_189] at BK382)
            (try simp only [hl392002_189] at BK391)
            (try simp only [hl392002_189] at BK442)
            (try simp only [hl392002_189] at HO_367001)
            (try simp only [hl392002_189] at HO_367002)
            (try simp only [hl392002_189] at HO_375001)
            (try simp only [hl392002_189] at HO_375002)
            (try simp only [hl392002_189] at HO_383001)
            (try simp only [hl392002_189] at HO_383002)
            (try simp only [hl392002_189] at HO_392001)
            (try simp only [hl392002_189] at HO_443001)
            (try simp only [hl392002_189] at HO_443002)
            cases kq with
            | zero => exact absurd HA.out (by simp [laws_FnExactCombineAutomata.j2])
            | succ kj189 =>
              have H := HA.out
              clear HA
              simp only [laws_FnExactCombineAutomata.j2] at H
              by_cases c246 : x115_189 = true
              · subst c246
                replace H := it_ H
                obtain rfl := Option.some.inj H
                go_wp2
                go_ret
                exact ⟨re_, b7_ HB GE340 GE341 GE366 GE374 GE382 GE391 GE442⟩
              replace c246 := Bool.eq_false_iff.mpr c246
              subst c246
              replace H := if_ H
              obtain ⟨t444, A247, H⟩ := bo_ H
              by_cases c248 : t444 < 0
              · rw [if_pos c248] at H
                have c248b0 := decide_eq_true c248
                clear c248
                obtain rfl := Option.some.inj H
                have hnb249 := NB391_340.out
                have hnc249 := NB340_391.out
                have hnb250 := NB391_341.out
                have hnc250 := NB341_391.out
                have hnb251 := NB391_366.out
                have hnc251 := NB366_391.out
                have hnb252 := NB391_374.out
                have hnc252 := NB374_391.out
                have hnb253 := NB391_382.out
                have hnc253 := NB382_391.out
                have hnb254 := NB391_442.out
                have hnc254 := NB442_391.out
                obtain ⟨hcz255_0, hfz255_0, hcz255_1, hfz255_1, hcz255_2, hfz255_2⟩ := tc3_ BK391
                go_wp2_with (first | ((with_reducible refine gate_callee (f := 13) rfl ?_); refine gL_ 118 Try.func13 #[.agg #[.int .i64 t383, .slice Ao82 t417.length co82, .slice Ao83 t418.length co83], .int .i64 1] ?_; (with_reducible refine (laws_heldAutomaton.calls kj189 t383 _ _ t417 _ _ t418 1 t444 _ ?side1 ?side2 ?side3 ?side4 A247.out).mono ?_); (case side1 => exact cC_ (Kd.S_reads' HO_392001.out).2.2); (case side2 => exact (Kd.S_reads' HO_392001.out).2.1); (case side3 => exact cC_ (Kd.R_reads' HO_392002.out).2.2); (case side4 => exact (Kd.R_reads' HO_392002.out).2.1); rintro e w256 ⟨rfl, hb⟩; refine ⟨_, rfl, ?_⟩; replace HO_367001 := sb_ HO_367001 hb; replace HO_367002 := rb_ HO_367002 hb; replace HO_375001 := sb_ HO_375001 hb; replace HO_375002 := rb_ HO_375002 hb; replace HO_383001 := sb_ HO_383001 hb; replace HO_383002 := rb_ HO_383002 hb; replace HO_392001 := sb_ HO_392001 hb; replace HO_392002 := rb_ HO_392002 hb; replace HO_443001 := sb_ HO_443001 hb; replace HO_443002 := rb_ HO_443002 hb; replace BK340 := kb_ BK340 hb; replace BK341 := kb_ BK341 hb; replace BK366 := kb_ BK366 hb; replace BK374 := kb_ BK374 hb; replace BK382 := kb_ BK382 hb; replace BK391 := kb_ BK391 hb; replace BK442 := kb_ BK442 hb; replace HB := as_ (below_step (b7_ HB GE340 GE341 GE366 GE374 GE382 GE391 GE442) hb); clear hb))
                go_ret
                exact ⟨re_, b7_ HB GE340 GE341 GE366 GE374 GE382 GE391 GE442⟩
              rw [if_neg c248] at H
              have c248b0 := decide_eq_false c248
              clear c248
              by_cases c257 : t444 = t416
              · rw [if_pos c257] at H
                have c257b0 := beq_iff_eq.mpr c257
                have c257b1 := bne_eq_false_iff_eq.mpr c257
                clear c257
                obtain rfl := Option.some.inj H
                have hnb258 := NB391_340.out
                have hnc258 := NB340_391.out
                have hnb259 := NB391_341.out
                have hnc259 := NB341_391.out
                have hnb260 := NB391_366.out
                have hnc260 := NB366_391.out
                have hnb261 := NB391_374.out
                have hnc261 := NB374_391.out
                have hnb262 := NB391_382.out
                have hnc262 := NB382_391.out
                have hnb263 := NB391_442.out
                have hnc263 := NB442_391.out
                obtain ⟨hcz264_0, hfz264_0, hcz264_1, hfz264_1, hcz264_2, hfz264_2⟩ := tc3_ BK391
                go_wp2_with (first | ((with_reducible refine gate_callee (f := 13) rfl ?_); refine gL_ 118 Try.func13 #[.agg #[.int .i64 t383, .slice Ao82 t417.length co82, .slice Ao83 t418.length co83], .int .i64 1] ?_; (with_reducible refine (laws_heldAutomaton.calls kj189 t383 _ _ t417 _ _ t418 1 t444 _ ?side1 ?side2 ?side3 ?side4 A247.out).mono ?_); (case side1 => exact cC_ (Kd.S_reads' HO_392001.out).2.2); (case side2 => exact (Kd.S_reads' HO_392001.out).2.1); (case side3 => exact cC_ (Kd.R_reads' HO_392002.out).2.2); (case side4 => exact (Kd.R_reads' HO_392002.out).2.1); rintro e w265 ⟨rfl, hb⟩; refine ⟨_, rfl, ?_⟩; replace HO_367001 := sb_ HO_367001 hb; replace HO_367002 := rb_ HO_367002 hb; replace HO_375001 := sb_ HO_375001 hb; replace HO_375002 := rb_ HO_375002 hb; replace HO_383001 := sb_ HO_383001 hb; replace HO_383002 := rb_ HO_383002 hb; replace HO_392001 := sb_ HO_392001 hb; replace HO_392002 := rb_ HO_392002 hb; replace HO_443001 := sb_ HO_443001 hb; replace HO_443002 := rb_ HO_443002 hb; replace BK340 := kb_ BK340 hb; replace BK341 := kb_ BK341 hb; replace BK366 := kb_ BK366 hb; replace BK374 := kb_ BK374 hb; replace BK382 := kb_ BK382 hb; replace BK391 := kb_ BK391 hb; replace BK442 := kb_ BK442 hb; replace HB := as_ (below_step (b7_ HB GE340 GE341 GE366 GE374 GE382 GE391 GE442) hb); clear hb))
                go_ret
                exact ⟨re_, b7_ HB GE340 GE341 GE366 GE374 GE382 GE391 GE442⟩
              rw [if_neg c257] at H
              have c257b0 := beq_eq_false_iff_ne.mpr c257
              have c257b1 := bne_iff_ne.mpr c257
              obtain rfl := Option.some.inj H
              have hnb266 := NB391_340.out
              have hnc266 := NB340_391.out
              have hnb267 := NB391_341.out
              have hnc267 := NB341_391.out
              have hnb268 := NB391_366.out
              have hnc268 := NB366_391.out
              have hnb269 := NB391_374.out
              have hnc269 := NB374_391.out
              have hnb270 := NB391_382.out
              have hnc270 := NB382_391.out
              have hnb271 := NB391_442.out
              have hnc271 := NB442_391.out
              obtain ⟨hcz272_0, hfz272_0, hcz272_1, hfz272_1, hcz272_2, hfz272_2⟩ := tc3_ BK391
              go_wp2_with (first | ((with_reducible refine gate_callee (f := 13) rfl ?_); refine gL_ 118 Try.func13 #[.agg #[.int .i64 t383, .slice Ao82 t417.length co82, .slice Ao83 t418.length co83], .int .i64 1] ?_; (with_reducible refine (laws_heldAutomaton.calls kj189 t383 _ _ t417 _ _ t418 1 t444 _ ?side1 ?side2 ?side3 ?side4 A247.out).mono ?_); (case side1 => exact cC_ (Kd.S_reads' HO_392001.out).2.2); (case side2 => exact (Kd.S_reads' HO_392001.out).2.1); (case side3 => exact cC_ (Kd.R_reads' HO_392002.out).2.2); (case side4 => exact (Kd.R_reads' HO_392002.out).2.1); rintro e w273 ⟨rfl, hb⟩; refine ⟨_, rfl, ?_⟩; replace HO_367001 := sb_ HO_367001 hb; replace HO_367002 := rb_ HO_367002 hb; replace HO_375001 := sb_ HO_375001 hb; replace HO_375002 := rb_ HO_375002 hb; replace HO_383001 := sb_ HO_383001 hb; replace HO_383002 := rb_ HO_383002 hb; replace HO_392001 := sb_ HO_392001 hb; replace HO_392002 := rb_ HO_392002 hb; replace HO_443001 := sb_ HO_443001 hb; replace HO_443002 := rb_ HO_443002 hb; replace BK340 := kb_ BK340 hb; replace BK341 := kb_ BK341 hb; replace BK366 := kb_ BK366 hb; replace BK374 := kb_ BK374 hb; replace BK382 := kb_ BK382 hb; replace BK391 := kb_ BK391 hb; replace BK442 := kb_ BK442 hb; replace HB := as_ (below_step (b7_ HB GE340 GE341 GE366 GE374 GE382 GE391 GE442) hb); clear hb))
              go_ret
              exact ⟨re_, b7_ HB GE340 GE341 GE366 GE374 GE382 GE391 GE442⟩

end Go.Proofs.Ytpbfideppdmceaa.E
