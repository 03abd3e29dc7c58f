/- The row of the law FnExactCombineAutomata, out of its pure statement. -/
import Derived.Test.YtpbfideppdmceaaQCMEx0
import Derived.Test.YtpbfideppdmceaaQCMEx5
import Derived.Test.YtpbfideppdmceaaQCMEx6
import Derived.Test.YtpbfideppdmceaaQCML
-- Written by wip/ext.py of this claim (contracts by the form of the kit's print; hand-written ones among them).
namespace Go.Proofs.Ytpbfideppdmceaa.E
open Go.RowKit Go.Proofs.YtpbfideppdmceaaW.PrintWords Go.Proofs.YtpbfideppdmceaaW.PrintLast Go.Proofs.YtpbfideppdmceaaW.PrintMore Go.Proofs.Ytpbfideppdmceaa.Mi
attribute [local go_sem] max2_int min2_int max_two min_two max_three min_three max_four min_four   -- for this text's walks alone
set_option linter.unusedVariables false
set_option linter.unusedSimpArgs false

mutual
def impl_CombineAutomata.j0 : Nat → Int → Bool → Int → List (List Int) → List Int → Int → List (List Int) → List Int → Option (Int × (List (List Int)) × List Int × Int)
  | 0, _, _, _, _, _, _, _, _ => none
  | k + 1, x2, x16, x302000, x302001, x302002, x303000, x303001, x303002 => if x16 = true then (some (0, ([] : List (List Int)), ([] : List Int), 1)) else (if x2 < 0 then (some (0, ([] : List (List Int)), ([] : List Int), 2)) else (if x2 > 2 then (some (0, ([] : List (List Int)), ([] : List Int), 2)) else ((impl_couples.f k x302000 x302001 x302002 x303000 x303001 x303002).bind fun t306 => (if (t306.length : Int) > 9 then (some (0, ([] : List (List Int)), ([] : List Int), 3)) else (impl_CombineAutomata.l0 k x2 t306 t306 (t306.length : Int) 0 x302000 x302001 x302002 x303000 x303001 x303002 0 ([] : List (List Int)) ([] : List Int))))))
def impl_CombineAutomata.l0 : Nat → Int → List (S48) → List (S48) → Int → Int → Int → List (List Int) → List Int → Int → List (List Int) → List Int → Int → List (List Int) → List Int → Option (Int × (List (List Int)) × List Int × Int)
  | 0, _, _, _, _, _, _, _, _, _, _, _, _, _, _ => none
  | k + 1, x2, x8, x42, x43, x44, x302000, x302001, x302002, x303000, x303001, x303002, x310000, x310001, x310002 => if x44 < x43 then (if 0 ≤ x44 then (if x44 < (x42.length : Int) then (impl_CombineAutomata.l1 k x2 x8 x44 (([] : List Int)) x42 x43 x44 x8 (x8.length : Int) 0 x302000 x302001 x302002 x303000 x303001 x303002 x310000 x310001 x310002 ((rd_T48 x42 x44).f0) ((rd_T48 x42 x44).f1)) else (none)) else (none)) else (some (x310000, x310001, x310002, 0))
def impl_CombineAutomata.l1 : Nat → Int → List (S48) → Int → List Int → List (S48) → Int → Int → List (S48) → Int → Int → Int → List (List Int) → List Int → Int → List (List Int) → List Int → Int → List (List Int) → List Int → Int → Int → Option (Int × (List (List Int)) × List Int × Int)
  | 0, _, _, _, _, _, _, _, _, _, _, _, _, _, _, _, _, _, _, _, _, _ => none
  | k + 1, x2, x8, x10, x12, x42, x43, x44, x50, x51, x52, x302000, x302001, x302002, x303000, x303001, x303002, x310000, x310001, x310002, x312000, x312001 => if x52 < x51 then (if 0 ≤ x52 then (if x52 < (x50.length : Int) then (if 0 ≤ x312000 then (if x312000 < (x302001.length : Int) then (if 0 ≤ ((rd_T48 x50 x52).f0) then (if ((rd_T48 x50 x52).f0) < ((rd_L1 x302001 x312000).length : Int) then (if 0 ≤ x312001 then (if x312001 < (x303001.length : Int) then (if 0 ≤ ((rd_T48 x50 x52).f1) then (if ((rd_T48 x50 x52).f1) < ((rd_L1 x303001 x312001).length : Int) then ((impl_couple_28.f k x8 (rd (rd_L1 x302001 x312000) ((rd_T48 x50 x52).f0)) (rd (rd_L1 x303001 x312001) ((rd_T48 x50 x52).f1))).bind fun t322 => (if x12.length < 17592186044416 then (impl_CombineAutomata.l1 k x2 x8 x10 (x12 ++ [t322]) x42 x43 x44 x50 x51 (wrap64 (x52 + 1)) x302000 x302001 x302002 x303000 x303001 x303002 x310000 x310001 x310002 x312000 x312001) else (none))) else (none)) else (none)) else (none)) else (none)) else (none)) else (none)) else (none)) else (none)) else (none)) else (none)) else (if x310001.length < 5864062014805 then ((some (x310001 ++ [x12] : List (List Int))).bind fun y326 => ((impl_isGoodFor.f k x302000 x302001 x302002 x303000 x303001 x303002 x312000 x312001 x2).bind fun t329 => (if t329 = true then (if x310002.length < 17592186044416 then (impl_CombineAutomata.l0 k x2 x8 x42 x43 (wrap64 (x44 + 1)) x302000 x302001 x302002 x303000 x303001 x303002 x310000 y326 (x310002 ++ [x10])) else (none)) else (impl_CombineAutomata.l0 k x2 x8 x42 x43 (wrap64 (x44 + 1)) x302000 x302001 x302002 x303000 x303001 x303002 x310000 y326 x310002)))) else (none))
end
def impl_CombineAutomata.f (k : Nat) (a0_0 : Int) (l0_1 : List (List Int)) (l0_2 : List Int) (a1_0 : Int) (l1_1 : List (List Int)) (l1_2 : List Int) (a2 : Int) : Option (Int × (List (List Int)) × List Int × Int) := (impl_IsAutomaton.f k a0_0 l0_1 l0_2).bind fun t304 => (if t304 = true then ((impl_IsAutomaton.f k a1_0 l1_1 l1_2).bind fun t305 => (impl_CombineAutomata.j0 k a2 (!t305) a0_0 l0_1 l0_2 a1_0 l1_1 l1_2)) else (impl_CombineAutomata.j0 k a2 true a0_0 l0_1 l0_2 a1_0 l1_1 l1_2))
def impl_CombineAutomata.T16 : Bool × List (List Nat × List Nat) := (true, [([], []), ([0], [0]), ([], []), ([2], [2]), ([1, 3], [1, 3]), ([4], [4]), ([], []), ([6], [6]), ([5, 7], [5, 7]), ([8], [8]), ([], []), ([10], [10]), ([], []), ([12], [12]), ([11, 13], [11, 13]), ([14], [14]), ([], []), ([16], [16]), ([15, 17], [15, 17]), ([18], [18]), ([9, 19], [9, 19]), ([], []), ([21, 20, 0, 1, 2, 3, 4, 5, 6, 7, 8, 9, 10, 11, 12, 13, 14, 15, 16, 17, 18, 19, 20, 21], [20, 21])])
def impl_CombineAutomata.B16 : List Nat := [0, 1, 0, 4, 15, 31, 0, 64, 255, 511, 0, 1024, 0, 4096, 15360, 31744, 0, 65536, 261120, 523264, 1048575, 0, 4194303]
theorem impl_CombineAutomata.tab16 : rtab .any (opsOf Try.f11 16) = impl_CombineAutomata.T16 := by kernel_rfl
theorem impl_CombineAutomata.bits16 : waitsOk impl_CombineAutomata.T16.2 impl_CombineAutomata.B16 = true := by kernel_rfl
set_option maxHeartbeats 8000000 in
set_option maxRecDepth 100000 in
theorem impl_CombineAutomata.calls (k : Nat) (a0_0 : Int) (A0_1 : Option Addr) (c0_1 : Nat) (l0_1 : List (List Int)) (A0_2 : Option Addr) (c0_2 : Nat) (l0_2 : List Int) (a1_0 : Int) (A1_1 : Option Addr) (c1_1 : Nat) (l1_1 : List (List Int)) (A1_2 : Option Addr) (c1_2 : Nat) (l1_2 : List Int) (a2 : Int) (r1 : Int) (r2 : List (List Int)) (r3 : List Int) (r4 : Int) (w : World) (hr0_1 : Kd.C (Kd.slice 2 (Kd.int .i64)) w A0_1 l0_1.length l0_1) (hc0_1 : l0_1.length ≤ c0_1) (hr0_2 : Kd.C (Kd.int .i64) w A0_2 l0_2.length l0_2) (hc0_2 : l0_2.length ≤ c0_2) (hr1_1 : Kd.C (Kd.slice 2 (Kd.int .i64)) w A1_1 l1_1.length l1_1) (hc1_1 : l1_1.length ≤ c1_1) (hr1_2 : Kd.C (Kd.int .i64) w A1_2 l1_2.length l1_2) (hc1_2 : l1_2.length ≤ c1_2) (h : impl_CombineAutomata.f k a0_0 l0_1 l0_2 a1_0 l1_1 l1_2 a2 = some (r1, r2, r3, r4)) :
    Calls Try.prog 11 #[.agg #[.int .i64 a0_0, .slice A0_1 l0_1.length c0_1, .slice A0_2 l0_2.length c0_2], .agg #[.int .i64 a1_0, .slice A1_1 l1_1.length c1_1, .slice A1_2 l1_2.length c1_2], .int .i64 a2] w fun e w' => ∃ v1_ v2_ : Value, e = .returned (.tuple #[.agg #[.int .i64 r1, v1_, v2_], .int .i64 r4]) ∧ Kd.S (Kd.slice 2 (Kd.int .i64)) 23 w' w.heap.size (fun k_ => some k_ ≠ (v2_ : Value).ownBlock) v1_ r2 ∧ Kd.R (Kd.int .i64) 2 w' w.heap.size (fun _ => True) v2_ r3 ∧ Below w.heap.size w w' := by
  have hu29 := Try.underlying29
  have hu48 := Try.underlying48
  have HR0_1 := as_ hr0_1
  have HC0_1 := as_ hc0_1
  clear hr0_1 hc0_1
  have HR0_2 := as_ hr0_2
  have HC0_2 := as_ hc0_2
  clear hr0_2 hc0_2
  have HR1_1 := as_ hr1_1
  have HC1_1 := as_ hc1_1
  clear hr1_1 hc1_1
  have HR1_2 := as_ hr1_2
  have HC1_2 := as_ hc1_2
  clear hr1_2 hc1_2
  have HB := as_ (Below.refl w.heap.size w)
  have H : ((impl_IsAutomaton.f k a0_0 l0_1 l0_2).bind fun t304 => (if t304 = true then ((impl_IsAutomaton.f k a1_0 l1_1 l1_2).bind fun t305 => (impl_CombineAutomata.j0 k a2 (!t305) a0_0 l0_1 l0_2 a1_0 l1_1 l1_2)) else (impl_CombineAutomata.j0 k a2 true a0_0 l0_1 l0_2 a1_0 l1_1 l1_2))) = some (r1, r2, r3, r4) := h
  clear h
  have HC4 := as_ H
  clear H
  go_enter Try.func11, Try.ntmps11
  go_upto_region 1 with (first | ((with_reducible refine gate_dst (N := 3) rfl ?_); refine bx_ 3 #[.int .i64 a0_0, .slice A0_1 l0_1.length c0_1, .slice A0_2 l0_2.length c0_2] 29 ?_; intro gb301 hg w5 hbox hb; have BK301 := as_ (hbox); have GW301 := gz_ hg (b_ HB); have GE301 := GW301; replace HB := as_ (below_step (b_ HB) hb); clear hb hbox hg) | ((with_reducible refine gate_dst (N := 4) rfl ?_); refine bx_ 4 #[.int .i64 a1_0, .slice A1_1 l1_1.length c1_1, .slice A1_2 l1_2.length c1_2] 29 ?_; intro gb302 hg w6 hbox hb; have BK302 := as_ (hbox); have GW302 := gz_ hg (b1_ HB GE301); have GE302 := GW302; replace HB := as_ (below_step (b1_ HB GE301) hb); have NB301_302 := nl_ hg (bk_ BK301); have NB302_301 := ng_ hg (bk_ BK301); replace BK301 := kb_ BK301 hb; clear hb hbox hg) | ((with_reducible refine gate_dst (N := 6) rfl ?_); refine bx_ 6 #[.int .i64 0, .slice none 0 0, .slice none 0 0] 29 ?_; intro gb303 hg w7 hbox hb; have BK303 := as_ (hbox); have GW303 := gz_ hg (b2_ HB GE301 GE302); have GE303 := GW303; replace HB := as_ (below_step (b2_ HB GE301 GE302) hb); have NB301_303 := nl_ hg (bk_ BK301); have NB303_301 := ng_ hg (bk_ BK301); replace BK301 := kb_ BK301 hb; have NB302_303 := nl_ hg (bk_ BK302); have NB303_302 := ng_ hg (bk_ BK302); replace BK302 := kb_ BK302 hb; clear hb hbox hg))
  (try simp only [Act.put, List.setIfInBounds_toArray, List.set_cons_zero, List.set_cons_succ])
  go_cut [16] (fun v16 wc => ∃ (kq : Nat) (x16_3 : Bool), v16 = .bool x16_3 ∧ Aside0 (impl_CombineAutomata.j0 kq a2 x16_3 a0_0 l0_1 l0_2 a1_0 l1_1 l1_2 = some (r1, r2, r3, r4)) ∧ Aside0 (kq ≤ k) ∧ Aside0 (wc.heap[gb301]? = some (.cells #[.int .i64 a0_0, (.slice A0_1 l0_1.length c0_1), (.slice A0_2 l0_2.length c0_2)] 29 (0, 0))) ∧ Aside0 (wc.heap[gb302]? = some (.cells #[.int .i64 a1_0, (.slice A1_1 l1_1.length c1_1), (.slice A1_2 l1_2.length c1_2)] 29 (0, 0))) ∧ Aside0 (wc.heap[gb303]? = some (.cells #[.int .i64 0, (.slice none 0 0), (.slice none 0 0)] 29 (0, 0))) ∧ Aside0 (Below w.heap.size w wc))
  case first =>
    have H := HC4.out
    clear HC4
    obtain ⟨t304, A8, H⟩ := bo_ H
    by_cases c9 : t304 = true
    · subst c9
      replace H := it_ H
      obtain ⟨t305, A10, H⟩ := bo_ H
      have H' := as_ H
      clear H
      have hnb11 := NB301_302.out
      have hnc11 := NB302_301.out
      have hnb12 := NB301_303.out
      have hnc12 := NB303_301.out
      obtain ⟨hcz13_0, hfz13_0, hcz13_1, hfz13_1, hcz13_2, hfz13_2⟩ := tc3_ BK301
      go_wp2_with (first | ((with_reducible refine gate_callee (f := 21) rfl ?_); refine gL_ 18 Try.func21 #[.agg #[.int .i64 a0_0, .slice A0_1 l0_1.length c0_1, .slice A0_2 l0_2.length c0_2]] ?_; (with_reducible refine (impl_IsAutomaton.calls k a0_0 _ _ l0_1 _ _ l0_2 true _ ?side1 ?side2 ?side3 ?side4 A8.out).mono ?_); (case side1 => exact bC_ HR0_1 HB); (case side2 => exact HC0_1.out); (case side3 => exact bC_ HR0_2 HB); (case side4 => exact HC0_2.out); rintro e w14 ⟨rfl, hb⟩; refine ⟨_, rfl, ?_⟩; replace BK301 := kb_ BK301 hb; replace BK302 := kb_ BK302 hb; replace BK303 := kb_ BK303 hb; replace HB := as_ (below_step (b3_ HB GE301 GE302 GE303) hb); clear hb; have hnb15 := NB302_303.out; have hnc15 := NB303_302.out; obtain ⟨hcz16_0, hfz16_0, hcz16_1, hfz16_1, hcz16_2, hfz16_2⟩ := tc3_ BK302) | (go_at_call 21; (with_reducible refine (impl_IsAutomaton.calls k a1_0 _ _ l1_1 _ _ l1_2 t305 _ ?side1 ?side2 ?side3 ?side4 A10.out).mono ?_); (case side1 => exact bC_ HR1_1 HB); (case side2 => exact HC1_1.out); (case side3 => exact bC_ HR1_2 HB); (case side4 => exact HC1_2.out); rintro e w17 ⟨rfl, hb⟩; replace BK301 := kb_ BK301 hb; replace BK302 := kb_ BK302 hb; replace BK303 := kb_ BK303 hb; replace HB := as_ (below_step (b3_ HB GE301 GE302 GE303) hb); clear hb))
      go_meet
      case rel => exact ⟨_, (!t305), rf_, H', ⟨by first | omega | exact Nat.le_refl _⟩, ⟨bk_ BK301⟩, ⟨bk_ BK302⟩, ⟨bk_ BK303⟩, ⟨b3_ HB GE301 GE302 GE303⟩⟩
    replace c9 := Bool.eq_false_iff.mpr c9
    subst c9
    replace H := if_ H
    have H' := as_ H
    clear H
    have hnb18 := NB301_302.out
    have hnc18 := NB302_301.out
    have hnb19 := NB301_303.out
    have hnc19 := NB303_301.out
    obtain ⟨hcz20_0, hfz20_0, hcz20_1, hfz20_1, hcz20_2, hfz20_2⟩ := tc3_ BK301
    go_wp2_with (first | ((with_reducible refine gate_callee (f := 21) rfl ?_); refine gL_ 18 Try.func21 #[.agg #[.int .i64 a0_0, .slice A0_1 l0_1.length c0_1, .slice A0_2 l0_2.length c0_2]] ?_; (with_reducible refine (impl_IsAutomaton.calls k a0_0 _ _ l0_1 _ _ l0_2 false _ ?side1 ?side2 ?side3 ?side4 A8.out).mono ?_); (case side1 => exact bC_ HR0_1 HB); (case side2 => exact HC0_1.out); (case side3 => exact bC_ HR0_2 HB); (case side4 => exact HC0_2.out); rintro e w21 ⟨rfl, hb⟩; refine ⟨_, rfl, ?_⟩; replace BK301 := kb_ BK301 hb; replace BK302 := kb_ BK302 hb; replace BK303 := kb_ BK303 hb; replace HB := as_ (below_step (b3_ HB GE301 GE302 GE303) hb); clear hb))
    go_meet
    case rel => exact ⟨_, (true), rf_, H', ⟨by first | omega | exact Nat.le_refl _⟩, ⟨bk_ BK301⟩, ⟨bk_ BK302⟩, ⟨bk_ BK303⟩, ⟨b3_ HB GE301 GE302 GE303⟩⟩
  case rest =>
    clear HC4
    (try clear c1); (try clear c2); (try clear p2); (try clear c9); (try clear c11); (try clear c12); (try clear c15); (try clear c18); (try clear c19); (try clear c21); (try clear hcz13_0); (try clear hcz13_1); (try clear hcz13_2); (try clear hcz16_0); (try clear hcz16_1); (try clear hcz16_2); (try clear hcz20_0); (try clear hcz20_1); (try clear hcz20_2); (try clear hfz13_0); (try clear hfz13_1); (try clear hfz13_2); (try clear hfz16_0); (try clear hfz16_1); (try clear hfz16_2); (try clear hfz20_0); (try clear hfz20_1); (try clear hfz20_2)
    obtain ⟨kq, x16_3, rfl, HA, HJ3, BK301, BK302, BK303, HB⟩ := hcut
    cases kq with
    | zero => exact absurd HA.out (by simp [impl_CombineAutomata.j0])
    | succ kj3 =>
      have H := HA.out
      clear HA
      simp only [impl_CombineAutomata.j0] at H
      by_cases c22 : x16_3 = true
      · subst c22
        replace H := it_ H
        simp only [Option.some.injEq, Prod.mk.injEq] at H
        obtain ⟨rfl, rfl, rfl, rfl⟩ := H
        have hnb23 := NB303_301.out
        have hnc23 := NB301_303.out
        have hnb24 := NB303_302.out
        have hnc24 := NB302_303.out
        obtain ⟨hcz25_0, hfz25_0, hcz25_1, hfz25_1, hcz25_2, hfz25_2⟩ := tc3_ BK303
        go_wp2
        refine bodyPost_ret (results_ct rfl _ _ gb303 29 #[.int .i64 0, .slice none 0 0, .slice none 0 0] (0, 0) _ rfl (bp_ BK303) Try.underlying29 rfl (by kernel_rfl)) rfl ?_
        exact ⟨_, _, re_, by first | exact Kd.S_nil _ _ _ _ _ | exact Kd.N_nil _ _ _ _ _ | exact Kd.V_nil _ _ _ _ _ | exact Kd.Q_nil _ _ _ _ _ | exact Kd.R_nil _ _ _ _ _, by first | exact Kd.R_nil _ _ _ _ _ | exact Kd.N_nil _ _ _ _ _ | exact Kd.V_nil _ _ _ _ _ | exact Kd.Q_nil _ _ _ _ _ | exact Kd.S_nil _ _ _ _ _, b3_ HB GE301 GE302 GE303⟩
      replace c22 := Bool.eq_false_iff.mpr c22
      subst c22
      replace H := if_ H
      by_cases c26 : a2 < 0
      · rw [if_pos c26] at H
        have c26b0 := decide_eq_true c26
        clear c26
        simp only [Option.some.injEq, Prod.mk.injEq] at H
        obtain ⟨rfl, rfl, rfl, rfl⟩ := H
        have hnb27 := NB303_301.out
        have hnc27 := NB301_303.out
        have hnb28 := NB303_302.out
        have hnc28 := NB302_303.out
        obtain ⟨hcz29_0, hfz29_0, hcz29_1, hfz29_1, hcz29_2, hfz29_2⟩ := tc3_ BK303
        go_wp2
        refine bodyPost_ret (results_ct rfl _ _ gb303 29 #[.int .i64 0, .slice none 0 0, .slice none 0 0] (0, 0) _ rfl (bp_ BK303) Try.underlying29 rfl (by kernel_rfl)) rfl ?_
        exact ⟨_, _, re_, by first | exact Kd.S_nil _ _ _ _ _ | exact Kd.N_nil _ _ _ _ _ | exact Kd.V_nil _ _ _ _ _ | exact Kd.Q_nil _ _ _ _ _ | exact Kd.R_nil _ _ _ _ _, by first | exact Kd.R_nil _ _ _ _ _ | exact Kd.N_nil _ _ _ _ _ | exact Kd.V_nil _ _ _ _ _ | exact Kd.Q_nil _ _ _ _ _ | exact Kd.S_nil _ _ _ _ _, b3_ HB GE301 GE302 GE303⟩
      rw [if_neg c26] at H
      have c26b0 := decide_eq_false c26
      clear c26
      by_cases c30 : a2 > 2
      · rw [if_pos c30] at H
        have c30b0 := decide_eq_true c30
        clear c30
        simp only [Option.some.injEq, Prod.mk.injEq] at H
        obtain ⟨rfl, rfl, rfl, rfl⟩ := H
        have hnb31 := NB303_301.out
        have hnc31 := NB301_303.out
        have hnb32 := NB303_302.out
        have hnc32 := NB302_303.out
        obtain ⟨hcz33_0, hfz33_0, hcz33_1, hfz33_1, hcz33_2, hfz33_2⟩ := tc3_ BK303
        go_wp2
        refine bodyPost_ret (results_ct rfl _ _ gb303 29 #[.int .i64 0, .slice none 0 0, .slice none 0 0] (0, 0) _ rfl (bp_ BK303) Try.underlying29 rfl (by kernel_rfl)) rfl ?_
        exact ⟨_, _, re_, by first | exact Kd.S_nil _ _ _ _ _ | exact Kd.N_nil _ _ _ _ _ | exact Kd.V_nil _ _ _ _ _ | exact Kd.Q_nil _ _ _ _ _ | exact Kd.R_nil _ _ _ _ _, by first | exact Kd.R_nil _ _ _ _ _ | exact Kd.N_nil _ _ _ _ _ | exact Kd.V_nil _ _ _ _ _ | exact Kd.Q_nil _ _ _ _ _ | exact Kd.S_nil _ _ _ _ _, b3_ HB GE301 GE302 GE303⟩
      rw [if_neg c30] at H
      have c30b0 := decide_eq_false c30
      clear c30
      obtain ⟨t306, A34, H⟩ := bo_ H
      by_cases c35 : (t306.length : Int) > 9
      · rw [if_pos c35] at H
        have c35b0 := decide_eq_true c35
        have c35b1 : decide (9 < t306.length) = true := decide_eq_true (by omega)
        clear c35
        simp only [Option.some.injEq, Prod.mk.injEq] at H
        obtain ⟨rfl, rfl, rfl, rfl⟩ := H
        have hnb36 := NB301_302.out
        have hnc36 := NB302_301.out
        have hnb37 := NB301_303.out
        have hnc37 := NB303_301.out
        obtain ⟨hcz38_0, hfz38_0, hcz38_1, hfz38_1, hcz38_2, hfz38_2⟩ := tc3_ BK301
        have hnb39 := NB302_303.out
        have hnc39 := NB303_302.out
        obtain ⟨hcz40_0, hfz40_0, hcz40_1, hfz40_1, hcz40_2, hfz40_2⟩ := tc3_ BK302
        go_wp2_with (first | ((with_reducible refine gate_callee (f := 22) rfl ?_); refine gL_ 36 Try.func22 #[.agg #[.int .i64 a0_0, .slice A0_1 l0_1.length c0_1, .slice A0_2 l0_2.length c0_2], .agg #[.int .i64 a1_0, .slice A1_1 l1_1.length c1_1, .slice A1_2 l1_2.length c1_2]] ?_; (with_reducible refine (impl_couples.calls kj3 a0_0 _ _ l0_1 _ _ l0_2 a1_0 _ _ l1_1 _ _ l1_2 t306 _ ?side1 ?side2 ?side3 ?side4 ?side5 ?side6 ?side7 ?side8 A34.out).mono ?_); (case side1 => exact bC_ HR0_1 HB); (case side2 => exact HC0_1.out); (case side3 => exact bC_ HR0_2 HB); (case side4 => exact HC0_2.out); (case side5 => exact bC_ HR1_1 HB); (case side6 => exact HC1_1.out); (case side7 => exact bC_ HR1_2 HB); (case side8 => exact HC1_2.out); rintro e w41 ⟨v307, rfl, ho0, hb⟩; refine ⟨_, rfl, ?_⟩; have HO308 := as_ (Kd.R_lower ho0 (below_size (b3_ HB GE301 GE302 GE303))); replace BK301 := kb_ BK301 hb; replace BK302 := kb_ BK302 hb; replace BK303 := kb_ BK303 hb; replace HB := as_ (below_step (b3_ HB GE301 GE302 GE303) hb); clear hb ho0; obtain ⟨Ao42, co42, eo42⟩ := Kd.R_slice HO308.out; subst eo42; obtain ⟨hcz43_0, hfz43_0, hcz43_1, hfz43_1, hcz43_2, hfz43_2⟩ := tc3_ BK303))
        refine bodyPost_ret (results_ct rfl _ _ gb303 29 #[.int .i64 0, .slice none 0 0, .slice none 0 0] (0, 0) _ rfl (bp_ BK303) Try.underlying29 rfl (by kernel_rfl)) rfl ?_
        exact ⟨_, _, re_, by first | exact Kd.S_nil _ _ _ _ _ | exact Kd.N_nil _ _ _ _ _ | exact Kd.V_nil _ _ _ _ _ | exact Kd.Q_nil _ _ _ _ _ | exact Kd.R_nil _ _ _ _ _, by first | exact Kd.R_nil _ _ _ _ _ | exact Kd.N_nil _ _ _ _ _ | exact Kd.V_nil _ _ _ _ _ | exact Kd.Q_nil _ _ _ _ _ | exact Kd.S_nil _ _ _ _ _, b3_ HB GE301 GE302 GE303⟩
      rw [if_neg c35] at H
      have c35b0 := decide_eq_false c35
      have c35b1 : decide (9 < t306.length) = false := decide_eq_false (by omega)
      clear c35
      have H' := as_ H
      clear H
      have hnb44 := NB301_302.out
      have hnc44 := NB302_301.out
      have hnb45 := NB301_303.out
      have hnc45 := NB303_301.out
      obtain ⟨hcz46_0, hfz46_0, hcz46_1, hfz46_1, hcz46_2, hfz46_2⟩ := tc3_ BK301
      have hnb47 := NB302_303.out
      have hnc47 := NB303_302.out
      obtain ⟨hcz48_0, hfz48_0, hcz48_1, hfz48_1, hcz48_2, hfz48_2⟩ := tc3_ BK302
      go_wp2_with (first | ((with_reducible refine gate_callee (f := 22) rfl ?_); refine gL_ 36 Try.func22 #[.agg #[.int .i64 a0_0, .slice A0_1 l0_1.length c0_1, .slice A0_2 l0_2.length c0_2], .agg #[.int .i64 a1_0, .slice A1_1 l1_1.length c1_1, .slice A1_2 l1_2.length c1_2]] ?_; (with_reducible refine (impl_couples.calls kj3 a0_0 _ _ l0_1 _ _ l0_2 a1_0 _ _ l1_1 _ _ l1_2 t306 _ ?side1 ?side2 ?side3 ?side4 ?side5 ?side6 ?side7 ?side8 A34.out).mono ?_); (case side1 => exact bC_ HR0_1 HB); (case side2 => exact HC0_1.out); (case side3 => exact bC_ HR0_2 HB); (case side4 => exact HC0_2.out); (case side5 => exact bC_ HR1_1 HB); (case side6 => exact HC1_1.out); (case side7 => exact bC_ HR1_2 HB); (case side8 => exact HC1_2.out); rintro e w49 ⟨v307, rfl, ho0, hb⟩; refine ⟨_, rfl, ?_⟩; have HO308 := as_ (Kd.R_lower ho0 (below_size (b3_ HB GE301 GE302 GE303))); replace BK301 := kb_ BK301 hb; replace BK302 := kb_ BK302 hb; replace BK303 := kb_ BK303 hb; replace HB := as_ (below_step (b3_ HB GE301 GE302 GE303) hb); clear hb ho0; obtain ⟨Ao50, co50, eo50⟩ := Kd.R_slice HO308.out; subst eo50) | ((with_reducible refine gate_dst (N := 9) rfl ?_); refine bx_ 9 #[.int .i64 0, .slice none 0 0, .slice none 0 0] 29 ?_; intro gb309 hg w51 hbox hb; replace HO308 := rb_ HO308 hb; have BK309 := as_ (hbox); have GW309 := gz_ hg (b3_ HB GE301 GE302 GE303); have GE309 := GW309; replace HB := as_ (below_step (b3_ HB GE301 GE302 GE303) hb); have NB301_309 := nl_ hg (bk_ BK301); have NB309_301 := ng_ hg (bk_ BK301); replace BK301 := kb_ BK301 hb; have NB302_309 := nl_ hg (bk_ BK302); have NB309_302 := ng_ hg (bk_ BK302); replace BK302 := kb_ BK302 hb; have NB303_309 := nl_ hg (bk_ BK303); have NB309_303 := ng_ hg (bk_ BK303); replace BK303 := kb_ BK303 hb; clear hb hbox hg; have hnb52 := NB309_301.out; have hnc52 := NB301_309.out; have hnb53 := NB309_302.out; have hnc53 := NB302_309.out; have hnb54 := NB309_303.out; have hnc54 := NB303_309.out; obtain ⟨hcz55_0, hfz55_0, hcz55_1, hfz55_1, hcz55_2, hfz55_2⟩ := tc3_ BK309))
      go_loopg [44] kj3 (fun kq v44 w' => ∃ (x44_2 : Int) (x310001_2 : List (List Int)) (x310002_2 : List Int) (u310001 : Value) (u310002 : Value), v44 = .int .i64 x44_2 ∧ Aside0 (impl_CombineAutomata.l0 kq a2 t306 t306 (t306.length : Int) x44_2 a0_0 l0_1 l0_2 a1_0 l1_1 l1_2 0 x310001_2 x310002_2 = some (r1, r2, r3, r4)) ∧ Aside0 (kq ≤ kj3) ∧ Aside0 (Kd.R k48 48 w' w.heap.size (fun _ => True) (.slice Ao50 t306.length co50) t306) ∧ Aside0 (Kd.R k48 48 w' w.heap.size (fun _ => True) (.slice Ao50 t306.length co50) t306) ∧ Aside0 (Kd.S (Kd.slice 2 (Kd.int .i64)) 23 w' w.heap.size (fun k_ => some k_ ≠ (u310002 : Value).ownBlock) u310001 x310001_2) ∧ Aside0 (Kd.R (Kd.int .i64) 2 w' w.heap.size (fun _ => True) u310002 x310002_2) ∧ Aside0 (w'.heap[gb301]? = some (.cells #[.int .i64 a0_0, (.slice A0_1 l0_1.length c0_1), (.slice A0_2 l0_2.length c0_2)] 29 (0, 0))) ∧ Aside0 (w'.heap[gb302]? = some (.cells #[.int .i64 a1_0, (.slice A1_1 l1_1.length c1_1), (.slice A1_2 l1_2.length c1_2)] 29 (0, 0))) ∧ Aside0 (w'.heap[gb303]? = some (.cells #[.int .i64 0, (.slice none 0 0), (.slice none 0 0)] 29 (0, 0))) ∧ Aside0 (w'.heap[gb309]? = some (.cells #[.int .i64 0, u310001, u310002] 29 (0, 0))) ∧ Aside0 (Below w.heap.size w w'))
      case atStart => exact ⟨(0), (([] : List (List Int))), (([] : List Int)), (.slice none 0 0), (.slice none 0 0), rf_, H', ⟨Nat.le_refl _⟩, ⟨fR1_ HO308 BK309⟩, ⟨fR1_ HO308 BK309⟩, ⟨by first | exact Kd.S_nil _ _ _ _ _ | exact Kd.N_nil _ _ _ _ _ | exact Kd.V_nil _ _ _ _ _ | exact Kd.Q_nil _ _ _ _ _ | exact Kd.R_nil _ _ _ _ _⟩, ⟨by first | exact Kd.R_nil _ _ _ _ _ | exact Kd.N_nil _ _ _ _ _ | exact Kd.V_nil _ _ _ _ _ | exact Kd.Q_nil _ _ _ _ _ | exact Kd.S_nil _ _ _ _ _⟩, ⟨bf_ BK301 NB301_309⟩, ⟨bf_ BK302 NB302_309⟩, ⟨bf_ BK303 NB303_309⟩, ⟨bp_ BK309⟩, ⟨b4_ HB GE301 GE302 GE303 GE309⟩⟩
      case round =>
        clear H'
        (try clear c1); (try clear c2); (try clear p2); (try clear c3); (try clear c4); (try clear c5); (try clear c9); (try clear c11); (try clear c12); (try clear c15); (try clear c18); (try clear c19); (try clear c21); (try clear c22); (try clear c23); (try clear c24); (try clear c26); (try clear c26b0); (try clear c27); (try clear c28); (try clear c30); (try clear c30b0); (try clear c31); (try clear c32); (try clear c35); (try clear c35b0); (try clear c35b1); (try clear c36); (try clear c37); (try clear c39); (try clear c44); (try clear c45); (try clear c47); (try clear c52); (try clear c53); (try clear c54); (try clear hcz13_0); (try clear hcz13_1); (try clear hcz13_2); (try clear hcz16_0); (try clear hcz16_1); (try clear hcz16_2); (try clear hcz20_0); (try clear hcz20_1); (try clear hcz20_2); (try clear hcz25_0); (try clear hcz25_1); (try clear hcz25_2); (try clear hcz29_0); (try clear hcz29_1); (try clear hcz29_2); (try clear hcz33_0); (try clear hcz33_1); (try clear hcz33_2); (try clear hcz38_0); (try clear hcz38_1); (try clear hcz38_2); (try clear hcz40_0); (try clear hcz40_1); (try clear hcz40_2); (try clear hcz43_0); (try clear hcz43_1); (try clear hcz43_2); (try clear hcz46_0); (try clear hcz46_1); (try clear hcz46_2); (try clear hcz48_0); (try clear hcz48_1); (try clear hcz48_2); (try clear hcz55_0); (try clear hcz55_1); (try clear hcz55_2); (try clear hfz13_0); (try clear hfz13_1); (try clear hfz13_2); (try clear hfz16_0); (try clear hfz16_1); (try clear hfz16_2); (try clear hfz20_0); (try clear hfz20_1); (try clear hfz20_2); (try clear hfz25_0); (try clear hfz25_1); (try clear hfz25_2); (try clear hfz29_0); (try clear hfz29_1); (try clear hfz29_2); (try clear hfz33_0); (try clear hfz33_1); (try clear hfz33_2); (try clear hfz38_0); (try clear hfz38_1); (try clear hfz38_2); (try clear hfz40_0); (try clear hfz40_1); (try clear hfz40_2); (try clear hfz43_0); (try clear hfz43_1); (try clear hfz43_2); (try clear hfz46_0); (try clear hfz46_1); (try clear hfz46_2); (try clear hfz48_0); (try clear hfz48_1); (try clear hfz48_2); (try clear hfz55_0); (try clear hfz55_1); (try clear hfz55_2); (try clear p2)
        obtain ⟨x44_2, x310001_2, x310002_2, u310001, u310002, rfl, HA, HK2, HO_8, HO_42, HO_310001, HO_310002, BK301, BK302, BK303, BK309, HB⟩ := hrel
        cases gk with
        | zero => exact absurd HA.out (by simp [impl_CombineAutomata.l0])
        | succ k2 =>
          have H := HA.out
          clear HA
          simp only [impl_CombineAutomata.l0] at H
          by_cases c56 : x44_2 < (t306.length : Int)
          rotate_left
          · rw [if_neg c56] at H
            have c56b0 := decide_eq_false c56
            clear c56
            simp only [Option.some.injEq, Prod.mk.injEq] at H
            obtain ⟨rfl, rfl, rfl, rfl⟩ := H
            have hnb147 := NB309_301.out
            have hnc147 := NB301_309.out
            have hnb148 := NB309_302.out
            have hnc148 := NB302_309.out
            have hnb149 := NB309_303.out
            have hnc149 := NB303_309.out
            obtain ⟨hcz150_0, hfz150_0, hcz150_1, hfz150_1, hcz150_2, hfz150_2⟩ := tc3_ BK309
            have hnb151 := NB303_301.out
            have hnc151 := NB301_303.out
            have hnb152 := NB303_302.out
            have hnc152 := NB302_303.out
            obtain ⟨hcz153_0, hfz153_0, hcz153_1, hfz153_1, hcz153_2, hfz153_2⟩ := tc3_ BK303
            obtain ⟨Ao154, co154, eo154⟩ := Kd.S_slice HO_310001.out
            subst eo154
            obtain ⟨Ao155, co155, eo155⟩ := Kd.R_slice HO_310002.out
            subst eo155
            go_wp2
            refine bodyPost_ret (results_ct rfl _ _ gb303 29 #[.int .i64 0, .slice Ao154 x310001_2.length co154, .slice Ao155 x310002_2.length co155] (0, 0) _ rfl (bp_ BK303) Try.underlying29 rfl (by kernel_rfl)) rfl ?_
            exact ⟨_, _, re_, iS1_ HO_310001 BK303, fR1_ HO_310002 BK303, b4_ HB GE301 GE302 GE303 GE309⟩
          rw [if_pos c56] at H
          have c56b0 := decide_eq_true c56
          clear c56
          obtain ⟨c57b0, H⟩ := ite_d H
          obtain ⟨c58b0, H⟩ := ite_d H
          obtain ⟨y312, hy312⟩ := ex_ (([] : List Int) : List Int)
          replace H : (impl_CombineAutomata.l1 k2 a2 t306 x44_2 y312 t306 (t306.length : Int) x44_2 t306 (t306.length : Int) 0 a0_0 l0_1 l0_2 a1_0 l1_1 l1_2 0 x310001_2 x310002_2 ((rd_T48 t306 x44_2).f0) ((rd_T48 t306 x44_2).f1)) = some (r1, r2, r3, r4) := yr_ hy312 H
          have Ny312 := as_ hy312
          clear hy312
          have H' := as_ H
          clear H
          have p310 : 0 ≤ (x44_2 : Int) := od_
          have q310 : x44_2 < (t306.length : Int) := od_
          obtain ⟨ad310, e310, hx310_0, hx310_1⟩ := at_T48 (Kd.R_reads' HO_42.out).2.2 x44_2 p310 q310
          cases e310
          replace p310 := eq_true p310
          replace q310 := eq_true q310
          go_wp2_with (first | ((with_reducible refine gate_dst (N := 11) rfl ?_); refine bx_ 11 #[.int .i64 0, .int .i64 0] 48 ?_; intro gb311 hg w59 hbox hb; replace HO_8 := as_ (Kd.R_below (Kd.R_elderB (bR_ HO_8) gb311 (Nat.le_of_eq hg.symm)) hb); replace HO_42 := as_ (Kd.R_below (Kd.R_elderB (bR_ HO_42) gb311 (Nat.le_of_eq hg.symm)) hb); replace HO_310001 := sb_ HO_310001 hb; replace HO_310002 := rb_ HO_310002 hb; have BK311 := as_ (hbox); have GW311 := gz_ hg (b4_ HB GE301 GE302 GE303 GE309); have GE311 := GW311; replace HB := as_ (below_step (b4_ HB GE301 GE302 GE303 GE309) hb); have NB301_311 := nl_ hg (bk_ BK301); have NB311_301 := ng_ hg (bk_ BK301); replace BK301 := kb_ BK301 hb; have NB302_311 := nl_ hg (bk_ BK302); have NB311_302 := ng_ hg (bk_ BK302); replace BK302 := kb_ BK302 hb; have NB303_311 := nl_ hg (bk_ BK303); have NB311_303 := ng_ hg (bk_ BK303); replace BK303 := kb_ BK303 hb; have NB309_311 := nl_ hg (bk_ BK309); have NB311_309 := ng_ hg (bk_ BK309); replace BK309 := kb_ BK309 hb; clear hb hbox hg; have hnb60 := NB311_301.out; have hnc60 := NB301_311.out; have hnb61 := NB311_302.out; have hnc61 := NB302_311.out; have hnb62 := NB311_303.out; have hnc62 := NB303_311.out; have hnb63 := NB311_309.out; have hnc63 := NB309_311.out; obtain ⟨hcz64_0, hfz64_0, hcz64_1, hfz64_1⟩ := tc2_ BK311) | ((with_reducible refine gate_dst (N := 49) rfl ?_); refine Kd.R_lit (Kd.int .i64) _ 2 ?hg (N := 49) ?hd (xs := ([] : List Int)) (inner := []) (ok := fun _ => True) (okp := fun _ => True) ?hr ?hp (fun _ hk => hk) trivial (Below.refl _ _) (Nat.le_refl _) (by simp) ?_; (case hd => rfl); (case hg => rfl); (case hr => first | (go_simp; done) | (go_simp; rfl)); (case hp => exact (Reps.none _ _)); intro v313 w65 ho66 hb hg_ hnew_; clear hg_ hnew_; (first | rw [← Ny312.out] at ho66 | (simp only [Int.reduceToNat] at ho66; rw [← Ny312.out] at ho66)); replace HO_8 := as_ (Kd.R_below (iR_ HO_8) hb); replace HO_42 := as_ (Kd.R_below (iR_ HO_42) hb); replace HO_310001 := as_ (Kd.S_elder' (iS1_ HO_310001 BK311) (Kd.R_base ho66) hb); have HO314 := as_ (Kd.R_lower (Kd.R_new' ho66 (Kd.R_lt (iR1_ HO_310002 BK311))) (below_size (b5_ HB GE301 GE302 GE303 GE309 GE311))); replace HO_310002 := as_ (Kd.R_elder' (iR1_ HO_310002 BK311) (Kd.R_base ho66) hb); replace BK301 := as_ (blk_below (bf_ BK301 NB301_311) hb); replace BK302 := as_ (blk_below (bf_ BK302 NB302_311) hb); replace BK303 := as_ (blk_below (bf_ BK303 NB303_311) hb); replace BK309 := as_ (blk_below (bf_ BK309 NB309_311) hb); replace BK311 := as_ (blk_below (g := gb311) (o := .cells #[.int .i64 ((rd_T48 t306 x44_2).f0), .int .i64 ((rd_T48 t306 x44_2).f1)] 48 (0, 0)) (bp_ BK311) hb); replace HB := as_ (below_step (b5_ HB GE301 GE302 GE303 GE309 GE311) hb); clear hb ho66))
          go_loopg [12, 52] k2 (fun kq v12 v52 w' => ∃ (x12_3 : List Int) (x52_3 : Int), v52 = .int .i64 x52_3 ∧ Aside0 (impl_CombineAutomata.l1 kq a2 t306 x44_2 x12_3 t306 (t306.length : Int) x44_2 t306 (t306.length : Int) x52_3 a0_0 l0_1 l0_2 a1_0 l1_1 l1_2 0 x310001_2 x310002_2 ((rd_T48 t306 x44_2).f0) ((rd_T48 t306 x44_2).f1) = some (r1, r2, r3, r4)) ∧ Aside0 (kq ≤ k2) ∧ Aside0 (Kd.R k48 48 w' w.heap.size (fun k_ => k_ ≠ gb311) (.slice (some ad310) t306.length co50) t306) ∧ Aside0 (Kd.R (Kd.int .i64) 2 w' w.heap.size (fun k_ => some k_ ≠ (u310002 : Value).ownBlock) v12 x12_3) ∧ Aside0 (Kd.R k48 48 w' w.heap.size (fun k_ => k_ ≠ gb311) (.slice (some ad310) t306.length co50) t306) ∧ Aside0 (Kd.R k48 48 w' w.heap.size (fun k_ => k_ ≠ gb311) (.slice (some ad310) t306.length co50) t306) ∧ Aside0 (Kd.S (Kd.slice 2 (Kd.int .i64)) 23 w' w.heap.size (fun k_ => some k_ ≠ (v12 : Value).ownBlock ∧ some k_ ≠ (u310002 : Value).ownBlock) u310001 x310001_2) ∧ Aside0 (Kd.R (Kd.int .i64) 2 w' w.heap.size (fun k_ => some k_ ≠ (v12 : Value).ownBlock) u310002 x310002_2) ∧ Aside0 (w'.heap[gb301]? = some (.cells #[.int .i64 a0_0, (.slice A0_1 l0_1.length c0_1), (.slice A0_2 l0_2.length c0_2)] 29 (0, 0))) ∧ Aside0 (w'.heap[gb302]? = some (.cells #[.int .i64 a1_0, (.slice A1_1 l1_1.length c1_1), (.slice A1_2 l1_2.length c1_2)] 29 (0, 0))) ∧ Aside0 (w'.heap[gb303]? = some (.cells #[.int .i64 0, (.slice none 0 0), (.slice none 0 0)] 29 (0, 0))) ∧ Aside0 (w'.heap[gb309]? = some (.cells #[.int .i64 0, u310001, u310002] 29 (0, 0))) ∧ Aside0 (w'.heap[gb311]? = some (.cells #[.int .i64 ((rd_T48 t306 x44_2).f0), .int .i64 ((rd_T48 t306 x44_2).f1)] 48 (0, 0))) ∧ Aside0 (Below w.heap.size w w'))
          case atStart => exact ⟨(y312), (0), rf_, H', ⟨Nat.le_refl _⟩, ⟨fR_ HO_8⟩, ⟨fR_ HO314⟩, ⟨fR_ HO_42⟩, ⟨fR_ HO_8⟩, ⟨fS_ HO_310001⟩, ⟨fR_ HO_310002⟩, ⟨bk_ BK301⟩, ⟨bk_ BK302⟩, ⟨bk_ BK303⟩, ⟨bk_ BK309⟩, ⟨bk_ BK311⟩, ⟨b5_ HB GE301 GE302 GE303 GE309 GE311⟩⟩
          case round =>
            clear H'
            (try clear c1); (try clear c2); (try clear p2); (try clear c3); (try clear p3); (try clear q3); (try clear hx3); (try clear c4); (try clear c5); (try clear c6); (try clear c9); (try clear c11); (try clear c12); (try clear c15); (try clear c18); (try clear c19); (try clear c21); (try clear c22); (try clear c23); (try clear c24); (try clear c26); (try clear c26b0); (try clear c27); (try clear c28); (try clear c30); (try clear c30b0); (try clear c31); (try clear p31); (try clear q31); (try clear hx31); (try clear c32); (try clear c35); (try clear c35b0); (try clear c35b1); (try clear c36); (try clear c37); (try clear c39); (try clear c44); (try clear c45); (try clear c47); (try clear c52); (try clear c53); (try clear c54); (try clear c56); (try clear c56b0); (try clear c57); (try clear c57b0); (try clear c58); (try clear c58b0); (try clear c60); (try clear c61); (try clear c62); (try clear c63); (try clear hcz13_0); (try clear hcz13_1); (try clear hcz13_2); (try clear hcz16_0); (try clear hcz16_1); (try clear hcz16_2); (try clear hcz20_0); (try clear hcz20_1); (try clear hcz20_2); (try clear hcz25_0); (try clear hcz25_1); (try clear hcz25_2); (try clear hcz29_0); (try clear hcz29_1); (try clear hcz29_2); (try clear hcz33_0); (try clear hcz33_1); (try clear hcz33_2); (try clear hcz38_0); (try clear hcz38_1); (try clear hcz38_2); (try clear hcz40_0); (try clear hcz40_1); (try clear hcz40_2); (try clear hcz43_0); (try clear hcz43_1); (try clear hcz43_2); (try clear hcz46_0); (try clear hcz46_1); (try clear hcz46_2); (try clear hcz48_0); (try clear hcz48_1); (try clear hcz48_2); (try clear hcz55_0); (try clear hcz55_1); (try clear hcz55_2); (try clear hcz64_0); (try clear hcz64_1); (try clear hfz13_0); (try clear hfz13_1); (try clear hfz13_2); (try clear hfz16_0); (try clear hfz16_1); (try clear hfz16_2); (try clear hfz20_0); (try clear hfz20_1); (try clear hfz20_2); (try clear hfz25_0); (try clear hfz25_1); (try clear hfz25_2); (try clear hfz29_0); (try clear hfz29_1); (try clear hfz29_2); (try clear hfz33_0); (try clear hfz33_1); (try clear hfz33_2); (try clear hfz38_0); (try clear hfz38_1); (try clear hfz38_2); (try clear hfz40_0); (try clear hfz40_1); (try clear hfz40_2); (try clear hfz43_0); (try clear hfz43_1); (try clear hfz43_2); (try clear hfz46_0); (try clear hfz46_1); (try clear hfz46_2); (try clear hfz48_0); (try clear hfz48_1); (try clear hfz48_2); (try clear hfz55_0); (try clear hfz55_1); (try clear hfz55_2); (try clear hfz64_0); (try clear hfz64_1); (try clear hx310_0); (try clear hx310_1); (try clear p2); (try clear p310); (try clear q310)
            obtain ⟨x12_3, x52_3, rfl, HA, HK3, HO_8, HO_12, HO_42, HO_50, HO_310001, HO_310002, BK301, BK302, BK303, BK309, BK311, HB⟩ := hrel
            cases gk with
            | zero => exact absurd HA.out (by simp [impl_CombineAutomata.l1])
            | succ k3 =>
              have H := HA.out
              clear HA
              simp only [impl_CombineAutomata.l1] at H
              by_cases c67 : x52_3 < (t306.length : Int)
              rotate_left
              · rw [if_neg c67] at H
                have c67b0 := decide_eq_false c67
                clear c67
                obtain ⟨c101, H⟩ := ite_s H
                have LMc101 := as_ c101
                clear c101
                obtain ⟨y326, hy326⟩ := ex_ (x310001_2 ++ [x12_3] : List (List Int))
                replace H : ((impl_isGoodFor.f k3 a0_0 l0_1 l0_2 a1_0 l1_1 l1_2 ((rd_T48 t306 x44_2).f0) ((rd_T48 t306 x44_2).f1) a2).bind fun t329 => (if t329 = true then (if x310002_2.length < 17592186044416 then (impl_CombineAutomata.l0 k3 a2 t306 t306 (t306.length : Int) (wrap64 (x44_2 + 1)) a0_0 l0_1 l0_2 a1_0 l1_1 l1_2 0 y326 (x310002_2 ++ [x44_2])) else (none)) else (impl_CombineAutomata.l0 k3 a2 t306 t306 (t306.length : Int) (wrap64 (x44_2 + 1)) a0_0 l0_1 l0_2 a1_0 l1_1 l1_2 0 y326 x310002_2))) = some (r1, r2, r3, r4) := yr_ hy326 H
                have Ny326 := as_ hy326
                clear hy326
                obtain ⟨t329, A102, H⟩ := bo_ H
                by_cases c103 : t329 = true
                rotate_left
                · replace c103 := Bool.eq_false_iff.mpr c103
                  subst c103
                  replace H := if_ H
                  have H' := as_ H
                  clear H
                  have hnb128 := NB309_301.out
                  have hnc128 := NB301_309.out
                  have hnb129 := NB309_302.out
                  have hnc129 := NB302_309.out
                  have hnb130 := NB309_303.out
                  have hnc130 := NB303_309.out
                  have hnb131 := NB309_311.out
                  have hnc131 := NB311_309.out
                  obtain ⟨hcz132_0, hfz132_0, hcz132_1, hfz132_1, hcz132_2, hfz132_2⟩ := tc3_ BK309
                  obtain ⟨Ao134, co134, eo134⟩ := Kd.R_slice HO_12.out
                  subst eo134
                  go_wp2_with (first | ((with_reducible refine gate_builtin (b := .append) (xs := #[.tmp 85, .tmp 87]) rfl ?_); at_builtin; refine Kd.S_append (Kd.slice 2 (Kd.int .i64)) (w0 := w) w.heap.size rfl (.tmp 85) (.tmp 87) 22 23 (.slice none 0 0) 24 rfl Try.underlying22 info23 rfl (by decide) (by omega) u310001 x310001_2 x12_3 [.slice Ao134 x12_3.length co134] (fun k_ => some k_ ≠ (u310002 : Value).ownBlock) (fun k_ => some k_ = (.slice Ao134 x12_3.length co134 : Value).ownBlock) rfl rfl ?aP (fun k_ hk_ => ((Kd.R_mono (ok' := fun k_ => ((fun k_ => some k_ ≠ (u310002 : Value).ownBlock)) k_ ∧ some k_ ≠ (u310001 : Value).ownBlock) (Kd.R_apart' (HO_12.out) (Kd.S_typed HO_310001.out) (by decide)) (fun k_ hk => ⟨hk.1, hk.2⟩))).1 k_ hk_.symm) ?aF ?aO ?aB ?aS ?aL ?_; (case aP => exact Kd.M_row (Kd.R_mono (Kd.R_tight rfl (Kd.R_mono (ok' := fun k_ => ((fun k_ => some k_ ≠ (u310002 : Value).ownBlock)) k_ ∧ some k_ ≠ (u310001 : Value).ownBlock) (Kd.R_apart' (HO_12.out) (Kd.S_typed HO_310001.out) (by decide)) (fun k_ hk => ⟨hk.1, hk.2⟩))) (fun _ h_ => h_))); (case aB => exact (b5_ HB GE301 GE302 GE303 GE309 GE311)); (case aF => exact (fun k_ hk => Kd.fresh' (Kd.R_lt (bR_ HO_310002)) k_ hk)); (case aO => exact (by (with_reducible repeat (first | apply Kd.S_alloc | apply Kd.S_drewN | apply Kd.S_drew)); exact Kd.S_mono HO_310001.out (fun k_ hk => ⟨hk.2, fun e_ => hk.1 e_⟩))); (case aS => exact (below_size (b5_ HB GE301 GE302 GE303 GE309 GE311))); (case aL => have := LMc101.out; omega); intro v327 w133 ho hb hg hat; rw [← Ny326.out] at ho; replace HO_8 := as_ (Kd.R_over' (bR_ HO_8) (Kd.S_typed (bS_ HO_310001)) (by decide) hg); replace HO_42 := as_ (Kd.R_over' (bR_ HO_42) (Kd.S_typed (bS_ HO_310001)) (by decide) hg); replace HO_50 := as_ (Kd.R_over' (bR_ HO_50) (Kd.S_typed (bS_ HO_310001)) (by decide) hg); replace HO_310002 := as_ (Kd.R_over' (bR_ HO_310002) (Kd.S_typed (bS_ HO_310001)) (by decide) hg); replace BK301 := as_ (blk_grown (bk_ BK301) hg (Kd.S_ne HO_310001.out BK301.out (by decide))); replace BK302 := as_ (blk_grown (bk_ BK302) hg (Kd.S_ne HO_310001.out BK302.out (by decide))); replace BK303 := as_ (blk_grown (bk_ BK303) hg (Kd.S_ne HO_310001.out BK303.out (by decide))); replace BK309 := as_ (blk_grown (bk_ BK309) hg (Kd.S_ne HO_310001.out BK309.out (by decide))); replace BK311 := as_ (blk_grown (bk_ BK311) hg (Kd.S_ne HO_310001.out BK311.out (by decide))); replace HB := as_ (hb); have HO328 := as_ (ho); clear HO_310001 HO_12; clear ho hb hg hat; obtain ⟨Ao135, co135, eo135⟩ := Kd.S_slice HO328.out; subst eo135; obtain ⟨hcz136_0, hfz136_0, hcz136_1, hfz136_1, hcz136_2, hfz136_2⟩ := tc3_ BK309; have hnb137 := NB301_302.out; have hnc137 := NB302_301.out; have hnb138 := NB301_303.out; have hnc138 := NB303_301.out; have hnb139 := NB301_311.out; have hnc139 := NB311_301.out; obtain ⟨hcz140_0, hfz140_0, hcz140_1, hfz140_1, hcz140_2, hfz140_2⟩ := tc3_ BK301; have hnb141 := NB302_303.out; have hnc141 := NB303_302.out; have hnb142 := NB302_311.out; have hnc142 := NB311_302.out; obtain ⟨hcz143_0, hfz143_0, hcz143_1, hfz143_1, hcz143_2, hfz143_2⟩ := tc3_ BK302; have hnb144 := NB311_303.out; have hnc144 := NB303_311.out; obtain ⟨hcz145_0, hfz145_0, hcz145_1, hfz145_1⟩ := tc2_ BK311) | ((with_reducible refine gate_callee (f := 23) rfl ?_); refine gL_ 94 Try.func23 #[.agg #[.int .i64 a0_0, .slice A0_1 l0_1.length c0_1, .slice A0_2 l0_2.length c0_2], .agg #[.int .i64 a1_0, .slice A1_1 l1_1.length c1_1, .slice A1_2 l1_2.length c1_2], .agg #[.int .i64 ((rd_T48 t306 x44_2).f0), .int .i64 ((rd_T48 t306 x44_2).f1)], .int .i64 a2] ?_; (with_reducible refine (impl_isGoodFor.calls k3 a0_0 _ _ l0_1 _ _ l0_2 a1_0 _ _ l1_1 _ _ l1_2 ((rd_T48 t306 x44_2).f0) ((rd_T48 t306 x44_2).f1) a2 false _ ?side1 ?side2 ?side3 ?side4 ?side5 ?side6 ?side7 ?side8 A102.out).mono ?_); (case side1 => exact Kd.C_below HR0_1.out (b5_ HB GE301 GE302 GE303 GE309 GE311)); (case side2 => exact HC0_1.out); (case side3 => exact Kd.C_below HR0_2.out (b5_ HB GE301 GE302 GE303 GE309 GE311)); (case side4 => exact HC0_2.out); (case side5 => exact Kd.C_below HR1_1.out (b5_ HB GE301 GE302 GE303 GE309 GE311)); (case side6 => exact HC1_1.out); (case side7 => exact Kd.C_below HR1_2.out (b5_ HB GE301 GE302 GE303 GE309 GE311)); (case side8 => exact HC1_2.out); rintro e w146 ⟨rfl, hb⟩; refine ⟨_, rfl, ?_⟩; replace HO_8 := as_ (Kd.R_below (iR1_ HO_8 BK309) hb); replace HO_42 := as_ (Kd.R_below (iR1_ HO_42 BK309) hb); replace HO_50 := as_ (Kd.R_below (iR1_ HO_50 BK309) hb); replace HO_310002 := as_ (Kd.R_below (iR1_ HO_310002 BK309) hb); replace HO328 := as_ (Kd.S_below (iS1_ HO328 BK309) hb); replace BK301 := as_ (blk_below (bf_ BK301 NB301_309) hb); replace BK302 := as_ (blk_below (bf_ BK302 NB302_309) hb); replace BK303 := as_ (blk_below (bf_ BK303 NB303_309) hb); replace BK309 := as_ (blk_below (g := gb309) (o := .cells #[.int .i64 0, .slice Ao135 y326.length co135, u310002] 29 (0, 0)) (bp_ BK309) hb); replace BK311 := as_ (blk_below (bf_ BK311 NB311_309) hb); replace HB := as_ (below_step (b5_ HB GE301 GE302 GE303 GE309 GE311) hb); clear hb))
                  go_roundg k3
                  case measure => have := HJ3.out; have := HK2.out; have := HK3.out; omega
                  case rel => exact ⟨(wrap64 (x44_2 + 1)), (y326), (x310002_2), (.slice Ao135 y326.length co135), (u310002), rf_, H', ⟨by have := HJ3.out; have := HK2.out; have := HK3.out; omega⟩, ⟨fR_ HO_8⟩, ⟨fR_ HO_42⟩, ⟨bS_ HO328⟩, ⟨fR_ HO_310002⟩, ⟨bk_ BK301⟩, ⟨bk_ BK302⟩, ⟨bk_ BK303⟩, ⟨bk_ BK309⟩, ⟨b5_ HB GE301 GE302 GE303 GE309 GE311⟩⟩
                subst c103
                replace H := it_ H
                obtain ⟨c104, H⟩ := ite_s H
                have LMc104 := as_ c104
                clear c104
                obtain ⟨y330, hy330⟩ := ex_ (x310002_2 ++ [x44_2] : List Int)
                replace H : (impl_CombineAutomata.l0 k3 a2 t306 t306 (t306.length : Int) (wrap64 (x44_2 + 1)) a0_0 l0_1 l0_2 a1_0 l1_1 l1_2 0 y326 y330) = some (r1, r2, r3, r4) := yr_ hy330 H
                have Ny330 := as_ hy330
                clear hy330
                have H' := as_ H
                clear H
                have hnb105 := NB309_301.out
                have hnc105 := NB301_309.out
                have hnb106 := NB309_302.out
                have hnc106 := NB302_309.out
                have hnb107 := NB309_303.out
                have hnc107 := NB303_309.out
                have hnb108 := NB309_311.out
                have hnc108 := NB311_309.out
                obtain ⟨hcz109_0, hfz109_0, hcz109_1, hfz109_1, hcz109_2, hfz109_2⟩ := tc3_ BK309
                obtain ⟨Ao111, co111, eo111⟩ := Kd.R_slice HO_12.out
                subst eo111
                go_wp2_with (first | ((with_reducible refine gate_builtin (b := .append) (xs := #[.tmp 85, .tmp 87]) rfl ?_); at_builtin; refine Kd.S_append (Kd.slice 2 (Kd.int .i64)) (w0 := w) w.heap.size rfl (.tmp 85) (.tmp 87) 22 23 (.slice none 0 0) 24 rfl Try.underlying22 info23 rfl (by decide) (by omega) u310001 x310001_2 x12_3 [.slice Ao111 x12_3.length co111] (fun k_ => some k_ ≠ (u310002 : Value).ownBlock) (fun k_ => some k_ = (.slice Ao111 x12_3.length co111 : Value).ownBlock) rfl rfl ?aP (fun k_ hk_ => ((Kd.R_mono (ok' := fun k_ => ((fun k_ => some k_ ≠ (u310002 : Value).ownBlock)) k_ ∧ some k_ ≠ (u310001 : Value).ownBlock) (Kd.R_apart' (HO_12.out) (Kd.S_typed HO_310001.out) (by decide)) (fun k_ hk => ⟨hk.1, hk.2⟩))).1 k_ hk_.symm) ?aF ?aO ?aB ?aS ?aL ?_; (case aP => exact Kd.M_row (Kd.R_mono (Kd.R_tight rfl (Kd.R_mono (ok' := fun k_ => ((fun k_ => some k_ ≠ (u310002 : Value).ownBlock)) k_ ∧ some k_ ≠ (u310001 : Value).ownBlock) (Kd.R_apart' (HO_12.out) (Kd.S_typed HO_310001.out) (by decide)) (fun k_ hk => ⟨hk.1, hk.2⟩))) (fun _ h_ => h_))); (case aB => exact (b5_ HB GE301 GE302 GE303 GE309 GE311)); (case aF => exact (fun k_ hk => Kd.fresh' (Kd.R_lt (bR_ HO_310002)) k_ hk)); (case aO => exact (by (with_reducible repeat (first | apply Kd.S_alloc | apply Kd.S_drewN | apply Kd.S_drew)); exact Kd.S_mono HO_310001.out (fun k_ hk => ⟨hk.2, fun e_ => hk.1 e_⟩))); (case aS => exact (below_size (b5_ HB GE301 GE302 GE303 GE309 GE311))); (case aL => have := LMc101.out; omega); intro v327 w110 ho hb hg hat; rw [← Ny326.out] at ho; replace HO_8 := as_ (Kd.R_over' (bR_ HO_8) (Kd.S_typed (bS_ HO_310001)) (by decide) hg); replace HO_42 := as_ (Kd.R_over' (bR_ HO_42) (Kd.S_typed (bS_ HO_310001)) (by decide) hg); replace HO_50 := as_ (Kd.R_over' (bR_ HO_50) (Kd.S_typed (bS_ HO_310001)) (by decide) hg); replace HO_310002 := as_ (Kd.R_over' (bR_ HO_310002) (Kd.S_typed (bS_ HO_310001)) (by decide) hg); replace BK301 := as_ (blk_grown (bk_ BK301) hg (Kd.S_ne HO_310001.out BK301.out (by decide))); replace BK302 := as_ (blk_grown (bk_ BK302) hg (Kd.S_ne HO_310001.out BK302.out (by decide))); replace BK303 := as_ (blk_grown (bk_ BK303) hg (Kd.S_ne HO_310001.out BK303.out (by decide))); replace BK309 := as_ (blk_grown (bk_ BK309) hg (Kd.S_ne HO_310001.out BK309.out (by decide))); replace BK311 := as_ (blk_grown (bk_ BK311) hg (Kd.S_ne HO_310001.out BK311.out (by decide))); replace HB := as_ (hb); have HO328 := as_ (ho); clear HO_310001 HO_12; clear ho hb hg hat; obtain ⟨Ao112, co112, eo112⟩ := Kd.S_slice HO328.out; subst eo112; obtain ⟨hcz113_0, hfz113_0, hcz113_1, hfz113_1, hcz113_2, hfz113_2⟩ := tc3_ BK309; have hnb114 := NB301_302.out; have hnc114 := NB302_301.out; have hnb115 := NB301_303.out; have hnc115 := NB303_301.out; have hnb116 := NB301_311.out; have hnc116 := NB311_301.out; obtain ⟨hcz117_0, hfz117_0, hcz117_1, hfz117_1, hcz117_2, hfz117_2⟩ := tc3_ BK301; have hnb118 := NB302_303.out; have hnc118 := NB303_302.out; have hnb119 := NB302_311.out; have hnc119 := NB311_302.out; obtain ⟨hcz120_0, hfz120_0, hcz120_1, hfz120_1, hcz120_2, hfz120_2⟩ := tc3_ BK302; have hnb121 := NB311_303.out; have hnc121 := NB303_311.out; obtain ⟨hcz122_0, hfz122_0, hcz122_1, hfz122_1⟩ := tc2_ BK311) | ((with_reducible refine gate_callee (f := 23) rfl ?_); refine gL_ 94 Try.func23 #[.agg #[.int .i64 a0_0, .slice A0_1 l0_1.length c0_1, .slice A0_2 l0_2.length c0_2], .agg #[.int .i64 a1_0, .slice A1_1 l1_1.length c1_1, .slice A1_2 l1_2.length c1_2], .agg #[.int .i64 ((rd_T48 t306 x44_2).f0), .int .i64 ((rd_T48 t306 x44_2).f1)], .int .i64 a2] ?_; (with_reducible refine (impl_isGoodFor.calls k3 a0_0 _ _ l0_1 _ _ l0_2 a1_0 _ _ l1_1 _ _ l1_2 ((rd_T48 t306 x44_2).f0) ((rd_T48 t306 x44_2).f1) a2 true _ ?side1 ?side2 ?side3 ?side4 ?side5 ?side6 ?side7 ?side8 A102.out).mono ?_); (case side1 => exact Kd.C_below HR0_1.out (b5_ HB GE301 GE302 GE303 GE309 GE311)); (case side2 => exact HC0_1.out); (case side3 => exact Kd.C_below HR0_2.out (b5_ HB GE301 GE302 GE303 GE309 GE311)); (case side4 => exact HC0_2.out); (case side5 => exact Kd.C_below HR1_1.out (b5_ HB GE301 GE302 GE303 GE309 GE311)); (case side6 => exact HC1_1.out); (case side7 => exact Kd.C_below HR1_2.out (b5_ HB GE301 GE302 GE303 GE309 GE311)); (case side8 => exact HC1_2.out); rintro e w123 ⟨rfl, hb⟩; refine ⟨_, rfl, ?_⟩; replace HO_8 := as_ (Kd.R_below (iR1_ HO_8 BK309) hb); replace HO_42 := as_ (Kd.R_below (iR1_ HO_42 BK309) hb); replace HO_50 := as_ (Kd.R_below (iR1_ HO_50 BK309) hb); replace HO_310002 := as_ (Kd.R_below (iR1_ HO_310002 BK309) hb); replace HO328 := as_ (Kd.S_below (iS1_ HO328 BK309) hb); replace BK301 := as_ (blk_below (bf_ BK301 NB301_309) hb); replace BK302 := as_ (blk_below (bf_ BK302 NB302_309) hb); replace BK303 := as_ (blk_below (bf_ BK303 NB303_309) hb); replace BK309 := as_ (blk_below (g := gb309) (o := .cells #[.int .i64 0, .slice Ao112 y326.length co112, u310002] 29 (0, 0)) (bp_ BK309) hb); replace BK311 := as_ (blk_below (bf_ BK311 NB311_309) hb); replace HB := as_ (below_step (b5_ HB GE301 GE302 GE303 GE309 GE311) hb); clear hb; obtain ⟨hcz124_0, hfz124_0, hcz124_1, hfz124_1, hcz124_2, hfz124_2⟩ := tc3_ BK309) | ((with_reducible refine gate_builtin (b := .append) (xs := #[.tmp 96, .tmp 98]) rfl ?_); at_builtin; refine Kd.R_append (Kd.int .i64) (w0 := w) w.heap.size rfl (.tmp 96) (.tmp 98) 23 2 (.int .i64 0) 8 rfl Try.underlying23 info2 rfl (by decide) (by omega) u310002 x310002_2 x44_2 [.int .i64 x44_2] (fun _ => True) (fun _ => False) rfl rfl ?aP (fun _ hk => hk.elim) ?aF ?aO ?aB ?aS ?aL ?_; (case aP => exact rfl); (case aB => exact (b5_ HB GE301 GE302 GE303 GE309 GE311)); (case aF => exact (fun _ _ => trivial)); (case aO => exact (fR_ HO_310002)); (case aS => exact (below_size (b5_ HB GE301 GE302 GE303 GE309 GE311))); (case aL => have := LMc104.out; omega); intro v331 w125 ho hb hg hat; rw [← Ny330.out] at ho; replace HO_8 := as_ (Kd.R_over' (bR_ HO_8) (Kd.R_typed (bR_ HO_310002)) (by decide) hg); replace HO_42 := as_ (Kd.R_over' (bR_ HO_42) (Kd.R_typed (bR_ HO_310002)) (by decide) hg); replace HO_50 := as_ (Kd.R_over' (bR_ HO_50) (Kd.R_typed (bR_ HO_310002)) (by decide) hg); replace BK301 := as_ (blk_grown (bk_ BK301) hg (Kd.R_ne HO_310002.out BK301.out (by decide))); replace BK302 := as_ (blk_grown (bk_ BK302) hg (Kd.R_ne HO_310002.out BK302.out (by decide))); replace BK303 := as_ (blk_grown (bk_ BK303) hg (Kd.R_ne HO_310002.out BK303.out (by decide))); replace BK309 := as_ (blk_grown (bk_ BK309) hg (Kd.R_ne HO_310002.out BK309.out (by decide))); replace BK311 := as_ (blk_grown (bk_ BK311) hg (Kd.R_ne HO_310002.out BK311.out (by decide))); replace HO328 := as_ (Kd.S_after (ok := (fun _ => True)) (fS_ HO328) hg hat); replace HB := as_ (hb); have HO332 := as_ (ho); clear HO_310002; clear ho hb hg hat; obtain ⟨Ao126, co126, eo126⟩ := Kd.R_slice HO332.out; subst eo126; obtain ⟨hcz127_0, hfz127_0, hcz127_1, hfz127_1, hcz127_2, hfz127_2⟩ := tc3_ BK309))
                go_roundg k3
                case measure => have := HJ3.out; have := HK2.out; have := HK3.out; omega
                case rel => exact ⟨(wrap64 (x44_2 + 1)), (y326), (y330), (.slice Ao112 y326.length co112), (.slice Ao126 y330.length co126), rf_, H', ⟨by have := HJ3.out; have := HK2.out; have := HK3.out; omega⟩, ⟨fR1_ HO_8 BK309⟩, ⟨fR1_ HO_42 BK309⟩, ⟨fS1_ HO328 BK309⟩, ⟨fR1_ HO332 BK309⟩, ⟨bf_ BK301 NB301_309⟩, ⟨bf_ BK302 NB302_309⟩, ⟨bf_ BK303 NB303_309⟩, ⟨bp_ BK309⟩, ⟨b5_ HB GE301 GE302 GE303 GE309 GE311⟩⟩
              rw [if_pos c67] at H
              have c67b0 := decide_eq_true c67
              clear c67
              obtain ⟨c68b0, H⟩ := ite_d H
              obtain ⟨c69b0, H⟩ := ite_d H
              obtain ⟨c70b0, H⟩ := ite_d H
              obtain ⟨c71b0, H⟩ := ite_d H
              obtain ⟨c72b0, H⟩ := ite_d H
              obtain ⟨c73b0, H⟩ := ite_d H
              obtain ⟨c74b0, H⟩ := ite_d H
              obtain ⟨c75b0, H⟩ := ite_d H
              obtain ⟨c76b0, H⟩ := ite_d H
              obtain ⟨c77b0, H⟩ := ite_d H
              obtain ⟨t322, A78, H⟩ := bo_ H
              obtain ⟨c79, H⟩ := ite_s H
              have LMc79 := as_ c79
              clear c79
              obtain ⟨y323, hy323⟩ := ex_ (x12_3 ++ [t322] : List Int)
              replace H : (impl_CombineAutomata.l1 k3 a2 t306 x44_2 y323 t306 (t306.length : Int) x44_2 t306 (t306.length : Int) (wrap64 (x52_3 + 1)) a0_0 l0_1 l0_2 a1_0 l1_1 l1_2 0 x310001_2 x310002_2 ((rd_T48 t306 x44_2).f0) ((rd_T48 t306 x44_2).f1)) = some (r1, r2, r3, r4) := yr_ hy323 H
              have Ny323 := as_ hy323
              clear hy323
              have H' := as_ H
              clear H
              have p315 : 0 ≤ (x52_3 : Int) := od_
              have q315 : x52_3 < (t306.length : Int) := od_
              obtain ⟨ad315, e315, hx315_0, hx315_1⟩ := at_T48 (Kd.R_reads' HO_50.out).2.2 x52_3 p315 q315
              obtain rfl : ad310 = ad315 := (by injection e315)
              replace p315 := eq_true p315
              replace q315 := eq_true q315
              try go_wp2_with (first | ((with_reducible refine gate_dst (N := 14) rfl ?_); refine bx_ 14 #[.int .i64 0, .int .i64 0] 48 ?_; intro gb316 hg w80 hbox hb; replace HO_8 := as_ (Kd.R_below (Kd.R_elderB (bR_ HO_8) gb316 (Nat.le_of_eq hg.symm)) hb); replace HO_12 := rb_ HO_12 hb; replace HO_42 := as_ (Kd.R_below (Kd.R_elderB (bR_ HO_42) gb316 (Nat.le_of_eq hg.symm)) hb); replace HO_50 := as_ (Kd.R_below (Kd.R_elderB (bR_ HO_50) gb316 (Nat.le_of_eq hg.symm)) hb); replace HO_310001 := sb_ HO_310001 hb; replace HO_310002 := rb_ HO_310002 hb; have BK316 := as_ (hbox); have GW316 := gz_ hg (b5_ HB GE301 GE302 GE303 GE309 GE311); have GE316 := GW316; replace HB := as_ (below_step (b5_ HB GE301 GE302 GE303 GE309 GE311) hb); have NB301_316 := nl_ hg (bk_ BK301); have NB316_301 := ng_ hg (bk_ BK301); replace BK301 := kb_ BK301 hb; have NB302_316 := nl_ hg (bk_ BK302); have NB316_302 := ng_ hg (bk_ BK302); replace BK302 := kb_ BK302 hb; have NB303_316 := nl_ hg (bk_ BK303); have NB316_303 := ng_ hg (bk_ BK303); replace BK303 := kb_ BK303 hb; have NB309_316 := nl_ hg (bk_ BK309); have NB316_309 := ng_ hg (bk_ BK309); replace BK309 := kb_ BK309 hb; have NB311_316 := nl_ hg (bk_ BK311); have NB316_311 := ng_ hg (bk_ BK311); replace BK311 := kb_ BK311 hb; clear hb hbox hg; have hnb81 := NB316_301.out; have hnc81 := NB301_316.out; have hnb82 := NB316_302.out; have hnc82 := NB302_316.out; have hnb83 := NB316_303.out; have hnc83 := NB303_316.out; have hnb84 := NB316_309.out; have hnc84 := NB309_316.out; have hnb85 := NB316_311.out; have hnc85 := NB311_316.out; obtain ⟨hcz86_0, hfz86_0, hcz86_1, hfz86_1⟩ := tc2_ BK316))
              have n0_ : Aside0 (Kd.R k48 48 ((w80.setCell ⟨gb316, 0, none⟩ (.int .i64 ((rd_T48 t306 x52_3).f0))).setCell ⟨gb316, 1, none⟩ (.int .i64 ((rd_T48 t306 x52_3).f1))) w.heap.size (fun k_ => k_ ≠ gb311 ∧ k_ ≠ gb316) (.slice (some ad310) t306.length co50) t306) := ⟨fR_ HO_8⟩; have n1_ : Aside0 (Kd.R (Kd.int .i64) 2 ((w80.setCell ⟨gb316, 0, none⟩ (.int .i64 ((rd_T48 t306 x52_3).f0))).setCell ⟨gb316, 1, none⟩ (.int .i64 ((rd_T48 t306 x52_3).f1))) w.heap.size (fun k_ => some k_ ≠ (u310002 : Value).ownBlock) u12 x12_3) := ⟨iR1_ HO_12 BK316⟩; have n2_ : Aside0 (Kd.R k48 48 ((w80.setCell ⟨gb316, 0, none⟩ (.int .i64 ((rd_T48 t306 x52_3).f0))).setCell ⟨gb316, 1, none⟩ (.int .i64 ((rd_T48 t306 x52_3).f1))) w.heap.size (fun k_ => k_ ≠ gb311 ∧ k_ ≠ gb316) (.slice (some ad310) t306.length co50) t306) := ⟨fR_ HO_42⟩; have n3_ : Aside0 (Kd.R k48 48 ((w80.setCell ⟨gb316, 0, none⟩ (.int .i64 ((rd_T48 t306 x52_3).f0))).setCell ⟨gb316, 1, none⟩ (.int .i64 ((rd_T48 t306 x52_3).f1))) w.heap.size (fun k_ => k_ ≠ gb311 ∧ k_ ≠ gb316) (.slice (some ad310) t306.length co50) t306) := ⟨fR_ HO_50⟩; have n4_ : Aside0 (Kd.S (Kd.slice 2 (Kd.int .i64)) 23 ((w80.setCell ⟨gb316, 0, none⟩ (.int .i64 ((rd_T48 t306 x52_3).f0))).setCell ⟨gb316, 1, none⟩ (.int .i64 ((rd_T48 t306 x52_3).f1))) w.heap.size (fun k_ => some k_ ≠ (u12 : Value).ownBlock ∧ some k_ ≠ (u310002 : Value).ownBlock) u310001 x310001_2) := ⟨fS1_ HO_310001 BK316⟩; have n5_ : Aside0 (Kd.R (Kd.int .i64) 2 ((w80.setCell ⟨gb316, 0, none⟩ (.int .i64 ((rd_T48 t306 x52_3).f0))).setCell ⟨gb316, 1, none⟩ (.int .i64 ((rd_T48 t306 x52_3).f1))) w.heap.size (fun k_ => some k_ ≠ (u12 : Value).ownBlock) u310002 x310002_2) := ⟨iR1_ HO_310002 BK316⟩; have n6_ : Aside0 (((w80.setCell ⟨gb316, 0, none⟩ (.int .i64 ((rd_T48 t306 x52_3).f0))).setCell ⟨gb316, 1, none⟩ (.int .i64 ((rd_T48 t306 x52_3).f1))).heap[gb301]? = some (.cells #[.int .i64 a0_0, .slice A0_1 l0_1.length c0_1, .slice A0_2 l0_2.length c0_2] 29 (0, 0))) := ⟨bf_ BK301 NB301_316⟩; have n7_ : Aside0 (((w80.setCell ⟨gb316, 0, none⟩ (.int .i64 ((rd_T48 t306 x52_3).f0))).setCell ⟨gb316, 1, none⟩ (.int .i64 ((rd_T48 t306 x52_3).f1))).heap[gb302]? = some (.cells #[.int .i64 a1_0, .slice A1_1 l1_1.length c1_1, .slice A1_2 l1_2.length c1_2] 29 (0, 0))) := ⟨bf_ BK302 NB302_316⟩; have n8_ : Aside0 (((w80.setCell ⟨gb316, 0, none⟩ (.int .i64 ((rd_T48 t306 x52_3).f0))).setCell ⟨gb316, 1, none⟩ (.int .i64 ((rd_T48 t306 x52_3).f1))).heap[gb303]? = some (.cells #[.int .i64 0, .slice none 0 0, .slice none 0 0] 29 (0, 0))) := ⟨bf_ BK303 NB303_316⟩; have n9_ : Aside0 (((w80.setCell ⟨gb316, 0, none⟩ (.int .i64 ((rd_T48 t306 x52_3).f0))).setCell ⟨gb316, 1, none⟩ (.int .i64 ((rd_T48 t306 x52_3).f1))).heap[gb309]? = some (.cells #[.int .i64 0, u310001, u310002] 29 (0, 0))) := ⟨bf_ BK309 NB309_316⟩; have n10_ : Aside0 (((w80.setCell ⟨gb316, 0, none⟩ (.int .i64 ((rd_T48 t306 x52_3).f0))).setCell ⟨gb316, 1, none⟩ (.int .i64 ((rd_T48 t306 x52_3).f1))).heap[gb311]? = some (.cells #[.int .i64 ((rd_T48 t306 x44_2).f0), .int .i64 ((rd_T48 t306 x44_2).f1)] 48 (0, 0))) := ⟨bf_ BK311 NB311_316⟩; have n11_ : Aside0 (((w80.setCell ⟨gb316, 0, none⟩ (.int .i64 ((rd_T48 t306 x52_3).f0))).setCell ⟨gb316, 1, none⟩ (.int .i64 ((rd_T48 t306 x52_3).f1))).heap[gb316]? = some (.cells #[.int .i64 ((rd_T48 t306 x52_3).f0), .int .i64 ((rd_T48 t306 x52_3).f1)] 48 (0, 0))) := ⟨bp_ BK316⟩; have n12_ : Aside0 (Below w.heap.size w ((w80.setCell ⟨gb316, 0, none⟩ (.int .i64 ((rd_T48 t306 x52_3).f0))).setCell ⟨gb316, 1, none⟩ (.int .i64 ((rd_T48 t306 x52_3).f1)))) := ⟨b6_ HB GE301 GE302 GE303 GE309 GE311 GE316⟩
              (try clear HO_8)
              (try clear HO_12)
              (try clear HO_42)
              (try clear HO_50)
              (try clear HO_310001)
              (try clear HO_310002)
              (try clear BK301)
              (try clear BK302)
              (try clear BK303)
              (try clear BK309)
              (try clear BK311)
              (try clear BK316)
              (try clear HB)
              generalize ((w80.setCell ⟨gb316, 0, none⟩ (.int .i64 ((rd_T48 t306 x52_3).f0))).setCell ⟨gb316, 1, none⟩ (.int .i64 ((rd_T48 t306 x52_3).f1))) = w87 at n0_ n1_ n2_ n3_ n4_ n5_ n6_ n7_ n8_ n9_ n10_ n11_ n12_ ⊢
              have HO_8 := n0_
              have HO_12 := n1_
              have HO_42 := n2_
              have HO_50 := n3_
              have HO_310001 := n4_
              have HO_310002 := n5_
              have BK301 := n6_
              have BK302 := n7_
              have BK303 := n8_
              have BK309 := n9_
              have BK311 := n10_
              have BK316 := n11_
              have HB := n12_
              clear n0_ n1_ n2_ n3_ n4_ n5_ n6_ n7_ n8_ n9_ n10_ n11_ n12_
              replace HO_8 := dR_ HO_8; replace HO_12 := dR_ HO_12; replace HO_42 := dR_ HO_42; replace HO_50 := dR_ HO_50; replace HO_310001 := dS_ HO_310001; replace HO_310002 := dR_ HO_310002; replace BK301 := dk_ BK301; replace BK302 := dk_ BK302; replace BK303 := dk_ BK303; replace BK309 := dk_ BK309; replace BK311 := dk_ BK311; replace BK316 := dk_ BK316; replace HB := db_ HB
              have p317 : 0 ≤ (((rd_T48 t306 x44_2).f0) : Int) := od_
              have q317 : ((rd_T48 t306 x44_2).f0) < (l0_1.length : Int) := od_
              obtain ⟨ad317, A317_0, c317_0, e317, hx317_0, hl317_0, hi317_0⟩ := at_L1 HR0_1.out ((rd_T48 t306 x44_2).f0) p317 q317
              have hw317_0 := hx317_0
              cases e317
              try replace hx317_0 := hx_ HB hx317_0
              have HR317_0 := as_ hi317_0
              have HC317_0 := as_ hl317_0
              clear hi317_0 hl317_0
              replace p317 := eq_true p317
              replace q317 := eq_true q317
              have p318 : 0 ≤ (((rd_T48 t306 x52_3).f0) : Int) := od_
              have q318 : ((rd_T48 t306 x52_3).f0) < ((rd_L1 l0_1 ((rd_T48 t306 x44_2).f0)).length : Int) := od_
              obtain ⟨ad318, e318, hx318_0⟩ := Kd.at_int HR317_0.out ((rd_T48 t306 x52_3).f0) p318 q318
              have hw318_0 := hx318_0
              cases e318
              try replace hx318_0 := hx_ HB hx318_0
              replace p318 := eq_true p318
              replace q318 := eq_true q318
              have p319 : 0 ≤ (((rd_T48 t306 x44_2).f1) : Int) := od_
              have q319 : ((rd_T48 t306 x44_2).f1) < (l1_1.length : Int) := od_
              obtain ⟨ad319, A319_0, c319_0, e319, hx319_0, hl319_0, hi319_0⟩ := at_L1 HR1_1.out ((rd_T48 t306 x44_2).f1) p319 q319
              have hw319_0 := hx319_0
              cases e319
              try replace hx319_0 := hx_ HB hx319_0
              have HR319_0 := as_ hi319_0
              have HC319_0 := as_ hl319_0
              clear hi319_0 hl319_0
              replace p319 := eq_true p319
              replace q319 := eq_true q319
              have p320 : 0 ≤ (((rd_T48 t306 x52_3).f1) : Int) := od_
              have q320 : ((rd_T48 t306 x52_3).f1) < ((rd_L1 l1_1 ((rd_T48 t306 x44_2).f1)).length : Int) := od_
              obtain ⟨ad320, e320, hx320_0⟩ := Kd.at_int HR319_0.out ((rd_T48 t306 x52_3).f1) p320 q320
              have hw320_0 := hx320_0
              cases e320
              try replace hx320_0 := hx_ HB hx320_0
              replace p320 := eq_true p320
              replace q320 := eq_true q320
              refine start_ (n := 23) (S := fun w' => w'.cell? ⟨gb301, 0, none⟩ = some (.int .i64 a0_0) ∧ w'.cell? ⟨gb301, 1, none⟩ = some (.slice (some ad317) l0_1.length c0_1) ∧ w'.cell? ⟨gb301, 2, none⟩ = some (.slice A0_2 l0_2.length c0_2) ∧ w'.cell? ⟨gb311, 0, none⟩ = some (.int .i64 ((rd_T48 t306 x44_2).f0)) ∧ w'.cell? ⟨gb311, 1, none⟩ = some (.int .i64 ((rd_T48 t306 x44_2).f1)) ∧ w'.cell? ⟨gb316, 0, none⟩ = some (.int .i64 ((rd_T48 t306 x52_3).f0)) ∧ w'.cell? ⟨gb316, 1, none⟩ = some (.int .i64 ((rd_T48 t306 x52_3).f1)) ∧ w'.cell? ⟨gb302, 0, none⟩ = some (.int .i64 a1_0) ∧ w'.cell? ⟨gb302, 1, none⟩ = some (.slice (some ad319) l1_1.length c1_1) ∧ w'.cell? ⟨gb302, 2, none⟩ = some (.slice A1_2 l1_2.length c1_2) ∧ w'.cell? (ad317.add (((rd_T48 t306 x44_2).f0)).toNat) = some (.slice (some ad318) (rd_L1 l0_1 ((rd_T48 t306 x44_2).f0)).length c317_0) ∧ w'.cell? (ad318.add (((rd_T48 t306 x52_3).f0)).toNat) = some (.int .i64 (rd (rd_L1 l0_1 ((rd_T48 t306 x44_2).f0)) ((rd_T48 t306 x52_3).f0))) ∧ w'.cell? (ad319.add (((rd_T48 t306 x44_2).f1)).toNat) = some (.slice (some ad320) (rd_L1 l1_1 ((rd_T48 t306 x44_2).f1)).length c319_0) ∧ w'.cell? (ad320.add (((rd_T48 t306 x52_3).f1)).toNat) = some (.int .i64 (rd (rd_L1 l1_1 ((rd_T48 t306 x44_2).f1)) ((rd_T48 t306 x52_3).f1)))) (ds := []) #[false, false, false, false, false, false, false, false, false, false, false, false, false, false, false, false, false, false, false, false, false, false, false] (by kernel_rfl) rfl rfl ⟨tz_ BK301 0, tz_ BK301 1, tz_ BK301 2, tz_ BK311 0, tz_ BK311 1, tz_ BK316 0, tz_ BK316 1, tz_ BK302 0, tz_ BK302 1, tz_ BK302 2, ((HB.out.cell (World.block_lt_of_cell? w _ hw317_0)).trans hw317_0), ((HB.out.cell (World.block_lt_of_cell? w _ hw318_0)).trans hw318_0), ((HB.out.cell (World.block_lt_of_cell? w _ hw319_0)).trans hw319_0), ((HB.out.cell (World.block_lt_of_cell? w _ hw320_0)).trans hw320_0)⟩ (fun hHeld => ?_); refine with_tabW impl_CombineAutomata.tab16 impl_CombineAutomata.bits16 (fun HT_ HW_ => ?_)
              generalize w87.drew = w88 at HO_8 HO_12 HO_42 HO_50 HO_310001 HO_310002 BK301 BK302 BK303 BK309 BK311 BK316 HB HR317_0 HR319_0 hx317_0 hx318_0 hx319_0 hx320_0 hHeld ⊢
              refine pu_ 0 56 HT_ ?_
              refine pu_ 2 58 HT_ ?_
              refine pu_ 6 62 HT_ ?_
              refine pu_ 10 66 HT_ ?_
              refine pu_ 12 68 HT_ ?_
              refine pu_ 16 72 HT_ ?_
              refine tk_ 1 57 HT_ HW_ hHeld ?_
              refine tk_ 3 59 HT_ HW_ hHeld ?_
              refine pu_ 4 60 HT_ ?_
              refine tk_ 5 61 HT_ HW_ hHeld ?_
              refine tk_ 7 63 HT_ HW_ hHeld ?_
              refine pu_ 8 64 HT_ ?_
              refine tk_ 9 65 HT_ HW_ hHeld ?_
              refine tk_ 11 67 HT_ HW_ hHeld ?_
              refine tk_ 13 69 HT_ HW_ hHeld ?_
              refine pu_ 14 70 HT_ ?_
              refine tk_ 15 71 HT_ HW_ hHeld ?_
              refine tk_ 17 73 HT_ HW_ hHeld ?_
              refine pu_ 18 74 HT_ ?_
              refine tk_ 19 75 HT_ HW_ hHeld ?_
              refine pu_ 20 76 HT_ ?_
              refine on_ 21 (some 15) HT_ fun K hK => ?_
              refine box_step ?hg (N := 15) ?hd (cs := #[.int .i64 0, .int .i64 0]) (t := 48) ?hr ?_; (case hd => rfl); (case hg => rfl); (case hr => first | (go_simp; done) | (go_simp; rfl))
              intro gb321 hg w89 hbox hb
              replace HO_8 := as_ (Kd.R_below (Kd.R_elderB (bR_ HO_8) gb321 (Nat.le_of_eq hg.symm)) hb); replace HO_12 := rb_ HO_12 hb; replace HO_42 := as_ (Kd.R_below (Kd.R_elderB (bR_ HO_42) gb321 (Nat.le_of_eq hg.symm)) hb); replace HO_50 := as_ (Kd.R_below (Kd.R_elderB (bR_ HO_50) gb321 (Nat.le_of_eq hg.symm)) hb); replace HO_310001 := sb_ HO_310001 hb; replace HO_310002 := rb_ HO_310002 hb; have BK321 := as_ (hbox); have GW321 := gz_ hg (b6_ HB GE301 GE302 GE303 GE309 GE311 GE316); have GE321 := gz_ hg (b6_ HB GE301 GE302 GE303 GE309 GE311 GE316); replace HB := as_ (below_step (b6_ HB GE301 GE302 GE303 GE309 GE311 GE316) hb); have NB301_321 := nl_ hg (bk_ BK301); have NB321_301 := ng_ hg (bk_ BK301); replace BK301 := kb_ BK301 hb; have NB302_321 := nl_ hg (bk_ BK302); have NB321_302 := ng_ hg (bk_ BK302); replace BK302 := kb_ BK302 hb; have NB303_321 := nl_ hg (bk_ BK303); have NB321_303 := ng_ hg (bk_ BK303); replace BK303 := kb_ BK303 hb; have NB309_321 := nl_ hg (bk_ BK309); have NB321_309 := ng_ hg (bk_ BK309); replace BK309 := kb_ BK309 hb; have NB311_321 := nl_ hg (bk_ BK311); have NB321_311 := ng_ hg (bk_ BK311); replace BK311 := kb_ BK311 hb; have NB316_321 := nl_ hg (bk_ BK316); have NB321_316 := ng_ hg (bk_ BK316); replace BK316 := kb_ BK316 hb; clear hb hbox hg
              refine hK.out _ _ ⟨tz_ BK301 0, tz_ BK301 1, tz_ BK301 2, tz_ BK311 0, tz_ BK311 1, tz_ BK316 0, tz_ BK316 1, tz_ BK302 0, tz_ BK302 1, tz_ BK302 2, ((HB.out.cell (World.block_lt_of_cell? w _ hw317_0)).trans hw317_0), ((HB.out.cell (World.block_lt_of_cell? w _ hw318_0)).trans hw318_0), ((HB.out.cell (World.block_lt_of_cell? w _ hw319_0)).trans hw319_0), ((HB.out.cell (World.block_lt_of_cell? w _ hw320_0)).trans hw320_0)⟩ (fun hHeld => ?_)
              clear hK K
              refine nm_ 15 ?_
              refine on_ 22 none HT_ fun K hK => ?_
              have hs90 : w89.cell? ⟨gb321, 0, none⟩ = some (.int .i64 0) := (blk_cell BK321.out 0).trans rfl
              have hfs90 := blk_frozen BK321.out 0
              have hns90_0 := NB301_321.out
              have hns90_1 := NB302_321.out
              have hns90_2 := NB303_321.out
              have hns90_3 := NB309_321.out
              have hns90_4 := NB311_321.out
              have hns90_5 := NB316_321.out
              have hms90_0 := NB321_301.out
              have hms90_1 := NB321_302.out
              have hms90_2 := NB321_303.out
              have hms90_3 := NB321_309.out
              have hms90_4 := NB321_311.out
              have hms90_5 := NB321_316.out
              have hs91 : w89.cell? ⟨gb321, 1, none⟩ = some (.int .i64 0) := (blk_cell BK321.out 1).trans rfl
              have hfs91 := blk_frozen BK321.out 1
              have hns91_0 := NB301_321.out
              have hns91_1 := NB302_321.out
              have hns91_2 := NB303_321.out
              have hns91_3 := NB309_321.out
              have hns91_4 := NB311_321.out
              have hns91_5 := NB316_321.out
              have hms91_0 := NB321_301.out
              have hms91_1 := NB321_302.out
              have hms91_2 := NB321_303.out
              have hms91_3 := NB321_309.out
              have hms91_4 := NB321_311.out
              have hms91_5 := NB321_316.out
              refine skip_ (w1 := ?_) (by rfl) rfl ?_ ?_
              rotate_left
              · go_simp
                rfl
              refine hK.out _ _ ⟨((cell_far (p := ⟨gb321, _, none⟩) NB301_321.out _).trans (((cell_far (p := ⟨gb321, _, none⟩) NB301_321.out _).trans (hHeld.1)))), ((cell_far (p := ⟨gb321, _, none⟩) NB301_321.out _).trans (((cell_far (p := ⟨gb321, _, none⟩) NB301_321.out _).trans (hHeld.2.1)))), ((cell_far (p := ⟨gb321, _, none⟩) NB301_321.out _).trans (((cell_far (p := ⟨gb321, _, none⟩) NB301_321.out _).trans (hHeld.2.2.1)))), ((cell_far (p := ⟨gb321, _, none⟩) NB311_321.out _).trans (((cell_far (p := ⟨gb321, _, none⟩) NB311_321.out _).trans (hHeld.2.2.2.1)))), ((cell_far (p := ⟨gb321, _, none⟩) NB311_321.out _).trans (((cell_far (p := ⟨gb321, _, none⟩) NB311_321.out _).trans (hHeld.2.2.2.2.1)))), ((cell_far (p := ⟨gb321, _, none⟩) NB316_321.out _).trans (((cell_far (p := ⟨gb321, _, none⟩) NB316_321.out _).trans (hHeld.2.2.2.2.2.1)))), ((cell_far (p := ⟨gb321, _, none⟩) NB316_321.out _).trans (((cell_far (p := ⟨gb321, _, none⟩) NB316_321.out _).trans (hHeld.2.2.2.2.2.2.1)))), ((cell_far (p := ⟨gb321, _, none⟩) NB302_321.out _).trans (((cell_far (p := ⟨gb321, _, none⟩) NB302_321.out _).trans (hHeld.2.2.2.2.2.2.2.1)))), ((cell_far (p := ⟨gb321, _, none⟩) NB302_321.out _).trans (((cell_far (p := ⟨gb321, _, none⟩) NB302_321.out _).trans (hHeld.2.2.2.2.2.2.2.2.1)))), ((cell_far (p := ⟨gb321, _, none⟩) NB302_321.out _).trans (((cell_far (p := ⟨gb321, _, none⟩) NB302_321.out _).trans (hHeld.2.2.2.2.2.2.2.2.2.1)))), ((cell_far (p := ⟨gb321, _, none⟩) (by first | exact Nat.ne_of_lt (Nat.lt_of_lt_of_le (by have := World.block_lt_of_cell? _ _ hw317_0; first | rwa [add_block] at this | exact this) GW321.out) | (rw [add_block]; exact Nat.ne_of_lt (Nat.lt_of_lt_of_le (by have := World.block_lt_of_cell? _ _ hw317_0; first | rwa [add_block] at this | exact this) GW321.out)) | (show (Addr.add _ _).block ≠ _; rw [add_block]; exact Nat.ne_of_lt (Nat.lt_of_lt_of_le (by have := World.block_lt_of_cell? _ _ hw317_0; first | rwa [add_block] at this | exact this) GW321.out)) | (dsimp only; exact Nat.ne_of_lt (Nat.lt_of_lt_of_le (by have := World.block_lt_of_cell? _ _ hw317_0; first | rwa [add_block] at this | exact this) GW321.out))) _).trans (((cell_far (p := ⟨gb321, _, none⟩) (by first | exact Nat.ne_of_lt (Nat.lt_of_lt_of_le (by have := World.block_lt_of_cell? _ _ hw317_0; first | rwa [add_block] at this | exact this) GW321.out) | (rw [add_block]; exact Nat.ne_of_lt (Nat.lt_of_lt_of_le (by have := World.block_lt_of_cell? _ _ hw317_0; first | rwa [add_block] at this | exact this) GW321.out)) | (show (Addr.add _ _).block ≠ _; rw [add_block]; exact Nat.ne_of_lt (Nat.lt_of_lt_of_le (by have := World.block_lt_of_cell? _ _ hw317_0; first | rwa [add_block] at this | exact this) GW321.out)) | (dsimp only; exact Nat.ne_of_lt (Nat.lt_of_lt_of_le (by have := World.block_lt_of_cell? _ _ hw317_0; first | rwa [add_block] at this | exact this) GW321.out))) _).trans (hHeld.2.2.2.2.2.2.2.2.2.2.1)))), ((cell_far (p := ⟨gb321, _, none⟩) (by first | exact Nat.ne_of_lt (Nat.lt_of_lt_of_le (by have := World.block_lt_of_cell? _ _ hw318_0; first | rwa [add_block] at this | exact this) GW321.out) | (rw [add_block]; exact Nat.ne_of_lt (Nat.lt_of_lt_of_le (by have := World.block_lt_of_cell? _ _ hw318_0; first | rwa [add_block] at this | exact this) GW321.out)) | (show (Addr.add _ _).block ≠ _; rw [add_block]; exact Nat.ne_of_lt (Nat.lt_of_lt_of_le (by have := World.block_lt_of_cell? _ _ hw318_0; first | rwa [add_block] at this | exact this) GW321.out)) | (dsimp only; exact Nat.ne_of_lt (Nat.lt_of_lt_of_le (by have := World.block_lt_of_cell? _ _ hw318_0; first | rwa [add_block] at this | exact this) GW321.out))) _).trans (((cell_far (p := ⟨gb321, _, none⟩) (by first | exact Nat.ne_of_lt (Nat.lt_of_lt_of_le (by have := World.block_lt_of_cell? _ _ hw318_0; first | rwa [add_block] at this | exact this) GW321.out) | (rw [add_block]; exact Nat.ne_of_lt (Nat.lt_of_lt_of_le (by have := World.block_lt_of_cell? _ _ hw318_0; first | rwa [add_block] at this | exact this) GW321.out)) | (show (Addr.add _ _).block ≠ _; rw [add_block]; exact Nat.ne_of_lt (Nat.lt_of_lt_of_le (by have := World.block_lt_of_cell? _ _ hw318_0; first | rwa [add_block] at this | exact this) GW321.out)) | (dsimp only; exact Nat.ne_of_lt (Nat.lt_of_lt_of_le (by have := World.block_lt_of_cell? _ _ hw318_0; first | rwa [add_block] at this | exact this) GW321.out))) _).trans (hHeld.2.2.2.2.2.2.2.2.2.2.2.1)))), ((cell_far (p := ⟨gb321, _, none⟩) (by first | exact Nat.ne_of_lt (Nat.lt_of_lt_of_le (by have := World.block_lt_of_cell? _ _ hw319_0; first | rwa [add_block] at this | exact this) GW321.out) | (rw [add_block]; exact Nat.ne_of_lt (Nat.lt_of_lt_of_le (by have := World.block_lt_of_cell? _ _ hw319_0; first | rwa [add_block] at this | exact this) GW321.out)) | (show (Addr.add _ _).block ≠ _; rw [add_block]; exact Nat.ne_of_lt (Nat.lt_of_lt_of_le (by have := World.block_lt_of_cell? _ _ hw319_0; first | rwa [add_block] at this | exact this) GW321.out)) | (dsimp only; exact Nat.ne_of_lt (Nat.lt_of_lt_of_le (by have := World.block_lt_of_cell? _ _ hw319_0; first | rwa [add_block] at this | exact this) GW321.out))) _).trans (((cell_far (p := ⟨gb321, _, none⟩) (by first | exact Nat.ne_of_lt (Nat.lt_of_lt_of_le (by have := World.block_lt_of_cell? _ _ hw319_0; first | rwa [add_block] at this | exact this) GW321.out) | (rw [add_block]; exact Nat.ne_of_lt (Nat.lt_of_lt_of_le (by have := World.block_lt_of_cell? _ _ hw319_0; first | rwa [add_block] at this | exact this) GW321.out)) | (show (Addr.add _ _).block ≠ _; rw [add_block]; exact Nat.ne_of_lt (Nat.lt_of_lt_of_le (by have := World.block_lt_of_cell? _ _ hw319_0; first | rwa [add_block] at this | exact this) GW321.out)) | (dsimp only; exact Nat.ne_of_lt (Nat.lt_of_lt_of_le (by have := World.block_lt_of_cell? _ _ hw319_0; first | rwa [add_block] at this | exact this) GW321.out))) _).trans (hHeld.2.2.2.2.2.2.2.2.2.2.2.2.1)))), ((cell_far (p := ⟨gb321, _, none⟩) (by first | exact Nat.ne_of_lt (Nat.lt_of_lt_of_le (by have := World.block_lt_of_cell? _ _ hw320_0; first | rwa [add_block] at this | exact this) GW321.out) | (rw [add_block]; exact Nat.ne_of_lt (Nat.lt_of_lt_of_le (by have := World.block_lt_of_cell? _ _ hw320_0; first | rwa [add_block] at this | exact this) GW321.out)) | (show (Addr.add _ _).block ≠ _; rw [add_block]; exact Nat.ne_of_lt (Nat.lt_of_lt_of_le (by have := World.block_lt_of_cell? _ _ hw320_0; first | rwa [add_block] at this | exact this) GW321.out)) | (dsimp only; exact Nat.ne_of_lt (Nat.lt_of_lt_of_le (by have := World.block_lt_of_cell? _ _ hw320_0; first | rwa [add_block] at this | exact this) GW321.out))) _).trans (((cell_far (p := ⟨gb321, _, none⟩) (by first | exact Nat.ne_of_lt (Nat.lt_of_lt_of_le (by have := World.block_lt_of_cell? _ _ hw320_0; first | rwa [add_block] at this | exact this) GW321.out) | (rw [add_block]; exact Nat.ne_of_lt (Nat.lt_of_lt_of_le (by have := World.block_lt_of_cell? _ _ hw320_0; first | rwa [add_block] at this | exact this) GW321.out)) | (show (Addr.add _ _).block ≠ _; rw [add_block]; exact Nat.ne_of_lt (Nat.lt_of_lt_of_le (by have := World.block_lt_of_cell? _ _ hw320_0; first | rwa [add_block] at this | exact this) GW321.out)) | (dsimp only; exact Nat.ne_of_lt (Nat.lt_of_lt_of_le (by have := World.block_lt_of_cell? _ _ hw320_0; first | rwa [add_block] at this | exact this) GW321.out))) _).trans (hHeld.2.2.2.2.2.2.2.2.2.2.2.2.2))))⟩ (fun hHeld => ?_)
              clear hK K
              refine dn_ HT_ ?_
              have hnb92 := NB321_301.out
              have hnc92 := NB301_321.out
              have hnb93 := NB321_302.out
              have hnc93 := NB302_321.out
              have hnb94 := NB321_303.out
              have hnc94 := NB303_321.out
              have hnb95 := NB321_309.out
              have hnc95 := NB309_321.out
              have hnb96 := NB321_311.out
              have hnc96 := NB311_321.out
              have hnb97 := NB321_316.out
              have hnc97 := NB316_321.out
              obtain ⟨hcz98_0, hfz98_0, hcz98_1, hfz98_1⟩ := tc2_ BK321
              try go_wp2_with (first | ((with_reducible refine gate_callee (f := 28) rfl ?_); refine gL_ 80 Try.func28 #[.slice (some ad310) t306.length co50, .agg #[.int .i64 (rd (rd_L1 l0_1 ((rd_T48 t306 x44_2).f0)) ((rd_T48 t306 x52_3).f0)), .int .i64 (rd (rd_L1 l1_1 ((rd_T48 t306 x44_2).f1)) ((rd_T48 t306 x52_3).f1))]] ?_; (with_reducible refine (impl_couple_28.calls k3 _ _ t306 (rd (rd_L1 l0_1 ((rd_T48 t306 x44_2).f0)) ((rd_T48 t306 x52_3).f0)) (rd (rd_L1 l1_1 ((rd_T48 t306 x44_2).f1)) ((rd_T48 t306 x52_3).f1)) t322 _ ?side1 ?side2 A78.out).mono ?_); (case side1 => exact rR_ HO_8); (case side2 => exact (Kd.R_reads' HO_8.out).2.1); rintro e w99 ⟨rfl, hb⟩; refine ⟨_, rfl, ?_⟩; replace HO_8 := as_ (Kd.R_below (iR_ HO_8) hb); replace HO_12 := as_ (Kd.R_below (iR1_ HO_12 BK321) hb); replace HO_42 := as_ (Kd.R_below (iR_ HO_42) hb); replace HO_50 := as_ (Kd.R_below (iR_ HO_50) hb); replace HO_310001 := as_ (Kd.S_below (iS1_ HO_310001 BK321) hb); replace HO_310002 := as_ (Kd.R_below (iR1_ HO_310002 BK321) hb); replace BK301 := as_ (blk_below (bf_ BK301 NB301_321) hb); replace BK302 := as_ (blk_below (bf_ BK302 NB302_321) hb); replace BK303 := as_ (blk_below (bf_ BK303 NB303_321) hb); replace BK309 := as_ (blk_below (bf_ BK309 NB309_321) hb); replace BK311 := as_ (blk_below (bf_ BK311 NB311_321) hb); replace BK316 := as_ (blk_below (bf_ BK316 NB316_321) hb); replace BK321 := as_ (blk_below (g := gb321) (o := .cells #[.int .i64 (rd (rd_L1 l0_1 ((rd_T48 t306 x44_2).f0)) ((rd_T48 t306 x52_3).f0)), .int .i64 (rd (rd_L1 l1_1 ((rd_T48 t306 x44_2).f1)) ((rd_T48 t306 x52_3).f1))] 48 (0, 0)) (bp_ BK321) hb); replace HB := as_ (below_step (b7_ HB GE301 GE302 GE303 GE309 GE311 GE316 GE321) hb); clear hb) | ((with_reducible refine gate_builtin (b := .append) (xs := #[.tmp 77, .tmp 81]) rfl ?_); at_builtin; refine Kd.R_append (Kd.int .i64) (w0 := w) w.heap.size rfl (.tmp 77) (.tmp 81) 23 2 (.int .i64 0) 8 rfl Try.underlying23 info2 rfl (by decide) (by omega) u12 x12_3 t322 [.int .i64 t322] (fun k_ => some k_ ≠ (u310002 : Value).ownBlock) (fun _ => False) rfl rfl ?aP (fun _ hk => hk.elim) ?aF ?aO ?aB ?aS ?aL ?_; (case aP => exact rfl); (case aB => exact (b7_ HB GE301 GE302 GE303 GE309 GE311 GE316 GE321)); (case aF => exact (fun k_ hk => Kd.fresh' (Kd.R_lt (bR_ HO_310002)) k_ hk)); (case aO => exact (bR_ HO_12)); (case aS => exact (below_size (b7_ HB GE301 GE302 GE303 GE309 GE311 GE316 GE321))); (case aL => have := LMc79.out; omega); intro v324 w100 ho hb hg hat; rw [← Ny323.out] at ho; replace HO_8 := as_ (Kd.R_over' (bR_ HO_8) (Kd.R_typed (bR_ HO_12)) (by decide) hg); replace HO_42 := as_ (Kd.R_over' (bR_ HO_42) (Kd.R_typed (bR_ HO_12)) (by decide) hg); replace HO_50 := as_ (Kd.R_over' (bR_ HO_50) (Kd.R_typed (bR_ HO_12)) (by decide) hg); replace HO_310001 := as_ (Kd.S_after (ok := (fun k_ => some k_ ≠ (u310002 : Value).ownBlock)) (fS_ HO_310001) hg hat); replace HO_310002 := as_ (Kd.R_after (ok := (fun _ => True)) (fR_ HO_310002) hg hat); replace BK301 := as_ (blk_grown (bk_ BK301) hg (Kd.R_ne HO_12.out BK301.out (by decide))); replace BK302 := as_ (blk_grown (bk_ BK302) hg (Kd.R_ne HO_12.out BK302.out (by decide))); replace BK303 := as_ (blk_grown (bk_ BK303) hg (Kd.R_ne HO_12.out BK303.out (by decide))); replace BK309 := as_ (blk_grown (bk_ BK309) hg (Kd.R_ne HO_12.out BK309.out (by decide))); replace BK311 := as_ (blk_grown (bk_ BK311) hg (Kd.R_ne HO_12.out BK311.out (by decide))); replace BK316 := as_ (blk_grown (bk_ BK316) hg (Kd.R_ne HO_12.out BK316.out (by decide))); replace BK321 := as_ (blk_grown (bk_ BK321) hg (Kd.R_ne HO_12.out BK321.out (by decide))); replace HB := as_ (hb); have HO325 := as_ (ho); clear HO_12; clear ho hb hg hat))
              go_roundg k3
              case measure => have := HJ3.out; have := HK2.out; have := HK3.out; omega
              case rel => exact ⟨(y323), (wrap64 (x52_3 + 1)), rf_, H', ⟨by have := HJ3.out; have := HK2.out; have := HK3.out; omega⟩, ⟨fR_ HO_8⟩, ⟨bR_ HO325⟩, ⟨fR_ HO_42⟩, ⟨fR_ HO_50⟩, ⟨fS_ HO_310001⟩, ⟨fR_ HO_310002⟩, ⟨bk_ BK301⟩, ⟨bk_ BK302⟩, ⟨bk_ BK303⟩, ⟨bk_ BK309⟩, ⟨bk_ BK311⟩, ⟨b7_ HB GE301 GE302 GE303 GE309 GE311 GE316 GE321⟩⟩

def laws_markInt64S.l0 : Nat → List Int → Int → Int → Option (Int × List Int)
  | 0, _, _, _ => none
  | k + 1, x0, x1, x5 => if x5 < (x0.length : Int) then (if 0 ≤ x5 then (laws_markInt64S.l0 k (x0.set (x5 : Int).toNat x1) (wrap64 (x1 + 1)) (wrap64 (x5 + 1))) else (none)) else (some (x1, x0))
def laws_markInt64S.f (k : Nat) (l0 : List Int) (a1 : Int) : Option (Int × List Int) := laws_markInt64S.l0 k l0 a1 0
set_option maxHeartbeats 8000000 in
set_option maxRecDepth 100000 in
theorem laws_markInt64S.calls (k : Nat) (P0_ : Nat → Prop) (u9000_ : Value) (l0 : List Int) (a1 : Int) (r1 : Int) (r2 : List Int) (w0 w : World) (hB : Below w0.heap.size w0 w) (ho0 : Kd.R (Kd.int .i64) 2 w w0.heap.size P0_ u9000_ l0) (h : laws_markInt64S.f k l0 a1 = some (r1, r2)) :
    Calls Try.prog 30 #[u9000_, .int .i64 a1] w fun e w' => e = .returned (.int .i64 r1) ∧ Kd.R (Kd.int .i64) 2 w' w0.heap.size (fun k_ => (P0_ k_ ∨ w.heap.size ≤ k_)) u9000_ r2 ∧ Below w0.heap.size w0 w' ∧ Kept w w' (fun k_ => P0_ k_) := by
  have HO0 := as_ (show Kd.R (Kd.int .i64) 2 w w0.heap.size (fun k_ => (P0_ k_ ∨ w.heap.size ≤ k_)) u9000_ l0 from Kd.R_mono ho0 (fun k_ hk => (.inl hk)))
  have HK := as_ (Kept.refl w (fun k_ => P0_ k_))
  have HW0 := as_ hB.size
  have HB := as_ hB
  clear hB
  have H : (laws_markInt64S.l0 k l0 a1 0) = some (r1, r2) := h
  clear h
  have H' := as_ H
  clear H
  go_enter Try.func30, Try.ntmps30
  go_wp2
  go_loopg [1, 5] k (fun kq v1 v5 w' => ∃ (x0_1 : List Int) (x1_1 : Int) (x5_1 : Int), v1 = .int .i64 x1_1 ∧ v5 = .int .i64 x5_1 ∧ Aside0 (laws_markInt64S.l0 kq x0_1 x1_1 x5_1 = some (r1, r2)) ∧ Aside0 (kq ≤ k) ∧ Aside0 (Kd.R (Kd.int .i64) 2 w' w0.heap.size (fun k_ => (P0_ k_ ∨ w.heap.size ≤ k_)) u9000_ x0_1) ∧ Aside0 (Kept w w' (fun k_ => P0_ k_)) ∧ Aside0 (Below w0.heap.size w0 w'))
  case atStart => exact ⟨(l0), (a1), (0), rf_, rf_, H', ⟨Nat.le_refl _⟩, ⟨bR_ HO0⟩, ⟨kp_ HK⟩, ⟨b_ HB⟩⟩
  case round =>
    clear H'
    try clear p2
    obtain ⟨x0_1, x1_1, x5_1, rfl, rfl, HA, HK1, HO_0, HK, HB⟩ := hrel
    cases gk with
    | zero => exact absurd HA.out (by simp [laws_markInt64S.l0])
    | succ k1 =>
      have H := HA.out
      clear HA
      simp only [laws_markInt64S.l0] at H
      by_cases c3 : x5_1 < (x0_1.length : Int)
      rotate_left
      · rw [if_neg c3] at H
        have c3b0 := decide_eq_false c3
        clear c3
        simp only [Option.some.injEq, Prod.mk.injEq] at H
        obtain ⟨rfl, rfl⟩ := H
        obtain ⟨Ao9, co9, eo9⟩ := Kd.R_slice HO_0.out
        subst eo9
        go_wp2
        go_ret
        exact ⟨re_, bR_ HO_0, b_ HB, kp_ HK⟩
      rw [if_pos c3] at H
      have c3b0 := decide_eq_true c3
      clear c3
      obtain ⟨c4b0, H⟩ := ite_d H
      obtain ⟨y333, hy333⟩ := ex_ (x0_1.set (x5_1 : Int).toNat x1_1 : List Int)
      replace H : (laws_markInt64S.l0 k1 y333 (wrap64 (x1_1 + 1)) (wrap64 (x5_1 + 1))) = some (r1, r2) := yr_ hy333 H
      have Ny333 := as_ hy333
      clear hy333
      have H' := as_ H
      clear H
      obtain ⟨Ao6, co6, eo6⟩ := Kd.R_slice HO_0.out
      subst eo6
      have p5 : 0 ≤ (x5_1 : Int) := od_
      have q5 : (x5_1 : Int) < ((x0_1.length : Int) : Int) := od_
      obtain ⟨go5, co5, eo5, gb5, gl5, cl5, HG5⟩ := Kd.R_form HO_0.out (by omega)
      (first | cases eo5 | (injection eo5 with ea_ en_ ec_; (first | subst ea_ | (injection ea_ with ea_; subst ea_)); subst ec_; clear en_))
      have GB5 := as_ gb5
      have GG5 := as_ HG5
      clear gb5 gl5 HG5
      have HMgo5 := as_ (show (P0_ go5 ∨ w.heap.size ≤ go5) from (HO_0.out.1 _ rfl))
      obtain ⟨hx5_0, hf5_0⟩ := Kd.R_celln 0 HO_0.out (x5_1 : Int) p5 q5
      replace p5 := eq_true p5
      replace q5 := eq_true q5
      have HP7 := Kd.R_putg HO_0.out (x5_1 : Int) x1_1
      go_wp2_with (first | ((with_reducible refine gate_store (t := 2) (p := 15) rfl ?_); refine store_event (t := 2) (p := 15) (v := ?vo_w8) (w1 := (wr.setCell ⟨go5, (x5_1 : Int).toNat, none⟩ (.int .i64 x1_1))) ?hg ?ho ?hn ?hr ?_; (case ho => rfl); (case hg => rfl); (case hn => rfl); (case hr => first | (go_simp; done) | (go_simp; rfl)); intro w8 hw; have hg : wr.grownBy w8 (some go5) := (by rw [hw]; exact HP7.2); have hp_ : Kd.R (Kd.int .i64) 2 w8 w0.heap.size (fun k_ => (P0_ k_ ∨ w.heap.size ≤ k_)) (.slice (some ⟨go5, 0, none⟩) x0_1.length co6) y333 := (by rw [hw, Ny333.out]; exact HP7.1); clear HP7; replace HB := as_ ((by rw [hw]; exact below_set (HB.out) GB5.out : Below w0.heap.size w0 w8)); replace HK := as_ (Kept.of_grown (S := (fun k_ => P0_ k_)) hg (kp_ HK) (fun k_ e_ => (HO_0.out.1 k_ e_))); replace HO_0 := as_ (hp_); clear hg hw hp_))
      go_roundg k1
      case measure => have := HK1.out; omega
      case rel => exact ⟨(y333), (wrap64 (x1_1 + 1)), (wrap64 (x5_1 + 1)), rf_, rf_, H', om_ HK1, ⟨bR_ HO_0⟩, ⟨kp_ HK⟩, ⟨b_ HB⟩⟩

def laws_markInt64SS.l0 : Nat → List (List Int) → Int → Int → Option (Int × List (List Int))
  | 0, _, _, _ => none
  | k + 1, x0, x1, x5 => if x5 < (x0.length : Int) then (if 0 ≤ x5 then ((laws_markInt64S.f k (rd_L1 x0 x5) x1).bind fun t => laws_markInt64SS.l0 k (x0.set (x5 : Int).toNat t.2) t.1 (wrap64 (x5 + 1))) else none) else some (x1, x0)
def laws_markInt64SS.f (k : Nat) (l0 : List (List Int)) (a1 : Int) : Option (Int × List (List Int)) := laws_markInt64SS.l0 k l0 a1 0
set_option maxHeartbeats 8000000 in
set_option maxRecDepth 100000 in
theorem laws_markInt64SS.calls (k : Nat) (P0_ : Nat → Prop) (u0 : Value) (l0 : List (List Int)) (a1 : Int) (r1 : Int) (r2 : List (List Int)) (w0 w : World) (hB : Below w0.heap.size w0 w) (ho0 : Kd.S (Kd.slice 2 (Kd.int .i64)) 23 w w0.heap.size P0_ u0 l0) (h : laws_markInt64SS.f k l0 a1 = some (r1, r2)) :
    Calls Try.prog 29 #[u0, .int .i64 a1] w fun e w' => e = .returned (.int .i64 r1) ∧ Kd.S (Kd.slice 2 (Kd.int .i64)) 23 w' w0.heap.size P0_ u0 r2 ∧ Below w0.heap.size w0 w' ∧ Kept w w' (fun k_ => P0_ k_) := by
  have HO0 := as_ ho0
  have HK := as_ (Kept.refl w (fun k_ => P0_ k_))
  have HB := as_ hB
  clear hB ho0
  have H : (laws_markInt64SS.l0 k l0 a1 0) = some (r1, r2) := h
  clear h
  have H' := as_ H
  clear H
  go_enter Try.func29, Try.ntmps29
  go_wp2
  go_loopg [1, 5] k (fun kq v1 v5 w' => ∃ (x0_1 : List (List Int)) (x1_1 : Int) (x5_1 : Int), v1 = .int .i64 x1_1 ∧ v5 = .int .i64 x5_1 ∧ Aside0 (laws_markInt64SS.l0 kq x0_1 x1_1 x5_1 = some (r1, r2)) ∧ Aside0 (kq ≤ k) ∧ Aside0 (Kd.S (Kd.slice 2 (Kd.int .i64)) 23 w' w0.heap.size P0_ u0 x0_1) ∧ Aside0 (Kept w w' (fun k_ => P0_ k_)) ∧ Aside0 (Below w0.heap.size w0 w'))
  case atStart => exact ⟨(l0), (a1), (0), rf_, rf_, H', ⟨Nat.le_refl _⟩, ⟨bS_ HO0⟩, ⟨kp_ HK⟩, ⟨b_ HB⟩⟩
  case round =>
    clear H'
    obtain ⟨x0_1, x1_1, x5_1, rfl, rfl, HA, HK1, HO_0, HK, HB⟩ := hrel
    cases gk with
    | zero => exact absurd HA.out (by simp [laws_markInt64SS.l0])
    | succ k1 =>
      have H := HA.out
      clear HA
      simp only [laws_markInt64SS.l0] at H
      by_cases c3 : x5_1 < (x0_1.length : Int)
      rotate_left
      · rw [if_neg c3] at H
        have c3b0 := decide_eq_false c3
        clear c3
        simp only [Option.some.injEq, Prod.mk.injEq] at H
        obtain ⟨rfl, rfl⟩ := H
        obtain ⟨Ao9, co9, eo9⟩ := Kd.R_slice (Kd.S_R HO_0.out)
        subst eo9
        go_wp2
        go_ret
        exact ⟨re_, bS_ HO_0, b_ HB, kp_ HK⟩
      rw [if_pos c3] at H
      have c3b0 := decide_eq_true c3
      clear c3
      obtain ⟨c4b0, H⟩ := ite_d H
      replace H := Option.bind_eq_some_iff.mp H
      obtain ⟨⟨t1, t2⟩, A50, H⟩ := H
      have A5 := as_ A50
      clear A50
      have H' := as_ H
      clear H
      obtain ⟨Ao6, co6, eo6⟩ := Kd.R_slice (Kd.S_R HO_0.out)
      subst eo6
      have p5 : 0 ≤ (x5_1 : Int) := od_
      have q5 : (x5_1 : Int) < ((x0_1.length : Int) : Int) := od_
      obtain ⟨go5, co5, eo5, gb5, gl5, cl5, HG5⟩ := Kd.R_form (Kd.S_R HO_0.out) (by omega)
      (first | cases eo5 | (injection eo5 with ea_ en_ ec_; (first | subst ea_ | (injection ea_ with ea_; subst ea_)); subst ec_; clear en_))
      clear gb5 gl5 HG5 cl5
      obtain ⟨oki, cc, hcl, hM, hcc, hfr, hoki, hH⟩ := Kd.S_elem HO_0.out [] x5_1 p5 q5
      obtain ⟨v, rfl, hR⟩ := hM
      replace hR : Kd.R (Kd.int .i64) 2 wr w0.heap.size oki v (rd_L1 x0_1 x5_1) := hR
      obtain ⟨Ai, ci, ei⟩ := Kd.R_slice hR
      subst ei
      have hx5_0 := hcc 0 _ rfl
      have hf5_0 := hfr 0
      replace hx5_0 : wr.cell? ⟨go5, (x5_1 : Int).toNat, none⟩ = some (.slice Ai (rd_L1 x0_1 x5_1).length ci) := by simpa [show (Kd.slice 2 (Kd.int .i64)).sz = 1 from rfl] using hx5_0
      replace hf5_0 : wr.frozen? ⟨go5, (x5_1 : Int).toNat, none⟩ = false := by simpa [show (Kd.slice 2 (Kd.int .i64)).sz = 1 from rfl] using hf5_0
      clear hcc hfr hcl
      have HR := as_ hR
      have HH := as_ hH
      have HI := as_ hoki
      clear hR hH hoki
      have T : Calls Try.prog 30 #[.slice Ai (rd_L1 x0_1 x5_1).length ci, .int .i64 x1_1] wr fun e w' => e = .returned (.int .i64 t1) ∧ Kd.S (Kd.slice 2 (Kd.int .i64)) 23 w' w0.heap.size P0_ (.slice (some ⟨go5, 0, none⟩) x0_1.length co6) (x0_1.set x5_1.toNat t2) ∧ Kept w w' (fun k_ => P0_ k_) ∧ Below w0.heap.size w0 w' := by
        refine (laws_markInt64S.calls k1 oki (.slice Ai (rd_L1 x0_1 x5_1).length ci) (rd_L1 x0_1 x5_1) x1_1 t1 t2 w0 wr HB.out HR.out A5.out).mono ?_
        rintro e w7 ⟨rfl, hy0, hb, hkp⟩
        exact ⟨rfl, Kd.H_back (Kd.H_kept HH.out hkp (fun _ _ hn hs => hn hs)) (show (Kd.slice 2 (Kd.int .i64)).M w7 w0.heap.size oki t2 [.slice Ai (rd_L1 x0_1 x5_1).length ci] from ⟨_, rfl, Kd.R_reok rfl hy0 (fun k_ e_ => HR.out.1 k_ e_)⟩) (fun _ h_ => h_), Kept.then_ (S := (fun k_ => P0_ k_)) HK.out hkp (fun k_ hs_ => .inl (HI.out k_ hs_).1), hb⟩
      replace p5 := eq_true p5
      replace q5 := eq_true q5
      have HT := as_ T
      clear T
      go_wp2_with (first | ((with_reducible refine gate_callee (f := 30) rfl ?_); refine gL_ 17 Try.func30 #[.slice Ai (rd_L1 x0_1 x5_1).length ci, .int .i64 x1_1] ?_; refine HT.out.mono ?_; rintro e w7 ⟨rfl, hs_, hk_, hb_⟩; refine ⟨_, rfl, ?_⟩; clear HT HO_0 HK HB HH HR HI; have HO_0 := as_ hs_; have HK := as_ hk_; have HB := as_ hb_; clear hs_ hk_ hb_))
      go_roundg k1
      case measure => have := HK1.out; omega
      case rel => exact ⟨_, _, _, rf_, rf_, H', om_ HK1, ⟨bS_ HO_0⟩, ⟨kp_ HK⟩, ⟨b_ HB⟩⟩

def laws_markAutomaton.f (k : Nat) (a0_0 : Int) (l0_1 : List (List Int)) (l0_2 : List Int) (a1 : Int) : Option (Int × List (List Int) × List Int) := (laws_markInt64SS.f k l0_1 a1).bind fun b => (laws_markInt64S.f k l0_2 b.1).bind fun c => some (c.1, b.2, c.2)
theorem laws_markAutomaton.far {w : World} {k t : Nat} {L : List Nat} {cells : Array Value} (h : ∃ q, q ∈ L ∧ ∃ cells, w.heap[k]? = some (.cells cells q (0, 0))) (hb : w.heap[k]? = some (.cells cells t (0, 0))) (ht : ∀ q, q ∈ L → q ≠ t) : False := by
  obtain ⟨q, hq, c, hc⟩ := h
  rw [hc] at hb
  injection hb with hb
  injection hb with _ hb _
  exact ht q hq hb
set_option maxHeartbeats 8000000 in
set_option maxRecDepth 100000 in
theorem laws_markAutomaton.calls (k : Nat) (a0_0 : Int) (P0_1_ : Nat → Prop) (u0_1 : Value) (l0_1 : List (List Int)) (P0_2_ : Nat → Prop) (u0_2 : Value) (l0_2 : List Int) (a1 : Int) (r1 : Int) (r2 : List (List Int)) (r3 : List Int) (w0 w : World) (hB : Below w0.heap.size w0 w) (ho0_1 : Kd.S (Kd.slice 2 (Kd.int .i64)) 23 w w0.heap.size P0_1_ u0_1 l0_1) (hap : ∀ k_, P0_1_ k_ → P0_2_ k_ → False) (ho0_2 : Kd.R (Kd.int .i64) 2 w w0.heap.size P0_2_ u0_2 l0_2) (h : laws_markAutomaton.f k a0_0 l0_1 l0_2 a1 = some (r1, r2, r3)) :
    Calls Try.prog 12 #[.agg #[.int .i64 a0_0, u0_1, u0_2], .int .i64 a1] w fun e w' => e = .returned (.int .i64 r1) ∧ Kd.S (Kd.slice 2 (Kd.int .i64)) 23 w' w0.heap.size P0_1_ u0_1 r2 ∧ Kd.R (Kd.int .i64) 2 w' w0.heap.size (fun k_ => (P0_2_ k_ ∨ w.heap.size ≤ k_)) u0_2 r3 ∧ Below w0.heap.size w0 w' ∧ Kept w w' (fun k_ => P0_1_ k_ ∨ P0_2_ k_) := by
  have hu29 := Try.underlying29
  have HO0_1 := as_ ho0_1
  have HO0_2 := as_ ho0_2
  have HK := as_ (Kept.refl w (fun k_ => P0_1_ k_ ∨ P0_2_ k_))
  have HB := as_ hB
  clear hB ho0_1 ho0_2
  obtain ⟨⟨t1, t2⟩, A30, H⟩ := Option.bind_eq_some_iff.mp h
  obtain ⟨⟨t3, t4⟩, A40, H⟩ := Option.bind_eq_some_iff.mp H
  clear h
  simp only [Option.some.injEq, Prod.mk.injEq] at H
  obtain ⟨rfl, rfl, rfl⟩ := H
  have A3 := as_ A30
  have A4 := as_ A40
  clear A30 A40
  obtain ⟨Ao1, co1, eo1⟩ := Kd.R_slice (Kd.S_R HO0_1.out)
  subst eo1
  obtain ⟨Ao2, co2, eo2⟩ := Kd.R_slice HO0_2.out
  subst eo2
  go_enter Try.func12, Try.ntmps12
  go_wp2_with (first | ((with_reducible refine gate_dst (N := 2) rfl ?_); refine bx_ 2 #[.int .i64 a0_0, .slice Ao1 l0_1.length co1, .slice Ao2 l0_2.length co2] 29 ?_; intro gb646 hg w5 hbox hb; have n0_ := sb_ HO0_1 hb; have n6_ := rb_ HO0_2 hb; have n1_ := as_ (Kept.below (S := (fun k_ => P0_1_ k_ ∨ P0_2_ k_)) (kp_ HK) hb); have n2_ := as_ (below_step (b_ HB) hb); have n3_ := as_ (hbox); clear HO0_1 HO0_2 HK HB; have HO0_1 := n0_; have HO0_2 := n6_; have HK := n1_; have HB := n2_; have BK646 := n3_; clear n0_ n1_ n2_ n3_ n6_; clear hb hbox hg; have hcz6_1 : w5.cell? ⟨gb646, 1, none⟩ = some (.slice Ao1 l0_1.length co1) := (blk_cell BK646.out 1).trans rfl; have hfz6_1 := blk_frozen BK646.out 1; have hcz6_2 : w5.cell? ⟨gb646, 2, none⟩ = some (.slice Ao2 l0_2.length co2) := (blk_cell BK646.out 2).trans rfl; have hfz6_2 := blk_frozen BK646.out 2) | ((with_reducible refine gate_callee (f := 29) rfl ?_); refine gL_ 8 Try.func29 #[.slice Ao1 l0_1.length co1, .int .i64 a1] ?_; (refine (laws_markInt64SS.calls k _ (.slice Ao1 l0_1.length co1) l0_1 a1 t1 t2 w0 _ HB.out (Kd.S_bound HO0_1.out) A3.out).mono ?_); rintro e w7 ⟨rfl, hy0, hb, hkp⟩; refine ⟨_, rfl, ?_⟩; replace HO0_1 := as_ (Kd.S_mono hy0 (fun k_ h_ => h_.1)); replace HO0_2 := as_ (Kd.R_kept HO0_2.out hkp (fun k_ h2 h1 => hap k_ h1.1 h2)); replace HK := as_ (Kept.then_ (S := (fun k_ => P0_1_ k_ ∨ P0_2_ k_)) HK.out hkp (fun k_ hs_ => .inl (.inl hs_.1))); replace HB := as_ hb; replace BK646 := as_ (blk_kept BK646.out hkp (fun hs_ => laws_markAutomaton.far hs_.2.2.2 BK646.out (by decide))); clear hy0 hb hkp; have hcz7_2 : w7.cell? ⟨gb646, 2, none⟩ = some (.slice Ao2 l0_2.length co2) := (blk_cell BK646.out 2).trans rfl; have hfz7_2 := blk_frozen BK646.out 2) | ((with_reducible refine gate_callee (f := 30) rfl ?_); refine gL_ 12 Try.func30 #[.slice Ao2 l0_2.length co2, .int .i64 t1] ?_; (refine (laws_markInt64S.calls k P0_2_ (.slice Ao2 l0_2.length co2) l0_2 t1 t3 t4 w0 _ HB.out HO0_2.out A4.out).mono ?_); rintro e w8 ⟨rfl, hy0, hb, hkp⟩; refine ⟨_, rfl, ?_⟩; replace HO0_1 := as_ (Kd.S_kept HO0_1.out hkp (fun k_ h1 h2 => hap k_ h1 h2)); replace HO0_2 := as_ (show Kd.R (Kd.int .i64) 2 w8 w0.heap.size (fun k_ => (P0_2_ k_ ∨ w.heap.size ≤ k_)) (.slice Ao2 l0_2.length co2) t4 from Kd.R_reok rfl hy0 (fun k_ e_ => .inl (HO0_2.out.1 k_ e_))); replace HK := as_ (Kept.then_ (S := (fun k_ => P0_1_ k_ ∨ P0_2_ k_)) HK.out hkp (fun k_ hs_ => .inl (.inr hs_))); replace HB := as_ hb; clear BK646; clear hy0 hb hkp))
  go_ret
  exact ⟨re_, bS_ HO0_1, bR_ HO0_2, b_ HB, kp_ HK⟩

def laws_heldInt64S.l0 : Nat → List Int → Int → Int → Option (Int)
  | 0, _, _, _ => none
  | k + 1, x0, x1, x5 => if x5 < (x0.length : Int) then (if 0 ≤ x5 then (if (rd x0 x5) = x1 then (laws_heldInt64S.l0 k x0 (wrap64 (x1 + 1)) (wrap64 (x5 + 1))) else (some (-1))) else (none)) else (some x1)
def laws_heldInt64S.f (k : Nat) (l0 : List Int) (a1 : Int) : Option (Int) := laws_heldInt64S.l0 k l0 a1 0
set_option maxHeartbeats 8000000 in
set_option maxRecDepth 100000 in
theorem laws_heldInt64S.calls (k : Nat) (A0 : Option Addr) (c0 : Nat) (l0 : List Int) (a1 : Int) (r : Int) (w : World) (hr0 : Kd.C (Kd.int .i64) w A0 l0.length l0) (hc0 : l0.length ≤ c0) (h : laws_heldInt64S.f k l0 a1 = some r) :
    Calls Try.prog 32 #[.slice A0 l0.length c0, .int .i64 a1] w fun e w' => e = .returned (.int .i64 r) ∧ Drawn0 w w' := by
  have HR0 := as_ hr0
  have HC0 := as_ hc0
  clear hr0 hc0
  have H : (laws_heldInt64S.l0 k l0 a1 0) = some r := h
  clear h
  have H' := as_ H
  clear H
  go_enter Try.func32, Try.ntmps32
  go_wp2
  go_loopg [1, 5] k (fun kq v1 v5 w' => ∃ (x1_1 : Int) (x5_1 : Int), v1 = .int .i64 x1_1 ∧ v5 = .int .i64 x5_1 ∧ Aside0 (laws_heldInt64S.l0 kq l0 x1_1 x5_1 = some r) ∧ Aside0 (kq ≤ k) ∧ Drawn0 w w')
  case atStart => exact ⟨(a1), (0), rf_, rf_, H', ⟨Nat.le_refl _⟩, by repeat (first | exact Drawn0.refl _ | apply Drawn0.step)⟩
  case round =>
    clear H'
    try clear p2
    obtain ⟨x1_1, x5_1, rfl, rfl, HA, HK1, ⟨m1, rfl⟩⟩ := hrel
    cases gk with
    | zero => exact absurd HA.out (by simp [laws_heldInt64S.l0])
    | succ k1 =>
      have H := HA.out
      clear HA
      simp only [laws_heldInt64S.l0] at H
      by_cases c3 : x5_1 < (l0.length : Int)
      rotate_left
      · rw [if_neg c3] at H
        have c3b0 := decide_eq_false c3
        clear c3
        obtain rfl := Option.some.inj H
        go_wp2
        go_ret
        exact ⟨rf_, by repeat (first | exact Drawn0.refl _ | apply Drawn0.step)⟩
      rw [if_pos c3] at H
      have c3b0 := decide_eq_true c3
      clear c3
      obtain ⟨c4b0, H⟩ := ite_d H
      by_cases c5 : (rd l0 x5_1) = x1_1
      · rw [if_pos c5] at H
        have c5b0 := beq_iff_eq.mpr c5
        have c5b1 := bne_eq_false_iff_eq.mpr c5
        clear c5
        have H' := as_ H
        clear H
        have p334 : 0 ≤ (x5_1 : Int) := od_
        have q334 : x5_1 < (l0.length : Int) := od_
        obtain ⟨ad334, e334, hx334_0⟩ := Kd.at_int HR0.out x5_1 p334 q334
        cases e334
        replace p334 := eq_true p334
        replace q334 := eq_true q334
        go_wp2
        go_roundg k1
        case measure => have := HK1.out; omega
        case rel => exact ⟨(wrap64 (x1_1 + 1)), (wrap64 (x5_1 + 1)), rf_, rf_, H', om_ HK1, by repeat (first | exact Drawn0.refl _ | apply Drawn0.step)⟩
      rw [if_neg c5] at H
      have c5b0 := beq_eq_false_iff_ne.mpr c5
      have c5b1 := bne_iff_ne.mpr c5
      obtain rfl := Option.some.inj H
      have p334 : 0 ≤ (x5_1 : Int) := od_
      have q334 : x5_1 < (l0.length : Int) := od_
      obtain ⟨ad334, e334, hx334_0⟩ := Kd.at_int HR0.out x5_1 p334 q334
      cases e334
      replace p334 := eq_true p334
      replace q334 := eq_true q334
      go_wp2
      go_ret
      exact ⟨rf_, by repeat (first | exact Drawn0.refl _ | apply Drawn0.step)⟩

end Go.Proofs.Ytpbfideppdmceaa.E
