/- The row of the law FnExactCombineAutomata, out of its pure statement. -/
import Derived.Test.YtpbfideppdmceaaQCMEx0
import Derived.Test.YtpbfideppdmceaaQCMEx1
import Derived.Test.YtpbfideppdmceaaQCMEx2
import Derived.Test.YtpbfideppdmceaaQCMEx3
import Derived.Test.YtpbfideppdmceaaQCMEx4
import Derived.Test.YtpbfideppdmceaaQCML
-- Written by wip/ext.py of this claim (contracts by the form of the kit's print; hand-written ones among them).
namespace Go.Proofs.Ytpbfideppdmceaa.E
open Go.RowKit Go.Proofs.YtpbfideppdmceaaW.PrintWords Go.Proofs.YtpbfideppdmceaaW.PrintLast Go.Proofs.YtpbfideppdmceaaW.PrintMore Go.Proofs.Ytpbfideppdmceaa.Mi
attribute [local go_sem] max2_int min2_int max_two min_two max_three min_three max_four min_four   -- for this text's walks alone
set_option linter.unusedVariables false
set_option linter.unusedSimpArgs false

attribute [local go_sem high] eqA48
def spec_CombineAutomata.j0 : Nat → Int → Bool → Int → List (List Int) → List Int → Int → List (List Int) → List Int → Option (Int × (List (List Int)) × List Int × Int)
  | 0, _, _, _, _, _, _, _, _ => none
  | k + 1, x2, x10, x263000, x263001, x263002, x264000, x264001, x264002 => if x10 = true then (some (0, ([] : List (List Int)), ([] : List Int), 1)) else ((spec_l01In.f x2 0 2).bind fun t267 => (if t267 = true then ((spec_l06Pairs.f k x263000 x263001 x263002 x264000 x264001 x264002 9).bind fun bt268 => (if bt268.2 = true then ((spec_l06Combined.f k x263000 x263001 x263002 x264000 x264001 x264002 bt268.1 x2).bind fun bt272 => (some (bt272.1, bt272.2.1, bt272.2.2, 0))) else (some (0, ([] : List (List Int)), ([] : List Int), 3)))) else (some (0, ([] : List (List Int)), ([] : List Int), 2))))
def spec_CombineAutomata.f (k : Nat) (a0_0 : Int) (l0_1 : List (List Int)) (l0_2 : List Int) (a1_0 : Int) (l1_1 : List (List Int)) (l1_2 : List Int) (a2 : Int) : Option (Int × (List (List Int)) × List Int × Int) := (spec_l06Is.f k a0_0 l0_1 l0_2).bind fun t265 => (if t265 = true then ((spec_l06Is.f k a1_0 l1_1 l1_2).bind fun t266 => (spec_CombineAutomata.j0 k a2 (!t266) a0_0 l0_1 l0_2 a1_0 l1_1 l1_2)) else (spec_CombineAutomata.j0 k a2 true a0_0 l0_1 l0_2 a1_0 l1_1 l1_2))
set_option maxHeartbeats 8000000 in
set_option maxRecDepth 100000 in
theorem spec_CombineAutomata.calls (k : Nat) (a0_0 : Int) (A0_1 : Option Addr) (c0_1 : Nat) (l0_1 : List (List Int)) (A0_2 : Option Addr) (c0_2 : Nat) (l0_2 : List Int) (a1_0 : Int) (A1_1 : Option Addr) (c1_1 : Nat) (l1_1 : List (List Int)) (A1_2 : Option Addr) (c1_2 : Nat) (l1_2 : List Int) (a2 : Int) (r1 : Int) (r2 : List (List Int)) (r3 : List Int) (r4 : Int) (w : World) (hr0_1 : Kd.C (Kd.slice 2 (Kd.int .i64)) w A0_1 l0_1.length l0_1) (hc0_1 : l0_1.length ≤ c0_1) (hr0_2 : Kd.C (Kd.int .i64) w A0_2 l0_2.length l0_2) (hc0_2 : l0_2.length ≤ c0_2) (hr1_1 : Kd.C (Kd.slice 2 (Kd.int .i64)) w A1_1 l1_1.length l1_1) (hc1_1 : l1_1.length ≤ c1_1) (hr1_2 : Kd.C (Kd.int .i64) w A1_2 l1_2.length l1_2) (hc1_2 : l1_2.length ≤ c1_2) (h : spec_CombineAutomata.f k a0_0 l0_1 l0_2 a1_0 l1_1 l1_2 a2 = some (r1, r2, r3, r4)) :
    Calls Try.prog 10 #[.agg #[.int .i64 a0_0, .slice A0_1 l0_1.length c0_1, .slice A0_2 l0_2.length c0_2], .agg #[.int .i64 a1_0, .slice A1_1 l1_1.length c1_1, .slice A1_2 l1_2.length c1_2], .int .i64 a2] w fun e w' => ∃ v1_ v2_ : Value, e = .returned (.tuple #[.agg #[.int .i64 r1, v1_, v2_], .int .i64 r4]) ∧ Kd.S (Kd.slice 2 (Kd.int .i64)) 23 w' w.heap.size (fun k_ => some k_ ≠ (v2_ : Value).ownBlock) v1_ r2 ∧ Kd.R (Kd.int .i64) 2 w' w.heap.size (fun _ => True) v2_ r3 ∧ Below w.heap.size w w' := by
  have hu29 := Try.underlying29
  have HR0_1 := as_ hr0_1
  have HC0_1 := as_ hc0_1
  clear hr0_1 hc0_1
  have HR0_2 := as_ hr0_2
  have HC0_2 := as_ hc0_2
  clear hr0_2 hc0_2
  have HR1_1 := as_ hr1_1
  have HC1_1 := as_ hc1_1
  clear hr1_1 hc1_1
  have HR1_2 := as_ hr1_2
  have HC1_2 := as_ hc1_2
  clear hr1_2 hc1_2
  have HB := as_ (Below.refl w.heap.size w)
  have H : ((spec_l06Is.f k a0_0 l0_1 l0_2).bind fun t265 => (if t265 = true then ((spec_l06Is.f k a1_0 l1_1 l1_2).bind fun t266 => (spec_CombineAutomata.j0 k a2 (!t266) a0_0 l0_1 l0_2 a1_0 l1_1 l1_2)) else (spec_CombineAutomata.j0 k a2 true a0_0 l0_1 l0_2 a1_0 l1_1 l1_2))) = some (r1, r2, r3, r4) := h
  clear h
  have HC4 := as_ H
  clear H
  go_enter Try.func10, Try.ntmps10
  go_upto_region 1 with (first | ((with_reducible refine gate_dst (N := 3) rfl ?_); refine bx_ 3 #[.int .i64 a0_0, .slice A0_1 l0_1.length c0_1, .slice A0_2 l0_2.length c0_2] 29 ?_; intro gb262 hg w5 hbox hb; have BK262 := as_ (hbox); have GW262 := gz_ hg (b_ HB); have GE262 := GW262; replace HB := as_ (below_step (b_ HB) hb); clear hb hbox hg) | ((with_reducible refine gate_dst (N := 4) rfl ?_); refine bx_ 4 #[.int .i64 a1_0, .slice A1_1 l1_1.length c1_1, .slice A1_2 l1_2.length c1_2] 29 ?_; intro gb263 hg w6 hbox hb; have BK263 := as_ (hbox); have GW263 := gz_ hg (b1_ HB GE262); have GE263 := GW263; replace HB := as_ (below_step (b1_ HB GE262) hb); have NB262_263 := nl_ hg (bk_ BK262); have NB263_262 := ng_ hg (bk_ BK262); replace BK262 := kb_ BK262 hb; clear hb hbox hg) | ((with_reducible refine gate_dst (N := 6) rfl ?_); refine bx_ 6 #[.int .i64 0, .slice none 0 0, .slice none 0 0] 29 ?_; intro gb264 hg w7 hbox hb; have BK264 := as_ (hbox); have GW264 := gz_ hg (b2_ HB GE262 GE263); have GE264 := GW264; replace HB := as_ (below_step (b2_ HB GE262 GE263) hb); have NB262_264 := nl_ hg (bk_ BK262); have NB264_262 := ng_ hg (bk_ BK262); replace BK262 := kb_ BK262 hb; have NB263_264 := nl_ hg (bk_ BK263); have NB264_263 := ng_ hg (bk_ BK263); replace BK263 := kb_ BK263 hb; clear hb hbox hg))
  (try simp only [Act.put, List.setIfInBounds_toArray, List.set_cons_zero, List.set_cons_succ])
  go_cut [10] (fun v10 wc => ∃ (kq : Nat) (x10_3 : Bool), v10 = .bool x10_3 ∧ Aside0 (spec_CombineAutomata.j0 kq a2 x10_3 a0_0 l0_1 l0_2 a1_0 l1_1 l1_2 = some (r1, r2, r3, r4)) ∧ Aside0 (kq ≤ k) ∧ Aside0 (wc.heap[gb262]? = some (.cells #[.int .i64 a0_0, (.slice A0_1 l0_1.length c0_1), (.slice A0_2 l0_2.length c0_2)] 29 (0, 0))) ∧ Aside0 (wc.heap[gb263]? = some (.cells #[.int .i64 a1_0, (.slice A1_1 l1_1.length c1_1), (.slice A1_2 l1_2.length c1_2)] 29 (0, 0))) ∧ Aside0 (wc.heap[gb264]? = some (.cells #[.int .i64 0, (.slice none 0 0), (.slice none 0 0)] 29 (0, 0))) ∧ Aside0 (Below w.heap.size w wc))
  case first =>
    have H := HC4.out
    clear HC4
    obtain ⟨t265, A8, H⟩ := bo_ H
    by_cases c9 : t265 = true
    · subst c9
      replace H := it_ H
      obtain ⟨t266, A10, H⟩ := bo_ H
      have H' := as_ H
      clear H
      have hnb11 := NB262_263.out
      have hnc11 := NB263_262.out
      have hnb12 := NB262_264.out
      have hnc12 := NB264_262.out
      obtain ⟨hcz13_0, hfz13_0, hcz13_1, hfz13_1, hcz13_2, hfz13_2⟩ := tc3_ BK262
      go_wp2_with (first | ((with_reducible refine gate_callee (f := 16) rfl ?_); refine gL_ 12 Try.func16 #[.agg #[.int .i64 a0_0, .slice A0_1 l0_1.length c0_1, .slice A0_2 l0_2.length c0_2]] ?_; (with_reducible refine (spec_l06Is.calls k a0_0 _ _ l0_1 _ _ l0_2 true _ ?side1 ?side2 ?side3 ?side4 A8.out).mono ?_); (case side1 => exact bC_ HR0_1 HB); (case side2 => exact HC0_1.out); (case side3 => exact bC_ HR0_2 HB); (case side4 => exact HC0_2.out); rintro e w14 ⟨rfl, hb⟩; refine ⟨_, rfl, ?_⟩; replace BK262 := kb_ BK262 hb; replace BK263 := kb_ BK263 hb; replace BK264 := kb_ BK264 hb; replace HB := as_ (below_step (b3_ HB GE262 GE263 GE264) hb); clear hb; have hnb15 := NB263_264.out; have hnc15 := NB264_263.out; obtain ⟨hcz16_0, hfz16_0, hcz16_1, hfz16_1, hcz16_2, hfz16_2⟩ := tc3_ BK263) | (go_at_call 16; (with_reducible refine (spec_l06Is.calls k a1_0 _ _ l1_1 _ _ l1_2 t266 _ ?side1 ?side2 ?side3 ?side4 A10.out).mono ?_); (case side1 => exact bC_ HR1_1 HB); (case side2 => exact HC1_1.out); (case side3 => exact bC_ HR1_2 HB); (case side4 => exact HC1_2.out); rintro e w17 ⟨rfl, hb⟩; replace BK262 := kb_ BK262 hb; replace BK263 := kb_ BK263 hb; replace BK264 := kb_ BK264 hb; replace HB := as_ (below_step (b3_ HB GE262 GE263 GE264) hb); clear hb))
      go_meet
      case rel => exact ⟨_, (!t266), rf_, H', ⟨by first | omega | exact Nat.le_refl _⟩, ⟨bk_ BK262⟩, ⟨bk_ BK263⟩, ⟨bk_ BK264⟩, ⟨b3_ HB GE262 GE263 GE264⟩⟩
    replace c9 := Bool.eq_false_iff.mpr c9
    subst c9
    replace H := if_ H
    have H' := as_ H
    clear H
    have hnb18 := NB262_263.out
    have hnc18 := NB263_262.out
    have hnb19 := NB262_264.out
    have hnc19 := NB264_262.out
    obtain ⟨hcz20_0, hfz20_0, hcz20_1, hfz20_1, hcz20_2, hfz20_2⟩ := tc3_ BK262
    go_wp2_with (first | ((with_reducible refine gate_callee (f := 16) rfl ?_); refine gL_ 12 Try.func16 #[.agg #[.int .i64 a0_0, .slice A0_1 l0_1.length c0_1, .slice A0_2 l0_2.length c0_2]] ?_; (with_reducible refine (spec_l06Is.calls k a0_0 _ _ l0_1 _ _ l0_2 false _ ?side1 ?side2 ?side3 ?side4 A8.out).mono ?_); (case side1 => exact bC_ HR0_1 HB); (case side2 => exact HC0_1.out); (case side3 => exact bC_ HR0_2 HB); (case side4 => exact HC0_2.out); rintro e w21 ⟨rfl, hb⟩; refine ⟨_, rfl, ?_⟩; replace BK262 := kb_ BK262 hb; replace BK263 := kb_ BK263 hb; replace BK264 := kb_ BK264 hb; replace HB := as_ (below_step (b3_ HB GE262 GE263 GE264) hb); clear hb))
    go_meet
    case rel => exact ⟨_, (true), rf_, H', ⟨by first | omega | exact Nat.le_refl _⟩, ⟨bk_ BK262⟩, ⟨bk_ BK263⟩, ⟨bk_ BK264⟩, ⟨b3_ HB GE262 GE263 GE264⟩⟩
  case rest =>
    clear HC4
    (try clear c1); (try clear p2); (try clear c9); (try clear c10); (try clear c11); (try clear c12); (try clear c15); (try clear c16); (try clear c18); (try clear c19); (try clear hcz13_0); (try clear hcz13_1); (try clear hcz13_2); (try clear hcz16_0); (try clear hcz16_1); (try clear hcz16_2); (try clear hcz20_0); (try clear hcz20_1); (try clear hcz20_2); (try clear hfz13_0); (try clear hfz13_1); (try clear hfz13_2); (try clear hfz16_0); (try clear hfz16_1); (try clear hfz16_2); (try clear hfz20_0); (try clear hfz20_1); (try clear hfz20_2)
    obtain ⟨kq, x10_3, rfl, HA, HJ3, BK262, BK263, BK264, HB⟩ := hcut
    cases kq with
    | zero => exact absurd HA.out (by simp [spec_CombineAutomata.j0])
    | succ kj3 =>
      have H := HA.out
      clear HA
      simp only [spec_CombineAutomata.j0] at H
      by_cases c22 : x10_3 = true
      · subst c22
        replace H := it_ H
        simp only [Option.some.injEq, Prod.mk.injEq] at H
        obtain ⟨rfl, rfl, rfl, rfl⟩ := H
        have hnb23 := NB264_262.out
        have hnc23 := NB262_264.out
        have hnb24 := NB264_263.out
        have hnc24 := NB263_264.out
        obtain ⟨hcz25_0, hfz25_0, hcz25_1, hfz25_1, hcz25_2, hfz25_2⟩ := tc3_ BK264
        go_wp2
        refine bodyPost_ret (results_ct rfl _ _ gb264 29 #[.int .i64 0, .slice none 0 0, .slice none 0 0] (0, 0) _ rfl (bp_ BK264) Try.underlying29 rfl (by kernel_rfl)) rfl ?_
        exact ⟨_, _, re_, by first | exact Kd.S_nil _ _ _ _ _ | exact Kd.N_nil _ _ _ _ _ | exact Kd.V_nil _ _ _ _ _ | exact Kd.Q_nil _ _ _ _ _ | exact Kd.R_nil _ _ _ _ _, by first | exact Kd.R_nil _ _ _ _ _ | exact Kd.N_nil _ _ _ _ _ | exact Kd.V_nil _ _ _ _ _ | exact Kd.Q_nil _ _ _ _ _ | exact Kd.S_nil _ _ _ _ _, b3_ HB GE262 GE263 GE264⟩
      replace c22 := Bool.eq_false_iff.mpr c22
      subst c22
      replace H := if_ H
      obtain ⟨t267, A26, H⟩ := bo_ H
      by_cases c27 : t267 = true
      rotate_left
      · replace c27 := Bool.eq_false_iff.mpr c27
        subst c27
        replace H := if_ H
        simp only [Option.some.injEq, Prod.mk.injEq] at H
        obtain ⟨rfl, rfl, rfl, rfl⟩ := H
        go_wp2_with (first | ((with_reducible refine gate_callee (f := 26) rfl ?_); refine gL_ 22 Try.func26 #[.int .i64 a2, .int .i64 0, .int .i64 2] ?_; (with_reducible refine (spec_l01In.calls a2 0 2 false _ A26.out).mono ?_); rintro e w' ⟨rfl, ⟨nd, rfl⟩⟩; refine ⟨_, rfl, ?_⟩; (try (rw [drewN_self wc]; generalize hq_ : World.drewN wc _ = wc; replace BK262 : Aside0 (wc.heap[gb262]? = some (.cells #[.int .i64 a0_0, .slice A0_1 l0_1.length c0_1, .slice A0_2 l0_2.length c0_2] 29 (0, 0))) := ⟨by rw [← hq_]; exact (bk_ BK262)⟩; replace BK263 : Aside0 (wc.heap[gb263]? = some (.cells #[.int .i64 a1_0, .slice A1_1 l1_1.length c1_1, .slice A1_2 l1_2.length c1_2] 29 (0, 0))) := ⟨by rw [← hq_]; exact (bk_ BK263)⟩; replace BK264 : Aside0 (wc.heap[gb264]? = some (.cells #[.int .i64 0, .slice none 0 0, .slice none 0 0] 29 (0, 0))) := ⟨by rw [← hq_]; exact (bk_ BK264)⟩; replace HB : Aside0 (Below w.heap.size w wc) := ⟨by rw [← hq_]; exact (b3_ HB GE262 GE263 GE264)⟩; clear hq_)); have hnb51 := NB264_262.out; have hnc51 := NB262_264.out; have hnb52 := NB264_263.out; have hnc52 := NB263_264.out; obtain ⟨hcz53_0, hfz53_0, hcz53_1, hfz53_1, hcz53_2, hfz53_2⟩ := tc3_ BK264))
        refine bodyPost_ret (results_ct rfl _ _ gb264 29 #[.int .i64 0, .slice none 0 0, .slice none 0 0] (0, 0) _ rfl (bp_ BK264) Try.underlying29 rfl (by kernel_rfl)) rfl ?_
        exact ⟨_, _, re_, by first | exact Kd.S_nil _ _ _ _ _ | exact Kd.N_nil _ _ _ _ _ | exact Kd.V_nil _ _ _ _ _ | exact Kd.Q_nil _ _ _ _ _ | exact Kd.R_nil _ _ _ _ _, by first | exact Kd.R_nil _ _ _ _ _ | exact Kd.N_nil _ _ _ _ _ | exact Kd.V_nil _ _ _ _ _ | exact Kd.Q_nil _ _ _ _ _ | exact Kd.S_nil _ _ _ _ _, b3_ HB GE262 GE263 GE264⟩
      subst c27
      replace H := it_ H
      obtain ⟨⟨t268, t271⟩, A28, H⟩ := bo_ H
      dsimp only at H
      by_cases c29 : t271 = true
      rotate_left
      · replace c29 := Bool.eq_false_iff.mpr c29
        subst c29
        replace H := if_ H
        simp only [Option.some.injEq, Prod.mk.injEq] at H
        obtain ⟨rfl, rfl, rfl, rfl⟩ := H
        go_wp2_with (first | ((with_reducible refine gate_callee (f := 26) rfl ?_); refine gL_ 22 Try.func26 #[.int .i64 a2, .int .i64 0, .int .i64 2] ?_; (with_reducible refine (spec_l01In.calls a2 0 2 true _ A26.out).mono ?_); rintro e w' ⟨rfl, ⟨nd, rfl⟩⟩; refine ⟨_, rfl, ?_⟩; (try (rw [drewN_self wc]; generalize hq_ : World.drewN wc _ = wc; replace BK262 : Aside0 (wc.heap[gb262]? = some (.cells #[.int .i64 a0_0, .slice A0_1 l0_1.length c0_1, .slice A0_2 l0_2.length c0_2] 29 (0, 0))) := ⟨by rw [← hq_]; exact (bk_ BK262)⟩; replace BK263 : Aside0 (wc.heap[gb263]? = some (.cells #[.int .i64 a1_0, .slice A1_1 l1_1.length c1_1, .slice A1_2 l1_2.length c1_2] 29 (0, 0))) := ⟨by rw [← hq_]; exact (bk_ BK263)⟩; replace BK264 : Aside0 (wc.heap[gb264]? = some (.cells #[.int .i64 0, .slice none 0 0, .slice none 0 0] 29 (0, 0))) := ⟨by rw [← hq_]; exact (bk_ BK264)⟩; replace HB : Aside0 (Below w.heap.size w wc) := ⟨by rw [← hq_]; exact (b3_ HB GE262 GE263 GE264)⟩; clear hq_)); have hnb44 := NB262_263.out; have hnc44 := NB263_262.out; have hnb45 := NB262_264.out; have hnc45 := NB264_262.out; obtain ⟨hcz46_0, hfz46_0, hcz46_1, hfz46_1, hcz46_2, hfz46_2⟩ := tc3_ BK262; have hnb47 := NB263_264.out; have hnc47 := NB264_263.out; obtain ⟨hcz48_0, hfz48_0, hcz48_1, hfz48_1, hcz48_2, hfz48_2⟩ := tc3_ BK263) | ((with_reducible refine gate_callee (f := 17) rfl ?_); refine gL_ 28 Try.func17 #[.agg #[.int .i64 a0_0, .slice A0_1 l0_1.length c0_1, .slice A0_2 l0_2.length c0_2], .agg #[.int .i64 a1_0, .slice A1_1 l1_1.length c1_1, .slice A1_2 l1_2.length c1_2], .int .i64 9] ?_; (with_reducible refine (spec_l06Pairs.calls kj3 a0_0 _ _ l0_1 _ _ l0_2 a1_0 _ _ l1_1 _ _ l1_2 9 t268 false _ ?side1 ?side2 ?side3 ?side4 ?side5 ?side6 ?side7 ?side8 A28.out).mono ?_); (case side1 => exact bC_ HR0_1 HB); (case side2 => exact HC0_1.out); (case side3 => exact bC_ HR0_2 HB); (case side4 => exact HC0_2.out); (case side5 => exact bC_ HR1_1 HB); (case side6 => exact HC1_1.out); (case side7 => exact bC_ HR1_2 HB); (case side8 => exact HC1_2.out); rintro e w49 ⟨v269, rfl, ho0, hb⟩; refine ⟨_, rfl, ?_⟩; have HO270 := as_ (Kd.V_lower (Kd.V_mono (ok' := fun k_ => k_ ≠ gb262 ∧ k_ ≠ gb263 ∧ k_ ≠ gb264) ho0 (fun k_ hk_ => ⟨(Kd.freshB (g := gb262) (o := .cells #[.int .i64 a0_0, .slice A0_1 l0_1.length c0_1, .slice A0_2 l0_2.length c0_2] 29 (0, 0)) (bk_ BK262) k_ hk_), (Kd.freshB (g := gb263) (o := .cells #[.int .i64 a1_0, .slice A1_1 l1_1.length c1_1, .slice A1_2 l1_2.length c1_2] 29 (0, 0)) (bk_ BK263) k_ hk_), (Kd.freshB (g := gb264) (o := .cells #[.int .i64 0, .slice none 0 0, .slice none 0 0] 29 (0, 0)) (bk_ BK264) k_ hk_)⟩)) (below_size (b3_ HB GE262 GE263 GE264))); replace BK262 := kb_ BK262 hb; replace BK263 := kb_ BK263 hb; replace BK264 := kb_ BK264 hb; replace HB := as_ (below_step (b3_ HB GE262 GE263 GE264) hb); clear hb ho0; obtain ⟨hcz50_0, hfz50_0, hcz50_1, hfz50_1, hcz50_2, hfz50_2⟩ := tc3_ BK264))
        refine bodyPost_ret (results_ct rfl _ _ gb264 29 #[.int .i64 0, .slice none 0 0, .slice none 0 0] (0, 0) _ rfl (bp_ BK264) Try.underlying29 rfl (by kernel_rfl)) rfl ?_
        exact ⟨_, _, re_, by first | exact Kd.S_nil _ _ _ _ _ | exact Kd.N_nil _ _ _ _ _ | exact Kd.V_nil _ _ _ _ _ | exact Kd.Q_nil _ _ _ _ _ | exact Kd.R_nil _ _ _ _ _, by first | exact Kd.R_nil _ _ _ _ _ | exact Kd.N_nil _ _ _ _ _ | exact Kd.V_nil _ _ _ _ _ | exact Kd.Q_nil _ _ _ _ _ | exact Kd.S_nil _ _ _ _ _, b3_ HB GE262 GE263 GE264⟩
      subst c29
      replace H := it_ H
      obtain ⟨⟨t272, t273, t276⟩, A30, H⟩ := bo_ H
      dsimp only at H
      simp only [Option.some.injEq, Prod.mk.injEq] at H
      obtain ⟨rfl, rfl, rfl, rfl⟩ := H
      go_wp2_with (first | ((with_reducible refine gate_callee (f := 26) rfl ?_); refine gL_ 22 Try.func26 #[.int .i64 a2, .int .i64 0, .int .i64 2] ?_; (with_reducible refine (spec_l01In.calls a2 0 2 true _ A26.out).mono ?_); rintro e w' ⟨rfl, ⟨nd, rfl⟩⟩; refine ⟨_, rfl, ?_⟩; (try (rw [drewN_self wc]; generalize hq_ : World.drewN wc _ = wc; replace BK262 : Aside0 (wc.heap[gb262]? = some (.cells #[.int .i64 a0_0, .slice A0_1 l0_1.length c0_1, .slice A0_2 l0_2.length c0_2] 29 (0, 0))) := ⟨by rw [← hq_]; exact (bk_ BK262)⟩; replace BK263 : Aside0 (wc.heap[gb263]? = some (.cells #[.int .i64 a1_0, .slice A1_1 l1_1.length c1_1, .slice A1_2 l1_2.length c1_2] 29 (0, 0))) := ⟨by rw [← hq_]; exact (bk_ BK263)⟩; replace BK264 : Aside0 (wc.heap[gb264]? = some (.cells #[.int .i64 0, .slice none 0 0, .slice none 0 0] 29 (0, 0))) := ⟨by rw [← hq_]; exact (bk_ BK264)⟩; replace HB : Aside0 (Below w.heap.size w wc) := ⟨by rw [← hq_]; exact (b3_ HB GE262 GE263 GE264)⟩; clear hq_)); have hnb31 := NB262_263.out; have hnc31 := NB263_262.out; have hnb32 := NB262_264.out; have hnc32 := NB264_262.out; obtain ⟨hcz33_0, hfz33_0, hcz33_1, hfz33_1, hcz33_2, hfz33_2⟩ := tc3_ BK262; have hnb34 := NB263_264.out; have hnc34 := NB264_263.out; obtain ⟨hcz35_0, hfz35_0, hcz35_1, hfz35_1, hcz35_2, hfz35_2⟩ := tc3_ BK263) | ((with_reducible refine gate_callee (f := 17) rfl ?_); refine gL_ 28 Try.func17 #[.agg #[.int .i64 a0_0, .slice A0_1 l0_1.length c0_1, .slice A0_2 l0_2.length c0_2], .agg #[.int .i64 a1_0, .slice A1_1 l1_1.length c1_1, .slice A1_2 l1_2.length c1_2], .int .i64 9] ?_; (with_reducible refine (spec_l06Pairs.calls kj3 a0_0 _ _ l0_1 _ _ l0_2 a1_0 _ _ l1_1 _ _ l1_2 9 t268 true _ ?side1 ?side2 ?side3 ?side4 ?side5 ?side6 ?side7 ?side8 A28.out).mono ?_); (case side1 => exact bC_ HR0_1 HB); (case side2 => exact HC0_1.out); (case side3 => exact bC_ HR0_2 HB); (case side4 => exact HC0_2.out); (case side5 => exact bC_ HR1_1 HB); (case side6 => exact HC1_1.out); (case side7 => exact bC_ HR1_2 HB); (case side8 => exact HC1_2.out); rintro e w36 ⟨v269, rfl, ho0, hb⟩; refine ⟨_, rfl, ?_⟩; have HO270 := as_ (Kd.V_lower (Kd.V_mono (ok' := fun k_ => k_ ≠ gb262 ∧ k_ ≠ gb263 ∧ k_ ≠ gb264) ho0 (fun k_ hk_ => ⟨(Kd.freshB (g := gb262) (o := .cells #[.int .i64 a0_0, .slice A0_1 l0_1.length c0_1, .slice A0_2 l0_2.length c0_2] 29 (0, 0)) (bk_ BK262) k_ hk_), (Kd.freshB (g := gb263) (o := .cells #[.int .i64 a1_0, .slice A1_1 l1_1.length c1_1, .slice A1_2 l1_2.length c1_2] 29 (0, 0)) (bk_ BK263) k_ hk_), (Kd.freshB (g := gb264) (o := .cells #[.int .i64 0, .slice none 0 0, .slice none 0 0] 29 (0, 0)) (bk_ BK264) k_ hk_)⟩)) (below_size (b3_ HB GE262 GE263 GE264))); replace BK262 := kb_ BK262 hb; replace BK263 := kb_ BK263 hb; replace BK264 := kb_ BK264 hb; replace HB := as_ (below_step (b3_ HB GE262 GE263 GE264) hb); clear hb ho0; obtain ⟨hcz37_0, hfz37_0, hcz37_1, hfz37_1, hcz37_2, hfz37_2⟩ := tc3_ BK262; obtain ⟨hcz38_0, hfz38_0, hcz38_1, hfz38_1, hcz38_2, hfz38_2⟩ := tc3_ BK263; obtain ⟨Ao39, co39, eo39⟩ := Kd.V_slice HO270.out; subst eo39) | ((with_reducible refine gate_callee (f := 27) rfl ?_); refine gL_ 38 Try.func27 #[.agg #[.int .i64 a0_0, .slice A0_1 l0_1.length c0_1, .slice A0_2 l0_2.length c0_2], .agg #[.int .i64 a1_0, .slice A1_1 l1_1.length c1_1, .slice A1_2 l1_2.length c1_2], .slice Ao39 t268.length co39, .int .i64 a2] ?_; (with_reducible refine (spec_l06Combined.calls kj3 a0_0 _ _ l0_1 _ _ l0_2 a1_0 _ _ l1_1 _ _ l1_2 _ _ t268 a2 t272 t273 t276 _ ?side1 ?side2 ?side3 ?side4 ?side5 ?side6 ?side7 ?side8 ?side9 ?side10 A30.out).mono ?_); (case side1 => exact bC_ HR0_1 HB); (case side2 => exact HC0_1.out); (case side3 => exact bC_ HR0_2 HB); (case side4 => exact HC0_2.out); (case side5 => exact bC_ HR1_1 HB); (case side6 => exact HC1_1.out); (case side7 => exact bC_ HR1_2 HB); (case side8 => exact HC1_2.out); (case side9 => repeat (first | exact (Kd.V_reads' HO270.out).2.2 | (with_reducible refine Kd.C_alloc ?_ _) | (with_reducible refine Kd.C_drewN ?_ _) | (with_reducible refine Kd.C_drew ?_))); (case side10 => exact (Kd.V_reads' HO270.out).2.1); rintro e w40 ⟨v274, v277, rfl, ho0, ho1, hb⟩; refine ⟨_, rfl, ?_⟩; replace HO270 := as_ (Kd.V_mono (Kd.V_told (Kd.V_told (Kd.V_old (iV_ HO270) hb) (Kd.S_base ho0)) (Kd.R_base ho1)) (fun _ h_ => h_.1)); have HO275 := as_ (Kd.S_lower ho0 (below_size (b3_ HB GE262 GE263 GE264))); have HO278 := as_ (Kd.R_lower ho1 (below_size (b3_ HB GE262 GE263 GE264))); replace BK262 := kb_ BK262 hb; replace BK263 := kb_ BK263 hb; replace BK264 := kb_ BK264 hb; replace HB := as_ (below_step (b3_ HB GE262 GE263 GE264) hb); clear hb ho0 ho1; obtain ⟨hcz41_0, hfz41_0, hcz41_1, hfz41_1, hcz41_2, hfz41_2⟩ := tc3_ BK264; obtain ⟨Ao42, co42, eo42⟩ := Kd.S_slice HO275.out; subst eo42; obtain ⟨Ao43, co43, eo43⟩ := Kd.R_slice HO278.out; subst eo43))
      refine bodyPost_ret (results_ct rfl _ _ gb264 29 #[.int .i64 t272, .slice Ao42 t273.length co42, .slice Ao43 t276.length co43] (0, 0) _ rfl (bp_ BK264) Try.underlying29 rfl (by kernel_rfl)) rfl ?_
      exact ⟨_, _, re_, iS1_ HO275 BK264, fR1_ HO278 BK264, b3_ HB GE262 GE263 GE264⟩

def impl_isState.f (a0_0 : Int) (l0_1 : List (List Int)) (l0_2 : List Int) (a1 : Int) : Option (Bool) := if a1 ≥ 0 then (some (decide (a1 < (l0_1.length : Int)))) else (some false)
set_option maxHeartbeats 8000000 in
set_option maxRecDepth 100000 in
theorem impl_isState.calls (a0_0 : Int) (A0_1 : Option Addr) (c0_1 : Nat) (l0_1 : List (List Int)) (A0_2 : Option Addr) (c0_2 : Nat) (l0_2 : List Int) (a1 : Int) (r : Bool) (w : World) (hr0_1 : Kd.C (Kd.slice 2 (Kd.int .i64)) w A0_1 l0_1.length l0_1) (hc0_1 : l0_1.length ≤ c0_1) (hr0_2 : Kd.C (Kd.int .i64) w A0_2 l0_2.length l0_2) (hc0_2 : l0_2.length ≤ c0_2) (h : impl_isState.f a0_0 l0_1 l0_2 a1 = some r) :
    Calls Try.prog 34 #[.agg #[.int .i64 a0_0, .slice A0_1 l0_1.length c0_1, .slice A0_2 l0_2.length c0_2], .int .i64 a1] w fun e w' => e = .returned (.bool r) ∧ Below w.heap.size w w' := by
  have hu29 := Try.underlying29
  have HR0_1 := as_ hr0_1
  have HC0_1 := as_ hc0_1
  clear hr0_1 hc0_1
  have HR0_2 := as_ hr0_2
  have HC0_2 := as_ hc0_2
  clear hr0_2 hc0_2
  have HB := as_ (Below.refl w.heap.size w)
  have H : (if a1 ≥ 0 then (some (decide (a1 < (l0_1.length : Int)))) else (some false)) = some r := h
  clear h
  by_cases c3 : a1 ≥ 0
  · rw [if_pos c3] at H
    have c3b0 := decide_eq_true c3
    clear c3
    obtain rfl := Option.some.inj H
    go_enter Try.func34, Try.ntmps34
    go_wp2_with (first | ((with_reducible refine gate_dst (N := 2) rfl ?_); (try (refine gate_guard (by rfl) ?_; dsimp only)); refine bx_ 2 #[.int .i64 a0_0, .slice A0_1 l0_1.length c0_1, .slice A0_2 l0_2.length c0_2] 29 ?_; intro gb279 hg w4 hbox hb; have BK279 := as_ (hbox); have GW279 := gz_ hg (b_ HB); have GE279 := GW279; replace HB := as_ (below_step (b_ HB) hb); clear hb hbox hg; obtain ⟨hcz5_0, hfz5_0, hcz5_1, hfz5_1, hcz5_2, hfz5_2⟩ := tc3_ BK279))
    go_ret
    exact ⟨re_, b1_ HB GE279⟩
  rw [if_neg c3] at H
  have c3b0 := decide_eq_false c3
  clear c3
  obtain rfl := Option.some.inj H
  go_enter Try.func34, Try.ntmps34
  go_wp2_with (first | ((with_reducible refine gate_dst (N := 2) rfl ?_); (try (refine gate_guard (by rfl) ?_; dsimp only)); refine bx_ 2 #[.int .i64 a0_0, .slice A0_1 l0_1.length c0_1, .slice A0_2 l0_2.length c0_2] 29 ?_; intro gb279 hg w6 hbox hb; have BK279 := as_ (hbox); have GW279 := gz_ hg (b_ HB); have GE279 := GW279; replace HB := as_ (below_step (b_ HB) hb); clear hb hbox hg))
  go_ret
  exact ⟨re_, b1_ HB GE279⟩

mutual
def impl_IsAutomaton.j0 : Nat → Bool → Int → List (List Int) → List Int → Option (Bool)
  | 0, _, _, _, _ => none
  | k + 1, x25, x281000, x281001, x281002 => if x25 = true then (some false) else (impl_IsAutomaton.l0 k x281001 (x281001.length : Int) 0 x281000 x281001 x281002)
def impl_IsAutomaton.l0 : Nat → List (List Int) → Int → Int → Int → List (List Int) → List Int → Option (Bool)
  | 0, _, _, _, _, _, _ => none
  | k + 1, x27, x28, x29, x281000, x281001, x281002 => if x29 < x28 then (if 0 ≤ x29 then (if x29 < (x27.length : Int) then (if ((rd_L1 x27 x29).length : Int) = (x281001.length : Int) then (impl_IsAutomaton.l1 k x27 x28 x29 (rd_L1 x27 x29) ((rd_L1 x27 x29).length : Int) 0 x281000 x281001 x281002) else (some false)) else (none)) else (none)) else (impl_IsAutomaton.l2 k x281002 (x281002.length : Int) 0 x281000 x281001 x281002)
def impl_IsAutomaton.l1 : Nat → List (List Int) → Int → Int → List Int → Int → Int → Int → List (List Int) → List Int → Option (Bool)
  | 0, _, _, _, _, _, _, _, _, _ => none
  | k + 1, x27, x28, x29, x39, x40, x41, x281000, x281001, x281002 => if x41 < x40 then (if 0 ≤ x41 then (if x41 < (x39.length : Int) then ((impl_isState.f x281000 x281001 x281002 (rd x39 x41)).bind fun t284 => (if t284 = true then (impl_IsAutomaton.l1 k x27 x28 x29 x39 x40 (wrap64 (x41 + 1)) x281000 x281001 x281002) else (some false))) else (none)) else (none)) else (impl_IsAutomaton.l0 k x27 x28 (wrap64 (x29 + 1)) x281000 x281001 x281002)
def impl_IsAutomaton.l2 : Nat → List Int → Int → Int → Int → List (List Int) → List Int → Option (Bool)
  | 0, _, _, _, _, _, _ => none
  | k + 1, x52, x53, x54, x281000, x281001, x281002 => if x54 < x53 then (if 0 ≤ x54 then (if x54 < (x52.length : Int) then ((impl_isState.f x281000 x281001 x281002 (rd x52 x54)).bind fun t286 => (if t286 = true then (if x54 > 0 then (if 0 ≤ (wrap64 (x54 - 1)) then (if (wrap64 (x54 - 1)) < (x281002.length : Int) then (if (rd x52 x54) ≤ (rd x281002 (wrap64 (x54 - 1))) then (some false) else (impl_IsAutomaton.l2 k x52 x53 (wrap64 (x54 + 1)) x281000 x281001 x281002)) else (none)) else (none)) else (impl_IsAutomaton.l2 k x52 x53 (wrap64 (x54 + 1)) x281000 x281001 x281002)) else (some false))) else (none)) else (none)) else (some true)
end
def impl_IsAutomaton.f (k : Nat) (a0_0 : Int) (l0_1 : List (List Int)) (l0_2 : List Int) : Option (Bool) := if (l0_1.length : Int) < 1 then (impl_IsAutomaton.j0 k true a0_0 l0_1 l0_2) else (if (l0_1.length : Int) > 9 then (impl_IsAutomaton.j0 k true a0_0 l0_1 l0_2) else ((impl_isState.f a0_0 l0_1 l0_2 a0_0).bind fun t281 => (impl_IsAutomaton.j0 k (!t281) a0_0 l0_1 l0_2)))
set_option maxHeartbeats 8000000 in
set_option maxRecDepth 100000 in
theorem impl_IsAutomaton.calls (k : Nat) (a0_0 : Int) (A0_1 : Option Addr) (c0_1 : Nat) (l0_1 : List (List Int)) (A0_2 : Option Addr) (c0_2 : Nat) (l0_2 : List Int) (r : Bool) (w : World) (hr0_1 : Kd.C (Kd.slice 2 (Kd.int .i64)) w A0_1 l0_1.length l0_1) (hc0_1 : l0_1.length ≤ c0_1) (hr0_2 : Kd.C (Kd.int .i64) w A0_2 l0_2.length l0_2) (hc0_2 : l0_2.length ≤ c0_2) (h : impl_IsAutomaton.f k a0_0 l0_1 l0_2 = some r) :
    Calls Try.prog 21 #[.agg #[.int .i64 a0_0, .slice A0_1 l0_1.length c0_1, .slice A0_2 l0_2.length c0_2]] w fun e w' => e = .returned (.bool r) ∧ Below w.heap.size w w' := by
  have hu29 := Try.underlying29
  have HR0_1 := as_ hr0_1
  have HC0_1 := as_ hc0_1
  clear hr0_1 hc0_1
  have HR0_2 := as_ hr0_2
  have HC0_2 := as_ hc0_2
  clear hr0_2 hc0_2
  have HB := as_ (Below.refl w.heap.size w)
  have H : (if (l0_1.length : Int) < 1 then (impl_IsAutomaton.j0 k true a0_0 l0_1 l0_2) else (if (l0_1.length : Int) > 9 then (impl_IsAutomaton.j0 k true a0_0 l0_1 l0_2) else ((impl_isState.f a0_0 l0_1 l0_2 a0_0).bind fun t281 => (impl_IsAutomaton.j0 k (!t281) a0_0 l0_1 l0_2)))) = some r := h
  clear h
  have HC2 := as_ H
  clear H
  go_enter Try.func21, Try.ntmps21
  go_upto_region 1 with (first | ((with_reducible refine gate_dst (N := 1) rfl ?_); (try (refine gate_guard (by rfl) ?_; dsimp only)); refine bx_ 1 #[.int .i64 a0_0, .slice A0_1 l0_1.length c0_1, .slice A0_2 l0_2.length c0_2] 29 ?_; intro gb280 hg w3 hbox hb; have BK280 := as_ (hbox); have GW280 := gz_ hg (b_ HB); have GE280 := GW280; replace HB := as_ (below_step (b_ HB) hb); clear hb hbox hg))
  (try simp only [Act.put, List.setIfInBounds_toArray, List.set_cons_zero, List.set_cons_succ])
  go_cut [25] (fun v25 wc => ∃ (kq : Nat) (x25_1 : Bool), v25 = .bool x25_1 ∧ Aside0 (impl_IsAutomaton.j0 kq x25_1 a0_0 l0_1 l0_2 = some r) ∧ Aside0 (kq ≤ k) ∧ Aside0 (wc.heap[gb280]? = some (.cells #[.int .i64 a0_0, (.slice A0_1 l0_1.length c0_1), (.slice A0_2 l0_2.length c0_2)] 29 (0, 0))) ∧ Aside0 (Below w.heap.size w wc))
  case first =>
    have H := HC2.out
    clear HC2
    by_cases c4 : (l0_1.length : Int) < 1
    · rw [if_pos c4] at H
      have c4b0 := decide_eq_true c4
      have c4b1 : decide (l0_1.length < 1) = true := decide_eq_true (by omega)
      clear c4
      (first | rw [c4b0] | (simp only [i64_w, i32_w]; rw [c4b0]) | skip)
      have H' := as_ H
      clear H
      obtain ⟨hcz5_0, hfz5_0, hcz5_1, hfz5_1, hcz5_2, hfz5_2⟩ := tc3_ BK280
      go_wp2
      go_meet
      case rel => exact ⟨_, (true), rf_, H', ⟨by first | omega | exact Nat.le_refl _⟩, ⟨bk_ BK280⟩, ⟨b1_ HB GE280⟩⟩
    rw [if_neg c4] at H
    have c4b0 := decide_eq_false c4
    have c4b1 : decide (l0_1.length < 1) = false := decide_eq_false (by omega)
    clear c4
    (first | rw [c4b0] | (simp only [i64_w, i32_w]; rw [c4b0]) | skip)
    by_cases c6 : (l0_1.length : Int) > 9
    · rw [if_pos c6] at H
      have c6b0 := decide_eq_true c6
      have c6b1 : decide (9 < l0_1.length) = true := decide_eq_true (by omega)
      clear c6
      have H' := as_ H
      clear H
      obtain ⟨hcz7_0, hfz7_0, hcz7_1, hfz7_1, hcz7_2, hfz7_2⟩ := tc3_ BK280
      go_wp2
      go_meet
      case rel => exact ⟨_, (true), rf_, H', ⟨by first | omega | exact Nat.le_refl _⟩, ⟨bk_ BK280⟩, ⟨b1_ HB GE280⟩⟩
    rw [if_neg c6] at H
    have c6b0 := decide_eq_false c6
    have c6b1 : decide (9 < l0_1.length) = false := decide_eq_false (by omega)
    clear c6
    obtain ⟨t281, A8, H⟩ := bo_ H
    have H' := as_ H
    clear H
    obtain ⟨hcz9_0, hfz9_0, hcz9_1, hfz9_1, hcz9_2, hfz9_2⟩ := tc3_ BK280
    go_wp2_with (first | (go_at_call 34; (with_reducible refine (impl_isState.calls a0_0 _ _ l0_1 _ _ l0_2 a0_0 t281 _ ?side1 ?side2 ?side3 ?side4 A8.out).mono ?_); (case side1 => exact bC_ HR0_1 HB); (case side2 => exact HC0_1.out); (case side3 => exact bC_ HR0_2 HB); (case side4 => exact HC0_2.out); rintro e w10 ⟨rfl, hb⟩; replace BK280 := kb_ BK280 hb; replace HB := as_ (below_step (b1_ HB GE280) hb); clear hb))
    go_meet
    case rel => exact ⟨_, (!t281), rf_, H', ⟨by first | omega | exact Nat.le_refl _⟩, ⟨bk_ BK280⟩, ⟨b1_ HB GE280⟩⟩
  case rest =>
    clear HC2
    (try clear c2); (try clear p2); (try clear c4); (try clear c4b0); (try clear c4b1); (try clear c6); (try clear c6b0); (try clear c6b1); (try clear hcz5_0); (try clear hcz5_1); (try clear hcz5_2); (try clear hcz7_0); (try clear hcz7_1); (try clear hcz7_2); (try clear hcz9_0); (try clear hcz9_1); (try clear hcz9_2); (try clear hfz5_0); (try clear hfz5_1); (try clear hfz5_2); (try clear hfz7_0); (try clear hfz7_1); (try clear hfz7_2); (try clear hfz9_0); (try clear hfz9_1); (try clear hfz9_2)
    obtain ⟨kq, x25_1, rfl, HA, HJ1, BK280, HB⟩ := hcut
    cases kq with
    | zero => exact absurd HA.out (by simp [impl_IsAutomaton.j0])
    | succ kj1 =>
      have H := HA.out
      clear HA
      simp only [impl_IsAutomaton.j0] at H
      by_cases c11 : x25_1 = true
      · subst c11
        replace H := it_ H
        obtain rfl := Option.some.inj H
        go_wp2
        go_ret
        exact ⟨re_, b1_ HB GE280⟩
      replace c11 := Bool.eq_false_iff.mpr c11
      subst c11
      replace H := if_ H
      have H' := as_ H
      clear H
      obtain ⟨hcz12_0, hfz12_0, hcz12_1, hfz12_1, hcz12_2, hfz12_2⟩ := tc3_ BK280
      go_wp2
      go_loopg [29] kj1 (fun kq v29 w' => ∃ (x29_2 : Int), v29 = .int .i64 x29_2 ∧ Aside0 (impl_IsAutomaton.l0 kq l0_1 (l0_1.length : Int) x29_2 a0_0 l0_1 l0_2 = some r) ∧ Aside0 (kq ≤ kj1) ∧ Aside0 (w'.heap[gb280]? = some (.cells #[.int .i64 a0_0, (.slice A0_1 l0_1.length c0_1), (.slice A0_2 l0_2.length c0_2)] 29 (0, 0))) ∧ Aside0 (Below w.heap.size w w'))
      case atStart => exact ⟨(0), rf_, H', ⟨Nat.le_refl _⟩, ⟨bk_ BK280⟩, ⟨b1_ HB GE280⟩⟩
      case round =>
        clear H'
        (try clear c1); (try clear c2); (try clear p2); (try clear c4); (try clear c4b0); (try clear c4b1); (try clear c6); (try clear c6b0); (try clear c6b1); (try clear c11); (try clear hcz12_0); (try clear hcz12_1); (try clear hcz12_2); (try clear hcz5_0); (try clear hcz5_1); (try clear hcz5_2); (try clear hcz7_0); (try clear hcz7_1); (try clear hcz7_2); (try clear hcz9_0); (try clear hcz9_1); (try clear hcz9_2); (try clear hfz12_0); (try clear hfz12_1); (try clear hfz12_2); (try clear hfz5_0); (try clear hfz5_1); (try clear hfz5_2); (try clear hfz7_0); (try clear hfz7_1); (try clear hfz7_2); (try clear hfz9_0); (try clear hfz9_1); (try clear hfz9_2); (try clear p2)
        obtain ⟨x29_2, rfl, HA, HK2, BK280, HB⟩ := hrel
        cases gk with
        | zero => exact absurd HA.out (by simp [impl_IsAutomaton.l0])
        | succ k2 =>
          have H := HA.out
          clear HA
          simp only [impl_IsAutomaton.l0] at H
          by_cases c13 : x29_2 < (l0_1.length : Int)
          · rw [if_pos c13] at H
            have c13b0 := decide_eq_true c13
            clear c13
            obtain ⟨c14b0, H⟩ := ite_d H
            obtain ⟨c15b0, H⟩ := ite_d H
            by_cases c16 : ((rd_L1 l0_1 x29_2).length : Int) = (l0_1.length : Int)
            rotate_left
            · rw [if_neg c16] at H
              have c16b0 := beq_eq_false_iff_ne.mpr c16
              have c16b1 := bne_iff_ne.mpr c16
              have c16b2 : ((rd_L1 l0_1 x29_2).length == l0_1.length) = false := by first | simpa using c16 | (simp at c16 ⊢; omega)
              obtain rfl := Option.some.inj H
              have p282 : 0 ≤ (x29_2 : Int) := od_
              have q282 : x29_2 < (l0_1.length : Int) := od_
              obtain ⟨ad282, A282_0, c282_0, e282, hx282_0, hl282_0, hi282_0⟩ := at_L1 HR0_1.out x29_2 p282 q282
              cases e282
              try replace hx282_0 := hx_ HB hx282_0
              have HR282_0 := as_ hi282_0
              have HC282_0 := as_ hl282_0
              clear hi282_0 hl282_0
              replace p282 := eq_true p282
              replace q282 := eq_true q282
              obtain ⟨hcz27_0, hfz27_0, hcz27_1, hfz27_1, hcz27_2, hfz27_2⟩ := tc3_ BK280
              go_wp2
              go_ret
              exact ⟨re_, b1_ HB GE280⟩
            rw [if_pos c16] at H
            have c16b0 := beq_iff_eq.mpr c16
            have c16b1 := bne_eq_false_iff_eq.mpr c16
            have c16b2 : ((rd_L1 l0_1 x29_2).length == l0_1.length) = true := by first | simpa using c16 | (simp at c16 ⊢; omega)
            clear c16
            have H' := as_ H
            clear H
            have p282 : 0 ≤ (x29_2 : Int) := od_
            have q282 : x29_2 < (l0_1.length : Int) := od_
            obtain ⟨ad282, A282_0, c282_0, e282, hx282_0, hl282_0, hi282_0⟩ := at_L1 HR0_1.out x29_2 p282 q282
            cases e282
            try replace hx282_0 := hx_ HB hx282_0
            have HR282_0 := as_ hi282_0
            have HC282_0 := as_ hl282_0
            clear hi282_0 hl282_0
            replace p282 := eq_true p282
            replace q282 := eq_true q282
            obtain ⟨hcz17_0, hfz17_0, hcz17_1, hfz17_1, hcz17_2, hfz17_2⟩ := tc3_ BK280
            go_wp2
            go_loopg [41] k2 (fun kq v41 w' => ∃ (x41_3 : Int), v41 = .int .i64 x41_3 ∧ Aside0 (impl_IsAutomaton.l1 kq l0_1 (l0_1.length : Int) x29_2 (rd_L1 l0_1 x29_2) ((rd_L1 l0_1 x29_2).length : Int) x41_3 a0_0 l0_1 l0_2 = some r) ∧ Aside0 (kq ≤ k2) ∧ Aside0 (w'.heap[gb280]? = some (.cells #[.int .i64 a0_0, (.slice (some ad282) l0_1.length c0_1), (.slice A0_2 l0_2.length c0_2)] 29 (0, 0))) ∧ Aside0 (Below w.heap.size w w'))
            case atStart => exact ⟨(0), rf_, H', ⟨Nat.le_refl _⟩, ⟨bk_ BK280⟩, ⟨b1_ HB GE280⟩⟩
            case round =>
              clear H'
              (try clear c1); (try clear c2); (try clear p2); (try clear q2); (try clear hx2); (try clear c4); (try clear c4b0); (try clear c4b1); (try clear c6); (try clear c6b0); (try clear c6b1); (try clear c11); (try clear c13); (try clear c13b0); (try clear c14); (try clear c14b0); (try clear c15); (try clear c15b0); (try clear c16); (try clear c16b0); (try clear c16b1); (try clear c16b2); (try clear hcz12_0); (try clear hcz12_1); (try clear hcz12_2); (try clear hcz17_0); (try clear hcz17_1); (try clear hcz17_2); (try clear hcz5_0); (try clear hcz5_1); (try clear hcz5_2); (try clear hcz7_0); (try clear hcz7_1); (try clear hcz7_2); (try clear hcz9_0); (try clear hcz9_1); (try clear hcz9_2); (try clear hfz12_0); (try clear hfz12_1); (try clear hfz12_2); (try clear hfz17_0); (try clear hfz17_1); (try clear hfz17_2); (try clear hfz5_0); (try clear hfz5_1); (try clear hfz5_2); (try clear hfz7_0); (try clear hfz7_1); (try clear hfz7_2); (try clear hfz9_0); (try clear hfz9_1); (try clear hfz9_2); (try clear hx282_0); (try clear p2); (try clear p282); (try clear q282)
              obtain ⟨x41_3, rfl, HA, HK3, BK280, HB⟩ := hrel
              cases gk with
              | zero => exact absurd HA.out (by simp [impl_IsAutomaton.l1])
              | succ k3 =>
                have H := HA.out
                clear HA
                simp only [impl_IsAutomaton.l1] at H
                by_cases c18 : x41_3 < ((rd_L1 l0_1 x29_2).length : Int)
                rotate_left
                · rw [if_neg c18] at H
                  have c18b0 := decide_eq_false c18
                  clear c18
                  have H' := as_ H
                  clear H
                  go_wp2
                  go_roundg k3
                  case measure => have := HJ1.out; have := HK2.out; have := HK3.out; omega
                  case rel => exact ⟨(wrap64 (x29_2 + 1)), rf_, H', ⟨by have := HJ1.out; have := HK2.out; have := HK3.out; omega⟩, ⟨bk_ BK280⟩, ⟨b1_ HB GE280⟩⟩
                rw [if_pos c18] at H
                have c18b0 := decide_eq_true c18
                clear c18
                obtain ⟨c19b0, H⟩ := ite_d H
                obtain ⟨c20b0, H⟩ := ite_d H
                obtain ⟨t284, A21, H⟩ := bo_ H
                by_cases c22 : t284 = true
                · subst c22
                  replace H := it_ H
                  have H' := as_ H
                  clear H
                  have p283 : 0 ≤ (x41_3 : Int) := od_
                  have q283 : x41_3 < ((rd_L1 l0_1 x29_2).length : Int) := od_
                  obtain ⟨ad283, e283, hx283_0⟩ := Kd.at_int HR282_0.out x41_3 p283 q283
                  cases e283
                  try replace hx283_0 := hx_ HB hx283_0
                  replace p283 := eq_true p283
                  replace q283 := eq_true q283
                  obtain ⟨hcz23_0, hfz23_0, hcz23_1, hfz23_1, hcz23_2, hfz23_2⟩ := tc3_ BK280
                  go_wp2_with (first | ((with_reducible refine gate_callee (f := 34) rfl ?_); refine gL_ 47 Try.func34 #[.agg #[.int .i64 a0_0, .slice (some ad282) l0_1.length c0_1, .slice A0_2 l0_2.length c0_2], .int .i64 (rd (rd_L1 l0_1 x29_2) x41_3)] ?_; (with_reducible refine (impl_isState.calls a0_0 _ _ l0_1 _ _ l0_2 (rd (rd_L1 l0_1 x29_2) x41_3) true _ ?side1 ?side2 ?side3 ?side4 A21.out).mono ?_); (case side1 => exact bC_ HR0_1 HB); (case side2 => exact HC0_1.out); (case side3 => exact bC_ HR0_2 HB); (case side4 => exact HC0_2.out); rintro e w24 ⟨rfl, hb⟩; refine ⟨_, rfl, ?_⟩; replace BK280 := kb_ BK280 hb; replace HB := as_ (below_step (b1_ HB GE280) hb); clear hb))
                  go_roundg k3
                  case measure => have := HJ1.out; have := HK2.out; have := HK3.out; omega
                  case rel => exact ⟨(wrap64 (x41_3 + 1)), rf_, H', ⟨by have := HJ1.out; have := HK2.out; have := HK3.out; omega⟩, ⟨bk_ BK280⟩, ⟨b1_ HB GE280⟩⟩
                replace c22 := Bool.eq_false_iff.mpr c22
                subst c22
                replace H := if_ H
                obtain rfl := Option.some.inj H
                have p283 : 0 ≤ (x41_3 : Int) := od_
                have q283 : x41_3 < ((rd_L1 l0_1 x29_2).length : Int) := od_
                obtain ⟨ad283, e283, hx283_0⟩ := Kd.at_int HR282_0.out x41_3 p283 q283
                cases e283
                try replace hx283_0 := hx_ HB hx283_0
                replace p283 := eq_true p283
                replace q283 := eq_true q283
                obtain ⟨hcz25_0, hfz25_0, hcz25_1, hfz25_1, hcz25_2, hfz25_2⟩ := tc3_ BK280
                go_wp2_with (first | ((with_reducible refine gate_callee (f := 34) rfl ?_); refine gL_ 47 Try.func34 #[.agg #[.int .i64 a0_0, .slice (some ad282) l0_1.length c0_1, .slice A0_2 l0_2.length c0_2], .int .i64 (rd (rd_L1 l0_1 x29_2) x41_3)] ?_; (with_reducible refine (impl_isState.calls a0_0 _ _ l0_1 _ _ l0_2 (rd (rd_L1 l0_1 x29_2) x41_3) false _ ?side1 ?side2 ?side3 ?side4 A21.out).mono ?_); (case side1 => exact bC_ HR0_1 HB); (case side2 => exact HC0_1.out); (case side3 => exact bC_ HR0_2 HB); (case side4 => exact HC0_2.out); rintro e w26 ⟨rfl, hb⟩; refine ⟨_, rfl, ?_⟩; replace BK280 := kb_ BK280 hb; replace HB := as_ (below_step (b1_ HB GE280) hb); clear hb))
                go_ret
                exact ⟨re_, b1_ HB GE280⟩
          rw [if_neg c13] at H
          have c13b0 := decide_eq_false c13
          clear c13
          have H' := as_ H
          clear H
          obtain ⟨hcz28_0, hfz28_0, hcz28_1, hfz28_1, hcz28_2, hfz28_2⟩ := tc3_ BK280
          go_wp2
          go_loopg [54] k2 (fun kq v54 w' => ∃ (x54_3 : Int), v54 = .int .i64 x54_3 ∧ Aside0 (impl_IsAutomaton.l2 kq l0_2 (l0_2.length : Int) x54_3 a0_0 l0_1 l0_2 = some r) ∧ Aside0 (kq ≤ k2) ∧ Aside0 (w'.heap[gb280]? = some (.cells #[.int .i64 a0_0, (.slice A0_1 l0_1.length c0_1), (.slice A0_2 l0_2.length c0_2)] 29 (0, 0))) ∧ Aside0 (Below w.heap.size w w'))
          case atStart => exact ⟨(0), rf_, H', ⟨Nat.le_refl _⟩, ⟨bk_ BK280⟩, ⟨b1_ HB GE280⟩⟩
          case round =>
            clear H'
            (try clear c1); (try clear c2); (try clear p2); (try clear q2); (try clear hx2); (try clear c3); (try clear c4); (try clear c4b0); (try clear c4b1); (try clear c6); (try clear c6b0); (try clear c6b1); (try clear p6); (try clear c11); (try clear c13); (try clear c13b0); (try clear c14); (try clear c14b0); (try clear c15); (try clear c15b0); (try clear c16); (try clear c16b0); (try clear c16b1); (try clear c16b2); (try clear c18); (try clear c18b0); (try clear c19); (try clear c19b0); (try clear c20); (try clear c20b0); (try clear c21); (try clear c22); (try clear c28); (try clear p28); (try clear q28); (try clear hx28); (try clear hcz12_0); (try clear hcz12_1); (try clear hcz12_2); (try clear hcz17_0); (try clear hcz17_1); (try clear hcz17_2); (try clear hcz23_0); (try clear hcz23_1); (try clear hcz23_2); (try clear hcz25_0); (try clear hcz25_1); (try clear hcz25_2); (try clear hcz27_0); (try clear hcz27_1); (try clear hcz27_2); (try clear hcz28_0); (try clear hcz28_1); (try clear hcz28_2); (try clear hcz5_0); (try clear hcz5_1); (try clear hcz5_2); (try clear hcz7_0); (try clear hcz7_1); (try clear hcz7_2); (try clear hcz9_0); (try clear hcz9_1); (try clear hcz9_2); (try clear hfz12_0); (try clear hfz12_1); (try clear hfz12_2); (try clear hfz17_0); (try clear hfz17_1); (try clear hfz17_2); (try clear hfz23_0); (try clear hfz23_1); (try clear hfz23_2); (try clear hfz25_0); (try clear hfz25_1); (try clear hfz25_2); (try clear hfz27_0); (try clear hfz27_1); (try clear hfz27_2); (try clear hfz28_0); (try clear hfz28_1); (try clear hfz28_2); (try clear hfz5_0); (try clear hfz5_1); (try clear hfz5_2); (try clear hfz7_0); (try clear hfz7_1); (try clear hfz7_2); (try clear hfz9_0); (try clear hfz9_1); (try clear hfz9_2); (try clear hx282_0); (try clear hx283_0); (try clear p2); (try clear p282); (try clear p283); (try clear q2); (try clear q282); (try clear q283)
            obtain ⟨x54_3, rfl, HA, HK3, BK280, HB⟩ := hrel
            cases gk with
            | zero => exact absurd HA.out (by simp [impl_IsAutomaton.l2])
            | succ k3 =>
              have H := HA.out
              clear HA
              simp only [impl_IsAutomaton.l2] at H
              by_cases c29 : x54_3 < (l0_2.length : Int)
              rotate_left
              · rw [if_neg c29] at H
                have c29b0 := decide_eq_false c29
                clear c29
                obtain rfl := Option.some.inj H
                go_wp2
                go_ret
                exact ⟨re_, b1_ HB GE280⟩
              rw [if_pos c29] at H
              have c29b0 := decide_eq_true c29
              clear c29
              obtain ⟨c30b0, H⟩ := ite_d H
              obtain ⟨c31b0, H⟩ := ite_d H
              obtain ⟨t286, A32, H⟩ := bo_ H
              by_cases c33 : t286 = true
              rotate_left
              · replace c33 := Bool.eq_false_iff.mpr c33
                subst c33
                replace H := if_ H
                obtain rfl := Option.some.inj H
                have p285 : 0 ≤ (x54_3 : Int) := od_
                have q285 : x54_3 < (l0_2.length : Int) := od_
                obtain ⟨ad285, e285, hx285_0⟩ := Kd.at_int HR0_2.out x54_3 p285 q285
                cases e285
                try replace hx285_0 := hx_ HB hx285_0
                replace p285 := eq_true p285
                replace q285 := eq_true q285
                obtain ⟨hcz47_0, hfz47_0, hcz47_1, hfz47_1, hcz47_2, hfz47_2⟩ := tc3_ BK280
                go_wp2_with (first | ((with_reducible refine gate_callee (f := 34) rfl ?_); refine gL_ 61 Try.func34 #[.agg #[.int .i64 a0_0, .slice A0_1 l0_1.length c0_1, .slice (some ad285) l0_2.length c0_2], .int .i64 (rd l0_2 x54_3)] ?_; (with_reducible refine (impl_isState.calls a0_0 _ _ l0_1 _ _ l0_2 (rd l0_2 x54_3) false _ ?side1 ?side2 ?side3 ?side4 A32.out).mono ?_); (case side1 => exact bC_ HR0_1 HB); (case side2 => exact HC0_1.out); (case side3 => exact bC_ HR0_2 HB); (case side4 => exact HC0_2.out); rintro e w48 ⟨rfl, hb⟩; refine ⟨_, rfl, ?_⟩; replace BK280 := kb_ BK280 hb; replace HB := as_ (below_step (b1_ HB GE280) hb); clear hb))
                go_ret
                exact ⟨re_, b1_ HB GE280⟩
              subst c33
              replace H := it_ H
              by_cases c34 : x54_3 > 0
              rotate_left
              · rw [if_neg c34] at H
                have c34b0 : decide (0 < x54_3) = false := decide_eq_false c34
                clear c34
                have H' := as_ H
                clear H
                have p285 : 0 ≤ (x54_3 : Int) := od_
                have q285 : x54_3 < (l0_2.length : Int) := od_
                obtain ⟨ad285, e285, hx285_0⟩ := Kd.at_int HR0_2.out x54_3 p285 q285
                cases e285
                try replace hx285_0 := hx_ HB hx285_0
                replace p285 := eq_true p285
                replace q285 := eq_true q285
                obtain ⟨hcz45_0, hfz45_0, hcz45_1, hfz45_1, hcz45_2, hfz45_2⟩ := tc3_ BK280
                go_wp2_with (first | ((with_reducible refine gate_callee (f := 34) rfl ?_); refine gL_ 61 Try.func34 #[.agg #[.int .i64 a0_0, .slice A0_1 l0_1.length c0_1, .slice (some ad285) l0_2.length c0_2], .int .i64 (rd l0_2 x54_3)] ?_; (with_reducible refine (impl_isState.calls a0_0 _ _ l0_1 _ _ l0_2 (rd l0_2 x54_3) true _ ?side1 ?side2 ?side3 ?side4 A32.out).mono ?_); (case side1 => exact bC_ HR0_1 HB); (case side2 => exact HC0_1.out); (case side3 => exact bC_ HR0_2 HB); (case side4 => exact HC0_2.out); rintro e w46 ⟨rfl, hb⟩; refine ⟨_, rfl, ?_⟩; replace BK280 := kb_ BK280 hb; replace HB := as_ (below_step (b1_ HB GE280) hb); clear hb))
                go_roundg k3
                case measure => have := HJ1.out; have := HK2.out; have := HK3.out; omega
                case rel => exact ⟨(wrap64 (x54_3 + 1)), rf_, H', ⟨by have := HJ1.out; have := HK2.out; have := HK3.out; omega⟩, ⟨bk_ BK280⟩, ⟨b1_ HB GE280⟩⟩
              rw [if_pos c34] at H
              have c34b0 : decide (0 < x54_3) = true := decide_eq_true c34
              clear c34
              obtain ⟨ji35, hji35⟩ : ∃ j_ : Int, (wrap64 (x54_3 - 1)) = j_ := ⟨_, rfl⟩
              replace H : (if 0 ≤ (ji35) then (if (ji35) < (l0_2.length : Int) then (if (rd l0_2 x54_3) ≤ (rd l0_2 (ji35)) then (some false) else (impl_IsAutomaton.l2 k3 l0_2 (l0_2.length : Int) (wrap64 (x54_3 + 1)) a0_0 l0_1 l0_2)) else (none)) else (none)) = some r := by first | (rw [hji35] at H; exact H) | (simp only [hji35] at H ⊢; exact H)
              (try rw [hji35] at A32)
              have hji35w : (IntKind.i64.wrap (x54_3 - 1)) = ji35 := (i64_w _).trans hji35
              obtain ⟨c36b0, H⟩ := ite_d H
              obtain ⟨c37b0, H⟩ := ite_d H
              by_cases c38 : (rd l0_2 x54_3) ≤ (rd l0_2 (ji35))
              · rw [if_pos c38] at H
                have c38b0 := decide_eq_true c38
                clear c38
                obtain rfl := Option.some.inj H
                have p285 : 0 ≤ (x54_3 : Int) := od_
                have q285 : x54_3 < (l0_2.length : Int) := od_
                obtain ⟨ad285, e285, hx285_0⟩ := Kd.at_int HR0_2.out x54_3 p285 q285
                cases e285
                try replace hx285_0 := hx_ HB hx285_0
                replace p285 := eq_true p285
                replace q285 := eq_true q285
                obtain ⟨hcz39_0, hfz39_0, hcz39_1, hfz39_1, hcz39_2, hfz39_2⟩ := tc3_ BK280
                go_wp2_with (first | ((with_reducible refine gate_callee (f := 34) rfl ?_); refine gL_ 61 Try.func34 #[.agg #[.int .i64 a0_0, .slice A0_1 l0_1.length c0_1, .slice (some ad285) l0_2.length c0_2], .int .i64 (rd l0_2 x54_3)] ?_; (with_reducible refine (impl_isState.calls a0_0 _ _ l0_1 _ _ l0_2 (rd l0_2 x54_3) true _ ?side1 ?side2 ?side3 ?side4 A32.out).mono ?_); (case side1 => exact bC_ HR0_1 HB); (case side2 => exact HC0_1.out); (case side3 => exact bC_ HR0_2 HB); (case side4 => exact HC0_2.out); rintro e w40 ⟨rfl, hb⟩; refine ⟨_, rfl, ?_⟩; replace BK280 := kb_ BK280 hb; replace HB := as_ (below_step (b1_ HB GE280) hb); clear hb; obtain ⟨hcz41_0, hfz41_0, hcz41_1, hfz41_1, hcz41_2, hfz41_2⟩ := tc3_ BK280; have p287 : 0 ≤ ((ji35) : Int) := od_; have q287 : (ji35) < (l0_2.length : Int) := od_; obtain ⟨ad287, e287, hx287_0⟩ := Kd.at_int HR0_2.out (ji35) p287 q287; obtain rfl : ad285 = ad287 := (by injection e287); replace hx287_0 := (HB.out.cell (World.block_lt_of_cell? w _ hx287_0)).trans hx287_0; replace p287 := eq_true p287; replace q287 := eq_true q287))
                go_ret
                exact ⟨by first | rfl | (simp [errW_none, errW_some] <;> rfl) | (simp only [← hji35]; first | rfl | (simp [errW_none, errW_some] <;> rfl)) | (simp [*, errW_none, errW_some] <;> rfl), b1_ HB GE280⟩
              rw [if_neg c38] at H
              have c38b0 := decide_eq_false c38
              clear c38
              have H' := as_ H
              clear H
              have p285 : 0 ≤ (x54_3 : Int) := od_
              have q285 : x54_3 < (l0_2.length : Int) := od_
              obtain ⟨ad285, e285, hx285_0⟩ := Kd.at_int HR0_2.out x54_3 p285 q285
              cases e285
              try replace hx285_0 := hx_ HB hx285_0
              replace p285 := eq_true p285
              replace q285 := eq_true q285
              obtain ⟨hcz42_0, hfz42_0, hcz42_1, hfz42_1, hcz42_2, hfz42_2⟩ := tc3_ BK280
              go_wp2_with (first | ((with_reducible refine gate_callee (f := 34) rfl ?_); refine gL_ 61 Try.func34 #[.agg #[.int .i64 a0_0, .slice A0_1 l0_1.length c0_1, .slice (some ad285) l0_2.length c0_2], .int .i64 (rd l0_2 x54_3)] ?_; (with_reducible refine (impl_isState.calls a0_0 _ _ l0_1 _ _ l0_2 (rd l0_2 x54_3) true _ ?side1 ?side2 ?side3 ?side4 A32.out).mono ?_); (case side1 => exact bC_ HR0_1 HB); (case side2 => exact HC0_1.out); (case side3 => exact bC_ HR0_2 HB); (case side4 => exact HC0_2.out); rintro e w43 ⟨rfl, hb⟩; refine ⟨_, rfl, ?_⟩; replace BK280 := kb_ BK280 hb; replace HB := as_ (below_step (b1_ HB GE280) hb); clear hb; obtain ⟨hcz44_0, hfz44_0, hcz44_1, hfz44_1, hcz44_2, hfz44_2⟩ := tc3_ BK280; have p287 : 0 ≤ ((ji35) : Int) := od_; have q287 : (ji35) < (l0_2.length : Int) := od_; obtain ⟨ad287, e287, hx287_0⟩ := Kd.at_int HR0_2.out (ji35) p287 q287; obtain rfl : ad285 = ad287 := (by injection e287); replace hx287_0 := (HB.out.cell (World.block_lt_of_cell? w _ hx287_0)).trans hx287_0; replace p287 := eq_true p287; replace q287 := eq_true q287))
              go_roundg k3
              case measure => have := HJ1.out; have := HK2.out; have := HK3.out; omega
              case rel => exact ⟨(wrap64 (x54_3 + 1)), rf_, H', ⟨by have := HJ1.out; have := HK2.out; have := HK3.out; omega⟩, ⟨bk_ BK280⟩, ⟨b1_ HB GE280⟩⟩

def impl_couple_28.l0 : Nat → List (S48) → Int → Int → Int → Int → Option (Int)
  | 0, _, _, _, _, _ => none
  | k + 1, x0, x7, x8, x289000, x289001 => if x8 < x7 then (if 0 ≤ x8 then (if x8 < (x0.length : Int) then (if (x289000 == ((rd_T48 x0 x8).f0) && (x289001 == ((rd_T48 x0 x8).f1))) = true then (some x8) else (impl_couple_28.l0 k x0 x7 (wrap64 (x8 + 1)) x289000 x289001)) else (none)) else (none)) else (some (-1))
def impl_couple_28.f (k : Nat) (l0 : List (S48)) (a1_0 : Int) (a1_1 : Int) : Option (Int) := impl_couple_28.l0 k l0 (l0.length : Int) 0 a1_0 a1_1
set_option maxHeartbeats 8000000 in
set_option maxRecDepth 100000 in
theorem impl_couple_28.calls (k : Nat) (A0 : Option Addr) (c0 : Nat) (l0 : List (S48)) (a1_0 : Int) (a1_1 : Int) (r : Int) (w : World) (hr0 : Kd.C k48 w A0 l0.length l0) (hc0 : l0.length ≤ c0) (h : impl_couple_28.f k l0 a1_0 a1_1 = some r) :
    Calls Try.prog 28 #[.slice A0 l0.length c0, .agg #[.int .i64 a1_0, .int .i64 a1_1]] w fun e w' => e = .returned (.int .i64 r) ∧ Below w.heap.size w w' := by
  have hu48 := Try.underlying48
  have HR0 := as_ hr0
  have HC0 := as_ hc0
  clear hr0 hc0
  have HB := as_ (Below.refl w.heap.size w)
  have H : (impl_couple_28.l0 k l0 (l0.length : Int) 0 a1_0 a1_1) = some r := h
  clear h
  have H' := as_ H
  clear H
  go_enter Try.func28, Try.ntmps28
  go_wp2_with (first | ((with_reducible refine gate_dst (N := 3) rfl ?_); refine bx_ 3 #[.int .i64 a1_0, .int .i64 a1_1] 48 ?_; intro gb288 hg w3 hbox hb; have BK288 := as_ (hbox); have GW288 := gz_ hg (b_ HB); have GE288 := GW288; replace HB := as_ (below_step (b_ HB) hb); clear hb hbox hg))
  repeat (go_quiet (first | ((with_reducible refine gate_dst (N := 3) rfl ?_); refine bx_ 3 #[.int .i64 a1_0, .int .i64 a1_1] 48 ?_; intro gb288 hg w3 hbox hb; have BK288 := as_ (hbox); have GW288 := gz_ hg (b_ HB); have GE288 := GW288; replace HB := as_ (below_step (b_ HB) hb); clear hb hbox hg)); try go_wp2_with (first | ((with_reducible refine gate_dst (N := 3) rfl ?_); refine bx_ 3 #[.int .i64 a1_0, .int .i64 a1_1] 48 ?_; intro gb288 hg w3 hbox hb; have BK288 := as_ (hbox); have GW288 := gz_ hg (b_ HB); have GE288 := GW288; replace HB := as_ (below_step (b_ HB) hb); clear hb hbox hg)))
  go_loopg [8] k (fun kq v8 w' => ∃ (x8_1 : Int), v8 = .int .i64 x8_1 ∧ Aside0 (impl_couple_28.l0 kq l0 (l0.length : Int) x8_1 a1_0 a1_1 = some r) ∧ Aside0 (kq ≤ k) ∧ Aside0 (w'.heap[gb288]? = some (.cells #[.int .i64 a1_0, .int .i64 a1_1] 48 (0, 0))) ∧ Aside0 (Below w.heap.size w w'))
  case atStart => exact ⟨(0), rf_, H', ⟨Nat.le_refl _⟩, ⟨bk_ BK288⟩, ⟨b1_ HB GE288⟩⟩
  case round =>
    clear H'
    (try clear c2); (try clear p2)
    obtain ⟨x8_1, rfl, HA, HK1, BK288, HB⟩ := hrel
    cases gk with
    | zero => exact absurd HA.out (by simp [impl_couple_28.l0])
    | succ k1 =>
      have H := HA.out
      clear HA
      simp only [impl_couple_28.l0] at H
      by_cases c4 : x8_1 < (l0.length : Int)
      rotate_left
      · rw [if_neg c4] at H
        have c4b0 := decide_eq_false c4
        clear c4
        obtain rfl := Option.some.inj H
        go_wp2
        repeat (go_quiet (fail); try go_wp2)
        go_ret
        exact ⟨re_, b1_ HB GE288⟩
      rw [if_pos c4] at H
      have c4b0 := decide_eq_true c4
      clear c4
      obtain ⟨c5b0, H⟩ := ite_d H
      obtain ⟨c6b0, H⟩ := ite_d H
      by_cases c7 : (a1_0 == ((rd_T48 l0 x8_1).f0) && (a1_1 == ((rd_T48 l0 x8_1).f1))) = true
      · rw [if_pos c7] at H
        have c7b0 : (a1_0 == ((rd_T48 l0 x8_1).f0) && (a1_1 == ((rd_T48 l0 x8_1).f1))) = true := c7
        (try (have c7b1 : decide (a1_0 = ((rd_T48 l0 x8_1).f0) && (a1_1 == ((rd_T48 l0 x8_1).f1))) = true := by simpa using c7))
        (try (have c7b2 : (a1_0 == ((rd_T48 l0 x8_1).f0) && (a1_1 == ((rd_T48 l0 x8_1).f1))) = true := by simpa using c7))
        clear c7
        obtain rfl := Option.some.inj H
        obtain ⟨hcz8_0, hfz8_0, hcz8_1, hfz8_1⟩ := tc2_ BK288
        have p289 : 0 ≤ (x8_1 : Int) := od_
        have q289 : x8_1 < (l0.length : Int) := od_
        obtain ⟨ad289, e289, hx289_0, hx289_1⟩ := at_T48 HR0.out x8_1 p289 q289
        cases e289
        try replace hx289_0 := hx_ HB hx289_0
        try replace hx289_1 := hx_ HB hx289_1
        replace p289 := eq_true p289
        replace q289 := eq_true q289
        go_wp2
        repeat (go_quiet (fail); try go_wp2)
        go_ret
        exact ⟨re_, b1_ HB GE288⟩
      rw [if_neg c7] at H
      have c7b0 : (a1_0 == ((rd_T48 l0 x8_1).f0) && (a1_1 == ((rd_T48 l0 x8_1).f1))) = false := by simpa using c7
      (try (have c7b1 : decide (a1_0 = ((rd_T48 l0 x8_1).f0) && (a1_1 == ((rd_T48 l0 x8_1).f1))) = false := by simpa using c7))
      (try (have c7b2 : (a1_0 == ((rd_T48 l0 x8_1).f0) && (a1_1 == ((rd_T48 l0 x8_1).f1))) = false := by simpa using c7))
      (try (have c7b3 : ¬ (a1_0 = ((rd_T48 l0 x8_1).f0) && (a1_1 == ((rd_T48 l0 x8_1).f1))) := by simpa using c7))
      clear c7
      have H' := as_ H
      clear H
      obtain ⟨hcz9_0, hfz9_0, hcz9_1, hfz9_1⟩ := tc2_ BK288
      have p289 : 0 ≤ (x8_1 : Int) := od_
      have q289 : x8_1 < (l0.length : Int) := od_
      obtain ⟨ad289, e289, hx289_0, hx289_1⟩ := at_T48 HR0.out x8_1 p289 q289
      cases e289
      try replace hx289_0 := hx_ HB hx289_0
      try replace hx289_1 := hx_ HB hx289_1
      replace p289 := eq_true p289
      replace q289 := eq_true q289
      go_wp2
      repeat (go_quiet (fail); try go_wp2)
      go_roundg k1
      case measure => have := HK1.out; omega
      case rel => exact ⟨(wrap64 (x8_1 + 1)), rf_, H', om_ HK1, ⟨bk_ BK288⟩, ⟨b1_ HB GE288⟩⟩

def impl_couple_37.f (k : Nat) (l0 : List (S48)) (a1_0 : Int) (a1_1 : Int) : Option (Bool) := (impl_couple_28.f k l0 a1_0 a1_1).bind fun t291 => (some (decide (t291 ≥ 0)))
set_option maxHeartbeats 8000000 in
set_option maxRecDepth 100000 in
theorem impl_couple_37.calls (k : Nat) (A0 : Option Addr) (c0 : Nat) (l0 : List (S48)) (a1_0 : Int) (a1_1 : Int) (r : Bool) (w : World) (hr0 : Kd.C k48 w A0 l0.length l0) (hc0 : l0.length ≤ c0) (h : impl_couple_37.f k l0 a1_0 a1_1 = some r) :
    Calls Try.prog 37 #[.slice A0 l0.length c0, .agg #[.int .i64 a1_0, .int .i64 a1_1]] w fun e w' => e = .returned (.bool r) ∧ Below w.heap.size w w' := by
  have hu48 := Try.underlying48
  have HR0 := as_ hr0
  have HC0 := as_ hc0
  clear hr0 hc0
  have HB := as_ (Below.refl w.heap.size w)
  have H : ((impl_couple_28.f k l0 a1_0 a1_1).bind fun t291 => (some (decide (t291 ≥ 0)))) = some r := h
  clear h
  obtain ⟨t291, A3, H⟩ := bo_ H
  obtain rfl := Option.some.inj H
  go_enter Try.func37, Try.ntmps37
  go_wp2_with (first | ((with_reducible refine gate_dst (N := 3) rfl ?_); refine bx_ 3 #[.int .i64 a1_0, .int .i64 a1_1] 48 ?_; intro gb290 hg w4 hbox hb; have BK290 := as_ (hbox); have GW290 := gz_ hg (b_ HB); have GE290 := GW290; replace HB := as_ (below_step (b_ HB) hb); clear hb hbox hg; obtain ⟨hcz5_0, hfz5_0, hcz5_1, hfz5_1⟩ := tc2_ BK290) | ((with_reducible refine gate_callee (f := 28) rfl ?_); refine gL_ 7 Try.func28 #[.slice A0 l0.length c0, .agg #[.int .i64 a1_0, .int .i64 a1_1]] ?_; (with_reducible refine (impl_couple_28.calls k _ _ l0 a1_0 a1_1 t291 _ ?side1 ?side2 A3.out).mono ?_); (case side1 => exact bC_ HR0 HB); (case side2 => exact HC0.out); rintro e w6 ⟨rfl, hb⟩; refine ⟨_, rfl, ?_⟩; replace BK290 := kb_ BK290 hb; replace HB := as_ (below_step (b1_ HB GE290) hb); clear hb))
  go_ret
  exact ⟨re_, b1_ HB GE290⟩

def impl_couple_38.f (l0 : List S48) : Option (List S48) := if l0.length < 8796093022207 then some l0 else none
set_option maxHeartbeats 8000000 in
set_option maxRecDepth 100000 in
theorem impl_couple_38.calls (A0 : Option Addr) (c0 : Nat) (l0 : List S48) (r : List S48) (w : World) (hr0 : Kd.C k48 w A0 l0.length l0) (hc0 : l0.length ≤ c0) (h : impl_couple_38.f l0 = some r) :
    Calls Try.prog 38 #[.slice A0 l0.length c0] w fun e w' => ∃ v0_ : Value, e = .returned (v0_) ∧ Kd.R k48 48 w' w.heap.size (fun _ => True) v0_ r ∧ Below w.heap.size w w' := by
  unfold impl_couple_38.f at h
  by_cases c2 : l0.length < 8796093022207
  rotate_left
  · rw [if_neg c2] at h
    cases h
  rw [if_pos c2] at h
  obtain rfl := Option.some.inj h
  rcases A0 with _ | ad
  · have hl : l0.length = 0 := by
      rcases Nat.eq_zero_or_pos l0.length with h0 | h0
      · exact h0
      · obtain ⟨_, h1, _⟩ := hr0.2.2 h0
        cases h1
    have hl0 : l0 = [] := List.eq_nil_of_length_eq_zero hl
    subst hl0
    have e0 := fun w : World => Lib.run_eql_slice_nil (P := Try.prog) w 45 48 none 0 c0 0 0 Try.underlying45
    show Calls Try.prog 38 #[.slice none 0 c0] w _
    go_enter Try.func38, Try.ntmps38
    go_wp2
    go_ret
    exact ⟨_, rfl, Kd.R_nil _ _ _ _ _, Below.refl _ _⟩
  · have HR0 := as_ hr0
    have HC0 := as_ hc0
    clear hr0 hc0 h
    have LMc2 := as_ c2
    clear c2
    have HB := as_ (Below.refl w.heap.size w)
    have e0 := fun w : World => Lib.run_eql_slice_nil (P := Try.prog) w 45 48 (some ad) l0.length c0 0 0 Try.underlying45
    go_enter Try.func38, Try.ntmps38
    go_wp2_with (first | ((with_reducible refine gate_dst (N := 5) rfl ?_); refine Kd.R_lit k48 _ 48 ?hg (N := 5) ?hd (xs := ([] : List S48)) (inner := []) (ok := fun _ => True) (okp := fun _ => True) ?hr ?hp (fun _ hk => hk) trivial (Below.refl _ _) (Nat.le_refl _) (by simp) ?_; (case hd => rfl); (case hg => rfl); (case hr => first | (go_simp; done) | (go_simp; rfl)); (case hp => exact (Reps.none _ _)); intro v149 w3 ho4 hb hg_ hnew_; clear hg_ hnew_; have HO150 := as_ (Kd.R_lower ho4 (below_size (b_ HB))); replace HB := as_ (below_step (b_ HB) hb); clear hb ho4) | ((with_reducible refine gate_builtin (b := .append) (xs := #[.tmp 5, .tmp 6]) rfl ?_); at_builtin; refine Kd.R_append_rows k48 (Rr := fun (x : S48) c => c = [.int .i64 x.f0, .int .i64 x.f1]) (w0 := w) w.heap.size rfl (.tmp 5) (.tmp 6) 45 48 (.agg #[(.int .i64 0), (.int .i64 0)]) 16 rfl Try.underlying45 info48 rfl (by decide) (by omega) v149 ([] : List S48) l0 _ _ _ (fun _ => True) (fun _ => False) rfl rfl ?aO ?aR ?aK (fun _ h => h.elim) ?aF ?aB ?aS ?aL ?_; (case aR => exact ReadsRow.imp_ (Kd.C_below HR0.out HB.out) (Below.refl _ _) (fun _ _ h => k48_open h)); (case aK => intro x cs h; subst h; exact k48_mkM _ _ _ x); (case aB => exact (b_ HB)); (case aF => exact (fun _ _ => trivial)); (case aO => exact (bR_ HO150)); (case aS => exact (below_size (b_ HB))); (case aL => have := LMc2.out; simp; omega); intro v152 w5 ho hb hg hat; replace HB := as_ (hb); have HO153 := as_ (ho); clear HO150; clear ho hb hg hat))
    go_ret
    exact ⟨_, rfl, bR_ HO153, b_ HB⟩

def impl_couples.tk (k : Nat) (l : List S48) (a b : Int) : Option (List S48) := (impl_couple_37.f k l a b).bind fun c => if c = true then some l else if l.length < 8796093022206 then some (l ++ [⟨a, b⟩]) else none
set_option maxHeartbeats 8000000 in
set_option maxRecDepth 100000 in
theorem impl_couples.take (k : Nat) (gb : Nat) (v : Value) (l : List S48) (a b : Int) (l2 : List S48) (w0 w : World) (hB : Below w0.heap.size w0 w) (hbx : w.heap[gb]? = some (.cells #[v] 45 (0, 0))) (hg0 : w0.heap.size ≤ gb) (ho : Kd.R k48 48 w w0.heap.size (fun _ => True) v l) (h : impl_couples.tk k l a b = some l2) :
    Calls Try.prog 36 #[.agg #[.int .i64 a, .int .i64 b], .pointer (some ⟨gb, 0, none⟩)] w fun e w' => ∃ v' : Value, e = .returned (.tuple #[]) ∧ w'.heap[gb]? = some (.cells #[v'] 45 (0, 0)) ∧ Kd.R k48 48 w' w0.heap.size (fun _ => True) v' l2 ∧ Below w0.heap.size w0 w' ∧ Kept w w' (fun k_ => k_ = gb ∨ some k_ = v.ownBlock) ∧ (v'.ownBlock = v.ownBlock ∨ ∃ b, v'.ownBlock = some b ∧ w.heap.size ≤ b) := by
  obtain ⟨c, A10, H⟩ := Option.bind_eq_some_iff.mp h
  clear h
  have hu48 := Try.underlying48
  have A1 := as_ A10
  clear A10
  obtain ⟨A0, c0, rfl⟩ := Kd.R_slice ho
  have HO := as_ ho
  have BK := as_ hbx
  have HB := as_ hB
  have HK := as_ (Kept.refl w (fun k_ => k_ = gb ∨ some k_ = (Value.slice A0 l.length c0).ownBlock))
  have G0 := as_ hg0
  clear ho hbx hB hg0
  by_cases c1 : c = true
  · rw [if_pos c1] at H
    subst c1
    obtain rfl := Option.some.inj H
    clear H
    go_enter Try.func36, Try.ntmps36
    go_wp2_with (first | ((with_reducible refine gate_dst (N := 2) rfl ?_); refine bx_ 2 #[.int .i64 a, .int .i64 b] 48 ?_; intro gx eg w1 hb1 hbl; have n0_ := as_ (below_step HB.out hbl); have n1_ := as_ (Kd.R_below HO.out hbl); have n2_ := as_ (blk_below BK.out hbl); have n3_ := as_ (Kept.below HK.out hbl); have BX := as_ hb1; clear HB HO BK HK eg hb1 hbl; have HB := n0_; have HO := n1_; have BK := n2_; have HK := n3_; clear n0_ n1_ n2_ n3_; have hcz : w1.cell? ⟨gb, 0, none⟩ = some (.slice A0 l.length c0) := (blk_cell BK.out 0).trans rfl; have hcx0 : w1.cell? ⟨gx, 0, none⟩ = some (.int .i64 a) := (blk_cell BX.out 0).trans rfl; have hcx1 : w1.cell? ⟨gx, 1, none⟩ = some (.int .i64 b) := (blk_cell BX.out 1).trans rfl; have hfx0 := blk_frozen BX.out 0; have hfx1 := blk_frozen BX.out 1) | (go_at_call 37; go_must ((with_reducible refine (impl_couple_37.calls k _ _ l a b true _ (Kd.R_reads' HO.out).2.2 (Kd.R_reads' HO.out).2.1 A1.out).mono ?_); rintro e w2 ⟨rfl, hbl⟩; replace HB := as_ (below_step HB.out hbl); replace HO := as_ (Kd.R_below HO.out hbl); replace BK := as_ (blk_below BK.out hbl); replace HK := as_ (Kept.below HK.out hbl); replace BX := as_ (blk_below BX.out hbl); clear hcz hcx0 hcx1 hfx0 hfx1 hbl; have hcz : w2.cell? ⟨gb, 0, none⟩ = some (.slice A0 l.length c0) := (blk_cell BK.out 0).trans rfl; have hcx0 : w2.cell? ⟨gx, 0, none⟩ = some (.int .i64 a) := (blk_cell BX.out 0).trans rfl; have hcx1 : w2.cell? ⟨gx, 1, none⟩ = some (.int .i64 b) := (blk_cell BX.out 1).trans rfl; have hfx0 := blk_frozen BX.out 0; have hfx1 := blk_frozen BX.out 1)))
    go_end0
    exact ⟨_, rfl, BK.out, HO.out, HB.out, HK.out, .inl rfl⟩
  rw [if_neg c1] at H
  have c1' : c = false := by simpa using c1
  subst c1'
  clear c1
  obtain ⟨c2, H⟩ := ite_s H
  have NL := as_ (Option.some.inj H)
  clear H
  have LM := as_ c2
  clear c2
  go_enter Try.func36, Try.ntmps36
  go_wp2_with (first | ((with_reducible refine gate_dst (N := 2) rfl ?_); refine bx_ 2 #[.int .i64 a, .int .i64 b] 48 ?_; intro gx eg w1 hb1 hbl; have n0_ := as_ (below_step HB.out hbl); have n1_ := as_ (Kd.R_below HO.out hbl); have n2_ := as_ (blk_below BK.out hbl); have n3_ := as_ (Kept.below HK.out hbl); have BX := as_ hb1; clear HB HO BK HK eg hb1 hbl; have HB := n0_; have HO := n1_; have BK := n2_; have HK := n3_; clear n0_ n1_ n2_ n3_; have hcz : w1.cell? ⟨gb, 0, none⟩ = some (.slice A0 l.length c0) := (blk_cell BK.out 0).trans rfl; have hcx0 : w1.cell? ⟨gx, 0, none⟩ = some (.int .i64 a) := (blk_cell BX.out 0).trans rfl; have hcx1 : w1.cell? ⟨gx, 1, none⟩ = some (.int .i64 b) := (blk_cell BX.out 1).trans rfl; have hfx0 := blk_frozen BX.out 0; have hfx1 := blk_frozen BX.out 1) | (go_at_call 37; go_must ((with_reducible refine (impl_couple_37.calls k _ _ l a b false _ (Kd.R_reads' HO.out).2.2 (Kd.R_reads' HO.out).2.1 A1.out).mono ?_); rintro e w2 ⟨rfl, hbl⟩; replace HB := as_ (below_step HB.out hbl); replace HO := as_ (Kd.R_below HO.out hbl); replace BK := as_ (blk_below BK.out hbl); replace HK := as_ (Kept.below HK.out hbl); replace BX := as_ (blk_below BX.out hbl); clear hcz hcx0 hcx1 hfx0 hfx1 hbl; have hcz : w2.cell? ⟨gb, 0, none⟩ = some (.slice A0 l.length c0) := (blk_cell BK.out 0).trans rfl; have hcx0 : w2.cell? ⟨gx, 0, none⟩ = some (.int .i64 a) := (blk_cell BX.out 0).trans rfl; have hcx1 : w2.cell? ⟨gx, 1, none⟩ = some (.int .i64 b) := (blk_cell BX.out 1).trans rfl; have hfx0 := blk_frozen BX.out 0; have hfx1 := blk_frozen BX.out 1)) | ((with_reducible refine gate_builtin (b := .append) (xs := #[.tmp 7, .tmp 9]) rfl ?_); at_builtin; go_must (refine Kd.R_append k48 (w0 := w0) w0.heap.size rfl (.tmp 7) (.tmp 9) 45 48 (.agg #[(.int .i64 0), (.int .i64 0)]) 16 rfl Try.underlying45 info48 rfl (by decide) (by omega) (.slice A0 l.length c0) l (⟨a, b⟩ : S48) [.int .i64 a, .int .i64 b] (fun _ => True) (fun _ => False) rfl rfl ?aP (fun _ hk => hk.elim) ?aF ?aO ?aB ?aS ?aL ?_; (case aP => exact k48_mkM _ _ _ _); (case aB => exact HB.out); (case aF => exact (fun _ _ => trivial)); (case aO => exact HO.out); (case aS => exact (below_size HB.out)); (case aL => have := LM.out; omega); intro v1 w10 ho hb hg hat; rw [NL.out] at ho; obtain ⟨A2, cp2, e2_⟩ := Kd.R_slice ho; subst e2_; replace HB := as_ hb; replace BK := as_ (blk_grown BK.out hg (Kd.R_ne HO.out BK.out (by decide))); replace HO := as_ ho; have HT := as_ (hat.imp id (fun ⟨b_, h1_, h2_⟩ => ⟨b_, h1_, Nat.le_trans HK.out.1 h2_⟩) : (Value.slice A2 l2.length cp2).ownBlock = (Value.slice A0 l.length c0).ownBlock ∨ ∃ b, (Value.slice A2 l2.length cp2).ownBlock = some b ∧ w.heap.size ≤ b); replace HK := as_ (Kept.of_grown (S := (fun k_ => k_ = gb ∨ some k_ = (Value.slice A0 l.length c0).ownBlock)) hg HK.out (fun k_ e_ => .inl (.inr e_.symm))); clear ho hb hg hat hcz hcx0 hcx1 hfx0 hfx1; have hcz1 : w10.cell? ⟨gb, 0, none⟩ = some (.slice A0 l.length c0) := (blk_cell BK.out 0).trans rfl; have hfz1 := blk_frozen BK.out 0)) | ((with_reducible refine gate_store (t := 45) (p := 1) rfl ?_); go_must (refine store_event (t := 45) (p := 1) (v := ?vo_w15) (w1 := (w10.setCell ⟨gb, 0, none⟩ (.slice A2 l2.length cp2))) ?hg ?ho ?hn ?hr ?_; (case ho => rfl); (case hg => rfl); (case hn => rfl); (case hr => first | (go_simp; done) | (go_simp; rfl)); intro w15 hw; replace HB := as_ (by rw [hw]; exact below_set HB.out G0.out : Below w0.heap.size w0 w15); replace HO := as_ (by rw [hw]; exact Kd.R_set HO.out BK.out (by decide) 0 (.slice A2 l2.length cp2) : Kd.R k48 48 w15 w0.heap.size (fun _ => True) (.slice A2 l2.length cp2) l2); replace BK := as_ (by rw [hw]; exact blk_put BK.out 0 (.slice A2 l2.length cp2) rfl : w15.heap[gb]? = some (.cells #[.slice A2 l2.length cp2] 45 (0, 0))); replace HK := as_ (by rw [hw]; exact Kept.setCell HK.out (.inl (.inl rfl)) (.slice A2 l2.length cp2) : Kept w w15 (fun k_ => k_ = gb ∨ some k_ = (Value.slice A0 l.length c0).ownBlock)); clear hcz1 hfz1 hw)))
  go_end0
  first | exact ⟨_, rfl, BK.out, HO.out, HB.out, HK.out, HT.out⟩ | exact ⟨rfl, _, BK.out, HO.out, HB.out, HK.out, HT.out⟩
set_option maxHeartbeats 8000000 in
set_option maxRecDepth 100000 in
theorem impl_couples.step (g2 g3 : Nat) (a0 : Int) (A1 : Option Addr) (c1 : Nat) (l1 : List (List Int)) (A2 : Option Addr) (c2 : Nat) (l2 : List Int) (b0 : Int) (B1 : Option Addr) (d1 : Nat) (m1 : List (List Int)) (B2 : Option Addr) (d2 : Nat) (m2 : List Int) (w0 w : World) (hB : Below w0.heap.size w0 w) (hr1 : Kd.C (Kd.slice 2 (Kd.int .i64)) w0 A1 l1.length l1) (hs1 : Kd.C (Kd.slice 2 (Kd.int .i64)) w0 B1 m1.length m1) (h2 : w.heap[g2]? = some (.cells #[.int .i64 a0, .slice A1 l1.length c1, .slice A2 l2.length c2] 29 (0, 0))) (h3 : w.heap[g3]? = some (.cells #[.int .i64 b0, .slice B1 m1.length d1, .slice B2 m2.length d2] 29 (0, 0)))
    (xa xb ya yb : Int) (p1 : 0 ≤ xa) (q1 : xa < (l1.length : Int)) (p2 : 0 ≤ ya) (q2 : ya < ((rd_L1 l1 xa).length : Int)) (p3 : 0 ≤ xb) (q3 : xb < (m1.length : Int)) (p4 : 0 ≤ yb) (q4 : yb < ((rd_L1 m1 xb).length : Int)) :
    Calls Try.prog 35 #[.agg #[.int .i64 xa, .int .i64 xb], .agg #[.int .i64 ya, .int .i64 yb], .pointer (some ⟨g2, 0, none⟩), .pointer (some ⟨g3, 0, none⟩)] w fun e w' => e = .returned (.agg #[.int .i64 (rd (rd_L1 l1 xa) ya), .int .i64 (rd (rd_L1 m1 xb) yb)]) ∧ Below w.heap.size w w' := by
  have hu48 := Try.underlying48
  have hu29 := Try.underlying29
  have HB0 := as_ hB
  have HB := as_ (Below.refl w.heap.size w)
  have B2_ := as_ h2
  have B3_ := as_ h3
  obtain ⟨ada, Aa, ca, ea, hxa, hla, hia⟩ := at_L1 hr1 xa p1 q1
  cases ea
  obtain ⟨aea, fa, hya⟩ := Kd.at_int hia ya p2 q2
  cases fa
  obtain ⟨adb, Ab, cb, eb, hxb, hlb, hib⟩ := at_L1 hs1 xb p3 q3
  cases eb
  obtain ⟨aeb, fb, hyb⟩ := Kd.at_int hib yb p4 q4
  cases fb
  have XA := as_ (And.intro hxa (And.intro hya (And.intro hxb hyb)))
  clear hxa hya hxb hyb hia hib hla hlb h2 h3 hB hr1 hs1
  replace p1 := eq_true p1
  replace q1 := eq_true q1
  replace p2 := eq_true p2
  replace q2 := eq_true q2
  replace p3 := eq_true p3
  replace q3 := eq_true q3
  replace p4 := eq_true p4
  replace q4 := eq_true q4
  go_enter Try.func35, Try.ntmps35
  go_wp2_with (first | ((with_reducible refine gate_dst (N := 4) rfl ?_); refine bx_ 4 #[.int .i64 xa, .int .i64 xb] 48 ?_; intro gx eg w1 hb1 hbl; have n0_ := as_ (below_step HB.out hbl); have X1 := as_ hb1; clear HB hb1 hbl eg; have HB := n0_; clear n0_) | ((with_reducible refine gate_dst (N := 5) rfl ?_); refine bx_ 5 #[.int .i64 ya, .int .i64 yb] 48 ?_; intro gy eg w2 hb1 hbl; have n0_ := as_ (below_step HB.out hbl); have X2 := as_ hb1; have n1_ := as_ (blk_below X1.out hbl); clear HB X1 hb1 hbl eg; have HB := n0_; have X1 := n1_; clear n0_ n1_) | ((with_reducible refine gate_dst (N := 6) rfl ?_); refine bx_ 6 #[.int .i64 0, .int .i64 0] 48 ?_; intro gr eg w3 hb1 hbl; have n0_ := as_ (below_step HB.out hbl); have X3 := as_ hb1; have n1_ := as_ (blk_below X1.out hbl); have n2_ := as_ (blk_below X2.out hbl); have GR := as_ (show w.heap.size ≤ gr by rw [eg]; exact below_size HB.out); clear HB X1 X2 hb1 hbl eg; have HB := n0_; have X1 := n1_; have X2 := n2_; clear n0_ n1_ n2_))
  have hd_ : Below w3.heap.size w3 w3.drew := below_drew1 (Below.refl _ _)
  have n0_ := as_ (below_step HB.out hd_); have n1_ := as_ (blk_below X1.out hd_); have n2_ := as_ (blk_below X2.out hd_); have n3_ := as_ (blk_below X3.out hd_)
  have hxa : w3.drew.cell? _ = some _ := (n0_.out.cell (World.block_lt_of_cell? w _ ((HB0.out.cell (World.block_lt_of_cell? w0 _ XA.out.1)).trans XA.out.1))).trans ((HB0.out.cell (World.block_lt_of_cell? w0 _ XA.out.1)).trans XA.out.1)
  have hya : w3.drew.cell? _ = some _ := (n0_.out.cell (World.block_lt_of_cell? w _ ((HB0.out.cell (World.block_lt_of_cell? w0 _ XA.out.2.1)).trans XA.out.2.1))).trans ((HB0.out.cell (World.block_lt_of_cell? w0 _ XA.out.2.1)).trans XA.out.2.1)
  have hxb : w3.drew.cell? _ = some _ := (n0_.out.cell (World.block_lt_of_cell? w _ ((HB0.out.cell (World.block_lt_of_cell? w0 _ XA.out.2.2.1)).trans XA.out.2.2.1))).trans ((HB0.out.cell (World.block_lt_of_cell? w0 _ XA.out.2.2.1)).trans XA.out.2.2.1)
  have hyb : w3.drew.cell? _ = some _ := (n0_.out.cell (World.block_lt_of_cell? w _ ((HB0.out.cell (World.block_lt_of_cell? w0 _ XA.out.2.2.2)).trans XA.out.2.2.2))).trans ((HB0.out.cell (World.block_lt_of_cell? w0 _ XA.out.2.2.2)).trans XA.out.2.2.2)
  have hx0 : w3.drew.cell? ⟨gx, 0, none⟩ = some (.int .i64 xa) := (blk_cell n1_.out 0).trans rfl
  have hx1 : w3.drew.cell? ⟨gx, 1, none⟩ = some (.int .i64 xb) := (blk_cell n1_.out 1).trans rfl
  have hy0 : w3.drew.cell? ⟨gy, 0, none⟩ = some (.int .i64 ya) := (blk_cell n2_.out 0).trans rfl
  have hy1 : w3.drew.cell? ⟨gy, 1, none⟩ = some (.int .i64 yb) := (blk_cell n2_.out 1).trans rfl
  have ht1 : w3.drew.cell? ⟨g2, 1, none⟩ = some (.slice (some ada) l1.length c1) := (n0_.out.cell (World.block_lt_of_cell? w _ ((blk_cell B2_.out 1).trans rfl))).trans ((blk_cell B2_.out 1).trans rfl)
  have hu1 : w3.drew.cell? ⟨g3, 1, none⟩ = some (.slice (some adb) m1.length d1) := (n0_.out.cell (World.block_lt_of_cell? w _ ((blk_cell B3_.out 1).trans rfl))).trans ((blk_cell B3_.out 1).trans rfl)
  go_still_tail 21, (by kernel_rfl)
  clear hxa hya hxb hyb hx0 hx1 hy0 hy1 ht1 hu1 n1_ n2_ hd_ HB X1 X2 X3
  change wpList _ _ _ _ _ w3.drew
  generalize w3.drew = w4 at n0_ n3_ ⊢
  have hz0 : w4.cell? ⟨gr, 0, none⟩ = some (.int .i64 0) := (blk_cell n3_.out 0).trans rfl
  have hz1 : w4.cell? ⟨gr, 1, none⟩ = some (.int .i64 0) := (blk_cell n3_.out 1).trans rfl
  have hf0 := blk_frozen n3_.out 0
  have hf1 := blk_frozen n3_.out 1
  go_wp2
  refine bodyPost_ret (results_cell_row rfl _ _ gr 48 #[.int .i64 (rd (rd_L1 l1 xa) ya), .int .i64 (rd (rd_L1 m1 xb) yb)] (0, 0) _ rfl (blk_put (blk_put n3_.out 0 _ rfl) 1 _ rfl) Try.underlying48 rfl (by kernel_rfl)) rfl ?_
  exact ⟨rfl, below_set (below_set n0_.out GR.out) GR.out⟩

def impl_couples.okS (l1 m1 : List (List Int)) (x y : S48) : Prop := 0 ≤ x.f0 ∧ x.f0 < (l1.length : Int) ∧ 0 ≤ y.f0 ∧ y.f0 < ((rd_L1 l1 x.f0).length : Int) ∧ 0 ≤ x.f1 ∧ x.f1 < (m1.length : Int) ∧ 0 ≤ y.f1 ∧ y.f1 < ((rd_L1 m1 x.f1).length : Int)
instance (l1 m1 : List (List Int)) (x y : S48) : Decidable (impl_couples.okS l1 m1 x y) := by unfold impl_couples.okS; exact inferInstance
mutual
def impl_couples.l0 : Nat → List (List Int) → List (List Int) → List S48 → Int → Option (List S48)
  | 0, _, _, _, _ => none
  | k + 1, l1, m1, out, i => if i < (out.length : Int) then (if 0 ≤ i then ((impl_couple_38.f out).bind fun sn => impl_couples.l1 k l1 m1 out i (rd_T48 out i) sn 0) else none) else some out
def impl_couples.l1 : Nat → List (List Int) → List (List Int) → List S48 → Int → S48 → List S48 → Int → Option (List S48)
  | 0, _, _, _, _, _, _, _ => none
  | k + 1, l1, m1, out, i, x, sn, j => if j < (sn.length : Int) then (if 0 ≤ j ∧ impl_couples.okS l1 m1 x (rd_T48 sn j) then ((impl_couples.tk k out (rd (rd_L1 l1 x.f0) (rd_T48 sn j).f0) (rd (rd_L1 m1 x.f1) (rd_T48 sn j).f1)).bind fun o1 => (if ((rd_T48 sn j).f0 == x.f0 && ((rd_T48 sn j).f1 == x.f1)) = true then impl_couples.l1 k l1 m1 o1 i x sn (wrap64 (j + 1)) else (if impl_couples.okS l1 m1 (rd_T48 sn j) x then ((impl_couples.tk k o1 (rd (rd_L1 l1 (rd_T48 sn j).f0) x.f0) (rd (rd_L1 m1 (rd_T48 sn j).f1) x.f1)).bind fun o2 => impl_couples.l1 k l1 m1 o2 i x sn (wrap64 (j + 1))) else none))) else none) else impl_couples.l0 k l1 m1 out (wrap64 (i + 1))
end
def impl_couples.f (k : Nat) (a0 : Int) (l1 : List (List Int)) (_ : List Int) (b0 : Int) (m1 : List (List Int)) (_ : List Int) : Option (List S48) := impl_couples.l0 k l1 m1 [⟨a0, b0⟩] 0
theorem impl_couples.snap_after {w w' : World} {b gb : Nat} {v v' s : Value} {l : List S48} (h : Kd.R k48 48 w b (fun k_ => (some k_ ≠ v.ownBlock) ∧ k_ ≠ gb) s l) (hk : Kept w w' (fun k_ => k_ = gb ∨ some k_ = v.ownBlock)) (hat : v'.ownBlock = v.ownBlock ∨ ∃ b, v'.ownBlock = some b ∧ w.heap.size ≤ b) : Kd.R k48 48 w' b (fun k_ => some k_ ≠ v'.ownBlock) s l := by
  refine Kd.R_mono (Kd.R_keptB h hk (fun k_ h1 h2 => h2.elim (fun e => h1.2 e) (fun e => h1.1 e))) (fun k_ h1 => ?_)
  rcases hat with e | ⟨b2, e, hb⟩
  · rw [e]; exact h1.1.1
  · rw [e]; intro e2; injection e2 with e2; have := h1.2.2; omega
theorem impl_couples.apart_after {w : World} {g : Nat} {v v' : Value} (h : some g ≠ v.ownBlock) (hlt : g < w.heap.size) (hat : v'.ownBlock = v.ownBlock ∨ ∃ b, v'.ownBlock = some b ∧ w.heap.size ≤ b) : some g ≠ v'.ownBlock := by
  rcases hat with e | ⟨b2, e, hb⟩
  · rw [e]; exact h
  · rw [e]; intro e2; injection e2 with e2; omega
attribute [local go_sem high] eqA48
set_option maxHeartbeats 8000000 in
set_option maxRecDepth 100000 in
theorem impl_couples.calls (k : Nat) (a0 : Int) (A1 : Option Addr) (c1 : Nat) (l1 : List (List Int)) (A2 : Option Addr) (c2 : Nat) (l2 : List Int) (b0 : Int) (B1 : Option Addr) (d1 : Nat) (m1 : List (List Int)) (B2 : Option Addr) (d2 : Nat) (m2 : List Int) (r : List S48) (w : World) (hr1 : Kd.C (Kd.slice 2 (Kd.int .i64)) w A1 l1.length l1) (hc1 : l1.length ≤ c1) (hr2 : Kd.C (Kd.int .i64) w A2 l2.length l2) (hc2 : l2.length ≤ c2) (hs1 : Kd.C (Kd.slice 2 (Kd.int .i64)) w B1 m1.length m1) (hd1 : m1.length ≤ d1) (hs2 : Kd.C (Kd.int .i64) w B2 m2.length m2) (hd2 : m2.length ≤ d2) (h : impl_couples.f k a0 l1 l2 b0 m1 m2 = some r) :
    Calls Try.prog 22 #[.agg #[.int .i64 a0, .slice A1 l1.length c1, .slice A2 l2.length c2], .agg #[.int .i64 b0, .slice B1 m1.length d1, .slice B2 m2.length d2]] w fun e w' => ∃ v0_ : Value, e = .returned (v0_) ∧ Kd.R k48 48 w' w.heap.size (fun _ => True) v0_ r ∧ Below w.heap.size w w' := by
  have hu29 := Try.underlying29
  have hu48 := Try.underlying48
  have hmf : ∀ (fn : Fn) (first cap : Array Value) (w_ : World), (Instr.makeFunc fn first cap).run Try.prog w_ = .ok (.func fn first cap) w_ := fun _ _ _ _ => rfl
  have HR1 := as_ hr1
  have HR2 := as_ hs1
  clear hr1 hc1 hr2 hc2 hs1 hd1 hs2 hd2
  have HB := as_ (Below.refl w.heap.size w)
  have H' := as_ (show impl_couples.l0 k l1 m1 [⟨a0, b0⟩] 0 = some r from h)
  clear h
  go_enter Try.func22, Try.ntmps22
  go_wp2_with (first | ((with_reducible refine gate_dst (N := 2) rfl ?_); go_must (refine bx_ 2 #[.int .i64 a0, .slice A1 l1.length c1, .slice A2 l2.length c2] 29 ?_; intro g2 eg w1 hb1 hbl; replace HB := as_ (below_step HB.out hbl); have BK1 := as_ hb1; clear hb1 hbl eg; have hca : w1.cell? ⟨g2, 0, none⟩ = some (.int .i64 a0) := (blk_cell BK1.out 0).trans rfl)) | ((with_reducible refine gate_dst (N := 3) rfl ?_); go_must (refine bx_ 3 #[.int .i64 b0, .slice B1 m1.length d1, .slice B2 m2.length d2] 29 ?_; intro g3 eg w2 hb1 hbl; replace HB := as_ (below_step HB.out hbl); replace BK1 := as_ (blk_below BK1.out hbl); have BK2 := as_ hb1; clear hb1 hbl eg hca; have hca : w2.cell? ⟨g2, 0, none⟩ = some (.int .i64 a0) := (blk_cell BK1.out 0).trans rfl; have hcb : w2.cell? ⟨g3, 0, none⟩ = some (.int .i64 b0) := (blk_cell BK2.out 0).trans rfl)) | ((with_reducible refine gate_dst (N := 18) rfl ?_); go_must (refine Kd.R_lit k48 _ 48 ?hg (N := 18) ?hd (xs := ([⟨a0, b0⟩] : List S48)) (inner := [.int .i64 a0, .int .i64 b0]) (ok := fun _ => True) (okp := fun _ => True) ?hr ?hp (fun _ hk => hk) trivial (Below.refl _ _) (Nat.le_refl _) (by simp) ?_; (case hd => rfl); (case hg => rfl); (case hr => first | (go_simp; done) | (go_simp; rfl)); (case hp => exact (Reps.c2 (k48_mkM _ _ _ (⟨a0, b0⟩ : S48)) (Reps.none _ _))); intro v6 w3 ho hbl hg_ hnew_; clear hg_ hnew_; obtain ⟨A6, c6, e6_⟩ := Kd.R_slice ho; subst e6_; have n9_ := as_ (Kd.R_lower ho (below_size HB.out)); replace HB := as_ (below_step HB.out hbl); replace BK1 := as_ (blk_below BK1.out hbl); replace BK2 := as_ (blk_below BK2.out hbl); clear ho hbl hca hcb; have HO := n9_; clear n9_)) | ((with_reducible refine gate_dst (N := 6) rfl ?_); go_must (refine bx_ 6 #[.slice none 0 0] 45 ?_; intro gb eg w4 hb1 hbl; have hsz_ := below_size HB.out; replace HB := as_ (below_step HB.out hbl); replace BK1 := as_ (blk_below BK1.out hbl); replace BK2 := as_ (blk_below BK2.out hbl); replace HO := as_ (Kd.R_below HO.out hbl); have BK3 := as_ hb1; have G3 := as_ (show w.heap.size ≤ gb by rw [eg]; exact hsz_); clear hb1 hbl eg; have hcz3 : w4.cell? ⟨gb, 0, none⟩ = some (.slice none 0 0) := (blk_cell BK3.out 0).trans rfl; have hfz3 := blk_frozen BK3.out 0)) | ((with_reducible refine gate_store (t := 45) (p := 6) rfl ?_); go_must (refine store_event (t := 45) (p := 6) (v := ?vo_w5) (w1 := (w4.setCell ⟨gb, 0, none⟩ (.slice A6 ([⟨a0, b0⟩] : List S48).length c6))) ?hg ?ho ?hn ?hr ?_; (case ho => rfl); (case hg => rfl); (case hn => rfl); (case hr => first | (go_simp; done) | (go_simp; rfl)); intro w5 hw; replace HB : Aside0 (Below w.heap.size w w5) := ⟨(by rw [hw]; exact below_set HB.out G3.out)⟩; replace HO : Aside0 (Kd.R k48 48 w5 w.heap.size (fun _ => True) (.slice A6 ([⟨a0, b0⟩] : List S48).length c6) [⟨a0, b0⟩]) := ⟨(by rw [hw]; exact Kd.R_set HO.out BK3.out (by decide) 0 _)⟩; replace BK1 : Aside0 (w5.heap[g2]? = some (.cells #[.int .i64 a0, .slice A1 l1.length c1, .slice A2 l2.length c2] 29 (0, 0))) := ⟨(by rw [hw]; exact blk_far BK1.out (blk_ne BK1.out BK3.out (by decide)) _)⟩; replace BK2 : Aside0 (w5.heap[g3]? = some (.cells #[.int .i64 b0, .slice B1 m1.length d1, .slice B2 m2.length d2] 29 (0, 0))) := ⟨(by rw [hw]; exact blk_far BK2.out (blk_ne BK2.out BK3.out (by decide)) _)⟩; replace BK3 : Aside0 (w5.heap[gb]? = some (.cells #[.slice A6 ([⟨a0, b0⟩] : List S48).length c6] 45 (0, 0))) := ⟨(by rw [hw]; exact blk_put BK3.out 0 _ rfl)⟩; clear hcz3 hfz3 hw)))
  go_loopg [8] k (fun kq v8 w' => ∃ (v : Value) (out : List S48) (i : Int), v8 = .int .i64 i ∧ Aside0 (impl_couples.l0 kq l1 m1 out i = some r) ∧ Aside0 (kq ≤ k) ∧ Aside0 (w'.heap[g2]? = some (.cells #[.int .i64 a0, .slice A1 l1.length c1, .slice A2 l2.length c2] 29 (0, 0))) ∧ Aside0 (w'.heap[g3]? = some (.cells #[.int .i64 b0, .slice B1 m1.length d1, .slice B2 m2.length d2] 29 (0, 0))) ∧ Aside0 (w'.heap[gb]? = some (.cells #[v] 45 (0, 0))) ∧ Aside0 (Kd.R k48 48 w' w.heap.size (fun _ => True) v out) ∧ Aside0 (Below w.heap.size w w'))
  case atStart => exact ⟨.slice A6 ([⟨a0, b0⟩] : List S48).length c6, [⟨a0, b0⟩], 0, rfl, H', ⟨Nat.le_refl _⟩, BK1, BK2, BK3, HO, HB⟩
  case round =>
    clear H' HB HO BK1 BK2 BK3
    obtain ⟨v, out, i, rfl, HA, HK1, BK1, BK2, BK3, HO, HB⟩ := hrel
    cases gk with
    | zero => exact absurd HA.out (by simp [impl_couples.l0])
    | succ k1 =>
      have H := HA.out
      clear HA
      simp only [impl_couples.l0] at H
      obtain ⟨Ao, co, eo⟩ := Kd.R_slice HO.out
      subst eo
      have hcz3 : wr.cell? ⟨gb, 0, none⟩ = some (.slice Ao out.length co) := (blk_cell BK3.out 0).trans rfl
      by_cases c3 : i < (out.length : Int)
      rotate_left
      · rw [if_neg c3] at H
        have c3b0 := decide_eq_false c3
        obtain rfl := Option.some.inj H
        clear c3 H
        go_wp2
        go_ret
        exact ⟨_, rfl, HO.out, HB.out⟩
      rw [if_pos c3] at H
      have c3b0 := decide_eq_true c3
      obtain ⟨c4, H⟩ := ite_s H
      obtain ⟨sn, A50, H⟩ := Option.bind_eq_some_iff.mp H
      have A5 := as_ A50
      have H' := as_ H
      clear A50 H
      have p4 := eq_true c4
      have q4 := eq_true c3
      obtain ⟨ad4, e4, hx40, hx41⟩ := at_T48 (Kd.R_reads' HO.out).2.2 i c4 c3
      cases e4
      clear c3 c4
      go_wp2_with (first | ((with_reducible refine gate_dst (N := 9) rfl ?_); go_must (refine bx_ 9 #[.int .i64 0, .int .i64 0] 48 ?_; intro gx eg w8 hb1 hbl; have hsz_ := below_size HB.out; have hlt_ := Kd.R_lt HO.out; have n9_ := as_ (Kd.R_below (Kd.R_elderB HO.out gx (by rw [eg]; exact Nat.le_refl _)) hbl); have NX := as_ (show some gx ≠ (Value.slice (some ad4) out.length co).ownBlock from fun e_ => by have := hlt_ gx e_.symm; omega); replace HB := as_ (below_step HB.out hbl); replace BK1 := as_ (blk_below BK1.out hbl); replace BK2 := as_ (blk_below BK2.out hbl); replace BK3 := as_ (blk_below BK3.out hbl); clear HO; have HO := n9_; clear n9_; have XB := as_ hb1; have Ggx := as_ (show w.heap.size ≤ gx by rw [eg]; exact hsz_); clear hb1 hbl eg hsz_ hlt_ hcz3 hx40 hx41; have hz0 : w8.cell? ⟨gx, 0, none⟩ = some (.int .i64 0) := (blk_cell XB.out 0).trans rfl; have hz1 : w8.cell? ⟨gx, 1, none⟩ = some (.int .i64 0) := (blk_cell XB.out 1).trans rfl; have hf0 := blk_frozen XB.out 0; have hf1 := blk_frozen XB.out 1)) | ((with_reducible refine gate_store (t := 48) (p := 9) rfl ?_); go_must (refine store_event (t := 48) (p := 9) (v := ?vo_w9) (w1 := ((w8.setCell ⟨gx, 0, none⟩ (.int .i64 (rd_T48 out i).f0)).setCell ⟨gx, 1, none⟩ (.int .i64 (rd_T48 out i).f1))) ?hg ?ho ?hn ?hr ?_; (case ho => rfl); (case hg => rfl); (case hn => rfl); (case hr => first | (go_simp; done) | (go_simp; rfl)); intro w9 hw; have hk_ : Kept w8 w9 (fun k_ => k_ = gx) := (by rw [hw]; exact Kept.setCell (S := fun k_ => k_ = gx) (p := ⟨gx, 1, none⟩) (Kept.setCell (S := fun k_ => k_ = gx) (p := ⟨gx, 0, none⟩) (Kept.refl _ _) (.inl rfl) _) (.inl rfl) _); have m0_ : Aside0 (Below w.heap.size w w9) := ⟨(by rw [hw]; exact below_set (below_set HB.out Ggx.out) Ggx.out)⟩; have m1_ : Aside0 (w9.heap[gx]? = some (.cells #[.int .i64 (rd_T48 out i).f0, .int .i64 (rd_T48 out i).f1] 48 (0, 0))) := ⟨(by rw [hw]; exact blk_put (blk_put XB.out 0 _ rfl) 1 _ rfl)⟩; have m2_ := as_ (Kd.R_mono (ok' := fun _ => True) (Kd.R_kept (Kd.R_mono HO.out (fun k_ hk => hk)) hk_ (fun k_ hk e_ => hk.2 e_)) (fun _ _ => trivial)); have m3_ := as_ (blk_kept BK3.out hk_ (fun e_ => blk_ne BK3.out XB.out (by decide) e_)); have m4_ := as_ (blk_kept BK1.out hk_ (fun e_ => blk_ne BK1.out XB.out (by decide) e_)); have m5_ := as_ (blk_kept BK2.out hk_ (fun e_ => blk_ne BK2.out XB.out (by decide) e_)); clear HB HO BK3 BK1 BK2 XB hw hk_ hz0 hz1 hf0 hf1; have HB := m0_; have XB := m1_; have HO := m2_; have BK3 := m3_; have BK1 := m4_; have BK2 := m5_; clear m0_ m1_ m2_ m3_ m4_ m5_; have hcz3 : w9.cell? ⟨gb, 0, none⟩ = some (.slice (some ad4) out.length co) := (blk_cell BK3.out 0).trans rfl)) | (go_at_call 38; go_must ((with_reducible refine (impl_couple_38.calls _ _ out sn _ (Kd.R_reads' HO.out).2.2 (Kd.R_reads' HO.out).2.1 A5.out).mono ?_); rintro e w12 ⟨v12, rfl, ho0, hbl⟩; have n9_ := as_ (Kd.R_lower (Kd.R_mono (ok' := fun k_ => some k_ ≠ (Value.slice (some ad4) out.length co).ownBlock) (Kd.R_new' ho0 (Kd.R_lt HO.out)) (fun k_ hk => hk.2)) (below_size HB.out)); replace HB := as_ (below_step HB.out hbl); replace BK1 := as_ (blk_below BK1.out hbl); replace BK2 := as_ (blk_below BK2.out hbl); replace BK3 := as_ (blk_below BK3.out hbl); replace HO := as_ (Kd.R_below HO.out hbl); replace XB := as_ (blk_below XB.out hbl); clear ho0 hbl hcz3; have HS := n9_; clear n9_; obtain ⟨As, cs, es⟩ := Kd.R_slice HS.out; subst es)))
      obtain ⟨x, hx⟩ : ∃ x, x = rd_T48 out i := ⟨_, rfl⟩
      have H'' := H'.out
      have XB' := XB.out
      rw [← hx] at H'' XB'
      have H' := as_ H''
      have XB := as_ XB'
      clear H'' XB' hx p4 q4 c3b0
      go_loopg [33] k1 (fun kq v33 w' => ∃ (v : Value) (o1_ : List S48) (j : Int), v33 = .int .i64 j ∧ Aside0 (impl_couples.l1 kq l1 m1 o1_ i x sn j = some r) ∧ Aside0 (kq ≤ k1) ∧ Aside0 (w'.heap[g2]? = some (.cells #[.int .i64 a0, .slice A1 l1.length c1, .slice A2 l2.length c2] 29 (0, 0))) ∧ Aside0 (w'.heap[g3]? = some (.cells #[.int .i64 b0, .slice B1 m1.length d1, .slice B2 m2.length d2] 29 (0, 0))) ∧ Aside0 (w'.heap[gb]? = some (.cells #[v] 45 (0, 0))) ∧ Aside0 (Kd.R k48 48 w' w.heap.size (fun _ => True) v o1_) ∧ Aside0 (Kd.R k48 48 w' w.heap.size (fun k_ => some k_ ≠ v.ownBlock) (.slice As sn.length cs) sn) ∧ Aside0 (w'.heap[gx]? = some (.cells #[.int .i64 x.f0, .int .i64 x.f1] 48 (0, 0))) ∧ Aside0 (some gx ≠ v.ownBlock) ∧ Aside0 (Below w.heap.size w w'))
      case atStart => exact ⟨_, out, 0, rfl, H', ⟨Nat.le_refl _⟩, BK1, BK2, BK3, HO, HS, XB, NX, HB⟩
      case round =>
        clear H' HB HO BK1 BK2 BK3 HS A5 XB NX
        obtain ⟨v, o1_, j, rfl, HA, HK2, BK1, BK2, BK3, HO, HS, XB, NX, HB⟩ := hrel
        cases gk with
        | zero => exact absurd HA.out (by simp [impl_couples.l1])
        | succ k2 =>
          have H := HA.out
          clear HA
          simp only [impl_couples.l1] at H
          obtain ⟨Ao, co, eo⟩ := Kd.R_slice HO.out
          subst eo
          by_cases c5 : j < (sn.length : Int)
          rotate_left
          · rw [if_neg c5] at H
            have c5b0 := decide_eq_false c5
            have H' := as_ H
            clear H c5
            go_wp2
            go_roundg k2
            case measure => have := HK1.out; have := HK2.out; omega
            case rel => exact ⟨_, o1_, _, rf_, H', ⟨by have := HK1.out; have := HK2.out; omega⟩, BK1, BK2, BK3, HO, HB⟩
          rw [if_pos c5] at H
          have c5b0 := decide_eq_true c5
          obtain ⟨c6, H⟩ := ite_s H
          obtain ⟨p5, ok1⟩ := c6
          obtain ⟨o2_, A30, H⟩ := Option.bind_eq_some_iff.mp H
          have A3 := as_ A30
          unfold impl_couples.okS at ok1
          have OK1 := as_ ok1
          clear A30 ok1
          obtain ⟨ad5, e5, hx50, hx51⟩ := at_T48 (Kd.R_reads' HS.out).2.2 j p5 c5
          cases e5
          replace p5 := eq_true p5
          have q5 := eq_true c5
          obtain ⟨y, hy⟩ : ∃ y, y = rd_T48 sn j := ⟨_, rfl⟩
          rw [← hy] at H A3 OK1 hx50 hx51
          clear hy
          by_cases c7 : (y.f0 == x.f0 && (y.f1 == x.f1)) = true
          · rw [if_pos c7] at H
            have H' := as_ H
            clear H c5
            go_wp2_with (first | ((with_reducible refine gate_dst (N := 11) rfl ?_); go_must (refine bx_ 11 #[.int .i64 0, .int .i64 0] 48 ?_; intro gy eg w13 hb1 hbl; have hsz_ := below_size HB.out; have hlt_ := Kd.R_lt HO.out; have hltx_ := blk_lt XB.out; have n9_ := as_ (Kd.R_below (Kd.R_elderB HO.out gy (by rw [eg]; exact Nat.le_refl _)) hbl); have n10_ := as_ (Kd.R_below (Kd.R_elderB HS.out gy (by rw [eg]; exact Nat.le_refl _)) hbl); have NY := as_ (show some gy ≠ (Value.slice Ao o1_.length co).ownBlock from fun e_ => by have := hlt_ gy e_.symm; omega); have NXY := as_ (show gx ≠ gy by omega); replace HB := as_ (below_step HB.out hbl); replace BK1 := as_ (blk_below BK1.out hbl); replace BK2 := as_ (blk_below BK2.out hbl); replace BK3 := as_ (blk_below BK3.out hbl); replace XB := as_ (blk_below XB.out hbl); clear HO HS; have HO := n9_; have HS := n10_; clear n9_ n10_; have YB := as_ hb1; have Ggy := as_ (show w.heap.size ≤ gy by rw [eg]; exact hsz_); clear hb1 hbl eg hsz_ hlt_ hltx_ hx50 hx51; have hz0 : w13.cell? ⟨gy, 0, none⟩ = some (.int .i64 0) := (blk_cell YB.out 0).trans rfl; have hz1 : w13.cell? ⟨gy, 1, none⟩ = some (.int .i64 0) := (blk_cell YB.out 1).trans rfl; have hf0 := blk_frozen YB.out 0; have hf1 := blk_frozen YB.out 1)) | ((with_reducible refine gate_store (t := 48) (p := 11) rfl ?_); go_must (refine store_event (t := 48) (p := 11) (v := ?vo_w14) (w1 := ((w13.setCell ⟨gy, 0, none⟩ (.int .i64 y.f0)).setCell ⟨gy, 1, none⟩ (.int .i64 y.f1))) ?hg ?ho ?hn ?hr ?_; (case ho => rfl); (case hg => rfl); (case hn => rfl); (case hr => first | (go_simp; done) | (go_simp; rfl)); intro w14 hw; have hk_ : Kept w13 w14 (fun k_ => k_ = gy) := (by rw [hw]; exact Kept.setCell (S := fun k_ => k_ = gy) (p := ⟨gy, 1, none⟩) (Kept.setCell (S := fun k_ => k_ = gy) (p := ⟨gy, 0, none⟩) (Kept.refl _ _) (.inl rfl) _) (.inl rfl) _); have m0_ : Aside0 (Below w.heap.size w w14) := ⟨(by rw [hw]; exact below_set (below_set HB.out Ggy.out) Ggy.out)⟩; have m1_ : Aside0 (w14.heap[gy]? = some (.cells #[.int .i64 y.f0, .int .i64 y.f1] 48 (0, 0))) := ⟨(by rw [hw]; exact blk_put (blk_put YB.out 0 _ rfl) 1 _ rfl)⟩; have m2_ := as_ (Kd.R_mono (ok' := fun _ => True) (Kd.R_kept (Kd.R_mono HO.out (fun k_ hk => hk)) hk_ (fun k_ hk e_ => hk.2 e_)) (fun _ _ => trivial)); have m3_ := as_ (blk_kept BK3.out hk_ (fun e_ => blk_ne BK3.out YB.out (by decide) e_)); have m4_ := as_ (blk_kept BK1.out hk_ (fun e_ => blk_ne BK1.out YB.out (by decide) e_)); have m5_ := as_ (blk_kept BK2.out hk_ (fun e_ => blk_ne BK2.out YB.out (by decide) e_)); have m6_ := as_ (Kd.R_mono (ok' := fun k_ => some k_ ≠ (Value.slice Ao o1_.length co).ownBlock) (Kd.R_kept HS.out hk_ (fun k_ hk e_ => hk.2 e_)) (fun _ hk => hk.1)); have m7_ := as_ (blk_kept XB.out hk_ (fun e_ => NXY.out e_)); clear HB HO BK3 BK1 BK2 YB HS XB hw hk_ hz0 hz1 hf0 hf1; have HB := m0_; have YB := m1_; have HO := m2_; have BK3 := m3_; have BK1 := m4_; have BK2 := m5_; have HS := m6_; have XB := m7_; clear m0_ m1_ m2_ m3_ m4_ m5_ m6_ m7_; have hx0 : w14.cell? ⟨gx, 0, none⟩ = some (.int .i64 x.f0) := (blk_cell XB.out 0).trans rfl; have hx1 : w14.cell? ⟨gx, 1, none⟩ = some (.int .i64 x.f1) := (blk_cell XB.out 1).trans rfl; have hy0 : w14.cell? ⟨gy, 0, none⟩ = some (.int .i64 y.f0) := (blk_cell YB.out 0).trans rfl; have hy1 : w14.cell? ⟨gy, 1, none⟩ = some (.int .i64 y.f1) := (blk_cell YB.out 1).trans rfl)) | (go_at_call 35; ((with_reducible refine (impl_couples.step g2 g3 a0 _ c1 l1 A2 c2 l2 b0 _ d1 m1 B2 d2 m2 w _ HB.out HR1.out HR2.out BK1.out BK2.out x.f0 x.f1 y.f0 y.f1 OK1.out.1 OK1.out.2.1 OK1.out.2.2.1 OK1.out.2.2.2.1 OK1.out.2.2.2.2.1 OK1.out.2.2.2.2.2.1 OK1.out.2.2.2.2.2.2.1 OK1.out.2.2.2.2.2.2.2).mono ?_); rintro e w15 ⟨rfl, hbl⟩; replace HB := as_ (below_step HB.out hbl); replace BK1 := as_ (blk_below BK1.out hbl); replace BK2 := as_ (blk_below BK2.out hbl); replace BK3 := as_ (blk_below BK3.out hbl); replace HO := as_ (Kd.R_below HO.out hbl); replace HS := as_ (Kd.R_below HS.out hbl); replace XB := as_ (blk_below XB.out hbl); replace YB := as_ (blk_below YB.out hbl); clear hbl hx0 hx1 hy0 hy1; have hx0 : w15.cell? ⟨gx, 0, none⟩ = some (.int .i64 x.f0) := (blk_cell XB.out 0).trans rfl; have hx1 : w15.cell? ⟨gx, 1, none⟩ = some (.int .i64 x.f1) := (blk_cell XB.out 1).trans rfl; have hy0 : w15.cell? ⟨gy, 0, none⟩ = some (.int .i64 y.f0) := (blk_cell YB.out 0).trans rfl; have hy1 : w15.cell? ⟨gy, 1, none⟩ = some (.int .i64 y.f1) := (blk_cell YB.out 1).trans rfl)) | (go_at_call 36; ((with_reducible refine (impl_couples.take k2 gb (.slice Ao o1_.length co) o1_ (rd (rd_L1 l1 x.f0) y.f0) (rd (rd_L1 m1 x.f1) y.f1) o2_ w _ HB.out BK3.out G3.out HO.out A3.out).mono ?_); rintro e w16 ⟨v9_, rfl, hb3, ho, hb, hkp, hat⟩; have n0_ := as_ (hb); have n1_ := as_ (blk_kept BK1.out hkp (fun hs_ => hs_.elim (fun e_ => blk_ne BK1.out BK3.out (by decide) e_) (fun e_ => Kd.R_ne HO.out BK1.out (by decide) e_))); have n2_ := as_ (blk_kept BK2.out hkp (fun hs_ => hs_.elim (fun e_ => blk_ne BK2.out BK3.out (by decide) e_) (fun e_ => Kd.R_ne HO.out BK2.out (by decide) e_))); have n3_ := as_ (blk_kept XB.out hkp (fun hs_ => hs_.elim (fun e_ => blk_ne XB.out BK3.out (by decide) e_) (fun e_ => NX.out e_))); have n4_ := as_ (blk_kept YB.out hkp (fun hs_ => hs_.elim (fun e_ => blk_ne YB.out BK3.out (by decide) e_) (fun e_ => NY.out e_))); have n5_ := as_ (impl_couples.apart_after NX.out (blk_lt XB.out) hat); have n6_ := as_ (impl_couples.apart_after NY.out (blk_lt YB.out) hat); have n7_ := as_ (impl_couples.snap_after (Kd.R_types HS.out BK3.out (by decide)) hkp hat); have n8_ := as_ (ho); have n9_ := as_ (hb3); clear HB BK1 BK2 XB YB NX NY HS HO BK3; have HB := n0_; have BK1 := n1_; have BK2 := n2_; have XB := n3_; have YB := n4_; have NX := n5_; have NY := n6_; have HS := n7_; have HO := n8_; have BK3 := n9_; clear n0_ n1_ n2_ n3_ n4_ n5_ n6_ n7_ n8_ n9_; clear hb ho hb3 hkp hat hx0 hx1 hy0 hy1; obtain ⟨A9_, c9_, e9_⟩ := Kd.R_slice HO.out; subst e9_; have hx0 : w16.cell? ⟨gx, 0, none⟩ = some (.int .i64 x.f0) := (blk_cell XB.out 0).trans rfl; have hx1 : w16.cell? ⟨gx, 1, none⟩ = some (.int .i64 x.f1) := (blk_cell XB.out 1).trans rfl; have hy0 : w16.cell? ⟨gy, 0, none⟩ = some (.int .i64 y.f0) := (blk_cell YB.out 0).trans rfl; have hy1 : w16.cell? ⟨gy, 1, none⟩ = some (.int .i64 y.f1) := (blk_cell YB.out 1).trans rfl)))
            go_roundg k2
            case measure => have := HK1.out; have := HK2.out; omega
            case rel => exact ⟨_, o2_, _, rf_, H', ⟨by have := HK1.out; have := HK2.out; omega⟩, BK1, BK2, BK3, HO, HS, XB, NX, HB⟩
          rw [if_neg c7] at H
          have c7b0 : (y.f0 == x.f0 && (y.f1 == x.f1)) = false := by simpa using c7
          obtain ⟨c8, H⟩ := ite_s H
          obtain ⟨o3_, A40, H⟩ := Option.bind_eq_some_iff.mp H
          have A4 := as_ A40
          have c8' := c8
          unfold impl_couples.okS at c8'
          have OK2 := as_ c8'
          clear c8'
          have H' := as_ H
          clear A40 H c7 c8 c5
          go_wp2_with (first | ((with_reducible refine gate_dst (N := 11) rfl ?_); go_must (refine bx_ 11 #[.int .i64 0, .int .i64 0] 48 ?_; intro gy eg w13 hb1 hbl; have hsz_ := below_size HB.out; have hlt_ := Kd.R_lt HO.out; have hltx_ := blk_lt XB.out; have n9_ := as_ (Kd.R_below (Kd.R_elderB HO.out gy (by rw [eg]; exact Nat.le_refl _)) hbl); have n10_ := as_ (Kd.R_below (Kd.R_elderB HS.out gy (by rw [eg]; exact Nat.le_refl _)) hbl); have NY := as_ (show some gy ≠ (Value.slice Ao o1_.length co).ownBlock from fun e_ => by have := hlt_ gy e_.symm; omega); have NXY := as_ (show gx ≠ gy by omega); replace HB := as_ (below_step HB.out hbl); replace BK1 := as_ (blk_below BK1.out hbl); replace BK2 := as_ (blk_below BK2.out hbl); replace BK3 := as_ (blk_below BK3.out hbl); replace XB := as_ (blk_below XB.out hbl); clear HO HS; have HO := n9_; have HS := n10_; clear n9_ n10_; have YB := as_ hb1; have Ggy := as_ (show w.heap.size ≤ gy by rw [eg]; exact hsz_); clear hb1 hbl eg hsz_ hlt_ hltx_ hx50 hx51; have hz0 : w13.cell? ⟨gy, 0, none⟩ = some (.int .i64 0) := (blk_cell YB.out 0).trans rfl; have hz1 : w13.cell? ⟨gy, 1, none⟩ = some (.int .i64 0) := (blk_cell YB.out 1).trans rfl; have hf0 := blk_frozen YB.out 0; have hf1 := blk_frozen YB.out 1)) | ((with_reducible refine gate_store (t := 48) (p := 11) rfl ?_); go_must (refine store_event (t := 48) (p := 11) (v := ?vo_w14) (w1 := ((w13.setCell ⟨gy, 0, none⟩ (.int .i64 y.f0)).setCell ⟨gy, 1, none⟩ (.int .i64 y.f1))) ?hg ?ho ?hn ?hr ?_; (case ho => rfl); (case hg => rfl); (case hn => rfl); (case hr => first | (go_simp; done) | (go_simp; rfl)); intro w14 hw; have hk_ : Kept w13 w14 (fun k_ => k_ = gy) := (by rw [hw]; exact Kept.setCell (S := fun k_ => k_ = gy) (p := ⟨gy, 1, none⟩) (Kept.setCell (S := fun k_ => k_ = gy) (p := ⟨gy, 0, none⟩) (Kept.refl _ _) (.inl rfl) _) (.inl rfl) _); have m0_ : Aside0 (Below w.heap.size w w14) := ⟨(by rw [hw]; exact below_set (below_set HB.out Ggy.out) Ggy.out)⟩; have m1_ : Aside0 (w14.heap[gy]? = some (.cells #[.int .i64 y.f0, .int .i64 y.f1] 48 (0, 0))) := ⟨(by rw [hw]; exact blk_put (blk_put YB.out 0 _ rfl) 1 _ rfl)⟩; have m2_ := as_ (Kd.R_mono (ok' := fun _ => True) (Kd.R_kept (Kd.R_mono HO.out (fun k_ hk => hk)) hk_ (fun k_ hk e_ => hk.2 e_)) (fun _ _ => trivial)); have m3_ := as_ (blk_kept BK3.out hk_ (fun e_ => blk_ne BK3.out YB.out (by decide) e_)); have m4_ := as_ (blk_kept BK1.out hk_ (fun e_ => blk_ne BK1.out YB.out (by decide) e_)); have m5_ := as_ (blk_kept BK2.out hk_ (fun e_ => blk_ne BK2.out YB.out (by decide) e_)); have m6_ := as_ (Kd.R_mono (ok' := fun k_ => some k_ ≠ (Value.slice Ao o1_.length co).ownBlock) (Kd.R_kept HS.out hk_ (fun k_ hk e_ => hk.2 e_)) (fun _ hk => hk.1)); have m7_ := as_ (blk_kept XB.out hk_ (fun e_ => NXY.out e_)); clear HB HO BK3 BK1 BK2 YB HS XB hw hk_ hz0 hz1 hf0 hf1; have HB := m0_; have YB := m1_; have HO := m2_; have BK3 := m3_; have BK1 := m4_; have BK2 := m5_; have HS := m6_; have XB := m7_; clear m0_ m1_ m2_ m3_ m4_ m5_ m6_ m7_; have hx0 : w14.cell? ⟨gx, 0, none⟩ = some (.int .i64 x.f0) := (blk_cell XB.out 0).trans rfl; have hx1 : w14.cell? ⟨gx, 1, none⟩ = some (.int .i64 x.f1) := (blk_cell XB.out 1).trans rfl; have hy0 : w14.cell? ⟨gy, 0, none⟩ = some (.int .i64 y.f0) := (blk_cell YB.out 0).trans rfl; have hy1 : w14.cell? ⟨gy, 1, none⟩ = some (.int .i64 y.f1) := (blk_cell YB.out 1).trans rfl)) | (go_at_call 35; ((with_reducible refine (impl_couples.step g2 g3 a0 _ c1 l1 A2 c2 l2 b0 _ d1 m1 B2 d2 m2 w _ HB.out HR1.out HR2.out BK1.out BK2.out x.f0 x.f1 y.f0 y.f1 OK1.out.1 OK1.out.2.1 OK1.out.2.2.1 OK1.out.2.2.2.1 OK1.out.2.2.2.2.1 OK1.out.2.2.2.2.2.1 OK1.out.2.2.2.2.2.2.1 OK1.out.2.2.2.2.2.2.2).mono ?_); rintro e w15 ⟨rfl, hbl⟩; replace HB := as_ (below_step HB.out hbl); replace BK1 := as_ (blk_below BK1.out hbl); replace BK2 := as_ (blk_below BK2.out hbl); replace BK3 := as_ (blk_below BK3.out hbl); replace HO := as_ (Kd.R_below HO.out hbl); replace HS := as_ (Kd.R_below HS.out hbl); replace XB := as_ (blk_below XB.out hbl); replace YB := as_ (blk_below YB.out hbl); clear hbl hx0 hx1 hy0 hy1; have hx0 : w15.cell? ⟨gx, 0, none⟩ = some (.int .i64 x.f0) := (blk_cell XB.out 0).trans rfl; have hx1 : w15.cell? ⟨gx, 1, none⟩ = some (.int .i64 x.f1) := (blk_cell XB.out 1).trans rfl; have hy0 : w15.cell? ⟨gy, 0, none⟩ = some (.int .i64 y.f0) := (blk_cell YB.out 0).trans rfl; have hy1 : w15.cell? ⟨gy, 1, none⟩ = some (.int .i64 y.f1) := (blk_cell YB.out 1).trans rfl)) | (go_at_call 36; ((with_reducible refine (impl_couples.take k2 gb (.slice Ao o1_.length co) o1_ (rd (rd_L1 l1 x.f0) y.f0) (rd (rd_L1 m1 x.f1) y.f1) o2_ w _ HB.out BK3.out G3.out HO.out A3.out).mono ?_); rintro e w16 ⟨v9_, rfl, hb3, ho, hb, hkp, hat⟩; have n0_ := as_ (hb); have n1_ := as_ (blk_kept BK1.out hkp (fun hs_ => hs_.elim (fun e_ => blk_ne BK1.out BK3.out (by decide) e_) (fun e_ => Kd.R_ne HO.out BK1.out (by decide) e_))); have n2_ := as_ (blk_kept BK2.out hkp (fun hs_ => hs_.elim (fun e_ => blk_ne BK2.out BK3.out (by decide) e_) (fun e_ => Kd.R_ne HO.out BK2.out (by decide) e_))); have n3_ := as_ (blk_kept XB.out hkp (fun hs_ => hs_.elim (fun e_ => blk_ne XB.out BK3.out (by decide) e_) (fun e_ => NX.out e_))); have n4_ := as_ (blk_kept YB.out hkp (fun hs_ => hs_.elim (fun e_ => blk_ne YB.out BK3.out (by decide) e_) (fun e_ => NY.out e_))); have n5_ := as_ (impl_couples.apart_after NX.out (blk_lt XB.out) hat); have n6_ := as_ (impl_couples.apart_after NY.out (blk_lt YB.out) hat); have n7_ := as_ (impl_couples.snap_after (Kd.R_types HS.out BK3.out (by decide)) hkp hat); have n8_ := as_ (ho); have n9_ := as_ (hb3); clear HB BK1 BK2 XB YB NX NY HS HO BK3; have HB := n0_; have BK1 := n1_; have BK2 := n2_; have XB := n3_; have YB := n4_; have NX := n5_; have NY := n6_; have HS := n7_; have HO := n8_; have BK3 := n9_; clear n0_ n1_ n2_ n3_ n4_ n5_ n6_ n7_ n8_ n9_; clear hb ho hb3 hkp hat hx0 hx1 hy0 hy1; obtain ⟨A9_, c9_, e9_⟩ := Kd.R_slice HO.out; subst e9_; have hx0 : w16.cell? ⟨gx, 0, none⟩ = some (.int .i64 x.f0) := (blk_cell XB.out 0).trans rfl; have hx1 : w16.cell? ⟨gx, 1, none⟩ = some (.int .i64 x.f1) := (blk_cell XB.out 1).trans rfl; have hy0 : w16.cell? ⟨gy, 0, none⟩ = some (.int .i64 y.f0) := (blk_cell YB.out 0).trans rfl; have hy1 : w16.cell? ⟨gy, 1, none⟩ = some (.int .i64 y.f1) := (blk_cell YB.out 1).trans rfl)) | (go_at_call 35; ((with_reducible refine (impl_couples.step g2 g3 a0 _ c1 l1 A2 c2 l2 b0 _ d1 m1 B2 d2 m2 w _ HB.out HR1.out HR2.out BK1.out BK2.out y.f0 y.f1 x.f0 x.f1 OK2.out.1 OK2.out.2.1 OK2.out.2.2.1 OK2.out.2.2.2.1 OK2.out.2.2.2.2.1 OK2.out.2.2.2.2.2.1 OK2.out.2.2.2.2.2.2.1 OK2.out.2.2.2.2.2.2.2).mono ?_); rintro e w17 ⟨rfl, hbl⟩; replace HB := as_ (below_step HB.out hbl); replace BK1 := as_ (blk_below BK1.out hbl); replace BK2 := as_ (blk_below BK2.out hbl); replace BK3 := as_ (blk_below BK3.out hbl); replace HO := as_ (Kd.R_below HO.out hbl); replace HS := as_ (Kd.R_below HS.out hbl); replace XB := as_ (blk_below XB.out hbl); replace YB := as_ (blk_below YB.out hbl); clear hbl hx0 hx1 hy0 hy1; have hx0 : w17.cell? ⟨gx, 0, none⟩ = some (.int .i64 x.f0) := (blk_cell XB.out 0).trans rfl; have hx1 : w17.cell? ⟨gx, 1, none⟩ = some (.int .i64 x.f1) := (blk_cell XB.out 1).trans rfl; have hy0 : w17.cell? ⟨gy, 0, none⟩ = some (.int .i64 y.f0) := (blk_cell YB.out 0).trans rfl; have hy1 : w17.cell? ⟨gy, 1, none⟩ = some (.int .i64 y.f1) := (blk_cell YB.out 1).trans rfl)) | (go_at_call 36; ((with_reducible refine (impl_couples.take k2 gb (.slice A9_ o2_.length c9_) o2_ (rd (rd_L1 l1 y.f0) x.f0) (rd (rd_L1 m1 y.f1) x.f1) o3_ w _ HB.out BK3.out G3.out HO.out A4.out).mono ?_); rintro e w18 ⟨v9_, rfl, hb3, ho, hb, hkp, hat⟩; have n0_ := as_ (hb); have n1_ := as_ (blk_kept BK1.out hkp (fun hs_ => hs_.elim (fun e_ => blk_ne BK1.out BK3.out (by decide) e_) (fun e_ => Kd.R_ne HO.out BK1.out (by decide) e_))); have n2_ := as_ (blk_kept BK2.out hkp (fun hs_ => hs_.elim (fun e_ => blk_ne BK2.out BK3.out (by decide) e_) (fun e_ => Kd.R_ne HO.out BK2.out (by decide) e_))); have n3_ := as_ (blk_kept XB.out hkp (fun hs_ => hs_.elim (fun e_ => blk_ne XB.out BK3.out (by decide) e_) (fun e_ => NX.out e_))); have n4_ := as_ (blk_kept YB.out hkp (fun hs_ => hs_.elim (fun e_ => blk_ne YB.out BK3.out (by decide) e_) (fun e_ => NY.out e_))); have n5_ := as_ (impl_couples.apart_after NX.out (blk_lt XB.out) hat); have n6_ := as_ (impl_couples.apart_after NY.out (blk_lt YB.out) hat); have n7_ := as_ (impl_couples.snap_after (Kd.R_types HS.out BK3.out (by decide)) hkp hat); have n8_ := as_ (ho); have n9_ := as_ (hb3); clear HB BK1 BK2 XB YB NX NY HS HO BK3; have HB := n0_; have BK1 := n1_; have BK2 := n2_; have XB := n3_; have YB := n4_; have NX := n5_; have NY := n6_; have HS := n7_; have HO := n8_; have BK3 := n9_; clear n0_ n1_ n2_ n3_ n4_ n5_ n6_ n7_ n8_ n9_; clear hb ho hb3 hkp hat hx0 hx1 hy0 hy1; obtain ⟨A9_, c9_, e9_⟩ := Kd.R_slice HO.out; subst e9_; have hx0 : w18.cell? ⟨gx, 0, none⟩ = some (.int .i64 x.f0) := (blk_cell XB.out 0).trans rfl; have hx1 : w18.cell? ⟨gx, 1, none⟩ = some (.int .i64 x.f1) := (blk_cell XB.out 1).trans rfl; have hy0 : w18.cell? ⟨gy, 0, none⟩ = some (.int .i64 y.f0) := (blk_cell YB.out 0).trans rfl; have hy1 : w18.cell? ⟨gy, 1, none⟩ = some (.int .i64 y.f1) := (blk_cell YB.out 1).trans rfl)))
          go_roundg k2
          case measure => have := HK1.out; have := HK2.out; omega
          case rel => exact ⟨_, o3_, _, rf_, H', ⟨by have := HK1.out; have := HK2.out; omega⟩, BK1, BK2, BK3, HO, HS, XB, NX, HB⟩

def slices_Index_int64_int64.l0 : Nat → List Int → Int → Int → Int → Option (Int)
  | 0, _, _, _, _ => none
  | k + 1, x0, x1, x7, x8 => if x8 < x7 then (if 0 ≤ x8 then (if x8 < (x0.length : Int) then (if x1 = (rd x0 x8) then (some x8) else (slices_Index_int64_int64.l0 k x0 x1 x7 (wrap64 (x8 + 1)))) else (none)) else (none)) else (some (-1))
def slices_Index_int64_int64.f (k : Nat) (l0 : List Int) (a1 : Int) : Option (Int) := slices_Index_int64_int64.l0 k l0 a1 (l0.length : Int) 0
set_option maxHeartbeats 8000000 in
set_option maxRecDepth 100000 in
theorem slices_Index_int64_int64.calls (k : Nat) (A0 : Option Addr) (c0 : Nat) (l0 : List Int) (a1 : Int) (r : Int) (w : World) (hr0 : Kd.C (Kd.int .i64) w A0 l0.length l0) (hc0 : l0.length ≤ c0) (h : slices_Index_int64_int64.f k l0 a1 = some r) :
    Calls Try.prog 41 #[.slice A0 l0.length c0, .int .i64 a1] w fun e w' => e = .returned (.int .i64 r) ∧ Drawn0 w w' := by
  have HR0 := as_ hr0
  have HC0 := as_ hc0
  clear hr0 hc0
  have H : (slices_Index_int64_int64.l0 k l0 a1 (l0.length : Int) 0) = some r := h
  clear h
  have H' := as_ H
  clear H
  go_enter Try.func41, Try.ntmps41
  go_wp2
  go_loopg [8] k (fun kq v8 w' => ∃ (x8_1 : Int), v8 = .int .i64 x8_1 ∧ Aside0 (slices_Index_int64_int64.l0 kq l0 a1 (l0.length : Int) x8_1 = some r) ∧ Aside0 (kq ≤ k) ∧ Drawn0 w w')
  case atStart => exact ⟨(0), rf_, H', ⟨Nat.le_refl _⟩, by repeat (first | exact Drawn0.refl _ | apply Drawn0.step)⟩
  case round =>
    clear H'
    try clear p2
    obtain ⟨x8_1, rfl, HA, HK1, ⟨m1, rfl⟩⟩ := hrel
    cases gk with
    | zero => exact absurd HA.out (by simp [slices_Index_int64_int64.l0])
    | succ k1 =>
      have H := HA.out
      clear HA
      simp only [slices_Index_int64_int64.l0] at H
      by_cases c3 : x8_1 < (l0.length : Int)
      rotate_left
      · rw [if_neg c3] at H
        have c3b0 := decide_eq_false c3
        clear c3
        obtain rfl := Option.some.inj H
        go_wp2
        go_ret
        exact ⟨rf_, by repeat (first | exact Drawn0.refl _ | apply Drawn0.step)⟩
      rw [if_pos c3] at H
      have c3b0 := decide_eq_true c3
      clear c3
      obtain ⟨c4b0, H⟩ := ite_d H
      obtain ⟨c5b0, H⟩ := ite_d H
      by_cases c6 : a1 = (rd l0 x8_1)
      · rw [if_pos c6] at H
        have c6b0 := beq_iff_eq.mpr c6
        have c6b1 := bne_eq_false_iff_eq.mpr c6
        clear c6
        obtain rfl := Option.some.inj H
        have p292 : 0 ≤ (x8_1 : Int) := od_
        have q292 : x8_1 < (l0.length : Int) := od_
        obtain ⟨ad292, e292, hx292_0⟩ := Kd.at_int HR0.out x8_1 p292 q292
        cases e292
        replace p292 := eq_true p292
        replace q292 := eq_true q292
        go_wp2
        go_ret
        exact ⟨rf_, by repeat (first | exact Drawn0.refl _ | apply Drawn0.step)⟩
      rw [if_neg c6] at H
      have c6b0 := beq_eq_false_iff_ne.mpr c6
      have c6b1 := bne_iff_ne.mpr c6
      have H' := as_ H
      clear H
      have p292 : 0 ≤ (x8_1 : Int) := od_
      have q292 : x8_1 < (l0.length : Int) := od_
      obtain ⟨ad292, e292, hx292_0⟩ := Kd.at_int HR0.out x8_1 p292 q292
      cases e292
      replace p292 := eq_true p292
      replace q292 := eq_true q292
      go_wp2
      go_roundg k1
      case measure => have := HK1.out; omega
      case rel => exact ⟨(wrap64 (x8_1 + 1)), rf_, H', om_ HK1, by repeat (first | exact Drawn0.refl _ | apply Drawn0.step)⟩

def slices_Contains_int64_int64.f (k : Nat) (l0 : List Int) (a1 : Int) : Option (Bool) := (slices_Index_int64_int64.f k l0 a1).bind fun t293 => (some (decide (t293 ≥ 0)))
set_option maxHeartbeats 8000000 in
set_option maxRecDepth 100000 in
theorem slices_Contains_int64_int64.calls (k : Nat) (A0 : Option Addr) (c0 : Nat) (l0 : List Int) (a1 : Int) (r : Bool) (w : World) (hr0 : Kd.C (Kd.int .i64) w A0 l0.length l0) (hc0 : l0.length ≤ c0) (h : slices_Contains_int64_int64.f k l0 a1 = some r) :
    Calls Try.prog 40 #[.slice A0 l0.length c0, .int .i64 a1] w fun e w' => e = .returned (.bool r) ∧ Drawn0 w w' := by
  have HR0 := as_ hr0
  have HC0 := as_ hc0
  clear hr0 hc0
  have H : ((slices_Index_int64_int64.f k l0 a1).bind fun t293 => (some (decide (t293 ≥ 0)))) = some r := h
  clear h
  obtain ⟨t293, A3, H⟩ := bo_ H
  obtain rfl := Option.some.inj H
  go_enter Try.func40, Try.ntmps40
  go_wp2_with (first | ((with_reducible refine gate_callee (f := 41) rfl ?_); refine gL_ 7 Try.func41 #[.slice A0 l0.length c0, .int .i64 a1] ?_; (with_reducible refine (slices_Index_int64_int64.calls k _ _ l0 a1 t293 _ ?side1 ?side2 A3.out).mono ?_); (case side1 => exact cC_ HR0.out); (case side2 => exact HC0.out); rintro e w' ⟨rfl, ⟨nd, rfl⟩⟩; refine ⟨_, rfl, ?_⟩))
  go_ret
  exact ⟨rf_, by repeat (first | exact Drawn0.refl _ | apply Drawn0.step)⟩

def impl_isGood.f (k : Nat) (a0_0 : Int) (l0_1 : List (List Int)) (l0_2 : List Int) (a1 : Int) : Option (Bool) := (slices_Contains_int64_int64.f k l0_2 a1).bind fun t295 => (some t295)
set_option maxHeartbeats 8000000 in
set_option maxRecDepth 100000 in
theorem impl_isGood.calls (k : Nat) (a0_0 : Int) (A0_1 : Option Addr) (c0_1 : Nat) (l0_1 : List (List Int)) (A0_2 : Option Addr) (c0_2 : Nat) (l0_2 : List Int) (a1 : Int) (r : Bool) (w : World) (hr0_1 : Kd.C (Kd.slice 2 (Kd.int .i64)) w A0_1 l0_1.length l0_1) (hc0_1 : l0_1.length ≤ c0_1) (hr0_2 : Kd.C (Kd.int .i64) w A0_2 l0_2.length l0_2) (hc0_2 : l0_2.length ≤ c0_2) (h : impl_isGood.f k a0_0 l0_1 l0_2 a1 = some r) :
    Calls Try.prog 39 #[.agg #[.int .i64 a0_0, .slice A0_1 l0_1.length c0_1, .slice A0_2 l0_2.length c0_2], .int .i64 a1] w fun e w' => e = .returned (.bool r) ∧ Below w.heap.size w w' := by
  have hu29 := Try.underlying29
  have HR0_1 := as_ hr0_1
  have HC0_1 := as_ hc0_1
  clear hr0_1 hc0_1
  have HR0_2 := as_ hr0_2
  have HC0_2 := as_ hc0_2
  clear hr0_2 hc0_2
  have HB := as_ (Below.refl w.heap.size w)
  have H : ((slices_Contains_int64_int64.f k l0_2 a1).bind fun t295 => (some t295)) = some r := h
  clear h
  obtain ⟨t295, A3, H⟩ := bo_ H
  obtain rfl := Option.some.inj H
  go_enter Try.func39, Try.ntmps39
  go_wp2_with (first | ((with_reducible refine gate_dst (N := 2) rfl ?_); refine bx_ 2 #[.int .i64 a0_0, .slice A0_1 l0_1.length c0_1, .slice A0_2 l0_2.length c0_2] 29 ?_; intro gb294 hg w4 hbox hb; have BK294 := as_ (hbox); have GW294 := gz_ hg (b_ HB); have GE294 := GW294; replace HB := as_ (below_step (b_ HB) hb); clear hb hbox hg; obtain ⟨hcz5_0, hfz5_0, hcz5_1, hfz5_1, hcz5_2, hfz5_2⟩ := tc3_ BK294) | ((with_reducible refine gate_callee (f := 40) rfl ?_); refine gL_ 8 Try.func40 #[.slice A0_2 l0_2.length c0_2, .int .i64 a1] ?_; (with_reducible refine (slices_Contains_int64_int64.calls k _ _ l0_2 a1 t295 _ ?side1 ?side2 A3.out).mono ?_); (case side1 => exact bC_ HR0_2 HB); (case side2 => exact HC0_2.out); rintro e w' ⟨rfl, ⟨nd, rfl⟩⟩; refine ⟨_, rfl, ?_⟩))
  go_ret
  exact ⟨re_, b1_ HB GE294⟩

end Go.Proofs.Ytpbfideppdmceaa.E
