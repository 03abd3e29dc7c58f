/- The row of the law FnExactCombineAutomata, out of its pure statement. -/
import Derived.Test.YtpbfideppdmceaaQCMEx0
import Derived.Test.YtpbfideppdmceaaQCMEx5
import Derived.Test.YtpbfideppdmceaaQCML
-- Written by wip/ext.py of this claim (contracts by the form of the kit's print; hand-written ones among them).
namespace Go.Proofs.Ytpbfideppdmceaa.E
open Go.RowKit Go.Proofs.YtpbfideppdmceaaW.PrintWords Go.Proofs.YtpbfideppdmceaaW.PrintLast Go.Proofs.YtpbfideppdmceaaW.PrintMore Go.Proofs.Ytpbfideppdmceaa.Mi
attribute [local go_sem] max2_int min2_int max_two min_two max_three min_three max_four min_four   -- for this text's walks alone
set_option linter.unusedVariables false
set_option linter.unusedSimpArgs false

def impl_isGoodFor.f (k : Nat) (a0_0 : Int) (l0_1 : List (List Int)) (l0_2 : List Int) (a1_0 : Int) (l1_1 : List (List Int)) (l1_2 : List Int) (a2_0 : Int) (a2_1 : Int) (a3 : Int) : Option (Bool) := (impl_isGood.f k a0_0 l0_1 l0_2 a2_0).bind fun t299 => ((impl_isGood.f k a1_0 l1_1 l1_2 a2_1).bind fun t300 => (if a3 = 0 then (if t299 = true then (some t300) else (some false)) else (if a3 = 1 then (if t299 = true then (some true) else (some t300)) else (some (t299 != t300)))))
def impl_isGoodFor.T1 : Bool × List (List Nat × List Nat) := (true, [([], []), ([], []), ([1], [1]), ([0, 2], [0, 2]), ([], []), ([], []), ([5], [5]), ([4, 6, 3], [4, 6]), ([3, 7, 0, 1, 2, 3], [3]), ([7, 8, 0, 1, 2, 3, 4, 5, 6, 7, 8], [7])])
def impl_isGoodFor.B1 : List Nat := [0, 0, 2, 7, 0, 0, 32, 127, 255, 511]
theorem impl_isGoodFor.tab1 : rtab .any (opsOf Try.f23 1) = impl_isGoodFor.T1 := by kernel_rfl
theorem impl_isGoodFor.bits1 : waitsOk impl_isGoodFor.T1.2 impl_isGoodFor.B1 = true := by kernel_rfl
set_option maxHeartbeats 8000000 in
set_option maxRecDepth 100000 in
theorem impl_isGoodFor.calls (k : Nat) (a0_0 : Int) (A0_1 : Option Addr) (c0_1 : Nat) (l0_1 : List (List Int)) (A0_2 : Option Addr) (c0_2 : Nat) (l0_2 : List Int) (a1_0 : Int) (A1_1 : Option Addr) (c1_1 : Nat) (l1_1 : List (List Int)) (A1_2 : Option Addr) (c1_2 : Nat) (l1_2 : List Int) (a2_0 : Int) (a2_1 : Int) (a3 : Int) (r : Bool) (w : World) (hr0_1 : Kd.C (Kd.slice 2 (Kd.int .i64)) w A0_1 l0_1.length l0_1) (hc0_1 : l0_1.length ≤ c0_1) (hr0_2 : Kd.C (Kd.int .i64) w A0_2 l0_2.length l0_2) (hc0_2 : l0_2.length ≤ c0_2) (hr1_1 : Kd.C (Kd.slice 2 (Kd.int .i64)) w A1_1 l1_1.length l1_1) (hc1_1 : l1_1.length ≤ c1_1) (hr1_2 : Kd.C (Kd.int .i64) w A1_2 l1_2.length l1_2) (hc1_2 : l1_2.length ≤ c1_2) (h : impl_isGoodFor.f k a0_0 l0_1 l0_2 a1_0 l1_1 l1_2 a2_0 a2_1 a3 = some r) :
    Calls Try.prog 23 #[.agg #[.int .i64 a0_0, .slice A0_1 l0_1.length c0_1, .slice A0_2 l0_2.length c0_2], .agg #[.int .i64 a1_0, .slice A1_1 l1_1.length c1_1, .slice A1_2 l1_2.length c1_2], .agg #[.int .i64 a2_0, .int .i64 a2_1], .int .i64 a3] w fun e w' => e = .returned (.bool r) ∧ Below w.heap.size w w' := by
  have hu29 := Try.underlying29
  have hu48 := Try.underlying48
  have HR0_1 := as_ hr0_1
  have HC0_1 := as_ hc0_1
  clear hr0_1 hc0_1
  have HR0_2 := as_ hr0_2
  have HC0_2 := as_ hc0_2
  clear hr0_2 hc0_2
  have HR1_1 := as_ hr1_1
  have HC1_1 := as_ hc1_1
  clear hr1_1 hc1_1
  have HR1_2 := as_ hr1_2
  have HC1_2 := as_ hc1_2
  clear hr1_2 hc1_2
  have HB := as_ (Below.refl w.heap.size w)
  have H : ((impl_isGood.f k a0_0 l0_1 l0_2 a2_0).bind fun t299 => ((impl_isGood.f k a1_0 l1_1 l1_2 a2_1).bind fun t300 => (if a3 = 0 then (if t299 = true then (some t300) else (some false)) else (if a3 = 1 then (if t299 = true then (some true) else (some t300)) else (some (t299 != t300)))))) = some r := h
  clear h
  obtain ⟨t299, A5, H⟩ := bo_ H
  obtain ⟨t300, A6, H⟩ := bo_ H
  by_cases c7 : a3 = 0
  · rw [if_pos c7] at H
    have c7b0 := beq_iff_eq.mpr c7
    have c7b1 := bne_eq_false_iff_eq.mpr c7
    clear c7
    by_cases c8 : t299 = true
    · subst c8
      replace H := it_ H
      obtain rfl := Option.some.inj H
      go_enter Try.func23, Try.ntmps23
      try go_wp2_with (first | ((with_reducible refine gate_dst (N := 4) rfl ?_); refine bx_ 4 #[.int .i64 a0_0, .slice A0_1 l0_1.length c0_1, .slice A0_2 l0_2.length c0_2] 29 ?_; intro gb296 hg w9 hbox hb; have BK296 := as_ (hbox); have GW296 := gz_ hg (b_ HB); have GE296 := GW296; replace HB := as_ (below_step (b_ HB) hb); clear hb hbox hg) | ((with_reducible refine gate_dst (N := 5) rfl ?_); refine bx_ 5 #[.int .i64 a1_0, .slice A1_1 l1_1.length c1_1, .slice A1_2 l1_2.length c1_2] 29 ?_; intro gb297 hg w10 hbox hb; have BK297 := as_ (hbox); have GW297 := gz_ hg (b1_ HB GE296); have GE297 := GW297; replace HB := as_ (below_step (b1_ HB GE296) hb); have NB296_297 := nl_ hg (bk_ BK296); have NB297_296 := ng_ hg (bk_ BK296); replace BK296 := kb_ BK296 hb; clear hb hbox hg) | ((with_reducible refine gate_dst (N := 6) rfl ?_); refine bx_ 6 #[.int .i64 a2_0, .int .i64 a2_1] 48 ?_; intro gb298 hg w11 hbox hb; have BK298 := as_ (hbox); have GW298 := gz_ hg (b2_ HB GE296 GE297); have GE298 := GW298; replace HB := as_ (below_step (b2_ HB GE296 GE297) hb); have NB296_298 := nl_ hg (bk_ BK296); have NB298_296 := ng_ hg (bk_ BK296); replace BK296 := kb_ BK296 hb; have NB297_298 := nl_ hg (bk_ BK297); have NB298_297 := ng_ hg (bk_ BK297); replace BK297 := kb_ BK297 hb; clear hb hbox hg))
      replace BK296 := dk_ BK296; replace BK297 := dk_ BK297; replace BK298 := dk_ BK298; replace HB := db_ HB
      refine start_ (n := 10) (S := fun w' => w'.cell? ⟨gb296, 0, none⟩ = some (.int .i64 a0_0) ∧ w'.cell? ⟨gb296, 1, none⟩ = some (.slice A0_1 l0_1.length c0_1) ∧ w'.cell? ⟨gb296, 2, none⟩ = some (.slice A0_2 l0_2.length c0_2) ∧ w'.cell? ⟨gb298, 0, none⟩ = some (.int .i64 a2_0) ∧ w'.cell? ⟨gb298, 1, none⟩ = some (.int .i64 a2_1) ∧ w'.cell? ⟨gb297, 0, none⟩ = some (.int .i64 a1_0) ∧ w'.cell? ⟨gb297, 1, none⟩ = some (.slice A1_1 l1_1.length c1_1) ∧ w'.cell? ⟨gb297, 2, none⟩ = some (.slice A1_2 l1_2.length c1_2)) (ds := []) #[false, false, false, false, false, false, false, false, false, false] (by kernel_rfl) rfl rfl (tz3_ BK296 (tz2_ BK298 (ty3_ BK297))) (fun hHeld => ?_); refine with_tabW impl_isGoodFor.tab1 impl_isGoodFor.bits1 (fun HT_ HW_ => ?_)
      generalize w11.drew = w12 at BK296 BK297 BK298 HB hHeld ⊢
      refine pu_ 1 12 HT_ ?_
      refine pu_ 5 16 HT_ ?_
      refine tk_ 0 11 HT_ HW_ hHeld ?_
      refine tk_ 2 13 HT_ HW_ hHeld ?_
      refine tk_ 4 15 HT_ HW_ hHeld ?_
      refine tk_ 6 17 HT_ HW_ hHeld ?_
      refine on_ 3 (some 14) HT_ fun K hK => ?_
      refine gR_ Try.func39 #[.agg #[.int .i64 a0_0, .slice A0_1 l0_1.length c0_1, .slice A0_2 l0_2.length c0_2], .int .i64 a2_0] ?_
      with_reducible refine (impl_isGood.calls k a0_0 _ _ l0_1 _ _ l0_2 a2_0 true _ ?side1 ?side2 ?side3 ?side4 A5.out).mono ?_
      (case side1 => exact bC_ HR0_1 HB)
      (case side2 => exact HC0_1.out)
      (case side3 => exact bC_ HR0_2 HB)
      (case side4 => exact HC0_2.out)
      rintro e w13 ⟨rfl, hb⟩
      refine ⟨_, rfl, ?_⟩
      replace BK296 := kb_ BK296 hb; replace BK297 := kb_ BK297 hb; replace BK298 := kb_ BK298 hb; replace HB := as_ (below_step (b3_ HB GE296 GE297 GE298) hb)
      clear hb
      refine hK.out _ _ (tz3_ BK296 (tz2_ BK298 (ty3_ BK297))) (fun hHeld => ?_)
      clear hK K
      refine nm_ 14 ?_
      refine on_ 7 (some 18) HT_ fun K hK => ?_
      refine gR_ Try.func39 #[.agg #[.int .i64 a1_0, .slice A1_1 l1_1.length c1_1, .slice A1_2 l1_2.length c1_2], .int .i64 a2_1] ?_
      with_reducible refine (impl_isGood.calls k a1_0 _ _ l1_1 _ _ l1_2 a2_1 t300 _ ?side1 ?side2 ?side3 ?side4 A6.out).mono ?_
      (case side1 => exact bC_ HR1_1 HB)
      (case side2 => exact HC1_1.out)
      (case side3 => exact bC_ HR1_2 HB)
      (case side4 => exact HC1_2.out)
      rintro e w14 ⟨rfl, hb⟩
      refine ⟨_, rfl, ?_⟩
      replace BK296 := kb_ BK296 hb; replace BK297 := kb_ BK297 hb; replace BK298 := kb_ BK298 hb; replace HB := as_ (below_step (b3_ HB GE296 GE297 GE298) hb)
      clear hb
      refine hK.out _ _ (tz3_ BK296 (tz2_ BK298 (ty3_ BK297))) (fun hHeld => ?_)
      clear hK K
      refine nm_ 18 ?_
      refine pu_ 8 9 HT_ ?_
      refine pu_ 9 10 HT_ ?_
      refine dn_ HT_ ?_
      try go_wp2
      go_ret
      exact ⟨re_, b3_ HB GE296 GE297 GE298⟩
    replace c8 := Bool.eq_false_iff.mpr c8
    subst c8
    replace H := if_ H
    obtain rfl := Option.some.inj H
    go_enter Try.func23, Try.ntmps23
    try go_wp2_with (first | ((with_reducible refine gate_dst (N := 4) rfl ?_); refine bx_ 4 #[.int .i64 a0_0, .slice A0_1 l0_1.length c0_1, .slice A0_2 l0_2.length c0_2] 29 ?_; intro gb296 hg w15 hbox hb; have BK296 := as_ (hbox); have GW296 := gz_ hg (b_ HB); have GE296 := GW296; replace HB := as_ (below_step (b_ HB) hb); clear hb hbox hg) | ((with_reducible refine gate_dst (N := 5) rfl ?_); refine bx_ 5 #[.int .i64 a1_0, .slice A1_1 l1_1.length c1_1, .slice A1_2 l1_2.length c1_2] 29 ?_; intro gb297 hg w16 hbox hb; have BK297 := as_ (hbox); have GW297 := gz_ hg (b1_ HB GE296); have GE297 := GW297; replace HB := as_ (below_step (b1_ HB GE296) hb); have NB296_297 := nl_ hg (bk_ BK296); have NB297_296 := ng_ hg (bk_ BK296); replace BK296 := kb_ BK296 hb; clear hb hbox hg) | ((with_reducible refine gate_dst (N := 6) rfl ?_); refine bx_ 6 #[.int .i64 a2_0, .int .i64 a2_1] 48 ?_; intro gb298 hg w17 hbox hb; have BK298 := as_ (hbox); have GW298 := gz_ hg (b2_ HB GE296 GE297); have GE298 := GW298; replace HB := as_ (below_step (b2_ HB GE296 GE297) hb); have NB296_298 := nl_ hg (bk_ BK296); have NB298_296 := ng_ hg (bk_ BK296); replace BK296 := kb_ BK296 hb; have NB297_298 := nl_ hg (bk_ BK297); have NB298_297 := ng_ hg (bk_ BK297); replace BK297 := kb_ BK297 hb; clear hb hbox hg))
    replace BK296 := dk_ BK296; replace BK297 := dk_ BK297; replace BK298 := dk_ BK298; replace HB := db_ HB
    refine start_ (n := 10) (S := fun w' => w'.cell? ⟨gb296, 0, none⟩ = some (.int .i64 a0_0) ∧ w'.cell? ⟨gb296, 1, none⟩ = some (.slice A0_1 l0_1.length c0_1) ∧ w'.cell? ⟨gb296, 2, none⟩ = some (.slice A0_2 l0_2.length c0_2) ∧ w'.cell? ⟨gb298, 0, none⟩ = some (.int .i64 a2_0) ∧ w'.cell? ⟨gb298, 1, none⟩ = some (.int .i64 a2_1) ∧ w'.cell? ⟨gb297, 0, none⟩ = some (.int .i64 a1_0) ∧ w'.cell? ⟨gb297, 1, none⟩ = some (.slice A1_1 l1_1.length c1_1) ∧ w'.cell? ⟨gb297, 2, none⟩ = some (.slice A1_2 l1_2.length c1_2)) (ds := []) #[false, false, false, false, false, false, false, false, false, false] (by kernel_rfl) rfl rfl (tz3_ BK296 (tz2_ BK298 (ty3_ BK297))) (fun hHeld => ?_); refine with_tabW impl_isGoodFor.tab1 impl_isGoodFor.bits1 (fun HT_ HW_ => ?_)
    generalize w17.drew = w18 at BK296 BK297 BK298 HB hHeld ⊢
    refine pu_ 1 12 HT_ ?_
    refine pu_ 5 16 HT_ ?_
    refine tk_ 0 11 HT_ HW_ hHeld ?_
    refine tk_ 2 13 HT_ HW_ hHeld ?_
    refine tk_ 4 15 HT_ HW_ hHeld ?_
    refine tk_ 6 17 HT_ HW_ hHeld ?_
    refine on_ 3 (some 14) HT_ fun K hK => ?_
    refine gR_ Try.func39 #[.agg #[.int .i64 a0_0, .slice A0_1 l0_1.length c0_1, .slice A0_2 l0_2.length c0_2], .int .i64 a2_0] ?_
    with_reducible refine (impl_isGood.calls k a0_0 _ _ l0_1 _ _ l0_2 a2_0 false _ ?side1 ?side2 ?side3 ?side4 A5.out).mono ?_
    (case side1 => exact bC_ HR0_1 HB)
    (case side2 => exact HC0_1.out)
    (case side3 => exact bC_ HR0_2 HB)
    (case side4 => exact HC0_2.out)
    rintro e w19 ⟨rfl, hb⟩
    refine ⟨_, rfl, ?_⟩
    replace BK296 := kb_ BK296 hb; replace BK297 := kb_ BK297 hb; replace BK298 := kb_ BK298 hb; replace HB := as_ (below_step (b3_ HB GE296 GE297 GE298) hb)
    clear hb
    refine hK.out _ _ (tz3_ BK296 (tz2_ BK298 (ty3_ BK297))) (fun hHeld => ?_)
    clear hK K
    refine nm_ 14 ?_
    refine on_ 7 (some 18) HT_ fun K hK => ?_
    refine gR_ Try.func39 #[.agg #[.int .i64 a1_0, .slice A1_1 l1_1.length c1_1, .slice A1_2 l1_2.length c1_2], .int .i64 a2_1] ?_
    with_reducible refine (impl_isGood.calls k a1_0 _ _ l1_1 _ _ l1_2 a2_1 t300 _ ?side1 ?side2 ?side3 ?side4 A6.out).mono ?_
    (case side1 => exact bC_ HR1_1 HB)
    (case side2 => exact HC1_1.out)
    (case side3 => exact bC_ HR1_2 HB)
    (case side4 => exact HC1_2.out)
    rintro e w20 ⟨rfl, hb⟩
    refine ⟨_, rfl, ?_⟩
    replace BK296 := kb_ BK296 hb; replace BK297 := kb_ BK297 hb; replace BK298 := kb_ BK298 hb; replace HB := as_ (below_step (b3_ HB GE296 GE297 GE298) hb)
    clear hb
    refine hK.out _ _ (tz3_ BK296 (tz2_ BK298 (ty3_ BK297))) (fun hHeld => ?_)
    clear hK K
    refine nm_ 18 ?_
    refine pu_ 8 9 HT_ ?_
    refine pu_ 9 10 HT_ ?_
    refine dn_ HT_ ?_
    try go_wp2
    go_ret
    exact ⟨re_, b3_ HB GE296 GE297 GE298⟩
  rw [if_neg c7] at H
  have c7b0 := beq_eq_false_iff_ne.mpr c7
  have c7b1 := bne_iff_ne.mpr c7
  by_cases c21 : a3 = 1
  rotate_left
  · rw [if_neg c21] at H
    have c21b0 := beq_eq_false_iff_ne.mpr c21
    have c21b1 := bne_iff_ne.mpr c21
    obtain rfl := Option.some.inj H
    go_enter Try.func23, Try.ntmps23
    try go_wp2_with (first | ((with_reducible refine gate_dst (N := 4) rfl ?_); refine bx_ 4 #[.int .i64 a0_0, .slice A0_1 l0_1.length c0_1, .slice A0_2 l0_2.length c0_2] 29 ?_; intro gb296 hg w35 hbox hb; have BK296 := as_ (hbox); have GW296 := gz_ hg (b_ HB); have GE296 := GW296; replace HB := as_ (below_step (b_ HB) hb); clear hb hbox hg) | ((with_reducible refine gate_dst (N := 5) rfl ?_); refine bx_ 5 #[.int .i64 a1_0, .slice A1_1 l1_1.length c1_1, .slice A1_2 l1_2.length c1_2] 29 ?_; intro gb297 hg w36 hbox hb; have BK297 := as_ (hbox); have GW297 := gz_ hg (b1_ HB GE296); have GE297 := GW297; replace HB := as_ (below_step (b1_ HB GE296) hb); have NB296_297 := nl_ hg (bk_ BK296); have NB297_296 := ng_ hg (bk_ BK296); replace BK296 := kb_ BK296 hb; clear hb hbox hg) | ((with_reducible refine gate_dst (N := 6) rfl ?_); refine bx_ 6 #[.int .i64 a2_0, .int .i64 a2_1] 48 ?_; intro gb298 hg w37 hbox hb; have BK298 := as_ (hbox); have GW298 := gz_ hg (b2_ HB GE296 GE297); have GE298 := GW298; replace HB := as_ (below_step (b2_ HB GE296 GE297) hb); have NB296_298 := nl_ hg (bk_ BK296); have NB298_296 := ng_ hg (bk_ BK296); replace BK296 := kb_ BK296 hb; have NB297_298 := nl_ hg (bk_ BK297); have NB298_297 := ng_ hg (bk_ BK297); replace BK297 := kb_ BK297 hb; clear hb hbox hg))
    replace BK296 := dk_ BK296; replace BK297 := dk_ BK297; replace BK298 := dk_ BK298; replace HB := db_ HB
    refine start_ (n := 10) (S := fun w' => w'.cell? ⟨gb296, 0, none⟩ = some (.int .i64 a0_0) ∧ w'.cell? ⟨gb296, 1, none⟩ = some (.slice A0_1 l0_1.length c0_1) ∧ w'.cell? ⟨gb296, 2, none⟩ = some (.slice A0_2 l0_2.length c0_2) ∧ w'.cell? ⟨gb298, 0, none⟩ = some (.int .i64 a2_0) ∧ w'.cell? ⟨gb298, 1, none⟩ = some (.int .i64 a2_1) ∧ w'.cell? ⟨gb297, 0, none⟩ = some (.int .i64 a1_0) ∧ w'.cell? ⟨gb297, 1, none⟩ = some (.slice A1_1 l1_1.length c1_1) ∧ w'.cell? ⟨gb297, 2, none⟩ = some (.slice A1_2 l1_2.length c1_2)) (ds := []) #[false, false, false, false, false, false, false, false, false, false] (by kernel_rfl) rfl rfl (tz3_ BK296 (tz2_ BK298 (ty3_ BK297))) (fun hHeld => ?_); refine with_tabW impl_isGoodFor.tab1 impl_isGoodFor.bits1 (fun HT_ HW_ => ?_)
    generalize w37.drew = w38 at BK296 BK297 BK298 HB hHeld ⊢
    refine pu_ 1 12 HT_ ?_
    refine pu_ 5 16 HT_ ?_
    refine tk_ 0 11 HT_ HW_ hHeld ?_
    refine tk_ 2 13 HT_ HW_ hHeld ?_
    refine tk_ 4 15 HT_ HW_ hHeld ?_
    refine tk_ 6 17 HT_ HW_ hHeld ?_
    refine on_ 3 (some 14) HT_ fun K hK => ?_
    refine gR_ Try.func39 #[.agg #[.int .i64 a0_0, .slice A0_1 l0_1.length c0_1, .slice A0_2 l0_2.length c0_2], .int .i64 a2_0] ?_
    with_reducible refine (impl_isGood.calls k a0_0 _ _ l0_1 _ _ l0_2 a2_0 t299 _ ?side1 ?side2 ?side3 ?side4 A5.out).mono ?_
    (case side1 => exact bC_ HR0_1 HB)
    (case side2 => exact HC0_1.out)
    (case side3 => exact bC_ HR0_2 HB)
    (case side4 => exact HC0_2.out)
    rintro e w39 ⟨rfl, hb⟩
    refine ⟨_, rfl, ?_⟩
    replace BK296 := kb_ BK296 hb; replace BK297 := kb_ BK297 hb; replace BK298 := kb_ BK298 hb; replace HB := as_ (below_step (b3_ HB GE296 GE297 GE298) hb)
    clear hb
    refine hK.out _ _ (tz3_ BK296 (tz2_ BK298 (ty3_ BK297))) (fun hHeld => ?_)
    clear hK K
    refine nm_ 14 ?_
    refine on_ 7 (some 18) HT_ fun K hK => ?_
    refine gR_ Try.func39 #[.agg #[.int .i64 a1_0, .slice A1_1 l1_1.length c1_1, .slice A1_2 l1_2.length c1_2], .int .i64 a2_1] ?_
    with_reducible refine (impl_isGood.calls k a1_0 _ _ l1_1 _ _ l1_2 a2_1 t300 _ ?side1 ?side2 ?side3 ?side4 A6.out).mono ?_
    (case side1 => exact bC_ HR1_1 HB)
    (case side2 => exact HC1_1.out)
    (case side3 => exact bC_ HR1_2 HB)
    (case side4 => exact HC1_2.out)
    rintro e w40 ⟨rfl, hb⟩
    refine ⟨_, rfl, ?_⟩
    replace BK296 := kb_ BK296 hb; replace BK297 := kb_ BK297 hb; replace BK298 := kb_ BK298 hb; replace HB := as_ (below_step (b3_ HB GE296 GE297 GE298) hb)
    clear hb
    refine hK.out _ _ (tz3_ BK296 (tz2_ BK298 (ty3_ BK297))) (fun hHeld => ?_)
    clear hK K
    refine nm_ 18 ?_
    refine pu_ 8 9 HT_ ?_
    refine pu_ 9 10 HT_ ?_
    refine dn_ HT_ ?_
    try go_wp2
    go_ret
    exact ⟨re_, b3_ HB GE296 GE297 GE298⟩
  rw [if_pos c21] at H
  have c21b0 := beq_iff_eq.mpr c21
  have c21b1 := bne_eq_false_iff_eq.mpr c21
  clear c21
  by_cases c22 : t299 = true
  · subst c22
    replace H := it_ H
    obtain rfl := Option.some.inj H
    go_enter Try.func23, Try.ntmps23
    try go_wp2_with (first | ((with_reducible refine gate_dst (N := 4) rfl ?_); refine bx_ 4 #[.int .i64 a0_0, .slice A0_1 l0_1.length c0_1, .slice A0_2 l0_2.length c0_2] 29 ?_; intro gb296 hg w23 hbox hb; have BK296 := as_ (hbox); have GW296 := gz_ hg (b_ HB); have GE296 := GW296; replace HB := as_ (below_step (b_ HB) hb); clear hb hbox hg) | ((with_reducible refine gate_dst (N := 5) rfl ?_); refine bx_ 5 #[.int .i64 a1_0, .slice A1_1 l1_1.length c1_1, .slice A1_2 l1_2.length c1_2] 29 ?_; intro gb297 hg w24 hbox hb; have BK297 := as_ (hbox); have GW297 := gz_ hg (b1_ HB GE296); have GE297 := GW297; replace HB := as_ (below_step (b1_ HB GE296) hb); have NB296_297 := nl_ hg (bk_ BK296); have NB297_296 := ng_ hg (bk_ BK296); replace BK296 := kb_ BK296 hb; clear hb hbox hg) | ((with_reducible refine gate_dst (N := 6) rfl ?_); refine bx_ 6 #[.int .i64 a2_0, .int .i64 a2_1] 48 ?_; intro gb298 hg w25 hbox hb; have BK298 := as_ (hbox); have GW298 := gz_ hg (b2_ HB GE296 GE297); have GE298 := GW298; replace HB := as_ (below_step (b2_ HB GE296 GE297) hb); have NB296_298 := nl_ hg (bk_ BK296); have NB298_296 := ng_ hg (bk_ BK296); replace BK296 := kb_ BK296 hb; have NB297_298 := nl_ hg (bk_ BK297); have NB298_297 := ng_ hg (bk_ BK297); replace BK297 := kb_ BK297 hb; clear hb hbox hg))
    replace BK296 := dk_ BK296; replace BK297 := dk_ BK297; replace BK298 := dk_ BK298; replace HB := db_ HB
    refine start_ (n := 10) (S := fun w' => w'.cell? ⟨gb296, 0, none⟩ = some (.int .i64 a0_0) ∧ w'.cell? ⟨gb296, 1, none⟩ = some (.slice A0_1 l0_1.length c0_1) ∧ w'.cell? ⟨gb296, 2, none⟩ = some (.slice A0_2 l0_2.length c0_2) ∧ w'.cell? ⟨gb298, 0, none⟩ = some (.int .i64 a2_0) ∧ w'.cell? ⟨gb298, 1, none⟩ = some (.int .i64 a2_1) ∧ w'.cell? ⟨gb297, 0, none⟩ = some (.int .i64 a1_0) ∧ w'.cell? ⟨gb297, 1, none⟩ = some (.slice A1_1 l1_1.length c1_1) ∧ w'.cell? ⟨gb297, 2, none⟩ = some (.slice A1_2 l1_2.length c1_2)) (ds := []) #[false, false, false, false, false, false, false, false, false, false] (by kernel_rfl) rfl rfl (tz3_ BK296 (tz2_ BK298 (ty3_ BK297))) (fun hHeld => ?_); refine with_tabW impl_isGoodFor.tab1 impl_isGoodFor.bits1 (fun HT_ HW_ => ?_)
    generalize w25.drew = w26 at BK296 BK297 BK298 HB hHeld ⊢
    refine pu_ 1 12 HT_ ?_
    refine pu_ 5 16 HT_ ?_
    refine tk_ 0 11 HT_ HW_ hHeld ?_
    refine tk_ 2 13 HT_ HW_ hHeld ?_
    refine tk_ 4 15 HT_ HW_ hHeld ?_
    refine tk_ 6 17 HT_ HW_ hHeld ?_
    refine on_ 3 (some 14) HT_ fun K hK => ?_
    refine gR_ Try.func39 #[.agg #[.int .i64 a0_0, .slice A0_1 l0_1.length c0_1, .slice A0_2 l0_2.length c0_2], .int .i64 a2_0] ?_
    with_reducible refine (impl_isGood.calls k a0_0 _ _ l0_1 _ _ l0_2 a2_0 true _ ?side1 ?side2 ?side3 ?side4 A5.out).mono ?_
    (case side1 => exact bC_ HR0_1 HB)
    (case side2 => exact HC0_1.out)
    (case side3 => exact bC_ HR0_2 HB)
    (case side4 => exact HC0_2.out)
    rintro e w27 ⟨rfl, hb⟩
    refine ⟨_, rfl, ?_⟩
    replace BK296 := kb_ BK296 hb; replace BK297 := kb_ BK297 hb; replace BK298 := kb_ BK298 hb; replace HB := as_ (below_step (b3_ HB GE296 GE297 GE298) hb)
    clear hb
    refine hK.out _ _ (tz3_ BK296 (tz2_ BK298 (ty3_ BK297))) (fun hHeld => ?_)
    clear hK K
    refine nm_ 14 ?_
    refine on_ 7 (some 18) HT_ fun K hK => ?_
    refine gR_ Try.func39 #[.agg #[.int .i64 a1_0, .slice A1_1 l1_1.length c1_1, .slice A1_2 l1_2.length c1_2], .int .i64 a2_1] ?_
    with_reducible refine (impl_isGood.calls k a1_0 _ _ l1_1 _ _ l1_2 a2_1 t300 _ ?side1 ?side2 ?side3 ?side4 A6.out).mono ?_
    (case side1 => exact bC_ HR1_1 HB)
    (case side2 => exact HC1_1.out)
    (case side3 => exact bC_ HR1_2 HB)
    (case side4 => exact HC1_2.out)
    rintro e w28 ⟨rfl, hb⟩
    refine ⟨_, rfl, ?_⟩
    replace BK296 := kb_ BK296 hb; replace BK297 := kb_ BK297 hb; replace BK298 := kb_ BK298 hb; replace HB := as_ (below_step (b3_ HB GE296 GE297 GE298) hb)
    clear hb
    refine hK.out _ _ (tz3_ BK296 (tz2_ BK298 (ty3_ BK297))) (fun hHeld => ?_)
    clear hK K
    refine nm_ 18 ?_
    refine pu_ 8 9 HT_ ?_
    refine pu_ 9 10 HT_ ?_
    refine dn_ HT_ ?_
    try go_wp2
    go_ret
    exact ⟨re_, b3_ HB GE296 GE297 GE298⟩
  replace c22 := Bool.eq_false_iff.mpr c22
  subst c22
  replace H := if_ H
  obtain rfl := Option.some.inj H
  go_enter Try.func23, Try.ntmps23
  try go_wp2_with (first | ((with_reducible refine gate_dst (N := 4) rfl ?_); refine bx_ 4 #[.int .i64 a0_0, .slice A0_1 l0_1.length c0_1, .slice A0_2 l0_2.length c0_2] 29 ?_; intro gb296 hg w29 hbox hb; have BK296 := as_ (hbox); have GW296 := gz_ hg (b_ HB); have GE296 := GW296; replace HB := as_ (below_step (b_ HB) hb); clear hb hbox hg) | ((with_reducible refine gate_dst (N := 5) rfl ?_); refine bx_ 5 #[.int .i64 a1_0, .slice A1_1 l1_1.length c1_1, .slice A1_2 l1_2.length c1_2] 29 ?_; intro gb297 hg w30 hbox hb; have BK297 := as_ (hbox); have GW297 := gz_ hg (b1_ HB GE296); have GE297 := GW297; replace HB := as_ (below_step (b1_ HB GE296) hb); have NB296_297 := nl_ hg (bk_ BK296); have NB297_296 := ng_ hg (bk_ BK296); replace BK296 := kb_ BK296 hb; clear hb hbox hg) | ((with_reducible refine gate_dst (N := 6) rfl ?_); refine bx_ 6 #[.int .i64 a2_0, .int .i64 a2_1] 48 ?_; intro gb298 hg w31 hbox hb; have BK298 := as_ (hbox); have GW298 := gz_ hg (b2_ HB GE296 GE297); have GE298 := GW298; replace HB := as_ (below_step (b2_ HB GE296 GE297) hb); have NB296_298 := nl_ hg (bk_ BK296); have NB298_296 := ng_ hg (bk_ BK296); replace BK296 := kb_ BK296 hb; have NB297_298 := nl_ hg (bk_ BK297); have NB298_297 := ng_ hg (bk_ BK297); replace BK297 := kb_ BK297 hb; clear hb hbox hg))
  replace BK296 := dk_ BK296; replace BK297 := dk_ BK297; replace BK298 := dk_ BK298; replace HB := db_ HB
  refine start_ (n := 10) (S := fun w' => w'.cell? ⟨gb296, 0, none⟩ = some (.int .i64 a0_0) ∧ w'.cell? ⟨gb296, 1, none⟩ = some (.slice A0_1 l0_1.length c0_1) ∧ w'.cell? ⟨gb296, 2, none⟩ = some (.slice A0_2 l0_2.length c0_2) ∧ w'.cell? ⟨gb298, 0, none⟩ = some (.int .i64 a2_0) ∧ w'.cell? ⟨gb298, 1, none⟩ = some (.int .i64 a2_1) ∧ w'.cell? ⟨gb297, 0, none⟩ = some (.int .i64 a1_0) ∧ w'.cell? ⟨gb297, 1, none⟩ = some (.slice A1_1 l1_1.length c1_1) ∧ w'.cell? ⟨gb297, 2, none⟩ = some (.slice A1_2 l1_2.length c1_2)) (ds := []) #[false, false, false, false, false, false, false, false, false, false] (by kernel_rfl) rfl rfl (tz3_ BK296 (tz2_ BK298 (ty3_ BK297))) (fun hHeld => ?_); refine with_tabW impl_isGoodFor.tab1 impl_isGoodFor.bits1 (fun HT_ HW_ => ?_)
  generalize w31.drew = w32 at BK296 BK297 BK298 HB hHeld ⊢
  refine pu_ 1 12 HT_ ?_
  refine pu_ 5 16 HT_ ?_
  refine tk_ 0 11 HT_ HW_ hHeld ?_
  refine tk_ 2 13 HT_ HW_ hHeld ?_
  refine tk_ 4 15 HT_ HW_ hHeld ?_
  refine tk_ 6 17 HT_ HW_ hHeld ?_
  refine on_ 3 (some 14) HT_ fun K hK => ?_
  refine gR_ Try.func39 #[.agg #[.int .i64 a0_0, .slice A0_1 l0_1.length c0_1, .slice A0_2 l0_2.length c0_2], .int .i64 a2_0] ?_
  with_reducible refine (impl_isGood.calls k a0_0 _ _ l0_1 _ _ l0_2 a2_0 false _ ?side1 ?side2 ?side3 ?side4 A5.out).mono ?_
  (case side1 => exact bC_ HR0_1 HB)
  (case side2 => exact HC0_1.out)
  (case side3 => exact bC_ HR0_2 HB)
  (case side4 => exact HC0_2.out)
  rintro e w33 ⟨rfl, hb⟩
  refine ⟨_, rfl, ?_⟩
  replace BK296 := kb_ BK296 hb; replace BK297 := kb_ BK297 hb; replace BK298 := kb_ BK298 hb; replace HB := as_ (below_step (b3_ HB GE296 GE297 GE298) hb)
  clear hb
  refine hK.out _ _ (tz3_ BK296 (tz2_ BK298 (ty3_ BK297))) (fun hHeld => ?_)
  clear hK K
  refine nm_ 14 ?_
  refine on_ 7 (some 18) HT_ fun K hK => ?_
  refine gR_ Try.func39 #[.agg #[.int .i64 a1_0, .slice A1_1 l1_1.length c1_1, .slice A1_2 l1_2.length c1_2], .int .i64 a2_1] ?_
  with_reducible refine (impl_isGood.calls k a1_0 _ _ l1_1 _ _ l1_2 a2_1 t300 _ ?side1 ?side2 ?side3 ?side4 A6.out).mono ?_
  (case side1 => exact bC_ HR1_1 HB)
  (case side2 => exact HC1_1.out)
  (case side3 => exact bC_ HR1_2 HB)
  (case side4 => exact HC1_2.out)
  rintro e w34 ⟨rfl, hb⟩
  refine ⟨_, rfl, ?_⟩
  replace BK296 := kb_ BK296 hb; replace BK297 := kb_ BK297 hb; replace BK298 := kb_ BK298 hb; replace HB := as_ (below_step (b3_ HB GE296 GE297 GE298) hb)
  clear hb
  refine hK.out _ _ (tz3_ BK296 (tz2_ BK298 (ty3_ BK297))) (fun hHeld => ?_)
  clear hK K
  refine nm_ 18 ?_
  refine pu_ 8 9 HT_ ?_
  refine pu_ 9 10 HT_ ?_
  refine dn_ HT_ ?_
  try go_wp2
  go_ret
  exact ⟨re_, b3_ HB GE296 GE297 GE298⟩

end Go.Proofs.Ytpbfideppdmceaa.E
