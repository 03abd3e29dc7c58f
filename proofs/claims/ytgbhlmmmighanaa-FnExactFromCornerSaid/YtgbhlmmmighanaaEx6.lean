-- Written by wip/ext.py of this claim (contracts by the form of the kit's print; hand-written ones among them).
import Derived.Test.YtgbhlmmmighanaaEx0
import Derived.Test.YtgbhlmmmighanaaEx1
import Derived.Test.YtgbhlmmmighanaaEx3
import Derived.Test.YtgbhlmmmighanaaEx5
namespace Go.Proofs.Ytgbhlmmmighanaa.E
open Go.RowKit Go.Proofs.YtgbhlmmmighanaaW.PrintWords Go.Proofs.YtgbhlmmmighanaaW.PrintLast Go.Proofs.YtgbhlmmmighanaaW.PrintMore
attribute [local go_sem] max2_int min2_int max_two min_two max_three min_three max_four min_four   -- for this text's walks alone
set_option linter.unusedVariables false
set_option linter.unusedSimpArgs false

/-! ### laws_FnExactFromCorner: function 7 -/
mutual
def laws_FnExactFromCorner.j0 : Nat → Int → Int → Int → Int → Bool → List Int → List Int → List Int → List Int → Option (Bool)
  | 0, _, _, _, _, _, _, _, _, _ => none
  | k + 1, x1, x2, x9, x12, x48, x311000, x320000, x324000, x329000 => if x48 = true then (some false) else ((laws_toTree.f k x311000).bind fun t330 => ((laws_eqTree.f k x324000 t330).bind fun t333 => (if t333 = true then ((laws_markTree.f k x324000 1).bind fun bt334 => (if bt334.1 < 0 then (laws_FnExactFromCorner.j1 k x1 x2 x9 true x311000 x320000 x329000) else ((laws_eqTree.f k x329000 x320000).bind fun t336 => (if t336 = true then (laws_FnExactFromCorner.j1 k x1 x2 x9 (x12 != x9) x311000 x320000 x329000) else (laws_FnExactFromCorner.j1 k x1 x2 x9 true x311000 x320000 x329000))))) else (some false))))
def laws_FnExactFromCorner.j1 : Nat → Int → Int → Int → Bool → List Int → List Int → List Int → Option (Bool)
  | 0, _, _, _, _, _, _, _ => none
  | k + 1, x1, x2, x9, x69, x311000, x320000, x329000 => if x69 = true then (some false) else ((laws_markTree.f k x329000 1).bind fun bt337 => ((laws_heldTree.f k bt337.2 1).bind fun t339 => (if t339 < 0 then (some false) else (if t339 = bt337.1 then ((laws_toTree.f k x311000).bind fun t340 => ((impl_FromCorner.f k t340 x1 x2).bind fun bt343 => ((laws_eqTree.f k bt343.1 x320000).bind fun t348 => (if t348 = true then (laws_FnExactFromCorner.j2 k bt337.1 (bt343.2 != x9) bt337.2) else (laws_FnExactFromCorner.j2 k bt337.1 true bt337.2))))) else (some false)))))
def laws_FnExactFromCorner.j2 : Nat → Int → Bool → List Int → Option (Bool)
  | 0, _, _, _ => none
  | k + 1, x14, x97, x329000 => if x97 = true then (some false) else ((laws_heldTree.f k x329000 1).bind fun t349 => (if t349 < 0 then (some false) else (if t349 = x14 then (some true) else (some false))))
end
def laws_FnExactFromCorner.f (k : Nat) (l0_0 : List Int) (a1 : Int) (a2 : Int) : Option (Bool) := (laws_szTree.f l0_0 1048576).bind fun t311 => (if t311 < 0 then (some true) else ((laws_toTree.f k l0_0).bind fun t312 => ((spec_FromCorner.f k t312 a1 a2).bind fun bt315 => ((laws_toTree.f k l0_0).bind fun t320 => ((impl_FromCorner.f k t320 a1 a2).bind fun bt324 => ((laws_eqTree.f k bt324.1 bt315.1).bind fun t329 => (if t329 = true then (laws_FnExactFromCorner.j0 k a1 a2 bt315.2 bt324.2 (bt324.2 != bt315.2) l0_0 bt315.1 t320 bt324.1) else (laws_FnExactFromCorner.j0 k a1 a2 bt315.2 bt324.2 true l0_0 bt315.1 t320 bt324.1))))))))
theorem laws_FnExactFromCorner.mono_l : ∀ k, (∀ y0 y1 y2 y3 y4 y5 y6 y7 y8, LeO (laws_FnExactFromCorner.j0 k y0 y1 y2 y3 y4 y5 y6 y7 y8) (laws_FnExactFromCorner.j0 (k + 1) y0 y1 y2 y3 y4 y5 y6 y7 y8)) ∧ (∀ y0 y1 y2 y3 y4 y5 y6, LeO (laws_FnExactFromCorner.j1 k y0 y1 y2 y3 y4 y5 y6) (laws_FnExactFromCorner.j1 (k + 1) y0 y1 y2 y3 y4 y5 y6)) ∧ (∀ y0 y1 y2, LeO (laws_FnExactFromCorner.j2 k y0 y1 y2) (laws_FnExactFromCorner.j2 (k + 1) y0 y1 y2))
  | 0 => ⟨fun _ _ _ _ _ _ _ _ _ r h => by simp [laws_FnExactFromCorner.j0] at h, fun _ _ _ _ _ _ _ r h => by simp [laws_FnExactFromCorner.j1] at h, fun _ _ _ r h => by simp [laws_FnExactFromCorner.j2] at h⟩
  | k + 1 => by
    obtain ⟨ih0, ih1, ih2⟩ := laws_FnExactFromCorner.mono_l k
    refine ⟨?_, ?_, ?_⟩
    · intro y0 y1 y2 y3 y4 y5 y6 y7 y8
      unfold laws_FnExactFromCorner.j0
      repeat' first
      | (with_reducible exact ih0 _ _ _ _ _ _ _ _ _)
      | (with_reducible exact ih1 _ _ _ _ _ _ _)
      | (with_reducible exact ih2 _ _ _)
      | (with_reducible exact impl_FromCorner.mono _ _ _ _)
      | (with_reducible exact laws_eqTree.mono _ _ _)
      | (with_reducible exact laws_heldTree.mono _ _ _)
      | (with_reducible exact laws_markTree.mono _ _ _)
      | (with_reducible exact laws_toTree.mono _ _)
      | (with_reducible exact spec_FromCorner.mono _ _ _ _)
      | (with_reducible exact LeO.refl _)
      | (with_reducible exact LeO.none _)
      | (with_reducible refine LeO.ite ?_ ?_)
      | (with_reducible refine LeO.bind ?_ (fun _ => ?_))
      | exact ih0 _ _ _ _ _ _ _ _ _
      | exact ih1 _ _ _ _ _ _ _
      | exact ih2 _ _ _
      | exact impl_FromCorner.mono _ _ _ _
      | exact laws_eqTree.mono _ _ _
      | exact laws_heldTree.mono _ _ _
      | exact laws_markTree.mono _ _ _
      | exact laws_toTree.mono _ _
      | exact spec_FromCorner.mono _ _ _ _
      | exact LeO.none _
      | refine LeO.ite ?_ ?_
      | refine LeO.bind ?_ (fun _ => ?_)
    · intro y0 y1 y2 y3 y4 y5 y6
      unfold laws_FnExactFromCorner.j1
      repeat' first
      | (with_reducible exact ih0 _ _ _ _ _ _ _ _ _)
      | (with_reducible exact ih1 _ _ _ _ _ _ _)
      | (with_reducible exact ih2 _ _ _)
      | (with_reducible exact impl_FromCorner.mono _ _ _ _)
      | (with_reducible exact laws_eqTree.mono _ _ _)
      | (with_reducible exact laws_heldTree.mono _ _ _)
      | (with_reducible exact laws_markTree.mono _ _ _)
      | (with_reducible exact laws_toTree.mono _ _)
      | (with_reducible exact spec_FromCorner.mono _ _ _ _)
      | (with_reducible exact LeO.refl _)
      | (with_reducible exact LeO.none _)
      | (with_reducible refine LeO.ite ?_ ?_)
      | (with_reducible refine LeO.bind ?_ (fun _ => ?_))
      | exact ih0 _ _ _ _ _ _ _ _ _
      | exact ih1 _ _ _ _ _ _ _
      | exact ih2 _ _ _
      | exact impl_FromCorner.mono _ _ _ _
      | exact laws_eqTree.mono _ _ _
      | exact laws_heldTree.mono _ _ _
      | exact laws_markTree.mono _ _ _
      | exact laws_toTree.mono _ _
      | exact spec_FromCorner.mono _ _ _ _
      | exact LeO.none _
      | refine LeO.ite ?_ ?_
      | refine LeO.bind ?_ (fun _ => ?_)
    · intro y0 y1 y2
      unfold laws_FnExactFromCorner.j2
      repeat' first
      | (with_reducible exact ih0 _ _ _ _ _ _ _ _ _)
      | (with_reducible exact ih1 _ _ _ _ _ _ _)
      | (with_reducible exact ih2 _ _ _)
      | (with_reducible exact impl_FromCorner.mono _ _ _ _)
      | (with_reducible exact laws_eqTree.mono _ _ _)
      | (with_reducible exact laws_heldTree.mono _ _ _)
      | (with_reducible exact laws_markTree.mono _ _ _)
      | (with_reducible exact laws_toTree.mono _ _)
      | (with_reducible exact spec_FromCorner.mono _ _ _ _)
      | (with_reducible exact LeO.refl _)
      | (with_reducible exact LeO.none _)
      | (with_reducible refine LeO.ite ?_ ?_)
      | (with_reducible refine LeO.bind ?_ (fun _ => ?_))
      | exact ih0 _ _ _ _ _ _ _ _ _
      | exact ih1 _ _ _ _ _ _ _
      | exact ih2 _ _ _
      | exact impl_FromCorner.mono _ _ _ _
      | exact laws_eqTree.mono _ _ _
      | exact laws_heldTree.mono _ _ _
      | exact laws_markTree.mono _ _ _
      | exact laws_toTree.mono _ _
      | exact spec_FromCorner.mono _ _ _ _
      | exact LeO.none _
      | refine LeO.ite ?_ ?_
      | refine LeO.bind ?_ (fun _ => ?_)
theorem laws_FnExactFromCorner.mono : ∀ a0 a1 a2 k, LeO (laws_FnExactFromCorner.f k a0 a1 a2) (laws_FnExactFromCorner.f (k + 1) a0 a1 a2) := by
  intro a0 a1 a2 k
  obtain ⟨ih0, ih1, ih2⟩ := laws_FnExactFromCorner.mono_l k
  unfold laws_FnExactFromCorner.f
  repeat' first
      | (with_reducible exact ih0 _ _ _ _ _ _ _ _ _)
      | (with_reducible exact ih1 _ _ _ _ _ _ _)
      | (with_reducible exact ih2 _ _ _)
      | (with_reducible exact impl_FromCorner.mono _ _ _ _)
      | (with_reducible exact laws_eqTree.mono _ _ _)
      | (with_reducible exact laws_heldTree.mono _ _ _)
      | (with_reducible exact laws_markTree.mono _ _ _)
      | (with_reducible exact laws_toTree.mono _ _)
      | (with_reducible exact spec_FromCorner.mono _ _ _ _)
      | (with_reducible exact LeO.refl _)
      | (with_reducible exact LeO.none _)
      | (with_reducible refine LeO.ite ?_ ?_)
      | (with_reducible refine LeO.bind ?_ (fun _ => ?_))
      | exact ih0 _ _ _ _ _ _ _ _ _
      | exact ih1 _ _ _ _ _ _ _
      | exact ih2 _ _ _
      | exact impl_FromCorner.mono _ _ _ _
      | exact laws_eqTree.mono _ _ _
      | exact laws_heldTree.mono _ _ _
      | exact laws_markTree.mono _ _ _
      | exact laws_toTree.mono _ _
      | exact spec_FromCorner.mono _ _ _ _
      | exact LeO.none _
      | refine LeO.ite ?_ ?_
      | refine LeO.bind ?_ (fun _ => ?_)
set_option maxHeartbeats 8000000 in
set_option maxRecDepth 100000 in
theorem laws_FnExactFromCorner.calls (k : Nat) (A0_0 : Option Addr) (c0_0 : Nat) (l0_0 : List Int) (a1 : Int) (a2 : Int) (r : Bool) (w : World) (hr0_0 : Kd.C (Kd.int .i64) w A0_0 l0_0.length l0_0) (hc0_0 : l0_0.length ≤ c0_0) (h : laws_FnExactFromCorner.f k l0_0 a1 a2 = some r) :
    Calls Try.prog 7 #[.agg #[.slice A0_0 l0_0.length c0_0], .int .i64 a1, .int .i64 a2] w fun e w' => e = .returned (.bool r) ∧ Below w.heap.size w w' := by
  have hu35 := Try.underlying35
  have hu27 := Try.underlying27
  have HR0_0 := Aside0.mk hr0_0
  have HC0_0 := Aside0.mk hc0_0
  clear hr0_0 hc0_0
  have HB := Aside0.mk (Below.refl w.heap.size w)
  have H : ((laws_szTree.f l0_0 1048576).bind fun t311 => (if t311 < 0 then (some true) else ((laws_toTree.f k l0_0).bind fun t312 => ((spec_FromCorner.f k t312 a1 a2).bind fun bt315 => ((laws_toTree.f k l0_0).bind fun t320 => ((impl_FromCorner.f k t320 a1 a2).bind fun bt324 => ((laws_eqTree.f k bt324.1 bt315.1).bind fun t329 => (if t329 = true then (laws_FnExactFromCorner.j0 k a1 a2 bt315.2 bt324.2 (bt324.2 != bt315.2) l0_0 bt315.1 t320 bt324.1) else (laws_FnExactFromCorner.j0 k a1 a2 bt315.2 bt324.2 true l0_0 bt315.1 t320 bt324.1))))))))) = some r := h
  clear h
  replace H := Option.bind_eq_some_iff.mp H
  obtain ⟨t311, A40, H⟩ := H
  replace H : (if t311 < 0 then (some true) else ((laws_toTree.f k l0_0).bind fun t312 => ((spec_FromCorner.f k t312 a1 a2).bind fun bt315 => ((laws_toTree.f k l0_0).bind fun t320 => ((impl_FromCorner.f k t320 a1 a2).bind fun bt324 => ((laws_eqTree.f k bt324.1 bt315.1).bind fun t329 => (if t329 = true then (laws_FnExactFromCorner.j0 k a1 a2 bt315.2 bt324.2 (bt324.2 != bt315.2) l0_0 bt315.1 t320 bt324.1) else (laws_FnExactFromCorner.j0 k a1 a2 bt315.2 bt324.2 true l0_0 bt315.1 t320 bt324.1)))))))) = some r := H
  have A4 := Aside0.mk A40
  clear A40
  by_cases c5 : t311 < 0
  · rw [if_pos c5] at H
    have c5b0 : decide (t311 < 0) = true := decide_eq_true c5
    clear c5
    obtain rfl := Option.some.inj H
    go_enter Try.func7, Try.ntmps7
    go_wp2_with (first | ((with_reducible refine gate_dst (N := 3) rfl ?_); refine box_event ?hg (N := 3) ?hd (cs := #[.slice A0_0 l0_0.length c0_0]) (t := 35) ?hr ?_; (case hd => rfl); (case hg => rfl); (case hr => first | (go_simp; done) | (go_simp; rfl)); intro gb310 hg w6 hbox hb; have n0_ := Aside0.mk (below_step (by repeat (first | (with_reducible first | exact HB.out | apply below_alloc | apply pw_below_drewN | apply below_drew1) | exact HB.out)) hb); have n1_ := Aside0.mk (hbox); have n2_ := Aside0.mk ((by rw [hg]; exact (below_size (by repeat (first | (with_reducible first | exact HB.out | apply below_alloc | apply pw_below_drewN | apply below_drew1) | exact HB.out))) : w.heap.size ≤ gb310)); have n3_ := Aside0.mk ((by rw [hg]; exact (below_size (by repeat (first | (with_reducible first | exact HB.out | apply below_alloc | apply pw_below_drewN | apply below_drew1) | exact HB.out))) : w.heap.size ≤ gb310)); clear HB; have HB := n0_; have BK310 := n1_; have GW310 := n2_; have GE310 := n3_; clear n0_ n1_ n2_ n3_; clear hb hbox hg; have hcz7_0 : w6.cell? ⟨gb310, 0, none⟩ = some (.slice A0_0 l0_0.length c0_0) := (blk_cell BK310.out 0).trans rfl; have hfz7_0 := blk_frozen BK310.out 0) | ((with_reducible refine gate_callee (f := 22) rfl ?_); refine goesL_ (some 20) rfl rfl Try.func22 (by kernel_rfl) rfl #[.agg #[.slice A0_0 l0_0.length c0_0], .int .i64 1048576] rfl (by (try simp only [List.map_toArray, List.map_cons, List.map_nil]); first | done | rfl | (simp only [List.length_drop, List.length_take]; rfl)) ?_; (with_reducible refine (laws_szTree.calls _ _ l0_0 1048576 t311 _ ?side1 ?side2 A4.out).mono ?_); (case side1 => repeat (first | exact (Kd.C_below HR0_0.out HB.out) | (with_reducible refine Kd.C_alloc ?_ _) | (with_reducible refine Kd.C_drewN ?_ _) | (with_reducible refine Kd.C_drew ?_))); (case side2 => exact HC0_0.out); rintro e w8 ⟨rfl, hb⟩; refine ⟨_, rfl, ?_⟩; have n0_ := Aside0.mk (blk_below (g := gb310) (o := .cells #[.slice A0_0 l0_0.length c0_0] 35 (0, 0)) (by (with_reducible repeat (first | refine blk_drewN ?_ _ | refine blk_drew ?_ | refine blk_alloc ?_ _)); exact BK310.out) hb); have n1_ := Aside0.mk (below_step (by repeat (first | (with_reducible first | exact HB.out | apply below_alloc | apply pw_below_drewN | apply below_drew1 | refine below_set ?_ GE310.out) | exact HB.out)) hb); clear BK310; clear HB; have BK310 := n0_; have HB := n1_; clear n0_ n1_; (try clear hb); (try clear hb2); (try clear hk); (try clear hi)))
    go_ret
    exact ⟨by first | rfl | (simp [errW_none, errW_some] <;> rfl) | (simp [*, errW_none, errW_some] <;> rfl), by repeat (first | (with_reducible first | exact HB.out | apply below_alloc | apply pw_below_drewN | apply below_drew1 | refine below_set ?_ GE310.out) | exact HB.out)⟩
  · rw [if_neg c5] at H
    have c5b0 : decide (t311 < 0) = false := decide_eq_false c5
    clear c5
    replace H := Option.bind_eq_some_iff.mp H
    obtain ⟨t312, A90, H⟩ := H
    replace H : ((spec_FromCorner.f k t312 a1 a2).bind fun bt315 => ((laws_toTree.f k l0_0).bind fun t320 => ((impl_FromCorner.f k t320 a1 a2).bind fun bt324 => ((laws_eqTree.f k bt324.1 bt315.1).bind fun t329 => (if t329 = true then (laws_FnExactFromCorner.j0 k a1 a2 bt315.2 bt324.2 (bt324.2 != bt315.2) l0_0 bt315.1 t320 bt324.1) else (laws_FnExactFromCorner.j0 k a1 a2 bt315.2 bt324.2 true l0_0 bt315.1 t320 bt324.1)))))) = some r := H
    have A9 := Aside0.mk A90
    clear A90
    replace H := Option.bind_eq_some_iff.mp H
    obtain ⟨⟨t315, t318⟩, A100, H⟩ := H
    replace H : ((laws_toTree.f k l0_0).bind fun t320 => ((impl_FromCorner.f k t320 a1 a2).bind fun bt324 => ((laws_eqTree.f k bt324.1 t315).bind fun t329 => (if t329 = true then (laws_FnExactFromCorner.j0 k a1 a2 t318 bt324.2 (bt324.2 != t318) l0_0 t315 t320 bt324.1) else (laws_FnExactFromCorner.j0 k a1 a2 t318 bt324.2 true l0_0 t315 t320 bt324.1))))) = some r := H
    have A10 := Aside0.mk A100
    clear A100
    replace H := Option.bind_eq_some_iff.mp H
    obtain ⟨t320, A110, H⟩ := H
    replace H : ((impl_FromCorner.f k t320 a1 a2).bind fun bt324 => ((laws_eqTree.f k bt324.1 t315).bind fun t329 => (if t329 = true then (laws_FnExactFromCorner.j0 k a1 a2 t318 bt324.2 (bt324.2 != t318) l0_0 t315 t320 bt324.1) else (laws_FnExactFromCorner.j0 k a1 a2 t318 bt324.2 true l0_0 t315 t320 bt324.1)))) = some r := H
    have A11 := Aside0.mk A110
    clear A110
    replace H := Option.bind_eq_some_iff.mp H
    obtain ⟨⟨t324, t327⟩, A120, H⟩ := H
    replace H : ((laws_eqTree.f k t324 t315).bind fun t329 => (if t329 = true then (laws_FnExactFromCorner.j0 k a1 a2 t318 t327 (t327 != t318) l0_0 t315 t320 t324) else (laws_FnExactFromCorner.j0 k a1 a2 t318 t327 true l0_0 t315 t320 t324))) = some r := H
    have A12 := Aside0.mk A120
    clear A120
    have HC13 := Aside0.mk H
    clear H
    go_enter Try.func7, Try.ntmps7
    go_upto_region 8 with (first | ((with_reducible refine gate_dst (N := 3) rfl ?_); refine box_event ?hg (N := 3) ?hd (cs := #[.slice A0_0 l0_0.length c0_0]) (t := 35) ?hr ?_; (case hd => rfl); (case hg => rfl); (case hr => first | (go_simp; done) | (go_simp; rfl)); intro gb310 hg w14 hbox hb; have n0_ := Aside0.mk (below_step (by repeat (first | (with_reducible first | exact HB.out | apply below_alloc | apply pw_below_drewN | apply below_drew1) | exact HB.out)) hb); have n1_ := Aside0.mk (hbox); have n2_ := Aside0.mk ((by rw [hg]; exact (below_size (by repeat (first | (with_reducible first | exact HB.out | apply below_alloc | apply pw_below_drewN | apply below_drew1) | exact HB.out))) : w.heap.size ≤ gb310)); have n3_ := Aside0.mk ((by rw [hg]; exact (below_size (by repeat (first | (with_reducible first | exact HB.out | apply below_alloc | apply pw_below_drewN | apply below_drew1) | exact HB.out))) : w.heap.size ≤ gb310)); clear HB; have HB := n0_; have BK310 := n1_; have GW310 := n2_; have GE310 := n3_; clear n0_ n1_ n2_ n3_; clear hb hbox hg; have hcz15_0 : w14.cell? ⟨gb310, 0, none⟩ = some (.slice A0_0 l0_0.length c0_0) := (blk_cell BK310.out 0).trans rfl; have hfz15_0 := blk_frozen BK310.out 0) | ((with_reducible refine gate_callee (f := 22) rfl ?_); refine goesL_ (some 20) rfl rfl Try.func22 (by kernel_rfl) rfl #[.agg #[.slice A0_0 l0_0.length c0_0], .int .i64 1048576] rfl (by (try simp only [List.map_toArray, List.map_cons, List.map_nil]); first | done | rfl | (simp only [List.length_drop, List.length_take]; rfl)) ?_; (with_reducible refine (laws_szTree.calls _ _ l0_0 1048576 t311 _ ?side1 ?side2 A4.out).mono ?_); (case side1 => repeat (first | exact (Kd.C_below HR0_0.out HB.out) | (with_reducible refine Kd.C_alloc ?_ _) | (with_reducible refine Kd.C_drewN ?_ _) | (with_reducible refine Kd.C_drew ?_))); (case side2 => exact HC0_0.out); rintro e w16 ⟨rfl, hb⟩; refine ⟨_, rfl, ?_⟩; have n0_ := Aside0.mk (blk_below (g := gb310) (o := .cells #[.slice A0_0 l0_0.length c0_0] 35 (0, 0)) (by (with_reducible repeat (first | refine blk_drewN ?_ _ | refine blk_drew ?_ | refine blk_alloc ?_ _)); exact BK310.out) hb); have n1_ := Aside0.mk (below_step (by repeat (first | (with_reducible first | exact HB.out | apply below_alloc | apply pw_below_drewN | apply below_drew1 | refine below_set ?_ GE310.out) | exact HB.out)) hb); clear BK310; clear HB; have BK310 := n0_; have HB := n1_; clear n0_ n1_; (try clear hb); (try clear hb2); (try clear hk); (try clear hi); have hcz17_0 : w16.cell? ⟨gb310, 0, none⟩ = some (.slice A0_0 l0_0.length c0_0) := (blk_cell BK310.out 0).trans rfl; have hfz17_0 := blk_frozen BK310.out 0) | ((with_reducible refine gate_callee (f := 24) rfl ?_); refine goesL_ (some 25) rfl rfl Try.func24 (by kernel_rfl) rfl #[.agg #[.slice A0_0 l0_0.length c0_0]] rfl (by (try simp only [List.map_toArray, List.map_cons, List.map_nil]); first | done | rfl | (simp only [List.length_drop, List.length_take]; rfl)) ?_; (with_reducible refine (laws_toTree.calls k _ _ l0_0 t312 _ ?side1 ?side2 A9.out).mono ?_); (case side1 => repeat (first | exact (Kd.C_below HR0_0.out HB.out) | (with_reducible refine Kd.C_alloc ?_ _) | (with_reducible refine Kd.C_drewN ?_ _) | (with_reducible refine Kd.C_drew ?_))); (case side2 => exact HC0_0.out); rintro e w18 ⟨v313, rfl, ho0, hb⟩; refine ⟨_, rfl, ?_⟩; have n0_ := Aside0.mk (Kd.R_lower ho0 (below_size (by repeat (first | (with_reducible first | exact HB.out | apply below_alloc | apply pw_below_drewN | apply below_drew1 | refine below_set ?_ GE310.out) | exact HB.out)))); have n1_ := Aside0.mk (blk_below (g := gb310) (o := .cells #[.slice A0_0 l0_0.length c0_0] 35 (0, 0)) (by (with_reducible repeat (first | refine blk_drewN ?_ _ | refine blk_drew ?_ | refine blk_alloc ?_ _)); exact BK310.out) hb); have n2_ := Aside0.mk (below_step (by repeat (first | (with_reducible first | exact HB.out | apply below_alloc | apply pw_below_drewN | apply below_drew1 | refine below_set ?_ GE310.out) | exact HB.out)) hb); clear BK310; clear HB; have HO314 := n0_; have BK310 := n1_; have HB := n2_; clear n0_ n1_ n2_; (try clear hb); (try clear hb2); (try clear hk); (try clear hi); (try clear ho0); obtain ⟨Ao19, co19, eo19⟩ := Kd.R_slice HO314.out; subst eo19) | ((with_reducible refine gate_callee (f := 23) rfl ?_); refine goesL_ (some 28) rfl rfl Try.func23 (by kernel_rfl) rfl #[.agg #[.slice Ao19 t312.length co19], .int .i64 a1, .int .i64 a2] rfl (by (try simp only [List.map_toArray, List.map_cons, List.map_nil]); first | done | rfl | (simp only [List.length_drop, List.length_take]; rfl)) ?_; (with_reducible refine (spec_FromCorner.calls k _ _ t312 a1 a2 t315 t318 _ ?side1 ?side2 A10.out).mono ?_); (case side1 => repeat (first | exact (Kd.R_reads' HO314.out).2.2 | (with_reducible refine Kd.C_alloc ?_ _) | (with_reducible refine Kd.C_drewN ?_ _) | (with_reducible refine Kd.C_drew ?_))); (case side2 => exact (Kd.R_reads' HO314.out).2.1); rintro e w20 ⟨v316, rfl, ho0, hb⟩; refine ⟨_, rfl, ?_⟩; have n0_ := Aside0.mk (Kd.R_elder' (by (with_reducible repeat (first | apply Kd.R_alloc | apply Kd.R_drewN | apply Kd.R_drew)); exact HO314.out) (Kd.R_base ho0) hb); have n1_ := Aside0.mk (Kd.R_lower (Kd.R_new' ho0 (Kd.R_lt (by (with_reducible repeat (first | apply Kd.R_alloc | apply Kd.R_drewN | apply Kd.R_drew)); exact HO314.out))) (below_size (by repeat (first | (with_reducible first | exact HB.out | apply below_alloc | apply pw_below_drewN | apply below_drew1 | refine below_set ?_ GE310.out) | exact HB.out)))); have n2_ := Aside0.mk (blk_below (g := gb310) (o := .cells #[.slice A0_0 l0_0.length c0_0] 35 (0, 0)) (by (with_reducible repeat (first | refine blk_drewN ?_ _ | refine blk_drew ?_ | refine blk_alloc ?_ _)); exact BK310.out) hb); have n3_ := Aside0.mk (below_step (by repeat (first | (with_reducible first | exact HB.out | apply below_alloc | apply pw_below_drewN | apply below_drew1 | refine below_set ?_ GE310.out) | exact HB.out)) hb); clear HO314; clear BK310; clear HB; have HO314 := n0_; have HO317 := n1_; have BK310 := n2_; have HB := n3_; clear n0_ n1_ n2_ n3_; (try clear hb); (try clear hb2); (try clear hk); (try clear hi); (try clear ho0)) | ((with_reducible refine gate_dst (N := 8) rfl ?_); refine box_event ?hg (N := 8) ?hd (cs := #[.slice none 0 0]) (t := 27) ?hr ?_; (case hd => rfl); (case hg => rfl); (case hr => first | (go_simp; done) | (go_simp; rfl)); intro gb319 hg w21 hbox hb; have n0_ := Aside0.mk (Kd.R_below (by (with_reducible repeat (first | apply Kd.R_alloc | apply Kd.R_drewN | apply Kd.R_drew)); exact HO314.out) hb); have n1_ := Aside0.mk (Kd.R_below (by (with_reducible repeat (first | apply Kd.R_alloc | apply Kd.R_drewN | apply Kd.R_drew)); exact HO317.out) hb); have n2_ := Aside0.mk (blk_below (g := gb310) (o := .cells #[.slice A0_0 l0_0.length c0_0] 35 (0, 0)) (by (with_reducible repeat (first | refine blk_drewN ?_ _ | refine blk_drew ?_ | refine blk_alloc ?_ _)); exact BK310.out) hb); have n3_ := Aside0.mk (below_step (by repeat (first | (with_reducible first | exact HB.out | apply below_alloc | apply pw_below_drewN | apply below_drew1 | refine below_set ?_ GE310.out) | exact HB.out)) hb); have n4_ := Aside0.mk (hbox); have n5_ := Aside0.mk ((by rw [hg]; exact (below_size (by repeat (first | (with_reducible first | exact HB.out | apply below_alloc | apply pw_below_drewN | apply below_drew1 | refine below_set ?_ GE310.out) | exact HB.out))) : w.heap.size ≤ gb319)); have n6_ := Aside0.mk ((by rw [hg]; exact (below_size (by repeat (first | (with_reducible first | exact HB.out | apply below_alloc | apply pw_below_drewN | apply below_drew1 | refine below_set ?_ GE310.out) | exact HB.out))) : w.heap.size ≤ gb319)); have n7_ := Aside0.mk ((by rw [hg]; exact Nat.ne_of_lt (blk_lt (g := gb310) (o := .cells #[.slice A0_0 l0_0.length c0_0] 35 (0, 0)) (by (with_reducible repeat (first | refine blk_drewN ?_ _ | refine blk_drew ?_ | refine blk_alloc ?_ _)); exact BK310.out)) : gb310 ≠ gb319)); have n8_ := Aside0.mk ((by rw [hg]; exact Nat.ne_of_gt (blk_lt (g := gb310) (o := .cells #[.slice A0_0 l0_0.length c0_0] 35 (0, 0)) (by (with_reducible repeat (first | refine blk_drewN ?_ _ | refine blk_drew ?_ | refine blk_alloc ?_ _)); exact BK310.out)) : gb319 ≠ gb310)); clear HO314; clear HO317; clear BK310; clear HB; have HO314 := n0_; have HO317 := n1_; have BK310 := n2_; have HB := n3_; have BK319 := n4_; have GW319 := n5_; have GE319 := n6_; have NB310_319 := n7_; have NB319_310 := n8_; clear n0_ n1_ n2_ n3_ n4_ n5_ n6_ n7_ n8_; clear hb hbox hg; obtain ⟨Ao22, co22, eo22⟩ := Kd.R_slice HO317.out; subst eo22; have hnb23 := NB319_310.out; have hnc23 := NB310_319.out; have hcz24_0 : w21.cell? ⟨gb319, 0, none⟩ = some (.slice none 0 0) := (blk_cell BK319.out 0).trans rfl; have hfz24_0 := blk_frozen BK319.out 0; have hcz25_0 : w21.cell? ⟨gb310, 0, none⟩ = some (.slice A0_0 l0_0.length c0_0) := (blk_cell BK310.out 0).trans rfl; have hfz25_0 := blk_frozen BK310.out 0) | ((with_reducible refine gate_callee (f := 24) rfl ?_); refine goesL_ (some 32) rfl rfl Try.func24 (by kernel_rfl) rfl #[.agg #[.slice A0_0 l0_0.length c0_0]] rfl (by (try simp only [List.map_toArray, List.map_cons, List.map_nil]); first | done | rfl | (simp only [List.length_drop, List.length_take]; rfl)) ?_; (with_reducible refine (laws_toTree.calls k _ _ l0_0 t320 _ ?side1 ?side2 A11.out).mono ?_); (case side1 => exact Kd.C_below HR0_0.out (by repeat (first | (with_reducible first | exact HB.out | apply below_alloc | apply pw_below_drewN | apply below_drew1 | refine below_set ?_ GE310.out | refine below_set ?_ GE319.out) | exact HB.out))); (case side2 => exact HC0_0.out); rintro e w26 ⟨v321, rfl, ho0, hb⟩; refine ⟨_, rfl, ?_⟩; have n0_ := Aside0.mk (Kd.R_elder' (by (with_reducible repeat (first | apply Kd.R_alloc | apply Kd.R_drewN | apply Kd.R_drew)); exact (Kd.R_mono (Kd.R_far (p := ⟨gb319, 0, none⟩) (Kd.R_types HO314.out BK319.out (by decide)) (fun _ hk => hk.2) (.slice Ao22 t315.length co22)) (fun _ h_ => h_.1))) (Kd.R_base ho0) hb); have n1_ := Aside0.mk (Kd.R_elder' (by (with_reducible repeat (first | apply Kd.R_alloc | apply Kd.R_drewN | apply Kd.R_drew)); exact (Kd.R_mono (Kd.R_far (p := ⟨gb319, 0, none⟩) (Kd.R_types HO317.out BK319.out (by decide)) (fun _ hk => hk.2) (.slice Ao22 t315.length co22)) (fun _ h_ => h_.1))) (Kd.R_base ho0) hb); have n2_ := Aside0.mk (Kd.R_lower (Kd.R_new' (Kd.R_new' ho0 (Kd.R_lt (by (with_reducible repeat (first | apply Kd.R_alloc | apply Kd.R_drewN | apply Kd.R_drew)); exact (Kd.R_mono (Kd.R_far (p := ⟨gb319, 0, none⟩) (Kd.R_types HO314.out BK319.out (by decide)) (fun _ hk => hk.2) (.slice Ao22 t315.length co22)) (fun _ h_ => h_.1))))) (Kd.R_lt (by (with_reducible repeat (first | apply Kd.R_alloc | apply Kd.R_drewN | apply Kd.R_drew)); exact (Kd.R_mono (Kd.R_far (p := ⟨gb319, 0, none⟩) (Kd.R_types HO317.out BK319.out (by decide)) (fun _ hk => hk.2) (.slice Ao22 t315.length co22)) (fun _ h_ => h_.1))))) (below_size (by repeat (first | (with_reducible first | exact HB.out | apply below_alloc | apply pw_below_drewN | apply below_drew1 | refine below_set ?_ GE310.out | refine below_set ?_ GE319.out) | exact HB.out)))); have n3_ := Aside0.mk (blk_below (g := gb310) (o := .cells #[.slice A0_0 l0_0.length c0_0] 35 (0, 0)) (by (with_reducible repeat (first | refine blk_drewN ?_ _ | refine blk_drew ?_ | refine blk_alloc ?_ _)); refine blk_far ?_ NB310_319.out _; (with_reducible repeat (first | refine blk_drewN ?_ _ | refine blk_drew ?_ | refine blk_alloc ?_ _)); exact BK310.out) hb); have n4_ := Aside0.mk (blk_below (g := gb319) (o := .cells #[.slice Ao22 t315.length co22] 27 (0, 0)) (by (with_reducible repeat (first | refine blk_drewN ?_ _ | refine blk_drew ?_ | refine blk_alloc ?_ _)); refine blk_put (cs := #[.slice none 0 0]) ?_ 0 _ rfl; (with_reducible repeat (first | refine blk_drewN ?_ _ | refine blk_drew ?_ | refine blk_alloc ?_ _)); exact BK319.out) hb); have n5_ := Aside0.mk (below_step (by repeat (first | (with_reducible first | exact HB.out | apply below_alloc | apply pw_below_drewN | apply below_drew1 | refine below_set ?_ GE310.out | refine below_set ?_ GE319.out) | exact HB.out)) hb); clear HO314; clear HO317; clear BK310; clear BK319; clear HB; have HO314 := n0_; have HO317 := n1_; have HO322 := n2_; have BK310 := n3_; have BK319 := n4_; have HB := n5_; clear n0_ n1_ n2_ n3_ n4_ n5_; (try clear hb); (try clear hb2); (try clear hk); (try clear hi); (try clear ho0)) | ((with_reducible refine gate_dst (N := 10) rfl ?_); refine box_event ?hg (N := 10) ?hd (cs := #[.slice none 0 0]) (t := 27) ?hr ?_; (case hd => rfl); (case hg => rfl); (case hr => first | (go_simp; done) | (go_simp; rfl)); intro gb323 hg w27 hbox hb; have n0_ := Aside0.mk (Kd.R_below (by (with_reducible repeat (first | apply Kd.R_alloc | apply Kd.R_drewN | apply Kd.R_drew)); exact HO314.out) hb); have n1_ := Aside0.mk (Kd.R_below (by (with_reducible repeat (first | apply Kd.R_alloc | apply Kd.R_drewN | apply Kd.R_drew)); exact HO317.out) hb); have n2_ := Aside0.mk (Kd.R_below (by (with_reducible repeat (first | apply Kd.R_alloc | apply Kd.R_drewN | apply Kd.R_drew)); exact HO322.out) hb); have n3_ := Aside0.mk (blk_below (g := gb310) (o := .cells #[.slice A0_0 l0_0.length c0_0] 35 (0, 0)) (by (with_reducible repeat (first | refine blk_drewN ?_ _ | refine blk_drew ?_ | refine blk_alloc ?_ _)); exact BK310.out) hb); have n4_ := Aside0.mk (blk_below (g := gb319) (o := .cells #[.slice Ao22 t315.length co22] 27 (0, 0)) (by (with_reducible repeat (first | refine blk_drewN ?_ _ | refine blk_drew ?_ | refine blk_alloc ?_ _)); exact BK319.out) hb); have n5_ := Aside0.mk (below_step (by repeat (first | (with_reducible first | exact HB.out | apply below_alloc | apply pw_below_drewN | apply below_drew1 | refine below_set ?_ GE310.out | refine below_set ?_ GE319.out) | exact HB.out)) hb); have n6_ := Aside0.mk (hbox); have n7_ := Aside0.mk ((by rw [hg]; exact (below_size (by repeat (first | (with_reducible first | exact HB.out | apply below_alloc | apply pw_below_drewN | apply below_drew1 | refine below_set ?_ GE310.out | refine below_set ?_ GE319.out) | exact HB.out))) : w.heap.size ≤ gb323)); have n8_ := Aside0.mk ((by rw [hg]; exact (below_size (by repeat (first | (with_reducible first | exact HB.out | apply below_alloc | apply pw_below_drewN | apply below_drew1 | refine below_set ?_ GE310.out | refine below_set ?_ GE319.out) | exact HB.out))) : w.heap.size ≤ gb323)); have n9_ := Aside0.mk ((by rw [hg]; exact Nat.ne_of_lt (blk_lt (g := gb310) (o := .cells #[.slice A0_0 l0_0.length c0_0] 35 (0, 0)) (by (with_reducible repeat (first | refine blk_drewN ?_ _ | refine blk_drew ?_ | refine blk_alloc ?_ _)); exact BK310.out)) : gb310 ≠ gb323)); have n10_ := Aside0.mk ((by rw [hg]; exact Nat.ne_of_gt (blk_lt (g := gb310) (o := .cells #[.slice A0_0 l0_0.length c0_0] 35 (0, 0)) (by (with_reducible repeat (first | refine blk_drewN ?_ _ | refine blk_drew ?_ | refine blk_alloc ?_ _)); exact BK310.out)) : gb323 ≠ gb310)); have n11_ := Aside0.mk ((by rw [hg]; exact Nat.ne_of_lt (blk_lt (g := gb319) (o := .cells #[.slice Ao22 t315.length co22] 27 (0, 0)) (by (with_reducible repeat (first | refine blk_drewN ?_ _ | refine blk_drew ?_ | refine blk_alloc ?_ _)); exact BK319.out)) : gb319 ≠ gb323)); have n12_ := Aside0.mk ((by rw [hg]; exact Nat.ne_of_gt (blk_lt (g := gb319) (o := .cells #[.slice Ao22 t315.length co22] 27 (0, 0)) (by (with_reducible repeat (first | refine blk_drewN ?_ _ | refine blk_drew ?_ | refine blk_alloc ?_ _)); exact BK319.out)) : gb323 ≠ gb319)); clear HO314; clear HO317; clear HO322; clear BK310; clear BK319; clear HB; have HO314 := n0_; have HO317 := n1_; have HO322 := n2_; have BK310 := n3_; have BK319 := n4_; have HB := n5_; have BK323 := n6_; have GW323 := n7_; have GE323 := n8_; have NB310_323 := n9_; have NB323_310 := n10_; have NB319_323 := n11_; have NB323_319 := n12_; clear n0_ n1_ n2_ n3_ n4_ n5_ n6_ n7_ n8_ n9_ n10_ n11_ n12_; clear hb hbox hg; obtain ⟨Ao28, co28, eo28⟩ := Kd.R_slice HO322.out; subst eo28; have hnb29 := NB323_310.out; have hnc29 := NB310_323.out; have hnb30 := NB323_319.out; have hnc30 := NB319_323.out; have hcz31_0 : w27.cell? ⟨gb323, 0, none⟩ = some (.slice none 0 0) := (blk_cell BK323.out 0).trans rfl; have hfz31_0 := blk_frozen BK323.out 0) | ((with_reducible refine gate_callee (f := 25) rfl ?_); refine goesL_ (some 37) rfl rfl Try.func25 (by kernel_rfl) rfl #[.agg #[.slice Ao28 t320.length co28], .int .i64 a1, .int .i64 a2] rfl (by (try simp only [List.map_toArray, List.map_cons, List.map_nil]); first | done | rfl | (simp only [List.length_drop, List.length_take]; rfl)) ?_; (with_reducible refine (impl_FromCorner.calls k _ _ t320 a1 a2 t324 t327 _ ?side1 ?side2 A12.out).mono ?_); (case side1 => refine (Kd.R_reads' (e := 2) (base := w.heap.size) (ok := fun k_ => ((True ∧ some k_ ≠ (.slice Ao19 t312.length co19 : Value).ownBlock) ∧ some k_ ≠ (.slice Ao22 t315.length co22 : Value).ownBlock)) (n := t320.length) (c := co28) ?_).2.2; exact (by (with_reducible repeat (first | apply Kd.R_alloc | apply Kd.R_drewN | apply Kd.R_drew)); exact (Kd.R_mono (Kd.R_far (p := ⟨gb323, 0, none⟩) (Kd.R_types HO322.out BK323.out (by decide)) (fun _ hk => hk.2) (.slice Ao28 t320.length co28)) (fun _ h_ => h_.1)))); (case side2 => exact (Kd.R_reads' HO322.out).2.1); rintro e w32 ⟨v325, rfl, ho0, hb⟩; refine ⟨_, rfl, ?_⟩; have n0_ := Aside0.mk (Kd.R_elder' (by (with_reducible repeat (first | apply Kd.R_alloc | apply Kd.R_drewN | apply Kd.R_drew)); exact (Kd.R_mono (Kd.R_far (p := ⟨gb323, 0, none⟩) (Kd.R_types HO314.out BK323.out (by decide)) (fun _ hk => hk.2) (.slice Ao28 t320.length co28)) (fun _ h_ => h_.1))) (Kd.R_base ho0) hb); have n1_ := Aside0.mk (Kd.R_elder' (by (with_reducible repeat (first | apply Kd.R_alloc | apply Kd.R_drewN | apply Kd.R_drew)); exact (Kd.R_mono (Kd.R_far (p := ⟨gb323, 0, none⟩) (Kd.R_types HO317.out BK323.out (by decide)) (fun _ hk => hk.2) (.slice Ao28 t320.length co28)) (fun _ h_ => h_.1))) (Kd.R_base ho0) hb); have n2_ := Aside0.mk (Kd.R_elder' (by (with_reducible repeat (first | apply Kd.R_alloc | apply Kd.R_drewN | apply Kd.R_drew)); exact (Kd.R_mono (Kd.R_far (p := ⟨gb323, 0, none⟩) (Kd.R_types HO322.out BK323.out (by decide)) (fun _ hk => hk.2) (.slice Ao28 t320.length co28)) (fun _ h_ => h_.1))) (Kd.R_base ho0) hb); have n3_ := Aside0.mk (Kd.R_lower (Kd.R_new' (Kd.R_new' (Kd.R_new' ho0 (Kd.R_lt (by (with_reducible repeat (first | apply Kd.R_alloc | apply Kd.R_drewN | apply Kd.R_drew)); exact (Kd.R_mono (Kd.R_far (p := ⟨gb323, 0, none⟩) (Kd.R_types HO314.out BK323.out (by decide)) (fun _ hk => hk.2) (.slice Ao28 t320.length co28)) (fun _ h_ => h_.1))))) (Kd.R_lt (by (with_reducible repeat (first | apply Kd.R_alloc | apply Kd.R_drewN | apply Kd.R_drew)); exact (Kd.R_mono (Kd.R_far (p := ⟨gb323, 0, none⟩) (Kd.R_types HO317.out BK323.out (by decide)) (fun _ hk => hk.2) (.slice Ao28 t320.length co28)) (fun _ h_ => h_.1))))) (Kd.R_lt (by (with_reducible repeat (first | apply Kd.R_alloc | apply Kd.R_drewN | apply Kd.R_drew)); exact (Kd.R_mono (Kd.R_far (p := ⟨gb323, 0, none⟩) (Kd.R_types HO322.out BK323.out (by decide)) (fun _ hk => hk.2) (.slice Ao28 t320.length co28)) (fun _ h_ => h_.1))))) (below_size (by repeat (first | (with_reducible first | exact HB.out | apply below_alloc | apply pw_below_drewN | apply below_drew1 | refine below_set ?_ GE310.out | refine below_set ?_ GE319.out | refine below_set ?_ GE323.out) | exact HB.out)))); have n4_ := Aside0.mk (blk_below (g := gb310) (o := .cells #[.slice A0_0 l0_0.length c0_0] 35 (0, 0)) (by (with_reducible repeat (first | refine blk_drewN ?_ _ | refine blk_drew ?_ | refine blk_alloc ?_ _)); refine blk_far ?_ NB310_323.out _; (with_reducible repeat (first | refine blk_drewN ?_ _ | refine blk_drew ?_ | refine blk_alloc ?_ _)); exact BK310.out) hb); have n5_ := Aside0.mk (blk_below (g := gb319) (o := .cells #[.slice Ao22 t315.length co22] 27 (0, 0)) (by (with_reducible repeat (first | refine blk_drewN ?_ _ | refine blk_drew ?_ | refine blk_alloc ?_ _)); refine blk_far ?_ NB319_323.out _; (with_reducible repeat (first | refine blk_drewN ?_ _ | refine blk_drew ?_ | refine blk_alloc ?_ _)); exact BK319.out) hb); have n6_ := Aside0.mk (blk_below (g := gb323) (o := .cells #[.slice Ao28 t320.length co28] 27 (0, 0)) (by (with_reducible repeat (first | refine blk_drewN ?_ _ | refine blk_drew ?_ | refine blk_alloc ?_ _)); refine blk_put (cs := #[.slice none 0 0]) ?_ 0 _ rfl; (with_reducible repeat (first | refine blk_drewN ?_ _ | refine blk_drew ?_ | refine blk_alloc ?_ _)); exact BK323.out) hb); have n7_ := Aside0.mk (below_step (by repeat (first | (with_reducible first | exact HB.out | apply below_alloc | apply pw_below_drewN | apply below_drew1 | refine below_set ?_ GE310.out | refine below_set ?_ GE319.out | refine below_set ?_ GE323.out) | exact HB.out)) hb); clear HO314; clear HO317; clear HO322; clear BK310; clear BK319; clear BK323; clear HB; have HO314 := n0_; have HO317 := n1_; have HO322 := n2_; have HO326 := n3_; have BK310 := n4_; have BK319 := n5_; have BK323 := n6_; have HB := n7_; clear n0_ n1_ n2_ n3_ n4_ n5_ n6_ n7_; (try clear hb); (try clear hb2); (try clear hk); (try clear hi); (try clear ho0)) | ((with_reducible refine gate_dst (N := 11) rfl ?_); refine box_event ?hg (N := 11) ?hd (cs := #[.slice none 0 0]) (t := 27) ?hr ?_; (case hd => rfl); (case hg => rfl); (case hr => first | (go_simp; done) | (go_simp; rfl)); intro gb328 hg w33 hbox hb; have n0_ := Aside0.mk (Kd.R_below (by (with_reducible repeat (first | apply Kd.R_alloc | apply Kd.R_drewN | apply Kd.R_drew)); exact HO314.out) hb); have n1_ := Aside0.mk (Kd.R_below (by (with_reducible repeat (first | apply Kd.R_alloc | apply Kd.R_drewN | apply Kd.R_drew)); exact HO317.out) hb); have n2_ := Aside0.mk (Kd.R_below (by (with_reducible repeat (first | apply Kd.R_alloc | apply Kd.R_drewN | apply Kd.R_drew)); exact HO322.out) hb); have n3_ := Aside0.mk (Kd.R_below (by (with_reducible repeat (first | apply Kd.R_alloc | apply Kd.R_drewN | apply Kd.R_drew)); exact HO326.out) hb); have n4_ := Aside0.mk (blk_below (g := gb310) (o := .cells #[.slice A0_0 l0_0.length c0_0] 35 (0, 0)) (by (with_reducible repeat (first | refine blk_drewN ?_ _ | refine blk_drew ?_ | refine blk_alloc ?_ _)); exact BK310.out) hb); have n5_ := Aside0.mk (blk_below (g := gb319) (o := .cells #[.slice Ao22 t315.length co22] 27 (0, 0)) (by (with_reducible repeat (first | refine blk_drewN ?_ _ | refine blk_drew ?_ | refine blk_alloc ?_ _)); exact BK319.out) hb); have n6_ := Aside0.mk (blk_below (g := gb323) (o := .cells #[.slice Ao28 t320.length co28] 27 (0, 0)) (by (with_reducible repeat (first | refine blk_drewN ?_ _ | refine blk_drew ?_ | refine blk_alloc ?_ _)); exact BK323.out) hb); have n7_ := Aside0.mk (below_step (by repeat (first | (with_reducible first | exact HB.out | apply below_alloc | apply pw_below_drewN | apply below_drew1 | refine below_set ?_ GE310.out | refine below_set ?_ GE319.out | refine below_set ?_ GE323.out) | exact HB.out)) hb); have n8_ := Aside0.mk (hbox); have n9_ := Aside0.mk ((by rw [hg]; exact (below_size (by repeat (first | (with_reducible first | exact HB.out | apply below_alloc | apply pw_below_drewN | apply below_drew1 | refine below_set ?_ GE310.out | refine below_set ?_ GE319.out | refine below_set ?_ GE323.out) | exact HB.out))) : w.heap.size ≤ gb328)); have n10_ := Aside0.mk ((by rw [hg]; exact (below_size (by repeat (first | (with_reducible first | exact HB.out | apply below_alloc | apply pw_below_drewN | apply below_drew1 | refine below_set ?_ GE310.out | refine below_set ?_ GE319.out | refine below_set ?_ GE323.out) | exact HB.out))) : w.heap.size ≤ gb328)); have n11_ := Aside0.mk ((by rw [hg]; exact Nat.ne_of_lt (blk_lt (g := gb310) (o := .cells #[.slice A0_0 l0_0.length c0_0] 35 (0, 0)) (by (with_reducible repeat (first | refine blk_drewN ?_ _ | refine blk_drew ?_ | refine blk_alloc ?_ _)); exact BK310.out)) : gb310 ≠ gb328)); have n12_ := Aside0.mk ((by rw [hg]; exact Nat.ne_of_gt (blk_lt (g := gb310) (o := .cells #[.slice A0_0 l0_0.length c0_0] 35 (0, 0)) (by (with_reducible repeat (first | refine blk_drewN ?_ _ | refine blk_drew ?_ | refine blk_alloc ?_ _)); exact BK310.out)) : gb328 ≠ gb310)); have n13_ := Aside0.mk ((by rw [hg]; exact Nat.ne_of_lt (blk_lt (g := gb319) (o := .cells #[.slice Ao22 t315.length co22] 27 (0, 0)) (by (with_reducible repeat (first | refine blk_drewN ?_ _ | refine blk_drew ?_ | refine blk_alloc ?_ _)); exact BK319.out)) : gb319 ≠ gb328)); have n14_ := Aside0.mk ((by rw [hg]; exact Nat.ne_of_gt (blk_lt (g := gb319) (o := .cells #[.slice Ao22 t315.length co22] 27 (0, 0)) (by (with_reducible repeat (first | refine blk_drewN ?_ _ | refine blk_drew ?_ | refine blk_alloc ?_ _)); exact BK319.out)) : gb328 ≠ gb319)); have n15_ := Aside0.mk ((by rw [hg]; exact Nat.ne_of_lt (blk_lt (g := gb323) (o := .cells #[.slice Ao28 t320.length co28] 27 (0, 0)) (by (with_reducible repeat (first | refine blk_drewN ?_ _ | refine blk_drew ?_ | refine blk_alloc ?_ _)); exact BK323.out)) : gb323 ≠ gb328)); have n16_ := Aside0.mk ((by rw [hg]; exact Nat.ne_of_gt (blk_lt (g := gb323) (o := .cells #[.slice Ao28 t320.length co28] 27 (0, 0)) (by (with_reducible repeat (first | refine blk_drewN ?_ _ | refine blk_drew ?_ | refine blk_alloc ?_ _)); exact BK323.out)) : gb328 ≠ gb323)); clear HO314; clear HO317; clear HO322; clear HO326; clear BK310; clear BK319; clear BK323; clear HB; have HO314 := n0_; have HO317 := n1_; have HO322 := n2_; have HO326 := n3_; have BK310 := n4_; have BK319 := n5_; have BK323 := n6_; have HB := n7_; have BK328 := n8_; have GW328 := n9_; have GE328 := n10_; have NB310_328 := n11_; have NB328_310 := n12_; have NB319_328 := n13_; have NB328_319 := n14_; have NB323_328 := n15_; have NB328_323 := n16_; clear n0_ n1_ n2_ n3_ n4_ n5_ n6_ n7_ n8_ n9_ n10_ n11_ n12_ n13_ n14_ n15_ n16_; clear hb hbox hg; obtain ⟨Ao34, co34, eo34⟩ := Kd.R_slice HO326.out; subst eo34; have hnb35 := NB328_310.out; have hnc35 := NB310_328.out; have hnb36 := NB328_319.out; have hnc36 := NB319_328.out; have hnb37 := NB328_323.out; have hnc37 := NB323_328.out; have hcz38_0 : w33.cell? ⟨gb328, 0, none⟩ = some (.slice none 0 0) := (blk_cell BK328.out 0).trans rfl; have hfz38_0 := blk_frozen BK328.out 0))
    (try simp only [Act.put, List.setIfInBounds_toArray, List.set_cons_zero, List.set_cons_succ])
    go_cut [48] (fun v48 wc => ∃ (kq : Nat) (x48_12 : Bool), v48 = .bool x48_12 ∧ Aside0 (laws_FnExactFromCorner.j0 kq a1 a2 t318 t327 x48_12 l0_0 t315 t320 t324 = some r) ∧ Aside0 (kq ≤ k) ∧ Aside0 (Kd.R (Kd.int .i64) 2 wc w.heap.size (fun k_ => some k_ ≠ ((.slice Ao28 t320.length co28) : Value).ownBlock ∧ some k_ ≠ ((.slice Ao34 t324.length co34) : Value).ownBlock) (.slice Ao22 t315.length co22) t315) ∧ Aside0 (Kd.R (Kd.int .i64) 2 wc w.heap.size (fun k_ => some k_ ≠ ((.slice Ao22 t315.length co22) : Value).ownBlock ∧ some k_ ≠ ((.slice Ao34 t324.length co34) : Value).ownBlock) (.slice Ao28 t320.length co28) t320) ∧ Aside0 (Kd.R (Kd.int .i64) 2 wc w.heap.size (fun k_ => some k_ ≠ ((.slice Ao22 t315.length co22) : Value).ownBlock ∧ some k_ ≠ ((.slice Ao28 t320.length co28) : Value).ownBlock) (.slice Ao34 t324.length co34) t324) ∧ Aside0 (wc.heap[gb310]? = some (.cells #[(.slice A0_0 l0_0.length c0_0)] 35 (0, 0))) ∧ Aside0 (wc.heap[gb319]? = some (.cells #[(.slice Ao22 t315.length co22)] 27 (0, 0))) ∧ Aside0 (wc.heap[gb323]? = some (.cells #[(.slice Ao28 t320.length co28)] 27 (0, 0))) ∧ Aside0 (wc.heap[gb328]? = some (.cells #[(.slice Ao34 t324.length co34)] 27 (0, 0))) ∧ Aside0 (Below w.heap.size w wc))
    case first =>
      have H := HC13.out
      clear HC13
      replace H := Option.bind_eq_some_iff.mp H
      obtain ⟨t329, A390, H⟩ := H
      replace H : (if t329 = true then (laws_FnExactFromCorner.j0 k a1 a2 t318 t327 (t327 != t318) l0_0 t315 t320 t324) else (laws_FnExactFromCorner.j0 k a1 a2 t318 t327 true l0_0 t315 t320 t324)) = some r := H
      have A39 := Aside0.mk A390
      clear A390
      by_cases c40 : t329 = true
      · subst c40
        have H1 : (laws_FnExactFromCorner.j0 k a1 a2 t318 t327 (t327 != t318) l0_0 t315 t320 t324) = some r := by rw [if_pos rfl] at H; exact H
        clear H
        have H := H1
        clear H1
        have H' := Aside0.mk H
        clear H
        have hnb41 := NB328_310.out
        have hnc41 := NB310_328.out
        have hnb42 := NB328_319.out
        have hnc42 := NB319_328.out
        have hnb43 := NB328_323.out
        have hnc43 := NB323_328.out
        have hcz44_0 : w33.cell? ⟨gb328, 0, none⟩ = some (.slice none 0 0) := (blk_cell BK328.out 0).trans rfl
        have hfz44_0 := blk_frozen BK328.out 0
        have hnb45 := NB319_310.out
        have hnc45 := NB310_319.out
        have hnb46 := NB319_323.out
        have hnc46 := NB323_319.out
        have hcz47_0 : w33.cell? ⟨gb319, 0, none⟩ = some (.slice Ao22 t315.length co22) := (blk_cell BK319.out 0).trans rfl
        have hfz47_0 := blk_frozen BK319.out 0
        go_wp2_with (first | ((with_reducible refine gate_callee (f := 17) rfl ?_); refine goesL_ (some 42) rfl rfl Try.func17 (by kernel_rfl) rfl #[.agg #[.slice Ao34 t324.length co34], .agg #[.slice Ao22 t315.length co22]] rfl (by (try simp only [List.map_toArray, List.map_cons, List.map_nil]); first | done | rfl | (simp only [List.length_drop, List.length_take]; rfl)) ?_; (with_reducible refine (laws_eqTree.calls k _ _ t324 _ _ t315 true _ ?side1 ?side2 ?side3 ?side4 A39.out).mono ?_); (case side1 => refine (Kd.R_reads' (e := 2) (base := w.heap.size) (ok := fun k_ => (((True ∧ some k_ ≠ (.slice Ao19 t312.length co19 : Value).ownBlock) ∧ some k_ ≠ (.slice Ao22 t315.length co22 : Value).ownBlock) ∧ some k_ ≠ (.slice Ao28 t320.length co28 : Value).ownBlock)) (n := t324.length) (c := co34) ?_).2.2; exact (by (with_reducible repeat (first | apply Kd.R_alloc | apply Kd.R_drewN | apply Kd.R_drew)); exact (Kd.R_mono (Kd.R_far (p := ⟨gb328, 0, none⟩) (Kd.R_types HO326.out BK328.out (by decide)) (fun _ hk => hk.2) (.slice Ao34 t324.length co34)) (fun _ h_ => h_.1)))); (case side2 => exact (Kd.R_reads' HO326.out).2.1); (case side3 => refine (Kd.R_reads' (e := 2) (base := w.heap.size) (ok := fun k_ => (((True ∧ some k_ ≠ (.slice Ao19 t312.length co19 : Value).ownBlock) ∧ some k_ ≠ (.slice Ao28 t320.length co28 : Value).ownBlock) ∧ some k_ ≠ (.slice Ao34 t324.length co34 : Value).ownBlock)) (n := t315.length) (c := co22) ?_).2.2; exact (by (with_reducible repeat (first | apply Kd.R_alloc | apply Kd.R_drewN | apply Kd.R_drew)); exact (Kd.R_mono (Kd.R_far (p := ⟨gb328, 0, none⟩) (Kd.R_types HO317.out BK328.out (by decide)) (fun _ hk => hk.2) (.slice Ao34 t324.length co34)) (fun _ h_ => h_.1)))); (case side4 => exact (Kd.R_reads' HO317.out).2.1); rintro e w48 ⟨rfl, hb⟩; refine ⟨_, rfl, ?_⟩; have n0_ := Aside0.mk (Kd.R_below (by (with_reducible repeat (first | apply Kd.R_alloc | apply Kd.R_drewN | apply Kd.R_drew)); exact (Kd.R_mono (Kd.R_far (p := ⟨gb328, 0, none⟩) (Kd.R_types HO314.out BK328.out (by decide)) (fun _ hk => hk.2) (.slice Ao34 t324.length co34)) (fun _ h_ => h_.1))) hb); have n1_ := Aside0.mk (Kd.R_below (by (with_reducible repeat (first | apply Kd.R_alloc | apply Kd.R_drewN | apply Kd.R_drew)); exact (Kd.R_mono (Kd.R_far (p := ⟨gb328, 0, none⟩) (Kd.R_types HO317.out BK328.out (by decide)) (fun _ hk => hk.2) (.slice Ao34 t324.length co34)) (fun _ h_ => h_.1))) hb); have n2_ := Aside0.mk (Kd.R_below (by (with_reducible repeat (first | apply Kd.R_alloc | apply Kd.R_drewN | apply Kd.R_drew)); exact (Kd.R_mono (Kd.R_far (p := ⟨gb328, 0, none⟩) (Kd.R_types HO322.out BK328.out (by decide)) (fun _ hk => hk.2) (.slice Ao34 t324.length co34)) (fun _ h_ => h_.1))) hb); have n3_ := Aside0.mk (Kd.R_below (by (with_reducible repeat (first | apply Kd.R_alloc | apply Kd.R_drewN | apply Kd.R_drew)); exact (Kd.R_mono (Kd.R_far (p := ⟨gb328, 0, none⟩) (Kd.R_types HO326.out BK328.out (by decide)) (fun _ hk => hk.2) (.slice Ao34 t324.length co34)) (fun _ h_ => h_.1))) hb); have n4_ := Aside0.mk (blk_below (g := gb310) (o := .cells #[.slice A0_0 l0_0.length c0_0] 35 (0, 0)) (by (with_reducible repeat (first | refine blk_drewN ?_ _ | refine blk_drew ?_ | refine blk_alloc ?_ _)); refine blk_far ?_ NB310_328.out _; (with_reducible repeat (first | refine blk_drewN ?_ _ | refine blk_drew ?_ | refine blk_alloc ?_ _)); exact BK310.out) hb); have n5_ := Aside0.mk (blk_below (g := gb319) (o := .cells #[.slice Ao22 t315.length co22] 27 (0, 0)) (by (with_reducible repeat (first | refine blk_drewN ?_ _ | refine blk_drew ?_ | refine blk_alloc ?_ _)); refine blk_far ?_ NB319_328.out _; (with_reducible repeat (first | refine blk_drewN ?_ _ | refine blk_drew ?_ | refine blk_alloc ?_ _)); exact BK319.out) hb); have n6_ := Aside0.mk (blk_below (g := gb323) (o := .cells #[.slice Ao28 t320.length co28] 27 (0, 0)) (by (with_reducible repeat (first | refine blk_drewN ?_ _ | refine blk_drew ?_ | refine blk_alloc ?_ _)); refine blk_far ?_ NB323_328.out _; (with_reducible repeat (first | refine blk_drewN ?_ _ | refine blk_drew ?_ | refine blk_alloc ?_ _)); exact BK323.out) hb); have n7_ := Aside0.mk (blk_below (g := gb328) (o := .cells #[.slice Ao34 t324.length co34] 27 (0, 0)) (by (with_reducible repeat (first | refine blk_drewN ?_ _ | refine blk_drew ?_ | refine blk_alloc ?_ _)); refine blk_put (cs := #[.slice none 0 0]) ?_ 0 _ rfl; (with_reducible repeat (first | refine blk_drewN ?_ _ | refine blk_drew ?_ | refine blk_alloc ?_ _)); exact BK328.out) hb); have n8_ := Aside0.mk (below_step (by repeat (first | (with_reducible first | exact HB.out | apply below_alloc | apply pw_below_drewN | apply below_drew1 | refine below_set ?_ GE310.out | refine below_set ?_ GE319.out | refine below_set ?_ GE323.out | refine below_set ?_ GE328.out) | exact HB.out)) hb); clear HO314; clear HO317; clear HO322; clear HO326; clear BK310; clear BK319; clear BK323; clear BK328; clear HB; have HO314 := n0_; have HO317 := n1_; have HO322 := n2_; have HO326 := n3_; have BK310 := n4_; have BK319 := n5_; have BK323 := n6_; have BK328 := n7_; have HB := n8_; clear n0_ n1_ n2_ n3_ n4_ n5_ n6_ n7_ n8_; (try clear hb); (try clear hb2); (try clear hk); (try clear hi)))
        go_meet
        case rel => exact ⟨_, ((t327 != t318)), (by first | rfl | (simp; done) | (simp [*]; done)), H', ⟨by first | omega | exact Nat.le_refl _⟩, ⟨by (with_reducible repeat (first | apply Kd.R_alloc | apply Kd.R_drewN | apply Kd.R_drew)); exact Kd.R_mono HO317.out (fun _ hk => ⟨hk.1.2, hk.2⟩)⟩, ⟨by (with_reducible repeat (first | apply Kd.R_alloc | apply Kd.R_drewN | apply Kd.R_drew)); exact Kd.R_mono HO322.out (fun _ hk => ⟨hk.1.2, hk.2⟩)⟩, ⟨by (with_reducible repeat (first | apply Kd.R_alloc | apply Kd.R_drewN | apply Kd.R_drew)); exact Kd.R_mono HO326.out (fun _ hk => ⟨hk.1.2, hk.2⟩)⟩, ⟨by (with_reducible repeat (first | refine blk_drewN ?_ _ | refine blk_drew ?_ | refine blk_alloc ?_ _)); exact BK310.out⟩, ⟨by (with_reducible repeat (first | refine blk_drewN ?_ _ | refine blk_drew ?_ | refine blk_alloc ?_ _)); exact BK319.out⟩, ⟨by (with_reducible repeat (first | refine blk_drewN ?_ _ | refine blk_drew ?_ | refine blk_alloc ?_ _)); exact BK323.out⟩, ⟨by (with_reducible repeat (first | refine blk_drewN ?_ _ | refine blk_drew ?_ | refine blk_alloc ?_ _)); exact BK328.out⟩, ⟨by repeat (first | (with_reducible first | exact HB.out | apply below_alloc | apply pw_below_drewN | apply below_drew1 | refine below_set ?_ GE310.out | refine below_set ?_ GE319.out | refine below_set ?_ GE323.out | refine below_set ?_ GE328.out) | exact HB.out)⟩⟩
      · replace c40 := Bool.eq_false_iff.mpr c40
        subst c40
        have H1 : (laws_FnExactFromCorner.j0 k a1 a2 t318 t327 true l0_0 t315 t320 t324) = some r := by rw [if_neg (show ¬ (false = true) by decide)] at H; exact H
        clear H
        have H := H1
        clear H1
        have H' := Aside0.mk H
        clear H
        have hnb49 := NB328_310.out
        have hnc49 := NB310_328.out
        have hnb50 := NB328_319.out
        have hnc50 := NB319_328.out
        have hnb51 := NB328_323.out
        have hnc51 := NB323_328.out
        have hcz52_0 : w33.cell? ⟨gb328, 0, none⟩ = some (.slice none 0 0) := (blk_cell BK328.out 0).trans rfl
        have hfz52_0 := blk_frozen BK328.out 0
        have hnb53 := NB319_310.out
        have hnc53 := NB310_319.out
        have hnb54 := NB319_323.out
        have hnc54 := NB323_319.out
        have hcz55_0 : w33.cell? ⟨gb319, 0, none⟩ = some (.slice Ao22 t315.length co22) := (blk_cell BK319.out 0).trans rfl
        have hfz55_0 := blk_frozen BK319.out 0
        go_wp2_with (first | ((with_reducible refine gate_callee (f := 17) rfl ?_); refine goesL_ (some 42) rfl rfl Try.func17 (by kernel_rfl) rfl #[.agg #[.slice Ao34 t324.length co34], .agg #[.slice Ao22 t315.length co22]] rfl (by (try simp only [List.map_toArray, List.map_cons, List.map_nil]); first | done | rfl | (simp only [List.length_drop, List.length_take]; rfl)) ?_; (with_reducible refine (laws_eqTree.calls k _ _ t324 _ _ t315 false _ ?side1 ?side2 ?side3 ?side4 A39.out).mono ?_); (case side1 => refine (Kd.R_reads' (e := 2) (base := w.heap.size) (ok := fun k_ => (((True ∧ some k_ ≠ (.slice Ao19 t312.length co19 : Value).ownBlock) ∧ some k_ ≠ (.slice Ao22 t315.length co22 : Value).ownBlock) ∧ some k_ ≠ (.slice Ao28 t320.length co28 : Value).ownBlock)) (n := t324.length) (c := co34) ?_).2.2; exact (by (with_reducible repeat (first | apply Kd.R_alloc | apply Kd.R_drewN | apply Kd.R_drew)); exact (Kd.R_mono (Kd.R_far (p := ⟨gb328, 0, none⟩) (Kd.R_types HO326.out BK328.out (by decide)) (fun _ hk => hk.2) (.slice Ao34 t324.length co34)) (fun _ h_ => h_.1)))); (case side2 => exact (Kd.R_reads' HO326.out).2.1); (case side3 => refine (Kd.R_reads' (e := 2) (base := w.heap.size) (ok := fun k_ => (((True ∧ some k_ ≠ (.slice Ao19 t312.length co19 : Value).ownBlock) ∧ some k_ ≠ (.slice Ao28 t320.length co28 : Value).ownBlock) ∧ some k_ ≠ (.slice Ao34 t324.length co34 : Value).ownBlock)) (n := t315.length) (c := co22) ?_).2.2; exact (by (with_reducible repeat (first | apply Kd.R_alloc | apply Kd.R_drewN | apply Kd.R_drew)); exact (Kd.R_mono (Kd.R_far (p := ⟨gb328, 0, none⟩) (Kd.R_types HO317.out BK328.out (by decide)) (fun _ hk => hk.2) (.slice Ao34 t324.length co34)) (fun _ h_ => h_.1)))); (case side4 => exact (Kd.R_reads' HO317.out).2.1); rintro e w56 ⟨rfl, hb⟩; refine ⟨_, rfl, ?_⟩; have n0_ := Aside0.mk (Kd.R_below (by (with_reducible repeat (first | apply Kd.R_alloc | apply Kd.R_drewN | apply Kd.R_drew)); exact (Kd.R_mono (Kd.R_far (p := ⟨gb328, 0, none⟩) (Kd.R_types HO314.out BK328.out (by decide)) (fun _ hk => hk.2) (.slice Ao34 t324.length co34)) (fun _ h_ => h_.1))) hb); have n1_ := Aside0.mk (Kd.R_below (by (with_reducible repeat (first | apply Kd.R_alloc | apply Kd.R_drewN | apply Kd.R_drew)); exact (Kd.R_mono (Kd.R_far (p := ⟨gb328, 0, none⟩) (Kd.R_types HO317.out BK328.out (by decide)) (fun _ hk => hk.2) (.slice Ao34 t324.length co34)) (fun _ h_ => h_.1))) hb); have n2_ := Aside0.mk (Kd.R_below (by (with_reducible repeat (first | apply Kd.R_alloc | apply Kd.R_drewN | apply Kd.R_drew)); exact (Kd.R_mono (Kd.R_far (p := ⟨gb328, 0, none⟩) (Kd.R_types HO322.out BK328.out (by decide)) (fun _ hk => hk.2) (.slice Ao34 t324.length co34)) (fun _ h_ => h_.1))) hb); have n3_ := Aside0.mk (Kd.R_below (by (with_reducible repeat (first | apply Kd.R_alloc | apply Kd.R_drewN | apply Kd.R_drew)); exact (Kd.R_mono (Kd.R_far (p := ⟨gb328, 0, none⟩) (Kd.R_types HO326.out BK328.out (by decide)) (fun _ hk => hk.2) (.slice Ao34 t324.length co34)) (fun _ h_ => h_.1))) hb); have n4_ := Aside0.mk (blk_below (g := gb310) (o := .cells #[.slice A0_0 l0_0.length c0_0] 35 (0, 0)) (by (with_reducible repeat (first | refine blk_drewN ?_ _ | refine blk_drew ?_ | refine blk_alloc ?_ _)); refine blk_far ?_ NB310_328.out _; (with_reducible repeat (first | refine blk_drewN ?_ _ | refine blk_drew ?_ | refine blk_alloc ?_ _)); exact BK310.out) hb); have n5_ := Aside0.mk (blk_below (g := gb319) (o := .cells #[.slice Ao22 t315.length co22] 27 (0, 0)) (by (with_reducible repeat (first | refine blk_drewN ?_ _ | refine blk_drew ?_ | refine blk_alloc ?_ _)); refine blk_far ?_ NB319_328.out _; (with_reducible repeat (first | refine blk_drewN ?_ _ | refine blk_drew ?_ | refine blk_alloc ?_ _)); exact BK319.out) hb); have n6_ := Aside0.mk (blk_below (g := gb323) (o := .cells #[.slice Ao28 t320.length co28] 27 (0, 0)) (by (with_reducible repeat (first | refine blk_drewN ?_ _ | refine blk_drew ?_ | refine blk_alloc ?_ _)); refine blk_far ?_ NB323_328.out _; (with_reducible repeat (first | refine blk_drewN ?_ _ | refine blk_drew ?_ | refine blk_alloc ?_ _)); exact BK323.out) hb); have n7_ := Aside0.mk (blk_below (g := gb328) (o := .cells #[.slice Ao34 t324.length co34] 27 (0, 0)) (by (with_reducible repeat (first | refine blk_drewN ?_ _ | refine blk_drew ?_ | refine blk_alloc ?_ _)); refine blk_put (cs := #[.slice none 0 0]) ?_ 0 _ rfl; (with_reducible repeat (first | refine blk_drewN ?_ _ | refine blk_drew ?_ | refine blk_alloc ?_ _)); exact BK328.out) hb); have n8_ := Aside0.mk (below_step (by repeat (first | (with_reducible first | exact HB.out | apply below_alloc | apply pw_below_drewN | apply below_drew1 | refine below_set ?_ GE310.out | refine below_set ?_ GE319.out | refine below_set ?_ GE323.out | refine below_set ?_ GE328.out) | exact HB.out)) hb); clear HO314; clear HO317; clear HO322; clear HO326; clear BK310; clear BK319; clear BK323; clear BK328; clear HB; have HO314 := n0_; have HO317 := n1_; have HO322 := n2_; have HO326 := n3_; have BK310 := n4_; have BK319 := n5_; have BK323 := n6_; have BK328 := n7_; have HB := n8_; clear n0_ n1_ n2_ n3_ n4_ n5_ n6_ n7_ n8_; (try clear hb); (try clear hb2); (try clear hk); (try clear hi)))
        go_meet
        case rel => exact ⟨_, (true), (by first | rfl | (simp; done) | (simp [*]; done)), H', ⟨by first | omega | exact Nat.le_refl _⟩, ⟨by (with_reducible repeat (first | apply Kd.R_alloc | apply Kd.R_drewN | apply Kd.R_drew)); exact Kd.R_mono HO317.out (fun _ hk => ⟨hk.1.2, hk.2⟩)⟩, ⟨by (with_reducible repeat (first | apply Kd.R_alloc | apply Kd.R_drewN | apply Kd.R_drew)); exact Kd.R_mono HO322.out (fun _ hk => ⟨hk.1.2, hk.2⟩)⟩, ⟨by (with_reducible repeat (first | apply Kd.R_alloc | apply Kd.R_drewN | apply Kd.R_drew)); exact Kd.R_mono HO326.out (fun _ hk => ⟨hk.1.2, hk.2⟩)⟩, ⟨by (with_reducible repeat (first | refine blk_drewN ?_ _ | refine blk_drew ?_ | refine blk_alloc ?_ _)); exact BK310.out⟩, ⟨by (with_reducible repeat (first | refine blk_drewN ?_ _ | refine blk_drew ?_ | refine blk_alloc ?_ _)); exact BK319.out⟩, ⟨by (with_reducible repeat (first | refine blk_drewN ?_ _ | refine blk_drew ?_ | refine blk_alloc ?_ _)); exact BK323.out⟩, ⟨by (with_reducible repeat (first | refine blk_drewN ?_ _ | refine blk_drew ?_ | refine blk_alloc ?_ _)); exact BK328.out⟩, ⟨by repeat (first | (with_reducible first | exact HB.out | apply below_alloc | apply pw_below_drewN | apply below_drew1 | refine below_set ?_ GE310.out | refine below_set ?_ GE319.out | refine below_set ?_ GE323.out | refine below_set ?_ GE328.out) | exact HB.out)⟩⟩
    case rest =>
      clear HC13
      try clear c1
      try clear c2
      try clear p2
      try clear c3
      try clear c4
      try clear c5
      try clear c5b0
      try clear c7
      try clear c17
      try clear c22
      try clear c23
      try clear c24
      try clear c25
      try clear c29
      try clear c30
      try clear c35
      try clear c36
      try clear c37
      try clear c40
      try clear c41
      try clear c42
      try clear c43
      try clear c45
      try clear c46
      try clear c49
      try clear c50
      try clear c51
      try clear c53
      try clear c54
      try clear hcz15_0
      try clear hcz17_0
      try clear hcz24_0
      try clear hcz25_0
      try clear hcz31_0
      try clear hcz38_0
      try clear hcz44_0
      try clear hcz47_0
      try clear hcz52_0
      try clear hcz55_0
      try clear hcz7_0
      try clear hfz15_0
      try clear hfz17_0
      try clear hfz24_0
      try clear hfz25_0
      try clear hfz31_0
      try clear hfz38_0
      try clear hfz44_0
      try clear hfz47_0
      try clear hfz52_0
      try clear hfz55_0
      try clear hfz7_0
      obtain ⟨kq, x48_12, rfl, HA, HJ12, HO_320000, HO_324000, HO_329000, BK310, BK319, BK323, BK328, HB⟩ := hcut
      cases kq with
      | zero => exact absurd HA.out (by simp [laws_FnExactFromCorner.j0])
      | succ kj12 =>
        have H := HA.out
        clear HA
        simp only [laws_FnExactFromCorner.j0] at H
        by_cases c57 : x48_12 = true
        · subst c57
          have H1 : (some false) = some r := by rw [if_pos rfl] at H; exact H
          clear H
          have H := H1
          clear H1
          obtain rfl := Option.some.inj H
          go_wp2
          go_ret
          exact ⟨by first | rfl | (simp [errW_none, errW_some] <;> rfl) | (simp [*, errW_none, errW_some] <;> rfl), by repeat (first | (with_reducible first | exact HB.out | apply below_alloc | apply pw_below_drewN | apply below_drew1 | refine below_set ?_ GE310.out | refine below_set ?_ GE319.out | refine below_set ?_ GE323.out | refine below_set ?_ GE328.out) | exact HB.out)⟩
        · replace c57 := Bool.eq_false_iff.mpr c57
          subst c57
          have H1 : ((laws_toTree.f kj12 l0_0).bind fun t330 => ((laws_eqTree.f kj12 t320 t330).bind fun t333 => (if t333 = true then ((laws_markTree.f kj12 t320 1).bind fun bt334 => (if bt334.1 < 0 then (laws_FnExactFromCorner.j1 kj12 a1 a2 t318 true l0_0 t315 t324) else ((laws_eqTree.f kj12 t324 t315).bind fun t336 => (if t336 = true then (laws_FnExactFromCorner.j1 kj12 a1 a2 t318 (t327 != t318) l0_0 t315 t324) else (laws_FnExactFromCorner.j1 kj12 a1 a2 t318 true l0_0 t315 t324))))) else (some false)))) = some r := by rw [if_neg (show ¬ (false = true) by decide)] at H; exact H
          clear H
          have H := H1
          clear H1
          replace H := Option.bind_eq_some_iff.mp H
          obtain ⟨t330, A580, H⟩ := H
          replace H : ((laws_eqTree.f kj12 t320 t330).bind fun t333 => (if t333 = true then ((laws_markTree.f kj12 t320 1).bind fun bt334 => (if bt334.1 < 0 then (laws_FnExactFromCorner.j1 kj12 a1 a2 t318 true l0_0 t315 t324) else ((laws_eqTree.f kj12 t324 t315).bind fun t336 => (if t336 = true then (laws_FnExactFromCorner.j1 kj12 a1 a2 t318 (t327 != t318) l0_0 t315 t324) else (laws_FnExactFromCorner.j1 kj12 a1 a2 t318 true l0_0 t315 t324))))) else (some false))) = some r := H
          have A58 := Aside0.mk A580
          clear A580
          replace H := Option.bind_eq_some_iff.mp H
          obtain ⟨t333, A590, H⟩ := H
          replace H : (if t333 = true then ((laws_markTree.f kj12 t320 1).bind fun bt334 => (if bt334.1 < 0 then (laws_FnExactFromCorner.j1 kj12 a1 a2 t318 true l0_0 t315 t324) else ((laws_eqTree.f kj12 t324 t315).bind fun t336 => (if t336 = true then (laws_FnExactFromCorner.j1 kj12 a1 a2 t318 (t327 != t318) l0_0 t315 t324) else (laws_FnExactFromCorner.j1 kj12 a1 a2 t318 true l0_0 t315 t324))))) else (some false)) = some r := H
          have A59 := Aside0.mk A590
          clear A590
          by_cases c60 : t333 = true
          · subst c60
            have H1 : ((laws_markTree.f kj12 t320 1).bind fun bt334 => (if bt334.1 < 0 then (laws_FnExactFromCorner.j1 kj12 a1 a2 t318 true l0_0 t315 t324) else ((laws_eqTree.f kj12 t324 t315).bind fun t336 => (if t336 = true then (laws_FnExactFromCorner.j1 kj12 a1 a2 t318 (t327 != t318) l0_0 t315 t324) else (laws_FnExactFromCorner.j1 kj12 a1 a2 t318 true l0_0 t315 t324))))) = some r := by rw [if_pos rfl] at H; exact H
            clear H
            have H := H1
            clear H1
            replace H := Option.bind_eq_some_iff.mp H
            obtain ⟨⟨t334, t335⟩, A610, H⟩ := H
            replace H : (if t334 < 0 then (laws_FnExactFromCorner.j1 kj12 a1 a2 t318 true l0_0 t315 t324) else ((laws_eqTree.f kj12 t324 t315).bind fun t336 => (if t336 = true then (laws_FnExactFromCorner.j1 kj12 a1 a2 t318 (t327 != t318) l0_0 t315 t324) else (laws_FnExactFromCorner.j1 kj12 a1 a2 t318 true l0_0 t315 t324)))) = some r := H
            have A61 := Aside0.mk A610
            clear A610
            have HC62 := Aside0.mk H
            clear H
            try go_wp2
            have n0_ := Aside0.mk (Kd.R_drew HO_320000.out)
            have n1_ := Aside0.mk (Kd.R_drew HO_324000.out)
            have n2_ := Aside0.mk (Kd.R_drew HO_329000.out)
            have n3_ := Aside0.mk (blk_drew BK310.out)
            have n4_ := Aside0.mk (blk_drew BK319.out)
            have n5_ := Aside0.mk (blk_drew BK323.out)
            have n6_ := Aside0.mk (blk_drew BK328.out)
            have n7_ := Aside0.mk (below_drew1 HB.out)
            clear HO_320000
            clear HO_324000
            clear HO_329000
            clear BK310
            clear BK319
            clear BK323
            clear BK328
            clear HB
            have HO_320000 := n0_
            have HO_324000 := n1_
            have HO_329000 := n2_
            have BK310 := n3_
            have BK319 := n4_
            have BK323 := n5_
            have BK328 := n6_
            have HB := n7_
            clear n0_ n1_ n2_ n3_ n4_ n5_ n6_ n7_
            refine start_ (n := 5) (S := fun w' => w'.cell? ⟨gb323, 0, none⟩ = some (.slice Ao28 t320.length co28) ∧ w'.cell? ⟨gb310, 0, none⟩ = some (.slice A0_0 l0_0.length c0_0)) (ds := []) #[false, false, false, false, false] (by kernel_rfl) rfl rfl ⟨(blk_cell BK323.out 0).trans rfl, (blk_cell BK310.out 0).trans rfl⟩ (fun hHeld => ?_)
            generalize wc.drew = w63 at HO_320000 HO_324000 HO_329000 BK310 BK319 BK323 BK328 HB hHeld ⊢
            refine take_ (i := 0) (N := some 49) (v := ?_) (a' := ?_) #[true, false, false, false, false] rfl rfl (by kernel_rfl) (fun _ _ _ h => h) (Or.inl ⟨by rfl, ?_⟩) hHeld ?_ ?_
            rotate_left
            · rintro w' ⟨s0, s1⟩
              go_simp
              with_reducible rfl
            rotate_left
            · simp only [Act.put, List.setIfInBounds_toArray, List.set_cons_zero, List.set_cons_succ, i64_w, i32_w]
              rfl
            refine take_ (i := 1) (N := some 50) (v := ?_) (a' := ?_) #[true, true, false, false, false] rfl rfl (by kernel_rfl) (fun _ _ _ h => h) (Or.inl ⟨by rfl, ?_⟩) hHeld ?_ ?_
            rotate_left
            · rintro w' ⟨s0, s1⟩
              go_simp
              with_reducible rfl
            rotate_left
            · simp only [Act.put, List.setIfInBounds_toArray, List.set_cons_zero, List.set_cons_succ, i64_w, i32_w]
              rfl
            refine one_ (i := 2) (N := some 51) #[true, true, true, false, false] rfl rfl (by kernel_rfl) (by decide) (fun K hK => ?_)
            refine goes_ Try.func24 (by kernel_rfl) rfl #[.agg #[.slice A0_0 l0_0.length c0_0]] (by rfl) rfl rfl (by (try simp only [List.map_toArray, List.map_cons, List.map_nil]); first | done | rfl | (simp only [List.length_drop, List.length_take]; rfl)) ?_
            with_reducible refine (laws_toTree.calls kj12 _ _ l0_0 t330 _ ?side1 ?side2 A58.out).mono ?_
            (case side1 => repeat (first | exact (Kd.C_below HR0_0.out HB.out) | (with_reducible refine Kd.C_alloc ?_ _) | (with_reducible refine Kd.C_drewN ?_ _) | (with_reducible refine Kd.C_drew ?_)))
            (case side2 => exact HC0_0.out)
            rintro e w64 ⟨v331, rfl, ho0, hb⟩
            refine ⟨_, rfl, ?_⟩
            have n0_ := Aside0.mk (Kd.R_elder' (by (with_reducible repeat (first | apply Kd.R_alloc | apply Kd.R_drewN | apply Kd.R_drew)); exact HO_320000.out) (Kd.R_base ho0) hb)
            have n1_ := Aside0.mk (Kd.R_elder' (by (with_reducible repeat (first | apply Kd.R_alloc | apply Kd.R_drewN | apply Kd.R_drew)); exact HO_324000.out) (Kd.R_base ho0) hb)
            have n2_ := Aside0.mk (Kd.R_elder' (by (with_reducible repeat (first | apply Kd.R_alloc | apply Kd.R_drewN | apply Kd.R_drew)); exact HO_329000.out) (Kd.R_base ho0) hb)
            have n3_ := Aside0.mk (Kd.R_lower (Kd.R_new' (Kd.R_new' (Kd.R_new' ho0 (Kd.R_lt (by (with_reducible repeat (first | apply Kd.R_alloc | apply Kd.R_drewN | apply Kd.R_drew)); exact HO_320000.out))) (Kd.R_lt (by (with_reducible repeat (first | apply Kd.R_alloc | apply Kd.R_drewN | apply Kd.R_drew)); exact HO_324000.out))) (Kd.R_lt (by (with_reducible repeat (first | apply Kd.R_alloc | apply Kd.R_drewN | apply Kd.R_drew)); exact HO_329000.out))) (below_size (by repeat (first | (with_reducible first | exact HB.out | apply below_alloc | apply pw_below_drewN | apply below_drew1 | refine below_set ?_ GE310.out | refine below_set ?_ GE319.out | refine below_set ?_ GE323.out | refine below_set ?_ GE328.out) | exact HB.out))))
            have n4_ := Aside0.mk (blk_below (g := gb310) (o := .cells #[.slice A0_0 l0_0.length c0_0] 35 (0, 0)) (by (with_reducible repeat (first | refine blk_drewN ?_ _ | refine blk_drew ?_ | refine blk_alloc ?_ _)); exact BK310.out) hb)
            have n5_ := Aside0.mk (blk_below (g := gb319) (o := .cells #[.slice Ao22 t315.length co22] 27 (0, 0)) (by (with_reducible repeat (first | refine blk_drewN ?_ _ | refine blk_drew ?_ | refine blk_alloc ?_ _)); exact BK319.out) hb)
            have n6_ := Aside0.mk (blk_below (g := gb323) (o := .cells #[.slice Ao28 t320.length co28] 27 (0, 0)) (by (with_reducible repeat (first | refine blk_drewN ?_ _ | refine blk_drew ?_ | refine blk_alloc ?_ _)); exact BK323.out) hb)
            have n7_ := Aside0.mk (blk_below (g := gb328) (o := .cells #[.slice Ao34 t324.length co34] 27 (0, 0)) (by (with_reducible repeat (first | refine blk_drewN ?_ _ | refine blk_drew ?_ | refine blk_alloc ?_ _)); exact BK328.out) hb)
            have n8_ := Aside0.mk (below_step (by repeat (first | (with_reducible first | exact HB.out | apply below_alloc | apply pw_below_drewN | apply below_drew1 | refine below_set ?_ GE310.out | refine below_set ?_ GE319.out | refine below_set ?_ GE323.out | refine below_set ?_ GE328.out) | exact HB.out)) hb)
            clear HO_320000
            clear HO_324000
            clear HO_329000
            clear BK310
            clear BK319
            clear BK323
            clear BK328
            clear HB
            have HO_320000 := n0_
            have HO_324000 := n1_
            have HO_329000 := n2_
            have HO332 := n3_
            have BK310 := n4_
            have BK319 := n5_
            have BK323 := n6_
            have BK328 := n7_
            have HB := n8_
            clear n0_ n1_ n2_ n3_ n4_ n5_ n6_ n7_ n8_
            (try clear hb)
            (try clear hb2)
            (try clear hk)
            (try clear hi)
            (try clear ho0)
            obtain ⟨Ao65, co65, eo65⟩ := Kd.R_slice HO332.out
            (first | subst eo65 | (injection eo65 with f1_ f2_ f3_; have f4_ := f1_.symm; have f5_ := f3_.symm; clear f1_ f2_ f3_; subst f4_; subst f5_))
            refine hK.out _ _ ⟨(blk_cell BK323.out 0).trans rfl, (blk_cell BK310.out 0).trans rfl⟩ (fun hHeld => ?_)
            clear hK K
            refine norm_ (a' := ?_) ?_ ?_
            rotate_left
            · show Act.put _ (some 51) _ = _
              simp only [Act.put, List.setIfInBounds_toArray, List.set_cons_zero, List.set_cons_succ, i64_w, i32_w]
              rfl
            refine one_ (i := 3) (N := some 52) #[true, true, true, true, false] rfl rfl (by kernel_rfl) (by decide) (fun K hK => ?_)
            refine goes_ Try.func17 (by kernel_rfl) rfl #[.agg #[.slice Ao28 t320.length co28], .agg #[.slice Ao65 t330.length co65]] (by rfl) rfl rfl (by (try simp only [List.map_toArray, List.map_cons, List.map_nil]); first | done | rfl | (simp only [List.length_drop, List.length_take]; rfl)) ?_
            with_reducible refine (laws_eqTree.calls kj12 _ _ t320 _ _ t330 true _ ?side1 ?side2 ?side3 ?side4 A59.out).mono ?_
            (case side1 => repeat (first | exact (Kd.R_reads' HO_324000.out).2.2 | (with_reducible refine Kd.C_alloc ?_ _) | (with_reducible refine Kd.C_drewN ?_ _) | (with_reducible refine Kd.C_drew ?_)))
            (case side2 => exact (Kd.R_reads' HO_324000.out).2.1)
            (case side3 => repeat (first | exact (Kd.R_reads' HO332.out).2.2 | (with_reducible refine Kd.C_alloc ?_ _) | (with_reducible refine Kd.C_drewN ?_ _) | (with_reducible refine Kd.C_drew ?_)))
            (case side4 => exact (Kd.R_reads' HO332.out).2.1)
            rintro e w66 ⟨rfl, hb⟩
            refine ⟨_, rfl, ?_⟩
            have n0_ := Aside0.mk (Kd.R_below (by (with_reducible repeat (first | apply Kd.R_alloc | apply Kd.R_drewN | apply Kd.R_drew)); exact HO_320000.out) hb)
            have n1_ := Aside0.mk (Kd.R_below (by (with_reducible repeat (first | apply Kd.R_alloc | apply Kd.R_drewN | apply Kd.R_drew)); exact HO_324000.out) hb)
            have n2_ := Aside0.mk (Kd.R_below (by (with_reducible repeat (first | apply Kd.R_alloc | apply Kd.R_drewN | apply Kd.R_drew)); exact HO_329000.out) hb)
            have n3_ := Aside0.mk (Kd.R_below (by (with_reducible repeat (first | apply Kd.R_alloc | apply Kd.R_drewN | apply Kd.R_drew)); exact HO332.out) hb)
            have n4_ := Aside0.mk (blk_below (g := gb310) (o := .cells #[.slice A0_0 l0_0.length c0_0] 35 (0, 0)) (by (with_reducible repeat (first | refine blk_drewN ?_ _ | refine blk_drew ?_ | refine blk_alloc ?_ _)); exact BK310.out) hb)
            have n5_ := Aside0.mk (blk_below (g := gb319) (o := .cells #[.slice Ao22 t315.length co22] 27 (0, 0)) (by (with_reducible repeat (first | refine blk_drewN ?_ _ | refine blk_drew ?_ | refine blk_alloc ?_ _)); exact BK319.out) hb)
            have n6_ := Aside0.mk (blk_below (g := gb323) (o := .cells #[.slice Ao28 t320.length co28] 27 (0, 0)) (by (with_reducible repeat (first | refine blk_drewN ?_ _ | refine blk_drew ?_ | refine blk_alloc ?_ _)); exact BK323.out) hb)
            have n7_ := Aside0.mk (blk_below (g := gb328) (o := .cells #[.slice Ao34 t324.length co34] 27 (0, 0)) (by (with_reducible repeat (first | refine blk_drewN ?_ _ | refine blk_drew ?_ | refine blk_alloc ?_ _)); exact BK328.out) hb)
            have n8_ := Aside0.mk (below_step (by repeat (first | (with_reducible first | exact HB.out | apply below_alloc | apply pw_below_drewN | apply below_drew1 | refine below_set ?_ GE310.out | refine below_set ?_ GE319.out | refine below_set ?_ GE323.out | refine below_set ?_ GE328.out) | exact HB.out)) hb)
            clear HO_320000
            clear HO_324000
            clear HO_329000
            clear HO332
            clear BK310
            clear BK319
            clear BK323
            clear BK328
            clear HB
            have HO_320000 := n0_
            have HO_324000 := n1_
            have HO_329000 := n2_
            have HO332 := n3_
            have BK310 := n4_
            have BK319 := n5_
            have BK323 := n6_
            have BK328 := n7_
            have HB := n8_
            clear n0_ n1_ n2_ n3_ n4_ n5_ n6_ n7_ n8_
            (try clear hb)
            (try clear hb2)
            (try clear hk)
            (try clear hi)
            refine hK.out _ _ ⟨(blk_cell BK323.out 0).trans rfl, (blk_cell BK310.out 0).trans rfl⟩ (fun hHeld => ?_)
            clear hK K
            refine norm_ (a' := ?_) ?_ ?_
            rotate_left
            · show Act.put _ (some 52) _ = _
              simp only [Act.put, List.setIfInBounds_toArray, List.set_cons_zero, List.set_cons_succ, i64_w, i32_w]
              rfl
            refine pure_ (i := 4) (N := some 53) (v := ?_) (a' := ?_) #[true, true, true, true, true] rfl rfl (by kernel_rfl) (fun _ _ _ h => h) (Or.inl ⟨by rfl, ?_⟩) ?_ ?_
            rotate_left
            · intro w'
              go_simp
              with_reducible rfl
            rotate_left
            · simp only [Act.put, List.setIfInBounds_toArray, List.set_cons_zero, List.set_cons_succ, i64_w, i32_w]
              rfl
            refine done_ (by kernel_rfl) ?_
            have hnb67 := NB323_310.out
            have hnc67 := NB310_323.out
            have hnb68 := NB323_319.out
            have hnc68 := NB319_323.out
            have hnb69 := NB323_328.out
            have hnc69 := NB328_323.out
            have hcz70_0 : w66.cell? ⟨gb323, 0, none⟩ = some (.slice Ao28 t320.length co28) := (blk_cell BK323.out 0).trans rfl
            have hfz70_0 := blk_frozen BK323.out 0
            go_upto_region 14 with (first | ((with_reducible refine gate_callee (f := 18) rfl ?_); refine goesL_ (some 56) rfl rfl Try.func18 (by kernel_rfl) rfl #[.agg #[.slice Ao28 t320.length co28], .int .i64 1] rfl (by (try simp only [List.map_toArray, List.map_cons, List.map_nil]); first | done | rfl | (simp only [List.length_drop, List.length_take]; rfl)) ?_; (with_reducible refine (laws_markTree.calls kj12 (fun k_ => some k_ = (.slice Ao28 t320.length co28 : Value).ownBlock) (.slice Ao28 t320.length co28) t320 1 t334 t335 w _ ?side1 ?side2 A61.out).mono ?_); (case side1 => repeat (first | (with_reducible first | exact HB.out | apply below_alloc | apply pw_below_drewN | apply below_drew1 | refine below_set ?_ GE310.out | refine below_set ?_ GE319.out | refine below_set ?_ GE323.out | refine below_set ?_ GE328.out) | exact HB.out)); (case side2 => exact Kd.R_tight rfl HO_324000.out); rintro e w71 ⟨rfl, hy0, hb, hkp⟩; refine ⟨_, rfl, ?_⟩; have n0_ := Aside0.mk (Kd.R_mono (ok' := fun k_ => some k_ ≠ (.slice Ao28 t320.length co28 : Value).ownBlock ∧ some k_ ≠ (.slice Ao34 t324.length co34 : Value).ownBlock ∧ some k_ ≠ (.slice Ao65 t330.length co65 : Value).ownBlock) (Kd.R_keptB (HO_320000.out) hkp (fun k_ hk_ hs_ => (hk_.1.1) hs_)) (fun k_ hk_ => ⟨hk_.1.1.1, hk_.1.1.2, hk_.1.2⟩)); have n1_ := Aside0.mk (Kd.R_reok rfl hy0 (fun k_ e_ => HO_324000.out.1 k_ e_)); have n2_ := Aside0.mk (Kd.R_mono (ok' := fun k_ => some k_ ≠ (.slice Ao22 t315.length co22 : Value).ownBlock ∧ some k_ ≠ (.slice Ao28 t320.length co28 : Value).ownBlock ∧ some k_ ≠ (.slice Ao65 t330.length co65 : Value).ownBlock) (Kd.R_keptB (HO_329000.out) hkp (fun k_ hk_ hs_ => (hk_.1.2) hs_)) (fun k_ hk_ => ⟨hk_.1.1.1, hk_.1.1.2, hk_.1.2⟩)); have n3_ := Aside0.mk (blk_kept (by (with_reducible repeat (first | refine blk_drewN ?_ _ | refine blk_drew ?_ | refine blk_alloc ?_ _)); exact BK310.out) hkp (fun hs_ => (fun e_ => (Kd.R_ne HO_324000.out BK310.out (by decide)) e_) hs_)); have n4_ := Aside0.mk (blk_kept (by (with_reducible repeat (first | refine blk_drewN ?_ _ | refine blk_drew ?_ | refine blk_alloc ?_ _)); exact BK319.out) hkp (fun hs_ => (fun e_ => (Kd.R_ne HO_324000.out BK319.out (by decide)) e_) hs_)); have n5_ := Aside0.mk (blk_kept (by (with_reducible repeat (first | refine blk_drewN ?_ _ | refine blk_drew ?_ | refine blk_alloc ?_ _)); exact BK323.out) hkp (fun hs_ => (fun e_ => (Kd.R_ne HO_324000.out BK323.out (by decide)) e_) hs_)); have n6_ := Aside0.mk (blk_kept (by (with_reducible repeat (first | refine blk_drewN ?_ _ | refine blk_drew ?_ | refine blk_alloc ?_ _)); exact BK328.out) hkp (fun hs_ => (fun e_ => (Kd.R_ne HO_324000.out BK328.out (by decide)) e_) hs_)); have n7_ := Aside0.mk (Kd.R_mono (ok' := fun k_ => some k_ ≠ (.slice Ao22 t315.length co22 : Value).ownBlock ∧ some k_ ≠ (.slice Ao28 t320.length co28 : Value).ownBlock ∧ some k_ ≠ (.slice Ao34 t324.length co34 : Value).ownBlock) (Kd.R_keptB (HO332.out) hkp (fun k_ hk_ hs_ => (hk_.1.2) hs_)) (fun k_ hk_ => ⟨hk_.1.1.1.2, hk_.1.1.2, hk_.1.2⟩)); have n8_ := Aside0.mk (hb); clear HO_320000; clear HO_324000; clear HO_329000; clear BK310; clear BK319; clear BK323; clear BK328; clear HO332; clear HB; have HO_320000 := n0_; have HO_324000 := n1_; have HO_329000 := n2_; have BK310 := n3_; have BK319 := n4_; have BK323 := n5_; have BK328 := n6_; have HO332 := n7_; have HB := n8_; clear n0_ n1_ n2_ n3_ n4_ n5_ n6_ n7_ n8_; (try clear hb); (try clear hkp); (try clear hy0)))
            (try simp only [Act.put, List.setIfInBounds_toArray, List.set_cons_zero, List.set_cons_succ])
            go_cut [69] (fun v69 wc => ∃ (kq : Nat) (x69_61 : Bool), v69 = .bool x69_61 ∧ Aside0 (laws_FnExactFromCorner.j1 kq a1 a2 t318 x69_61 l0_0 t315 t324 = some r) ∧ Aside0 (kq ≤ kj12) ∧ Aside0 (Kd.R (Kd.int .i64) 2 wc w.heap.size (fun k_ => some k_ ≠ ((.slice Ao28 t320.length co28) : Value).ownBlock ∧ some k_ ≠ ((.slice Ao34 t324.length co34) : Value).ownBlock) (.slice Ao22 t315.length co22) t315) ∧ Aside0 (Kd.R (Kd.int .i64) 2 wc w.heap.size (fun k_ => some k_ ≠ ((.slice Ao22 t315.length co22) : Value).ownBlock ∧ some k_ ≠ ((.slice Ao34 t324.length co34) : Value).ownBlock) (.slice Ao28 t320.length co28) t335) ∧ Aside0 (Kd.R (Kd.int .i64) 2 wc w.heap.size (fun k_ => some k_ ≠ ((.slice Ao22 t315.length co22) : Value).ownBlock ∧ some k_ ≠ ((.slice Ao28 t320.length co28) : Value).ownBlock) (.slice Ao34 t324.length co34) t324) ∧ Aside0 (wc.heap[gb310]? = some (.cells #[(.slice A0_0 l0_0.length c0_0)] 35 (0, 0))) ∧ Aside0 (wc.heap[gb319]? = some (.cells #[(.slice Ao22 t315.length co22)] 27 (0, 0))) ∧ Aside0 (wc.heap[gb323]? = some (.cells #[(.slice Ao28 t320.length co28)] 27 (0, 0))) ∧ Aside0 (wc.heap[gb328]? = some (.cells #[(.slice Ao34 t324.length co34)] 27 (0, 0))) ∧ Aside0 (Below w.heap.size w wc))
            case first =>
              have H := HC62.out
              clear HC62
              by_cases c72 : t334 < 0
              · rw [if_pos c72] at H
                have c72b0 : decide (t334 < 0) = true := decide_eq_true c72
                clear c72
                (first | rw [c72b0] | (simp only [i64_w, i32_w]; rw [c72b0]) | skip)
                have H' := Aside0.mk H
                clear H
                go_wp2
                go_meet
                case rel => exact ⟨_, (true), (by first | rfl | (simp; done) | (simp [*]; done)), H', ⟨by have := HJ12.out; first | omega | exact Nat.le_refl _⟩, ⟨by (with_reducible repeat (first | apply Kd.R_alloc | apply Kd.R_drewN | apply Kd.R_drew)); exact Kd.R_mono HO_320000.out (fun _ hk => ⟨hk.1, hk.2.1⟩)⟩, ⟨by (with_reducible repeat (first | apply Kd.R_alloc | apply Kd.R_drewN | apply Kd.R_drew)); exact Kd.R_mono HO_324000.out (fun _ hk => ⟨hk.1.1, hk.1.2⟩)⟩, ⟨by (with_reducible repeat (first | apply Kd.R_alloc | apply Kd.R_drewN | apply Kd.R_drew)); exact Kd.R_mono HO_329000.out (fun _ hk => ⟨hk.1, hk.2.1⟩)⟩, ⟨by (with_reducible repeat (first | refine blk_drewN ?_ _ | refine blk_drew ?_ | refine blk_alloc ?_ _)); exact BK310.out⟩, ⟨by (with_reducible repeat (first | refine blk_drewN ?_ _ | refine blk_drew ?_ | refine blk_alloc ?_ _)); exact BK319.out⟩, ⟨by (with_reducible repeat (first | refine blk_drewN ?_ _ | refine blk_drew ?_ | refine blk_alloc ?_ _)); exact BK323.out⟩, ⟨by (with_reducible repeat (first | refine blk_drewN ?_ _ | refine blk_drew ?_ | refine blk_alloc ?_ _)); exact BK328.out⟩, ⟨by repeat (first | (with_reducible first | exact HB.out | apply below_alloc | apply pw_below_drewN | apply below_drew1 | refine below_set ?_ GE310.out | refine below_set ?_ GE319.out | refine below_set ?_ GE323.out | refine below_set ?_ GE328.out) | exact HB.out)⟩⟩
              · rw [if_neg c72] at H
                have c72b0 : decide (t334 < 0) = false := decide_eq_false c72
                clear c72
                (first | rw [c72b0] | (simp only [i64_w, i32_w]; rw [c72b0]) | skip)
                replace H := Option.bind_eq_some_iff.mp H
                obtain ⟨t336, A730, H⟩ := H
                replace H : (if t336 = true then (laws_FnExactFromCorner.j1 kj12 a1 a2 t318 (t327 != t318) l0_0 t315 t324) else (laws_FnExactFromCorner.j1 kj12 a1 a2 t318 true l0_0 t315 t324)) = some r := H
                have A73 := Aside0.mk A730
                clear A730
                by_cases c74 : t336 = true
                · subst c74
                  have H1 : (laws_FnExactFromCorner.j1 kj12 a1 a2 t318 (t327 != t318) l0_0 t315 t324) = some r := by rw [if_pos rfl] at H; exact H
                  clear H
                  have H := H1
                  clear H1
                  have H' := Aside0.mk H
                  clear H
                  have hnb75 := NB328_310.out
                  have hnc75 := NB310_328.out
                  have hnb76 := NB328_319.out
                  have hnc76 := NB319_328.out
                  have hnb77 := NB328_323.out
                  have hnc77 := NB323_328.out
                  have hcz78_0 : w71.cell? ⟨gb328, 0, none⟩ = some (.slice Ao34 t324.length co34) := (blk_cell BK328.out 0).trans rfl
                  have hfz78_0 := blk_frozen BK328.out 0
                  have hnb79 := NB319_310.out
                  have hnc79 := NB310_319.out
                  have hnb80 := NB319_323.out
                  have hnc80 := NB323_319.out
                  have hcz81_0 : w71.cell? ⟨gb319, 0, none⟩ = some (.slice Ao22 t315.length co22) := (blk_cell BK319.out 0).trans rfl
                  have hfz81_0 := blk_frozen BK319.out 0
                  go_wp2_with (first | (go_at_call 17; (with_reducible refine (laws_eqTree.calls kj12 _ _ t324 _ _ t315 true _ ?side1 ?side2 ?side3 ?side4 A73.out).mono ?_); (case side1 => repeat (first | exact (Kd.R_reads' HO_329000.out).2.2 | (with_reducible refine Kd.C_alloc ?_ _) | (with_reducible refine Kd.C_drewN ?_ _) | (with_reducible refine Kd.C_drew ?_))); (case side2 => exact (Kd.R_reads' HO_329000.out).2.1); (case side3 => repeat (first | exact (Kd.R_reads' HO_320000.out).2.2 | (with_reducible refine Kd.C_alloc ?_ _) | (with_reducible refine Kd.C_drewN ?_ _) | (with_reducible refine Kd.C_drew ?_))); (case side4 => exact (Kd.R_reads' HO_320000.out).2.1); rintro e w82 ⟨rfl, hb⟩; have n0_ := Aside0.mk (Kd.R_below (by (with_reducible repeat (first | apply Kd.R_alloc | apply Kd.R_drewN | apply Kd.R_drew)); exact HO_320000.out) hb); have n1_ := Aside0.mk (Kd.R_below (by (with_reducible repeat (first | apply Kd.R_alloc | apply Kd.R_drewN | apply Kd.R_drew)); exact HO_324000.out) hb); have n2_ := Aside0.mk (Kd.R_below (by (with_reducible repeat (first | apply Kd.R_alloc | apply Kd.R_drewN | apply Kd.R_drew)); exact HO_329000.out) hb); have n3_ := Aside0.mk (Kd.R_below (by (with_reducible repeat (first | apply Kd.R_alloc | apply Kd.R_drewN | apply Kd.R_drew)); exact HO332.out) hb); have n4_ := Aside0.mk (blk_below (g := gb310) (o := .cells #[.slice A0_0 l0_0.length c0_0] 35 (0, 0)) (by (with_reducible repeat (first | refine blk_drewN ?_ _ | refine blk_drew ?_ | refine blk_alloc ?_ _)); exact BK310.out) hb); have n5_ := Aside0.mk (blk_below (g := gb319) (o := .cells #[.slice Ao22 t315.length co22] 27 (0, 0)) (by (with_reducible repeat (first | refine blk_drewN ?_ _ | refine blk_drew ?_ | refine blk_alloc ?_ _)); exact BK319.out) hb); have n6_ := Aside0.mk (blk_below (g := gb323) (o := .cells #[.slice Ao28 t320.length co28] 27 (0, 0)) (by (with_reducible repeat (first | refine blk_drewN ?_ _ | refine blk_drew ?_ | refine blk_alloc ?_ _)); exact BK323.out) hb); have n7_ := Aside0.mk (blk_below (g := gb328) (o := .cells #[.slice Ao34 t324.length co34] 27 (0, 0)) (by (with_reducible repeat (first | refine blk_drewN ?_ _ | refine blk_drew ?_ | refine blk_alloc ?_ _)); exact BK328.out) hb); have n8_ := Aside0.mk (below_step (by repeat (first | (with_reducible first | exact HB.out | apply below_alloc | apply pw_below_drewN | apply below_drew1 | refine below_set ?_ GE310.out | refine below_set ?_ GE319.out | refine below_set ?_ GE323.out | refine below_set ?_ GE328.out) | exact HB.out)) hb); clear HO_320000; clear HO_324000; clear HO_329000; clear HO332; clear BK310; clear BK319; clear BK323; clear BK328; clear HB; have HO_320000 := n0_; have HO_324000 := n1_; have HO_329000 := n2_; have HO332 := n3_; have BK310 := n4_; have BK319 := n5_; have BK323 := n6_; have BK328 := n7_; have HB := n8_; clear n0_ n1_ n2_ n3_ n4_ n5_ n6_ n7_ n8_; (try clear hb); (try clear hb2); (try clear hk); (try clear hi)))
                  go_meet
                  case rel => exact ⟨_, ((t327 != t318)), (by first | rfl | (simp; done) | (simp [*]; done)), H', ⟨by have := HJ12.out; first | omega | exact Nat.le_refl _⟩, ⟨by (with_reducible repeat (first | apply Kd.R_alloc | apply Kd.R_drewN | apply Kd.R_drew)); exact Kd.R_mono HO_320000.out (fun _ hk => ⟨hk.1, hk.2.1⟩)⟩, ⟨by (with_reducible repeat (first | apply Kd.R_alloc | apply Kd.R_drewN | apply Kd.R_drew)); exact Kd.R_mono HO_324000.out (fun _ hk => ⟨hk.1.1, hk.1.2⟩)⟩, ⟨by (with_reducible repeat (first | apply Kd.R_alloc | apply Kd.R_drewN | apply Kd.R_drew)); exact Kd.R_mono HO_329000.out (fun _ hk => ⟨hk.1, hk.2.1⟩)⟩, ⟨by (with_reducible repeat (first | refine blk_drewN ?_ _ | refine blk_drew ?_ | refine blk_alloc ?_ _)); exact BK310.out⟩, ⟨by (with_reducible repeat (first | refine blk_drewN ?_ _ | refine blk_drew ?_ | refine blk_alloc ?_ _)); exact BK319.out⟩, ⟨by (with_reducible repeat (first | refine blk_drewN ?_ _ | refine blk_drew ?_ | refine blk_alloc ?_ _)); exact BK323.out⟩, ⟨by (with_reducible repeat (first | refine blk_drewN ?_ _ | refine blk_drew ?_ | refine blk_alloc ?_ _)); exact BK328.out⟩, ⟨by repeat (first | (with_reducible first | exact HB.out | apply below_alloc | apply pw_below_drewN | apply below_drew1 | refine below_set ?_ GE310.out | refine below_set ?_ GE319.out | refine below_set ?_ GE323.out | refine below_set ?_ GE328.out) | exact HB.out)⟩⟩
                · replace c74 := Bool.eq_false_iff.mpr c74
                  subst c74
                  have H1 : (laws_FnExactFromCorner.j1 kj12 a1 a2 t318 true l0_0 t315 t324) = some r := by rw [if_neg (show ¬ (false = true) by decide)] at H; exact H
                  clear H
                  have H := H1
                  clear H1
                  have H' := Aside0.mk H
                  clear H
                  have hnb83 := NB328_310.out
                  have hnc83 := NB310_328.out
                  have hnb84 := NB328_319.out
                  have hnc84 := NB319_328.out
                  have hnb85 := NB328_323.out
                  have hnc85 := NB323_328.out
                  have hcz86_0 : w71.cell? ⟨gb328, 0, none⟩ = some (.slice Ao34 t324.length co34) := (blk_cell BK328.out 0).trans rfl
                  have hfz86_0 := blk_frozen BK328.out 0
                  have hnb87 := NB319_310.out
                  have hnc87 := NB310_319.out
                  have hnb88 := NB319_323.out
                  have hnc88 := NB323_319.out
                  have hcz89_0 : w71.cell? ⟨gb319, 0, none⟩ = some (.slice Ao22 t315.length co22) := (blk_cell BK319.out 0).trans rfl
                  have hfz89_0 := blk_frozen BK319.out 0
                  go_wp2_with (first | (go_at_call 17; (with_reducible refine (laws_eqTree.calls kj12 _ _ t324 _ _ t315 false _ ?side1 ?side2 ?side3 ?side4 A73.out).mono ?_); (case side1 => repeat (first | exact (Kd.R_reads' HO_329000.out).2.2 | (with_reducible refine Kd.C_alloc ?_ _) | (with_reducible refine Kd.C_drewN ?_ _) | (with_reducible refine Kd.C_drew ?_))); (case side2 => exact (Kd.R_reads' HO_329000.out).2.1); (case side3 => repeat (first | exact (Kd.R_reads' HO_320000.out).2.2 | (with_reducible refine Kd.C_alloc ?_ _) | (with_reducible refine Kd.C_drewN ?_ _) | (with_reducible refine Kd.C_drew ?_))); (case side4 => exact (Kd.R_reads' HO_320000.out).2.1); rintro e w90 ⟨rfl, hb⟩; have n0_ := Aside0.mk (Kd.R_below (by (with_reducible repeat (first | apply Kd.R_alloc | apply Kd.R_drewN | apply Kd.R_drew)); exact HO_320000.out) hb); have n1_ := Aside0.mk (Kd.R_below (by (with_reducible repeat (first | apply Kd.R_alloc | apply Kd.R_drewN | apply Kd.R_drew)); exact HO_324000.out) hb); have n2_ := Aside0.mk (Kd.R_below (by (with_reducible repeat (first | apply Kd.R_alloc | apply Kd.R_drewN | apply Kd.R_drew)); exact HO_329000.out) hb); have n3_ := Aside0.mk (Kd.R_below (by (with_reducible repeat (first | apply Kd.R_alloc | apply Kd.R_drewN | apply Kd.R_drew)); exact HO332.out) hb); have n4_ := Aside0.mk (blk_below (g := gb310) (o := .cells #[.slice A0_0 l0_0.length c0_0] 35 (0, 0)) (by (with_reducible repeat (first | refine blk_drewN ?_ _ | refine blk_drew ?_ | refine blk_alloc ?_ _)); exact BK310.out) hb); have n5_ := Aside0.mk (blk_below (g := gb319) (o := .cells #[.slice Ao22 t315.length co22] 27 (0, 0)) (by (with_reducible repeat (first | refine blk_drewN ?_ _ | refine blk_drew ?_ | refine blk_alloc ?_ _)); exact BK319.out) hb); have n6_ := Aside0.mk (blk_below (g := gb323) (o := .cells #[.slice Ao28 t320.length co28] 27 (0, 0)) (by (with_reducible repeat (first | refine blk_drewN ?_ _ | refine blk_drew ?_ | refine blk_alloc ?_ _)); exact BK323.out) hb); have n7_ := Aside0.mk (blk_below (g := gb328) (o := .cells #[.slice Ao34 t324.length co34] 27 (0, 0)) (by (with_reducible repeat (first | refine blk_drewN ?_ _ | refine blk_drew ?_ | refine blk_alloc ?_ _)); exact BK328.out) hb); have n8_ := Aside0.mk (below_step (by repeat (first | (with_reducible first | exact HB.out | apply below_alloc | apply pw_below_drewN | apply below_drew1 | refine below_set ?_ GE310.out | refine below_set ?_ GE319.out | refine below_set ?_ GE323.out | refine below_set ?_ GE328.out) | exact HB.out)) hb); clear HO_320000; clear HO_324000; clear HO_329000; clear HO332; clear BK310; clear BK319; clear BK323; clear BK328; clear HB; have HO_320000 := n0_; have HO_324000 := n1_; have HO_329000 := n2_; have HO332 := n3_; have BK310 := n4_; have BK319 := n5_; have BK323 := n6_; have BK328 := n7_; have HB := n8_; clear n0_ n1_ n2_ n3_ n4_ n5_ n6_ n7_ n8_; (try clear hb); (try clear hb2); (try clear hk); (try clear hi)))
                  go_meet
                  case rel => exact ⟨_, (true), (by first | rfl | (simp; done) | (simp [*]; done)), H', ⟨by have := HJ12.out; first | omega | exact Nat.le_refl _⟩, ⟨by (with_reducible repeat (first | apply Kd.R_alloc | apply Kd.R_drewN | apply Kd.R_drew)); exact Kd.R_mono HO_320000.out (fun _ hk => ⟨hk.1, hk.2.1⟩)⟩, ⟨by (with_reducible repeat (first | apply Kd.R_alloc | apply Kd.R_drewN | apply Kd.R_drew)); exact Kd.R_mono HO_324000.out (fun _ hk => ⟨hk.1.1, hk.1.2⟩)⟩, ⟨by (with_reducible repeat (first | apply Kd.R_alloc | apply Kd.R_drewN | apply Kd.R_drew)); exact Kd.R_mono HO_329000.out (fun _ hk => ⟨hk.1, hk.2.1⟩)⟩, ⟨by (with_reducible repeat (first | refine blk_drewN ?_ _ | refine blk_drew ?_ | refine blk_alloc ?_ _)); exact BK310.out⟩, ⟨by (with_reducible repeat (first | refine blk_drewN ?_ _ | refine blk_drew ?_ | refine blk_alloc ?_ _)); exact BK319.out⟩, ⟨by (with_reducible repeat (first | refine blk_drewN ?_ _ | refine blk_drew ?_ | refine blk_alloc ?_ _)); exact BK323.out⟩, ⟨by (with_reducible repeat (first | refine blk_drewN ?_ _ | refine blk_drew ?_ | refine blk_alloc ?_ _)); exact BK328.out⟩, ⟨by repeat (first | (with_reducible first | exact HB.out | apply below_alloc | apply pw_below_drewN | apply below_drew1 | refine below_set ?_ GE310.out | refine below_set ?_ GE319.out | refine below_set ?_ GE323.out | refine below_set ?_ GE328.out) | exact HB.out)⟩⟩
            case rest =>
              clear HC62
              try clear c1
              try clear c2
              try clear p2
              try clear c3
              try clear c4
              try clear c5
              try clear c5b0
              try clear c6
              try clear c7
              try clear c8
              try clear c17
              try clear c18
              try clear c22
              try clear c23
              try clear c24
              try clear c25
              try clear c29
              try clear c30
              try clear c35
              try clear c36
              try clear c37
              try clear c40
              try clear c41
              try clear c42
              try clear c43
              try clear c45
              try clear c46
              try clear c49
              try clear c50
              try clear c51
              try clear c53
              try clear c54
              try clear c57
              try clear c60
              try clear c67
              try clear c68
              try clear c69
              try clear c72
              try clear c72b0
              try clear c74
              try clear c75
              try clear c76
              try clear c77
              try clear c79
              try clear c80
              try clear c83
              try clear c84
              try clear c85
              try clear c87
              try clear c88
              try clear hcz15_0
              try clear hcz17_0
              try clear hcz24_0
              try clear hcz25_0
              try clear hcz31_0
              try clear hcz38_0
              try clear hcz44_0
              try clear hcz47_0
              try clear hcz52_0
              try clear hcz55_0
              try clear hcz70_0
              try clear hcz78_0
              try clear hcz7_0
              try clear hcz81_0
              try clear hcz86_0
              try clear hcz89_0
              try clear hfz15_0
              try clear hfz17_0
              try clear hfz24_0
              try clear hfz25_0
              try clear hfz31_0
              try clear hfz38_0
              try clear hfz44_0
              try clear hfz47_0
              try clear hfz52_0
              try clear hfz55_0
              try clear hfz70_0
              try clear hfz78_0
              try clear hfz7_0
              try clear hfz81_0
              try clear hfz86_0
              try clear hfz89_0
              try clear p2
              obtain ⟨kq, x69_61, rfl, HA, HJ61, HO_320000, HO_324000, HO_329000, BK310, BK319, BK323, BK328, HB⟩ := hcut
              have hl324000_61 := (Kd.R_reads' HO_324000.out).1
              rw [hl324000_61] at HO_324000
              (try simp only [hl324000_61])
              (try simp only [hl324000_61] at BK310)
              (try simp only [hl324000_61] at BK319)
              (try simp only [hl324000_61] at BK323)
              (try simp only [hl324000_61] at BK328)
              (try simp only [hl324000_61] at HO_320000)
              (try simp only [hl324000_61] at HO_329000)
              cases kq with
              | zero => exact absurd HA.out (by simp [laws_FnExactFromCorner.j1])
              | succ kj61 =>
                have H := HA.out
                clear HA
                simp only [laws_FnExactFromCorner.j1] at H
                by_cases c91 : x69_61 = true
                · subst c91
                  have H1 : (some false) = some r := by rw [if_pos rfl] at H; exact H
                  clear H
                  have H := H1
                  clear H1
                  obtain rfl := Option.some.inj H
                  go_wp2
                  go_ret
                  exact ⟨by first | rfl | (simp [errW_none, errW_some] <;> rfl) | (simp [*, errW_none, errW_some] <;> rfl), by repeat (first | (with_reducible first | exact HB.out | apply below_alloc | apply pw_below_drewN | apply below_drew1 | refine below_set ?_ GE310.out | refine below_set ?_ GE319.out | refine below_set ?_ GE323.out | refine below_set ?_ GE328.out) | exact HB.out)⟩
                · replace c91 := Bool.eq_false_iff.mpr c91
                  subst c91
                  have H1 : ((laws_markTree.f kj61 t324 1).bind fun bt337 => ((laws_heldTree.f kj61 bt337.2 1).bind fun t339 => (if t339 < 0 then (some false) else (if t339 = bt337.1 then ((laws_toTree.f kj61 l0_0).bind fun t340 => ((impl_FromCorner.f kj61 t340 a1 a2).bind fun bt343 => ((laws_eqTree.f kj61 bt343.1 t315).bind fun t348 => (if t348 = true then (laws_FnExactFromCorner.j2 kj61 bt337.1 (bt343.2 != t318) bt337.2) else (laws_FnExactFromCorner.j2 kj61 bt337.1 true bt337.2))))) else (some false))))) = some r := by rw [if_neg (show ¬ (false = true) by decide)] at H; exact H
                  clear H
                  have H := H1
                  clear H1
                  replace H := Option.bind_eq_some_iff.mp H
                  obtain ⟨⟨t337, t338⟩, A920, H⟩ := H
                  replace H : ((laws_heldTree.f kj61 t338 1).bind fun t339 => (if t339 < 0 then (some false) else (if t339 = t337 then ((laws_toTree.f kj61 l0_0).bind fun t340 => ((impl_FromCorner.f kj61 t340 a1 a2).bind fun bt343 => ((laws_eqTree.f kj61 bt343.1 t315).bind fun t348 => (if t348 = true then (laws_FnExactFromCorner.j2 kj61 t337 (bt343.2 != t318) t338) else (laws_FnExactFromCorner.j2 kj61 t337 true t338))))) else (some false)))) = some r := H
                  have A92 := Aside0.mk A920
                  clear A920
                  replace H := Option.bind_eq_some_iff.mp H
                  obtain ⟨t339, A930, H⟩ := H
                  replace H : (if t339 < 0 then (some false) else (if t339 = t337 then ((laws_toTree.f kj61 l0_0).bind fun t340 => ((impl_FromCorner.f kj61 t340 a1 a2).bind fun bt343 => ((laws_eqTree.f kj61 bt343.1 t315).bind fun t348 => (if t348 = true then (laws_FnExactFromCorner.j2 kj61 t337 (bt343.2 != t318) t338) else (laws_FnExactFromCorner.j2 kj61 t337 true t338))))) else (some false))) = some r := H
                  have A93 := Aside0.mk A930
                  clear A930
                  by_cases c94 : t339 < 0
                  · rw [if_pos c94] at H
                    have c94b0 : decide (t339 < 0) = true := decide_eq_true c94
                    clear c94
                    obtain rfl := Option.some.inj H
                    have hnb95 := NB328_310.out
                    have hnc95 := NB310_328.out
                    have hnb96 := NB328_319.out
                    have hnc96 := NB319_328.out
                    have hnb97 := NB328_323.out
                    have hnc97 := NB323_328.out
                    have hcz98_0 : wc.cell? ⟨gb328, 0, none⟩ = some (.slice Ao34 t324.length co34) := (blk_cell BK328.out 0).trans rfl
                    have hfz98_0 := blk_frozen BK328.out 0
                    go_wp2_with (first | ((with_reducible refine gate_callee (f := 18) rfl ?_); refine goesL_ (some 72) rfl rfl Try.func18 (by kernel_rfl) rfl #[.agg #[.slice Ao34 t324.length co34], .int .i64 1] rfl (by (try simp only [List.map_toArray, List.map_cons, List.map_nil]); first | done | rfl | (simp only [List.length_drop, List.length_take]; rfl)) ?_; (with_reducible refine (laws_markTree.calls kj61 (fun k_ => some k_ = (.slice Ao34 t324.length co34 : Value).ownBlock) (.slice Ao34 t324.length co34) t324 1 t337 t338 w _ ?side1 ?side2 A92.out).mono ?_); (case side1 => repeat (first | (with_reducible first | exact HB.out | apply below_alloc | apply pw_below_drewN | apply below_drew1 | refine below_set ?_ GE310.out | refine below_set ?_ GE319.out | refine below_set ?_ GE323.out | refine below_set ?_ GE328.out) | exact HB.out)); (case side2 => exact Kd.R_tight rfl HO_329000.out); rintro e w99 ⟨rfl, hy0, hb, hkp⟩; refine ⟨_, rfl, ?_⟩; have n0_ := Aside0.mk (Kd.R_mono (ok' := fun k_ => some k_ ≠ (.slice Ao28 t335.length co28 : Value).ownBlock ∧ some k_ ≠ (.slice Ao34 t324.length co34 : Value).ownBlock) (Kd.R_keptB (HO_320000.out) hkp (fun k_ hk_ hs_ => (hk_.2) hs_)) (fun k_ hk_ => ⟨hk_.1.1, hk_.1.2⟩)); have n1_ := Aside0.mk (Kd.R_mono (ok' := fun k_ => some k_ ≠ (.slice Ao22 t315.length co22 : Value).ownBlock ∧ some k_ ≠ (.slice Ao34 t324.length co34 : Value).ownBlock) (Kd.R_keptB (HO_324000.out) hkp (fun k_ hk_ hs_ => (hk_.2) hs_)) (fun k_ hk_ => ⟨hk_.1.1, hk_.1.2⟩)); have n2_ := Aside0.mk (Kd.R_reok rfl hy0 (fun k_ e_ => HO_329000.out.1 k_ e_)); have n3_ := Aside0.mk (blk_kept (by (with_reducible repeat (first | refine blk_drewN ?_ _ | refine blk_drew ?_ | refine blk_alloc ?_ _)); exact BK310.out) hkp (fun hs_ => (fun e_ => (Kd.R_ne HO_329000.out BK310.out (by decide)) e_) hs_)); have n4_ := Aside0.mk (blk_kept (by (with_reducible repeat (first | refine blk_drewN ?_ _ | refine blk_drew ?_ | refine blk_alloc ?_ _)); exact BK319.out) hkp (fun hs_ => (fun e_ => (Kd.R_ne HO_329000.out BK319.out (by decide)) e_) hs_)); have n5_ := Aside0.mk (blk_kept (by (with_reducible repeat (first | refine blk_drewN ?_ _ | refine blk_drew ?_ | refine blk_alloc ?_ _)); exact BK323.out) hkp (fun hs_ => (fun e_ => (Kd.R_ne HO_329000.out BK323.out (by decide)) e_) hs_)); have n6_ := Aside0.mk (blk_kept (by (with_reducible repeat (first | refine blk_drewN ?_ _ | refine blk_drew ?_ | refine blk_alloc ?_ _)); exact BK328.out) hkp (fun hs_ => (fun e_ => (Kd.R_ne HO_329000.out BK328.out (by decide)) e_) hs_)); have n7_ := Aside0.mk (hb); clear HO_320000; clear HO_324000; clear HO_329000; clear BK310; clear BK319; clear BK323; clear BK328; clear HB; have HO_320000 := n0_; have HO_324000 := n1_; have HO_329000 := n2_; have BK310 := n3_; have BK319 := n4_; have BK323 := n5_; have BK328 := n6_; have HB := n7_; clear n0_ n1_ n2_ n3_ n4_ n5_ n6_ n7_; (try clear hb); (try clear hkp); (try clear hy0); have hcz100_0 : w99.cell? ⟨gb328, 0, none⟩ = some (.slice Ao34 t324.length co34) := (blk_cell BK328.out 0).trans rfl; have hfz100_0 := blk_frozen BK328.out 0) | ((with_reducible refine gate_callee (f := 19) rfl ?_); refine goesL_ (some 75) rfl rfl Try.func19 (by kernel_rfl) rfl #[.agg #[.slice Ao34 t338.length co34], .int .i64 1] rfl (by (try simp only [List.map_toArray, List.map_cons, List.map_nil]); first | done | (rw [show t338.length = t324.length from (Kd.R_reads' HO_329000.out).1.symm] <;> rfl) | rfl | (simp only [List.length_drop, List.length_take]; rfl)) ?_; (with_reducible refine (laws_heldTree.calls kj61 _ _ t338 1 t339 _ ?side1 ?side2 A93.out).mono ?_); (case side1 => repeat (first | exact (Kd.R_reads' HO_329000.out).2.2 | (with_reducible refine Kd.C_alloc ?_ _) | (with_reducible refine Kd.C_drewN ?_ _) | (with_reducible refine Kd.C_drew ?_))); (case side2 => rw [show t338.length = t324.length from (Kd.R_reads' HO_329000.out).1.symm]; exact (Kd.R_reads' HO_329000.out).2.1); rintro e w101 ⟨rfl, hb⟩; refine ⟨_, rfl, ?_⟩; have n0_ := Aside0.mk (Kd.R_below (by (with_reducible repeat (first | apply Kd.R_alloc | apply Kd.R_drewN | apply Kd.R_drew)); exact HO_320000.out) hb); have n1_ := Aside0.mk (Kd.R_below (by (with_reducible repeat (first | apply Kd.R_alloc | apply Kd.R_drewN | apply Kd.R_drew)); exact HO_324000.out) hb); have n2_ := Aside0.mk (Kd.R_below (by (with_reducible repeat (first | apply Kd.R_alloc | apply Kd.R_drewN | apply Kd.R_drew)); exact HO_329000.out) hb); have n3_ := Aside0.mk (blk_below (g := gb310) (o := .cells #[.slice A0_0 l0_0.length c0_0] 35 (0, 0)) (by (with_reducible repeat (first | refine blk_drewN ?_ _ | refine blk_drew ?_ | refine blk_alloc ?_ _)); exact BK310.out) hb); have n4_ := Aside0.mk (blk_below (g := gb319) (o := .cells #[.slice Ao22 t315.length co22] 27 (0, 0)) (by (with_reducible repeat (first | refine blk_drewN ?_ _ | refine blk_drew ?_ | refine blk_alloc ?_ _)); exact BK319.out) hb); have n5_ := Aside0.mk (blk_below (g := gb323) (o := .cells #[.slice Ao28 t335.length co28] 27 (0, 0)) (by (with_reducible repeat (first | refine blk_drewN ?_ _ | refine blk_drew ?_ | refine blk_alloc ?_ _)); exact BK323.out) hb); have n6_ := Aside0.mk (blk_below (g := gb328) (o := .cells #[.slice Ao34 t324.length co34] 27 (0, 0)) (by (with_reducible repeat (first | refine blk_drewN ?_ _ | refine blk_drew ?_ | refine blk_alloc ?_ _)); exact BK328.out) hb); have n7_ := Aside0.mk (below_step (by repeat (first | (with_reducible first | exact HB.out | apply below_alloc | apply pw_below_drewN | apply below_drew1 | refine below_set ?_ GE310.out | refine below_set ?_ GE319.out | refine below_set ?_ GE323.out | refine below_set ?_ GE328.out) | exact HB.out)) hb); clear HO_320000; clear HO_324000; clear HO_329000; clear BK310; clear BK319; clear BK323; clear BK328; clear HB; have HO_320000 := n0_; have HO_324000 := n1_; have HO_329000 := n2_; have BK310 := n3_; have BK319 := n4_; have BK323 := n5_; have BK328 := n6_; have HB := n7_; clear n0_ n1_ n2_ n3_ n4_ n5_ n6_ n7_; (try clear hb); (try clear hb2); (try clear hk); (try clear hi)))
                    go_ret
                    exact ⟨by first | rfl | (simp [errW_none, errW_some] <;> rfl) | (simp [*, errW_none, errW_some] <;> rfl), by repeat (first | (with_reducible first | exact HB.out | apply below_alloc | apply pw_below_drewN | apply below_drew1 | refine below_set ?_ GE310.out | refine below_set ?_ GE319.out | refine below_set ?_ GE323.out | refine below_set ?_ GE328.out) | exact HB.out)⟩
                  · rw [if_neg c94] at H
                    have c94b0 : decide (t339 < 0) = false := decide_eq_false c94
                    clear c94
                    by_cases c102 : t339 = t337
                    · rw [if_pos c102] at H
                      have c102b0 : (t339 == t337) = true := beq_iff_eq.mpr c102
                      have c102b1 : (t339 != t337) = false := bne_eq_false_iff_eq.mpr c102
                      clear c102
                      replace H := Option.bind_eq_some_iff.mp H
                      obtain ⟨t340, A1030, H⟩ := H
                      replace H : ((impl_FromCorner.f kj61 t340 a1 a2).bind fun bt343 => ((laws_eqTree.f kj61 bt343.1 t315).bind fun t348 => (if t348 = true then (laws_FnExactFromCorner.j2 kj61 t337 (bt343.2 != t318) t338) else (laws_FnExactFromCorner.j2 kj61 t337 true t338)))) = some r := H
                      have A103 := Aside0.mk A1030
                      clear A1030
                      replace H := Option.bind_eq_some_iff.mp H
                      obtain ⟨⟨t343, t346⟩, A1040, H⟩ := H
                      replace H : ((laws_eqTree.f kj61 t343 t315).bind fun t348 => (if t348 = true then (laws_FnExactFromCorner.j2 kj61 t337 (t346 != t318) t338) else (laws_FnExactFromCorner.j2 kj61 t337 true t338))) = some r := H
                      have A104 := Aside0.mk A1040
                      clear A1040
                      have HC105 := Aside0.mk H
                      clear H
                      have hnb106 := NB328_310.out
                      have hnc106 := NB310_328.out
                      have hnb107 := NB328_319.out
                      have hnc107 := NB319_328.out
                      have hnb108 := NB328_323.out
                      have hnc108 := NB323_328.out
                      have hcz109_0 : wc.cell? ⟨gb328, 0, none⟩ = some (.slice Ao34 t324.length co34) := (blk_cell BK328.out 0).trans rfl
                      have hfz109_0 := blk_frozen BK328.out 0
                      go_upto_region 25 with (first | ((with_reducible refine gate_callee (f := 18) rfl ?_); refine goesL_ (some 72) rfl rfl Try.func18 (by kernel_rfl) rfl #[.agg #[.slice Ao34 t324.length co34], .int .i64 1] rfl (by (try simp only [List.map_toArray, List.map_cons, List.map_nil]); first | done | rfl | (simp only [List.length_drop, List.length_take]; rfl)) ?_; (with_reducible refine (laws_markTree.calls kj61 (fun k_ => some k_ = (.slice Ao34 t324.length co34 : Value).ownBlock) (.slice Ao34 t324.length co34) t324 1 t337 t338 w _ ?side1 ?side2 A92.out).mono ?_); (case side1 => repeat (first | (with_reducible first | exact HB.out | apply below_alloc | apply pw_below_drewN | apply below_drew1 | refine below_set ?_ GE310.out | refine below_set ?_ GE319.out | refine below_set ?_ GE323.out | refine below_set ?_ GE328.out) | exact HB.out)); (case side2 => exact Kd.R_tight rfl HO_329000.out); rintro e w110 ⟨rfl, hy0, hb, hkp⟩; refine ⟨_, rfl, ?_⟩; have n0_ := Aside0.mk (Kd.R_mono (ok' := fun k_ => some k_ ≠ (.slice Ao28 t335.length co28 : Value).ownBlock ∧ some k_ ≠ (.slice Ao34 t324.length co34 : Value).ownBlock) (Kd.R_keptB (HO_320000.out) hkp (fun k_ hk_ hs_ => (hk_.2) hs_)) (fun k_ hk_ => ⟨hk_.1.1, hk_.1.2⟩)); have n1_ := Aside0.mk (Kd.R_mono (ok' := fun k_ => some k_ ≠ (.slice Ao22 t315.length co22 : Value).ownBlock ∧ some k_ ≠ (.slice Ao34 t324.length co34 : Value).ownBlock) (Kd.R_keptB (HO_324000.out) hkp (fun k_ hk_ hs_ => (hk_.2) hs_)) (fun k_ hk_ => ⟨hk_.1.1, hk_.1.2⟩)); have n2_ := Aside0.mk (Kd.R_reok rfl hy0 (fun k_ e_ => HO_329000.out.1 k_ e_)); have n3_ := Aside0.mk (blk_kept (by (with_reducible repeat (first | refine blk_drewN ?_ _ | refine blk_drew ?_ | refine blk_alloc ?_ _)); exact BK310.out) hkp (fun hs_ => (fun e_ => (Kd.R_ne HO_329000.out BK310.out (by decide)) e_) hs_)); have n4_ := Aside0.mk (blk_kept (by (with_reducible repeat (first | refine blk_drewN ?_ _ | refine blk_drew ?_ | refine blk_alloc ?_ _)); exact BK319.out) hkp (fun hs_ => (fun e_ => (Kd.R_ne HO_329000.out BK319.out (by decide)) e_) hs_)); have n5_ := Aside0.mk (blk_kept (by (with_reducible repeat (first | refine blk_drewN ?_ _ | refine blk_drew ?_ | refine blk_alloc ?_ _)); exact BK323.out) hkp (fun hs_ => (fun e_ => (Kd.R_ne HO_329000.out BK323.out (by decide)) e_) hs_)); have n6_ := Aside0.mk (blk_kept (by (with_reducible repeat (first | refine blk_drewN ?_ _ | refine blk_drew ?_ | refine blk_alloc ?_ _)); exact BK328.out) hkp (fun hs_ => (fun e_ => (Kd.R_ne HO_329000.out BK328.out (by decide)) e_) hs_)); have n7_ := Aside0.mk (hb); clear HO_320000; clear HO_324000; clear HO_329000; clear BK310; clear BK319; clear BK323; clear BK328; clear HB; have HO_320000 := n0_; have HO_324000 := n1_; have HO_329000 := n2_; have BK310 := n3_; have BK319 := n4_; have BK323 := n5_; have BK328 := n6_; have HB := n7_; clear n0_ n1_ n2_ n3_ n4_ n5_ n6_ n7_; (try clear hb); (try clear hkp); (try clear hy0); have hcz111_0 : w110.cell? ⟨gb328, 0, none⟩ = some (.slice Ao34 t324.length co34) := (blk_cell BK328.out 0).trans rfl; have hfz111_0 := blk_frozen BK328.out 0) | ((with_reducible refine gate_callee (f := 19) rfl ?_); refine goesL_ (some 75) rfl rfl Try.func19 (by kernel_rfl) rfl #[.agg #[.slice Ao34 t338.length co34], .int .i64 1] rfl (by (try simp only [List.map_toArray, List.map_cons, List.map_nil]); first | done | (rw [show t338.length = t324.length from (Kd.R_reads' HO_329000.out).1.symm] <;> rfl) | rfl | (simp only [List.length_drop, List.length_take]; rfl)) ?_; (with_reducible refine (laws_heldTree.calls kj61 _ _ t338 1 t339 _ ?side1 ?side2 A93.out).mono ?_); (case side1 => repeat (first | exact (Kd.R_reads' HO_329000.out).2.2 | (with_reducible refine Kd.C_alloc ?_ _) | (with_reducible refine Kd.C_drewN ?_ _) | (with_reducible refine Kd.C_drew ?_))); (case side2 => rw [show t338.length = t324.length from (Kd.R_reads' HO_329000.out).1.symm]; exact (Kd.R_reads' HO_329000.out).2.1); rintro e w112 ⟨rfl, hb⟩; refine ⟨_, rfl, ?_⟩; have n0_ := Aside0.mk (Kd.R_below (by (with_reducible repeat (first | apply Kd.R_alloc | apply Kd.R_drewN | apply Kd.R_drew)); exact HO_320000.out) hb); have n1_ := Aside0.mk (Kd.R_below (by (with_reducible repeat (first | apply Kd.R_alloc | apply Kd.R_drewN | apply Kd.R_drew)); exact HO_324000.out) hb); have n2_ := Aside0.mk (Kd.R_below (by (with_reducible repeat (first | apply Kd.R_alloc | apply Kd.R_drewN | apply Kd.R_drew)); exact HO_329000.out) hb); have n3_ := Aside0.mk (blk_below (g := gb310) (o := .cells #[.slice A0_0 l0_0.length c0_0] 35 (0, 0)) (by (with_reducible repeat (first | refine blk_drewN ?_ _ | refine blk_drew ?_ | refine blk_alloc ?_ _)); exact BK310.out) hb); have n4_ := Aside0.mk (blk_below (g := gb319) (o := .cells #[.slice Ao22 t315.length co22] 27 (0, 0)) (by (with_reducible repeat (first | refine blk_drewN ?_ _ | refine blk_drew ?_ | refine blk_alloc ?_ _)); exact BK319.out) hb); have n5_ := Aside0.mk (blk_below (g := gb323) (o := .cells #[.slice Ao28 t335.length co28] 27 (0, 0)) (by (with_reducible repeat (first | refine blk_drewN ?_ _ | refine blk_drew ?_ | refine blk_alloc ?_ _)); exact BK323.out) hb); have n6_ := Aside0.mk (blk_below (g := gb328) (o := .cells #[.slice Ao34 t324.length co34] 27 (0, 0)) (by (with_reducible repeat (first | refine blk_drewN ?_ _ | refine blk_drew ?_ | refine blk_alloc ?_ _)); exact BK328.out) hb); have n7_ := Aside0.mk (below_step (by repeat (first | (with_reducible first | exact HB.out | apply below_alloc | apply pw_below_drewN | apply below_drew1 | refine below_set ?_ GE310.out | refine below_set ?_ GE319.out | refine below_set ?_ GE323.out | refine below_set ?_ GE328.out) | exact HB.out)) hb); clear HO_320000; clear HO_324000; clear HO_329000; clear BK310; clear BK319; clear BK323; clear BK328; clear HB; have HO_320000 := n0_; have HO_324000 := n1_; have HO_329000 := n2_; have BK310 := n3_; have BK319 := n4_; have BK323 := n5_; have BK328 := n6_; have HB := n7_; clear n0_ n1_ n2_ n3_ n4_ n5_ n6_ n7_; (try clear hb); (try clear hb2); (try clear hk); (try clear hi); have hnb113 := NB310_319.out; have hnc113 := NB319_310.out; have hnb114 := NB310_323.out; have hnc114 := NB323_310.out; have hcz115_0 : w112.cell? ⟨gb310, 0, none⟩ = some (.slice A0_0 l0_0.length c0_0) := (blk_cell BK310.out 0).trans rfl; have hfz115_0 := blk_frozen BK310.out 0) | ((with_reducible refine gate_callee (f := 24) rfl ?_); refine goesL_ (some 83) rfl rfl Try.func24 (by kernel_rfl) rfl #[.agg #[.slice A0_0 l0_0.length c0_0]] rfl (by (try simp only [List.map_toArray, List.map_cons, List.map_nil]); first | done | rfl | (simp only [List.length_drop, List.length_take]; rfl)) ?_; (with_reducible refine (laws_toTree.calls kj61 _ _ l0_0 t340 _ ?side1 ?side2 A103.out).mono ?_); (case side1 => repeat (first | exact (Kd.C_below HR0_0.out HB.out) | (with_reducible refine Kd.C_alloc ?_ _) | (with_reducible refine Kd.C_drewN ?_ _) | (with_reducible refine Kd.C_drew ?_))); (case side2 => exact HC0_0.out); rintro e w116 ⟨v341, rfl, ho0, hb⟩; refine ⟨_, rfl, ?_⟩; have n0_ := Aside0.mk (Kd.R_elder' (by (with_reducible repeat (first | apply Kd.R_alloc | apply Kd.R_drewN | apply Kd.R_drew)); exact HO_320000.out) (Kd.R_base ho0) hb); have n1_ := Aside0.mk (Kd.R_elder' (by (with_reducible repeat (first | apply Kd.R_alloc | apply Kd.R_drewN | apply Kd.R_drew)); exact HO_324000.out) (Kd.R_base ho0) hb); have n2_ := Aside0.mk (Kd.R_elder' (by (with_reducible repeat (first | apply Kd.R_alloc | apply Kd.R_drewN | apply Kd.R_drew)); exact HO_329000.out) (Kd.R_base ho0) hb); have n3_ := Aside0.mk (Kd.R_lower (Kd.R_new' (Kd.R_new' (Kd.R_new' ho0 (Kd.R_lt (by (with_reducible repeat (first | apply Kd.R_alloc | apply Kd.R_drewN | apply Kd.R_drew)); exact HO_320000.out))) (Kd.R_lt (by (with_reducible repeat (first | apply Kd.R_alloc | apply Kd.R_drewN | apply Kd.R_drew)); exact HO_324000.out))) (Kd.R_lt (by (with_reducible repeat (first | apply Kd.R_alloc | apply Kd.R_drewN | apply Kd.R_drew)); exact HO_329000.out))) (below_size (by repeat (first | (with_reducible first | exact HB.out | apply below_alloc | apply pw_below_drewN | apply below_drew1 | refine below_set ?_ GE310.out | refine below_set ?_ GE319.out | refine below_set ?_ GE323.out | refine below_set ?_ GE328.out) | exact HB.out)))); have n4_ := Aside0.mk (blk_below (g := gb310) (o := .cells #[.slice A0_0 l0_0.length c0_0] 35 (0, 0)) (by (with_reducible repeat (first | refine blk_drewN ?_ _ | refine blk_drew ?_ | refine blk_alloc ?_ _)); exact BK310.out) hb); have n5_ := Aside0.mk (blk_below (g := gb319) (o := .cells #[.slice Ao22 t315.length co22] 27 (0, 0)) (by (with_reducible repeat (first | refine blk_drewN ?_ _ | refine blk_drew ?_ | refine blk_alloc ?_ _)); exact BK319.out) hb); have n6_ := Aside0.mk (blk_below (g := gb323) (o := .cells #[.slice Ao28 t335.length co28] 27 (0, 0)) (by (with_reducible repeat (first | refine blk_drewN ?_ _ | refine blk_drew ?_ | refine blk_alloc ?_ _)); exact BK323.out) hb); have n7_ := Aside0.mk (blk_below (g := gb328) (o := .cells #[.slice Ao34 t324.length co34] 27 (0, 0)) (by (with_reducible repeat (first | refine blk_drewN ?_ _ | refine blk_drew ?_ | refine blk_alloc ?_ _)); exact BK328.out) hb); have n8_ := Aside0.mk (below_step (by repeat (first | (with_reducible first | exact HB.out | apply below_alloc | apply pw_below_drewN | apply below_drew1 | refine below_set ?_ GE310.out | refine below_set ?_ GE319.out | refine below_set ?_ GE323.out | refine below_set ?_ GE328.out) | exact HB.out)) hb); clear HO_320000; clear HO_324000; clear HO_329000; clear BK310; clear BK319; clear BK323; clear BK328; clear HB; have HO_320000 := n0_; have HO_324000 := n1_; have HO_329000 := n2_; have HO342 := n3_; have BK310 := n4_; have BK319 := n5_; have BK323 := n6_; have BK328 := n7_; have HB := n8_; clear n0_ n1_ n2_ n3_ n4_ n5_ n6_ n7_ n8_; (try clear hb); (try clear hb2); (try clear hk); (try clear hi); (try clear ho0); obtain ⟨Ao117, co117, eo117⟩ := Kd.R_slice HO342.out; subst eo117) | ((with_reducible refine gate_callee (f := 25) rfl ?_); refine goesL_ (some 86) rfl rfl Try.func25 (by kernel_rfl) rfl #[.agg #[.slice Ao117 t340.length co117], .int .i64 a1, .int .i64 a2] rfl (by (try simp only [List.map_toArray, List.map_cons, List.map_nil]); first | done | rfl | (simp only [List.length_drop, List.length_take]; rfl)) ?_; (with_reducible refine (impl_FromCorner.calls kj61 _ _ t340 a1 a2 t343 t346 _ ?side1 ?side2 A104.out).mono ?_); (case side1 => repeat (first | exact (Kd.R_reads' HO342.out).2.2 | (with_reducible refine Kd.C_alloc ?_ _) | (with_reducible refine Kd.C_drewN ?_ _) | (with_reducible refine Kd.C_drew ?_))); (case side2 => exact (Kd.R_reads' HO342.out).2.1); rintro e w118 ⟨v344, rfl, ho0, hb⟩; refine ⟨_, rfl, ?_⟩; have n0_ := Aside0.mk (Kd.R_elder' (by (with_reducible repeat (first | apply Kd.R_alloc | apply Kd.R_drewN | apply Kd.R_drew)); exact HO_320000.out) (Kd.R_base ho0) hb); have n1_ := Aside0.mk (Kd.R_elder' (by (with_reducible repeat (first | apply Kd.R_alloc | apply Kd.R_drewN | apply Kd.R_drew)); exact HO_324000.out) (Kd.R_base ho0) hb); have n2_ := Aside0.mk (Kd.R_elder' (by (with_reducible repeat (first | apply Kd.R_alloc | apply Kd.R_drewN | apply Kd.R_drew)); exact HO_329000.out) (Kd.R_base ho0) hb); have n3_ := Aside0.mk (Kd.R_elder' (by (with_reducible repeat (first | apply Kd.R_alloc | apply Kd.R_drewN | apply Kd.R_drew)); exact HO342.out) (Kd.R_base ho0) hb); have n4_ := Aside0.mk (Kd.R_lower (Kd.R_new' (Kd.R_new' (Kd.R_new' (Kd.R_new' ho0 (Kd.R_lt (by (with_reducible repeat (first | apply Kd.R_alloc | apply Kd.R_drewN | apply Kd.R_drew)); exact HO_320000.out))) (Kd.R_lt (by (with_reducible repeat (first | apply Kd.R_alloc | apply Kd.R_drewN | apply Kd.R_drew)); exact HO_324000.out))) (Kd.R_lt (by (with_reducible repeat (first | apply Kd.R_alloc | apply Kd.R_drewN | apply Kd.R_drew)); exact HO_329000.out))) (Kd.R_lt (by (with_reducible repeat (first | apply Kd.R_alloc | apply Kd.R_drewN | apply Kd.R_drew)); exact HO342.out))) (below_size (by repeat (first | (with_reducible first | exact HB.out | apply below_alloc | apply pw_below_drewN | apply below_drew1 | refine below_set ?_ GE310.out | refine below_set ?_ GE319.out | refine below_set ?_ GE323.out | refine below_set ?_ GE328.out) | exact HB.out)))); have n5_ := Aside0.mk (blk_below (g := gb310) (o := .cells #[.slice A0_0 l0_0.length c0_0] 35 (0, 0)) (by (with_reducible repeat (first | refine blk_drewN ?_ _ | refine blk_drew ?_ | refine blk_alloc ?_ _)); exact BK310.out) hb); have n6_ := Aside0.mk (blk_below (g := gb319) (o := .cells #[.slice Ao22 t315.length co22] 27 (0, 0)) (by (with_reducible repeat (first | refine blk_drewN ?_ _ | refine blk_drew ?_ | refine blk_alloc ?_ _)); exact BK319.out) hb); have n7_ := Aside0.mk (blk_below (g := gb323) (o := .cells #[.slice Ao28 t335.length co28] 27 (0, 0)) (by (with_reducible repeat (first | refine blk_drewN ?_ _ | refine blk_drew ?_ | refine blk_alloc ?_ _)); exact BK323.out) hb); have n8_ := Aside0.mk (blk_below (g := gb328) (o := .cells #[.slice Ao34 t324.length co34] 27 (0, 0)) (by (with_reducible repeat (first | refine blk_drewN ?_ _ | refine blk_drew ?_ | refine blk_alloc ?_ _)); exact BK328.out) hb); have n9_ := Aside0.mk (below_step (by repeat (first | (with_reducible first | exact HB.out | apply below_alloc | apply pw_below_drewN | apply below_drew1 | refine below_set ?_ GE310.out | refine below_set ?_ GE319.out | refine below_set ?_ GE323.out | refine below_set ?_ GE328.out) | exact HB.out)) hb); clear HO_320000; clear HO_324000; clear HO_329000; clear HO342; clear BK310; clear BK319; clear BK323; clear BK328; clear HB; have HO_320000 := n0_; have HO_324000 := n1_; have HO_329000 := n2_; have HO342 := n3_; have HO345 := n4_; have BK310 := n5_; have BK319 := n6_; have BK323 := n7_; have BK328 := n8_; have HB := n9_; clear n0_ n1_ n2_ n3_ n4_ n5_ n6_ n7_ n8_ n9_; (try clear hb); (try clear hb2); (try clear hk); (try clear hi); (try clear ho0)) | ((with_reducible refine gate_dst (N := 16) rfl ?_); refine box_event ?hg (N := 16) ?hd (cs := #[.slice none 0 0]) (t := 27) ?hr ?_; (case hd => rfl); (case hg => rfl); (case hr => first | (go_simp; done) | (go_simp; rfl)); intro gb347 hg w119 hbox hb; have n0_ := Aside0.mk (Kd.R_below (by (with_reducible repeat (first | apply Kd.R_alloc | apply Kd.R_drewN | apply Kd.R_drew)); exact HO_320000.out) hb); have n1_ := Aside0.mk (Kd.R_below (by (with_reducible repeat (first | apply Kd.R_alloc | apply Kd.R_drewN | apply Kd.R_drew)); exact HO_324000.out) hb); have n2_ := Aside0.mk (Kd.R_below (by (with_reducible repeat (first | apply Kd.R_alloc | apply Kd.R_drewN | apply Kd.R_drew)); exact HO_329000.out) hb); have n3_ := Aside0.mk (Kd.R_below (by (with_reducible repeat (first | apply Kd.R_alloc | apply Kd.R_drewN | apply Kd.R_drew)); exact HO342.out) hb); have n4_ := Aside0.mk (Kd.R_below (by (with_reducible repeat (first | apply Kd.R_alloc | apply Kd.R_drewN | apply Kd.R_drew)); exact HO345.out) hb); have n5_ := Aside0.mk (blk_below (g := gb310) (o := .cells #[.slice A0_0 l0_0.length c0_0] 35 (0, 0)) (by (with_reducible repeat (first | refine blk_drewN ?_ _ | refine blk_drew ?_ | refine blk_alloc ?_ _)); exact BK310.out) hb); have n6_ := Aside0.mk (blk_below (g := gb319) (o := .cells #[.slice Ao22 t315.length co22] 27 (0, 0)) (by (with_reducible repeat (first | refine blk_drewN ?_ _ | refine blk_drew ?_ | refine blk_alloc ?_ _)); exact BK319.out) hb); have n7_ := Aside0.mk (blk_below (g := gb323) (o := .cells #[.slice Ao28 t335.length co28] 27 (0, 0)) (by (with_reducible repeat (first | refine blk_drewN ?_ _ | refine blk_drew ?_ | refine blk_alloc ?_ _)); exact BK323.out) hb); have n8_ := Aside0.mk (blk_below (g := gb328) (o := .cells #[.slice Ao34 t324.length co34] 27 (0, 0)) (by (with_reducible repeat (first | refine blk_drewN ?_ _ | refine blk_drew ?_ | refine blk_alloc ?_ _)); exact BK328.out) hb); have n9_ := Aside0.mk (below_step (by repeat (first | (with_reducible first | exact HB.out | apply below_alloc | apply pw_below_drewN | apply below_drew1 | refine below_set ?_ GE310.out | refine below_set ?_ GE319.out | refine below_set ?_ GE323.out | refine below_set ?_ GE328.out) | exact HB.out)) hb); have n10_ := Aside0.mk (hbox); have n11_ := Aside0.mk ((by rw [hg]; exact (below_size (by repeat (first | (with_reducible first | exact HB.out | apply below_alloc | apply pw_below_drewN | apply below_drew1 | refine below_set ?_ GE310.out | refine below_set ?_ GE319.out | refine below_set ?_ GE323.out | refine below_set ?_ GE328.out) | exact HB.out))) : w.heap.size ≤ gb347)); have n12_ := Aside0.mk ((by rw [hg]; exact (below_size (by repeat (first | (with_reducible first | exact HB.out | apply below_alloc | apply pw_below_drewN | apply below_drew1 | refine below_set ?_ GE310.out | refine below_set ?_ GE319.out | refine below_set ?_ GE323.out | refine below_set ?_ GE328.out) | exact HB.out))) : w.heap.size ≤ gb347)); have n13_ := Aside0.mk ((by rw [hg]; exact Nat.ne_of_lt (blk_lt (g := gb310) (o := .cells #[.slice A0_0 l0_0.length c0_0] 35 (0, 0)) (by (with_reducible repeat (first | refine blk_drewN ?_ _ | refine blk_drew ?_ | refine blk_alloc ?_ _)); exact BK310.out)) : gb310 ≠ gb347)); have n14_ := Aside0.mk ((by rw [hg]; exact Nat.ne_of_gt (blk_lt (g := gb310) (o := .cells #[.slice A0_0 l0_0.length c0_0] 35 (0, 0)) (by (with_reducible repeat (first | refine blk_drewN ?_ _ | refine blk_drew ?_ | refine blk_alloc ?_ _)); exact BK310.out)) : gb347 ≠ gb310)); have n15_ := Aside0.mk ((by rw [hg]; exact Nat.ne_of_lt (blk_lt (g := gb319) (o := .cells #[.slice Ao22 t315.length co22] 27 (0, 0)) (by (with_reducible repeat (first | refine blk_drewN ?_ _ | refine blk_drew ?_ | refine blk_alloc ?_ _)); exact BK319.out)) : gb319 ≠ gb347)); have n16_ := Aside0.mk ((by rw [hg]; exact Nat.ne_of_gt (blk_lt (g := gb319) (o := .cells #[.slice Ao22 t315.length co22] 27 (0, 0)) (by (with_reducible repeat (first | refine blk_drewN ?_ _ | refine blk_drew ?_ | refine blk_alloc ?_ _)); exact BK319.out)) : gb347 ≠ gb319)); have n17_ := Aside0.mk ((by rw [hg]; exact Nat.ne_of_lt (blk_lt (g := gb323) (o := .cells #[.slice Ao28 t335.length co28] 27 (0, 0)) (by (with_reducible repeat (first | refine blk_drewN ?_ _ | refine blk_drew ?_ | refine blk_alloc ?_ _)); exact BK323.out)) : gb323 ≠ gb347)); have n18_ := Aside0.mk ((by rw [hg]; exact Nat.ne_of_gt (blk_lt (g := gb323) (o := .cells #[.slice Ao28 t335.length co28] 27 (0, 0)) (by (with_reducible repeat (first | refine blk_drewN ?_ _ | refine blk_drew ?_ | refine blk_alloc ?_ _)); exact BK323.out)) : gb347 ≠ gb323)); have n19_ := Aside0.mk ((by rw [hg]; exact Nat.ne_of_lt (blk_lt (g := gb328) (o := .cells #[.slice Ao34 t324.length co34] 27 (0, 0)) (by (with_reducible repeat (first | refine blk_drewN ?_ _ | refine blk_drew ?_ | refine blk_alloc ?_ _)); exact BK328.out)) : gb328 ≠ gb347)); have n20_ := Aside0.mk ((by rw [hg]; exact Nat.ne_of_gt (blk_lt (g := gb328) (o := .cells #[.slice Ao34 t324.length co34] 27 (0, 0)) (by (with_reducible repeat (first | refine blk_drewN ?_ _ | refine blk_drew ?_ | refine blk_alloc ?_ _)); exact BK328.out)) : gb347 ≠ gb328)); clear HO_320000; clear HO_324000; clear HO_329000; clear HO342; clear HO345; clear BK310; clear BK319; clear BK323; clear BK328; clear HB; have HO_320000 := n0_; have HO_324000 := n1_; have HO_329000 := n2_; have HO342 := n3_; have HO345 := n4_; have BK310 := n5_; have BK319 := n6_; have BK323 := n7_; have BK328 := n8_; have HB := n9_; have BK347 := n10_; have GW347 := n11_; have GE347 := n12_; have NB310_347 := n13_; have NB347_310 := n14_; have NB319_347 := n15_; have NB347_319 := n16_; have NB323_347 := n17_; have NB347_323 := n18_; have NB328_347 := n19_; have NB347_328 := n20_; clear n0_ n1_ n2_ n3_ n4_ n5_ n6_ n7_ n8_ n9_ n10_ n11_ n12_ n13_ n14_ n15_ n16_ n17_ n18_ n19_ n20_; clear hb hbox hg; obtain ⟨Ao120, co120, eo120⟩ := Kd.R_slice HO345.out; subst eo120; have hnb121 := NB347_310.out; have hnc121 := NB310_347.out; have hnb122 := NB347_319.out; have hnc122 := NB319_347.out; have hnb123 := NB347_323.out; have hnc123 := NB323_347.out; have hnb124 := NB347_328.out; have hnc124 := NB328_347.out; have hcz125_0 : w119.cell? ⟨gb347, 0, none⟩ = some (.slice none 0 0) := (blk_cell BK347.out 0).trans rfl; have hfz125_0 := blk_frozen BK347.out 0))
                      (try simp only [Act.put, List.setIfInBounds_toArray, List.set_cons_zero, List.set_cons_succ])
                      go_cut [97] (fun v97 wc => ∃ (kq : Nat) (x97_104 : Bool), v97 = .bool x97_104 ∧ Aside0 (laws_FnExactFromCorner.j2 kq t337 x97_104 t338 = some r) ∧ Aside0 (kq ≤ kj61) ∧ Aside0 (Kd.R (Kd.int .i64) 2 wc w.heap.size (fun k_ => some k_ ≠ ((.slice Ao28 t335.length co28) : Value).ownBlock ∧ some k_ ≠ ((.slice Ao34 t324.length co34) : Value).ownBlock ∧ some k_ ≠ ((.slice Ao120 t343.length co120) : Value).ownBlock) (.slice Ao22 t315.length co22) t315) ∧ Aside0 (Kd.R (Kd.int .i64) 2 wc w.heap.size (fun k_ => some k_ ≠ ((.slice Ao22 t315.length co22) : Value).ownBlock ∧ some k_ ≠ ((.slice Ao34 t324.length co34) : Value).ownBlock ∧ some k_ ≠ ((.slice Ao120 t343.length co120) : Value).ownBlock) (.slice Ao28 t335.length co28) t335) ∧ Aside0 (Kd.R (Kd.int .i64) 2 wc w.heap.size (fun k_ => some k_ ≠ ((.slice Ao22 t315.length co22) : Value).ownBlock ∧ some k_ ≠ ((.slice Ao28 t335.length co28) : Value).ownBlock ∧ some k_ ≠ ((.slice Ao120 t343.length co120) : Value).ownBlock) (.slice Ao34 t324.length co34) t338) ∧ Aside0 (Kd.R (Kd.int .i64) 2 wc w.heap.size (fun k_ => some k_ ≠ ((.slice Ao22 t315.length co22) : Value).ownBlock ∧ some k_ ≠ ((.slice Ao28 t335.length co28) : Value).ownBlock ∧ some k_ ≠ ((.slice Ao34 t324.length co34) : Value).ownBlock) (.slice Ao120 t343.length co120) t343) ∧ Aside0 (wc.heap[gb310]? = some (.cells #[(.slice A0_0 l0_0.length c0_0)] 35 (0, 0))) ∧ Aside0 (wc.heap[gb319]? = some (.cells #[(.slice Ao22 t315.length co22)] 27 (0, 0))) ∧ Aside0 (wc.heap[gb323]? = some (.cells #[(.slice Ao28 t335.length co28)] 27 (0, 0))) ∧ Aside0 (wc.heap[gb328]? = some (.cells #[(.slice Ao34 t324.length co34)] 27 (0, 0))) ∧ Aside0 (wc.heap[gb347]? = some (.cells #[(.slice Ao120 t343.length co120)] 27 (0, 0))) ∧ Aside0 (Below w.heap.size w wc))
                      case first =>
                        have H := HC105.out
                        clear HC105
                        replace H := Option.bind_eq_some_iff.mp H
                        obtain ⟨t348, A1260, H⟩ := H
                        replace H : (if t348 = true then (laws_FnExactFromCorner.j2 kj61 t337 (t346 != t318) t338) else (laws_FnExactFromCorner.j2 kj61 t337 true t338)) = some r := H
                        have A126 := Aside0.mk A1260
                        clear A1260
                        by_cases c127 : t348 = true
                        · subst c127
                          have H1 : (laws_FnExactFromCorner.j2 kj61 t337 (t346 != t318) t338) = some r := by rw [if_pos rfl] at H; exact H
                          clear H
                          have H := H1
                          clear H1
                          have H' := Aside0.mk H
                          clear H
                          have hnb128 := NB347_310.out
                          have hnc128 := NB310_347.out
                          have hnb129 := NB347_319.out
                          have hnc129 := NB319_347.out
                          have hnb130 := NB347_323.out
                          have hnc130 := NB323_347.out
                          have hnb131 := NB347_328.out
                          have hnc131 := NB328_347.out
                          have hcz132_0 : w119.cell? ⟨gb347, 0, none⟩ = some (.slice none 0 0) := (blk_cell BK347.out 0).trans rfl
                          have hfz132_0 := blk_frozen BK347.out 0
                          have hnb133 := NB319_310.out
                          have hnc133 := NB310_319.out
                          have hnb134 := NB319_323.out
                          have hnc134 := NB323_319.out
                          have hnb135 := NB319_328.out
                          have hnc135 := NB328_319.out
                          have hcz136_0 : w119.cell? ⟨gb319, 0, none⟩ = some (.slice Ao22 t315.length co22) := (blk_cell BK319.out 0).trans rfl
                          have hfz136_0 := blk_frozen BK319.out 0
                          go_wp2_with (first | ((with_reducible refine gate_callee (f := 17) rfl ?_); refine goesL_ (some 91) rfl rfl Try.func17 (by kernel_rfl) rfl #[.agg #[.slice Ao120 t343.length co120], .agg #[.slice Ao22 t315.length co22]] rfl (by (try simp only [List.map_toArray, List.map_cons, List.map_nil]); first | done | rfl | (simp only [List.length_drop, List.length_take]; rfl)) ?_; (with_reducible refine (laws_eqTree.calls kj61 _ _ t343 _ _ t315 true _ ?side1 ?side2 ?side3 ?side4 A126.out).mono ?_); (case side1 => refine (Kd.R_reads' (e := 2) (base := w.heap.size) (ok := fun k_ => ((((True ∧ some k_ ≠ (.slice Ao22 t315.length co22 : Value).ownBlock) ∧ some k_ ≠ (.slice Ao28 t335.length co28 : Value).ownBlock) ∧ some k_ ≠ (.slice Ao34 t324.length co34 : Value).ownBlock) ∧ some k_ ≠ (.slice Ao117 t340.length co117 : Value).ownBlock)) (n := t343.length) (c := co120) ?_).2.2; exact (by (with_reducible repeat (first | apply Kd.R_alloc | apply Kd.R_drewN | apply Kd.R_drew)); exact (Kd.R_mono (Kd.R_far (p := ⟨gb347, 0, none⟩) (Kd.R_types HO345.out BK347.out (by decide)) (fun _ hk => hk.2) (.slice Ao120 t343.length co120)) (fun _ h_ => h_.1)))); (case side2 => exact (Kd.R_reads' HO345.out).2.1); (case side3 => refine (Kd.R_reads' (e := 2) (base := w.heap.size) (ok := fun k_ => (((some k_ ≠ (.slice Ao28 t335.length co28 : Value).ownBlock ∧ some k_ ≠ (.slice Ao34 t324.length co34 : Value).ownBlock) ∧ some k_ ≠ (.slice Ao117 t340.length co117 : Value).ownBlock) ∧ some k_ ≠ (.slice Ao120 t343.length co120 : Value).ownBlock)) (n := t315.length) (c := co22) ?_).2.2; exact (by (with_reducible repeat (first | apply Kd.R_alloc | apply Kd.R_drewN | apply Kd.R_drew)); exact (Kd.R_mono (Kd.R_far (p := ⟨gb347, 0, none⟩) (Kd.R_types HO_320000.out BK347.out (by decide)) (fun _ hk => hk.2) (.slice Ao120 t343.length co120)) (fun _ h_ => h_.1)))); (case side4 => exact (Kd.R_reads' HO_320000.out).2.1); rintro e w137 ⟨rfl, hb⟩; refine ⟨_, rfl, ?_⟩; have n0_ := Aside0.mk (Kd.R_below (by (with_reducible repeat (first | apply Kd.R_alloc | apply Kd.R_drewN | apply Kd.R_drew)); exact (Kd.R_mono (Kd.R_far (p := ⟨gb347, 0, none⟩) (Kd.R_types HO_320000.out BK347.out (by decide)) (fun _ hk => hk.2) (.slice Ao120 t343.length co120)) (fun _ h_ => h_.1))) hb); have n1_ := Aside0.mk (Kd.R_below (by (with_reducible repeat (first | apply Kd.R_alloc | apply Kd.R_drewN | apply Kd.R_drew)); exact (Kd.R_mono (Kd.R_far (p := ⟨gb347, 0, none⟩) (Kd.R_types HO_324000.out BK347.out (by decide)) (fun _ hk => hk.2) (.slice Ao120 t343.length co120)) (fun _ h_ => h_.1))) hb); have n2_ := Aside0.mk (Kd.R_below (by (with_reducible repeat (first | apply Kd.R_alloc | apply Kd.R_drewN | apply Kd.R_drew)); exact (Kd.R_mono (Kd.R_far (p := ⟨gb347, 0, none⟩) (Kd.R_types HO_329000.out BK347.out (by decide)) (fun _ hk => hk.2) (.slice Ao120 t343.length co120)) (fun _ h_ => h_.1))) hb); have n3_ := Aside0.mk (Kd.R_below (by (with_reducible repeat (first | apply Kd.R_alloc | apply Kd.R_drewN | apply Kd.R_drew)); exact (Kd.R_mono (Kd.R_far (p := ⟨gb347, 0, none⟩) (Kd.R_types HO342.out BK347.out (by decide)) (fun _ hk => hk.2) (.slice Ao120 t343.length co120)) (fun _ h_ => h_.1))) hb); have n4_ := Aside0.mk (Kd.R_below (by (with_reducible repeat (first | apply Kd.R_alloc | apply Kd.R_drewN | apply Kd.R_drew)); exact (Kd.R_mono (Kd.R_far (p := ⟨gb347, 0, none⟩) (Kd.R_types HO345.out BK347.out (by decide)) (fun _ hk => hk.2) (.slice Ao120 t343.length co120)) (fun _ h_ => h_.1))) hb); have n5_ := Aside0.mk (blk_below (g := gb310) (o := .cells #[.slice A0_0 l0_0.length c0_0] 35 (0, 0)) (by (with_reducible repeat (first | refine blk_drewN ?_ _ | refine blk_drew ?_ | refine blk_alloc ?_ _)); refine blk_far ?_ NB310_347.out _; (with_reducible repeat (first | refine blk_drewN ?_ _ | refine blk_drew ?_ | refine blk_alloc ?_ _)); exact BK310.out) hb); have n6_ := Aside0.mk (blk_below (g := gb319) (o := .cells #[.slice Ao22 t315.length co22] 27 (0, 0)) (by (with_reducible repeat (first | refine blk_drewN ?_ _ | refine blk_drew ?_ | refine blk_alloc ?_ _)); refine blk_far ?_ NB319_347.out _; (with_reducible repeat (first | refine blk_drewN ?_ _ | refine blk_drew ?_ | refine blk_alloc ?_ _)); exact BK319.out) hb); have n7_ := Aside0.mk (blk_below (g := gb323) (o := .cells #[.slice Ao28 t335.length co28] 27 (0, 0)) (by (with_reducible repeat (first | refine blk_drewN ?_ _ | refine blk_drew ?_ | refine blk_alloc ?_ _)); refine blk_far ?_ NB323_347.out _; (with_reducible repeat (first | refine blk_drewN ?_ _ | refine blk_drew ?_ | refine blk_alloc ?_ _)); exact BK323.out) hb); have n8_ := Aside0.mk (blk_below (g := gb328) (o := .cells #[.slice Ao34 t324.length co34] 27 (0, 0)) (by (with_reducible repeat (first | refine blk_drewN ?_ _ | refine blk_drew ?_ | refine blk_alloc ?_ _)); refine blk_far ?_ NB328_347.out _; (with_reducible repeat (first | refine blk_drewN ?_ _ | refine blk_drew ?_ | refine blk_alloc ?_ _)); exact BK328.out) hb); have n9_ := Aside0.mk (blk_below (g := gb347) (o := .cells #[.slice Ao120 t343.length co120] 27 (0, 0)) (by (with_reducible repeat (first | refine blk_drewN ?_ _ | refine blk_drew ?_ | refine blk_alloc ?_ _)); refine blk_put (cs := #[.slice none 0 0]) ?_ 0 _ rfl; (with_reducible repeat (first | refine blk_drewN ?_ _ | refine blk_drew ?_ | refine blk_alloc ?_ _)); exact BK347.out) hb); have n10_ := Aside0.mk (below_step (by repeat (first | (with_reducible first | exact HB.out | apply below_alloc | apply pw_below_drewN | apply below_drew1 | refine below_set ?_ GE310.out | refine below_set ?_ GE319.out | refine below_set ?_ GE323.out | refine below_set ?_ GE328.out | refine below_set ?_ GE347.out) | exact HB.out)) hb); clear HO_320000; clear HO_324000; clear HO_329000; clear HO342; clear HO345; clear BK310; clear BK319; clear BK323; clear BK328; clear BK347; clear HB; have HO_320000 := n0_; have HO_324000 := n1_; have HO_329000 := n2_; have HO342 := n3_; have HO345 := n4_; have BK310 := n5_; have BK319 := n6_; have BK323 := n7_; have BK328 := n8_; have BK347 := n9_; have HB := n10_; clear n0_ n1_ n2_ n3_ n4_ n5_ n6_ n7_ n8_ n9_ n10_; (try clear hb); (try clear hb2); (try clear hk); (try clear hi)))
                          go_meet
                          case rel => exact ⟨_, ((t346 != t318)), (by first | rfl | (simp; done) | (simp [*]; done)), H', ⟨by have := HJ12.out; have := HJ61.out; first | omega | exact Nat.le_refl _⟩, ⟨by (try simp only [hl324000_61]); (with_reducible repeat (first | apply Kd.R_alloc | apply Kd.R_drewN | apply Kd.R_drew)); exact Kd.R_mono HO_320000.out (fun _ hk => ⟨hk.1.1.1, ⟨hk.1.1.2, hk.2⟩⟩)⟩, ⟨by (try simp only [hl324000_61]); (with_reducible repeat (first | apply Kd.R_alloc | apply Kd.R_drewN | apply Kd.R_drew)); exact Kd.R_mono HO_324000.out (fun _ hk => ⟨hk.1.1.1, ⟨hk.1.1.2, hk.2⟩⟩)⟩, ⟨by (try simp only [hl324000_61]); (with_reducible repeat (first | apply Kd.R_alloc | apply Kd.R_drewN | apply Kd.R_drew)); exact Kd.R_mono HO_329000.out (fun _ hk => ⟨hk.1.1.1, ⟨hk.1.1.2, hk.2⟩⟩)⟩, ⟨by (try simp only [hl324000_61]); (with_reducible repeat (first | apply Kd.R_alloc | apply Kd.R_drewN | apply Kd.R_drew)); exact Kd.R_mono HO345.out (fun _ hk => ⟨hk.1.1.1.2, ⟨hk.1.1.2, hk.1.2⟩⟩)⟩, ⟨by (try simp only [hl324000_61]); (with_reducible repeat (first | refine blk_drewN ?_ _ | refine blk_drew ?_ | refine blk_alloc ?_ _)); exact BK310.out⟩, ⟨by (try simp only [hl324000_61]); (with_reducible repeat (first | refine blk_drewN ?_ _ | refine blk_drew ?_ | refine blk_alloc ?_ _)); exact BK319.out⟩, ⟨by (try simp only [hl324000_61]); (with_reducible repeat (first | refine blk_drewN ?_ _ | refine blk_drew ?_ | refine blk_alloc ?_ _)); exact BK323.out⟩, ⟨by (try simp only [hl324000_61]); (with_reducible repeat (first | refine blk_drewN ?_ _ | refine blk_drew ?_ | refine blk_alloc ?_ _)); exact BK328.out⟩, ⟨by (try simp only [hl324000_61]); (with_reducible repeat (first | refine blk_drewN ?_ _ | refine blk_drew ?_ | refine blk_alloc ?_ _)); exact BK347.out⟩, ⟨by repeat (first | (with_reducible first | exact HB.out | apply below_alloc | apply pw_below_drewN | apply below_drew1 | refine below_set ?_ GE310.out | refine below_set ?_ GE319.out | refine below_set ?_ GE323.out | refine below_set ?_ GE328.out | refine below_set ?_ GE347.out) | exact HB.out)⟩⟩
                        · replace c127 := Bool.eq_false_iff.mpr c127
                          subst c127
                          have H1 : (laws_FnExactFromCorner.j2 kj61 t337 true t338) = some r := by rw [if_neg (show ¬ (false = true) by decide)] at H; exact H
                          clear H
                          have H := H1
                          clear H1
                          have H' := Aside0.mk H
                          clear H
                          have hnb138 := NB347_310.out
                          have hnc138 := NB310_347.out
                          have hnb139 := NB347_319.out
                          have hnc139 := NB319_347.out
                          have hnb140 := NB347_323.out
                          have hnc140 := NB323_347.out
                          have hnb141 := NB347_328.out
                          have hnc141 := NB328_347.out
                          have hcz142_0 : w119.cell? ⟨gb347, 0, none⟩ = some (.slice none 0 0) := (blk_cell BK347.out 0).trans rfl
                          have hfz142_0 := blk_frozen BK347.out 0
                          have hnb143 := NB319_310.out
                          have hnc143 := NB310_319.out
                          have hnb144 := NB319_323.out
                          have hnc144 := NB323_319.out
                          have hnb145 := NB319_328.out
                          have hnc145 := NB328_319.out
                          have hcz146_0 : w119.cell? ⟨gb319, 0, none⟩ = some (.slice Ao22 t315.length co22) := (blk_cell BK319.out 0).trans rfl
                          have hfz146_0 := blk_frozen BK319.out 0
                          go_wp2_with (first | ((with_reducible refine gate_callee (f := 17) rfl ?_); refine goesL_ (some 91) rfl rfl Try.func17 (by kernel_rfl) rfl #[.agg #[.slice Ao120 t343.length co120], .agg #[.slice Ao22 t315.length co22]] rfl (by (try simp only [List.map_toArray, List.map_cons, List.map_nil]); first | done | rfl | (simp only [List.length_drop, List.length_take]; rfl)) ?_; (with_reducible refine (laws_eqTree.calls kj61 _ _ t343 _ _ t315 false _ ?side1 ?side2 ?side3 ?side4 A126.out).mono ?_); (case side1 => refine (Kd.R_reads' (e := 2) (base := w.heap.size) (ok := fun k_ => ((((True ∧ some k_ ≠ (.slice Ao22 t315.length co22 : Value).ownBlock) ∧ some k_ ≠ (.slice Ao28 t335.length co28 : Value).ownBlock) ∧ some k_ ≠ (.slice Ao34 t324.length co34 : Value).ownBlock) ∧ some k_ ≠ (.slice Ao117 t340.length co117 : Value).ownBlock)) (n := t343.length) (c := co120) ?_).2.2; exact (by (with_reducible repeat (first | apply Kd.R_alloc | apply Kd.R_drewN | apply Kd.R_drew)); exact (Kd.R_mono (Kd.R_far (p := ⟨gb347, 0, none⟩) (Kd.R_types HO345.out BK347.out (by decide)) (fun _ hk => hk.2) (.slice Ao120 t343.length co120)) (fun _ h_ => h_.1)))); (case side2 => exact (Kd.R_reads' HO345.out).2.1); (case side3 => refine (Kd.R_reads' (e := 2) (base := w.heap.size) (ok := fun k_ => (((some k_ ≠ (.slice Ao28 t335.length co28 : Value).ownBlock ∧ some k_ ≠ (.slice Ao34 t324.length co34 : Value).ownBlock) ∧ some k_ ≠ (.slice Ao117 t340.length co117 : Value).ownBlock) ∧ some k_ ≠ (.slice Ao120 t343.length co120 : Value).ownBlock)) (n := t315.length) (c := co22) ?_).2.2; exact (by (with_reducible repeat (first | apply Kd.R_alloc | apply Kd.R_drewN | apply Kd.R_drew)); exact (Kd.R_mono (Kd.R_far (p := ⟨gb347, 0, none⟩) (Kd.R_types HO_320000.out BK347.out (by decide)) (fun _ hk => hk.2) (.slice Ao120 t343.length co120)) (fun _ h_ => h_.1)))); (case side4 => exact (Kd.R_reads' HO_320000.out).2.1); rintro e w147 ⟨rfl, hb⟩; refine ⟨_, rfl, ?_⟩; have n0_ := Aside0.mk (Kd.R_below (by (with_reducible repeat (first | apply Kd.R_alloc | apply Kd.R_drewN | apply Kd.R_drew)); exact (Kd.R_mono (Kd.R_far (p := ⟨gb347, 0, none⟩) (Kd.R_types HO_320000.out BK347.out (by decide)) (fun _ hk => hk.2) (.slice Ao120 t343.length co120)) (fun _ h_ => h_.1))) hb); have n1_ := Aside0.mk (Kd.R_below (by (with_reducible repeat (first | apply Kd.R_alloc | apply Kd.R_drewN | apply Kd.R_drew)); exact (Kd.R_mono (Kd.R_far (p := ⟨gb347, 0, none⟩) (Kd.R_types HO_324000.out BK347.out (by decide)) (fun _ hk => hk.2) (.slice Ao120 t343.length co120)) (fun _ h_ => h_.1))) hb); have n2_ := Aside0.mk (Kd.R_below (by (with_reducible repeat (first | apply Kd.R_alloc | apply Kd.R_drewN | apply Kd.R_drew)); exact (Kd.R_mono (Kd.R_far (p := ⟨gb347, 0, none⟩) (Kd.R_types HO_329000.out BK347.out (by decide)) (fun _ hk => hk.2) (.slice Ao120 t343.length co120)) (fun _ h_ => h_.1))) hb); have n3_ := Aside0.mk (Kd.R_below (by (with_reducible repeat (first | apply Kd.R_alloc | apply Kd.R_drewN | apply Kd.R_drew)); exact (Kd.R_mono (Kd.R_far (p := ⟨gb347, 0, none⟩) (Kd.R_types HO342.out BK347.out (by decide)) (fun _ hk => hk.2) (.slice Ao120 t343.length co120)) (fun _ h_ => h_.1))) hb); have n4_ := Aside0.mk (Kd.R_below (by (with_reducible repeat (first | apply Kd.R_alloc | apply Kd.R_drewN | apply Kd.R_drew)); exact (Kd.R_mono (Kd.R_far (p := ⟨gb347, 0, none⟩) (Kd.R_types HO345.out BK347.out (by decide)) (fun _ hk => hk.2) (.slice Ao120 t343.length co120)) (fun _ h_ => h_.1))) hb); have n5_ := Aside0.mk (blk_below (g := gb310) (o := .cells #[.slice A0_0 l0_0.length c0_0] 35 (0, 0)) (by (with_reducible repeat (first | refine blk_drewN ?_ _ | refine blk_drew ?_ | refine blk_alloc ?_ _)); refine blk_far ?_ NB310_347.out _; (with_reducible repeat (first | refine blk_drewN ?_ _ | refine blk_drew ?_ | refine blk_alloc ?_ _)); exact BK310.out) hb); have n6_ := Aside0.mk (blk_below (g := gb319) (o := .cells #[.slice Ao22 t315.length co22] 27 (0, 0)) (by (with_reducible repeat (first | refine blk_drewN ?_ _ | refine blk_drew ?_ | refine blk_alloc ?_ _)); refine blk_far ?_ NB319_347.out _; (with_reducible repeat (first | refine blk_drewN ?_ _ | refine blk_drew ?_ | refine blk_alloc ?_ _)); exact BK319.out) hb); have n7_ := Aside0.mk (blk_below (g := gb323) (o := .cells #[.slice Ao28 t335.length co28] 27 (0, 0)) (by (with_reducible repeat (first | refine blk_drewN ?_ _ | refine blk_drew ?_ | refine blk_alloc ?_ _)); refine blk_far ?_ NB323_347.out _; (with_reducible repeat (first | refine blk_drewN ?_ _ | refine blk_drew ?_ | refine blk_alloc ?_ _)); exact BK323.out) hb); have n8_ := Aside0.mk (blk_below (g := gb328) (o := .cells #[.slice Ao34 t324.length co34] 27 (0, 0)) (by (with_reducible repeat (first | refine blk_drewN ?_ _ | refine blk_drew ?_ | refine blk_alloc ?_ _)); refine blk_far ?_ NB328_347.out _; (with_reducible repeat (first | refine blk_drewN ?_ _ | refine blk_drew ?_ | refine blk_alloc ?_ _)); exact BK328.out) hb); have n9_ := Aside0.mk (blk_below (g := gb347) (o := .cells #[.slice Ao120 t343.length co120] 27 (0, 0)) (by (with_reducible repeat (first | refine blk_drewN ?_ _ | refine blk_drew ?_ | refine blk_alloc ?_ _)); refine blk_put (cs := #[.slice none 0 0]) ?_ 0 _ rfl; (with_reducible repeat (first | refine blk_drewN ?_ _ | refine blk_drew ?_ | refine blk_alloc ?_ _)); exact BK347.out) hb); have n10_ := Aside0.mk (below_step (by repeat (first | (with_reducible first | exact HB.out | apply below_alloc | apply pw_below_drewN | apply below_drew1 | refine below_set ?_ GE310.out | refine below_set ?_ GE319.out | refine below_set ?_ GE323.out | refine below_set ?_ GE328.out | refine below_set ?_ GE347.out) | exact HB.out)) hb); clear HO_320000; clear HO_324000; clear HO_329000; clear HO342; clear HO345; clear BK310; clear BK319; clear BK323; clear BK328; clear BK347; clear HB; have HO_320000 := n0_; have HO_324000 := n1_; have HO_329000 := n2_; have HO342 := n3_; have HO345 := n4_; have BK310 := n5_; have BK319 := n6_; have BK323 := n7_; have BK328 := n8_; have BK347 := n9_; have HB := n10_; clear n0_ n1_ n2_ n3_ n4_ n5_ n6_ n7_ n8_ n9_ n10_; (try clear hb); (try clear hb2); (try clear hk); (try clear hi)))
                          go_meet
                          case rel => exact ⟨_, (true), (by first | rfl | (simp; done) | (simp [*]; done)), H', ⟨by have := HJ12.out; have := HJ61.out; first | omega | exact Nat.le_refl _⟩, ⟨by (try simp only [hl324000_61]); (with_reducible repeat (first | apply Kd.R_alloc | apply Kd.R_drewN | apply Kd.R_drew)); exact Kd.R_mono HO_320000.out (fun _ hk => ⟨hk.1.1.1, ⟨hk.1.1.2, hk.2⟩⟩)⟩, ⟨by (try simp only [hl324000_61]); (with_reducible repeat (first | apply Kd.R_alloc | apply Kd.R_drewN | apply Kd.R_drew)); exact Kd.R_mono HO_324000.out (fun _ hk => ⟨hk.1.1.1, ⟨hk.1.1.2, hk.2⟩⟩)⟩, ⟨by (try simp only [hl324000_61]); (with_reducible repeat (first | apply Kd.R_alloc | apply Kd.R_drewN | apply Kd.R_drew)); exact Kd.R_mono HO_329000.out (fun _ hk => ⟨hk.1.1.1, ⟨hk.1.1.2, hk.2⟩⟩)⟩, ⟨by (try simp only [hl324000_61]); (with_reducible repeat (first | apply Kd.R_alloc | apply Kd.R_drewN | apply Kd.R_drew)); exact Kd.R_mono HO345.out (fun _ hk => ⟨hk.1.1.1.2, ⟨hk.1.1.2, hk.1.2⟩⟩)⟩, ⟨by (try simp only [hl324000_61]); (with_reducible repeat (first | refine blk_drewN ?_ _ | refine blk_drew ?_ | refine blk_alloc ?_ _)); exact BK310.out⟩, ⟨by (try simp only [hl324000_61]); (with_reducible repeat (first | refine blk_drewN ?_ _ | refine blk_drew ?_ | refine blk_alloc ?_ _)); exact BK319.out⟩, ⟨by (try simp only [hl324000_61]); (with_reducible repeat (first | refine blk_drewN ?_ _ | refine blk_drew ?_ | refine blk_alloc ?_ _)); exact BK323.out⟩, ⟨by (try simp only [hl324000_61]); (with_reducible repeat (first | refine blk_drewN ?_ _ | refine blk_drew ?_ | refine blk_alloc ?_ _)); exact BK328.out⟩, ⟨by (try simp only [hl324000_61]); (with_reducible repeat (first | refine blk_drewN ?_ _ | refine blk_drew ?_ | refine blk_alloc ?_ _)); exact BK347.out⟩, ⟨by repeat (first | (with_reducible first | exact HB.out | apply below_alloc | apply pw_below_drewN | apply below_drew1 | refine below_set ?_ GE310.out | refine below_set ?_ GE319.out | refine below_set ?_ GE323.out | refine below_set ?_ GE328.out | refine below_set ?_ GE347.out) | exact HB.out)⟩⟩
                      case rest =>
                        clear HC105
                        try clear c1
                        try clear c2
                        try clear p2
                        try clear c3
                        try clear c4
                        try clear c5
                        try clear c5b0
                        try clear c6
                        try clear c7
                        try clear c8
                        try clear c9
                        try clear c10
                        try clear c11
                        try clear c12
                        try clear c13
                        try clear c14
                        try clear c17
                        try clear c18
                        try clear c19
                        try clear c22
                        try clear c23
                        try clear c24
                        try clear c25
                        try clear c29
                        try clear c30
                        try clear c35
                        try clear c36
                        try clear c37
                        try clear c40
                        try clear c41
                        try clear c42
                        try clear c43
                        try clear c45
                        try clear c46
                        try clear c49
                        try clear c50
                        try clear c51
                        try clear c53
                        try clear c54
                        try clear c57
                        try clear c60
                        try clear c67
                        try clear c68
                        try clear c69
                        try clear c72
                        try clear c72b0
                        try clear c74
                        try clear c75
                        try clear c76
                        try clear c77
                        try clear c79
                        try clear c80
                        try clear c83
                        try clear c84
                        try clear c85
                        try clear c87
                        try clear c88
                        try clear c91
                        try clear c94
                        try clear c94b0
                        try clear c95
                        try clear c96
                        try clear c97
                        try clear c102
                        try clear c102b0
                        try clear c102b1
                        try clear c106
                        try clear c107
                        try clear c108
                        try clear c113
                        try clear c114
                        try clear c121
                        try clear c122
                        try clear c123
                        try clear c124
                        try clear c127
                        try clear c128
                        try clear c129
                        try clear c130
                        try clear c131
                        try clear c133
                        try clear c134
                        try clear c135
                        try clear c138
                        try clear c139
                        try clear c140
                        try clear c141
                        try clear c143
                        try clear c144
                        try clear c145
                        try clear hcz100_0
                        try clear hcz109_0
                        try clear hcz111_0
                        try clear hcz115_0
                        try clear hcz125_0
                        try clear hcz132_0
                        try clear hcz136_0
                        try clear hcz142_0
                        try clear hcz146_0
                        try clear hcz15_0
                        try clear hcz17_0
                        try clear hcz24_0
                        try clear hcz25_0
                        try clear hcz31_0
                        try clear hcz38_0
                        try clear hcz44_0
                        try clear hcz47_0
                        try clear hcz52_0
                        try clear hcz55_0
                        try clear hcz70_0
                        try clear hcz78_0
                        try clear hcz7_0
                        try clear hcz81_0
                        try clear hcz86_0
                        try clear hcz89_0
                        try clear hcz98_0
                        try clear hfz100_0
                        try clear hfz109_0
                        try clear hfz111_0
                        try clear hfz115_0
                        try clear hfz125_0
                        try clear hfz132_0
                        try clear hfz136_0
                        try clear hfz142_0
                        try clear hfz146_0
                        try clear hfz15_0
                        try clear hfz17_0
                        try clear hfz24_0
                        try clear hfz25_0
                        try clear hfz31_0
                        try clear hfz38_0
                        try clear hfz44_0
                        try clear hfz47_0
                        try clear hfz52_0
                        try clear hfz55_0
                        try clear hfz70_0
                        try clear hfz78_0
                        try clear hfz7_0
                        try clear hfz81_0
                        try clear hfz86_0
                        try clear hfz89_0
                        try clear hfz98_0
                        try clear p2
                        obtain ⟨kq, x97_104, rfl, HA, HJ104, HO_320000, HO_324000, HO_329000, HO_348000, BK310, BK319, BK323, BK328, BK347, HB⟩ := hcut
                        have hl329000_104 := (Kd.R_reads' HO_329000.out).1
                        rw [hl329000_104] at HO_329000
                        (try simp only [hl329000_104])
                        (try simp only [hl329000_104] at BK310)
                        (try simp only [hl329000_104] at BK319)
                        (try simp only [hl329000_104] at BK323)
                        (try simp only [hl329000_104] at BK328)
                        (try simp only [hl329000_104] at BK347)
                        (try simp only [hl329000_104] at HO_320000)
                        (try simp only [hl329000_104] at HO_324000)
                        (try simp only [hl329000_104] at HO_348000)
                        cases kq with
                        | zero => exact absurd HA.out (by simp [laws_FnExactFromCorner.j2])
                        | succ kj104 =>
                          have H := HA.out
                          clear HA
                          simp only [laws_FnExactFromCorner.j2] at H
                          by_cases c148 : x97_104 = true
                          · subst c148
                            have H1 : (some false) = some r := by rw [if_pos rfl] at H; exact H
                            clear H
                            have H := H1
                            clear H1
                            obtain rfl := Option.some.inj H
                            go_wp2
                            go_ret
                            exact ⟨by first | rfl | (simp [errW_none, errW_some] <;> rfl) | (simp [*, errW_none, errW_some] <;> rfl), by repeat (first | (with_reducible first | exact HB.out | apply below_alloc | apply pw_below_drewN | apply below_drew1 | refine below_set ?_ GE310.out | refine below_set ?_ GE319.out | refine below_set ?_ GE323.out | refine below_set ?_ GE328.out | refine below_set ?_ GE347.out) | exact HB.out)⟩
                          · replace c148 := Bool.eq_false_iff.mpr c148
                            subst c148
                            have H1 : ((laws_heldTree.f kj104 t338 1).bind fun t349 => (if t349 < 0 then (some false) else (if t349 = t337 then (some true) else (some false)))) = some r := by rw [if_neg (show ¬ (false = true) by decide)] at H; exact H
                            clear H
                            have H := H1
                            clear H1
                            replace H := Option.bind_eq_some_iff.mp H
                            obtain ⟨t349, A1490, H⟩ := H
                            replace H : (if t349 < 0 then (some false) else (if t349 = t337 then (some true) else (some false))) = some r := H
                            have A149 := Aside0.mk A1490
                            clear A1490
                            by_cases c150 : t349 < 0
                            · rw [if_pos c150] at H
                              have c150b0 : decide (t349 < 0) = true := decide_eq_true c150
                              clear c150
                              obtain rfl := Option.some.inj H
                              have hnb151 := NB328_310.out
                              have hnc151 := NB310_328.out
                              have hnb152 := NB328_319.out
                              have hnc152 := NB319_328.out
                              have hnb153 := NB328_323.out
                              have hnc153 := NB323_328.out
                              have hnb154 := NB328_347.out
                              have hnc154 := NB347_328.out
                              have hcz155_0 : wc.cell? ⟨gb328, 0, none⟩ = some (.slice Ao34 t338.length co34) := (blk_cell BK328.out 0).trans rfl
                              have hfz155_0 := blk_frozen BK328.out 0
                              go_wp2_with (first | ((with_reducible refine gate_callee (f := 19) rfl ?_); refine goesL_ (some 100) rfl rfl Try.func19 (by kernel_rfl) rfl #[.agg #[.slice Ao34 t338.length co34], .int .i64 1] rfl (by (try simp only [List.map_toArray, List.map_cons, List.map_nil]); first | done | rfl | (simp only [List.length_drop, List.length_take]; rfl)) ?_; (with_reducible refine (laws_heldTree.calls kj104 _ _ t338 1 t349 _ ?side1 ?side2 A149.out).mono ?_); (case side1 => repeat (first | exact (Kd.R_reads' HO_329000.out).2.2 | (with_reducible refine Kd.C_alloc ?_ _) | (with_reducible refine Kd.C_drewN ?_ _) | (with_reducible refine Kd.C_drew ?_))); (case side2 => exact (Kd.R_reads' HO_329000.out).2.1); rintro e w156 ⟨rfl, hb⟩; refine ⟨_, rfl, ?_⟩; have n0_ := Aside0.mk (Kd.R_below (by (with_reducible repeat (first | apply Kd.R_alloc | apply Kd.R_drewN | apply Kd.R_drew)); exact HO_320000.out) hb); have n1_ := Aside0.mk (Kd.R_below (by (with_reducible repeat (first | apply Kd.R_alloc | apply Kd.R_drewN | apply Kd.R_drew)); exact HO_324000.out) hb); have n2_ := Aside0.mk (Kd.R_below (by (with_reducible repeat (first | apply Kd.R_alloc | apply Kd.R_drewN | apply Kd.R_drew)); exact HO_329000.out) hb); have n3_ := Aside0.mk (Kd.R_below (by (with_reducible repeat (first | apply Kd.R_alloc | apply Kd.R_drewN | apply Kd.R_drew)); exact HO_348000.out) hb); have n4_ := Aside0.mk (blk_below (g := gb310) (o := .cells #[.slice A0_0 l0_0.length c0_0] 35 (0, 0)) (by (with_reducible repeat (first | refine blk_drewN ?_ _ | refine blk_drew ?_ | refine blk_alloc ?_ _)); exact BK310.out) hb); have n5_ := Aside0.mk (blk_below (g := gb319) (o := .cells #[.slice Ao22 t315.length co22] 27 (0, 0)) (by (with_reducible repeat (first | refine blk_drewN ?_ _ | refine blk_drew ?_ | refine blk_alloc ?_ _)); exact BK319.out) hb); have n6_ := Aside0.mk (blk_below (g := gb323) (o := .cells #[.slice Ao28 t335.length co28] 27 (0, 0)) (by (with_reducible repeat (first | refine blk_drewN ?_ _ | refine blk_drew ?_ | refine blk_alloc ?_ _)); exact BK323.out) hb); have n7_ := Aside0.mk (blk_below (g := gb328) (o := .cells #[.slice Ao34 t338.length co34] 27 (0, 0)) (by (with_reducible repeat (first | refine blk_drewN ?_ _ | refine blk_drew ?_ | refine blk_alloc ?_ _)); exact BK328.out) hb); have n8_ := Aside0.mk (blk_below (g := gb347) (o := .cells #[.slice Ao120 t343.length co120] 27 (0, 0)) (by (with_reducible repeat (first | refine blk_drewN ?_ _ | refine blk_drew ?_ | refine blk_alloc ?_ _)); exact BK347.out) hb); have n9_ := Aside0.mk (below_step (by repeat (first | (with_reducible first | exact HB.out | apply below_alloc | apply pw_below_drewN | apply below_drew1 | refine below_set ?_ GE310.out | refine below_set ?_ GE319.out | refine below_set ?_ GE323.out | refine below_set ?_ GE328.out | refine below_set ?_ GE347.out) | exact HB.out)) hb); clear HO_320000; clear HO_324000; clear HO_329000; clear HO_348000; clear BK310; clear BK319; clear BK323; clear BK328; clear BK347; clear HB; have HO_320000 := n0_; have HO_324000 := n1_; have HO_329000 := n2_; have HO_348000 := n3_; have BK310 := n4_; have BK319 := n5_; have BK323 := n6_; have BK328 := n7_; have BK347 := n8_; have HB := n9_; clear n0_ n1_ n2_ n3_ n4_ n5_ n6_ n7_ n8_ n9_; (try clear hb); (try clear hb2); (try clear hk); (try clear hi)))
                              go_ret
                              exact ⟨by first | rfl | (simp [errW_none, errW_some] <;> rfl) | (simp [*, errW_none, errW_some] <;> rfl), by repeat (first | (with_reducible first | exact HB.out | apply below_alloc | apply pw_below_drewN | apply below_drew1 | refine below_set ?_ GE310.out | refine below_set ?_ GE319.out | refine below_set ?_ GE323.out | refine below_set ?_ GE328.out | refine below_set ?_ GE347.out) | exact HB.out)⟩
                            · rw [if_neg c150] at H
                              have c150b0 : decide (t349 < 0) = false := decide_eq_false c150
                              clear c150
                              by_cases c157 : t349 = t337
                              · rw [if_pos c157] at H
                                have c157b0 : (t349 == t337) = true := beq_iff_eq.mpr c157
                                have c157b1 : (t349 != t337) = false := bne_eq_false_iff_eq.mpr c157
                                clear c157
                                obtain rfl := Option.some.inj H
                                have hnb158 := NB328_310.out
                                have hnc158 := NB310_328.out
                                have hnb159 := NB328_319.out
                                have hnc159 := NB319_328.out
                                have hnb160 := NB328_323.out
                                have hnc160 := NB323_328.out
                                have hnb161 := NB328_347.out
                                have hnc161 := NB347_328.out
                                have hcz162_0 : wc.cell? ⟨gb328, 0, none⟩ = some (.slice Ao34 t338.length co34) := (blk_cell BK328.out 0).trans rfl
                                have hfz162_0 := blk_frozen BK328.out 0
                                go_wp2_with (first | ((with_reducible refine gate_callee (f := 19) rfl ?_); refine goesL_ (some 100) rfl rfl Try.func19 (by kernel_rfl) rfl #[.agg #[.slice Ao34 t338.length co34], .int .i64 1] rfl (by (try simp only [List.map_toArray, List.map_cons, List.map_nil]); first | done | rfl | (simp only [List.length_drop, List.length_take]; rfl)) ?_; (with_reducible refine (laws_heldTree.calls kj104 _ _ t338 1 t349 _ ?side1 ?side2 A149.out).mono ?_); (case side1 => repeat (first | exact (Kd.R_reads' HO_329000.out).2.2 | (with_reducible refine Kd.C_alloc ?_ _) | (with_reducible refine Kd.C_drewN ?_ _) | (with_reducible refine Kd.C_drew ?_))); (case side2 => exact (Kd.R_reads' HO_329000.out).2.1); rintro e w163 ⟨rfl, hb⟩; refine ⟨_, rfl, ?_⟩; have n0_ := Aside0.mk (Kd.R_below (by (with_reducible repeat (first | apply Kd.R_alloc | apply Kd.R_drewN | apply Kd.R_drew)); exact HO_320000.out) hb); have n1_ := Aside0.mk (Kd.R_below (by (with_reducible repeat (first | apply Kd.R_alloc | apply Kd.R_drewN | apply Kd.R_drew)); exact HO_324000.out) hb); have n2_ := Aside0.mk (Kd.R_below (by (with_reducible repeat (first | apply Kd.R_alloc | apply Kd.R_drewN | apply Kd.R_drew)); exact HO_329000.out) hb); have n3_ := Aside0.mk (Kd.R_below (by (with_reducible repeat (first | apply Kd.R_alloc | apply Kd.R_drewN | apply Kd.R_drew)); exact HO_348000.out) hb); have n4_ := Aside0.mk (blk_below (g := gb310) (o := .cells #[.slice A0_0 l0_0.length c0_0] 35 (0, 0)) (by (with_reducible repeat (first | refine blk_drewN ?_ _ | refine blk_drew ?_ | refine blk_alloc ?_ _)); exact BK310.out) hb); have n5_ := Aside0.mk (blk_below (g := gb319) (o := .cells #[.slice Ao22 t315.length co22] 27 (0, 0)) (by (with_reducible repeat (first | refine blk_drewN ?_ _ | refine blk_drew ?_ | refine blk_alloc ?_ _)); exact BK319.out) hb); have n6_ := Aside0.mk (blk_below (g := gb323) (o := .cells #[.slice Ao28 t335.length co28] 27 (0, 0)) (by (with_reducible repeat (first | refine blk_drewN ?_ _ | refine blk_drew ?_ | refine blk_alloc ?_ _)); exact BK323.out) hb); have n7_ := Aside0.mk (blk_below (g := gb328) (o := .cells #[.slice Ao34 t338.length co34] 27 (0, 0)) (by (with_reducible repeat (first | refine blk_drewN ?_ _ | refine blk_drew ?_ | refine blk_alloc ?_ _)); exact BK328.out) hb); have n8_ := Aside0.mk (blk_below (g := gb347) (o := .cells #[.slice Ao120 t343.length co120] 27 (0, 0)) (by (with_reducible repeat (first | refine blk_drewN ?_ _ | refine blk_drew ?_ | refine blk_alloc ?_ _)); exact BK347.out) hb); have n9_ := Aside0.mk (below_step (by repeat (first | (with_reducible first | exact HB.out | apply below_alloc | apply pw_below_drewN | apply below_drew1 | refine below_set ?_ GE310.out | refine below_set ?_ GE319.out | refine below_set ?_ GE323.out | refine below_set ?_ GE328.out | refine below_set ?_ GE347.out) | exact HB.out)) hb); clear HO_320000; clear HO_324000; clear HO_329000; clear HO_348000; clear BK310; clear BK319; clear BK323; clear BK328; clear BK347; clear HB; have HO_320000 := n0_; have HO_324000 := n1_; have HO_329000 := n2_; have HO_348000 := n3_; have BK310 := n4_; have BK319 := n5_; have BK323 := n6_; have BK328 := n7_; have BK347 := n8_; have HB := n9_; clear n0_ n1_ n2_ n3_ n4_ n5_ n6_ n7_ n8_ n9_; (try clear hb); (try clear hb2); (try clear hk); (try clear hi)))
                                go_ret
                                exact ⟨by first | rfl | (simp [errW_none, errW_some] <;> rfl) | (simp [*, errW_none, errW_some] <;> rfl), by repeat (first | (with_reducible first | exact HB.out | apply below_alloc | apply pw_below_drewN | apply below_drew1 | refine below_set ?_ GE310.out | refine below_set ?_ GE319.out | refine below_set ?_ GE323.out | refine below_set ?_ GE328.out | refine below_set ?_ GE347.out) | exact HB.out)⟩
                              · rw [if_neg c157] at H
                                have c157b0 : (t349 == t337) = false := beq_eq_false_iff_ne.mpr c157
                                have c157b1 : (t349 != t337) = true := bne_iff_ne.mpr c157
                                obtain rfl := Option.some.inj H
                                have hnb164 := NB328_310.out
                                have hnc164 := NB310_328.out
                                have hnb165 := NB328_319.out
                                have hnc165 := NB319_328.out
                                have hnb166 := NB328_323.out
                                have hnc166 := NB323_328.out
                                have hnb167 := NB328_347.out
                                have hnc167 := NB347_328.out
                                have hcz168_0 : wc.cell? ⟨gb328, 0, none⟩ = some (.slice Ao34 t338.length co34) := (blk_cell BK328.out 0).trans rfl
                                have hfz168_0 := blk_frozen BK328.out 0
                                go_wp2_with (first | ((with_reducible refine gate_callee (f := 19) rfl ?_); refine goesL_ (some 100) rfl rfl Try.func19 (by kernel_rfl) rfl #[.agg #[.slice Ao34 t338.length co34], .int .i64 1] rfl (by (try simp only [List.map_toArray, List.map_cons, List.map_nil]); first | done | rfl | (simp only [List.length_drop, List.length_take]; rfl)) ?_; (with_reducible refine (laws_heldTree.calls kj104 _ _ t338 1 t349 _ ?side1 ?side2 A149.out).mono ?_); (case side1 => repeat (first | exact (Kd.R_reads' HO_329000.out).2.2 | (with_reducible refine Kd.C_alloc ?_ _) | (with_reducible refine Kd.C_drewN ?_ _) | (with_reducible refine Kd.C_drew ?_))); (case side2 => exact (Kd.R_reads' HO_329000.out).2.1); rintro e w169 ⟨rfl, hb⟩; refine ⟨_, rfl, ?_⟩; have n0_ := Aside0.mk (Kd.R_below (by (with_reducible repeat (first | apply Kd.R_alloc | apply Kd.R_drewN | apply Kd.R_drew)); exact HO_320000.out) hb); have n1_ := Aside0.mk (Kd.R_below (by (with_reducible repeat (first | apply Kd.R_alloc | apply Kd.R_drewN | apply Kd.R_drew)); exact HO_324000.out) hb); have n2_ := Aside0.mk (Kd.R_below (by (with_reducible repeat (first | apply Kd.R_alloc | apply Kd.R_drewN | apply Kd.R_drew)); exact HO_329000.out) hb); have n3_ := Aside0.mk (Kd.R_below (by (with_reducible repeat (first | apply Kd.R_alloc | apply Kd.R_drewN | apply Kd.R_drew)); exact HO_348000.out) hb); have n4_ := Aside0.mk (blk_below (g := gb310) (o := .cells #[.slice A0_0 l0_0.length c0_0] 35 (0, 0)) (by (with_reducible repeat (first | refine blk_drewN ?_ _ | refine blk_drew ?_ | refine blk_alloc ?_ _)); exact BK310.out) hb); have n5_ := Aside0.mk (blk_below (g := gb319) (o := .cells #[.slice Ao22 t315.length co22] 27 (0, 0)) (by (with_reducible repeat (first | refine blk_drewN ?_ _ | refine blk_drew ?_ | refine blk_alloc ?_ _)); exact BK319.out) hb); have n6_ := Aside0.mk (blk_below (g := gb323) (o := .cells #[.slice Ao28 t335.length co28] 27 (0, 0)) (by (with_reducible repeat (first | refine blk_drewN ?_ _ | refine blk_drew ?_ | refine blk_alloc ?_ _)); exact BK323.out) hb); have n7_ := Aside0.mk (blk_below (g := gb328) (o := .cells #[.slice Ao34 t338.length co34] 27 (0, 0)) (by (with_reducible repeat (first | refine blk_drewN ?_ _ | refine blk_drew ?_ | refine blk_alloc ?_ _)); exact BK328.out) hb); have n8_ := Aside0.mk (blk_below (g := gb347) (o := .cells #[.slice Ao120 t343.length co120] 27 (0, 0)) (by (with_reducible repeat (first | refine blk_drewN ?_ _ | refine blk_drew ?_ | refine blk_alloc ?_ _)); exact BK347.out) hb); have n9_ := Aside0.mk (below_step (by repeat (first | (with_reducible first | exact HB.out | apply below_alloc | apply pw_below_drewN | apply below_drew1 | refine below_set ?_ GE310.out | refine below_set ?_ GE319.out | refine below_set ?_ GE323.out | refine below_set ?_ GE328.out | refine below_set ?_ GE347.out) | exact HB.out)) hb); clear HO_320000; clear HO_324000; clear HO_329000; clear HO_348000; clear BK310; clear BK319; clear BK323; clear BK328; clear BK347; clear HB; have HO_320000 := n0_; have HO_324000 := n1_; have HO_329000 := n2_; have HO_348000 := n3_; have BK310 := n4_; have BK319 := n5_; have BK323 := n6_; have BK328 := n7_; have BK347 := n8_; have HB := n9_; clear n0_ n1_ n2_ n3_ n4_ n5_ n6_ n7_ n8_ n9_; (try clear hb); (try clear hb2); (try clear hk); (try clear hi)))
                                go_ret
                                exact ⟨by first | rfl | (simp [errW_none, errW_some] <;> rfl) | (simp [*, errW_none, errW_some] <;> rfl), by repeat (first | (with_reducible first | exact HB.out | apply below_alloc | apply pw_below_drewN | apply below_drew1 | refine below_set ?_ GE310.out | refine below_set ?_ GE319.out | refine below_set ?_ GE323.out | refine below_set ?_ GE328.out | refine below_set ?_ GE347.out) | exact HB.out)⟩
                    · rw [if_neg c102] at H
                      have c102b0 : (t339 == t337) = false := beq_eq_false_iff_ne.mpr c102
                      have c102b1 : (t339 != t337) = true := bne_iff_ne.mpr c102
                      obtain rfl := Option.some.inj H
                      have hnb170 := NB328_310.out
                      have hnc170 := NB310_328.out
                      have hnb171 := NB328_319.out
                      have hnc171 := NB319_328.out
                      have hnb172 := NB328_323.out
                      have hnc172 := NB323_328.out
                      have hcz173_0 : wc.cell? ⟨gb328, 0, none⟩ = some (.slice Ao34 t324.length co34) := (blk_cell BK328.out 0).trans rfl
                      have hfz173_0 := blk_frozen BK328.out 0
                      go_wp2_with (first | ((with_reducible refine gate_callee (f := 18) rfl ?_); refine goesL_ (some 72) rfl rfl Try.func18 (by kernel_rfl) rfl #[.agg #[.slice Ao34 t324.length co34], .int .i64 1] rfl (by (try simp only [List.map_toArray, List.map_cons, List.map_nil]); first | done | rfl | (simp only [List.length_drop, List.length_take]; rfl)) ?_; (with_reducible refine (laws_markTree.calls kj61 (fun k_ => some k_ = (.slice Ao34 t324.length co34 : Value).ownBlock) (.slice Ao34 t324.length co34) t324 1 t337 t338 w _ ?side1 ?side2 A92.out).mono ?_); (case side1 => repeat (first | (with_reducible first | exact HB.out | apply below_alloc | apply pw_below_drewN | apply below_drew1 | refine below_set ?_ GE310.out | refine below_set ?_ GE319.out | refine below_set ?_ GE323.out | refine below_set ?_ GE328.out) | exact HB.out)); (case side2 => exact Kd.R_tight rfl HO_329000.out); rintro e w174 ⟨rfl, hy0, hb, hkp⟩; refine ⟨_, rfl, ?_⟩; have n0_ := Aside0.mk (Kd.R_mono (ok' := fun k_ => some k_ ≠ (.slice Ao28 t335.length co28 : Value).ownBlock ∧ some k_ ≠ (.slice Ao34 t324.length co34 : Value).ownBlock) (Kd.R_keptB (HO_320000.out) hkp (fun k_ hk_ hs_ => (hk_.2) hs_)) (fun k_ hk_ => ⟨hk_.1.1, hk_.1.2⟩)); have n1_ := Aside0.mk (Kd.R_mono (ok' := fun k_ => some k_ ≠ (.slice Ao22 t315.length co22 : Value).ownBlock ∧ some k_ ≠ (.slice Ao34 t324.length co34 : Value).ownBlock) (Kd.R_keptB (HO_324000.out) hkp (fun k_ hk_ hs_ => (hk_.2) hs_)) (fun k_ hk_ => ⟨hk_.1.1, hk_.1.2⟩)); have n2_ := Aside0.mk (Kd.R_reok rfl hy0 (fun k_ e_ => HO_329000.out.1 k_ e_)); have n3_ := Aside0.mk (blk_kept (by (with_reducible repeat (first | refine blk_drewN ?_ _ | refine blk_drew ?_ | refine blk_alloc ?_ _)); exact BK310.out) hkp (fun hs_ => (fun e_ => (Kd.R_ne HO_329000.out BK310.out (by decide)) e_) hs_)); have n4_ := Aside0.mk (blk_kept (by (with_reducible repeat (first | refine blk_drewN ?_ _ | refine blk_drew ?_ | refine blk_alloc ?_ _)); exact BK319.out) hkp (fun hs_ => (fun e_ => (Kd.R_ne HO_329000.out BK319.out (by decide)) e_) hs_)); have n5_ := Aside0.mk (blk_kept (by (with_reducible repeat (first | refine blk_drewN ?_ _ | refine blk_drew ?_ | refine blk_alloc ?_ _)); exact BK323.out) hkp (fun hs_ => (fun e_ => (Kd.R_ne HO_329000.out BK323.out (by decide)) e_) hs_)); have n6_ := Aside0.mk (blk_kept (by (with_reducible repeat (first | refine blk_drewN ?_ _ | refine blk_drew ?_ | refine blk_alloc ?_ _)); exact BK328.out) hkp (fun hs_ => (fun e_ => (Kd.R_ne HO_329000.out BK328.out (by decide)) e_) hs_)); have n7_ := Aside0.mk (hb); clear HO_320000; clear HO_324000; clear HO_329000; clear BK310; clear BK319; clear BK323; clear BK328; clear HB; have HO_320000 := n0_; have HO_324000 := n1_; have HO_329000 := n2_; have BK310 := n3_; have BK319 := n4_; have BK323 := n5_; have BK328 := n6_; have HB := n7_; clear n0_ n1_ n2_ n3_ n4_ n5_ n6_ n7_; (try clear hb); (try clear hkp); (try clear hy0); have hcz175_0 : w174.cell? ⟨gb328, 0, none⟩ = some (.slice Ao34 t324.length co34) := (blk_cell BK328.out 0).trans rfl; have hfz175_0 := blk_frozen BK328.out 0) | ((with_reducible refine gate_callee (f := 19) rfl ?_); refine goesL_ (some 75) rfl rfl Try.func19 (by kernel_rfl) rfl #[.agg #[.slice Ao34 t338.length co34], .int .i64 1] rfl (by (try simp only [List.map_toArray, List.map_cons, List.map_nil]); first | done | (rw [show t338.length = t324.length from (Kd.R_reads' HO_329000.out).1.symm] <;> rfl) | rfl | (simp only [List.length_drop, List.length_take]; rfl)) ?_; (with_reducible refine (laws_heldTree.calls kj61 _ _ t338 1 t339 _ ?side1 ?side2 A93.out).mono ?_); (case side1 => repeat (first | exact (Kd.R_reads' HO_329000.out).2.2 | (with_reducible refine Kd.C_alloc ?_ _) | (with_reducible refine Kd.C_drewN ?_ _) | (with_reducible refine Kd.C_drew ?_))); (case side2 => rw [show t338.length = t324.length from (Kd.R_reads' HO_329000.out).1.symm]; exact (Kd.R_reads' HO_329000.out).2.1); rintro e w176 ⟨rfl, hb⟩; refine ⟨_, rfl, ?_⟩; have n0_ := Aside0.mk (Kd.R_below (by (with_reducible repeat (first | apply Kd.R_alloc | apply Kd.R_drewN | apply Kd.R_drew)); exact HO_320000.out) hb); have n1_ := Aside0.mk (Kd.R_below (by (with_reducible repeat (first | apply Kd.R_alloc | apply Kd.R_drewN | apply Kd.R_drew)); exact HO_324000.out) hb); have n2_ := Aside0.mk (Kd.R_below (by (with_reducible repeat (first | apply Kd.R_alloc | apply Kd.R_drewN | apply Kd.R_drew)); exact HO_329000.out) hb); have n3_ := Aside0.mk (blk_below (g := gb310) (o := .cells #[.slice A0_0 l0_0.length c0_0] 35 (0, 0)) (by (with_reducible repeat (first | refine blk_drewN ?_ _ | refine blk_drew ?_ | refine blk_alloc ?_ _)); exact BK310.out) hb); have n4_ := Aside0.mk (blk_below (g := gb319) (o := .cells #[.slice Ao22 t315.length co22] 27 (0, 0)) (by (with_reducible repeat (first | refine blk_drewN ?_ _ | refine blk_drew ?_ | refine blk_alloc ?_ _)); exact BK319.out) hb); have n5_ := Aside0.mk (blk_below (g := gb323) (o := .cells #[.slice Ao28 t335.length co28] 27 (0, 0)) (by (with_reducible repeat (first | refine blk_drewN ?_ _ | refine blk_drew ?_ | refine blk_alloc ?_ _)); exact BK323.out) hb); have n6_ := Aside0.mk (blk_below (g := gb328) (o := .cells #[.slice Ao34 t324.length co34] 27 (0, 0)) (by (with_reducible repeat (first | refine blk_drewN ?_ _ | refine blk_drew ?_ | refine blk_alloc ?_ _)); exact BK328.out) hb); have n7_ := Aside0.mk (below_step (by repeat (first | (with_reducible first | exact HB.out | apply below_alloc | apply pw_below_drewN | apply below_drew1 | refine below_set ?_ GE310.out | refine below_set ?_ GE319.out | refine below_set ?_ GE323.out | refine below_set ?_ GE328.out) | exact HB.out)) hb); clear HO_320000; clear HO_324000; clear HO_329000; clear BK310; clear BK319; clear BK323; clear BK328; clear HB; have HO_320000 := n0_; have HO_324000 := n1_; have HO_329000 := n2_; have BK310 := n3_; have BK319 := n4_; have BK323 := n5_; have BK328 := n6_; have HB := n7_; clear n0_ n1_ n2_ n3_ n4_ n5_ n6_ n7_; (try clear hb); (try clear hb2); (try clear hk); (try clear hi)))
                      go_ret
                      exact ⟨by first | rfl | (simp [errW_none, errW_some] <;> rfl) | (simp [*, errW_none, errW_some] <;> rfl), by repeat (first | (with_reducible first | exact HB.out | apply below_alloc | apply pw_below_drewN | apply below_drew1 | refine below_set ?_ GE310.out | refine below_set ?_ GE319.out | refine below_set ?_ GE323.out | refine below_set ?_ GE328.out) | exact HB.out)⟩
          · replace c60 := Bool.eq_false_iff.mpr c60
            subst c60
            have H1 : (some false) = some r := by rw [if_neg (show ¬ (false = true) by decide)] at H; exact H
            clear H
            have H := H1
            clear H1
            obtain rfl := Option.some.inj H
            try go_wp2
            have n0_ := Aside0.mk (Kd.R_drew HO_320000.out)
            have n1_ := Aside0.mk (Kd.R_drew HO_324000.out)
            have n2_ := Aside0.mk (Kd.R_drew HO_329000.out)
            have n3_ := Aside0.mk (blk_drew BK310.out)
            have n4_ := Aside0.mk (blk_drew BK319.out)
            have n5_ := Aside0.mk (blk_drew BK323.out)
            have n6_ := Aside0.mk (blk_drew BK328.out)
            have n7_ := Aside0.mk (below_drew1 HB.out)
            clear HO_320000
            clear HO_324000
            clear HO_329000
            clear BK310
            clear BK319
            clear BK323
            clear BK328
            clear HB
            have HO_320000 := n0_
            have HO_324000 := n1_
            have HO_329000 := n2_
            have BK310 := n3_
            have BK319 := n4_
            have BK323 := n5_
            have BK328 := n6_
            have HB := n7_
            clear n0_ n1_ n2_ n3_ n4_ n5_ n6_ n7_
            refine start_ (n := 5) (S := fun w' => w'.cell? ⟨gb323, 0, none⟩ = some (.slice Ao28 t320.length co28) ∧ w'.cell? ⟨gb310, 0, none⟩ = some (.slice A0_0 l0_0.length c0_0)) (ds := []) #[false, false, false, false, false] (by kernel_rfl) rfl rfl ⟨(blk_cell BK323.out 0).trans rfl, (blk_cell BK310.out 0).trans rfl⟩ (fun hHeld => ?_)
            generalize wc.drew = w177 at HO_320000 HO_324000 HO_329000 BK310 BK319 BK323 BK328 HB hHeld ⊢
            refine take_ (i := 0) (N := some 49) (v := ?_) (a' := ?_) #[true, false, false, false, false] rfl rfl (by kernel_rfl) (fun _ _ _ h => h) (Or.inl ⟨by rfl, ?_⟩) hHeld ?_ ?_
            rotate_left
            · rintro w' ⟨s0, s1⟩
              go_simp
              with_reducible rfl
            rotate_left
            · simp only [Act.put, List.setIfInBounds_toArray, List.set_cons_zero, List.set_cons_succ, i64_w, i32_w]
              rfl
            refine take_ (i := 1) (N := some 50) (v := ?_) (a' := ?_) #[true, true, false, false, false] rfl rfl (by kernel_rfl) (fun _ _ _ h => h) (Or.inl ⟨by rfl, ?_⟩) hHeld ?_ ?_
            rotate_left
            · rintro w' ⟨s0, s1⟩
              go_simp
              with_reducible rfl
            rotate_left
            · simp only [Act.put, List.setIfInBounds_toArray, List.set_cons_zero, List.set_cons_succ, i64_w, i32_w]
              rfl
            refine one_ (i := 2) (N := some 51) #[true, true, true, false, false] rfl rfl (by kernel_rfl) (by decide) (fun K hK => ?_)
            refine goes_ Try.func24 (by kernel_rfl) rfl #[.agg #[.slice A0_0 l0_0.length c0_0]] (by rfl) rfl rfl (by (try simp only [List.map_toArray, List.map_cons, List.map_nil]); first | done | rfl | (simp only [List.length_drop, List.length_take]; rfl)) ?_
            with_reducible refine (laws_toTree.calls kj12 _ _ l0_0 t330 _ ?side1 ?side2 A58.out).mono ?_
            (case side1 => repeat (first | exact (Kd.C_below HR0_0.out HB.out) | (with_reducible refine Kd.C_alloc ?_ _) | (with_reducible refine Kd.C_drewN ?_ _) | (with_reducible refine Kd.C_drew ?_)))
            (case side2 => exact HC0_0.out)
            rintro e w178 ⟨v331, rfl, ho0, hb⟩
            refine ⟨_, rfl, ?_⟩
            have n0_ := Aside0.mk (Kd.R_elder' (by (with_reducible repeat (first | apply Kd.R_alloc | apply Kd.R_drewN | apply Kd.R_drew)); exact HO_320000.out) (Kd.R_base ho0) hb)
            have n1_ := Aside0.mk (Kd.R_elder' (by (with_reducible repeat (first | apply Kd.R_alloc | apply Kd.R_drewN | apply Kd.R_drew)); exact HO_324000.out) (Kd.R_base ho0) hb)
            have n2_ := Aside0.mk (Kd.R_elder' (by (with_reducible repeat (first | apply Kd.R_alloc | apply Kd.R_drewN | apply Kd.R_drew)); exact HO_329000.out) (Kd.R_base ho0) hb)
            have n3_ := Aside0.mk (Kd.R_lower (Kd.R_new' (Kd.R_new' (Kd.R_new' ho0 (Kd.R_lt (by (with_reducible repeat (first | apply Kd.R_alloc | apply Kd.R_drewN | apply Kd.R_drew)); exact HO_320000.out))) (Kd.R_lt (by (with_reducible repeat (first | apply Kd.R_alloc | apply Kd.R_drewN | apply Kd.R_drew)); exact HO_324000.out))) (Kd.R_lt (by (with_reducible repeat (first | apply Kd.R_alloc | apply Kd.R_drewN | apply Kd.R_drew)); exact HO_329000.out))) (below_size (by repeat (first | (with_reducible first | exact HB.out | apply below_alloc | apply pw_below_drewN | apply below_drew1 | refine below_set ?_ GE310.out | refine below_set ?_ GE319.out | refine below_set ?_ GE323.out | refine below_set ?_ GE328.out) | exact HB.out))))
            have n4_ := Aside0.mk (blk_below (g := gb310) (o := .cells #[.slice A0_0 l0_0.length c0_0] 35 (0, 0)) (by (with_reducible repeat (first | refine blk_drewN ?_ _ | refine blk_drew ?_ | refine blk_alloc ?_ _)); exact BK310.out) hb)
            have n5_ := Aside0.mk (blk_below (g := gb319) (o := .cells #[.slice Ao22 t315.length co22] 27 (0, 0)) (by (with_reducible repeat (first | refine blk_drewN ?_ _ | refine blk_drew ?_ | refine blk_alloc ?_ _)); exact BK319.out) hb)
            have n6_ := Aside0.mk (blk_below (g := gb323) (o := .cells #[.slice Ao28 t320.length co28] 27 (0, 0)) (by (with_reducible repeat (first | refine blk_drewN ?_ _ | refine blk_drew ?_ | refine blk_alloc ?_ _)); exact BK323.out) hb)
            have n7_ := Aside0.mk (blk_below (g := gb328) (o := .cells #[.slice Ao34 t324.length co34] 27 (0, 0)) (by (with_reducible repeat (first | refine blk_drewN ?_ _ | refine blk_drew ?_ | refine blk_alloc ?_ _)); exact BK328.out) hb)
            have n8_ := Aside0.mk (below_step (by repeat (first | (with_reducible first | exact HB.out | apply below_alloc | apply pw_below_drewN | apply below_drew1 | refine below_set ?_ GE310.out | refine below_set ?_ GE319.out | refine below_set ?_ GE323.out | refine below_set ?_ GE328.out) | exact HB.out)) hb)
            clear HO_320000
            clear HO_324000
            clear HO_329000
            clear BK310
            clear BK319
            clear BK323
            clear BK328
            clear HB
            have HO_320000 := n0_
            have HO_324000 := n1_
            have HO_329000 := n2_
            have HO332 := n3_
            have BK310 := n4_
            have BK319 := n5_
            have BK323 := n6_
            have BK328 := n7_
            have HB := n8_
            clear n0_ n1_ n2_ n3_ n4_ n5_ n6_ n7_ n8_
            (try clear hb)
            (try clear hb2)
            (try clear hk)
            (try clear hi)
            (try clear ho0)
            obtain ⟨Ao179, co179, eo179⟩ := Kd.R_slice HO332.out
            (first | subst eo179 | (injection eo179 with f1_ f2_ f3_; have f4_ := f1_.symm; have f5_ := f3_.symm; clear f1_ f2_ f3_; subst f4_; subst f5_))
            refine hK.out _ _ ⟨(blk_cell BK323.out 0).trans rfl, (blk_cell BK310.out 0).trans rfl⟩ (fun hHeld => ?_)
            clear hK K
            refine norm_ (a' := ?_) ?_ ?_
            rotate_left
            · show Act.put _ (some 51) _ = _
              simp only [Act.put, List.setIfInBounds_toArray, List.set_cons_zero, List.set_cons_succ, i64_w, i32_w]
              rfl
            refine one_ (i := 3) (N := some 52) #[true, true, true, true, false] rfl rfl (by kernel_rfl) (by decide) (fun K hK => ?_)
            refine goes_ Try.func17 (by kernel_rfl) rfl #[.agg #[.slice Ao28 t320.length co28], .agg #[.slice Ao179 t330.length co179]] (by rfl) rfl rfl (by (try simp only [List.map_toArray, List.map_cons, List.map_nil]); first | done | rfl | (simp only [List.length_drop, List.length_take]; rfl)) ?_
            with_reducible refine (laws_eqTree.calls kj12 _ _ t320 _ _ t330 false _ ?side1 ?side2 ?side3 ?side4 A59.out).mono ?_
            (case side1 => repeat (first | exact (Kd.R_reads' HO_324000.out).2.2 | (with_reducible refine Kd.C_alloc ?_ _) | (with_reducible refine Kd.C_drewN ?_ _) | (with_reducible refine Kd.C_drew ?_)))
            (case side2 => exact (Kd.R_reads' HO_324000.out).2.1)
            (case side3 => repeat (first | exact (Kd.R_reads' HO332.out).2.2 | (with_reducible refine Kd.C_alloc ?_ _) | (with_reducible refine Kd.C_drewN ?_ _) | (with_reducible refine Kd.C_drew ?_)))
            (case side4 => exact (Kd.R_reads' HO332.out).2.1)
            rintro e w180 ⟨rfl, hb⟩
            refine ⟨_, rfl, ?_⟩
            have n0_ := Aside0.mk (Kd.R_below (by (with_reducible repeat (first | apply Kd.R_alloc | apply Kd.R_drewN | apply Kd.R_drew)); exact HO_320000.out) hb)
            have n1_ := Aside0.mk (Kd.R_below (by (with_reducible repeat (first | apply Kd.R_alloc | apply Kd.R_drewN | apply Kd.R_drew)); exact HO_324000.out) hb)
            have n2_ := Aside0.mk (Kd.R_below (by (with_reducible repeat (first | apply Kd.R_alloc | apply Kd.R_drewN | apply Kd.R_drew)); exact HO_329000.out) hb)
            have n3_ := Aside0.mk (Kd.R_below (by (with_reducible repeat (first | apply Kd.R_alloc | apply Kd.R_drewN | apply Kd.R_drew)); exact HO332.out) hb)
            have n4_ := Aside0.mk (blk_below (g := gb310) (o := .cells #[.slice A0_0 l0_0.length c0_0] 35 (0, 0)) (by (with_reducible repeat (first | refine blk_drewN ?_ _ | refine blk_drew ?_ | refine blk_alloc ?_ _)); exact BK310.out) hb)
            have n5_ := Aside0.mk (blk_below (g := gb319) (o := .cells #[.slice Ao22 t315.length co22] 27 (0, 0)) (by (with_reducible repeat (first | refine blk_drewN ?_ _ | refine blk_drew ?_ | refine blk_alloc ?_ _)); exact BK319.out) hb)
            have n6_ := Aside0.mk (blk_below (g := gb323) (o := .cells #[.slice Ao28 t320.length co28] 27 (0, 0)) (by (with_reducible repeat (first | refine blk_drewN ?_ _ | refine blk_drew ?_ | refine blk_alloc ?_ _)); exact BK323.out) hb)
            have n7_ := Aside0.mk (blk_below (g := gb328) (o := .cells #[.slice Ao34 t324.length co34] 27 (0, 0)) (by (with_reducible repeat (first | refine blk_drewN ?_ _ | refine blk_drew ?_ | refine blk_alloc ?_ _)); exact BK328.out) hb)
            have n8_ := Aside0.mk (below_step (by repeat (first | (with_reducible first | exact HB.out | apply below_alloc | apply pw_below_drewN | apply below_drew1 | refine below_set ?_ GE310.out | refine below_set ?_ GE319.out | refine below_set ?_ GE323.out | refine below_set ?_ GE328.out) | exact HB.out)) hb)
            clear HO_320000
            clear HO_324000
            clear HO_329000
            clear HO332
            clear BK310
            clear BK319
            clear BK323
            clear BK328
            clear HB
            have HO_320000 := n0_
            have HO_324000 := n1_
            have HO_329000 := n2_
            have HO332 := n3_
            have BK310 := n4_
            have BK319 := n5_
            have BK323 := n6_
            have BK328 := n7_
            have HB := n8_
            clear n0_ n1_ n2_ n3_ n4_ n5_ n6_ n7_ n8_
            (try clear hb)
            (try clear hb2)
            (try clear hk)
            (try clear hi)
            refine hK.out _ _ ⟨(blk_cell BK323.out 0).trans rfl, (blk_cell BK310.out 0).trans rfl⟩ (fun hHeld => ?_)
            clear hK K
            refine norm_ (a' := ?_) ?_ ?_
            rotate_left
            · show Act.put _ (some 52) _ = _
              simp only [Act.put, List.setIfInBounds_toArray, List.set_cons_zero, List.set_cons_succ, i64_w, i32_w]
              rfl
            refine pure_ (i := 4) (N := some 53) (v := ?_) (a' := ?_) #[true, true, true, true, true] rfl rfl (by kernel_rfl) (fun _ _ _ h => h) (Or.inl ⟨by rfl, ?_⟩) ?_ ?_
            rotate_left
            · intro w'
              go_simp
              with_reducible rfl
            rotate_left
            · simp only [Act.put, List.setIfInBounds_toArray, List.set_cons_zero, List.set_cons_succ, i64_w, i32_w]
              rfl
            refine done_ (by kernel_rfl) ?_
            try go_wp2
            go_ret
            exact ⟨by first | rfl | (simp [errW_none, errW_some] <;> rfl) | (simp [*, errW_none, errW_some] <;> rfl), by repeat (first | (with_reducible first | exact HB.out | apply below_alloc | apply pw_below_drewN | apply below_drew1 | refine below_set ?_ GE310.out | refine below_set ?_ GE319.out | refine below_set ?_ GE323.out | refine below_set ?_ GE328.out) | exact HB.out)⟩

end Go.Proofs.Ytgbhlmmmighanaa.E
