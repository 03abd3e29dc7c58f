/- The row of the law FnExactOppositeAutomaton, out of its pure statement. -/
import Derived.Test.YtmahokdlfmehjaaQOPEx0
import Derived.Test.YtmahokdlfmehjaaQOPEx1
import Derived.Test.YtmahokdlfmehjaaQOPEx4
import Derived.Test.YtmahokdlfmehjaaQOPEx8
-- Written by wip/ext.py of this claim (contracts by the form of the kit's print; hand-written ones among them).
namespace Go.Proofs.Ytmahokdlfmehjaa.E
open Go.RowKit Go.Proofs.YtmahokdlfmehjaaW.PrintWords Go.Proofs.YtmahokdlfmehjaaW.PrintLast Go.Proofs.YtmahokdlfmehjaaW.PrintMore
attribute [local go_sem] max2_int min2_int max_two min_two max_three min_three max_four min_four   -- for this text's walks alone
set_option linter.unusedVariables false
set_option linter.unusedSimpArgs false

mutual
def laws_FnExactOppositeAutomaton.j0 : Nat → Int → Int → Bool → Int → List (List Int) → List Int → Int → List (List Int) → List Int → Int → List (List Int) → List Int → Int → List (List Int) → List Int → Option (Bool)
 | 0, _, _, _, _, _, _, _, _, _, _, _, _, _, _, _ => none
 | k + 1, x5, x8, x40, x248000, x248001, x248002, x265000, x265001, x265002, x273000, x273001, x273002, x282000, x282001, x282002 => if x40 = true then (some false) else ((laws_toAutomaton.f k x248000 x248001 x248002).bind fun bt283 => ((laws_eqAutomaton.f k x273000 x273001 x273002 bt283.1 bt283.2.1 bt283.2.2).bind fun t290 => (if t290 = true then ((laws_markAutomaton.f k x273000 x273001 x273002 1).bind fun bt291 => (if bt291.1 < 0 then (laws_FnExactOppositeAutomaton.j1 k x5 true x248000 x248001 x248002 x265000 x265001 x265002 x282000 x282001 x282002) else ((laws_eqAutomaton.f k x282000 x282001 x282002 x265000 x265001 x265002).bind fun t294 => (if t294 = true then (laws_FnExactOppositeAutomaton.j1 k x5 (x8 != x5) x248000 x248001 x248002 x265000 x265001 x265002 x282000 x282001 x282002) else (laws_FnExactOppositeAutomaton.j1 k x5 true x248000 x248001 x248002 x265000 x265001 x265002 x282000 x282001 x282002))))) else (some false))))
def laws_FnExactOppositeAutomaton.j1 : Nat → Int → Bool → Int → List (List Int) → List Int → Int → List (List Int) → List Int → Int → List (List Int) → List Int → Option (Bool)
 | 0, _, _, _, _, _, _, _, _, _, _, _ => none
 | k + 1, x5, x61, x248000, x248001, x248002, x265000, x265001, x265002, x282000, x282001, x282002 => if x61 = true then (some false) else ((laws_markAutomaton.f k x282000 x282001 x282002 1).bind fun bt295 => ((laws_heldAutomaton.f k x282000 bt295.2.1 bt295.2.2 1).bind fun t298 => (if t298 < 0 then (some false) else (if t298 = bt295.1 then ((laws_toAutomaton.f k x248000 x248001 x248002).bind fun bt299 => ((impl_OppositeAutomaton.f k bt299.1 bt299.2.1 bt299.2.2).bind fun bt306 => ((laws_eqAutomaton.f k bt306.1 bt306.2.1 bt306.2.2.1 x265000 x265001 x265002).bind fun t315 => (if t315 = true then (laws_FnExactOppositeAutomaton.j2 k bt295.1 (bt306.2.2.2 != x5) x282000 bt295.2.1 bt295.2.2) else (laws_FnExactOppositeAutomaton.j2 k bt295.1 true x282000 bt295.2.1 bt295.2.2))))) else (some false)))))
def laws_FnExactOppositeAutomaton.j2 : Nat → Int → Bool → Int → List (List Int) → List Int → Option (Bool)
 | 0, _, _, _, _, _ => none
 | k + 1, x10, x87, x282000, x282001, x282002 => if x87 = true then (some false) else ((laws_heldAutomaton.f k x282000 x282001 x282002 1).bind fun t316 => (if t316 < 0 then (some false) else (if t316 = x10 then (some true) else (some false))))
end
def laws_FnExactOppositeAutomaton.f (k : Nat) (a0_0 : Int) (l0_1 : List (List Int)) (l0_2 : List Int) : Option (Bool) := (laws_szAutomaton.f k a0_0 l0_1 l0_2 1048576).bind fun t248 => (if t248 < 0 then (some true) else ((laws_toAutomaton.f k a0_0 l0_1 l0_2).bind fun bt249 => ((spec_OppositeAutomaton.f k bt249.1 bt249.2.1 bt249.2.2).bind fun bt256 => ((laws_toAutomaton.f k a0_0 l0_1 l0_2).bind fun bt265 => ((impl_OppositeAutomaton.f k bt265.1 bt265.2.1 bt265.2.2).bind fun bt273 => ((laws_eqAutomaton.f k bt273.1 bt273.2.1 bt273.2.2.1 bt256.1 bt256.2.1 bt256.2.2.1).bind fun t282 => (if t282 = true then (laws_FnExactOppositeAutomaton.j0 k bt256.2.2.2 bt273.2.2.2 (bt273.2.2.2 != bt256.2.2.2) a0_0 l0_1 l0_2 bt256.1 bt256.2.1 bt256.2.2.1 bt265.1 bt265.2.1 bt265.2.2 bt273.1 bt273.2.1 bt273.2.2.1) else (laws_FnExactOppositeAutomaton.j0 k bt256.2.2.2 bt273.2.2.2 true a0_0 l0_1 l0_2 bt256.1 bt256.2.1 bt256.2.2.1 bt265.1 bt265.2.1 bt265.2.2 bt273.1 bt273.2.1 bt273.2.2.1))))))))
set_option maxHeartbeats 8000000 in
set_option maxRecDepth 100000 in
theorem laws_FnExactOppositeAutomaton.calls (k : Nat) (a0_0 : Int) (A0_1 : Option Addr) (c0_1 : Nat) (l0_1 : List (List Int)) (A0_2 : Option Addr) (c0_2 : Nat) (l0_2 : List Int) (r : Bool) (w : World) (hr0_1 : Kd.C (Kd.slice 2 (Kd.int .i64)) w A0_1 l0_1.length l0_1) (hc0_1 : l0_1.length ≤ c0_1) (hr0_2 : Kd.C (Kd.int .i64) w A0_2 l0_2.length l0_2) (hc0_2 : l0_2.length ≤ c0_2) (h : laws_FnExactOppositeAutomaton.f k a0_0 l0_1 l0_2 = some r) :
  Calls Try.prog 4 #[.agg #[.int .i64 a0_0, .slice A0_1 l0_1.length c0_1, .slice A0_2 l0_2.length c0_2]] w fun e w' => e = .returned (.bool r) ∧ Below w.heap.size w w' := by
 have hu25 := Try.underlying25
 have hu28 := Try.underlying28
 have HR0_1 := Aside0.mk hr0_1
 have HC0_1 := Aside0.mk hc0_1
 clear hr0_1 hc0_1
 have HR0_2 := Aside0.mk hr0_2
 have HC0_2 := Aside0.mk hc0_2
 clear hr0_2 hc0_2
 have HB := Aside0.mk (Below.refl w.heap.size w)
 have H : ((laws_szAutomaton.f k a0_0 l0_1 l0_2 1048576).bind fun t248 => (if t248 < 0 then (some true) else ((laws_toAutomaton.f k a0_0 l0_1 l0_2).bind fun bt249 => ((spec_OppositeAutomaton.f k bt249.1 bt249.2.1 bt249.2.2).bind fun bt256 => ((laws_toAutomaton.f k a0_0 l0_1 l0_2).bind fun bt265 => ((impl_OppositeAutomaton.f k bt265.1 bt265.2.1 bt265.2.2).bind fun bt273 => ((laws_eqAutomaton.f k bt273.1 bt273.2.1 bt273.2.2.1 bt256.1 bt256.2.1 bt256.2.2.1).bind fun t282 => (if t282 = true then (laws_FnExactOppositeAutomaton.j0 k bt256.2.2.2 bt273.2.2.2 (bt273.2.2.2 != bt256.2.2.2) a0_0 l0_1 l0_2 bt256.1 bt256.2.1 bt256.2.2.1 bt265.1 bt265.2.1 bt265.2.2 bt273.1 bt273.2.1 bt273.2.2.1) else (laws_FnExactOppositeAutomaton.j0 k bt256.2.2.2 bt273.2.2.2 true a0_0 l0_1 l0_2 bt256.1 bt256.2.1 bt256.2.2.1 bt265.1 bt265.2.1 bt265.2.2 bt273.1 bt273.2.1 bt273.2.2.1))))))))) = some r := h
 clear h
 replace H := Option.bind_eq_some_iff.mp H
 obtain ⟨t248, A20, H⟩ := H
 replace H : (if t248 < 0 then (some true) else ((laws_toAutomaton.f k a0_0 l0_1 l0_2).bind fun bt249 => ((spec_OppositeAutomaton.f k bt249.1 bt249.2.1 bt249.2.2).bind fun bt256 => ((laws_toAutomaton.f k a0_0 l0_1 l0_2).bind fun bt265 => ((impl_OppositeAutomaton.f k bt265.1 bt265.2.1 bt265.2.2).bind fun bt273 => ((laws_eqAutomaton.f k bt273.1 bt273.2.1 bt273.2.2.1 bt256.1 bt256.2.1 bt256.2.2.1).bind fun t282 => (if t282 = true then (laws_FnExactOppositeAutomaton.j0 k bt256.2.2.2 bt273.2.2.2 (bt273.2.2.2 != bt256.2.2.2) a0_0 l0_1 l0_2 bt256.1 bt256.2.1 bt256.2.2.1 bt265.1 bt265.2.1 bt265.2.2 bt273.1 bt273.2.1 bt273.2.2.1) else (laws_FnExactOppositeAutomaton.j0 k bt256.2.2.2 bt273.2.2.2 true a0_0 l0_1 l0_2 bt256.1 bt256.2.1 bt256.2.2.1 bt265.1 bt265.2.1 bt265.2.2 bt273.1 bt273.2.1 bt273.2.2.1)))))))) = some r := H
 have A2 := Aside0.mk A20
 clear A20
 by_cases c3 : t248 < 0
 ·rw [if_pos c3] at H
  have c3b0 : decide (t248 < 0) = true := decide_eq_true c3
  clear c3
  obtain rfl := Option.some.inj H
  go_enter Try.func4, Try.ntmps4
  go_wp2_with (first | ((with_reducible refine gate_dst (N := 1) rfl ?_); refine box_event ?hg (N := 1) ?hd (cs := #[.int .i64 a0_0, .slice A0_1 l0_1.length c0_1, .slice A0_2 l0_2.length c0_2]) (t := 25) ?hr ?_; (case hd => rfl); (case hg => rfl); (case hr => first | (go_simp; done) | (go_simp; rfl)); intro gb247 hg w4 hbox hb; have n0_ := Aside0.mk (below_step (by repeat (first | (with_reducible first | exact HB.out | apply below_alloc | apply pw_below_drewN | apply below_drew1) | exact HB.out)) hb); have n1_ := Aside0.mk (hbox); have n2_ := Aside0.mk ((by rw [hg]; exact (below_size (by repeat (first | (with_reducible first | exact HB.out | apply below_alloc | apply pw_below_drewN | apply below_drew1) | exact HB.out))) : w.heap.size ≤ gb247)); have n3_ := Aside0.mk ((by rw [hg]; exact (below_size (by repeat (first | (with_reducible first | exact HB.out | apply below_alloc | apply pw_below_drewN | apply below_drew1) | exact HB.out))) : w.heap.size ≤ gb247)); clear HB; have HB := n0_; have BK247 := n1_; have GW247 := n2_; have GE247 := n3_; clear n0_ n1_ n2_ n3_; clear hb hbox hg; have hcz5_0 : w4.cell? ⟨gb247, 0, none⟩ = some (.int .i64 a0_0) := (blk_cell BK247.out 0).trans rfl; have hcz5_1 : w4.cell? ⟨gb247, 1, none⟩ = some (.slice A0_1 l0_1.length c0_1) := (blk_cell BK247.out 1).trans rfl; have hcz5_2 : w4.cell? ⟨gb247, 2, none⟩ = some (.slice A0_2 l0_2.length c0_2) := (blk_cell BK247.out 2).trans rfl; have hfz5_0 := blk_frozen BK247.out 0; have hfz5_1 := blk_frozen BK247.out 1; have hfz5_2 := blk_frozen BK247.out 2) | ((with_reducible refine gate_callee (f := 10) rfl ?_); refine goesL_ (some 16) rfl rfl Try.func10 (by kernel_rfl) rfl #[.agg #[.int .i64 a0_0, .slice A0_1 l0_1.length c0_1, .slice A0_2 l0_2.length c0_2], .int .i64 1048576] rfl (by (try simp only [List.map_toArray, List.map_cons, List.map_nil]); first | done | rfl) ?_; (with_reducible refine (laws_szAutomaton.calls k a0_0 _ _ l0_1 _ _ l0_2 1048576 t248 _ ?side1 ?side2 ?side3 ?side4 A2.out).mono ?_); (case side1 => repeat (first | exact (Kd.C_below HR0_1.out HB.out) | (with_reducible refine Kd.C_alloc ?_ _) | (with_reducible refine Kd.C_drewN ?_ _) | (with_reducible refine Kd.C_drew ?_))); (case side2 => exact HC0_1.out); (case side3 => repeat (first | exact (Kd.C_below HR0_2.out HB.out) | (with_reducible refine Kd.C_alloc ?_ _) | (with_reducible refine Kd.C_drewN ?_ _) | (with_reducible refine Kd.C_drew ?_))); (case side4 => exact HC0_2.out); rintro e w6 ⟨rfl, hb⟩; refine ⟨_, rfl, ?_⟩; have n0_ := Aside0.mk (blk_below (g := gb247) (o := .cells #[.int .i64 a0_0, .slice A0_1 l0_1.length c0_1, .slice A0_2 l0_2.length c0_2] 25 (0, 0)) BK247.out hb); have n1_ := Aside0.mk (below_step (by repeat (first | (with_reducible first | exact HB.out | apply below_alloc | apply pw_below_drewN | apply below_drew1 | refine below_set ?_ GE247.out) | exact HB.out)) hb); clear BK247; clear HB; have BK247 := n0_; have HB := n1_; clear n0_ n1_; (try clear hb); (try clear hb2); (try clear hk); (try clear hi)))
  go_ret
  exact ⟨by first | rfl | (simp [errW_none, errW_some] <;> rfl) | (simp [*, errW_none, errW_some] <;> rfl), by repeat (first | (with_reducible first | exact HB.out | apply below_alloc | apply pw_below_drewN | apply below_drew1 | refine below_set ?_ GE247.out) | exact HB.out)⟩
 ·rw [if_neg c3] at H
  have c3b0 : decide (t248 < 0) = false := decide_eq_false c3
  clear c3
  replace H := Option.bind_eq_some_iff.mp H
  obtain ⟨⟨t249, t250, t253⟩, A70, H⟩ := H
  replace H : ((spec_OppositeAutomaton.f k t249 t250 t253).bind fun bt256 => ((laws_toAutomaton.f k a0_0 l0_1 l0_2).bind fun bt265 => ((impl_OppositeAutomaton.f k bt265.1 bt265.2.1 bt265.2.2).bind fun bt273 => ((laws_eqAutomaton.f k bt273.1 bt273.2.1 bt273.2.2.1 bt256.1 bt256.2.1 bt256.2.2.1).bind fun t282 => (if t282 = true then (laws_FnExactOppositeAutomaton.j0 k bt256.2.2.2 bt273.2.2.2 (bt273.2.2.2 != bt256.2.2.2) a0_0 l0_1 l0_2 bt256.1 bt256.2.1 bt256.2.2.1 bt265.1 bt265.2.1 bt265.2.2 bt273.1 bt273.2.1 bt273.2.2.1) else (laws_FnExactOppositeAutomaton.j0 k bt256.2.2.2 bt273.2.2.2 true a0_0 l0_1 l0_2 bt256.1 bt256.2.1 bt256.2.2.1 bt265.1 bt265.2.1 bt265.2.2 bt273.1 bt273.2.1 bt273.2.2.1)))))) = some r := H
  have A7 := Aside0.mk A70
  clear A70
  replace H := Option.bind_eq_some_iff.mp H
  obtain ⟨⟨t256, t257, t260, t263⟩, A80, H⟩ := H
  replace H : ((laws_toAutomaton.f k a0_0 l0_1 l0_2).bind fun bt265 => ((impl_OppositeAutomaton.f k bt265.1 bt265.2.1 bt265.2.2).bind fun bt273 => ((laws_eqAutomaton.f k bt273.1 bt273.2.1 bt273.2.2.1 t256 t257 t260).bind fun t282 => (if t282 = true then (laws_FnExactOppositeAutomaton.j0 k t263 bt273.2.2.2 (bt273.2.2.2 != t263) a0_0 l0_1 l0_2 t256 t257 t260 bt265.1 bt265.2.1 bt265.2.2 bt273.1 bt273.2.1 bt273.2.2.1) else (laws_FnExactOppositeAutomaton.j0 k t263 bt273.2.2.2 true a0_0 l0_1 l0_2 t256 t257 t260 bt265.1 bt265.2.1 bt265.2.2 bt273.1 bt273.2.1 bt273.2.2.1))))) = some r := H
  have A8 := Aside0.mk A80
  clear A80
  replace H := Option.bind_eq_some_iff.mp H
  obtain ⟨⟨t265, t266, t269⟩, A90, H⟩ := H
  replace H : ((impl_OppositeAutomaton.f k t265 t266 t269).bind fun bt273 => ((laws_eqAutomaton.f k bt273.1 bt273.2.1 bt273.2.2.1 t256 t257 t260).bind fun t282 => (if t282 = true then (laws_FnExactOppositeAutomaton.j0 k t263 bt273.2.2.2 (bt273.2.2.2 != t263) a0_0 l0_1 l0_2 t256 t257 t260 t265 t266 t269 bt273.1 bt273.2.1 bt273.2.2.1) else (laws_FnExactOppositeAutomaton.j0 k t263 bt273.2.2.2 true a0_0 l0_1 l0_2 t256 t257 t260 t265 t266 t269 bt273.1 bt273.2.1 bt273.2.2.1)))) = some r := H
  have A9 := Aside0.mk A90
  clear A90
  replace H := Option.bind_eq_some_iff.mp H
  obtain ⟨⟨t273, t274, t277, t280⟩, A100, H⟩ := H
  replace H : ((laws_eqAutomaton.f k t273 t274 t277 t256 t257 t260).bind fun t282 => (if t282 = true then (laws_FnExactOppositeAutomaton.j0 k t263 t280 (t280 != t263) a0_0 l0_1 l0_2 t256 t257 t260 t265 t266 t269 t273 t274 t277) else (laws_FnExactOppositeAutomaton.j0 k t263 t280 true a0_0 l0_1 l0_2 t256 t257 t260 t265 t266 t269 t273 t274 t277))) = some r := H
  have A10 := Aside0.mk A100
  clear A100
  have HC11 := Aside0.mk H
  clear H
  go_enter Try.func4, Try.ntmps4
  go_upto_region 8 with (first | ((with_reducible refine gate_dst (N := 1) rfl ?_); refine box_event ?hg (N := 1) ?hd (cs := #[.int .i64 a0_0, .slice A0_1 l0_1.length c0_1, .slice A0_2 l0_2.length c0_2]) (t := 25) ?hr ?_; (case hd => rfl); (case hg => rfl); (case hr => first | (go_simp; done) | (go_simp; rfl)); intro gb247 hg w12 hbox hb; have n0_ := Aside0.mk (below_step (by repeat (first | (with_reducible first | exact HB.out | apply below_alloc | apply pw_below_drewN | apply below_drew1) | exact HB.out)) hb); have n1_ := Aside0.mk (hbox); have n2_ := Aside0.mk ((by rw [hg]; exact (below_size (by repeat (first | (with_reducible first | exact HB.out | apply below_alloc | apply pw_below_drewN | apply below_drew1) | exact HB.out))) : w.heap.size ≤ gb247)); have n3_ := Aside0.mk ((by rw [hg]; exact (below_size (by repeat (first | (with_reducible first | exact HB.out | apply below_alloc | apply pw_below_drewN | apply below_drew1) | exact HB.out))) : w.heap.size ≤ gb247)); clear HB; have HB := n0_; have BK247 := n1_; have GW247 := n2_; have GE247 := n3_; clear n0_ n1_ n2_ n3_; clear hb hbox hg; have hcz13_0 : w12.cell? ⟨gb247, 0, none⟩ = some (.int .i64 a0_0) := (blk_cell BK247.out 0).trans rfl; have hcz13_1 : w12.cell? ⟨gb247, 1, none⟩ = some (.slice A0_1 l0_1.length c0_1) := (blk_cell BK247.out 1).trans rfl; have hcz13_2 : w12.cell? ⟨gb247, 2, none⟩ = some (.slice A0_2 l0_2.length c0_2) := (blk_cell BK247.out 2).trans rfl; have hfz13_0 := blk_frozen BK247.out 0; have hfz13_1 := blk_frozen BK247.out 1; have hfz13_2 := blk_frozen BK247.out 2) | ((with_reducible refine gate_callee (f := 10) rfl ?_); refine goesL_ (some 16) rfl rfl Try.func10 (by kernel_rfl) rfl #[.agg #[.int .i64 a0_0, .slice A0_1 l0_1.length c0_1, .slice A0_2 l0_2.length c0_2], .int .i64 1048576] rfl (by (try simp only [List.map_toArray, List.map_cons, List.map_nil]); first | done | rfl) ?_; (with_reducible refine (laws_szAutomaton.calls k a0_0 _ _ l0_1 _ _ l0_2 1048576 t248 _ ?side1 ?side2 ?side3 ?side4 A2.out).mono ?_); (case side1 => repeat (first | exact (Kd.C_below HR0_1.out HB.out) | (with_reducible refine Kd.C_alloc ?_ _) | (with_reducible refine Kd.C_drewN ?_ _) | (with_reducible refine Kd.C_drew ?_))); (case side2 => exact HC0_1.out); (case side3 => repeat (first | exact (Kd.C_below HR0_2.out HB.out) | (with_reducible refine Kd.C_alloc ?_ _) | (with_reducible refine Kd.C_drewN ?_ _) | (with_reducible refine Kd.C_drew ?_))); (case side4 => exact HC0_2.out); rintro e w14 ⟨rfl, hb⟩; refine ⟨_, rfl, ?_⟩; have n0_ := Aside0.mk (blk_below (g := gb247) (o := .cells #[.int .i64 a0_0, .slice A0_1 l0_1.length c0_1, .slice A0_2 l0_2.length c0_2] 25 (0, 0)) BK247.out hb); have n1_ := Aside0.mk (below_step (by repeat (first | (with_reducible first | exact HB.out | apply below_alloc | apply pw_below_drewN | apply below_drew1 | refine below_set ?_ GE247.out) | exact HB.out)) hb); clear BK247; clear HB; have BK247 := n0_; have HB := n1_; clear n0_ n1_; (try clear hb); (try clear hb2); (try clear hk); (try clear hi); have hcz15_0 : w14.cell? ⟨gb247, 0, none⟩ = some (.int .i64 a0_0) := (blk_cell BK247.out 0).trans rfl; have hcz15_1 : w14.cell? ⟨gb247, 1, none⟩ = some (.slice A0_1 l0_1.length c0_1) := (blk_cell BK247.out 1).trans rfl; have hcz15_2 : w14.cell? ⟨gb247, 2, none⟩ = some (.slice A0_2 l0_2.length c0_2) := (blk_cell BK247.out 2).trans rfl; have hfz15_0 := blk_frozen BK247.out 0; have hfz15_1 := blk_frozen BK247.out 1; have hfz15_2 := blk_frozen BK247.out 2) | ((with_reducible refine gate_callee (f := 12) rfl ?_); refine goesL_ (some 21) rfl rfl Try.func12 (by kernel_rfl) rfl #[.agg #[.int .i64 a0_0, .slice A0_1 l0_1.length c0_1, .slice A0_2 l0_2.length c0_2]] rfl (by (try simp only [List.map_toArray, List.map_cons, List.map_nil]); first | done | rfl) ?_; (with_reducible refine (laws_toAutomaton.calls k a0_0 _ _ l0_1 _ _ l0_2 t249 t250 t253 _ ?side1 ?side2 ?side3 ?side4 A7.out).mono ?_); (case side1 => repeat (first | exact (Kd.C_below HR0_1.out HB.out) | (with_reducible refine Kd.C_alloc ?_ _) | (with_reducible refine Kd.C_drewN ?_ _) | (with_reducible refine Kd.C_drew ?_))); (case side2 => exact HC0_1.out); (case side3 => repeat (first | exact (Kd.C_below HR0_2.out HB.out) | (with_reducible refine Kd.C_alloc ?_ _) | (with_reducible refine Kd.C_drewN ?_ _) | (with_reducible refine Kd.C_drew ?_))); (case side4 => exact HC0_2.out); rintro e w16 ⟨v251, v254, rfl, ho0, ho1, hb⟩; refine ⟨_, rfl, ?_⟩; obtain ⟨N17, hN17⟩ := nat_of_below hb; have n0_ := Aside0.mk (Kd.S_lower (S_geN hN17 ho0) (below_size (by repeat (first | (with_reducible first | exact HB.out | apply below_alloc | apply pw_below_drewN | apply below_drew1 | refine below_set ?_ GE247.out) | exact HB.out)))); have n1_ := Aside0.mk (Kd.R_lower ho1 (below_size (by repeat (first | (with_reducible first | exact HB.out | apply below_alloc | apply pw_below_drewN | apply below_drew1 | refine below_set ?_ GE247.out) | exact HB.out)))); have n2_ := Aside0.mk (blk_below (g := gb247) (o := .cells #[.int .i64 a0_0, .slice A0_1 l0_1.length c0_1, .slice A0_2 l0_2.length c0_2] 25 (0, 0)) BK247.out hb); have n3_ := Aside0.mk (below_step (by repeat (first | (with_reducible first | exact HB.out | apply below_alloc | apply pw_below_drewN | apply below_drew1 | refine below_set ?_ GE247.out) | exact HB.out)) hb); clear BK247; clear HB; have HO252 := n0_; have HO255 := n1_; have BK247 := n2_; have HB := n3_; clear n0_ n1_ n2_ n3_; (try clear hb); (try clear hb2); (try clear hk); (try clear hi); (try clear ho0); (try clear ho1); obtain ⟨Ao18, co18, eo18⟩ := Kd.S_slice HO252.out; subst eo18; obtain ⟨Ao19, co19, eo19⟩ := Kd.R_slice HO255.out; subst eo19) | ((with_reducible refine gate_callee (f := 15) rfl ?_); refine goesL_ (some 22) rfl rfl Try.func15 (by kernel_rfl) rfl #[.agg #[.int .i64 t249, .slice Ao18 t250.length co18, .slice Ao19 t253.length co19]] rfl (by (try simp only [List.map_toArray, List.map_cons, List.map_nil]); first | done | rfl) ?_; (with_reducible refine (spec_OppositeAutomaton.calls k t249 _ _ t250 _ _ t253 t256 t257 t260 t263 _ ?side1 ?side2 ?side3 ?side4 A8.out).mono ?_); (case side1 => repeat (first | exact (Kd.S_reads' HO252.out).2.2 | (with_reducible refine Kd.C_alloc ?_ _) | (with_reducible refine Kd.C_drewN ?_ _) | (with_reducible refine Kd.C_drew ?_))); (case side2 => exact (Kd.S_reads' HO252.out).2.1); (case side3 => repeat (first | exact (Kd.R_reads' HO255.out).2.2 | (with_reducible refine Kd.C_alloc ?_ _) | (with_reducible refine Kd.C_drewN ?_ _) | (with_reducible refine Kd.C_drew ?_))); (case side4 => exact (Kd.R_reads' HO255.out).2.1); rintro e w20 ⟨v258, v261, rfl, ho0, ho1, hb⟩; refine ⟨_, rfl, ?_⟩; obtain ⟨N21, hN21⟩ := nat_of_below hb; have n0_ := Aside0.mk (Kd.S_mono (Kd.S_told (Kd.S_told (Kd.S_old ((S_ltN HO252.out hN21)) hb) (Kd.S_base ho0)) (Kd.R_base ho1)) (fun _ h_ => h_.1)); have n1_ := Aside0.mk (Kd.R_elder' HO255.out (Kd.R_base ho1) hb); have n2_ := Aside0.mk (Kd.S_lower (Kd.S_new' (Kd.S_new' (S_geN hN21 ho0) (Kd.S_lt HO252.out)) (Kd.R_lt HO255.out)) (below_size (by repeat (first | (with_reducible first | exact HB.out | apply below_alloc | apply pw_below_drewN | apply below_drew1 | refine below_set ?_ GE247.out) | exact HB.out)))); have n3_ := Aside0.mk (Kd.R_lower (Kd.R_new' ho1 (Kd.R_lt HO255.out)) (below_size (by repeat (first | (with_reducible first | exact HB.out | apply below_alloc | apply pw_below_drewN | apply below_drew1 | refine below_set ?_ GE247.out) | exact HB.out)))); have n4_ := Aside0.mk (blk_below (g := gb247) (o := .cells #[.int .i64 a0_0, .slice A0_1 l0_1.length c0_1, .slice A0_2 l0_2.length c0_2] 25 (0, 0)) BK247.out hb); have n5_ := Aside0.mk (below_step (by repeat (first | (with_reducible first | exact HB.out | apply below_alloc | apply pw_below_drewN | apply below_drew1 | refine below_set ?_ GE247.out) | exact HB.out)) hb); clear HO252; clear HO255; clear BK247; clear HB; have HO252 := n0_; have HO255 := n1_; have HO259 := n2_; have HO262 := n3_; have BK247 := n4_; have HB := n5_; clear n0_ n1_ n2_ n3_ n4_ n5_; (try clear hb); (try clear hb2); (try clear hk); (try clear hi); (try clear ho0); (try clear ho1)) | ((with_reducible refine gate_dst (N := 4) rfl ?_); refine box_event ?hg (N := 4) ?hd (cs := #[.int .i64 0, .slice none 0 0, .slice none 0 0]) (t := 28) ?hr ?_; (case hd => rfl); (case hg => rfl); (case hr => first | (go_simp; done) | (go_simp; rfl)); intro gb264 hg w22 hbox hb; have n0_ := Aside0.mk (Kd.S_below HO252.out hb); have n1_ := Aside0.mk (Kd.R_below HO255.out hb); have n2_ := Aside0.mk (Kd.S_below HO259.out hb); have n3_ := Aside0.mk (Kd.R_below HO262.out hb); have n4_ := Aside0.mk (blk_below (g := gb247) (o := .cells #[.int .i64 a0_0, .slice A0_1 l0_1.length c0_1, .slice A0_2 l0_2.length c0_2] 25 (0, 0)) BK247.out hb); have n5_ := Aside0.mk (below_step (by repeat (first | (with_reducible first | exact HB.out | apply below_alloc | apply pw_below_drewN | apply below_drew1 | refine below_set ?_ GE247.out) | exact HB.out)) hb); have n6_ := Aside0.mk (hbox); have n7_ := Aside0.mk ((by rw [hg]; exact (below_size (by repeat (first | (with_reducible first | exact HB.out | apply below_alloc | apply pw_below_drewN | apply below_drew1 | refine below_set ?_ GE247.out) | exact HB.out))) : w.heap.size ≤ gb264)); have n8_ := Aside0.mk ((by rw [hg]; exact (below_size (by repeat (first | (with_reducible first | exact HB.out | apply below_alloc | apply pw_below_drewN | apply below_drew1 | refine below_set ?_ GE247.out) | exact HB.out))) : w.heap.size ≤ gb264)); have n9_ := Aside0.mk ((by rw [hg]; exact Nat.ne_of_lt (blk_lt (g := gb247) (o := .cells #[.int .i64 a0_0, .slice A0_1 l0_1.length c0_1, .slice A0_2 l0_2.length c0_2] 25 (0, 0)) BK247.out) : gb247 ≠ gb264)); have n10_ := Aside0.mk ((by rw [hg]; exact Nat.ne_of_gt (blk_lt (g := gb247) (o := .cells #[.int .i64 a0_0, .slice A0_1 l0_1.length c0_1, .slice A0_2 l0_2.length c0_2] 25 (0, 0)) BK247.out) : gb264 ≠ gb247)); clear HO252; clear HO255; clear HO259; clear HO262; clear BK247; clear HB; have HO252 := n0_; have HO255 := n1_; have HO259 := n2_; have HO262 := n3_; have BK247 := n4_; have HB := n5_; have BK264 := n6_; have GW264 := n7_; have GE264 := n8_; have NB247_264 := n9_; have NB264_247 := n10_; clear n0_ n1_ n2_ n3_ n4_ n5_ n6_ n7_ n8_ n9_ n10_; clear hb hbox hg; have hnb23 := NB264_247.out; have hnc23 := NB247_264.out; have hcz24_0 : w22.cell? ⟨gb264, 0, none⟩ = some (.int .i64 0) := (blk_cell BK264.out 0).trans rfl; have hcz24_1 : w22.cell? ⟨gb264, 1, none⟩ = some (.slice none 0 0) := (blk_cell BK264.out 1).trans rfl; have hcz24_2 : w22.cell? ⟨gb264, 2, none⟩ = some (.slice none 0 0) := (blk_cell BK264.out 2).trans rfl; have hfz24_0 := blk_frozen BK264.out 0; have hfz24_1 := blk_frozen BK264.out 1; have hfz24_2 := blk_frozen BK264.out 2; obtain ⟨Ao25, co25, eo25⟩ := Kd.S_slice HO259.out; subst eo25; obtain ⟨Ao26, co26, eo26⟩ := Kd.R_slice HO262.out; subst eo26; have hcz27_0 : w22.cell? ⟨gb247, 0, none⟩ = some (.int .i64 a0_0) := (blk_cell BK247.out 0).trans rfl; have hcz27_1 : w22.cell? ⟨gb247, 1, none⟩ = some (.slice A0_1 l0_1.length c0_1) := (blk_cell BK247.out 1).trans rfl; have hcz27_2 : w22.cell? ⟨gb247, 2, none⟩ = some (.slice A0_2 l0_2.length c0_2) := (blk_cell BK247.out 2).trans rfl; have hfz27_0 := blk_frozen BK247.out 0; have hfz27_1 := blk_frozen BK247.out 1; have hfz27_2 := blk_frozen BK247.out 2) | ((with_reducible refine gate_callee (f := 12) rfl ?_); refine goesL_ (some 26) rfl rfl Try.func12 (by kernel_rfl) rfl #[.agg #[.int .i64 a0_0, .slice A0_1 l0_1.length c0_1, .slice A0_2 l0_2.length c0_2]] rfl (by (try simp only [List.map_toArray, List.map_cons, List.map_nil]); first | done | rfl) ?_; (with_reducible refine (laws_toAutomaton.calls k a0_0 _ _ l0_1 _ _ l0_2 t265 t266 t269 _ ?side1 ?side2 ?side3 ?side4 A9.out).mono ?_); (case side1 => exact Kd.C_below HR0_1.out (by repeat (first | (with_reducible first | exact HB.out | apply below_alloc | apply pw_below_drewN | apply below_drew1 | refine below_set ?_ GE247.out | refine below_set ?_ GE264.out) | exact HB.out))); (case side2 => exact HC0_1.out); (case side3 => exact Kd.C_below HR0_2.out (by repeat (first | (with_reducible first | exact HB.out | apply below_alloc | apply pw_below_drewN | apply below_drew1 | refine below_set ?_ GE247.out | refine below_set ?_ GE264.out) | exact HB.out))); (case side4 => exact HC0_2.out); rintro e w28 ⟨v267, v270, rfl, ho0, ho1, hb⟩; refine ⟨_, rfl, ?_⟩; obtain ⟨N29, hN29⟩ := nat_of_below hb; have n0_ := Aside0.mk (Kd.S_mono (Kd.S_told (Kd.S_told (Kd.S_old ((S_ltN (by (with_reducible repeat (first | apply Kd.S_alloc | apply Kd.S_drewN | apply Kd.S_drew)); exact (Kd.S_mono (Kd.S_far (p := ⟨gb264, 2, none⟩) (Kd.S_far (p := ⟨gb264, 1, none⟩) (Kd.S_far (p := ⟨gb264, 0, none⟩) (Kd.S_types HO252.out BK264.out (by decide)) (fun _ hk => hk.2) (.int .i64 t256)) (fun _ hk => hk.2) (.slice Ao25 t257.length co25)) (fun _ hk => hk.2) (.slice Ao26 t260.length co26)) (fun _ h_ => h_.1))) hN29)) hb) (Kd.S_base ho0)) (Kd.R_base ho1)) (fun _ h_ => h_.1)); have n1_ := Aside0.mk (Kd.R_elder' (by (with_reducible repeat (first | apply Kd.R_alloc | apply Kd.R_drewN | apply Kd.R_drew)); exact (Kd.R_mono (Kd.R_far (p := ⟨gb264, 2, none⟩) (Kd.R_far (p := ⟨gb264, 1, none⟩) (Kd.R_far (p := ⟨gb264, 0, none⟩) (Kd.R_types HO255.out BK264.out (by decide)) (fun _ hk => hk.2) (.int .i64 t256)) (fun _ hk => hk.2) (.slice Ao25 t257.length co25)) (fun _ hk => hk.2) (.slice Ao26 t260.length co26)) (fun _ h_ => h_.1))) (Kd.R_base ho1) hb); have n2_ := Aside0.mk (Kd.S_mono (Kd.S_told (Kd.S_told (Kd.S_old ((S_ltN (by (with_reducible repeat (first | apply Kd.S_alloc | apply Kd.S_drewN | apply Kd.S_drew)); exact (Kd.S_mono (Kd.S_far (p := ⟨gb264, 2, none⟩) (Kd.S_far (p := ⟨gb264, 1, none⟩) (Kd.S_far (p := ⟨gb264, 0, none⟩) (Kd.S_types HO259.out BK264.out (by decide)) (fun _ hk => hk.2) (.int .i64 t256)) (fun _ hk => hk.2) (.slice Ao25 t257.length co25)) (fun _ hk => hk.2) (.slice Ao26 t260.length co26)) (fun _ h_ => h_.1))) hN29)) hb) (Kd.S_base ho0)) (Kd.R_base ho1)) (fun _ h_ => h_.1)); have n3_ := Aside0.mk (Kd.R_elder' (by (with_reducible repeat (first | apply Kd.R_alloc | apply Kd.R_drewN | apply Kd.R_drew)); exact (Kd.R_mono (Kd.R_far (p := ⟨gb264, 2, none⟩) (Kd.R_far (p := ⟨gb264, 1, none⟩) (Kd.R_far (p := ⟨gb264, 0, none⟩) (Kd.R_types HO262.out BK264.out (by decide)) (fun _ hk => hk.2) (.int .i64 t256)) (fun _ hk => hk.2) (.slice Ao25 t257.length co25)) (fun _ hk => hk.2) (.slice Ao26 t260.length co26)) (fun _ h_ => h_.1))) (Kd.R_base ho1) hb); have n4_ := Aside0.mk (Kd.S_lower (Kd.S_new' (Kd.S_new' (Kd.S_new' (Kd.S_new' (S_geN hN29 ho0) (Kd.S_lt (by (with_reducible repeat (first | apply Kd.S_alloc | apply Kd.S_drewN | apply Kd.S_drew)); exact (Kd.S_mono (Kd.S_far (p := ⟨gb264, 2, none⟩) (Kd.S_far (p := ⟨gb264, 1, none⟩) (Kd.S_far (p := ⟨gb264, 0, none⟩) (Kd.S_types HO252.out BK264.out (by decide)) (fun _ hk => hk.2) (.int .i64 t256)) (fun _ hk => hk.2) (.slice Ao25 t257.length co25)) (fun _ hk => hk.2) (.slice Ao26 t260.length co26)) (fun _ h_ => h_.1))))) (Kd.R_lt (by (with_reducible repeat (first | apply Kd.R_alloc | apply Kd.R_drewN | apply Kd.R_drew)); exact (Kd.R_mono (Kd.R_far (p := ⟨gb264, 2, none⟩) (Kd.R_far (p := ⟨gb264, 1, none⟩) (Kd.R_far (p := ⟨gb264, 0, none⟩) (Kd.R_types HO255.out BK264.out (by decide)) (fun _ hk => hk.2) (.int .i64 t256)) (fun _ hk => hk.2) (.slice Ao25 t257.length co25)) (fun _ hk => hk.2) (.slice Ao26 t260.length co26)) (fun _ h_ => h_.1))))) (Kd.S_lt (by (with_reducible repeat (first | apply Kd.S_alloc | apply Kd.S_drewN | apply Kd.S_drew)); exact (Kd.S_mono (Kd.S_far (p := ⟨gb264, 2, none⟩) (Kd.S_far (p := ⟨gb264, 1, none⟩) (Kd.S_far (p := ⟨gb264, 0, none⟩) (Kd.S_types HO259.out BK264.out (by decide)) (fun _ hk => hk.2) (.int .i64 t256)) (fun _ hk => hk.2) (.slice Ao25 t257.length co25)) (fun _ hk => hk.2) (.slice Ao26 t260.length co26)) (fun _ h_ => h_.1))))) (Kd.R_lt (by (with_reducible repeat (first | apply Kd.R_alloc | apply Kd.R_drewN | apply Kd.R_drew)); exact (Kd.R_mono (Kd.R_far (p := ⟨gb264, 2, none⟩) (Kd.R_far (p := ⟨gb264, 1, none⟩) (Kd.R_far (p := ⟨gb264, 0, none⟩) (Kd.R_types HO262.out BK264.out (by decide)) (fun _ hk => hk.2) (.int .i64 t256)) (fun _ hk => hk.2) (.slice Ao25 t257.length co25)) (fun _ hk => hk.2) (.slice Ao26 t260.length co26)) (fun _ h_ => h_.1))))) (below_size (by repeat (first | (with_reducible first | exact HB.out | apply below_alloc | apply pw_below_drewN | apply below_drew1 | refine below_set ?_ GE247.out | refine below_set ?_ GE264.out) | exact HB.out)))); have n5_ := Aside0.mk (Kd.R_lower (Kd.R_new' (Kd.R_new' ho1 (Kd.R_lt (by (with_reducible repeat (first | apply Kd.R_alloc | apply Kd.R_drewN | apply Kd.R_drew)); exact (Kd.R_mono (Kd.R_far (p := ⟨gb264, 2, none⟩) (Kd.R_far (p := ⟨gb264, 1, none⟩) (Kd.R_far (p := ⟨gb264, 0, none⟩) (Kd.R_types HO255.out BK264.out (by decide)) (fun _ hk => hk.2) (.int .i64 t256)) (fun _ hk => hk.2) (.slice Ao25 t257.length co25)) (fun _ hk => hk.2) (.slice Ao26 t260.length co26)) (fun _ h_ => h_.1))))) (Kd.R_lt (by (with_reducible repeat (first | apply Kd.R_alloc | apply Kd.R_drewN | apply Kd.R_drew)); exact (Kd.R_mono (Kd.R_far (p := ⟨gb264, 2, none⟩) (Kd.R_far (p := ⟨gb264, 1, none⟩) (Kd.R_far (p := ⟨gb264, 0, none⟩) (Kd.R_types HO262.out BK264.out (by decide)) (fun _ hk => hk.2) (.int .i64 t256)) (fun _ hk => hk.2) (.slice Ao25 t257.length co25)) (fun _ hk => hk.2) (.slice Ao26 t260.length co26)) (fun _ h_ => h_.1))))) (below_size (by repeat (first | (with_reducible first | exact HB.out | apply below_alloc | apply pw_below_drewN | apply below_drew1 | refine below_set ?_ GE247.out | refine below_set ?_ GE264.out) | exact HB.out)))); have n6_ := Aside0.mk (blk_below (g := gb247) (o := .cells #[.int .i64 a0_0, .slice A0_1 l0_1.length c0_1, .slice A0_2 l0_2.length c0_2] 25 (0, 0)) (by (with_reducible repeat (first | refine blk_drewN ?_ _ | refine blk_drew ?_ | refine blk_alloc ?_ _)); refine blk_far ?_ NB247_264.out _; (with_reducible repeat (first | refine blk_drewN ?_ _ | refine blk_drew ?_ | refine blk_alloc ?_ _)); refine blk_far ?_ NB247_264.out _; (with_reducible repeat (first | refine blk_drewN ?_ _ | refine blk_drew ?_ | refine blk_alloc ?_ _)); refine blk_far ?_ NB247_264.out _; (with_reducible repeat (first | refine blk_drewN ?_ _ | refine blk_drew ?_ | refine blk_alloc ?_ _)); exact BK247.out) hb); have n7_ := Aside0.mk (blk_below (g := gb264) (o := .cells #[.int .i64 t256, .slice Ao25 t257.length co25, .slice Ao26 t260.length co26] 28 (0, 0)) (by (with_reducible repeat (first | refine blk_drewN ?_ _ | refine blk_drew ?_ | refine blk_alloc ?_ _)); refine blk_put (cs := #[.int .i64 t256, .slice Ao25 t257.length co25, .slice none 0 0]) ?_ 2 _ rfl; (with_reducible repeat (first | refine blk_drewN ?_ _ | refine blk_drew ?_ | refine blk_alloc ?_ _)); refine blk_put (cs := #[.int .i64 t256, .slice none 0 0, .slice none 0 0]) ?_ 1 _ rfl; (with_reducible repeat (first | refine blk_drewN ?_ _ | refine blk_drew ?_ | refine blk_alloc ?_ _)); refine blk_put (cs := #[.int .i64 0, .slice none 0 0, .slice none 0 0]) ?_ 0 _ rfl; (with_reducible repeat (first | refine blk_drewN ?_ _ | refine blk_drew ?_ | refine blk_alloc ?_ _)); exact BK264.out) hb); have n8_ := Aside0.mk (below_step (by repeat (first | (with_reducible first | exact HB.out | apply below_alloc | apply pw_below_drewN | apply below_drew1 | refine below_set ?_ GE247.out | refine below_set ?_ GE264.out) | exact HB.out)) hb); clear HO252; clear HO255; clear HO259; clear HO262; clear BK247; clear BK264; clear HB; have HO252 := n0_; have HO255 := n1_; have HO259 := n2_; have HO262 := n3_; have HO268 := n4_; have HO271 := n5_; have BK247 := n6_; have BK264 := n7_; have HB := n8_; clear n0_ n1_ n2_ n3_ n4_ n5_ n6_ n7_ n8_; (try clear hb); (try clear hb2); (try clear hk); (try clear hi); (try clear ho0); (try clear ho1)) | ((with_reducible refine gate_dst (N := 6) rfl ?_); refine box_event ?hg (N := 6) ?hd (cs := #[.int .i64 0, .slice none 0 0, .slice none 0 0]) (t := 28) ?hr ?_; (case hd => rfl); (case hg => rfl); (case hr => first | (go_simp; done) | (go_simp; rfl)); intro gb272 hg w30 hbox hb; have n0_ := Aside0.mk (Kd.S_below HO252.out hb); have n1_ := Aside0.mk (Kd.R_below HO255.out hb); have n2_ := Aside0.mk (Kd.S_below HO259.out hb); have n3_ := Aside0.mk (Kd.R_below HO262.out hb); have n4_ := Aside0.mk (Kd.S_below HO268.out hb); have n5_ := Aside0.mk (Kd.R_below HO271.out hb); have n6_ := Aside0.mk (blk_below (g := gb247) (o := .cells #[.int .i64 a0_0, .slice A0_1 l0_1.length c0_1, .slice A0_2 l0_2.length c0_2] 25 (0, 0)) BK247.out hb); have n7_ := Aside0.mk (blk_below (g := gb264) (o := .cells #[.int .i64 t256, .slice Ao25 t257.length co25, .slice Ao26 t260.length co26] 28 (0, 0)) BK264.out hb); have n8_ := Aside0.mk (below_step (by repeat (first | (with_reducible first | exact HB.out | apply below_alloc | apply pw_below_drewN | apply below_drew1 | refine below_set ?_ GE247.out | refine below_set ?_ GE264.out) | exact HB.out)) hb); have n9_ := Aside0.mk (hbox); have n10_ := Aside0.mk ((by rw [hg]; exact (below_size (by repeat (first | (with_reducible first | exact HB.out | apply below_alloc | apply pw_below_drewN | apply below_drew1 | refine below_set ?_ GE247.out | refine below_set ?_ GE264.out) | exact HB.out))) : w.heap.size ≤ gb272)); have n11_ := Aside0.mk ((by rw [hg]; exact (below_size (by repeat (first | (with_reducible first | exact HB.out | apply below_alloc | apply pw_below_drewN | apply below_drew1 | refine below_set ?_ GE247.out | refine below_set ?_ GE264.out) | exact HB.out))) : w.heap.size ≤ gb272)); have n12_ := Aside0.mk ((by rw [hg]; exact Nat.ne_of_lt (blk_lt (g := gb247) (o := .cells #[.int .i64 a0_0, .slice A0_1 l0_1.length c0_1, .slice A0_2 l0_2.length c0_2] 25 (0, 0)) BK247.out) : gb247 ≠ gb272)); have n13_ := Aside0.mk ((by rw [hg]; exact Nat.ne_of_gt (blk_lt (g := gb247) (o := .cells #[.int .i64 a0_0, .slice A0_1 l0_1.length c0_1, .slice A0_2 l0_2.length c0_2] 25 (0, 0)) BK247.out) : gb272 ≠ gb247)); have n14_ := Aside0.mk ((by rw [hg]; exact Nat.ne_of_lt (blk_lt (g := gb264) (o := .cells #[.int .i64 t256, .slice Ao25 t257.length co25, .slice Ao26 t260.length co26] 28 (0, 0)) BK264.out) : gb264 ≠ gb272)); have n15_ := Aside0.mk ((by rw [hg]; exact Nat.ne_of_gt (blk_lt (g := gb264) (o := .cells #[.int .i64 t256, .slice Ao25 t257.length co25, .slice Ao26 t260.length co26] 28 (0, 0)) BK264.out) : gb272 ≠ gb264)); clear HO252; clear HO255; clear HO259; clear HO262; clear HO268; clear HO271; clear BK247; clear BK264; clear HB; have HO252 := n0_; have HO255 := n1_; have HO259 := n2_; have HO262 := n3_; have HO268 := n4_; have HO271 := n5_; have BK247 := n6_; have BK264 := n7_; have HB := n8_; have BK272 := n9_; have GW272 := n10_; have GE272 := n11_; have NB247_272 := n12_; have NB272_247 := n13_; have NB264_272 := n14_; have NB272_264 := n15_; clear n0_ n1_ n2_ n3_ n4_ n5_ n6_ n7_ n8_ n9_ n10_ n11_ n12_ n13_ n14_ n15_; clear hb hbox hg; have hnb31 := NB272_247.out; have hnc31 := NB247_272.out; have hnb32 := NB272_264.out; have hnc32 := NB264_272.out; have hcz33_0 : w30.cell? ⟨gb272, 0, none⟩ = some (.int .i64 0) := (blk_cell BK272.out 0).trans rfl; have hcz33_1 : w30.cell? ⟨gb272, 1, none⟩ = some (.slice none 0 0) := (blk_cell BK272.out 1).trans rfl; have hcz33_2 : w30.cell? ⟨gb272, 2, none⟩ = some (.slice none 0 0) := (blk_cell BK272.out 2).trans rfl; have hfz33_0 := blk_frozen BK272.out 0; have hfz33_1 := blk_frozen BK272.out 1; have hfz33_2 := blk_frozen BK272.out 2; obtain ⟨Ao34, co34, eo34⟩ := Kd.S_slice HO268.out; subst eo34; obtain ⟨Ao35, co35, eo35⟩ := Kd.R_slice HO271.out; subst eo35) | ((with_reducible refine gate_callee (f := 16) rfl ?_); refine goesL_ (some 29) rfl rfl Try.func16 (by kernel_rfl) rfl #[.agg #[.int .i64 t265, .slice Ao34 t266.length co34, .slice Ao35 t269.length co35]] rfl (by (try simp only [List.map_toArray, List.map_cons, List.map_nil]); first | done | rfl) ?_; (with_reducible refine (impl_OppositeAutomaton.calls k t265 _ _ t266 _ _ t269 t273 t274 t277 t280 _ ?side1 ?side2 ?side3 ?side4 A10.out).mono ?_); (case side1 => refine (Kd.S_reads' (e := 23) (base := w.heap.size) (ok := fun k_ => (((((some k_ ≠ (.slice Ao35 t269.length co35 : Value).ownBlock ∧ k_ ≠ ge_ N29 k_) ∧ some k_ ≠ (.slice Ao18 t250.length co18 : Value).ownBlock) ∧ some k_ ≠ (.slice Ao19 t253.length co19 : Value).ownBlock) ∧ some k_ ≠ (.slice Ao25 t257.length co25 : Value).ownBlock) ∧ some k_ ≠ (.slice Ao26 t260.length co26 : Value).ownBlock)) (n := t266.length) (c := co34) ?_).2.2; exact (by (with_reducible repeat (first | apply Kd.S_alloc | apply Kd.S_drewN | apply Kd.S_drew)); exact (Kd.S_mono (Kd.S_far (p := ⟨gb272, 2, none⟩) (Kd.S_far (p := ⟨gb272, 1, none⟩) (Kd.S_far (p := ⟨gb272, 0, none⟩) (Kd.S_types HO268.out BK272.out (by decide)) (fun _ hk => hk.2) (.int .i64 t265)) (fun _ hk => hk.2) (.slice Ao34 t266.length co34)) (fun _ hk => hk.2) (.slice Ao35 t269.length co35)) (fun _ h_ => h_.1)))); (case side2 => exact (Kd.S_reads' HO268.out).2.1); (case side3 => refine (Kd.R_reads' (e := 2) (base := w.heap.size) (ok := fun k_ => ((True ∧ some k_ ≠ (.slice Ao19 t253.length co19 : Value).ownBlock) ∧ some k_ ≠ (.slice Ao26 t260.length co26 : Value).ownBlock)) (n := t269.length) (c := co35) ?_).2.2; exact (by (with_reducible repeat (first | apply Kd.R_alloc | apply Kd.R_drewN | apply Kd.R_drew)); exact (Kd.R_mono (Kd.R_far (p := ⟨gb272, 2, none⟩) (Kd.R_far (p := ⟨gb272, 1, none⟩) (Kd.R_far (p := ⟨gb272, 0, none⟩) (Kd.R_types HO271.out BK272.out (by decide)) (fun _ hk => hk.2) (.int .i64 t265)) (fun _ hk => hk.2) (.slice Ao34 t266.length co34)) (fun _ hk => hk.2) (.slice Ao35 t269.length co35)) (fun _ h_ => h_.1)))); (case side4 => exact (Kd.R_reads' HO271.out).2.1); rintro e w36 ⟨v275, v278, rfl, ho0, ho1, hb⟩; refine ⟨_, rfl, ?_⟩; obtain ⟨N37, hN37⟩ := nat_of_below hb; have n0_ := Aside0.mk (Kd.S_mono (Kd.S_told (Kd.S_told (Kd.S_old ((S_ltN (by (with_reducible repeat (first | apply Kd.S_alloc | apply Kd.S_drewN | apply Kd.S_drew)); exact (Kd.S_mono (Kd.S_far (p := ⟨gb272, 2, none⟩) (Kd.S_far (p := ⟨gb272, 1, none⟩) (Kd.S_far (p := ⟨gb272, 0, none⟩) (Kd.S_types HO252.out BK272.out (by decide)) (fun _ hk => hk.2) (.int .i64 t265)) (fun _ hk => hk.2) (.slice Ao34 t266.length co34)) (fun _ hk => hk.2) (.slice Ao35 t269.length co35)) (fun _ h_ => h_.1))) hN37)) hb) (Kd.S_base ho0)) (Kd.R_base ho1)) (fun _ h_ => h_.1)); have n1_ := Aside0.mk (Kd.R_elder' (by (with_reducible repeat (first | apply Kd.R_alloc | apply Kd.R_drewN | apply Kd.R_drew)); exact (Kd.R_mono (Kd.R_far (p := ⟨gb272, 2, none⟩) (Kd.R_far (p := ⟨gb272, 1, none⟩) (Kd.R_far (p := ⟨gb272, 0, none⟩) (Kd.R_types HO255.out BK272.out (by decide)) (fun _ hk => hk.2) (.int .i64 t265)) (fun _ hk => hk.2) (.slice Ao34 t266.length co34)) (fun _ hk => hk.2) (.slice Ao35 t269.length co35)) (fun _ h_ => h_.1))) (Kd.R_base ho1) hb); have n2_ := Aside0.mk (Kd.S_mono (Kd.S_told (Kd.S_told (Kd.S_old ((S_ltN (by (with_reducible repeat (first | apply Kd.S_alloc | apply Kd.S_drewN | apply Kd.S_drew)); exact (Kd.S_mono (Kd.S_far (p := ⟨gb272, 2, none⟩) (Kd.S_far (p := ⟨gb272, 1, none⟩) (Kd.S_far (p := ⟨gb272, 0, none⟩) (Kd.S_types HO259.out BK272.out (by decide)) (fun _ hk => hk.2) (.int .i64 t265)) (fun _ hk => hk.2) (.slice Ao34 t266.length co34)) (fun _ hk => hk.2) (.slice Ao35 t269.length co35)) (fun _ h_ => h_.1))) hN37)) hb) (Kd.S_base ho0)) (Kd.R_base ho1)) (fun _ h_ => h_.1)); have n3_ := Aside0.mk (Kd.R_elder' (by (with_reducible repeat (first | apply Kd.R_alloc | apply Kd.R_drewN | apply Kd.R_drew)); exact (Kd.R_mono (Kd.R_far (p := ⟨gb272, 2, none⟩) (Kd.R_far (p := ⟨gb272, 1, none⟩) (Kd.R_far (p := ⟨gb272, 0, none⟩) (Kd.R_types HO262.out BK272.out (by decide)) (fun _ hk => hk.2) (.int .i64 t265)) (fun _ hk => hk.2) (.slice Ao34 t266.length co34)) (fun _ hk => hk.2) (.slice Ao35 t269.length co35)) (fun _ h_ => h_.1))) (Kd.R_base ho1) hb); have n4_ := Aside0.mk (Kd.S_mono (Kd.S_told (Kd.S_told (Kd.S_old ((S_ltN (by (with_reducible repeat (first | apply Kd.S_alloc | apply Kd.S_drewN | apply Kd.S_drew)); exact (Kd.S_mono (Kd.S_far (p := ⟨gb272, 2, none⟩) (Kd.S_far (p := ⟨gb272, 1, none⟩) (Kd.S_far (p := ⟨gb272, 0, none⟩) (Kd.S_types HO268.out BK272.out (by decide)) (fun _ hk => hk.2) (.int .i64 t265)) (fun _ hk => hk.2) (.slice Ao34 t266.length co34)) (fun _ hk => hk.2) (.slice Ao35 t269.length co35)) (fun _ h_ => h_.1))) hN37)) hb) (Kd.S_base ho0)) (Kd.R_base ho1)) (fun _ h_ => h_.1)); have n5_ := Aside0.mk (Kd.R_elder' (by (with_reducible repeat (first | apply Kd.R_alloc | apply Kd.R_drewN | apply Kd.R_drew)); exact (Kd.R_mono (Kd.R_far (p := ⟨gb272, 2, none⟩) (Kd.R_far (p := ⟨gb272, 1, none⟩) (Kd.R_far (p := ⟨gb272, 0, none⟩) (Kd.R_types HO271.out BK272.out (by decide)) (fun _ hk => hk.2) (.int .i64 t265)) (fun _ hk => hk.2) (.slice Ao34 t266.length co34)) (fun _ hk => hk.2) (.slice Ao35 t269.length co35)) (fun _ h_ => h_.1))) (Kd.R_base ho1) hb); have n6_ := Aside0.mk (Kd.S_lower (Kd.S_new' (Kd.S_new' (Kd.S_new' (Kd.S_new' (Kd.S_new' (Kd.S_new' (S_geN hN37 ho0) (Kd.S_lt (by (with_reducible repeat (first | apply Kd.S_alloc | apply Kd.S_drewN | apply Kd.S_drew)); exact (Kd.S_mono (Kd.S_far (p := ⟨gb272, 2, none⟩) (Kd.S_far (p := ⟨gb272, 1, none⟩) (Kd.S_far (p := ⟨gb272, 0, none⟩) (Kd.S_types HO252.out BK272.out (by decide)) (fun _ hk => hk.2) (.int .i64 t265)) (fun _ hk => hk.2) (.slice Ao34 t266.length co34)) (fun _ hk => hk.2) (.slice Ao35 t269.length co35)) (fun _ h_ => h_.1))))) (Kd.R_lt (by (with_reducible repeat (first | apply Kd.R_alloc | apply Kd.R_drewN | apply Kd.R_drew)); exact (Kd.R_mono (Kd.R_far (p := ⟨gb272, 2, none⟩) (Kd.R_far (p := ⟨gb272, 1, none⟩) (Kd.R_far (p := ⟨gb272, 0, none⟩) (Kd.R_types HO255.out BK272.out (by decide)) (fun _ hk => hk.2) (.int .i64 t265)) (fun _ hk => hk.2) (.slice Ao34 t266.length co34)) (fun _ hk => hk.2) (.slice Ao35 t269.length co35)) (fun _ h_ => h_.1))))) (Kd.S_lt (by (with_reducible repeat (first | apply Kd.S_alloc | apply Kd.S_drewN | apply Kd.S_drew)); exact (Kd.S_mono (Kd.S_far (p := ⟨gb272, 2, none⟩) (Kd.S_far (p := ⟨gb272, 1, none⟩) (Kd.S_far (p := ⟨gb272, 0, none⟩) (Kd.S_types HO259.out BK272.out (by decide)) (fun _ hk => hk.2) (.int .i64 t265)) (fun _ hk => hk.2) (.slice Ao34 t266.length co34)) (fun _ hk => hk.2) (.slice Ao35 t269.length co35)) (fun _ h_ => h_.1))))) (Kd.R_lt (by (with_reducible repeat (first | apply Kd.R_alloc | apply Kd.R_drewN | apply Kd.R_drew)); exact (Kd.R_mono (Kd.R_far (p := ⟨gb272, 2, none⟩) (Kd.R_far (p := ⟨gb272, 1, none⟩) (Kd.R_far (p := ⟨gb272, 0, none⟩) (Kd.R_types HO262.out BK272.out (by decide)) (fun _ hk => hk.2) (.int .i64 t265)) (fun _ hk => hk.2) (.slice Ao34 t266.length co34)) (fun _ hk => hk.2) (.slice Ao35 t269.length co35)) (fun _ h_ => h_.1))))) (Kd.S_lt (by (with_reducible repeat (first | apply Kd.S_alloc | apply Kd.S_drewN | apply Kd.S_drew)); exact (Kd.S_mono (Kd.S_far (p := ⟨gb272, 2, none⟩) (Kd.S_far (p := ⟨gb272, 1, none⟩) (Kd.S_far (p := ⟨gb272, 0, none⟩) (Kd.S_types HO268.out BK272.out (by decide)) (fun _ hk => hk.2) (.int .i64 t265)) (fun _ hk => hk.2) (.slice Ao34 t266.length co34)) (fun _ hk => hk.2) (.slice Ao35 t269.length co35)) (fun _ h_ => h_.1))))) (Kd.R_lt (by (with_reducible repeat (first | apply Kd.R_alloc | apply Kd.R_drewN | apply Kd.R_drew)); exact (Kd.R_mono (Kd.R_far (p := ⟨gb272, 2, none⟩) (Kd.R_far (p := ⟨gb272, 1, none⟩) (Kd.R_far (p := ⟨gb272, 0, none⟩) (Kd.R_types HO271.out BK272.out (by decide)) (fun _ hk => hk.2) (.int .i64 t265)) (fun _ hk => hk.2) (.slice Ao34 t266.length co34)) (fun _ hk => hk.2) (.slice Ao35 t269.length co35)) (fun _ h_ => h_.1))))) (below_size (by repeat (first | (with_reducible first | exact HB.out | apply below_alloc | apply pw_below_drewN | apply below_drew1 | refine below_set ?_ GE247.out | refine below_set ?_ GE264.out | refine below_set ?_ GE272.out) | exact HB.out)))); have n7_ := Aside0.mk (Kd.R_lower (Kd.R_new' (Kd.R_new' (Kd.R_new' ho1 (Kd.R_lt (by (with_reducible repeat (first | apply Kd.R_alloc | apply Kd.R_drewN | apply Kd.R_drew)); exact (Kd.R_mono (Kd.R_far (p := ⟨gb272, 2, none⟩) (Kd.R_far (p := ⟨gb272, 1, none⟩) (Kd.R_far (p := ⟨gb272, 0, none⟩) (Kd.R_types HO255.out BK272.out (by decide)) (fun _ hk => hk.2) (.int .i64 t265)) (fun _ hk => hk.2) (.slice Ao34 t266.length co34)) (fun _ hk => hk.2) (.slice Ao35 t269.length co35)) (fun _ h_ => h_.1))))) (Kd.R_lt (by (with_reducible repeat (first | apply Kd.R_alloc | apply Kd.R_drewN | apply Kd.R_drew)); exact (Kd.R_mono (Kd.R_far (p := ⟨gb272, 2, none⟩) (Kd.R_far (p := ⟨gb272, 1, none⟩) (Kd.R_far (p := ⟨gb272, 0, none⟩) (Kd.R_types HO262.out BK272.out (by decide)) (fun _ hk => hk.2) (.int .i64 t265)) (fun _ hk => hk.2) (.slice Ao34 t266.length co34)) (fun _ hk => hk.2) (.slice Ao35 t269.length co35)) (fun _ h_ => h_.1))))) (Kd.R_lt (by (with_reducible repeat (first | apply Kd.R_alloc | apply Kd.R_drewN | apply Kd.R_drew)); exact (Kd.R_mono (Kd.R_far (p := ⟨gb272, 2, none⟩) (Kd.R_far (p := ⟨gb272, 1, none⟩) (Kd.R_far (p := ⟨gb272, 0, none⟩) (Kd.R_types HO271.out BK272.out (by decide)) (fun _ hk => hk.2) (.int .i64 t265)) (fun _ hk => hk.2) (.slice Ao34 t266.length co34)) (fun _ hk => hk.2) (.slice Ao35 t269.length co35)) (fun _ h_ => h_.1))))) (below_size (by repeat (first | (with_reducible first | exact HB.out | apply below_alloc | apply pw_below_drewN | apply below_drew1 | refine below_set ?_ GE247.out | refine below_set ?_ GE264.out | refine below_set ?_ GE272.out) | exact HB.out)))); have n8_ := Aside0.mk (blk_below (g := gb247) (o := .cells #[.int .i64 a0_0, .slice A0_1 l0_1.length c0_1, .slice A0_2 l0_2.length c0_2] 25 (0, 0)) (by (with_reducible repeat (first | refine blk_drewN ?_ _ | refine blk_drew ?_ | refine blk_alloc ?_ _)); refine blk_far ?_ NB247_272.out _; (with_reducible repeat (first | refine blk_drewN ?_ _ | refine blk_drew ?_ | refine blk_alloc ?_ _)); refine blk_far ?_ NB247_272.out _; (with_reducible repeat (first | refine blk_drewN ?_ _ | refine blk_drew ?_ | refine blk_alloc ?_ _)); refine blk_far ?_ NB247_272.out _; (with_reducible repeat (first | refine blk_drewN ?_ _ | refine blk_drew ?_ | refine blk_alloc ?_ _)); exact BK247.out) hb); have n9_ := Aside0.mk (blk_below (g := gb264) (o := .cells #[.int .i64 t256, .slice Ao25 t257.length co25, .slice Ao26 t260.length co26] 28 (0, 0)) (by (with_reducible repeat (first | refine blk_drewN ?_ _ | refine blk_drew ?_ | refine blk_alloc ?_ _)); refine blk_far ?_ NB264_272.out _; (with_reducible repeat (first | refine blk_drewN ?_ _ | refine blk_drew ?_ | refine blk_alloc ?_ _)); refine blk_far ?_ NB264_272.out _; (with_reducible repeat (first | refine blk_drewN ?_ _ | refine blk_drew ?_ | refine blk_alloc ?_ _)); refine blk_far ?_ NB264_272.out _; (with_reducible repeat (first | refine blk_drewN ?_ _ | refine blk_drew ?_ | refine blk_alloc ?_ _)); exact BK264.out) hb); have n10_ := Aside0.mk (blk_below (g := gb272) (o := .cells #[.int .i64 t265, .slice Ao34 t266.length co34, .slice Ao35 t269.length co35] 28 (0, 0)) (by (with_reducible repeat (first | refine blk_drewN ?_ _ | refine blk_drew ?_ | refine blk_alloc ?_ _)); refine blk_put (cs := #[.int .i64 t265, .slice Ao34 t266.length co34, .slice none 0 0]) ?_ 2 _ rfl; (with_reducible repeat (first | refine blk_drewN ?_ _ | refine blk_drew ?_ | refine blk_alloc ?_ _)); refine blk_put (cs := #[.int .i64 t265, .slice none 0 0, .slice none 0 0]) ?_ 1 _ rfl; (with_reducible repeat (first | refine blk_drewN ?_ _ | refine blk_drew ?_ | refine blk_alloc ?_ _)); refine blk_put (cs := #[.int .i64 0, .slice none 0 0, .slice none 0 0]) ?_ 0 _ rfl; (with_reducible repeat (first | refine blk_drewN ?_ _ | refine blk_drew ?_ | refine blk_alloc ?_ _)); exact BK272.out) hb); have n11_ := Aside0.mk (below_step (by repeat (first | (with_reducible first | exact HB.out | apply below_alloc | apply pw_below_drewN | apply below_drew1 | refine below_set ?_ GE247.out | refine below_set ?_ GE264.out | refine below_set ?_ GE272.out) | exact HB.out)) hb); clear HO252; clear HO255; clear HO259; clear HO262; clear HO268; clear HO271; clear BK247; clear BK264; clear BK272; clear HB; have HO252 := n0_; have HO255 := n1_; have HO259 := n2_; have HO262 := n3_; have HO268 := n4_; have HO271 := n5_; have HO276 := n6_; have HO279 := n7_; have BK247 := n8_; have BK264 := n9_; have BK272 := n10_; have HB := n11_; clear n0_ n1_ n2_ n3_ n4_ n5_ n6_ n7_ n8_ n9_ n10_ n11_; (try clear hb); (try clear hb2); (try clear hk); (try clear hi); (try clear ho0); (try clear ho1)) | ((with_reducible refine gate_dst (N := 7) rfl ?_); refine box_event ?hg (N := 7) ?hd (cs := #[.int .i64 0, .slice none 0 0, .slice none 0 0]) (t := 28) ?hr ?_; (case hd => rfl); (case hg => rfl); (case hr => first | (go_simp; done) | (go_simp; rfl)); intro gb281 hg w38 hbox hb; have n0_ := Aside0.mk (Kd.S_below HO252.out hb); have n1_ := Aside0.mk (Kd.R_below HO255.out hb); have n2_ := Aside0.mk (Kd.S_below HO259.out hb); have n3_ := Aside0.mk (Kd.R_below HO262.out hb); have n4_ := Aside0.mk (Kd.S_below HO268.out hb); have n5_ := Aside0.mk (Kd.R_below HO271.out hb); have n6_ := Aside0.mk (Kd.S_below HO276.out hb); have n7_ := Aside0.mk (Kd.R_below HO279.out hb); have n8_ := Aside0.mk (blk_below (g := gb247) (o := .cells #[.int .i64 a0_0, .slice A0_1 l0_1.length c0_1, .slice A0_2 l0_2.length c0_2] 25 (0, 0)) BK247.out hb); have n9_ := Aside0.mk (blk_below (g := gb264) (o := .cells #[.int .i64 t256, .slice Ao25 t257.length co25, .slice Ao26 t260.length co26] 28 (0, 0)) BK264.out hb); have n10_ := Aside0.mk (blk_below (g := gb272) (o := .cells #[.int .i64 t265, .slice Ao34 t266.length co34, .slice Ao35 t269.length co35] 28 (0, 0)) BK272.out hb); have n11_ := Aside0.mk (below_step (by repeat (first | (with_reducible first | exact HB.out | apply below_alloc | apply pw_below_drewN | apply below_drew1 | refine below_set ?_ GE247.out | refine below_set ?_ GE264.out | refine below_set ?_ GE272.out) | exact HB.out)) hb); have n12_ := Aside0.mk (hbox); have n13_ := Aside0.mk ((by rw [hg]; exact (below_size (by repeat (first | (with_reducible first | exact HB.out | apply below_alloc | apply pw_below_drewN | apply below_drew1 | refine below_set ?_ GE247.out | refine below_set ?_ GE264.out | refine below_set ?_ GE272.out) | exact HB.out))) : w.heap.size ≤ gb281)); have n14_ := Aside0.mk ((by rw [hg]; exact (below_size (by repeat (first | (with_reducible first | exact HB.out | apply below_alloc | apply pw_below_drewN | apply below_drew1 | refine below_set ?_ GE247.out | refine below_set ?_ GE264.out | refine below_set ?_ GE272.out) | exact HB.out))) : w.heap.size ≤ gb281)); have n15_ := Aside0.mk ((by rw [hg]; exact Nat.ne_of_lt (blk_lt (g := gb247) (o := .cells #[.int .i64 a0_0, .slice A0_1 l0_1.length c0_1, .slice A0_2 l0_2.length c0_2] 25 (0, 0)) BK247.out) : gb247 ≠ gb281)); have n16_ := Aside0.mk ((by rw [hg]; exact Nat.ne_of_gt (blk_lt (g := gb247) (o := .cells #[.int .i64 a0_0, .slice A0_1 l0_1.length c0_1, .slice A0_2 l0_2.length c0_2] 25 (0, 0)) BK247.out) : gb281 ≠ gb247)); have n17_ := Aside0.mk ((by rw [hg]; exact Nat.ne_of_lt (blk_lt (g := gb264) (o := .cells #[.int .i64 t256, .slice Ao25 t257.length co25, .slice Ao26 t260.length co26] 28 (0, 0)) BK264.out) : gb264 ≠ gb281)); have n18_ := Aside0.mk ((by rw [hg]; exact Nat.ne_of_gt (blk_lt (g := gb264) (o := .cells #[.int .i64 t256, .slice Ao25 t257.length co25, .slice Ao26 t260.length co26] 28 (0, 0)) BK264.out) : gb281 ≠ gb264)); have n19_ := Aside0.mk ((by rw [hg]; exact Nat.ne_of_lt (blk_lt (g := gb272) (o := .cells #[.int .i64 t265, .slice Ao34 t266.length co34, .slice Ao35 t269.length co35] 28 (0, 0)) BK272.out) : gb272 ≠ gb281)); have n20_ := Aside0.mk ((by rw [hg]; exact Nat.ne_of_gt (blk_lt (g := gb272) (o := .cells #[.int .i64 t265, .slice Ao34 t266.length co34, .slice Ao35 t269.length co35] 28 (0, 0)) BK272.out) : gb281 ≠ gb272)); clear HO252; clear HO255; clear HO259; clear HO262; clear HO268; clear HO271; clear HO276; clear HO279; clear BK247; clear BK264; clear BK272; clear HB; have HO252 := n0_; have HO255 := n1_; have HO259 := n2_; have HO262 := n3_; have HO268 := n4_; have HO271 := n5_; have HO276 := n6_; have HO279 := n7_; have BK247 := n8_; have BK264 := n9_; have BK272 := n10_; have HB := n11_; have BK281 := n12_; have GW281 := n13_; have GE281 := n14_; have NB247_281 := n15_; have NB281_247 := n16_; have NB264_281 := n17_; have NB281_264 := n18_; have NB272_281 := n19_; have NB281_272 := n20_; clear n0_ n1_ n2_ n3_ n4_ n5_ n6_ n7_ n8_ n9_ n10_ n11_ n12_ n13_ n14_ n15_ n16_ n17_ n18_ n19_ n20_; clear hb hbox hg; have hnb39 := NB281_247.out; have hnc39 := NB247_281.out; have hnb40 := NB281_264.out; have hnc40 := NB264_281.out; have hnb41 := NB281_272.out; have hnc41 := NB272_281.out; have hcz42_0 : w38.cell? ⟨gb281, 0, none⟩ = some (.int .i64 0) := (blk_cell BK281.out 0).trans rfl; have hcz42_1 : w38.cell? ⟨gb281, 1, none⟩ = some (.slice none 0 0) := (blk_cell BK281.out 1).trans rfl; have hcz42_2 : w38.cell? ⟨gb281, 2, none⟩ = some (.slice none 0 0) := (blk_cell BK281.out 2).trans rfl; have hfz42_0 := blk_frozen BK281.out 0; have hfz42_1 := blk_frozen BK281.out 1; have hfz42_2 := blk_frozen BK281.out 2; obtain ⟨Ao43, co43, eo43⟩ := Kd.S_slice HO276.out; subst eo43; obtain ⟨Ao44, co44, eo44⟩ := Kd.R_slice HO279.out; subst eo44))
  (try simp only [Act.put, List.setIfInBounds_toArray, List.set_cons_zero, List.set_cons_succ])
  go_cut [40] (fun v40 wc => ∃ (kq : Nat) (x40_10 : Bool), v40 = .bool x40_10 ∧ Aside0 (laws_FnExactOppositeAutomaton.j0 kq t263 t280 x40_10 a0_0 l0_1 l0_2 t256 t257 t260 t265 t266 t269 t273 t274 t277 = some r) ∧ Aside0 (kq ≤ k) ∧ Aside0 (Kd.S (Kd.slice 2 (Kd.int .i64)) 23 wc w.heap.size (fun k_ => some k_ ≠ ((.slice Ao26 t260.length co26) : Value).ownBlock ∧ some k_ ≠ ((.slice Ao34 t266.length co34) : Value).ownBlock ∧ some k_ ≠ ((.slice Ao35 t269.length co35) : Value).ownBlock ∧ some k_ ≠ ((.slice Ao43 t274.length co43) : Value).ownBlock ∧ some k_ ≠ ((.slice Ao44 t277.length co44) : Value).ownBlock ∧ k_ ≠ ge_ N21 k_ ∧ k_ ≠ lt_ N29 k_ ∧ k_ ≠ lt_ N37 k_) (.slice Ao25 t257.length co25) t257) ∧ Aside0 (Kd.R (Kd.int .i64) 2 wc w.heap.size (fun k_ => some k_ ≠ ((.slice Ao35 t269.length co35) : Value).ownBlock ∧ some k_ ≠ ((.slice Ao44 t277.length co44) : Value).ownBlock) (.slice Ao26 t260.length co26) t260) ∧ Aside0 (Kd.S (Kd.slice 2 (Kd.int .i64)) 23 wc w.heap.size (fun k_ => some k_ ≠ ((.slice Ao25 t257.length co25) : Value).ownBlock ∧ some k_ ≠ ((.slice Ao26 t260.length co26) : Value).ownBlock ∧ some k_ ≠ ((.slice Ao35 t269.length co35) : Value).ownBlock ∧ some k_ ≠ ((.slice Ao43 t274.length co43) : Value).ownBlock ∧ some k_ ≠ ((.slice Ao44 t277.length co44) : Value).ownBlock ∧ k_ ≠ ge_ N29 k_ ∧ k_ ≠ lt_ N37 k_) (.slice Ao34 t266.length co34) t266) ∧ Aside0 (Kd.R (Kd.int .i64) 2 wc w.heap.size (fun k_ => some k_ ≠ ((.slice Ao26 t260.length co26) : Value).ownBlock ∧ some k_ ≠ ((.slice Ao44 t277.length co44) : Value).ownBlock) (.slice Ao35 t269.length co35) t269) ∧ Aside0 (Kd.S (Kd.slice 2 (Kd.int .i64)) 23 wc w.heap.size (fun k_ => some k_ ≠ ((.slice Ao25 t257.length co25) : Value).ownBlock ∧ some k_ ≠ ((.slice Ao26 t260.length co26) : Value).ownBlock ∧ some k_ ≠ ((.slice Ao34 t266.length co34) : Value).ownBlock ∧ some k_ ≠ ((.slice Ao35 t269.length co35) : Value).ownBlock ∧ some k_ ≠ ((.slice Ao44 t277.length co44) : Value).ownBlock ∧ k_ ≠ ge_ N37 k_) (.slice Ao43 t274.length co43) t274) ∧ Aside0 (Kd.R (Kd.int .i64) 2 wc w.heap.size (fun k_ => some k_ ≠ ((.slice Ao26 t260.length co26) : Value).ownBlock ∧ some k_ ≠ ((.slice Ao35 t269.length co35) : Value).ownBlock) (.slice Ao44 t277.length co44) t277) ∧ Aside0 (wc.heap[gb247]? = some (.cells #[.int .i64 a0_0, (.slice A0_1 l0_1.length c0_1), (.slice A0_2 l0_2.length c0_2)] 25 (0, 0))) ∧ Aside0 (wc.heap[gb264]? = some (.cells #[.int .i64 t256, (.slice Ao25 t257.length co25), (.slice Ao26 t260.length co26)] 28 (0, 0))) ∧ Aside0 (wc.heap[gb272]? = some (.cells #[.int .i64 t265, (.slice Ao34 t266.length co34), (.slice Ao35 t269.length co35)] 28 (0, 0))) ∧ Aside0 (wc.heap[gb281]? = some (.cells #[.int .i64 t273, (.slice Ao43 t274.length co43), (.slice Ao44 t277.length co44)] 28 (0, 0))) ∧ Aside0 (Below w.heap.size w wc))
  case first =>
   have H := HC11.out
   clear HC11
   replace H := Option.bind_eq_some_iff.mp H
   obtain ⟨t282, A450, H⟩ := H
   replace H : (if t282 = true then (laws_FnExactOppositeAutomaton.j0 k t263 t280 (t280 != t263) a0_0 l0_1 l0_2 t256 t257 t260 t265 t266 t269 t273 t274 t277) else (laws_FnExactOppositeAutomaton.j0 k t263 t280 true a0_0 l0_1 l0_2 t256 t257 t260 t265 t266 t269 t273 t274 t277)) = some r := H
   have A45 := Aside0.mk A450
   clear A450
   by_cases c46 : t282 = true
   ·subst c46
    have H1 : (laws_FnExactOppositeAutomaton.j0 k t263 t280 (t280 != t263) a0_0 l0_1 l0_2 t256 t257 t260 t265 t266 t269 t273 t274 t277) = some r := by rw [if_pos rfl] at H; exact H
    clear H
    have H := H1
    clear H1
    have H' := Aside0.mk H
    clear H
    have hnb47 := NB281_247.out
    have hnc47 := NB247_281.out
    have hnb48 := NB281_264.out
    have hnc48 := NB264_281.out
    have hnb49 := NB281_272.out
    have hnc49 := NB272_281.out
    have hcz50_0 : w38.cell? ⟨gb281, 0, none⟩ = some (.int .i64 0) := (blk_cell BK281.out 0).trans rfl
    have hcz50_1 : w38.cell? ⟨gb281, 1, none⟩ = some (.slice none 0 0) := (blk_cell BK281.out 1).trans rfl
    have hcz50_2 : w38.cell? ⟨gb281, 2, none⟩ = some (.slice none 0 0) := (blk_cell BK281.out 2).trans rfl
    have hfz50_0 := blk_frozen BK281.out 0
    have hfz50_1 := blk_frozen BK281.out 1
    have hfz50_2 := blk_frozen BK281.out 2
    have hnb51 := NB264_247.out
    have hnc51 := NB247_264.out
    have hnb52 := NB264_272.out
    have hnc52 := NB272_264.out
    have hcz53_0 : w38.cell? ⟨gb264, 0, none⟩ = some (.int .i64 t256) := (blk_cell BK264.out 0).trans rfl
    have hcz53_1 : w38.cell? ⟨gb264, 1, none⟩ = some (.slice Ao25 t257.length co25) := (blk_cell BK264.out 1).trans rfl
    have hcz53_2 : w38.cell? ⟨gb264, 2, none⟩ = some (.slice Ao26 t260.length co26) := (blk_cell BK264.out 2).trans rfl
    have hfz53_0 := blk_frozen BK264.out 0
    have hfz53_1 := blk_frozen BK264.out 1
    have hfz53_2 := blk_frozen BK264.out 2
    go_wp2_with (first | ((with_reducible refine gate_callee (f := 14) rfl ?_); refine goesL_ (some 34) rfl rfl Try.func14 (by kernel_rfl) rfl #[.agg #[.int .i64 t273, .slice Ao43 t274.length co43, .slice Ao44 t277.length co44], .agg #[.int .i64 t256, .slice Ao25 t257.length co25, .slice Ao26 t260.length co26]] rfl (by (try simp only [List.map_toArray, List.map_cons, List.map_nil]); first | done | rfl) ?_; (with_reducible refine (laws_eqAutomaton.calls k t273 _ _ t274 _ _ t277 t256 _ _ t257 _ _ t260 true _ ?side1 ?side2 ?side3 ?side4 ?side5 ?side6 ?side7 ?side8 A45.out).mono ?_); (case side1 => refine (Kd.S_reads' (e := 23) (base := w.heap.size) (ok := fun k_ => (((((((some k_ ≠ (.slice Ao44 t277.length co44 : Value).ownBlock ∧ k_ ≠ ge_ N37 k_) ∧ some k_ ≠ (.slice Ao18 t250.length co18 : Value).ownBlock) ∧ some k_ ≠ (.slice Ao19 t253.length co19 : Value).ownBlock) ∧ some k_ ≠ (.slice Ao25 t257.length co25 : Value).ownBlock) ∧ some k_ ≠ (.slice Ao26 t260.length co26 : Value).ownBlock) ∧ some k_ ≠ (.slice Ao34 t266.length co34 : Value).ownBlock) ∧ some k_ ≠ (.slice Ao35 t269.length co35 : Value).ownBlock)) (n := t274.length) (c := co43) ?_).2.2; exact (by (with_reducible repeat (first | apply Kd.S_alloc | apply Kd.S_drewN | apply Kd.S_drew)); exact (Kd.S_mono (Kd.S_far (p := ⟨gb281, 2, none⟩) (Kd.S_far (p := ⟨gb281, 1, none⟩) (Kd.S_far (p := ⟨gb281, 0, none⟩) (Kd.S_types HO276.out BK281.out (by decide)) (fun _ hk => hk.2) (.int .i64 t273)) (fun _ hk => hk.2) (.slice Ao43 t274.length co43)) (fun _ hk => hk.2) (.slice Ao44 t277.length co44)) (fun _ h_ => h_.1)))); (case side2 => exact (Kd.S_reads' HO276.out).2.1); (case side3 => refine (Kd.R_reads' (e := 2) (base := w.heap.size) (ok := fun k_ => (((True ∧ some k_ ≠ (.slice Ao19 t253.length co19 : Value).ownBlock) ∧ some k_ ≠ (.slice Ao26 t260.length co26 : Value).ownBlock) ∧ some k_ ≠ (.slice Ao35 t269.length co35 : Value).ownBlock)) (n := t277.length) (c := co44) ?_).2.2; exact (by (with_reducible repeat (first | apply Kd.R_alloc | apply Kd.R_drewN | apply Kd.R_drew)); exact (Kd.R_mono (Kd.R_far (p := ⟨gb281, 2, none⟩) (Kd.R_far (p := ⟨gb281, 1, none⟩) (Kd.R_far (p := ⟨gb281, 0, none⟩) (Kd.R_types HO279.out BK281.out (by decide)) (fun _ hk => hk.2) (.int .i64 t273)) (fun _ hk => hk.2) (.slice Ao43 t274.length co43)) (fun _ hk => hk.2) (.slice Ao44 t277.length co44)) (fun _ h_ => h_.1)))); (case side4 => exact (Kd.R_reads' HO279.out).2.1); (case side5 => refine (Kd.S_reads' (e := 23) (base := w.heap.size) (ok := fun k_ => (((((((((some k_ ≠ (.slice Ao26 t260.length co26 : Value).ownBlock ∧ k_ ≠ ge_ N21 k_) ∧ some k_ ≠ (.slice Ao18 t250.length co18 : Value).ownBlock) ∧ some k_ ≠ (.slice Ao19 t253.length co19 : Value).ownBlock) ∧ k_ ≠ lt_ N29 k_) ∧ some k_ ≠ (.slice Ao34 t266.length co34 : Value).ownBlock) ∧ some k_ ≠ (.slice Ao35 t269.length co35 : Value).ownBlock) ∧ k_ ≠ lt_ N37 k_) ∧ some k_ ≠ (.slice Ao43 t274.length co43 : Value).ownBlock) ∧ some k_ ≠ (.slice Ao44 t277.length co44 : Value).ownBlock)) (n := t257.length) (c := co25) ?_).2.2; exact (by (with_reducible repeat (first | apply Kd.S_alloc | apply Kd.S_drewN | apply Kd.S_drew)); exact (Kd.S_mono (Kd.S_far (p := ⟨gb281, 2, none⟩) (Kd.S_far (p := ⟨gb281, 1, none⟩) (Kd.S_far (p := ⟨gb281, 0, none⟩) (Kd.S_types HO259.out BK281.out (by decide)) (fun _ hk => hk.2) (.int .i64 t273)) (fun _ hk => hk.2) (.slice Ao43 t274.length co43)) (fun _ hk => hk.2) (.slice Ao44 t277.length co44)) (fun _ h_ => h_.1)))); (case side6 => exact (Kd.S_reads' HO259.out).2.1); (case side7 => refine (Kd.R_reads' (e := 2) (base := w.heap.size) (ok := fun k_ => (((True ∧ some k_ ≠ (.slice Ao19 t253.length co19 : Value).ownBlock) ∧ some k_ ≠ (.slice Ao35 t269.length co35 : Value).ownBlock) ∧ some k_ ≠ (.slice Ao44 t277.length co44 : Value).ownBlock)) (n := t260.length) (c := co26) ?_).2.2; exact (by (with_reducible repeat (first | apply Kd.R_alloc | apply Kd.R_drewN | apply Kd.R_drew)); exact (Kd.R_mono (Kd.R_far (p := ⟨gb281, 2, none⟩) (Kd.R_far (p := ⟨gb281, 1, none⟩) (Kd.R_far (p := ⟨gb281, 0, none⟩) (Kd.R_types HO262.out BK281.out (by decide)) (fun _ hk => hk.2) (.int .i64 t273)) (fun _ hk => hk.2) (.slice Ao43 t274.length co43)) (fun _ hk => hk.2) (.slice Ao44 t277.length co44)) (fun _ h_ => h_.1)))); (case side8 => exact (Kd.R_reads' HO262.out).2.1); rintro e w54 ⟨rfl, hb⟩; refine ⟨_, rfl, ?_⟩; have n0_ := Aside0.mk (Kd.S_below (by (with_reducible repeat (first | apply Kd.S_alloc | apply Kd.S_drewN | apply Kd.S_drew)); exact (Kd.S_mono (Kd.S_far (p := ⟨gb281, 2, none⟩) (Kd.S_far (p := ⟨gb281, 1, none⟩) (Kd.S_far (p := ⟨gb281, 0, none⟩) (Kd.S_types HO252.out BK281.out (by decide)) (fun _ hk => hk.2) (.int .i64 t273)) (fun _ hk => hk.2) (.slice Ao43 t274.length co43)) (fun _ hk => hk.2) (.slice Ao44 t277.length co44)) (fun _ h_ => h_.1))) hb); have n1_ := Aside0.mk (Kd.R_below (by (with_reducible repeat (first | apply Kd.R_alloc | apply Kd.R_drewN | apply Kd.R_drew)); exact (Kd.R_mono (Kd.R_far (p := ⟨gb281, 2, none⟩) (Kd.R_far (p := ⟨gb281, 1, none⟩) (Kd.R_far (p := ⟨gb281, 0, none⟩) (Kd.R_types HO255.out BK281.out (by decide)) (fun _ hk => hk.2) (.int .i64 t273)) (fun _ hk => hk.2) (.slice Ao43 t274.length co43)) (fun _ hk => hk.2) (.slice Ao44 t277.length co44)) (fun _ h_ => h_.1))) hb); have n2_ := Aside0.mk (Kd.S_below (by (with_reducible repeat (first | apply Kd.S_alloc | apply Kd.S_drewN | apply Kd.S_drew)); exact (Kd.S_mono (Kd.S_far (p := ⟨gb281, 2, none⟩) (Kd.S_far (p := ⟨gb281, 1, none⟩) (Kd.S_far (p := ⟨gb281, 0, none⟩) (Kd.S_types HO259.out BK281.out (by decide)) (fun _ hk => hk.2) (.int .i64 t273)) (fun _ hk => hk.2) (.slice Ao43 t274.length co43)) (fun _ hk => hk.2) (.slice Ao44 t277.length co44)) (fun _ h_ => h_.1))) hb); have n3_ := Aside0.mk (Kd.R_below (by (with_reducible repeat (first | apply Kd.R_alloc | apply Kd.R_drewN | apply Kd.R_drew)); exact (Kd.R_mono (Kd.R_far (p := ⟨gb281, 2, none⟩) (Kd.R_far (p := ⟨gb281, 1, none⟩) (Kd.R_far (p := ⟨gb281, 0, none⟩) (Kd.R_types HO262.out BK281.out (by decide)) (fun _ hk => hk.2) (.int .i64 t273)) (fun _ hk => hk.2) (.slice Ao43 t274.length co43)) (fun _ hk => hk.2) (.slice Ao44 t277.length co44)) (fun _ h_ => h_.1))) hb); have n4_ := Aside0.mk (Kd.S_below (by (with_reducible repeat (first | apply Kd.S_alloc | apply Kd.S_drewN | apply Kd.S_drew)); exact (Kd.S_mono (Kd.S_far (p := ⟨gb281, 2, none⟩) (Kd.S_far (p := ⟨gb281, 1, none⟩) (Kd.S_far (p := ⟨gb281, 0, none⟩) (Kd.S_types HO268.out BK281.out (by decide)) (fun _ hk => hk.2) (.int .i64 t273)) (fun _ hk => hk.2) (.slice Ao43 t274.length co43)) (fun _ hk => hk.2) (.slice Ao44 t277.length co44)) (fun _ h_ => h_.1))) hb); have n5_ := Aside0.mk (Kd.R_below (by (with_reducible repeat (first | apply Kd.R_alloc | apply Kd.R_drewN | apply Kd.R_drew)); exact (Kd.R_mono (Kd.R_far (p := ⟨gb281, 2, none⟩) (Kd.R_far (p := ⟨gb281, 1, none⟩) (Kd.R_far (p := ⟨gb281, 0, none⟩) (Kd.R_types HO271.out BK281.out (by decide)) (fun _ hk => hk.2) (.int .i64 t273)) (fun _ hk => hk.2) (.slice Ao43 t274.length co43)) (fun _ hk => hk.2) (.slice Ao44 t277.length co44)) (fun _ h_ => h_.1))) hb); have n6_ := Aside0.mk (Kd.S_below (by (with_reducible repeat (first | apply Kd.S_alloc | apply Kd.S_drewN | apply Kd.S_drew)); exact (Kd.S_mono (Kd.S_far (p := ⟨gb281, 2, none⟩) (Kd.S_far (p := ⟨gb281, 1, none⟩) (Kd.S_far (p := ⟨gb281, 0, none⟩) (Kd.S_types HO276.out BK281.out (by decide)) (fun _ hk => hk.2) (.int .i64 t273)) (fun _ hk => hk.2) (.slice Ao43 t274.length co43)) (fun _ hk => hk.2) (.slice Ao44 t277.length co44)) (fun _ h_ => h_.1))) hb); have n7_ := Aside0.mk (Kd.R_below (by (with_reducible repeat (first | apply Kd.R_alloc | apply Kd.R_drewN | apply Kd.R_drew)); exact (Kd.R_mono (Kd.R_far (p := ⟨gb281, 2, none⟩) (Kd.R_far (p := ⟨gb281, 1, none⟩) (Kd.R_far (p := ⟨gb281, 0, none⟩) (Kd.R_types HO279.out BK281.out (by decide)) (fun _ hk => hk.2) (.int .i64 t273)) (fun _ hk => hk.2) (.slice Ao43 t274.length co43)) (fun _ hk => hk.2) (.slice Ao44 t277.length co44)) (fun _ h_ => h_.1))) hb); have n8_ := Aside0.mk (blk_below (g := gb247) (o := .cells #[.int .i64 a0_0, .slice A0_1 l0_1.length c0_1, .slice A0_2 l0_2.length c0_2] 25 (0, 0)) (by (with_reducible repeat (first | refine blk_drewN ?_ _ | refine blk_drew ?_ | refine blk_alloc ?_ _)); refine blk_far ?_ NB247_281.out _; (with_reducible repeat (first | refine blk_drewN ?_ _ | refine blk_drew ?_ | refine blk_alloc ?_ _)); refine blk_far ?_ NB247_281.out _; (with_reducible repeat (first | refine blk_drewN ?_ _ | refine blk_drew ?_ | refine blk_alloc ?_ _)); refine blk_far ?_ NB247_281.out _; (with_reducible repeat (first | refine blk_drewN ?_ _ | refine blk_drew ?_ | refine blk_alloc ?_ _)); exact BK247.out) hb); have n9_ := Aside0.mk (blk_below (g := gb264) (o := .cells #[.int .i64 t256, .slice Ao25 t257.length co25, .slice Ao26 t260.length co26] 28 (0, 0)) (by (with_reducible repeat (first | refine blk_drewN ?_ _ | refine blk_drew ?_ | refine blk_alloc ?_ _)); refine blk_far ?_ NB264_281.out _; (with_reducible repeat (first | refine blk_drewN ?_ _ | refine blk_drew ?_ | refine blk_alloc ?_ _)); refine blk_far ?_ NB264_281.out _; (with_reducible repeat (first | refine blk_drewN ?_ _ | refine blk_drew ?_ | refine blk_alloc ?_ _)); refine blk_far ?_ NB264_281.out _; (with_reducible repeat (first | refine blk_drewN ?_ _ | refine blk_drew ?_ | refine blk_alloc ?_ _)); exact BK264.out) hb); have n10_ := Aside0.mk (blk_below (g := gb272) (o := .cells #[.int .i64 t265, .slice Ao34 t266.length co34, .slice Ao35 t269.length co35] 28 (0, 0)) (by (with_reducible repeat (first | refine blk_drewN ?_ _ | refine blk_drew ?_ | refine blk_alloc ?_ _)); refine blk_far ?_ NB272_281.out _; (with_reducible repeat (first | refine blk_drewN ?_ _ | refine blk_drew ?_ | refine blk_alloc ?_ _)); refine blk_far ?_ NB272_281.out _; (with_reducible repeat (first | refine blk_drewN ?_ _ | refine blk_drew ?_ | refine blk_alloc ?_ _)); refine blk_far ?_ NB272_281.out _; (with_reducible repeat (first | refine blk_drewN ?_ _ | refine blk_drew ?_ | refine blk_alloc ?_ _)); exact BK272.out) hb); have n11_ := Aside0.mk (blk_below (g := gb281) (o := .cells #[.int .i64 t273, .slice Ao43 t274.length co43, .slice Ao44 t277.length co44] 28 (0, 0)) (by (with_reducible repeat (first | refine blk_drewN ?_ _ | refine blk_drew ?_ | refine blk_alloc ?_ _)); refine blk_put (cs := #[.int .i64 t273, .slice Ao43 t274.length co43, .slice none 0 0]) ?_ 2 _ rfl; (with_reducible repeat (first | refine blk_drewN ?_ _ | refine blk_drew ?_ | refine blk_alloc ?_ _)); refine blk_put (cs := #[.int .i64 t273, .slice none 0 0, .slice none 0 0]) ?_ 1 _ rfl; (with_reducible repeat (first | refine blk_drewN ?_ _ | refine blk_drew ?_ | refine blk_alloc ?_ _)); refine blk_put (cs := #[.int .i64 0, .slice none 0 0, .slice none 0 0]) ?_ 0 _ rfl; (with_reducible repeat (first | refine blk_drewN ?_ _ | refine blk_drew ?_ | refine blk_alloc ?_ _)); exact BK281.out) hb); have n12_ := Aside0.mk (below_step (by repeat (first | (with_reducible first | exact HB.out | apply below_alloc | apply pw_below_drewN | apply below_drew1 | refine below_set ?_ GE247.out | refine below_set ?_ GE264.out | refine below_set ?_ GE272.out | refine below_set ?_ GE281.out) | exact HB.out)) hb); clear HO252; clear HO255; clear HO259; clear HO262; clear HO268; clear HO271; clear HO276; clear HO279; clear BK247; clear BK264; clear BK272; clear BK281; clear HB; have HO252 := n0_; have HO255 := n1_; have HO259 := n2_; have HO262 := n3_; have HO268 := n4_; have HO271 := n5_; have HO276 := n6_; have HO279 := n7_; have BK247 := n8_; have BK264 := n9_; have BK272 := n10_; have BK281 := n11_; have HB := n12_; clear n0_ n1_ n2_ n3_ n4_ n5_ n6_ n7_ n8_ n9_ n10_ n11_ n12_; (try clear hb); (try clear hb2); (try clear hk); (try clear hi)))
    go_meet
    case rel => exact ⟨_, ((t280 != t263)), (by first | rfl | (simp; done) | (simp [*]; done)), H', ⟨by first | omega | exact Nat.le_refl _⟩, ⟨by (with_reducible repeat (first | apply Kd.S_alloc | apply Kd.S_drewN | apply Kd.S_drew)); exact Kd.S_mono HO259.out (fun _ hk => ⟨hk.1.1.1.1.1.1.1.1.1, ⟨hk.1.1.1.1.2, ⟨hk.1.1.1.2, ⟨hk.1.2, ⟨hk.2, ⟨hk.1.1.1.1.1.1.1.1.2, ⟨hk.1.1.1.1.1.2, hk.1.1.2⟩⟩⟩⟩⟩⟩⟩)⟩, ⟨by (with_reducible repeat (first | apply Kd.R_alloc | apply Kd.R_drewN | apply Kd.R_drew)); exact Kd.R_mono HO262.out (fun _ hk => ⟨hk.1.2, hk.2⟩)⟩, ⟨by (with_reducible repeat (first | apply Kd.S_alloc | apply Kd.S_drewN | apply Kd.S_drew)); exact Kd.S_mono HO268.out (fun _ hk => ⟨hk.1.1.1.1.2, ⟨hk.1.1.1.2, ⟨hk.1.1.1.1.1.1.1.1, ⟨hk.1.2, ⟨hk.2, ⟨hk.1.1.1.1.1.1.1.2, hk.1.1.2⟩⟩⟩⟩⟩⟩)⟩, ⟨by (with_reducible repeat (first | apply Kd.R_alloc | apply Kd.R_drewN | apply Kd.R_drew)); exact Kd.R_mono HO271.out (fun _ hk => ⟨hk.1.2, hk.2⟩)⟩, ⟨by (with_reducible repeat (first | apply Kd.S_alloc | apply Kd.S_drewN | apply Kd.S_drew)); exact Kd.S_mono HO276.out (fun _ hk => ⟨hk.1.1.1.2, ⟨hk.1.1.2, ⟨hk.1.2, ⟨hk.2, ⟨hk.1.1.1.1.1.1.1, hk.1.1.1.1.1.1.2⟩⟩⟩⟩⟩)⟩, ⟨by (with_reducible repeat (first | apply Kd.R_alloc | apply Kd.R_drewN | apply Kd.R_drew)); exact Kd.R_mono HO279.out (fun _ hk => ⟨hk.1.2, hk.2⟩)⟩, ⟨by (with_reducible repeat (first | refine blk_drewN ?_ _ | refine blk_drew ?_ | refine blk_alloc ?_ _)); exact BK247.out⟩, ⟨by (with_reducible repeat (first | refine blk_drewN ?_ _ | refine blk_drew ?_ | refine blk_alloc ?_ _)); exact BK264.out⟩, ⟨by (with_reducible repeat (first | refine blk_drewN ?_ _ | refine blk_drew ?_ | refine blk_alloc ?_ _)); exact BK272.out⟩, ⟨by (with_reducible repeat (first | refine blk_drewN ?_ _ | refine blk_drew ?_ | refine blk_alloc ?_ _)); exact BK281.out⟩, ⟨by repeat (first | (with_reducible first | exact HB.out | apply below_alloc | apply pw_below_drewN | apply below_drew1 | refine below_set ?_ GE247.out | refine below_set ?_ GE264.out | refine below_set ?_ GE272.out | refine below_set ?_ GE281.out) | exact HB.out)⟩⟩
   ·replace c46 := Bool.eq_false_iff.mpr c46
    subst c46
    have H1 : (laws_FnExactOppositeAutomaton.j0 k t263 t280 true a0_0 l0_1 l0_2 t256 t257 t260 t265 t266 t269 t273 t274 t277) = some r := by rw [if_neg (show ¬ (false = true) by decide)] at H; exact H
    clear H
    have H := H1
    clear H1
    have H' := Aside0.mk H
    clear H
    have hnb55 := NB281_247.out
    have hnc55 := NB247_281.out
    have hnb56 := NB281_264.out
    have hnc56 := NB264_281.out
    have hnb57 := NB281_272.out
    have hnc57 := NB272_281.out
    have hcz58_0 : w38.cell? ⟨gb281, 0, none⟩ = some (.int .i64 0) := (blk_cell BK281.out 0).trans rfl
    have hcz58_1 : w38.cell? ⟨gb281, 1, none⟩ = some (.slice none 0 0) := (blk_cell BK281.out 1).trans rfl
    have hcz58_2 : w38.cell? ⟨gb281, 2, none⟩ = some (.slice none 0 0) := (blk_cell BK281.out 2).trans rfl
    have hfz58_0 := blk_frozen BK281.out 0
    have hfz58_1 := blk_frozen BK281.out 1
    have hfz58_2 := blk_frozen BK281.out 2
    have hnb59 := NB264_247.out
    have hnc59 := NB247_264.out
    have hnb60 := NB264_272.out
    have hnc60 := NB272_264.out
    have hcz61_0 : w38.cell? ⟨gb264, 0, none⟩ = some (.int .i64 t256) := (blk_cell BK264.out 0).trans rfl
    have hcz61_1 : w38.cell? ⟨gb264, 1, none⟩ = some (.slice Ao25 t257.length co25) := (blk_cell BK264.out 1).trans rfl
    have hcz61_2 : w38.cell? ⟨gb264, 2, none⟩ = some (.slice Ao26 t260.length co26) := (blk_cell BK264.out 2).trans rfl
    have hfz61_0 := blk_frozen BK264.out 0
    have hfz61_1 := blk_frozen BK264.out 1
    have hfz61_2 := blk_frozen BK264.out 2
    go_wp2_with (first | ((with_reducible refine gate_callee (f := 14) rfl ?_); refine goesL_ (some 34) rfl rfl Try.func14 (by kernel_rfl) rfl #[.agg #[.int .i64 t273, .slice Ao43 t274.length co43, .slice Ao44 t277.length co44], .agg #[.int .i64 t256, .slice Ao25 t257.length co25, .slice Ao26 t260.length co26]] rfl (by (try simp only [List.map_toArray, List.map_cons, List.map_nil]); first | done | rfl) ?_; (with_reducible refine (laws_eqAutomaton.calls k t273 _ _ t274 _ _ t277 t256 _ _ t257 _ _ t260 false _ ?side1 ?side2 ?side3 ?side4 ?side5 ?side6 ?side7 ?side8 A45.out).mono ?_); (case side1 => refine (Kd.S_reads' (e := 23) (base := w.heap.size) (ok := fun k_ => (((((((some k_ ≠ (.slice Ao44 t277.length co44 : Value).ownBlock ∧ k_ ≠ ge_ N37 k_) ∧ some k_ ≠ (.slice Ao18 t250.length co18 : Value).ownBlock) ∧ some k_ ≠ (.slice Ao19 t253.length co19 : Value).ownBlock) ∧ some k_ ≠ (.slice Ao25 t257.length co25 : Value).ownBlock) ∧ some k_ ≠ (.slice Ao26 t260.length co26 : Value).ownBlock) ∧ some k_ ≠ (.slice Ao34 t266.length co34 : Value).ownBlock) ∧ some k_ ≠ (.slice Ao35 t269.length co35 : Value).ownBlock)) (n := t274.length) (c := co43) ?_).2.2; exact (by (with_reducible repeat (first | apply Kd.S_alloc | apply Kd.S_drewN | apply Kd.S_drew)); exact (Kd.S_mono (Kd.S_far (p := ⟨gb281, 2, none⟩) (Kd.S_far (p := ⟨gb281, 1, none⟩) (Kd.S_far (p := ⟨gb281, 0, none⟩) (Kd.S_types HO276.out BK281.out (by decide)) (fun _ hk => hk.2) (.int .i64 t273)) (fun _ hk => hk.2) (.slice Ao43 t274.length co43)) (fun _ hk => hk.2) (.slice Ao44 t277.length co44)) (fun _ h_ => h_.1)))); (case side2 => exact (Kd.S_reads' HO276.out).2.1); (case side3 => refine (Kd.R_reads' (e := 2) (base := w.heap.size) (ok := fun k_ => (((True ∧ some k_ ≠ (.slice Ao19 t253.length co19 : Value).ownBlock) ∧ some k_ ≠ (.slice Ao26 t260.length co26 : Value).ownBlock) ∧ some k_ ≠ (.slice Ao35 t269.length co35 : Value).ownBlock)) (n := t277.length) (c := co44) ?_).2.2; exact (by (with_reducible repeat (first | apply Kd.R_alloc | apply Kd.R_drewN | apply Kd.R_drew)); exact (Kd.R_mono (Kd.R_far (p := ⟨gb281, 2, none⟩) (Kd.R_far (p := ⟨gb281, 1, none⟩) (Kd.R_far (p := ⟨gb281, 0, none⟩) (Kd.R_types HO279.out BK281.out (by decide)) (fun _ hk => hk.2) (.int .i64 t273)) (fun _ hk => hk.2) (.slice Ao43 t274.length co43)) (fun _ hk => hk.2) (.slice Ao44 t277.length co44)) (fun _ h_ => h_.1)))); (case side4 => exact (Kd.R_reads' HO279.out).2.1); (case side5 => refine (Kd.S_reads' (e := 23) (base := w.heap.size) (ok := fun k_ => (((((((((some k_ ≠ (.slice Ao26 t260.length co26 : Value).ownBlock ∧ k_ ≠ ge_ N21 k_) ∧ some k_ ≠ (.slice Ao18 t250.length co18 : Value).ownBlock) ∧ some k_ ≠ (.slice Ao19 t253.length co19 : Value).ownBlock) ∧ k_ ≠ lt_ N29 k_) ∧ some k_ ≠ (.slice Ao34 t266.length co34 : Value).ownBlock) ∧ some k_ ≠ (.slice Ao35 t269.length co35 : Value).ownBlock) ∧ k_ ≠ lt_ N37 k_) ∧ some k_ ≠ (.slice Ao43 t274.length co43 : Value).ownBlock) ∧ some k_ ≠ (.slice Ao44 t277.length co44 : Value).ownBlock)) (n := t257.length) (c := co25) ?_).2.2; exact (by (with_reducible repeat (first | apply Kd.S_alloc | apply Kd.S_drewN | apply Kd.S_drew)); exact (Kd.S_mono (Kd.S_far (p := ⟨gb281, 2, none⟩) (Kd.S_far (p := ⟨gb281, 1, none⟩) (Kd.S_far (p := ⟨gb281, 0, none⟩) (Kd.S_types HO259.out BK281.out (by decide)) (fun _ hk => hk.2) (.int .i64 t273)) (fun _ hk => hk.2) (.slice Ao43 t274.length co43)) (fun _ hk => hk.2) (.slice Ao44 t277.length co44)) (fun _ h_ => h_.1)))); (case side6 => exact (Kd.S_reads' HO259.out).2.1); (case side7 => refine (Kd.R_reads' (e := 2) (base := w.heap.size) (ok := fun k_ => (((True ∧ some k_ ≠ (.slice Ao19 t253.length co19 : Value).ownBlock) ∧ some k_ ≠ (.slice Ao35 t269.length co35 : Value).ownBlock) ∧ some k_ ≠ (.slice Ao44 t277.length co44 : Value).ownBlock)) (n := t260.length) (c := co26) ?_).2.2; exact (by (with_reducible repeat (first | apply Kd.R_alloc | apply Kd.R_drewN | apply Kd.R_drew)); exact (Kd.R_mono (Kd.R_far (p := ⟨gb281, 2, none⟩) (Kd.R_far (p := ⟨gb281, 1, none⟩) (Kd.R_far (p := ⟨gb281, 0, none⟩) (Kd.R_types HO262.out BK281.out (by decide)) (fun _ hk => hk.2) (.int .i64 t273)) (fun _ hk => hk.2) (.slice Ao43 t274.length co43)) (fun _ hk => hk.2) (.slice Ao44 t277.length co44)) (fun _ h_ => h_.1)))); (case side8 => exact (Kd.R_reads' HO262.out).2.1); rintro e w62 ⟨rfl, hb⟩; refine ⟨_, rfl, ?_⟩; have n0_ := Aside0.mk (Kd.S_below (by (with_reducible repeat (first | apply Kd.S_alloc | apply Kd.S_drewN | apply Kd.S_drew)); exact (Kd.S_mono (Kd.S_far (p := ⟨gb281, 2, none⟩) (Kd.S_far (p := ⟨gb281, 1, none⟩) (Kd.S_far (p := ⟨gb281, 0, none⟩) (Kd.S_types HO252.out BK281.out (by decide)) (fun _ hk => hk.2) (.int .i64 t273)) (fun _ hk => hk.2) (.slice Ao43 t274.length co43)) (fun _ hk => hk.2) (.slice Ao44 t277.length co44)) (fun _ h_ => h_.1))) hb); have n1_ := Aside0.mk (Kd.R_below (by (with_reducible repeat (first | apply Kd.R_alloc | apply Kd.R_drewN | apply Kd.R_drew)); exact (Kd.R_mono (Kd.R_far (p := ⟨gb281, 2, none⟩) (Kd.R_far (p := ⟨gb281, 1, none⟩) (Kd.R_far (p := ⟨gb281, 0, none⟩) (Kd.R_types HO255.out BK281.out (by decide)) (fun _ hk => hk.2) (.int .i64 t273)) (fun _ hk => hk.2) (.slice Ao43 t274.length co43)) (fun _ hk => hk.2) (.slice Ao44 t277.length co44)) (fun _ h_ => h_.1))) hb); have n2_ := Aside0.mk (Kd.S_below (by (with_reducible repeat (first | apply Kd.S_alloc | apply Kd.S_drewN | apply Kd.S_drew)); exact (Kd.S_mono (Kd.S_far (p := ⟨gb281, 2, none⟩) (Kd.S_far (p := ⟨gb281, 1, none⟩) (Kd.S_far (p := ⟨gb281, 0, none⟩) (Kd.S_types HO259.out BK281.out (by decide)) (fun _ hk => hk.2) (.int .i64 t273)) (fun _ hk => hk.2) (.slice Ao43 t274.length co43)) (fun _ hk => hk.2) (.slice Ao44 t277.length co44)) (fun _ h_ => h_.1))) hb); have n3_ := Aside0.mk (Kd.R_below (by (with_reducible repeat (first | apply Kd.R_alloc | apply Kd.R_drewN | apply Kd.R_drew)); exact (Kd.R_mono (Kd.R_far (p := ⟨gb281, 2, none⟩) (Kd.R_far (p := ⟨gb281, 1, none⟩) (Kd.R_far (p := ⟨gb281, 0, none⟩) (Kd.R_types HO262.out BK281.out (by decide)) (fun _ hk => hk.2) (.int .i64 t273)) (fun _ hk => hk.2) (.slice Ao43 t274.length co43)) (fun _ hk => hk.2) (.slice Ao44 t277.length co44)) (fun _ h_ => h_.1))) hb); have n4_ := Aside0.mk (Kd.S_below (by (with_reducible repeat (first | apply Kd.S_alloc | apply Kd.S_drewN | apply Kd.S_drew)); exact (Kd.S_mono (Kd.S_far (p := ⟨gb281, 2, none⟩) (Kd.S_far (p := ⟨gb281, 1, none⟩) (Kd.S_far (p := ⟨gb281, 0, none⟩) (Kd.S_types HO268.out BK281.out (by decide)) (fun _ hk => hk.2) (.int .i64 t273)) (fun _ hk => hk.2) (.slice Ao43 t274.length co43)) (fun _ hk => hk.2) (.slice Ao44 t277.length co44)) (fun _ h_ => h_.1))) hb); have n5_ := Aside0.mk (Kd.R_below (by (with_reducible repeat (first | apply Kd.R_alloc | apply Kd.R_drewN | apply Kd.R_drew)); exact (Kd.R_mono (Kd.R_far (p := ⟨gb281, 2, none⟩) (Kd.R_far (p := ⟨gb281, 1, none⟩) (Kd.R_far (p := ⟨gb281, 0, none⟩) (Kd.R_types HO271.out BK281.out (by decide)) (fun _ hk => hk.2) (.int .i64 t273)) (fun _ hk => hk.2) (.slice Ao43 t274.length co43)) (fun _ hk => hk.2) (.slice Ao44 t277.length co44)) (fun _ h_ => h_.1))) hb); have n6_ := Aside0.mk (Kd.S_below (by (with_reducible repeat (first | apply Kd.S_alloc | apply Kd.S_drewN | apply Kd.S_drew)); exact (Kd.S_mono (Kd.S_far (p := ⟨gb281, 2, none⟩) (Kd.S_far (p := ⟨gb281, 1, none⟩) (Kd.S_far (p := ⟨gb281, 0, none⟩) (Kd.S_types HO276.out BK281.out (by decide)) (fun _ hk => hk.2) (.int .i64 t273)) (fun _ hk => hk.2) (.slice Ao43 t274.length co43)) (fun _ hk => hk.2) (.slice Ao44 t277.length co44)) (fun _ h_ => h_.1))) hb); have n7_ := Aside0.mk (Kd.R_below (by (with_reducible repeat (first | apply Kd.R_alloc | apply Kd.R_drewN | apply Kd.R_drew)); exact (Kd.R_mono (Kd.R_far (p := ⟨gb281, 2, none⟩) (Kd.R_far (p := ⟨gb281, 1, none⟩) (Kd.R_far (p := ⟨gb281, 0, none⟩) (Kd.R_types HO279.out BK281.out (by decide)) (fun _ hk => hk.2) (.int .i64 t273)) (fun _ hk => hk.2) (.slice Ao43 t274.length co43)) (fun _ hk => hk.2) (.slice Ao44 t277.length co44)) (fun _ h_ => h_.1))) hb); have n8_ := Aside0.mk (blk_below (g := gb247) (o := .cells #[.int .i64 a0_0, .slice A0_1 l0_1.length c0_1, .slice A0_2 l0_2.length c0_2] 25 (0, 0)) (by (with_reducible repeat (first | refine blk_drewN ?_ _ | refine blk_drew ?_ | refine blk_alloc ?_ _)); refine blk_far ?_ NB247_281.out _; (with_reducible repeat (first | refine blk_drewN ?_ _ | refine blk_drew ?_ | refine blk_alloc ?_ _)); refine blk_far ?_ NB247_281.out _; (with_reducible repeat (first | refine blk_drewN ?_ _ | refine blk_drew ?_ | refine blk_alloc ?_ _)); refine blk_far ?_ NB247_281.out _; (with_reducible repeat (first | refine blk_drewN ?_ _ | refine blk_drew ?_ | refine blk_alloc ?_ _)); exact BK247.out) hb); have n9_ := Aside0.mk (blk_below (g := gb264) (o := .cells #[.int .i64 t256, .slice Ao25 t257.length co25, .slice Ao26 t260.length co26] 28 (0, 0)) (by (with_reducible repeat (first | refine blk_drewN ?_ _ | refine blk_drew ?_ | refine blk_alloc ?_ _)); refine blk_far ?_ NB264_281.out _; (with_reducible repeat (first | refine blk_drewN ?_ _ | refine blk_drew ?_ | refine blk_alloc ?_ _)); refine blk_far ?_ NB264_281.out _; (with_reducible repeat (first | refine blk_drewN ?_ _ | refine blk_drew ?_ | refine blk_alloc ?_ _)); refine blk_far ?_ NB264_281.out _; (with_reducible repeat (first | refine blk_drewN ?_ _ | refine blk_drew ?_ | refine blk_alloc ?_ _)); exact BK264.out) hb); have n10_ := Aside0.mk (blk_below (g := gb272) (o := .cells #[.int .i64 t265, .slice Ao34 t266.length co34, .slice Ao35 t269.length co35] 28 (0, 0)) (by (with_reducible repeat (first | refine blk_drewN ?_ _ | refine blk_drew ?_ | refine blk_alloc ?_ _)); refine blk_far ?_ NB272_281.out _; (with_reducible repeat (first | refine blk_drewN ?_ _ | refine blk_drew ?_ | refine blk_alloc ?_ _)); refine blk_far ?_ NB272_281.out _; (with_reducible repeat (first | refine blk_drewN ?_ _ | refine blk_drew ?_ | refine blk_alloc ?_ _)); refine blk_far ?_ NB272_281.out _; (with_reducible repeat (first | refine blk_drewN ?_ _ | refine blk_drew ?_ | refine blk_alloc ?_ _)); exact BK272.out) hb); have n11_ := Aside0.mk (blk_below (g := gb281) (o := .cells #[.int .i64 t273, .slice Ao43 t274.length co43, .slice Ao44 t277.length co44] 28 (0, 0)) (by (with_reducible repeat (first | refine blk_drewN ?_ _ | refine blk_drew ?_ | refine blk_alloc ?_ _)); refine blk_put (cs := #[.int .i64 t273, .slice Ao43 t274.length co43, .slice none 0 0]) ?_ 2 _ rfl; (with_reducible repeat (first | refine blk_drewN ?_ _ | refine blk_drew ?_ | refine blk_alloc ?_ _)); refine blk_put (cs := #[.int .i64 t273, .slice none 0 0, .slice none 0 0]) ?_ 1 _ rfl; (with_reducible repeat (first | refine blk_drewN ?_ _ | refine blk_drew ?_ | refine blk_alloc ?_ _)); refine blk_put (cs := #[.int .i64 0, .slice none 0 0, .slice none 0 0]) ?_ 0 _ rfl; (with_reducible repeat (first | refine blk_drewN ?_ _ | refine blk_drew ?_ | refine blk_alloc ?_ _)); exact BK281.out) hb); have n12_ := Aside0.mk (below_step (by repeat (first | (with_reducible first | exact HB.out | apply below_alloc | apply pw_below_drewN | apply below_drew1 | refine below_set ?_ GE247.out | refine below_set ?_ GE264.out | refine below_set ?_ GE272.out | refine below_set ?_ GE281.out) | exact HB.out)) hb); clear HO252; clear HO255; clear HO259; clear HO262; clear HO268; clear HO271; clear HO276; clear HO279; clear BK247; clear BK264; clear BK272; clear BK281; clear HB; have HO252 := n0_; have HO255 := n1_; have HO259 := n2_; have HO262 := n3_; have HO268 := n4_; have HO271 := n5_; have HO276 := n6_; have HO279 := n7_; have BK247 := n8_; have BK264 := n9_; have BK272 := n10_; have BK281 := n11_; have HB := n12_; clear n0_ n1_ n2_ n3_ n4_ n5_ n6_ n7_ n8_ n9_ n10_ n11_ n12_; (try clear hb); (try clear hb2); (try clear hk); (try clear hi)))
    go_meet
    case rel => exact ⟨_, (true), (by first | rfl | (simp; done) | (simp [*]; done)), H', ⟨by first | omega | exact Nat.le_refl _⟩, ⟨by (with_reducible repeat (first | apply Kd.S_alloc | apply Kd.S_drewN | apply Kd.S_drew)); exact Kd.S_mono HO259.out (fun _ hk => ⟨hk.1.1.1.1.1.1.1.1.1, ⟨hk.1.1.1.1.2, ⟨hk.1.1.1.2, ⟨hk.1.2, ⟨hk.2, ⟨hk.1.1.1.1.1.1.1.1.2, ⟨hk.1.1.1.1.1.2, hk.1.1.2⟩⟩⟩⟩⟩⟩⟩)⟩, ⟨by (with_reducible repeat (first | apply Kd.R_alloc | apply Kd.R_drewN | apply Kd.R_drew)); exact Kd.R_mono HO262.out (fun _ hk => ⟨hk.1.2, hk.2⟩)⟩, ⟨by (with_reducible repeat (first | apply Kd.S_alloc | apply Kd.S_drewN | apply Kd.S_drew)); exact Kd.S_mono HO268.out (fun _ hk => ⟨hk.1.1.1.1.2, ⟨hk.1.1.1.2, ⟨hk.1.1.1.1.1.1.1.1, ⟨hk.1.2, ⟨hk.2, ⟨hk.1.1.1.1.1.1.1.2, hk.1.1.2⟩⟩⟩⟩⟩⟩)⟩, ⟨by (with_reducible repeat (first | apply Kd.R_alloc | apply Kd.R_drewN | apply Kd.R_drew)); exact Kd.R_mono HO271.out (fun _ hk => ⟨hk.1.2, hk.2⟩)⟩, ⟨by (with_reducible repeat (first | apply Kd.S_alloc | apply Kd.S_drewN | apply Kd.S_drew)); exact Kd.S_mono HO276.out (fun _ hk => ⟨hk.1.1.1.2, ⟨hk.1.1.2, ⟨hk.1.2, ⟨hk.2, ⟨hk.1.1.1.1.1.1.1, hk.1.1.1.1.1.1.2⟩⟩⟩⟩⟩)⟩, ⟨by (with_reducible repeat (first | apply Kd.R_alloc | apply Kd.R_drewN | apply Kd.R_drew)); exact Kd.R_mono HO279.out (fun _ hk => ⟨hk.1.2, hk.2⟩)⟩, ⟨by (with_reducible repeat (first | refine blk_drewN ?_ _ | refine blk_drew ?_ | refine blk_alloc ?_ _)); exact BK247.out⟩, ⟨by (with_reducible repeat (first | refine blk_drewN ?_ _ | refine blk_drew ?_ | refine blk_alloc ?_ _)); exact BK264.out⟩, ⟨by (with_reducible repeat (first | refine blk_drewN ?_ _ | refine blk_drew ?_ | refine blk_alloc ?_ _)); exact BK272.out⟩, ⟨by (with_reducible repeat (first | refine blk_drewN ?_ _ | refine blk_drew ?_ | refine blk_alloc ?_ _)); exact BK281.out⟩, ⟨by repeat (first | (with_reducible first | exact HB.out | apply below_alloc | apply pw_below_drewN | apply below_drew1 | refine below_set ?_ GE247.out | refine below_set ?_ GE264.out | refine below_set ?_ GE272.out | refine below_set ?_ GE281.out) | exact HB.out)⟩⟩
  case rest =>
   clear HC11
   try clear c1
   try clear c2
   try clear p2
   try clear c3
   try clear c3b0
   try clear c4
   try clear c5
   try clear c6
   try clear c10
   try clear c12
   try clear c14
   try clear c15
   try clear c16
   try clear c23
   try clear c31
   try clear c32
   try clear c39
   try clear c40
   try clear c41
   try clear c46
   try clear c47
   try clear c48
   try clear c49
   try clear c51
   try clear c52
   try clear c55
   try clear c56
   try clear c57
   try clear c59
   try clear c60
   try clear hcz13_0
   try clear hcz13_1
   try clear hcz13_2
   try clear hcz15_0
   try clear hcz15_1
   try clear hcz15_2
   try clear hcz24_0
   try clear hcz24_1
   try clear hcz24_2
   try clear hcz27_0
   try clear hcz27_1
   try clear hcz27_2
   try clear hcz33_0
   try clear hcz33_1
   try clear hcz33_2
   try clear hcz42_0
   try clear hcz42_1
   try clear hcz42_2
   try clear hcz50_0
   try clear hcz50_1
   try clear hcz50_2
   try clear hcz53_0
   try clear hcz53_1
   try clear hcz53_2
   try clear hcz58_0
   try clear hcz58_1
   try clear hcz58_2
   try clear hcz5_0
   try clear hcz5_1
   try clear hcz5_2
   try clear hcz61_0
   try clear hcz61_1
   try clear hcz61_2
   try clear hfz13_0
   try clear hfz13_1
   try clear hfz13_2
   try clear hfz15_0
   try clear hfz15_1
   try clear hfz15_2
   try clear hfz24_0
   try clear hfz24_1
   try clear hfz24_2
   try clear hfz27_0
   try clear hfz27_1
   try clear hfz27_2
   try clear hfz33_0
   try clear hfz33_1
   try clear hfz33_2
   try clear hfz42_0
   try clear hfz42_1
   try clear hfz42_2
   try clear hfz50_0
   try clear hfz50_1
   try clear hfz50_2
   try clear hfz53_0
   try clear hfz53_1
   try clear hfz53_2
   try clear hfz58_0
   try clear hfz58_1
   try clear hfz58_2
   try clear hfz5_0
   try clear hfz5_1
   try clear hfz5_2
   try clear hfz61_0
   try clear hfz61_1
   try clear hfz61_2
   obtain ⟨kq, x40_10, rfl, HA, HJ10, HO_265001, HO_265002, HO_273001, HO_273002, HO_282001, HO_282002, BK247, BK264, BK272, BK281, HB⟩ := hcut
   cases kq with
   | zero => exact absurd HA.out (by simp [laws_FnExactOppositeAutomaton.j0])
   | succ kj10 =>
    have H := HA.out
    clear HA
    simp only [laws_FnExactOppositeAutomaton.j0] at H
    by_cases c63 : x40_10 = true
    ·subst c63
     have H1 : (some false) = some r := by rw [if_pos rfl] at H; exact H
     clear H
     have H := H1
     clear H1
     obtain rfl := Option.some.inj H
     go_wp2
     go_ret
     exact ⟨by first | rfl | (simp [errW_none, errW_some] <;> rfl) | (simp [*, errW_none, errW_some] <;> rfl), by repeat (first | (with_reducible first | exact HB.out | apply below_alloc | apply pw_below_drewN | apply below_drew1 | refine below_set ?_ GE247.out | refine below_set ?_ GE264.out | refine below_set ?_ GE272.out | refine below_set ?_ GE281.out) | exact HB.out)⟩
    ·replace c63 := Bool.eq_false_iff.mpr c63
     subst c63
     have H1 : ((laws_toAutomaton.f kj10 a0_0 l0_1 l0_2).bind fun bt283 => ((laws_eqAutomaton.f kj10 t265 t266 t269 bt283.1 bt283.2.1 bt283.2.2).bind fun t290 => (if t290 = true then ((laws_markAutomaton.f kj10 t265 t266 t269 1).bind fun bt291 => (if bt291.1 < 0 then (laws_FnExactOppositeAutomaton.j1 kj10 t263 true a0_0 l0_1 l0_2 t256 t257 t260 t273 t274 t277) else ((laws_eqAutomaton.f kj10 t273 t274 t277 t256 t257 t260).bind fun t294 => (if t294 = true then (laws_FnExactOppositeAutomaton.j1 kj10 t263 (t280 != t263) a0_0 l0_1 l0_2 t256 t257 t260 t273 t274 t277) else (laws_FnExactOppositeAutomaton.j1 kj10 t263 true a0_0 l0_1 l0_2 t256 t257 t260 t273 t274 t277))))) else (some false)))) = some r := by rw [if_neg (show ¬ (false = true) by decide)] at H; exact H
     clear H
     have H := H1
     clear H1
     replace H := Option.bind_eq_some_iff.mp H
     obtain ⟨⟨t283, t284, t287⟩, A640, H⟩ := H
     replace H : ((laws_eqAutomaton.f kj10 t265 t266 t269 t283 t284 t287).bind fun t290 => (if t290 = true then ((laws_markAutomaton.f kj10 t265 t266 t269 1).bind fun bt291 => (if bt291.1 < 0 then (laws_FnExactOppositeAutomaton.j1 kj10 t263 true a0_0 l0_1 l0_2 t256 t257 t260 t273 t274 t277) else ((laws_eqAutomaton.f kj10 t273 t274 t277 t256 t257 t260).bind fun t294 => (if t294 = true then (laws_FnExactOppositeAutomaton.j1 kj10 t263 (t280 != t263) a0_0 l0_1 l0_2 t256 t257 t260 t273 t274 t277) else (laws_FnExactOppositeAutomaton.j1 kj10 t263 true a0_0 l0_1 l0_2 t256 t257 t260 t273 t274 t277))))) else (some false))) = some r := H
     have A64 := Aside0.mk A640
     clear A640
     replace H := Option.bind_eq_some_iff.mp H
     obtain ⟨t290, A650, H⟩ := H
     replace H : (if t290 = true then ((laws_markAutomaton.f kj10 t265 t266 t269 1).bind fun bt291 => (if bt291.1 < 0 then (laws_FnExactOppositeAutomaton.j1 kj10 t263 true a0_0 l0_1 l0_2 t256 t257 t260 t273 t274 t277) else ((laws_eqAutomaton.f kj10 t273 t274 t277 t256 t257 t260).bind fun t294 => (if t294 = true then (laws_FnExactOppositeAutomaton.j1 kj10 t263 (t280 != t263) a0_0 l0_1 l0_2 t256 t257 t260 t273 t274 t277) else (laws_FnExactOppositeAutomaton.j1 kj10 t263 true a0_0 l0_1 l0_2 t256 t257 t260 t273 t274 t277))))) else (some false)) = some r := H
     have A65 := Aside0.mk A650
     clear A650
     by_cases c66 : t290 = true
     ·subst c66
      have H1 : ((laws_markAutomaton.f kj10 t265 t266 t269 1).bind fun bt291 => (if bt291.1 < 0 then (laws_FnExactOppositeAutomaton.j1 kj10 t263 true a0_0 l0_1 l0_2 t256 t257 t260 t273 t274 t277) else ((laws_eqAutomaton.f kj10 t273 t274 t277 t256 t257 t260).bind fun t294 => (if t294 = true then (laws_FnExactOppositeAutomaton.j1 kj10 t263 (t280 != t263) a0_0 l0_1 l0_2 t256 t257 t260 t273 t274 t277) else (laws_FnExactOppositeAutomaton.j1 kj10 t263 true a0_0 l0_1 l0_2 t256 t257 t260 t273 t274 t277))))) = some r := by rw [if_pos rfl] at H; exact H
      clear H
      have H := H1
      clear H1
      replace H := Option.bind_eq_some_iff.mp H
      obtain ⟨⟨t291, t292, t293⟩, A670, H⟩ := H
      replace H : (if t291 < 0 then (laws_FnExactOppositeAutomaton.j1 kj10 t263 true a0_0 l0_1 l0_2 t256 t257 t260 t273 t274 t277) else ((laws_eqAutomaton.f kj10 t273 t274 t277 t256 t257 t260).bind fun t294 => (if t294 = true then (laws_FnExactOppositeAutomaton.j1 kj10 t263 (t280 != t263) a0_0 l0_1 l0_2 t256 t257 t260 t273 t274 t277) else (laws_FnExactOppositeAutomaton.j1 kj10 t263 true a0_0 l0_1 l0_2 t256 t257 t260 t273 t274 t277)))) = some r := H
      have A67 := Aside0.mk A670
      clear A670
      have HC68 := Aside0.mk H
      clear H
      try go_wp2
      have n0_ := Aside0.mk (Kd.S_drew HO_265001.out)
      have n1_ := Aside0.mk (Kd.R_drew HO_265002.out)
      have n2_ := Aside0.mk (Kd.S_drew HO_273001.out)
      have n3_ := Aside0.mk (Kd.R_drew HO_273002.out)
      have n4_ := Aside0.mk (Kd.S_drew HO_282001.out)
      have n5_ := Aside0.mk (Kd.R_drew HO_282002.out)
      have n6_ := Aside0.mk (blk_drew BK247.out)
      have n7_ := Aside0.mk (blk_drew BK264.out)
      have n8_ := Aside0.mk (blk_drew BK272.out)
      have n9_ := Aside0.mk (blk_drew BK281.out)
      have n10_ := Aside0.mk (below_drew1 HB.out)
      clear HO_265001
      clear HO_265002
      clear HO_273001
      clear HO_273002
      clear HO_282001
      clear HO_282002
      clear BK247
      clear BK264
      clear BK272
      clear BK281
      clear HB
      have HO_265001 := n0_
      have HO_265002 := n1_
      have HO_273001 := n2_
      have HO_273002 := n3_
      have HO_282001 := n4_
      have HO_282002 := n5_
      have BK247 := n6_
      have BK264 := n7_
      have BK272 := n8_
      have BK281 := n9_
      have HB := n10_
      clear n0_ n1_ n2_ n3_ n4_ n5_ n6_ n7_ n8_ n9_ n10_
      refine start_ (n := 5) (S := fun w' => w'.cell? ⟨gb272, 0, none⟩ = some (.int .i64 t265) ∧ w'.cell? ⟨gb272, 1, none⟩ = some (.slice Ao34 t266.length co34) ∧ w'.cell? ⟨gb272, 2, none⟩ = some (.slice Ao35 t269.length co35) ∧ w'.cell? ⟨gb247, 0, none⟩ = some (.int .i64 a0_0) ∧ w'.cell? ⟨gb247, 1, none⟩ = some (.slice A0_1 l0_1.length c0_1) ∧ w'.cell? ⟨gb247, 2, none⟩ = some (.slice A0_2 l0_2.length c0_2)) (ds := []) #[false, false, false, false, false] (by kernel_rfl) rfl rfl ⟨(blk_cell BK272.out 0).trans rfl, (blk_cell BK272.out 1).trans rfl, (blk_cell BK272.out 2).trans rfl, (blk_cell BK247.out 0).trans rfl, (blk_cell BK247.out 1).trans rfl, (blk_cell BK247.out 2).trans rfl⟩ (fun hHeld => ?_)
      generalize wc.drew = w69 at HO_265001 HO_265002 HO_273001 HO_273002 HO_282001 HO_282002 BK247 BK264 BK272 BK281 HB hHeld ⊢
      refine take_ (i := 0) (N := some 41) (v := ?_) (a' := ?_) #[true, false, false, false, false] rfl rfl (by kernel_rfl) (fun _ _ _ h => h) (Or.inl ⟨by rfl, ?_⟩) hHeld ?_ ?_
      rotate_left
      ·rintro w' ⟨s0, s1, s2, s3, s4, s5⟩
       go_simp
       with_reducible rfl
      rotate_left
      ·simp only [Act.put, List.setIfInBounds_toArray, List.set_cons_zero, List.set_cons_succ, i64_w, i32_w]
       rfl
      refine take_ (i := 1) (N := some 42) (v := ?_) (a' := ?_) #[true, true, false, false, false] rfl rfl (by kernel_rfl) (fun _ _ _ h => h) (Or.inl ⟨by rfl, ?_⟩) hHeld ?_ ?_
      rotate_left
      ·rintro w' ⟨s0, s1, s2, s3, s4, s5⟩
       go_simp
       with_reducible rfl
      rotate_left
      ·simp only [Act.put, List.setIfInBounds_toArray, List.set_cons_zero, List.set_cons_succ, i64_w, i32_w]
       rfl
      refine one_ (i := 2) (N := some 43) #[true, true, true, false, false] rfl rfl (by kernel_rfl) (by decide) (fun K hK => ?_)
      refine goes_ Try.func12 (by kernel_rfl) rfl #[.agg #[.int .i64 a0_0, .slice A0_1 l0_1.length c0_1, .slice A0_2 l0_2.length c0_2]] (by rfl) rfl rfl (by (try simp only [List.map_toArray, List.map_cons, List.map_nil]); first | done | rfl) ?_
      with_reducible refine (laws_toAutomaton.calls kj10 a0_0 _ _ l0_1 _ _ l0_2 t283 t284 t287 _ ?side1 ?side2 ?side3 ?side4 A64.out).mono ?_
      (case side1 => repeat (first | exact (Kd.C_below HR0_1.out HB.out) | (with_reducible refine Kd.C_alloc ?_ _) | (with_reducible refine Kd.C_drewN ?_ _) | (with_reducible refine Kd.C_drew ?_)))
      (case side2 => exact HC0_1.out)
      (case side3 => repeat (first | exact (Kd.C_below HR0_2.out HB.out) | (with_reducible refine Kd.C_alloc ?_ _) | (with_reducible refine Kd.C_drewN ?_ _) | (with_reducible refine Kd.C_drew ?_)))
      (case side4 => exact HC0_2.out)
      rintro e w70 ⟨v285, v288, rfl, ho0, ho1, hb⟩
      refine ⟨_, rfl, ?_⟩
      have n0_ := Aside0.mk (Kd.S_mono (Kd.S_told (Kd.S_told (Kd.S_old HO_265001.out hb) (Kd.S_base ho0)) (Kd.R_base ho1)) (fun _ h_ => h_.1))
      have n1_ := Aside0.mk (Kd.R_elder' HO_265002.out (Kd.R_base ho1) hb)
      have n2_ := Aside0.mk (Kd.S_mono (Kd.S_told (Kd.S_told (Kd.S_old HO_273001.out hb) (Kd.S_base ho0)) (Kd.R_base ho1)) (fun _ h_ => h_.1))
      have n3_ := Aside0.mk (Kd.R_elder' HO_273002.out (Kd.R_base ho1) hb)
      have n4_ := Aside0.mk (Kd.S_mono (Kd.S_told (Kd.S_told (Kd.S_old HO_282001.out hb) (Kd.S_base ho0)) (Kd.R_base ho1)) (fun _ h_ => h_.1))
      have n5_ := Aside0.mk (Kd.R_elder' HO_282002.out (Kd.R_base ho1) hb)
      have n6_ := Aside0.mk (Kd.S_lower (Kd.S_new' (Kd.S_new' (Kd.S_new' (Kd.S_new' (Kd.S_new' (Kd.S_new' ho0 (Kd.S_lt HO_265001.out)) (Kd.R_lt HO_265002.out)) (Kd.S_lt HO_273001.out)) (Kd.R_lt HO_273002.out)) (Kd.S_lt HO_282001.out)) (Kd.R_lt HO_282002.out)) (below_size (by repeat (first | (with_reducible first | exact HB.out | apply below_alloc | apply pw_below_drewN | apply below_drew1 | refine below_set ?_ GE247.out | refine below_set ?_ GE264.out | refine below_set ?_ GE272.out | refine below_set ?_ GE281.out) | exact HB.out))))
      have n7_ := Aside0.mk (Kd.R_lower (Kd.R_new' (Kd.R_new' (Kd.R_new' ho1 (Kd.R_lt HO_265002.out)) (Kd.R_lt HO_273002.out)) (Kd.R_lt HO_282002.out)) (below_size (by repeat (first | (with_reducible first | exact HB.out | apply below_alloc | apply pw_below_drewN | apply below_drew1 | refine below_set ?_ GE247.out | refine below_set ?_ GE264.out | refine below_set ?_ GE272.out | refine below_set ?_ GE281.out) | exact HB.out))))
      have n8_ := Aside0.mk (blk_below (g := gb247) (o := .cells #[.int .i64 a0_0, .slice A0_1 l0_1.length c0_1, .slice A0_2 l0_2.length c0_2] 25 (0, 0)) BK247.out hb)
      have n9_ := Aside0.mk (blk_below (g := gb264) (o := .cells #[.int .i64 t256, .slice Ao25 t257.length co25, .slice Ao26 t260.length co26] 28 (0, 0)) BK264.out hb)
      have n10_ := Aside0.mk (blk_below (g := gb272) (o := .cells #[.int .i64 t265, .slice Ao34 t266.length co34, .slice Ao35 t269.length co35] 28 (0, 0)) BK272.out hb)
      have n11_ := Aside0.mk (blk_below (g := gb281) (o := .cells #[.int .i64 t273, .slice Ao43 t274.length co43, .slice Ao44 t277.length co44] 28 (0, 0)) BK281.out hb)
      have n12_ := Aside0.mk (below_step (by repeat (first | (with_reducible first | exact HB.out | apply below_alloc | apply pw_below_drewN | apply below_drew1 | refine below_set ?_ GE247.out | refine below_set ?_ GE264.out | refine below_set ?_ GE272.out | refine below_set ?_ GE281.out) | exact HB.out)) hb)
      clear HO_265001
      clear HO_265002
      clear HO_273001
      clear HO_273002
      clear HO_282001
      clear HO_282002
      clear BK247
      clear BK264
      clear BK272
      clear BK281
      clear HB
      have HO_265001 := n0_
      have HO_265002 := n1_
      have HO_273001 := n2_
      have HO_273002 := n3_
      have HO_282001 := n4_
      have HO_282002 := n5_
      have HO286 := n6_
      have HO289 := n7_
      have BK247 := n8_
      have BK264 := n9_
      have BK272 := n10_
      have BK281 := n11_
      have HB := n12_
      clear n0_ n1_ n2_ n3_ n4_ n5_ n6_ n7_ n8_ n9_ n10_ n11_ n12_
      (try clear hb)
      (try clear hb2)
      (try clear hk)
      (try clear hi)
      (try clear ho0)
      (try clear ho1)
      obtain ⟨Ao71, co71, eo71⟩ := Kd.S_slice HO286.out
      (first | subst eo71 | (injection eo71 with f1_ f2_ f3_; have f4_ := f1_.symm; have f5_ := f3_.symm; clear f1_ f2_ f3_; subst f4_; subst f5_))
      obtain ⟨Ao72, co72, eo72⟩ := Kd.R_slice HO289.out
      (first | subst eo72 | (injection eo72 with f1_ f2_ f3_; have f4_ := f1_.symm; have f5_ := f3_.symm; clear f1_ f2_ f3_; subst f4_; subst f5_))
      refine hK.out _ _ ⟨(blk_cell BK272.out 0).trans rfl, (blk_cell BK272.out 1).trans rfl, (blk_cell BK272.out 2).trans rfl, (blk_cell BK247.out 0).trans rfl, (blk_cell BK247.out 1).trans rfl, (blk_cell BK247.out 2).trans rfl⟩ (fun hHeld => ?_)
      clear hK K
      refine norm_ (a' := ?_) ?_ ?_
      rotate_left
      ·show Act.put _ (some 43) _ = _
       simp only [Act.put, List.setIfInBounds_toArray, List.set_cons_zero, List.set_cons_succ, i64_w, i32_w]
       rfl
      refine one_ (i := 3) (N := some 44) #[true, true, true, true, false] rfl rfl (by kernel_rfl) (by decide) (fun K hK => ?_)
      refine goes_ Try.func14 (by kernel_rfl) rfl #[.agg #[.int .i64 t265, .slice Ao34 t266.length co34, .slice Ao35 t269.length co35], .agg #[.int .i64 t283, .slice Ao71 t284.length co71, .slice Ao72 t287.length co72]] (by rfl) rfl rfl (by (try simp only [List.map_toArray, List.map_cons, List.map_nil]); first | done | rfl) ?_
      with_reducible refine (laws_eqAutomaton.calls kj10 t265 _ _ t266 _ _ t269 t283 _ _ t284 _ _ t287 true _ ?side1 ?side2 ?side3 ?side4 ?side5 ?side6 ?side7 ?side8 A65.out).mono ?_
      (case side1 => repeat (first | exact (Kd.S_reads' HO_273001.out).2.2 | (with_reducible refine Kd.C_alloc ?_ _) | (with_reducible refine Kd.C_drewN ?_ _) | (with_reducible refine Kd.C_drew ?_)))
      (case side2 => exact (Kd.S_reads' HO_273001.out).2.1)
      (case side3 => repeat (first | exact (Kd.R_reads' HO_273002.out).2.2 | (with_reducible refine Kd.C_alloc ?_ _) | (with_reducible refine Kd.C_drewN ?_ _) | (with_reducible refine Kd.C_drew ?_)))
      (case side4 => exact (Kd.R_reads' HO_273002.out).2.1)
      (case side5 => repeat (first | exact (Kd.S_reads' HO286.out).2.2 | (with_reducible refine Kd.C_alloc ?_ _) | (with_reducible refine Kd.C_drewN ?_ _) | (with_reducible refine Kd.C_drew ?_)))
      (case side6 => exact (Kd.S_reads' HO286.out).2.1)
      (case side7 => repeat (first | exact (Kd.R_reads' HO289.out).2.2 | (with_reducible refine Kd.C_alloc ?_ _) | (with_reducible refine Kd.C_drewN ?_ _) | (with_reducible refine Kd.C_drew ?_)))
      (case side8 => exact (Kd.R_reads' HO289.out).2.1)
      rintro e w73 ⟨rfl, hb⟩
      refine ⟨_, rfl, ?_⟩
      have n0_ := Aside0.mk (Kd.S_below HO_265001.out hb)
      have n1_ := Aside0.mk (Kd.R_below HO_265002.out hb)
      have n2_ := Aside0.mk (Kd.S_below HO_273001.out hb)
      have n3_ := Aside0.mk (Kd.R_below HO_273002.out hb)
      have n4_ := Aside0.mk (Kd.S_below HO_282001.out hb)
      have n5_ := Aside0.mk (Kd.R_below HO_282002.out hb)
      have n6_ := Aside0.mk (Kd.S_below HO286.out hb)
      have n7_ := Aside0.mk (Kd.R_below HO289.out hb)
      have n8_ := Aside0.mk (blk_below (g := gb247) (o := .cells #[.int .i64 a0_0, .slice A0_1 l0_1.length c0_1, .slice A0_2 l0_2.length c0_2] 25 (0, 0)) BK247.out hb)
      have n9_ := Aside0.mk (blk_below (g := gb264) (o := .cells #[.int .i64 t256, .slice Ao25 t257.length co25, .slice Ao26 t260.length co26] 28 (0, 0)) BK264.out hb)
      have n10_ := Aside0.mk (blk_below (g := gb272) (o := .cells #[.int .i64 t265, .slice Ao34 t266.length co34, .slice Ao35 t269.length co35] 28 (0, 0)) BK272.out hb)
      have n11_ := Aside0.mk (blk_below (g := gb281) (o := .cells #[.int .i64 t273, .slice Ao43 t274.length co43, .slice Ao44 t277.length co44] 28 (0, 0)) BK281.out hb)
      have n12_ := Aside0.mk (below_step (by repeat (first | (with_reducible first | exact HB.out | apply below_alloc | apply pw_below_drewN | apply below_drew1 | refine below_set ?_ GE247.out | refine below_set ?_ GE264.out | refine below_set ?_ GE272.out | refine below_set ?_ GE281.out) | exact HB.out)) hb)
      clear HO_265001
      clear HO_265002
      clear HO_273001
      clear HO_273002
      clear HO_282001
      clear HO_282002
      clear HO286
      clear HO289
      clear BK247
      clear BK264
      clear BK272
      clear BK281
      clear HB
      have HO_265001 := n0_
      have HO_265002 := n1_
      have HO_273001 := n2_
      have HO_273002 := n3_
      have HO_282001 := n4_
      have HO_282002 := n5_
      have HO286 := n6_
      have HO289 := n7_
      have BK247 := n8_
      have BK264 := n9_
      have BK272 := n10_
      have BK281 := n11_
      have HB := n12_
      clear n0_ n1_ n2_ n3_ n4_ n5_ n6_ n7_ n8_ n9_ n10_ n11_ n12_
      (try clear hb)
      (try clear hb2)
      (try clear hk)
      (try clear hi)
      refine hK.out _ _ ⟨(blk_cell BK272.out 0).trans rfl, (blk_cell BK272.out 1).trans rfl, (blk_cell BK272.out 2).trans rfl, (blk_cell BK247.out 0).trans rfl, (blk_cell BK247.out 1).trans rfl, (blk_cell BK247.out 2).trans rfl⟩ (fun hHeld => ?_)
      clear hK K
      refine norm_ (a' := ?_) ?_ ?_
      rotate_left
      ·show Act.put _ (some 44) _ = _
       simp only [Act.put, List.setIfInBounds_toArray, List.set_cons_zero, List.set_cons_succ, i64_w, i32_w]
       rfl
      refine pure_ (i := 4) (N := some 45) (v := ?_) (a' := ?_) #[true, true, true, true, true] rfl rfl (by kernel_rfl) (fun _ _ _ h => h) (Or.inl ⟨by rfl, ?_⟩) ?_ ?_
      rotate_left
      ·intro w'
       go_simp
       with_reducible rfl
      rotate_left
      ·simp only [Act.put, List.setIfInBounds_toArray, List.set_cons_zero, List.set_cons_succ, i64_w, i32_w]
       rfl
      refine done_ (by kernel_rfl) ?_
      have hnb74 := NB272_247.out
      have hnc74 := NB247_272.out
      have hnb75 := NB272_264.out
      have hnc75 := NB264_272.out
      have hnb76 := NB272_281.out
      have hnc76 := NB281_272.out
      have hcz77_0 : w73.cell? ⟨gb272, 0, none⟩ = some (.int .i64 t265) := (blk_cell BK272.out 0).trans rfl
      have hcz77_1 : w73.cell? ⟨gb272, 1, none⟩ = some (.slice Ao34 t266.length co34) := (blk_cell BK272.out 1).trans rfl
      have hcz77_2 : w73.cell? ⟨gb272, 2, none⟩ = some (.slice Ao35 t269.length co35) := (blk_cell BK272.out 2).trans rfl
      have hfz77_0 := blk_frozen BK272.out 0
      have hfz77_1 := blk_frozen BK272.out 1
      have hfz77_2 := blk_frozen BK272.out 2
      go_upto_region 14 with (first | ((with_reducible refine gate_callee (f := 17) rfl ?_); refine goesL_ (some 48) rfl rfl Try.func17 (by kernel_rfl) rfl #[.agg #[.int .i64 t265, .slice Ao34 t266.length co34, .slice Ao35 t269.length co35], .int .i64 1] rfl (by (try simp only [List.map_toArray, List.map_cons, List.map_nil]); first | done | rfl) ?_; obtain ⟨PS78, hPS78, kPS78⟩ := S_open (HO_273001.out); (with_reducible refine (laws_markAutomaton.calls kj10 t265 PS78 (.slice Ao34 t266.length co34) t266 (fun k_ => some k_ = (.slice Ao35 t269.length co35 : Value).ownBlock) (.slice Ao35 t269.length co35) t269 1 t291 t292 t293 w _ ?side1 ?side2 ?side3 ?side4 A67.out).mono ?_); (case side1 => repeat (first | (with_reducible first | exact HB.out | apply below_alloc | apply pw_below_drewN | apply below_drew1 | refine below_set ?_ GE247.out | refine below_set ?_ GE264.out | refine below_set ?_ GE272.out | refine below_set ?_ GE281.out) | exact HB.out)); (case side2 => exact kPS78); (case side3 => exact fun k_ e_ e2_ => ((hPS78 k_ e_).1.1.1.2.2.1) e2_); (case side4 => exact Kd.R_tight rfl HO_273002.out); rintro e w79 ⟨rfl, hy0, hy1, hb, hkp⟩; refine ⟨_, rfl, ?_⟩; have n0_ := Aside0.mk (Kd.S_mono (ok' := fun k_ => some k_ ≠ (.slice Ao26 t260.length co26 : Value).ownBlock ∧ some k_ ≠ (.slice Ao34 t266.length co34 : Value).ownBlock ∧ some k_ ≠ (.slice Ao35 t269.length co35 : Value).ownBlock ∧ some k_ ≠ (.slice Ao43 t274.length co43 : Value).ownBlock ∧ some k_ ≠ (.slice Ao44 t277.length co44 : Value).ownBlock ∧ some k_ ≠ (.slice Ao72 t287.length co72 : Value).ownBlock ∧ k_ ≠ ge_ N21 k_ ∧ k_ ≠ lt_ N29 k_ ∧ k_ ≠ lt_ N37 k_) (Kd.S_keptB ((S_awayP (P := PS78) HO_265001.out (fun k_ h_ e_ => no_lap (h_.1.1.2.2.2.2.2.2.1) ((hPS78 k_ e_).1.1.1.2.2.2.2.2.1)))) hkp (fun k_ hk_ hs_ => Or.elim hs_ (fun e_ => (hk_.2) e_) (fun e_ => (hk_.1.1.1.2.2.1) e_))) (fun k_ hk_ => ⟨hk_.1.1.1.1.1, hk_.1.1.1.1.2.1, hk_.1.1.1.1.2.2.1, hk_.1.1.1.1.2.2.2.1, hk_.1.1.1.1.2.2.2.2.1, hk_.1.1.2, hk_.1.1.1.1.2.2.2.2.2.1, hk_.1.1.1.1.2.2.2.2.2.2.1, hk_.1.1.1.1.2.2.2.2.2.2.2⟩)); have n1_ := Aside0.mk (Kd.R_mono (ok' := fun k_ => some k_ ≠ (.slice Ao35 t269.length co35 : Value).ownBlock ∧ some k_ ≠ (.slice Ao44 t277.length co44 : Value).ownBlock ∧ some k_ ≠ (.slice Ao72 t287.length co72 : Value).ownBlock) (Kd.R_keptB ((R_awayS (P := PS78) rfl HO_265002.out (fun k_ e_ => (hPS78 k_ e_).1.1.1.2.1))) hkp (fun k_ hk_ hs_ => Or.elim hs_ (fun e_ => (hk_.2) e_) (fun e_ => (hk_.1.1.1) e_))) (fun k_ hk_ => ⟨hk_.1.1.1.1, hk_.1.1.1.2, hk_.1.1.2⟩)); have n2_ := Aside0.mk (Kd.S_mono hy0 (fun k_ e_ => (hPS78 k_ e_).1)); have n3_ := Aside0.mk (Kd.R_reok rfl hy1 (fun k_ e_ => HO_273002.out.1 k_ e_)); have n4_ := Aside0.mk (Kd.S_mono (ok' := fun k_ => some k_ ≠ (.slice Ao25 t257.length co25 : Value).ownBlock ∧ some k_ ≠ (.slice Ao26 t260.length co26 : Value).ownBlock ∧ some k_ ≠ (.slice Ao34 t266.length co34 : Value).ownBlock ∧ some k_ ≠ (.slice Ao35 t269.length co35 : Value).ownBlock ∧ some k_ ≠ (.slice Ao44 t277.length co44 : Value).ownBlock ∧ some k_ ≠ (.slice Ao72 t287.length co72 : Value).ownBlock ∧ k_ ≠ ge_ N37 k_) (Kd.S_keptB ((S_awayP (P := PS78) HO_282001.out (fun k_ h_ e_ => no_lap ((hPS78 k_ e_).1.1.1.2.2.2.2.2.2) (h_.1.1.2.2.2.2.2)))) hkp (fun k_ hk_ hs_ => Or.elim hs_ (fun e_ => (hk_.2) e_) (fun e_ => (hk_.1.1.1.2.2.2.1) e_))) (fun k_ hk_ => ⟨hk_.1.1.1.1.1, hk_.1.1.1.1.2.1, hk_.1.1.1.1.2.2.1, hk_.1.1.1.1.2.2.2.1, hk_.1.1.1.1.2.2.2.2.1, hk_.1.1.2, hk_.1.1.1.1.2.2.2.2.2⟩)); have n5_ := Aside0.mk (Kd.R_mono (ok' := fun k_ => some k_ ≠ (.slice Ao26 t260.length co26 : Value).ownBlock ∧ some k_ ≠ (.slice Ao35 t269.length co35 : Value).ownBlock ∧ some k_ ≠ (.slice Ao72 t287.length co72 : Value).ownBlock) (Kd.R_keptB ((R_awayS (P := PS78) rfl HO_282002.out (fun k_ e_ => (hPS78 k_ e_).1.1.1.2.2.2.2.1))) hkp (fun k_ hk_ hs_ => Or.elim hs_ (fun e_ => (hk_.2) e_) (fun e_ => (hk_.1.1.2) e_))) (fun k_ hk_ => ⟨hk_.1.1.1.1, hk_.1.1.1.2, hk_.1.1.2⟩)); have n6_ := Aside0.mk (blk_kept BK247.out hkp (fun hs_ => Or.elim hs_ (fun e_ => (fun e_ => far_S (hPS78 _ e_).2.2.2 BK247.out (by decide)) e_) (fun e_ => (fun e_ => (Kd.R_ne HO_273002.out BK247.out (by decide)) e_) e_))); have n7_ := Aside0.mk (blk_kept BK264.out hkp (fun hs_ => Or.elim hs_ (fun e_ => (fun e_ => far_S (hPS78 _ e_).2.2.2 BK264.out (by decide)) e_) (fun e_ => (fun e_ => (Kd.R_ne HO_273002.out BK264.out (by decide)) e_) e_))); have n8_ := Aside0.mk (blk_kept BK272.out hkp (fun hs_ => Or.elim hs_ (fun e_ => (fun e_ => far_S (hPS78 _ e_).2.2.2 BK272.out (by decide)) e_) (fun e_ => (fun e_ => (Kd.R_ne HO_273002.out BK272.out (by decide)) e_) e_))); have n9_ := Aside0.mk (blk_kept BK281.out hkp (fun hs_ => Or.elim hs_ (fun e_ => (fun e_ => far_S (hPS78 _ e_).2.2.2 BK281.out (by decide)) e_) (fun e_ => (fun e_ => (Kd.R_ne HO_273002.out BK281.out (by decide)) e_) e_))); have n10_ := Aside0.mk (Kd.R_mono (ok' := fun k_ => some k_ ≠ (.slice Ao26 t260.length co26 : Value).ownBlock ∧ some k_ ≠ (.slice Ao35 t269.length co35 : Value).ownBlock ∧ some k_ ≠ (.slice Ao44 t277.length co44 : Value).ownBlock) (Kd.R_keptB ((R_awayS (P := PS78) rfl HO289.out (fun k_ e_ => (hPS78 k_ e_).1.2))) hkp (fun k_ hk_ hs_ => Or.elim hs_ (fun e_ => (hk_.2) e_) (fun e_ => (hk_.1.1.2) e_))) (fun k_ hk_ => ⟨hk_.1.1.1.1.2, hk_.1.1.1.2, hk_.1.1.2⟩)); have n11_ := Aside0.mk (hb); clear HO_265001; clear HO_265002; clear HO_273001; clear HO_273002; clear HO_282001; clear HO_282002; clear BK247; clear BK264; clear BK272; clear BK281; clear HO289; clear HB; clear HO286; have HO_265001 := n0_; have HO_265002 := n1_; have HO_273001 := n2_; have HO_273002 := n3_; have HO_282001 := n4_; have HO_282002 := n5_; have BK247 := n6_; have BK264 := n7_; have BK272 := n8_; have BK281 := n9_; have HO289 := n10_; have HB := n11_; clear n0_ n1_ n2_ n3_ n4_ n5_ n6_ n7_ n8_ n9_ n10_ n11_; (try clear hb); (try clear hkp); (try clear hy0); (try clear hy1); (try clear hPS78 kPS78)))
      (try simp only [Act.put, List.setIfInBounds_toArray, List.set_cons_zero, List.set_cons_succ])
      go_cut [61] (fun v61 wc => ∃ (kq : Nat) (x61_67 : Bool), v61 = .bool x61_67 ∧ Aside0 (laws_FnExactOppositeAutomaton.j1 kq t263 x61_67 a0_0 l0_1 l0_2 t256 t257 t260 t273 t274 t277 = some r) ∧ Aside0 (kq ≤ kj10) ∧ Aside0 (Kd.S (Kd.slice 2 (Kd.int .i64)) 23 wc w.heap.size (fun k_ => some k_ ≠ ((.slice Ao26 t260.length co26) : Value).ownBlock ∧ some k_ ≠ ((.slice Ao34 t266.length co34) : Value).ownBlock ∧ some k_ ≠ ((.slice Ao35 t269.length co35) : Value).ownBlock ∧ some k_ ≠ ((.slice Ao43 t274.length co43) : Value).ownBlock ∧ some k_ ≠ ((.slice Ao44 t277.length co44) : Value).ownBlock ∧ k_ ≠ ge_ N21 k_ ∧ k_ ≠ lt_ N29 k_ ∧ k_ ≠ lt_ N37 k_) (.slice Ao25 t257.length co25) t257) ∧ Aside0 (Kd.R (Kd.int .i64) 2 wc w.heap.size (fun k_ => some k_ ≠ ((.slice Ao35 t269.length co35) : Value).ownBlock ∧ some k_ ≠ ((.slice Ao44 t277.length co44) : Value).ownBlock) (.slice Ao26 t260.length co26) t260) ∧ Aside0 (Kd.S (Kd.slice 2 (Kd.int .i64)) 23 wc w.heap.size (fun k_ => some k_ ≠ ((.slice Ao25 t257.length co25) : Value).ownBlock ∧ some k_ ≠ ((.slice Ao26 t260.length co26) : Value).ownBlock ∧ some k_ ≠ ((.slice Ao35 t269.length co35) : Value).ownBlock ∧ some k_ ≠ ((.slice Ao43 t274.length co43) : Value).ownBlock ∧ some k_ ≠ ((.slice Ao44 t277.length co44) : Value).ownBlock ∧ k_ ≠ ge_ N29 k_ ∧ k_ ≠ lt_ N37 k_) (.slice Ao34 t266.length co34) t292) ∧ Aside0 (Kd.R (Kd.int .i64) 2 wc w.heap.size (fun k_ => some k_ ≠ ((.slice Ao26 t260.length co26) : Value).ownBlock ∧ some k_ ≠ ((.slice Ao44 t277.length co44) : Value).ownBlock) (.slice Ao35 t269.length co35) t293) ∧ Aside0 (Kd.S (Kd.slice 2 (Kd.int .i64)) 23 wc w.heap.size (fun k_ => some k_ ≠ ((.slice Ao25 t257.length co25) : Value).ownBlock ∧ some k_ ≠ ((.slice Ao26 t260.length co26) : Value).ownBlock ∧ some k_ ≠ ((.slice Ao34 t266.length co34) : Value).ownBlock ∧ some k_ ≠ ((.slice Ao35 t269.length co35) : Value).ownBlock ∧ some k_ ≠ ((.slice Ao44 t277.length co44) : Value).ownBlock ∧ k_ ≠ ge_ N37 k_) (.slice Ao43 t274.length co43) t274) ∧ Aside0 (Kd.R (Kd.int .i64) 2 wc w.heap.size (fun k_ => some k_ ≠ ((.slice Ao26 t260.length co26) : Value).ownBlock ∧ some k_ ≠ ((.slice Ao35 t269.length co35) : Value).ownBlock) (.slice Ao44 t277.length co44) t277) ∧ Aside0 (wc.heap[gb247]? = some (.cells #[.int .i64 a0_0, (.slice A0_1 l0_1.length c0_1), (.slice A0_2 l0_2.length c0_2)] 25 (0, 0))) ∧ Aside0 (wc.heap[gb264]? = some (.cells #[.int .i64 t256, (.slice Ao25 t257.length co25), (.slice Ao26 t260.length co26)] 28 (0, 0))) ∧ Aside0 (wc.heap[gb272]? = some (.cells #[.int .i64 t265, (.slice Ao34 t266.length co34), (.slice Ao35 t269.length co35)] 28 (0, 0))) ∧ Aside0 (wc.heap[gb281]? = some (.cells #[.int .i64 t273, (.slice Ao43 t274.length co43), (.slice Ao44 t277.length co44)] 28 (0, 0))) ∧ Aside0 (Below w.heap.size w wc))
      case first =>
       have H := HC68.out
       clear HC68
       by_cases c80 : t291 < 0
       ·rw [if_pos c80] at H
        have c80b0 : decide (t291 < 0) = true := decide_eq_true c80
        clear c80
        (first | rw [c80b0] | (simp only [i64_w, i32_w]; rw [c80b0]) | skip)
        have H' := Aside0.mk H
        clear H
        go_wp2
        go_meet
        case rel => exact ⟨_, (true), (by first | rfl | (simp; done) | (simp [*]; done)), H', ⟨by have := HJ10.out; first | omega | exact Nat.le_refl _⟩, ⟨by (with_reducible repeat (first | apply Kd.S_alloc | apply Kd.S_drewN | apply Kd.S_drew)); exact Kd.S_mono HO_265001.out (fun _ hk => ⟨hk.1, ⟨hk.2.1, ⟨hk.2.2.1, ⟨hk.2.2.2.1, ⟨hk.2.2.2.2.1, ⟨hk.2.2.2.2.2.2.1, ⟨hk.2.2.2.2.2.2.2.1, hk.2.2.2.2.2.2.2.2⟩⟩⟩⟩⟩⟩⟩)⟩, ⟨by (with_reducible repeat (first | apply Kd.R_alloc | apply Kd.R_drewN | apply Kd.R_drew)); exact Kd.R_mono HO_265002.out (fun _ hk => ⟨hk.1, hk.2.1⟩)⟩, ⟨by (with_reducible repeat (first | apply Kd.S_alloc | apply Kd.S_drewN | apply Kd.S_drew)); exact Kd.S_mono HO_273001.out (fun _ hk => ⟨hk.1.1.1, ⟨hk.1.1.2.1, ⟨hk.1.1.2.2.1, ⟨hk.1.1.2.2.2.1, ⟨hk.1.1.2.2.2.2.1, ⟨hk.1.1.2.2.2.2.2.1, hk.1.1.2.2.2.2.2.2⟩⟩⟩⟩⟩⟩)⟩, ⟨by (with_reducible repeat (first | apply Kd.R_alloc | apply Kd.R_drewN | apply Kd.R_drew)); exact Kd.R_mono HO_273002.out (fun _ hk => ⟨hk.1.1, hk.1.2⟩)⟩, ⟨by (with_reducible repeat (first | apply Kd.S_alloc | apply Kd.S_drewN | apply Kd.S_drew)); exact Kd.S_mono HO_282001.out (fun _ hk => ⟨hk.1, ⟨hk.2.1, ⟨hk.2.2.1, ⟨hk.2.2.2.1, ⟨hk.2.2.2.2.1, hk.2.2.2.2.2.2⟩⟩⟩⟩⟩)⟩, ⟨by (with_reducible repeat (first | apply Kd.R_alloc | apply Kd.R_drewN | apply Kd.R_drew)); exact Kd.R_mono HO_282002.out (fun _ hk => ⟨hk.1, hk.2.1⟩)⟩, ⟨by (with_reducible repeat (first | refine blk_drewN ?_ _ | refine blk_drew ?_ | refine blk_alloc ?_ _)); exact BK247.out⟩, ⟨by (with_reducible repeat (first | refine blk_drewN ?_ _ | refine blk_drew ?_ | refine blk_alloc ?_ _)); exact BK264.out⟩, ⟨by (with_reducible repeat (first | refine blk_drewN ?_ _ | refine blk_drew ?_ | refine blk_alloc ?_ _)); exact BK272.out⟩, ⟨by (with_reducible repeat (first | refine blk_drewN ?_ _ | refine blk_drew ?_ | refine blk_alloc ?_ _)); exact BK281.out⟩, ⟨by repeat (first | (with_reducible first | exact HB.out | apply below_alloc | apply pw_below_drewN | apply below_drew1 | refine below_set ?_ GE247.out | refine below_set ?_ GE264.out | refine below_set ?_ GE272.out | refine below_set ?_ GE281.out) | exact HB.out)⟩⟩
       ·rw [if_neg c80] at H
        have c80b0 : decide (t291 < 0) = false := decide_eq_false c80
        clear c80
        (first | rw [c80b0] | (simp only [i64_w, i32_w]; rw [c80b0]) | skip)
        replace H := Option.bind_eq_some_iff.mp H
        obtain ⟨t294, A810, H⟩ := H
        replace H : (if t294 = true then (laws_FnExactOppositeAutomaton.j1 kj10 t263 (t280 != t263) a0_0 l0_1 l0_2 t256 t257 t260 t273 t274 t277) else (laws_FnExactOppositeAutomaton.j1 kj10 t263 true a0_0 l0_1 l0_2 t256 t257 t260 t273 t274 t277)) = some r := H
        have A81 := Aside0.mk A810
        clear A810
        by_cases c82 : t294 = true
        ·subst c82
         have H1 : (laws_FnExactOppositeAutomaton.j1 kj10 t263 (t280 != t263) a0_0 l0_1 l0_2 t256 t257 t260 t273 t274 t277) = some r := by rw [if_pos rfl] at H; exact H
         clear H
         have H := H1
         clear H1
         have H' := Aside0.mk H
         clear H
         have hnb83 := NB281_247.out
         have hnc83 := NB247_281.out
         have hnb84 := NB281_264.out
         have hnc84 := NB264_281.out
         have hnb85 := NB281_272.out
         have hnc85 := NB272_281.out
         have hcz86_0 : w79.cell? ⟨gb281, 0, none⟩ = some (.int .i64 t273) := (blk_cell BK281.out 0).trans rfl
         have hcz86_1 : w79.cell? ⟨gb281, 1, none⟩ = some (.slice Ao43 t274.length co43) := (blk_cell BK281.out 1).trans rfl
         have hcz86_2 : w79.cell? ⟨gb281, 2, none⟩ = some (.slice Ao44 t277.length co44) := (blk_cell BK281.out 2).trans rfl
         have hfz86_0 := blk_frozen BK281.out 0
         have hfz86_1 := blk_frozen BK281.out 1
         have hfz86_2 := blk_frozen BK281.out 2
         have hnb87 := NB264_247.out
         have hnc87 := NB247_264.out
         have hnb88 := NB264_272.out
         have hnc88 := NB272_264.out
         have hcz89_0 : w79.cell? ⟨gb264, 0, none⟩ = some (.int .i64 t256) := (blk_cell BK264.out 0).trans rfl
         have hcz89_1 : w79.cell? ⟨gb264, 1, none⟩ = some (.slice Ao25 t257.length co25) := (blk_cell BK264.out 1).trans rfl
         have hcz89_2 : w79.cell? ⟨gb264, 2, none⟩ = some (.slice Ao26 t260.length co26) := (blk_cell BK264.out 2).trans rfl
         have hfz89_0 := blk_frozen BK264.out 0
         have hfz89_1 := blk_frozen BK264.out 1
         have hfz89_2 := blk_frozen BK264.out 2
         go_wp2_with (first | (go_at_call 14; (with_reducible refine (laws_eqAutomaton.calls kj10 t273 _ _ t274 _ _ t277 t256 _ _ t257 _ _ t260 true _ ?side1 ?side2 ?side3 ?side4 ?side5 ?side6 ?side7 ?side8 A81.out).mono ?_); (case side1 => repeat (first | exact (Kd.S_reads' HO_282001.out).2.2 | (with_reducible refine Kd.C_alloc ?_ _) | (with_reducible refine Kd.C_drewN ?_ _) | (with_reducible refine Kd.C_drew ?_))); (case side2 => exact (Kd.S_reads' HO_282001.out).2.1); (case side3 => repeat (first | exact (Kd.R_reads' HO_282002.out).2.2 | (with_reducible refine Kd.C_alloc ?_ _) | (with_reducible refine Kd.C_drewN ?_ _) | (with_reducible refine Kd.C_drew ?_))); (case side4 => exact (Kd.R_reads' HO_282002.out).2.1); (case side5 => repeat (first | exact (Kd.S_reads' HO_265001.out).2.2 | (with_reducible refine Kd.C_alloc ?_ _) | (with_reducible refine Kd.C_drewN ?_ _) | (with_reducible refine Kd.C_drew ?_))); (case side6 => exact (Kd.S_reads' HO_265001.out).2.1); (case side7 => repeat (first | exact (Kd.R_reads' HO_265002.out).2.2 | (with_reducible refine Kd.C_alloc ?_ _) | (with_reducible refine Kd.C_drewN ?_ _) | (with_reducible refine Kd.C_drew ?_))); (case side8 => exact (Kd.R_reads' HO_265002.out).2.1); rintro e w90 ⟨rfl, hb⟩; have n0_ := Aside0.mk (Kd.S_below HO_265001.out hb); have n1_ := Aside0.mk (Kd.R_below HO_265002.out hb); have n2_ := Aside0.mk (Kd.S_below HO_273001.out hb); have n3_ := Aside0.mk (Kd.R_below HO_273002.out hb); have n4_ := Aside0.mk (Kd.S_below HO_282001.out hb); have n5_ := Aside0.mk (Kd.R_below HO_282002.out hb); have n6_ := Aside0.mk (Kd.R_below HO289.out hb); have n7_ := Aside0.mk (blk_below (g := gb247) (o := .cells #[.int .i64 a0_0, .slice A0_1 l0_1.length c0_1, .slice A0_2 l0_2.length c0_2] 25 (0, 0)) BK247.out hb); have n8_ := Aside0.mk (blk_below (g := gb264) (o := .cells #[.int .i64 t256, .slice Ao25 t257.length co25, .slice Ao26 t260.length co26] 28 (0, 0)) BK264.out hb); have n9_ := Aside0.mk (blk_below (g := gb272) (o := .cells #[.int .i64 t265, .slice Ao34 t266.length co34, .slice Ao35 t269.length co35] 28 (0, 0)) BK272.out hb); have n10_ := Aside0.mk (blk_below (g := gb281) (o := .cells #[.int .i64 t273, .slice Ao43 t274.length co43, .slice Ao44 t277.length co44] 28 (0, 0)) BK281.out hb); have n11_ := Aside0.mk (below_step (by repeat (first | (with_reducible first | exact HB.out | apply below_alloc | apply pw_below_drewN | apply below_drew1 | refine below_set ?_ GE247.out | refine below_set ?_ GE264.out | refine below_set ?_ GE272.out | refine below_set ?_ GE281.out) | exact HB.out)) hb); clear HO_265001; clear HO_265002; clear HO_273001; clear HO_273002; clear HO_282001; clear HO_282002; clear HO289; clear BK247; clear BK264; clear BK272; clear BK281; clear HB; have HO_265001 := n0_; have HO_265002 := n1_; have HO_273001 := n2_; have HO_273002 := n3_; have HO_282001 := n4_; have HO_282002 := n5_; have HO289 := n6_; have BK247 := n7_; have BK264 := n8_; have BK272 := n9_; have BK281 := n10_; have HB := n11_; clear n0_ n1_ n2_ n3_ n4_ n5_ n6_ n7_ n8_ n9_ n10_ n11_; (try clear hb); (try clear hb2); (try clear hk); (try clear hi)))
         go_meet
         case rel => exact ⟨_, ((t280 != t263)), (by first | rfl | (simp; done) | (simp [*]; done)), H', ⟨by have := HJ10.out; first | omega | exact Nat.le_refl _⟩, ⟨by (with_reducible repeat (first | apply Kd.S_alloc | apply Kd.S_drewN | apply Kd.S_drew)); exact Kd.S_mono HO_265001.out (fun _ hk => ⟨hk.1, ⟨hk.2.1, ⟨hk.2.2.1, ⟨hk.2.2.2.1, ⟨hk.2.2.2.2.1, ⟨hk.2.2.2.2.2.2.1, ⟨hk.2.2.2.2.2.2.2.1, hk.2.2.2.2.2.2.2.2⟩⟩⟩⟩⟩⟩⟩)⟩, ⟨by (with_reducible repeat (first | apply Kd.R_alloc | apply Kd.R_drewN | apply Kd.R_drew)); exact Kd.R_mono HO_265002.out (fun _ hk => ⟨hk.1, hk.2.1⟩)⟩, ⟨by (with_reducible repeat (first | apply Kd.S_alloc | apply Kd.S_drewN | apply Kd.S_drew)); exact Kd.S_mono HO_273001.out (fun _ hk => ⟨hk.1.1.1, ⟨hk.1.1.2.1, ⟨hk.1.1.2.2.1, ⟨hk.1.1.2.2.2.1, ⟨hk.1.1.2.2.2.2.1, ⟨hk.1.1.2.2.2.2.2.1, hk.1.1.2.2.2.2.2.2⟩⟩⟩⟩⟩⟩)⟩, ⟨by (with_reducible repeat (first | apply Kd.R_alloc | apply Kd.R_drewN | apply Kd.R_drew)); exact Kd.R_mono HO_273002.out (fun _ hk => ⟨hk.1.1, hk.1.2⟩)⟩, ⟨by (with_reducible repeat (first | apply Kd.S_alloc | apply Kd.S_drewN | apply Kd.S_drew)); exact Kd.S_mono HO_282001.out (fun _ hk => ⟨hk.1, ⟨hk.2.1, ⟨hk.2.2.1, ⟨hk.2.2.2.1, ⟨hk.2.2.2.2.1, hk.2.2.2.2.2.2⟩⟩⟩⟩⟩)⟩, ⟨by (with_reducible repeat (first | apply Kd.R_alloc | apply Kd.R_drewN | apply Kd.R_drew)); exact Kd.R_mono HO_282002.out (fun _ hk => ⟨hk.1, hk.2.1⟩)⟩, ⟨by (with_reducible repeat (first | refine blk_drewN ?_ _ | refine blk_drew ?_ | refine blk_alloc ?_ _)); exact BK247.out⟩, ⟨by (with_reducible repeat (first | refine blk_drewN ?_ _ | refine blk_drew ?_ | refine blk_alloc ?_ _)); exact BK264.out⟩, ⟨by (with_reducible repeat (first | refine blk_drewN ?_ _ | refine blk_drew ?_ | refine blk_alloc ?_ _)); exact BK272.out⟩, ⟨by (with_reducible repeat (first | refine blk_drewN ?_ _ | refine blk_drew ?_ | refine blk_alloc ?_ _)); exact BK281.out⟩, ⟨by repeat (first | (with_reducible first | exact HB.out | apply below_alloc | apply pw_below_drewN | apply below_drew1 | refine below_set ?_ GE247.out | refine below_set ?_ GE264.out | refine below_set ?_ GE272.out | refine below_set ?_ GE281.out) | exact HB.out)⟩⟩
        ·replace c82 := Bool.eq_false_iff.mpr c82
         subst c82
         have H1 : (laws_FnExactOppositeAutomaton.j1 kj10 t263 true a0_0 l0_1 l0_2 t256 t257 t260 t273 t274 t277) = some r := by rw [if_neg (show ¬ (false = true) by decide)] at H; exact H
         clear H
         have H := H1
         clear H1
         have H' := Aside0.mk H
         clear H
         have hnb91 := NB281_247.out
         have hnc91 := NB247_281.out
         have hnb92 := NB281_264.out
         have hnc92 := NB264_281.out
         have hnb93 := NB281_272.out
         have hnc93 := NB272_281.out
         have hcz94_0 : w79.cell? ⟨gb281, 0, none⟩ = some (.int .i64 t273) := (blk_cell BK281.out 0).trans rfl
         have hcz94_1 : w79.cell? ⟨gb281, 1, none⟩ = some (.slice Ao43 t274.length co43) := (blk_cell BK281.out 1).trans rfl
         have hcz94_2 : w79.cell? ⟨gb281, 2, none⟩ = some (.slice Ao44 t277.length co44) := (blk_cell BK281.out 2).trans rfl
         have hfz94_0 := blk_frozen BK281.out 0
         have hfz94_1 := blk_frozen BK281.out 1
         have hfz94_2 := blk_frozen BK281.out 2
         have hnb95 := NB264_247.out
         have hnc95 := NB247_264.out
         have hnb96 := NB264_272.out
         have hnc96 := NB272_264.out
         have hcz97_0 : w79.cell? ⟨gb264, 0, none⟩ = some (.int .i64 t256) := (blk_cell BK264.out 0).trans rfl
         have hcz97_1 : w79.cell? ⟨gb264, 1, none⟩ = some (.slice Ao25 t257.length co25) := (blk_cell BK264.out 1).trans rfl
         have hcz97_2 : w79.cell? ⟨gb264, 2, none⟩ = some (.slice Ao26 t260.length co26) := (blk_cell BK264.out 2).trans rfl
         have hfz97_0 := blk_frozen BK264.out 0
         have hfz97_1 := blk_frozen BK264.out 1
         have hfz97_2 := blk_frozen BK264.out 2
         go_wp2_with (first | (go_at_call 14; (with_reducible refine (laws_eqAutomaton.calls kj10 t273 _ _ t274 _ _ t277 t256 _ _ t257 _ _ t260 false _ ?side1 ?side2 ?side3 ?side4 ?side5 ?side6 ?side7 ?side8 A81.out).mono ?_); (case side1 => repeat (first | exact (Kd.S_reads' HO_282001.out).2.2 | (with_reducible refine Kd.C_alloc ?_ _) | (with_reducible refine Kd.C_drewN ?_ _) | (with_reducible refine Kd.C_drew ?_))); (case side2 => exact (Kd.S_reads' HO_282001.out).2.1); (case side3 => repeat (first | exact (Kd.R_reads' HO_282002.out).2.2 | (with_reducible refine Kd.C_alloc ?_ _) | (with_reducible refine Kd.C_drewN ?_ _) | (with_reducible refine Kd.C_drew ?_))); (case side4 => exact (Kd.R_reads' HO_282002.out).2.1); (case side5 => repeat (first | exact (Kd.S_reads' HO_265001.out).2.2 | (with_reducible refine Kd.C_alloc ?_ _) | (with_reducible refine Kd.C_drewN ?_ _) | (with_reducible refine Kd.C_drew ?_))); (case side6 => exact (Kd.S_reads' HO_265001.out).2.1); (case side7 => repeat (first | exact (Kd.R_reads' HO_265002.out).2.2 | (with_reducible refine Kd.C_alloc ?_ _) | (with_reducible refine Kd.C_drewN ?_ _) | (with_reducible refine Kd.C_drew ?_))); (case side8 => exact (Kd.R_reads' HO_265002.out).2.1); rintro e w98 ⟨rfl, hb⟩; have n0_ := Aside0.mk (Kd.S_below HO_265001.out hb); have n1_ := Aside0.mk (Kd.R_below HO_265002.out hb); have n2_ := Aside0.mk (Kd.S_below HO_273001.out hb); have n3_ := Aside0.mk (Kd.R_below HO_273002.out hb); have n4_ := Aside0.mk (Kd.S_below HO_282001.out hb); have n5_ := Aside0.mk (Kd.R_below HO_282002.out hb); have n6_ := Aside0.mk (Kd.R_below HO289.out hb); have n7_ := Aside0.mk (blk_below (g := gb247) (o := .cells #[.int .i64 a0_0, .slice A0_1 l0_1.length c0_1, .slice A0_2 l0_2.length c0_2] 25 (0, 0)) BK247.out hb); have n8_ := Aside0.mk (blk_below (g := gb264) (o := .cells #[.int .i64 t256, .slice Ao25 t257.length co25, .slice Ao26 t260.length co26] 28 (0, 0)) BK264.out hb); have n9_ := Aside0.mk (blk_below (g := gb272) (o := .cells #[.int .i64 t265, .slice Ao34 t266.length co34, .slice Ao35 t269.length co35] 28 (0, 0)) BK272.out hb); have n10_ := Aside0.mk (blk_below (g := gb281) (o := .cells #[.int .i64 t273, .slice Ao43 t274.length co43, .slice Ao44 t277.length co44] 28 (0, 0)) BK281.out hb); have n11_ := Aside0.mk (below_step (by repeat (first | (with_reducible first | exact HB.out | apply below_alloc | apply pw_below_drewN | apply below_drew1 | refine below_set ?_ GE247.out | refine below_set ?_ GE264.out | refine below_set ?_ GE272.out | refine below_set ?_ GE281.out) | exact HB.out)) hb); clear HO_265001; clear HO_265002; clear HO_273001; clear HO_273002; clear HO_282001; clear HO_282002; clear HO289; clear BK247; clear BK264; clear BK272; clear BK281; clear HB; have HO_265001 := n0_; have HO_265002 := n1_; have HO_273001 := n2_; have HO_273002 := n3_; have HO_282001 := n4_; have HO_282002 := n5_; have HO289 := n6_; have BK247 := n7_; have BK264 := n8_; have BK272 := n9_; have BK281 := n10_; have HB := n11_; clear n0_ n1_ n2_ n3_ n4_ n5_ n6_ n7_ n8_ n9_ n10_ n11_; (try clear hb); (try clear hb2); (try clear hk); (try clear hi)))
         go_meet
         case rel => exact ⟨_, (true), (by first | rfl | (simp; done) | (simp [*]; done)), H', ⟨by have := HJ10.out; first | omega | exact Nat.le_refl _⟩, ⟨by (with_reducible repeat (first | apply Kd.S_alloc | apply Kd.S_drewN | apply Kd.S_drew)); exact Kd.S_mono HO_265001.out (fun _ hk => ⟨hk.1, ⟨hk.2.1, ⟨hk.2.2.1, ⟨hk.2.2.2.1, ⟨hk.2.2.2.2.1, ⟨hk.2.2.2.2.2.2.1, ⟨hk.2.2.2.2.2.2.2.1, hk.2.2.2.2.2.2.2.2⟩⟩⟩⟩⟩⟩⟩)⟩, ⟨by (with_reducible repeat (first | apply Kd.R_alloc | apply Kd.R_drewN | apply Kd.R_drew)); exact Kd.R_mono HO_265002.out (fun _ hk => ⟨hk.1, hk.2.1⟩)⟩, ⟨by (with_reducible repeat (first | apply Kd.S_alloc | apply Kd.S_drewN | apply Kd.S_drew)); exact Kd.S_mono HO_273001.out (fun _ hk => ⟨hk.1.1.1, ⟨hk.1.1.2.1, ⟨hk.1.1.2.2.1, ⟨hk.1.1.2.2.2.1, ⟨hk.1.1.2.2.2.2.1, ⟨hk.1.1.2.2.2.2.2.1, hk.1.1.2.2.2.2.2.2⟩⟩⟩⟩⟩⟩)⟩, ⟨by (with_reducible repeat (first | apply Kd.R_alloc | apply Kd.R_drewN | apply Kd.R_drew)); exact Kd.R_mono HO_273002.out (fun _ hk => ⟨hk.1.1, hk.1.2⟩)⟩, ⟨by (with_reducible repeat (first | apply Kd.S_alloc | apply Kd.S_drewN | apply Kd.S_drew)); exact Kd.S_mono HO_282001.out (fun _ hk => ⟨hk.1, ⟨hk.2.1, ⟨hk.2.2.1, ⟨hk.2.2.2.1, ⟨hk.2.2.2.2.1, hk.2.2.2.2.2.2⟩⟩⟩⟩⟩)⟩, ⟨by (with_reducible repeat (first | apply Kd.R_alloc | apply Kd.R_drewN | apply Kd.R_drew)); exact Kd.R_mono HO_282002.out (fun _ hk => ⟨hk.1, hk.2.1⟩)⟩, ⟨by (with_reducible repeat (first | refine blk_drewN ?_ _ | refine blk_drew ?_ | refine blk_alloc ?_ _)); exact BK247.out⟩, ⟨by (with_reducible repeat (first | refine blk_drewN ?_ _ | refine blk_drew ?_ | refine blk_alloc ?_ _)); exact BK264.out⟩, ⟨by (with_reducible repeat (first | refine blk_drewN ?_ _ | refine blk_drew ?_ | refine blk_alloc ?_ _)); exact BK272.out⟩, ⟨by (with_reducible repeat (first | refine blk_drewN ?_ _ | refine blk_drew ?_ | refine blk_alloc ?_ _)); exact BK281.out⟩, ⟨by repeat (first | (with_reducible first | exact HB.out | apply below_alloc | apply pw_below_drewN | apply below_drew1 | refine below_set ?_ GE247.out | refine below_set ?_ GE264.out | refine below_set ?_ GE272.out | refine below_set ?_ GE281.out) | exact HB.out)⟩⟩
      case rest =>
       clear HC68
       try clear c1
       try clear c2
       try clear p2
       try clear c3
       try clear c3b0
       try clear c4
       try clear c5
       try clear c6
       try clear c7
       try clear c8
       try clear c9
       try clear c10
       try clear c12
       try clear c14
       try clear c15
       try clear c16
       try clear c17
       try clear c23
       try clear c31
       try clear c32
       try clear c39
       try clear c40
       try clear c41
       try clear c46
       try clear c47
       try clear c48
       try clear c49
       try clear c51
       try clear c52
       try clear c55
       try clear c56
       try clear c57
       try clear c59
       try clear c60
       try clear c63
       try clear c66
       try clear c74
       try clear c75
       try clear c76
       try clear c80
       try clear c80b0
       try clear c82
       try clear c83
       try clear c84
       try clear c85
       try clear c87
       try clear c88
       try clear c91
       try clear c92
       try clear c93
       try clear c95
       try clear c96
       try clear hcz13_0
       try clear hcz13_1
       try clear hcz13_2
       try clear hcz15_0
       try clear hcz15_1
       try clear hcz15_2
       try clear hcz24_0
       try clear hcz24_1
       try clear hcz24_2
       try clear hcz27_0
       try clear hcz27_1
       try clear hcz27_2
       try clear hcz33_0
       try clear hcz33_1
       try clear hcz33_2
       try clear hcz42_0
       try clear hcz42_1
       try clear hcz42_2
       try clear hcz50_0
       try clear hcz50_1
       try clear hcz50_2
       try clear hcz53_0
       try clear hcz53_1
       try clear hcz53_2
       try clear hcz58_0
       try clear hcz58_1
       try clear hcz58_2
       try clear hcz5_0
       try clear hcz5_1
       try clear hcz5_2
       try clear hcz61_0
       try clear hcz61_1
       try clear hcz61_2
       try clear hcz77_0
       try clear hcz77_1
       try clear hcz77_2
       try clear hcz86_0
       try clear hcz86_1
       try clear hcz86_2
       try clear hcz89_0
       try clear hcz89_1
       try clear hcz89_2
       try clear hcz94_0
       try clear hcz94_1
       try clear hcz94_2
       try clear hcz97_0
       try clear hcz97_1
       try clear hcz97_2
       try clear hfz13_0
       try clear hfz13_1
       try clear hfz13_2
       try clear hfz15_0
       try clear hfz15_1
       try clear hfz15_2
       try clear hfz24_0
       try clear hfz24_1
       try clear hfz24_2
       try clear hfz27_0
       try clear hfz27_1
       try clear hfz27_2
       try clear hfz33_0
       try clear hfz33_1
       try clear hfz33_2
       try clear hfz42_0
       try clear hfz42_1
       try clear hfz42_2
       try clear hfz50_0
       try clear hfz50_1
       try clear hfz50_2
       try clear hfz53_0
       try clear hfz53_1
       try clear hfz53_2
       try clear hfz58_0
       try clear hfz58_1
       try clear hfz58_2
       try clear hfz5_0
       try clear hfz5_1
       try clear hfz5_2
       try clear hfz61_0
       try clear hfz61_1
       try clear hfz61_2
       try clear hfz77_0
       try clear hfz77_1
       try clear hfz77_2
       try clear hfz86_0
       try clear hfz86_1
       try clear hfz86_2
       try clear hfz89_0
       try clear hfz89_1
       try clear hfz89_2
       try clear hfz94_0
       try clear hfz94_1
       try clear hfz94_2
       try clear hfz97_0
       try clear hfz97_1
       try clear hfz97_2
       try clear p2
       obtain ⟨kq, x61_67, rfl, HA, HJ67, HO_265001, HO_265002, HO_273001, HO_273002, HO_282001, HO_282002, BK247, BK264, BK272, BK281, HB⟩ := hcut
       have hl273001_67 := (Kd.S_reads' HO_273001.out).1
       rw [hl273001_67] at HO_273001
       (try simp only [hl273001_67])
       (try simp only [hl273001_67] at BK247)
       (try simp only [hl273001_67] at BK264)
       (try simp only [hl273001_67] at BK272)
       (try simp only [hl273001_67] at BK281)
       (try simp only [hl273001_67] at HO_265001)
       (try simp only [hl273001_67] at HO_265002)
       (try simp only [hl273001_67] at HO_273002)
       (try simp only [hl273001_67] at HO_282001)
       (try simp only [hl273001_67] at HO_282002)
       have hl273002_67 := (Kd.R_reads' HO_273002.out).1
       rw [hl273002_67] at HO_273002
       (try simp only [hl273002_67])
       (try simp only [hl273002_67] at BK247)
       (try simp only [hl273002_67] at BK264)
       (try simp only [hl273002_67] at BK272)
       (try simp only [hl273002_67] at BK281)
       (try simp only [hl273002_67] at HO_265001)
       (try simp only [hl273002_67] at HO_265002)
       (try simp only [hl273002_67] at HO_273001)
       (try simp only [hl273002_67] at HO_282001)
       (try simp only [hl273002_67] at HO_282002)
       cases kq with
       | zero => exact absurd HA.out (by simp [laws_FnExactOppositeAutomaton.j1])
       | succ kj67 =>
        have H := HA.out
        clear HA
        simp only [laws_FnExactOppositeAutomaton.j1] at H
        by_cases c99 : x61_67 = true
        ·subst c99
         have H1 : (some false) = some r := by rw [if_pos rfl] at H; exact H
         clear H
         have H := H1
         clear H1
         obtain rfl := Option.some.inj H
         go_wp2
         go_ret
         exact ⟨by first | rfl | (simp [errW_none, errW_some] <;> rfl) | (simp [*, errW_none, errW_some] <;> rfl), by repeat (first | (with_reducible first | exact HB.out | apply below_alloc | apply pw_below_drewN | apply below_drew1 | refine below_set ?_ GE247.out | refine below_set ?_ GE264.out | refine below_set ?_ GE272.out | refine below_set ?_ GE281.out) | exact HB.out)⟩
        ·replace c99 := Bool.eq_false_iff.mpr c99
         subst c99
         have H1 : ((laws_markAutomaton.f kj67 t273 t274 t277 1).bind fun bt295 => ((laws_heldAutomaton.f kj67 t273 bt295.2.1 bt295.2.2 1).bind fun t298 => (if t298 < 0 then (some false) else (if t298 = bt295.1 then ((laws_toAutomaton.f kj67 a0_0 l0_1 l0_2).bind fun bt299 => ((impl_OppositeAutomaton.f kj67 bt299.1 bt299.2.1 bt299.2.2).bind fun bt306 => ((laws_eqAutomaton.f kj67 bt306.1 bt306.2.1 bt306.2.2.1 t256 t257 t260).bind fun t315 => (if t315 = true then (laws_FnExactOppositeAutomaton.j2 kj67 bt295.1 (bt306.2.2.2 != t263) t273 bt295.2.1 bt295.2.2) else (laws_FnExactOppositeAutomaton.j2 kj67 bt295.1 true t273 bt295.2.1 bt295.2.2))))) else (some false))))) = some r := by rw [if_neg (show ¬ (false = true) by decide)] at H; exact H
         clear H
         have H := H1
         clear H1
         replace H := Option.bind_eq_some_iff.mp H
         obtain ⟨⟨t295, t296, t297⟩, A1000, H⟩ := H
         replace H : ((laws_heldAutomaton.f kj67 t273 t296 t297 1).bind fun t298 => (if t298 < 0 then (some false) else (if t298 = t295 then ((laws_toAutomaton.f kj67 a0_0 l0_1 l0_2).bind fun bt299 => ((impl_OppositeAutomaton.f kj67 bt299.1 bt299.2.1 bt299.2.2).bind fun bt306 => ((laws_eqAutomaton.f kj67 bt306.1 bt306.2.1 bt306.2.2.1 t256 t257 t260).bind fun t315 => (if t315 = true then (laws_FnExactOppositeAutomaton.j2 kj67 t295 (bt306.2.2.2 != t263) t273 t296 t297) else (laws_FnExactOppositeAutomaton.j2 kj67 t295 true t273 t296 t297))))) else (some false)))) = some r := H
         have A100 := Aside0.mk A1000
         clear A1000
         replace H := Option.bind_eq_some_iff.mp H
         obtain ⟨t298, A1010, H⟩ := H
         replace H : (if t298 < 0 then (some false) else (if t298 = t295 then ((laws_toAutomaton.f kj67 a0_0 l0_1 l0_2).bind fun bt299 => ((impl_OppositeAutomaton.f kj67 bt299.1 bt299.2.1 bt299.2.2).bind fun bt306 => ((laws_eqAutomaton.f kj67 bt306.1 bt306.2.1 bt306.2.2.1 t256 t257 t260).bind fun t315 => (if t315 = true then (laws_FnExactOppositeAutomaton.j2 kj67 t295 (bt306.2.2.2 != t263) t273 t296 t297) else (laws_FnExactOppositeAutomaton.j2 kj67 t295 true t273 t296 t297))))) else (some false))) = some r := H
         have A101 := Aside0.mk A1010
         clear A1010
         by_cases c102 : t298 < 0
         ·rw [if_pos c102] at H
          have c102b0 : decide (t298 < 0) = true := decide_eq_true c102
          clear c102
          obtain rfl := Option.some.inj H
          have hnb103 := NB281_247.out
          have hnc103 := NB247_281.out
          have hnb104 := NB281_264.out
          have hnc104 := NB264_281.out
          have hnb105 := NB281_272.out
          have hnc105 := NB272_281.out
          have hcz106_0 : wc.cell? ⟨gb281, 0, none⟩ = some (.int .i64 t273) := (blk_cell BK281.out 0).trans rfl
          have hcz106_1 : wc.cell? ⟨gb281, 1, none⟩ = some (.slice Ao43 t274.length co43) := (blk_cell BK281.out 1).trans rfl
          have hcz106_2 : wc.cell? ⟨gb281, 2, none⟩ = some (.slice Ao44 t277.length co44) := (blk_cell BK281.out 2).trans rfl
          have hfz106_0 := blk_frozen BK281.out 0
          have hfz106_1 := blk_frozen BK281.out 1
          have hfz106_2 := blk_frozen BK281.out 2
          go_wp2_with (first | ((with_reducible refine gate_callee (f := 17) rfl ?_); refine goesL_ (some 64) rfl rfl Try.func17 (by kernel_rfl) rfl #[.agg #[.int .i64 t273, .slice Ao43 t274.length co43, .slice Ao44 t277.length co44], .int .i64 1] rfl (by (try simp only [List.map_toArray, List.map_cons, List.map_nil]); first | done | rfl) ?_; obtain ⟨PS107, hPS107, kPS107⟩ := S_open (HO_282001.out); (with_reducible refine (laws_markAutomaton.calls kj67 t273 PS107 (.slice Ao43 t274.length co43) t274 (fun k_ => some k_ = (.slice Ao44 t277.length co44 : Value).ownBlock) (.slice Ao44 t277.length co44) t277 1 t295 t296 t297 w _ ?side1 ?side2 ?side3 ?side4 A100.out).mono ?_); (case side1 => repeat (first | (with_reducible first | exact HB.out | apply below_alloc | apply pw_below_drewN | apply below_drew1 | refine below_set ?_ GE247.out | refine below_set ?_ GE264.out | refine below_set ?_ GE272.out | refine below_set ?_ GE281.out) | exact HB.out)); (case side2 => exact kPS107); (case side3 => exact fun k_ e_ e2_ => ((hPS107 k_ e_).1.2.2.2.2.1) e2_); (case side4 => exact Kd.R_tight rfl HO_282002.out); rintro e w108 ⟨rfl, hy0, hy1, hb, hkp⟩; refine ⟨_, rfl, ?_⟩; have n0_ := Aside0.mk (Kd.S_mono (ok' := fun k_ => some k_ ≠ (.slice Ao26 t260.length co26 : Value).ownBlock ∧ some k_ ≠ (.slice Ao34 t292.length co34 : Value).ownBlock ∧ some k_ ≠ (.slice Ao35 t293.length co35 : Value).ownBlock ∧ some k_ ≠ (.slice Ao43 t274.length co43 : Value).ownBlock ∧ some k_ ≠ (.slice Ao44 t277.length co44 : Value).ownBlock ∧ k_ ≠ ge_ N21 k_ ∧ k_ ≠ lt_ N29 k_ ∧ k_ ≠ lt_ N37 k_) (Kd.S_keptB ((S_awayP (P := PS107) HO_265001.out (fun k_ h_ e_ => no_lap (h_.2.2.2.2.2.2.2) ((hPS107 k_ e_).1.2.2.2.2.2)))) hkp (fun k_ hk_ hs_ => Or.elim hs_ (fun e_ => (hk_.2) e_) (fun e_ => (hk_.1.2.2.2.2.1) e_))) (fun k_ hk_ => ⟨hk_.1.1.1, hk_.1.1.2.1, hk_.1.1.2.2.1, hk_.1.1.2.2.2.1, hk_.1.1.2.2.2.2.1, hk_.1.1.2.2.2.2.2.1, hk_.1.1.2.2.2.2.2.2.1, hk_.1.1.2.2.2.2.2.2.2⟩)); have n1_ := Aside0.mk (Kd.R_mono (ok' := fun k_ => some k_ ≠ (.slice Ao35 t293.length co35 : Value).ownBlock ∧ some k_ ≠ (.slice Ao44 t277.length co44 : Value).ownBlock) (Kd.R_keptB ((R_awayS (P := PS107) rfl HO_265002.out (fun k_ e_ => (hPS107 k_ e_).1.2.1))) hkp (fun k_ hk_ hs_ => Or.elim hs_ (fun e_ => (hk_.2) e_) (fun e_ => (hk_.1.2) e_))) (fun k_ hk_ => ⟨hk_.1.1.1, hk_.1.1.2⟩)); have n2_ := Aside0.mk (Kd.S_mono (ok' := fun k_ => some k_ ≠ (.slice Ao25 t257.length co25 : Value).ownBlock ∧ some k_ ≠ (.slice Ao26 t260.length co26 : Value).ownBlock ∧ some k_ ≠ (.slice Ao35 t293.length co35 : Value).ownBlock ∧ some k_ ≠ (.slice Ao43 t274.length co43 : Value).ownBlock ∧ some k_ ≠ (.slice Ao44 t277.length co44 : Value).ownBlock ∧ k_ ≠ ge_ N29 k_ ∧ k_ ≠ lt_ N37 k_) (Kd.S_keptB ((S_awayP (P := PS107) HO_273001.out (fun k_ h_ e_ => no_lap (h_.2.2.2.2.2.2) ((hPS107 k_ e_).1.2.2.2.2.2)))) hkp (fun k_ hk_ hs_ => Or.elim hs_ (fun e_ => (hk_.2) e_) (fun e_ => (hk_.1.2.2.2.2.1) e_))) (fun k_ hk_ => ⟨hk_.1.1.1, hk_.1.1.2.1, hk_.1.1.2.2.1, hk_.1.1.2.2.2.1, hk_.1.1.2.2.2.2.1, hk_.1.1.2.2.2.2.2.1, hk_.1.1.2.2.2.2.2.2⟩)); have n3_ := Aside0.mk (Kd.R_mono (ok' := fun k_ => some k_ ≠ (.slice Ao26 t260.length co26 : Value).ownBlock ∧ some k_ ≠ (.slice Ao44 t277.length co44 : Value).ownBlock) (Kd.R_keptB ((R_awayS (P := PS107) rfl HO_273002.out (fun k_ e_ => (hPS107 k_ e_).1.2.2.2.1))) hkp (fun k_ hk_ hs_ => Or.elim hs_ (fun e_ => (hk_.2) e_) (fun e_ => (hk_.1.2) e_))) (fun k_ hk_ => ⟨hk_.1.1.1, hk_.1.1.2⟩)); have n4_ := Aside0.mk (Kd.S_mono hy0 (fun k_ e_ => (hPS107 k_ e_).1)); have n5_ := Aside0.mk (Kd.R_reok rfl hy1 (fun k_ e_ => HO_282002.out.1 k_ e_)); have n6_ := Aside0.mk (blk_kept BK247.out hkp (fun hs_ => Or.elim hs_ (fun e_ => (fun e_ => far_S (hPS107 _ e_).2.2.2 BK247.out (by decide)) e_) (fun e_ => (fun e_ => (Kd.R_ne HO_282002.out BK247.out (by decide)) e_) e_))); have n7_ := Aside0.mk (blk_kept BK264.out hkp (fun hs_ => Or.elim hs_ (fun e_ => (fun e_ => far_S (hPS107 _ e_).2.2.2 BK264.out (by decide)) e_) (fun e_ => (fun e_ => (Kd.R_ne HO_282002.out BK264.out (by decide)) e_) e_))); have n8_ := Aside0.mk (blk_kept BK272.out hkp (fun hs_ => Or.elim hs_ (fun e_ => (fun e_ => far_S (hPS107 _ e_).2.2.2 BK272.out (by decide)) e_) (fun e_ => (fun e_ => (Kd.R_ne HO_282002.out BK272.out (by decide)) e_) e_))); have n9_ := Aside0.mk (blk_kept BK281.out hkp (fun hs_ => Or.elim hs_ (fun e_ => (fun e_ => far_S (hPS107 _ e_).2.2.2 BK281.out (by decide)) e_) (fun e_ => (fun e_ => (Kd.R_ne HO_282002.out BK281.out (by decide)) e_) e_))); have n10_ := Aside0.mk (hb); clear HO_265001; clear HO_265002; clear HO_273001; clear HO_273002; clear HO_282001; clear HO_282002; clear BK247; clear BK264; clear BK272; clear BK281; clear HB; have HO_265001 := n0_; have HO_265002 := n1_; have HO_273001 := n2_; have HO_273002 := n3_; have HO_282001 := n4_; have HO_282002 := n5_; have BK247 := n6_; have BK264 := n7_; have BK272 := n8_; have BK281 := n9_; have HB := n10_; clear n0_ n1_ n2_ n3_ n4_ n5_ n6_ n7_ n8_ n9_ n10_; (try clear hb); (try clear hkp); (try clear hy0); (try clear hy1); (try clear hPS107 kPS107); have hcz109_0 : w108.cell? ⟨gb281, 0, none⟩ = some (.int .i64 t273) := (blk_cell BK281.out 0).trans rfl; have hcz109_1 : w108.cell? ⟨gb281, 1, none⟩ = some (.slice Ao43 t274.length co43) := (blk_cell BK281.out 1).trans rfl; have hcz109_2 : w108.cell? ⟨gb281, 2, none⟩ = some (.slice Ao44 t277.length co44) := (blk_cell BK281.out 2).trans rfl; have hfz109_0 := blk_frozen BK281.out 0; have hfz109_1 := blk_frozen BK281.out 1; have hfz109_2 := blk_frozen BK281.out 2) | ((with_reducible refine gate_callee (f := 18) rfl ?_); refine goesL_ (some 67) rfl rfl Try.func18 (by kernel_rfl) rfl #[.agg #[.int .i64 t273, .slice Ao43 t296.length co43, .slice Ao44 t297.length co44], .int .i64 1] rfl (by (try simp only [List.map_toArray, List.map_cons, List.map_nil]); first | done | (rw [show t296.length = t274.length from (Kd.S_reads' HO_282001.out).1.symm, show t297.length = t277.length from (Kd.R_reads' HO_282002.out).1.symm] <;> rfl) | rfl | (simp only [List.length_drop, List.length_take]; rfl)) ?_; (with_reducible refine (laws_heldAutomaton.calls kj67 t273 _ _ t296 _ _ t297 1 t298 _ ?side1 ?side2 ?side3 ?side4 A101.out).mono ?_); (case side1 => repeat (first | exact (Kd.S_reads' HO_282001.out).2.2 | (with_reducible refine Kd.C_alloc ?_ _) | (with_reducible refine Kd.C_drewN ?_ _) | (with_reducible refine Kd.C_drew ?_))); (case side2 => rw [show t296.length = t274.length from (Kd.S_reads' HO_282001.out).1.symm]; exact (Kd.S_reads' HO_282001.out).2.1); (case side3 => repeat (first | exact (Kd.R_reads' HO_282002.out).2.2 | (with_reducible refine Kd.C_alloc ?_ _) | (with_reducible refine Kd.C_drewN ?_ _) | (with_reducible refine Kd.C_drew ?_))); (case side4 => rw [show t297.length = t277.length from (Kd.R_reads' HO_282002.out).1.symm]; exact (Kd.R_reads' HO_282002.out).2.1); rintro e w110 ⟨rfl, hb⟩; refine ⟨_, rfl, ?_⟩; have n0_ := Aside0.mk (Kd.S_below HO_265001.out hb); have n1_ := Aside0.mk (Kd.R_below HO_265002.out hb); have n2_ := Aside0.mk (Kd.S_below HO_273001.out hb); have n3_ := Aside0.mk (Kd.R_below HO_273002.out hb); have n4_ := Aside0.mk (Kd.S_below HO_282001.out hb); have n5_ := Aside0.mk (Kd.R_below HO_282002.out hb); have n6_ := Aside0.mk (blk_below (g := gb247) (o := .cells #[.int .i64 a0_0, .slice A0_1 l0_1.length c0_1, .slice A0_2 l0_2.length c0_2] 25 (0, 0)) BK247.out hb); have n7_ := Aside0.mk (blk_below (g := gb264) (o := .cells #[.int .i64 t256, .slice Ao25 t257.length co25, .slice Ao26 t260.length co26] 28 (0, 0)) BK264.out hb); have n8_ := Aside0.mk (blk_below (g := gb272) (o := .cells #[.int .i64 t265, .slice Ao34 t292.length co34, .slice Ao35 t293.length co35] 28 (0, 0)) BK272.out hb); have n9_ := Aside0.mk (blk_below (g := gb281) (o := .cells #[.int .i64 t273, .slice Ao43 t274.length co43, .slice Ao44 t277.length co44] 28 (0, 0)) BK281.out hb); have n10_ := Aside0.mk (below_step (by repeat (first | (with_reducible first | exact HB.out | apply below_alloc | apply pw_below_drewN | apply below_drew1 | refine below_set ?_ GE247.out | refine below_set ?_ GE264.out | refine below_set ?_ GE272.out | refine below_set ?_ GE281.out) | exact HB.out)) hb); clear HO_265001; clear HO_265002; clear HO_273001; clear HO_273002; clear HO_282001; clear HO_282002; clear BK247; clear BK264; clear BK272; clear BK281; clear HB; have HO_265001 := n0_; have HO_265002 := n1_; have HO_273001 := n2_; have HO_273002 := n3_; have HO_282001 := n4_; have HO_282002 := n5_; have BK247 := n6_; have BK264 := n7_; have BK272 := n8_; have BK281 := n9_; have HB := n10_; clear n0_ n1_ n2_ n3_ n4_ n5_ n6_ n7_ n8_ n9_ n10_; (try clear hb); (try clear hb2); (try clear hk); (try clear hi)))
          go_ret
          exact ⟨by first | rfl | (simp [errW_none, errW_some] <;> rfl) | (simp [*, errW_none, errW_some] <;> rfl), by repeat (first | (with_reducible first | exact HB.out | apply below_alloc | apply pw_below_drewN | apply below_drew1 | refine below_set ?_ GE247.out | refine below_set ?_ GE264.out | refine below_set ?_ GE272.out | refine below_set ?_ GE281.out) | exact HB.out)⟩
         ·rw [if_neg c102] at H
          have c102b0 : decide (t298 < 0) = false := decide_eq_false c102
          clear c102
          by_cases c111 : t298 = t295
          ·rw [if_pos c111] at H
           have c111b0 : (t298 == t295) = true := beq_iff_eq.mpr c111
           have c111b1 : (t298 != t295) = false := bne_eq_false_iff_eq.mpr c111
           clear c111
           replace H := Option.bind_eq_some_iff.mp H
           obtain ⟨⟨t299, t300, t303⟩, A1120, H⟩ := H
           replace H : ((impl_OppositeAutomaton.f kj67 t299 t300 t303).bind fun bt306 => ((laws_eqAutomaton.f kj67 bt306.1 bt306.2.1 bt306.2.2.1 t256 t257 t260).bind fun t315 => (if t315 = true then (laws_FnExactOppositeAutomaton.j2 kj67 t295 (bt306.2.2.2 != t263) t273 t296 t297) else (laws_FnExactOppositeAutomaton.j2 kj67 t295 true t273 t296 t297)))) = some r := H
           have A112 := Aside0.mk A1120
           clear A1120
           replace H := Option.bind_eq_some_iff.mp H
           obtain ⟨⟨t306, t307, t310, t313⟩, A1130, H⟩ := H
           replace H : ((laws_eqAutomaton.f kj67 t306 t307 t310 t256 t257 t260).bind fun t315 => (if t315 = true then (laws_FnExactOppositeAutomaton.j2 kj67 t295 (t313 != t263) t273 t296 t297) else (laws_FnExactOppositeAutomaton.j2 kj67 t295 true t273 t296 t297))) = some r := H
           have A113 := Aside0.mk A1130
           clear A1130
           have HC114 := Aside0.mk H
           clear H
           have hnb115 := NB281_247.out
           have hnc115 := NB247_281.out
           have hnb116 := NB281_264.out
           have hnc116 := NB264_281.out
           have hnb117 := NB281_272.out
           have hnc117 := NB272_281.out
           have hcz118_0 : wc.cell? ⟨gb281, 0, none⟩ = some (.int .i64 t273) := (blk_cell BK281.out 0).trans rfl
           have hcz118_1 : wc.cell? ⟨gb281, 1, none⟩ = some (.slice Ao43 t274.length co43) := (blk_cell BK281.out 1).trans rfl
           have hcz118_2 : wc.cell? ⟨gb281, 2, none⟩ = some (.slice Ao44 t277.length co44) := (blk_cell BK281.out 2).trans rfl
           have hfz118_0 := blk_frozen BK281.out 0
           have hfz118_1 := blk_frozen BK281.out 1
           have hfz118_2 := blk_frozen BK281.out 2
           go_upto_region 25 with (first | ((with_reducible refine gate_callee (f := 17) rfl ?_); refine goesL_ (some 64) rfl rfl Try.func17 (by kernel_rfl) rfl #[.agg #[.int .i64 t273, .slice Ao43 t274.length co43, .slice Ao44 t277.length co44], .int .i64 1] rfl (by (try simp only [List.map_toArray, List.map_cons, List.map_nil]); first | done | rfl) ?_; obtain ⟨PS119, hPS119, kPS119⟩ := S_open (HO_282001.out); (with_reducible refine (laws_markAutomaton.calls kj67 t273 PS119 (.slice Ao43 t274.length co43) t274 (fun k_ => some k_ = (.slice Ao44 t277.length co44 : Value).ownBlock) (.slice Ao44 t277.length co44) t277 1 t295 t296 t297 w _ ?side1 ?side2 ?side3 ?side4 A100.out).mono ?_); (case side1 => repeat (first | (with_reducible first | exact HB.out | apply below_alloc | apply pw_below_drewN | apply below_drew1 | refine below_set ?_ GE247.out | refine below_set ?_ GE264.out | refine below_set ?_ GE272.out | refine below_set ?_ GE281.out) | exact HB.out)); (case side2 => exact kPS119); (case side3 => exact fun k_ e_ e2_ => ((hPS119 k_ e_).1.2.2.2.2.1) e2_); (case side4 => exact Kd.R_tight rfl HO_282002.out); rintro e w120 ⟨rfl, hy0, hy1, hb, hkp⟩; refine ⟨_, rfl, ?_⟩; have n0_ := Aside0.mk (Kd.S_mono (ok' := fun k_ => some k_ ≠ (.slice Ao26 t260.length co26 : Value).ownBlock ∧ some k_ ≠ (.slice Ao34 t292.length co34 : Value).ownBlock ∧ some k_ ≠ (.slice Ao35 t293.length co35 : Value).ownBlock ∧ some k_ ≠ (.slice Ao43 t274.length co43 : Value).ownBlock ∧ some k_ ≠ (.slice Ao44 t277.length co44 : Value).ownBlock ∧ k_ ≠ ge_ N21 k_ ∧ k_ ≠ lt_ N29 k_ ∧ k_ ≠ lt_ N37 k_) (Kd.S_keptB ((S_awayP (P := PS119) HO_265001.out (fun k_ h_ e_ => no_lap (h_.2.2.2.2.2.2.2) ((hPS119 k_ e_).1.2.2.2.2.2)))) hkp (fun k_ hk_ hs_ => Or.elim hs_ (fun e_ => (hk_.2) e_) (fun e_ => (hk_.1.2.2.2.2.1) e_))) (fun k_ hk_ => ⟨hk_.1.1.1, hk_.1.1.2.1, hk_.1.1.2.2.1, hk_.1.1.2.2.2.1, hk_.1.1.2.2.2.2.1, hk_.1.1.2.2.2.2.2.1, hk_.1.1.2.2.2.2.2.2.1, hk_.1.1.2.2.2.2.2.2.2⟩)); have n1_ := Aside0.mk (Kd.R_mono (ok' := fun k_ => some k_ ≠ (.slice Ao35 t293.length co35 : Value).ownBlock ∧ some k_ ≠ (.slice Ao44 t277.length co44 : Value).ownBlock) (Kd.R_keptB ((R_awayS (P := PS119) rfl HO_265002.out (fun k_ e_ => (hPS119 k_ e_).1.2.1))) hkp (fun k_ hk_ hs_ => Or.elim hs_ (fun e_ => (hk_.2) e_) (fun e_ => (hk_.1.2) e_))) (fun k_ hk_ => ⟨hk_.1.1.1, hk_.1.1.2⟩)); have n2_ := Aside0.mk (Kd.S_mono (ok' := fun k_ => some k_ ≠ (.slice Ao25 t257.length co25 : Value).ownBlock ∧ some k_ ≠ (.slice Ao26 t260.length co26 : Value).ownBlock ∧ some k_ ≠ (.slice Ao35 t293.length co35 : Value).ownBlock ∧ some k_ ≠ (.slice Ao43 t274.length co43 : Value).ownBlock ∧ some k_ ≠ (.slice Ao44 t277.length co44 : Value).ownBlock ∧ k_ ≠ ge_ N29 k_ ∧ k_ ≠ lt_ N37 k_) (Kd.S_keptB ((S_awayP (P := PS119) HO_273001.out (fun k_ h_ e_ => no_lap (h_.2.2.2.2.2.2) ((hPS119 k_ e_).1.2.2.2.2.2)))) hkp (fun k_ hk_ hs_ => Or.elim hs_ (fun e_ => (hk_.2) e_) (fun e_ => (hk_.1.2.2.2.2.1) e_))) (fun k_ hk_ => ⟨hk_.1.1.1, hk_.1.1.2.1, hk_.1.1.2.2.1, hk_.1.1.2.2.2.1, hk_.1.1.2.2.2.2.1, hk_.1.1.2.2.2.2.2.1, hk_.1.1.2.2.2.2.2.2⟩)); have n3_ := Aside0.mk (Kd.R_mono (ok' := fun k_ => some k_ ≠ (.slice Ao26 t260.length co26 : Value).ownBlock ∧ some k_ ≠ (.slice Ao44 t277.length co44 : Value).ownBlock) (Kd.R_keptB ((R_awayS (P := PS119) rfl HO_273002.out (fun k_ e_ => (hPS119 k_ e_).1.2.2.2.1))) hkp (fun k_ hk_ hs_ => Or.elim hs_ (fun e_ => (hk_.2) e_) (fun e_ => (hk_.1.2) e_))) (fun k_ hk_ => ⟨hk_.1.1.1, hk_.1.1.2⟩)); have n4_ := Aside0.mk (Kd.S_mono hy0 (fun k_ e_ => (hPS119 k_ e_).1)); have n5_ := Aside0.mk (Kd.R_reok rfl hy1 (fun k_ e_ => HO_282002.out.1 k_ e_)); have n6_ := Aside0.mk (blk_kept BK247.out hkp (fun hs_ => Or.elim hs_ (fun e_ => (fun e_ => far_S (hPS119 _ e_).2.2.2 BK247.out (by decide)) e_) (fun e_ => (fun e_ => (Kd.R_ne HO_282002.out BK247.out (by decide)) e_) e_))); have n7_ := Aside0.mk (blk_kept BK264.out hkp (fun hs_ => Or.elim hs_ (fun e_ => (fun e_ => far_S (hPS119 _ e_).2.2.2 BK264.out (by decide)) e_) (fun e_ => (fun e_ => (Kd.R_ne HO_282002.out BK264.out (by decide)) e_) e_))); have n8_ := Aside0.mk (blk_kept BK272.out hkp (fun hs_ => Or.elim hs_ (fun e_ => (fun e_ => far_S (hPS119 _ e_).2.2.2 BK272.out (by decide)) e_) (fun e_ => (fun e_ => (Kd.R_ne HO_282002.out BK272.out (by decide)) e_) e_))); have n9_ := Aside0.mk (blk_kept BK281.out hkp (fun hs_ => Or.elim hs_ (fun e_ => (fun e_ => far_S (hPS119 _ e_).2.2.2 BK281.out (by decide)) e_) (fun e_ => (fun e_ => (Kd.R_ne HO_282002.out BK281.out (by decide)) e_) e_))); have n10_ := Aside0.mk (hb); clear HO_265001; clear HO_265002; clear HO_273001; clear HO_273002; clear HO_282001; clear HO_282002; clear BK247; clear BK264; clear BK272; clear BK281; clear HB; have HO_265001 := n0_; have HO_265002 := n1_; have HO_273001 := n2_; have HO_273002 := n3_; have HO_282001 := n4_; have HO_282002 := n5_; have BK247 := n6_; have BK264 := n7_; have BK272 := n8_; have BK281 := n9_; have HB := n10_; clear n0_ n1_ n2_ n3_ n4_ n5_ n6_ n7_ n8_ n9_ n10_; (try clear hb); (try clear hkp); (try clear hy0); (try clear hy1); (try clear hPS119 kPS119); have hcz121_0 : w120.cell? ⟨gb281, 0, none⟩ = some (.int .i64 t273) := (blk_cell BK281.out 0).trans rfl; have hcz121_1 : w120.cell? ⟨gb281, 1, none⟩ = some (.slice Ao43 t274.length co43) := (blk_cell BK281.out 1).trans rfl; have hcz121_2 : w120.cell? ⟨gb281, 2, none⟩ = some (.slice Ao44 t277.length co44) := (blk_cell BK281.out 2).trans rfl; have hfz121_0 := blk_frozen BK281.out 0; have hfz121_1 := blk_frozen BK281.out 1; have hfz121_2 := blk_frozen BK281.out 2) | ((with_reducible refine gate_callee (f := 18) rfl ?_); refine goesL_ (some 67) rfl rfl Try.func18 (by kernel_rfl) rfl #[.agg #[.int .i64 t273, .slice Ao43 t296.length co43, .slice Ao44 t297.length co44], .int .i64 1] rfl (by (try simp only [List.map_toArray, List.map_cons, List.map_nil]); first | done | (rw [show t296.length = t274.length from (Kd.S_reads' HO_282001.out).1.symm, show t297.length = t277.length from (Kd.R_reads' HO_282002.out).1.symm] <;> rfl) | rfl | (simp only [List.length_drop, List.length_take]; rfl)) ?_; (with_reducible refine (laws_heldAutomaton.calls kj67 t273 _ _ t296 _ _ t297 1 t298 _ ?side1 ?side2 ?side3 ?side4 A101.out).mono ?_); (case side1 => repeat (first | exact (Kd.S_reads' HO_282001.out).2.2 | (with_reducible refine Kd.C_alloc ?_ _) | (with_reducible refine Kd.C_drewN ?_ _) | (with_reducible refine Kd.C_drew ?_))); (case side2 => rw [show t296.length = t274.length from (Kd.S_reads' HO_282001.out).1.symm]; exact (Kd.S_reads' HO_282001.out).2.1); (case side3 => repeat (first | exact (Kd.R_reads' HO_282002.out).2.2 | (with_reducible refine Kd.C_alloc ?_ _) | (with_reducible refine Kd.C_drewN ?_ _) | (with_reducible refine Kd.C_drew ?_))); (case side4 => rw [show t297.length = t277.length from (Kd.R_reads' HO_282002.out).1.symm]; exact (Kd.R_reads' HO_282002.out).2.1); rintro e w122 ⟨rfl, hb⟩; refine ⟨_, rfl, ?_⟩; have n0_ := Aside0.mk (Kd.S_below HO_265001.out hb); have n1_ := Aside0.mk (Kd.R_below HO_265002.out hb); have n2_ := Aside0.mk (Kd.S_below HO_273001.out hb); have n3_ := Aside0.mk (Kd.R_below HO_273002.out hb); have n4_ := Aside0.mk (Kd.S_below HO_282001.out hb); have n5_ := Aside0.mk (Kd.R_below HO_282002.out hb); have n6_ := Aside0.mk (blk_below (g := gb247) (o := .cells #[.int .i64 a0_0, .slice A0_1 l0_1.length c0_1, .slice A0_2 l0_2.length c0_2] 25 (0, 0)) BK247.out hb); have n7_ := Aside0.mk (blk_below (g := gb264) (o := .cells #[.int .i64 t256, .slice Ao25 t257.length co25, .slice Ao26 t260.length co26] 28 (0, 0)) BK264.out hb); have n8_ := Aside0.mk (blk_below (g := gb272) (o := .cells #[.int .i64 t265, .slice Ao34 t292.length co34, .slice Ao35 t293.length co35] 28 (0, 0)) BK272.out hb); have n9_ := Aside0.mk (blk_below (g := gb281) (o := .cells #[.int .i64 t273, .slice Ao43 t274.length co43, .slice Ao44 t277.length co44] 28 (0, 0)) BK281.out hb); have n10_ := Aside0.mk (below_step (by repeat (first | (with_reducible first | exact HB.out | apply below_alloc | apply pw_below_drewN | apply below_drew1 | refine below_set ?_ GE247.out | refine below_set ?_ GE264.out | refine below_set ?_ GE272.out | refine below_set ?_ GE281.out) | exact HB.out)) hb); clear HO_265001; clear HO_265002; clear HO_273001; clear HO_273002; clear HO_282001; clear HO_282002; clear BK247; clear BK264; clear BK272; clear BK281; clear HB; have HO_265001 := n0_; have HO_265002 := n1_; have HO_273001 := n2_; have HO_273002 := n3_; have HO_282001 := n4_; have HO_282002 := n5_; have BK247 := n6_; have BK264 := n7_; have BK272 := n8_; have BK281 := n9_; have HB := n10_; clear n0_ n1_ n2_ n3_ n4_ n5_ n6_ n7_ n8_ n9_ n10_; (try clear hb); (try clear hb2); (try clear hk); (try clear hi); have hnb123 := NB247_264.out; have hnc123 := NB264_247.out; have hnb124 := NB247_272.out; have hnc124 := NB272_247.out; have hcz125_0 : w122.cell? ⟨gb247, 0, none⟩ = some (.int .i64 a0_0) := (blk_cell BK247.out 0).trans rfl; have hcz125_1 : w122.cell? ⟨gb247, 1, none⟩ = some (.slice A0_1 l0_1.length c0_1) := (blk_cell BK247.out 1).trans rfl; have hcz125_2 : w122.cell? ⟨gb247, 2, none⟩ = some (.slice A0_2 l0_2.length c0_2) := (blk_cell BK247.out 2).trans rfl; have hfz125_0 := blk_frozen BK247.out 0; have hfz125_1 := blk_frozen BK247.out 1; have hfz125_2 := blk_frozen BK247.out 2) | ((with_reducible refine gate_callee (f := 12) rfl ?_); refine goesL_ (some 75) rfl rfl Try.func12 (by kernel_rfl) rfl #[.agg #[.int .i64 a0_0, .slice A0_1 l0_1.length c0_1, .slice A0_2 l0_2.length c0_2]] rfl (by (try simp only [List.map_toArray, List.map_cons, List.map_nil]); first | done | rfl) ?_; (with_reducible refine (laws_toAutomaton.calls kj67 a0_0 _ _ l0_1 _ _ l0_2 t299 t300 t303 _ ?side1 ?side2 ?side3 ?side4 A112.out).mono ?_); (case side1 => repeat (first | exact (Kd.C_below HR0_1.out HB.out) | (with_reducible refine Kd.C_alloc ?_ _) | (with_reducible refine Kd.C_drewN ?_ _) | (with_reducible refine Kd.C_drew ?_))); (case side2 => exact HC0_1.out); (case side3 => repeat (first | exact (Kd.C_below HR0_2.out HB.out) | (with_reducible refine Kd.C_alloc ?_ _) | (with_reducible refine Kd.C_drewN ?_ _) | (with_reducible refine Kd.C_drew ?_))); (case side4 => exact HC0_2.out); rintro e w126 ⟨v301, v304, rfl, ho0, ho1, hb⟩; refine ⟨_, rfl, ?_⟩; obtain ⟨N127, hN127⟩ := nat_of_below hb; have n0_ := Aside0.mk (Kd.S_mono (Kd.S_told (Kd.S_told (Kd.S_old ((S_ltN HO_265001.out hN127)) hb) (Kd.S_base ho0)) (Kd.R_base ho1)) (fun _ h_ => h_.1)); have n1_ := Aside0.mk (Kd.R_elder' HO_265002.out (Kd.R_base ho1) hb); have n2_ := Aside0.mk (Kd.S_mono (Kd.S_told (Kd.S_told (Kd.S_old ((S_ltN HO_273001.out hN127)) hb) (Kd.S_base ho0)) (Kd.R_base ho1)) (fun _ h_ => h_.1)); have n3_ := Aside0.mk (Kd.R_elder' HO_273002.out (Kd.R_base ho1) hb); have n4_ := Aside0.mk (Kd.S_mono (Kd.S_told (Kd.S_told (Kd.S_old ((S_ltN HO_282001.out hN127)) hb) (Kd.S_base ho0)) (Kd.R_base ho1)) (fun _ h_ => h_.1)); have n5_ := Aside0.mk (Kd.R_elder' HO_282002.out (Kd.R_base ho1) hb); have n6_ := Aside0.mk (Kd.S_lower (Kd.S_new' (Kd.S_new' (Kd.S_new' (Kd.S_new' (Kd.S_new' (Kd.S_new' (S_geN hN127 ho0) (Kd.S_lt HO_265001.out)) (Kd.R_lt HO_265002.out)) (Kd.S_lt HO_273001.out)) (Kd.R_lt HO_273002.out)) (Kd.S_lt HO_282001.out)) (Kd.R_lt HO_282002.out)) (below_size (by repeat (first | (with_reducible first | exact HB.out | apply below_alloc | apply pw_below_drewN | apply below_drew1 | refine below_set ?_ GE247.out | refine below_set ?_ GE264.out | refine below_set ?_ GE272.out | refine below_set ?_ GE281.out) | exact HB.out)))); have n7_ := Aside0.mk (Kd.R_lower (Kd.R_new' (Kd.R_new' (Kd.R_new' ho1 (Kd.R_lt HO_265002.out)) (Kd.R_lt HO_273002.out)) (Kd.R_lt HO_282002.out)) (below_size (by repeat (first | (with_reducible first | exact HB.out | apply below_alloc | apply pw_below_drewN | apply below_drew1 | refine below_set ?_ GE247.out | refine below_set ?_ GE264.out | refine below_set ?_ GE272.out | refine below_set ?_ GE281.out) | exact HB.out)))); have n8_ := Aside0.mk (blk_below (g := gb247) (o := .cells #[.int .i64 a0_0, .slice A0_1 l0_1.length c0_1, .slice A0_2 l0_2.length c0_2] 25 (0, 0)) BK247.out hb); have n9_ := Aside0.mk (blk_below (g := gb264) (o := .cells #[.int .i64 t256, .slice Ao25 t257.length co25, .slice Ao26 t260.length co26] 28 (0, 0)) BK264.out hb); have n10_ := Aside0.mk (blk_below (g := gb272) (o := .cells #[.int .i64 t265, .slice Ao34 t292.length co34, .slice Ao35 t293.length co35] 28 (0, 0)) BK272.out hb); have n11_ := Aside0.mk (blk_below (g := gb281) (o := .cells #[.int .i64 t273, .slice Ao43 t274.length co43, .slice Ao44 t277.length co44] 28 (0, 0)) BK281.out hb); have n12_ := Aside0.mk (below_step (by repeat (first | (with_reducible first | exact HB.out | apply below_alloc | apply pw_below_drewN | apply below_drew1 | refine below_set ?_ GE247.out | refine below_set ?_ GE264.out | refine below_set ?_ GE272.out | refine below_set ?_ GE281.out) | exact HB.out)) hb); clear HO_265001; clear HO_265002; clear HO_273001; clear HO_273002; clear HO_282001; clear HO_282002; clear BK247; clear BK264; clear BK272; clear BK281; clear HB; have HO_265001 := n0_; have HO_265002 := n1_; have HO_273001 := n2_; have HO_273002 := n3_; have HO_282001 := n4_; have HO_282002 := n5_; have HO302 := n6_; have HO305 := n7_; have BK247 := n8_; have BK264 := n9_; have BK272 := n10_; have BK281 := n11_; have HB := n12_; clear n0_ n1_ n2_ n3_ n4_ n5_ n6_ n7_ n8_ n9_ n10_ n11_ n12_; (try clear hb); (try clear hb2); (try clear hk); (try clear hi); (try clear ho0); (try clear ho1); obtain ⟨Ao128, co128, eo128⟩ := Kd.S_slice HO302.out; subst eo128; obtain ⟨Ao129, co129, eo129⟩ := Kd.R_slice HO305.out; subst eo129) | ((with_reducible refine gate_callee (f := 16) rfl ?_); refine goesL_ (some 76) rfl rfl Try.func16 (by kernel_rfl) rfl #[.agg #[.int .i64 t299, .slice Ao128 t300.length co128, .slice Ao129 t303.length co129]] rfl (by (try simp only [List.map_toArray, List.map_cons, List.map_nil]); first | done | rfl) ?_; (with_reducible refine (impl_OppositeAutomaton.calls kj67 t299 _ _ t300 _ _ t303 t306 t307 t310 t313 _ ?side1 ?side2 ?side3 ?side4 A113.out).mono ?_); (case side1 => repeat (first | exact (Kd.S_reads' HO302.out).2.2 | (with_reducible refine Kd.C_alloc ?_ _) | (with_reducible refine Kd.C_drewN ?_ _) | (with_reducible refine Kd.C_drew ?_))); (case side2 => exact (Kd.S_reads' HO302.out).2.1); (case side3 => repeat (first | exact (Kd.R_reads' HO305.out).2.2 | (with_reducible refine Kd.C_alloc ?_ _) | (with_reducible refine Kd.C_drewN ?_ _) | (with_reducible refine Kd.C_drew ?_))); (case side4 => exact (Kd.R_reads' HO305.out).2.1); rintro e w130 ⟨v308, v311, rfl, ho0, ho1, hb⟩; refine ⟨_, rfl, ?_⟩; obtain ⟨N131, hN131⟩ := nat_of_below hb; have n0_ := Aside0.mk (Kd.S_mono (Kd.S_told (Kd.S_told (Kd.S_old ((S_ltN HO_265001.out hN131)) hb) (Kd.S_base ho0)) (Kd.R_base ho1)) (fun _ h_ => h_.1)); have n1_ := Aside0.mk (Kd.R_elder' HO_265002.out (Kd.R_base ho1) hb); have n2_ := Aside0.mk (Kd.S_mono (Kd.S_told (Kd.S_told (Kd.S_old ((S_ltN HO_273001.out hN131)) hb) (Kd.S_base ho0)) (Kd.R_base ho1)) (fun _ h_ => h_.1)); have n3_ := Aside0.mk (Kd.R_elder' HO_273002.out (Kd.R_base ho1) hb); have n4_ := Aside0.mk (Kd.S_mono (Kd.S_told (Kd.S_told (Kd.S_old ((S_ltN HO_282001.out hN131)) hb) (Kd.S_base ho0)) (Kd.R_base ho1)) (fun _ h_ => h_.1)); have n5_ := Aside0.mk (Kd.R_elder' HO_282002.out (Kd.R_base ho1) hb); have n6_ := Aside0.mk (Kd.S_mono (Kd.S_told (Kd.S_told (Kd.S_old ((S_ltN HO302.out hN131)) hb) (Kd.S_base ho0)) (Kd.R_base ho1)) (fun _ h_ => h_.1)); have n7_ := Aside0.mk (Kd.R_elder' HO305.out (Kd.R_base ho1) hb); have n8_ := Aside0.mk (Kd.S_lower (Kd.S_new' (Kd.S_new' (Kd.S_new' (Kd.S_new' (Kd.S_new' (Kd.S_new' (Kd.S_new' (Kd.S_new' (S_geN hN131 ho0) (Kd.S_lt HO_265001.out)) (Kd.R_lt HO_265002.out)) (Kd.S_lt HO_273001.out)) (Kd.R_lt HO_273002.out)) (Kd.S_lt HO_282001.out)) (Kd.R_lt HO_282002.out)) (Kd.S_lt HO302.out)) (Kd.R_lt HO305.out)) (below_size (by repeat (first | (with_reducible first | exact HB.out | apply below_alloc | apply pw_below_drewN | apply below_drew1 | refine below_set ?_ GE247.out | refine below_set ?_ GE264.out | refine below_set ?_ GE272.out | refine below_set ?_ GE281.out) | exact HB.out)))); have n9_ := Aside0.mk (Kd.R_lower (Kd.R_new' (Kd.R_new' (Kd.R_new' (Kd.R_new' ho1 (Kd.R_lt HO_265002.out)) (Kd.R_lt HO_273002.out)) (Kd.R_lt HO_282002.out)) (Kd.R_lt HO305.out)) (below_size (by repeat (first | (with_reducible first | exact HB.out | apply below_alloc | apply pw_below_drewN | apply below_drew1 | refine below_set ?_ GE247.out | refine below_set ?_ GE264.out | refine below_set ?_ GE272.out | refine below_set ?_ GE281.out) | exact HB.out)))); have n10_ := Aside0.mk (blk_below (g := gb247) (o := .cells #[.int .i64 a0_0, .slice A0_1 l0_1.length c0_1, .slice A0_2 l0_2.length c0_2] 25 (0, 0)) BK247.out hb); have n11_ := Aside0.mk (blk_below (g := gb264) (o := .cells #[.int .i64 t256, .slice Ao25 t257.length co25, .slice Ao26 t260.length co26] 28 (0, 0)) BK264.out hb); have n12_ := Aside0.mk (blk_below (g := gb272) (o := .cells #[.int .i64 t265, .slice Ao34 t292.length co34, .slice Ao35 t293.length co35] 28 (0, 0)) BK272.out hb); have n13_ := Aside0.mk (blk_below (g := gb281) (o := .cells #[.int .i64 t273, .slice Ao43 t274.length co43, .slice Ao44 t277.length co44] 28 (0, 0)) BK281.out hb); have n14_ := Aside0.mk (below_step (by repeat (first | (with_reducible first | exact HB.out | apply below_alloc | apply pw_below_drewN | apply below_drew1 | refine below_set ?_ GE247.out | refine below_set ?_ GE264.out | refine below_set ?_ GE272.out | refine below_set ?_ GE281.out) | exact HB.out)) hb); clear HO_265001; clear HO_265002; clear HO_273001; clear HO_273002; clear HO_282001; clear HO_282002; clear HO302; clear HO305; clear BK247; clear BK264; clear BK272; clear BK281; clear HB; have HO_265001 := n0_; have HO_265002 := n1_; have HO_273001 := n2_; have HO_273002 := n3_; have HO_282001 := n4_; have HO_282002 := n5_; have HO302 := n6_; have HO305 := n7_; have HO309 := n8_; have HO312 := n9_; have BK247 := n10_; have BK264 := n11_; have BK272 := n12_; have BK281 := n13_; have HB := n14_; clear n0_ n1_ n2_ n3_ n4_ n5_ n6_ n7_ n8_ n9_ n10_ n11_ n12_ n13_ n14_; (try clear hb); (try clear hb2); (try clear hk); (try clear hi); (try clear ho0); (try clear ho1)) | ((with_reducible refine gate_dst (N := 12) rfl ?_); refine box_event ?hg (N := 12) ?hd (cs := #[.int .i64 0, .slice none 0 0, .slice none 0 0]) (t := 28) ?hr ?_; (case hd => rfl); (case hg => rfl); (case hr => first | (go_simp; done) | (go_simp; rfl)); intro gb314 hg w132 hbox hb; have n0_ := Aside0.mk (Kd.S_below HO_265001.out hb); have n1_ := Aside0.mk (Kd.R_below HO_265002.out hb); have n2_ := Aside0.mk (Kd.S_below HO_273001.out hb); have n3_ := Aside0.mk (Kd.R_below HO_273002.out hb); have n4_ := Aside0.mk (Kd.S_below HO_282001.out hb); have n5_ := Aside0.mk (Kd.R_below HO_282002.out hb); have n6_ := Aside0.mk (Kd.S_below HO302.out hb); have n7_ := Aside0.mk (Kd.R_below HO305.out hb); have n8_ := Aside0.mk (Kd.S_below HO309.out hb); have n9_ := Aside0.mk (Kd.R_below HO312.out hb); have n10_ := Aside0.mk (blk_below (g := gb247) (o := .cells #[.int .i64 a0_0, .slice A0_1 l0_1.length c0_1, .slice A0_2 l0_2.length c0_2] 25 (0, 0)) BK247.out hb); have n11_ := Aside0.mk (blk_below (g := gb264) (o := .cells #[.int .i64 t256, .slice Ao25 t257.length co25, .slice Ao26 t260.length co26] 28 (0, 0)) BK264.out hb); have n12_ := Aside0.mk (blk_below (g := gb272) (o := .cells #[.int .i64 t265, .slice Ao34 t292.length co34, .slice Ao35 t293.length co35] 28 (0, 0)) BK272.out hb); have n13_ := Aside0.mk (blk_below (g := gb281) (o := .cells #[.int .i64 t273, .slice Ao43 t274.length co43, .slice Ao44 t277.length co44] 28 (0, 0)) BK281.out hb); have n14_ := Aside0.mk (below_step (by repeat (first | (with_reducible first | exact HB.out | apply below_alloc | apply pw_below_drewN | apply below_drew1 | refine below_set ?_ GE247.out | refine below_set ?_ GE264.out | refine below_set ?_ GE272.out | refine below_set ?_ GE281.out) | exact HB.out)) hb); have n15_ := Aside0.mk (hbox); have n16_ := Aside0.mk ((by rw [hg]; exact (below_size (by repeat (first | (with_reducible first | exact HB.out | apply below_alloc | apply pw_below_drewN | apply below_drew1 | refine below_set ?_ GE247.out | refine below_set ?_ GE264.out | refine below_set ?_ GE272.out | refine below_set ?_ GE281.out) | exact HB.out))) : w.heap.size ≤ gb314)); have n17_ := Aside0.mk ((by rw [hg]; exact (below_size (by repeat (first | (with_reducible first | exact HB.out | apply below_alloc | apply pw_below_drewN | apply below_drew1 | refine below_set ?_ GE247.out | refine below_set ?_ GE264.out | refine below_set ?_ GE272.out | refine below_set ?_ GE281.out) | exact HB.out))) : w.heap.size ≤ gb314)); have n18_ := Aside0.mk ((by rw [hg]; exact Nat.ne_of_lt (blk_lt (g := gb247) (o := .cells #[.int .i64 a0_0, .slice A0_1 l0_1.length c0_1, .slice A0_2 l0_2.length c0_2] 25 (0, 0)) BK247.out) : gb247 ≠ gb314)); have n19_ := Aside0.mk ((by rw [hg]; exact Nat.ne_of_gt (blk_lt (g := gb247) (o := .cells #[.int .i64 a0_0, .slice A0_1 l0_1.length c0_1, .slice A0_2 l0_2.length c0_2] 25 (0, 0)) BK247.out) : gb314 ≠ gb247)); have n20_ := Aside0.mk ((by rw [hg]; exact Nat.ne_of_lt (blk_lt (g := gb264) (o := .cells #[.int .i64 t256, .slice Ao25 t257.length co25, .slice Ao26 t260.length co26] 28 (0, 0)) BK264.out) : gb264 ≠ gb314)); have n21_ := Aside0.mk ((by rw [hg]; exact Nat.ne_of_gt (blk_lt (g := gb264) (o := .cells #[.int .i64 t256, .slice Ao25 t257.length co25, .slice Ao26 t260.length co26] 28 (0, 0)) BK264.out) : gb314 ≠ gb264)); have n22_ := Aside0.mk ((by rw [hg]; exact Nat.ne_of_lt (blk_lt (g := gb272) (o := .cells #[.int .i64 t265, .slice Ao34 t292.length co34, .slice Ao35 t293.length co35] 28 (0, 0)) BK272.out) : gb272 ≠ gb314)); have n23_ := Aside0.mk ((by rw [hg]; exact Nat.ne_of_gt (blk_lt (g := gb272) (o := .cells #[.int .i64 t265, .slice Ao34 t292.length co34, .slice Ao35 t293.length co35] 28 (0, 0)) BK272.out) : gb314 ≠ gb272)); have n24_ := Aside0.mk ((by rw [hg]; exact Nat.ne_of_lt (blk_lt (g := gb281) (o := .cells #[.int .i64 t273, .slice Ao43 t274.length co43, .slice Ao44 t277.length co44] 28 (0, 0)) BK281.out) : gb281 ≠ gb314)); have n25_ := Aside0.mk ((by rw [hg]; exact Nat.ne_of_gt (blk_lt (g := gb281) (o := .cells #[.int .i64 t273, .slice Ao43 t274.length co43, .slice Ao44 t277.length co44] 28 (0, 0)) BK281.out) : gb314 ≠ gb281)); clear HO_265001; clear HO_265002; clear HO_273001; clear HO_273002; clear HO_282001; clear HO_282002; clear HO302; clear HO305; clear HO309; clear HO312; clear BK247; clear BK264; clear BK272; clear BK281; clear HB; have HO_265001 := n0_; have HO_265002 := n1_; have HO_273001 := n2_; have HO_273002 := n3_; have HO_282001 := n4_; have HO_282002 := n5_; have HO302 := n6_; have HO305 := n7_; have HO309 := n8_; have HO312 := n9_; have BK247 := n10_; have BK264 := n11_; have BK272 := n12_; have BK281 := n13_; have HB := n14_; have BK314 := n15_; have GW314 := n16_; have GE314 := n17_; have NB247_314 := n18_; have NB314_247 := n19_; have NB264_314 := n20_; have NB314_264 := n21_; have NB272_314 := n22_; have NB314_272 := n23_; have NB281_314 := n24_; have NB314_281 := n25_; clear n0_ n1_ n2_ n3_ n4_ n5_ n6_ n7_ n8_ n9_ n10_ n11_ n12_ n13_ n14_ n15_ n16_ n17_ n18_ n19_ n20_ n21_ n22_ n23_ n24_ n25_; clear hb hbox hg; have hnb133 := NB314_247.out; have hnc133 := NB247_314.out; have hnb134 := NB314_264.out; have hnc134 := NB264_314.out; have hnb135 := NB314_272.out; have hnc135 := NB272_314.out; have hnb136 := NB314_281.out; have hnc136 := NB281_314.out; have hcz137_0 : w132.cell? ⟨gb314, 0, none⟩ = some (.int .i64 0) := (blk_cell BK314.out 0).trans rfl; have hcz137_1 : w132.cell? ⟨gb314, 1, none⟩ = some (.slice none 0 0) := (blk_cell BK314.out 1).trans rfl; have hcz137_2 : w132.cell? ⟨gb314, 2, none⟩ = some (.slice none 0 0) := (blk_cell BK314.out 2).trans rfl; have hfz137_0 := blk_frozen BK314.out 0; have hfz137_1 := blk_frozen BK314.out 1; have hfz137_2 := blk_frozen BK314.out 2; obtain ⟨Ao138, co138, eo138⟩ := Kd.S_slice HO309.out; subst eo138; obtain ⟨Ao139, co139, eo139⟩ := Kd.R_slice HO312.out; subst eo139))
           (try simp only [Act.put, List.setIfInBounds_toArray, List.set_cons_zero, List.set_cons_succ])
           go_cut [87] (fun v87 wc => ∃ (kq : Nat) (x87_113 : Bool), v87 = .bool x87_113 ∧ Aside0 (laws_FnExactOppositeAutomaton.j2 kq t295 x87_113 t273 t296 t297 = some r) ∧ Aside0 (kq ≤ kj67) ∧ Aside0 (Kd.S (Kd.slice 2 (Kd.int .i64)) 23 wc w.heap.size (fun k_ => some k_ ≠ ((.slice Ao26 t260.length co26) : Value).ownBlock ∧ some k_ ≠ ((.slice Ao34 t292.length co34) : Value).ownBlock ∧ some k_ ≠ ((.slice Ao35 t293.length co35) : Value).ownBlock ∧ some k_ ≠ ((.slice Ao43 t274.length co43) : Value).ownBlock ∧ some k_ ≠ ((.slice Ao44 t277.length co44) : Value).ownBlock ∧ some k_ ≠ ((.slice Ao138 t307.length co138) : Value).ownBlock ∧ some k_ ≠ ((.slice Ao139 t310.length co139) : Value).ownBlock ∧ k_ ≠ ge_ N21 k_ ∧ k_ ≠ lt_ N29 k_ ∧ k_ ≠ lt_ N37 k_ ∧ k_ ≠ lt_ N127 k_ ∧ k_ ≠ lt_ N131 k_) (.slice Ao25 t257.length co25) t257) ∧ Aside0 (Kd.R (Kd.int .i64) 2 wc w.heap.size (fun k_ => some k_ ≠ ((.slice Ao35 t293.length co35) : Value).ownBlock ∧ some k_ ≠ ((.slice Ao44 t277.length co44) : Value).ownBlock ∧ some k_ ≠ ((.slice Ao139 t310.length co139) : Value).ownBlock) (.slice Ao26 t260.length co26) t260) ∧ Aside0 (Kd.S (Kd.slice 2 (Kd.int .i64)) 23 wc w.heap.size (fun k_ => some k_ ≠ ((.slice Ao25 t257.length co25) : Value).ownBlock ∧ some k_ ≠ ((.slice Ao26 t260.length co26) : Value).ownBlock ∧ some k_ ≠ ((.slice Ao35 t293.length co35) : Value).ownBlock ∧ some k_ ≠ ((.slice Ao43 t274.length co43) : Value).ownBlock ∧ some k_ ≠ ((.slice Ao44 t277.length co44) : Value).ownBlock ∧ some k_ ≠ ((.slice Ao138 t307.length co138) : Value).ownBlock ∧ some k_ ≠ ((.slice Ao139 t310.length co139) : Value).ownBlock ∧ k_ ≠ ge_ N29 k_ ∧ k_ ≠ lt_ N37 k_ ∧ k_ ≠ lt_ N127 k_ ∧ k_ ≠ lt_ N131 k_) (.slice Ao34 t292.length co34) t292) ∧ Aside0 (Kd.R (Kd.int .i64) 2 wc w.heap.size (fun k_ => some k_ ≠ ((.slice Ao26 t260.length co26) : Value).ownBlock ∧ some k_ ≠ ((.slice Ao44 t277.length co44) : Value).ownBlock ∧ some k_ ≠ ((.slice Ao139 t310.length co139) : Value).ownBlock) (.slice Ao35 t293.length co35) t293) ∧ Aside0 (Kd.S (Kd.slice 2 (Kd.int .i64)) 23 wc w.heap.size (fun k_ => some k_ ≠ ((.slice Ao25 t257.length co25) : Value).ownBlock ∧ some k_ ≠ ((.slice Ao26 t260.length co26) : Value).ownBlock ∧ some k_ ≠ ((.slice Ao34 t292.length co34) : Value).ownBlock ∧ some k_ ≠ ((.slice Ao35 t293.length co35) : Value).ownBlock ∧ some k_ ≠ ((.slice Ao44 t277.length co44) : Value).ownBlock ∧ some k_ ≠ ((.slice Ao138 t307.length co138) : Value).ownBlock ∧ some k_ ≠ ((.slice Ao139 t310.length co139) : Value).ownBlock ∧ k_ ≠ ge_ N37 k_ ∧ k_ ≠ lt_ N127 k_ ∧ k_ ≠ lt_ N131 k_) (.slice Ao43 t274.length co43) t296) ∧ Aside0 (Kd.R (Kd.int .i64) 2 wc w.heap.size (fun k_ => some k_ ≠ ((.slice Ao26 t260.length co26) : Value).ownBlock ∧ some k_ ≠ ((.slice Ao35 t293.length co35) : Value).ownBlock ∧ some k_ ≠ ((.slice Ao139 t310.length co139) : Value).ownBlock) (.slice Ao44 t277.length co44) t297) ∧ Aside0 (Kd.S (Kd.slice 2 (Kd.int .i64)) 23 wc w.heap.size (fun k_ => some k_ ≠ ((.slice Ao25 t257.length co25) : Value).ownBlock ∧ some k_ ≠ ((.slice Ao26 t260.length co26) : Value).ownBlock ∧ some k_ ≠ ((.slice Ao34 t292.length co34) : Value).ownBlock ∧ some k_ ≠ ((.slice Ao35 t293.length co35) : Value).ownBlock ∧ some k_ ≠ ((.slice Ao43 t274.length co43) : Value).ownBlock ∧ some k_ ≠ ((.slice Ao44 t277.length co44) : Value).ownBlock ∧ some k_ ≠ ((.slice Ao139 t310.length co139) : Value).ownBlock ∧ k_ ≠ ge_ N131 k_) (.slice Ao138 t307.length co138) t307) ∧ Aside0 (Kd.R (Kd.int .i64) 2 wc w.heap.size (fun k_ => some k_ ≠ ((.slice Ao26 t260.length co26) : Value).ownBlock ∧ some k_ ≠ ((.slice Ao35 t293.length co35) : Value).ownBlock ∧ some k_ ≠ ((.slice Ao44 t277.length co44) : Value).ownBlock) (.slice Ao139 t310.length co139) t310) ∧ Aside0 (wc.heap[gb247]? = some (.cells #[.int .i64 a0_0, (.slice A0_1 l0_1.length c0_1), (.slice A0_2 l0_2.length c0_2)] 25 (0, 0))) ∧ Aside0 (wc.heap[gb264]? = some (.cells #[.int .i64 t256, (.slice Ao25 t257.length co25), (.slice Ao26 t260.length co26)] 28 (0, 0))) ∧ Aside0 (wc.heap[gb272]? = some (.cells #[.int .i64 t265, (.slice Ao34 t292.length co34), (.slice Ao35 t293.length co35)] 28 (0, 0))) ∧ Aside0 (wc.heap[gb281]? = some (.cells #[.int .i64 t273, (.slice Ao43 t274.length co43), (.slice Ao44 t277.length co44)] 28 (0, 0))) ∧ Aside0 (wc.heap[gb314]? = some (.cells #[.int .i64 t306, (.slice Ao138 t307.length co138), (.slice Ao139 t310.length co139)] 28 (0, 0))) ∧ Aside0 (Below w.heap.size w wc))
           case first =>
            have H := HC114.out
            clear HC114
            replace H := Option.bind_eq_some_iff.mp H
            obtain ⟨t315, A1400, H⟩ := H
            replace H : (if t315 = true then (laws_FnExactOppositeAutomaton.j2 kj67 t295 (t313 != t263) t273 t296 t297) else (laws_FnExactOppositeAutomaton.j2 kj67 t295 true t273 t296 t297)) = some r := H
            have A140 := Aside0.mk A1400
            clear A1400
            by_cases c141 : t315 = true
            ·subst c141
             have H1 : (laws_FnExactOppositeAutomaton.j2 kj67 t295 (t313 != t263) t273 t296 t297) = some r := by rw [if_pos rfl] at H; exact H
             clear H
             have H := H1
             clear H1
             have H' := Aside0.mk H
             clear H
             have hnb142 := NB314_247.out
             have hnc142 := NB247_314.out
             have hnb143 := NB314_264.out
             have hnc143 := NB264_314.out
             have hnb144 := NB314_272.out
             have hnc144 := NB272_314.out
             have hnb145 := NB314_281.out
             have hnc145 := NB281_314.out
             have hcz146_0 : w132.cell? ⟨gb314, 0, none⟩ = some (.int .i64 0) := (blk_cell BK314.out 0).trans rfl
             have hcz146_1 : w132.cell? ⟨gb314, 1, none⟩ = some (.slice none 0 0) := (blk_cell BK314.out 1).trans rfl
             have hcz146_2 : w132.cell? ⟨gb314, 2, none⟩ = some (.slice none 0 0) := (blk_cell BK314.out 2).trans rfl
             have hfz146_0 := blk_frozen BK314.out 0
             have hfz146_1 := blk_frozen BK314.out 1
             have hfz146_2 := blk_frozen BK314.out 2
             have hnb147 := NB264_247.out
             have hnc147 := NB247_264.out
             have hnb148 := NB264_272.out
             have hnc148 := NB272_264.out
             have hnb149 := NB264_281.out
             have hnc149 := NB281_264.out
             have hcz150_0 : w132.cell? ⟨gb264, 0, none⟩ = some (.int .i64 t256) := (blk_cell BK264.out 0).trans rfl
             have hcz150_1 : w132.cell? ⟨gb264, 1, none⟩ = some (.slice Ao25 t257.length co25) := (blk_cell BK264.out 1).trans rfl
             have hcz150_2 : w132.cell? ⟨gb264, 2, none⟩ = some (.slice Ao26 t260.length co26) := (blk_cell BK264.out 2).trans rfl
             have hfz150_0 := blk_frozen BK264.out 0
             have hfz150_1 := blk_frozen BK264.out 1
             have hfz150_2 := blk_frozen BK264.out 2
             go_wp2_with (first | ((with_reducible refine gate_callee (f := 14) rfl ?_); refine goesL_ (some 81) rfl rfl Try.func14 (by kernel_rfl) rfl #[.agg #[.int .i64 t306, .slice Ao138 t307.length co138, .slice Ao139 t310.length co139], .agg #[.int .i64 t256, .slice Ao25 t257.length co25, .slice Ao26 t260.length co26]] rfl (by (try simp only [List.map_toArray, List.map_cons, List.map_nil]); first | done | rfl) ?_; (with_reducible refine (laws_eqAutomaton.calls kj67 t306 _ _ t307 _ _ t310 t256 _ _ t257 _ _ t260 true _ ?side1 ?side2 ?side3 ?side4 ?side5 ?side6 ?side7 ?side8 A140.out).mono ?_); (case side1 => refine (Kd.S_reads' (e := 23) (base := w.heap.size) (ok := fun k_ => (((((((((some k_ ≠ (.slice Ao139 t310.length co139 : Value).ownBlock ∧ k_ ≠ ge_ N131 k_) ∧ some k_ ≠ (.slice Ao25 t257.length co25 : Value).ownBlock) ∧ some k_ ≠ (.slice Ao26 t260.length co26 : Value).ownBlock) ∧ some k_ ≠ (.slice Ao34 t292.length co34 : Value).ownBlock) ∧ some k_ ≠ (.slice Ao35 t293.length co35 : Value).ownBlock) ∧ some k_ ≠ (.slice Ao43 t274.length co43 : Value).ownBlock) ∧ some k_ ≠ (.slice Ao44 t277.length co44 : Value).ownBlock) ∧ some k_ ≠ (.slice Ao128 t300.length co128 : Value).ownBlock) ∧ some k_ ≠ (.slice Ao129 t303.length co129 : Value).ownBlock)) (n := t307.length) (c := co138) ?_).2.2; exact (by (with_reducible repeat (first | apply Kd.S_alloc | apply Kd.S_drewN | apply Kd.S_drew)); exact (Kd.S_mono (Kd.S_far (p := ⟨gb314, 2, none⟩) (Kd.S_far (p := ⟨gb314, 1, none⟩) (Kd.S_far (p := ⟨gb314, 0, none⟩) (Kd.S_types HO309.out BK314.out (by decide)) (fun _ hk => hk.2) (.int .i64 t306)) (fun _ hk => hk.2) (.slice Ao138 t307.length co138)) (fun _ hk => hk.2) (.slice Ao139 t310.length co139)) (fun _ h_ => h_.1)))); (case side2 => exact (Kd.S_reads' HO309.out).2.1); (case side3 => refine (Kd.R_reads' (e := 2) (base := w.heap.size) (ok := fun k_ => ((((True ∧ some k_ ≠ (.slice Ao26 t260.length co26 : Value).ownBlock) ∧ some k_ ≠ (.slice Ao35 t293.length co35 : Value).ownBlock) ∧ some k_ ≠ (.slice Ao44 t277.length co44 : Value).ownBlock) ∧ some k_ ≠ (.slice Ao129 t303.length co129 : Value).ownBlock)) (n := t310.length) (c := co139) ?_).2.2; exact (by (with_reducible repeat (first | apply Kd.R_alloc | apply Kd.R_drewN | apply Kd.R_drew)); exact (Kd.R_mono (Kd.R_far (p := ⟨gb314, 2, none⟩) (Kd.R_far (p := ⟨gb314, 1, none⟩) (Kd.R_far (p := ⟨gb314, 0, none⟩) (Kd.R_types HO312.out BK314.out (by decide)) (fun _ hk => hk.2) (.int .i64 t306)) (fun _ hk => hk.2) (.slice Ao138 t307.length co138)) (fun _ hk => hk.2) (.slice Ao139 t310.length co139)) (fun _ h_ => h_.1)))); (case side4 => exact (Kd.R_reads' HO312.out).2.1); (case side5 => refine (Kd.S_reads' (e := 23) (base := w.heap.size) (ok := fun k_ => (((((((some k_ ≠ (.slice Ao26 t260.length co26 : Value).ownBlock ∧ (some k_ ≠ (.slice Ao34 t292.length co34 : Value).ownBlock ∧ (some k_ ≠ (.slice Ao35 t293.length co35 : Value).ownBlock ∧ (some k_ ≠ (.slice Ao43 t274.length co43 : Value).ownBlock ∧ (some k_ ≠ (.slice Ao44 t277.length co44 : Value).ownBlock ∧ (k_ ≠ ge_ N21 k_ ∧ (k_ ≠ lt_ N29 k_ ∧ k_ ≠ lt_ N37 k_))))))) ∧ k_ ≠ lt_ N127 k_) ∧ some k_ ≠ (.slice Ao128 t300.length co128 : Value).ownBlock) ∧ some k_ ≠ (.slice Ao129 t303.length co129 : Value).ownBlock) ∧ k_ ≠ lt_ N131 k_) ∧ some k_ ≠ (.slice Ao138 t307.length co138 : Value).ownBlock) ∧ some k_ ≠ (.slice Ao139 t310.length co139 : Value).ownBlock)) (n := t257.length) (c := co25) ?_).2.2; exact (by (with_reducible repeat (first | apply Kd.S_alloc | apply Kd.S_drewN | apply Kd.S_drew)); exact (Kd.S_mono (Kd.S_far (p := ⟨gb314, 2, none⟩) (Kd.S_far (p := ⟨gb314, 1, none⟩) (Kd.S_far (p := ⟨gb314, 0, none⟩) (Kd.S_types HO_265001.out BK314.out (by decide)) (fun _ hk => hk.2) (.int .i64 t306)) (fun _ hk => hk.2) (.slice Ao138 t307.length co138)) (fun _ hk => hk.2) (.slice Ao139 t310.length co139)) (fun _ h_ => h_.1)))); (case side6 => exact (Kd.S_reads' HO_265001.out).2.1); (case side7 => refine (Kd.R_reads' (e := 2) (base := w.heap.size) (ok := fun k_ => (((some k_ ≠ (.slice Ao35 t293.length co35 : Value).ownBlock ∧ some k_ ≠ (.slice Ao44 t277.length co44 : Value).ownBlock) ∧ some k_ ≠ (.slice Ao129 t303.length co129 : Value).ownBlock) ∧ some k_ ≠ (.slice Ao139 t310.length co139 : Value).ownBlock)) (n := t260.length) (c := co26) ?_).2.2; exact (by (with_reducible repeat (first | apply Kd.R_alloc | apply Kd.R_drewN | apply Kd.R_drew)); exact (Kd.R_mono (Kd.R_far (p := ⟨gb314, 2, none⟩) (Kd.R_far (p := ⟨gb314, 1, none⟩) (Kd.R_far (p := ⟨gb314, 0, none⟩) (Kd.R_types HO_265002.out BK314.out (by decide)) (fun _ hk => hk.2) (.int .i64 t306)) (fun _ hk => hk.2) (.slice Ao138 t307.length co138)) (fun _ hk => hk.2) (.slice Ao139 t310.length co139)) (fun _ h_ => h_.1)))); (case side8 => exact (Kd.R_reads' HO_265002.out).2.1); rintro e w151 ⟨rfl, hb⟩; refine ⟨_, rfl, ?_⟩; have n0_ := Aside0.mk (Kd.S_below (by (with_reducible repeat (first | apply Kd.S_alloc | apply Kd.S_drewN | apply Kd.S_drew)); exact (Kd.S_mono (Kd.S_far (p := ⟨gb314, 2, none⟩) (Kd.S_far (p := ⟨gb314, 1, none⟩) (Kd.S_far (p := ⟨gb314, 0, none⟩) (Kd.S_types HO_265001.out BK314.out (by decide)) (fun _ hk => hk.2) (.int .i64 t306)) (fun _ hk => hk.2) (.slice Ao138 t307.length co138)) (fun _ hk => hk.2) (.slice Ao139 t310.length co139)) (fun _ h_ => h_.1))) hb); have n1_ := Aside0.mk (Kd.R_below (by (with_reducible repeat (first | apply Kd.R_alloc | apply Kd.R_drewN | apply Kd.R_drew)); exact (Kd.R_mono (Kd.R_far (p := ⟨gb314, 2, none⟩) (Kd.R_far (p := ⟨gb314, 1, none⟩) (Kd.R_far (p := ⟨gb314, 0, none⟩) (Kd.R_types HO_265002.out BK314.out (by decide)) (fun _ hk => hk.2) (.int .i64 t306)) (fun _ hk => hk.2) (.slice Ao138 t307.length co138)) (fun _ hk => hk.2) (.slice Ao139 t310.length co139)) (fun _ h_ => h_.1))) hb); have n2_ := Aside0.mk (Kd.S_below (by (with_reducible repeat (first | apply Kd.S_alloc | apply Kd.S_drewN | apply Kd.S_drew)); exact (Kd.S_mono (Kd.S_far (p := ⟨gb314, 2, none⟩) (Kd.S_far (p := ⟨gb314, 1, none⟩) (Kd.S_far (p := ⟨gb314, 0, none⟩) (Kd.S_types HO_273001.out BK314.out (by decide)) (fun _ hk => hk.2) (.int .i64 t306)) (fun _ hk => hk.2) (.slice Ao138 t307.length co138)) (fun _ hk => hk.2) (.slice Ao139 t310.length co139)) (fun _ h_ => h_.1))) hb); have n3_ := Aside0.mk (Kd.R_below (by (with_reducible repeat (first | apply Kd.R_alloc | apply Kd.R_drewN | apply Kd.R_drew)); exact (Kd.R_mono (Kd.R_far (p := ⟨gb314, 2, none⟩) (Kd.R_far (p := ⟨gb314, 1, none⟩) (Kd.R_far (p := ⟨gb314, 0, none⟩) (Kd.R_types HO_273002.out BK314.out (by decide)) (fun _ hk => hk.2) (.int .i64 t306)) (fun _ hk => hk.2) (.slice Ao138 t307.length co138)) (fun _ hk => hk.2) (.slice Ao139 t310.length co139)) (fun _ h_ => h_.1))) hb); have n4_ := Aside0.mk (Kd.S_below (by (with_reducible repeat (first | apply Kd.S_alloc | apply Kd.S_drewN | apply Kd.S_drew)); exact (Kd.S_mono (Kd.S_far (p := ⟨gb314, 2, none⟩) (Kd.S_far (p := ⟨gb314, 1, none⟩) (Kd.S_far (p := ⟨gb314, 0, none⟩) (Kd.S_types HO_282001.out BK314.out (by decide)) (fun _ hk => hk.2) (.int .i64 t306)) (fun _ hk => hk.2) (.slice Ao138 t307.length co138)) (fun _ hk => hk.2) (.slice Ao139 t310.length co139)) (fun _ h_ => h_.1))) hb); have n5_ := Aside0.mk (Kd.R_below (by (with_reducible repeat (first | apply Kd.R_alloc | apply Kd.R_drewN | apply Kd.R_drew)); exact (Kd.R_mono (Kd.R_far (p := ⟨gb314, 2, none⟩) (Kd.R_far (p := ⟨gb314, 1, none⟩) (Kd.R_far (p := ⟨gb314, 0, none⟩) (Kd.R_types HO_282002.out BK314.out (by decide)) (fun _ hk => hk.2) (.int .i64 t306)) (fun _ hk => hk.2) (.slice Ao138 t307.length co138)) (fun _ hk => hk.2) (.slice Ao139 t310.length co139)) (fun _ h_ => h_.1))) hb); have n6_ := Aside0.mk (Kd.S_below (by (with_reducible repeat (first | apply Kd.S_alloc | apply Kd.S_drewN | apply Kd.S_drew)); exact (Kd.S_mono (Kd.S_far (p := ⟨gb314, 2, none⟩) (Kd.S_far (p := ⟨gb314, 1, none⟩) (Kd.S_far (p := ⟨gb314, 0, none⟩) (Kd.S_types HO302.out BK314.out (by decide)) (fun _ hk => hk.2) (.int .i64 t306)) (fun _ hk => hk.2) (.slice Ao138 t307.length co138)) (fun _ hk => hk.2) (.slice Ao139 t310.length co139)) (fun _ h_ => h_.1))) hb); have n7_ := Aside0.mk (Kd.R_below (by (with_reducible repeat (first | apply Kd.R_alloc | apply Kd.R_drewN | apply Kd.R_drew)); exact (Kd.R_mono (Kd.R_far (p := ⟨gb314, 2, none⟩) (Kd.R_far (p := ⟨gb314, 1, none⟩) (Kd.R_far (p := ⟨gb314, 0, none⟩) (Kd.R_types HO305.out BK314.out (by decide)) (fun _ hk => hk.2) (.int .i64 t306)) (fun _ hk => hk.2) (.slice Ao138 t307.length co138)) (fun _ hk => hk.2) (.slice Ao139 t310.length co139)) (fun _ h_ => h_.1))) hb); have n8_ := Aside0.mk (Kd.S_below (by (with_reducible repeat (first | apply Kd.S_alloc | apply Kd.S_drewN | apply Kd.S_drew)); exact (Kd.S_mono (Kd.S_far (p := ⟨gb314, 2, none⟩) (Kd.S_far (p := ⟨gb314, 1, none⟩) (Kd.S_far (p := ⟨gb314, 0, none⟩) (Kd.S_types HO309.out BK314.out (by decide)) (fun _ hk => hk.2) (.int .i64 t306)) (fun _ hk => hk.2) (.slice Ao138 t307.length co138)) (fun _ hk => hk.2) (.slice Ao139 t310.length co139)) (fun _ h_ => h_.1))) hb); have n9_ := Aside0.mk (Kd.R_below (by (with_reducible repeat (first | apply Kd.R_alloc | apply Kd.R_drewN | apply Kd.R_drew)); exact (Kd.R_mono (Kd.R_far (p := ⟨gb314, 2, none⟩) (Kd.R_far (p := ⟨gb314, 1, none⟩) (Kd.R_far (p := ⟨gb314, 0, none⟩) (Kd.R_types HO312.out BK314.out (by decide)) (fun _ hk => hk.2) (.int .i64 t306)) (fun _ hk => hk.2) (.slice Ao138 t307.length co138)) (fun _ hk => hk.2) (.slice Ao139 t310.length co139)) (fun _ h_ => h_.1))) hb); have n10_ := Aside0.mk (blk_below (g := gb247) (o := .cells #[.int .i64 a0_0, .slice A0_1 l0_1.length c0_1, .slice A0_2 l0_2.length c0_2] 25 (0, 0)) (by (with_reducible repeat (first | refine blk_drewN ?_ _ | refine blk_drew ?_ | refine blk_alloc ?_ _)); refine blk_far ?_ NB247_314.out _; (with_reducible repeat (first | refine blk_drewN ?_ _ | refine blk_drew ?_ | refine blk_alloc ?_ _)); refine blk_far ?_ NB247_314.out _; (with_reducible repeat (first | refine blk_drewN ?_ _ | refine blk_drew ?_ | refine blk_alloc ?_ _)); refine blk_far ?_ NB247_314.out _; (with_reducible repeat (first | refine blk_drewN ?_ _ | refine blk_drew ?_ | refine blk_alloc ?_ _)); exact BK247.out) hb); have n11_ := Aside0.mk (blk_below (g := gb264) (o := .cells #[.int .i64 t256, .slice Ao25 t257.length co25, .slice Ao26 t260.length co26] 28 (0, 0)) (by (with_reducible repeat (first | refine blk_drewN ?_ _ | refine blk_drew ?_ | refine blk_alloc ?_ _)); refine blk_far ?_ NB264_314.out _; (with_reducible repeat (first | refine blk_drewN ?_ _ | refine blk_drew ?_ | refine blk_alloc ?_ _)); refine blk_far ?_ NB264_314.out _; (with_reducible repeat (first | refine blk_drewN ?_ _ | refine blk_drew ?_ | refine blk_alloc ?_ _)); refine blk_far ?_ NB264_314.out _; (with_reducible repeat (first | refine blk_drewN ?_ _ | refine blk_drew ?_ | refine blk_alloc ?_ _)); exact BK264.out) hb); have n12_ := Aside0.mk (blk_below (g := gb272) (o := .cells #[.int .i64 t265, .slice Ao34 t292.length co34, .slice Ao35 t293.length co35] 28 (0, 0)) (by (with_reducible repeat (first | refine blk_drewN ?_ _ | refine blk_drew ?_ | refine blk_alloc ?_ _)); refine blk_far ?_ NB272_314.out _; (with_reducible repeat (first | refine blk_drewN ?_ _ | refine blk_drew ?_ | refine blk_alloc ?_ _)); refine blk_far ?_ NB272_314.out _; (with_reducible repeat (first | refine blk_drewN ?_ _ | refine blk_drew ?_ | refine blk_alloc ?_ _)); refine blk_far ?_ NB272_314.out _; (with_reducible repeat (first | refine blk_drewN ?_ _ | refine blk_drew ?_ | refine blk_alloc ?_ _)); exact BK272.out) hb); have n13_ := Aside0.mk (blk_below (g := gb281) (o := .cells #[.int .i64 t273, .slice Ao43 t274.length co43, .slice Ao44 t277.length co44] 28 (0, 0)) (by (with_reducible repeat (first | refine blk_drewN ?_ _ | refine blk_drew ?_ | refine blk_alloc ?_ _)); refine blk_far ?_ NB281_314.out _; (with_reducible repeat (first | refine blk_drewN ?_ _ | refine blk_drew ?_ | refine blk_alloc ?_ _)); refine blk_far ?_ NB281_314.out _; (with_reducible repeat (first | refine blk_drewN ?_ _ | refine blk_drew ?_ | refine blk_alloc ?_ _)); refine blk_far ?_ NB281_314.out _; (with_reducible repeat (first | refine blk_drewN ?_ _ | refine blk_drew ?_ | refine blk_alloc ?_ _)); exact BK281.out) hb); have n14_ := Aside0.mk (blk_below (g := gb314) (o := .cells #[.int .i64 t306, .slice Ao138 t307.length co138, .slice Ao139 t310.length co139] 28 (0, 0)) (by (with_reducible repeat (first | refine blk_drewN ?_ _ | refine blk_drew ?_ | refine blk_alloc ?_ _)); refine blk_put (cs := #[.int .i64 t306, .slice Ao138 t307.length co138, .slice none 0 0]) ?_ 2 _ rfl; (with_reducible repeat (first | refine blk_drewN ?_ _ | refine blk_drew ?_ | refine blk_alloc ?_ _)); refine blk_put (cs := #[.int .i64 t306, .slice none 0 0, .slice none 0 0]) ?_ 1 _ rfl; (with_reducible repeat (first | refine blk_drewN ?_ _ | refine blk_drew ?_ | refine blk_alloc ?_ _)); refine blk_put (cs := #[.int .i64 0, .slice none 0 0, .slice none 0 0]) ?_ 0 _ rfl; (with_reducible repeat (first | refine blk_drewN ?_ _ | refine blk_drew ?_ | refine blk_alloc ?_ _)); exact BK314.out) hb); have n15_ := Aside0.mk (below_step (by repeat (first | (with_reducible first | exact HB.out | apply below_alloc | apply pw_below_drewN | apply below_drew1 | refine below_set ?_ GE247.out | refine below_set ?_ GE264.out | refine below_set ?_ GE272.out | refine below_set ?_ GE281.out | refine below_set ?_ GE314.out) | exact HB.out)) hb); clear HO_265001; clear HO_265002; clear HO_273001; clear HO_273002; clear HO_282001; clear HO_282002; clear HO302; clear HO305; clear HO309; clear HO312; clear BK247; clear BK264; clear BK272; clear BK281; clear BK314; clear HB; have HO_265001 := n0_; have HO_265002 := n1_; have HO_273001 := n2_; have HO_273002 := n3_; have HO_282001 := n4_; have HO_282002 := n5_; have HO302 := n6_; have HO305 := n7_; have HO309 := n8_; have HO312 := n9_; have BK247 := n10_; have BK264 := n11_; have BK272 := n12_; have BK281 := n13_; have BK314 := n14_; have HB := n15_; clear n0_ n1_ n2_ n3_ n4_ n5_ n6_ n7_ n8_ n9_ n10_ n11_ n12_ n13_ n14_ n15_; (try clear hb); (try clear hb2); (try clear hk); (try clear hi)))
             go_meet
             case rel => exact ⟨_, ((t313 != t263)), (by first | rfl | (simp; done) | (simp [*]; done)), H', ⟨by have := HJ10.out; have := HJ67.out; first | omega | exact Nat.le_refl _⟩, ⟨by (try simp only [hl273001_67]); (try simp only [hl273002_67]); (with_reducible repeat (first | apply Kd.S_alloc | apply Kd.S_drewN | apply Kd.S_drew)); exact Kd.S_mono HO_265001.out (fun _ hk => ⟨hk.1.1.1.1.1.1.1, ⟨hk.1.1.1.1.1.1.2.1, ⟨hk.1.1.1.1.1.1.2.2.1, ⟨hk.1.1.1.1.1.1.2.2.2.1, ⟨hk.1.1.1.1.1.1.2.2.2.2.1, ⟨hk.1.2, ⟨hk.2, ⟨hk.1.1.1.1.1.1.2.2.2.2.2.1, ⟨hk.1.1.1.1.1.1.2.2.2.2.2.2.1, ⟨hk.1.1.1.1.1.1.2.2.2.2.2.2.2, ⟨hk.1.1.1.1.1.2, hk.1.1.2⟩⟩⟩⟩⟩⟩⟩⟩⟩⟩⟩)⟩, ⟨by (try simp only [hl273001_67]); (try simp only [hl273002_67]); (with_reducible repeat (first | apply Kd.R_alloc | apply Kd.R_drewN | apply Kd.R_drew)); exact Kd.R_mono HO_265002.out (fun _ hk => ⟨hk.1.1.1, ⟨hk.1.1.2, hk.2⟩⟩)⟩, ⟨by (try simp only [hl273001_67]); (try simp only [hl273002_67]); (with_reducible repeat (first | apply Kd.S_alloc | apply Kd.S_drewN | apply Kd.S_drew)); exact Kd.S_mono HO_273001.out (fun _ hk => ⟨hk.1.1.1.1.1.1.1, ⟨hk.1.1.1.1.1.1.2.1, ⟨hk.1.1.1.1.1.1.2.2.1, ⟨hk.1.1.1.1.1.1.2.2.2.1, ⟨hk.1.1.1.1.1.1.2.2.2.2.1, ⟨hk.1.2, ⟨hk.2, ⟨hk.1.1.1.1.1.1.2.2.2.2.2.1, ⟨hk.1.1.1.1.1.1.2.2.2.2.2.2, ⟨hk.1.1.1.1.1.2, hk.1.1.2⟩⟩⟩⟩⟩⟩⟩⟩⟩⟩)⟩, ⟨by (try simp only [hl273001_67]); (try simp only [hl273002_67]); (with_reducible repeat (first | apply Kd.R_alloc | apply Kd.R_drewN | apply Kd.R_drew)); exact Kd.R_mono HO_273002.out (fun _ hk => ⟨hk.1.1.1, ⟨hk.1.1.2, hk.2⟩⟩)⟩, ⟨by (try simp only [hl273001_67]); (try simp only [hl273002_67]); (with_reducible repeat (first | apply Kd.S_alloc | apply Kd.S_drewN | apply Kd.S_drew)); exact Kd.S_mono HO_282001.out (fun _ hk => ⟨hk.1.1.1.1.1.1.1, ⟨hk.1.1.1.1.1.1.2.1, ⟨hk.1.1.1.1.1.1.2.2.1, ⟨hk.1.1.1.1.1.1.2.2.2.1, ⟨hk.1.1.1.1.1.1.2.2.2.2.1, ⟨hk.1.2, ⟨hk.2, ⟨hk.1.1.1.1.1.1.2.2.2.2.2, ⟨hk.1.1.1.1.1.2, hk.1.1.2⟩⟩⟩⟩⟩⟩⟩⟩⟩)⟩, ⟨by (try simp only [hl273001_67]); (try simp only [hl273002_67]); (with_reducible repeat (first | apply Kd.R_alloc | apply Kd.R_drewN | apply Kd.R_drew)); exact Kd.R_mono HO_282002.out (fun _ hk => ⟨hk.1.1.1, ⟨hk.1.1.2, hk.2⟩⟩)⟩, ⟨by (try simp only [hl273001_67]); (try simp only [hl273002_67]); (with_reducible repeat (first | apply Kd.S_alloc | apply Kd.S_drewN | apply Kd.S_drew)); exact Kd.S_mono HO309.out (fun _ hk => ⟨hk.1.1.1.1.1.1.1.2, ⟨hk.1.1.1.1.1.1.2, ⟨hk.1.1.1.1.1.2, ⟨hk.1.1.1.1.2, ⟨hk.1.1.1.2, ⟨hk.1.1.2, ⟨hk.1.1.1.1.1.1.1.1.1, hk.1.1.1.1.1.1.1.1.2⟩⟩⟩⟩⟩⟩⟩)⟩, ⟨by (try simp only [hl273001_67]); (try simp only [hl273002_67]); (with_reducible repeat (first | apply Kd.R_alloc | apply Kd.R_drewN | apply Kd.R_drew)); exact Kd.R_mono HO312.out (fun _ hk => ⟨hk.1.1.1.2, ⟨hk.1.1.2, hk.1.2⟩⟩)⟩, ⟨by (try simp only [hl273001_67]); (try simp only [hl273002_67]); (with_reducible repeat (first | refine blk_drewN ?_ _ | refine blk_drew ?_ | refine blk_alloc ?_ _)); exact BK247.out⟩, ⟨by (try simp only [hl273001_67]); (try simp only [hl273002_67]); (with_reducible repeat (first | refine blk_drewN ?_ _ | refine blk_drew ?_ | refine blk_alloc ?_ _)); exact BK264.out⟩, ⟨by (try simp only [hl273001_67]); (try simp only [hl273002_67]); (with_reducible repeat (first | refine blk_drewN ?_ _ | refine blk_drew ?_ | refine blk_alloc ?_ _)); exact BK272.out⟩, ⟨by (try simp only [hl273001_67]); (try simp only [hl273002_67]); (with_reducible repeat (first | refine blk_drewN ?_ _ | refine blk_drew ?_ | refine blk_alloc ?_ _)); exact BK281.out⟩, ⟨by (try simp only [hl273001_67]); (try simp only [hl273002_67]); (with_reducible repeat (first | refine blk_drewN ?_ _ | refine blk_drew ?_ | refine blk_alloc ?_ _)); exact BK314.out⟩, ⟨by repeat (first | (with_reducible first | exact HB.out | apply below_alloc | apply pw_below_drewN | apply below_drew1 | refine below_set ?_ GE247.out | refine below_set ?_ GE264.out | refine below_set ?_ GE272.out | refine below_set ?_ GE281.out | refine below_set ?_ GE314.out) | exact HB.out)⟩⟩
            ·replace c141 := Bool.eq_false_iff.mpr c141
             subst c141
             have H1 : (laws_FnExactOppositeAutomaton.j2 kj67 t295 true t273 t296 t297) = some r := by rw [if_neg (show ¬ (false = true) by decide)] at H; exact H
             clear H
             have H := H1
             clear H1
             have H' := Aside0.mk H
             clear H
             have hnb152 := NB314_247.out
             have hnc152 := NB247_314.out
             have hnb153 := NB314_264.out
             have hnc153 := NB264_314.out
             have hnb154 := NB314_272.out
             have hnc154 := NB272_314.out
             have hnb155 := NB314_281.out
             have hnc155 := NB281_314.out
             have hcz156_0 : w132.cell? ⟨gb314, 0, none⟩ = some (.int .i64 0) := (blk_cell BK314.out 0).trans rfl
             have hcz156_1 : w132.cell? ⟨gb314, 1, none⟩ = some (.slice none 0 0) := (blk_cell BK314.out 1).trans rfl
             have hcz156_2 : w132.cell? ⟨gb314, 2, none⟩ = some (.slice none 0 0) := (blk_cell BK314.out 2).trans rfl
             have hfz156_0 := blk_frozen BK314.out 0
             have hfz156_1 := blk_frozen BK314.out 1
             have hfz156_2 := blk_frozen BK314.out 2
             have hnb157 := NB264_247.out
             have hnc157 := NB247_264.out
             have hnb158 := NB264_272.out
             have hnc158 := NB272_264.out
             have hnb159 := NB264_281.out
             have hnc159 := NB281_264.out
             have hcz160_0 : w132.cell? ⟨gb264, 0, none⟩ = some (.int .i64 t256) := (blk_cell BK264.out 0).trans rfl
             have hcz160_1 : w132.cell? ⟨gb264, 1, none⟩ = some (.slice Ao25 t257.length co25) := (blk_cell BK264.out 1).trans rfl
             have hcz160_2 : w132.cell? ⟨gb264, 2, none⟩ = some (.slice Ao26 t260.length co26) := (blk_cell BK264.out 2).trans rfl
             have hfz160_0 := blk_frozen BK264.out 0
             have hfz160_1 := blk_frozen BK264.out 1
             have hfz160_2 := blk_frozen BK264.out 2
             go_wp2_with (first | ((with_reducible refine gate_callee (f := 14) rfl ?_); refine goesL_ (some 81) rfl rfl Try.func14 (by kernel_rfl) rfl #[.agg #[.int .i64 t306, .slice Ao138 t307.length co138, .slice Ao139 t310.length co139], .agg #[.int .i64 t256, .slice Ao25 t257.length co25, .slice Ao26 t260.length co26]] rfl (by (try simp only [List.map_toArray, List.map_cons, List.map_nil]); first | done | rfl) ?_; (with_reducible refine (laws_eqAutomaton.calls kj67 t306 _ _ t307 _ _ t310 t256 _ _ t257 _ _ t260 false _ ?side1 ?side2 ?side3 ?side4 ?side5 ?side6 ?side7 ?side8 A140.out).mono ?_); (case side1 => refine (Kd.S_reads' (e := 23) (base := w.heap.size) (ok := fun k_ => (((((((((some k_ ≠ (.slice Ao139 t310.length co139 : Value).ownBlock ∧ k_ ≠ ge_ N131 k_) ∧ some k_ ≠ (.slice Ao25 t257.length co25 : Value).ownBlock) ∧ some k_ ≠ (.slice Ao26 t260.length co26 : Value).ownBlock) ∧ some k_ ≠ (.slice Ao34 t292.length co34 : Value).ownBlock) ∧ some k_ ≠ (.slice Ao35 t293.length co35 : Value).ownBlock) ∧ some k_ ≠ (.slice Ao43 t274.length co43 : Value).ownBlock) ∧ some k_ ≠ (.slice Ao44 t277.length co44 : Value).ownBlock) ∧ some k_ ≠ (.slice Ao128 t300.length co128 : Value).ownBlock) ∧ some k_ ≠ (.slice Ao129 t303.length co129 : Value).ownBlock)) (n := t307.length) (c := co138) ?_).2.2; exact (by (with_reducible repeat (first | apply Kd.S_alloc | apply Kd.S_drewN | apply Kd.S_drew)); exact (Kd.S_mono (Kd.S_far (p := ⟨gb314, 2, none⟩) (Kd.S_far (p := ⟨gb314, 1, none⟩) (Kd.S_far (p := ⟨gb314, 0, none⟩) (Kd.S_types HO309.out BK314.out (by decide)) (fun _ hk => hk.2) (.int .i64 t306)) (fun _ hk => hk.2) (.slice Ao138 t307.length co138)) (fun _ hk => hk.2) (.slice Ao139 t310.length co139)) (fun _ h_ => h_.1)))); (case side2 => exact (Kd.S_reads' HO309.out).2.1); (case side3 => refine (Kd.R_reads' (e := 2) (base := w.heap.size) (ok := fun k_ => ((((True ∧ some k_ ≠ (.slice Ao26 t260.length co26 : Value).ownBlock) ∧ some k_ ≠ (.slice Ao35 t293.length co35 : Value).ownBlock) ∧ some k_ ≠ (.slice Ao44 t277.length co44 : Value).ownBlock) ∧ some k_ ≠ (.slice Ao129 t303.length co129 : Value).ownBlock)) (n := t310.length) (c := co139) ?_).2.2; exact (by (with_reducible repeat (first | apply Kd.R_alloc | apply Kd.R_drewN | apply Kd.R_drew)); exact (Kd.R_mono (Kd.R_far (p := ⟨gb314, 2, none⟩) (Kd.R_far (p := ⟨gb314, 1, none⟩) (Kd.R_far (p := ⟨gb314, 0, none⟩) (Kd.R_types HO312.out BK314.out (by decide)) (fun _ hk => hk.2) (.int .i64 t306)) (fun _ hk => hk.2) (.slice Ao138 t307.length co138)) (fun _ hk => hk.2) (.slice Ao139 t310.length co139)) (fun _ h_ => h_.1)))); (case side4 => exact (Kd.R_reads' HO312.out).2.1); (case side5 => refine (Kd.S_reads' (e := 23) (base := w.heap.size) (ok := fun k_ => (((((((some k_ ≠ (.slice Ao26 t260.length co26 : Value).ownBlock ∧ (some k_ ≠ (.slice Ao34 t292.length co34 : Value).ownBlock ∧ (some k_ ≠ (.slice Ao35 t293.length co35 : Value).ownBlock ∧ (some k_ ≠ (.slice Ao43 t274.length co43 : Value).ownBlock ∧ (some k_ ≠ (.slice Ao44 t277.length co44 : Value).ownBlock ∧ (k_ ≠ ge_ N21 k_ ∧ (k_ ≠ lt_ N29 k_ ∧ k_ ≠ lt_ N37 k_))))))) ∧ k_ ≠ lt_ N127 k_) ∧ some k_ ≠ (.slice Ao128 t300.length co128 : Value).ownBlock) ∧ some k_ ≠ (.slice Ao129 t303.length co129 : Value).ownBlock) ∧ k_ ≠ lt_ N131 k_) ∧ some k_ ≠ (.slice Ao138 t307.length co138 : Value).ownBlock) ∧ some k_ ≠ (.slice Ao139 t310.length co139 : Value).ownBlock)) (n := t257.length) (c := co25) ?_).2.2; exact (by (with_reducible repeat (first | apply Kd.S_alloc | apply Kd.S_drewN | apply Kd.S_drew)); exact (Kd.S_mono (Kd.S_far (p := ⟨gb314, 2, none⟩) (Kd.S_far (p := ⟨gb314, 1, none⟩) (Kd.S_far (p := ⟨gb314, 0, none⟩) (Kd.S_types HO_265001.out BK314.out (by decide)) (fun _ hk => hk.2) (.int .i64 t306)) (fun _ hk => hk.2) (.slice Ao138 t307.length co138)) (fun _ hk => hk.2) (.slice Ao139 t310.length co139)) (fun _ h_ => h_.1)))); (case side6 => exact (Kd.S_reads' HO_265001.out).2.1); (case side7 => refine (Kd.R_reads' (e := 2) (base := w.heap.size) (ok := fun k_ => (((some k_ ≠ (.slice Ao35 t293.length co35 : Value).ownBlock ∧ some k_ ≠ (.slice Ao44 t277.length co44 : Value).ownBlock) ∧ some k_ ≠ (.slice Ao129 t303.length co129 : Value).ownBlock) ∧ some k_ ≠ (.slice Ao139 t310.length co139 : Value).ownBlock)) (n := t260.length) (c := co26) ?_).2.2; exact (by (with_reducible repeat (first | apply Kd.R_alloc | apply Kd.R_drewN | apply Kd.R_drew)); exact (Kd.R_mono (Kd.R_far (p := ⟨gb314, 2, none⟩) (Kd.R_far (p := ⟨gb314, 1, none⟩) (Kd.R_far (p := ⟨gb314, 0, none⟩) (Kd.R_types HO_265002.out BK314.out (by decide)) (fun _ hk => hk.2) (.int .i64 t306)) (fun _ hk => hk.2) (.slice Ao138 t307.length co138)) (fun _ hk => hk.2) (.slice Ao139 t310.length co139)) (fun _ h_ => h_.1)))); (case side8 => exact (Kd.R_reads' HO_265002.out).2.1); rintro e w161 ⟨rfl, hb⟩; refine ⟨_, rfl, ?_⟩; have n0_ := Aside0.mk (Kd.S_below (by (with_reducible repeat (first | apply Kd.S_alloc | apply Kd.S_drewN | apply Kd.S_drew)); exact (Kd.S_mono (Kd.S_far (p := ⟨gb314, 2, none⟩) (Kd.S_far (p := ⟨gb314, 1, none⟩) (Kd.S_far (p := ⟨gb314, 0, none⟩) (Kd.S_types HO_265001.out BK314.out (by decide)) (fun _ hk => hk.2) (.int .i64 t306)) (fun _ hk => hk.2) (.slice Ao138 t307.length co138)) (fun _ hk => hk.2) (.slice Ao139 t310.length co139)) (fun _ h_ => h_.1))) hb); have n1_ := Aside0.mk (Kd.R_below (by (with_reducible repeat (first | apply Kd.R_alloc | apply Kd.R_drewN | apply Kd.R_drew)); exact (Kd.R_mono (Kd.R_far (p := ⟨gb314, 2, none⟩) (Kd.R_far (p := ⟨gb314, 1, none⟩) (Kd.R_far (p := ⟨gb314, 0, none⟩) (Kd.R_types HO_265002.out BK314.out (by decide)) (fun _ hk => hk.2) (.int .i64 t306)) (fun _ hk => hk.2) (.slice Ao138 t307.length co138)) (fun _ hk => hk.2) (.slice Ao139 t310.length co139)) (fun _ h_ => h_.1))) hb); have n2_ := Aside0.mk (Kd.S_below (by (with_reducible repeat (first | apply Kd.S_alloc | apply Kd.S_drewN | apply Kd.S_drew)); exact (Kd.S_mono (Kd.S_far (p := ⟨gb314, 2, none⟩) (Kd.S_far (p := ⟨gb314, 1, none⟩) (Kd.S_far (p := ⟨gb314, 0, none⟩) (Kd.S_types HO_273001.out BK314.out (by decide)) (fun _ hk => hk.2) (.int .i64 t306)) (fun _ hk => hk.2) (.slice Ao138 t307.length co138)) (fun _ hk => hk.2) (.slice Ao139 t310.length co139)) (fun _ h_ => h_.1))) hb); have n3_ := Aside0.mk (Kd.R_below (by (with_reducible repeat (first | apply Kd.R_alloc | apply Kd.R_drewN | apply Kd.R_drew)); exact (Kd.R_mono (Kd.R_far (p := ⟨gb314, 2, none⟩) (Kd.R_far (p := ⟨gb314, 1, none⟩) (Kd.R_far (p := ⟨gb314, 0, none⟩) (Kd.R_types HO_273002.out BK314.out (by decide)) (fun _ hk => hk.2) (.int .i64 t306)) (fun _ hk => hk.2) (.slice Ao138 t307.length co138)) (fun _ hk => hk.2) (.slice Ao139 t310.length co139)) (fun _ h_ => h_.1))) hb); have n4_ := Aside0.mk (Kd.S_below (by (with_reducible repeat (first | apply Kd.S_alloc | apply Kd.S_drewN | apply Kd.S_drew)); exact (Kd.S_mono (Kd.S_far (p := ⟨gb314, 2, none⟩) (Kd.S_far (p := ⟨gb314, 1, none⟩) (Kd.S_far (p := ⟨gb314, 0, none⟩) (Kd.S_types HO_282001.out BK314.out (by decide)) (fun _ hk => hk.2) (.int .i64 t306)) (fun _ hk => hk.2) (.slice Ao138 t307.length co138)) (fun _ hk => hk.2) (.slice Ao139 t310.length co139)) (fun _ h_ => h_.1))) hb); have n5_ := Aside0.mk (Kd.R_below (by (with_reducible repeat (first | apply Kd.R_alloc | apply Kd.R_drewN | apply Kd.R_drew)); exact (Kd.R_mono (Kd.R_far (p := ⟨gb314, 2, none⟩) (Kd.R_far (p := ⟨gb314, 1, none⟩) (Kd.R_far (p := ⟨gb314, 0, none⟩) (Kd.R_types HO_282002.out BK314.out (by decide)) (fun _ hk => hk.2) (.int .i64 t306)) (fun _ hk => hk.2) (.slice Ao138 t307.length co138)) (fun _ hk => hk.2) (.slice Ao139 t310.length co139)) (fun _ h_ => h_.1))) hb); have n6_ := Aside0.mk (Kd.S_below (by (with_reducible repeat (first | apply Kd.S_alloc | apply Kd.S_drewN | apply Kd.S_drew)); exact (Kd.S_mono (Kd.S_far (p := ⟨gb314, 2, none⟩) (Kd.S_far (p := ⟨gb314, 1, none⟩) (Kd.S_far (p := ⟨gb314, 0, none⟩) (Kd.S_types HO302.out BK314.out (by decide)) (fun _ hk => hk.2) (.int .i64 t306)) (fun _ hk => hk.2) (.slice Ao138 t307.length co138)) (fun _ hk => hk.2) (.slice Ao139 t310.length co139)) (fun _ h_ => h_.1))) hb); have n7_ := Aside0.mk (Kd.R_below (by (with_reducible repeat (first | apply Kd.R_alloc | apply Kd.R_drewN | apply Kd.R_drew)); exact (Kd.R_mono (Kd.R_far (p := ⟨gb314, 2, none⟩) (Kd.R_far (p := ⟨gb314, 1, none⟩) (Kd.R_far (p := ⟨gb314, 0, none⟩) (Kd.R_types HO305.out BK314.out (by decide)) (fun _ hk => hk.2) (.int .i64 t306)) (fun _ hk => hk.2) (.slice Ao138 t307.length co138)) (fun _ hk => hk.2) (.slice Ao139 t310.length co139)) (fun _ h_ => h_.1))) hb); have n8_ := Aside0.mk (Kd.S_below (by (with_reducible repeat (first | apply Kd.S_alloc | apply Kd.S_drewN | apply Kd.S_drew)); exact (Kd.S_mono (Kd.S_far (p := ⟨gb314, 2, none⟩) (Kd.S_far (p := ⟨gb314, 1, none⟩) (Kd.S_far (p := ⟨gb314, 0, none⟩) (Kd.S_types HO309.out BK314.out (by decide)) (fun _ hk => hk.2) (.int .i64 t306)) (fun _ hk => hk.2) (.slice Ao138 t307.length co138)) (fun _ hk => hk.2) (.slice Ao139 t310.length co139)) (fun _ h_ => h_.1))) hb); have n9_ := Aside0.mk (Kd.R_below (by (with_reducible repeat (first | apply Kd.R_alloc | apply Kd.R_drewN | apply Kd.R_drew)); exact (Kd.R_mono (Kd.R_far (p := ⟨gb314, 2, none⟩) (Kd.R_far (p := ⟨gb314, 1, none⟩) (Kd.R_far (p := ⟨gb314, 0, none⟩) (Kd.R_types HO312.out BK314.out (by decide)) (fun _ hk => hk.2) (.int .i64 t306)) (fun _ hk => hk.2) (.slice Ao138 t307.length co138)) (fun _ hk => hk.2) (.slice Ao139 t310.length co139)) (fun _ h_ => h_.1))) hb); have n10_ := Aside0.mk (blk_below (g := gb247) (o := .cells #[.int .i64 a0_0, .slice A0_1 l0_1.length c0_1, .slice A0_2 l0_2.length c0_2] 25 (0, 0)) (by (with_reducible repeat (first | refine blk_drewN ?_ _ | refine blk_drew ?_ | refine blk_alloc ?_ _)); refine blk_far ?_ NB247_314.out _; (with_reducible repeat (first | refine blk_drewN ?_ _ | refine blk_drew ?_ | refine blk_alloc ?_ _)); refine blk_far ?_ NB247_314.out _; (with_reducible repeat (first | refine blk_drewN ?_ _ | refine blk_drew ?_ | refine blk_alloc ?_ _)); refine blk_far ?_ NB247_314.out _; (with_reducible repeat (first | refine blk_drewN ?_ _ | refine blk_drew ?_ | refine blk_alloc ?_ _)); exact BK247.out) hb); have n11_ := Aside0.mk (blk_below (g := gb264) (o := .cells #[.int .i64 t256, .slice Ao25 t257.length co25, .slice Ao26 t260.length co26] 28 (0, 0)) (by (with_reducible repeat (first | refine blk_drewN ?_ _ | refine blk_drew ?_ | refine blk_alloc ?_ _)); refine blk_far ?_ NB264_314.out _; (with_reducible repeat (first | refine blk_drewN ?_ _ | refine blk_drew ?_ | refine blk_alloc ?_ _)); refine blk_far ?_ NB264_314.out _; (with_reducible repeat (first | refine blk_drewN ?_ _ | refine blk_drew ?_ | refine blk_alloc ?_ _)); refine blk_far ?_ NB264_314.out _; (with_reducible repeat (first | refine blk_drewN ?_ _ | refine blk_drew ?_ | refine blk_alloc ?_ _)); exact BK264.out) hb); have n12_ := Aside0.mk (blk_below (g := gb272) (o := .cells #[.int .i64 t265, .slice Ao34 t292.length co34, .slice Ao35 t293.length co35] 28 (0, 0)) (by (with_reducible repeat (first | refine blk_drewN ?_ _ | refine blk_drew ?_ | refine blk_alloc ?_ _)); refine blk_far ?_ NB272_314.out _; (with_reducible repeat (first | refine blk_drewN ?_ _ | refine blk_drew ?_ | refine blk_alloc ?_ _)); refine blk_far ?_ NB272_314.out _; (with_reducible repeat (first | refine blk_drewN ?_ _ | refine blk_drew ?_ | refine blk_alloc ?_ _)); refine blk_far ?_ NB272_314.out _; (with_reducible repeat (first | refine blk_drewN ?_ _ | refine blk_drew ?_ | refine blk_alloc ?_ _)); exact BK272.out) hb); have n13_ := Aside0.mk (blk_below (g := gb281) (o := .cells #[.int .i64 t273, .slice Ao43 t274.length co43, .slice Ao44 t277.length co44] 28 (0, 0)) (by (with_reducible repeat (first | refine blk_drewN ?_ _ | refine blk_drew ?_ | refine blk_alloc ?_ _)); refine blk_far ?_ NB281_314.out _; (with_reducible repeat (first | refine blk_drewN ?_ _ | refine blk_drew ?_ | refine blk_alloc ?_ _)); refine blk_far ?_ NB281_314.out _; (with_reducible repeat (first | refine blk_drewN ?_ _ | refine blk_drew ?_ | refine blk_alloc ?_ _)); refine blk_far ?_ NB281_314.out _; (with_reducible repeat (first | refine blk_drewN ?_ _ | refine blk_drew ?_ | refine blk_alloc ?_ _)); exact BK281.out) hb); have n14_ := Aside0.mk (blk_below (g := gb314) (o := .cells #[.int .i64 t306, .slice Ao138 t307.length co138, .slice Ao139 t310.length co139] 28 (0, 0)) (by (with_reducible repeat (first | refine blk_drewN ?_ _ | refine blk_drew ?_ | refine blk_alloc ?_ _)); refine blk_put (cs := #[.int .i64 t306, .slice Ao138 t307.length co138, .slice none 0 0]) ?_ 2 _ rfl; (with_reducible repeat (first | refine blk_drewN ?_ _ | refine blk_drew ?_ | refine blk_alloc ?_ _)); refine blk_put (cs := #[.int .i64 t306, .slice none 0 0, .slice none 0 0]) ?_ 1 _ rfl; (with_reducible repeat (first | refine blk_drewN ?_ _ | refine blk_drew ?_ | refine blk_alloc ?_ _)); refine blk_put (cs := #[.int .i64 0, .slice none 0 0, .slice none 0 0]) ?_ 0 _ rfl; (with_reducible repeat (first | refine blk_drewN ?_ _ | refine blk_drew ?_ | refine blk_alloc ?_ _)); exact BK314.out) hb); have n15_ := Aside0.mk (below_step (by repeat (first | (with_reducible first | exact HB.out | apply below_alloc | apply pw_below_drewN | apply below_drew1 | refine below_set ?_ GE247.out | refine below_set ?_ GE264.out | refine below_set ?_ GE272.out | refine below_set ?_ GE281.out | refine below_set ?_ GE314.out) | exact HB.out)) hb); clear HO_265001; clear HO_265002; clear HO_273001; clear HO_273002; clear HO_282001; clear HO_282002; clear HO302; clear HO305; clear HO309; clear HO312; clear BK247; clear BK264; clear BK272; clear BK281; clear BK314; clear HB; have HO_265001 := n0_; have HO_265002 := n1_; have HO_273001 := n2_; have HO_273002 := n3_; have HO_282001 := n4_; have HO_282002 := n5_; have HO302 := n6_; have HO305 := n7_; have HO309 := n8_; have HO312 := n9_; have BK247 := n10_; have BK264 := n11_; have BK272 := n12_; have BK281 := n13_; have BK314 := n14_; have HB := n15_; clear n0_ n1_ n2_ n3_ n4_ n5_ n6_ n7_ n8_ n9_ n10_ n11_ n12_ n13_ n14_ n15_; (try clear hb); (try clear hb2); (try clear hk); (try clear hi)))
             go_meet
             case rel => exact ⟨_, (true), (by first | rfl | (simp; done) | (simp [*]; done)), H', ⟨by have := HJ10.out; have := HJ67.out; first | omega | exact Nat.le_refl _⟩, ⟨by (try simp only [hl273001_67]); (try simp only [hl273002_67]); (with_reducible repeat (first | apply Kd.S_alloc | apply Kd.S_drewN | apply Kd.S_drew)); exact Kd.S_mono HO_265001.out (fun _ hk => ⟨hk.1.1.1.1.1.1.1, ⟨hk.1.1.1.1.1.1.2.1, ⟨hk.1.1.1.1.1.1.2.2.1, ⟨hk.1.1.1.1.1.1.2.2.2.1, ⟨hk.1.1.1.1.1.1.2.2.2.2.1, ⟨hk.1.2, ⟨hk.2, ⟨hk.1.1.1.1.1.1.2.2.2.2.2.1, ⟨hk.1.1.1.1.1.1.2.2.2.2.2.2.1, ⟨hk.1.1.1.1.1.1.2.2.2.2.2.2.2, ⟨hk.1.1.1.1.1.2, hk.1.1.2⟩⟩⟩⟩⟩⟩⟩⟩⟩⟩⟩)⟩, ⟨by (try simp only [hl273001_67]); (try simp only [hl273002_67]); (with_reducible repeat (first | apply Kd.R_alloc | apply Kd.R_drewN | apply Kd.R_drew)); exact Kd.R_mono HO_265002.out (fun _ hk => ⟨hk.1.1.1, ⟨hk.1.1.2, hk.2⟩⟩)⟩, ⟨by (try simp only [hl273001_67]); (try simp only [hl273002_67]); (with_reducible repeat (first | apply Kd.S_alloc | apply Kd.S_drewN | apply Kd.S_drew)); exact Kd.S_mono HO_273001.out (fun _ hk => ⟨hk.1.1.1.1.1.1.1, ⟨hk.1.1.1.1.1.1.2.1, ⟨hk.1.1.1.1.1.1.2.2.1, ⟨hk.1.1.1.1.1.1.2.2.2.1, ⟨hk.1.1.1.1.1.1.2.2.2.2.1, ⟨hk.1.2, ⟨hk.2, ⟨hk.1.1.1.1.1.1.2.2.2.2.2.1, ⟨hk.1.1.1.1.1.1.2.2.2.2.2.2, ⟨hk.1.1.1.1.1.2, hk.1.1.2⟩⟩⟩⟩⟩⟩⟩⟩⟩⟩)⟩, ⟨by (try simp only [hl273001_67]); (try simp only [hl273002_67]); (with_reducible repeat (first | apply Kd.R_alloc | apply Kd.R_drewN | apply Kd.R_drew)); exact Kd.R_mono HO_273002.out (fun _ hk => ⟨hk.1.1.1, ⟨hk.1.1.2, hk.2⟩⟩)⟩, ⟨by (try simp only [hl273001_67]); (try simp only [hl273002_67]); (with_reducible repeat (first | apply Kd.S_alloc | apply Kd.S_drewN | apply Kd.S_drew)); exact Kd.S_mono HO_282001.out (fun _ hk => ⟨hk.1.1.1.1.1.1.1, ⟨hk.1.1.1.1.1.1.2.1, ⟨hk.1.1.1.1.1.1.2.2.1, ⟨hk.1.1.1.1.1.1.2.2.2.1, ⟨hk.1.1.1.1.1.1.2.2.2.2.1, ⟨hk.1.2, ⟨hk.2, ⟨hk.1.1.1.1.1.1.2.2.2.2.2, ⟨hk.1.1.1.1.1.2, hk.1.1.2⟩⟩⟩⟩⟩⟩⟩⟩⟩)⟩, ⟨by (try simp only [hl273001_67]); (try simp only [hl273002_67]); (with_reducible repeat (first | apply Kd.R_alloc | apply Kd.R_drewN | apply Kd.R_drew)); exact Kd.R_mono HO_282002.out (fun _ hk => ⟨hk.1.1.1, ⟨hk.1.1.2, hk.2⟩⟩)⟩, ⟨by (try simp only [hl273001_67]); (try simp only [hl273002_67]); (with_reducible repeat (first | apply Kd.S_alloc | apply Kd.S_drewN | apply Kd.S_drew)); exact Kd.S_mono HO309.out (fun _ hk => ⟨hk.1.1.1.1.1.1.1.2, ⟨hk.1.1.1.1.1.1.2, ⟨hk.1.1.1.1.1.2, ⟨hk.1.1.1.1.2, ⟨hk.1.1.1.2, ⟨hk.1.1.2, ⟨hk.1.1.1.1.1.1.1.1.1, hk.1.1.1.1.1.1.1.1.2⟩⟩⟩⟩⟩⟩⟩)⟩, ⟨by (try simp only [hl273001_67]); (try simp only [hl273002_67]); (with_reducible repeat (first | apply Kd.R_alloc | apply Kd.R_drewN | apply Kd.R_drew)); exact Kd.R_mono HO312.out (fun _ hk => ⟨hk.1.1.1.2, ⟨hk.1.1.2, hk.1.2⟩⟩)⟩, ⟨by (try simp only [hl273001_67]); (try simp only [hl273002_67]); (with_reducible repeat (first | refine blk_drewN ?_ _ | refine blk_drew ?_ | refine blk_alloc ?_ _)); exact BK247.out⟩, ⟨by (try simp only [hl273001_67]); (try simp only [hl273002_67]); (with_reducible repeat (first | refine blk_drewN ?_ _ | refine blk_drew ?_ | refine blk_alloc ?_ _)); exact BK264.out⟩, ⟨by (try simp only [hl273001_67]); (try simp only [hl273002_67]); (with_reducible repeat (first | refine blk_drewN ?_ _ | refine blk_drew ?_ | refine blk_alloc ?_ _)); exact BK272.out⟩, ⟨by (try simp only [hl273001_67]); (try simp only [hl273002_67]); (with_reducible repeat (first | refine blk_drewN ?_ _ | refine blk_drew ?_ | refine blk_alloc ?_ _)); exact BK281.out⟩, ⟨by (try simp only [hl273001_67]); (try simp only [hl273002_67]); (with_reducible repeat (first | refine blk_drewN ?_ _ | refine blk_drew ?_ | refine blk_alloc ?_ _)); exact BK314.out⟩, ⟨by repeat (first | (with_reducible first | exact HB.out | apply below_alloc | apply pw_below_drewN | apply below_drew1 | refine below_set ?_ GE247.out | refine below_set ?_ GE264.out | refine below_set ?_ GE272.out | refine below_set ?_ GE281.out | refine below_set ?_ GE314.out) | exact HB.out)⟩⟩
           case rest =>
            clear HC114
            try clear c1
            try clear c2
            try clear p2
            try clear c3
            try clear c3b0
            try clear c4
            try clear c5
            try clear c6
            try clear c7
            try clear c8
            try clear c9
            try clear c10
            try clear c11
            try clear c12
            try clear c13
            try clear c14
            try clear c15
            try clear c16
            try clear c17
            try clear c18
            try clear c23
            try clear c31
            try clear c32
            try clear c39
            try clear c40
            try clear c41
            try clear c46
            try clear c47
            try clear c48
            try clear c49
            try clear c51
            try clear c52
            try clear c55
            try clear c56
            try clear c57
            try clear c59
            try clear c60
            try clear c63
            try clear c66
            try clear c74
            try clear c75
            try clear c76
            try clear c80
            try clear c80b0
            try clear c82
            try clear c83
            try clear c84
            try clear c85
            try clear c87
            try clear c88
            try clear c91
            try clear c92
            try clear c93
            try clear c95
            try clear c96
            try clear c99
            try clear c102
            try clear c102b0
            try clear c103
            try clear c104
            try clear c105
            try clear c111
            try clear c111b0
            try clear c111b1
            try clear c115
            try clear c116
            try clear c117
            try clear c123
            try clear c124
            try clear c133
            try clear c134
            try clear c135
            try clear c136
            try clear c141
            try clear c142
            try clear c143
            try clear c144
            try clear c145
            try clear c147
            try clear c148
            try clear c149
            try clear c152
            try clear c153
            try clear c154
            try clear c155
            try clear c157
            try clear c158
            try clear c159
            try clear hcz106_0
            try clear hcz106_1
            try clear hcz106_2
            try clear hcz109_0
            try clear hcz109_1
            try clear hcz109_2
            try clear hcz118_0
            try clear hcz118_1
            try clear hcz118_2
            try clear hcz121_0
            try clear hcz121_1
            try clear hcz121_2
            try clear hcz125_0
            try clear hcz125_1
            try clear hcz125_2
            try clear hcz137_0
            try clear hcz137_1
            try clear hcz137_2
            try clear hcz13_0
            try clear hcz13_1
            try clear hcz13_2
            try clear hcz146_0
            try clear hcz146_1
            try clear hcz146_2
            try clear hcz150_0
            try clear hcz150_1
            try clear hcz150_2
            try clear hcz156_0
            try clear hcz156_1
            try clear hcz156_2
            try clear hcz15_0
            try clear hcz15_1
            try clear hcz15_2
            try clear hcz160_0
            try clear hcz160_1
            try clear hcz160_2
            try clear hcz24_0
            try clear hcz24_1
            try clear hcz24_2
            try clear hcz27_0
            try clear hcz27_1
            try clear hcz27_2
            try clear hcz33_0
            try clear hcz33_1
            try clear hcz33_2
            try clear hcz42_0
            try clear hcz42_1
            try clear hcz42_2
            try clear hcz50_0
            try clear hcz50_1
            try clear hcz50_2
            try clear hcz53_0
            try clear hcz53_1
            try clear hcz53_2
            try clear hcz58_0
            try clear hcz58_1
            try clear hcz58_2
            try clear hcz5_0
            try clear hcz5_1
            try clear hcz5_2
            try clear hcz61_0
            try clear hcz61_1
            try clear hcz61_2
            try clear hcz77_0
            try clear hcz77_1
            try clear hcz77_2
            try clear hcz86_0
            try clear hcz86_1
            try clear hcz86_2
            try clear hcz89_0
            try clear hcz89_1
            try clear hcz89_2
            try clear hcz94_0
            try clear hcz94_1
            try clear hcz94_2
            try clear hcz97_0
            try clear hcz97_1
            try clear hcz97_2
            try clear hfz106_0
            try clear hfz106_1
            try clear hfz106_2
            try clear hfz109_0
            try clear hfz109_1
            try clear hfz109_2
            try clear hfz118_0
            try clear hfz118_1
            try clear hfz118_2
            try clear hfz121_0
            try clear hfz121_1
            try clear hfz121_2
            try clear hfz125_0
            try clear hfz125_1
            try clear hfz125_2
            try clear hfz137_0
            try clear hfz137_1
            try clear hfz137_2
            try clear hfz13_0
            try clear hfz13_1
            try clear hfz13_2
            try clear hfz146_0
            try clear hfz146_1
            try clear hfz146_2
            try clear hfz150_0
            try clear hfz150_1
            try clear hfz150_2
            try clear hfz156_0
            try clear hfz156_1
            try clear hfz156_2
            try clear hfz15_0
            try clear hfz15_1
            try clear hfz15_2
            try clear hfz160_0
            try clear hfz160_1
            try clear hfz160_2
            try clear hfz24_0
            try clear hfz24_1
            try clear hfz24_2
            try clear hfz27_0
            try clear hfz27_1
            try clear hfz27_2
            try clear hfz33_0
            try clear hfz33_1
            try clear hfz33_2
            try clear hfz42_0
            try clear hfz42_1
            try clear hfz42_2
            try clear hfz50_0
            try clear hfz50_1
            try clear hfz50_2
            try clear hfz53_0
            try clear hfz53_1
            try clear hfz53_2
            try clear hfz58_0
            try clear hfz58_1
            try clear hfz58_2
            try clear hfz5_0
            try clear hfz5_1
            try clear hfz5_2
            try clear hfz61_0
            try clear hfz61_1
            try clear hfz61_2
            try clear hfz77_0
            try clear hfz77_1
            try clear hfz77_2
            try clear hfz86_0
            try clear hfz86_1
            try clear hfz86_2
            try clear hfz89_0
            try clear hfz89_1
            try clear hfz89_2
            try clear hfz94_0
            try clear hfz94_1
            try clear hfz94_2
            try clear hfz97_0
            try clear hfz97_1
            try clear hfz97_2
            try clear p2
            obtain ⟨kq, x87_113, rfl, HA, HJ113, HO_265001, HO_265002, HO_273001, HO_273002, HO_282001, HO_282002, HO_315001, HO_315002, BK247, BK264, BK272, BK281, BK314, HB⟩ := hcut
            have hl282001_113 := (Kd.S_reads' HO_282001.out).1
            rw [hl282001_113] at HO_282001
            (try simp only [hl282001_113])
            (try simp only [hl282001_113] at BK247)
            (try simp only [hl282001_113] at BK264)
            (try simp only [hl282001_113] at BK272)
            (try simp only [hl282001_113] at BK281)
            (try simp only [hl282001_113] at BK314)
            (try simp only [hl282001_113] at HO_265001)
            (try simp only [hl282001_113] at HO_265002)
            (try simp only [hl282001_113] at HO_273001)
            (try simp only [hl282001_113] at HO_273002)
            (try simp only [hl282001_113] at HO_282002)
            (try simp only [hl282001_113] at HO_315001)
            (try simp only [hl282001_113] at HO_315002)
            have hl282002_113 := (Kd.R_reads' HO_282002.out).1
            rw [hl282002_113] at HO_282002
            (try simp only [hl282002_113])
            (try simp only [hl282002_113] at BK247)
            (try simp only [hl282002_113] at BK264)
            (try simp only [hl282002_113] at BK272)
            (try simp only [hl282002_113] at BK281)
            (try simp only [hl282002_113] at BK314)
            (try simp only [hl282002_113] at HO_265001)
            (try simp only [hl282002_113] at HO_265002)
            (try simp only [hl282002_113] at HO_273001)
            (try simp only [hl282002_113] at HO_273002)
            (try simp only [hl282002_113] at HO_282001)
            (try simp only [hl282002_113] at HO_315001)
            (try simp only [hl282002_113] at HO_315002)
            cases kq with
            | zero => exact absurd HA.out (by simp [laws_FnExactOppositeAutomaton.j2])
            | succ kj113 =>
             have H := HA.out
             clear HA
             simp only [laws_FnExactOppositeAutomaton.j2] at H
             by_cases c162 : x87_113 = true
             ·subst c162
              have H1 : (some false) = some r := by rw [if_pos rfl] at H; exact H
              clear H
              have H := H1
              clear H1
              obtain rfl := Option.some.inj H
              go_wp2
              go_ret
              exact ⟨by first | rfl | (simp [errW_none, errW_some] <;> rfl) | (simp [*, errW_none, errW_some] <;> rfl), by repeat (first | (with_reducible first | exact HB.out | apply below_alloc | apply pw_below_drewN | apply below_drew1 | refine below_set ?_ GE247.out | refine below_set ?_ GE264.out | refine below_set ?_ GE272.out | refine below_set ?_ GE281.out | refine below_set ?_ GE314.out) | exact HB.out)⟩
             ·replace c162 := Bool.eq_false_iff.mpr c162
              subst c162
              have H1 : ((laws_heldAutomaton.f kj113 t273 t296 t297 1).bind fun t316 => (if t316 < 0 then (some false) else (if t316 = t295 then (some true) else (some false)))) = some r := by rw [if_neg (show ¬ (false = true) by decide)] at H; exact H
              clear H
              have H := H1
              clear H1
              replace H := Option.bind_eq_some_iff.mp H
              obtain ⟨t316, A1630, H⟩ := H
              replace H : (if t316 < 0 then (some false) else (if t316 = t295 then (some true) else (some false))) = some r := H
              have A163 := Aside0.mk A1630
              clear A1630
              by_cases c164 : t316 < 0
              ·rw [if_pos c164] at H
               have c164b0 : decide (t316 < 0) = true := decide_eq_true c164
               clear c164
               obtain rfl := Option.some.inj H
               have hnb165 := NB281_247.out
               have hnc165 := NB247_281.out
               have hnb166 := NB281_264.out
               have hnc166 := NB264_281.out
               have hnb167 := NB281_272.out
               have hnc167 := NB272_281.out
               have hnb168 := NB281_314.out
               have hnc168 := NB314_281.out
               have hcz169_0 : wc.cell? ⟨gb281, 0, none⟩ = some (.int .i64 t273) := (blk_cell BK281.out 0).trans rfl
               have hcz169_1 : wc.cell? ⟨gb281, 1, none⟩ = some (.slice Ao43 t296.length co43) := (blk_cell BK281.out 1).trans rfl
               have hcz169_2 : wc.cell? ⟨gb281, 2, none⟩ = some (.slice Ao44 t297.length co44) := (blk_cell BK281.out 2).trans rfl
               have hfz169_0 := blk_frozen BK281.out 0
               have hfz169_1 := blk_frozen BK281.out 1
               have hfz169_2 := blk_frozen BK281.out 2
               go_wp2_with (first | ((with_reducible refine gate_callee (f := 18) rfl ?_); refine goesL_ (some 90) rfl rfl Try.func18 (by kernel_rfl) rfl #[.agg #[.int .i64 t273, .slice Ao43 t296.length co43, .slice Ao44 t297.length co44], .int .i64 1] rfl (by (try simp only [List.map_toArray, List.map_cons, List.map_nil]); first | done | rfl) ?_; (with_reducible refine (laws_heldAutomaton.calls kj113 t273 _ _ t296 _ _ t297 1 t316 _ ?side1 ?side2 ?side3 ?side4 A163.out).mono ?_); (case side1 => repeat (first | exact (Kd.S_reads' HO_282001.out).2.2 | (with_reducible refine Kd.C_alloc ?_ _) | (with_reducible refine Kd.C_drewN ?_ _) | (with_reducible refine Kd.C_drew ?_))); (case side2 => exact (Kd.S_reads' HO_282001.out).2.1); (case side3 => repeat (first | exact (Kd.R_reads' HO_282002.out).2.2 | (with_reducible refine Kd.C_alloc ?_ _) | (with_reducible refine Kd.C_drewN ?_ _) | (with_reducible refine Kd.C_drew ?_))); (case side4 => exact (Kd.R_reads' HO_282002.out).2.1); rintro e w170 ⟨rfl, hb⟩; refine ⟨_, rfl, ?_⟩; have n0_ := Aside0.mk (Kd.S_below HO_265001.out hb); have n1_ := Aside0.mk (Kd.R_below HO_265002.out hb); have n2_ := Aside0.mk (Kd.S_below HO_273001.out hb); have n3_ := Aside0.mk (Kd.R_below HO_273002.out hb); have n4_ := Aside0.mk (Kd.S_below HO_282001.out hb); have n5_ := Aside0.mk (Kd.R_below HO_282002.out hb); have n6_ := Aside0.mk (Kd.S_below HO_315001.out hb); have n7_ := Aside0.mk (Kd.R_below HO_315002.out hb); have n8_ := Aside0.mk (blk_below (g := gb247) (o := .cells #[.int .i64 a0_0, .slice A0_1 l0_1.length c0_1, .slice A0_2 l0_2.length c0_2] 25 (0, 0)) BK247.out hb); have n9_ := Aside0.mk (blk_below (g := gb264) (o := .cells #[.int .i64 t256, .slice Ao25 t257.length co25, .slice Ao26 t260.length co26] 28 (0, 0)) BK264.out hb); have n10_ := Aside0.mk (blk_below (g := gb272) (o := .cells #[.int .i64 t265, .slice Ao34 t292.length co34, .slice Ao35 t293.length co35] 28 (0, 0)) BK272.out hb); have n11_ := Aside0.mk (blk_below (g := gb281) (o := .cells #[.int .i64 t273, .slice Ao43 t296.length co43, .slice Ao44 t297.length co44] 28 (0, 0)) BK281.out hb); have n12_ := Aside0.mk (blk_below (g := gb314) (o := .cells #[.int .i64 t306, .slice Ao138 t307.length co138, .slice Ao139 t310.length co139] 28 (0, 0)) BK314.out hb); have n13_ := Aside0.mk (below_step (by repeat (first | (with_reducible first | exact HB.out | apply below_alloc | apply pw_below_drewN | apply below_drew1 | refine below_set ?_ GE247.out | refine below_set ?_ GE264.out | refine below_set ?_ GE272.out | refine below_set ?_ GE281.out | refine below_set ?_ GE314.out) | exact HB.out)) hb); clear HO_265001; clear HO_265002; clear HO_273001; clear HO_273002; clear HO_282001; clear HO_282002; clear HO_315001; clear HO_315002; clear BK247; clear BK264; clear BK272; clear BK281; clear BK314; clear HB; have HO_265001 := n0_; have HO_265002 := n1_; have HO_273001 := n2_; have HO_273002 := n3_; have HO_282001 := n4_; have HO_282002 := n5_; have HO_315001 := n6_; have HO_315002 := n7_; have BK247 := n8_; have BK264 := n9_; have BK272 := n10_; have BK281 := n11_; have BK314 := n12_; have HB := n13_; clear n0_ n1_ n2_ n3_ n4_ n5_ n6_ n7_ n8_ n9_ n10_ n11_ n12_ n13_; (try clear hb); (try clear hb2); (try clear hk); (try clear hi)))
               go_ret
               exact ⟨by first | rfl | (simp [errW_none, errW_some] <;> rfl) | (simp [*, errW_none, errW_some] <;> rfl), by repeat (first | (with_reducible first | exact HB.out | apply below_alloc | apply pw_below_drewN | apply below_drew1 | refine below_set ?_ GE247.out | refine below_set ?_ GE264.out | refine below_set ?_ GE272.out | refine below_set ?_ GE281.out | refine below_set ?_ GE314.out) | exact HB.out)⟩
              ·rw [if_neg c164] at H
               have c164b0 : decide (t316 < 0) = false := decide_eq_false c164
               clear c164
               by_cases c171 : t316 = t295
               ·rw [if_pos c171] at H
                have c171b0 : (t316 == t295) = true := beq_iff_eq.mpr c171
                have c171b1 : (t316 != t295) = false := bne_eq_false_iff_eq.mpr c171
                clear c171
                obtain rfl := Option.some.inj H
                have hnb172 := NB281_247.out
                have hnc172 := NB247_281.out
                have hnb173 := NB281_264.out
                have hnc173 := NB264_281.out
                have hnb174 := NB281_272.out
                have hnc174 := NB272_281.out
                have hnb175 := NB281_314.out
                have hnc175 := NB314_281.out
                have hcz176_0 : wc.cell? ⟨gb281, 0, none⟩ = some (.int .i64 t273) := (blk_cell BK281.out 0).trans rfl
                have hcz176_1 : wc.cell? ⟨gb281, 1, none⟩ = some (.slice Ao43 t296.length co43) := (blk_cell BK281.out 1).trans rfl
                have hcz176_2 : wc.cell? ⟨gb281, 2, none⟩ = some (.slice Ao44 t297.length co44) := (blk_cell BK281.out 2).trans rfl
                have hfz176_0 := blk_frozen BK281.out 0
                have hfz176_1 := blk_frozen BK281.out 1
                have hfz176_2 := blk_frozen BK281.out 2
                go_wp2_with (first | ((with_reducible refine gate_callee (f := 18) rfl ?_); refine goesL_ (some 90) rfl rfl Try.func18 (by kernel_rfl) rfl #[.agg #[.int .i64 t273, .slice Ao43 t296.length co43, .slice Ao44 t297.length co44], .int .i64 1] rfl (by (try simp only [List.map_toArray, List.map_cons, List.map_nil]); first | done | rfl) ?_; (with_reducible refine (laws_heldAutomaton.calls kj113 t273 _ _ t296 _ _ t297 1 t316 _ ?side1 ?side2 ?side3 ?side4 A163.out).mono ?_); (case side1 => repeat (first | exact (Kd.S_reads' HO_282001.out).2.2 | (with_reducible refine Kd.C_alloc ?_ _) | (with_reducible refine Kd.C_drewN ?_ _) | (with_reducible refine Kd.C_drew ?_))); (case side2 => exact (Kd.S_reads' HO_282001.out).2.1); (case side3 => repeat (first | exact (Kd.R_reads' HO_282002.out).2.2 | (with_reducible refine Kd.C_alloc ?_ _) | (with_reducible refine Kd.C_drewN ?_ _) | (with_reducible refine Kd.C_drew ?_))); (case side4 => exact (Kd.R_reads' HO_282002.out).2.1); rintro e w177 ⟨rfl, hb⟩; refine ⟨_, rfl, ?_⟩; have n0_ := Aside0.mk (Kd.S_below HO_265001.out hb); have n1_ := Aside0.mk (Kd.R_below HO_265002.out hb); have n2_ := Aside0.mk (Kd.S_below HO_273001.out hb); have n3_ := Aside0.mk (Kd.R_below HO_273002.out hb); have n4_ := Aside0.mk (Kd.S_below HO_282001.out hb); have n5_ := Aside0.mk (Kd.R_below HO_282002.out hb); have n6_ := Aside0.mk (Kd.S_below HO_315001.out hb); have n7_ := Aside0.mk (Kd.R_below HO_315002.out hb); have n8_ := Aside0.mk (blk_below (g := gb247) (o := .cells #[.int .i64 a0_0, .slice A0_1 l0_1.length c0_1, .slice A0_2 l0_2.length c0_2] 25 (0, 0)) BK247.out hb); have n9_ := Aside0.mk (blk_below (g := gb264) (o := .cells #[.int .i64 t256, .slice Ao25 t257.length co25, .slice Ao26 t260.length co26] 28 (0, 0)) BK264.out hb); have n10_ := Aside0.mk (blk_below (g := gb272) (o := .cells #[.int .i64 t265, .slice Ao34 t292.length co34, .slice Ao35 t293.length co35] 28 (0, 0)) BK272.out hb); have n11_ := Aside0.mk (blk_below (g := gb281) (o := .cells #[.int .i64 t273, .slice Ao43 t296.length co43, .slice Ao44 t297.length co44] 28 (0, 0)) BK281.out hb); have n12_ := Aside0.mk (blk_below (g := gb314) (o := .cells #[.int .i64 t306, .slice Ao138 t307.length co138, .slice Ao139 t310.length co139] 28 (0, 0)) BK314.out hb); have n13_ := Aside0.mk (below_step (by repeat (first | (with_reducible first | exact HB.out | apply below_alloc | apply pw_below_drewN | apply below_drew1 | refine below_set ?_ GE247.out | refine below_set ?_ GE264.out | refine below_set ?_ GE272.out | refine below_set ?_ GE281.out | refine below_set ?_ GE314.out) | exact HB.out)) hb); clear HO_265001; clear HO_265002; clear HO_273001; clear HO_273002; clear HO_282001; clear HO_282002; clear HO_315001; clear HO_315002; clear BK247; clear BK264; clear BK272; clear BK281; clear BK314; clear HB; have HO_265001 := n0_; have HO_265002 := n1_; have HO_273001 := n2_; have HO_273002 := n3_; have HO_282001 := n4_; have HO_282002 := n5_; have HO_315001 := n6_; have HO_315002 := n7_; have BK247 := n8_; have BK264 := n9_; have BK272 := n10_; have BK281 := n11_; have BK314 := n12_; have HB := n13_; clear n0_ n1_ n2_ n3_ n4_ n5_ n6_ n7_ n8_ n9_ n10_ n11_ n12_ n13_; (try clear hb); (try clear hb2); (try clear hk); (try clear hi)))
                go_ret
                exact ⟨by first | rfl | (simp [errW_none, errW_some] <;> rfl) | (simp [*, errW_none, errW_some] <;> rfl), by repeat (first | (with_reducible first | exact HB.out | apply below_alloc | apply pw_below_drewN | apply below_drew1 | refine below_set ?_ GE247.out | refine below_set ?_ GE264.out | refine below_set ?_ GE272.out | refine below_set ?_ GE281.out | refine below_set ?_ GE314.out) | exact HB.out)⟩
               ·rw [if_neg c171] at H
                have c171b0 : (t316 == t295) = false := beq_eq_false_iff_ne.mpr c171
                have c171b1 : (t316 != t295) = true := bne_iff_ne.mpr c171
                obtain rfl := Option.some.inj H
                have hnb178 := NB281_247.out
                have hnc178 := NB247_281.out
                have hnb179 := NB281_264.out
                have hnc179 := NB264_281.out
                have hnb180 := NB281_272.out
                have hnc180 := NB272_281.out
                have hnb181 := NB281_314.out
                have hnc181 := NB314_281.out
                have hcz182_0 : wc.cell? ⟨gb281, 0, none⟩ = some (.int .i64 t273) := (blk_cell BK281.out 0).trans rfl
                have hcz182_1 : wc.cell? ⟨gb281, 1, none⟩ = some (.slice Ao43 t296.length co43) := (blk_cell BK281.out 1).trans rfl
                have hcz182_2 : wc.cell? ⟨gb281, 2, none⟩ = some (.slice Ao44 t297.length co44) := (blk_cell BK281.out 2).trans rfl
                have hfz182_0 := blk_frozen BK281.out 0
                have hfz182_1 := blk_frozen BK281.out 1
                have hfz182_2 := blk_frozen BK281.out 2
                go_wp2_with (first | ((with_reducible refine gate_callee (f := 18) rfl ?_); refine goesL_ (some 90) rfl rfl Try.func18 (by kernel_rfl) rfl #[.agg #[.int .i64 t273, .slice Ao43 t296.length co43, .slice Ao44 t297.length co44], .int .i64 1] rfl (by (try simp only [List.map_toArray, List.map_cons, List.map_nil]); first | done | rfl) ?_; (with_reducible refine (laws_heldAutomaton.calls kj113 t273 _ _ t296 _ _ t297 1 t316 _ ?side1 ?side2 ?side3 ?side4 A163.out).mono ?_); (case side1 => repeat (first | exact (Kd.S_reads' HO_282001.out).2.2 | (with_reducible refine Kd.C_alloc ?_ _) | (with_reducible refine Kd.C_drewN ?_ _) | (with_reducible refine Kd.C_drew ?_))); (case side2 => exact (Kd.S_reads' HO_282001.out).2.1); (case side3 => repeat (first | exact (Kd.R_reads' HO_282002.out).2.2 | (with_reducible refine Kd.C_alloc ?_ _) | (with_reducible refine Kd.C_drewN ?_ _) | (with_reducible refine Kd.C_drew ?_))); (case side4 => exact (Kd.R_reads' HO_282002.out).2.1); rintro e w183 ⟨rfl, hb⟩; refine ⟨_, rfl, ?_⟩; have n0_ := Aside0.mk (Kd.S_below HO_265001.out hb); have n1_ := Aside0.mk (Kd.R_below HO_265002.out hb); have n2_ := Aside0.mk (Kd.S_below HO_273001.out hb); have n3_ := Aside0.mk (Kd.R_below HO_273002.out hb); have n4_ := Aside0.mk (Kd.S_below HO_282001.out hb); have n5_ := Aside0.mk (Kd.R_below HO_282002.out hb); have n6_ := Aside0.mk (Kd.S_below HO_315001.out hb); have n7_ := Aside0.mk (Kd.R_below HO_315002.out hb); have n8_ := Aside0.mk (blk_below (g := gb247) (o := .cells #[.int .i64 a0_0, .slice A0_1 l0_1.length c0_1, .slice A0_2 l0_2.length c0_2] 25 (0, 0)) BK247.out hb); have n9_ := Aside0.mk (blk_below (g := gb264) (o := .cells #[.int .i64 t256, .slice Ao25 t257.length co25, .slice Ao26 t260.length co26] 28 (0, 0)) BK264.out hb); have n10_ := Aside0.mk (blk_below (g := gb272) (o := .cells #[.int .i64 t265, .slice Ao34 t292.length co34, .slice Ao35 t293.length co35] 28 (0, 0)) BK272.out hb); have n11_ := Aside0.mk (blk_below (g := gb281) (o := .cells #[.int .i64 t273, .slice Ao43 t296.length co43, .slice Ao44 t297.length co44] 28 (0, 0)) BK281.out hb); have n12_ := Aside0.mk (blk_below (g := gb314) (o := .cells #[.int .i64 t306, .slice Ao138 t307.length co138, .slice Ao139 t310.length co139] 28 (0, 0)) BK314.out hb); have n13_ := Aside0.mk (below_step (by repeat (first | (with_reducible first | exact HB.out | apply below_alloc | apply pw_below_drewN | apply below_drew1 | refine below_set ?_ GE247.out | refine below_set ?_ GE264.out | refine below_set ?_ GE272.out | refine below_set ?_ GE281.out | refine below_set ?_ GE314.out) | exact HB.out)) hb); clear HO_265001; clear HO_265002; clear HO_273001; clear HO_273002; clear HO_282001; clear HO_282002; clear HO_315001; clear HO_315002; clear BK247; clear BK264; clear BK272; clear BK281; clear BK314; clear HB; have HO_265001 := n0_; have HO_265002 := n1_; have HO_273001 := n2_; have HO_273002 := n3_; have HO_282001 := n4_; have HO_282002 := n5_; have HO_315001 := n6_; have HO_315002 := n7_; have BK247 := n8_; have BK264 := n9_; have BK272 := n10_; have BK281 := n11_; have BK314 := n12_; have HB := n13_; clear n0_ n1_ n2_ n3_ n4_ n5_ n6_ n7_ n8_ n9_ n10_ n11_ n12_ n13_; (try clear hb); (try clear hb2); (try clear hk); (try clear hi)))
                go_ret
                exact ⟨by first | rfl | (simp [errW_none, errW_some] <;> rfl) | (simp [*, errW_none, errW_some] <;> rfl), by repeat (first | (with_reducible first | exact HB.out | apply below_alloc | apply pw_below_drewN | apply below_drew1 | refine below_set ?_ GE247.out | refine below_set ?_ GE264.out | refine below_set ?_ GE272.out | refine below_set ?_ GE281.out | refine below_set ?_ GE314.out) | exact HB.out)⟩
          ·rw [if_neg c111] at H
           have c111b0 : (t298 == t295) = false := beq_eq_false_iff_ne.mpr c111
           have c111b1 : (t298 != t295) = true := bne_iff_ne.mpr c111
           obtain rfl := Option.some.inj H
           have hnb184 := NB281_247.out
           have hnc184 := NB247_281.out
           have hnb185 := NB281_264.out
           have hnc185 := NB264_281.out
           have hnb186 := NB281_272.out
           have hnc186 := NB272_281.out
           have hcz187_0 : wc.cell? ⟨gb281, 0, none⟩ = some (.int .i64 t273) := (blk_cell BK281.out 0).trans rfl
           have hcz187_1 : wc.cell? ⟨gb281, 1, none⟩ = some (.slice Ao43 t274.length co43) := (blk_cell BK281.out 1).trans rfl
           have hcz187_2 : wc.cell? ⟨gb281, 2, none⟩ = some (.slice Ao44 t277.length co44) := (blk_cell BK281.out 2).trans rfl
           have hfz187_0 := blk_frozen BK281.out 0
           have hfz187_1 := blk_frozen BK281.out 1
           have hfz187_2 := blk_frozen BK281.out 2
           go_wp2_with (first | ((with_reducible refine gate_callee (f := 17) rfl ?_); refine goesL_ (some 64) rfl rfl Try.func17 (by kernel_rfl) rfl #[.agg #[.int .i64 t273, .slice Ao43 t274.length co43, .slice Ao44 t277.length co44], .int .i64 1] rfl (by (try simp only [List.map_toArray, List.map_cons, List.map_nil]); first | done | rfl) ?_; obtain ⟨PS188, hPS188, kPS188⟩ := S_open (HO_282001.out); (with_reducible refine (laws_markAutomaton.calls kj67 t273 PS188 (.slice Ao43 t274.length co43) t274 (fun k_ => some k_ = (.slice Ao44 t277.length co44 : Value).ownBlock) (.slice Ao44 t277.length co44) t277 1 t295 t296 t297 w _ ?side1 ?side2 ?side3 ?side4 A100.out).mono ?_); (case side1 => repeat (first | (with_reducible first | exact HB.out | apply below_alloc | apply pw_below_drewN | apply below_drew1 | refine below_set ?_ GE247.out | refine below_set ?_ GE264.out | refine below_set ?_ GE272.out | refine below_set ?_ GE281.out) | exact HB.out)); (case side2 => exact kPS188); (case side3 => exact fun k_ e_ e2_ => ((hPS188 k_ e_).1.2.2.2.2.1) e2_); (case side4 => exact Kd.R_tight rfl HO_282002.out); rintro e w189 ⟨rfl, hy0, hy1, hb, hkp⟩; refine ⟨_, rfl, ?_⟩; have n0_ := Aside0.mk (Kd.S_mono (ok' := fun k_ => some k_ ≠ (.slice Ao26 t260.length co26 : Value).ownBlock ∧ some k_ ≠ (.slice Ao34 t292.length co34 : Value).ownBlock ∧ some k_ ≠ (.slice Ao35 t293.length co35 : Value).ownBlock ∧ some k_ ≠ (.slice Ao43 t274.length co43 : Value).ownBlock ∧ some k_ ≠ (.slice Ao44 t277.length co44 : Value).ownBlock ∧ k_ ≠ ge_ N21 k_ ∧ k_ ≠ lt_ N29 k_ ∧ k_ ≠ lt_ N37 k_) (Kd.S_keptB ((S_awayP (P := PS188) HO_265001.out (fun k_ h_ e_ => no_lap (h_.2.2.2.2.2.2.2) ((hPS188 k_ e_).1.2.2.2.2.2)))) hkp (fun k_ hk_ hs_ => Or.elim hs_ (fun e_ => (hk_.2) e_) (fun e_ => (hk_.1.2.2.2.2.1) e_))) (fun k_ hk_ => ⟨hk_.1.1.1, hk_.1.1.2.1, hk_.1.1.2.2.1, hk_.1.1.2.2.2.1, hk_.1.1.2.2.2.2.1, hk_.1.1.2.2.2.2.2.1, hk_.1.1.2.2.2.2.2.2.1, hk_.1.1.2.2.2.2.2.2.2⟩)); have n1_ := Aside0.mk (Kd.R_mono (ok' := fun k_ => some k_ ≠ (.slice Ao35 t293.length co35 : Value).ownBlock ∧ some k_ ≠ (.slice Ao44 t277.length co44 : Value).ownBlock) (Kd.R_keptB ((R_awayS (P := PS188) rfl HO_265002.out (fun k_ e_ => (hPS188 k_ e_).1.2.1))) hkp (fun k_ hk_ hs_ => Or.elim hs_ (fun e_ => (hk_.2) e_) (fun e_ => (hk_.1.2) e_))) (fun k_ hk_ => ⟨hk_.1.1.1, hk_.1.1.2⟩)); have n2_ := Aside0.mk (Kd.S_mono (ok' := fun k_ => some k_ ≠ (.slice Ao25 t257.length co25 : Value).ownBlock ∧ some k_ ≠ (.slice Ao26 t260.length co26 : Value).ownBlock ∧ some k_ ≠ (.slice Ao35 t293.length co35 : Value).ownBlock ∧ some k_ ≠ (.slice Ao43 t274.length co43 : Value).ownBlock ∧ some k_ ≠ (.slice Ao44 t277.length co44 : Value).ownBlock ∧ k_ ≠ ge_ N29 k_ ∧ k_ ≠ lt_ N37 k_) (Kd.S_keptB ((S_awayP (P := PS188) HO_273001.out (fun k_ h_ e_ => no_lap (h_.2.2.2.2.2.2) ((hPS188 k_ e_).1.2.2.2.2.2)))) hkp (fun k_ hk_ hs_ => Or.elim hs_ (fun e_ => (hk_.2) e_) (fun e_ => (hk_.1.2.2.2.2.1) e_))) (fun k_ hk_ => ⟨hk_.1.1.1, hk_.1.1.2.1, hk_.1.1.2.2.1, hk_.1.1.2.2.2.1, hk_.1.1.2.2.2.2.1, hk_.1.1.2.2.2.2.2.1, hk_.1.1.2.2.2.2.2.2⟩)); have n3_ := Aside0.mk (Kd.R_mono (ok' := fun k_ => some k_ ≠ (.slice Ao26 t260.length co26 : Value).ownBlock ∧ some k_ ≠ (.slice Ao44 t277.length co44 : Value).ownBlock) (Kd.R_keptB ((R_awayS (P := PS188) rfl HO_273002.out (fun k_ e_ => (hPS188 k_ e_).1.2.2.2.1))) hkp (fun k_ hk_ hs_ => Or.elim hs_ (fun e_ => (hk_.2) e_) (fun e_ => (hk_.1.2) e_))) (fun k_ hk_ => ⟨hk_.1.1.1, hk_.1.1.2⟩)); have n4_ := Aside0.mk (Kd.S_mono hy0 (fun k_ e_ => (hPS188 k_ e_).1)); have n5_ := Aside0.mk (Kd.R_reok rfl hy1 (fun k_ e_ => HO_282002.out.1 k_ e_)); have n6_ := Aside0.mk (blk_kept BK247.out hkp (fun hs_ => Or.elim hs_ (fun e_ => (fun e_ => far_S (hPS188 _ e_).2.2.2 BK247.out (by decide)) e_) (fun e_ => (fun e_ => (Kd.R_ne HO_282002.out BK247.out (by decide)) e_) e_))); have n7_ := Aside0.mk (blk_kept BK264.out hkp (fun hs_ => Or.elim hs_ (fun e_ => (fun e_ => far_S (hPS188 _ e_).2.2.2 BK264.out (by decide)) e_) (fun e_ => (fun e_ => (Kd.R_ne HO_282002.out BK264.out (by decide)) e_) e_))); have n8_ := Aside0.mk (blk_kept BK272.out hkp (fun hs_ => Or.elim hs_ (fun e_ => (fun e_ => far_S (hPS188 _ e_).2.2.2 BK272.out (by decide)) e_) (fun e_ => (fun e_ => (Kd.R_ne HO_282002.out BK272.out (by decide)) e_) e_))); have n9_ := Aside0.mk (blk_kept BK281.out hkp (fun hs_ => Or.elim hs_ (fun e_ => (fun e_ => far_S (hPS188 _ e_).2.2.2 BK281.out (by decide)) e_) (fun e_ => (fun e_ => (Kd.R_ne HO_282002.out BK281.out (by decide)) e_) e_))); have n10_ := Aside0.mk (hb); clear HO_265001; clear HO_265002; clear HO_273001; clear HO_273002; clear HO_282001; clear HO_282002; clear BK247; clear BK264; clear BK272; clear BK281; clear HB; have HO_265001 := n0_; have HO_265002 := n1_; have HO_273001 := n2_; have HO_273002 := n3_; have HO_282001 := n4_; have HO_282002 := n5_; have BK247 := n6_; have BK264 := n7_; have BK272 := n8_; have BK281 := n9_; have HB := n10_; clear n0_ n1_ n2_ n3_ n4_ n5_ n6_ n7_ n8_ n9_ n10_; (try clear hb); (try clear hkp); (try clear hy0); (try clear hy1); (try clear hPS188 kPS188); have hcz190_0 : w189.cell? ⟨gb281, 0, none⟩ = some (.int .i64 t273) := (blk_cell BK281.out 0).trans rfl; have hcz190_1 : w189.cell? ⟨gb281, 1, none⟩ = some (.slice Ao43 t274.length co43) := (blk_cell BK281.out 1).trans rfl; have hcz190_2 : w189.cell? ⟨gb281, 2, none⟩ = some (.slice Ao44 t277.length co44) := (blk_cell BK281.out 2).trans rfl; have hfz190_0 := blk_frozen BK281.out 0; have hfz190_1 := blk_frozen BK281.out 1; have hfz190_2 := blk_frozen BK281.out 2) | ((with_reducible refine gate_callee (f := 18) rfl ?_); refine goesL_ (some 67) rfl rfl Try.func18 (by kernel_rfl) rfl #[.agg #[.int .i64 t273, .slice Ao43 t296.length co43, .slice Ao44 t297.length co44], .int .i64 1] rfl (by (try simp only [List.map_toArray, List.map_cons, List.map_nil]); first | done | (rw [show t296.length = t274.length from (Kd.S_reads' HO_282001.out).1.symm, show t297.length = t277.length from (Kd.R_reads' HO_282002.out).1.symm] <;> rfl) | rfl | (simp only [List.length_drop, List.length_take]; rfl)) ?_; (with_reducible refine (laws_heldAutomaton.calls kj67 t273 _ _ t296 _ _ t297 1 t298 _ ?side1 ?side2 ?side3 ?side4 A101.out).mono ?_); (case side1 => repeat (first | exact (Kd.S_reads' HO_282001.out).2.2 | (with_reducible refine Kd.C_alloc ?_ _) | (with_reducible refine Kd.C_drewN ?_ _) | (with_reducible refine Kd.C_drew ?_))); (case side2 => rw [show t296.length = t274.length from (Kd.S_reads' HO_282001.out).1.symm]; exact (Kd.S_reads' HO_282001.out).2.1); (case side3 => repeat (first | exact (Kd.R_reads' HO_282002.out).2.2 | (with_reducible refine Kd.C_alloc ?_ _) | (with_reducible refine Kd.C_drewN ?_ _) | (with_reducible refine Kd.C_drew ?_))); (case side4 => rw [show t297.length = t277.length from (Kd.R_reads' HO_282002.out).1.symm]; exact (Kd.R_reads' HO_282002.out).2.1); rintro e w191 ⟨rfl, hb⟩; refine ⟨_, rfl, ?_⟩; have n0_ := Aside0.mk (Kd.S_below HO_265001.out hb); have n1_ := Aside0.mk (Kd.R_below HO_265002.out hb); have n2_ := Aside0.mk (Kd.S_below HO_273001.out hb); have n3_ := Aside0.mk (Kd.R_below HO_273002.out hb); have n4_ := Aside0.mk (Kd.S_below HO_282001.out hb); have n5_ := Aside0.mk (Kd.R_below HO_282002.out hb); have n6_ := Aside0.mk (blk_below (g := gb247) (o := .cells #[.int .i64 a0_0, .slice A0_1 l0_1.length c0_1, .slice A0_2 l0_2.length c0_2] 25 (0, 0)) BK247.out hb); have n7_ := Aside0.mk (blk_below (g := gb264) (o := .cells #[.int .i64 t256, .slice Ao25 t257.length co25, .slice Ao26 t260.length co26] 28 (0, 0)) BK264.out hb); have n8_ := Aside0.mk (blk_below (g := gb272) (o := .cells #[.int .i64 t265, .slice Ao34 t292.length co34, .slice Ao35 t293.length co35] 28 (0, 0)) BK272.out hb); have n9_ := Aside0.mk (blk_below (g := gb281) (o := .cells #[.int .i64 t273, .slice Ao43 t274.length co43, .slice Ao44 t277.length co44] 28 (0, 0)) BK281.out hb); have n10_ := Aside0.mk (below_step (by repeat (first | (with_reducible first | exact HB.out | apply below_alloc | apply pw_below_drewN | apply below_drew1 | refine below_set ?_ GE247.out | refine below_set ?_ GE264.out | refine below_set ?_ GE272.out | refine below_set ?_ GE281.out) | exact HB.out)) hb); clear HO_265001; clear HO_265002; clear HO_273001; clear HO_273002; clear HO_282001; clear HO_282002; clear BK247; clear BK264; clear BK272; clear BK281; clear HB; have HO_265001 := n0_; have HO_265002 := n1_; have HO_273001 := n2_; have HO_273002 := n3_; have HO_282001 := n4_; have HO_282002 := n5_; have BK247 := n6_; have BK264 := n7_; have BK272 := n8_; have BK281 := n9_; have HB := n10_; clear n0_ n1_ n2_ n3_ n4_ n5_ n6_ n7_ n8_ n9_ n10_; (try clear hb); (try clear hb2); (try clear hk); (try clear hi)))
           go_ret
           exact ⟨by first | rfl | (simp [errW_none, errW_some] <;> rfl) | (simp [*, errW_none, errW_some] <;> rfl), by repeat (first | (with_reducible first | exact HB.out | apply below_alloc | apply pw_below_drewN | apply below_drew1 | refine below_set ?_ GE247.out | refine below_set ?_ GE264.out | refine below_set ?_ GE272.out | refine below_set ?_ GE281.out) | exact HB.out)⟩
     ·replace c66 := Bool.eq_false_iff.mpr c66
      subst c66
      have H1 : (some false) = some r := by rw [if_neg (show ¬ (false = true) by decide)] at H; exact H
      clear H
      have H := H1
      clear H1
      obtain rfl := Option.some.inj H
      try go_wp2
      have n0_ := Aside0.mk (Kd.S_drew HO_265001.out)
      have n1_ := Aside0.mk (Kd.R_drew HO_265002.out)
      have n2_ := Aside0.mk (Kd.S_drew HO_273001.out)
      have n3_ := Aside0.mk (Kd.R_drew HO_273002.out)
      have n4_ := Aside0.mk (Kd.S_drew HO_282001.out)
      have n5_ := Aside0.mk (Kd.R_drew HO_282002.out)
      have n6_ := Aside0.mk (blk_drew BK247.out)
      have n7_ := Aside0.mk (blk_drew BK264.out)
      have n8_ := Aside0.mk (blk_drew BK272.out)
      have n9_ := Aside0.mk (blk_drew BK281.out)
      have n10_ := Aside0.mk (below_drew1 HB.out)
      clear HO_265001
      clear HO_265002
      clear HO_273001
      clear HO_273002
      clear HO_282001
      clear HO_282002
      clear BK247
      clear BK264
      clear BK272
      clear BK281
      clear HB
      have HO_265001 := n0_
      have HO_265002 := n1_
      have HO_273001 := n2_
      have HO_273002 := n3_
      have HO_282001 := n4_
      have HO_282002 := n5_
      have BK247 := n6_
      have BK264 := n7_
      have BK272 := n8_
      have BK281 := n9_
      have HB := n10_
      clear n0_ n1_ n2_ n3_ n4_ n5_ n6_ n7_ n8_ n9_ n10_
      refine start_ (n := 5) (S := fun w' => w'.cell? ⟨gb272, 0, none⟩ = some (.int .i64 t265) ∧ w'.cell? ⟨gb272, 1, none⟩ = some (.slice Ao34 t266.length co34) ∧ w'.cell? ⟨gb272, 2, none⟩ = some (.slice Ao35 t269.length co35) ∧ w'.cell? ⟨gb247, 0, none⟩ = some (.int .i64 a0_0) ∧ w'.cell? ⟨gb247, 1, none⟩ = some (.slice A0_1 l0_1.length c0_1) ∧ w'.cell? ⟨gb247, 2, none⟩ = some (.slice A0_2 l0_2.length c0_2)) (ds := []) #[false, false, false, false, false] (by kernel_rfl) rfl rfl ⟨(blk_cell BK272.out 0).trans rfl, (blk_cell BK272.out 1).trans rfl, (blk_cell BK272.out 2).trans rfl, (blk_cell BK247.out 0).trans rfl, (blk_cell BK247.out 1).trans rfl, (blk_cell BK247.out 2).trans rfl⟩ (fun hHeld => ?_)
      generalize wc.drew = w192 at HO_265001 HO_265002 HO_273001 HO_273002 HO_282001 HO_282002 BK247 BK264 BK272 BK281 HB hHeld ⊢
      refine take_ (i := 0) (N := some 41) (v := ?_) (a' := ?_) #[true, false, false, false, false] rfl rfl (by kernel_rfl) (fun _ _ _ h => h) (Or.inl ⟨by rfl, ?_⟩) hHeld ?_ ?_
      rotate_left
      ·rintro w' ⟨s0, s1, s2, s3, s4, s5⟩
       go_simp
       with_reducible rfl
      rotate_left
      ·simp only [Act.put, List.setIfInBounds_toArray, List.set_cons_zero, List.set_cons_succ, i64_w, i32_w]
       rfl
      refine take_ (i := 1) (N := some 42) (v := ?_) (a' := ?_) #[true, true, false, false, false] rfl rfl (by kernel_rfl) (fun _ _ _ h => h) (Or.inl ⟨by rfl, ?_⟩) hHeld ?_ ?_
      rotate_left
      ·rintro w' ⟨s0, s1, s2, s3, s4, s5⟩
       go_simp
       with_reducible rfl
      rotate_left
      ·simp only [Act.put, List.setIfInBounds_toArray, List.set_cons_zero, List.set_cons_succ, i64_w, i32_w]
       rfl
      refine one_ (i := 2) (N := some 43) #[true, true, true, false, false] rfl rfl (by kernel_rfl) (by decide) (fun K hK => ?_)
      refine goes_ Try.func12 (by kernel_rfl) rfl #[.agg #[.int .i64 a0_0, .slice A0_1 l0_1.length c0_1, .slice A0_2 l0_2.length c0_2]] (by rfl) rfl rfl (by (try simp only [List.map_toArray, List.map_cons, List.map_nil]); first | done | rfl) ?_
      with_reducible refine (laws_toAutomaton.calls kj10 a0_0 _ _ l0_1 _ _ l0_2 t283 t284 t287 _ ?side1 ?side2 ?side3 ?side4 A64.out).mono ?_
      (case side1 => repeat (first | exact (Kd.C_below HR0_1.out HB.out) | (with_reducible refine Kd.C_alloc ?_ _) | (with_reducible refine Kd.C_drewN ?_ _) | (with_reducible refine Kd.C_drew ?_)))
      (case side2 => exact HC0_1.out)
      (case side3 => repeat (first | exact (Kd.C_below HR0_2.out HB.out) | (with_reducible refine Kd.C_alloc ?_ _) | (with_reducible refine Kd.C_drewN ?_ _) | (with_reducible refine Kd.C_drew ?_)))
      (case side4 => exact HC0_2.out)
      rintro e w193 ⟨v285, v288, rfl, ho0, ho1, hb⟩
      refine ⟨_, rfl, ?_⟩
      have n0_ := Aside0.mk (Kd.S_mono (Kd.S_told (Kd.S_told (Kd.S_old HO_265001.out hb) (Kd.S_base ho0)) (Kd.R_base ho1)) (fun _ h_ => h_.1))
      have n1_ := Aside0.mk (Kd.R_elder' HO_265002.out (Kd.R_base ho1) hb)
      have n2_ := Aside0.mk (Kd.S_mono (Kd.S_told (Kd.S_told (Kd.S_old HO_273001.out hb) (Kd.S_base ho0)) (Kd.R_base ho1)) (fun _ h_ => h_.1))
      have n3_ := Aside0.mk (Kd.R_elder' HO_273002.out (Kd.R_base ho1) hb)
      have n4_ := Aside0.mk (Kd.S_mono (Kd.S_told (Kd.S_told (Kd.S_old HO_282001.out hb) (Kd.S_base ho0)) (Kd.R_base ho1)) (fun _ h_ => h_.1))
      have n5_ := Aside0.mk (Kd.R_elder' HO_282002.out (Kd.R_base ho1) hb)
      have n6_ := Aside0.mk (Kd.S_lower (Kd.S_new' (Kd.S_new' (Kd.S_new' (Kd.S_new' (Kd.S_new' (Kd.S_new' ho0 (Kd.S_lt HO_265001.out)) (Kd.R_lt HO_265002.out)) (Kd.S_lt HO_273001.out)) (Kd.R_lt HO_273002.out)) (Kd.S_lt HO_282001.out)) (Kd.R_lt HO_282002.out)) (below_size (by repeat (first | (with_reducible first | exact HB.out | apply below_alloc | apply pw_below_drewN | apply below_drew1 | refine below_set ?_ GE247.out | refine below_set ?_ GE264.out | refine below_set ?_ GE272.out | refine below_set ?_ GE281.out) | exact HB.out))))
      have n7_ := Aside0.mk (Kd.R_lower (Kd.R_new' (Kd.R_new' (Kd.R_new' ho1 (Kd.R_lt HO_265002.out)) (Kd.R_lt HO_273002.out)) (Kd.R_lt HO_282002.out)) (below_size (by repeat (first | (with_reducible first | exact HB.out | apply below_alloc | apply pw_below_drewN | apply below_drew1 | refine below_set ?_ GE247.out | refine below_set ?_ GE264.out | refine below_set ?_ GE272.out | refine below_set ?_ GE281.out) | exact HB.out))))
      have n8_ := Aside0.mk (blk_below (g := gb247) (o := .cells #[.int .i64 a0_0, .slice A0_1 l0_1.length c0_1, .slice A0_2 l0_2.length c0_2] 25 (0, 0)) BK247.out hb)
      have n9_ := Aside0.mk (blk_below (g := gb264) (o := .cells #[.int .i64 t256, .slice Ao25 t257.length co25, .slice Ao26 t260.length co26] 28 (0, 0)) BK264.out hb)
      have n10_ := Aside0.mk (blk_below (g := gb272) (o := .cells #[.int .i64 t265, .slice Ao34 t266.length co34, .slice Ao35 t269.length co35] 28 (0, 0)) BK272.out hb)
      have n11_ := Aside0.mk (blk_below (g := gb281) (o := .cells #[.int .i64 t273, .slice Ao43 t274.length co43, .slice Ao44 t277.length co44] 28 (0, 0)) BK281.out hb)
      have n12_ := Aside0.mk (below_step (by repeat (first | (with_reducible first | exact HB.out | apply below_alloc | apply pw_below_drewN | apply below_drew1 | refine below_set ?_ GE247.out | refine below_set ?_ GE264.out | refine below_set ?_ GE272.out | refine below_set ?_ GE281.out) | exact HB.out)) hb)
      clear HO_265001
      clear HO_265002
      clear HO_273001
      clear HO_273002
      clear HO_282001
      clear HO_282002
      clear BK247
      clear BK264
      clear BK272
      clear BK281
      clear HB
      have HO_265001 := n0_
      have HO_265002 := n1_
      have HO_273001 := n2_
      have HO_273002 := n3_
      have HO_282001 := n4_
      have HO_282002 := n5_
      have HO286 := n6_
      have HO289 := n7_
      have BK247 := n8_
      have BK264 := n9_
      have BK272 := n10_
      have BK281 := n11_
      have HB := n12_
      clear n0_ n1_ n2_ n3_ n4_ n5_ n6_ n7_ n8_ n9_ n10_ n11_ n12_
      (try clear hb)
      (try clear hb2)
      (try clear hk)
      (try clear hi)
      (try clear ho0)
      (try clear ho1)
      obtain ⟨Ao194, co194, eo194⟩ := Kd.S_slice HO286.out
      (first | subst eo194 | (injection eo194 with f1_ f2_ f3_; have f4_ := f1_.symm; have f5_ := f3_.symm; clear f1_ f2_ f3_; subst f4_; subst f5_))
      obtain ⟨Ao195, co195, eo195⟩ := Kd.R_slice HO289.out
      (first | subst eo195 | (injection eo195 with f1_ f2_ f3_; have f4_ := f1_.symm; have f5_ := f3_.symm; clear f1_ f2_ f3_; subst f4_; subst f5_))
      refine hK.out _ _ ⟨(blk_cell BK272.out 0).trans rfl, (blk_cell BK272.out 1).trans rfl, (blk_cell BK272.out 2).trans rfl, (blk_cell BK247.out 0).trans rfl, (blk_cell BK247.out 1).trans rfl, (blk_cell BK247.out 2).trans rfl⟩ (fun hHeld => ?_)
      clear hK K
      refine norm_ (a' := ?_) ?_ ?_
      rotate_left
      ·show Act.put _ (some 43) _ = _
       simp only [Act.put, List.setIfInBounds_toArray, List.set_cons_zero, List.set_cons_succ, i64_w, i32_w]
       rfl
      refine one_ (i := 3) (N := some 44) #[true, true, true, true, false] rfl rfl (by kernel_rfl) (by decide) (fun K hK => ?_)
      refine goes_ Try.func14 (by kernel_rfl) rfl #[.agg #[.int .i64 t265, .slice Ao34 t266.length co34, .slice Ao35 t269.length co35], .agg #[.int .i64 t283, .slice Ao194 t284.length co194, .slice Ao195 t287.length co195]] (by rfl) rfl rfl (by (try simp only [List.map_toArray, List.map_cons, List.map_nil]); first | done | rfl) ?_
      with_reducible refine (laws_eqAutomaton.calls kj10 t265 _ _ t266 _ _ t269 t283 _ _ t284 _ _ t287 false _ ?side1 ?side2 ?side3 ?side4 ?side5 ?side6 ?side7 ?side8 A65.out).mono ?_
      (case side1 => repeat (first | exact (Kd.S_reads' HO_273001.out).2.2 | (with_reducible refine Kd.C_alloc ?_ _) | (with_reducible refine Kd.C_drewN ?_ _) | (with_reducible refine Kd.C_drew ?_)))
      (case side2 => exact (Kd.S_reads' HO_273001.out).2.1)
      (case side3 => repeat (first | exact (Kd.R_reads' HO_273002.out).2.2 | (with_reducible refine Kd.C_alloc ?_ _) | (with_reducible refine Kd.C_drewN ?_ _) | (with_reducible refine Kd.C_drew ?_)))
      (case side4 => exact (Kd.R_reads' HO_273002.out).2.1)
      (case side5 => repeat (first | exact (Kd.S_reads' HO286.out).2.2 | (with_reducible refine Kd.C_alloc ?_ _) | (with_reducible refine Kd.C_drewN ?_ _) | (with_reducible refine Kd.C_drew ?_)))
      (case side6 => exact (Kd.S_reads' HO286.out).2.1)
      (case side7 => repeat (first | exact (Kd.R_reads' HO289.out).2.2 | (with_reducible refine Kd.C_alloc ?_ _) | (with_reducible refine Kd.C_drewN ?_ _) | (with_reducible refine Kd.C_drew ?_)))
      (case side8 => exact (Kd.R_reads' HO289.out).2.1)
      rintro e w196 ⟨rfl, hb⟩
      refine ⟨_, rfl, ?_⟩
      have n0_ := Aside0.mk (Kd.S_below HO_265001.out hb)
      have n1_ := Aside0.mk (Kd.R_below HO_265002.out hb)
      have n2_ := Aside0.mk (Kd.S_below HO_273001.out hb)
      have n3_ := Aside0.mk (Kd.R_below HO_273002.out hb)
      have n4_ := Aside0.mk (Kd.S_below HO_282001.out hb)
      have n5_ := Aside0.mk (Kd.R_below HO_282002.out hb)
      have n6_ := Aside0.mk (Kd.S_below HO286.out hb)
      have n7_ := Aside0.mk (Kd.R_below HO289.out hb)
      have n8_ := Aside0.mk (blk_below (g := gb247) (o := .cells #[.int .i64 a0_0, .slice A0_1 l0_1.length c0_1, .slice A0_2 l0_2.length c0_2] 25 (0, 0)) BK247.out hb)
      have n9_ := Aside0.mk (blk_below (g := gb264) (o := .cells #[.int .i64 t256, .slice Ao25 t257.length co25, .slice Ao26 t260.length co26] 28 (0, 0)) BK264.out hb)
      have n10_ := Aside0.mk (blk_below (g := gb272) (o := .cells #[.int .i64 t265, .slice Ao34 t266.length co34, .slice Ao35 t269.length co35] 28 (0, 0)) BK272.out hb)
      have n11_ := Aside0.mk (blk_below (g := gb281) (o := .cells #[.int .i64 t273, .slice Ao43 t274.length co43, .slice Ao44 t277.length co44] 28 (0, 0)) BK281.out hb)
      have n12_ := Aside0.mk (below_step (by repeat (first | (with_reducible first | exact HB.out | apply below_alloc | apply pw_below_drewN | apply below_drew1 | refine below_set ?_ GE247.out | refine below_set ?_ GE264.out | refine below_set ?_ GE272.out | refine below_set ?_ GE281.out) | exact HB.out)) hb)
      clear HO_265001
      clear HO_265002
      clear HO_273001
      clear HO_273002
      clear HO_282001
      clear HO_282002
      clear HO286
      clear HO289
      clear BK247
      clear BK264
      clear BK272
      clear BK281
      clear HB
      have HO_265001 := n0_
      have HO_265002 := n1_
      have HO_273001 := n2_
      have HO_273002 := n3_
      have HO_282001 := n4_
      have HO_282002 := n5_
      have HO286 := n6_
      have HO289 := n7_
      have BK247 := n8_
      have BK264 := n9_
      have BK272 := n10_
      have BK281 := n11_
      have HB := n12_
      clear n0_ n1_ n2_ n3_ n4_ n5_ n6_ n7_ n8_ n9_ n10_ n11_ n12_
      (try clear hb)
      (try clear hb2)
      (try clear hk)
      (try clear hi)
      refine hK.out _ _ ⟨(blk_cell BK272.out 0).trans rfl, (blk_cell BK272.out 1).trans rfl, (blk_cell BK272.out 2).trans rfl, (blk_cell BK247.out 0).trans rfl, (blk_cell BK247.out 1).trans rfl, (blk_cell BK247.out 2).trans rfl⟩ (fun hHeld => ?_)
      clear hK K
      refine norm_ (a' := ?_) ?_ ?_
      rotate_left
      ·show Act.put _ (some 44) _ = _
       simp only [Act.put, List.setIfInBounds_toArray, List.set_cons_zero, List.set_cons_succ, i64_w, i32_w]
       rfl
      refine pure_ (i := 4) (N := some 45) (v := ?_) (a' := ?_) #[true, true, true, true, true] rfl rfl (by kernel_rfl) (fun _ _ _ h => h) (Or.inl ⟨by rfl, ?_⟩) ?_ ?_
      rotate_left
      ·intro w'
       go_simp
       with_reducible rfl
      rotate_left
      ·simp only [Act.put, List.setIfInBounds_toArray, List.set_cons_zero, List.set_cons_succ, i64_w, i32_w]
       rfl
      refine done_ (by kernel_rfl) ?_
      try go_wp2
      go_ret
      exact ⟨by first | rfl | (simp [errW_none, errW_some] <;> rfl) | (simp [*, errW_none, errW_some] <;> rfl), by repeat (first | (with_reducible first | exact HB.out | apply below_alloc | apply pw_below_drewN | apply below_drew1 | refine below_set ?_ GE247.out | refine below_set ?_ GE264.out | refine below_set ?_ GE272.out | refine below_set ?_ GE281.out) | exact HB.out)⟩

end Go.Proofs.Ytmahokdlfmehjaa.E
