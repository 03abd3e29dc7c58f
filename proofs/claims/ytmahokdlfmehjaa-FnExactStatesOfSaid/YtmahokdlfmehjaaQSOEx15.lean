/- The row of the law FnExactStatesOf, out of its pure statement. -/
import Derived.Test.YtmahokdlfmehjaaQSOEx0
import Derived.Test.YtmahokdlfmehjaaQSOEx1
import Derived.Test.YtmahokdlfmehjaaQSOEx14
import Derived.Test.YtmahokdlfmehjaaQSOEx4
import Derived.Test.YtmahokdlfmehjaaQSOEx6
-- Written by wip/ext.py of this claim (contracts by the form of the kit's print; hand-written ones among them).
namespace Go.Proofs.Ytmahokdlfmehjaa.E
open Go.RowKit Go.Proofs.YtmahokdlfmehjaaW.PrintWords Go.Proofs.YtmahokdlfmehjaaW.PrintLast Go.Proofs.YtmahokdlfmehjaaW.PrintMore
attribute [local go_sem] max2_int min2_int max_two min_two max_three min_three max_four min_four   -- for this text's walks alone
set_option linter.unusedVariables false
set_option linter.unusedSimpArgs false

mutual
def laws_FnExactStatesOf.j0 : Nat → List Int → Int → List Int → Int → Bool → Int → List (List Int) → List Int → List Int → Int → List (List Int) → List Int → List Int → Option (Bool)
 | 0, _, _, _, _, _, _, _, _, _, _, _, _, _ => none
 | k + 1, x6, x7, x10, x11, x53, x712000, x712001, x712002, x713000, x737000, x737001, x737002, x741000 => if x53 = true then (some false) else ((laws_toAutomaton.f k x712000 x712001 x712002).bind fun bt746 => ((laws_eqAutomaton.f k x737000 x737001 x737002 bt746.1 bt746.2.1 bt746.2.2).bind fun t753 => (if t753 = true then ((laws_toTree.f k x713000).bind fun t754 => ((laws_eqTree.f k x741000 t754).bind fun t757 => (if t757 = true then ((laws_markAutomaton.f k x737000 x737001 x737002 1).bind fun bt758 => ((laws_markTree.f k x741000 bt758.1).bind fun bt761 => (if bt761.1 < 0 then (laws_FnExactStatesOf.j1 k x6 x7 x10 true x712000 x712001 x712002 x713000) else ((laws_eqInt64S.f k x10 x6).bind fun t763 => (if t763 = true then (laws_FnExactStatesOf.j1 k x6 x7 x10 (x11 != x7) x712000 x712001 x712002 x713000) else (laws_FnExactStatesOf.j1 k x6 x7 x10 true x712000 x712001 x712002 x713000)))))) else (some false)))) else (some false))))
def laws_FnExactStatesOf.j1 : Nat → List Int → Int → List Int → Bool → Int → List (List Int) → List Int → List Int → Option (Bool)
 | 0, _, _, _, _, _, _, _, _ => none
 | k + 1, x6, x7, x10, x82, x712000, x712001, x712002, x713000 => if x82 = true then (some false) else ((laws_markInt64S.f k x10 1).bind fun bt764 => ((laws_heldInt64S.f k bt764.2 1).bind fun t766 => (if t766 < 0 then (some false) else (if t766 = bt764.1 then ((laws_toAutomaton.f k x712000 x712001 x712002).bind fun bt767 => ((laws_toTree.f k x713000).bind fun t774 => ((impl_StatesOf.f k bt767.1 bt767.2.1 bt767.2.2 t774).bind fun bt777 => ((laws_eqInt64S.f k bt777.1 x6).bind fun t781 => (if t781 = true then (laws_FnExactStatesOf.j2 k bt764.2 bt764.1 (bt777.2 != x7)) else (laws_FnExactStatesOf.j2 k bt764.2 bt764.1 true)))))) else (some false)))))
def laws_FnExactStatesOf.j2 : Nat → List Int → Int → Bool → Option (Bool)
 | 0, _, _, _ => none
 | k + 1, x10, x13, x110 => if x110 = true then (some false) else ((laws_heldInt64S.f k x10 1).bind fun t782 => (if t782 < 0 then (some false) else (if t782 = x13 then (some true) else (some false))))
end
def laws_FnExactStatesOf.f (k : Nat) (a0_0 : Int) (l0_1 : List (List Int)) (l0_2 : List Int) (l1_0 : List Int) : Option (Bool) := (laws_szAutomaton.f k a0_0 l0_1 l0_2 1048576).bind fun t713 => (if t713 < 0 then (some true) else ((laws_szTree.f l1_0 t713).bind fun t714 => (if t714 < 0 then (some true) else ((laws_toAutomaton.f k a0_0 l0_1 l0_2).bind fun bt715 => ((laws_toTree.f k l1_0).bind fun t722 => ((spec_StatesOf.f k bt715.1 bt715.2.1 bt715.2.2 t722).bind fun bt725 => ((laws_toAutomaton.f k a0_0 l0_1 l0_2).bind fun bt729 => ((laws_toTree.f k l1_0).bind fun t737 => ((impl_StatesOf.f k bt729.1 bt729.2.1 bt729.2.2 t737).bind fun bt741 => ((laws_eqInt64S.f k bt741.1 bt725.1).bind fun t745 => (if t745 = true then (laws_FnExactStatesOf.j0 k bt725.1 bt725.2 bt741.1 bt741.2 (bt741.2 != bt725.2) a0_0 l0_1 l0_2 l1_0 bt729.1 bt729.2.1 bt729.2.2 t737) else (laws_FnExactStatesOf.j0 k bt725.1 bt725.2 bt741.1 bt741.2 true a0_0 l0_1 l0_2 l1_0 bt729.1 bt729.2.1 bt729.2.2 t737))))))))))))
def laws_FnExactStatesOf.T8 : Bool × List (List Nat × List Nat) := (true, [([], []), ([0], [0]), ([], []), ([2, 1], [2]), ([1, 3, 3], [1, 3]), ([4], [4]), ([5], [5]), ([5], [5]), ([6, 4, 0, 1, 2, 3, 4, 5, 6], [6]), ([7, 8, 0, 1, 2, 3, 4, 5, 6, 7, 8], [7])])
def laws_FnExactStatesOf.B8 : List Nat := [0, 1, 0, 7, 15, 31, 63, 63, 127, 511]
theorem laws_FnExactStatesOf.tab8 : rtab .any (opsOf Try.f9 8) = laws_FnExactStatesOf.T8 := by kernel_rfl
theorem laws_FnExactStatesOf.bits8 : waitsOk laws_FnExactStatesOf.T8.2 laws_FnExactStatesOf.B8 = true := by kernel_rfl
def laws_FnExactStatesOf.T31 : Bool × List (List Nat × List Nat) := (true, [([], []), ([0], [0]), ([], []), ([2, 1], [2]), ([1, 3, 3], [1, 3]), ([4], [4]), ([5], [5]), ([5], [5]), ([6, 4, 0, 1, 2, 3, 4, 5, 6], [6]), ([7, 8, 0, 1, 2, 3, 4, 5, 6, 7, 8], [7])])
def laws_FnExactStatesOf.B31 : List Nat := [0, 1, 0, 7, 15, 31, 63, 63, 127, 511]
theorem laws_FnExactStatesOf.tab31 : rtab .any (opsOf Try.f9 31) = laws_FnExactStatesOf.T31 := by kernel_rfl
theorem laws_FnExactStatesOf.bits31 : waitsOk laws_FnExactStatesOf.T31.2 laws_FnExactStatesOf.B31 = true := by kernel_rfl
set_option maxHeartbeats 8000000 in
set_option maxRecDepth 100000 in
theorem laws_FnExactStatesOf.calls (k : Nat) (a0_0 : Int) (A0_1 : Option Addr) (c0_1 : Nat) (l0_1 : List (List Int)) (A0_2 : Option Addr) (c0_2 : Nat) (l0_2 : List Int) (A1_0 : Option Addr) (c1_0 : Nat) (l1_0 : List Int) (r : Bool) (w : World) (hr0_1 : Kd.C (Kd.slice 2 (Kd.int .i64)) w A0_1 l0_1.length l0_1) (hc0_1 : l0_1.length ≤ c0_1) (hr0_2 : Kd.C (Kd.int .i64) w A0_2 l0_2.length l0_2) (hc0_2 : l0_2.length ≤ c0_2) (hr1_0 : Kd.C (Kd.int .i64) w A1_0 l1_0.length l1_0) (hc1_0 : l1_0.length ≤ c1_0) (h : laws_FnExactStatesOf.f k a0_0 l0_1 l0_2 l1_0 = some r) :
  Calls Try.prog 9 #[.agg #[.int .i64 a0_0, .slice A0_1 l0_1.length c0_1, .slice A0_2 l0_2.length c0_2], .agg #[.slice A1_0 l1_0.length c1_0]] w fun e w' => e = .returned (.bool r) ∧ Below w.heap.size w w' := by
 have hu25 := Try.underlying25
 have hu45 := Try.underlying45
 have hu28 := Try.underlying28
 have hu49 := Try.underlying49
 have HR0_1 := Aside0.mk hr0_1
 have HC0_1 := Aside0.mk hc0_1
 clear hr0_1 hc0_1
 have HR0_2 := Aside0.mk hr0_2
 have HC0_2 := Aside0.mk hc0_2
 clear hr0_2 hc0_2
 have HR1_0 := Aside0.mk hr1_0
 have HC1_0 := Aside0.mk hc1_0
 clear hr1_0 hc1_0
 have HB := Aside0.mk (Below.refl w.heap.size w)
 have H : ((laws_szAutomaton.f k a0_0 l0_1 l0_2 1048576).bind fun t713 => (if t713 < 0 then (some true) else ((laws_szTree.f l1_0 t713).bind fun t714 => (if t714 < 0 then (some true) else ((laws_toAutomaton.f k a0_0 l0_1 l0_2).bind fun bt715 => ((laws_toTree.f k l1_0).bind fun t722 => ((spec_StatesOf.f k bt715.1 bt715.2.1 bt715.2.2 t722).bind fun bt725 => ((laws_toAutomaton.f k a0_0 l0_1 l0_2).bind fun bt729 => ((laws_toTree.f k l1_0).bind fun t737 => ((impl_StatesOf.f k bt729.1 bt729.2.1 bt729.2.2 t737).bind fun bt741 => ((laws_eqInt64S.f k bt741.1 bt725.1).bind fun t745 => (if t745 = true then (laws_FnExactStatesOf.j0 k bt725.1 bt725.2 bt741.1 bt741.2 (bt741.2 != bt725.2) a0_0 l0_1 l0_2 l1_0 bt729.1 bt729.2.1 bt729.2.2 t737) else (laws_FnExactStatesOf.j0 k bt725.1 bt725.2 bt741.1 bt741.2 true a0_0 l0_1 l0_2 l1_0 bt729.1 bt729.2.1 bt729.2.2 t737))))))))))))) = some r := h
 clear h
 replace H := Option.bind_eq_some_iff.mp H
 obtain ⟨t713, A30, H⟩ := H
 replace H : (if t713 < 0 then (some true) else ((laws_szTree.f l1_0 t713).bind fun t714 => (if t714 < 0 then (some true) else ((laws_toAutomaton.f k a0_0 l0_1 l0_2).bind fun bt715 => ((laws_toTree.f k l1_0).bind fun t722 => ((spec_StatesOf.f k bt715.1 bt715.2.1 bt715.2.2 t722).bind fun bt725 => ((laws_toAutomaton.f k a0_0 l0_1 l0_2).bind fun bt729 => ((laws_toTree.f k l1_0).bind fun t737 => ((impl_StatesOf.f k bt729.1 bt729.2.1 bt729.2.2 t737).bind fun bt741 => ((laws_eqInt64S.f k bt741.1 bt725.1).bind fun t745 => (if t745 = true then (laws_FnExactStatesOf.j0 k bt725.1 bt725.2 bt741.1 bt741.2 (bt741.2 != bt725.2) a0_0 l0_1 l0_2 l1_0 bt729.1 bt729.2.1 bt729.2.2 t737) else (laws_FnExactStatesOf.j0 k bt725.1 bt725.2 bt741.1 bt741.2 true a0_0 l0_1 l0_2 l1_0 bt729.1 bt729.2.1 bt729.2.2 t737)))))))))))) = some r := H
 have A3 := Aside0.mk A30
 clear A30
 by_cases c4 : t713 < 0
 ·rw [if_pos c4] at H
  have c4b0 : decide (t713 < 0) = true := decide_eq_true c4
  clear c4
  obtain rfl := Option.some.inj H
  go_enter Try.func9, Try.ntmps9
  go_wp2_with (first | ((with_reducible refine gate_dst (N := 2) rfl ?_); refine box_event ?hg (N := 2) ?hd (cs := #[.int .i64 a0_0, .slice A0_1 l0_1.length c0_1, .slice A0_2 l0_2.length c0_2]) (t := 25) ?hr ?_; (case hd => rfl); (case hg => rfl); (case hr => first | (go_simp; done) | (go_simp; rfl)); intro gb711 hg w5 hbox hb; have n0_ := Aside0.mk (below_step (by repeat (first | (with_reducible first | exact HB.out | apply below_alloc | apply pw_below_drewN | apply below_drew1) | exact HB.out)) hb); have n1_ := Aside0.mk (hbox); have n2_ := Aside0.mk ((by rw [hg]; exact (below_size (by repeat (first | (with_reducible first | exact HB.out | apply below_alloc | apply pw_below_drewN | apply below_drew1) | exact HB.out))) : w.heap.size ≤ gb711)); have n3_ := Aside0.mk ((by rw [hg]; exact (below_size (by repeat (first | (with_reducible first | exact HB.out | apply below_alloc | apply pw_below_drewN | apply below_drew1) | exact HB.out))) : w.heap.size ≤ gb711)); clear HB; have HB := n0_; have BK711 := n1_; have GW711 := n2_; have GE711 := n3_; clear n0_ n1_ n2_ n3_; clear hb hbox hg) | ((with_reducible refine gate_dst (N := 3) rfl ?_); refine box_event ?hg (N := 3) ?hd (cs := #[.slice A1_0 l1_0.length c1_0]) (t := 45) ?hr ?_; (case hd => rfl); (case hg => rfl); (case hr => first | (go_simp; done) | (go_simp; rfl)); intro gb712 hg w6 hbox hb; have n0_ := Aside0.mk (blk_below (g := gb711) (o := .cells #[.int .i64 a0_0, .slice A0_1 l0_1.length c0_1, .slice A0_2 l0_2.length c0_2] 25 (0, 0)) BK711.out hb); have n1_ := Aside0.mk (below_step (by repeat (first | (with_reducible first | exact HB.out | apply below_alloc | apply pw_below_drewN | apply below_drew1 | refine below_set ?_ GE711.out) | exact HB.out)) hb); have n2_ := Aside0.mk (hbox); have n3_ := Aside0.mk ((by rw [hg]; exact (below_size (by repeat (first | (with_reducible first | exact HB.out | apply below_alloc | apply pw_below_drewN | apply below_drew1 | refine below_set ?_ GE711.out) | exact HB.out))) : w.heap.size ≤ gb712)); have n4_ := Aside0.mk ((by rw [hg]; exact (below_size (by repeat (first | (with_reducible first | exact HB.out | apply below_alloc | apply pw_below_drewN | apply below_drew1 | refine below_set ?_ GE711.out) | exact HB.out))) : w.heap.size ≤ gb712)); have n5_ := Aside0.mk ((by rw [hg]; exact Nat.ne_of_lt (blk_lt (g := gb711) (o := .cells #[.int .i64 a0_0, .slice A0_1 l0_1.length c0_1, .slice A0_2 l0_2.length c0_2] 25 (0, 0)) BK711.out) : gb711 ≠ gb712)); have n6_ := Aside0.mk ((by rw [hg]; exact Nat.ne_of_gt (blk_lt (g := gb711) (o := .cells #[.int .i64 a0_0, .slice A0_1 l0_1.length c0_1, .slice A0_2 l0_2.length c0_2] 25 (0, 0)) BK711.out) : gb712 ≠ gb711)); clear BK711; clear HB; have BK711 := n0_; have HB := n1_; have BK712 := n2_; have GW712 := n3_; have GE712 := n4_; have NB711_712 := n5_; have NB712_711 := n6_; clear n0_ n1_ n2_ n3_ n4_ n5_ n6_; clear hb hbox hg; have hnb7 := NB711_712.out; have hnc7 := NB712_711.out; have hcz8_0 : w6.cell? ⟨gb711, 0, none⟩ = some (.int .i64 a0_0) := (blk_cell BK711.out 0).trans rfl; have hcz8_1 : w6.cell? ⟨gb711, 1, none⟩ = some (.slice A0_1 l0_1.length c0_1) := (blk_cell BK711.out 1).trans rfl; have hcz8_2 : w6.cell? ⟨gb711, 2, none⟩ = some (.slice A0_2 l0_2.length c0_2) := (blk_cell BK711.out 2).trans rfl; have hfz8_0 := blk_frozen BK711.out 0; have hfz8_1 := blk_frozen BK711.out 1; have hfz8_2 := blk_frozen BK711.out 2) | ((with_reducible refine gate_callee (f := 10) rfl ?_); refine goesL_ (some 19) rfl rfl Try.func10 (by kernel_rfl) rfl #[.agg #[.int .i64 a0_0, .slice A0_1 l0_1.length c0_1, .slice A0_2 l0_2.length c0_2], .int .i64 1048576] rfl (by (try simp only [List.map_toArray, List.map_cons, List.map_nil]); first | done | rfl) ?_; (with_reducible refine (laws_szAutomaton.calls k a0_0 _ _ l0_1 _ _ l0_2 1048576 t713 _ ?side1 ?side2 ?side3 ?side4 A3.out).mono ?_); (case side1 => repeat (first | exact (Kd.C_below HR0_1.out HB.out) | (with_reducible refine Kd.C_alloc ?_ _) | (with_reducible refine Kd.C_drewN ?_ _) | (with_reducible refine Kd.C_drew ?_))); (case side2 => exact HC0_1.out); (case side3 => repeat (first | exact (Kd.C_below HR0_2.out HB.out) | (with_reducible refine Kd.C_alloc ?_ _) | (with_reducible refine Kd.C_drewN ?_ _) | (with_reducible refine Kd.C_drew ?_))); (case side4 => exact HC0_2.out); rintro e w9 ⟨rfl, hb⟩; refine ⟨_, rfl, ?_⟩; have n0_ := Aside0.mk (blk_below (g := gb711) (o := .cells #[.int .i64 a0_0, .slice A0_1 l0_1.length c0_1, .slice A0_2 l0_2.length c0_2] 25 (0, 0)) BK711.out hb); have n1_ := Aside0.mk (blk_below (g := gb712) (o := .cells #[.slice A1_0 l1_0.length c1_0] 45 (0, 0)) BK712.out hb); have n2_ := Aside0.mk (below_step (by repeat (first | (with_reducible first | exact HB.out | apply below_alloc | apply pw_below_drewN | apply below_drew1 | refine below_set ?_ GE711.out | refine below_set ?_ GE712.out) | exact HB.out)) hb); clear BK711; clear BK712; clear HB; have BK711 := n0_; have BK712 := n1_; have HB := n2_; clear n0_ n1_ n2_; (try clear hb); (try clear hb2); (try clear hk); (try clear hi)))
  go_ret
  exact ⟨by first | rfl | (simp [errW_none, errW_some] <;> rfl) | (simp [*, errW_none, errW_some] <;> rfl), by repeat (first | (with_reducible first | exact HB.out | apply below_alloc | apply pw_below_drewN | apply below_drew1 | refine below_set ?_ GE711.out | refine below_set ?_ GE712.out) | exact HB.out)⟩
 ·rw [if_neg c4] at H
  have c4b0 : decide (t713 < 0) = false := decide_eq_false c4
  clear c4
  replace H := Option.bind_eq_some_iff.mp H
  obtain ⟨t714, A100, H⟩ := H
  replace H : (if t714 < 0 then (some true) else ((laws_toAutomaton.f k a0_0 l0_1 l0_2).bind fun bt715 => ((laws_toTree.f k l1_0).bind fun t722 => ((spec_StatesOf.f k bt715.1 bt715.2.1 bt715.2.2 t722).bind fun bt725 => ((laws_toAutomaton.f k a0_0 l0_1 l0_2).bind fun bt729 => ((laws_toTree.f k l1_0).bind fun t737 => ((impl_StatesOf.f k bt729.1 bt729.2.1 bt729.2.2 t737).bind fun bt741 => ((laws_eqInt64S.f k bt741.1 bt725.1).bind fun t745 => (if t745 = true then (laws_FnExactStatesOf.j0 k bt725.1 bt725.2 bt741.1 bt741.2 (bt741.2 != bt725.2) a0_0 l0_1 l0_2 l1_0 bt729.1 bt729.2.1 bt729.2.2 t737) else (laws_FnExactStatesOf.j0 k bt725.1 bt725.2 bt741.1 bt741.2 true a0_0 l0_1 l0_2 l1_0 bt729.1 bt729.2.1 bt729.2.2 t737)))))))))) = some r := H
  have A10 := Aside0.mk A100
  clear A100
  by_cases c11 : t714 < 0
  ·rw [if_pos c11] at H
   have c11b0 : decide (t714 < 0) = true := decide_eq_true c11
   clear c11
   obtain rfl := Option.some.inj H
   go_enter Try.func9, Try.ntmps9
   go_wp2_with (first | ((with_reducible refine gate_dst (N := 2) rfl ?_); refine box_event ?hg (N := 2) ?hd (cs := #[.int .i64 a0_0, .slice A0_1 l0_1.length c0_1, .slice A0_2 l0_2.length c0_2]) (t := 25) ?hr ?_; (case hd => rfl); (case hg => rfl); (case hr => first | (go_simp; done) | (go_simp; rfl)); intro gb711 hg w12 hbox hb; have n0_ := Aside0.mk (below_step (by repeat (first | (with_reducible first | exact HB.out | apply below_alloc | apply pw_below_drewN | apply below_drew1) | exact HB.out)) hb); have n1_ := Aside0.mk (hbox); have n2_ := Aside0.mk ((by rw [hg]; exact (below_size (by repeat (first | (with_reducible first | exact HB.out | apply below_alloc | apply pw_below_drewN | apply below_drew1) | exact HB.out))) : w.heap.size ≤ gb711)); have n3_ := Aside0.mk ((by rw [hg]; exact (below_size (by repeat (first | (with_reducible first | exact HB.out | apply below_alloc | apply pw_below_drewN | apply below_drew1) | exact HB.out))) : w.heap.size ≤ gb711)); clear HB; have HB := n0_; have BK711 := n1_; have GW711 := n2_; have GE711 := n3_; clear n0_ n1_ n2_ n3_; clear hb hbox hg) | ((with_reducible refine gate_dst (N := 3) rfl ?_); refine box_event ?hg (N := 3) ?hd (cs := #[.slice A1_0 l1_0.length c1_0]) (t := 45) ?hr ?_; (case hd => rfl); (case hg => rfl); (case hr => first | (go_simp; done) | (go_simp; rfl)); intro gb712 hg w13 hbox hb; have n0_ := Aside0.mk (blk_below (g := gb711) (o := .cells #[.int .i64 a0_0, .slice A0_1 l0_1.length c0_1, .slice A0_2 l0_2.length c0_2] 25 (0, 0)) BK711.out hb); have n1_ := Aside0.mk (below_step (by repeat (first | (with_reducible first | exact HB.out | apply below_alloc | apply pw_below_drewN | apply below_drew1 | refine below_set ?_ GE711.out) | exact HB.out)) hb); have n2_ := Aside0.mk (hbox); have n3_ := Aside0.mk ((by rw [hg]; exact (below_size (by repeat (first | (with_reducible first | exact HB.out | apply below_alloc | apply pw_below_drewN | apply below_drew1 | refine below_set ?_ GE711.out) | exact HB.out))) : w.heap.size ≤ gb712)); have n4_ := Aside0.mk ((by rw [hg]; exact (below_size (by repeat (first | (with_reducible first | exact HB.out | apply below_alloc | apply pw_below_drewN | apply below_drew1 | refine below_set ?_ GE711.out) | exact HB.out))) : w.heap.size ≤ gb712)); have n5_ := Aside0.mk ((by rw [hg]; exact Nat.ne_of_lt (blk_lt (g := gb711) (o := .cells #[.int .i64 a0_0, .slice A0_1 l0_1.length c0_1, .slice A0_2 l0_2.length c0_2] 25 (0, 0)) BK711.out) : gb711 ≠ gb712)); have n6_ := Aside0.mk ((by rw [hg]; exact Nat.ne_of_gt (blk_lt (g := gb711) (o := .cells #[.int .i64 a0_0, .slice A0_1 l0_1.length c0_1, .slice A0_2 l0_2.length c0_2] 25 (0, 0)) BK711.out) : gb712 ≠ gb711)); clear BK711; clear HB; have BK711 := n0_; have HB := n1_; have BK712 := n2_; have GW712 := n3_; have GE712 := n4_; have NB711_712 := n5_; have NB712_711 := n6_; clear n0_ n1_ n2_ n3_ n4_ n5_ n6_; clear hb hbox hg; have hnb14 := NB711_712.out; have hnc14 := NB712_711.out; have hcz15_0 : w13.cell? ⟨gb711, 0, none⟩ = some (.int .i64 a0_0) := (blk_cell BK711.out 0).trans rfl; have hcz15_1 : w13.cell? ⟨gb711, 1, none⟩ = some (.slice A0_1 l0_1.length c0_1) := (blk_cell BK711.out 1).trans rfl; have hcz15_2 : w13.cell? ⟨gb711, 2, none⟩ = some (.slice A0_2 l0_2.length c0_2) := (blk_cell BK711.out 2).trans rfl; have hfz15_0 := blk_frozen BK711.out 0; have hfz15_1 := blk_frozen BK711.out 1; have hfz15_2 := blk_frozen BK711.out 2) | ((with_reducible refine gate_callee (f := 10) rfl ?_); refine goesL_ (some 19) rfl rfl Try.func10 (by kernel_rfl) rfl #[.agg #[.int .i64 a0_0, .slice A0_1 l0_1.length c0_1, .slice A0_2 l0_2.length c0_2], .int .i64 1048576] rfl (by (try simp only [List.map_toArray, List.map_cons, List.map_nil]); first | done | rfl) ?_; (with_reducible refine (laws_szAutomaton.calls k a0_0 _ _ l0_1 _ _ l0_2 1048576 t713 _ ?side1 ?side2 ?side3 ?side4 A3.out).mono ?_); (case side1 => repeat (first | exact (Kd.C_below HR0_1.out HB.out) | (with_reducible refine Kd.C_alloc ?_ _) | (with_reducible refine Kd.C_drewN ?_ _) | (with_reducible refine Kd.C_drew ?_))); (case side2 => exact HC0_1.out); (case side3 => repeat (first | exact (Kd.C_below HR0_2.out HB.out) | (with_reducible refine Kd.C_alloc ?_ _) | (with_reducible refine Kd.C_drewN ?_ _) | (with_reducible refine Kd.C_drew ?_))); (case side4 => exact HC0_2.out); rintro e w16 ⟨rfl, hb⟩; refine ⟨_, rfl, ?_⟩; have n0_ := Aside0.mk (blk_below (g := gb711) (o := .cells #[.int .i64 a0_0, .slice A0_1 l0_1.length c0_1, .slice A0_2 l0_2.length c0_2] 25 (0, 0)) BK711.out hb); have n1_ := Aside0.mk (blk_below (g := gb712) (o := .cells #[.slice A1_0 l1_0.length c1_0] 45 (0, 0)) BK712.out hb); have n2_ := Aside0.mk (below_step (by repeat (first | (with_reducible first | exact HB.out | apply below_alloc | apply pw_below_drewN | apply below_drew1 | refine below_set ?_ GE711.out | refine below_set ?_ GE712.out) | exact HB.out)) hb); clear BK711; clear BK712; clear HB; have BK711 := n0_; have BK712 := n1_; have HB := n2_; clear n0_ n1_ n2_; (try clear hb); (try clear hb2); (try clear hk); (try clear hi); have hcz17_0 : w16.cell? ⟨gb712, 0, none⟩ = some (.slice A1_0 l1_0.length c1_0) := (blk_cell BK712.out 0).trans rfl; have hfz17_0 := blk_frozen BK712.out 0) | ((with_reducible refine gate_callee (f := 28) rfl ?_); refine goesL_ (some 24) rfl rfl Try.func28 (by kernel_rfl) rfl #[.agg #[.slice A1_0 l1_0.length c1_0], .int .i64 t713] rfl (by (try simp only [List.map_toArray, List.map_cons, List.map_nil]); first | done | rfl) ?_; (with_reducible refine (laws_szTree.calls _ _ l1_0 t713 t714 _ ?side1 ?side2 A10.out).mono ?_); (case side1 => repeat (first | exact (Kd.C_below HR1_0.out HB.out) | (with_reducible refine Kd.C_alloc ?_ _) | (with_reducible refine Kd.C_drewN ?_ _) | (with_reducible refine Kd.C_drew ?_))); (case side2 => exact HC1_0.out); rintro e w18 ⟨rfl, hb⟩; refine ⟨_, rfl, ?_⟩; have n0_ := Aside0.mk (blk_below (g := gb711) (o := .cells #[.int .i64 a0_0, .slice A0_1 l0_1.length c0_1, .slice A0_2 l0_2.length c0_2] 25 (0, 0)) BK711.out hb); have n1_ := Aside0.mk (blk_below (g := gb712) (o := .cells #[.slice A1_0 l1_0.length c1_0] 45 (0, 0)) BK712.out hb); have n2_ := Aside0.mk (below_step (by repeat (first | (with_reducible first | exact HB.out | apply below_alloc | apply pw_below_drewN | apply below_drew1 | refine below_set ?_ GE711.out | refine below_set ?_ GE712.out) | exact HB.out)) hb); clear BK711; clear BK712; clear HB; have BK711 := n0_; have BK712 := n1_; have HB := n2_; clear n0_ n1_ n2_; (try clear hb); (try clear hb2); (try clear hk); (try clear hi)))
   go_ret
   exact ⟨by first | rfl | (simp [errW_none, errW_some] <;> rfl) | (simp [*, errW_none, errW_some] <;> rfl), by repeat (first | (with_reducible first | exact HB.out | apply below_alloc | apply pw_below_drewN | apply below_drew1 | refine below_set ?_ GE711.out | refine below_set ?_ GE712.out) | exact HB.out)⟩
  ·rw [if_neg c11] at H
   have c11b0 : decide (t714 < 0) = false := decide_eq_false c11
   clear c11
   replace H := Option.bind_eq_some_iff.mp H
   obtain ⟨⟨t715, t716, t719⟩, A190, H⟩ := H
   replace H : ((laws_toTree.f k l1_0).bind fun t722 => ((spec_StatesOf.f k t715 t716 t719 t722).bind fun bt725 => ((laws_toAutomaton.f k a0_0 l0_1 l0_2).bind fun bt729 => ((laws_toTree.f k l1_0).bind fun t737 => ((impl_StatesOf.f k bt729.1 bt729.2.1 bt729.2.2 t737).bind fun bt741 => ((laws_eqInt64S.f k bt741.1 bt725.1).bind fun t745 => (if t745 = true then (laws_FnExactStatesOf.j0 k bt725.1 bt725.2 bt741.1 bt741.2 (bt741.2 != bt725.2) a0_0 l0_1 l0_2 l1_0 bt729.1 bt729.2.1 bt729.2.2 t737) else (laws_FnExactStatesOf.j0 k bt725.1 bt725.2 bt741.1 bt741.2 true a0_0 l0_1 l0_2 l1_0 bt729.1 bt729.2.1 bt729.2.2 t737)))))))) = some r := H
   have A19 := Aside0.mk A190
   clear A190
   replace H := Option.bind_eq_some_iff.mp H
   obtain ⟨t722, A200, H⟩ := H
   replace H : ((spec_StatesOf.f k t715 t716 t719 t722).bind fun bt725 => ((laws_toAutomaton.f k a0_0 l0_1 l0_2).bind fun bt729 => ((laws_toTree.f k l1_0).bind fun t737 => ((impl_StatesOf.f k bt729.1 bt729.2.1 bt729.2.2 t737).bind fun bt741 => ((laws_eqInt64S.f k bt741.1 bt725.1).bind fun t745 => (if t745 = true then (laws_FnExactStatesOf.j0 k bt725.1 bt725.2 bt741.1 bt741.2 (bt741.2 != bt725.2) a0_0 l0_1 l0_2 l1_0 bt729.1 bt729.2.1 bt729.2.2 t737) else (laws_FnExactStatesOf.j0 k bt725.1 bt725.2 bt741.1 bt741.2 true a0_0 l0_1 l0_2 l1_0 bt729.1 bt729.2.1 bt729.2.2 t737))))))) = some r := H
   have A20 := Aside0.mk A200
   clear A200
   replace H := Option.bind_eq_some_iff.mp H
   obtain ⟨⟨t725, t728⟩, A210, H⟩ := H
   replace H : ((laws_toAutomaton.f k a0_0 l0_1 l0_2).bind fun bt729 => ((laws_toTree.f k l1_0).bind fun t737 => ((impl_StatesOf.f k bt729.1 bt729.2.1 bt729.2.2 t737).bind fun bt741 => ((laws_eqInt64S.f k bt741.1 t725).bind fun t745 => (if t745 = true then (laws_FnExactStatesOf.j0 k t725 t728 bt741.1 bt741.2 (bt741.2 != t728) a0_0 l0_1 l0_2 l1_0 bt729.1 bt729.2.1 bt729.2.2 t737) else (laws_FnExactStatesOf.j0 k t725 t728 bt741.1 bt741.2 true a0_0 l0_1 l0_2 l1_0 bt729.1 bt729.2.1 bt729.2.2 t737)))))) = some r := H
   have A21 := Aside0.mk A210
   clear A210
   replace H := Option.bind_eq_some_iff.mp H
   obtain ⟨⟨t729, t730, t733⟩, A220, H⟩ := H
   replace H : ((laws_toTree.f k l1_0).bind fun t737 => ((impl_StatesOf.f k t729 t730 t733 t737).bind fun bt741 => ((laws_eqInt64S.f k bt741.1 t725).bind fun t745 => (if t745 = true then (laws_FnExactStatesOf.j0 k t725 t728 bt741.1 bt741.2 (bt741.2 != t728) a0_0 l0_1 l0_2 l1_0 t729 t730 t733 t737) else (laws_FnExactStatesOf.j0 k t725 t728 bt741.1 bt741.2 true a0_0 l0_1 l0_2 l1_0 t729 t730 t733 t737))))) = some r := H
   have A22 := Aside0.mk A220
   clear A220
   replace H := Option.bind_eq_some_iff.mp H
   obtain ⟨t737, A230, H⟩ := H
   replace H : ((impl_StatesOf.f k t729 t730 t733 t737).bind fun bt741 => ((laws_eqInt64S.f k bt741.1 t725).bind fun t745 => (if t745 = true then (laws_FnExactStatesOf.j0 k t725 t728 bt741.1 bt741.2 (bt741.2 != t728) a0_0 l0_1 l0_2 l1_0 t729 t730 t733 t737) else (laws_FnExactStatesOf.j0 k t725 t728 bt741.1 bt741.2 true a0_0 l0_1 l0_2 l1_0 t729 t730 t733 t737)))) = some r := H
   have A23 := Aside0.mk A230
   clear A230
   replace H := Option.bind_eq_some_iff.mp H
   obtain ⟨⟨t741, t744⟩, A240, H⟩ := H
   replace H : ((laws_eqInt64S.f k t741 t725).bind fun t745 => (if t745 = true then (laws_FnExactStatesOf.j0 k t725 t728 t741 t744 (t744 != t728) a0_0 l0_1 l0_2 l1_0 t729 t730 t733 t737) else (laws_FnExactStatesOf.j0 k t725 t728 t741 t744 true a0_0 l0_1 l0_2 l1_0 t729 t730 t733 t737))) = some r := H
   have A24 := Aside0.mk A240
   clear A240
   have HC25 := Aside0.mk H
   clear H
   go_enter Try.func9, Try.ntmps9
   try go_wp2_with (first | ((with_reducible refine gate_dst (N := 2) rfl ?_); refine box_event ?hg (N := 2) ?hd (cs := #[.int .i64 a0_0, .slice A0_1 l0_1.length c0_1, .slice A0_2 l0_2.length c0_2]) (t := 25) ?hr ?_; (case hd => rfl); (case hg => rfl); (case hr => first | (go_simp; done) | (go_simp; rfl)); intro gb711 hg w26 hbox hb; have n0_ := Aside0.mk (below_step (by repeat (first | (with_reducible first | exact HB.out | apply below_alloc | apply pw_below_drewN | apply below_drew1) | exact HB.out)) hb); have n1_ := Aside0.mk (hbox); have n2_ := Aside0.mk ((by rw [hg]; exact (below_size (by repeat (first | (with_reducible first | exact HB.out | apply below_alloc | apply pw_below_drewN | apply below_drew1) | exact HB.out))) : w.heap.size ≤ gb711)); have n3_ := Aside0.mk ((by rw [hg]; exact (below_size (by repeat (first | (with_reducible first | exact HB.out | apply below_alloc | apply pw_below_drewN | apply below_drew1) | exact HB.out))) : w.heap.size ≤ gb711)); clear HB; have HB := n0_; have BK711 := n1_; have GW711 := n2_; have GE711 := n3_; clear n0_ n1_ n2_ n3_; clear hb hbox hg) | ((with_reducible refine gate_dst (N := 3) rfl ?_); refine box_event ?hg (N := 3) ?hd (cs := #[.slice A1_0 l1_0.length c1_0]) (t := 45) ?hr ?_; (case hd => rfl); (case hg => rfl); (case hr => first | (go_simp; done) | (go_simp; rfl)); intro gb712 hg w27 hbox hb; have n0_ := Aside0.mk (blk_below (g := gb711) (o := .cells #[.int .i64 a0_0, .slice A0_1 l0_1.length c0_1, .slice A0_2 l0_2.length c0_2] 25 (0, 0)) BK711.out hb); have n1_ := Aside0.mk (below_step (by repeat (first | (with_reducible first | exact HB.out | apply below_alloc | apply pw_below_drewN | apply below_drew1 | refine below_set ?_ GE711.out) | exact HB.out)) hb); have n2_ := Aside0.mk (hbox); have n3_ := Aside0.mk ((by rw [hg]; exact (below_size (by repeat (first | (with_reducible first | exact HB.out | apply below_alloc | apply pw_below_drewN | apply below_drew1 | refine below_set ?_ GE711.out) | exact HB.out))) : w.heap.size ≤ gb712)); have n4_ := Aside0.mk ((by rw [hg]; exact (below_size (by repeat (first | (with_reducible first | exact HB.out | apply below_alloc | apply pw_below_drewN | apply below_drew1 | refine below_set ?_ GE711.out) | exact HB.out))) : w.heap.size ≤ gb712)); have n5_ := Aside0.mk ((by rw [hg]; exact Nat.ne_of_lt (blk_lt (g := gb711) (o := .cells #[.int .i64 a0_0, .slice A0_1 l0_1.length c0_1, .slice A0_2 l0_2.length c0_2] 25 (0, 0)) BK711.out) : gb711 ≠ gb712)); have n6_ := Aside0.mk ((by rw [hg]; exact Nat.ne_of_gt (blk_lt (g := gb711) (o := .cells #[.int .i64 a0_0, .slice A0_1 l0_1.length c0_1, .slice A0_2 l0_2.length c0_2] 25 (0, 0)) BK711.out) : gb712 ≠ gb711)); clear BK711; clear HB; have BK711 := n0_; have HB := n1_; have BK712 := n2_; have GW712 := n3_; have GE712 := n4_; have NB711_712 := n5_; have NB712_711 := n6_; clear n0_ n1_ n2_ n3_ n4_ n5_ n6_; clear hb hbox hg; have hnb28 := NB711_712.out; have hnc28 := NB712_711.out; have hcz29_0 : w27.cell? ⟨gb711, 0, none⟩ = some (.int .i64 a0_0) := (blk_cell BK711.out 0).trans rfl; have hcz29_1 : w27.cell? ⟨gb711, 1, none⟩ = some (.slice A0_1 l0_1.length c0_1) := (blk_cell BK711.out 1).trans rfl; have hcz29_2 : w27.cell? ⟨gb711, 2, none⟩ = some (.slice A0_2 l0_2.length c0_2) := (blk_cell BK711.out 2).trans rfl; have hfz29_0 := blk_frozen BK711.out 0; have hfz29_1 := blk_frozen BK711.out 1; have hfz29_2 := blk_frozen BK711.out 2) | ((with_reducible refine gate_callee (f := 10) rfl ?_); refine goesL_ (some 19) rfl rfl Try.func10 (by kernel_rfl) rfl #[.agg #[.int .i64 a0_0, .slice A0_1 l0_1.length c0_1, .slice A0_2 l0_2.length c0_2], .int .i64 1048576] rfl (by (try simp only [List.map_toArray, List.map_cons, List.map_nil]); first | done | rfl) ?_; (with_reducible refine (laws_szAutomaton.calls k a0_0 _ _ l0_1 _ _ l0_2 1048576 t713 _ ?side1 ?side2 ?side3 ?side4 A3.out).mono ?_); (case side1 => repeat (first | exact (Kd.C_below HR0_1.out HB.out) | (with_reducible refine Kd.C_alloc ?_ _) | (with_reducible refine Kd.C_drewN ?_ _) | (with_reducible refine Kd.C_drew ?_))); (case side2 => exact HC0_1.out); (case side3 => repeat (first | exact (Kd.C_below HR0_2.out HB.out) | (with_reducible refine Kd.C_alloc ?_ _) | (with_reducible refine Kd.C_drewN ?_ _) | (with_reducible refine Kd.C_drew ?_))); (case side4 => exact HC0_2.out); rintro e w30 ⟨rfl, hb⟩; refine ⟨_, rfl, ?_⟩; have n0_ := Aside0.mk (blk_below (g := gb711) (o := .cells #[.int .i64 a0_0, .slice A0_1 l0_1.length c0_1, .slice A0_2 l0_2.length c0_2] 25 (0, 0)) BK711.out hb); have n1_ := Aside0.mk (blk_below (g := gb712) (o := .cells #[.slice A1_0 l1_0.length c1_0] 45 (0, 0)) BK712.out hb); have n2_ := Aside0.mk (below_step (by repeat (first | (with_reducible first | exact HB.out | apply below_alloc | apply pw_below_drewN | apply below_drew1 | refine below_set ?_ GE711.out | refine below_set ?_ GE712.out) | exact HB.out)) hb); clear BK711; clear BK712; clear HB; have BK711 := n0_; have BK712 := n1_; have HB := n2_; clear n0_ n1_ n2_; (try clear hb); (try clear hb2); (try clear hk); (try clear hi); have hcz31_0 : w30.cell? ⟨gb712, 0, none⟩ = some (.slice A1_0 l1_0.length c1_0) := (blk_cell BK712.out 0).trans rfl; have hfz31_0 := blk_frozen BK712.out 0) | ((with_reducible refine gate_callee (f := 28) rfl ?_); refine goesL_ (some 24) rfl rfl Try.func28 (by kernel_rfl) rfl #[.agg #[.slice A1_0 l1_0.length c1_0], .int .i64 t713] rfl (by (try simp only [List.map_toArray, List.map_cons, List.map_nil]); first | done | rfl) ?_; (with_reducible refine (laws_szTree.calls _ _ l1_0 t713 t714 _ ?side1 ?side2 A10.out).mono ?_); (case side1 => repeat (first | exact (Kd.C_below HR1_0.out HB.out) | (with_reducible refine Kd.C_alloc ?_ _) | (with_reducible refine Kd.C_drewN ?_ _) | (with_reducible refine Kd.C_drew ?_))); (case side2 => exact HC1_0.out); rintro e w32 ⟨rfl, hb⟩; refine ⟨_, rfl, ?_⟩; have n0_ := Aside0.mk (blk_below (g := gb711) (o := .cells #[.int .i64 a0_0, .slice A0_1 l0_1.length c0_1, .slice A0_2 l0_2.length c0_2] 25 (0, 0)) BK711.out hb); have n1_ := Aside0.mk (blk_below (g := gb712) (o := .cells #[.slice A1_0 l1_0.length c1_0] 45 (0, 0)) BK712.out hb); have n2_ := Aside0.mk (below_step (by repeat (first | (with_reducible first | exact HB.out | apply below_alloc | apply pw_below_drewN | apply below_drew1 | refine below_set ?_ GE711.out | refine below_set ?_ GE712.out) | exact HB.out)) hb); clear BK711; clear BK712; clear HB; have BK711 := n0_; have BK712 := n1_; have HB := n2_; clear n0_ n1_ n2_; (try clear hb); (try clear hb2); (try clear hk); (try clear hi)))
   have n0_ := Aside0.mk (blk_drew BK711.out)
   have n1_ := Aside0.mk (blk_drew BK712.out)
   have n2_ := Aside0.mk (below_drew1 HB.out)
   clear BK711
   clear BK712
   clear HB
   have BK711 := n0_
   have BK712 := n1_
   have HB := n2_
   clear n0_ n1_ n2_
   refine start_ (n := 10) (S := fun w' => w'.cell? ⟨gb711, 0, none⟩ = some (.int .i64 a0_0) ∧ w'.cell? ⟨gb711, 1, none⟩ = some (.slice A0_1 l0_1.length c0_1) ∧ w'.cell? ⟨gb711, 2, none⟩ = some (.slice A0_2 l0_2.length c0_2) ∧ w'.cell? ⟨gb712, 0, none⟩ = some (.slice A1_0 l1_0.length c1_0)) (ds := []) #[false, false, false, false, false, false, false, false, false, false] (by kernel_rfl) rfl rfl ⟨(blk_cell BK711.out 0).trans rfl, (blk_cell BK711.out 1).trans rfl, (blk_cell BK711.out 2).trans rfl, (blk_cell BK712.out 0).trans rfl⟩ (fun hHeld => ?_); refine with_tabW laws_FnExactStatesOf.tab8 laws_FnExactStatesOf.bits8 (fun HT_ HW_ => ?_)
   generalize w32.drew = w33 at BK711 BK712 HB hHeld ⊢
   refine take_ (i := 0) (N := some 28) (v := ?_) (a' := ?_) #[true, false, false, false, false, false, false, false, false, false] rfl rfl (take_ofW HT_.out HW_.out (by kernel_rfl)) (fun _ _ _ h => h) (Or.inl ⟨by rfl, ?_⟩) hHeld ?_ ?_
   rotate_left
   ·rintro w' ⟨s0, s1, s2, s3⟩
    go_simp
    with_reducible rfl
   rotate_left
   ·simp only [Act.put, List.setIfInBounds_toArray, List.set_cons_zero, List.set_cons_succ, i64_w, i32_w]
    rfl
   refine take_ (i := 2) (N := some 30) (v := ?_) (a' := ?_) #[true, false, true, false, false, false, false, false, false, false] rfl rfl (take_ofW HT_.out HW_.out (by kernel_rfl)) (fun _ _ _ h => h) (Or.inl ⟨by rfl, ?_⟩) hHeld ?_ ?_
   rotate_left
   ·rintro w' ⟨s0, s1, s2, s3⟩
    go_simp
    with_reducible rfl
   rotate_left
   ·simp only [Act.put, List.setIfInBounds_toArray, List.set_cons_zero, List.set_cons_succ, i64_w, i32_w]
    rfl
   refine one_ (i := 1) (N := some 29) #[true, true, true, false, false, false, false, false, false, false] rfl rfl (one_of HT_.out (by kernel_rfl)) (by decide) (fun K hK => ?_)
   refine goes_ Try.func12 (by kernel_rfl) rfl #[.agg #[.int .i64 a0_0, .slice A0_1 l0_1.length c0_1, .slice A0_2 l0_2.length c0_2]] (by rfl) rfl rfl (by (try simp only [List.map_toArray, List.map_cons, List.map_nil]); first | done | rfl) ?_
   with_reducible refine (laws_toAutomaton.calls k a0_0 _ _ l0_1 _ _ l0_2 t715 t716 t719 _ ?side1 ?side2 ?side3 ?side4 A19.out).mono ?_
   (case side1 => repeat (first | exact (Kd.C_below HR0_1.out HB.out) | (with_reducible refine Kd.C_alloc ?_ _) | (with_reducible refine Kd.C_drewN ?_ _) | (with_reducible refine Kd.C_drew ?_)))
   (case side2 => exact HC0_1.out)
   (case side3 => repeat (first | exact (Kd.C_below HR0_2.out HB.out) | (with_reducible refine Kd.C_alloc ?_ _) | (with_reducible refine Kd.C_drewN ?_ _) | (with_reducible refine Kd.C_drew ?_)))
   (case side4 => exact HC0_2.out)
   rintro e w34 ⟨v717, v720, rfl, ho0, ho1, hb⟩
   refine ⟨_, rfl, ?_⟩
   have n0_ := Aside0.mk (Kd.S_lower ho0 (below_size (by repeat (first | (with_reducible first | exact HB.out | apply below_alloc | apply pw_below_drewN | apply below_drew1 | refine below_set ?_ GE711.out | refine below_set ?_ GE712.out) | exact HB.out))))
   have n1_ := Aside0.mk (Kd.R_lower ho1 (below_size (by repeat (first | (with_reducible first | exact HB.out | apply below_alloc | apply pw_below_drewN | apply below_drew1 | refine below_set ?_ GE711.out | refine below_set ?_ GE712.out) | exact HB.out))))
   have n2_ := Aside0.mk (blk_below (g := gb711) (o := .cells #[.int .i64 a0_0, .slice A0_1 l0_1.length c0_1, .slice A0_2 l0_2.length c0_2] 25 (0, 0)) BK711.out hb)
   have n3_ := Aside0.mk (blk_below (g := gb712) (o := .cells #[.slice A1_0 l1_0.length c1_0] 45 (0, 0)) BK712.out hb)
   have n4_ := Aside0.mk (below_step (by repeat (first | (with_reducible first | exact HB.out | apply below_alloc | apply pw_below_drewN | apply below_drew1 | refine below_set ?_ GE711.out | refine below_set ?_ GE712.out) | exact HB.out)) hb)
   clear BK711
   clear BK712
   clear HB
   have HO718 := n0_
   have HO721 := n1_
   have BK711 := n2_
   have BK712 := n3_
   have HB := n4_
   clear n0_ n1_ n2_ n3_ n4_
   (try clear hb)
   (try clear hb2)
   (try clear hk)
   (try clear hi)
   (try clear ho0)
   (try clear ho1)
   refine hK.out _ _ ⟨(blk_cell BK711.out 0).trans rfl, (blk_cell BK711.out 1).trans rfl, (blk_cell BK711.out 2).trans rfl, (blk_cell BK712.out 0).trans rfl⟩ (fun hHeld => ?_)
   clear hK K
   refine norm_ (a' := ?_) ?_ ?_
   rotate_left
   ·show Act.put _ (some 29) _ = _
    simp only [Act.put, List.setIfInBounds_toArray, List.set_cons_zero, List.set_cons_succ, i64_w, i32_w]
    rfl
   refine one_ (i := 3) (N := some 31) #[true, true, true, true, false, false, false, false, false, false] rfl rfl (one_of HT_.out (by kernel_rfl)) (by decide) (fun K hK => ?_)
   refine goes_ Try.func30 (by kernel_rfl) rfl #[.agg #[.slice A1_0 l1_0.length c1_0]] (by rfl) rfl rfl (by (try simp only [List.map_toArray, List.map_cons, List.map_nil]); first | done | rfl) ?_
   with_reducible refine (laws_toTree.calls k _ _ l1_0 t722 _ ?side1 ?side2 A20.out).mono ?_
   (case side1 => repeat (first | exact (Kd.C_below HR1_0.out HB.out) | (with_reducible refine Kd.C_alloc ?_ _) | (with_reducible refine Kd.C_drewN ?_ _) | (with_reducible refine Kd.C_drew ?_)))
   (case side2 => exact HC1_0.out)
   rintro e w35 ⟨v723, rfl, ho0, hb⟩
   refine ⟨_, rfl, ?_⟩
   have n0_ := Aside0.mk (Kd.S_elder' HO718.out (Kd.R_base ho0) hb)
   have n1_ := Aside0.mk (Kd.R_elder' HO721.out (Kd.R_base ho0) hb)
   have n2_ := Aside0.mk (Kd.R_lower (Kd.R_new' ho0 (Kd.R_lt HO721.out)) (below_size (by repeat (first | (with_reducible first | exact HB.out | apply below_alloc | apply pw_below_drewN | apply below_drew1 | refine below_set ?_ GE711.out | refine below_set ?_ GE712.out) | exact HB.out))))
   have n3_ := Aside0.mk (blk_below (g := gb711) (o := .cells #[.int .i64 a0_0, .slice A0_1 l0_1.length c0_1, .slice A0_2 l0_2.length c0_2] 25 (0, 0)) BK711.out hb)
   have n4_ := Aside0.mk (blk_below (g := gb712) (o := .cells #[.slice A1_0 l1_0.length c1_0] 45 (0, 0)) BK712.out hb)
   have n5_ := Aside0.mk (below_step (by repeat (first | (with_reducible first | exact HB.out | apply below_alloc | apply pw_below_drewN | apply below_drew1 | refine below_set ?_ GE711.out | refine below_set ?_ GE712.out) | exact HB.out)) hb)
   clear HO718
   clear HO721
   clear BK711
   clear BK712
   clear HB
   have HO718 := n0_
   have HO721 := n1_
   have HO724 := n2_
   have BK711 := n3_
   have BK712 := n4_
   have HB := n5_
   clear n0_ n1_ n2_ n3_ n4_ n5_
   (try clear hb)
   (try clear hb2)
   (try clear hk)
   (try clear hi)
   (try clear ho0)
   obtain ⟨Ao36, co36, eo36⟩ := Kd.S_slice HO718.out
   (first | subst eo36 | (injection eo36 with f1_ f2_ f3_; have f4_ := f1_.symm; have f5_ := f3_.symm; clear f1_ f2_ f3_; subst f4_; subst f5_))
   obtain ⟨Ao37, co37, eo37⟩ := Kd.R_slice HO721.out
   (first | subst eo37 | (injection eo37 with f1_ f2_ f3_; have f4_ := f1_.symm; have f5_ := f3_.symm; clear f1_ f2_ f3_; subst f4_; subst f5_))
   obtain ⟨Ao38, co38, eo38⟩ := Kd.R_slice HO724.out
   (first | subst eo38 | (injection eo38 with f1_ f2_ f3_; have f4_ := f1_.symm; have f5_ := f3_.symm; clear f1_ f2_ f3_; subst f4_; subst f5_))
   refine hK.out _ _ ⟨(blk_cell BK711.out 0).trans rfl, (blk_cell BK711.out 1).trans rfl, (blk_cell BK711.out 2).trans rfl, (blk_cell BK712.out 0).trans rfl⟩ (fun hHeld => ?_)
   clear hK K
   refine norm_ (a' := ?_) ?_ ?_
   rotate_left
   ·show Act.put _ (some 31) _ = _
    simp only [Act.put, List.setIfInBounds_toArray, List.set_cons_zero, List.set_cons_succ, i64_w, i32_w]
    rfl
   refine one_ (i := 4) (N := some 32) #[true, true, true, true, true, false, false, false, false, false] rfl rfl (one_of HT_.out (by kernel_rfl)) (by decide) (fun K hK => ?_)
   refine goes_ Try.func33 (by kernel_rfl) rfl #[.agg #[.int .i64 t715, .slice Ao36 t716.length co36, .slice Ao37 t719.length co37], .agg #[.slice Ao38 t722.length co38]] (by rfl) rfl rfl (by (try simp only [List.map_toArray, List.map_cons, List.map_nil]); first | done | rfl) ?_
   with_reducible refine (spec_StatesOf.calls k t715 _ _ t716 _ _ t719 _ _ t722 t725 t728 _ ?side1 ?side2 ?side3 ?side4 ?side5 ?side6 A21.out).mono ?_
   (case side1 => repeat (first | exact (Kd.S_reads' HO718.out).2.2 | (with_reducible refine Kd.C_alloc ?_ _) | (with_reducible refine Kd.C_drewN ?_ _) | (with_reducible refine Kd.C_drew ?_)))
   (case side2 => exact (Kd.S_reads' HO718.out).2.1)
   (case side3 => repeat (first | exact (Kd.R_reads' HO721.out).2.2 | (with_reducible refine Kd.C_alloc ?_ _) | (with_reducible refine Kd.C_drewN ?_ _) | (with_reducible refine Kd.C_drew ?_)))
   (case side4 => exact (Kd.R_reads' HO721.out).2.1)
   (case side5 => repeat (first | exact (Kd.R_reads' HO724.out).2.2 | (with_reducible refine Kd.C_alloc ?_ _) | (with_reducible refine Kd.C_drewN ?_ _) | (with_reducible refine Kd.C_drew ?_)))
   (case side6 => exact (Kd.R_reads' HO724.out).2.1)
   rintro e w39 ⟨v726, rfl, ho0, hb⟩
   refine ⟨_, rfl, ?_⟩
   have n0_ := Aside0.mk (Kd.S_elder' HO718.out (Kd.R_base ho0) hb)
   have n1_ := Aside0.mk (Kd.R_elder' HO721.out (Kd.R_base ho0) hb)
   have n2_ := Aside0.mk (Kd.R_elder' HO724.out (Kd.R_base ho0) hb)
   have n3_ := Aside0.mk (Kd.R_lower (Kd.R_new' (Kd.R_new' ho0 (Kd.R_lt HO721.out)) (Kd.R_lt HO724.out)) (below_size (by repeat (first | (with_reducible first | exact HB.out | apply below_alloc | apply pw_below_drewN | apply below_drew1 | refine below_set ?_ GE711.out | refine below_set ?_ GE712.out) | exact HB.out))))
   have n4_ := Aside0.mk (blk_below (g := gb711) (o := .cells #[.int .i64 a0_0, .slice A0_1 l0_1.length c0_1, .slice A0_2 l0_2.length c0_2] 25 (0, 0)) BK711.out hb)
   have n5_ := Aside0.mk (blk_below (g := gb712) (o := .cells #[.slice A1_0 l1_0.length c1_0] 45 (0, 0)) BK712.out hb)
   have n6_ := Aside0.mk (below_step (by repeat (first | (with_reducible first | exact HB.out | apply below_alloc | apply pw_below_drewN | apply below_drew1 | refine below_set ?_ GE711.out | refine below_set ?_ GE712.out) | exact HB.out)) hb)
   clear HO718
   clear HO721
   clear HO724
   clear BK711
   clear BK712
   clear HB
   have HO718 := n0_
   have HO721 := n1_
   have HO724 := n2_
   have HO727 := n3_
   have BK711 := n4_
   have BK712 := n5_
   have HB := n6_
   clear n0_ n1_ n2_ n3_ n4_ n5_ n6_
   (try clear hb)
   (try clear hb2)
   (try clear hk)
   (try clear hi)
   (try clear ho0)
   refine hK.out _ _ ⟨(blk_cell BK711.out 0).trans rfl, (blk_cell BK711.out 1).trans rfl, (blk_cell BK711.out 2).trans rfl, (blk_cell BK712.out 0).trans rfl⟩ (fun hHeld => ?_)
   clear hK K
   refine norm_ (a' := ?_) ?_ ?_
   rotate_left
   ·show Act.put _ (some 32) _ = _
    simp only [Act.put, List.setIfInBounds_toArray, List.set_cons_zero, List.set_cons_succ, i64_w, i32_w]
    rfl
   refine pure_ (i := 5) (N := some 27) (v := ?_) (a' := ?_) #[true, true, true, true, true, true, false, false, false, false] rfl rfl (any_of HT_.out (by kernel_rfl)) (fun _ _ _ h => h) (Or.inl ⟨by rfl, ?_⟩) ?_ ?_
   rotate_left
   ·intro w'
    go_simp
    with_reducible rfl
   rotate_left
   ·simp only [Act.put, List.setIfInBounds_toArray, List.set_cons_zero, List.set_cons_succ, i64_w, i32_w]
    rfl
   refine pure_ (i := 6) (N := some 33) (v := ?_) (a' := ?_) #[true, true, true, true, true, true, true, false, false, false] rfl rfl (any_of HT_.out (by kernel_rfl)) (fun _ _ _ h => h) (Or.inl ⟨by rfl, ?_⟩) ?_ ?_
   rotate_left
   ·intro w'
    go_simp
    with_reducible rfl
   rotate_left
   ·simp only [Act.put, List.setIfInBounds_toArray, List.set_cons_zero, List.set_cons_succ, i64_w, i32_w]
    rfl
   refine pure_ (i := 7) (N := some 34) (v := ?_) (a' := ?_) #[true, true, true, true, true, true, true, true, false, false] rfl rfl (any_of HT_.out (by kernel_rfl)) (fun _ _ _ h => h) (Or.inl ⟨by rfl, ?_⟩) ?_ ?_
   rotate_left
   ·intro w'
    go_simp
    with_reducible rfl
   rotate_left
   ·simp only [Act.put, List.setIfInBounds_toArray, List.set_cons_zero, List.set_cons_succ, i64_w, i32_w]
    rfl
   refine pure_ (i := 8) (N := some 6) (v := ?_) (a' := ?_) #[true, true, true, true, true, true, true, true, true, false] rfl rfl (any_of HT_.out (by kernel_rfl)) (fun _ _ _ h => h) (Or.inl ⟨by rfl, ?_⟩) ?_ ?_
   rotate_left
   ·intro w'
    go_simp
    with_reducible rfl
   rotate_left
   ·simp only [Act.put, List.setIfInBounds_toArray, List.set_cons_zero, List.set_cons_succ, i64_w, i32_w]
    rfl
   refine pure_ (i := 9) (N := some 7) (v := ?_) (a' := ?_) #[true, true, true, true, true, true, true, true, true, true] rfl rfl (any_of HT_.out (by kernel_rfl)) (fun _ _ _ h => h) (Or.inl ⟨by rfl, ?_⟩) ?_ ?_
   rotate_left
   ·intro w'
    go_simp
    with_reducible rfl
   rotate_left
   ·simp only [Act.put, List.setIfInBounds_toArray, List.set_cons_zero, List.set_cons_succ, i64_w, i32_w]
    rfl
   refine done_ (done_of HT_.out (by kernel_rfl)) ?_
   have hcz40_0 : w39.cell? ⟨gb711, 0, none⟩ = some (.int .i64 a0_0) := (blk_cell BK711.out 0).trans rfl
   have hcz40_1 : w39.cell? ⟨gb711, 1, none⟩ = some (.slice A0_1 l0_1.length c0_1) := (blk_cell BK711.out 1).trans rfl
   have hcz40_2 : w39.cell? ⟨gb711, 2, none⟩ = some (.slice A0_2 l0_2.length c0_2) := (blk_cell BK711.out 2).trans rfl
   have hfz40_0 := blk_frozen BK711.out 0
   have hfz40_1 := blk_frozen BK711.out 1
   have hfz40_2 := blk_frozen BK711.out 2
   go_upto_region 12 with (first | ((with_reducible refine gate_callee (f := 12) rfl ?_); refine goesL_ (some 36) rfl rfl Try.func12 (by kernel_rfl) rfl #[.agg #[.int .i64 a0_0, .slice A0_1 l0_1.length c0_1, .slice A0_2 l0_2.length c0_2]] rfl (by (try simp only [List.map_toArray, List.map_cons, List.map_nil]); first | done | rfl) ?_; (with_reducible refine (laws_toAutomaton.calls k a0_0 _ _ l0_1 _ _ l0_2 t729 t730 t733 _ ?side1 ?side2 ?side3 ?side4 A22.out).mono ?_); (case side1 => repeat (first | exact (Kd.C_below HR0_1.out HB.out) | (with_reducible refine Kd.C_alloc ?_ _) | (with_reducible refine Kd.C_drewN ?_ _) | (with_reducible refine Kd.C_drew ?_))); (case side2 => exact HC0_1.out); (case side3 => repeat (first | exact (Kd.C_below HR0_2.out HB.out) | (with_reducible refine Kd.C_alloc ?_ _) | (with_reducible refine Kd.C_drewN ?_ _) | (with_reducible refine Kd.C_drew ?_))); (case side4 => exact HC0_2.out); rintro e w41 ⟨v731, v734, rfl, ho0, ho1, hb⟩; refine ⟨_, rfl, ?_⟩; obtain ⟨N42, hN42⟩ := nat_of_below hb; have n0_ := Aside0.mk (Kd.S_mono (Kd.S_told (Kd.S_told (Kd.S_old ((S_ltN HO718.out hN42)) hb) (Kd.S_base ho0)) (Kd.R_base ho1)) (fun _ h_ => h_.1)); have n1_ := Aside0.mk (Kd.R_elder' HO721.out (Kd.R_base ho1) hb); have n2_ := Aside0.mk (Kd.R_elder' HO724.out (Kd.R_base ho1) hb); have n3_ := Aside0.mk (Kd.R_elder' HO727.out (Kd.R_base ho1) hb); have n4_ := Aside0.mk (Kd.S_lower (Kd.S_new' (Kd.S_new' (Kd.S_new' (Kd.S_new' (S_geN hN42 ho0) (Kd.S_lt HO718.out)) (Kd.R_lt HO721.out)) (Kd.R_lt HO724.out)) (Kd.R_lt HO727.out)) (below_size (by repeat (first | (with_reducible first | exact HB.out | apply below_alloc | apply pw_below_drewN | apply below_drew1 | refine below_set ?_ GE711.out | refine below_set ?_ GE712.out) | exact HB.out)))); have n5_ := Aside0.mk (Kd.R_lower (Kd.R_new' (Kd.R_new' (Kd.R_new' ho1 (Kd.R_lt HO721.out)) (Kd.R_lt HO724.out)) (Kd.R_lt HO727.out)) (below_size (by repeat (first | (with_reducible first | exact HB.out | apply below_alloc | apply pw_below_drewN | apply below_drew1 | refine below_set ?_ GE711.out | refine below_set ?_ GE712.out) | exact HB.out)))); have n6_ := Aside0.mk (blk_below (g := gb711) (o := .cells #[.int .i64 a0_0, .slice A0_1 l0_1.length c0_1, .slice A0_2 l0_2.length c0_2] 25 (0, 0)) BK711.out hb); have n7_ := Aside0.mk (blk_below (g := gb712) (o := .cells #[.slice A1_0 l1_0.length c1_0] 45 (0, 0)) BK712.out hb); have n8_ := Aside0.mk (below_step (by repeat (first | (with_reducible first | exact HB.out | apply below_alloc | apply pw_below_drewN | apply below_drew1 | refine below_set ?_ GE711.out | refine below_set ?_ GE712.out) | exact HB.out)) hb); clear HO718; clear HO721; clear HO724; clear HO727; clear BK711; clear BK712; clear HB; have HO718 := n0_; have HO721 := n1_; have HO724 := n2_; have HO727 := n3_; have HO732 := n4_; have HO735 := n5_; have BK711 := n6_; have BK712 := n7_; have HB := n8_; clear n0_ n1_ n2_ n3_ n4_ n5_ n6_ n7_ n8_; (try clear hb); (try clear hb2); (try clear hk); (try clear hi); (try clear ho0); (try clear ho1)) | ((with_reducible refine gate_dst (N := 8) rfl ?_); refine box_event ?hg (N := 8) ?hd (cs := #[.int .i64 0, .slice none 0 0, .slice none 0 0]) (t := 28) ?hr ?_; (case hd => rfl); (case hg => rfl); (case hr => first | (go_simp; done) | (go_simp; rfl)); intro gb736 hg w43 hbox hb; have n0_ := Aside0.mk (Kd.S_below HO718.out hb); have n1_ := Aside0.mk (Kd.R_below HO721.out hb); have n2_ := Aside0.mk (Kd.R_below HO724.out hb); have n3_ := Aside0.mk (Kd.R_below HO727.out hb); have n4_ := Aside0.mk (Kd.S_below HO732.out hb); have n5_ := Aside0.mk (Kd.R_below HO735.out hb); have n6_ := Aside0.mk (blk_below (g := gb711) (o := .cells #[.int .i64 a0_0, .slice A0_1 l0_1.length c0_1, .slice A0_2 l0_2.length c0_2] 25 (0, 0)) BK711.out hb); have n7_ := Aside0.mk (blk_below (g := gb712) (o := .cells #[.slice A1_0 l1_0.length c1_0] 45 (0, 0)) BK712.out hb); have n8_ := Aside0.mk (below_step (by repeat (first | (with_reducible first | exact HB.out | apply below_alloc | apply pw_below_drewN | apply below_drew1 | refine below_set ?_ GE711.out | refine below_set ?_ GE712.out) | exact HB.out)) hb); have n9_ := Aside0.mk (hbox); have n10_ := Aside0.mk ((by rw [hg]; exact (below_size (by repeat (first | (with_reducible first | exact HB.out | apply below_alloc | apply pw_below_drewN | apply below_drew1 | refine below_set ?_ GE711.out | refine below_set ?_ GE712.out) | exact HB.out))) : w.heap.size ≤ gb736)); have n11_ := Aside0.mk ((by rw [hg]; exact (below_size (by repeat (first | (with_reducible first | exact HB.out | apply below_alloc | apply pw_below_drewN | apply below_drew1 | refine below_set ?_ GE711.out | refine below_set ?_ GE712.out) | exact HB.out))) : w.heap.size ≤ gb736)); have n12_ := Aside0.mk ((by rw [hg]; exact Nat.ne_of_lt (blk_lt (g := gb711) (o := .cells #[.int .i64 a0_0, .slice A0_1 l0_1.length c0_1, .slice A0_2 l0_2.length c0_2] 25 (0, 0)) BK711.out) : gb711 ≠ gb736)); have n13_ := Aside0.mk ((by rw [hg]; exact Nat.ne_of_gt (blk_lt (g := gb711) (o := .cells #[.int .i64 a0_0, .slice A0_1 l0_1.length c0_1, .slice A0_2 l0_2.length c0_2] 25 (0, 0)) BK711.out) : gb736 ≠ gb711)); have n14_ := Aside0.mk ((by rw [hg]; exact Nat.ne_of_lt (blk_lt (g := gb712) (o := .cells #[.slice A1_0 l1_0.length c1_0] 45 (0, 0)) BK712.out) : gb712 ≠ gb736)); have n15_ := Aside0.mk ((by rw [hg]; exact Nat.ne_of_gt (blk_lt (g := gb712) (o := .cells #[.slice A1_0 l1_0.length c1_0] 45 (0, 0)) BK712.out) : gb736 ≠ gb712)); clear HO718; clear HO721; clear HO724; clear HO727; clear HO732; clear HO735; clear BK711; clear BK712; clear HB; have HO718 := n0_; have HO721 := n1_; have HO724 := n2_; have HO727 := n3_; have HO732 := n4_; have HO735 := n5_; have BK711 := n6_; have BK712 := n7_; have HB := n8_; have BK736 := n9_; have GW736 := n10_; have GE736 := n11_; have NB711_736 := n12_; have NB736_711 := n13_; have NB712_736 := n14_; have NB736_712 := n15_; clear n0_ n1_ n2_ n3_ n4_ n5_ n6_ n7_ n8_ n9_ n10_ n11_ n12_ n13_ n14_ n15_; clear hb hbox hg; have hnb44 := NB736_711.out; have hnc44 := NB711_736.out; have hnb45 := NB736_712.out; have hnc45 := NB712_736.out; have hcz46_0 : w43.cell? ⟨gb736, 0, none⟩ = some (.int .i64 0) := (blk_cell BK736.out 0).trans rfl; have hcz46_1 : w43.cell? ⟨gb736, 1, none⟩ = some (.slice none 0 0) := (blk_cell BK736.out 1).trans rfl; have hcz46_2 : w43.cell? ⟨gb736, 2, none⟩ = some (.slice none 0 0) := (blk_cell BK736.out 2).trans rfl; have hfz46_0 := blk_frozen BK736.out 0; have hfz46_1 := blk_frozen BK736.out 1; have hfz46_2 := blk_frozen BK736.out 2; obtain ⟨Ao47, co47, eo47⟩ := Kd.S_slice HO732.out; subst eo47; obtain ⟨Ao48, co48, eo48⟩ := Kd.R_slice HO735.out; subst eo48; have hcz49_0 : w43.cell? ⟨gb712, 0, none⟩ = some (.slice A1_0 l1_0.length c1_0) := (blk_cell BK712.out 0).trans rfl; have hfz49_0 := blk_frozen BK712.out 0) | ((with_reducible refine gate_callee (f := 30) rfl ?_); refine goesL_ (some 38) rfl rfl Try.func30 (by kernel_rfl) rfl #[.agg #[.slice A1_0 l1_0.length c1_0]] rfl (by (try simp only [List.map_toArray, List.map_cons, List.map_nil]); first | done | rfl) ?_; (with_reducible refine (laws_toTree.calls k _ _ l1_0 t737 _ ?side1 ?side2 A23.out).mono ?_); (case side1 => exact Kd.C_below HR1_0.out (by repeat (first | (with_reducible first | exact HB.out | apply below_alloc | apply pw_below_drewN | apply below_drew1 | refine below_set ?_ GE711.out | refine below_set ?_ GE712.out | refine below_set ?_ GE736.out) | exact HB.out))); (case side2 => exact HC1_0.out); rintro e w50 ⟨v738, rfl, ho0, hb⟩; refine ⟨_, rfl, ?_⟩; have n0_ := Aside0.mk (Kd.S_elder' (by (with_reducible repeat (first | apply Kd.S_alloc | apply Kd.S_drewN | apply Kd.S_drew)); exact (Kd.S_mono (Kd.S_far (p := ⟨gb736, 2, none⟩) (Kd.S_far (p := ⟨gb736, 1, none⟩) (Kd.S_far (p := ⟨gb736, 0, none⟩) (Kd.S_types HO718.out BK736.out (by decide)) (fun _ hk => hk.2) (.int .i64 t729)) (fun _ hk => hk.2) (.slice Ao47 t730.length co47)) (fun _ hk => hk.2) (.slice Ao48 t733.length co48)) (fun _ h_ => h_.1))) (Kd.R_base ho0) hb); have n1_ := Aside0.mk (Kd.R_elder' (by (with_reducible repeat (first | apply Kd.R_alloc | apply Kd.R_drewN | apply Kd.R_drew)); exact (Kd.R_mono (Kd.R_far (p := ⟨gb736, 2, none⟩) (Kd.R_far (p := ⟨gb736, 1, none⟩) (Kd.R_far (p := ⟨gb736, 0, none⟩) (Kd.R_types HO721.out BK736.out (by decide)) (fun _ hk => hk.2) (.int .i64 t729)) (fun _ hk => hk.2) (.slice Ao47 t730.length co47)) (fun _ hk => hk.2) (.slice Ao48 t733.length co48)) (fun _ h_ => h_.1))) (Kd.R_base ho0) hb); have n2_ := Aside0.mk (Kd.R_elder' (by (with_reducible repeat (first | apply Kd.R_alloc | apply Kd.R_drewN | apply Kd.R_drew)); exact (Kd.R_mono (Kd.R_far (p := ⟨gb736, 2, none⟩) (Kd.R_far (p := ⟨gb736, 1, none⟩) (Kd.R_far (p := ⟨gb736, 0, none⟩) (Kd.R_types HO724.out BK736.out (by decide)) (fun _ hk => hk.2) (.int .i64 t729)) (fun _ hk => hk.2) (.slice Ao47 t730.length co47)) (fun _ hk => hk.2) (.slice Ao48 t733.length co48)) (fun _ h_ => h_.1))) (Kd.R_base ho0) hb); have n3_ := Aside0.mk (Kd.R_elder' (by (with_reducible repeat (first | apply Kd.R_alloc | apply Kd.R_drewN | apply Kd.R_drew)); exact (Kd.R_mono (Kd.R_far (p := ⟨gb736, 2, none⟩) (Kd.R_far (p := ⟨gb736, 1, none⟩) (Kd.R_far (p := ⟨gb736, 0, none⟩) (Kd.R_types HO727.out BK736.out (by decide)) (fun _ hk => hk.2) (.int .i64 t729)) (fun _ hk => hk.2) (.slice Ao47 t730.length co47)) (fun _ hk => hk.2) (.slice Ao48 t733.length co48)) (fun _ h_ => h_.1))) (Kd.R_base ho0) hb); have n4_ := Aside0.mk (Kd.S_elder' (by (with_reducible repeat (first | apply Kd.S_alloc | apply Kd.S_drewN | apply Kd.S_drew)); exact (Kd.S_mono (Kd.S_far (p := ⟨gb736, 2, none⟩) (Kd.S_far (p := ⟨gb736, 1, none⟩) (Kd.S_far (p := ⟨gb736, 0, none⟩) (Kd.S_types HO732.out BK736.out (by decide)) (fun _ hk => hk.2) (.int .i64 t729)) (fun _ hk => hk.2) (.slice Ao47 t730.length co47)) (fun _ hk => hk.2) (.slice Ao48 t733.length co48)) (fun _ h_ => h_.1))) (Kd.R_base ho0) hb); have n5_ := Aside0.mk (Kd.R_elder' (by (with_reducible repeat (first | apply Kd.R_alloc | apply Kd.R_drewN | apply Kd.R_drew)); exact (Kd.R_mono (Kd.R_far (p := ⟨gb736, 2, none⟩) (Kd.R_far (p := ⟨gb736, 1, none⟩) (Kd.R_far (p := ⟨gb736, 0, none⟩) (Kd.R_types HO735.out BK736.out (by decide)) (fun _ hk => hk.2) (.int .i64 t729)) (fun _ hk => hk.2) (.slice Ao47 t730.length co47)) (fun _ hk => hk.2) (.slice Ao48 t733.length co48)) (fun _ h_ => h_.1))) (Kd.R_base ho0) hb); have n6_ := Aside0.mk (Kd.R_lower (Kd.R_new' (Kd.R_new' (Kd.R_new' (Kd.R_new' ho0 (Kd.R_lt (by (with_reducible repeat (first | apply Kd.R_alloc | apply Kd.R_drewN | apply Kd.R_drew)); exact (Kd.R_mono (Kd.R_far (p := ⟨gb736, 2, none⟩) (Kd.R_far (p := ⟨gb736, 1, none⟩) (Kd.R_far (p := ⟨gb736, 0, none⟩) (Kd.R_types HO721.out BK736.out (by decide)) (fun _ hk => hk.2) (.int .i64 t729)) (fun _ hk => hk.2) (.slice Ao47 t730.length co47)) (fun _ hk => hk.2) (.slice Ao48 t733.length co48)) (fun _ h_ => h_.1))))) (Kd.R_lt (by (with_reducible repeat (first | apply Kd.R_alloc | apply Kd.R_drewN | apply Kd.R_drew)); exact (Kd.R_mono (Kd.R_far (p := ⟨gb736, 2, none⟩) (Kd.R_far (p := ⟨gb736, 1, none⟩) (Kd.R_far (p := ⟨gb736, 0, none⟩) (Kd.R_types HO724.out BK736.out (by decide)) (fun _ hk => hk.2) (.int .i64 t729)) (fun _ hk => hk.2) (.slice Ao47 t730.length co47)) (fun _ hk => hk.2) (.slice Ao48 t733.length co48)) (fun _ h_ => h_.1))))) (Kd.R_lt (by (with_reducible repeat (first | apply Kd.R_alloc | apply Kd.R_drewN | apply Kd.R_drew)); exact (Kd.R_mono (Kd.R_far (p := ⟨gb736, 2, none⟩) (Kd.R_far (p := ⟨gb736, 1, none⟩) (Kd.R_far (p := ⟨gb736, 0, none⟩) (Kd.R_types HO727.out BK736.out (by decide)) (fun _ hk => hk.2) (.int .i64 t729)) (fun _ hk => hk.2) (.slice Ao47 t730.length co47)) (fun _ hk => hk.2) (.slice Ao48 t733.length co48)) (fun _ h_ => h_.1))))) (Kd.R_lt (by (with_reducible repeat (first | apply Kd.R_alloc | apply Kd.R_drewN | apply Kd.R_drew)); exact (Kd.R_mono (Kd.R_far (p := ⟨gb736, 2, none⟩) (Kd.R_far (p := ⟨gb736, 1, none⟩) (Kd.R_far (p := ⟨gb736, 0, none⟩) (Kd.R_types HO735.out BK736.out (by decide)) (fun _ hk => hk.2) (.int .i64 t729)) (fun _ hk => hk.2) (.slice Ao47 t730.length co47)) (fun _ hk => hk.2) (.slice Ao48 t733.length co48)) (fun _ h_ => h_.1))))) (below_size (by repeat (first | (with_reducible first | exact HB.out | apply below_alloc | apply pw_below_drewN | apply below_drew1 | refine below_set ?_ GE711.out | refine below_set ?_ GE712.out | refine below_set ?_ GE736.out) | exact HB.out)))); have n7_ := Aside0.mk (blk_below (g := gb711) (o := .cells #[.int .i64 a0_0, .slice A0_1 l0_1.length c0_1, .slice A0_2 l0_2.length c0_2] 25 (0, 0)) (by (with_reducible repeat (first | refine blk_drewN ?_ _ | refine blk_drew ?_ | refine blk_alloc ?_ _)); refine blk_far ?_ NB711_736.out _; (with_reducible repeat (first | refine blk_drewN ?_ _ | refine blk_drew ?_ | refine blk_alloc ?_ _)); refine blk_far ?_ NB711_736.out _; (with_reducible repeat (first | refine blk_drewN ?_ _ | refine blk_drew ?_ | refine blk_alloc ?_ _)); refine blk_far ?_ NB711_736.out _; (with_reducible repeat (first | refine blk_drewN ?_ _ | refine blk_drew ?_ | refine blk_alloc ?_ _)); exact BK711.out) hb); have n8_ := Aside0.mk (blk_below (g := gb712) (o := .cells #[.slice A1_0 l1_0.length c1_0] 45 (0, 0)) (by (with_reducible repeat (first | refine blk_drewN ?_ _ | refine blk_drew ?_ | refine blk_alloc ?_ _)); refine blk_far ?_ NB712_736.out _; (with_reducible repeat (first | refine blk_drewN ?_ _ | refine blk_drew ?_ | refine blk_alloc ?_ _)); refine blk_far ?_ NB712_736.out _; (with_reducible repeat (first | refine blk_drewN ?_ _ | refine blk_drew ?_ | refine blk_alloc ?_ _)); refine blk_far ?_ NB712_736.out _; (with_reducible repeat (first | refine blk_drewN ?_ _ | refine blk_drew ?_ | refine blk_alloc ?_ _)); exact BK712.out) hb); have n9_ := Aside0.mk (blk_below (g := gb736) (o := .cells #[.int .i64 t729, .slice Ao47 t730.length co47, .slice Ao48 t733.length co48] 28 (0, 0)) (by (with_reducible repeat (first | refine blk_drewN ?_ _ | refine blk_drew ?_ | refine blk_alloc ?_ _)); refine blk_put (cs := #[.int .i64 t729, .slice Ao47 t730.length co47, .slice none 0 0]) ?_ 2 _ rfl; (with_reducible repeat (first | refine blk_drewN ?_ _ | refine blk_drew ?_ | refine blk_alloc ?_ _)); refine blk_put (cs := #[.int .i64 t729, .slice none 0 0, .slice none 0 0]) ?_ 1 _ rfl; (with_reducible repeat (first | refine blk_drewN ?_ _ | refine blk_drew ?_ | refine blk_alloc ?_ _)); refine blk_put (cs := #[.int .i64 0, .slice none 0 0, .slice none 0 0]) ?_ 0 _ rfl; (with_reducible repeat (first | refine blk_drewN ?_ _ | refine blk_drew ?_ | refine blk_alloc ?_ _)); exact BK736.out) hb); have n10_ := Aside0.mk (below_step (by repeat (first | (with_reducible first | exact HB.out | apply below_alloc | apply pw_below_drewN | apply below_drew1 | refine below_set ?_ GE711.out | refine below_set ?_ GE712.out | refine below_set ?_ GE736.out) | exact HB.out)) hb); clear HO718; clear HO721; clear HO724; clear HO727; clear HO732; clear HO735; clear BK711; clear BK712; clear BK736; clear HB; have HO718 := n0_; have HO721 := n1_; have HO724 := n2_; have HO727 := n3_; have HO732 := n4_; have HO735 := n5_; have HO739 := n6_; have BK711 := n7_; have BK712 := n8_; have BK736 := n9_; have HB := n10_; clear n0_ n1_ n2_ n3_ n4_ n5_ n6_ n7_ n8_ n9_ n10_; (try clear hb); (try clear hb2); (try clear hk); (try clear hi); (try clear ho0)) | ((with_reducible refine gate_dst (N := 9) rfl ?_); refine box_event ?hg (N := 9) ?hd (cs := #[.slice none 0 0]) (t := 49) ?hr ?_; (case hd => rfl); (case hg => rfl); (case hr => first | (go_simp; done) | (go_simp; rfl)); intro gb740 hg w51 hbox hb; have n0_ := Aside0.mk (Kd.S_below HO718.out hb); have n1_ := Aside0.mk (Kd.R_below HO721.out hb); have n2_ := Aside0.mk (Kd.R_below HO724.out hb); have n3_ := Aside0.mk (Kd.R_below HO727.out hb); have n4_ := Aside0.mk (Kd.S_below HO732.out hb); have n5_ := Aside0.mk (Kd.R_below HO735.out hb); have n6_ := Aside0.mk (Kd.R_below HO739.out hb); have n7_ := Aside0.mk (blk_below (g := gb711) (o := .cells #[.int .i64 a0_0, .slice A0_1 l0_1.length c0_1, .slice A0_2 l0_2.length c0_2] 25 (0, 0)) BK711.out hb); have n8_ := Aside0.mk (blk_below (g := gb712) (o := .cells #[.slice A1_0 l1_0.length c1_0] 45 (0, 0)) BK712.out hb); have n9_ := Aside0.mk (blk_below (g := gb736) (o := .cells #[.int .i64 t729, .slice Ao47 t730.length co47, .slice Ao48 t733.length co48] 28 (0, 0)) BK736.out hb); have n10_ := Aside0.mk (below_step (by repeat (first | (with_reducible first | exact HB.out | apply below_alloc | apply pw_below_drewN | apply below_drew1 | refine below_set ?_ GE711.out | refine below_set ?_ GE712.out | refine below_set ?_ GE736.out) | exact HB.out)) hb); have n11_ := Aside0.mk (hbox); have n12_ := Aside0.mk ((by rw [hg]; exact (below_size (by repeat (first | (with_reducible first | exact HB.out | apply below_alloc | apply pw_below_drewN | apply below_drew1 | refine below_set ?_ GE711.out | refine below_set ?_ GE712.out | refine below_set ?_ GE736.out) | exact HB.out))) : w.heap.size ≤ gb740)); have n13_ := Aside0.mk ((by rw [hg]; exact (below_size (by repeat (first | (with_reducible first | exact HB.out | apply below_alloc | apply pw_below_drewN | apply below_drew1 | refine below_set ?_ GE711.out | refine below_set ?_ GE712.out | refine below_set ?_ GE736.out) | exact HB.out))) : w.heap.size ≤ gb740)); have n14_ := Aside0.mk ((by rw [hg]; exact Nat.ne_of_lt (blk_lt (g := gb711) (o := .cells #[.int .i64 a0_0, .slice A0_1 l0_1.length c0_1, .slice A0_2 l0_2.length c0_2] 25 (0, 0)) BK711.out) : gb711 ≠ gb740)); have n15_ := Aside0.mk ((by rw [hg]; exact Nat.ne_of_gt (blk_lt (g := gb711) (o := .cells #[.int .i64 a0_0, .slice A0_1 l0_1.length c0_1, .slice A0_2 l0_2.length c0_2] 25 (0, 0)) BK711.out) : gb740 ≠ gb711)); have n16_ := Aside0.mk ((by rw [hg]; exact Nat.ne_of_lt (blk_lt (g := gb712) (o := .cells #[.slice A1_0 l1_0.length c1_0] 45 (0, 0)) BK712.out) : gb712 ≠ gb740)); have n17_ := Aside0.mk ((by rw [hg]; exact Nat.ne_of_gt (blk_lt (g := gb712) (o := .cells #[.slice A1_0 l1_0.length c1_0] 45 (0, 0)) BK712.out) : gb740 ≠ gb712)); have n18_ := Aside0.mk ((by rw [hg]; exact Nat.ne_of_lt (blk_lt (g := gb736) (o := .cells #[.int .i64 t729, .slice Ao47 t730.length co47, .slice Ao48 t733.length co48] 28 (0, 0)) BK736.out) : gb736 ≠ gb740)); have n19_ := Aside0.mk ((by rw [hg]; exact Nat.ne_of_gt (blk_lt (g := gb736) (o := .cells #[.int .i64 t729, .slice Ao47 t730.length co47, .slice Ao48 t733.length co48] 28 (0, 0)) BK736.out) : gb740 ≠ gb736)); clear HO718; clear HO721; clear HO724; clear HO727; clear HO732; clear HO735; clear HO739; clear BK711; clear BK712; clear BK736; clear HB; have HO718 := n0_; have HO721 := n1_; have HO724 := n2_; have HO727 := n3_; have HO732 := n4_; have HO735 := n5_; have HO739 := n6_; have BK711 := n7_; have BK712 := n8_; have BK736 := n9_; have HB := n10_; have BK740 := n11_; have GW740 := n12_; have GE740 := n13_; have NB711_740 := n14_; have NB740_711 := n15_; have NB712_740 := n16_; have NB740_712 := n17_; have NB736_740 := n18_; have NB740_736 := n19_; clear n0_ n1_ n2_ n3_ n4_ n5_ n6_ n7_ n8_ n9_ n10_ n11_ n12_ n13_ n14_ n15_ n16_ n17_ n18_ n19_; clear hb hbox hg; obtain ⟨Ao52, co52, eo52⟩ := Kd.R_slice HO739.out; subst eo52; have hnb53 := NB740_711.out; have hnc53 := NB711_740.out; have hnb54 := NB740_712.out; have hnc54 := NB712_740.out; have hnb55 := NB740_736.out; have hnc55 := NB736_740.out; have hcz56_0 : w51.cell? ⟨gb740, 0, none⟩ = some (.slice none 0 0) := (blk_cell BK740.out 0).trans rfl; have hfz56_0 := blk_frozen BK740.out 0; have hcz57_0 : w51.cell? ⟨gb736, 0, none⟩ = some (.int .i64 t729) := (blk_cell BK736.out 0).trans rfl; have hcz57_1 : w51.cell? ⟨gb736, 1, none⟩ = some (.slice Ao47 t730.length co47) := (blk_cell BK736.out 1).trans rfl; have hcz57_2 : w51.cell? ⟨gb736, 2, none⟩ = some (.slice Ao48 t733.length co48) := (blk_cell BK736.out 2).trans rfl; have hfz57_0 := blk_frozen BK736.out 0; have hfz57_1 := blk_frozen BK736.out 1; have hfz57_2 := blk_frozen BK736.out 2) | ((with_reducible refine gate_callee (f := 34) rfl ?_); refine goesL_ (some 42) rfl rfl Try.func34 (by kernel_rfl) rfl #[.agg #[.int .i64 t729, .slice Ao47 t730.length co47, .slice Ao48 t733.length co48], .agg #[.slice Ao52 t737.length co52]] rfl (by (try simp only [List.map_toArray, List.map_cons, List.map_nil]); first | done | rfl) ?_; (with_reducible refine (impl_StatesOf.calls k t729 _ _ t730 _ _ t733 _ _ t737 t741 t744 _ ?side1 ?side2 ?side3 ?side4 ?side5 ?side6 A24.out).mono ?_); (case side1 => refine (Kd.S_reads' (e := 23) (base := w.heap.size) (ok := fun k_ => ((((((some k_ ≠ (.slice Ao48 t733.length co48 : Value).ownBlock ∧ k_ ≠ ge_ N42 k_) ∧ some k_ ≠ (.slice Ao36 t716.length co36 : Value).ownBlock) ∧ some k_ ≠ (.slice Ao37 t719.length co37 : Value).ownBlock) ∧ some k_ ≠ (.slice Ao38 t722.length co38 : Value).ownBlock) ∧ some k_ ≠ (v726 : Value).ownBlock) ∧ some k_ ≠ (.slice Ao52 t737.length co52 : Value).ownBlock)) (n := t730.length) (c := co47) ?_).2.2; exact (by (with_reducible repeat (first | apply Kd.S_alloc | apply Kd.S_drewN | apply Kd.S_drew)); exact (Kd.S_mono (Kd.S_far (p := ⟨gb740, 0, none⟩) (Kd.S_types HO732.out BK740.out (by decide)) (fun _ hk => hk.2) (.slice Ao52 t737.length co52)) (fun _ h_ => h_.1)))); (case side2 => exact (Kd.S_reads' HO732.out).2.1); (case side3 => refine (Kd.R_reads' (e := 2) (base := w.heap.size) (ok := fun k_ => ((((True ∧ some k_ ≠ (.slice Ao37 t719.length co37 : Value).ownBlock) ∧ some k_ ≠ (.slice Ao38 t722.length co38 : Value).ownBlock) ∧ some k_ ≠ (v726 : Value).ownBlock) ∧ some k_ ≠ (.slice Ao52 t737.length co52 : Value).ownBlock)) (n := t733.length) (c := co48) ?_).2.2; exact (by (with_reducible repeat (first | apply Kd.R_alloc | apply Kd.R_drewN | apply Kd.R_drew)); exact (Kd.R_mono (Kd.R_far (p := ⟨gb740, 0, none⟩) (Kd.R_types HO735.out BK740.out (by decide)) (fun _ hk => hk.2) (.slice Ao52 t737.length co52)) (fun _ h_ => h_.1)))); (case side4 => exact (Kd.R_reads' HO735.out).2.1); (case side5 => refine (Kd.R_reads' (e := 2) (base := w.heap.size) (ok := fun k_ => ((((True ∧ some k_ ≠ (.slice Ao37 t719.length co37 : Value).ownBlock) ∧ some k_ ≠ (.slice Ao38 t722.length co38 : Value).ownBlock) ∧ some k_ ≠ (v726 : Value).ownBlock) ∧ some k_ ≠ (.slice Ao48 t733.length co48 : Value).ownBlock)) (n := t737.length) (c := co52) ?_).2.2; exact (by (with_reducible repeat (first | apply Kd.R_alloc | apply Kd.R_drewN | apply Kd.R_drew)); exact (Kd.R_mono (Kd.R_far (p := ⟨gb740, 0, none⟩) (Kd.R_types HO739.out BK740.out (by decide)) (fun _ hk => hk.2) (.slice Ao52 t737.length co52)) (fun _ h_ => h_.1)))); (case side6 => exact (Kd.R_reads' HO739.out).2.1); rintro e w58 ⟨v742, rfl, ho0, hb⟩; refine ⟨_, rfl, ?_⟩; have n0_ := Aside0.mk (Kd.S_elder' (by (with_reducible repeat (first | apply Kd.S_alloc | apply Kd.S_drewN | apply Kd.S_drew)); exact (Kd.S_mono (Kd.S_far (p := ⟨gb740, 0, none⟩) (Kd.S_types HO718.out BK740.out (by decide)) (fun _ hk => hk.2) (.slice Ao52 t737.length co52)) (fun _ h_ => h_.1))) (Kd.R_base ho0) hb); have n1_ := Aside0.mk (Kd.R_elder' (by (with_reducible repeat (first | apply Kd.R_alloc | apply Kd.R_drewN | apply Kd.R_drew)); exact (Kd.R_mono (Kd.R_far (p := ⟨gb740, 0, none⟩) (Kd.R_types HO721.out BK740.out (by decide)) (fun _ hk => hk.2) (.slice Ao52 t737.length co52)) (fun _ h_ => h_.1))) (Kd.R_base ho0) hb); have n2_ := Aside0.mk (Kd.R_elder' (by (with_reducible repeat (first | apply Kd.R_alloc | apply Kd.R_drewN | apply Kd.R_drew)); exact (Kd.R_mono (Kd.R_far (p := ⟨gb740, 0, none⟩) (Kd.R_types HO724.out BK740.out (by decide)) (fun _ hk => hk.2) (.slice Ao52 t737.length co52)) (fun _ h_ => h_.1))) (Kd.R_base ho0) hb); have n3_ := Aside0.mk (Kd.R_elder' (by (with_reducible repeat (first | apply Kd.R_alloc | apply Kd.R_drewN | apply Kd.R_drew)); exact (Kd.R_mono (Kd.R_far (p := ⟨gb740, 0, none⟩) (Kd.R_types HO727.out BK740.out (by decide)) (fun _ hk => hk.2) (.slice Ao52 t737.length co52)) (fun _ h_ => h_.1))) (Kd.R_base ho0) hb); have n4_ := Aside0.mk (Kd.S_elder' (by (with_reducible repeat (first | apply Kd.S_alloc | apply Kd.S_drewN | apply Kd.S_drew)); exact (Kd.S_mono (Kd.S_far (p := ⟨gb740, 0, none⟩) (Kd.S_types HO732.out BK740.out (by decide)) (fun _ hk => hk.2) (.slice Ao52 t737.length co52)) (fun _ h_ => h_.1))) (Kd.R_base ho0) hb); have n5_ := Aside0.mk (Kd.R_elder' (by (with_reducible repeat (first | apply Kd.R_alloc | apply Kd.R_drewN | apply Kd.R_drew)); exact (Kd.R_mono (Kd.R_far (p := ⟨gb740, 0, none⟩) (Kd.R_types HO735.out BK740.out (by decide)) (fun _ hk => hk.2) (.slice Ao52 t737.length co52)) (fun _ h_ => h_.1))) (Kd.R_base ho0) hb); have n6_ := Aside0.mk (Kd.R_elder' (by (with_reducible repeat (first | apply Kd.R_alloc | apply Kd.R_drewN | apply Kd.R_drew)); exact (Kd.R_mono (Kd.R_far (p := ⟨gb740, 0, none⟩) (Kd.R_types HO739.out BK740.out (by decide)) (fun _ hk => hk.2) (.slice Ao52 t737.length co52)) (fun _ h_ => h_.1))) (Kd.R_base ho0) hb); have n7_ := Aside0.mk (Kd.R_lower (Kd.R_new' (Kd.R_new' (Kd.R_new' (Kd.R_new' (Kd.R_new' ho0 (Kd.R_lt (by (with_reducible repeat (first | apply Kd.R_alloc | apply Kd.R_drewN | apply Kd.R_drew)); exact (Kd.R_mono (Kd.R_far (p := ⟨gb740, 0, none⟩) (Kd.R_types HO721.out BK740.out (by decide)) (fun _ hk => hk.2) (.slice Ao52 t737.length co52)) (fun _ h_ => h_.1))))) (Kd.R_lt (by (with_reducible repeat (first | apply Kd.R_alloc | apply Kd.R_drewN | apply Kd.R_drew)); exact (Kd.R_mono (Kd.R_far (p := ⟨gb740, 0, none⟩) (Kd.R_types HO724.out BK740.out (by decide)) (fun _ hk => hk.2) (.slice Ao52 t737.length co52)) (fun _ h_ => h_.1))))) (Kd.R_lt (by (with_reducible repeat (first | apply Kd.R_alloc | apply Kd.R_drewN | apply Kd.R_drew)); exact (Kd.R_mono (Kd.R_far (p := ⟨gb740, 0, none⟩) (Kd.R_types HO727.out BK740.out (by decide)) (fun _ hk => hk.2) (.slice Ao52 t737.length co52)) (fun _ h_ => h_.1))))) (Kd.R_lt (by (with_reducible repeat (first | apply Kd.R_alloc | apply Kd.R_drewN | apply Kd.R_drew)); exact (Kd.R_mono (Kd.R_far (p := ⟨gb740, 0, none⟩) (Kd.R_types HO735.out BK740.out (by decide)) (fun _ hk => hk.2) (.slice Ao52 t737.length co52)) (fun _ h_ => h_.1))))) (Kd.R_lt (by (with_reducible repeat (first | apply Kd.R_alloc | apply Kd.R_drewN | apply Kd.R_drew)); exact (Kd.R_mono (Kd.R_far (p := ⟨gb740, 0, none⟩) (Kd.R_types HO739.out BK740.out (by decide)) (fun _ hk => hk.2) (.slice Ao52 t737.length co52)) (fun _ h_ => h_.1))))) (below_size (by repeat (first | (with_reducible first | exact HB.out | apply below_alloc | apply pw_below_drewN | apply below_drew1 | refine below_set ?_ GE711.out | refine below_set ?_ GE712.out | refine below_set ?_ GE736.out | refine below_set ?_ GE740.out) | exact HB.out)))); have n8_ := Aside0.mk (blk_below (g := gb711) (o := .cells #[.int .i64 a0_0, .slice A0_1 l0_1.length c0_1, .slice A0_2 l0_2.length c0_2] 25 (0, 0)) (by (with_reducible repeat (first | refine blk_drewN ?_ _ | refine blk_drew ?_ | refine blk_alloc ?_ _)); refine blk_far ?_ NB711_740.out _; (with_reducible repeat (first | refine blk_drewN ?_ _ | refine blk_drew ?_ | refine blk_alloc ?_ _)); exact BK711.out) hb); have n9_ := Aside0.mk (blk_below (g := gb712) (o := .cells #[.slice A1_0 l1_0.length c1_0] 45 (0, 0)) (by (with_reducible repeat (first | refine blk_drewN ?_ _ | refine blk_drew ?_ | refine blk_alloc ?_ _)); refine blk_far ?_ NB712_740.out _; (with_reducible repeat (first | refine blk_drewN ?_ _ | refine blk_drew ?_ | refine blk_alloc ?_ _)); exact BK712.out) hb); have n10_ := Aside0.mk (blk_below (g := gb736) (o := .cells #[.int .i64 t729, .slice Ao47 t730.length co47, .slice Ao48 t733.length co48] 28 (0, 0)) (by (with_reducible repeat (first | refine blk_drewN ?_ _ | refine blk_drew ?_ | refine blk_alloc ?_ _)); refine blk_far ?_ NB736_740.out _; (with_reducible repeat (first | refine blk_drewN ?_ _ | refine blk_drew ?_ | refine blk_alloc ?_ _)); exact BK736.out) hb); have n11_ := Aside0.mk (blk_below (g := gb740) (o := .cells #[.slice Ao52 t737.length co52] 49 (0, 0)) (by (with_reducible repeat (first | refine blk_drewN ?_ _ | refine blk_drew ?_ | refine blk_alloc ?_ _)); refine blk_put (cs := #[.slice none 0 0]) ?_ 0 _ rfl; (with_reducible repeat (first | refine blk_drewN ?_ _ | refine blk_drew ?_ | refine blk_alloc ?_ _)); exact BK740.out) hb); have n12_ := Aside0.mk (below_step (by repeat (first | (with_reducible first | exact HB.out | apply below_alloc | apply pw_below_drewN | apply below_drew1 | refine below_set ?_ GE711.out | refine below_set ?_ GE712.out | refine below_set ?_ GE736.out | refine below_set ?_ GE740.out) | exact HB.out)) hb); clear HO718; clear HO721; clear HO724; clear HO727; clear HO732; clear HO735; clear HO739; clear BK711; clear BK712; clear BK736; clear BK740; clear HB; have HO718 := n0_; have HO721 := n1_; have HO724 := n2_; have HO727 := n3_; have HO732 := n4_; have HO735 := n5_; have HO739 := n6_; have HO743 := n7_; have BK711 := n8_; have BK712 := n9_; have BK736 := n10_; have BK740 := n11_; have HB := n12_; clear n0_ n1_ n2_ n3_ n4_ n5_ n6_ n7_ n8_ n9_ n10_ n11_ n12_; (try clear hb); (try clear hb2); (try clear hk); (try clear hi); (try clear ho0)))
   (try simp only [Act.put, List.setIfInBounds_toArray, List.set_cons_zero, List.set_cons_succ])
   go_cut [53] (fun v53 wc => ∃ (kq : Nat) (x53_24 : Bool), v53 = .bool x53_24 ∧ Aside0 (laws_FnExactStatesOf.j0 kq t725 t728 t741 t744 x53_24 a0_0 l0_1 l0_2 l1_0 t729 t730 t733 t737 = some r) ∧ Aside0 (kq ≤ k) ∧ Aside0 (Kd.R (Kd.int .i64) 2 wc w.heap.size (fun k_ => some k_ ≠ (v742 : Value).ownBlock ∧ some k_ ≠ ((.slice Ao48 t733.length co48) : Value).ownBlock ∧ some k_ ≠ ((.slice Ao52 t737.length co52) : Value).ownBlock) v726 t725) ∧ Aside0 (Kd.R (Kd.int .i64) 2 wc w.heap.size (fun k_ => some k_ ≠ (v726 : Value).ownBlock ∧ some k_ ≠ ((.slice Ao48 t733.length co48) : Value).ownBlock ∧ some k_ ≠ ((.slice Ao52 t737.length co52) : Value).ownBlock) v742 t741) ∧ Aside0 (Kd.S (Kd.slice 2 (Kd.int .i64)) 23 wc w.heap.size (fun k_ => some k_ ≠ (v726 : Value).ownBlock ∧ some k_ ≠ (v742 : Value).ownBlock ∧ some k_ ≠ ((.slice Ao48 t733.length co48) : Value).ownBlock ∧ some k_ ≠ ((.slice Ao52 t737.length co52) : Value).ownBlock ∧ k_ ≠ ge_ N42 k_) (.slice Ao47 t730.length co47) t730) ∧ Aside0 (Kd.R (Kd.int .i64) 2 wc w.heap.size (fun k_ => some k_ ≠ (v726 : Value).ownBlock ∧ some k_ ≠ (v742 : Value).ownBlock ∧ some k_ ≠ ((.slice Ao52 t737.length co52) : Value).ownBlock) (.slice Ao48 t733.length co48) t733) ∧ Aside0 (Kd.R (Kd.int .i64) 2 wc w.heap.size (fun k_ => some k_ ≠ (v726 : Value).ownBlock ∧ some k_ ≠ (v742 : Value).ownBlock ∧ some k_ ≠ ((.slice Ao48 t733.length co48) : Value).ownBlock) (.slice Ao52 t737.length co52) t737) ∧ Aside0 (wc.heap[gb711]? = some (.cells #[.int .i64 a0_0, (.slice A0_1 l0_1.length c0_1), (.slice A0_2 l0_2.length c0_2)] 25 (0, 0))) ∧ Aside0 (wc.heap[gb712]? = some (.cells #[(.slice A1_0 l1_0.length c1_0)] 45 (0, 0))) ∧ Aside0 (wc.heap[gb736]? = some (.cells #[.int .i64 t729, (.slice Ao47 t730.length co47), (.slice Ao48 t733.length co48)] 28 (0, 0))) ∧ Aside0 (wc.heap[gb740]? = some (.cells #[(.slice Ao52 t737.length co52)] 49 (0, 0))) ∧ Aside0 (Below w.heap.size w wc))
   case first =>
    have H := HC25.out
    clear HC25
    replace H := Option.bind_eq_some_iff.mp H
    obtain ⟨t745, A590, H⟩ := H
    replace H : (if t745 = true then (laws_FnExactStatesOf.j0 k t725 t728 t741 t744 (t744 != t728) a0_0 l0_1 l0_2 l1_0 t729 t730 t733 t737) else (laws_FnExactStatesOf.j0 k t725 t728 t741 t744 true a0_0 l0_1 l0_2 l1_0 t729 t730 t733 t737)) = some r := H
    have A59 := Aside0.mk A590
    clear A590
    by_cases c60 : t745 = true
    ·subst c60
     have H1 : (laws_FnExactStatesOf.j0 k t725 t728 t741 t744 (t744 != t728) a0_0 l0_1 l0_2 l1_0 t729 t730 t733 t737) = some r := by rw [if_pos rfl] at H; exact H
     clear H
     have H := H1
     clear H1
     have H' := Aside0.mk H
     clear H
     obtain ⟨Ao61, co61, eo61⟩ := Kd.R_slice HO743.out
     subst eo61
     obtain ⟨Ao62, co62, eo62⟩ := Kd.R_slice HO727.out
     subst eo62
     go_wp2_with (first | ((with_reducible refine gate_callee (f := 21) rfl ?_); refine goesL_ (some 47) rfl rfl Try.func21 (by kernel_rfl) rfl #[.slice Ao61 t741.length co61, .slice Ao62 t725.length co62] rfl (by (try simp only [List.map_toArray, List.map_cons, List.map_nil]); first | done | rfl) ?_; (with_reducible refine (laws_eqInt64S.calls k _ _ t741 _ _ t725 true _ ?side1 ?side2 ?side3 ?side4 A59.out).mono ?_); (case side1 => repeat (first | exact (Kd.R_reads' HO743.out).2.2 | (with_reducible refine Kd.C_alloc ?_ _) | (with_reducible refine Kd.C_drewN ?_ _) | (with_reducible refine Kd.C_drew ?_))); (case side2 => exact (Kd.R_reads' HO743.out).2.1); (case side3 => repeat (first | exact (Kd.R_reads' HO727.out).2.2 | (with_reducible refine Kd.C_alloc ?_ _) | (with_reducible refine Kd.C_drewN ?_ _) | (with_reducible refine Kd.C_drew ?_))); (case side4 => exact (Kd.R_reads' HO727.out).2.1); rintro e w' ⟨rfl, ⟨nd, rfl⟩⟩; refine ⟨_, rfl, ?_⟩))
     go_meet
     case rel => exact ⟨_, ((t744 != t728)), (by first | rfl | (simp; done) | (simp [*]; done)), H', ⟨by first | omega | exact Nat.le_refl _⟩, ⟨by (with_reducible repeat (first | apply Kd.R_alloc | apply Kd.R_drewN | apply Kd.R_drew)); exact Kd.R_mono HO727.out (fun _ hk => ⟨hk.2, ⟨hk.1.1.2, hk.1.2⟩⟩)⟩, ⟨by (with_reducible repeat (first | apply Kd.R_alloc | apply Kd.R_drewN | apply Kd.R_drew)); exact Kd.R_mono HO743.out (fun _ hk => ⟨hk.1.1.2, ⟨hk.1.2, hk.2⟩⟩)⟩, ⟨by (with_reducible repeat (first | apply Kd.S_alloc | apply Kd.S_drewN | apply Kd.S_drew)); exact Kd.S_mono HO732.out (fun _ hk => ⟨hk.1.1.2, ⟨hk.2, ⟨hk.1.1.1.1.1.1.1, ⟨hk.1.2, hk.1.1.1.1.1.1.2⟩⟩⟩⟩)⟩, ⟨by (with_reducible repeat (first | apply Kd.R_alloc | apply Kd.R_drewN | apply Kd.R_drew)); exact Kd.R_mono HO735.out (fun _ hk => ⟨hk.1.1.2, ⟨hk.2, hk.1.2⟩⟩)⟩, ⟨by (with_reducible repeat (first | apply Kd.R_alloc | apply Kd.R_drewN | apply Kd.R_drew)); exact Kd.R_mono HO739.out (fun _ hk => ⟨hk.1.1.2, ⟨hk.2, hk.1.2⟩⟩)⟩, ⟨by (with_reducible repeat (first | refine blk_drewN ?_ _ | refine blk_drew ?_ | refine blk_alloc ?_ _)); exact BK711.out⟩, ⟨by (with_reducible repeat (first | refine blk_drewN ?_ _ | refine blk_drew ?_ | refine blk_alloc ?_ _)); exact BK712.out⟩, ⟨by (with_reducible repeat (first | refine blk_drewN ?_ _ | refine blk_drew ?_ | refine blk_alloc ?_ _)); exact BK736.out⟩, ⟨by (with_reducible repeat (first | refine blk_drewN ?_ _ | refine blk_drew ?_ | refine blk_alloc ?_ _)); exact BK740.out⟩, ⟨by repeat (first | (with_reducible first | exact HB.out | apply below_alloc | apply pw_below_drewN | apply below_drew1 | refine below_set ?_ GE711.out | refine below_set ?_ GE712.out | refine below_set ?_ GE736.out | refine below_set ?_ GE740.out) | exact HB.out)⟩⟩
    ·replace c60 := Bool.eq_false_iff.mpr c60
     subst c60
     have H1 : (laws_FnExactStatesOf.j0 k t725 t728 t741 t744 true a0_0 l0_1 l0_2 l1_0 t729 t730 t733 t737) = some r := by rw [if_neg (show ¬ (false = true) by decide)] at H; exact H
     clear H
     have H := H1
     clear H1
     have H' := Aside0.mk H
     clear H
     obtain ⟨Ao63, co63, eo63⟩ := Kd.R_slice HO743.out
     subst eo63
     obtain ⟨Ao64, co64, eo64⟩ := Kd.R_slice HO727.out
     subst eo64
     go_wp2_with (first | ((with_reducible refine gate_callee (f := 21) rfl ?_); refine goesL_ (some 47) rfl rfl Try.func21 (by kernel_rfl) rfl #[.slice Ao63 t741.length co63, .slice Ao64 t725.length co64] rfl (by (try simp only [List.map_toArray, List.map_cons, List.map_nil]); first | done | rfl) ?_; (with_reducible refine (laws_eqInt64S.calls k _ _ t741 _ _ t725 false _ ?side1 ?side2 ?side3 ?side4 A59.out).mono ?_); (case side1 => repeat (first | exact (Kd.R_reads' HO743.out).2.2 | (with_reducible refine Kd.C_alloc ?_ _) | (with_reducible refine Kd.C_drewN ?_ _) | (with_reducible refine Kd.C_drew ?_))); (case side2 => exact (Kd.R_reads' HO743.out).2.1); (case side3 => repeat (first | exact (Kd.R_reads' HO727.out).2.2 | (with_reducible refine Kd.C_alloc ?_ _) | (with_reducible refine Kd.C_drewN ?_ _) | (with_reducible refine Kd.C_drew ?_))); (case side4 => exact (Kd.R_reads' HO727.out).2.1); rintro e w' ⟨rfl, ⟨nd, rfl⟩⟩; refine ⟨_, rfl, ?_⟩))
     go_meet
     case rel => exact ⟨_, (true), (by first | rfl | (simp; done) | (simp [*]; done)), H', ⟨by first | omega | exact Nat.le_refl _⟩, ⟨by (with_reducible repeat (first | apply Kd.R_alloc | apply Kd.R_drewN | apply Kd.R_drew)); exact Kd.R_mono HO727.out (fun _ hk => ⟨hk.2, ⟨hk.1.1.2, hk.1.2⟩⟩)⟩, ⟨by (with_reducible repeat (first | apply Kd.R_alloc | apply Kd.R_drewN | apply Kd.R_drew)); exact Kd.R_mono HO743.out (fun _ hk => ⟨hk.1.1.2, ⟨hk.1.2, hk.2⟩⟩)⟩, ⟨by (with_reducible repeat (first | apply Kd.S_alloc | apply Kd.S_drewN | apply Kd.S_drew)); exact Kd.S_mono HO732.out (fun _ hk => ⟨hk.1.1.2, ⟨hk.2, ⟨hk.1.1.1.1.1.1.1, ⟨hk.1.2, hk.1.1.1.1.1.1.2⟩⟩⟩⟩)⟩, ⟨by (with_reducible repeat (first | apply Kd.R_alloc | apply Kd.R_drewN | apply Kd.R_drew)); exact Kd.R_mono HO735.out (fun _ hk => ⟨hk.1.1.2, ⟨hk.2, hk.1.2⟩⟩)⟩, ⟨by (with_reducible repeat (first | apply Kd.R_alloc | apply Kd.R_drewN | apply Kd.R_drew)); exact Kd.R_mono HO739.out (fun _ hk => ⟨hk.1.1.2, ⟨hk.2, hk.1.2⟩⟩)⟩, ⟨by (with_reducible repeat (first | refine blk_drewN ?_ _ | refine blk_drew ?_ | refine blk_alloc ?_ _)); exact BK711.out⟩, ⟨by (with_reducible repeat (first | refine blk_drewN ?_ _ | refine blk_drew ?_ | refine blk_alloc ?_ _)); exact BK712.out⟩, ⟨by (with_reducible repeat (first | refine blk_drewN ?_ _ | refine blk_drew ?_ | refine blk_alloc ?_ _)); exact BK736.out⟩, ⟨by (with_reducible repeat (first | refine blk_drewN ?_ _ | refine blk_drew ?_ | refine blk_alloc ?_ _)); exact BK740.out⟩, ⟨by repeat (first | (with_reducible first | exact HB.out | apply below_alloc | apply pw_below_drewN | apply below_drew1 | refine below_set ?_ GE711.out | refine below_set ?_ GE712.out | refine below_set ?_ GE736.out | refine below_set ?_ GE740.out) | exact HB.out)⟩⟩
   case rest =>
    clear HC25
    try clear c1
    try clear c2
    try clear p2
    try clear c3
    try clear c4
    try clear c4b0
    try clear c5
    try clear c6
    try clear c7
    try clear c9
    try clear c10
    try clear c11
    try clear c11b0
    try clear c12
    try clear c14
    try clear c21
    try clear c28
    try clear c30
    try clear c33
    try clear c34
    try clear c44
    try clear c45
    try clear c53
    try clear c54
    try clear c55
    try clear c60
    try clear hcz15_0
    try clear hcz15_1
    try clear hcz15_2
    try clear hcz17_0
    try clear hcz29_0
    try clear hcz29_1
    try clear hcz29_2
    try clear hcz31_0
    try clear hcz40_0
    try clear hcz40_1
    try clear hcz40_2
    try clear hcz46_0
    try clear hcz46_1
    try clear hcz46_2
    try clear hcz49_0
    try clear hcz56_0
    try clear hcz57_0
    try clear hcz57_1
    try clear hcz57_2
    try clear hcz8_0
    try clear hcz8_1
    try clear hcz8_2
    try clear hfz15_0
    try clear hfz15_1
    try clear hfz15_2
    try clear hfz17_0
    try clear hfz29_0
    try clear hfz29_1
    try clear hfz29_2
    try clear hfz31_0
    try clear hfz40_0
    try clear hfz40_1
    try clear hfz40_2
    try clear hfz46_0
    try clear hfz46_1
    try clear hfz46_2
    try clear hfz49_0
    try clear hfz56_0
    try clear hfz57_0
    try clear hfz57_1
    try clear hfz57_2
    try clear hfz8_0
    try clear hfz8_1
    try clear hfz8_2
    obtain ⟨kq, x53_24, rfl, HA, HJ24, HO_6, HO_10, HO_737001, HO_737002, HO_741000, BK711, BK712, BK736, BK740, HB⟩ := hcut
    cases kq with
    | zero => exact absurd HA.out (by simp [laws_FnExactStatesOf.j0])
    | succ kj24 =>
     have H := HA.out
     clear HA
     simp only [laws_FnExactStatesOf.j0] at H
     by_cases c65 : x53_24 = true
     ·subst c65
      have H1 : (some false) = some r := by rw [if_pos rfl] at H; exact H
      clear H
      have H := H1
      clear H1
      obtain rfl := Option.some.inj H
      go_wp2
      go_ret
      exact ⟨by first | rfl | (simp [errW_none, errW_some] <;> rfl) | (simp [*, errW_none, errW_some] <;> rfl), by repeat (first | (with_reducible first | exact HB.out | apply below_alloc | apply pw_below_drewN | apply below_drew1 | refine below_set ?_ GE711.out | refine below_set ?_ GE712.out | refine below_set ?_ GE736.out | refine below_set ?_ GE740.out) | exact HB.out)⟩
     ·replace c65 := Bool.eq_false_iff.mpr c65
      subst c65
      have H1 : ((laws_toAutomaton.f kj24 a0_0 l0_1 l0_2).bind fun bt746 => ((laws_eqAutomaton.f kj24 t729 t730 t733 bt746.1 bt746.2.1 bt746.2.2).bind fun t753 => (if t753 = true then ((laws_toTree.f kj24 l1_0).bind fun t754 => ((laws_eqTree.f kj24 t737 t754).bind fun t757 => (if t757 = true then ((laws_markAutomaton.f kj24 t729 t730 t733 1).bind fun bt758 => ((laws_markTree.f kj24 t737 bt758.1).bind fun bt761 => (if bt761.1 < 0 then (laws_FnExactStatesOf.j1 kj24 t725 t728 t741 true a0_0 l0_1 l0_2 l1_0) else ((laws_eqInt64S.f kj24 t741 t725).bind fun t763 => (if t763 = true then (laws_FnExactStatesOf.j1 kj24 t725 t728 t741 (t744 != t728) a0_0 l0_1 l0_2 l1_0) else (laws_FnExactStatesOf.j1 kj24 t725 t728 t741 true a0_0 l0_1 l0_2 l1_0)))))) else (some false)))) else (some false)))) = some r := by rw [if_neg (show ¬ (false = true) by decide)] at H; exact H
      clear H
      have H := H1
      clear H1
      replace H := Option.bind_eq_some_iff.mp H
      obtain ⟨⟨t746, t747, t750⟩, A660, H⟩ := H
      replace H : ((laws_eqAutomaton.f kj24 t729 t730 t733 t746 t747 t750).bind fun t753 => (if t753 = true then ((laws_toTree.f kj24 l1_0).bind fun t754 => ((laws_eqTree.f kj24 t737 t754).bind fun t757 => (if t757 = true then ((laws_markAutomaton.f kj24 t729 t730 t733 1).bind fun bt758 => ((laws_markTree.f kj24 t737 bt758.1).bind fun bt761 => (if bt761.1 < 0 then (laws_FnExactStatesOf.j1 kj24 t725 t728 t741 true a0_0 l0_1 l0_2 l1_0) else ((laws_eqInt64S.f kj24 t741 t725).bind fun t763 => (if t763 = true then (laws_FnExactStatesOf.j1 kj24 t725 t728 t741 (t744 != t728) a0_0 l0_1 l0_2 l1_0) else (laws_FnExactStatesOf.j1 kj24 t725 t728 t741 true a0_0 l0_1 l0_2 l1_0)))))) else (some false)))) else (some false))) = some r := H
      have A66 := Aside0.mk A660
      clear A660
      replace H := Option.bind_eq_some_iff.mp H
      obtain ⟨t753, A670, H⟩ := H
      replace H : (if t753 = true then ((laws_toTree.f kj24 l1_0).bind fun t754 => ((laws_eqTree.f kj24 t737 t754).bind fun t757 => (if t757 = true then ((laws_markAutomaton.f kj24 t729 t730 t733 1).bind fun bt758 => ((laws_markTree.f kj24 t737 bt758.1).bind fun bt761 => (if bt761.1 < 0 then (laws_FnExactStatesOf.j1 kj24 t725 t728 t741 true a0_0 l0_1 l0_2 l1_0) else ((laws_eqInt64S.f kj24 t741 t725).bind fun t763 => (if t763 = true then (laws_FnExactStatesOf.j1 kj24 t725 t728 t741 (t744 != t728) a0_0 l0_1 l0_2 l1_0) else (laws_FnExactStatesOf.j1 kj24 t725 t728 t741 true a0_0 l0_1 l0_2 l1_0)))))) else (some false)))) else (some false)) = some r := H
      have A67 := Aside0.mk A670
      clear A670
      by_cases c68 : t753 = true
      ·subst c68
       have H1 : ((laws_toTree.f kj24 l1_0).bind fun t754 => ((laws_eqTree.f kj24 t737 t754).bind fun t757 => (if t757 = true then ((laws_markAutomaton.f kj24 t729 t730 t733 1).bind fun bt758 => ((laws_markTree.f kj24 t737 bt758.1).bind fun bt761 => (if bt761.1 < 0 then (laws_FnExactStatesOf.j1 kj24 t725 t728 t741 true a0_0 l0_1 l0_2 l1_0) else ((laws_eqInt64S.f kj24 t741 t725).bind fun t763 => (if t763 = true then (laws_FnExactStatesOf.j1 kj24 t725 t728 t741 (t744 != t728) a0_0 l0_1 l0_2 l1_0) else (laws_FnExactStatesOf.j1 kj24 t725 t728 t741 true a0_0 l0_1 l0_2 l1_0)))))) else (some false)))) = some r := by rw [if_pos rfl] at H; exact H
       clear H
       have H := H1
       clear H1
       replace H := Option.bind_eq_some_iff.mp H
       obtain ⟨t754, A690, H⟩ := H
       replace H : ((laws_eqTree.f kj24 t737 t754).bind fun t757 => (if t757 = true then ((laws_markAutomaton.f kj24 t729 t730 t733 1).bind fun bt758 => ((laws_markTree.f kj24 t737 bt758.1).bind fun bt761 => (if bt761.1 < 0 then (laws_FnExactStatesOf.j1 kj24 t725 t728 t741 true a0_0 l0_1 l0_2 l1_0) else ((laws_eqInt64S.f kj24 t741 t725).bind fun t763 => (if t763 = true then (laws_FnExactStatesOf.j1 kj24 t725 t728 t741 (t744 != t728) a0_0 l0_1 l0_2 l1_0) else (laws_FnExactStatesOf.j1 kj24 t725 t728 t741 true a0_0 l0_1 l0_2 l1_0)))))) else (some false))) = some r := H
       have A69 := Aside0.mk A690
       clear A690
       replace H := Option.bind_eq_some_iff.mp H
       obtain ⟨t757, A700, H⟩ := H
       replace H : (if t757 = true then ((laws_markAutomaton.f kj24 t729 t730 t733 1).bind fun bt758 => ((laws_markTree.f kj24 t737 bt758.1).bind fun bt761 => (if bt761.1 < 0 then (laws_FnExactStatesOf.j1 kj24 t725 t728 t741 true a0_0 l0_1 l0_2 l1_0) else ((laws_eqInt64S.f kj24 t741 t725).bind fun t763 => (if t763 = true then (laws_FnExactStatesOf.j1 kj24 t725 t728 t741 (t744 != t728) a0_0 l0_1 l0_2 l1_0) else (laws_FnExactStatesOf.j1 kj24 t725 t728 t741 true a0_0 l0_1 l0_2 l1_0)))))) else (some false)) = some r := H
       have A70 := Aside0.mk A700
       clear A700
       by_cases c71 : t757 = true
       ·subst c71
        have H1 : ((laws_markAutomaton.f kj24 t729 t730 t733 1).bind fun bt758 => ((laws_markTree.f kj24 t737 bt758.1).bind fun bt761 => (if bt761.1 < 0 then (laws_FnExactStatesOf.j1 kj24 t725 t728 t741 true a0_0 l0_1 l0_2 l1_0) else ((laws_eqInt64S.f kj24 t741 t725).bind fun t763 => (if t763 = true then (laws_FnExactStatesOf.j1 kj24 t725 t728 t741 (t744 != t728) a0_0 l0_1 l0_2 l1_0) else (laws_FnExactStatesOf.j1 kj24 t725 t728 t741 true a0_0 l0_1 l0_2 l1_0)))))) = some r := by rw [if_pos rfl] at H; exact H
        clear H
        have H := H1
        clear H1
        replace H := Option.bind_eq_some_iff.mp H
        obtain ⟨⟨t758, t759, t760⟩, A720, H⟩ := H
        replace H : ((laws_markTree.f kj24 t737 t758).bind fun bt761 => (if bt761.1 < 0 then (laws_FnExactStatesOf.j1 kj24 t725 t728 t741 true a0_0 l0_1 l0_2 l1_0) else ((laws_eqInt64S.f kj24 t741 t725).bind fun t763 => (if t763 = true then (laws_FnExactStatesOf.j1 kj24 t725 t728 t741 (t744 != t728) a0_0 l0_1 l0_2 l1_0) else (laws_FnExactStatesOf.j1 kj24 t725 t728 t741 true a0_0 l0_1 l0_2 l1_0))))) = some r := H
        have A72 := Aside0.mk A720
        clear A720
        replace H := Option.bind_eq_some_iff.mp H
        obtain ⟨⟨t761, t762⟩, A730, H⟩ := H
        replace H : (if t761 < 0 then (laws_FnExactStatesOf.j1 kj24 t725 t728 t741 true a0_0 l0_1 l0_2 l1_0) else ((laws_eqInt64S.f kj24 t741 t725).bind fun t763 => (if t763 = true then (laws_FnExactStatesOf.j1 kj24 t725 t728 t741 (t744 != t728) a0_0 l0_1 l0_2 l1_0) else (laws_FnExactStatesOf.j1 kj24 t725 t728 t741 true a0_0 l0_1 l0_2 l1_0)))) = some r := H
        have A73 := Aside0.mk A730
        clear A730
        have HC74 := Aside0.mk H
        clear H
        try go_wp2
        have n0_ := Aside0.mk (Kd.R_drew HO_6.out)
        have n1_ := Aside0.mk (Kd.R_drew HO_10.out)
        have n2_ := Aside0.mk (Kd.S_drew HO_737001.out)
        have n3_ := Aside0.mk (Kd.R_drew HO_737002.out)
        have n4_ := Aside0.mk (Kd.R_drew HO_741000.out)
        have n5_ := Aside0.mk (blk_drew BK711.out)
        have n6_ := Aside0.mk (blk_drew BK712.out)
        have n7_ := Aside0.mk (blk_drew BK736.out)
        have n8_ := Aside0.mk (blk_drew BK740.out)
        have n9_ := Aside0.mk (below_drew1 HB.out)
        clear HO_6
        clear HO_10
        clear HO_737001
        clear HO_737002
        clear HO_741000
        clear BK711
        clear BK712
        clear BK736
        clear BK740
        clear HB
        have HO_6 := n0_
        have HO_10 := n1_
        have HO_737001 := n2_
        have HO_737002 := n3_
        have HO_741000 := n4_
        have BK711 := n5_
        have BK712 := n6_
        have BK736 := n7_
        have BK740 := n8_
        have HB := n9_
        clear n0_ n1_ n2_ n3_ n4_ n5_ n6_ n7_ n8_ n9_
        refine start_ (n := 5) (S := fun w' => w'.cell? ⟨gb736, 0, none⟩ = some (.int .i64 t729) ∧ w'.cell? ⟨gb736, 1, none⟩ = some (.slice Ao47 t730.length co47) ∧ w'.cell? ⟨gb736, 2, none⟩ = some (.slice Ao48 t733.length co48) ∧ w'.cell? ⟨gb711, 0, none⟩ = some (.int .i64 a0_0) ∧ w'.cell? ⟨gb711, 1, none⟩ = some (.slice A0_1 l0_1.length c0_1) ∧ w'.cell? ⟨gb711, 2, none⟩ = some (.slice A0_2 l0_2.length c0_2)) (ds := []) #[false, false, false, false, false] (by kernel_rfl) rfl rfl ⟨(blk_cell BK736.out 0).trans rfl, (blk_cell BK736.out 1).trans rfl, (blk_cell BK736.out 2).trans rfl, (blk_cell BK711.out 0).trans rfl, (blk_cell BK711.out 1).trans rfl, (blk_cell BK711.out 2).trans rfl⟩ (fun hHeld => ?_)
        generalize wc.drew = w75 at HO_6 HO_10 HO_737001 HO_737002 HO_741000 BK711 BK712 BK736 BK740 HB hHeld ⊢
        refine take_ (i := 0) (N := some 54) (v := ?_) (a' := ?_) #[true, false, false, false, false] rfl rfl (by kernel_rfl) (fun _ _ _ h => h) (Or.inl ⟨by rfl, ?_⟩) hHeld ?_ ?_
        rotate_left
        ·rintro w' ⟨s0, s1, s2, s3, s4, s5⟩
         go_simp
         with_reducible rfl
        rotate_left
        ·simp only [Act.put, List.setIfInBounds_toArray, List.set_cons_zero, List.set_cons_succ, i64_w, i32_w]
         rfl
        refine take_ (i := 1) (N := some 55) (v := ?_) (a' := ?_) #[true, true, false, false, false] rfl rfl (by kernel_rfl) (fun _ _ _ h => h) (Or.inl ⟨by rfl, ?_⟩) hHeld ?_ ?_
        rotate_left
        ·rintro w' ⟨s0, s1, s2, s3, s4, s5⟩
         go_simp
         with_reducible rfl
        rotate_left
        ·simp only [Act.put, List.setIfInBounds_toArray, List.set_cons_zero, List.set_cons_succ, i64_w, i32_w]
         rfl
        refine one_ (i := 2) (N := some 56) #[true, true, true, false, false] rfl rfl (by kernel_rfl) (by decide) (fun K hK => ?_)
        refine goes_ Try.func12 (by kernel_rfl) rfl #[.agg #[.int .i64 a0_0, .slice A0_1 l0_1.length c0_1, .slice A0_2 l0_2.length c0_2]] (by rfl) rfl rfl (by (try simp only [List.map_toArray, List.map_cons, List.map_nil]); first | done | rfl) ?_
        with_reducible refine (laws_toAutomaton.calls kj24 a0_0 _ _ l0_1 _ _ l0_2 t746 t747 t750 _ ?side1 ?side2 ?side3 ?side4 A66.out).mono ?_
        (case side1 => repeat (first | exact (Kd.C_below HR0_1.out HB.out) | (with_reducible refine Kd.C_alloc ?_ _) | (with_reducible refine Kd.C_drewN ?_ _) | (with_reducible refine Kd.C_drew ?_)))
        (case side2 => exact HC0_1.out)
        (case side3 => repeat (first | exact (Kd.C_below HR0_2.out HB.out) | (with_reducible refine Kd.C_alloc ?_ _) | (with_reducible refine Kd.C_drewN ?_ _) | (with_reducible refine Kd.C_drew ?_)))
        (case side4 => exact HC0_2.out)
        rintro e w76 ⟨v748, v751, rfl, ho0, ho1, hb⟩
        refine ⟨_, rfl, ?_⟩
        have n0_ := Aside0.mk (Kd.R_elder' HO_6.out (Kd.R_base ho1) hb)
        have n1_ := Aside0.mk (Kd.R_elder' HO_10.out (Kd.R_base ho1) hb)
        have n2_ := Aside0.mk (Kd.S_mono (Kd.S_told (Kd.S_told (Kd.S_old HO_737001.out hb) (Kd.S_base ho0)) (Kd.R_base ho1)) (fun _ h_ => h_.1))
        have n3_ := Aside0.mk (Kd.R_elder' HO_737002.out (Kd.R_base ho1) hb)
        have n4_ := Aside0.mk (Kd.R_elder' HO_741000.out (Kd.R_base ho1) hb)
        have n5_ := Aside0.mk (Kd.S_lower (Kd.S_new' (Kd.S_new' (Kd.S_new' (Kd.S_new' (Kd.S_new' ho0 (Kd.R_lt HO_6.out)) (Kd.R_lt HO_10.out)) (Kd.S_lt HO_737001.out)) (Kd.R_lt HO_737002.out)) (Kd.R_lt HO_741000.out)) (below_size (by repeat (first | (with_reducible first | exact HB.out | apply below_alloc | apply pw_below_drewN | apply below_drew1 | refine below_set ?_ GE711.out | refine below_set ?_ GE712.out | refine below_set ?_ GE736.out | refine below_set ?_ GE740.out) | exact HB.out))))
        have n6_ := Aside0.mk (Kd.R_lower (Kd.R_new' (Kd.R_new' (Kd.R_new' (Kd.R_new' ho1 (Kd.R_lt HO_6.out)) (Kd.R_lt HO_10.out)) (Kd.R_lt HO_737002.out)) (Kd.R_lt HO_741000.out)) (below_size (by repeat (first | (with_reducible first | exact HB.out | apply below_alloc | apply pw_below_drewN | apply below_drew1 | refine below_set ?_ GE711.out | refine below_set ?_ GE712.out | refine below_set ?_ GE736.out | refine below_set ?_ GE740.out) | exact HB.out))))
        have n7_ := Aside0.mk (blk_below (g := gb711) (o := .cells #[.int .i64 a0_0, .slice A0_1 l0_1.length c0_1, .slice A0_2 l0_2.length c0_2] 25 (0, 0)) BK711.out hb)
        have n8_ := Aside0.mk (blk_below (g := gb712) (o := .cells #[.slice A1_0 l1_0.length c1_0] 45 (0, 0)) BK712.out hb)
        have n9_ := Aside0.mk (blk_below (g := gb736) (o := .cells #[.int .i64 t729, .slice Ao47 t730.length co47, .slice Ao48 t733.length co48] 28 (0, 0)) BK736.out hb)
        have n10_ := Aside0.mk (blk_below (g := gb740) (o := .cells #[.slice Ao52 t737.length co52] 49 (0, 0)) BK740.out hb)
        have n11_ := Aside0.mk (below_step (by repeat (first | (with_reducible first | exact HB.out | apply below_alloc | apply pw_below_drewN | apply below_drew1 | refine below_set ?_ GE711.out | refine below_set ?_ GE712.out | refine below_set ?_ GE736.out | refine below_set ?_ GE740.out) | exact HB.out)) hb)
        clear HO_6
        clear HO_10
        clear HO_737001
        clear HO_737002
        clear HO_741000
        clear BK711
        clear BK712
        clear BK736
        clear BK740
        clear HB
        have HO_6 := n0_
        have HO_10 := n1_
        have HO_737001 := n2_
        have HO_737002 := n3_
        have HO_741000 := n4_
        have HO749 := n5_
        have HO752 := n6_
        have BK711 := n7_
        have BK712 := n8_
        have BK736 := n9_
        have BK740 := n10_
        have HB := n11_
        clear n0_ n1_ n2_ n3_ n4_ n5_ n6_ n7_ n8_ n9_ n10_ n11_
        (try clear hb)
        (try clear hb2)
        (try clear hk)
        (try clear hi)
        (try clear ho0)
        (try clear ho1)
        obtain ⟨Ao77, co77, eo77⟩ := Kd.S_slice HO749.out
        (first | subst eo77 | (injection eo77 with f1_ f2_ f3_; have f4_ := f1_.symm; have f5_ := f3_.symm; clear f1_ f2_ f3_; subst f4_; subst f5_))
        obtain ⟨Ao78, co78, eo78⟩ := Kd.R_slice HO752.out
        (first | subst eo78 | (injection eo78 with f1_ f2_ f3_; have f4_ := f1_.symm; have f5_ := f3_.symm; clear f1_ f2_ f3_; subst f4_; subst f5_))
        refine hK.out _ _ ⟨(blk_cell BK736.out 0).trans rfl, (blk_cell BK736.out 1).trans rfl, (blk_cell BK736.out 2).trans rfl, (blk_cell BK711.out 0).trans rfl, (blk_cell BK711.out 1).trans rfl, (blk_cell BK711.out 2).trans rfl⟩ (fun hHeld => ?_)
        clear hK K
        refine norm_ (a' := ?_) ?_ ?_
        rotate_left
        ·show Act.put _ (some 56) _ = _
         simp only [Act.put, List.setIfInBounds_toArray, List.set_cons_zero, List.set_cons_succ, i64_w, i32_w]
         rfl
        refine one_ (i := 3) (N := some 57) #[true, true, true, true, false] rfl rfl (by kernel_rfl) (by decide) (fun K hK => ?_)
        refine goes_ Try.func14 (by kernel_rfl) rfl #[.agg #[.int .i64 t729, .slice Ao47 t730.length co47, .slice Ao48 t733.length co48], .agg #[.int .i64 t746, .slice Ao77 t747.length co77, .slice Ao78 t750.length co78]] (by rfl) rfl rfl (by (try simp only [List.map_toArray, List.map_cons, List.map_nil]); first | done | rfl) ?_
        with_reducible refine (laws_eqAutomaton.calls kj24 t729 _ _ t730 _ _ t733 t746 _ _ t747 _ _ t750 true _ ?side1 ?side2 ?side3 ?side4 ?side5 ?side6 ?side7 ?side8 A67.out).mono ?_
        (case side1 => repeat (first | exact (Kd.S_reads' HO_737001.out).2.2 | (with_reducible refine Kd.C_alloc ?_ _) | (with_reducible refine Kd.C_drewN ?_ _) | (with_reducible refine Kd.C_drew ?_)))
        (case side2 => exact (Kd.S_reads' HO_737001.out).2.1)
        (case side3 => repeat (first | exact (Kd.R_reads' HO_737002.out).2.2 | (with_reducible refine Kd.C_alloc ?_ _) | (with_reducible refine Kd.C_drewN ?_ _) | (with_reducible refine Kd.C_drew ?_)))
        (case side4 => exact (Kd.R_reads' HO_737002.out).2.1)
        (case side5 => repeat (first | exact (Kd.S_reads' HO749.out).2.2 | (with_reducible refine Kd.C_alloc ?_ _) | (with_reducible refine Kd.C_drewN ?_ _) | (with_reducible refine Kd.C_drew ?_)))
        (case side6 => exact (Kd.S_reads' HO749.out).2.1)
        (case side7 => repeat (first | exact (Kd.R_reads' HO752.out).2.2 | (with_reducible refine Kd.C_alloc ?_ _) | (with_reducible refine Kd.C_drewN ?_ _) | (with_reducible refine Kd.C_drew ?_)))
        (case side8 => exact (Kd.R_reads' HO752.out).2.1)
        rintro e w79 ⟨rfl, hb⟩
        refine ⟨_, rfl, ?_⟩
        have n0_ := Aside0.mk (Kd.R_below HO_6.out hb)
        have n1_ := Aside0.mk (Kd.R_below HO_10.out hb)
        have n2_ := Aside0.mk (Kd.S_below HO_737001.out hb)
        have n3_ := Aside0.mk (Kd.R_below HO_737002.out hb)
        have n4_ := Aside0.mk (Kd.R_below HO_741000.out hb)
        have n5_ := Aside0.mk (Kd.S_below HO749.out hb)
        have n6_ := Aside0.mk (Kd.R_below HO752.out hb)
        have n7_ := Aside0.mk (blk_below (g := gb711) (o := .cells #[.int .i64 a0_0, .slice A0_1 l0_1.length c0_1, .slice A0_2 l0_2.length c0_2] 25 (0, 0)) BK711.out hb)
        have n8_ := Aside0.mk (blk_below (g := gb712) (o := .cells #[.slice A1_0 l1_0.length c1_0] 45 (0, 0)) BK712.out hb)
        have n9_ := Aside0.mk (blk_below (g := gb736) (o := .cells #[.int .i64 t729, .slice Ao47 t730.length co47, .slice Ao48 t733.length co48] 28 (0, 0)) BK736.out hb)
        have n10_ := Aside0.mk (blk_below (g := gb740) (o := .cells #[.slice Ao52 t737.length co52] 49 (0, 0)) BK740.out hb)
        have n11_ := Aside0.mk (below_step (by repeat (first | (with_reducible first | exact HB.out | apply below_alloc | apply pw_below_drewN | apply below_drew1 | refine below_set ?_ GE711.out | refine below_set ?_ GE712.out | refine below_set ?_ GE736.out | refine below_set ?_ GE740.out) | exact HB.out)) hb)
        clear HO_6
        clear HO_10
        clear HO_737001
        clear HO_737002
        clear HO_741000
        clear HO749
        clear HO752
        clear BK711
        clear BK712
        clear BK736
        clear BK740
        clear HB
        have HO_6 := n0_
        have HO_10 := n1_
        have HO_737001 := n2_
        have HO_737002 := n3_
        have HO_741000 := n4_
        have HO749 := n5_
        have HO752 := n6_
        have BK711 := n7_
        have BK712 := n8_
        have BK736 := n9_
        have BK740 := n10_
        have HB := n11_
        clear n0_ n1_ n2_ n3_ n4_ n5_ n6_ n7_ n8_ n9_ n10_ n11_
        (try clear hb)
        (try clear hb2)
        (try clear hk)
        (try clear hi)
        refine hK.out _ _ ⟨(blk_cell BK736.out 0).trans rfl, (blk_cell BK736.out 1).trans rfl, (blk_cell BK736.out 2).trans rfl, (blk_cell BK711.out 0).trans rfl, (blk_cell BK711.out 1).trans rfl, (blk_cell BK711.out 2).trans rfl⟩ (fun hHeld => ?_)
        clear hK K
        refine norm_ (a' := ?_) ?_ ?_
        rotate_left
        ·show Act.put _ (some 57) _ = _
         simp only [Act.put, List.setIfInBounds_toArray, List.set_cons_zero, List.set_cons_succ, i64_w, i32_w]
         rfl
        refine pure_ (i := 4) (N := some 58) (v := ?_) (a' := ?_) #[true, true, true, true, true] rfl rfl (by kernel_rfl) (fun _ _ _ h => h) (Or.inl ⟨by rfl, ?_⟩) ?_ ?_
        rotate_left
        ·intro w'
         go_simp
         with_reducible rfl
        rotate_left
        ·simp only [Act.put, List.setIfInBounds_toArray, List.set_cons_zero, List.set_cons_succ, i64_w, i32_w]
         rfl
        refine done_ (by kernel_rfl) ?_
        try go_wp2
        have n0_ := Aside0.mk (Kd.R_drew HO_6.out)
        have n1_ := Aside0.mk (Kd.R_drew HO_10.out)
        have n2_ := Aside0.mk (Kd.S_drew HO_737001.out)
        have n3_ := Aside0.mk (Kd.R_drew HO_737002.out)
        have n4_ := Aside0.mk (Kd.R_drew HO_741000.out)
        have n5_ := Aside0.mk (Kd.S_drew HO749.out)
        have n6_ := Aside0.mk (Kd.R_drew HO752.out)
        have n7_ := Aside0.mk (blk_drew BK711.out)
        have n8_ := Aside0.mk (blk_drew BK712.out)
        have n9_ := Aside0.mk (blk_drew BK736.out)
        have n10_ := Aside0.mk (blk_drew BK740.out)
        have n11_ := Aside0.mk (below_drew1 HB.out)
        clear HO_6
        clear HO_10
        clear HO_737001
        clear HO_737002
        clear HO_741000
        clear HO749
        clear HO752
        clear BK711
        clear BK712
        clear BK736
        clear BK740
        clear HB
        have HO_6 := n0_
        have HO_10 := n1_
        have HO_737001 := n2_
        have HO_737002 := n3_
        have HO_741000 := n4_
        have HO749 := n5_
        have HO752 := n6_
        have BK711 := n7_
        have BK712 := n8_
        have BK736 := n9_
        have BK740 := n10_
        have HB := n11_
        clear n0_ n1_ n2_ n3_ n4_ n5_ n6_ n7_ n8_ n9_ n10_ n11_
        refine start_ (n := 5) (S := fun w' => w'.cell? ⟨gb740, 0, none⟩ = some (.slice Ao52 t737.length co52) ∧ w'.cell? ⟨gb712, 0, none⟩ = some (.slice A1_0 l1_0.length c1_0)) (ds := []) #[false, false, false, false, false] (by kernel_rfl) rfl rfl ⟨(blk_cell BK740.out 0).trans rfl, (blk_cell BK712.out 0).trans rfl⟩ (fun hHeld => ?_)
        generalize w79.drew = w80 at HO_6 HO_10 HO_737001 HO_737002 HO_741000 HO749 HO752 BK711 BK712 BK736 BK740 HB hHeld ⊢
        refine take_ (i := 0) (N := some 59) (v := ?_) (a' := ?_) #[true, false, false, false, false] rfl rfl (by kernel_rfl) (fun _ _ _ h => h) (Or.inl ⟨by rfl, ?_⟩) hHeld ?_ ?_
        rotate_left
        ·rintro w' ⟨s0, s1⟩
         go_simp
         with_reducible rfl
        rotate_left
        ·simp only [Act.put, List.setIfInBounds_toArray, List.set_cons_zero, List.set_cons_succ, i64_w, i32_w]
         rfl
        refine take_ (i := 1) (N := some 60) (v := ?_) (a' := ?_) #[true, true, false, false, false] rfl rfl (by kernel_rfl) (fun _ _ _ h => h) (Or.inl ⟨by rfl, ?_⟩) hHeld ?_ ?_
        rotate_left
        ·rintro w' ⟨s0, s1⟩
         go_simp
         with_reducible rfl
        rotate_left
        ·simp only [Act.put, List.setIfInBounds_toArray, List.set_cons_zero, List.set_cons_succ, i64_w, i32_w]
         rfl
        refine one_ (i := 2) (N := some 61) #[true, true, true, false, false] rfl rfl (by kernel_rfl) (by decide) (fun K hK => ?_)
        refine goes_ Try.func30 (by kernel_rfl) rfl #[.agg #[.slice A1_0 l1_0.length c1_0]] (by rfl) rfl rfl (by (try simp only [List.map_toArray, List.map_cons, List.map_nil]); first | done | rfl) ?_
        with_reducible refine (laws_toTree.calls kj24 _ _ l1_0 t754 _ ?side1 ?side2 A69.out).mono ?_
        (case side1 => repeat (first | exact (Kd.C_below HR1_0.out HB.out) | (with_reducible refine Kd.C_alloc ?_ _) | (with_reducible refine Kd.C_drewN ?_ _) | (with_reducible refine Kd.C_drew ?_)))
        (case side2 => exact HC1_0.out)
        rintro e w81 ⟨v755, rfl, ho0, hb⟩
        refine ⟨_, rfl, ?_⟩
        have n0_ := Aside0.mk (Kd.R_elder' HO_6.out (Kd.R_base ho0) hb)
        have n1_ := Aside0.mk (Kd.R_elder' HO_10.out (Kd.R_base ho0) hb)
        have n2_ := Aside0.mk (Kd.S_elder' HO_737001.out (Kd.R_base ho0) hb)
        have n3_ := Aside0.mk (Kd.R_elder' HO_737002.out (Kd.R_base ho0) hb)
        have n4_ := Aside0.mk (Kd.R_elder' HO_741000.out (Kd.R_base ho0) hb)
        have n5_ := Aside0.mk (Kd.S_elder' HO749.out (Kd.R_base ho0) hb)
        have n6_ := Aside0.mk (Kd.R_elder' HO752.out (Kd.R_base ho0) hb)
        have n7_ := Aside0.mk (Kd.R_lower (Kd.R_new' (Kd.R_new' (Kd.R_new' (Kd.R_new' (Kd.R_new' ho0 (Kd.R_lt HO_6.out)) (Kd.R_lt HO_10.out)) (Kd.R_lt HO_737002.out)) (Kd.R_lt HO_741000.out)) (Kd.R_lt HO752.out)) (below_size (by repeat (first | (with_reducible first | exact HB.out | apply below_alloc | apply pw_below_drewN | apply below_drew1 | refine below_set ?_ GE711.out | refine below_set ?_ GE712.out | refine below_set ?_ GE736.out | refine below_set ?_ GE740.out) | exact HB.out))))
        have n8_ := Aside0.mk (blk_below (g := gb711) (o := .cells #[.int .i64 a0_0, .slice A0_1 l0_1.length c0_1, .slice A0_2 l0_2.length c0_2] 25 (0, 0)) BK711.out hb)
        have n9_ := Aside0.mk (blk_below (g := gb712) (o := .cells #[.slice A1_0 l1_0.length c1_0] 45 (0, 0)) BK712.out hb)
        have n10_ := Aside0.mk (blk_below (g := gb736) (o := .cells #[.int .i64 t729, .slice Ao47 t730.length co47, .slice Ao48 t733.length co48] 28 (0, 0)) BK736.out hb)
        have n11_ := Aside0.mk (blk_below (g := gb740) (o := .cells #[.slice Ao52 t737.length co52] 49 (0, 0)) BK740.out hb)
        have n12_ := Aside0.mk (below_step (by repeat (first | (with_reducible first | exact HB.out | apply below_alloc | apply pw_below_drewN | apply below_drew1 | refine below_set ?_ GE711.out | refine below_set ?_ GE712.out | refine below_set ?_ GE736.out | refine below_set ?_ GE740.out) | exact HB.out)) hb)
        clear HO_6
        clear HO_10
        clear HO_737001
        clear HO_737002
        clear HO_741000
        clear HO749
        clear HO752
        clear BK711
        clear BK712
        clear BK736
        clear BK740
        clear HB
        have HO_6 := n0_
        have HO_10 := n1_
        have HO_737001 := n2_
        have HO_737002 := n3_
        have HO_741000 := n4_
        have HO749 := n5_
        have HO752 := n6_
        have HO756 := n7_
        have BK711 := n8_
        have BK712 := n9_
        have BK736 := n10_
        have BK740 := n11_
        have HB := n12_
        clear n0_ n1_ n2_ n3_ n4_ n5_ n6_ n7_ n8_ n9_ n10_ n11_ n12_
        (try clear hb)
        (try clear hb2)
        (try clear hk)
        (try clear hi)
        (try clear ho0)
        obtain ⟨Ao82, co82, eo82⟩ := Kd.R_slice HO756.out
        (first | subst eo82 | (injection eo82 with f1_ f2_ f3_; have f4_ := f1_.symm; have f5_ := f3_.symm; clear f1_ f2_ f3_; subst f4_; subst f5_))
        refine hK.out _ _ ⟨(blk_cell BK740.out 0).trans rfl, (blk_cell BK712.out 0).trans rfl⟩ (fun hHeld => ?_)
        clear hK K
        refine norm_ (a' := ?_) ?_ ?_
        rotate_left
        ·show Act.put _ (some 61) _ = _
         simp only [Act.put, List.setIfInBounds_toArray, List.set_cons_zero, List.set_cons_succ, i64_w, i32_w]
         rfl
        refine one_ (i := 3) (N := some 62) #[true, true, true, true, false] rfl rfl (by kernel_rfl) (by decide) (fun K hK => ?_)
        refine goes_ Try.func32 (by kernel_rfl) rfl #[.agg #[.slice Ao52 t737.length co52], .agg #[.slice Ao82 t754.length co82]] (by rfl) rfl rfl (by (try simp only [List.map_toArray, List.map_cons, List.map_nil]); first | done | rfl) ?_
        with_reducible refine (laws_eqTree.calls kj24 _ _ t737 _ _ t754 true _ ?side1 ?side2 ?side3 ?side4 A70.out).mono ?_
        (case side1 => repeat (first | exact (Kd.R_reads' HO_741000.out).2.2 | (with_reducible refine Kd.C_alloc ?_ _) | (with_reducible refine Kd.C_drewN ?_ _) | (with_reducible refine Kd.C_drew ?_)))
        (case side2 => exact (Kd.R_reads' HO_741000.out).2.1)
        (case side3 => repeat (first | exact (Kd.R_reads' HO756.out).2.2 | (with_reducible refine Kd.C_alloc ?_ _) | (with_reducible refine Kd.C_drewN ?_ _) | (with_reducible refine Kd.C_drew ?_)))
        (case side4 => exact (Kd.R_reads' HO756.out).2.1)
        rintro e w83 ⟨rfl, hb⟩
        refine ⟨_, rfl, ?_⟩
        have n0_ := Aside0.mk (Kd.R_below HO_6.out hb)
        have n1_ := Aside0.mk (Kd.R_below HO_10.out hb)
        have n2_ := Aside0.mk (Kd.S_below HO_737001.out hb)
        have n3_ := Aside0.mk (Kd.R_below HO_737002.out hb)
        have n4_ := Aside0.mk (Kd.R_below HO_741000.out hb)
        have n5_ := Aside0.mk (Kd.S_below HO749.out hb)
        have n6_ := Aside0.mk (Kd.R_below HO752.out hb)
        have n7_ := Aside0.mk (Kd.R_below HO756.out hb)
        have n8_ := Aside0.mk (blk_below (g := gb711) (o := .cells #[.int .i64 a0_0, .slice A0_1 l0_1.length c0_1, .slice A0_2 l0_2.length c0_2] 25 (0, 0)) BK711.out hb)
        have n9_ := Aside0.mk (blk_below (g := gb712) (o := .cells #[.slice A1_0 l1_0.length c1_0] 45 (0, 0)) BK712.out hb)
        have n10_ := Aside0.mk (blk_below (g := gb736) (o := .cells #[.int .i64 t729, .slice Ao47 t730.length co47, .slice Ao48 t733.length co48] 28 (0, 0)) BK736.out hb)
        have n11_ := Aside0.mk (blk_below (g := gb740) (o := .cells #[.slice Ao52 t737.length co52] 49 (0, 0)) BK740.out hb)
        have n12_ := Aside0.mk (below_step (by repeat (first | (with_reducible first | exact HB.out | apply below_alloc | apply pw_below_drewN | apply below_drew1 | refine below_set ?_ GE711.out | refine below_set ?_ GE712.out | refine below_set ?_ GE736.out | refine below_set ?_ GE740.out) | exact HB.out)) hb)
        clear HO_6
        clear HO_10
        clear HO_737001
        clear HO_737002
        clear HO_741000
        clear HO749
        clear HO752
        clear HO756
        clear BK711
        clear BK712
        clear BK736
        clear BK740
        clear HB
        have HO_6 := n0_
        have HO_10 := n1_
        have HO_737001 := n2_
        have HO_737002 := n3_
        have HO_741000 := n4_
        have HO749 := n5_
        have HO752 := n6_
        have HO756 := n7_
        have BK711 := n8_
        have BK712 := n9_
        have BK736 := n10_
        have BK740 := n11_
        have HB := n12_
        clear n0_ n1_ n2_ n3_ n4_ n5_ n6_ n7_ n8_ n9_ n10_ n11_ n12_
        (try clear hb)
        (try clear hb2)
        (try clear hk)
        (try clear hi)
        refine hK.out _ _ ⟨(blk_cell BK740.out 0).trans rfl, (blk_cell BK712.out 0).trans rfl⟩ (fun hHeld => ?_)
        clear hK K
        refine norm_ (a' := ?_) ?_ ?_
        rotate_left
        ·show Act.put _ (some 62) _ = _
         simp only [Act.put, List.setIfInBounds_toArray, List.set_cons_zero, List.set_cons_succ, i64_w, i32_w]
         rfl
        refine pure_ (i := 4) (N := some 63) (v := ?_) (a' := ?_) #[true, true, true, true, true] rfl rfl (by kernel_rfl) (fun _ _ _ h => h) (Or.inl ⟨by rfl, ?_⟩) ?_ ?_
        rotate_left
        ·intro w'
         go_simp
         with_reducible rfl
        rotate_left
        ·simp only [Act.put, List.setIfInBounds_toArray, List.set_cons_zero, List.set_cons_succ, i64_w, i32_w]
         rfl
        refine done_ (by kernel_rfl) ?_
        have hnb84 := NB736_711.out
        have hnc84 := NB711_736.out
        have hnb85 := NB736_712.out
        have hnc85 := NB712_736.out
        have hnb86 := NB736_740.out
        have hnc86 := NB740_736.out
        have hcz87_0 : w83.cell? ⟨gb736, 0, none⟩ = some (.int .i64 t729) := (blk_cell BK736.out 0).trans rfl
        have hcz87_1 : w83.cell? ⟨gb736, 1, none⟩ = some (.slice Ao47 t730.length co47) := (blk_cell BK736.out 1).trans rfl
        have hcz87_2 : w83.cell? ⟨gb736, 2, none⟩ = some (.slice Ao48 t733.length co48) := (blk_cell BK736.out 2).trans rfl
        have hfz87_0 := blk_frozen BK736.out 0
        have hfz87_1 := blk_frozen BK736.out 1
        have hfz87_2 := blk_frozen BK736.out 2
        go_upto_region 21 with (first | ((with_reducible refine gate_callee (f := 17) rfl ?_); refine goesL_ (some 66) rfl rfl Try.func17 (by kernel_rfl) rfl #[.agg #[.int .i64 t729, .slice Ao47 t730.length co47, .slice Ao48 t733.length co48], .int .i64 1] rfl (by (try simp only [List.map_toArray, List.map_cons, List.map_nil]); first | done | rfl) ?_; obtain ⟨PS88, hPS88, kPS88⟩ := S_open (HO_737001.out); (with_reducible refine (laws_markAutomaton.calls kj24 t729 PS88 (.slice Ao47 t730.length co47) t730 (fun k_ => some k_ = (.slice Ao48 t733.length co48 : Value).ownBlock) (.slice Ao48 t733.length co48) t733 1 t758 t759 t760 w _ ?side1 ?side2 ?side3 ?side4 A72.out).mono ?_); (case side1 => repeat (first | (with_reducible first | exact HB.out | apply below_alloc | apply pw_below_drewN | apply below_drew1 | refine below_set ?_ GE711.out | refine below_set ?_ GE712.out | refine below_set ?_ GE736.out | refine below_set ?_ GE740.out) | exact HB.out)); (case side2 => exact kPS88); (case side3 => exact fun k_ e_ e2_ => ((hPS88 k_ e_).1.1.1.1.2.2.1) e2_); (case side4 => exact Kd.R_tight rfl HO_737002.out); rintro e w89 ⟨rfl, hy0, hy1, hb, hkp⟩; refine ⟨_, rfl, ?_⟩; have n0_ := Aside0.mk (Kd.R_mono (ok' := fun k_ => some k_ ≠ (v742 : Value).ownBlock ∧ some k_ ≠ (.slice Ao48 t733.length co48 : Value).ownBlock ∧ some k_ ≠ (.slice Ao52 t737.length co52 : Value).ownBlock ∧ some k_ ≠ (.slice Ao78 t750.length co78 : Value).ownBlock ∧ some k_ ≠ (.slice Ao82 t754.length co82 : Value).ownBlock) (Kd.R_keptB ((R_awayS (P := PS88) rfl HO_6.out (fun k_ e_ => (hPS88 k_ e_).1.1.1.1.1))) hkp (fun k_ hk_ hs_ => Or.elim hs_ (fun e_ => (hk_.2) e_) (fun e_ => (hk_.1.1.1.2.1) e_))) (fun k_ hk_ => ⟨hk_.1.1.1.1.1, hk_.1.1.1.1.2.1, hk_.1.1.1.1.2.2, hk_.1.1.1.2, hk_.1.1.2⟩)); have n1_ := Aside0.mk (Kd.R_mono (ok' := fun k_ => some k_ ≠ (v726 : Value).ownBlock ∧ some k_ ≠ (.slice Ao48 t733.length co48 : Value).ownBlock ∧ some k_ ≠ (.slice Ao52 t737.length co52 : Value).ownBlock ∧ some k_ ≠ (.slice Ao78 t750.length co78 : Value).ownBlock ∧ some k_ ≠ (.slice Ao82 t754.length co82 : Value).ownBlock) (Kd.R_keptB ((R_awayS (P := PS88) rfl HO_10.out (fun k_ e_ => (hPS88 k_ e_).1.1.1.1.2.1))) hkp (fun k_ hk_ hs_ => Or.elim hs_ (fun e_ => (hk_.2) e_) (fun e_ => (hk_.1.1.1.2.1) e_))) (fun k_ hk_ => ⟨hk_.1.1.1.1.1, hk_.1.1.1.1.2.1, hk_.1.1.1.1.2.2, hk_.1.1.1.2, hk_.1.1.2⟩)); have n2_ := Aside0.mk (Kd.S_mono hy0 (fun k_ e_ => (hPS88 k_ e_).1)); have n3_ := Aside0.mk (Kd.R_reok rfl hy1 (fun k_ e_ => HO_737002.out.1 k_ e_)); have n4_ := Aside0.mk (Kd.R_mono (ok' := fun k_ => some k_ ≠ (v726 : Value).ownBlock ∧ some k_ ≠ (v742 : Value).ownBlock ∧ some k_ ≠ (.slice Ao48 t733.length co48 : Value).ownBlock ∧ some k_ ≠ (.slice Ao78 t750.length co78 : Value).ownBlock ∧ some k_ ≠ (.slice Ao82 t754.length co82 : Value).ownBlock) (Kd.R_keptB ((R_awayS (P := PS88) rfl HO_741000.out (fun k_ e_ => (hPS88 k_ e_).1.1.1.1.2.2.2.1))) hkp (fun k_ hk_ hs_ => Or.elim hs_ (fun e_ => (hk_.2) e_) (fun e_ => (hk_.1.1.1.2.2) e_))) (fun k_ hk_ => ⟨hk_.1.1.1.1.1, hk_.1.1.1.1.2.1, hk_.1.1.1.1.2.2, hk_.1.1.1.2, hk_.1.1.2⟩)); have n5_ := Aside0.mk (blk_kept BK711.out hkp (fun hs_ => Or.elim hs_ (fun e_ => (fun e_ => far_S (hPS88 _ e_).2.2.2 BK711.out (by decide)) e_) (fun e_ => (fun e_ => (Kd.R_ne HO_737002.out BK711.out (by decide)) e_) e_))); have n6_ := Aside0.mk (blk_kept BK712.out hkp (fun hs_ => Or.elim hs_ (fun e_ => (fun e_ => far_S (hPS88 _ e_).2.2.2 BK712.out (by decide)) e_) (fun e_ => (fun e_ => (Kd.R_ne HO_737002.out BK712.out (by decide)) e_) e_))); have n7_ := Aside0.mk (blk_kept BK736.out hkp (fun hs_ => Or.elim hs_ (fun e_ => (fun e_ => far_S (hPS88 _ e_).2.2.2 BK736.out (by decide)) e_) (fun e_ => (fun e_ => (Kd.R_ne HO_737002.out BK736.out (by decide)) e_) e_))); have n8_ := Aside0.mk (blk_kept BK740.out hkp (fun hs_ => Or.elim hs_ (fun e_ => (fun e_ => far_S (hPS88 _ e_).2.2.2 BK740.out (by decide)) e_) (fun e_ => (fun e_ => (Kd.R_ne HO_737002.out BK740.out (by decide)) e_) e_))); have n9_ := Aside0.mk (Kd.R_mono (ok' := fun k_ => some k_ ≠ (v726 : Value).ownBlock ∧ some k_ ≠ (v742 : Value).ownBlock ∧ some k_ ≠ (.slice Ao48 t733.length co48 : Value).ownBlock ∧ some k_ ≠ (.slice Ao52 t737.length co52 : Value).ownBlock ∧ some k_ ≠ (.slice Ao82 t754.length co82 : Value).ownBlock) (Kd.R_keptB ((R_awayS (P := PS88) rfl HO752.out (fun k_ e_ => (hPS88 k_ e_).1.1.2))) hkp (fun k_ hk_ hs_ => Or.elim hs_ (fun e_ => (hk_.2) e_) (fun e_ => (hk_.1.1.1.2) e_))) (fun k_ hk_ => ⟨hk_.1.1.1.1.1.1.2, hk_.1.1.1.1.1.2, hk_.1.1.1.1.2, hk_.1.1.1.2, hk_.1.1.2⟩)); have n10_ := Aside0.mk (Kd.R_mono (ok' := fun k_ => some k_ ≠ (v726 : Value).ownBlock ∧ some k_ ≠ (v742 : Value).ownBlock ∧ some k_ ≠ (.slice Ao48 t733.length co48 : Value).ownBlock ∧ some k_ ≠ (.slice Ao52 t737.length co52 : Value).ownBlock ∧ some k_ ≠ (.slice Ao78 t750.length co78 : Value).ownBlock) (Kd.R_keptB ((R_awayS (P := PS88) rfl HO756.out (fun k_ e_ => (hPS88 k_ e_).1.2))) hkp (fun k_ hk_ hs_ => Or.elim hs_ (fun e_ => (hk_.2) e_) (fun e_ => (hk_.1.1.1.2) e_))) (fun k_ hk_ => ⟨hk_.1.1.1.1.1.1.2, hk_.1.1.1.1.1.2, hk_.1.1.1.1.2, hk_.1.1.1.2, hk_.1.1.2⟩)); have n11_ := Aside0.mk (hb); clear HO_6; clear HO_10; clear HO_737001; clear HO_737002; clear HO_741000; clear BK711; clear BK712; clear BK736; clear BK740; clear HO752; clear HO756; clear HB; clear HO749; have HO_6 := n0_; have HO_10 := n1_; have HO_737001 := n2_; have HO_737002 := n3_; have HO_741000 := n4_; have BK711 := n5_; have BK712 := n6_; have BK736 := n7_; have BK740 := n8_; have HO752 := n9_; have HO756 := n10_; have HB := n11_; clear n0_ n1_ n2_ n3_ n4_ n5_ n6_ n7_ n8_ n9_ n10_ n11_; (try clear hb); (try clear hkp); (try clear hy0); (try clear hy1); (try clear hPS88 kPS88); have hnb90 := NB740_711.out; have hnc90 := NB711_740.out; have hnb91 := NB740_712.out; have hnc91 := NB712_740.out; have hcz92_0 : w89.cell? ⟨gb740, 0, none⟩ = some (.slice Ao52 t737.length co52) := (blk_cell BK740.out 0).trans rfl; have hfz92_0 := blk_frozen BK740.out 0) | ((with_reducible refine gate_callee (f := 35) rfl ?_); refine goesL_ (some 69) rfl rfl Try.func35 (by kernel_rfl) rfl #[.agg #[.slice Ao52 t737.length co52], .int .i64 t758] rfl (by (try simp only [List.map_toArray, List.map_cons, List.map_nil]); first | done | rfl) ?_; (with_reducible refine (laws_markTree.calls kj24 (fun k_ => some k_ = (.slice Ao52 t737.length co52 : Value).ownBlock) (.slice Ao52 t737.length co52) t737 t758 t761 t762 w _ ?side1 ?side2 A73.out).mono ?_); (case side1 => repeat (first | (with_reducible first | exact HB.out | apply below_alloc | apply pw_below_drewN | apply below_drew1 | refine below_set ?_ GE711.out | refine below_set ?_ GE712.out | refine below_set ?_ GE736.out | refine below_set ?_ GE740.out) | exact HB.out)); (case side2 => exact Kd.R_tight rfl HO_741000.out); rintro e w93 ⟨rfl, hy0, hb, hkp⟩; refine ⟨_, rfl, ?_⟩; have n0_ := Aside0.mk (Kd.R_mono (ok' := fun k_ => some k_ ≠ (v742 : Value).ownBlock ∧ some k_ ≠ (.slice Ao48 t733.length co48 : Value).ownBlock ∧ some k_ ≠ (.slice Ao52 t737.length co52 : Value).ownBlock ∧ some k_ ≠ (.slice Ao78 t750.length co78 : Value).ownBlock ∧ some k_ ≠ (.slice Ao82 t754.length co82 : Value).ownBlock) (Kd.R_keptB (HO_6.out) hkp (fun k_ hk_ hs_ => (hk_.2.2.1) hs_)) (fun k_ hk_ => ⟨hk_.1.1, hk_.1.2.1, hk_.1.2.2.1, hk_.1.2.2.2.1, hk_.1.2.2.2.2⟩)); have n1_ := Aside0.mk (Kd.R_mono (ok' := fun k_ => some k_ ≠ (v726 : Value).ownBlock ∧ some k_ ≠ (.slice Ao48 t733.length co48 : Value).ownBlock ∧ some k_ ≠ (.slice Ao52 t737.length co52 : Value).ownBlock ∧ some k_ ≠ (.slice Ao78 t750.length co78 : Value).ownBlock ∧ some k_ ≠ (.slice Ao82 t754.length co82 : Value).ownBlock) (Kd.R_keptB (HO_10.out) hkp (fun k_ hk_ hs_ => (hk_.2.2.1) hs_)) (fun k_ hk_ => ⟨hk_.1.1, hk_.1.2.1, hk_.1.2.2.1, hk_.1.2.2.2.1, hk_.1.2.2.2.2⟩)); have n2_ := Aside0.mk (Kd.S_mono (ok' := fun k_ => some k_ ≠ (v726 : Value).ownBlock ∧ some k_ ≠ (v742 : Value).ownBlock ∧ some k_ ≠ (.slice Ao48 t733.length co48 : Value).ownBlock ∧ some k_ ≠ (.slice Ao52 t737.length co52 : Value).ownBlock ∧ some k_ ≠ (.slice Ao78 t750.length co78 : Value).ownBlock ∧ some k_ ≠ (.slice Ao82 t754.length co82 : Value).ownBlock ∧ k_ ≠ ge_ N42 k_) (Kd.S_keptB (HO_737001.out) hkp (fun k_ hk_ hs_ => (hk_.1.1.1.2.2.2.1) hs_)) (fun k_ hk_ => ⟨hk_.1.1.1.1.1, hk_.1.1.1.1.2.1, hk_.1.1.1.1.2.2.1, hk_.1.1.1.1.2.2.2.1, hk_.1.1.2, hk_.1.2, hk_.1.1.1.1.2.2.2.2⟩)); have n3_ := Aside0.mk (Kd.R_mono (ok' := fun k_ => some k_ ≠ (v726 : Value).ownBlock ∧ some k_ ≠ (v742 : Value).ownBlock ∧ some k_ ≠ (.slice Ao52 t737.length co52 : Value).ownBlock ∧ some k_ ≠ (.slice Ao78 t750.length co78 : Value).ownBlock ∧ some k_ ≠ (.slice Ao82 t754.length co82 : Value).ownBlock) (Kd.R_keptB (HO_737002.out) hkp (fun k_ hk_ hs_ => (hk_.1.1.2.2) hs_)) (fun k_ hk_ => ⟨hk_.1.1.1.1, hk_.1.1.1.2.1, hk_.1.1.1.2.2, hk_.1.1.2, hk_.1.2⟩)); have n4_ := Aside0.mk (Kd.R_reok rfl hy0 (fun k_ e_ => HO_741000.out.1 k_ e_)); have n5_ := Aside0.mk (blk_kept BK711.out hkp (fun hs_ => (fun e_ => (Kd.R_ne HO_741000.out BK711.out (by decide)) e_) hs_)); have n6_ := Aside0.mk (blk_kept BK712.out hkp (fun hs_ => (fun e_ => (Kd.R_ne HO_741000.out BK712.out (by decide)) e_) hs_)); have n7_ := Aside0.mk (blk_kept BK736.out hkp (fun hs_ => (fun e_ => (Kd.R_ne HO_741000.out BK736.out (by decide)) e_) hs_)); have n8_ := Aside0.mk (blk_kept BK740.out hkp (fun hs_ => (fun e_ => (Kd.R_ne HO_741000.out BK740.out (by decide)) e_) hs_)); have n9_ := Aside0.mk (Kd.R_mono (ok' := fun k_ => some k_ ≠ (v726 : Value).ownBlock ∧ some k_ ≠ (v742 : Value).ownBlock ∧ some k_ ≠ (.slice Ao48 t733.length co48 : Value).ownBlock ∧ some k_ ≠ (.slice Ao52 t737.length co52 : Value).ownBlock ∧ some k_ ≠ (.slice Ao82 t754.length co82 : Value).ownBlock) (Kd.R_keptB (HO752.out) hkp (fun k_ hk_ hs_ => (hk_.2.2.2.1) hs_)) (fun k_ hk_ => ⟨hk_.1.1, hk_.1.2.1, hk_.1.2.2.1, hk_.1.2.2.2.1, hk_.1.2.2.2.2⟩)); have n10_ := Aside0.mk (Kd.R_mono (ok' := fun k_ => some k_ ≠ (v726 : Value).ownBlock ∧ some k_ ≠ (v742 : Value).ownBlock ∧ some k_ ≠ (.slice Ao48 t733.length co48 : Value).ownBlock ∧ some k_ ≠ (.slice Ao52 t737.length co52 : Value).ownBlock ∧ some k_ ≠ (.slice Ao78 t750.length co78 : Value).ownBlock) (Kd.R_keptB (HO756.out) hkp (fun k_ hk_ hs_ => (hk_.2.2.2.1) hs_)) (fun k_ hk_ => ⟨hk_.1.1, hk_.1.2.1, hk_.1.2.2.1, hk_.1.2.2.2.1, hk_.1.2.2.2.2⟩)); have n11_ := Aside0.mk (hb); clear HO_6; clear HO_10; clear HO_737001; clear HO_737002; clear HO_741000; clear BK711; clear BK712; clear BK736; clear BK740; clear HO752; clear HO756; clear HB; have HO_6 := n0_; have HO_10 := n1_; have HO_737001 := n2_; have HO_737002 := n3_; have HO_741000 := n4_; have BK711 := n5_; have BK712 := n6_; have BK736 := n7_; have BK740 := n8_; have HO752 := n9_; have HO756 := n10_; have HB := n11_; clear n0_ n1_ n2_ n3_ n4_ n5_ n6_ n7_ n8_ n9_ n10_ n11_; (try clear hb); (try clear hkp); (try clear hy0)))
        (try simp only [Act.put, List.setIfInBounds_toArray, List.set_cons_zero, List.set_cons_succ])
        go_cut [82] (fun v82 wc => ∃ (kq : Nat) (x82_73 : Bool), v82 = .bool x82_73 ∧ Aside0 (laws_FnExactStatesOf.j1 kq t725 t728 t741 x82_73 a0_0 l0_1 l0_2 l1_0 = some r) ∧ Aside0 (kq ≤ kj24) ∧ Aside0 (Kd.R (Kd.int .i64) 2 wc w.heap.size (fun k_ => some k_ ≠ (v742 : Value).ownBlock ∧ some k_ ≠ ((.slice Ao48 t733.length co48) : Value).ownBlock ∧ some k_ ≠ ((.slice Ao52 t737.length co52) : Value).ownBlock) v726 t725) ∧ Aside0 (Kd.R (Kd.int .i64) 2 wc w.heap.size (fun k_ => some k_ ≠ (v726 : Value).ownBlock ∧ some k_ ≠ ((.slice Ao48 t733.length co48) : Value).ownBlock ∧ some k_ ≠ ((.slice Ao52 t737.length co52) : Value).ownBlock) v742 t741) ∧ Aside0 (Kd.S (Kd.slice 2 (Kd.int .i64)) 23 wc w.heap.size (fun k_ => some k_ ≠ (v726 : Value).ownBlock ∧ some k_ ≠ (v742 : Value).ownBlock ∧ some k_ ≠ ((.slice Ao48 t733.length co48) : Value).ownBlock ∧ some k_ ≠ ((.slice Ao52 t737.length co52) : Value).ownBlock ∧ k_ ≠ ge_ N42 k_) (.slice Ao47 t730.length co47) t759) ∧ Aside0 (Kd.R (Kd.int .i64) 2 wc w.heap.size (fun k_ => some k_ ≠ (v726 : Value).ownBlock ∧ some k_ ≠ (v742 : Value).ownBlock ∧ some k_ ≠ ((.slice Ao52 t737.length co52) : Value).ownBlock) (.slice Ao48 t733.length co48) t760) ∧ Aside0 (Kd.R (Kd.int .i64) 2 wc w.heap.size (fun k_ => some k_ ≠ (v726 : Value).ownBlock ∧ some k_ ≠ (v742 : Value).ownBlock ∧ some k_ ≠ ((.slice Ao48 t733.length co48) : Value).ownBlock) (.slice Ao52 t737.length co52) t762) ∧ Aside0 (wc.heap[gb711]? = some (.cells #[.int .i64 a0_0, (.slice A0_1 l0_1.length c0_1), (.slice A0_2 l0_2.length c0_2)] 25 (0, 0))) ∧ Aside0 (wc.heap[gb712]? = some (.cells #[(.slice A1_0 l1_0.length c1_0)] 45 (0, 0))) ∧ Aside0 (wc.heap[gb736]? = some (.cells #[.int .i64 t729, (.slice Ao47 t730.length co47), (.slice Ao48 t733.length co48)] 28 (0, 0))) ∧ Aside0 (wc.heap[gb740]? = some (.cells #[(.slice Ao52 t737.length co52)] 49 (0, 0))) ∧ Aside0 (Below w.heap.size w wc))
        case first =>
         have H := HC74.out
         clear HC74
         by_cases c94 : t761 < 0
         ·rw [if_pos c94] at H
          have c94b0 : decide (t761 < 0) = true := decide_eq_true c94
          clear c94
          (first | rw [c94b0] | (simp only [i64_w, i32_w]; rw [c94b0]) | skip)
          have H' := Aside0.mk H
          clear H
          go_wp2
          go_meet
          case rel => exact ⟨_, (true), (by first | rfl | (simp; done) | (simp [*]; done)), H', ⟨by have := HJ24.out; first | omega | exact Nat.le_refl _⟩, ⟨by (with_reducible repeat (first | apply Kd.R_alloc | apply Kd.R_drewN | apply Kd.R_drew)); exact Kd.R_mono HO_6.out (fun _ hk => ⟨hk.1, ⟨hk.2.1, hk.2.2.1⟩⟩)⟩, ⟨by (with_reducible repeat (first | apply Kd.R_alloc | apply Kd.R_drewN | apply Kd.R_drew)); exact Kd.R_mono HO_10.out (fun _ hk => ⟨hk.1, ⟨hk.2.1, hk.2.2.1⟩⟩)⟩, ⟨by (with_reducible repeat (first | apply Kd.S_alloc | apply Kd.S_drewN | apply Kd.S_drew)); exact Kd.S_mono HO_737001.out (fun _ hk => ⟨hk.1, ⟨hk.2.1, ⟨hk.2.2.1, ⟨hk.2.2.2.1, hk.2.2.2.2.2.2⟩⟩⟩⟩)⟩, ⟨by (with_reducible repeat (first | apply Kd.R_alloc | apply Kd.R_drewN | apply Kd.R_drew)); exact Kd.R_mono HO_737002.out (fun _ hk => ⟨hk.1, ⟨hk.2.1, hk.2.2.1⟩⟩)⟩, ⟨by (with_reducible repeat (first | apply Kd.R_alloc | apply Kd.R_drewN | apply Kd.R_drew)); exact Kd.R_mono HO_741000.out (fun _ hk => ⟨hk.1, ⟨hk.2.1, hk.2.2.1⟩⟩)⟩, ⟨by (with_reducible repeat (first | refine blk_drewN ?_ _ | refine blk_drew ?_ | refine blk_alloc ?_ _)); exact BK711.out⟩, ⟨by (with_reducible repeat (first | refine blk_drewN ?_ _ | refine blk_drew ?_ | refine blk_alloc ?_ _)); exact BK712.out⟩, ⟨by (with_reducible repeat (first | refine blk_drewN ?_ _ | refine blk_drew ?_ | refine blk_alloc ?_ _)); exact BK736.out⟩, ⟨by (with_reducible repeat (first | refine blk_drewN ?_ _ | refine blk_drew ?_ | refine blk_alloc ?_ _)); exact BK740.out⟩, ⟨by repeat (first | (with_reducible first | exact HB.out | apply below_alloc | apply pw_below_drewN | apply below_drew1 | refine below_set ?_ GE711.out | refine below_set ?_ GE712.out | refine below_set ?_ GE736.out | refine below_set ?_ GE740.out) | exact HB.out)⟩⟩
         ·rw [if_neg c94] at H
          have c94b0 : decide (t761 < 0) = false := decide_eq_false c94
          clear c94
          (first | rw [c94b0] | (simp only [i64_w, i32_w]; rw [c94b0]) | skip)
          replace H := Option.bind_eq_some_iff.mp H
          obtain ⟨t763, A950, H⟩ := H
          replace H : (if t763 = true then (laws_FnExactStatesOf.j1 kj24 t725 t728 t741 (t744 != t728) a0_0 l0_1 l0_2 l1_0) else (laws_FnExactStatesOf.j1 kj24 t725 t728 t741 true a0_0 l0_1 l0_2 l1_0)) = some r := H
          have A95 := Aside0.mk A950
          clear A950
          by_cases c96 : t763 = true
          ·subst c96
           have H1 : (laws_FnExactStatesOf.j1 kj24 t725 t728 t741 (t744 != t728) a0_0 l0_1 l0_2 l1_0) = some r := by rw [if_pos rfl] at H; exact H
           clear H
           have H := H1
           clear H1
           have H' := Aside0.mk H
           clear H
           obtain ⟨Ao97, co97, eo97⟩ := Kd.R_slice HO_10.out
           subst eo97
           obtain ⟨Ao98, co98, eo98⟩ := Kd.R_slice HO_6.out
           subst eo98
           go_wp2_with (first | (go_at_call 21; (with_reducible refine (laws_eqInt64S.calls kj24 _ _ t741 _ _ t725 true _ ?side1 ?side2 ?side3 ?side4 A95.out).mono ?_); (case side1 => repeat (first | exact (Kd.R_reads' HO_10.out).2.2 | (with_reducible refine Kd.C_alloc ?_ _) | (with_reducible refine Kd.C_drewN ?_ _) | (with_reducible refine Kd.C_drew ?_))); (case side2 => exact (Kd.R_reads' HO_10.out).2.1); (case side3 => repeat (first | exact (Kd.R_reads' HO_6.out).2.2 | (with_reducible refine Kd.C_alloc ?_ _) | (with_reducible refine Kd.C_drewN ?_ _) | (with_reducible refine Kd.C_drew ?_))); (case side4 => exact (Kd.R_reads' HO_6.out).2.1); rintro e w' ⟨rfl, ⟨nd, rfl⟩⟩))
           go_meet
           case rel => exact ⟨_, ((t744 != t728)), (by first | rfl | (simp; done) | (simp [*]; done)), H', ⟨by have := HJ24.out; first | omega | exact Nat.le_refl _⟩, ⟨by (with_reducible repeat (first | apply Kd.R_alloc | apply Kd.R_drewN | apply Kd.R_drew)); exact Kd.R_mono HO_6.out (fun _ hk => ⟨hk.1, ⟨hk.2.1, hk.2.2.1⟩⟩)⟩, ⟨by (with_reducible repeat (first | apply Kd.R_alloc | apply Kd.R_drewN | apply Kd.R_drew)); exact Kd.R_mono HO_10.out (fun _ hk => ⟨hk.1, ⟨hk.2.1, hk.2.2.1⟩⟩)⟩, ⟨by (with_reducible repeat (first | apply Kd.S_alloc | apply Kd.S_drewN | apply Kd.S_drew)); exact Kd.S_mono HO_737001.out (fun _ hk => ⟨hk.1, ⟨hk.2.1, ⟨hk.2.2.1, ⟨hk.2.2.2.1, hk.2.2.2.2.2.2⟩⟩⟩⟩)⟩, ⟨by (with_reducible repeat (first | apply Kd.R_alloc | apply Kd.R_drewN | apply Kd.R_drew)); exact Kd.R_mono HO_737002.out (fun _ hk => ⟨hk.1, ⟨hk.2.1, hk.2.2.1⟩⟩)⟩, ⟨by (with_reducible repeat (first | apply Kd.R_alloc | apply Kd.R_drewN | apply Kd.R_drew)); exact Kd.R_mono HO_741000.out (fun _ hk => ⟨hk.1, ⟨hk.2.1, hk.2.2.1⟩⟩)⟩, ⟨by (with_reducible repeat (first | refine blk_drewN ?_ _ | refine blk_drew ?_ | refine blk_alloc ?_ _)); exact BK711.out⟩, ⟨by (with_reducible repeat (first | refine blk_drewN ?_ _ | refine blk_drew ?_ | refine blk_alloc ?_ _)); exact BK712.out⟩, ⟨by (with_reducible repeat (first | refine blk_drewN ?_ _ | refine blk_drew ?_ | refine blk_alloc ?_ _)); exact BK736.out⟩, ⟨by (with_reducible repeat (first | refine blk_drewN ?_ _ | refine blk_drew ?_ | refine blk_alloc ?_ _)); exact BK740.out⟩, ⟨by repeat (first | (with_reducible first | exact HB.out | apply below_alloc | apply pw_below_drewN | apply below_drew1 | refine below_set ?_ GE711.out | refine below_set ?_ GE712.out | refine below_set ?_ GE736.out | refine below_set ?_ GE740.out) | exact HB.out)⟩⟩
          ·replace c96 := Bool.eq_false_iff.mpr c96
           subst c96
           have H1 : (laws_FnExactStatesOf.j1 kj24 t725 t728 t741 true a0_0 l0_1 l0_2 l1_0) = some r := by rw [if_neg (show ¬ (false = true) by decide)] at H; exact H
           clear H
           have H := H1
           clear H1
           have H' := Aside0.mk H
           clear H
           obtain ⟨Ao99, co99, eo99⟩ := Kd.R_slice HO_10.out
           subst eo99
           obtain ⟨Ao100, co100, eo100⟩ := Kd.R_slice HO_6.out
           subst eo100
           go_wp2_with (first | (go_at_call 21; (with_reducible refine (laws_eqInt64S.calls kj24 _ _ t741 _ _ t725 false _ ?side1 ?side2 ?side3 ?side4 A95.out).mono ?_); (case side1 => repeat (first | exact (Kd.R_reads' HO_10.out).2.2 | (with_reducible refine Kd.C_alloc ?_ _) | (with_reducible refine Kd.C_drewN ?_ _) | (with_reducible refine Kd.C_drew ?_))); (case side2 => exact (Kd.R_reads' HO_10.out).2.1); (case side3 => repeat (first | exact (Kd.R_reads' HO_6.out).2.2 | (with_reducible refine Kd.C_alloc ?_ _) | (with_reducible refine Kd.C_drewN ?_ _) | (with_reducible refine Kd.C_drew ?_))); (case side4 => exact (Kd.R_reads' HO_6.out).2.1); rintro e w' ⟨rfl, ⟨nd, rfl⟩⟩))
           go_meet
           case rel => exact ⟨_, (true), (by first | rfl | (simp; done) | (simp [*]; done)), H', ⟨by have := HJ24.out; first | omega | exact Nat.le_refl _⟩, ⟨by (with_reducible repeat (first | apply Kd.R_alloc | apply Kd.R_drewN | apply Kd.R_drew)); exact Kd.R_mono HO_6.out (fun _ hk => ⟨hk.1, ⟨hk.2.1, hk.2.2.1⟩⟩)⟩, ⟨by (with_reducible repeat (first | apply Kd.R_alloc | apply Kd.R_drewN | apply Kd.R_drew)); exact Kd.R_mono HO_10.out (fun _ hk => ⟨hk.1, ⟨hk.2.1, hk.2.2.1⟩⟩)⟩, ⟨by (with_reducible repeat (first | apply Kd.S_alloc | apply Kd.S_drewN | apply Kd.S_drew)); exact Kd.S_mono HO_737001.out (fun _ hk => ⟨hk.1, ⟨hk.2.1, ⟨hk.2.2.1, ⟨hk.2.2.2.1, hk.2.2.2.2.2.2⟩⟩⟩⟩)⟩, ⟨by (with_reducible repeat (first | apply Kd.R_alloc | apply Kd.R_drewN | apply Kd.R_drew)); exact Kd.R_mono HO_737002.out (fun _ hk => ⟨hk.1, ⟨hk.2.1, hk.2.2.1⟩⟩)⟩, ⟨by (with_reducible repeat (first | apply Kd.R_alloc | apply Kd.R_drewN | apply Kd.R_drew)); exact Kd.R_mono HO_741000.out (fun _ hk => ⟨hk.1, ⟨hk.2.1, hk.2.2.1⟩⟩)⟩, ⟨by (with_reducible repeat (first | refine blk_drewN ?_ _ | refine blk_drew ?_ | refine blk_alloc ?_ _)); exact BK711.out⟩, ⟨by (with_reducible repeat (first | refine blk_drewN ?_ _ | refine blk_drew ?_ | refine blk_alloc ?_ _)); exact BK712.out⟩, ⟨by (with_reducible repeat (first | refine blk_drewN ?_ _ | refine blk_drew ?_ | refine blk_alloc ?_ _)); exact BK736.out⟩, ⟨by (with_reducible repeat (first | refine blk_drewN ?_ _ | refine blk_drew ?_ | refine blk_alloc ?_ _)); exact BK740.out⟩, ⟨by repeat (first | (with_reducible first | exact HB.out | apply below_alloc | apply pw_below_drewN | apply below_drew1 | refine below_set ?_ GE711.out | refine below_set ?_ GE712.out | refine below_set ?_ GE736.out | refine below_set ?_ GE740.out) | exact HB.out)⟩⟩
        case rest =>
         clear HC74
         try clear c1
         try clear c2
         try clear p2
         try clear c3
         try clear c4
         try clear c4b0
         try clear c5
         try clear c6
         try clear c7
         try clear c8
         try clear c9
         try clear c10
         try clear c11
         try clear c11b0
         try clear c12
         try clear c14
         try clear c17
         try clear c21
         try clear c28
         try clear c30
         try clear c32
         try clear c33
         try clear c34
         try clear c35
         try clear c44
         try clear c45
         try clear c53
         try clear c54
         try clear c55
         try clear c60
         try clear c65
         try clear c68
         try clear c71
         try clear c84
         try clear c85
         try clear c86
         try clear c90
         try clear c91
         try clear c94
         try clear c94b0
         try clear c96
         try clear hcz15_0
         try clear hcz15_1
         try clear hcz15_2
         try clear hcz17_0
         try clear hcz29_0
         try clear hcz29_1
         try clear hcz29_2
         try clear hcz31_0
         try clear hcz40_0
         try clear hcz40_1
         try clear hcz40_2
         try clear hcz46_0
         try clear hcz46_1
         try clear hcz46_2
         try clear hcz49_0
         try clear hcz56_0
         try clear hcz57_0
         try clear hcz57_1
         try clear hcz57_2
         try clear hcz87_0
         try clear hcz87_1
         try clear hcz87_2
         try clear hcz8_0
         try clear hcz8_1
         try clear hcz8_2
         try clear hcz92_0
         try clear hfz15_0
         try clear hfz15_1
         try clear hfz15_2
         try clear hfz17_0
         try clear hfz29_0
         try clear hfz29_1
         try clear hfz29_2
         try clear hfz31_0
         try clear hfz40_0
         try clear hfz40_1
         try clear hfz40_2
         try clear hfz46_0
         try clear hfz46_1
         try clear hfz46_2
         try clear hfz49_0
         try clear hfz56_0
         try clear hfz57_0
         try clear hfz57_1
         try clear hfz57_2
         try clear hfz87_0
         try clear hfz87_1
         try clear hfz87_2
         try clear hfz8_0
         try clear hfz8_1
         try clear hfz8_2
         try clear hfz92_0
         try clear p2
         obtain ⟨kq, x82_73, rfl, HA, HJ73, HO_6, HO_10, HO_737001, HO_737002, HO_741000, BK711, BK712, BK736, BK740, HB⟩ := hcut
         have hl737001_73 := (Kd.S_reads' HO_737001.out).1
         rw [hl737001_73] at HO_737001
         (try simp only [hl737001_73])
         (try simp only [hl737001_73] at BK711)
         (try simp only [hl737001_73] at BK712)
         (try simp only [hl737001_73] at BK736)
         (try simp only [hl737001_73] at BK740)
         (try simp only [hl737001_73] at HO_6)
         (try simp only [hl737001_73] at HO_10)
         (try simp only [hl737001_73] at HO_737002)
         (try simp only [hl737001_73] at HO_741000)
         have hl737002_73 := (Kd.R_reads' HO_737002.out).1
         rw [hl737002_73] at HO_737002
         (try simp only [hl737002_73])
         (try simp only [hl737002_73] at BK711)
         (try simp only [hl737002_73] at BK712)
         (try simp only [hl737002_73] at BK736)
         (try simp only [hl737002_73] at BK740)
         (try simp only [hl737002_73] at HO_6)
         (try simp only [hl737002_73] at HO_10)
         (try simp only [hl737002_73] at HO_737001)
         (try simp only [hl737002_73] at HO_741000)
         have hl741000_73 := (Kd.R_reads' HO_741000.out).1
         rw [hl741000_73] at HO_741000
         (try simp only [hl741000_73])
         (try simp only [hl741000_73] at BK711)
         (try simp only [hl741000_73] at BK712)
         (try simp only [hl741000_73] at BK736)
         (try simp only [hl741000_73] at BK740)
         (try simp only [hl741000_73] at HO_6)
         (try simp only [hl741000_73] at HO_10)
         (try simp only [hl741000_73] at HO_737001)
         (try simp only [hl741000_73] at HO_737002)
         cases kq with
         | zero => exact absurd HA.out (by simp [laws_FnExactStatesOf.j1])
         | succ kj73 =>
          have H := HA.out
          clear HA
          simp only [laws_FnExactStatesOf.j1] at H
          by_cases c101 : x82_73 = true
          ·subst c101
           have H1 : (some false) = some r := by rw [if_pos rfl] at H; exact H
           clear H
           have H := H1
           clear H1
           obtain rfl := Option.some.inj H
           go_wp2
           go_ret
           exact ⟨by first | rfl | (simp [errW_none, errW_some] <;> rfl) | (simp [*, errW_none, errW_some] <;> rfl), by repeat (first | (with_reducible first | exact HB.out | apply below_alloc | apply pw_below_drewN | apply below_drew1 | refine below_set ?_ GE711.out | refine below_set ?_ GE712.out | refine below_set ?_ GE736.out | refine below_set ?_ GE740.out) | exact HB.out)⟩
          ·replace c101 := Bool.eq_false_iff.mpr c101
           subst c101
           have H1 : ((laws_markInt64S.f kj73 t741 1).bind fun bt764 => ((laws_heldInt64S.f kj73 bt764.2 1).bind fun t766 => (if t766 < 0 then (some false) else (if t766 = bt764.1 then ((laws_toAutomaton.f kj73 a0_0 l0_1 l0_2).bind fun bt767 => ((laws_toTree.f kj73 l1_0).bind fun t774 => ((impl_StatesOf.f kj73 bt767.1 bt767.2.1 bt767.2.2 t774).bind fun bt777 => ((laws_eqInt64S.f kj73 bt777.1 t725).bind fun t781 => (if t781 = true then (laws_FnExactStatesOf.j2 kj73 bt764.2 bt764.1 (bt777.2 != t728)) else (laws_FnExactStatesOf.j2 kj73 bt764.2 bt764.1 true)))))) else (some false))))) = some r := by rw [if_neg (show ¬ (false = true) by decide)] at H; exact H
           clear H
           have H := H1
           clear H1
           replace H := Option.bind_eq_some_iff.mp H
           obtain ⟨⟨t764, t765⟩, A1020, H⟩ := H
           replace H : ((laws_heldInt64S.f kj73 t765 1).bind fun t766 => (if t766 < 0 then (some false) else (if t766 = t764 then ((laws_toAutomaton.f kj73 a0_0 l0_1 l0_2).bind fun bt767 => ((laws_toTree.f kj73 l1_0).bind fun t774 => ((impl_StatesOf.f kj73 bt767.1 bt767.2.1 bt767.2.2 t774).bind fun bt777 => ((laws_eqInt64S.f kj73 bt777.1 t725).bind fun t781 => (if t781 = true then (laws_FnExactStatesOf.j2 kj73 t765 t764 (bt777.2 != t728)) else (laws_FnExactStatesOf.j2 kj73 t765 t764 true)))))) else (some false)))) = some r := H
           have A102 := Aside0.mk A1020
           clear A1020
           replace H := Option.bind_eq_some_iff.mp H
           obtain ⟨t766, A1030, H⟩ := H
           replace H : (if t766 < 0 then (some false) else (if t766 = t764 then ((laws_toAutomaton.f kj73 a0_0 l0_1 l0_2).bind fun bt767 => ((laws_toTree.f kj73 l1_0).bind fun t774 => ((impl_StatesOf.f kj73 bt767.1 bt767.2.1 bt767.2.2 t774).bind fun bt777 => ((laws_eqInt64S.f kj73 bt777.1 t725).bind fun t781 => (if t781 = true then (laws_FnExactStatesOf.j2 kj73 t765 t764 (bt777.2 != t728)) else (laws_FnExactStatesOf.j2 kj73 t765 t764 true)))))) else (some false))) = some r := H
           have A103 := Aside0.mk A1030
           clear A1030
           by_cases c104 : t766 < 0
           ·rw [if_pos c104] at H
            have c104b0 : decide (t766 < 0) = true := decide_eq_true c104
            clear c104
            obtain rfl := Option.some.inj H
            obtain ⟨Ao105, co105, eo105⟩ := Kd.R_slice HO_10.out
            subst eo105
            go_wp2_with (first | ((with_reducible refine gate_callee (f := 22) rfl ?_); refine goesL_ (some 85) rfl rfl Try.func22 (by kernel_rfl) rfl #[.slice Ao105 t741.length co105, .int .i64 1] rfl (by (try simp only [List.map_toArray, List.map_cons, List.map_nil]); first | done | rfl) ?_; (with_reducible refine (laws_markInt64S.calls kj73 (fun k_ => some k_ = (.slice Ao105 t741.length co105 : Value).ownBlock) (.slice Ao105 t741.length co105) t741 1 t764 t765 w _ ?side1 ?side2 A102.out).mono ?_); (case side1 => repeat (first | (with_reducible first | exact HB.out | apply below_alloc | apply pw_below_drewN | apply below_drew1 | refine below_set ?_ GE711.out | refine below_set ?_ GE712.out | refine below_set ?_ GE736.out | refine below_set ?_ GE740.out) | exact HB.out)); (case side2 => exact Kd.R_tight rfl HO_10.out); rintro e w106 ⟨rfl, hy0, hb, hkp⟩; refine ⟨_, rfl, ?_⟩; have n0_ := Aside0.mk (Kd.R_mono (ok' := fun k_ => some k_ ≠ (.slice Ao105 t741.length co105 : Value).ownBlock ∧ some k_ ≠ (.slice Ao48 t760.length co48 : Value).ownBlock ∧ some k_ ≠ (.slice Ao52 t762.length co52 : Value).ownBlock) (Kd.R_keptB (HO_6.out) hkp (fun k_ hk_ hs_ => (hk_.1) hs_)) (fun k_ hk_ => ⟨hk_.1.1, hk_.1.2.1, hk_.1.2.2⟩)); have n1_ := Aside0.mk (Kd.R_reok rfl hy0 (fun k_ e_ => HO_10.out.1 k_ e_)); have n2_ := Aside0.mk (Kd.S_mono (ok' := fun k_ => some k_ ≠ (v726 : Value).ownBlock ∧ some k_ ≠ (.slice Ao105 t741.length co105 : Value).ownBlock ∧ some k_ ≠ (.slice Ao48 t760.length co48 : Value).ownBlock ∧ some k_ ≠ (.slice Ao52 t762.length co52 : Value).ownBlock ∧ k_ ≠ ge_ N42 k_) (Kd.S_keptB (HO_737001.out) hkp (fun k_ hk_ hs_ => (hk_.2.1) hs_)) (fun k_ hk_ => ⟨hk_.1.1, hk_.1.2.1, hk_.1.2.2.1, hk_.1.2.2.2.1, hk_.1.2.2.2.2⟩)); have n3_ := Aside0.mk (Kd.R_mono (ok' := fun k_ => some k_ ≠ (v726 : Value).ownBlock ∧ some k_ ≠ (.slice Ao105 t741.length co105 : Value).ownBlock ∧ some k_ ≠ (.slice Ao52 t762.length co52 : Value).ownBlock) (Kd.R_keptB (HO_737002.out) hkp (fun k_ hk_ hs_ => (hk_.2.1) hs_)) (fun k_ hk_ => ⟨hk_.1.1, hk_.1.2.1, hk_.1.2.2⟩)); have n4_ := Aside0.mk (Kd.R_mono (ok' := fun k_ => some k_ ≠ (v726 : Value).ownBlock ∧ some k_ ≠ (.slice Ao105 t741.length co105 : Value).ownBlock ∧ some k_ ≠ (.slice Ao48 t760.length co48 : Value).ownBlock) (Kd.R_keptB (HO_741000.out) hkp (fun k_ hk_ hs_ => (hk_.2.1) hs_)) (fun k_ hk_ => ⟨hk_.1.1, hk_.1.2.1, hk_.1.2.2⟩)); have n5_ := Aside0.mk (blk_kept BK711.out hkp (fun hs_ => (fun e_ => (Kd.R_ne HO_10.out BK711.out (by decide)) e_) hs_)); have n6_ := Aside0.mk (blk_kept BK712.out hkp (fun hs_ => (fun e_ => (Kd.R_ne HO_10.out BK712.out (by decide)) e_) hs_)); have n7_ := Aside0.mk (blk_kept BK736.out hkp (fun hs_ => (fun e_ => (Kd.R_ne HO_10.out BK736.out (by decide)) e_) hs_)); have n8_ := Aside0.mk (blk_kept BK740.out hkp (fun hs_ => (fun e_ => (Kd.R_ne HO_10.out BK740.out (by decide)) e_) hs_)); have n9_ := Aside0.mk (hb); clear HO_6; clear HO_10; clear HO_737001; clear HO_737002; clear HO_741000; clear BK711; clear BK712; clear BK736; clear BK740; clear HB; have HO_6 := n0_; have HO_10 := n1_; have HO_737001 := n2_; have HO_737002 := n3_; have HO_741000 := n4_; have BK711 := n5_; have BK712 := n6_; have BK736 := n7_; have BK740 := n8_; have HB := n9_; clear n0_ n1_ n2_ n3_ n4_ n5_ n6_ n7_ n8_ n9_; (try clear hb); (try clear hkp); (try clear hy0)) | ((with_reducible refine gate_callee (f := 23) rfl ?_); refine goesL_ (some 88) rfl rfl Try.func23 (by kernel_rfl) rfl #[.slice Ao105 t765.length co105, .int .i64 1] rfl (by (try simp only [List.map_toArray, List.map_cons, List.map_nil]); first | done | (rw [show t765.length = t741.length from (Kd.R_reads' HO_10.out).1.symm] <;> rfl) | rfl | (simp only [List.length_drop, List.length_take]; rfl)) ?_; (with_reducible refine (laws_heldInt64S.calls kj73 _ _ t765 1 t766 _ ?side1 ?side2 A103.out).mono ?_); (case side1 => repeat (first | exact (Kd.R_reads' HO_10.out).2.2 | (with_reducible refine Kd.C_alloc ?_ _) | (with_reducible refine Kd.C_drewN ?_ _) | (with_reducible refine Kd.C_drew ?_))); (case side2 => rw [show t765.length = t741.length from (Kd.R_reads' HO_10.out).1.symm]; exact (Kd.R_reads' HO_10.out).2.1); rintro e w' ⟨rfl, ⟨nd, rfl⟩⟩; refine ⟨_, rfl, ?_⟩))
            go_ret
            exact ⟨by first | rfl | (simp [errW_none, errW_some] <;> rfl) | (simp [*, errW_none, errW_some] <;> rfl), by repeat (first | (with_reducible first | exact HB.out | apply below_alloc | apply pw_below_drewN | apply below_drew1 | refine below_set ?_ GE711.out | refine below_set ?_ GE712.out | refine below_set ?_ GE736.out | refine below_set ?_ GE740.out) | exact HB.out)⟩
           ·rw [if_neg c104] at H
            have c104b0 : decide (t766 < 0) = false := decide_eq_false c104
            clear c104
            by_cases c107 : t766 = t764
            ·rw [if_pos c107] at H
             have c107b0 : (t766 == t764) = true := beq_iff_eq.mpr c107
             have c107b1 : (t766 != t764) = false := bne_eq_false_iff_eq.mpr c107
             clear c107
             replace H := Option.bind_eq_some_iff.mp H
             obtain ⟨⟨t767, t768, t771⟩, A1080, H⟩ := H
             replace H : ((laws_toTree.f kj73 l1_0).bind fun t774 => ((impl_StatesOf.f kj73 t767 t768 t771 t774).bind fun bt777 => ((laws_eqInt64S.f kj73 bt777.1 t725).bind fun t781 => (if t781 = true then (laws_FnExactStatesOf.j2 kj73 t765 t764 (bt777.2 != t728)) else (laws_FnExactStatesOf.j2 kj73 t765 t764 true))))) = some r := H
             have A108 := Aside0.mk A1080
             clear A1080
             replace H := Option.bind_eq_some_iff.mp H
             obtain ⟨t774, A1090, H⟩ := H
             replace H : ((impl_StatesOf.f kj73 t767 t768 t771 t774).bind fun bt777 => ((laws_eqInt64S.f kj73 bt777.1 t725).bind fun t781 => (if t781 = true then (laws_FnExactStatesOf.j2 kj73 t765 t764 (bt777.2 != t728)) else (laws_FnExactStatesOf.j2 kj73 t765 t764 true)))) = some r := H
             have A109 := Aside0.mk A1090
             clear A1090
             replace H := Option.bind_eq_some_iff.mp H
             obtain ⟨⟨t777, t780⟩, A1100, H⟩ := H
             replace H : ((laws_eqInt64S.f kj73 t777 t725).bind fun t781 => (if t781 = true then (laws_FnExactStatesOf.j2 kj73 t765 t764 (t780 != t728)) else (laws_FnExactStatesOf.j2 kj73 t765 t764 true))) = some r := H
             have A110 := Aside0.mk A1100
             clear A1100
             have HC111 := Aside0.mk H
             clear H
             obtain ⟨Ao112, co112, eo112⟩ := Kd.R_slice HO_10.out
             subst eo112
             try go_wp2_with (first | ((with_reducible refine gate_callee (f := 22) rfl ?_); refine goesL_ (some 85) rfl rfl Try.func22 (by kernel_rfl) rfl #[.slice Ao112 t741.length co112, .int .i64 1] rfl (by (try simp only [List.map_toArray, List.map_cons, List.map_nil]); first | done | rfl) ?_; (with_reducible refine (laws_markInt64S.calls kj73 (fun k_ => some k_ = (.slice Ao112 t741.length co112 : Value).ownBlock) (.slice Ao112 t741.length co112) t741 1 t764 t765 w _ ?side1 ?side2 A102.out).mono ?_); (case side1 => repeat (first | (with_reducible first | exact HB.out | apply below_alloc | apply pw_below_drewN | apply below_drew1 | refine below_set ?_ GE711.out | refine below_set ?_ GE712.out | refine below_set ?_ GE736.out | refine below_set ?_ GE740.out) | exact HB.out)); (case side2 => exact Kd.R_tight rfl HO_10.out); rintro e w113 ⟨rfl, hy0, hb, hkp⟩; refine ⟨_, rfl, ?_⟩; have n0_ := Aside0.mk (Kd.R_mono (ok' := fun k_ => some k_ ≠ (.slice Ao112 t741.length co112 : Value).ownBlock ∧ some k_ ≠ (.slice Ao48 t760.length co48 : Value).ownBlock ∧ some k_ ≠ (.slice Ao52 t762.length co52 : Value).ownBlock) (Kd.R_keptB (HO_6.out) hkp (fun k_ hk_ hs_ => (hk_.1) hs_)) (fun k_ hk_ => ⟨hk_.1.1, hk_.1.2.1, hk_.1.2.2⟩)); have n1_ := Aside0.mk (Kd.R_reok rfl hy0 (fun k_ e_ => HO_10.out.1 k_ e_)); have n2_ := Aside0.mk (Kd.S_mono (ok' := fun k_ => some k_ ≠ (v726 : Value).ownBlock ∧ some k_ ≠ (.slice Ao112 t741.length co112 : Value).ownBlock ∧ some k_ ≠ (.slice Ao48 t760.length co48 : Value).ownBlock ∧ some k_ ≠ (.slice Ao52 t762.length co52 : Value).ownBlock ∧ k_ ≠ ge_ N42 k_) (Kd.S_keptB (HO_737001.out) hkp (fun k_ hk_ hs_ => (hk_.2.1) hs_)) (fun k_ hk_ => ⟨hk_.1.1, hk_.1.2.1, hk_.1.2.2.1, hk_.1.2.2.2.1, hk_.1.2.2.2.2⟩)); have n3_ := Aside0.mk (Kd.R_mono (ok' := fun k_ => some k_ ≠ (v726 : Value).ownBlock ∧ some k_ ≠ (.slice Ao112 t741.length co112 : Value).ownBlock ∧ some k_ ≠ (.slice Ao52 t762.length co52 : Value).ownBlock) (Kd.R_keptB (HO_737002.out) hkp (fun k_ hk_ hs_ => (hk_.2.1) hs_)) (fun k_ hk_ => ⟨hk_.1.1, hk_.1.2.1, hk_.1.2.2⟩)); have n4_ := Aside0.mk (Kd.R_mono (ok' := fun k_ => some k_ ≠ (v726 : Value).ownBlock ∧ some k_ ≠ (.slice Ao112 t741.length co112 : Value).ownBlock ∧ some k_ ≠ (.slice Ao48 t760.length co48 : Value).ownBlock) (Kd.R_keptB (HO_741000.out) hkp (fun k_ hk_ hs_ => (hk_.2.1) hs_)) (fun k_ hk_ => ⟨hk_.1.1, hk_.1.2.1, hk_.1.2.2⟩)); have n5_ := Aside0.mk (blk_kept BK711.out hkp (fun hs_ => (fun e_ => (Kd.R_ne HO_10.out BK711.out (by decide)) e_) hs_)); have n6_ := Aside0.mk (blk_kept BK712.out hkp (fun hs_ => (fun e_ => (Kd.R_ne HO_10.out BK712.out (by decide)) e_) hs_)); have n7_ := Aside0.mk (blk_kept BK736.out hkp (fun hs_ => (fun e_ => (Kd.R_ne HO_10.out BK736.out (by decide)) e_) hs_)); have n8_ := Aside0.mk (blk_kept BK740.out hkp (fun hs_ => (fun e_ => (Kd.R_ne HO_10.out BK740.out (by decide)) e_) hs_)); have n9_ := Aside0.mk (hb); clear HO_6; clear HO_10; clear HO_737001; clear HO_737002; clear HO_741000; clear BK711; clear BK712; clear BK736; clear BK740; clear HB; have HO_6 := n0_; have HO_10 := n1_; have HO_737001 := n2_; have HO_737002 := n3_; have HO_741000 := n4_; have BK711 := n5_; have BK712 := n6_; have BK736 := n7_; have BK740 := n8_; have HB := n9_; clear n0_ n1_ n2_ n3_ n4_ n5_ n6_ n7_ n8_ n9_; (try clear hb); (try clear hkp); (try clear hy0)) | ((with_reducible refine gate_callee (f := 23) rfl ?_); refine goesL_ (some 88) rfl rfl Try.func23 (by kernel_rfl) rfl #[.slice Ao112 t765.length co112, .int .i64 1] rfl (by (try simp only [List.map_toArray, List.map_cons, List.map_nil]); first | done | (rw [show t765.length = t741.length from (Kd.R_reads' HO_10.out).1.symm] <;> rfl) | rfl | (simp only [List.length_drop, List.length_take]; rfl)) ?_; (with_reducible refine (laws_heldInt64S.calls kj73 _ _ t765 1 t766 _ ?side1 ?side2 A103.out).mono ?_); (case side1 => repeat (first | exact (Kd.R_reads' HO_10.out).2.2 | (with_reducible refine Kd.C_alloc ?_ _) | (with_reducible refine Kd.C_drewN ?_ _) | (with_reducible refine Kd.C_drew ?_))); (case side2 => rw [show t765.length = t741.length from (Kd.R_reads' HO_10.out).1.symm]; exact (Kd.R_reads' HO_10.out).2.1); rintro e w' ⟨rfl, ⟨nd, rfl⟩⟩; refine ⟨_, rfl, ?_⟩))
             (try (rw [drewN_self w113]; generalize hq_ : World.drewN w113 _ = w113; have n0_ : Aside0 (Kd.R (Kd.int .i64) 2 w113 w.heap.size (fun k_ => some k_ ≠ (v726 : Value).ownBlock ∧ some k_ ≠ (.slice Ao48 t760.length co48 : Value).ownBlock ∧ some k_ ≠ (.slice Ao52 t762.length co52 : Value).ownBlock) (.slice Ao112 t741.length co112) t765) := ⟨by rw [← hq_]; exact HO_10.out⟩; have n1_ : Aside0 (Kd.R (Kd.int .i64) 2 w113 w.heap.size (fun k_ => some k_ ≠ (.slice Ao112 t741.length co112 : Value).ownBlock ∧ some k_ ≠ (.slice Ao48 t760.length co48 : Value).ownBlock ∧ some k_ ≠ (.slice Ao52 t762.length co52 : Value).ownBlock) v726 t725) := ⟨by rw [← hq_]; exact HO_6.out⟩; have n2_ := Aside0.mk (Kd.S_at hq_ HO_737001.out); have n3_ := Aside0.mk (Kd.R_at hq_ HO_737002.out); have n4_ := Aside0.mk (Kd.R_at hq_ HO_741000.out); have n5_ : Aside0 (w113.heap[gb711]? = some (.cells #[.int .i64 a0_0, .slice A0_1 l0_1.length c0_1, .slice A0_2 l0_2.length c0_2] 25 (0, 0))) := ⟨by rw [← hq_]; exact BK711.out⟩; have n6_ : Aside0 (w113.heap[gb712]? = some (.cells #[.slice A1_0 l1_0.length c1_0] 45 (0, 0))) := ⟨by rw [← hq_]; exact BK712.out⟩; have n7_ : Aside0 (w113.heap[gb736]? = some (.cells #[.int .i64 t729, .slice Ao47 t759.length co47, .slice Ao48 t760.length co48] 28 (0, 0))) := ⟨by rw [← hq_]; exact BK736.out⟩; have n8_ : Aside0 (w113.heap[gb740]? = some (.cells #[.slice Ao52 t762.length co52] 49 (0, 0))) := ⟨by rw [← hq_]; exact BK740.out⟩; have n9_ : Aside0 (Below w.heap.size w w113) := ⟨by rw [← hq_]; exact (by repeat (first | (with_reducible first | exact HB.out | apply below_alloc | apply pw_below_drewN | apply below_drew1 | refine below_set ?_ GE711.out | refine below_set ?_ GE712.out | refine below_set ?_ GE736.out | refine below_set ?_ GE740.out) | exact HB.out))⟩; clear HO_10 HO_6 HO_737001 HO_737002 HO_741000 BK711 BK712 BK736 BK740 HB hq_; have HO_10 := n0_; have HO_6 := n1_; have HO_737001 := n2_; have HO_737002 := n3_; have HO_741000 := n4_; have BK711 := n5_; have BK712 := n6_; have BK736 := n7_; have BK740 := n8_; have HB := n9_; clear n0_ n1_ n2_ n3_ n4_ n5_ n6_ n7_ n8_ n9_))
             have n0_ := Aside0.mk (Kd.R_drew HO_6.out)
             have n1_ := Aside0.mk (Kd.R_drew HO_10.out)
             have n2_ := Aside0.mk (Kd.S_drew HO_737001.out)
             have n3_ := Aside0.mk (Kd.R_drew HO_737002.out)
             have n4_ := Aside0.mk (Kd.R_drew HO_741000.out)
             have n5_ := Aside0.mk (blk_drew BK711.out)
             have n6_ := Aside0.mk (blk_drew BK712.out)
             have n7_ := Aside0.mk (blk_drew BK736.out)
             have n8_ := Aside0.mk (blk_drew BK740.out)
             have n9_ := Aside0.mk (below_drew1 HB.out)
             clear HO_6
             clear HO_10
             clear HO_737001
             clear HO_737002
             clear HO_741000
             clear BK711
             clear BK712
             clear BK736
             clear BK740
             clear HB
             have HO_6 := n0_
             have HO_10 := n1_
             have HO_737001 := n2_
             have HO_737002 := n3_
             have HO_741000 := n4_
             have BK711 := n5_
             have BK712 := n6_
             have BK736 := n7_
             have BK740 := n8_
             have HB := n9_
             clear n0_ n1_ n2_ n3_ n4_ n5_ n6_ n7_ n8_ n9_
             refine start_ (n := 10) (S := fun w' => w'.cell? ⟨gb711, 0, none⟩ = some (.int .i64 a0_0) ∧ w'.cell? ⟨gb711, 1, none⟩ = some (.slice A0_1 l0_1.length c0_1) ∧ w'.cell? ⟨gb711, 2, none⟩ = some (.slice A0_2 l0_2.length c0_2) ∧ w'.cell? ⟨gb712, 0, none⟩ = some (.slice A1_0 l1_0.length c1_0)) (ds := []) #[false, false, false, false, false, false, false, false, false, false] (by kernel_rfl) rfl rfl ⟨(blk_cell BK711.out 0).trans rfl, (blk_cell BK711.out 1).trans rfl, (blk_cell BK711.out 2).trans rfl, (blk_cell BK712.out 0).trans rfl⟩ (fun hHeld => ?_); refine with_tabW laws_FnExactStatesOf.tab31 laws_FnExactStatesOf.bits31 (fun HT_ HW_ => ?_)
             generalize w113.drew = w114 at HO_6 HO_10 HO_737001 HO_737002 HO_741000 BK711 BK712 BK736 BK740 HB hHeld ⊢
             refine take_ (i := 0) (N := some 95) (v := ?_) (a' := ?_) #[true, false, false, false, false, false, false, false, false, false] rfl rfl (take_ofW HT_.out HW_.out (by kernel_rfl)) (fun _ _ _ h => h) (Or.inl ⟨by rfl, ?_⟩) hHeld ?_ ?_
             rotate_left
             ·rintro w' ⟨s0, s1, s2, s3⟩
              go_simp
              with_reducible rfl
             rotate_left
             ·simp only [Act.put, List.setIfInBounds_toArray, List.set_cons_zero, List.set_cons_succ, i64_w, i32_w]
              rfl
             refine take_ (i := 2) (N := some 97) (v := ?_) (a' := ?_) #[true, false, true, false, false, false, false, false, false, false] rfl rfl (take_ofW HT_.out HW_.out (by kernel_rfl)) (fun _ _ _ h => h) (Or.inl ⟨by rfl, ?_⟩) hHeld ?_ ?_
             rotate_left
             ·rintro w' ⟨s0, s1, s2, s3⟩
              go_simp
              with_reducible rfl
             rotate_left
             ·simp only [Act.put, List.setIfInBounds_toArray, List.set_cons_zero, List.set_cons_succ, i64_w, i32_w]
              rfl
             refine one_ (i := 1) (N := some 96) #[true, true, true, false, false, false, false, false, false, false] rfl rfl (one_of HT_.out (by kernel_rfl)) (by decide) (fun K hK => ?_)
             refine goes_ Try.func12 (by kernel_rfl) rfl #[.agg #[.int .i64 a0_0, .slice A0_1 l0_1.length c0_1, .slice A0_2 l0_2.length c0_2]] (by rfl) rfl rfl (by (try simp only [List.map_toArray, List.map_cons, List.map_nil]); first | done | rfl) ?_
             with_reducible refine (laws_toAutomaton.calls kj73 a0_0 _ _ l0_1 _ _ l0_2 t767 t768 t771 _ ?side1 ?side2 ?side3 ?side4 A108.out).mono ?_
             (case side1 => repeat (first | exact (Kd.C_below HR0_1.out HB.out) | (with_reducible refine Kd.C_alloc ?_ _) | (with_reducible refine Kd.C_drewN ?_ _) | (with_reducible refine Kd.C_drew ?_)))
             (case side2 => exact HC0_1.out)
             (case side3 => repeat (first | exact (Kd.C_below HR0_2.out HB.out) | (with_reducible refine Kd.C_alloc ?_ _) | (with_reducible refine Kd.C_drewN ?_ _) | (with_reducible refine Kd.C_drew ?_)))
             (case side4 => exact HC0_2.out)
             rintro e w115 ⟨v769, v772, rfl, ho0, ho1, hb⟩
             refine ⟨_, rfl, ?_⟩
             have n0_ := Aside0.mk (Kd.R_elder' HO_6.out (Kd.R_base ho1) hb)
             have n1_ := Aside0.mk (Kd.R_elder' HO_10.out (Kd.R_base ho1) hb)
             have n2_ := Aside0.mk (Kd.S_mono (Kd.S_told (Kd.S_told (Kd.S_old HO_737001.out hb) (Kd.S_base ho0)) (Kd.R_base ho1)) (fun _ h_ => h_.1))
             have n3_ := Aside0.mk (Kd.R_elder' HO_737002.out (Kd.R_base ho1) hb)
             have n4_ := Aside0.mk (Kd.R_elder' HO_741000.out (Kd.R_base ho1) hb)
             have n5_ := Aside0.mk (Kd.S_lower (Kd.S_new' (Kd.S_new' (Kd.S_new' (Kd.S_new' (Kd.S_new' ho0 (Kd.R_lt HO_6.out)) (Kd.R_lt HO_10.out)) (Kd.S_lt HO_737001.out)) (Kd.R_lt HO_737002.out)) (Kd.R_lt HO_741000.out)) (below_size (by repeat (first | (with_reducible first | exact HB.out | apply below_alloc | apply pw_below_drewN | apply below_drew1 | refine below_set ?_ GE711.out | refine below_set ?_ GE712.out | refine below_set ?_ GE736.out | refine below_set ?_ GE740.out) | exact HB.out))))
             have n6_ := Aside0.mk (Kd.R_lower (Kd.R_new' (Kd.R_new' (Kd.R_new' (Kd.R_new' ho1 (Kd.R_lt HO_6.out)) (Kd.R_lt HO_10.out)) (Kd.R_lt HO_737002.out)) (Kd.R_lt HO_741000.out)) (below_size (by repeat (first | (with_reducible first | exact HB.out | apply below_alloc | apply pw_below_drewN | apply below_drew1 | refine below_set ?_ GE711.out | refine below_set ?_ GE712.out | refine below_set ?_ GE736.out | refine below_set ?_ GE740.out) | exact HB.out))))
             have n7_ := Aside0.mk (blk_below (g := gb711) (o := .cells #[.int .i64 a0_0, .slice A0_1 l0_1.length c0_1, .slice A0_2 l0_2.length c0_2] 25 (0, 0)) BK711.out hb)
             have n8_ := Aside0.mk (blk_below (g := gb712) (o := .cells #[.slice A1_0 l1_0.length c1_0] 45 (0, 0)) BK712.out hb)
             have n9_ := Aside0.mk (blk_below (g := gb736) (o := .cells #[.int .i64 t729, .slice Ao47 t759.length co47, .slice Ao48 t760.length co48] 28 (0, 0)) BK736.out hb)
             have n10_ := Aside0.mk (blk_below (g := gb740) (o := .cells #[.slice Ao52 t762.length co52] 49 (0, 0)) BK740.out hb)
             have n11_ := Aside0.mk (below_step (by repeat (first | (with_reducible first | exact HB.out | apply below_alloc | apply pw_below_drewN | apply below_drew1 | refine below_set ?_ GE711.out | refine below_set ?_ GE712.out | refine below_set ?_ GE736.out | refine below_set ?_ GE740.out) | exact HB.out)) hb)
             clear HO_6
             clear HO_10
             clear HO_737001
             clear HO_737002
             clear HO_741000
             clear BK711
             clear BK712
             clear BK736
             clear BK740
             clear HB
             have HO_6 := n0_
             have HO_10 := n1_
             have HO_737001 := n2_
             have HO_737002 := n3_
             have HO_741000 := n4_
             have HO770 := n5_
             have HO773 := n6_
             have BK711 := n7_
             have BK712 := n8_
             have BK736 := n9_
             have BK740 := n10_
             have HB := n11_
             clear n0_ n1_ n2_ n3_ n4_ n5_ n6_ n7_ n8_ n9_ n10_ n11_
             (try clear hb)
             (try clear hb2)
             (try clear hk)
             (try clear hi)
             (try clear ho0)
             (try clear ho1)
             refine hK.out _ _ ⟨(blk_cell BK711.out 0).trans rfl, (blk_cell BK711.out 1).trans rfl, (blk_cell BK711.out 2).trans rfl, (blk_cell BK712.out 0).trans rfl⟩ (fun hHeld => ?_)
             clear hK K
             refine norm_ (a' := ?_) ?_ ?_
             rotate_left
             ·show Act.put _ (some 96) _ = _
              simp only [Act.put, List.setIfInBounds_toArray, List.set_cons_zero, List.set_cons_succ, i64_w, i32_w]
              rfl
             refine one_ (i := 3) (N := some 98) #[true, true, true, true, false, false, false, false, false, false] rfl rfl (one_of HT_.out (by kernel_rfl)) (by decide) (fun K hK => ?_)
             refine goes_ Try.func30 (by kernel_rfl) rfl #[.agg #[.slice A1_0 l1_0.length c1_0]] (by rfl) rfl rfl (by (try simp only [List.map_toArray, List.map_cons, List.map_nil]); first | done | rfl) ?_
             with_reducible refine (laws_toTree.calls kj73 _ _ l1_0 t774 _ ?side1 ?side2 A109.out).mono ?_
             (case side1 => repeat (first | exact (Kd.C_below HR1_0.out HB.out) | (with_reducible refine Kd.C_alloc ?_ _) | (with_reducible refine Kd.C_drewN ?_ _) | (with_reducible refine Kd.C_drew ?_)))
             (case side2 => exact HC1_0.out)
             rintro e w116 ⟨v775, rfl, ho0, hb⟩
             refine ⟨_, rfl, ?_⟩
             have n0_ := Aside0.mk (Kd.R_elder' HO_6.out (Kd.R_base ho0) hb)
             have n1_ := Aside0.mk (Kd.R_elder' HO_10.out (Kd.R_base ho0) hb)
             have n2_ := Aside0.mk (Kd.S_elder' HO_737001.out (Kd.R_base ho0) hb)
             have n3_ := Aside0.mk (Kd.R_elder' HO_737002.out (Kd.R_base ho0) hb)
             have n4_ := Aside0.mk (Kd.R_elder' HO_741000.out (Kd.R_base ho0) hb)
             have n5_ := Aside0.mk (Kd.S_elder' HO770.out (Kd.R_base ho0) hb)
             have n6_ := Aside0.mk (Kd.R_elder' HO773.out (Kd.R_base ho0) hb)
             have n7_ := Aside0.mk (Kd.R_lower (Kd.R_new' (Kd.R_new' (Kd.R_new' (Kd.R_new' (Kd.R_new' ho0 (Kd.R_lt HO_6.out)) (Kd.R_lt HO_10.out)) (Kd.R_lt HO_737002.out)) (Kd.R_lt HO_741000.out)) (Kd.R_lt HO773.out)) (below_size (by repeat (first | (with_reducible first | exact HB.out | apply below_alloc | apply pw_below_drewN | apply below_drew1 | refine below_set ?_ GE711.out | refine below_set ?_ GE712.out | refine below_set ?_ GE736.out | refine below_set ?_ GE740.out) | exact HB.out))))
             have n8_ := Aside0.mk (blk_below (g := gb711) (o := .cells #[.int .i64 a0_0, .slice A0_1 l0_1.length c0_1, .slice A0_2 l0_2.length c0_2] 25 (0, 0)) BK711.out hb)
             have n9_ := Aside0.mk (blk_below (g := gb712) (o := .cells #[.slice A1_0 l1_0.length c1_0] 45 (0, 0)) BK712.out hb)
             have n10_ := Aside0.mk (blk_below (g := gb736) (o := .cells #[.int .i64 t729, .slice Ao47 t759.length co47, .slice Ao48 t760.length co48] 28 (0, 0)) BK736.out hb)
             have n11_ := Aside0.mk (blk_below (g := gb740) (o := .cells #[.slice Ao52 t762.length co52] 49 (0, 0)) BK740.out hb)
             have n12_ := Aside0.mk (below_step (by repeat (first | (with_reducible first | exact HB.out | apply below_alloc | apply pw_below_drewN | apply below_drew1 | refine below_set ?_ GE711.out | refine below_set ?_ GE712.out | refine below_set ?_ GE736.out | refine below_set ?_ GE740.out) | exact HB.out)) hb)
             clear HO_6
             clear HO_10
             clear HO_737001
             clear HO_737002
             clear HO_741000
             clear HO770
             clear HO773
             clear BK711
             clear BK712
             clear BK736
             clear BK740
             clear HB
             have HO_6 := n0_
             have HO_10 := n1_
             have HO_737001 := n2_
             have HO_737002 := n3_
             have HO_741000 := n4_
             have HO770 := n5_
             have HO773 := n6_
             have HO776 := n7_
             have BK711 := n8_
             have BK712 := n9_
             have BK736 := n10_
             have BK740 := n11_
             have HB := n12_
             clear n0_ n1_ n2_ n3_ n4_ n5_ n6_ n7_ n8_ n9_ n10_ n11_ n12_
             (try clear hb)
             (try clear hb2)
             (try clear hk)
             (try clear hi)
             (try clear ho0)
             obtain ⟨Ao117, co117, eo117⟩ := Kd.S_slice HO770.out
             (first | subst eo117 | (injection eo117 with f1_ f2_ f3_; have f4_ := f1_.symm; have f5_ := f3_.symm; clear f1_ f2_ f3_; subst f4_; subst f5_))
             obtain ⟨Ao118, co118, eo118⟩ := Kd.R_slice HO773.out
             (first | subst eo118 | (injection eo118 with f1_ f2_ f3_; have f4_ := f1_.symm; have f5_ := f3_.symm; clear f1_ f2_ f3_; subst f4_; subst f5_))
             obtain ⟨Ao119, co119, eo119⟩ := Kd.R_slice HO776.out
             (first | subst eo119 | (injection eo119 with f1_ f2_ f3_; have f4_ := f1_.symm; have f5_ := f3_.symm; clear f1_ f2_ f3_; subst f4_; subst f5_))
             refine hK.out _ _ ⟨(blk_cell BK711.out 0).trans rfl, (blk_cell BK711.out 1).trans rfl, (blk_cell BK711.out 2).trans rfl, (blk_cell BK712.out 0).trans rfl⟩ (fun hHeld => ?_)
             clear hK K
             refine norm_ (a' := ?_) ?_ ?_
             rotate_left
             ·show Act.put _ (some 98) _ = _
              simp only [Act.put, List.setIfInBounds_toArray, List.set_cons_zero, List.set_cons_succ, i64_w, i32_w]
              rfl
             refine one_ (i := 4) (N := some 99) #[true, true, true, true, true, false, false, false, false, false] rfl rfl (one_of HT_.out (by kernel_rfl)) (by decide) (fun K hK => ?_)
             refine goes_ Try.func34 (by kernel_rfl) rfl #[.agg #[.int .i64 t767, .slice Ao117 t768.length co117, .slice Ao118 t771.length co118], .agg #[.slice Ao119 t774.length co119]] (by rfl) rfl rfl (by (try simp only [List.map_toArray, List.map_cons, List.map_nil]); first | done | rfl) ?_
             with_reducible refine (impl_StatesOf.calls kj73 t767 _ _ t768 _ _ t771 _ _ t774 t777 t780 _ ?side1 ?side2 ?side3 ?side4 ?side5 ?side6 A110.out).mono ?_
             (case side1 => repeat (first | exact (Kd.S_reads' HO770.out).2.2 | (with_reducible refine Kd.C_alloc ?_ _) | (with_reducible refine Kd.C_drewN ?_ _) | (with_reducible refine Kd.C_drew ?_)))
             (case side2 => exact (Kd.S_reads' HO770.out).2.1)
             (case side3 => repeat (first | exact (Kd.R_reads' HO773.out).2.2 | (with_reducible refine Kd.C_alloc ?_ _) | (with_reducible refine Kd.C_drewN ?_ _) | (with_reducible refine Kd.C_drew ?_)))
             (case side4 => exact (Kd.R_reads' HO773.out).2.1)
             (case side5 => repeat (first | exact (Kd.R_reads' HO776.out).2.2 | (with_reducible refine Kd.C_alloc ?_ _) | (with_reducible refine Kd.C_drewN ?_ _) | (with_reducible refine Kd.C_drew ?_)))
             (case side6 => exact (Kd.R_reads' HO776.out).2.1)
             rintro e w120 ⟨v778, rfl, ho0, hb⟩
             refine ⟨_, rfl, ?_⟩
             have n0_ := Aside0.mk (Kd.R_elder' HO_6.out (Kd.R_base ho0) hb)
             have n1_ := Aside0.mk (Kd.R_elder' HO_10.out (Kd.R_base ho0) hb)
             have n2_ := Aside0.mk (Kd.S_elder' HO_737001.out (Kd.R_base ho0) hb)
             have n3_ := Aside0.mk (Kd.R_elder' HO_737002.out (Kd.R_base ho0) hb)
             have n4_ := Aside0.mk (Kd.R_elder' HO_741000.out (Kd.R_base ho0) hb)
             have n5_ := Aside0.mk (Kd.S_elder' HO770.out (Kd.R_base ho0) hb)
             have n6_ := Aside0.mk (Kd.R_elder' HO773.out (Kd.R_base ho0) hb)
             have n7_ := Aside0.mk (Kd.R_elder' HO776.out (Kd.R_base ho0) hb)
             have n8_ := Aside0.mk (Kd.R_lower (Kd.R_new' (Kd.R_new' (Kd.R_new' (Kd.R_new' (Kd.R_new' (Kd.R_new' ho0 (Kd.R_lt HO_6.out)) (Kd.R_lt HO_10.out)) (Kd.R_lt HO_737002.out)) (Kd.R_lt HO_741000.out)) (Kd.R_lt HO773.out)) (Kd.R_lt HO776.out)) (below_size (by repeat (first | (with_reducible first | exact HB.out | apply below_alloc | apply pw_below_drewN | apply below_drew1 | refine below_set ?_ GE711.out | refine below_set ?_ GE712.out | refine below_set ?_ GE736.out | refine below_set ?_ GE740.out) | exact HB.out))))
             have n9_ := Aside0.mk (blk_below (g := gb711) (o := .cells #[.int .i64 a0_0, .slice A0_1 l0_1.length c0_1, .slice A0_2 l0_2.length c0_2] 25 (0, 0)) BK711.out hb)
             have n10_ := Aside0.mk (blk_below (g := gb712) (o := .cells #[.slice A1_0 l1_0.length c1_0] 45 (0, 0)) BK712.out hb)
             have n11_ := Aside0.mk (blk_below (g := gb736) (o := .cells #[.int .i64 t729, .slice Ao47 t759.length co47, .slice Ao48 t760.length co48] 28 (0, 0)) BK736.out hb)
             have n12_ := Aside0.mk (blk_below (g := gb740) (o := .cells #[.slice Ao52 t762.length co52] 49 (0, 0)) BK740.out hb)
             have n13_ := Aside0.mk (below_step (by repeat (first | (with_reducible first | exact HB.out | apply below_alloc | apply pw_below_drewN | apply below_drew1 | refine below_set ?_ GE711.out | refine below_set ?_ GE712.out | refine below_set ?_ GE736.out | refine below_set ?_ GE740.out) | exact HB.out)) hb)
             clear HO_6
             clear HO_10
             clear HO_737001
             clear HO_737002
             clear HO_741000
             clear HO770
             clear HO773
             clear HO776
             clear BK711
             clear BK712
             clear BK736
             clear BK740
             clear HB
             have HO_6 := n0_
             have HO_10 := n1_
             have HO_737001 := n2_
             have HO_737002 := n3_
             have HO_741000 := n4_
             have HO770 := n5_
             have HO773 := n6_
             have HO776 := n7_
             have HO779 := n8_
             have BK711 := n9_
             have BK712 := n10_
             have BK736 := n11_
             have BK740 := n12_
             have HB := n13_
             clear n0_ n1_ n2_ n3_ n4_ n5_ n6_ n7_ n8_ n9_ n10_ n11_ n12_ n13_
             (try clear hb)
             (try clear hb2)
             (try clear hk)
             (try clear hi)
             (try clear ho0)
             refine hK.out _ _ ⟨(blk_cell BK711.out 0).trans rfl, (blk_cell BK711.out 1).trans rfl, (blk_cell BK711.out 2).trans rfl, (blk_cell BK712.out 0).trans rfl⟩ (fun hHeld => ?_)
             clear hK K
             refine norm_ (a' := ?_) ?_ ?_
             rotate_left
             ·show Act.put _ (some 99) _ = _
              simp only [Act.put, List.setIfInBounds_toArray, List.set_cons_zero, List.set_cons_succ, i64_w, i32_w]
              rfl
             refine pure_ (i := 5) (N := some 94) (v := ?_) (a' := ?_) #[true, true, true, true, true, true, false, false, false, false] rfl rfl (any_of HT_.out (by kernel_rfl)) (fun _ _ _ h => h) (Or.inl ⟨by rfl, ?_⟩) ?_ ?_
             rotate_left
             ·intro w'
              go_simp
              with_reducible rfl
             rotate_left
             ·simp only [Act.put, List.setIfInBounds_toArray, List.set_cons_zero, List.set_cons_succ, i64_w, i32_w]
              rfl
             refine pure_ (i := 6) (N := some 100) (v := ?_) (a' := ?_) #[true, true, true, true, true, true, true, false, false, false] rfl rfl (any_of HT_.out (by kernel_rfl)) (fun _ _ _ h => h) (Or.inl ⟨by rfl, ?_⟩) ?_ ?_
             rotate_left
             ·intro w'
              go_simp
              with_reducible rfl
             rotate_left
             ·simp only [Act.put, List.setIfInBounds_toArray, List.set_cons_zero, List.set_cons_succ, i64_w, i32_w]
              rfl
             refine pure_ (i := 7) (N := some 101) (v := ?_) (a' := ?_) #[true, true, true, true, true, true, true, true, false, false] rfl rfl (any_of HT_.out (by kernel_rfl)) (fun _ _ _ h => h) (Or.inl ⟨by rfl, ?_⟩) ?_ ?_
             rotate_left
             ·intro w'
              go_simp
              with_reducible rfl
             rotate_left
             ·simp only [Act.put, List.setIfInBounds_toArray, List.set_cons_zero, List.set_cons_succ, i64_w, i32_w]
              rfl
             refine pure_ (i := 8) (N := some 15) (v := ?_) (a' := ?_) #[true, true, true, true, true, true, true, true, true, false] rfl rfl (any_of HT_.out (by kernel_rfl)) (fun _ _ _ h => h) (Or.inl ⟨by rfl, ?_⟩) ?_ ?_
             rotate_left
             ·intro w'
              go_simp
              with_reducible rfl
             rotate_left
             ·simp only [Act.put, List.setIfInBounds_toArray, List.set_cons_zero, List.set_cons_succ, i64_w, i32_w]
              rfl
             refine pure_ (i := 9) (N := some 16) (v := ?_) (a' := ?_) #[true, true, true, true, true, true, true, true, true, true] rfl rfl (any_of HT_.out (by kernel_rfl)) (fun _ _ _ h => h) (Or.inl ⟨by rfl, ?_⟩) ?_ ?_
             rotate_left
             ·intro w'
              go_simp
              with_reducible rfl
             rotate_left
             ·simp only [Act.put, List.setIfInBounds_toArray, List.set_cons_zero, List.set_cons_succ, i64_w, i32_w]
              rfl
             refine done_ (done_of HT_.out (by kernel_rfl)) ?_
             go_upto_region 32 with (fail)
             go_cut [110] (fun v110 wc => ∃ (kq : Nat) (x110_110 : Bool), v110 = .bool x110_110 ∧ Aside0 (laws_FnExactStatesOf.j2 kq t765 t764 x110_110 = some r) ∧ Aside0 (kq ≤ kj73) ∧ Aside0 (Kd.R (Kd.int .i64) 2 wc w.heap.size (fun k_ => some k_ ≠ ((.slice Ao48 t760.length co48) : Value).ownBlock ∧ some k_ ≠ ((.slice Ao52 t762.length co52) : Value).ownBlock) (.slice Ao112 t741.length co112) t765) ∧ Aside0 (Kd.S (Kd.slice 2 (Kd.int .i64)) 23 wc w.heap.size (fun k_ => some k_ ≠ ((.slice Ao112 t741.length co112) : Value).ownBlock ∧ some k_ ≠ ((.slice Ao48 t760.length co48) : Value).ownBlock ∧ some k_ ≠ ((.slice Ao52 t762.length co52) : Value).ownBlock ∧ k_ ≠ ge_ N42 k_) (.slice Ao47 t759.length co47) t759) ∧ Aside0 (Kd.R (Kd.int .i64) 2 wc w.heap.size (fun k_ => some k_ ≠ ((.slice Ao112 t741.length co112) : Value).ownBlock ∧ some k_ ≠ ((.slice Ao52 t762.length co52) : Value).ownBlock) (.slice Ao48 t760.length co48) t760) ∧ Aside0 (Kd.R (Kd.int .i64) 2 wc w.heap.size (fun k_ => some k_ ≠ ((.slice Ao112 t741.length co112) : Value).ownBlock ∧ some k_ ≠ ((.slice Ao48 t760.length co48) : Value).ownBlock) (.slice Ao52 t762.length co52) t762) ∧ Aside0 (wc.heap[gb711]? = some (.cells #[.int .i64 a0_0, (.slice A0_1 l0_1.length c0_1), (.slice A0_2 l0_2.length c0_2)] 25 (0, 0))) ∧ Aside0 (wc.heap[gb712]? = some (.cells #[(.slice A1_0 l1_0.length c1_0)] 45 (0, 0))) ∧ Aside0 (wc.heap[gb736]? = some (.cells #[.int .i64 t729, (.slice Ao47 t759.length co47), (.slice Ao48 t760.length co48)] 28 (0, 0))) ∧ Aside0 (wc.heap[gb740]? = some (.cells #[(.slice Ao52 t762.length co52)] 49 (0, 0))) ∧ Aside0 (Below w.heap.size w wc))
             case first =>
              have H := HC111.out
              clear HC111
              replace H := Option.bind_eq_some_iff.mp H
              obtain ⟨t781, A1210, H⟩ := H
              replace H : (if t781 = true then (laws_FnExactStatesOf.j2 kj73 t765 t764 (t780 != t728)) else (laws_FnExactStatesOf.j2 kj73 t765 t764 true)) = some r := H
              have A121 := Aside0.mk A1210
              clear A1210
              by_cases c122 : t781 = true
              ·subst c122
               have H1 : (laws_FnExactStatesOf.j2 kj73 t765 t764 (t780 != t728)) = some r := by rw [if_pos rfl] at H; exact H
               clear H
               have H := H1
               clear H1
               have H' := Aside0.mk H
               clear H
               obtain ⟨Ao123, co123, eo123⟩ := Kd.R_slice HO779.out
               subst eo123
               obtain ⟨Ao124, co124, eo124⟩ := Kd.R_slice HO_6.out
               subst eo124
               go_wp2_with (first | ((with_reducible refine gate_callee (f := 21) rfl ?_); refine goesL_ (some 104) rfl rfl Try.func21 (by kernel_rfl) rfl #[.slice Ao123 t777.length co123, .slice Ao124 t725.length co124] rfl (by (try simp only [List.map_toArray, List.map_cons, List.map_nil]); first | done | rfl) ?_; (with_reducible refine (laws_eqInt64S.calls kj73 _ _ t777 _ _ t725 true _ ?side1 ?side2 ?side3 ?side4 A121.out).mono ?_); (case side1 => repeat (first | exact (Kd.R_reads' HO779.out).2.2 | (with_reducible refine Kd.C_alloc ?_ _) | (with_reducible refine Kd.C_drewN ?_ _) | (with_reducible refine Kd.C_drew ?_))); (case side2 => exact (Kd.R_reads' HO779.out).2.1); (case side3 => repeat (first | exact (Kd.R_reads' HO_6.out).2.2 | (with_reducible refine Kd.C_alloc ?_ _) | (with_reducible refine Kd.C_drewN ?_ _) | (with_reducible refine Kd.C_drew ?_))); (case side4 => exact (Kd.R_reads' HO_6.out).2.1); rintro e w' ⟨rfl, ⟨nd, rfl⟩⟩; refine ⟨_, rfl, ?_⟩))
               go_meet
               case rel => exact ⟨_, ((t780 != t728)), (by first | rfl | (simp; done) | (simp [*]; done)), H', ⟨by have := HJ24.out; have := HJ73.out; first | omega | exact Nat.le_refl _⟩, ⟨by (try simp only [hl737001_73]); (try simp only [hl737002_73]); (try simp only [hl741000_73]); (with_reducible repeat (first | apply Kd.R_alloc | apply Kd.R_drewN | apply Kd.R_drew)); exact Kd.R_mono HO_10.out (fun _ hk => ⟨hk.1.1.1.2.1, hk.1.1.1.2.2⟩)⟩, ⟨by (try simp only [hl737001_73]); (try simp only [hl737002_73]); (try simp only [hl741000_73]); (with_reducible repeat (first | apply Kd.S_alloc | apply Kd.S_drewN | apply Kd.S_drew)); exact Kd.S_mono HO_737001.out (fun _ hk => ⟨hk.1.1.1.1.2.1, ⟨hk.1.1.1.1.2.2.1, ⟨hk.1.1.1.1.2.2.2.1, hk.1.1.1.1.2.2.2.2⟩⟩⟩)⟩, ⟨by (try simp only [hl737001_73]); (try simp only [hl737002_73]); (try simp only [hl741000_73]); (with_reducible repeat (first | apply Kd.R_alloc | apply Kd.R_drewN | apply Kd.R_drew)); exact Kd.R_mono HO_737002.out (fun _ hk => ⟨hk.1.1.1.2.1, hk.1.1.1.2.2⟩)⟩, ⟨by (try simp only [hl737001_73]); (try simp only [hl737002_73]); (try simp only [hl741000_73]); (with_reducible repeat (first | apply Kd.R_alloc | apply Kd.R_drewN | apply Kd.R_drew)); exact Kd.R_mono HO_741000.out (fun _ hk => ⟨hk.1.1.1.2.1, hk.1.1.1.2.2⟩)⟩, ⟨by (try simp only [hl737001_73]); (try simp only [hl737002_73]); (try simp only [hl741000_73]); (with_reducible repeat (first | refine blk_drewN ?_ _ | refine blk_drew ?_ | refine blk_alloc ?_ _)); exact BK711.out⟩, ⟨by (try simp only [hl737001_73]); (try simp only [hl737002_73]); (try simp only [hl741000_73]); (with_reducible repeat (first | refine blk_drewN ?_ _ | refine blk_drew ?_ | refine blk_alloc ?_ _)); exact BK712.out⟩, ⟨by (try simp only [hl737001_73]); (try simp only [hl737002_73]); (try simp only [hl741000_73]); (with_reducible repeat (first | refine blk_drewN ?_ _ | refine blk_drew ?_ | refine blk_alloc ?_ _)); exact BK736.out⟩, ⟨by (try simp only [hl737001_73]); (try simp only [hl737002_73]); (try simp only [hl741000_73]); (with_reducible repeat (first | refine blk_drewN ?_ _ | refine blk_drew ?_ | refine blk_alloc ?_ _)); exact BK740.out⟩, ⟨by repeat (first | (with_reducible first | exact HB.out | apply below_alloc | apply pw_below_drewN | apply below_drew1 | refine below_set ?_ GE711.out | refine below_set ?_ GE712.out | refine below_set ?_ GE736.out | refine below_set ?_ GE740.out) | exact HB.out)⟩⟩
              ·replace c122 := Bool.eq_false_iff.mpr c122
               subst c122
               have H1 : (laws_FnExactStatesOf.j2 kj73 t765 t764 true) = some r := by rw [if_neg (show ¬ (false = true) by decide)] at H; exact H
               clear H
               have H := H1
               clear H1
               have H' := Aside0.mk H
               clear H
               obtain ⟨Ao125, co125, eo125⟩ := Kd.R_slice HO779.out
               subst eo125
               obtain ⟨Ao126, co126, eo126⟩ := Kd.R_slice HO_6.out
               subst eo126
               go_wp2_with (first | ((with_reducible refine gate_callee (f := 21) rfl ?_); refine goesL_ (some 104) rfl rfl Try.func21 (by kernel_rfl) rfl #[.slice Ao125 t777.length co125, .slice Ao126 t725.length co126] rfl (by (try simp only [List.map_toArray, List.map_cons, List.map_nil]); first | done | rfl) ?_; (with_reducible refine (laws_eqInt64S.calls kj73 _ _ t777 _ _ t725 false _ ?side1 ?side2 ?side3 ?side4 A121.out).mono ?_); (case side1 => repeat (first | exact (Kd.R_reads' HO779.out).2.2 | (with_reducible refine Kd.C_alloc ?_ _) | (with_reducible refine Kd.C_drewN ?_ _) | (with_reducible refine Kd.C_drew ?_))); (case side2 => exact (Kd.R_reads' HO779.out).2.1); (case side3 => repeat (first | exact (Kd.R_reads' HO_6.out).2.2 | (with_reducible refine Kd.C_alloc ?_ _) | (with_reducible refine Kd.C_drewN ?_ _) | (with_reducible refine Kd.C_drew ?_))); (case side4 => exact (Kd.R_reads' HO_6.out).2.1); rintro e w' ⟨rfl, ⟨nd, rfl⟩⟩; refine ⟨_, rfl, ?_⟩))
               go_meet
               case rel => exact ⟨_, (true), (by first | rfl | (simp; done) | (simp [*]; done)), H', ⟨by have := HJ24.out; have := HJ73.out; first | omega | exact Nat.le_refl _⟩, ⟨by (try simp only [hl737001_73]); (try simp only [hl737002_73]); (try simp only [hl741000_73]); (with_reducible repeat (first | apply Kd.R_alloc | apply Kd.R_drewN | apply Kd.R_drew)); exact Kd.R_mono HO_10.out (fun _ hk => ⟨hk.1.1.1.2.1, hk.1.1.1.2.2⟩)⟩, ⟨by (try simp only [hl737001_73]); (try simp only [hl737002_73]); (try simp only [hl741000_73]); (with_reducible repeat (first | apply Kd.S_alloc | apply Kd.S_drewN | apply Kd.S_drew)); exact Kd.S_mono HO_737001.out (fun _ hk => ⟨hk.1.1.1.1.2.1, ⟨hk.1.1.1.1.2.2.1, ⟨hk.1.1.1.1.2.2.2.1, hk.1.1.1.1.2.2.2.2⟩⟩⟩)⟩, ⟨by (try simp only [hl737001_73]); (try simp only [hl737002_73]); (try simp only [hl741000_73]); (with_reducible repeat (first | apply Kd.R_alloc | apply Kd.R_drewN | apply Kd.R_drew)); exact Kd.R_mono HO_737002.out (fun _ hk => ⟨hk.1.1.1.2.1, hk.1.1.1.2.2⟩)⟩, ⟨by (try simp only [hl737001_73]); (try simp only [hl737002_73]); (try simp only [hl741000_73]); (with_reducible repeat (first | apply Kd.R_alloc | apply Kd.R_drewN | apply Kd.R_drew)); exact Kd.R_mono HO_741000.out (fun _ hk => ⟨hk.1.1.1.2.1, hk.1.1.1.2.2⟩)⟩, ⟨by (try simp only [hl737001_73]); (try simp only [hl737002_73]); (try simp only [hl741000_73]); (with_reducible repeat (first | refine blk_drewN ?_ _ | refine blk_drew ?_ | refine blk_alloc ?_ _)); exact BK711.out⟩, ⟨by (try simp only [hl737001_73]); (try simp only [hl737002_73]); (try simp only [hl741000_73]); (with_reducible repeat (first | refine blk_drewN ?_ _ | refine blk_drew ?_ | refine blk_alloc ?_ _)); exact BK712.out⟩, ⟨by (try simp only [hl737001_73]); (try simp only [hl737002_73]); (try simp only [hl741000_73]); (with_reducible repeat (first | refine blk_drewN ?_ _ | refine blk_drew ?_ | refine blk_alloc ?_ _)); exact BK736.out⟩, ⟨by (try simp only [hl737001_73]); (try simp only [hl737002_73]); (try simp only [hl741000_73]); (with_reducible repeat (first | refine blk_drewN ?_ _ | refine blk_drew ?_ | refine blk_alloc ?_ _)); exact BK740.out⟩, ⟨by repeat (first | (with_reducible first | exact HB.out | apply below_alloc | apply pw_below_drewN | apply below_drew1 | refine below_set ?_ GE711.out | refine below_set ?_ GE712.out | refine below_set ?_ GE736.out | refine below_set ?_ GE740.out) | exact HB.out)⟩⟩
             case rest =>
              clear HC111
              try clear c1
              try clear c2
              try clear p2
              try clear c3
              try clear c4
              try clear c4b0
              try clear c5
              try clear c6
              try clear c7
              try clear c8
              try clear c9
              try clear c10
              try clear c11
              try clear c11b0
              try clear c12
              try clear c14
              try clear c17
              try clear c21
              try clear c22
              try clear c23
              try clear c28
              try clear c30
              try clear c32
              try clear c33
              try clear c34
              try clear c35
              try clear c44
              try clear c45
              try clear c53
              try clear c54
              try clear c55
              try clear c60
              try clear c65
              try clear c68
              try clear c71
              try clear c84
              try clear c85
              try clear c86
              try clear c90
              try clear c91
              try clear c94
              try clear c94b0
              try clear c96
              try clear c101
              try clear c104
              try clear c104b0
              try clear c107
              try clear c107b0
              try clear c107b1
              try clear c122
              try clear hcz15_0
              try clear hcz15_1
              try clear hcz15_2
              try clear hcz17_0
              try clear hcz29_0
              try clear hcz29_1
              try clear hcz29_2
              try clear hcz31_0
              try clear hcz40_0
              try clear hcz40_1
              try clear hcz40_2
              try clear hcz46_0
              try clear hcz46_1
              try clear hcz46_2
              try clear hcz49_0
              try clear hcz56_0
              try clear hcz57_0
              try clear hcz57_1
              try clear hcz57_2
              try clear hcz87_0
              try clear hcz87_1
              try clear hcz87_2
              try clear hcz8_0
              try clear hcz8_1
              try clear hcz8_2
              try clear hcz92_0
              try clear hfz15_0
              try clear hfz15_1
              try clear hfz15_2
              try clear hfz17_0
              try clear hfz29_0
              try clear hfz29_1
              try clear hfz29_2
              try clear hfz31_0
              try clear hfz40_0
              try clear hfz40_1
              try clear hfz40_2
              try clear hfz46_0
              try clear hfz46_1
              try clear hfz46_2
              try clear hfz49_0
              try clear hfz56_0
              try clear hfz57_0
              try clear hfz57_1
              try clear hfz57_2
              try clear hfz87_0
              try clear hfz87_1
              try clear hfz87_2
              try clear hfz8_0
              try clear hfz8_1
              try clear hfz8_2
              try clear hfz92_0
              try clear p2
              obtain ⟨kq, x110_110, rfl, HA, HJ110, HO_10, HO_737001, HO_737002, HO_741000, BK711, BK712, BK736, BK740, HB⟩ := hcut
              have hl10_110 := (Kd.R_reads' HO_10.out).1
              rw [hl10_110] at HO_10
              (try simp only [hl10_110])
              (try simp only [hl10_110] at BK711)
              (try simp only [hl10_110] at BK712)
              (try simp only [hl10_110] at BK736)
              (try simp only [hl10_110] at BK740)
              (try simp only [hl10_110] at HO_737001)
              (try simp only [hl10_110] at HO_737002)
              (try simp only [hl10_110] at HO_741000)
              cases kq with
              | zero => exact absurd HA.out (by simp [laws_FnExactStatesOf.j2])
              | succ kj110 =>
               have H := HA.out
               clear HA
               simp only [laws_FnExactStatesOf.j2] at H
               by_cases c127 : x110_110 = true
               ·subst c127
                have H1 : (some false) = some r := by rw [if_pos rfl] at H; exact H
                clear H
                have H := H1
                clear H1
                obtain rfl := Option.some.inj H
                go_wp2
                go_ret
                exact ⟨by first | rfl | (simp [errW_none, errW_some] <;> rfl) | (simp [*, errW_none, errW_some] <;> rfl), by repeat (first | (with_reducible first | exact HB.out | apply below_alloc | apply pw_below_drewN | apply below_drew1 | refine below_set ?_ GE711.out | refine below_set ?_ GE712.out | refine below_set ?_ GE736.out | refine below_set ?_ GE740.out) | exact HB.out)⟩
               ·replace c127 := Bool.eq_false_iff.mpr c127
                subst c127
                have H1 : ((laws_heldInt64S.f kj110 t765 1).bind fun t782 => (if t782 < 0 then (some false) else (if t782 = t764 then (some true) else (some false)))) = some r := by rw [if_neg (show ¬ (false = true) by decide)] at H; exact H
                clear H
                have H := H1
                clear H1
                replace H := Option.bind_eq_some_iff.mp H
                obtain ⟨t782, A1280, H⟩ := H
                replace H : (if t782 < 0 then (some false) else (if t782 = t764 then (some true) else (some false))) = some r := H
                have A128 := Aside0.mk A1280
                clear A1280
                by_cases c129 : t782 < 0
                ·rw [if_pos c129] at H
                 have c129b0 : decide (t782 < 0) = true := decide_eq_true c129
                 clear c129
                 obtain rfl := Option.some.inj H
                 go_wp2_with (first | ((with_reducible refine gate_callee (f := 23) rfl ?_); refine goesL_ (some 113) rfl rfl Try.func23 (by kernel_rfl) rfl #[.slice Ao112 t765.length co112, .int .i64 1] rfl (by (try simp only [List.map_toArray, List.map_cons, List.map_nil]); first | done | rfl) ?_; (with_reducible refine (laws_heldInt64S.calls kj110 _ _ t765 1 t782 _ ?side1 ?side2 A128.out).mono ?_); (case side1 => repeat (first | exact (Kd.R_reads' HO_10.out).2.2 | (with_reducible refine Kd.C_alloc ?_ _) | (with_reducible refine Kd.C_drewN ?_ _) | (with_reducible refine Kd.C_drew ?_))); (case side2 => exact (Kd.R_reads' HO_10.out).2.1); rintro e w' ⟨rfl, ⟨nd, rfl⟩⟩; refine ⟨_, rfl, ?_⟩))
                 go_ret
                 exact ⟨by first | rfl | (simp [errW_none, errW_some] <;> rfl) | (simp [*, errW_none, errW_some] <;> rfl), by repeat (first | (with_reducible first | exact HB.out | apply below_alloc | apply pw_below_drewN | apply below_drew1 | refine below_set ?_ GE711.out | refine below_set ?_ GE712.out | refine below_set ?_ GE736.out | refine below_set ?_ GE740.out) | exact HB.out)⟩
                ·rw [if_neg c129] at H
                 have c129b0 : decide (t782 < 0) = false := decide_eq_false c129
                 clear c129
                 by_cases c130 : t782 = t764
                 ·rw [if_pos c130] at H
                  have c130b0 : (t782 == t764) = true := beq_iff_eq.mpr c130
                  have c130b1 : (t782 != t764) = false := bne_eq_false_iff_eq.mpr c130
                  clear c130
                  obtain rfl := Option.some.inj H
                  go_wp2_with (first | ((with_reducible refine gate_callee (f := 23) rfl ?_); refine goesL_ (some 113) rfl rfl Try.func23 (by kernel_rfl) rfl #[.slice Ao112 t765.length co112, .int .i64 1] rfl (by (try simp only [List.map_toArray, List.map_cons, List.map_nil]); first | done | rfl) ?_; (with_reducible refine (laws_heldInt64S.calls kj110 _ _ t765 1 t782 _ ?side1 ?side2 A128.out).mono ?_); (case side1 => repeat (first | exact (Kd.R_reads' HO_10.out).2.2 | (with_reducible refine Kd.C_alloc ?_ _) | (with_reducible refine Kd.C_drewN ?_ _) | (with_reducible refine Kd.C_drew ?_))); (case side2 => exact (Kd.R_reads' HO_10.out).2.1); rintro e w' ⟨rfl, ⟨nd, rfl⟩⟩; refine ⟨_, rfl, ?_⟩))
                  go_ret
                  exact ⟨by first | rfl | (simp [errW_none, errW_some] <;> rfl) | (simp [*, errW_none, errW_some] <;> rfl), by repeat (first | (with_reducible first | exact HB.out | apply below_alloc | apply pw_below_drewN | apply below_drew1 | refine below_set ?_ GE711.out | refine below_set ?_ GE712.out | refine below_set ?_ GE736.out | refine below_set ?_ GE740.out) | exact HB.out)⟩
                 ·rw [if_neg c130] at H
                  have c130b0 : (t782 == t764) = false := beq_eq_false_iff_ne.mpr c130
                  have c130b1 : (t782 != t764) = true := bne_iff_ne.mpr c130
                  obtain rfl := Option.some.inj H
                  go_wp2_with (first | ((with_reducible refine gate_callee (f := 23) rfl ?_); refine goesL_ (some 113) rfl rfl Try.func23 (by kernel_rfl) rfl #[.slice Ao112 t765.length co112, .int .i64 1] rfl (by (try simp only [List.map_toArray, List.map_cons, List.map_nil]); first | done | rfl) ?_; (with_reducible refine (laws_heldInt64S.calls kj110 _ _ t765 1 t782 _ ?side1 ?side2 A128.out).mono ?_); (case side1 => repeat (first | exact (Kd.R_reads' HO_10.out).2.2 | (with_reducible refine Kd.C_alloc ?_ _) | (with_reducible refine Kd.C_drewN ?_ _) | (with_reducible refine Kd.C_drew ?_))); (case side2 => exact (Kd.R_reads' HO_10.out).2.1); rintro e w' ⟨rfl, ⟨nd, rfl⟩⟩; refine ⟨_, rfl, ?_⟩))
                  go_ret
                  exact ⟨by first | rfl | (simp [errW_none, errW_some] <;> rfl) | (simp [*, errW_none, errW_some] <;> rfl), by repeat (first | (with_reducible first | exact HB.out | apply below_alloc | apply pw_below_drewN | apply below_drew1 | refine below_set ?_ GE711.out | refine below_set ?_ GE712.out | refine below_set ?_ GE736.out | refine below_set ?_ GE740.out) | exact HB.out)⟩
            ·rw [if_neg c107] at H
             have c107b0 : (t766 == t764) = false := beq_eq_false_iff_ne.mpr c107
             have c107b1 : (t766 != t764) = true := bne_iff_ne.mpr c107
             obtain rfl := Option.some.inj H
             obtain ⟨Ao131, co131, eo131⟩ := Kd.R_slice HO_10.out
             subst eo131
             go_wp2_with (first | ((with_reducible refine gate_callee (f := 22) rfl ?_); refine goesL_ (some 85) rfl rfl Try.func22 (by kernel_rfl) rfl #[.slice Ao131 t741.length co131, .int .i64 1] rfl (by (try simp only [List.map_toArray, List.map_cons, List.map_nil]); first | done | rfl) ?_; (with_reducible refine (laws_markInt64S.calls kj73 (fun k_ => some k_ = (.slice Ao131 t741.length co131 : Value).ownBlock) (.slice Ao131 t741.length co131) t741 1 t764 t765 w _ ?side1 ?side2 A102.out).mono ?_); (case side1 => repeat (first | (with_reducible first | exact HB.out | apply below_alloc | apply pw_below_drewN | apply below_drew1 | refine below_set ?_ GE711.out | refine below_set ?_ GE712.out | refine below_set ?_ GE736.out | refine below_set ?_ GE740.out) | exact HB.out)); (case side2 => exact Kd.R_tight rfl HO_10.out); rintro e w132 ⟨rfl, hy0, hb, hkp⟩; refine ⟨_, rfl, ?_⟩; have n0_ := Aside0.mk (Kd.R_mono (ok' := fun k_ => some k_ ≠ (.slice Ao131 t741.length co131 : Value).ownBlock ∧ some k_ ≠ (.slice Ao48 t760.length co48 : Value).ownBlock ∧ some k_ ≠ (.slice Ao52 t762.length co52 : Value).ownBlock) (Kd.R_keptB (HO_6.out) hkp (fun k_ hk_ hs_ => (hk_.1) hs_)) (fun k_ hk_ => ⟨hk_.1.1, hk_.1.2.1, hk_.1.2.2⟩)); have n1_ := Aside0.mk (Kd.R_reok rfl hy0 (fun k_ e_ => HO_10.out.1 k_ e_)); have n2_ := Aside0.mk (Kd.S_mono (ok' := fun k_ => some k_ ≠ (v726 : Value).ownBlock ∧ some k_ ≠ (.slice Ao131 t741.length co131 : Value).ownBlock ∧ some k_ ≠ (.slice Ao48 t760.length co48 : Value).ownBlock ∧ some k_ ≠ (.slice Ao52 t762.length co52 : Value).ownBlock ∧ k_ ≠ ge_ N42 k_) (Kd.S_keptB (HO_737001.out) hkp (fun k_ hk_ hs_ => (hk_.2.1) hs_)) (fun k_ hk_ => ⟨hk_.1.1, hk_.1.2.1, hk_.1.2.2.1, hk_.1.2.2.2.1, hk_.1.2.2.2.2⟩)); have n3_ := Aside0.mk (Kd.R_mono (ok' := fun k_ => some k_ ≠ (v726 : Value).ownBlock ∧ some k_ ≠ (.slice Ao131 t741.length co131 : Value).ownBlock ∧ some k_ ≠ (.slice Ao52 t762.length co52 : Value).ownBlock) (Kd.R_keptB (HO_737002.out) hkp (fun k_ hk_ hs_ => (hk_.2.1) hs_)) (fun k_ hk_ => ⟨hk_.1.1, hk_.1.2.1, hk_.1.2.2⟩)); have n4_ := Aside0.mk (Kd.R_mono (ok' := fun k_ => some k_ ≠ (v726 : Value).ownBlock ∧ some k_ ≠ (.slice Ao131 t741.length co131 : Value).ownBlock ∧ some k_ ≠ (.slice Ao48 t760.length co48 : Value).ownBlock) (Kd.R_keptB (HO_741000.out) hkp (fun k_ hk_ hs_ => (hk_.2.1) hs_)) (fun k_ hk_ => ⟨hk_.1.1, hk_.1.2.1, hk_.1.2.2⟩)); have n5_ := Aside0.mk (blk_kept BK711.out hkp (fun hs_ => (fun e_ => (Kd.R_ne HO_10.out BK711.out (by decide)) e_) hs_)); have n6_ := Aside0.mk (blk_kept BK712.out hkp (fun hs_ => (fun e_ => (Kd.R_ne HO_10.out BK712.out (by decide)) e_) hs_)); have n7_ := Aside0.mk (blk_kept BK736.out hkp (fun hs_ => (fun e_ => (Kd.R_ne HO_10.out BK736.out (by decide)) e_) hs_)); have n8_ := Aside0.mk (blk_kept BK740.out hkp (fun hs_ => (fun e_ => (Kd.R_ne HO_10.out BK740.out (by decide)) e_) hs_)); have n9_ := Aside0.mk (hb); clear HO_6; clear HO_10; clear HO_737001; clear HO_737002; clear HO_741000; clear BK711; clear BK712; clear BK736; clear BK740; clear HB; have HO_6 := n0_; have HO_10 := n1_; have HO_737001 := n2_; have HO_737002 := n3_; have HO_741000 := n4_; have BK711 := n5_; have BK712 := n6_; have BK736 := n7_; have BK740 := n8_; have HB := n9_; clear n0_ n1_ n2_ n3_ n4_ n5_ n6_ n7_ n8_ n9_; (try clear hb); (try clear hkp); (try clear hy0)) | ((with_reducible refine gate_callee (f := 23) rfl ?_); refine goesL_ (some 88) rfl rfl Try.func23 (by kernel_rfl) rfl #[.slice Ao131 t765.length co131, .int .i64 1] rfl (by (try simp only [List.map_toArray, List.map_cons, List.map_nil]); first | done | (rw [show t765.length = t741.length from (Kd.R_reads' HO_10.out).1.symm] <;> rfl) | rfl | (simp only [List.length_drop, List.length_take]; rfl)) ?_; (with_reducible refine (laws_heldInt64S.calls kj73 _ _ t765 1 t766 _ ?side1 ?side2 A103.out).mono ?_); (case side1 => repeat (first | exact (Kd.R_reads' HO_10.out).2.2 | (with_reducible refine Kd.C_alloc ?_ _) | (with_reducible refine Kd.C_drewN ?_ _) | (with_reducible refine Kd.C_drew ?_))); (case side2 => rw [show t765.length = t741.length from (Kd.R_reads' HO_10.out).1.symm]; exact (Kd.R_reads' HO_10.out).2.1); rintro e w' ⟨rfl, ⟨nd, rfl⟩⟩; refine ⟨_, rfl, ?_⟩))
             go_ret
             exact ⟨by first | rfl | (simp [errW_none, errW_some] <;> rfl) | (simp [*, errW_none, errW_some] <;> rfl), by repeat (first | (with_reducible first | exact HB.out | apply below_alloc | apply pw_below_drewN | apply below_drew1 | refine below_set ?_ GE711.out | refine below_set ?_ GE712.out | refine below_set ?_ GE736.out | refine below_set ?_ GE740.out) | exact HB.out)⟩
       ·replace c71 := Bool.eq_false_iff.mpr c71
        subst c71
        have H1 : (some false) = some r := by rw [if_neg (show ¬ (false = true) by decide)] at H; exact H
        clear H
        have H := H1
        clear H1
        obtain rfl := Option.some.inj H
        try go_wp2
        have n0_ := Aside0.mk (Kd.R_drew HO_6.out)
        have n1_ := Aside0.mk (Kd.R_drew HO_10.out)
        have n2_ := Aside0.mk (Kd.S_drew HO_737001.out)
        have n3_ := Aside0.mk (Kd.R_drew HO_737002.out)
        have n4_ := Aside0.mk (Kd.R_drew HO_741000.out)
        have n5_ := Aside0.mk (blk_drew BK711.out)
        have n6_ := Aside0.mk (blk_drew BK712.out)
        have n7_ := Aside0.mk (blk_drew BK736.out)
        have n8_ := Aside0.mk (blk_drew BK740.out)
        have n9_ := Aside0.mk (below_drew1 HB.out)
        clear HO_6
        clear HO_10
        clear HO_737001
        clear HO_737002
        clear HO_741000
        clear BK711
        clear BK712
        clear BK736
        clear BK740
        clear HB
        have HO_6 := n0_
        have HO_10 := n1_
        have HO_737001 := n2_
        have HO_737002 := n3_
        have HO_741000 := n4_
        have BK711 := n5_
        have BK712 := n6_
        have BK736 := n7_
        have BK740 := n8_
        have HB := n9_
        clear n0_ n1_ n2_ n3_ n4_ n5_ n6_ n7_ n8_ n9_
        refine start_ (n := 5) (S := fun w' => w'.cell? ⟨gb736, 0, none⟩ = some (.int .i64 t729) ∧ w'.cell? ⟨gb736, 1, none⟩ = some (.slice Ao47 t730.length co47) ∧ w'.cell? ⟨gb736, 2, none⟩ = some (.slice Ao48 t733.length co48) ∧ w'.cell? ⟨gb711, 0, none⟩ = some (.int .i64 a0_0) ∧ w'.cell? ⟨gb711, 1, none⟩ = some (.slice A0_1 l0_1.length c0_1) ∧ w'.cell? ⟨gb711, 2, none⟩ = some (.slice A0_2 l0_2.length c0_2)) (ds := []) #[false, false, false, false, false] (by kernel_rfl) rfl rfl ⟨(blk_cell BK736.out 0).trans rfl, (blk_cell BK736.out 1).trans rfl, (blk_cell BK736.out 2).trans rfl, (blk_cell BK711.out 0).trans rfl, (blk_cell BK711.out 1).trans rfl, (blk_cell BK711.out 2).trans rfl⟩ (fun hHeld => ?_)
        generalize wc.drew = w133 at HO_6 HO_10 HO_737001 HO_737002 HO_741000 BK711 BK712 BK736 BK740 HB hHeld ⊢
        refine take_ (i := 0) (N := some 54) (v := ?_) (a' := ?_) #[true, false, false, false, false] rfl rfl (by kernel_rfl) (fun _ _ _ h => h) (Or.inl ⟨by rfl, ?_⟩) hHeld ?_ ?_
        rotate_left
        ·rintro w' ⟨s0, s1, s2, s3, s4, s5⟩
         go_simp
         with_reducible rfl
        rotate_left
        ·simp only [Act.put, List.setIfInBounds_toArray, List.set_cons_zero, List.set_cons_succ, i64_w, i32_w]
         rfl
        refine take_ (i := 1) (N := some 55) (v := ?_) (a' := ?_) #[true, true, false, false, false] rfl rfl (by kernel_rfl) (fun _ _ _ h => h) (Or.inl ⟨by rfl, ?_⟩) hHeld ?_ ?_
        rotate_left
        ·rintro w' ⟨s0, s1, s2, s3, s4, s5⟩
         go_simp
         with_reducible rfl
        rotate_left
        ·simp only [Act.put, List.setIfInBounds_toArray, List.set_cons_zero, List.set_cons_succ, i64_w, i32_w]
         rfl
        refine one_ (i := 2) (N := some 56) #[true, true, true, false, false] rfl rfl (by kernel_rfl) (by decide) (fun K hK => ?_)
        refine goes_ Try.func12 (by kernel_rfl) rfl #[.agg #[.int .i64 a0_0, .slice A0_1 l0_1.length c0_1, .slice A0_2 l0_2.length c0_2]] (by rfl) rfl rfl (by (try simp only [List.map_toArray, List.map_cons, List.map_nil]); first | done | rfl) ?_
        with_reducible refine (laws_toAutomaton.calls kj24 a0_0 _ _ l0_1 _ _ l0_2 t746 t747 t750 _ ?side1 ?side2 ?side3 ?side4 A66.out).mono ?_
        (case side1 => repeat (first | exact (Kd.C_below HR0_1.out HB.out) | (with_reducible refine Kd.C_alloc ?_ _) | (with_reducible refine Kd.C_drewN ?_ _) | (with_reducible refine Kd.C_drew ?_)))
        (case side2 => exact HC0_1.out)
        (case side3 => repeat (first | exact (Kd.C_below HR0_2.out HB.out) | (with_reducible refine Kd.C_alloc ?_ _) | (with_reducible refine Kd.C_drewN ?_ _) | (with_reducible refine Kd.C_drew ?_)))
        (case side4 => exact HC0_2.out)
        rintro e w134 ⟨v748, v751, rfl, ho0, ho1, hb⟩
        refine ⟨_, rfl, ?_⟩
        have n0_ := Aside0.mk (Kd.R_elder' HO_6.out (Kd.R_base ho1) hb)
        have n1_ := Aside0.mk (Kd.R_elder' HO_10.out (Kd.R_base ho1) hb)
        have n2_ := Aside0.mk (Kd.S_mono (Kd.S_told (Kd.S_told (Kd.S_old HO_737001.out hb) (Kd.S_base ho0)) (Kd.R_base ho1)) (fun _ h_ => h_.1))
        have n3_ := Aside0.mk (Kd.R_elder' HO_737002.out (Kd.R_base ho1) hb)
        have n4_ := Aside0.mk (Kd.R_elder' HO_741000.out (Kd.R_base ho1) hb)
        have n5_ := Aside0.mk (Kd.S_lower (Kd.S_new' (Kd.S_new' (Kd.S_new' (Kd.S_new' (Kd.S_new' ho0 (Kd.R_lt HO_6.out)) (Kd.R_lt HO_10.out)) (Kd.S_lt HO_737001.out)) (Kd.R_lt HO_737002.out)) (Kd.R_lt HO_741000.out)) (below_size (by repeat (first | (with_reducible first | exact HB.out | apply below_alloc | apply pw_below_drewN | apply below_drew1 | refine below_set ?_ GE711.out | refine below_set ?_ GE712.out | refine below_set ?_ GE736.out | refine below_set ?_ GE740.out) | exact HB.out))))
        have n6_ := Aside0.mk (Kd.R_lower (Kd.R_new' (Kd.R_new' (Kd.R_new' (Kd.R_new' ho1 (Kd.R_lt HO_6.out)) (Kd.R_lt HO_10.out)) (Kd.R_lt HO_737002.out)) (Kd.R_lt HO_741000.out)) (below_size (by repeat (first | (with_reducible first | exact HB.out | apply below_alloc | apply pw_below_drewN | apply below_drew1 | refine below_set ?_ GE711.out | refine below_set ?_ GE712.out | refine below_set ?_ GE736.out | refine below_set ?_ GE740.out) | exact HB.out))))
        have n7_ := Aside0.mk (blk_below (g := gb711) (o := .cells #[.int .i64 a0_0, .slice A0_1 l0_1.length c0_1, .slice A0_2 l0_2.length c0_2] 25 (0, 0)) BK711.out hb)
        have n8_ := Aside0.mk (blk_below (g := gb712) (o := .cells #[.slice A1_0 l1_0.length c1_0] 45 (0, 0)) BK712.out hb)
        have n9_ := Aside0.mk (blk_below (g := gb736) (o := .cells #[.int .i64 t729, .slice Ao47 t730.length co47, .slice Ao48 t733.length co48] 28 (0, 0)) BK736.out hb)
        have n10_ := Aside0.mk (blk_below (g := gb740) (o := .cells #[.slice Ao52 t737.length co52] 49 (0, 0)) BK740.out hb)
        have n11_ := Aside0.mk (below_step (by repeat (first | (with_reducible first | exact HB.out | apply below_alloc | apply pw_below_drewN | apply below_drew1 | refine below_set ?_ GE711.out | refine below_set ?_ GE712.out | refine below_set ?_ GE736.out | refine below_set ?_ GE740.out) | exact HB.out)) hb)
        clear HO_6
        clear HO_10
        clear HO_737001
        clear HO_737002
        clear HO_741000
        clear BK711
        clear BK712
        clear BK736
        clear BK740
        clear HB
        have HO_6 := n0_
        have HO_10 := n1_
        have HO_737001 := n2_
        have HO_737002 := n3_
        have HO_741000 := n4_
        have HO749 := n5_
        have HO752 := n6_
        have BK711 := n7_
        have BK712 := n8_
        have BK736 := n9_
        have BK740 := n10_
        have HB := n11_
        clear n0_ n1_ n2_ n3_ n4_ n5_ n6_ n7_ n8_ n9_ n10_ n11_
        (try clear hb)
        (try clear hb2)
        (try clear hk)
        (try clear hi)
        (try clear ho0)
        (try clear ho1)
        obtain ⟨Ao135, co135, eo135⟩ := Kd.S_slice HO749.out
        (first | subst eo135 | (injection eo135 with f1_ f2_ f3_; have f4_ := f1_.symm; have f5_ := f3_.symm; clear f1_ f2_ f3_; subst f4_; subst f5_))
        obtain ⟨Ao136, co136, eo136⟩ := Kd.R_slice HO752.out
        (first | subst eo136 | (injection eo136 with f1_ f2_ f3_; have f4_ := f1_.symm; have f5_ := f3_.symm; clear f1_ f2_ f3_; subst f4_; subst f5_))
        refine hK.out _ _ ⟨(blk_cell BK736.out 0).trans rfl, (blk_cell BK736.out 1).trans rfl, (blk_cell BK736.out 2).trans rfl, (blk_cell BK711.out 0).trans rfl, (blk_cell BK711.out 1).trans rfl, (blk_cell BK711.out 2).trans rfl⟩ (fun hHeld => ?_)
        clear hK K
        refine norm_ (a' := ?_) ?_ ?_
        rotate_left
        ·show Act.put _ (some 56) _ = _
         simp only [Act.put, List.setIfInBounds_toArray, List.set_cons_zero, List.set_cons_succ, i64_w, i32_w]
         rfl
        refine one_ (i := 3) (N := some 57) #[true, true, true, true, false] rfl rfl (by kernel_rfl) (by decide) (fun K hK => ?_)
        refine goes_ Try.func14 (by kernel_rfl) rfl #[.agg #[.int .i64 t729, .slice Ao47 t730.length co47, .slice Ao48 t733.length co48], .agg #[.int .i64 t746, .slice Ao135 t747.length co135, .slice Ao136 t750.length co136]] (by rfl) rfl rfl (by (try simp only [List.map_toArray, List.map_cons, List.map_nil]); first | done | rfl) ?_
        with_reducible refine (laws_eqAutomaton.calls kj24 t729 _ _ t730 _ _ t733 t746 _ _ t747 _ _ t750 true _ ?side1 ?side2 ?side3 ?side4 ?side5 ?side6 ?side7 ?side8 A67.out).mono ?_
        (case side1 => repeat (first | exact (Kd.S_reads' HO_737001.out).2.2 | (with_reducible refine Kd.C_alloc ?_ _) | (with_reducible refine Kd.C_drewN ?_ _) | (with_reducible refine Kd.C_drew ?_)))
        (case side2 => exact (Kd.S_reads' HO_737001.out).2.1)
        (case side3 => repeat (first | exact (Kd.R_reads' HO_737002.out).2.2 | (with_reducible refine Kd.C_alloc ?_ _) | (with_reducible refine Kd.C_drewN ?_ _) | (with_reducible refine Kd.C_drew ?_)))
        (case side4 => exact (Kd.R_reads' HO_737002.out).2.1)
        (case side5 => repeat (first | exact (Kd.S_reads' HO749.out).2.2 | (with_reducible refine Kd.C_alloc ?_ _) | (with_reducible refine Kd.C_drewN ?_ _) | (with_reducible refine Kd.C_drew ?_)))
        (case side6 => exact (Kd.S_reads' HO749.out).2.1)
        (case side7 => repeat (first | exact (Kd.R_reads' HO752.out).2.2 | (with_reducible refine Kd.C_alloc ?_ _) | (with_reducible refine Kd.C_drewN ?_ _) | (with_reducible refine Kd.C_drew ?_)))
        (case side8 => exact (Kd.R_reads' HO752.out).2.1)
        rintro e w137 ⟨rfl, hb⟩
        refine ⟨_, rfl, ?_⟩
        have n0_ := Aside0.mk (Kd.R_below HO_6.out hb)
        have n1_ := Aside0.mk (Kd.R_below HO_10.out hb)
        have n2_ := Aside0.mk (Kd.S_below HO_737001.out hb)
        have n3_ := Aside0.mk (Kd.R_below HO_737002.out hb)
        have n4_ := Aside0.mk (Kd.R_below HO_741000.out hb)
        have n5_ := Aside0.mk (Kd.S_below HO749.out hb)
        have n6_ := Aside0.mk (Kd.R_below HO752.out hb)
        have n7_ := Aside0.mk (blk_below (g := gb711) (o := .cells #[.int .i64 a0_0, .slice A0_1 l0_1.length c0_1, .slice A0_2 l0_2.length c0_2] 25 (0, 0)) BK711.out hb)
        have n8_ := Aside0.mk (blk_below (g := gb712) (o := .cells #[.slice A1_0 l1_0.length c1_0] 45 (0, 0)) BK712.out hb)
        have n9_ := Aside0.mk (blk_below (g := gb736) (o := .cells #[.int .i64 t729, .slice Ao47 t730.length co47, .slice Ao48 t733.length co48] 28 (0, 0)) BK736.out hb)
        have n10_ := Aside0.mk (blk_below (g := gb740) (o := .cells #[.slice Ao52 t737.length co52] 49 (0, 0)) BK740.out hb)
        have n11_ := Aside0.mk (below_step (by repeat (first | (with_reducible first | exact HB.out | apply below_alloc | apply pw_below_drewN | apply below_drew1 | refine below_set ?_ GE711.out | refine below_set ?_ GE712.out | refine below_set ?_ GE736.out | refine below_set ?_ GE740.out) | exact HB.out)) hb)
        clear HO_6
        clear HO_10
        clear HO_737001
        clear HO_737002
        clear HO_741000
        clear HO749
        clear HO752
        clear BK711
        clear BK712
        clear BK736
        clear BK740
        clear HB
        have HO_6 := n0_
        have HO_10 := n1_
        have HO_737001 := n2_
        have HO_737002 := n3_
        have HO_741000 := n4_
        have HO749 := n5_
        have HO752 := n6_
        have BK711 := n7_
        have BK712 := n8_
        have BK736 := n9_
        have BK740 := n10_
        have HB := n11_
        clear n0_ n1_ n2_ n3_ n4_ n5_ n6_ n7_ n8_ n9_ n10_ n11_
        (try clear hb)
        (try clear hb2)
        (try clear hk)
        (try clear hi)
        refine hK.out _ _ ⟨(blk_cell BK736.out 0).trans rfl, (blk_cell BK736.out 1).trans rfl, (blk_cell BK736.out 2).trans rfl, (blk_cell BK711.out 0).trans rfl, (blk_cell BK711.out 1).trans rfl, (blk_cell BK711.out 2).trans rfl⟩ (fun hHeld => ?_)
        clear hK K
        refine norm_ (a' := ?_) ?_ ?_
        rotate_left
        ·show Act.put _ (some 57) _ = _
         simp only [Act.put, List.setIfInBounds_toArray, List.set_cons_zero, List.set_cons_succ, i64_w, i32_w]
         rfl
        refine pure_ (i := 4) (N := some 58) (v := ?_) (a' := ?_) #[true, true, true, true, true] rfl rfl (by kernel_rfl) (fun _ _ _ h => h) (Or.inl ⟨by rfl, ?_⟩) ?_ ?_
        rotate_left
        ·intro w'
         go_simp
         with_reducible rfl
        rotate_left
        ·simp only [Act.put, List.setIfInBounds_toArray, List.set_cons_zero, List.set_cons_succ, i64_w, i32_w]
         rfl
        refine done_ (by kernel_rfl) ?_
        try go_wp2
        have n0_ := Aside0.mk (Kd.R_drew HO_6.out)
        have n1_ := Aside0.mk (Kd.R_drew HO_10.out)
        have n2_ := Aside0.mk (Kd.S_drew HO_737001.out)
        have n3_ := Aside0.mk (Kd.R_drew HO_737002.out)
        have n4_ := Aside0.mk (Kd.R_drew HO_741000.out)
        have n5_ := Aside0.mk (Kd.S_drew HO749.out)
        have n6_ := Aside0.mk (Kd.R_drew HO752.out)
        have n7_ := Aside0.mk (blk_drew BK711.out)
        have n8_ := Aside0.mk (blk_drew BK712.out)
        have n9_ := Aside0.mk (blk_drew BK736.out)
        have n10_ := Aside0.mk (blk_drew BK740.out)
        have n11_ := Aside0.mk (below_drew1 HB.out)
        clear HO_6
        clear HO_10
        clear HO_737001
        clear HO_737002
        clear HO_741000
        clear HO749
        clear HO752
        clear BK711
        clear BK712
        clear BK736
        clear BK740
        clear HB
        have HO_6 := n0_
        have HO_10 := n1_
        have HO_737001 := n2_
        have HO_737002 := n3_
        have HO_741000 := n4_
        have HO749 := n5_
        have HO752 := n6_
        have BK711 := n7_
        have BK712 := n8_
        have BK736 := n9_
        have BK740 := n10_
        have HB := n11_
        clear n0_ n1_ n2_ n3_ n4_ n5_ n6_ n7_ n8_ n9_ n10_ n11_
        refine start_ (n := 5) (S := fun w' => w'.cell? ⟨gb740, 0, none⟩ = some (.slice Ao52 t737.length co52) ∧ w'.cell? ⟨gb712, 0, none⟩ = some (.slice A1_0 l1_0.length c1_0)) (ds := []) #[false, false, false, false, false] (by kernel_rfl) rfl rfl ⟨(blk_cell BK740.out 0).trans rfl, (blk_cell BK712.out 0).trans rfl⟩ (fun hHeld => ?_)
        generalize w137.drew = w138 at HO_6 HO_10 HO_737001 HO_737002 HO_741000 HO749 HO752 BK711 BK712 BK736 BK740 HB hHeld ⊢
        refine take_ (i := 0) (N := some 59) (v := ?_) (a' := ?_) #[true, false, false, false, false] rfl rfl (by kernel_rfl) (fun _ _ _ h => h) (Or.inl ⟨by rfl, ?_⟩) hHeld ?_ ?_
        rotate_left
        ·rintro w' ⟨s0, s1⟩
         go_simp
         with_reducible rfl
        rotate_left
        ·simp only [Act.put, List.setIfInBounds_toArray, List.set_cons_zero, List.set_cons_succ, i64_w, i32_w]
         rfl
        refine take_ (i := 1) (N := some 60) (v := ?_) (a' := ?_) #[true, true, false, false, false] rfl rfl (by kernel_rfl) (fun _ _ _ h => h) (Or.inl ⟨by rfl, ?_⟩) hHeld ?_ ?_
        rotate_left
        ·rintro w' ⟨s0, s1⟩
         go_simp
         with_reducible rfl
        rotate_left
        ·simp only [Act.put, List.setIfInBounds_toArray, List.set_cons_zero, List.set_cons_succ, i64_w, i32_w]
         rfl
        refine one_ (i := 2) (N := some 61) #[true, true, true, false, false] rfl rfl (by kernel_rfl) (by decide) (fun K hK => ?_)
        refine goes_ Try.func30 (by kernel_rfl) rfl #[.agg #[.slice A1_0 l1_0.length c1_0]] (by rfl) rfl rfl (by (try simp only [List.map_toArray, List.map_cons, List.map_nil]); first | done | rfl) ?_
        with_reducible refine (laws_toTree.calls kj24 _ _ l1_0 t754 _ ?side1 ?side2 A69.out).mono ?_
        (case side1 => repeat (first | exact (Kd.C_below HR1_0.out HB.out) | (with_reducible refine Kd.C_alloc ?_ _) | (with_reducible refine Kd.C_drewN ?_ _) | (with_reducible refine Kd.C_drew ?_)))
        (case side2 => exact HC1_0.out)
        rintro e w139 ⟨v755, rfl, ho0, hb⟩
        refine ⟨_, rfl, ?_⟩
        have n0_ := Aside0.mk (Kd.R_elder' HO_6.out (Kd.R_base ho0) hb)
        have n1_ := Aside0.mk (Kd.R_elder' HO_10.out (Kd.R_base ho0) hb)
        have n2_ := Aside0.mk (Kd.S_elder' HO_737001.out (Kd.R_base ho0) hb)
        have n3_ := Aside0.mk (Kd.R_elder' HO_737002.out (Kd.R_base ho0) hb)
        have n4_ := Aside0.mk (Kd.R_elder' HO_741000.out (Kd.R_base ho0) hb)
        have n5_ := Aside0.mk (Kd.S_elder' HO749.out (Kd.R_base ho0) hb)
        have n6_ := Aside0.mk (Kd.R_elder' HO752.out (Kd.R_base ho0) hb)
        have n7_ := Aside0.mk (Kd.R_lower (Kd.R_new' (Kd.R_new' (Kd.R_new' (Kd.R_new' (Kd.R_new' ho0 (Kd.R_lt HO_6.out)) (Kd.R_lt HO_10.out)) (Kd.R_lt HO_737002.out)) (Kd.R_lt HO_741000.out)) (Kd.R_lt HO752.out)) (below_size (by repeat (first | (with_reducible first | exact HB.out | apply below_alloc | apply pw_below_drewN | apply below_drew1 | refine below_set ?_ GE711.out | refine below_set ?_ GE712.out | refine below_set ?_ GE736.out | refine below_set ?_ GE740.out) | exact HB.out))))
        have n8_ := Aside0.mk (blk_below (g := gb711) (o := .cells #[.int .i64 a0_0, .slice A0_1 l0_1.length c0_1, .slice A0_2 l0_2.length c0_2] 25 (0, 0)) BK711.out hb)
        have n9_ := Aside0.mk (blk_below (g := gb712) (o := .cells #[.slice A1_0 l1_0.length c1_0] 45 (0, 0)) BK712.out hb)
        have n10_ := Aside0.mk (blk_below (g := gb736) (o := .cells #[.int .i64 t729, .slice Ao47 t730.length co47, .slice Ao48 t733.length co48] 28 (0, 0)) BK736.out hb)
        have n11_ := Aside0.mk (blk_below (g := gb740) (o := .cells #[.slice Ao52 t737.length co52] 49 (0, 0)) BK740.out hb)
        have n12_ := Aside0.mk (below_step (by repeat (first | (with_reducible first | exact HB.out | apply below_alloc | apply pw_below_drewN | apply below_drew1 | refine below_set ?_ GE711.out | refine below_set ?_ GE712.out | refine below_set ?_ GE736.out | refine below_set ?_ GE740.out) | exact HB.out)) hb)
        clear HO_6
        clear HO_10
        clear HO_737001
        clear HO_737002
        clear HO_741000
        clear HO749
        clear HO752
        clear BK711
        clear BK712
        clear BK736
        clear BK740
        clear HB
        have HO_6 := n0_
        have HO_10 := n1_
        have HO_737001 := n2_
        have HO_737002 := n3_
        have HO_741000 := n4_
        have HO749 := n5_
        have HO752 := n6_
        have HO756 := n7_
        have BK711 := n8_
        have BK712 := n9_
        have BK736 := n10_
        have BK740 := n11_
        have HB := n12_
        clear n0_ n1_ n2_ n3_ n4_ n5_ n6_ n7_ n8_ n9_ n10_ n11_ n12_
        (try clear hb)
        (try clear hb2)
        (try clear hk)
        (try clear hi)
        (try clear ho0)
        obtain ⟨Ao140, co140, eo140⟩ := Kd.R_slice HO756.out
        (first | subst eo140 | (injection eo140 with f1_ f2_ f3_; have f4_ := f1_.symm; have f5_ := f3_.symm; clear f1_ f2_ f3_; subst f4_; subst f5_))
        refine hK.out _ _ ⟨(blk_cell BK740.out 0).trans rfl, (blk_cell BK712.out 0).trans rfl⟩ (fun hHeld => ?_)
        clear hK K
        refine norm_ (a' := ?_) ?_ ?_
        rotate_left
        ·show Act.put _ (some 61) _ = _
         simp only [Act.put, List.setIfInBounds_toArray, List.set_cons_zero, List.set_cons_succ, i64_w, i32_w]
         rfl
        refine one_ (i := 3) (N := some 62) #[true, true, true, true, false] rfl rfl (by kernel_rfl) (by decide) (fun K hK => ?_)
        refine goes_ Try.func32 (by kernel_rfl) rfl #[.agg #[.slice Ao52 t737.length co52], .agg #[.slice Ao140 t754.length co140]] (by rfl) rfl rfl (by (try simp only [List.map_toArray, List.map_cons, List.map_nil]); first | done | rfl) ?_
        with_reducible refine (laws_eqTree.calls kj24 _ _ t737 _ _ t754 false _ ?side1 ?side2 ?side3 ?side4 A70.out).mono ?_
        (case side1 => repeat (first | exact (Kd.R_reads' HO_741000.out).2.2 | (with_reducible refine Kd.C_alloc ?_ _) | (with_reducible refine Kd.C_drewN ?_ _) | (with_reducible refine Kd.C_drew ?_)))
        (case side2 => exact (Kd.R_reads' HO_741000.out).2.1)
        (case side3 => repeat (first | exact (Kd.R_reads' HO756.out).2.2 | (with_reducible refine Kd.C_alloc ?_ _) | (with_reducible refine Kd.C_drewN ?_ _) | (with_reducible refine Kd.C_drew ?_)))
        (case side4 => exact (Kd.R_reads' HO756.out).2.1)
        rintro e w141 ⟨rfl, hb⟩
        refine ⟨_, rfl, ?_⟩
        have n0_ := Aside0.mk (Kd.R_below HO_6.out hb)
        have n1_ := Aside0.mk (Kd.R_below HO_10.out hb)
        have n2_ := Aside0.mk (Kd.S_below HO_737001.out hb)
        have n3_ := Aside0.mk (Kd.R_below HO_737002.out hb)
        have n4_ := Aside0.mk (Kd.R_below HO_741000.out hb)
        have n5_ := Aside0.mk (Kd.S_below HO749.out hb)
        have n6_ := Aside0.mk (Kd.R_below HO752.out hb)
        have n7_ := Aside0.mk (Kd.R_below HO756.out hb)
        have n8_ := Aside0.mk (blk_below (g := gb711) (o := .cells #[.int .i64 a0_0, .slice A0_1 l0_1.length c0_1, .slice A0_2 l0_2.length c0_2] 25 (0, 0)) BK711.out hb)
        have n9_ := Aside0.mk (blk_below (g := gb712) (o := .cells #[.slice A1_0 l1_0.length c1_0] 45 (0, 0)) BK712.out hb)
        have n10_ := Aside0.mk (blk_below (g := gb736) (o := .cells #[.int .i64 t729, .slice Ao47 t730.length co47, .slice Ao48 t733.length co48] 28 (0, 0)) BK736.out hb)
        have n11_ := Aside0.mk (blk_below (g := gb740) (o := .cells #[.slice Ao52 t737.length co52] 49 (0, 0)) BK740.out hb)
        have n12_ := Aside0.mk (below_step (by repeat (first | (with_reducible first | exact HB.out | apply below_alloc | apply pw_below_drewN | apply below_drew1 | refine below_set ?_ GE711.out | refine below_set ?_ GE712.out | refine below_set ?_ GE736.out | refine below_set ?_ GE740.out) | exact HB.out)) hb)
        clear HO_6
        clear HO_10
        clear HO_737001
        clear HO_737002
        clear HO_741000
        clear HO749
        clear HO752
        clear HO756
        clear BK711
        clear BK712
        clear BK736
        clear BK740
        clear HB
        have HO_6 := n0_
        have HO_10 := n1_
        have HO_737001 := n2_
        have HO_737002 := n3_
        have HO_741000 := n4_
        have HO749 := n5_
        have HO752 := n6_
        have HO756 := n7_
        have BK711 := n8_
        have BK712 := n9_
        have BK736 := n10_
        have BK740 := n11_
        have HB := n12_
        clear n0_ n1_ n2_ n3_ n4_ n5_ n6_ n7_ n8_ n9_ n10_ n11_ n12_
        (try clear hb)
        (try clear hb2)
        (try clear hk)
        (try clear hi)
        refine hK.out _ _ ⟨(blk_cell BK740.out 0).trans rfl, (blk_cell BK712.out 0).trans rfl⟩ (fun hHeld => ?_)
        clear hK K
        refine norm_ (a' := ?_) ?_ ?_
        rotate_left
        ·show Act.put _ (some 62) _ = _
         simp only [Act.put, List.setIfInBounds_toArray, List.set_cons_zero, List.set_cons_succ, i64_w, i32_w]
         rfl
        refine pure_ (i := 4) (N := some 63) (v := ?_) (a' := ?_) #[true, true, true, true, true] rfl rfl (by kernel_rfl) (fun _ _ _ h => h) (Or.inl ⟨by rfl, ?_⟩) ?_ ?_
        rotate_left
        ·intro w'
         go_simp
         with_reducible rfl
        rotate_left
        ·simp only [Act.put, List.setIfInBounds_toArray, List.set_cons_zero, List.set_cons_succ, i64_w, i32_w]
         rfl
        refine done_ (by kernel_rfl) ?_
        try go_wp2
        go_ret
        exact ⟨by first | rfl | (simp [errW_none, errW_some] <;> rfl) | (simp [*, errW_none, errW_some] <;> rfl), by repeat (first | (with_reducible first | exact HB.out | apply below_alloc | apply pw_below_drewN | apply below_drew1 | refine below_set ?_ GE711.out | refine below_set ?_ GE712.out | refine below_set ?_ GE736.out | refine below_set ?_ GE740.out) | exact HB.out)⟩
      ·replace c68 := Bool.eq_false_iff.mpr c68
       subst c68
       have H1 : (some false) = some r := by rw [if_neg (show ¬ (false = true) by decide)] at H; exact H
       clear H
       have H := H1
       clear H1
       obtain rfl := Option.some.inj H
       try go_wp2
       have n0_ := Aside0.mk (Kd.R_drew HO_6.out)
       have n1_ := Aside0.mk (Kd.R_drew HO_10.out)
       have n2_ := Aside0.mk (Kd.S_drew HO_737001.out)
       have n3_ := Aside0.mk (Kd.R_drew HO_737002.out)
       have n4_ := Aside0.mk (Kd.R_drew HO_741000.out)
       have n5_ := Aside0.mk (blk_drew BK711.out)
       have n6_ := Aside0.mk (blk_drew BK712.out)
       have n7_ := Aside0.mk (blk_drew BK736.out)
       have n8_ := Aside0.mk (blk_drew BK740.out)
       have n9_ := Aside0.mk (below_drew1 HB.out)
       clear HO_6
       clear HO_10
       clear HO_737001
       clear HO_737002
       clear HO_741000
       clear BK711
       clear BK712
       clear BK736
       clear BK740
       clear HB
       have HO_6 := n0_
       have HO_10 := n1_
       have HO_737001 := n2_
       have HO_737002 := n3_
       have HO_741000 := n4_
       have BK711 := n5_
       have BK712 := n6_
       have BK736 := n7_
       have BK740 := n8_
       have HB := n9_
       clear n0_ n1_ n2_ n3_ n4_ n5_ n6_ n7_ n8_ n9_
       refine start_ (n := 5) (S := fun w' => w'.cell? ⟨gb736, 0, none⟩ = some (.int .i64 t729) ∧ w'.cell? ⟨gb736, 1, none⟩ = some (.slice Ao47 t730.length co47) ∧ w'.cell? ⟨gb736, 2, none⟩ = some (.slice Ao48 t733.length co48) ∧ w'.cell? ⟨gb711, 0, none⟩ = some (.int .i64 a0_0) ∧ w'.cell? ⟨gb711, 1, none⟩ = some (.slice A0_1 l0_1.length c0_1) ∧ w'.cell? ⟨gb711, 2, none⟩ = some (.slice A0_2 l0_2.length c0_2)) (ds := []) #[false, false, false, false, false] (by kernel_rfl) rfl rfl ⟨(blk_cell BK736.out 0).trans rfl, (blk_cell BK736.out 1).trans rfl, (blk_cell BK736.out 2).trans rfl, (blk_cell BK711.out 0).trans rfl, (blk_cell BK711.out 1).trans rfl, (blk_cell BK711.out 2).trans rfl⟩ (fun hHeld => ?_)
       generalize wc.drew = w142 at HO_6 HO_10 HO_737001 HO_737002 HO_741000 BK711 BK712 BK736 BK740 HB hHeld ⊢
       refine take_ (i := 0) (N := some 54) (v := ?_) (a' := ?_) #[true, false, false, false, false] rfl rfl (by kernel_rfl) (fun _ _ _ h => h) (Or.inl ⟨by rfl, ?_⟩) hHeld ?_ ?_
       rotate_left
       ·rintro w' ⟨s0, s1, s2, s3, s4, s5⟩
        go_simp
        with_reducible rfl
       rotate_left
       ·simp only [Act.put, List.setIfInBounds_toArray, List.set_cons_zero, List.set_cons_succ, i64_w, i32_w]
        rfl
       refine take_ (i := 1) (N := some 55) (v := ?_) (a' := ?_) #[true, true, false, false, false] rfl rfl (by kernel_rfl) (fun _ _ _ h => h) (Or.inl ⟨by rfl, ?_⟩) hHeld ?_ ?_
       rotate_left
       ·rintro w' ⟨s0, s1, s2, s3, s4, s5⟩
        go_simp
        with_reducible rfl
       rotate_left
       ·simp only [Act.put, List.setIfInBounds_toArray, List.set_cons_zero, List.set_cons_succ, i64_w, i32_w]
        rfl
       refine one_ (i := 2) (N := some 56) #[true, true, true, false, false] rfl rfl (by kernel_rfl) (by decide) (fun K hK => ?_)
       refine goes_ Try.func12 (by kernel_rfl) rfl #[.agg #[.int .i64 a0_0, .slice A0_1 l0_1.length c0_1, .slice A0_2 l0_2.length c0_2]] (by rfl) rfl rfl (by (try simp only [List.map_toArray, List.map_cons, List.map_nil]); first | done | rfl) ?_
       with_reducible refine (laws_toAutomaton.calls kj24 a0_0 _ _ l0_1 _ _ l0_2 t746 t747 t750 _ ?side1 ?side2 ?side3 ?side4 A66.out).mono ?_
       (case side1 => repeat (first | exact (Kd.C_below HR0_1.out HB.out) | (with_reducible refine Kd.C_alloc ?_ _) | (with_reducible refine Kd.C_drewN ?_ _) | (with_reducible refine Kd.C_drew ?_)))
       (case side2 => exact HC0_1.out)
       (case side3 => repeat (first | exact (Kd.C_below HR0_2.out HB.out) | (with_reducible refine Kd.C_alloc ?_ _) | (with_reducible refine Kd.C_drewN ?_ _) | (with_reducible refine Kd.C_drew ?_)))
       (case side4 => exact HC0_2.out)
       rintro e w143 ⟨v748, v751, rfl, ho0, ho1, hb⟩
       refine ⟨_, rfl, ?_⟩
       have n0_ := Aside0.mk (Kd.R_elder' HO_6.out (Kd.R_base ho1) hb)
       have n1_ := Aside0.mk (Kd.R_elder' HO_10.out (Kd.R_base ho1) hb)
       have n2_ := Aside0.mk (Kd.S_mono (Kd.S_told (Kd.S_told (Kd.S_old HO_737001.out hb) (Kd.S_base ho0)) (Kd.R_base ho1)) (fun _ h_ => h_.1))
       have n3_ := Aside0.mk (Kd.R_elder' HO_737002.out (Kd.R_base ho1) hb)
       have n4_ := Aside0.mk (Kd.R_elder' HO_741000.out (Kd.R_base ho1) hb)
       have n5_ := Aside0.mk (Kd.S_lower (Kd.S_new' (Kd.S_new' (Kd.S_new' (Kd.S_new' (Kd.S_new' ho0 (Kd.R_lt HO_6.out)) (Kd.R_lt HO_10.out)) (Kd.S_lt HO_737001.out)) (Kd.R_lt HO_737002.out)) (Kd.R_lt HO_741000.out)) (below_size (by repeat (first | (with_reducible first | exact HB.out | apply below_alloc | apply pw_below_drewN | apply below_drew1 | refine below_set ?_ GE711.out | refine below_set ?_ GE712.out | refine below_set ?_ GE736.out | refine below_set ?_ GE740.out) | exact HB.out))))
       have n6_ := Aside0.mk (Kd.R_lower (Kd.R_new' (Kd.R_new' (Kd.R_new' (Kd.R_new' ho1 (Kd.R_lt HO_6.out)) (Kd.R_lt HO_10.out)) (Kd.R_lt HO_737002.out)) (Kd.R_lt HO_741000.out)) (below_size (by repeat (first | (with_reducible first | exact HB.out | apply below_alloc | apply pw_below_drewN | apply below_drew1 | refine below_set ?_ GE711.out | refine below_set ?_ GE712.out | refine below_set ?_ GE736.out | refine below_set ?_ GE740.out) | exact HB.out))))
       have n7_ := Aside0.mk (blk_below (g := gb711) (o := .cells #[.int .i64 a0_0, .slice A0_1 l0_1.length c0_1, .slice A0_2 l0_2.length c0_2] 25 (0, 0)) BK711.out hb)
       have n8_ := Aside0.mk (blk_below (g := gb712) (o := .cells #[.slice A1_0 l1_0.length c1_0] 45 (0, 0)) BK712.out hb)
       have n9_ := Aside0.mk (blk_below (g := gb736) (o := .cells #[.int .i64 t729, .slice Ao47 t730.length co47, .slice Ao48 t733.length co48] 28 (0, 0)) BK736.out hb)
       have n10_ := Aside0.mk (blk_below (g := gb740) (o := .cells #[.slice Ao52 t737.length co52] 49 (0, 0)) BK740.out hb)
       have n11_ := Aside0.mk (below_step (by repeat (first | (with_reducible first | exact HB.out | apply below_alloc | apply pw_below_drewN | apply below_drew1 | refine below_set ?_ GE711.out | refine below_set ?_ GE712.out | refine below_set ?_ GE736.out | refine below_set ?_ GE740.out) | exact HB.out)) hb)
       clear HO_6
       clear HO_10
       clear HO_737001
       clear HO_737002
       clear HO_741000
       clear BK711
       clear BK712
       clear BK736
       clear BK740
       clear HB
       have HO_6 := n0_
       have HO_10 := n1_
       have HO_737001 := n2_
       have HO_737002 := n3_
       have HO_741000 := n4_
       have HO749 := n5_
       have HO752 := n6_
       have BK711 := n7_
       have BK712 := n8_
       have BK736 := n9_
       have BK740 := n10_
       have HB := n11_
       clear n0_ n1_ n2_ n3_ n4_ n5_ n6_ n7_ n8_ n9_ n10_ n11_
       (try clear hb)
       (try clear hb2)
       (try clear hk)
       (try clear hi)
       (try clear ho0)
       (try clear ho1)
       obtain ⟨Ao144, co144, eo144⟩ := Kd.S_slice HO749.out
       (first | subst eo144 | (injection eo144 with f1_ f2_ f3_; have f4_ := f1_.symm; have f5_ := f3_.symm; clear f1_ f2_ f3_; subst f4_; subst f5_))
       obtain ⟨Ao145, co145, eo145⟩ := Kd.R_slice HO752.out
       (first | subst eo145 | (injection eo145 with f1_ f2_ f3_; have f4_ := f1_.symm; have f5_ := f3_.symm; clear f1_ f2_ f3_; subst f4_; subst f5_))
       refine hK.out _ _ ⟨(blk_cell BK736.out 0).trans rfl, (blk_cell BK736.out 1).trans rfl, (blk_cell BK736.out 2).trans rfl, (blk_cell BK711.out 0).trans rfl, (blk_cell BK711.out 1).trans rfl, (blk_cell BK711.out 2).trans rfl⟩ (fun hHeld => ?_)
       clear hK K
       refine norm_ (a' := ?_) ?_ ?_
       rotate_left
       ·show Act.put _ (some 56) _ = _
        simp only [Act.put, List.setIfInBounds_toArray, List.set_cons_zero, List.set_cons_succ, i64_w, i32_w]
        rfl
       refine one_ (i := 3) (N := some 57) #[true, true, true, true, false] rfl rfl (by kernel_rfl) (by decide) (fun K hK => ?_)
       refine goes_ Try.func14 (by kernel_rfl) rfl #[.agg #[.int .i64 t729, .slice Ao47 t730.length co47, .slice Ao48 t733.length co48], .agg #[.int .i64 t746, .slice Ao144 t747.length co144, .slice Ao145 t750.length co145]] (by rfl) rfl rfl (by (try simp only [List.map_toArray, List.map_cons, List.map_nil]); first | done | rfl) ?_
       with_reducible refine (laws_eqAutomaton.calls kj24 t729 _ _ t730 _ _ t733 t746 _ _ t747 _ _ t750 false _ ?side1 ?side2 ?side3 ?side4 ?side5 ?side6 ?side7 ?side8 A67.out).mono ?_
       (case side1 => repeat (first | exact (Kd.S_reads' HO_737001.out).2.2 | (with_reducible refine Kd.C_alloc ?_ _) | (with_reducible refine Kd.C_drewN ?_ _) | (with_reducible refine Kd.C_drew ?_)))
       (case side2 => exact (Kd.S_reads' HO_737001.out).2.1)
       (case side3 => repeat (first | exact (Kd.R_reads' HO_737002.out).2.2 | (with_reducible refine Kd.C_alloc ?_ _) | (with_reducible refine Kd.C_drewN ?_ _) | (with_reducible refine Kd.C_drew ?_)))
       (case side4 => exact (Kd.R_reads' HO_737002.out).2.1)
       (case side5 => repeat (first | exact (Kd.S_reads' HO749.out).2.2 | (with_reducible refine Kd.C_alloc ?_ _) | (with_reducible refine Kd.C_drewN ?_ _) | (with_reducible refine Kd.C_drew ?_)))
       (case side6 => exact (Kd.S_reads' HO749.out).2.1)
       (case side7 => repeat (first | exact (Kd.R_reads' HO752.out).2.2 | (with_reducible refine Kd.C_alloc ?_ _) | (with_reducible refine Kd.C_drewN ?_ _) | (with_reducible refine Kd.C_drew ?_)))
       (case side8 => exact (Kd.R_reads' HO752.out).2.1)
       rintro e w146 ⟨rfl, hb⟩
       refine ⟨_, rfl, ?_⟩
       have n0_ := Aside0.mk (Kd.R_below HO_6.out hb)
       have n1_ := Aside0.mk (Kd.R_below HO_10.out hb)
       have n2_ := Aside0.mk (Kd.S_below HO_737001.out hb)
       have n3_ := Aside0.mk (Kd.R_below HO_737002.out hb)
       have n4_ := Aside0.mk (Kd.R_below HO_741000.out hb)
       have n5_ := Aside0.mk (Kd.S_below HO749.out hb)
       have n6_ := Aside0.mk (Kd.R_below HO752.out hb)
       have n7_ := Aside0.mk (blk_below (g := gb711) (o := .cells #[.int .i64 a0_0, .slice A0_1 l0_1.length c0_1, .slice A0_2 l0_2.length c0_2] 25 (0, 0)) BK711.out hb)
       have n8_ := Aside0.mk (blk_below (g := gb712) (o := .cells #[.slice A1_0 l1_0.length c1_0] 45 (0, 0)) BK712.out hb)
       have n9_ := Aside0.mk (blk_below (g := gb736) (o := .cells #[.int .i64 t729, .slice Ao47 t730.length co47, .slice Ao48 t733.length co48] 28 (0, 0)) BK736.out hb)
       have n10_ := Aside0.mk (blk_below (g := gb740) (o := .cells #[.slice Ao52 t737.length co52] 49 (0, 0)) BK740.out hb)
       have n11_ := Aside0.mk (below_step (by repeat (first | (with_reducible first | exact HB.out | apply below_alloc | apply pw_below_drewN | apply below_drew1 | refine below_set ?_ GE711.out | refine below_set ?_ GE712.out | refine below_set ?_ GE736.out | refine below_set ?_ GE740.out) | exact HB.out)) hb)
       clear HO_6
       clear HO_10
       clear HO_737001
       clear HO_737002
       clear HO_741000
       clear HO749
       clear HO752
       clear BK711
       clear BK712
       clear BK736
       clear BK740
       clear HB
       have HO_6 := n0_
       have HO_10 := n1_
       have HO_737001 := n2_
       have HO_737002 := n3_
       have HO_741000 := n4_
       have HO749 := n5_
       have HO752 := n6_
       have BK711 := n7_
       have BK712 := n8_
       have BK736 := n9_
       have BK740 := n10_
       have HB := n11_
       clear n0_ n1_ n2_ n3_ n4_ n5_ n6_ n7_ n8_ n9_ n10_ n11_
       (try clear hb)
       (try clear hb2)
       (try clear hk)
       (try clear hi)
       refine hK.out _ _ ⟨(blk_cell BK736.out 0).trans rfl, (blk_cell BK736.out 1).trans rfl, (blk_cell BK736.out 2).trans rfl, (blk_cell BK711.out 0).trans rfl, (blk_cell BK711.out 1).trans rfl, (blk_cell BK711.out 2).trans rfl⟩ (fun hHeld => ?_)
       clear hK K
       refine norm_ (a' := ?_) ?_ ?_
       rotate_left
       ·show Act.put _ (some 57) _ = _
        simp only [Act.put, List.setIfInBounds_toArray, List.set_cons_zero, List.set_cons_succ, i64_w, i32_w]
        rfl
       refine pure_ (i := 4) (N := some 58) (v := ?_) (a' := ?_) #[true, true, true, true, true] rfl rfl (by kernel_rfl) (fun _ _ _ h => h) (Or.inl ⟨by rfl, ?_⟩) ?_ ?_
       rotate_left
       ·intro w'
        go_simp
        with_reducible rfl
       rotate_left
       ·simp only [Act.put, List.setIfInBounds_toArray, List.set_cons_zero, List.set_cons_succ, i64_w, i32_w]
        rfl
       refine done_ (by kernel_rfl) ?_
       try go_wp2
       go_ret
       exact ⟨by first | rfl | (simp [errW_none, errW_some] <;> rfl) | (simp [*, errW_none, errW_some] <;> rfl), by repeat (first | (with_reducible first | exact HB.out | apply below_alloc | apply pw_below_drewN | apply below_drew1 | refine below_set ?_ GE711.out | refine below_set ?_ GE712.out | refine below_set ?_ GE736.out | refine below_set ?_ GE740.out) | exact HB.out)⟩

end Go.Proofs.Ytmahokdlfmehjaa.E
