/- The row of the law FnExactFirstOfState, out of its pure statement. -/
import Derived.Test.YtmnpdkhkgddojaaQFSEx0
import Derived.Test.YtmnpdkhkgddojaaQFSEx1
import Derived.Test.YtmnpdkhkgddojaaQFSEx4
import Derived.Test.YtmnpdkhkgddojaaQFSEx7
-- Written by wip/ext.py of this claim (contracts by the form of the kit's print; hand-written ones among them).
namespace Go.Proofs.Ytmnpdkhkgddojaa.E
open Go.RowKit Go.Proofs.YtmnpdkhkgddojaaW.PrintWords Go.Proofs.YtmnpdkhkgddojaaW.PrintLast Go.Proofs.YtmnpdkhkgddojaaW.PrintMore
attribute [local go_sem] max2_int min2_int max_two min_two max_three min_three max_four min_four   -- for this text's walks alone
set_option linter.unusedVariables false
set_option linter.unusedSimpArgs false

mutual
def laws_FnExactFirstOfState.j0 : Nat → Int → Int → Int → Bool → Int → List (List Int) → List Int → List Int → Int → List (List Int) → List Int → List Int → Option (Bool)
  | 0, _, _, _, _, _, _, _, _, _, _, _, _ => none
  | k + 1, x1, x7, x10, x44, x425000, x425001, x425002, x438000, x446000, x446001, x446002, x451000 => if x44 = true then (some false) else ((laws_toAutomaton.f k x425000 x425001 x425002).bind fun bt452 => ((laws_eqAutomaton.f k x446000 x446001 x446002 bt452.1 bt452.2.1 bt452.2.2).bind fun t459 => (if t459 = true then ((laws_markAutomaton.f k x446000 x446001 x446002 1).bind fun bt460 => (if bt460.1 < 0 then (laws_FnExactFirstOfState.j1 k x1 x7 true x425000 x425001 x425002 x438000 x451000) else ((laws_eqTree.f k x451000 x438000).bind fun t463 => (if t463 = true then (laws_FnExactFirstOfState.j1 k x1 x7 (x10 != x7) x425000 x425001 x425002 x438000 x451000) else (laws_FnExactFirstOfState.j1 k x1 x7 true x425000 x425001 x425002 x438000 x451000))))) else (some false))))
def laws_FnExactFirstOfState.j1 : Nat → Int → Int → Bool → Int → List (List Int) → List Int → List Int → List Int → Option (Bool)
  | 0, _, _, _, _, _, _, _, _ => none
  | k + 1, x1, x7, x65, x425000, x425001, x425002, x438000, x451000 => if x65 = true then (some false) else ((laws_markTree.f k x451000 1).bind fun bt464 => ((laws_heldTree.f k bt464.2 1).bind fun t466 => (if t466 < 0 then (some false) else (if t466 = bt464.1 then ((laws_toAutomaton.f k x425000 x425001 x425002).bind fun bt467 => ((impl_FirstOfState.f k bt467.1 bt467.2.1 bt467.2.2 x1).bind fun bt474 => ((laws_eqTree.f k bt474.1 x438000).bind fun t479 => (if t479 = true then (laws_FnExactFirstOfState.j2 k bt464.1 (bt474.2 != x7) bt464.2) else (laws_FnExactFirstOfState.j2 k bt464.1 true bt464.2))))) else (some false)))))
def laws_FnExactFirstOfState.j2 : Nat → Int → Bool → List Int → Option (Bool)
  | 0, _, _, _ => none
  | k + 1, x12, x92, x451000 => if x92 = true then (some false) else ((laws_heldTree.f k x451000 1).bind fun t480 => (if t480 < 0 then (some false) else (if t480 = x12 then (some true) else (some false))))
end
def laws_FnExactFirstOfState.f (k : Nat) (a0_0 : Int) (l0_1 : List (List Int)) (l0_2 : List Int) (a1 : Int) : Option (Bool) := (laws_szAutomaton.f k a0_0 l0_1 l0_2 1048576).bind fun t425 => (if t425 < 0 then (some true) else ((laws_toAutomaton.f k a0_0 l0_1 l0_2).bind fun bt426 => ((spec_FirstOfState.f k bt426.1 bt426.2.1 bt426.2.2 a1).bind fun bt433 => ((laws_toAutomaton.f k a0_0 l0_1 l0_2).bind fun bt438 => ((impl_FirstOfState.f k bt438.1 bt438.2.1 bt438.2.2 a1).bind fun bt446 => ((laws_eqTree.f k bt446.1 bt433.1).bind fun t451 => (if t451 = true then (laws_FnExactFirstOfState.j0 k a1 bt433.2 bt446.2 (bt446.2 != bt433.2) a0_0 l0_1 l0_2 bt433.1 bt438.1 bt438.2.1 bt438.2.2 bt446.1) else (laws_FnExactFirstOfState.j0 k a1 bt433.2 bt446.2 true a0_0 l0_1 l0_2 bt433.1 bt438.1 bt438.2.1 bt438.2.2 bt446.1))))))))
set_option maxHeartbeats 8000000 in
set_option maxRecDepth 100000 in
theorem laws_FnExactFirstOfState.calls (k : Nat) (a0_0 : Int) (A0_1 : Option Addr) (c0_1 : Nat) (l0_1 : List (List Int)) (A0_2 : Option Addr) (c0_2 : Nat) (l0_2 : List Int) (a1 : Int) (r : Bool) (w : World) (hr0_1 : Kd.C (Kd.slice 2 (Kd.int .i64)) w A0_1 l0_1.length l0_1) (hc0_1 : l0_1.length ≤ c0_1) (hr0_2 : Kd.C (Kd.int .i64) w A0_2 l0_2.length l0_2) (hc0_2 : l0_2.length ≤ c0_2) (h : laws_FnExactFirstOfState.f k a0_0 l0_1 l0_2 a1 = some r) :
    Calls Try.prog 6 #[.agg #[.int .i64 a0_0, .slice A0_1 l0_1.length c0_1, .slice A0_2 l0_2.length c0_2], .int .i64 a1] w fun e w' => e = .returned (.bool r) ∧ Below w.heap.size w w' := by
  have hu25 := Try.underlying25
  have hu38 := Try.underlying38
  have hu29 := Try.underlying29
  have HR0_1 := Aside0.mk hr0_1
  have HC0_1 := Aside0.mk hc0_1
  clear hr0_1 hc0_1
  have HR0_2 := Aside0.mk hr0_2
  have HC0_2 := Aside0.mk hc0_2
  clear hr0_2 hc0_2
  have HB := Aside0.mk (Below.refl w.heap.size w)
  have H : ((laws_szAutomaton.f k a0_0 l0_1 l0_2 1048576).bind fun t425 => (if t425 < 0 then (some true) else ((laws_toAutomaton.f k a0_0 l0_1 l0_2).bind fun bt426 => ((spec_FirstOfState.f k bt426.1 bt426.2.1 bt426.2.2 a1).bind fun bt433 => ((laws_toAutomaton.f k a0_0 l0_1 l0_2).bind fun bt438 => ((impl_FirstOfState.f k bt438.1 bt438.2.1 bt438.2.2 a1).bind fun bt446 => ((laws_eqTree.f k bt446.1 bt433.1).bind fun t451 => (if t451 = true then (laws_FnExactFirstOfState.j0 k a1 bt433.2 bt446.2 (bt446.2 != bt433.2) a0_0 l0_1 l0_2 bt433.1 bt438.1 bt438.2.1 bt438.2.2 bt446.1) else (laws_FnExactFirstOfState.j0 k a1 bt433.2 bt446.2 true a0_0 l0_1 l0_2 bt433.1 bt438.1 bt438.2.1 bt438.2.2 bt446.1))))))))) = some r := h
  clear h
  replace H := Option.bind_eq_some_iff.mp H
  obtain ⟨t425, A30, H⟩ := H
  replace H : (if t425 < 0 then (some true) else ((laws_toAutomaton.f k a0_0 l0_1 l0_2).bind fun bt426 => ((spec_FirstOfState.f k bt426.1 bt426.2.1 bt426.2.2 a1).bind fun bt433 => ((laws_toAutomaton.f k a0_0 l0_1 l0_2).bind fun bt438 => ((impl_FirstOfState.f k bt438.1 bt438.2.1 bt438.2.2 a1).bind fun bt446 => ((laws_eqTree.f k bt446.1 bt433.1).bind fun t451 => (if t451 = true then (laws_FnExactFirstOfState.j0 k a1 bt433.2 bt446.2 (bt446.2 != bt433.2) a0_0 l0_1 l0_2 bt433.1 bt438.1 bt438.2.1 bt438.2.2 bt446.1) else (laws_FnExactFirstOfState.j0 k a1 bt433.2 bt446.2 true a0_0 l0_1 l0_2 bt433.1 bt438.1 bt438.2.1 bt438.2.2 bt446.1)))))))) = some r := H
  have A3 := Aside0.mk A30
  clear A30
  by_cases c4 : t425 < 0
  · rw [if_pos c4] at H
    have c4b0 : decide (t425 < 0) = true := decide_eq_true c4
    clear c4
    obtain rfl := Option.some.inj H
    go_enter Try.func6, Try.ntmps6
    go_wp2_with (first | ((with_reducible refine gate_dst (N := 2) rfl ?_); refine box_event ?hg (N := 2) ?hd (cs := #[.int .i64 a0_0, .slice A0_1 l0_1.length c0_1, .slice A0_2 l0_2.length c0_2]) (t := 25) ?hr ?_; (case hd => rfl); (case hg => rfl); (case hr => first | (go_simp; done) | (go_simp; rfl)); intro gb424 hg w5 hbox hb; have n0_ := Aside0.mk (below_step (by repeat (first | (with_reducible first | exact HB.out | apply below_alloc | apply pw_below_drewN | apply below_drew1) | exact HB.out)) hb); have n1_ := Aside0.mk (hbox); have n2_ := Aside0.mk ((by rw [hg]; exact (below_size (by repeat (first | (with_reducible first | exact HB.out | apply below_alloc | apply pw_below_drewN | apply below_drew1) | exact HB.out))) : w.heap.size ≤ gb424)); have n3_ := Aside0.mk ((by rw [hg]; exact (below_size (by repeat (first | (with_reducible first | exact HB.out | apply below_alloc | apply pw_below_drewN | apply below_drew1) | exact HB.out))) : w.heap.size ≤ gb424)); clear HB; have HB := n0_; have BK424 := n1_; have GW424 := n2_; have GE424 := n3_; clear n0_ n1_ n2_ n3_; clear hb hbox hg; have hcz6_0 : w5.cell? ⟨gb424, 0, none⟩ = some (.int .i64 a0_0) := (blk_cell BK424.out 0).trans rfl; have hcz6_1 : w5.cell? ⟨gb424, 1, none⟩ = some (.slice A0_1 l0_1.length c0_1) := (blk_cell BK424.out 1).trans rfl; have hcz6_2 : w5.cell? ⟨gb424, 2, none⟩ = some (.slice A0_2 l0_2.length c0_2) := (blk_cell BK424.out 2).trans rfl; have hfz6_0 := blk_frozen BK424.out 0; have hfz6_1 := blk_frozen BK424.out 1; have hfz6_2 := blk_frozen BK424.out 2) | ((with_reducible refine gate_callee (f := 8) rfl ?_); refine goesL_ (some 18) rfl rfl Try.func8 (by kernel_rfl) rfl #[.agg #[.int .i64 a0_0, .slice A0_1 l0_1.length c0_1, .slice A0_2 l0_2.length c0_2], .int .i64 1048576] rfl (by (try simp only [List.map_toArray, List.map_cons, List.map_nil]); first | done | rfl | (simp only [List.length_drop, List.length_take]; rfl)) ?_; (with_reducible refine (laws_szAutomaton.calls k a0_0 _ _ l0_1 _ _ l0_2 1048576 t425 _ ?side1 ?side2 ?side3 ?side4 A3.out).mono ?_); (case side1 => repeat (first | exact (Kd.C_below HR0_1.out HB.out) | (with_reducible refine Kd.C_alloc ?_ _) | (with_reducible refine Kd.C_drewN ?_ _) | (with_reducible refine Kd.C_drew ?_))); (case side2 => exact HC0_1.out); (case side3 => repeat (first | exact (Kd.C_below HR0_2.out HB.out) | (with_reducible refine Kd.C_alloc ?_ _) | (with_reducible refine Kd.C_drewN ?_ _) | (with_reducible refine Kd.C_drew ?_))); (case side4 => exact HC0_2.out); rintro e w7 ⟨rfl, hb⟩; refine ⟨_, rfl, ?_⟩; have n0_ := Aside0.mk (blk_below (g := gb424) (o := .cells #[.int .i64 a0_0, .slice A0_1 l0_1.length c0_1, .slice A0_2 l0_2.length c0_2] 25 (0, 0)) (by (with_reducible repeat (first | refine blk_drewN ?_ _ | refine blk_drew ?_ | refine blk_alloc ?_ _)); exact BK424.out) hb); have n1_ := Aside0.mk (below_step (by repeat (first | (with_reducible first | exact HB.out | apply below_alloc | apply pw_below_drewN | apply below_drew1 | refine below_set ?_ GE424.out) | exact HB.out)) hb); clear BK424; clear HB; have BK424 := n0_; have HB := n1_; clear n0_ n1_; (try clear hb); (try clear hb2); (try clear hk); (try clear hi)))
    go_ret
    exact ⟨by first | rfl | (simp [errW_none, errW_some] <;> rfl) | (simp [*, errW_none, errW_some] <;> rfl), by repeat (first | (with_reducible first | exact HB.out | apply below_alloc | apply pw_below_drewN | apply below_drew1 | refine below_set ?_ GE424.out) | exact HB.out)⟩
  · rw [if_neg c4] at H
    have c4b0 : decide (t425 < 0) = false := decide_eq_false c4
    clear c4
    replace H := Option.bind_eq_some_iff.mp H
    obtain ⟨⟨t426, t427, t430⟩, A80, H⟩ := H
    replace H : ((spec_FirstOfState.f k t426 t427 t430 a1).bind fun bt433 => ((laws_toAutomaton.f k a0_0 l0_1 l0_2).bind fun bt438 => ((impl_FirstOfState.f k bt438.1 bt438.2.1 bt438.2.2 a1).bind fun bt446 => ((laws_eqTree.f k bt446.1 bt433.1).bind fun t451 => (if t451 = true then (laws_FnExactFirstOfState.j0 k a1 bt433.2 bt446.2 (bt446.2 != bt433.2) a0_0 l0_1 l0_2 bt433.1 bt438.1 bt438.2.1 bt438.2.2 bt446.1) else (laws_FnExactFirstOfState.j0 k a1 bt433.2 bt446.2 true a0_0 l0_1 l0_2 bt433.1 bt438.1 bt438.2.1 bt438.2.2 bt446.1)))))) = some r := H
    have A8 := Aside0.mk A80
    clear A80
    replace H := Option.bind_eq_some_iff.mp H
    obtain ⟨⟨t433, t436⟩, A90, H⟩ := H
    replace H : ((laws_toAutomaton.f k a0_0 l0_1 l0_2).bind fun bt438 => ((impl_FirstOfState.f k bt438.1 bt438.2.1 bt438.2.2 a1).bind fun bt446 => ((laws_eqTree.f k bt446.1 t433).bind fun t451 => (if t451 = true then (laws_FnExactFirstOfState.j0 k a1 t436 bt446.2 (bt446.2 != t436) a0_0 l0_1 l0_2 t433 bt438.1 bt438.2.1 bt438.2.2 bt446.1) else (laws_FnExactFirstOfState.j0 k a1 t436 bt446.2 true a0_0 l0_1 l0_2 t433 bt438.1 bt438.2.1 bt438.2.2 bt446.1))))) = some r := H
    have A9 := Aside0.mk A90
    clear A90
    replace H := Option.bind_eq_some_iff.mp H
    obtain ⟨⟨t438, t439, t442⟩, A100, H⟩ := H
    replace H : ((impl_FirstOfState.f k t438 t439 t442 a1).bind fun bt446 => ((laws_eqTree.f k bt446.1 t433).bind fun t451 => (if t451 = true then (laws_FnExactFirstOfState.j0 k a1 t436 bt446.2 (bt446.2 != t436) a0_0 l0_1 l0_2 t433 t438 t439 t442 bt446.1) else (laws_FnExactFirstOfState.j0 k a1 t436 bt446.2 true a0_0 l0_1 l0_2 t433 t438 t439 t442 bt446.1)))) = some r := H
    have A10 := Aside0.mk A100
    clear A100
    replace H := Option.bind_eq_some_iff.mp H
    obtain ⟨⟨t446, t449⟩, A110, H⟩ := H
    replace H : ((laws_eqTree.f k t446 t433).bind fun t451 => (if t451 = true then (laws_FnExactFirstOfState.j0 k a1 t436 t449 (t449 != t436) a0_0 l0_1 l0_2 t433 t438 t439 t442 t446) else (laws_FnExactFirstOfState.j0 k a1 t436 t449 true a0_0 l0_1 l0_2 t433 t438 t439 t442 t446))) = some r := H
    have A11 := Aside0.mk A110
    clear A110
    have HC12 := Aside0.mk H
    clear H
    go_enter Try.func6, Try.ntmps6
    go_upto_region 8 with (first | ((with_reducible refine gate_dst (N := 2) rfl ?_); refine box_event ?hg (N := 2) ?hd (cs := #[.int .i64 a0_0, .slice A0_1 l0_1.length c0_1, .slice A0_2 l0_2.length c0_2]) (t := 25) ?hr ?_; (case hd => rfl); (case hg => rfl); (case hr => first | (go_simp; done) | (go_simp; rfl)); intro gb424 hg w13 hbox hb; have n0_ := Aside0.mk (below_step (by repeat (first | (with_reducible first | exact HB.out | apply below_alloc | apply pw_below_drewN | apply below_drew1) | exact HB.out)) hb); have n1_ := Aside0.mk (hbox); have n2_ := Aside0.mk ((by rw [hg]; exact (below_size (by repeat (first | (with_reducible first | exact HB.out | apply below_alloc | apply pw_below_drewN | apply below_drew1) | exact HB.out))) : w.heap.size ≤ gb424)); have n3_ := Aside0.mk ((by rw [hg]; exact (below_size (by repeat (first | (with_reducible first | exact HB.out | apply below_alloc | apply pw_below_drewN | apply below_drew1) | exact HB.out))) : w.heap.size ≤ gb424)); clear HB; have HB := n0_; have BK424 := n1_; have GW424 := n2_; have GE424 := n3_; clear n0_ n1_ n2_ n3_; clear hb hbox hg; have hcz14_0 : w13.cell? ⟨gb424, 0, none⟩ = some (.int .i64 a0_0) := (blk_cell BK424.out 0).trans rfl; have hcz14_1 : w13.cell? ⟨gb424, 1, none⟩ = some (.slice A0_1 l0_1.length c0_1) := (blk_cell BK424.out 1).trans rfl; have hcz14_2 : w13.cell? ⟨gb424, 2, none⟩ = some (.slice A0_2 l0_2.length c0_2) := (blk_cell BK424.out 2).trans rfl; have hfz14_0 := blk_frozen BK424.out 0; have hfz14_1 := blk_frozen BK424.out 1; have hfz14_2 := blk_frozen BK424.out 2) | ((with_reducible refine gate_callee (f := 8) rfl ?_); refine goesL_ (some 18) rfl rfl Try.func8 (by kernel_rfl) rfl #[.agg #[.int .i64 a0_0, .slice A0_1 l0_1.length c0_1, .slice A0_2 l0_2.length c0_2], .int .i64 1048576] rfl (by (try simp only [List.map_toArray, List.map_cons, List.map_nil]); first | done | rfl | (simp only [List.length_drop, List.length_take]; rfl)) ?_; (with_reducible refine (laws_szAutomaton.calls k a0_0 _ _ l0_1 _ _ l0_2 1048576 t425 _ ?side1 ?side2 ?side3 ?side4 A3.out).mono ?_); (case side1 => repeat (first | exact (Kd.C_below HR0_1.out HB.out) | (with_reducible refine Kd.C_alloc ?_ _) | (with_reducible refine Kd.C_drewN ?_ _) | (with_reducible refine Kd.C_drew ?_))); (case side2 => exact HC0_1.out); (case side3 => repeat (first | exact (Kd.C_below HR0_2.out HB.out) | (with_reducible refine Kd.C_alloc ?_ _) | (with_reducible refine Kd.C_drewN ?_ _) | (with_reducible refine Kd.C_drew ?_))); (case side4 => exact HC0_2.out); rintro e w15 ⟨rfl, hb⟩; refine ⟨_, rfl, ?_⟩; have n0_ := Aside0.mk (blk_below (g := gb424) (o := .cells #[.int .i64 a0_0, .slice A0_1 l0_1.length c0_1, .slice A0_2 l0_2.length c0_2] 25 (0, 0)) (by (with_reducible repeat (first | refine blk_drewN ?_ _ | refine blk_drew ?_ | refine blk_alloc ?_ _)); exact BK424.out) hb); have n1_ := Aside0.mk (below_step (by repeat (first | (with_reducible first | exact HB.out | apply below_alloc | apply pw_below_drewN | apply below_drew1 | refine below_set ?_ GE424.out) | exact HB.out)) hb); clear BK424; clear HB; have BK424 := n0_; have HB := n1_; clear n0_ n1_; (try clear hb); (try clear hb2); (try clear hk); (try clear hi); have hcz16_0 : w15.cell? ⟨gb424, 0, none⟩ = some (.int .i64 a0_0) := (blk_cell BK424.out 0).trans rfl; have hcz16_1 : w15.cell? ⟨gb424, 1, none⟩ = some (.slice A0_1 l0_1.length c0_1) := (blk_cell BK424.out 1).trans rfl; have hcz16_2 : w15.cell? ⟨gb424, 2, none⟩ = some (.slice A0_2 l0_2.length c0_2) := (blk_cell BK424.out 2).trans rfl; have hfz16_0 := blk_frozen BK424.out 0; have hfz16_1 := blk_frozen BK424.out 1; have hfz16_2 := blk_frozen BK424.out 2) | ((with_reducible refine gate_callee (f := 10) rfl ?_); refine goesL_ (some 23) rfl rfl Try.func10 (by kernel_rfl) rfl #[.agg #[.int .i64 a0_0, .slice A0_1 l0_1.length c0_1, .slice A0_2 l0_2.length c0_2]] rfl (by (try simp only [List.map_toArray, List.map_cons, List.map_nil]); first | done | rfl | (simp only [List.length_drop, List.length_take]; rfl)) ?_; (with_reducible refine (laws_toAutomaton.calls k a0_0 _ _ l0_1 _ _ l0_2 t426 t427 t430 _ ?side1 ?side2 ?side3 ?side4 A8.out).mono ?_); (case side1 => repeat (first | exact (Kd.C_below HR0_1.out HB.out) | (with_reducible refine Kd.C_alloc ?_ _) | (with_reducible refine Kd.C_drewN ?_ _) | (with_reducible refine Kd.C_drew ?_))); (case side2 => exact HC0_1.out); (case side3 => repeat (first | exact (Kd.C_below HR0_2.out HB.out) | (with_reducible refine Kd.C_alloc ?_ _) | (with_reducible refine Kd.C_drewN ?_ _) | (with_reducible refine Kd.C_drew ?_))); (case side4 => exact HC0_2.out); rintro e w17 ⟨v428, v431, rfl, ho0, ho1, hb⟩; refine ⟨_, rfl, ?_⟩; obtain ⟨N18, hN18⟩ := nat_of_below hb; have n0_ := Aside0.mk (Kd.S_lower (S_geN hN18 ho0) (below_size (by repeat (first | (with_reducible first | exact HB.out | apply below_alloc | apply pw_below_drewN | apply below_drew1 | refine below_set ?_ GE424.out) | exact HB.out)))); have n1_ := Aside0.mk (Kd.R_lower ho1 (below_size (by repeat (first | (with_reducible first | exact HB.out | apply below_alloc | apply pw_below_drewN | apply below_drew1 | refine below_set ?_ GE424.out) | exact HB.out)))); have n2_ := Aside0.mk (blk_below (g := gb424) (o := .cells #[.int .i64 a0_0, .slice A0_1 l0_1.length c0_1, .slice A0_2 l0_2.length c0_2] 25 (0, 0)) (by (with_reducible repeat (first | refine blk_drewN ?_ _ | refine blk_drew ?_ | refine blk_alloc ?_ _)); exact BK424.out) hb); have n3_ := Aside0.mk (below_step (by repeat (first | (with_reducible first | exact HB.out | apply below_alloc | apply pw_below_drewN | apply below_drew1 | refine below_set ?_ GE424.out) | exact HB.out)) hb); clear BK424; clear HB; have HO429 := n0_; have HO432 := n1_; have BK424 := n2_; have HB := n3_; clear n0_ n1_ n2_ n3_; (try clear hb); (try clear hb2); (try clear hk); (try clear hi); (try clear ho0); (try clear ho1); obtain ⟨Ao19, co19, eo19⟩ := Kd.S_slice HO429.out; subst eo19; obtain ⟨Ao20, co20, eo20⟩ := Kd.R_slice HO432.out; subst eo20) | ((with_reducible refine gate_callee (f := 22) rfl ?_); refine goesL_ (some 25) rfl rfl Try.func22 (by kernel_rfl) rfl #[.agg #[.int .i64 t426, .slice Ao19 t427.length co19, .slice Ao20 t430.length co20], .int .i64 a1] rfl (by (try simp only [List.map_toArray, List.map_cons, List.map_nil]); first | done | rfl | (simp only [List.length_drop, List.length_take]; rfl)) ?_; (with_reducible refine (spec_FirstOfState.calls k t426 _ _ t427 _ _ t430 a1 t433 t436 _ ?side1 ?side2 ?side3 ?side4 A9.out).mono ?_); (case side1 => repeat (first | exact (Kd.S_reads' HO429.out).2.2 | (with_reducible refine Kd.C_alloc ?_ _) | (with_reducible refine Kd.C_drewN ?_ _) | (with_reducible refine Kd.C_drew ?_))); (case side2 => exact (Kd.S_reads' HO429.out).2.1); (case side3 => repeat (first | exact (Kd.R_reads' HO432.out).2.2 | (with_reducible refine Kd.C_alloc ?_ _) | (with_reducible refine Kd.C_drewN ?_ _) | (with_reducible refine Kd.C_drew ?_))); (case side4 => exact (Kd.R_reads' HO432.out).2.1); rintro e w21 ⟨v434, rfl, ho0, hb⟩; refine ⟨_, rfl, ?_⟩; have n0_ := Aside0.mk (Kd.S_below (by (with_reducible repeat (first | apply Kd.S_alloc | apply Kd.S_drewN | apply Kd.S_drew)); exact HO429.out) hb); have n1_ := Aside0.mk (Kd.R_below (by (with_reducible repeat (first | apply Kd.R_alloc | apply Kd.R_drewN | apply Kd.R_drew)); exact HO432.out) hb); have n2_ := Aside0.mk (Kd.V_lower (Kd.V_mono (ok' := fun k_ => some k_ ≠ (.slice Ao19 t427.length co19 : Value).ownBlock ∧ some k_ ≠ (.slice Ao20 t430.length co20 : Value).ownBlock ∧ k_ ≠ gb424) ho0 (fun k_ hk_ => ⟨(Kd.fresh' (Kd.S_lt (by (with_reducible repeat (first | apply Kd.S_alloc | apply Kd.S_drewN | apply Kd.S_drew)); exact HO429.out)) k_ hk_), (Kd.fresh' (Kd.R_lt (by (with_reducible repeat (first | apply Kd.R_alloc | apply Kd.R_drewN | apply Kd.R_drew)); exact HO432.out)) k_ hk_), (Kd.freshB (g := gb424) (o := .cells #[.int .i64 a0_0, .slice A0_1 l0_1.length c0_1, .slice A0_2 l0_2.length c0_2] 25 (0, 0)) (by (with_reducible repeat (first | refine blk_drewN ?_ _ | refine blk_drew ?_ | refine blk_alloc ?_ _)); exact BK424.out) k_ hk_)⟩)) (below_size (by repeat (first | (with_reducible first | exact HB.out | apply below_alloc | apply pw_below_drewN | apply below_drew1 | refine below_set ?_ GE424.out) | exact HB.out)))); have n3_ := Aside0.mk (blk_below (g := gb424) (o := .cells #[.int .i64 a0_0, .slice A0_1 l0_1.length c0_1, .slice A0_2 l0_2.length c0_2] 25 (0, 0)) (by (with_reducible repeat (first | refine blk_drewN ?_ _ | refine blk_drew ?_ | refine blk_alloc ?_ _)); exact BK424.out) hb); have n4_ := Aside0.mk (below_step (by repeat (first | (with_reducible first | exact HB.out | apply below_alloc | apply pw_below_drewN | apply below_drew1 | refine below_set ?_ GE424.out) | exact HB.out)) hb); clear HO429; clear HO432; clear BK424; clear HB; have HO429 := n0_; have HO432 := n1_; have HO435 := n2_; have BK424 := n3_; have HB := n4_; clear n0_ n1_ n2_ n3_ n4_; (try clear hb); (try clear hb2); (try clear hk); (try clear hi); (try clear ho0)) | ((with_reducible refine gate_dst (N := 6) rfl ?_); refine box_event ?hg (N := 6) ?hd (cs := #[.slice none 0 0]) (t := 38) ?hr ?_; (case hd => rfl); (case hg => rfl); (case hr => first | (go_simp; done) | (go_simp; rfl)); intro gb437 hg w22 hbox hb; have n0_ := Aside0.mk (Kd.S_below (by (with_reducible repeat (first | apply Kd.S_alloc | apply Kd.S_drewN | apply Kd.S_drew)); exact HO429.out) hb); have n1_ := Aside0.mk (Kd.R_below (by (with_reducible repeat (first | apply Kd.R_alloc | apply Kd.R_drewN | apply Kd.R_drew)); exact HO432.out) hb); have n2_ := Aside0.mk (Kd.V_below (Kd.V_elderB (by (with_reducible repeat (first | apply Kd.V_alloc | apply Kd.V_drewN | apply Kd.V_drew)); exact HO435.out) gb437 (Nat.le_of_eq hg.symm)) hb); have n3_ := Aside0.mk (blk_below (g := gb424) (o := .cells #[.int .i64 a0_0, .slice A0_1 l0_1.length c0_1, .slice A0_2 l0_2.length c0_2] 25 (0, 0)) (by (with_reducible repeat (first | refine blk_drewN ?_ _ | refine blk_drew ?_ | refine blk_alloc ?_ _)); exact BK424.out) hb); have n4_ := Aside0.mk (below_step (by repeat (first | (with_reducible first | exact HB.out | apply below_alloc | apply pw_below_drewN | apply below_drew1 | refine below_set ?_ GE424.out) | exact HB.out)) hb); have n5_ := Aside0.mk (hbox); have n6_ := Aside0.mk ((by rw [hg]; exact (below_size (by repeat (first | (with_reducible first | exact HB.out | apply below_alloc | apply pw_below_drewN | apply below_drew1 | refine below_set ?_ GE424.out) | exact HB.out))) : w.heap.size ≤ gb437)); have n7_ := Aside0.mk ((by rw [hg]; exact (below_size (by repeat (first | (with_reducible first | exact HB.out | apply below_alloc | apply pw_below_drewN | apply below_drew1 | refine below_set ?_ GE424.out) | exact HB.out))) : w.heap.size ≤ gb437)); have n8_ := Aside0.mk ((by rw [hg]; exact Nat.ne_of_lt (blk_lt (g := gb424) (o := .cells #[.int .i64 a0_0, .slice A0_1 l0_1.length c0_1, .slice A0_2 l0_2.length c0_2] 25 (0, 0)) (by (with_reducible repeat (first | refine blk_drewN ?_ _ | refine blk_drew ?_ | refine blk_alloc ?_ _)); exact BK424.out)) : gb424 ≠ gb437)); have n9_ := Aside0.mk ((by rw [hg]; exact Nat.ne_of_gt (blk_lt (g := gb424) (o := .cells #[.int .i64 a0_0, .slice A0_1 l0_1.length c0_1, .slice A0_2 l0_2.length c0_2] 25 (0, 0)) (by (with_reducible repeat (first | refine blk_drewN ?_ _ | refine blk_drew ?_ | refine blk_alloc ?_ _)); exact BK424.out)) : gb437 ≠ gb424)); clear HO429; clear HO432; clear HO435; clear BK424; clear HB; have HO429 := n0_; have HO432 := n1_; have HO435 := n2_; have BK424 := n3_; have HB := n4_; have BK437 := n5_; have GW437 := n6_; have GE437 := n7_; have NB424_437 := n8_; have NB437_424 := n9_; clear n0_ n1_ n2_ n3_ n4_ n5_ n6_ n7_ n8_ n9_; clear hb hbox hg; obtain ⟨Ao23, co23, eo23⟩ := Kd.V_slice HO435.out; subst eo23; have hnb24 := NB437_424.out; have hnc24 := NB424_437.out; have hcz25_0 : w22.cell? ⟨gb437, 0, none⟩ = some (.slice none 0 0) := (blk_cell BK437.out 0).trans rfl; have hfz25_0 := blk_frozen BK437.out 0; have hcz26_0 : w22.cell? ⟨gb424, 0, none⟩ = some (.int .i64 a0_0) := (blk_cell BK424.out 0).trans rfl; have hcz26_1 : w22.cell? ⟨gb424, 1, none⟩ = some (.slice A0_1 l0_1.length c0_1) := (blk_cell BK424.out 1).trans rfl; have hcz26_2 : w22.cell? ⟨gb424, 2, none⟩ = some (.slice A0_2 l0_2.length c0_2) := (blk_cell BK424.out 2).trans rfl; have hfz26_0 := blk_frozen BK424.out 0; have hfz26_1 := blk_frozen BK424.out 1; have hfz26_2 := blk_frozen BK424.out 2) | ((with_reducible refine gate_callee (f := 10) rfl ?_); refine goesL_ (some 29) rfl rfl Try.func10 (by kernel_rfl) rfl #[.agg #[.int .i64 a0_0, .slice A0_1 l0_1.length c0_1, .slice A0_2 l0_2.length c0_2]] rfl (by (try simp only [List.map_toArray, List.map_cons, List.map_nil]); first | done | rfl | (simp only [List.length_drop, List.length_take]; rfl)) ?_; (with_reducible refine (laws_toAutomaton.calls k a0_0 _ _ l0_1 _ _ l0_2 t438 t439 t442 _ ?side1 ?side2 ?side3 ?side4 A10.out).mono ?_); (case side1 => exact Kd.C_below HR0_1.out (by repeat (first | (with_reducible first | exact HB.out | apply below_alloc | apply pw_below_drewN | apply below_drew1 | refine below_set ?_ GE424.out | refine below_set ?_ GE437.out) | exact HB.out))); (case side2 => exact HC0_1.out); (case side3 => exact Kd.C_below HR0_2.out (by repeat (first | (with_reducible first | exact HB.out | apply below_alloc | apply pw_below_drewN | apply below_drew1 | refine below_set ?_ GE424.out | refine below_set ?_ GE437.out) | exact HB.out))); (case side4 => exact HC0_2.out); rintro e w27 ⟨v440, v443, rfl, ho0, ho1, hb⟩; refine ⟨_, rfl, ?_⟩; obtain ⟨N28, hN28⟩ := nat_of_below hb; have n0_ := Aside0.mk (Kd.S_mono (Kd.S_told (Kd.S_told (Kd.S_old ((S_ltN (by (with_reducible repeat (first | apply Kd.S_alloc | apply Kd.S_drewN | apply Kd.S_drew)); exact (Kd.S_mono (Kd.S_far (p := ⟨gb437, 0, none⟩) (Kd.S_types HO429.out BK437.out (by decide)) (fun _ hk => hk.2) (.slice Ao23 t433.length co23)) (fun _ h_ => h_.1))) hN28)) hb) (Kd.S_base ho0)) (Kd.R_base ho1)) (fun _ h_ => h_.1)); have n1_ := Aside0.mk (Kd.R_elder' (by (with_reducible repeat (first | apply Kd.R_alloc | apply Kd.R_drewN | apply Kd.R_drew)); exact (Kd.R_mono (Kd.R_far (p := ⟨gb437, 0, none⟩) (Kd.R_types HO432.out BK437.out (by decide)) (fun _ hk => hk.2) (.slice Ao23 t433.length co23)) (fun _ h_ => h_.1))) (Kd.R_base ho1) hb); have n2_ := Aside0.mk (Kd.V_mono (Kd.V_told (Kd.V_told (Kd.V_old ((V_ltN (by (with_reducible repeat (first | apply Kd.V_alloc | apply Kd.V_drewN | apply Kd.V_drew)); exact (Kd.V_mono (Kd.V_far (p := ⟨gb437, 0, none⟩) (Kd.V_mono HO435.out (fun k_ hk => (⟨hk, hk.2⟩ : _ ∧ k_ ≠ gb437))) (fun _ hk => hk.2) (.slice Ao23 t433.length co23)) (fun _ h_ => h_.1))) hN28)) hb) (Kd.S_base ho0)) (Kd.R_base ho1)) (fun _ h_ => h_.1)); have n3_ := Aside0.mk (Kd.S_lower (Kd.S_new' (Kd.S_new' (S_geN hN28 ho0) (Kd.S_lt (by (with_reducible repeat (first | apply Kd.S_alloc | apply Kd.S_drewN | apply Kd.S_drew)); exact (Kd.S_mono (Kd.S_far (p := ⟨gb437, 0, none⟩) (Kd.S_types HO429.out BK437.out (by decide)) (fun _ hk => hk.2) (.slice Ao23 t433.length co23)) (fun _ h_ => h_.1))))) (Kd.R_lt (by (with_reducible repeat (first | apply Kd.R_alloc | apply Kd.R_drewN | apply Kd.R_drew)); exact (Kd.R_mono (Kd.R_far (p := ⟨gb437, 0, none⟩) (Kd.R_types HO432.out BK437.out (by decide)) (fun _ hk => hk.2) (.slice Ao23 t433.length co23)) (fun _ h_ => h_.1))))) (below_size (by repeat (first | (with_reducible first | exact HB.out | apply below_alloc | apply pw_below_drewN | apply below_drew1 | refine below_set ?_ GE424.out | refine below_set ?_ GE437.out) | exact HB.out)))); have n4_ := Aside0.mk (Kd.R_lower (Kd.R_new' ho1 (Kd.R_lt (by (with_reducible repeat (first | apply Kd.R_alloc | apply Kd.R_drewN | apply Kd.R_drew)); exact (Kd.R_mono (Kd.R_far (p := ⟨gb437, 0, none⟩) (Kd.R_types HO432.out BK437.out (by decide)) (fun _ hk => hk.2) (.slice Ao23 t433.length co23)) (fun _ h_ => h_.1))))) (below_size (by repeat (first | (with_reducible first | exact HB.out | apply below_alloc | apply pw_below_drewN | apply below_drew1 | refine below_set ?_ GE424.out | refine below_set ?_ GE437.out) | exact HB.out)))); have n5_ := Aside0.mk (blk_below (g := gb424) (o := .cells #[.int .i64 a0_0, .slice A0_1 l0_1.length c0_1, .slice A0_2 l0_2.length c0_2] 25 (0, 0)) (by (with_reducible repeat (first | refine blk_drewN ?_ _ | refine blk_drew ?_ | refine blk_alloc ?_ _)); refine blk_far ?_ NB424_437.out _; (with_reducible repeat (first | refine blk_drewN ?_ _ | refine blk_drew ?_ | refine blk_alloc ?_ _)); exact BK424.out) hb); have n6_ := Aside0.mk (blk_below (g := gb437) (o := .cells #[.slice Ao23 t433.length co23] 38 (0, 0)) (by (with_reducible repeat (first | refine blk_drewN ?_ _ | refine blk_drew ?_ | refine blk_alloc ?_ _)); refine blk_put (cs := #[.slice none 0 0]) ?_ 0 _ rfl; (with_reducible repeat (first | refine blk_drewN ?_ _ | refine blk_drew ?_ | refine blk_alloc ?_ _)); exact BK437.out) hb); have n7_ := Aside0.mk (below_step (by repeat (first | (with_reducible first | exact HB.out | apply below_alloc | apply pw_below_drewN | apply below_drew1 | refine below_set ?_ GE424.out | refine below_set ?_ GE437.out) | exact HB.out)) hb); clear HO429; clear HO432; clear HO435; clear BK424; clear BK437; clear HB; have HO429 := n0_; have HO432 := n1_; have HO435 := n2_; have HO441 := n3_; have HO444 := n4_; have BK424 := n5_; have BK437 := n6_; have HB := n7_; clear n0_ n1_ n2_ n3_ n4_ n5_ n6_ n7_; (try clear hb); (try clear hb2); (try clear hk); (try clear hi); (try clear ho0); (try clear ho1)) | ((with_reducible refine gate_dst (N := 8) rfl ?_); refine box_event ?hg (N := 8) ?hd (cs := #[.int .i64 0, .slice none 0 0, .slice none 0 0]) (t := 29) ?hr ?_; (case hd => rfl); (case hg => rfl); (case hr => first | (go_simp; done) | (go_simp; rfl)); intro gb445 hg w29 hbox hb; have n0_ := Aside0.mk (Kd.S_below (by (with_reducible repeat (first | apply Kd.S_alloc | apply Kd.S_drewN | apply Kd.S_drew)); exact HO429.out) hb); have n1_ := Aside0.mk (Kd.R_below (by (with_reducible repeat (first | apply Kd.R_alloc | apply Kd.R_drewN | apply Kd.R_drew)); exact HO432.out) hb); have n2_ := Aside0.mk (Kd.V_below (Kd.V_elderB (by (with_reducible repeat (first | apply Kd.V_alloc | apply Kd.V_drewN | apply Kd.V_drew)); exact HO435.out) gb445 (Nat.le_of_eq hg.symm)) hb); have n3_ := Aside0.mk (Kd.S_below (by (with_reducible repeat (first | apply Kd.S_alloc | apply Kd.S_drewN | apply Kd.S_drew)); exact HO441.out) hb); have n4_ := Aside0.mk (Kd.R_below (by (with_reducible repeat (first | apply Kd.R_alloc | apply Kd.R_drewN | apply Kd.R_drew)); exact HO444.out) hb); have n5_ := Aside0.mk (blk_below (g := gb424) (o := .cells #[.int .i64 a0_0, .slice A0_1 l0_1.length c0_1, .slice A0_2 l0_2.length c0_2] 25 (0, 0)) (by (with_reducible repeat (first | refine blk_drewN ?_ _ | refine blk_drew ?_ | refine blk_alloc ?_ _)); exact BK424.out) hb); have n6_ := Aside0.mk (blk_below (g := gb437) (o := .cells #[.slice Ao23 t433.length co23] 38 (0, 0)) (by (with_reducible repeat (first | refine blk_drewN ?_ _ | refine blk_drew ?_ | refine blk_alloc ?_ _)); exact BK437.out) hb); have n7_ := Aside0.mk (below_step (by repeat (first | (with_reducible first | exact HB.out | apply below_alloc | apply pw_below_drewN | apply below_drew1 | refine below_set ?_ GE424.out | refine below_set ?_ GE437.out) | exact HB.out)) hb); have n8_ := Aside0.mk (hbox); have n9_ := Aside0.mk ((by rw [hg]; exact (below_size (by repeat (first | (with_reducible first | exact HB.out | apply below_alloc | apply pw_below_drewN | apply below_drew1 | refine below_set ?_ GE424.out | refine below_set ?_ GE437.out) | exact HB.out))) : w.heap.size ≤ gb445)); have n10_ := Aside0.mk ((by rw [hg]; exact (below_size (by repeat (first | (with_reducible first | exact HB.out | apply below_alloc | apply pw_below_drewN | apply below_drew1 | refine below_set ?_ GE424.out | refine below_set ?_ GE437.out) | exact HB.out))) : w.heap.size ≤ gb445)); have n11_ := Aside0.mk ((by rw [hg]; exact Nat.ne_of_lt (blk_lt (g := gb424) (o := .cells #[.int .i64 a0_0, .slice A0_1 l0_1.length c0_1, .slice A0_2 l0_2.length c0_2] 25 (0, 0)) (by (with_reducible repeat (first | refine blk_drewN ?_ _ | refine blk_drew ?_ | refine blk_alloc ?_ _)); exact BK424.out)) : gb424 ≠ gb445)); have n12_ := Aside0.mk ((by rw [hg]; exact Nat.ne_of_gt (blk_lt (g := gb424) (o := .cells #[.int .i64 a0_0, .slice A0_1 l0_1.length c0_1, .slice A0_2 l0_2.length c0_2] 25 (0, 0)) (by (with_reducible repeat (first | refine blk_drewN ?_ _ | refine blk_drew ?_ | refine blk_alloc ?_ _)); exact BK424.out)) : gb445 ≠ gb424)); have n13_ := Aside0.mk ((by rw [hg]; exact Nat.ne_of_lt (blk_lt (g := gb437) (o := .cells #[.slice Ao23 t433.length co23] 38 (0, 0)) (by (with_reducible repeat (first | refine blk_drewN ?_ _ | refine blk_drew ?_ | refine blk_alloc ?_ _)); exact BK437.out)) : gb437 ≠ gb445)); have n14_ := Aside0.mk ((by rw [hg]; exact Nat.ne_of_gt (blk_lt (g := gb437) (o := .cells #[.slice Ao23 t433.length co23] 38 (0, 0)) (by (with_reducible repeat (first | refine blk_drewN ?_ _ | refine blk_drew ?_ | refine blk_alloc ?_ _)); exact BK437.out)) : gb445 ≠ gb437)); clear HO429; clear HO432; clear HO435; clear HO441; clear HO444; clear BK424; clear BK437; clear HB; have HO429 := n0_; have HO432 := n1_; have HO435 := n2_; have HO441 := n3_; have HO444 := n4_; have BK424 := n5_; have BK437 := n6_; have HB := n7_; have BK445 := n8_; have GW445 := n9_; have GE445 := n10_; have NB424_445 := n11_; have NB445_424 := n12_; have NB437_445 := n13_; have NB445_437 := n14_; clear n0_ n1_ n2_ n3_ n4_ n5_ n6_ n7_ n8_ n9_ n10_ n11_ n12_ n13_ n14_; clear hb hbox hg; have hnb30 := NB445_424.out; have hnc30 := NB424_445.out; have hnb31 := NB445_437.out; have hnc31 := NB437_445.out; have hcz32_0 : w29.cell? ⟨gb445, 0, none⟩ = some (.int .i64 0) := (blk_cell BK445.out 0).trans rfl; have hcz32_1 : w29.cell? ⟨gb445, 1, none⟩ = some (.slice none 0 0) := (blk_cell BK445.out 1).trans rfl; have hcz32_2 : w29.cell? ⟨gb445, 2, none⟩ = some (.slice none 0 0) := (blk_cell BK445.out 2).trans rfl; have hfz32_0 := blk_frozen BK445.out 0; have hfz32_1 := blk_frozen BK445.out 1; have hfz32_2 := blk_frozen BK445.out 2; obtain ⟨Ao33, co33, eo33⟩ := Kd.S_slice HO441.out; subst eo33; obtain ⟨Ao34, co34, eo34⟩ := Kd.R_slice HO444.out; subst eo34) | ((with_reducible refine gate_callee (f := 23) rfl ?_); refine goesL_ (some 33) rfl rfl Try.func23 (by kernel_rfl) rfl #[.agg #[.int .i64 t438, .slice Ao33 t439.length co33, .slice Ao34 t442.length co34], .int .i64 a1] rfl (by (try simp only [List.map_toArray, List.map_cons, List.map_nil]); first | done | rfl | (simp only [List.length_drop, List.length_take]; rfl)) ?_; (with_reducible refine (impl_FirstOfState.calls k t438 _ _ t439 _ _ t442 a1 t446 t449 _ ?side1 ?side2 ?side3 ?side4 A11.out).mono ?_); (case side1 => refine (Kd.S_reads' (e := 23) (base := w.heap.size) (ok := fun k_ => (((some k_ ≠ (.slice Ao34 t442.length co34 : Value).ownBlock ∧ k_ ≠ ge_ N28 k_) ∧ some k_ ≠ (.slice Ao19 t427.length co19 : Value).ownBlock) ∧ some k_ ≠ (.slice Ao20 t430.length co20 : Value).ownBlock)) (n := t439.length) (c := co33) ?_).2.2; exact (by (with_reducible repeat (first | apply Kd.S_alloc | apply Kd.S_drewN | apply Kd.S_drew)); exact (Kd.S_mono (Kd.S_far (p := ⟨gb445, 2, none⟩) (Kd.S_far (p := ⟨gb445, 1, none⟩) (Kd.S_far (p := ⟨gb445, 0, none⟩) (Kd.S_types HO441.out BK445.out (by decide)) (fun _ hk => hk.2) (.int .i64 t438)) (fun _ hk => hk.2) (.slice Ao33 t439.length co33)) (fun _ hk => hk.2) (.slice Ao34 t442.length co34)) (fun _ h_ => h_.1)))); (case side2 => exact (Kd.S_reads' HO441.out).2.1); (case side3 => refine (Kd.R_reads' (e := 2) (base := w.heap.size) (ok := fun k_ => (True ∧ some k_ ≠ (.slice Ao20 t430.length co20 : Value).ownBlock)) (n := t442.length) (c := co34) ?_).2.2; exact (by (with_reducible repeat (first | apply Kd.R_alloc | apply Kd.R_drewN | apply Kd.R_drew)); exact (Kd.R_mono (Kd.R_far (p := ⟨gb445, 2, none⟩) (Kd.R_far (p := ⟨gb445, 1, none⟩) (Kd.R_far (p := ⟨gb445, 0, none⟩) (Kd.R_types HO444.out BK445.out (by decide)) (fun _ hk => hk.2) (.int .i64 t438)) (fun _ hk => hk.2) (.slice Ao33 t439.length co33)) (fun _ hk => hk.2) (.slice Ao34 t442.length co34)) (fun _ h_ => h_.1)))); (case side4 => exact (Kd.R_reads' HO444.out).2.1); rintro e w35 ⟨v447, rfl, ho0, hb⟩; refine ⟨_, rfl, ?_⟩; have n0_ := Aside0.mk (Kd.S_elder' (by (with_reducible repeat (first | apply Kd.S_alloc | apply Kd.S_drewN | apply Kd.S_drew)); exact (Kd.S_mono (Kd.S_far (p := ⟨gb445, 2, none⟩) (Kd.S_far (p := ⟨gb445, 1, none⟩) (Kd.S_far (p := ⟨gb445, 0, none⟩) (Kd.S_types HO429.out BK445.out (by decide)) (fun _ hk => hk.2) (.int .i64 t438)) (fun _ hk => hk.2) (.slice Ao33 t439.length co33)) (fun _ hk => hk.2) (.slice Ao34 t442.length co34)) (fun _ h_ => h_.1))) (Kd.R_base ho0) hb); have n1_ := Aside0.mk (Kd.R_elder' (by (with_reducible repeat (first | apply Kd.R_alloc | apply Kd.R_drewN | apply Kd.R_drew)); exact (Kd.R_mono (Kd.R_far (p := ⟨gb445, 2, none⟩) (Kd.R_far (p := ⟨gb445, 1, none⟩) (Kd.R_far (p := ⟨gb445, 0, none⟩) (Kd.R_types HO432.out BK445.out (by decide)) (fun _ hk => hk.2) (.int .i64 t438)) (fun _ hk => hk.2) (.slice Ao33 t439.length co33)) (fun _ hk => hk.2) (.slice Ao34 t442.length co34)) (fun _ h_ => h_.1))) (Kd.R_base ho0) hb); have n2_ := Aside0.mk (Kd.V_elder' (by (with_reducible repeat (first | apply Kd.V_alloc | apply Kd.V_drewN | apply Kd.V_drew)); exact (Kd.V_mono (Kd.V_far (p := ⟨gb445, 2, none⟩) (Kd.V_far (p := ⟨gb445, 1, none⟩) (Kd.V_far (p := ⟨gb445, 0, none⟩) (Kd.V_mono HO435.out (fun k_ hk => (⟨hk, hk.2⟩ : _ ∧ k_ ≠ gb445))) (fun _ hk => hk.2) (.int .i64 t438)) (fun _ hk => hk.2) (.slice Ao33 t439.length co33)) (fun _ hk => hk.2) (.slice Ao34 t442.length co34)) (fun _ h_ => h_.1))) (Kd.R_base ho0) hb); have n3_ := Aside0.mk (Kd.S_elder' (by (with_reducible repeat (first | apply Kd.S_alloc | apply Kd.S_drewN | apply Kd.S_drew)); exact (Kd.S_mono (Kd.S_far (p := ⟨gb445, 2, none⟩) (Kd.S_far (p := ⟨gb445, 1, none⟩) (Kd.S_far (p := ⟨gb445, 0, none⟩) (Kd.S_types HO441.out BK445.out (by decide)) (fun _ hk => hk.2) (.int .i64 t438)) (fun _ hk => hk.2) (.slice Ao33 t439.length co33)) (fun _ hk => hk.2) (.slice Ao34 t442.length co34)) (fun _ h_ => h_.1))) (Kd.R_base ho0) hb); have n4_ := Aside0.mk (Kd.R_elder' (by (with_reducible repeat (first | apply Kd.R_alloc | apply Kd.R_drewN | apply Kd.R_drew)); exact (Kd.R_mono (Kd.R_far (p := ⟨gb445, 2, none⟩) (Kd.R_far (p := ⟨gb445, 1, none⟩) (Kd.R_far (p := ⟨gb445, 0, none⟩) (Kd.R_types HO444.out BK445.out (by decide)) (fun _ hk => hk.2) (.int .i64 t438)) (fun _ hk => hk.2) (.slice Ao33 t439.length co33)) (fun _ hk => hk.2) (.slice Ao34 t442.length co34)) (fun _ h_ => h_.1))) (Kd.R_base ho0) hb); have n5_ := Aside0.mk (Kd.R_lower (Kd.R_new' (Kd.R_new' ho0 (Kd.R_lt (by (with_reducible repeat (first | apply Kd.R_alloc | apply Kd.R_drewN | apply Kd.R_drew)); exact (Kd.R_mono (Kd.R_far (p := ⟨gb445, 2, none⟩) (Kd.R_far (p := ⟨gb445, 1, none⟩) (Kd.R_far (p := ⟨gb445, 0, none⟩) (Kd.R_types HO432.out BK445.out (by decide)) (fun _ hk => hk.2) (.int .i64 t438)) (fun _ hk => hk.2) (.slice Ao33 t439.length co33)) (fun _ hk => hk.2) (.slice Ao34 t442.length co34)) (fun _ h_ => h_.1))))) (Kd.R_lt (by (with_reducible repeat (first | apply Kd.R_alloc | apply Kd.R_drewN | apply Kd.R_drew)); exact (Kd.R_mono (Kd.R_far (p := ⟨gb445, 2, none⟩) (Kd.R_far (p := ⟨gb445, 1, none⟩) (Kd.R_far (p := ⟨gb445, 0, none⟩) (Kd.R_types HO444.out BK445.out (by decide)) (fun _ hk => hk.2) (.int .i64 t438)) (fun _ hk => hk.2) (.slice Ao33 t439.length co33)) (fun _ hk => hk.2) (.slice Ao34 t442.length co34)) (fun _ h_ => h_.1))))) (below_size (by repeat (first | (with_reducible first | exact HB.out | apply below_alloc | apply pw_below_drewN | apply below_drew1 | refine below_set ?_ GE424.out | refine below_set ?_ GE437.out | refine below_set ?_ GE445.out) | exact HB.out)))); have n6_ := Aside0.mk (blk_below (g := gb424) (o := .cells #[.int .i64 a0_0, .slice A0_1 l0_1.length c0_1, .slice A0_2 l0_2.length c0_2] 25 (0, 0)) (by (with_reducible repeat (first | refine blk_drewN ?_ _ | refine blk_drew ?_ | refine blk_alloc ?_ _)); refine blk_far ?_ NB424_445.out _; (with_reducible repeat (first | refine blk_drewN ?_ _ | refine blk_drew ?_ | refine blk_alloc ?_ _)); refine blk_far ?_ NB424_445.out _; (with_reducible repeat (first | refine blk_drewN ?_ _ | refine blk_drew ?_ | refine blk_alloc ?_ _)); refine blk_far ?_ NB424_445.out _; (with_reducible repeat (first | refine blk_drewN ?_ _ | refine blk_drew ?_ | refine blk_alloc ?_ _)); exact BK424.out) hb); have n7_ := Aside0.mk (blk_below (g := gb437) (o := .cells #[.slice Ao23 t433.length co23] 38 (0, 0)) (by (with_reducible repeat (first | refine blk_drewN ?_ _ | refine blk_drew ?_ | refine blk_alloc ?_ _)); refine blk_far ?_ NB437_445.out _; (with_reducible repeat (first | refine blk_drewN ?_ _ | refine blk_drew ?_ | refine blk_alloc ?_ _)); refine blk_far ?_ NB437_445.out _; (with_reducible repeat (first | refine blk_drewN ?_ _ | refine blk_drew ?_ | refine blk_alloc ?_ _)); refine blk_far ?_ NB437_445.out _; (with_reducible repeat (first | refine blk_drewN ?_ _ | refine blk_drew ?_ | refine blk_alloc ?_ _)); exact BK437.out) hb); have n8_ := Aside0.mk (blk_below (g := gb445) (o := .cells #[.int .i64 t438, .slice Ao33 t439.length co33, .slice Ao34 t442.length co34] 29 (0, 0)) (by (with_reducible repeat (first | refine blk_drewN ?_ _ | refine blk_drew ?_ | refine blk_alloc ?_ _)); refine blk_put (cs := #[.int .i64 t438, .slice Ao33 t439.length co33, .slice none 0 0]) ?_ 2 _ rfl; (with_reducible repeat (first | refine blk_drewN ?_ _ | refine blk_drew ?_ | refine blk_alloc ?_ _)); refine blk_put (cs := #[.int .i64 t438, .slice none 0 0, .slice none 0 0]) ?_ 1 _ rfl; (with_reducible repeat (first | refine blk_drewN ?_ _ | refine blk_drew ?_ | refine blk_alloc ?_ _)); refine blk_put (cs := #[.int .i64 0, .slice none 0 0, .slice none 0 0]) ?_ 0 _ rfl; (with_reducible repeat (first | refine blk_drewN ?_ _ | refine blk_drew ?_ | refine blk_alloc ?_ _)); exact BK445.out) hb); have n9_ := Aside0.mk (below_step (by repeat (first | (with_reducible first | exact HB.out | apply below_alloc | apply pw_below_drewN | apply below_drew1 | refine below_set ?_ GE424.out | refine below_set ?_ GE437.out | refine below_set ?_ GE445.out) | exact HB.out)) hb); clear HO429; clear HO432; clear HO435; clear HO441; clear HO444; clear BK424; clear BK437; clear BK445; clear HB; have HO429 := n0_; have HO432 := n1_; have HO435 := n2_; have HO441 := n3_; have HO444 := n4_; have HO448 := n5_; have BK424 := n6_; have BK437 := n7_; have BK445 := n8_; have HB := n9_; clear n0_ n1_ n2_ n3_ n4_ n5_ n6_ n7_ n8_ n9_; (try clear hb); (try clear hb2); (try clear hk); (try clear hi); (try clear ho0)) | ((with_reducible refine gate_dst (N := 9) rfl ?_); refine box_event ?hg (N := 9) ?hd (cs := #[.slice none 0 0]) (t := 38) ?hr ?_; (case hd => rfl); (case hg => rfl); (case hr => first | (go_simp; done) | (go_simp; rfl)); intro gb450 hg w36 hbox hb; have n0_ := Aside0.mk (Kd.S_below (by (with_reducible repeat (first | apply Kd.S_alloc | apply Kd.S_drewN | apply Kd.S_drew)); exact HO429.out) hb); have n1_ := Aside0.mk (Kd.R_below (by (with_reducible repeat (first | apply Kd.R_alloc | apply Kd.R_drewN | apply Kd.R_drew)); exact HO432.out) hb); have n2_ := Aside0.mk (Kd.V_below (Kd.V_elderB (by (with_reducible repeat (first | apply Kd.V_alloc | apply Kd.V_drewN | apply Kd.V_drew)); exact HO435.out) gb450 (Nat.le_of_eq hg.symm)) hb); have n3_ := Aside0.mk (Kd.S_below (by (with_reducible repeat (first | apply Kd.S_alloc | apply Kd.S_drewN | apply Kd.S_drew)); exact HO441.out) hb); have n4_ := Aside0.mk (Kd.R_below (by (with_reducible repeat (first | apply Kd.R_alloc | apply Kd.R_drewN | apply Kd.R_drew)); exact HO444.out) hb); have n5_ := Aside0.mk (Kd.R_below (by (with_reducible repeat (first | apply Kd.R_alloc | apply Kd.R_drewN | apply Kd.R_drew)); exact HO448.out) hb); have n6_ := Aside0.mk (blk_below (g := gb424) (o := .cells #[.int .i64 a0_0, .slice A0_1 l0_1.length c0_1, .slice A0_2 l0_2.length c0_2] 25 (0, 0)) (by (with_reducible repeat (first | refine blk_drewN ?_ _ | refine blk_drew ?_ | refine blk_alloc ?_ _)); exact BK424.out) hb); have n7_ := Aside0.mk (blk_below (g := gb437) (o := .cells #[.slice Ao23 t433.length co23] 38 (0, 0)) (by (with_reducible repeat (first | refine blk_drewN ?_ _ | refine blk_drew ?_ | refine blk_alloc ?_ _)); exact BK437.out) hb); have n8_ := Aside0.mk (blk_below (g := gb445) (o := .cells #[.int .i64 t438, .slice Ao33 t439.length co33, .slice Ao34 t442.length co34] 29 (0, 0)) (by (with_reducible repeat (first | refine blk_drewN ?_ _ | refine blk_drew ?_ | refine blk_alloc ?_ _)); exact BK445.out) hb); have n9_ := Aside0.mk (below_step (by repeat (first | (with_reducible first | exact HB.out | apply below_alloc | apply pw_below_drewN | apply below_drew1 | refine below_set ?_ GE424.out | refine below_set ?_ GE437.out | refine below_set ?_ GE445.out) | exact HB.out)) hb); have n10_ := Aside0.mk (hbox); have n11_ := Aside0.mk ((by rw [hg]; exact (below_size (by repeat (first | (with_reducible first | exact HB.out | apply below_alloc | apply pw_below_drewN | apply below_drew1 | refine below_set ?_ GE424.out | refine below_set ?_ GE437.out | refine below_set ?_ GE445.out) | exact HB.out))) : w.heap.size ≤ gb450)); have n12_ := Aside0.mk ((by rw [hg]; exact (below_size (by repeat (first | (with_reducible first | exact HB.out | apply below_alloc | apply pw_below_drewN | apply below_drew1 | refine below_set ?_ GE424.out | refine below_set ?_ GE437.out | refine below_set ?_ GE445.out) | exact HB.out))) : w.heap.size ≤ gb450)); have n13_ := Aside0.mk ((by rw [hg]; exact Nat.ne_of_lt (blk_lt (g := gb424) (o := .cells #[.int .i64 a0_0, .slice A0_1 l0_1.length c0_1, .slice A0_2 l0_2.length c0_2] 25 (0, 0)) (by (with_reducible repeat (first | refine blk_drewN ?_ _ | refine blk_drew ?_ | refine blk_alloc ?_ _)); exact BK424.out)) : gb424 ≠ gb450)); have n14_ := Aside0.mk ((by rw [hg]; exact Nat.ne_of_gt (blk_lt (g := gb424) (o := .cells #[.int .i64 a0_0, .slice A0_1 l0_1.length c0_1, .slice A0_2 l0_2.length c0_2] 25 (0, 0)) (by (with_reducible repeat (first | refine blk_drewN ?_ _ | refine blk_drew ?_ | refine blk_alloc ?_ _)); exact BK424.out)) : gb450 ≠ gb424)); have n15_ := Aside0.mk ((by rw [hg]; exact Nat.ne_of_lt (blk_lt (g := gb437) (o := .cells #[.slice Ao23 t433.length co23] 38 (0, 0)) (by (with_reducible repeat (first | refine blk_drewN ?_ _ | refine blk_drew ?_ | refine blk_alloc ?_ _)); exact BK437.out)) : gb437 ≠ gb450)); have n16_ := Aside0.mk ((by rw [hg]; exact Nat.ne_of_gt (blk_lt (g := gb437) (o := .cells #[.slice Ao23 t433.length co23] 38 (0, 0)) (by (with_reducible repeat (first | refine blk_drewN ?_ _ | refine blk_drew ?_ | refine blk_alloc ?_ _)); exact BK437.out)) : gb450 ≠ gb437)); have n17_ := Aside0.mk ((by rw [hg]; exact Nat.ne_of_lt (blk_lt (g := gb445) (o := .cells #[.int .i64 t438, .slice Ao33 t439.length co33, .slice Ao34 t442.length co34] 29 (0, 0)) (by (with_reducible repeat (first | refine blk_drewN ?_ _ | refine blk_drew ?_ | refine blk_alloc ?_ _)); exact BK445.out)) : gb445 ≠ gb450)); have n18_ := Aside0.mk ((by rw [hg]; exact Nat.ne_of_gt (blk_lt (g := gb445) (o := .cells #[.int .i64 t438, .slice Ao33 t439.length co33, .slice Ao34 t442.length co34] 29 (0, 0)) (by (with_reducible repeat (first | refine blk_drewN ?_ _ | refine blk_drew ?_ | refine blk_alloc ?_ _)); exact BK445.out)) : gb450 ≠ gb445)); clear HO429; clear HO432; clear HO435; clear HO441; clear HO444; clear HO448; clear BK424; clear BK437; clear BK445; clear HB; have HO429 := n0_; have HO432 := n1_; have HO435 := n2_; have HO441 := n3_; have HO444 := n4_; have HO448 := n5_; have BK424 := n6_; have BK437 := n7_; have BK445 := n8_; have HB := n9_; have BK450 := n10_; have GW450 := n11_; have GE450 := n12_; have NB424_450 := n13_; have NB450_424 := n14_; have NB437_450 := n15_; have NB450_437 := n16_; have NB445_450 := n17_; have NB450_445 := n18_; clear n0_ n1_ n2_ n3_ n4_ n5_ n6_ n7_ n8_ n9_ n10_ n11_ n12_ n13_ n14_ n15_ n16_ n17_ n18_; clear hb hbox hg; obtain ⟨Ao37, co37, eo37⟩ := Kd.R_slice HO448.out; subst eo37; have hnb38 := NB450_424.out; have hnc38 := NB424_450.out; have hnb39 := NB450_437.out; have hnc39 := NB437_450.out; have hnb40 := NB450_445.out; have hnc40 := NB445_450.out; have hcz41_0 : w36.cell? ⟨gb450, 0, none⟩ = some (.slice none 0 0) := (blk_cell BK450.out 0).trans rfl; have hfz41_0 := blk_frozen BK450.out 0))
    (try simp only [Act.put, List.setIfInBounds_toArray, List.set_cons_zero, List.set_cons_succ])
    go_cut [44] (fun v44 wc => ∃ (kq : Nat) (x44_11 : Bool), v44 = .bool x44_11 ∧ Aside0 (laws_FnExactFirstOfState.j0 kq a1 t436 t449 x44_11 a0_0 l0_1 l0_2 t433 t438 t439 t442 t446 = some r) ∧ Aside0 (kq ≤ k) ∧ Aside0 (Kd.V (Kd.int .i64) 2 wc w.heap.size (fun k_ => some k_ ≠ ((.slice Ao33 t439.length co33) : Value).ownBlock ∧ some k_ ≠ ((.slice Ao34 t442.length co34) : Value).ownBlock ∧ some k_ ≠ ((.slice Ao37 t446.length co37) : Value).ownBlock ∧ k_ ≠ gb424 ∧ k_ ≠ gb437 ∧ k_ ≠ gb445 ∧ k_ ≠ gb450 ∧ k_ ≠ lt_ N28 k_) (.slice Ao23 t433.length co23) t433) ∧ Aside0 (Kd.S (Kd.slice 2 (Kd.int .i64)) 23 wc w.heap.size (fun k_ => some k_ ≠ ((.slice Ao34 t442.length co34) : Value).ownBlock ∧ some k_ ≠ ((.slice Ao37 t446.length co37) : Value).ownBlock ∧ k_ ≠ ge_ N28 k_) (.slice Ao33 t439.length co33) t439) ∧ Aside0 (Kd.R (Kd.int .i64) 2 wc w.heap.size (fun k_ => some k_ ≠ ((.slice Ao37 t446.length co37) : Value).ownBlock) (.slice Ao34 t442.length co34) t442) ∧ Aside0 (Kd.R (Kd.int .i64) 2 wc w.heap.size (fun k_ => some k_ ≠ ((.slice Ao34 t442.length co34) : Value).ownBlock) (.slice Ao37 t446.length co37) t446) ∧ Aside0 (wc.heap[gb424]? = some (.cells #[.int .i64 a0_0, (.slice A0_1 l0_1.length c0_1), (.slice A0_2 l0_2.length c0_2)] 25 (0, 0))) ∧ Aside0 (wc.heap[gb437]? = some (.cells #[(.slice Ao23 t433.length co23)] 38 (0, 0))) ∧ Aside0 (wc.heap[gb445]? = some (.cells #[.int .i64 t438, (.slice Ao33 t439.length co33), (.slice Ao34 t442.length co34)] 29 (0, 0))) ∧ Aside0 (wc.heap[gb450]? = some (.cells #[(.slice Ao37 t446.length co37)] 38 (0, 0))) ∧ Aside0 (Below w.heap.size w wc))
    case first =>
      have H := HC12.out
      clear HC12
      replace H := Option.bind_eq_some_iff.mp H
      obtain ⟨t451, A420, H⟩ := H
      replace H : (if t451 = true then (laws_FnExactFirstOfState.j0 k a1 t436 t449 (t449 != t436) a0_0 l0_1 l0_2 t433 t438 t439 t442 t446) else (laws_FnExactFirstOfState.j0 k a1 t436 t449 true a0_0 l0_1 l0_2 t433 t438 t439 t442 t446)) = some r := H
      have A42 := Aside0.mk A420
      clear A420
      by_cases c43 : t451 = true
      · subst c43
        have H1 : (laws_FnExactFirstOfState.j0 k a1 t436 t449 (t449 != t436) a0_0 l0_1 l0_2 t433 t438 t439 t442 t446) = some r := by rw [if_pos rfl] at H; exact H
        clear H
        have H := H1
        clear H1
        have H' := Aside0.mk H
        clear H
        have hnb44 := NB450_424.out
        have hnc44 := NB424_450.out
        have hnb45 := NB450_437.out
        have hnc45 := NB437_450.out
        have hnb46 := NB450_445.out
        have hnc46 := NB445_450.out
        have hcz47_0 : w36.cell? ⟨gb450, 0, none⟩ = some (.slice none 0 0) := (blk_cell BK450.out 0).trans rfl
        have hfz47_0 := blk_frozen BK450.out 0
        have hnb48 := NB437_424.out
        have hnc48 := NB424_437.out
        have hnb49 := NB437_445.out
        have hnc49 := NB445_437.out
        have hcz50_0 : w36.cell? ⟨gb437, 0, none⟩ = some (.slice Ao23 t433.length co23) := (blk_cell BK437.out 0).trans rfl
        have hfz50_0 := blk_frozen BK437.out 0
        go_wp2_with (first | ((with_reducible refine gate_callee (f := 19) rfl ?_); refine goesL_ (some 38) rfl rfl Try.func19 (by kernel_rfl) rfl #[.agg #[.slice Ao37 t446.length co37], .agg #[.slice Ao23 t433.length co23]] rfl (by (try simp only [List.map_toArray, List.map_cons, List.map_nil]); first | done | rfl | (simp only [List.length_drop, List.length_take]; rfl)) ?_; (with_reducible refine (laws_eqTree.calls k _ _ t446 _ _ t433 true _ ?side1 ?side2 ?side3 ?side4 A42.out).mono ?_); (case side1 => refine (Kd.R_reads' (e := 2) (base := w.heap.size) (ok := fun k_ => ((True ∧ some k_ ≠ (.slice Ao20 t430.length co20 : Value).ownBlock) ∧ some k_ ≠ (.slice Ao34 t442.length co34 : Value).ownBlock)) (n := t446.length) (c := co37) ?_).2.2; exact (by (with_reducible repeat (first | apply Kd.R_alloc | apply Kd.R_drewN | apply Kd.R_drew)); exact (Kd.R_mono (Kd.R_far (p := ⟨gb450, 0, none⟩) (Kd.R_types HO448.out BK450.out (by decide)) (fun _ hk => hk.2) (.slice Ao37 t446.length co37)) (fun _ h_ => h_.1)))); (case side2 => exact (Kd.R_reads' HO448.out).2.1); (case side3 => refine (Kd.V_reads' (e := 2) (base := w.heap.size) (ok := fun k_ => ((((((((some k_ ≠ (.slice Ao19 t427.length co19 : Value).ownBlock ∧ (some k_ ≠ (.slice Ao20 t430.length co20 : Value).ownBlock ∧ k_ ≠ gb424)) ∧ k_ ≠ gb437) ∧ k_ ≠ lt_ N28 k_) ∧ some k_ ≠ (.slice Ao33 t439.length co33 : Value).ownBlock) ∧ some k_ ≠ (.slice Ao34 t442.length co34 : Value).ownBlock) ∧ k_ ≠ gb445) ∧ some k_ ≠ (.slice Ao37 t446.length co37 : Value).ownBlock) ∧ k_ ≠ gb450)) (n := t433.length) (c := co23) ?_).2.2; exact (by (with_reducible repeat (first | apply Kd.V_alloc | apply Kd.V_drewN | apply Kd.V_drew)); exact (Kd.V_mono (Kd.V_far (p := ⟨gb450, 0, none⟩) (Kd.V_mono HO435.out (fun k_ hk => (⟨hk, hk.2⟩ : _ ∧ k_ ≠ gb450))) (fun _ hk => hk.2) (.slice Ao37 t446.length co37)) (fun _ h_ => h_.1)))); (case side4 => exact (Kd.V_reads' HO435.out).2.1); rintro e w51 ⟨rfl, hb⟩; refine ⟨_, rfl, ?_⟩; have n0_ := Aside0.mk (Kd.S_below (by (with_reducible repeat (first | apply Kd.S_alloc | apply Kd.S_drewN | apply Kd.S_drew)); exact (Kd.S_mono (Kd.S_far (p := ⟨gb450, 0, none⟩) (Kd.S_types HO429.out BK450.out (by decide)) (fun _ hk => hk.2) (.slice Ao37 t446.length co37)) (fun _ h_ => h_.1))) hb); have n1_ := Aside0.mk (Kd.R_below (by (with_reducible repeat (first | apply Kd.R_alloc | apply Kd.R_drewN | apply Kd.R_drew)); exact (Kd.R_mono (Kd.R_far (p := ⟨gb450, 0, none⟩) (Kd.R_types HO432.out BK450.out (by decide)) (fun _ hk => hk.2) (.slice Ao37 t446.length co37)) (fun _ h_ => h_.1))) hb); have n2_ := Aside0.mk (Kd.V_below (by (with_reducible repeat (first | apply Kd.V_alloc | apply Kd.V_drewN | apply Kd.V_drew)); exact (Kd.V_mono (Kd.V_far (p := ⟨gb450, 0, none⟩) (Kd.V_mono HO435.out (fun k_ hk => (⟨hk, hk.2⟩ : _ ∧ k_ ≠ gb450))) (fun _ hk => hk.2) (.slice Ao37 t446.length co37)) (fun _ h_ => h_.1))) hb); have n3_ := Aside0.mk (Kd.S_below (by (with_reducible repeat (first | apply Kd.S_alloc | apply Kd.S_drewN | apply Kd.S_drew)); exact (Kd.S_mono (Kd.S_far (p := ⟨gb450, 0, none⟩) (Kd.S_types HO441.out BK450.out (by decide)) (fun _ hk => hk.2) (.slice Ao37 t446.length co37)) (fun _ h_ => h_.1))) hb); have n4_ := Aside0.mk (Kd.R_below (by (with_reducible repeat (first | apply Kd.R_alloc | apply Kd.R_drewN | apply Kd.R_drew)); exact (Kd.R_mono (Kd.R_far (p := ⟨gb450, 0, none⟩) (Kd.R_types HO444.out BK450.out (by decide)) (fun _ hk => hk.2) (.slice Ao37 t446.length co37)) (fun _ h_ => h_.1))) hb); have n5_ := Aside0.mk (Kd.R_below (by (with_reducible repeat (first | apply Kd.R_alloc | apply Kd.R_drewN | apply Kd.R_drew)); exact (Kd.R_mono (Kd.R_far (p := ⟨gb450, 0, none⟩) (Kd.R_types HO448.out BK450.out (by decide)) (fun _ hk => hk.2) (.slice Ao37 t446.length co37)) (fun _ h_ => h_.1))) hb); have n6_ := Aside0.mk (blk_below (g := gb424) (o := .cells #[.int .i64 a0_0, .slice A0_1 l0_1.length c0_1, .slice A0_2 l0_2.length c0_2] 25 (0, 0)) (by (with_reducible repeat (first | refine blk_drewN ?_ _ | refine blk_drew ?_ | refine blk_alloc ?_ _)); refine blk_far ?_ NB424_450.out _; (with_reducible repeat (first | refine blk_drewN ?_ _ | refine blk_drew ?_ | refine blk_alloc ?_ _)); exact BK424.out) hb); have n7_ := Aside0.mk (blk_below (g := gb437) (o := .cells #[.slice Ao23 t433.length co23] 38 (0, 0)) (by (with_reducible repeat (first | refine blk_drewN ?_ _ | refine blk_drew ?_ | refine blk_alloc ?_ _)); refine blk_far ?_ NB437_450.out _; (with_reducible repeat (first | refine blk_drewN ?_ _ | refine blk_drew ?_ | refine blk_alloc ?_ _)); exact BK437.out) hb); have n8_ := Aside0.mk (blk_below (g := gb445) (o := .cells #[.int .i64 t438, .slice Ao33 t439.length co33, .slice Ao34 t442.length co34] 29 (0, 0)) (by (with_reducible repeat (first | refine blk_drewN ?_ _ | refine blk_drew ?_ | refine blk_alloc ?_ _)); refine blk_far ?_ NB445_450.out _; (with_reducible repeat (first | refine blk_drewN ?_ _ | refine blk_drew ?_ | refine blk_alloc ?_ _)); exact BK445.out) hb); have n9_ := Aside0.mk (blk_below (g := gb450) (o := .cells #[.slice Ao37 t446.length co37] 38 (0, 0)) (by (with_reducible repeat (first | refine blk_drewN ?_ _ | refine blk_drew ?_ | refine blk_alloc ?_ _)); refine blk_put (cs := #[.slice none 0 0]) ?_ 0 _ rfl; (with_reducible repeat (first | refine blk_drewN ?_ _ | refine blk_drew ?_ | refine blk_alloc ?_ _)); exact BK450.out) hb); have n10_ := Aside0.mk (below_step (by repeat (first | (with_reducible first | exact HB.out | apply below_alloc | apply pw_below_drewN | apply below_drew1 | refine below_set ?_ GE424.out | refine below_set ?_ GE437.out | refine below_set ?_ GE445.out | refine below_set ?_ GE450.out) | exact HB.out)) hb); clear HO429; clear HO432; clear HO435; clear HO441; clear HO444; clear HO448; clear BK424; clear BK437; clear BK445; clear BK450; clear HB; have HO429 := n0_; have HO432 := n1_; have HO435 := n2_; have HO441 := n3_; have HO444 := n4_; have HO448 := n5_; have BK424 := n6_; have BK437 := n7_; have BK445 := n8_; have BK450 := n9_; have HB := n10_; clear n0_ n1_ n2_ n3_ n4_ n5_ n6_ n7_ n8_ n9_ n10_; (try clear hb); (try clear hb2); (try clear hk); (try clear hi)))
        go_meet
        case rel => exact ⟨_, ((t449 != t436)), (by first | rfl | (simp; done) | (simp [*]; done)), H', ⟨by first | omega | exact Nat.le_refl _⟩, ⟨by (with_reducible repeat (first | apply Kd.V_alloc | apply Kd.V_drewN | apply Kd.V_drew)); exact Kd.V_mono HO435.out (fun _ hk => ⟨hk.1.1.1.1.2, ⟨hk.1.1.1.2, ⟨hk.1.2, ⟨hk.1.1.1.1.1.1.1.2.2, ⟨hk.1.1.1.1.1.1.2, ⟨hk.1.1.2, ⟨hk.2, hk.1.1.1.1.1.2⟩⟩⟩⟩⟩⟩⟩)⟩, ⟨by (with_reducible repeat (first | apply Kd.S_alloc | apply Kd.S_drewN | apply Kd.S_drew)); exact Kd.S_mono HO441.out (fun _ hk => ⟨hk.1.1.1.1, ⟨hk.2, hk.1.1.1.2⟩⟩)⟩, ⟨by (with_reducible repeat (first | apply Kd.R_alloc | apply Kd.R_drewN | apply Kd.R_drew)); exact Kd.R_mono HO444.out (fun _ hk => hk.2)⟩, ⟨by (with_reducible repeat (first | apply Kd.R_alloc | apply Kd.R_drewN | apply Kd.R_drew)); exact Kd.R_mono HO448.out (fun _ hk => hk.2)⟩, ⟨by (with_reducible repeat (first | refine blk_drewN ?_ _ | refine blk_drew ?_ | refine blk_alloc ?_ _)); exact BK424.out⟩, ⟨by (with_reducible repeat (first | refine blk_drewN ?_ _ | refine blk_drew ?_ | refine blk_alloc ?_ _)); exact BK437.out⟩, ⟨by (with_reducible repeat (first | refine blk_drewN ?_ _ | refine blk_drew ?_ | refine blk_alloc ?_ _)); exact BK445.out⟩, ⟨by (with_reducible repeat (first | refine blk_drewN ?_ _ | refine blk_drew ?_ | refine blk_alloc ?_ _)); exact BK450.out⟩, ⟨by repeat (first | (with_reducible first | exact HB.out | apply below_alloc | apply pw_below_drewN | apply below_drew1 | refine below_set ?_ GE424.out | refine below_set ?_ GE437.out | refine below_set ?_ GE445.out | refine below_set ?_ GE450.out) | exact HB.out)⟩⟩
      · replace c43 := Bool.eq_false_iff.mpr c43
        subst c43
        have H1 : (laws_FnExactFirstOfState.j0 k a1 t436 t449 true a0_0 l0_1 l0_2 t433 t438 t439 t442 t446) = some r := by rw [if_neg (show ¬ (false = true) by decide)] at H; exact H
        clear H
        have H := H1
        clear H1
        have H' := Aside0.mk H
        clear H
        have hnb52 := NB450_424.out
        have hnc52 := NB424_450.out
        have hnb53 := NB450_437.out
        have hnc53 := NB437_450.out
        have hnb54 := NB450_445.out
        have hnc54 := NB445_450.out
        have hcz55_0 : w36.cell? ⟨gb450, 0, none⟩ = some (.slice none 0 0) := (blk_cell BK450.out 0).trans rfl
        have hfz55_0 := blk_frozen BK450.out 0
        have hnb56 := NB437_424.out
        have hnc56 := NB424_437.out
        have hnb57 := NB437_445.out
        have hnc57 := NB445_437.out
        have hcz58_0 : w36.cell? ⟨gb437, 0, none⟩ = some (.slice Ao23 t433.length co23) := (blk_cell BK437.out 0).trans rfl
        have hfz58_0 := blk_frozen BK437.out 0
        go_wp2_with (first | ((with_reducible refine gate_callee (f := 19) rfl ?_); refine goesL_ (some 38) rfl rfl Try.func19 (by kernel_rfl) rfl #[.agg #[.slice Ao37 t446.length co37], .agg #[.slice Ao23 t433.length co23]] rfl (by (try simp only [List.map_toArray, List.map_cons, List.map_nil]); first | done | rfl | (simp only [List.length_drop, List.length_take]; rfl)) ?_; (with_reducible refine (laws_eqTree.calls k _ _ t446 _ _ t433 false _ ?side1 ?side2 ?side3 ?side4 A42.out).mono ?_); (case side1 => refine (Kd.R_reads' (e := 2) (base := w.heap.size) (ok := fun k_ => ((True ∧ some k_ ≠ (.slice Ao20 t430.length co20 : Value).ownBlock) ∧ some k_ ≠ (.slice Ao34 t442.length co34 : Value).ownBlock)) (n := t446.length) (c := co37) ?_).2.2; exact (by (with_reducible repeat (first | apply Kd.R_alloc | apply Kd.R_drewN | apply Kd.R_drew)); exact (Kd.R_mono (Kd.R_far (p := ⟨gb450, 0, none⟩) (Kd.R_types HO448.out BK450.out (by decide)) (fun _ hk => hk.2) (.slice Ao37 t446.length co37)) (fun _ h_ => h_.1)))); (case side2 => exact (Kd.R_reads' HO448.out).2.1); (case side3 => refine (Kd.V_reads' (e := 2) (base := w.heap.size) (ok := fun k_ => ((((((((some k_ ≠ (.slice Ao19 t427.length co19 : Value).ownBlock ∧ (some k_ ≠ (.slice Ao20 t430.length co20 : Value).ownBlock ∧ k_ ≠ gb424)) ∧ k_ ≠ gb437) ∧ k_ ≠ lt_ N28 k_) ∧ some k_ ≠ (.slice Ao33 t439.length co33 : Value).ownBlock) ∧ some k_ ≠ (.slice Ao34 t442.length co34 : Value).ownBlock) ∧ k_ ≠ gb445) ∧ some k_ ≠ (.slice Ao37 t446.length co37 : Value).ownBlock) ∧ k_ ≠ gb450)) (n := t433.length) (c := co23) ?_).2.2; exact (by (with_reducible repeat (first | apply Kd.V_alloc | apply Kd.V_drewN | apply Kd.V_drew)); exact (Kd.V_mono (Kd.V_far (p := ⟨gb450, 0, none⟩) (Kd.V_mono HO435.out (fun k_ hk => (⟨hk, hk.2⟩ : _ ∧ k_ ≠ gb450))) (fun _ hk => hk.2) (.slice Ao37 t446.length co37)) (fun _ h_ => h_.1)))); (case side4 => exact (Kd.V_reads' HO435.out).2.1); rintro e w59 ⟨rfl, hb⟩; refine ⟨_, rfl, ?_⟩; have n0_ := Aside0.mk (Kd.S_below (by (with_reducible repeat (first | apply Kd.S_alloc | apply Kd.S_drewN | apply Kd.S_drew)); exact (Kd.S_mono (Kd.S_far (p := ⟨gb450, 0, none⟩) (Kd.S_types HO429.out BK450.out (by decide)) (fun _ hk => hk.2) (.slice Ao37 t446.length co37)) (fun _ h_ => h_.1))) hb); have n1_ := Aside0.mk (Kd.R_below (by (with_reducible repeat (first | apply Kd.R_alloc | apply Kd.R_drewN | apply Kd.R_drew)); exact (Kd.R_mono (Kd.R_far (p := ⟨gb450, 0, none⟩) (Kd.R_types HO432.out BK450.out (by decide)) (fun _ hk => hk.2) (.slice Ao37 t446.length co37)) (fun _ h_ => h_.1))) hb); have n2_ := Aside0.mk (Kd.V_below (by (with_reducible repeat (first | apply Kd.V_alloc | apply Kd.V_drewN | apply Kd.V_drew)); exact (Kd.V_mono (Kd.V_far (p := ⟨gb450, 0, none⟩) (Kd.V_mono HO435.out (fun k_ hk => (⟨hk, hk.2⟩ : _ ∧ k_ ≠ gb450))) (fun _ hk => hk.2) (.slice Ao37 t446.length co37)) (fun _ h_ => h_.1))) hb); have n3_ := Aside0.mk (Kd.S_below (by (with_reducible repeat (first | apply Kd.S_alloc | apply Kd.S_drewN | apply Kd.S_drew)); exact (Kd.S_mono (Kd.S_far (p := ⟨gb450, 0, none⟩) (Kd.S_types HO441.out BK450.out (by decide)) (fun _ hk => hk.2) (.slice Ao37 t446.length co37)) (fun _ h_ => h_.1))) hb); have n4_ := Aside0.mk (Kd.R_below (by (with_reducible repeat (first | apply Kd.R_alloc | apply Kd.R_drewN | apply Kd.R_drew)); exact (Kd.R_mono (Kd.R_far (p := ⟨gb450, 0, none⟩) (Kd.R_types HO444.out BK450.out (by decide)) (fun _ hk => hk.2) (.slice Ao37 t446.length co37)) (fun _ h_ => h_.1))) hb); have n5_ := Aside0.mk (Kd.R_below (by (with_reducible repeat (first | apply Kd.R_alloc | apply Kd.R_drewN | apply Kd.R_drew)); exact (Kd.R_mono (Kd.R_far (p := ⟨gb450, 0, none⟩) (Kd.R_types HO448.out BK450.out (by decide)) (fun _ hk => hk.2) (.slice Ao37 t446.length co37)) (fun _ h_ => h_.1))) hb); have n6_ := Aside0.mk (blk_below (g := gb424) (o := .cells #[.int .i64 a0_0, .slice A0_1 l0_1.length c0_1, .slice A0_2 l0_2.length c0_2] 25 (0, 0)) (by (with_reducible repeat (first | refine blk_drewN ?_ _ | refine blk_drew ?_ | refine blk_alloc ?_ _)); refine blk_far ?_ NB424_450.out _; (with_reducible repeat (first | refine blk_drewN ?_ _ | refine blk_drew ?_ | refine blk_alloc ?_ _)); exact BK424.out) hb); have n7_ := Aside0.mk (blk_below (g := gb437) (o := .cells #[.slice Ao23 t433.length co23] 38 (0, 0)) (by (with_reducible repeat (first | refine blk_drewN ?_ _ | refine blk_drew ?_ | refine blk_alloc ?_ _)); refine blk_far ?_ NB437_450.out _; (with_reducible repeat (first | refine blk_drewN ?_ _ | refine blk_drew ?_ | refine blk_alloc ?_ _)); exact BK437.out) hb); have n8_ := Aside0.mk (blk_below (g := gb445) (o := .cells #[.int .i64 t438, .slice Ao33 t439.length co33, .slice Ao34 t442.length co34] 29 (0, 0)) (by (with_reducible repeat (first | refine blk_drewN ?_ _ | refine blk_drew ?_ | refine blk_alloc ?_ _)); refine blk_far ?_ NB445_450.out _; (with_reducible repeat (first | refine blk_drewN ?_ _ | refine blk_drew ?_ | refine blk_alloc ?_ _)); exact BK445.out) hb); have n9_ := Aside0.mk (blk_below (g := gb450) (o := .cells #[.slice Ao37 t446.length co37] 38 (0, 0)) (by (with_reducible repeat (first | refine blk_drewN ?_ _ | refine blk_drew ?_ | refine blk_alloc ?_ _)); refine blk_put (cs := #[.slice none 0 0]) ?_ 0 _ rfl; (with_reducible repeat (first | refine blk_drewN ?_ _ | refine blk_drew ?_ | refine blk_alloc ?_ _)); exact BK450.out) hb); have n10_ := Aside0.mk (below_step (by repeat (first | (with_reducible first | exact HB.out | apply below_alloc | apply pw_below_drewN | apply below_drew1 | refine below_set ?_ GE424.out | refine below_set ?_ GE437.out | refine below_set ?_ GE445.out | refine below_set ?_ GE450.out) | exact HB.out)) hb); clear HO429; clear HO432; clear HO435; clear HO441; clear HO444; clear HO448; clear BK424; clear BK437; clear BK445; clear BK450; clear HB; have HO429 := n0_; have HO432 := n1_; have HO435 := n2_; have HO441 := n3_; have HO444 := n4_; have HO448 := n5_; have BK424 := n6_; have BK437 := n7_; have BK445 := n8_; have BK450 := n9_; have HB := n10_; clear n0_ n1_ n2_ n3_ n4_ n5_ n6_ n7_ n8_ n9_ n10_; (try clear hb); (try clear hb2); (try clear hk); (try clear hi)))
        go_meet
        case rel => exact ⟨_, (true), (by first | rfl | (simp; done) | (simp [*]; done)), H', ⟨by first | omega | exact Nat.le_refl _⟩, ⟨by (with_reducible repeat (first | apply Kd.V_alloc | apply Kd.V_drewN | apply Kd.V_drew)); exact Kd.V_mono HO435.out (fun _ hk => ⟨hk.1.1.1.1.2, ⟨hk.1.1.1.2, ⟨hk.1.2, ⟨hk.1.1.1.1.1.1.1.2.2, ⟨hk.1.1.1.1.1.1.2, ⟨hk.1.1.2, ⟨hk.2, hk.1.1.1.1.1.2⟩⟩⟩⟩⟩⟩⟩)⟩, ⟨by (with_reducible repeat (first | apply Kd.S_alloc | apply Kd.S_drewN | apply Kd.S_drew)); exact Kd.S_mono HO441.out (fun _ hk => ⟨hk.1.1.1.1, ⟨hk.2, hk.1.1.1.2⟩⟩)⟩, ⟨by (with_reducible repeat (first | apply Kd.R_alloc | apply Kd.R_drewN | apply Kd.R_drew)); exact Kd.R_mono HO444.out (fun _ hk => hk.2)⟩, ⟨by (with_reducible repeat (first | apply Kd.R_alloc | apply Kd.R_drewN | apply Kd.R_drew)); exact Kd.R_mono HO448.out (fun _ hk => hk.2)⟩, ⟨by (with_reducible repeat (first | refine blk_drewN ?_ _ | refine blk_drew ?_ | refine blk_alloc ?_ _)); exact BK424.out⟩, ⟨by (with_reducible repeat (first | refine blk_drewN ?_ _ | refine blk_drew ?_ | refine blk_alloc ?_ _)); exact BK437.out⟩, ⟨by (with_reducible repeat (first | refine blk_drewN ?_ _ | refine blk_drew ?_ | refine blk_alloc ?_ _)); exact BK445.out⟩, ⟨by (with_reducible repeat (first | refine blk_drewN ?_ _ | refine blk_drew ?_ | refine blk_alloc ?_ _)); exact BK450.out⟩, ⟨by repeat (first | (with_reducible first | exact HB.out | apply below_alloc | apply pw_below_drewN | apply below_drew1 | refine below_set ?_ GE424.out | refine below_set ?_ GE437.out | refine below_set ?_ GE445.out | refine below_set ?_ GE450.out) | exact HB.out)⟩⟩
    case rest =>
      clear HC12
      try clear c1
      try clear c2
      try clear p2
      try clear c3
      try clear c4
      try clear c4b0
      try clear c5
      try clear c6
      try clear c8
      try clear c10
      try clear c19
      try clear c22
      try clear c23
      try clear c24
      try clear c30
      try clear c31
      try clear c38
      try clear c39
      try clear c40
      try clear c43
      try clear c44
      try clear c45
      try clear c46
      try clear c48
      try clear c49
      try clear c52
      try clear c53
      try clear c54
      try clear c56
      try clear c57
      try clear hcz14_0
      try clear hcz14_1
      try clear hcz14_2
      try clear hcz16_0
      try clear hcz16_1
      try clear hcz16_2
      try clear hcz25_0
      try clear hcz26_0
      try clear hcz26_1
      try clear hcz26_2
      try clear hcz32_0
      try clear hcz32_1
      try clear hcz32_2
      try clear hcz41_0
      try clear hcz47_0
      try clear hcz50_0
      try clear hcz55_0
      try clear hcz58_0
      try clear hcz6_0
      try clear hcz6_1
      try clear hcz6_2
      try clear hfz14_0
      try clear hfz14_1
      try clear hfz14_2
      try clear hfz16_0
      try clear hfz16_1
      try clear hfz16_2
      try clear hfz25_0
      try clear hfz26_0
      try clear hfz26_1
      try clear hfz26_2
      try clear hfz32_0
      try clear hfz32_1
      try clear hfz32_2
      try clear hfz41_0
      try clear hfz47_0
      try clear hfz50_0
      try clear hfz55_0
      try clear hfz58_0
      try clear hfz6_0
      try clear hfz6_1
      try clear hfz6_2
      obtain ⟨kq, x44_11, rfl, HA, HJ11, HO_438000, HO_446001, HO_446002, HO_451000, BK424, BK437, BK445, BK450, HB⟩ := hcut
      cases kq with
      | zero => exact absurd HA.out (by simp [laws_FnExactFirstOfState.j0])
      | succ kj11 =>
        have H := HA.out
        clear HA
        simp only [laws_FnExactFirstOfState.j0] at H
        by_cases c60 : x44_11 = true
        · subst c60
          have H1 : (some false) = some r := by rw [if_pos rfl] at H; exact H
          clear H
          have H := H1
          clear H1
          obtain rfl := Option.some.inj H
          go_wp2
          go_ret
          exact ⟨by first | rfl | (simp [errW_none, errW_some] <;> rfl) | (simp [*, errW_none, errW_some] <;> rfl), by repeat (first | (with_reducible first | exact HB.out | apply below_alloc | apply pw_below_drewN | apply below_drew1 | refine below_set ?_ GE424.out | refine below_set ?_ GE437.out | refine below_set ?_ GE445.out | refine below_set ?_ GE450.out) | exact HB.out)⟩
        · replace c60 := Bool.eq_false_iff.mpr c60
          subst c60
          have H1 : ((laws_toAutomaton.f kj11 a0_0 l0_1 l0_2).bind fun bt452 => ((laws_eqAutomaton.f kj11 t438 t439 t442 bt452.1 bt452.2.1 bt452.2.2).bind fun t459 => (if t459 = true then ((laws_markAutomaton.f kj11 t438 t439 t442 1).bind fun bt460 => (if bt460.1 < 0 then (laws_FnExactFirstOfState.j1 kj11 a1 t436 true a0_0 l0_1 l0_2 t433 t446) else ((laws_eqTree.f kj11 t446 t433).bind fun t463 => (if t463 = true then (laws_FnExactFirstOfState.j1 kj11 a1 t436 (t449 != t436) a0_0 l0_1 l0_2 t433 t446) else (laws_FnExactFirstOfState.j1 kj11 a1 t436 true a0_0 l0_1 l0_2 t433 t446))))) else (some false)))) = some r := by rw [if_neg (show ¬ (false = true) by decide)] at H; exact H
          clear H
          have H := H1
          clear H1
          replace H := Option.bind_eq_some_iff.mp H
          obtain ⟨⟨t452, t453, t456⟩, A610, H⟩ := H
          replace H : ((laws_eqAutomaton.f kj11 t438 t439 t442 t452 t453 t456).bind fun t459 => (if t459 = true then ((laws_markAutomaton.f kj11 t438 t439 t442 1).bind fun bt460 => (if bt460.1 < 0 then (laws_FnExactFirstOfState.j1 kj11 a1 t436 true a0_0 l0_1 l0_2 t433 t446) else ((laws_eqTree.f kj11 t446 t433).bind fun t463 => (if t463 = true then (laws_FnExactFirstOfState.j1 kj11 a1 t436 (t449 != t436) a0_0 l0_1 l0_2 t433 t446) else (laws_FnExactFirstOfState.j1 kj11 a1 t436 true a0_0 l0_1 l0_2 t433 t446))))) else (some false))) = some r := H
          have A61 := Aside0.mk A610
          clear A610
          replace H := Option.bind_eq_some_iff.mp H
          obtain ⟨t459, A620, H⟩ := H
          replace H : (if t459 = true then ((laws_markAutomaton.f kj11 t438 t439 t442 1).bind fun bt460 => (if bt460.1 < 0 then (laws_FnExactFirstOfState.j1 kj11 a1 t436 true a0_0 l0_1 l0_2 t433 t446) else ((laws_eqTree.f kj11 t446 t433).bind fun t463 => (if t463 = true then (laws_FnExactFirstOfState.j1 kj11 a1 t436 (t449 != t436) a0_0 l0_1 l0_2 t433 t446) else (laws_FnExactFirstOfState.j1 kj11 a1 t436 true a0_0 l0_1 l0_2 t433 t446))))) else (some false)) = some r := H
          have A62 := Aside0.mk A620
          clear A620
          by_cases c63 : t459 = true
          · subst c63
            have H1 : ((laws_markAutomaton.f kj11 t438 t439 t442 1).bind fun bt460 => (if bt460.1 < 0 then (laws_FnExactFirstOfState.j1 kj11 a1 t436 true a0_0 l0_1 l0_2 t433 t446) else ((laws_eqTree.f kj11 t446 t433).bind fun t463 => (if t463 = true then (laws_FnExactFirstOfState.j1 kj11 a1 t436 (t449 != t436) a0_0 l0_1 l0_2 t433 t446) else (laws_FnExactFirstOfState.j1 kj11 a1 t436 true a0_0 l0_1 l0_2 t433 t446))))) = some r := by rw [if_pos rfl] at H; exact H
            clear H
            have H := H1
            clear H1
            replace H := Option.bind_eq_some_iff.mp H
            obtain ⟨⟨t460, t461, t462⟩, A640, H⟩ := H
            replace H : (if t460 < 0 then (laws_FnExactFirstOfState.j1 kj11 a1 t436 true a0_0 l0_1 l0_2 t433 t446) else ((laws_eqTree.f kj11 t446 t433).bind fun t463 => (if t463 = true then (laws_FnExactFirstOfState.j1 kj11 a1 t436 (t449 != t436) a0_0 l0_1 l0_2 t433 t446) else (laws_FnExactFirstOfState.j1 kj11 a1 t436 true a0_0 l0_1 l0_2 t433 t446)))) = some r := H
            have A64 := Aside0.mk A640
            clear A640
            have HC65 := Aside0.mk H
            clear H
            try go_wp2
            have n0_ := Aside0.mk (Kd.V_drew HO_438000.out)
            have n1_ := Aside0.mk (Kd.S_drew HO_446001.out)
            have n2_ := Aside0.mk (Kd.R_drew HO_446002.out)
            have n3_ := Aside0.mk (Kd.R_drew HO_451000.out)
            have n4_ := Aside0.mk (blk_drew BK424.out)
            have n5_ := Aside0.mk (blk_drew BK437.out)
            have n6_ := Aside0.mk (blk_drew BK445.out)
            have n7_ := Aside0.mk (blk_drew BK450.out)
            have n8_ := Aside0.mk (below_drew1 HB.out)
            clear HO_438000
            clear HO_446001
            clear HO_446002
            clear HO_451000
            clear BK424
            clear BK437
            clear BK445
            clear BK450
            clear HB
            have HO_438000 := n0_
            have HO_446001 := n1_
            have HO_446002 := n2_
            have HO_451000 := n3_
            have BK424 := n4_
            have BK437 := n5_
            have BK445 := n6_
            have BK450 := n7_
            have HB := n8_
            clear n0_ n1_ n2_ n3_ n4_ n5_ n6_ n7_ n8_
            refine start_ (n := 5) (S := fun w' => w'.cell? ⟨gb445, 0, none⟩ = some (.int .i64 t438) ∧ w'.cell? ⟨gb445, 1, none⟩ = some (.slice Ao33 t439.length co33) ∧ w'.cell? ⟨gb445, 2, none⟩ = some (.slice Ao34 t442.length co34) ∧ w'.cell? ⟨gb424, 0, none⟩ = some (.int .i64 a0_0) ∧ w'.cell? ⟨gb424, 1, none⟩ = some (.slice A0_1 l0_1.length c0_1) ∧ w'.cell? ⟨gb424, 2, none⟩ = some (.slice A0_2 l0_2.length c0_2)) (ds := []) #[false, false, false, false, false] (by kernel_rfl) rfl rfl ⟨(blk_cell BK445.out 0).trans rfl, (blk_cell BK445.out 1).trans rfl, (blk_cell BK445.out 2).trans rfl, (blk_cell BK424.out 0).trans rfl, (blk_cell BK424.out 1).trans rfl, (blk_cell BK424.out 2).trans rfl⟩ (fun hHeld => ?_)
            generalize wc.drew = w66 at HO_438000 HO_446001 HO_446002 HO_451000 BK424 BK437 BK445 BK450 HB hHeld ⊢
            refine take_ (i := 0) (N := some 45) (v := ?_) (a' := ?_) #[true, false, false, false, false] rfl rfl (by kernel_rfl) (fun _ _ _ h => h) (Or.inl ⟨by rfl, ?_⟩) hHeld ?_ ?_
            rotate_left
            · rintro w' ⟨s0, s1, s2, s3, s4, s5⟩
              go_simp
              with_reducible rfl
            rotate_left
            · simp only [Act.put, List.setIfInBounds_toArray, List.set_cons_zero, List.set_cons_succ, i64_w, i32_w]
              rfl
            refine take_ (i := 1) (N := some 46) (v := ?_) (a' := ?_) #[true, true, false, false, false] rfl rfl (by kernel_rfl) (fun _ _ _ h => h) (Or.inl ⟨by rfl, ?_⟩) hHeld ?_ ?_
            rotate_left
            · rintro w' ⟨s0, s1, s2, s3, s4, s5⟩
              go_simp
              with_reducible rfl
            rotate_left
            · simp only [Act.put, List.setIfInBounds_toArray, List.set_cons_zero, List.set_cons_succ, i64_w, i32_w]
              rfl
            refine one_ (i := 2) (N := some 47) #[true, true, true, false, false] rfl rfl (by kernel_rfl) (by decide) (fun K hK => ?_)
            refine goes_ Try.func10 (by kernel_rfl) rfl #[.agg #[.int .i64 a0_0, .slice A0_1 l0_1.length c0_1, .slice A0_2 l0_2.length c0_2]] (by rfl) rfl rfl (by (try simp only [List.map_toArray, List.map_cons, List.map_nil]); first | done | rfl | (simp only [List.length_drop, List.length_take]; rfl)) ?_
            with_reducible refine (laws_toAutomaton.calls kj11 a0_0 _ _ l0_1 _ _ l0_2 t452 t453 t456 _ ?side1 ?side2 ?side3 ?side4 A61.out).mono ?_
            (case side1 => repeat (first | exact (Kd.C_below HR0_1.out HB.out) | (with_reducible refine Kd.C_alloc ?_ _) | (with_reducible refine Kd.C_drewN ?_ _) | (with_reducible refine Kd.C_drew ?_)))
            (case side2 => exact HC0_1.out)
            (case side3 => repeat (first | exact (Kd.C_below HR0_2.out HB.out) | (with_reducible refine Kd.C_alloc ?_ _) | (with_reducible refine Kd.C_drewN ?_ _) | (with_reducible refine Kd.C_drew ?_)))
            (case side4 => exact HC0_2.out)
            rintro e w67 ⟨v454, v457, rfl, ho0, ho1, hb⟩
            refine ⟨_, rfl, ?_⟩
            have n0_ := Aside0.mk (Kd.V_mono (Kd.V_told (Kd.V_told (Kd.V_old (by (with_reducible repeat (first | apply Kd.V_alloc | apply Kd.V_drewN | apply Kd.V_drew)); exact HO_438000.out) hb) (Kd.S_base ho0)) (Kd.R_base ho1)) (fun _ h_ => h_.1))
            have n1_ := Aside0.mk (Kd.S_mono (Kd.S_told (Kd.S_told (Kd.S_old (by (with_reducible repeat (first | apply Kd.S_alloc | apply Kd.S_drewN | apply Kd.S_drew)); exact HO_446001.out) hb) (Kd.S_base ho0)) (Kd.R_base ho1)) (fun _ h_ => h_.1))
            have n2_ := Aside0.mk (Kd.R_elder' (by (with_reducible repeat (first | apply Kd.R_alloc | apply Kd.R_drewN | apply Kd.R_drew)); exact HO_446002.out) (Kd.R_base ho1) hb)
            have n3_ := Aside0.mk (Kd.R_elder' (by (with_reducible repeat (first | apply Kd.R_alloc | apply Kd.R_drewN | apply Kd.R_drew)); exact HO_451000.out) (Kd.R_base ho1) hb)
            have n4_ := Aside0.mk (Kd.S_lower (Kd.S_new' (Kd.S_new' (Kd.S_new' ho0 (Kd.S_lt (by (with_reducible repeat (first | apply Kd.S_alloc | apply Kd.S_drewN | apply Kd.S_drew)); exact HO_446001.out))) (Kd.R_lt (by (with_reducible repeat (first | apply Kd.R_alloc | apply Kd.R_drewN | apply Kd.R_drew)); exact HO_446002.out))) (Kd.R_lt (by (with_reducible repeat (first | apply Kd.R_alloc | apply Kd.R_drewN | apply Kd.R_drew)); exact HO_451000.out))) (below_size (by repeat (first | (with_reducible first | exact HB.out | apply below_alloc | apply pw_below_drewN | apply below_drew1 | refine below_set ?_ GE424.out | refine below_set ?_ GE437.out | refine below_set ?_ GE445.out | refine below_set ?_ GE450.out) | exact HB.out))))
            have n5_ := Aside0.mk (Kd.R_lower (Kd.R_new' (Kd.R_new' ho1 (Kd.R_lt (by (with_reducible repeat (first | apply Kd.R_alloc | apply Kd.R_drewN | apply Kd.R_drew)); exact HO_446002.out))) (Kd.R_lt (by (with_reducible repeat (first | apply Kd.R_alloc | apply Kd.R_drewN | apply Kd.R_drew)); exact HO_451000.out))) (below_size (by repeat (first | (with_reducible first | exact HB.out | apply below_alloc | apply pw_below_drewN | apply below_drew1 | refine below_set ?_ GE424.out | refine below_set ?_ GE437.out | refine below_set ?_ GE445.out | refine below_set ?_ GE450.out) | exact HB.out))))
            have n6_ := Aside0.mk (blk_below (g := gb424) (o := .cells #[.int .i64 a0_0, .slice A0_1 l0_1.length c0_1, .slice A0_2 l0_2.length c0_2] 25 (0, 0)) (by (with_reducible repeat (first | refine blk_drewN ?_ _ | refine blk_drew ?_ | refine blk_alloc ?_ _)); exact BK424.out) hb)
            have n7_ := Aside0.mk (blk_below (g := gb437) (o := .cells #[.slice Ao23 t433.length co23] 38 (0, 0)) (by (with_reducible repeat (first | refine blk_drewN ?_ _ | refine blk_drew ?_ | refine blk_alloc ?_ _)); exact BK437.out) hb)
            have n8_ := Aside0.mk (blk_below (g := gb445) (o := .cells #[.int .i64 t438, .slice Ao33 t439.length co33, .slice Ao34 t442.length co34] 29 (0, 0)) (by (with_reducible repeat (first | refine blk_drewN ?_ _ | refine blk_drew ?_ | refine blk_alloc ?_ _)); exact BK445.out) hb)
            have n9_ := Aside0.mk (blk_below (g := gb450) (o := .cells #[.slice Ao37 t446.length co37] 38 (0, 0)) (by (with_reducible repeat (first | refine blk_drewN ?_ _ | refine blk_drew ?_ | refine blk_alloc ?_ _)); exact BK450.out) hb)
            have n10_ := Aside0.mk (below_step (by repeat (first | (with_reducible first | exact HB.out | apply below_alloc | apply pw_below_drewN | apply below_drew1 | refine below_set ?_ GE424.out | refine below_set ?_ GE437.out | refine below_set ?_ GE445.out | refine below_set ?_ GE450.out) | exact HB.out)) hb)
            clear HO_438000
            clear HO_446001
            clear HO_446002
            clear HO_451000
            clear BK424
            clear BK437
            clear BK445
            clear BK450
            clear HB
            have HO_438000 := n0_
            have HO_446001 := n1_
            have HO_446002 := n2_
            have HO_451000 := n3_
            have HO455 := n4_
            have HO458 := n5_
            have BK424 := n6_
            have BK437 := n7_
            have BK445 := n8_
            have BK450 := n9_
            have HB := n10_
            clear n0_ n1_ n2_ n3_ n4_ n5_ n6_ n7_ n8_ n9_ n10_
            (try clear hb)
            (try clear hb2)
            (try clear hk)
            (try clear hi)
            (try clear ho0)
            (try clear ho1)
            obtain ⟨Ao68, co68, eo68⟩ := Kd.S_slice HO455.out
            (first | subst eo68 | (injection eo68 with f1_ f2_ f3_; have f4_ := f1_.symm; have f5_ := f3_.symm; clear f1_ f2_ f3_; subst f4_; subst f5_))
            obtain ⟨Ao69, co69, eo69⟩ := Kd.R_slice HO458.out
            (first | subst eo69 | (injection eo69 with f1_ f2_ f3_; have f4_ := f1_.symm; have f5_ := f3_.symm; clear f1_ f2_ f3_; subst f4_; subst f5_))
            refine hK.out _ _ ⟨(blk_cell BK445.out 0).trans rfl, (blk_cell BK445.out 1).trans rfl, (blk_cell BK445.out 2).trans rfl, (blk_cell BK424.out 0).trans rfl, (blk_cell BK424.out 1).trans rfl, (blk_cell BK424.out 2).trans rfl⟩ (fun hHeld => ?_)
            clear hK K
            refine norm_ (a' := ?_) ?_ ?_
            rotate_left
            · show Act.put _ (some 47) _ = _
              simp only [Act.put, List.setIfInBounds_toArray, List.set_cons_zero, List.set_cons_succ, i64_w, i32_w]
              rfl
            refine one_ (i := 3) (N := some 48) #[true, true, true, true, false] rfl rfl (by kernel_rfl) (by decide) (fun K hK => ?_)
            refine goes_ Try.func12 (by kernel_rfl) rfl #[.agg #[.int .i64 t438, .slice Ao33 t439.length co33, .slice Ao34 t442.length co34], .agg #[.int .i64 t452, .slice Ao68 t453.length co68, .slice Ao69 t456.length co69]] (by rfl) rfl rfl (by (try simp only [List.map_toArray, List.map_cons, List.map_nil]); first | done | rfl | (simp only [List.length_drop, List.length_take]; rfl)) ?_
            with_reducible refine (laws_eqAutomaton.calls kj11 t438 _ _ t439 _ _ t442 t452 _ _ t453 _ _ t456 true _ ?side1 ?side2 ?side3 ?side4 ?side5 ?side6 ?side7 ?side8 A62.out).mono ?_
            (case side1 => repeat (first | exact (Kd.S_reads' HO_446001.out).2.2 | (with_reducible refine Kd.C_alloc ?_ _) | (with_reducible refine Kd.C_drewN ?_ _) | (with_reducible refine Kd.C_drew ?_)))
            (case side2 => exact (Kd.S_reads' HO_446001.out).2.1)
            (case side3 => repeat (first | exact (Kd.R_reads' HO_446002.out).2.2 | (with_reducible refine Kd.C_alloc ?_ _) | (with_reducible refine Kd.C_drewN ?_ _) | (with_reducible refine Kd.C_drew ?_)))
            (case side4 => exact (Kd.R_reads' HO_446002.out).2.1)
            (case side5 => repeat (first | exact (Kd.S_reads' HO455.out).2.2 | (with_reducible refine Kd.C_alloc ?_ _) | (with_reducible refine Kd.C_drewN ?_ _) | (with_reducible refine Kd.C_drew ?_)))
            (case side6 => exact (Kd.S_reads' HO455.out).2.1)
            (case side7 => repeat (first | exact (Kd.R_reads' HO458.out).2.2 | (with_reducible refine Kd.C_alloc ?_ _) | (with_reducible refine Kd.C_drewN ?_ _) | (with_reducible refine Kd.C_drew ?_)))
            (case side8 => exact (Kd.R_reads' HO458.out).2.1)
            rintro e w70 ⟨rfl, hb⟩
            refine ⟨_, rfl, ?_⟩
            have n0_ := Aside0.mk (Kd.V_below (by (with_reducible repeat (first | apply Kd.V_alloc | apply Kd.V_drewN | apply Kd.V_drew)); exact HO_438000.out) hb)
            have n1_ := Aside0.mk (Kd.S_below (by (with_reducible repeat (first | apply Kd.S_alloc | apply Kd.S_drewN | apply Kd.S_drew)); exact HO_446001.out) hb)
            have n2_ := Aside0.mk (Kd.R_below (by (with_reducible repeat (first | apply Kd.R_alloc | apply Kd.R_drewN | apply Kd.R_drew)); exact HO_446002.out) hb)
            have n3_ := Aside0.mk (Kd.R_below (by (with_reducible repeat (first | apply Kd.R_alloc | apply Kd.R_drewN | apply Kd.R_drew)); exact HO_451000.out) hb)
            have n4_ := Aside0.mk (Kd.S_below (by (with_reducible repeat (first | apply Kd.S_alloc | apply Kd.S_drewN | apply Kd.S_drew)); exact HO455.out) hb)
            have n5_ := Aside0.mk (Kd.R_below (by (with_reducible repeat (first | apply Kd.R_alloc | apply Kd.R_drewN | apply Kd.R_drew)); exact HO458.out) hb)
            have n6_ := Aside0.mk (blk_below (g := gb424) (o := .cells #[.int .i64 a0_0, .slice A0_1 l0_1.length c0_1, .slice A0_2 l0_2.length c0_2] 25 (0, 0)) (by (with_reducible repeat (first | refine blk_drewN ?_ _ | refine blk_drew ?_ | refine blk_alloc ?_ _)); exact BK424.out) hb)
            have n7_ := Aside0.mk (blk_below (g := gb437) (o := .cells #[.slice Ao23 t433.length co23] 38 (0, 0)) (by (with_reducible repeat (first | refine blk_drewN ?_ _ | refine blk_drew ?_ | refine blk_alloc ?_ _)); exact BK437.out) hb)
            have n8_ := Aside0.mk (blk_below (g := gb445) (o := .cells #[.int .i64 t438, .slice Ao33 t439.length co33, .slice Ao34 t442.length co34] 29 (0, 0)) (by (with_reducible repeat (first | refine blk_drewN ?_ _ | refine blk_drew ?_ | refine blk_alloc ?_ _)); exact BK445.out) hb)
            have n9_ := Aside0.mk (blk_below (g := gb450) (o := .cells #[.slice Ao37 t446.length co37] 38 (0, 0)) (by (with_reducible repeat (first | refine blk_drewN ?_ _ | refine blk_drew ?_ | refine blk_alloc ?_ _)); exact BK450.out) hb)
            have n10_ := Aside0.mk (below_step (by repeat (first | (with_reducible first | exact HB.out | apply below_alloc | apply pw_below_drewN | apply below_drew1 | refine below_set ?_ GE424.out | refine below_set ?_ GE437.out | refine below_set ?_ GE445.out | refine below_set ?_ GE450.out) | exact HB.out)) hb)
            clear HO_438000
            clear HO_446001
            clear HO_446002
            clear HO_451000
            clear HO455
            clear HO458
            clear BK424
            clear BK437
            clear BK445
            clear BK450
            clear HB
            have HO_438000 := n0_
            have HO_446001 := n1_
            have HO_446002 := n2_
            have HO_451000 := n3_
            have HO455 := n4_
            have HO458 := n5_
            have BK424 := n6_
            have BK437 := n7_
            have BK445 := n8_
            have BK450 := n9_
            have HB := n10_
            clear n0_ n1_ n2_ n3_ n4_ n5_ n6_ n7_ n8_ n9_ n10_
            (try clear hb)
            (try clear hb2)
            (try clear hk)
            (try clear hi)
            refine hK.out _ _ ⟨(blk_cell BK445.out 0).trans rfl, (blk_cell BK445.out 1).trans rfl, (blk_cell BK445.out 2).trans rfl, (blk_cell BK424.out 0).trans rfl, (blk_cell BK424.out 1).trans rfl, (blk_cell BK424.out 2).trans rfl⟩ (fun hHeld => ?_)
            clear hK K
            refine norm_ (a' := ?_) ?_ ?_
            rotate_left
            · show Act.put _ (some 48) _ = _
              simp only [Act.put, List.setIfInBounds_toArray, List.set_cons_zero, List.set_cons_succ, i64_w, i32_w]
              rfl
            refine pure_ (i := 4) (N := some 49) (v := ?_) (a' := ?_) #[true, true, true, true, true] rfl rfl (by kernel_rfl) (fun _ _ _ h => h) (Or.inl ⟨by rfl, ?_⟩) ?_ ?_
            rotate_left
            · intro w'
              go_simp
              with_reducible rfl
            rotate_left
            · simp only [Act.put, List.setIfInBounds_toArray, List.set_cons_zero, List.set_cons_succ, i64_w, i32_w]
              rfl
            refine done_ (by kernel_rfl) ?_
            have hnb71 := NB445_424.out
            have hnc71 := NB424_445.out
            have hnb72 := NB445_437.out
            have hnc72 := NB437_445.out
            have hnb73 := NB445_450.out
            have hnc73 := NB450_445.out
            have hcz74_0 : w70.cell? ⟨gb445, 0, none⟩ = some (.int .i64 t438) := (blk_cell BK445.out 0).trans rfl
            have hcz74_1 : w70.cell? ⟨gb445, 1, none⟩ = some (.slice Ao33 t439.length co33) := (blk_cell BK445.out 1).trans rfl
            have hcz74_2 : w70.cell? ⟨gb445, 2, none⟩ = some (.slice Ao34 t442.length co34) := (blk_cell BK445.out 2).trans rfl
            have hfz74_0 := blk_frozen BK445.out 0
            have hfz74_1 := blk_frozen BK445.out 1
            have hfz74_2 := blk_frozen BK445.out 2
            go_upto_region 14 with (first | ((with_reducible refine gate_callee (f := 15) rfl ?_); refine goesL_ (some 52) rfl rfl Try.func15 (by kernel_rfl) rfl #[.agg #[.int .i64 t438, .slice Ao33 t439.length co33, .slice Ao34 t442.length co34], .int .i64 1] rfl (by (try simp only [List.map_toArray, List.map_cons, List.map_nil]); first | done | rfl | (simp only [List.length_drop, List.length_take]; rfl)) ?_; obtain ⟨PS75, hPS75, kPS75⟩ := S_open (HO_446001.out); (with_reducible refine (laws_markAutomaton.calls kj11 t438 PS75 (.slice Ao33 t439.length co33) t439 (fun k_ => some k_ = (.slice Ao34 t442.length co34 : Value).ownBlock) (.slice Ao34 t442.length co34) t442 1 t460 t461 t462 w _ ?side1 ?side2 ?side3 ?side4 A64.out).mono ?_); (case side1 => repeat (first | (with_reducible first | exact HB.out | apply below_alloc | apply pw_below_drewN | apply below_drew1 | refine below_set ?_ GE424.out | refine below_set ?_ GE437.out | refine below_set ?_ GE445.out | refine below_set ?_ GE450.out) | exact HB.out)); (case side2 => exact kPS75); (case side3 => exact fun k_ e_ e2_ => ((hPS75 k_ e_).1.1.1.1) e2_); (case side4 => exact Kd.R_tight rfl HO_446002.out); rintro e w76 ⟨rfl, hy0, hy1, hb, hkp⟩; refine ⟨_, rfl, ?_⟩; have n0_ := Aside0.mk (Kd.V_mono (ok' := fun k_ => some k_ ≠ (.slice Ao33 t439.length co33 : Value).ownBlock ∧ some k_ ≠ (.slice Ao34 t442.length co34 : Value).ownBlock ∧ some k_ ≠ (.slice Ao37 t446.length co37 : Value).ownBlock ∧ some k_ ≠ (.slice Ao69 t456.length co69 : Value).ownBlock ∧ k_ ≠ gb424 ∧ k_ ≠ gb437 ∧ k_ ≠ gb445 ∧ k_ ≠ gb450 ∧ k_ ≠ lt_ N28 k_) (Kd.V_keptB ((V_awayP (P := PS75) HO_438000.out (fun k_ h_ e_ => no_lap (h_.1.1.2.2.2.2.2.2.2) ((hPS75 k_ e_).1.1.1.2.2)))) hkp (fun k_ hk_ hs_ => Or.elim hs_ (fun e_ => (hk_.2) e_) (fun e_ => (hk_.1.1.1.2.1) e_))) (fun k_ hk_ => ⟨hk_.1.1.1.1.1, hk_.1.1.1.1.2.1, hk_.1.1.1.1.2.2.1, hk_.1.1.2, hk_.1.1.1.1.2.2.2.1, hk_.1.1.1.1.2.2.2.2.1, hk_.1.1.1.1.2.2.2.2.2.1, hk_.1.1.1.1.2.2.2.2.2.2.1, hk_.1.1.1.1.2.2.2.2.2.2.2⟩)); have n1_ := Aside0.mk (Kd.S_mono hy0 (fun k_ e_ => (hPS75 k_ e_).1)); have n2_ := Aside0.mk (Kd.R_reok rfl hy1 (fun k_ e_ => HO_446002.out.1 k_ e_)); have n3_ := Aside0.mk (Kd.R_mono (ok' := fun k_ => some k_ ≠ (.slice Ao34 t442.length co34 : Value).ownBlock ∧ some k_ ≠ (.slice Ao69 t456.length co69 : Value).ownBlock) (Kd.R_keptB ((R_awayS (P := PS75) rfl HO_451000.out (fun k_ e_ => (hPS75 k_ e_).1.1.1.2.1))) hkp (fun k_ hk_ hs_ => Or.elim hs_ (fun e_ => (hk_.2) e_) (fun e_ => (hk_.1.1) e_))) (fun k_ hk_ => ⟨hk_.1.1.1, hk_.1.1.2⟩)); have n4_ := Aside0.mk (blk_kept (by (with_reducible repeat (first | refine blk_drewN ?_ _ | refine blk_drew ?_ | refine blk_alloc ?_ _)); exact BK424.out) hkp (fun hs_ => Or.elim hs_ (fun e_ => (fun e_ => far_S (hPS75 _ e_).2.2.2 BK424.out (by decide)) e_) (fun e_ => (fun e_ => (Kd.R_ne HO_446002.out BK424.out (by decide)) e_) e_))); have n5_ := Aside0.mk (blk_kept (by (with_reducible repeat (first | refine blk_drewN ?_ _ | refine blk_drew ?_ | refine blk_alloc ?_ _)); exact BK437.out) hkp (fun hs_ => Or.elim hs_ (fun e_ => (fun e_ => far_S (hPS75 _ e_).2.2.2 BK437.out (by decide)) e_) (fun e_ => (fun e_ => (Kd.R_ne HO_446002.out BK437.out (by decide)) e_) e_))); have n6_ := Aside0.mk (blk_kept (by (with_reducible repeat (first | refine blk_drewN ?_ _ | refine blk_drew ?_ | refine blk_alloc ?_ _)); exact BK445.out) hkp (fun hs_ => Or.elim hs_ (fun e_ => (fun e_ => far_S (hPS75 _ e_).2.2.2 BK445.out (by decide)) e_) (fun e_ => (fun e_ => (Kd.R_ne HO_446002.out BK445.out (by decide)) e_) e_))); have n7_ := Aside0.mk (blk_kept (by (with_reducible repeat (first | refine blk_drewN ?_ _ | refine blk_drew ?_ | refine blk_alloc ?_ _)); exact BK450.out) hkp (fun hs_ => Or.elim hs_ (fun e_ => (fun e_ => far_S (hPS75 _ e_).2.2.2 BK450.out (by decide)) e_) (fun e_ => (fun e_ => (Kd.R_ne HO_446002.out BK450.out (by decide)) e_) e_))); have n8_ := Aside0.mk (Kd.R_mono (ok' := fun k_ => some k_ ≠ (.slice Ao34 t442.length co34 : Value).ownBlock ∧ some k_ ≠ (.slice Ao37 t446.length co37 : Value).ownBlock) (Kd.R_keptB ((R_awayS (P := PS75) rfl HO458.out (fun k_ e_ => (hPS75 k_ e_).1.2))) hkp (fun k_ hk_ hs_ => Or.elim hs_ (fun e_ => (hk_.2) e_) (fun e_ => (hk_.1.1.2) e_))) (fun k_ hk_ => ⟨hk_.1.1.1.2, hk_.1.1.2⟩)); have n9_ := Aside0.mk (hb); clear HO_438000; clear HO_446001; clear HO_446002; clear HO_451000; clear BK424; clear BK437; clear BK445; clear BK450; clear HO458; clear HB; clear HO455; have HO_438000 := n0_; have HO_446001 := n1_; have HO_446002 := n2_; have HO_451000 := n3_; have BK424 := n4_; have BK437 := n5_; have BK445 := n6_; have BK450 := n7_; have HO458 := n8_; have HB := n9_; clear n0_ n1_ n2_ n3_ n4_ n5_ n6_ n7_ n8_ n9_; (try clear hb); (try clear hkp); (try clear hy0); (try clear hy1); (try clear hPS75 kPS75)))
            (try simp only [Act.put, List.setIfInBounds_toArray, List.set_cons_zero, List.set_cons_succ])
            go_cut [65] (fun v65 wc => ∃ (kq : Nat) (x65_64 : Bool), v65 = .bool x65_64 ∧ Aside0 (laws_FnExactFirstOfState.j1 kq a1 t436 x65_64 a0_0 l0_1 l0_2 t433 t446 = some r) ∧ Aside0 (kq ≤ kj11) ∧ Aside0 (Kd.V (Kd.int .i64) 2 wc w.heap.size (fun k_ => some k_ ≠ ((.slice Ao33 t439.length co33) : Value).ownBlock ∧ some k_ ≠ ((.slice Ao34 t442.length co34) : Value).ownBlock ∧ some k_ ≠ ((.slice Ao37 t446.length co37) : Value).ownBlock ∧ k_ ≠ gb424 ∧ k_ ≠ gb437 ∧ k_ ≠ gb445 ∧ k_ ≠ gb450 ∧ k_ ≠ lt_ N28 k_) (.slice Ao23 t433.length co23) t433) ∧ Aside0 (Kd.S (Kd.slice 2 (Kd.int .i64)) 23 wc w.heap.size (fun k_ => some k_ ≠ ((.slice Ao34 t442.length co34) : Value).ownBlock ∧ some k_ ≠ ((.slice Ao37 t446.length co37) : Value).ownBlock ∧ k_ ≠ ge_ N28 k_) (.slice Ao33 t439.length co33) t461) ∧ Aside0 (Kd.R (Kd.int .i64) 2 wc w.heap.size (fun k_ => some k_ ≠ ((.slice Ao37 t446.length co37) : Value).ownBlock) (.slice Ao34 t442.length co34) t462) ∧ Aside0 (Kd.R (Kd.int .i64) 2 wc w.heap.size (fun k_ => some k_ ≠ ((.slice Ao34 t442.length co34) : Value).ownBlock) (.slice Ao37 t446.length co37) t446) ∧ Aside0 (wc.heap[gb424]? = some (.cells #[.int .i64 a0_0, (.slice A0_1 l0_1.length c0_1), (.slice A0_2 l0_2.length c0_2)] 25 (0, 0))) ∧ Aside0 (wc.heap[gb437]? = some (.cells #[(.slice Ao23 t433.length co23)] 38 (0, 0))) ∧ Aside0 (wc.heap[gb445]? = some (.cells #[.int .i64 t438, (.slice Ao33 t439.length co33), (.slice Ao34 t442.length co34)] 29 (0, 0))) ∧ Aside0 (wc.heap[gb450]? = some (.cells #[(.slice Ao37 t446.length co37)] 38 (0, 0))) ∧ Aside0 (Below w.heap.size w wc))
            case first =>
              have H := HC65.out
              clear HC65
              by_cases c77 : t460 < 0
              · rw [if_pos c77] at H
                have c77b0 : decide (t460 < 0) = true := decide_eq_true c77
                clear c77
                (first | rw [c77b0] | (simp only [i64_w, i32_w]; rw [c77b0]) | skip)
                have H' := Aside0.mk H
                clear H
                go_wp2
                go_meet
                case rel => exact ⟨_, (true), (by first | rfl | (simp; done) | (simp [*]; done)), H', ⟨by have := HJ11.out; first | omega | exact Nat.le_refl _⟩, ⟨by (with_reducible repeat (first | apply Kd.V_alloc | apply Kd.V_drewN | apply Kd.V_drew)); exact Kd.V_mono HO_438000.out (fun _ hk => ⟨hk.1, ⟨hk.2.1, ⟨hk.2.2.1, ⟨hk.2.2.2.2.1, ⟨hk.2.2.2.2.2.1, ⟨hk.2.2.2.2.2.2.1, ⟨hk.2.2.2.2.2.2.2.1, hk.2.2.2.2.2.2.2.2⟩⟩⟩⟩⟩⟩⟩)⟩, ⟨by (with_reducible repeat (first | apply Kd.S_alloc | apply Kd.S_drewN | apply Kd.S_drew)); exact Kd.S_mono HO_446001.out (fun _ hk => ⟨hk.1.1.1, ⟨hk.1.1.2.1, hk.1.1.2.2⟩⟩)⟩, ⟨by (with_reducible repeat (first | apply Kd.R_alloc | apply Kd.R_drewN | apply Kd.R_drew)); exact Kd.R_mono HO_446002.out (fun _ hk => hk.1)⟩, ⟨by (with_reducible repeat (first | apply Kd.R_alloc | apply Kd.R_drewN | apply Kd.R_drew)); exact Kd.R_mono HO_451000.out (fun _ hk => hk.1)⟩, ⟨by (with_reducible repeat (first | refine blk_drewN ?_ _ | refine blk_drew ?_ | refine blk_alloc ?_ _)); exact BK424.out⟩, ⟨by (with_reducible repeat (first | refine blk_drewN ?_ _ | refine blk_drew ?_ | refine blk_alloc ?_ _)); exact BK437.out⟩, ⟨by (with_reducible repeat (first | refine blk_drewN ?_ _ | refine blk_drew ?_ | refine blk_alloc ?_ _)); exact BK445.out⟩, ⟨by (with_reducible repeat (first | refine blk_drewN ?_ _ | refine blk_drew ?_ | refine blk_alloc ?_ _)); exact BK450.out⟩, ⟨by repeat (first | (with_reducible first | exact HB.out | apply below_alloc | apply pw_below_drewN | apply below_drew1 | refine below_set ?_ GE424.out | refine below_set ?_ GE437.out | refine below_set ?_ GE445.out | refine below_set ?_ GE450.out) | exact HB.out)⟩⟩
              · rw [if_neg c77] at H
                have c77b0 : decide (t460 < 0) = false := decide_eq_false c77
                clear c77
                (first | rw [c77b0] | (simp only [i64_w, i32_w]; rw [c77b0]) | skip)
                replace H := Option.bind_eq_some_iff.mp H
                obtain ⟨t463, A780, H⟩ := H
                replace H : (if t463 = true then (laws_FnExactFirstOfState.j1 kj11 a1 t436 (t449 != t436) a0_0 l0_1 l0_2 t433 t446) else (laws_FnExactFirstOfState.j1 kj11 a1 t436 true a0_0 l0_1 l0_2 t433 t446)) = some r := H
                have A78 := Aside0.mk A780
                clear A780
                by_cases c79 : t463 = true
                · subst c79
                  have H1 : (laws_FnExactFirstOfState.j1 kj11 a1 t436 (t449 != t436) a0_0 l0_1 l0_2 t433 t446) = some r := by rw [if_pos rfl] at H; exact H
                  clear H
                  have H := H1
                  clear H1
                  have H' := Aside0.mk H
                  clear H
                  have hnb80 := NB450_424.out
                  have hnc80 := NB424_450.out
                  have hnb81 := NB450_437.out
                  have hnc81 := NB437_450.out
                  have hnb82 := NB450_445.out
                  have hnc82 := NB445_450.out
                  have hcz83_0 : w76.cell? ⟨gb450, 0, none⟩ = some (.slice Ao37 t446.length co37) := (blk_cell BK450.out 0).trans rfl
                  have hfz83_0 := blk_frozen BK450.out 0
                  have hnb84 := NB437_424.out
                  have hnc84 := NB424_437.out
                  have hnb85 := NB437_445.out
                  have hnc85 := NB445_437.out
                  have hcz86_0 : w76.cell? ⟨gb437, 0, none⟩ = some (.slice Ao23 t433.length co23) := (blk_cell BK437.out 0).trans rfl
                  have hfz86_0 := blk_frozen BK437.out 0
                  go_wp2_with (first | (go_at_call 19; (with_reducible refine (laws_eqTree.calls kj11 _ _ t446 _ _ t433 true _ ?side1 ?side2 ?side3 ?side4 A78.out).mono ?_); (case side1 => repeat (first | exact (Kd.R_reads' HO_451000.out).2.2 | (with_reducible refine Kd.C_alloc ?_ _) | (with_reducible refine Kd.C_drewN ?_ _) | (with_reducible refine Kd.C_drew ?_))); (case side2 => exact (Kd.R_reads' HO_451000.out).2.1); (case side3 => repeat (first | exact (Kd.V_reads' HO_438000.out).2.2 | (with_reducible refine Kd.C_alloc ?_ _) | (with_reducible refine Kd.C_drewN ?_ _) | (with_reducible refine Kd.C_drew ?_))); (case side4 => exact (Kd.V_reads' HO_438000.out).2.1); rintro e w87 ⟨rfl, hb⟩; have n0_ := Aside0.mk (Kd.V_below (by (with_reducible repeat (first | apply Kd.V_alloc | apply Kd.V_drewN | apply Kd.V_drew)); exact HO_438000.out) hb); have n1_ := Aside0.mk (Kd.S_below (by (with_reducible repeat (first | apply Kd.S_alloc | apply Kd.S_drewN | apply Kd.S_drew)); exact HO_446001.out) hb); have n2_ := Aside0.mk (Kd.R_below (by (with_reducible repeat (first | apply Kd.R_alloc | apply Kd.R_drewN | apply Kd.R_drew)); exact HO_446002.out) hb); have n3_ := Aside0.mk (Kd.R_below (by (with_reducible repeat (first | apply Kd.R_alloc | apply Kd.R_drewN | apply Kd.R_drew)); exact HO_451000.out) hb); have n4_ := Aside0.mk (Kd.R_below (by (with_reducible repeat (first | apply Kd.R_alloc | apply Kd.R_drewN | apply Kd.R_drew)); exact HO458.out) hb); have n5_ := Aside0.mk (blk_below (g := gb424) (o := .cells #[.int .i64 a0_0, .slice A0_1 l0_1.length c0_1, .slice A0_2 l0_2.length c0_2] 25 (0, 0)) (by (with_reducible repeat (first | refine blk_drewN ?_ _ | refine blk_drew ?_ | refine blk_alloc ?_ _)); exact BK424.out) hb); have n6_ := Aside0.mk (blk_below (g := gb437) (o := .cells #[.slice Ao23 t433.length co23] 38 (0, 0)) (by (with_reducible repeat (first | refine blk_drewN ?_ _ | refine blk_drew ?_ | refine blk_alloc ?_ _)); exact BK437.out) hb); have n7_ := Aside0.mk (blk_below (g := gb445) (o := .cells #[.int .i64 t438, .slice Ao33 t439.length co33, .slice Ao34 t442.length co34] 29 (0, 0)) (by (with_reducible repeat (first | refine blk_drewN ?_ _ | refine blk_drew ?_ | refine blk_alloc ?_ _)); exact BK445.out) hb); have n8_ := Aside0.mk (blk_below (g := gb450) (o := .cells #[.slice Ao37 t446.length co37] 38 (0, 0)) (by (with_reducible repeat (first | refine blk_drewN ?_ _ | refine blk_drew ?_ | refine blk_alloc ?_ _)); exact BK450.out) hb); have n9_ := Aside0.mk (below_step (by repeat (first | (with_reducible first | exact HB.out | apply below_alloc | apply pw_below_drewN | apply below_drew1 | refine below_set ?_ GE424.out | refine below_set ?_ GE437.out | refine below_set ?_ GE445.out | refine below_set ?_ GE450.out) | exact HB.out)) hb); clear HO_438000; clear HO_446001; clear HO_446002; clear HO_451000; clear HO458; clear BK424; clear BK437; clear BK445; clear BK450; clear HB; have HO_438000 := n0_; have HO_446001 := n1_; have HO_446002 := n2_; have HO_451000 := n3_; have HO458 := n4_; have BK424 := n5_; have BK437 := n6_; have BK445 := n7_; have BK450 := n8_; have HB := n9_; clear n0_ n1_ n2_ n3_ n4_ n5_ n6_ n7_ n8_ n9_; (try clear hb); (try clear hb2); (try clear hk); (try clear hi)))
                  go_meet
                  case rel => exact ⟨_, ((t449 != t436)), (by first | rfl | (simp; done) | (simp [*]; done)), H', ⟨by have := HJ11.out; first | omega | exact Nat.le_refl _⟩, ⟨by (with_reducible repeat (first | apply Kd.V_alloc | apply Kd.V_drewN | apply Kd.V_drew)); exact Kd.V_mono HO_438000.out (fun _ hk => ⟨hk.1, ⟨hk.2.1, ⟨hk.2.2.1, ⟨hk.2.2.2.2.1, ⟨hk.2.2.2.2.2.1, ⟨hk.2.2.2.2.2.2.1, ⟨hk.2.2.2.2.2.2.2.1, hk.2.2.2.2.2.2.2.2⟩⟩⟩⟩⟩⟩⟩)⟩, ⟨by (with_reducible repeat (first | apply Kd.S_alloc | apply Kd.S_drewN | apply Kd.S_drew)); exact Kd.S_mono HO_446001.out (fun _ hk => ⟨hk.1.1.1, ⟨hk.1.1.2.1, hk.1.1.2.2⟩⟩)⟩, ⟨by (with_reducible repeat (first | apply Kd.R_alloc | apply Kd.R_drewN | apply Kd.R_drew)); exact Kd.R_mono HO_446002.out (fun _ hk => hk.1)⟩, ⟨by (with_reducible repeat (first | apply Kd.R_alloc | apply Kd.R_drewN | apply Kd.R_drew)); exact Kd.R_mono HO_451000.out (fun _ hk => hk.1)⟩, ⟨by (with_reducible repeat (first | refine blk_drewN ?_ _ | refine blk_drew ?_ | refine blk_alloc ?_ _)); exact BK424.out⟩, ⟨by (with_reducible repeat (first | refine blk_drewN ?_ _ | refine blk_drew ?_ | refine blk_alloc ?_ _)); exact BK437.out⟩, ⟨by (with_reducible repeat (first | refine blk_drewN ?_ _ | refine blk_drew ?_ | refine blk_alloc ?_ _)); exact BK445.out⟩, ⟨by (with_reducible repeat (first | refine blk_drewN ?_ _ | refine blk_drew ?_ | refine blk_alloc ?_ _)); exact BK450.out⟩, ⟨by repeat (first | (with_reducible first | exact HB.out | apply below_alloc | apply pw_below_drewN | apply below_drew1 | refine below_set ?_ GE424.out | refine below_set ?_ GE437.out | refine below_set ?_ GE445.out | refine below_set ?_ GE450.out) | exact HB.out)⟩⟩
                · replace c79 := Bool.eq_false_iff.mpr c79
                  subst c79
                  have H1 : (laws_FnExactFirstOfState.j1 kj11 a1 t436 true a0_0 l0_1 l0_2 t433 t446) = some r := by rw [if_neg (show ¬ (false = true) by decide)] at H; exact H
                  clear H
                  have H := H1
                  clear H1
                  have H' := Aside0.mk H
                  clear H
                  have hnb88 := NB450_424.out
                  have hnc88 := NB424_450.out
                  have hnb89 := NB450_437.out
                  have hnc89 := NB437_450.out
                  have hnb90 := NB450_445.out
                  have hnc90 := NB445_450.out
                  have hcz91_0 : w76.cell? ⟨gb450, 0, none⟩ = some (.slice Ao37 t446.length co37) := (blk_cell BK450.out 0).trans rfl
                  have hfz91_0 := blk_frozen BK450.out 0
                  have hnb92 := NB437_424.out
                  have hnc92 := NB424_437.out
                  have hnb93 := NB437_445.out
                  have hnc93 := NB445_437.out
                  have hcz94_0 : w76.cell? ⟨gb437, 0, none⟩ = some (.slice Ao23 t433.length co23) := (blk_cell BK437.out 0).trans rfl
                  have hfz94_0 := blk_frozen BK437.out 0
                  go_wp2_with (first | (go_at_call 19; (with_reducible refine (laws_eqTree.calls kj11 _ _ t446 _ _ t433 false _ ?side1 ?side2 ?side3 ?side4 A78.out).mono ?_); (case side1 => repeat (first | exact (Kd.R_reads' HO_451000.out).2.2 | (with_reducible refine Kd.C_alloc ?_ _) | (with_reducible refine Kd.C_drewN ?_ _) | (with_reducible refine Kd.C_drew ?_))); (case side2 => exact (Kd.R_reads' HO_451000.out).2.1); (case side3 => repeat (first | exact (Kd.V_reads' HO_438000.out).2.2 | (with_reducible refine Kd.C_alloc ?_ _) | (with_reducible refine Kd.C_drewN ?_ _) | (with_reducible refine Kd.C_drew ?_))); (case side4 => exact (Kd.V_reads' HO_438000.out).2.1); rintro e w95 ⟨rfl, hb⟩; have n0_ := Aside0.mk (Kd.V_below (by (with_reducible repeat (first | apply Kd.V_alloc | apply Kd.V_drewN | apply Kd.V_drew)); exact HO_438000.out) hb); have n1_ := Aside0.mk (Kd.S_below (by (with_reducible repeat (first | apply Kd.S_alloc | apply Kd.S_drewN | apply Kd.S_drew)); exact HO_446001.out) hb); have n2_ := Aside0.mk (Kd.R_below (by (with_reducible repeat (first | apply Kd.R_alloc | apply Kd.R_drewN | apply Kd.R_drew)); exact HO_446002.out) hb); have n3_ := Aside0.mk (Kd.R_below (by (with_reducible repeat (first | apply Kd.R_alloc | apply Kd.R_drewN | apply Kd.R_drew)); exact HO_451000.out) hb); have n4_ := Aside0.mk (Kd.R_below (by (with_reducible repeat (first | apply Kd.R_alloc | apply Kd.R_drewN | apply Kd.R_drew)); exact HO458.out) hb); have n5_ := Aside0.mk (blk_below (g := gb424) (o := .cells #[.int .i64 a0_0, .slice A0_1 l0_1.length c0_1, .slice A0_2 l0_2.length c0_2] 25 (0, 0)) (by (with_reducible repeat (first | refine blk_drewN ?_ _ | refine blk_drew ?_ | refine blk_alloc ?_ _)); exact BK424.out) hb); have n6_ := Aside0.mk (blk_below (g := gb437) (o := .cells #[.slice Ao23 t433.length co23] 38 (0, 0)) (by (with_reducible repeat (first | refine blk_drewN ?_ _ | refine blk_drew ?_ | refine blk_alloc ?_ _)); exact BK437.out) hb); have n7_ := Aside0.mk (blk_below (g := gb445) (o := .cells #[.int .i64 t438, .slice Ao33 t439.length co33, .slice Ao34 t442.length co34] 29 (0, 0)) (by (with_reducible repeat (first | refine blk_drewN ?_ _ | refine blk_drew ?_ | refine blk_alloc ?_ _)); exact BK445.out) hb); have n8_ := Aside0.mk (blk_below (g := gb450) (o := .cells #[.slice Ao37 t446.length co37] 38 (0, 0)) (by (with_reducible repeat (first | refine blk_drewN ?_ _ | refine blk_drew ?_ | refine blk_alloc ?_ _)); exact BK450.out) hb); have n9_ := Aside0.mk (below_step (by repeat (first | (with_reducible first | exact HB.out | apply below_alloc | apply pw_below_drewN | apply below_drew1 | refine below_set ?_ GE424.out | refine below_set ?_ GE437.out | refine below_set ?_ GE445.out | refine below_set ?_ GE450.out) | exact HB.out)) hb); clear HO_438000; clear HO_446001; clear HO_446002; clear HO_451000; clear HO458; clear BK424; clear BK437; clear BK445; clear BK450; clear HB; have HO_438000 := n0_; have HO_446001 := n1_; have HO_446002 := n2_; have HO_451000 := n3_; have HO458 := n4_; have BK424 := n5_; have BK437 := n6_; have BK445 := n7_; have BK450 := n8_; have HB := n9_; clear n0_ n1_ n2_ n3_ n4_ n5_ n6_ n7_ n8_ n9_; (try clear hb); (try clear hb2); (try clear hk); (try clear hi)))
                  go_meet
                  case rel => exact ⟨_, (true), (by first | rfl | (simp; done) | (simp [*]; done)), H', ⟨by have := HJ11.out; first | omega | exact Nat.le_refl _⟩, ⟨by (with_reducible repeat (first | apply Kd.V_alloc | apply Kd.V_drewN | apply Kd.V_drew)); exact Kd.V_mono HO_438000.out (fun _ hk => ⟨hk.1, ⟨hk.2.1, ⟨hk.2.2.1, ⟨hk.2.2.2.2.1, ⟨hk.2.2.2.2.2.1, ⟨hk.2.2.2.2.2.2.1, ⟨hk.2.2.2.2.2.2.2.1, hk.2.2.2.2.2.2.2.2⟩⟩⟩⟩⟩⟩⟩)⟩, ⟨by (with_reducible repeat (first | apply Kd.S_alloc | apply Kd.S_drewN | apply Kd.S_drew)); exact Kd.S_mono HO_446001.out (fun _ hk => ⟨hk.1.1.1, ⟨hk.1.1.2.1, hk.1.1.2.2⟩⟩)⟩, ⟨by (with_reducible repeat (first | apply Kd.R_alloc | apply Kd.R_drewN | apply Kd.R_drew)); exact Kd.R_mono HO_446002.out (fun _ hk => hk.1)⟩, ⟨by (with_reducible repeat (first | apply Kd.R_alloc | apply Kd.R_drewN | apply Kd.R_drew)); exact Kd.R_mono HO_451000.out (fun _ hk => hk.1)⟩, ⟨by (with_reducible repeat (first | refine blk_drewN ?_ _ | refine blk_drew ?_ | refine blk_alloc ?_ _)); exact BK424.out⟩, ⟨by (with_reducible repeat (first | refine blk_drewN ?_ _ | refine blk_drew ?_ | refine blk_alloc ?_ _)); exact BK437.out⟩, ⟨by (with_reducible repeat (first | refine blk_drewN ?_ _ | refine blk_drew ?_ | refine blk_alloc ?_ _)); exact BK445.out⟩, ⟨by (with_reducible repeat (first | refine blk_drewN ?_ _ | refine blk_drew ?_ | refine blk_alloc ?_ _)); exact BK450.out⟩, ⟨by repeat (first | (with_reducible first | exact HB.out | apply below_alloc | apply pw_below_drewN | apply below_drew1 | refine below_set ?_ GE424.out | refine below_set ?_ GE437.out | refine below_set ?_ GE445.out | refine below_set ?_ GE450.out) | exact HB.out)⟩⟩
            case rest =>
              clear HC65
              try clear c1
              try clear c2
              try clear p2
              try clear c3
              try clear c4
              try clear c4b0
              try clear c5
              try clear c6
              try clear c7
              try clear c8
              try clear c9
              try clear c10
              try clear c12
              try clear c15
              try clear c19
              try clear c22
              try clear c23
              try clear c24
              try clear c30
              try clear c31
              try clear c38
              try clear c39
              try clear c40
              try clear c43
              try clear c44
              try clear c45
              try clear c46
              try clear c48
              try clear c49
              try clear c52
              try clear c53
              try clear c54
              try clear c56
              try clear c57
              try clear c60
              try clear c63
              try clear c71
              try clear c72
              try clear c73
              try clear c77
              try clear c77b0
              try clear c79
              try clear c80
              try clear c81
              try clear c82
              try clear c84
              try clear c85
              try clear c88
              try clear c89
              try clear c90
              try clear c92
              try clear c93
              try clear hcz14_0
              try clear hcz14_1
              try clear hcz14_2
              try clear hcz16_0
              try clear hcz16_1
              try clear hcz16_2
              try clear hcz25_0
              try clear hcz26_0
              try clear hcz26_1
              try clear hcz26_2
              try clear hcz32_0
              try clear hcz32_1
              try clear hcz32_2
              try clear hcz41_0
              try clear hcz47_0
              try clear hcz50_0
              try clear hcz55_0
              try clear hcz58_0
              try clear hcz6_0
              try clear hcz6_1
              try clear hcz6_2
              try clear hcz74_0
              try clear hcz74_1
              try clear hcz74_2
              try clear hcz83_0
              try clear hcz86_0
              try clear hcz91_0
              try clear hcz94_0
              try clear hfz14_0
              try clear hfz14_1
              try clear hfz14_2
              try clear hfz16_0
              try clear hfz16_1
              try clear hfz16_2
              try clear hfz25_0
              try clear hfz26_0
              try clear hfz26_1
              try clear hfz26_2
              try clear hfz32_0
              try clear hfz32_1
              try clear hfz32_2
              try clear hfz41_0
              try clear hfz47_0
              try clear hfz50_0
              try clear hfz55_0
              try clear hfz58_0
              try clear hfz6_0
              try clear hfz6_1
              try clear hfz6_2
              try clear hfz74_0
              try clear hfz74_1
              try clear hfz74_2
              try clear hfz83_0
              try clear hfz86_0
              try clear hfz91_0
              try clear hfz94_0
              try clear p2
              obtain ⟨kq, x65_64, rfl, HA, HJ64, HO_438000, HO_446001, HO_446002, HO_451000, BK424, BK437, BK445, BK450, HB⟩ := hcut
              have hl446001_64 := (Kd.S_reads' HO_446001.out).1
              rw [hl446001_64] at HO_446001
              (try simp only [hl446001_64])
              (try simp only [hl446001_64] at BK424)
              (try simp only [hl446001_64] at BK437)
              (try simp only [hl446001_64] at BK445)
              (try simp only [hl446001_64] at BK450)
              (try simp only [hl446001_64] at HO_438000)
              (try simp only [hl446001_64] at HO_446002)
              (try simp only [hl446001_64] at HO_451000)
              have hl446002_64 := (Kd.R_reads' HO_446002.out).1
              rw [hl446002_64] at HO_446002
              (try simp only [hl446002_64])
              (try simp only [hl446002_64] at BK424)
              (try simp only [hl446002_64] at BK437)
              (try simp only [hl446002_64] at BK445)
              (try simp only [hl446002_64] at BK450)
              (try simp only [hl446002_64] at HO_438000)
              (try simp only [hl446002_64] at HO_446001)
              (try simp only [hl446002_64] at HO_451000)
              cases kq with
              | zero => exact absurd HA.out (by simp [laws_FnExactFirstOfState.j1])
              | succ kj64 =>
                have H := HA.out
                clear HA
                simp only [laws_FnExactFirstOfState.j1] at H
                by_cases c96 : x65_64 = true
                · subst c96
                  have H1 : (some false) = some r := by rw [if_pos rfl] at H; exact H
                  clear H
                  have H := H1
                  clear H1
                  obtain rfl := Option.some.inj H
                  go_wp2
                  go_ret
                  exact ⟨by first | rfl | (simp [errW_none, errW_some] <;> rfl) | (simp [*, errW_none, errW_some] <;> rfl), by repeat (first | (with_reducible first | exact HB.out | apply below_alloc | apply pw_below_drewN | apply below_drew1 | refine below_set ?_ GE424.out | refine below_set ?_ GE437.out | refine below_set ?_ GE445.out | refine below_set ?_ GE450.out) | exact HB.out)⟩
                · replace c96 := Bool.eq_false_iff.mpr c96
                  subst c96
                  have H1 : ((laws_markTree.f kj64 t446 1).bind fun bt464 => ((laws_heldTree.f kj64 bt464.2 1).bind fun t466 => (if t466 < 0 then (some false) else (if t466 = bt464.1 then ((laws_toAutomaton.f kj64 a0_0 l0_1 l0_2).bind fun bt467 => ((impl_FirstOfState.f kj64 bt467.1 bt467.2.1 bt467.2.2 a1).bind fun bt474 => ((laws_eqTree.f kj64 bt474.1 t433).bind fun t479 => (if t479 = true then (laws_FnExactFirstOfState.j2 kj64 bt464.1 (bt474.2 != t436) bt464.2) else (laws_FnExactFirstOfState.j2 kj64 bt464.1 true bt464.2))))) else (some false))))) = some r := by rw [if_neg (show ¬ (false = true) by decide)] at H; exact H
                  clear H
                  have H := H1
                  clear H1
                  replace H := Option.bind_eq_some_iff.mp H
                  obtain ⟨⟨t464, t465⟩, A970, H⟩ := H
                  replace H : ((laws_heldTree.f kj64 t465 1).bind fun t466 => (if t466 < 0 then (some false) else (if t466 = t464 then ((laws_toAutomaton.f kj64 a0_0 l0_1 l0_2).bind fun bt467 => ((impl_FirstOfState.f kj64 bt467.1 bt467.2.1 bt467.2.2 a1).bind fun bt474 => ((laws_eqTree.f kj64 bt474.1 t433).bind fun t479 => (if t479 = true then (laws_FnExactFirstOfState.j2 kj64 t464 (bt474.2 != t436) t465) else (laws_FnExactFirstOfState.j2 kj64 t464 true t465))))) else (some false)))) = some r := H
                  have A97 := Aside0.mk A970
                  clear A970
                  replace H := Option.bind_eq_some_iff.mp H
                  obtain ⟨t466, A980, H⟩ := H
                  replace H : (if t466 < 0 then (some false) else (if t466 = t464 then ((laws_toAutomaton.f kj64 a0_0 l0_1 l0_2).bind fun bt467 => ((impl_FirstOfState.f kj64 bt467.1 bt467.2.1 bt467.2.2 a1).bind fun bt474 => ((laws_eqTree.f kj64 bt474.1 t433).bind fun t479 => (if t479 = true then (laws_FnExactFirstOfState.j2 kj64 t464 (bt474.2 != t436) t465) else (laws_FnExactFirstOfState.j2 kj64 t464 true t465))))) else (some false))) = some r := H
                  have A98 := Aside0.mk A980
                  clear A980
                  by_cases c99 : t466 < 0
                  · rw [if_pos c99] at H
                    have c99b0 : decide (t466 < 0) = true := decide_eq_true c99
                    clear c99
                    obtain rfl := Option.some.inj H
                    have hnb100 := NB450_424.out
                    have hnc100 := NB424_450.out
                    have hnb101 := NB450_437.out
                    have hnc101 := NB437_450.out
                    have hnb102 := NB450_445.out
                    have hnc102 := NB445_450.out
                    have hcz103_0 : wc.cell? ⟨gb450, 0, none⟩ = some (.slice Ao37 t446.length co37) := (blk_cell BK450.out 0).trans rfl
                    have hfz103_0 := blk_frozen BK450.out 0
                    go_wp2_with (first | ((with_reducible refine gate_callee (f := 20) rfl ?_); refine goesL_ (some 68) rfl rfl Try.func20 (by kernel_rfl) rfl #[.agg #[.slice Ao37 t446.length co37], .int .i64 1] rfl (by (try simp only [List.map_toArray, List.map_cons, List.map_nil]); first | done | rfl | (simp only [List.length_drop, List.length_take]; rfl)) ?_; (with_reducible refine (laws_markTree.calls kj64 (fun k_ => some k_ = (.slice Ao37 t446.length co37 : Value).ownBlock) (.slice Ao37 t446.length co37) t446 1 t464 t465 w _ ?side1 ?side2 A97.out).mono ?_); (case side1 => repeat (first | (with_reducible first | exact HB.out | apply below_alloc | apply pw_below_drewN | apply below_drew1 | refine below_set ?_ GE424.out | refine below_set ?_ GE437.out | refine below_set ?_ GE445.out | refine below_set ?_ GE450.out) | exact HB.out)); (case side2 => exact Kd.R_tight rfl HO_451000.out); rintro e w104 ⟨rfl, hy0, hb, hkp⟩; refine ⟨_, rfl, ?_⟩; have n0_ := Aside0.mk (Kd.V_mono (ok' := fun k_ => some k_ ≠ (.slice Ao33 t461.length co33 : Value).ownBlock ∧ some k_ ≠ (.slice Ao34 t462.length co34 : Value).ownBlock ∧ some k_ ≠ (.slice Ao37 t446.length co37 : Value).ownBlock ∧ k_ ≠ gb424 ∧ k_ ≠ gb437 ∧ k_ ≠ gb445 ∧ k_ ≠ gb450 ∧ k_ ≠ lt_ N28 k_) (Kd.V_keptB (HO_438000.out) hkp (fun k_ hk_ hs_ => (hk_.2.2.1) hs_)) (fun k_ hk_ => ⟨hk_.1.1, hk_.1.2.1, hk_.1.2.2.1, hk_.1.2.2.2.1, hk_.1.2.2.2.2.1, hk_.1.2.2.2.2.2.1, hk_.1.2.2.2.2.2.2.1, hk_.1.2.2.2.2.2.2.2⟩)); have n1_ := Aside0.mk (Kd.S_mono (ok' := fun k_ => some k_ ≠ (.slice Ao34 t462.length co34 : Value).ownBlock ∧ some k_ ≠ (.slice Ao37 t446.length co37 : Value).ownBlock ∧ k_ ≠ ge_ N28 k_) (Kd.S_keptB (HO_446001.out) hkp (fun k_ hk_ hs_ => (hk_.2.1) hs_)) (fun k_ hk_ => ⟨hk_.1.1, hk_.1.2.1, hk_.1.2.2⟩)); have n2_ := Aside0.mk (Kd.R_mono (ok' := fun k_ => some k_ ≠ (.slice Ao37 t446.length co37 : Value).ownBlock) (Kd.R_keptB (HO_446002.out) hkp (fun k_ hk_ hs_ => (hk_) hs_)) (fun k_ hk_ => hk_.1)); have n3_ := Aside0.mk (Kd.R_reok rfl hy0 (fun k_ e_ => HO_451000.out.1 k_ e_)); have n4_ := Aside0.mk (blk_kept (by (with_reducible repeat (first | refine blk_drewN ?_ _ | refine blk_drew ?_ | refine blk_alloc ?_ _)); exact BK424.out) hkp (fun hs_ => (fun e_ => (Kd.R_ne HO_451000.out BK424.out (by decide)) e_) hs_)); have n5_ := Aside0.mk (blk_kept (by (with_reducible repeat (first | refine blk_drewN ?_ _ | refine blk_drew ?_ | refine blk_alloc ?_ _)); exact BK437.out) hkp (fun hs_ => (fun e_ => (Kd.R_ne HO_451000.out BK437.out (by decide)) e_) hs_)); have n6_ := Aside0.mk (blk_kept (by (with_reducible repeat (first | refine blk_drewN ?_ _ | refine blk_drew ?_ | refine blk_alloc ?_ _)); exact BK445.out) hkp (fun hs_ => (fun e_ => (Kd.R_ne HO_451000.out BK445.out (by decide)) e_) hs_)); have n7_ := Aside0.mk (blk_kept (by (with_reducible repeat (first | refine blk_drewN ?_ _ | refine blk_drew ?_ | refine blk_alloc ?_ _)); exact BK450.out) hkp (fun hs_ => (fun e_ => (Kd.R_ne HO_451000.out BK450.out (by decide)) e_) hs_)); have n8_ := Aside0.mk (hb); clear HO_438000; clear HO_446001; clear HO_446002; clear HO_451000; clear BK424; clear BK437; clear BK445; clear BK450; clear HB; have HO_438000 := n0_; have HO_446001 := n1_; have HO_446002 := n2_; have HO_451000 := n3_; have BK424 := n4_; have BK437 := n5_; have BK445 := n6_; have BK450 := n7_; have HB := n8_; clear n0_ n1_ n2_ n3_ n4_ n5_ n6_ n7_ n8_; (try clear hb); (try clear hkp); (try clear hy0); have hcz105_0 : w104.cell? ⟨gb450, 0, none⟩ = some (.slice Ao37 t446.length co37) := (blk_cell BK450.out 0).trans rfl; have hfz105_0 := blk_frozen BK450.out 0) | ((with_reducible refine gate_callee (f := 21) rfl ?_); refine goesL_ (some 71) rfl rfl Try.func21 (by kernel_rfl) rfl #[.agg #[.slice Ao37 t465.length co37], .int .i64 1] rfl (by (try simp only [List.map_toArray, List.map_cons, List.map_nil]); first | done | (rw [show t465.length = t446.length from (Kd.R_reads' HO_451000.out).1.symm] <;> rfl) | rfl | (simp only [List.length_drop, List.length_take]; rfl)) ?_; (with_reducible refine (laws_heldTree.calls kj64 _ _ t465 1 t466 _ ?side1 ?side2 A98.out).mono ?_); (case side1 => repeat (first | exact (Kd.R_reads' HO_451000.out).2.2 | (with_reducible refine Kd.C_alloc ?_ _) | (with_reducible refine Kd.C_drewN ?_ _) | (with_reducible refine Kd.C_drew ?_))); (case side2 => rw [show t465.length = t446.length from (Kd.R_reads' HO_451000.out).1.symm]; exact (Kd.R_reads' HO_451000.out).2.1); rintro e w106 ⟨rfl, hb⟩; refine ⟨_, rfl, ?_⟩; have n0_ := Aside0.mk (Kd.V_below (by (with_reducible repeat (first | apply Kd.V_alloc | apply Kd.V_drewN | apply Kd.V_drew)); exact HO_438000.out) hb); have n1_ := Aside0.mk (Kd.S_below (by (with_reducible repeat (first | apply Kd.S_alloc | apply Kd.S_drewN | apply Kd.S_drew)); exact HO_446001.out) hb); have n2_ := Aside0.mk (Kd.R_below (by (with_reducible repeat (first | apply Kd.R_alloc | apply Kd.R_drewN | apply Kd.R_drew)); exact HO_446002.out) hb); have n3_ := Aside0.mk (Kd.R_below (by (with_reducible repeat (first | apply Kd.R_alloc | apply Kd.R_drewN | apply Kd.R_drew)); exact HO_451000.out) hb); have n4_ := Aside0.mk (blk_below (g := gb424) (o := .cells #[.int .i64 a0_0, .slice A0_1 l0_1.length c0_1, .slice A0_2 l0_2.length c0_2] 25 (0, 0)) (by (with_reducible repeat (first | refine blk_drewN ?_ _ | refine blk_drew ?_ | refine blk_alloc ?_ _)); exact BK424.out) hb); have n5_ := Aside0.mk (blk_below (g := gb437) (o := .cells #[.slice Ao23 t433.length co23] 38 (0, 0)) (by (with_reducible repeat (first | refine blk_drewN ?_ _ | refine blk_drew ?_ | refine blk_alloc ?_ _)); exact BK437.out) hb); have n6_ := Aside0.mk (blk_below (g := gb445) (o := .cells #[.int .i64 t438, .slice Ao33 t461.length co33, .slice Ao34 t462.length co34] 29 (0, 0)) (by (with_reducible repeat (first | refine blk_drewN ?_ _ | refine blk_drew ?_ | refine blk_alloc ?_ _)); exact BK445.out) hb); have n7_ := Aside0.mk (blk_below (g := gb450) (o := .cells #[.slice Ao37 t446.length co37] 38 (0, 0)) (by (with_reducible repeat (first | refine blk_drewN ?_ _ | refine blk_drew ?_ | refine blk_alloc ?_ _)); exact BK450.out) hb); have n8_ := Aside0.mk (below_step (by repeat (first | (with_reducible first | exact HB.out | apply below_alloc | apply pw_below_drewN | apply below_drew1 | refine below_set ?_ GE424.out | refine below_set ?_ GE437.out | refine below_set ?_ GE445.out | refine below_set ?_ GE450.out) | exact HB.out)) hb); clear HO_438000; clear HO_446001; clear HO_446002; clear HO_451000; clear BK424; clear BK437; clear BK445; clear BK450; clear HB; have HO_438000 := n0_; have HO_446001 := n1_; have HO_446002 := n2_; have HO_451000 := n3_; have BK424 := n4_; have BK437 := n5_; have BK445 := n6_; have BK450 := n7_; have HB := n8_; clear n0_ n1_ n2_ n3_ n4_ n5_ n6_ n7_ n8_; (try clear hb); (try clear hb2); (try clear hk); (try clear hi)))
                    go_ret
                    exact ⟨by first | rfl | (simp [errW_none, errW_some] <;> rfl) | (simp [*, errW_none, errW_some] <;> rfl), by repeat (first | (with_reducible first | exact HB.out | apply below_alloc | apply pw_below_drewN | apply below_drew1 | refine below_set ?_ GE424.out | refine below_set ?_ GE437.out | refine below_set ?_ GE445.out | refine below_set ?_ GE450.out) | exact HB.out)⟩
                  · rw [if_neg c99] at H
                    have c99b0 : decide (t466 < 0) = false := decide_eq_false c99
                    clear c99
                    by_cases c107 : t466 = t464
                    · rw [if_pos c107] at H
                      have c107b0 : (t466 == t464) = true := beq_iff_eq.mpr c107
                      have c107b1 : (t466 != t464) = false := bne_eq_false_iff_eq.mpr c107
                      clear c107
                      replace H := Option.bind_eq_some_iff.mp H
                      obtain ⟨⟨t467, t468, t471⟩, A1080, H⟩ := H
                      replace H : ((impl_FirstOfState.f kj64 t467 t468 t471 a1).bind fun bt474 => ((laws_eqTree.f kj64 bt474.1 t433).bind fun t479 => (if t479 = true then (laws_FnExactFirstOfState.j2 kj64 t464 (bt474.2 != t436) t465) else (laws_FnExactFirstOfState.j2 kj64 t464 true t465)))) = some r := H
                      have A108 := Aside0.mk A1080
                      clear A1080
                      replace H := Option.bind_eq_some_iff.mp H
                      obtain ⟨⟨t474, t477⟩, A1090, H⟩ := H
                      replace H : ((laws_eqTree.f kj64 t474 t433).bind fun t479 => (if t479 = true then (laws_FnExactFirstOfState.j2 kj64 t464 (t477 != t436) t465) else (laws_FnExactFirstOfState.j2 kj64 t464 true t465))) = some r := H
                      have A109 := Aside0.mk A1090
                      clear A1090
                      have HC110 := Aside0.mk H
                      clear H
                      have hnb111 := NB450_424.out
                      have hnc111 := NB424_450.out
                      have hnb112 := NB450_437.out
                      have hnc112 := NB437_450.out
                      have hnb113 := NB450_445.out
                      have hnc113 := NB445_450.out
                      have hcz114_0 : wc.cell? ⟨gb450, 0, none⟩ = some (.slice Ao37 t446.length co37) := (blk_cell BK450.out 0).trans rfl
                      have hfz114_0 := blk_frozen BK450.out 0
                      go_upto_region 25 with (first | ((with_reducible refine gate_callee (f := 20) rfl ?_); refine goesL_ (some 68) rfl rfl Try.func20 (by kernel_rfl) rfl #[.agg #[.slice Ao37 t446.length co37], .int .i64 1] rfl (by (try simp only [List.map_toArray, List.map_cons, List.map_nil]); first | done | rfl | (simp only [List.length_drop, List.length_take]; rfl)) ?_; (with_reducible refine (laws_markTree.calls kj64 (fun k_ => some k_ = (.slice Ao37 t446.length co37 : Value).ownBlock) (.slice Ao37 t446.length co37) t446 1 t464 t465 w _ ?side1 ?side2 A97.out).mono ?_); (case side1 => repeat (first | (with_reducible first | exact HB.out | apply below_alloc | apply pw_below_drewN | apply below_drew1 | refine below_set ?_ GE424.out | refine below_set ?_ GE437.out | refine below_set ?_ GE445.out | refine below_set ?_ GE450.out) | exact HB.out)); (case side2 => exact Kd.R_tight rfl HO_451000.out); rintro e w115 ⟨rfl, hy0, hb, hkp⟩; refine ⟨_, rfl, ?_⟩; have n0_ := Aside0.mk (Kd.V_mono (ok' := fun k_ => some k_ ≠ (.slice Ao33 t461.length co33 : Value).ownBlock ∧ some k_ ≠ (.slice Ao34 t462.length co34 : Value).ownBlock ∧ some k_ ≠ (.slice Ao37 t446.length co37 : Value).ownBlock ∧ k_ ≠ gb424 ∧ k_ ≠ gb437 ∧ k_ ≠ gb445 ∧ k_ ≠ gb450 ∧ k_ ≠ lt_ N28 k_) (Kd.V_keptB (HO_438000.out) hkp (fun k_ hk_ hs_ => (hk_.2.2.1) hs_)) (fun k_ hk_ => ⟨hk_.1.1, hk_.1.2.1, hk_.1.2.2.1, hk_.1.2.2.2.1, hk_.1.2.2.2.2.1, hk_.1.2.2.2.2.2.1, hk_.1.2.2.2.2.2.2.1, hk_.1.2.2.2.2.2.2.2⟩)); have n1_ := Aside0.mk (Kd.S_mono (ok' := fun k_ => some k_ ≠ (.slice Ao34 t462.length co34 : Value).ownBlock ∧ some k_ ≠ (.slice Ao37 t446.length co37 : Value).ownBlock ∧ k_ ≠ ge_ N28 k_) (Kd.S_keptB (HO_446001.out) hkp (fun k_ hk_ hs_ => (hk_.2.1) hs_)) (fun k_ hk_ => ⟨hk_.1.1, hk_.1.2.1, hk_.1.2.2⟩)); have n2_ := Aside0.mk (Kd.R_mono (ok' := fun k_ => some k_ ≠ (.slice Ao37 t446.length co37 : Value).ownBlock) (Kd.R_keptB (HO_446002.out) hkp (fun k_ hk_ hs_ => (hk_) hs_)) (fun k_ hk_ => hk_.1)); have n3_ := Aside0.mk (Kd.R_reok rfl hy0 (fun k_ e_ => HO_451000.out.1 k_ e_)); have n4_ := Aside0.mk (blk_kept (by (with_reducible repeat (first | refine blk_drewN ?_ _ | refine blk_drew ?_ | refine blk_alloc ?_ _)); exact BK424.out) hkp (fun hs_ => (fun e_ => (Kd.R_ne HO_451000.out BK424.out (by decide)) e_) hs_)); have n5_ := Aside0.mk (blk_kept (by (with_reducible repeat (first | refine blk_drewN ?_ _ | refine blk_drew ?_ | refine blk_alloc ?_ _)); exact BK437.out) hkp (fun hs_ => (fun e_ => (Kd.R_ne HO_451000.out BK437.out (by decide)) e_) hs_)); have n6_ := Aside0.mk (blk_kept (by (with_reducible repeat (first | refine blk_drewN ?_ _ | refine blk_drew ?_ | refine blk_alloc ?_ _)); exact BK445.out) hkp (fun hs_ => (fun e_ => (Kd.R_ne HO_451000.out BK445.out (by decide)) e_) hs_)); have n7_ := Aside0.mk (blk_kept (by (with_reducible repeat (first | refine blk_drewN ?_ _ | refine blk_drew ?_ | refine blk_alloc ?_ _)); exact BK450.out) hkp (fun hs_ => (fun e_ => (Kd.R_ne HO_451000.out BK450.out (by decide)) e_) hs_)); have n8_ := Aside0.mk (hb); clear HO_438000; clear HO_446001; clear HO_446002; clear HO_451000; clear BK424; clear BK437; clear BK445; clear BK450; clear HB; have HO_438000 := n0_; have HO_446001 := n1_; have HO_446002 := n2_; have HO_451000 := n3_; have BK424 := n4_; have BK437 := n5_; have BK445 := n6_; have BK450 := n7_; have HB := n8_; clear n0_ n1_ n2_ n3_ n4_ n5_ n6_ n7_ n8_; (try clear hb); (try clear hkp); (try clear hy0); have hcz116_0 : w115.cell? ⟨gb450, 0, none⟩ = some (.slice Ao37 t446.length co37) := (blk_cell BK450.out 0).trans rfl; have hfz116_0 := blk_frozen BK450.out 0) | ((with_reducible refine gate_callee (f := 21) rfl ?_); refine goesL_ (some 71) rfl rfl Try.func21 (by kernel_rfl) rfl #[.agg #[.slice Ao37 t465.length co37], .int .i64 1] rfl (by (try simp only [List.map_toArray, List.map_cons, List.map_nil]); first | done | (rw [show t465.length = t446.length from (Kd.R_reads' HO_451000.out).1.symm] <;> rfl) | rfl | (simp only [List.length_drop, List.length_take]; rfl)) ?_; (with_reducible refine (laws_heldTree.calls kj64 _ _ t465 1 t466 _ ?side1 ?side2 A98.out).mono ?_); (case side1 => repeat (first | exact (Kd.R_reads' HO_451000.out).2.2 | (with_reducible refine Kd.C_alloc ?_ _) | (with_reducible refine Kd.C_drewN ?_ _) | (with_reducible refine Kd.C_drew ?_))); (case side2 => rw [show t465.length = t446.length from (Kd.R_reads' HO_451000.out).1.symm]; exact (Kd.R_reads' HO_451000.out).2.1); rintro e w117 ⟨rfl, hb⟩; refine ⟨_, rfl, ?_⟩; have n0_ := Aside0.mk (Kd.V_below (by (with_reducible repeat (first | apply Kd.V_alloc | apply Kd.V_drewN | apply Kd.V_drew)); exact HO_438000.out) hb); have n1_ := Aside0.mk (Kd.S_below (by (with_reducible repeat (first | apply Kd.S_alloc | apply Kd.S_drewN | apply Kd.S_drew)); exact HO_446001.out) hb); have n2_ := Aside0.mk (Kd.R_below (by (with_reducible repeat (first | apply Kd.R_alloc | apply Kd.R_drewN | apply Kd.R_drew)); exact HO_446002.out) hb); have n3_ := Aside0.mk (Kd.R_below (by (with_reducible repeat (first | apply Kd.R_alloc | apply Kd.R_drewN | apply Kd.R_drew)); exact HO_451000.out) hb); have n4_ := Aside0.mk (blk_below (g := gb424) (o := .cells #[.int .i64 a0_0, .slice A0_1 l0_1.length c0_1, .slice A0_2 l0_2.length c0_2] 25 (0, 0)) (by (with_reducible repeat (first | refine blk_drewN ?_ _ | refine blk_drew ?_ | refine blk_alloc ?_ _)); exact BK424.out) hb); have n5_ := Aside0.mk (blk_below (g := gb437) (o := .cells #[.slice Ao23 t433.length co23] 38 (0, 0)) (by (with_reducible repeat (first | refine blk_drewN ?_ _ | refine blk_drew ?_ | refine blk_alloc ?_ _)); exact BK437.out) hb); have n6_ := Aside0.mk (blk_below (g := gb445) (o := .cells #[.int .i64 t438, .slice Ao33 t461.length co33, .slice Ao34 t462.length co34] 29 (0, 0)) (by (with_reducible repeat (first | refine blk_drewN ?_ _ | refine blk_drew ?_ | refine blk_alloc ?_ _)); exact BK445.out) hb); have n7_ := Aside0.mk (blk_below (g := gb450) (o := .cells #[.slice Ao37 t446.length co37] 38 (0, 0)) (by (with_reducible repeat (first | refine blk_drewN ?_ _ | refine blk_drew ?_ | refine blk_alloc ?_ _)); exact BK450.out) hb); have n8_ := Aside0.mk (below_step (by repeat (first | (with_reducible first | exact HB.out | apply below_alloc | apply pw_below_drewN | apply below_drew1 | refine below_set ?_ GE424.out | refine below_set ?_ GE437.out | refine below_set ?_ GE445.out | refine below_set ?_ GE450.out) | exact HB.out)) hb); clear HO_438000; clear HO_446001; clear HO_446002; clear HO_451000; clear BK424; clear BK437; clear BK445; clear BK450; clear HB; have HO_438000 := n0_; have HO_446001 := n1_; have HO_446002 := n2_; have HO_451000 := n3_; have BK424 := n4_; have BK437 := n5_; have BK445 := n6_; have BK450 := n7_; have HB := n8_; clear n0_ n1_ n2_ n3_ n4_ n5_ n6_ n7_ n8_; (try clear hb); (try clear hb2); (try clear hk); (try clear hi); have hnb118 := NB424_437.out; have hnc118 := NB437_424.out; have hnb119 := NB424_445.out; have hnc119 := NB445_424.out; have hcz120_0 : w117.cell? ⟨gb424, 0, none⟩ = some (.int .i64 a0_0) := (blk_cell BK424.out 0).trans rfl; have hcz120_1 : w117.cell? ⟨gb424, 1, none⟩ = some (.slice A0_1 l0_1.length c0_1) := (blk_cell BK424.out 1).trans rfl; have hcz120_2 : w117.cell? ⟨gb424, 2, none⟩ = some (.slice A0_2 l0_2.length c0_2) := (blk_cell BK424.out 2).trans rfl; have hfz120_0 := blk_frozen BK424.out 0; have hfz120_1 := blk_frozen BK424.out 1; have hfz120_2 := blk_frozen BK424.out 2) | ((with_reducible refine gate_callee (f := 10) rfl ?_); refine goesL_ (some 79) rfl rfl Try.func10 (by kernel_rfl) rfl #[.agg #[.int .i64 a0_0, .slice A0_1 l0_1.length c0_1, .slice A0_2 l0_2.length c0_2]] rfl (by (try simp only [List.map_toArray, List.map_cons, List.map_nil]); first | done | rfl | (simp only [List.length_drop, List.length_take]; rfl)) ?_; (with_reducible refine (laws_toAutomaton.calls kj64 a0_0 _ _ l0_1 _ _ l0_2 t467 t468 t471 _ ?side1 ?side2 ?side3 ?side4 A108.out).mono ?_); (case side1 => repeat (first | exact (Kd.C_below HR0_1.out HB.out) | (with_reducible refine Kd.C_alloc ?_ _) | (with_reducible refine Kd.C_drewN ?_ _) | (with_reducible refine Kd.C_drew ?_))); (case side2 => exact HC0_1.out); (case side3 => repeat (first | exact (Kd.C_below HR0_2.out HB.out) | (with_reducible refine Kd.C_alloc ?_ _) | (with_reducible refine Kd.C_drewN ?_ _) | (with_reducible refine Kd.C_drew ?_))); (case side4 => exact HC0_2.out); rintro e w121 ⟨v469, v472, rfl, ho0, ho1, hb⟩; refine ⟨_, rfl, ?_⟩; obtain ⟨N122, hN122⟩ := nat_of_below hb; have n0_ := Aside0.mk (Kd.V_mono (Kd.V_told (Kd.V_told (Kd.V_old ((V_ltN (by (with_reducible repeat (first | apply Kd.V_alloc | apply Kd.V_drewN | apply Kd.V_drew)); exact HO_438000.out) hN122)) hb) (Kd.S_base ho0)) (Kd.R_base ho1)) (fun _ h_ => h_.1)); have n1_ := Aside0.mk (Kd.S_mono (Kd.S_told (Kd.S_told (Kd.S_old ((S_ltN (by (with_reducible repeat (first | apply Kd.S_alloc | apply Kd.S_drewN | apply Kd.S_drew)); exact HO_446001.out) hN122)) hb) (Kd.S_base ho0)) (Kd.R_base ho1)) (fun _ h_ => h_.1)); have n2_ := Aside0.mk (Kd.R_elder' (by (with_reducible repeat (first | apply Kd.R_alloc | apply Kd.R_drewN | apply Kd.R_drew)); exact HO_446002.out) (Kd.R_base ho1) hb); have n3_ := Aside0.mk (Kd.R_elder' (by (with_reducible repeat (first | apply Kd.R_alloc | apply Kd.R_drewN | apply Kd.R_drew)); exact HO_451000.out) (Kd.R_base ho1) hb); have n4_ := Aside0.mk (Kd.S_lower (Kd.S_new' (Kd.S_new' (Kd.S_new' (S_geN hN122 ho0) (Kd.S_lt (by (with_reducible repeat (first | apply Kd.S_alloc | apply Kd.S_drewN | apply Kd.S_drew)); exact HO_446001.out))) (Kd.R_lt (by (with_reducible repeat (first | apply Kd.R_alloc | apply Kd.R_drewN | apply Kd.R_drew)); exact HO_446002.out))) (Kd.R_lt (by (with_reducible repeat (first | apply Kd.R_alloc | apply Kd.R_drewN | apply Kd.R_drew)); exact HO_451000.out))) (below_size (by repeat (first | (with_reducible first | exact HB.out | apply below_alloc | apply pw_below_drewN | apply below_drew1 | refine below_set ?_ GE424.out | refine below_set ?_ GE437.out | refine below_set ?_ GE445.out | refine below_set ?_ GE450.out) | exact HB.out)))); have n5_ := Aside0.mk (Kd.R_lower (Kd.R_new' (Kd.R_new' ho1 (Kd.R_lt (by (with_reducible repeat (first | apply Kd.R_alloc | apply Kd.R_drewN | apply Kd.R_drew)); exact HO_446002.out))) (Kd.R_lt (by (with_reducible repeat (first | apply Kd.R_alloc | apply Kd.R_drewN | apply Kd.R_drew)); exact HO_451000.out))) (below_size (by repeat (first | (with_reducible first | exact HB.out | apply below_alloc | apply pw_below_drewN | apply below_drew1 | refine below_set ?_ GE424.out | refine below_set ?_ GE437.out | refine below_set ?_ GE445.out | refine below_set ?_ GE450.out) | exact HB.out)))); have n6_ := Aside0.mk (blk_below (g := gb424) (o := .cells #[.int .i64 a0_0, .slice A0_1 l0_1.length c0_1, .slice A0_2 l0_2.length c0_2] 25 (0, 0)) (by (with_reducible repeat (first | refine blk_drewN ?_ _ | refine blk_drew ?_ | refine blk_alloc ?_ _)); exact BK424.out) hb); have n7_ := Aside0.mk (blk_below (g := gb437) (o := .cells #[.slice Ao23 t433.length co23] 38 (0, 0)) (by (with_reducible repeat (first | refine blk_drewN ?_ _ | refine blk_drew ?_ | refine blk_alloc ?_ _)); exact BK437.out) hb); have n8_ := Aside0.mk (blk_below (g := gb445) (o := .cells #[.int .i64 t438, .slice Ao33 t461.length co33, .slice Ao34 t462.length co34] 29 (0, 0)) (by (with_reducible repeat (first | refine blk_drewN ?_ _ | refine blk_drew ?_ | refine blk_alloc ?_ _)); exact BK445.out) hb); have n9_ := Aside0.mk (blk_below (g := gb450) (o := .cells #[.slice Ao37 t446.length co37] 38 (0, 0)) (by (with_reducible repeat (first | refine blk_drewN ?_ _ | refine blk_drew ?_ | refine blk_alloc ?_ _)); exact BK450.out) hb); have n10_ := Aside0.mk (below_step (by repeat (first | (with_reducible first | exact HB.out | apply below_alloc | apply pw_below_drewN | apply below_drew1 | refine below_set ?_ GE424.out | refine below_set ?_ GE437.out | refine below_set ?_ GE445.out | refine below_set ?_ GE450.out) | exact HB.out)) hb); clear HO_438000; clear HO_446001; clear HO_446002; clear HO_451000; clear BK424; clear BK437; clear BK445; clear BK450; clear HB; have HO_438000 := n0_; have HO_446001 := n1_; have HO_446002 := n2_; have HO_451000 := n3_; have HO470 := n4_; have HO473 := n5_; have BK424 := n6_; have BK437 := n7_; have BK445 := n8_; have BK450 := n9_; have HB := n10_; clear n0_ n1_ n2_ n3_ n4_ n5_ n6_ n7_ n8_ n9_ n10_; (try clear hb); (try clear hb2); (try clear hk); (try clear hi); (try clear ho0); (try clear ho1); obtain ⟨Ao123, co123, eo123⟩ := Kd.S_slice HO470.out; subst eo123; obtain ⟨Ao124, co124, eo124⟩ := Kd.R_slice HO473.out; subst eo124) | ((with_reducible refine gate_callee (f := 23) rfl ?_); refine goesL_ (some 81) rfl rfl Try.func23 (by kernel_rfl) rfl #[.agg #[.int .i64 t467, .slice Ao123 t468.length co123, .slice Ao124 t471.length co124], .int .i64 a1] rfl (by (try simp only [List.map_toArray, List.map_cons, List.map_nil]); first | done | rfl | (simp only [List.length_drop, List.length_take]; rfl)) ?_; (with_reducible refine (impl_FirstOfState.calls kj64 t467 _ _ t468 _ _ t471 a1 t474 t477 _ ?side1 ?side2 ?side3 ?side4 A109.out).mono ?_); (case side1 => repeat (first | exact (Kd.S_reads' HO470.out).2.2 | (with_reducible refine Kd.C_alloc ?_ _) | (with_reducible refine Kd.C_drewN ?_ _) | (with_reducible refine Kd.C_drew ?_))); (case side2 => exact (Kd.S_reads' HO470.out).2.1); (case side3 => repeat (first | exact (Kd.R_reads' HO473.out).2.2 | (with_reducible refine Kd.C_alloc ?_ _) | (with_reducible refine Kd.C_drewN ?_ _) | (with_reducible refine Kd.C_drew ?_))); (case side4 => exact (Kd.R_reads' HO473.out).2.1); rintro e w125 ⟨v475, rfl, ho0, hb⟩; refine ⟨_, rfl, ?_⟩; have n0_ := Aside0.mk (Kd.V_elder' (by (with_reducible repeat (first | apply Kd.V_alloc | apply Kd.V_drewN | apply Kd.V_drew)); exact HO_438000.out) (Kd.R_base ho0) hb); have n1_ := Aside0.mk (Kd.S_elder' (by (with_reducible repeat (first | apply Kd.S_alloc | apply Kd.S_drewN | apply Kd.S_drew)); exact HO_446001.out) (Kd.R_base ho0) hb); have n2_ := Aside0.mk (Kd.R_elder' (by (with_reducible repeat (first | apply Kd.R_alloc | apply Kd.R_drewN | apply Kd.R_drew)); exact HO_446002.out) (Kd.R_base ho0) hb); have n3_ := Aside0.mk (Kd.R_elder' (by (with_reducible repeat (first | apply Kd.R_alloc | apply Kd.R_drewN | apply Kd.R_drew)); exact HO_451000.out) (Kd.R_base ho0) hb); have n4_ := Aside0.mk (Kd.S_elder' (by (with_reducible repeat (first | apply Kd.S_alloc | apply Kd.S_drewN | apply Kd.S_drew)); exact HO470.out) (Kd.R_base ho0) hb); have n5_ := Aside0.mk (Kd.R_elder' (by (with_reducible repeat (first | apply Kd.R_alloc | apply Kd.R_drewN | apply Kd.R_drew)); exact HO473.out) (Kd.R_base ho0) hb); have n6_ := Aside0.mk (Kd.R_lower (Kd.R_new' (Kd.R_new' (Kd.R_new' ho0 (Kd.R_lt (by (with_reducible repeat (first | apply Kd.R_alloc | apply Kd.R_drewN | apply Kd.R_drew)); exact HO_446002.out))) (Kd.R_lt (by (with_reducible repeat (first | apply Kd.R_alloc | apply Kd.R_drewN | apply Kd.R_drew)); exact HO_451000.out))) (Kd.R_lt (by (with_reducible repeat (first | apply Kd.R_alloc | apply Kd.R_drewN | apply Kd.R_drew)); exact HO473.out))) (below_size (by repeat (first | (with_reducible first | exact HB.out | apply below_alloc | apply pw_below_drewN | apply below_drew1 | refine below_set ?_ GE424.out | refine below_set ?_ GE437.out | refine below_set ?_ GE445.out | refine below_set ?_ GE450.out) | exact HB.out)))); have n7_ := Aside0.mk (blk_below (g := gb424) (o := .cells #[.int .i64 a0_0, .slice A0_1 l0_1.length c0_1, .slice A0_2 l0_2.length c0_2] 25 (0, 0)) (by (with_reducible repeat (first | refine blk_drewN ?_ _ | refine blk_drew ?_ | refine blk_alloc ?_ _)); exact BK424.out) hb); have n8_ := Aside0.mk (blk_below (g := gb437) (o := .cells #[.slice Ao23 t433.length co23] 38 (0, 0)) (by (with_reducible repeat (first | refine blk_drewN ?_ _ | refine blk_drew ?_ | refine blk_alloc ?_ _)); exact BK437.out) hb); have n9_ := Aside0.mk (blk_below (g := gb445) (o := .cells #[.int .i64 t438, .slice Ao33 t461.length co33, .slice Ao34 t462.length co34] 29 (0, 0)) (by (with_reducible repeat (first | refine blk_drewN ?_ _ | refine blk_drew ?_ | refine blk_alloc ?_ _)); exact BK445.out) hb); have n10_ := Aside0.mk (blk_below (g := gb450) (o := .cells #[.slice Ao37 t446.length co37] 38 (0, 0)) (by (with_reducible repeat (first | refine blk_drewN ?_ _ | refine blk_drew ?_ | refine blk_alloc ?_ _)); exact BK450.out) hb); have n11_ := Aside0.mk (below_step (by repeat (first | (with_reducible first | exact HB.out | apply below_alloc | apply pw_below_drewN | apply below_drew1 | refine below_set ?_ GE424.out | refine below_set ?_ GE437.out | refine below_set ?_ GE445.out | refine below_set ?_ GE450.out) | exact HB.out)) hb); clear HO_438000; clear HO_446001; clear HO_446002; clear HO_451000; clear HO470; clear HO473; clear BK424; clear BK437; clear BK445; clear BK450; clear HB; have HO_438000 := n0_; have HO_446001 := n1_; have HO_446002 := n2_; have HO_451000 := n3_; have HO470 := n4_; have HO473 := n5_; have HO476 := n6_; have BK424 := n7_; have BK437 := n8_; have BK445 := n9_; have BK450 := n10_; have HB := n11_; clear n0_ n1_ n2_ n3_ n4_ n5_ n6_ n7_ n8_ n9_ n10_ n11_; (try clear hb); (try clear hb2); (try clear hk); (try clear hi); (try clear ho0)) | ((with_reducible refine gate_dst (N := 14) rfl ?_); refine box_event ?hg (N := 14) ?hd (cs := #[.slice none 0 0]) (t := 38) ?hr ?_; (case hd => rfl); (case hg => rfl); (case hr => first | (go_simp; done) | (go_simp; rfl)); intro gb478 hg w126 hbox hb; have n0_ := Aside0.mk (Kd.V_below (Kd.V_elderB (by (with_reducible repeat (first | apply Kd.V_alloc | apply Kd.V_drewN | apply Kd.V_drew)); exact HO_438000.out) gb478 (Nat.le_of_eq hg.symm)) hb); have n1_ := Aside0.mk (Kd.S_below (by (with_reducible repeat (first | apply Kd.S_alloc | apply Kd.S_drewN | apply Kd.S_drew)); exact HO_446001.out) hb); have n2_ := Aside0.mk (Kd.R_below (by (with_reducible repeat (first | apply Kd.R_alloc | apply Kd.R_drewN | apply Kd.R_drew)); exact HO_446002.out) hb); have n3_ := Aside0.mk (Kd.R_below (by (with_reducible repeat (first | apply Kd.R_alloc | apply Kd.R_drewN | apply Kd.R_drew)); exact HO_451000.out) hb); have n4_ := Aside0.mk (Kd.S_below (by (with_reducible repeat (first | apply Kd.S_alloc | apply Kd.S_drewN | apply Kd.S_drew)); exact HO470.out) hb); have n5_ := Aside0.mk (Kd.R_below (by (with_reducible repeat (first | apply Kd.R_alloc | apply Kd.R_drewN | apply Kd.R_drew)); exact HO473.out) hb); have n6_ := Aside0.mk (Kd.R_below (by (with_reducible repeat (first | apply Kd.R_alloc | apply Kd.R_drewN | apply Kd.R_drew)); exact HO476.out) hb); have n7_ := Aside0.mk (blk_below (g := gb424) (o := .cells #[.int .i64 a0_0, .slice A0_1 l0_1.length c0_1, .slice A0_2 l0_2.length c0_2] 25 (0, 0)) (by (with_reducible repeat (first | refine blk_drewN ?_ _ | refine blk_drew ?_ | refine blk_alloc ?_ _)); exact BK424.out) hb); have n8_ := Aside0.mk (blk_below (g := gb437) (o := .cells #[.slice Ao23 t433.length co23] 38 (0, 0)) (by (with_reducible repeat (first | refine blk_drewN ?_ _ | refine blk_drew ?_ | refine blk_alloc ?_ _)); exact BK437.out) hb); have n9_ := Aside0.mk (blk_below (g := gb445) (o := .cells #[.int .i64 t438, .slice Ao33 t461.length co33, .slice Ao34 t462.length co34] 29 (0, 0)) (by (with_reducible repeat (first | refine blk_drewN ?_ _ | refine blk_drew ?_ | refine blk_alloc ?_ _)); exact BK445.out) hb); have n10_ := Aside0.mk (blk_below (g := gb450) (o := .cells #[.slice Ao37 t446.length co37] 38 (0, 0)) (by (with_reducible repeat (first | refine blk_drewN ?_ _ | refine blk_drew ?_ | refine blk_alloc ?_ _)); exact BK450.out) hb); have n11_ := Aside0.mk (below_step (by repeat (first | (with_reducible first | exact HB.out | apply below_alloc | apply pw_below_drewN | apply below_drew1 | refine below_set ?_ GE424.out | refine below_set ?_ GE437.out | refine below_set ?_ GE445.out | refine below_set ?_ GE450.out) | exact HB.out)) hb); have n12_ := Aside0.mk (hbox); have n13_ := Aside0.mk ((by rw [hg]; exact (below_size (by repeat (first | (with_reducible first | exact HB.out | apply below_alloc | apply pw_below_drewN | apply below_drew1 | refine below_set ?_ GE424.out | refine below_set ?_ GE437.out | refine below_set ?_ GE445.out | refine below_set ?_ GE450.out) | exact HB.out))) : w.heap.size ≤ gb478)); have n14_ := Aside0.mk ((by rw [hg]; exact (below_size (by repeat (first | (with_reducible first | exact HB.out | apply below_alloc | apply pw_below_drewN | apply below_drew1 | refine below_set ?_ GE424.out | refine below_set ?_ GE437.out | refine below_set ?_ GE445.out | refine below_set ?_ GE450.out) | exact HB.out))) : w.heap.size ≤ gb478)); have n15_ := Aside0.mk ((by rw [hg]; exact Nat.ne_of_lt (blk_lt (g := gb424) (o := .cells #[.int .i64 a0_0, .slice A0_1 l0_1.length c0_1, .slice A0_2 l0_2.length c0_2] 25 (0, 0)) (by (with_reducible repeat (first | refine blk_drewN ?_ _ | refine blk_drew ?_ | refine blk_alloc ?_ _)); exact BK424.out)) : gb424 ≠ gb478)); have n16_ := Aside0.mk ((by rw [hg]; exact Nat.ne_of_gt (blk_lt (g := gb424) (o := .cells #[.int .i64 a0_0, .slice A0_1 l0_1.length c0_1, .slice A0_2 l0_2.length c0_2] 25 (0, 0)) (by (with_reducible repeat (first | refine blk_drewN ?_ _ | refine blk_drew ?_ | refine blk_alloc ?_ _)); exact BK424.out)) : gb478 ≠ gb424)); have n17_ := Aside0.mk ((by rw [hg]; exact Nat.ne_of_lt (blk_lt (g := gb437) (o := .cells #[.slice Ao23 t433.length co23] 38 (0, 0)) (by (with_reducible repeat (first | refine blk_drewN ?_ _ | refine blk_drew ?_ | refine blk_alloc ?_ _)); exact BK437.out)) : gb437 ≠ gb478)); have n18_ := Aside0.mk ((by rw [hg]; exact Nat.ne_of_gt (blk_lt (g := gb437) (o := .cells #[.slice Ao23 t433.length co23] 38 (0, 0)) (by (with_reducible repeat (first | refine blk_drewN ?_ _ | refine blk_drew ?_ | refine blk_alloc ?_ _)); exact BK437.out)) : gb478 ≠ gb437)); have n19_ := Aside0.mk ((by rw [hg]; exact Nat.ne_of_lt (blk_lt (g := gb445) (o := .cells #[.int .i64 t438, .slice Ao33 t461.length co33, .slice Ao34 t462.length co34] 29 (0, 0)) (by (with_reducible repeat (first | refine blk_drewN ?_ _ | refine blk_drew ?_ | refine blk_alloc ?_ _)); exact BK445.out)) : gb445 ≠ gb478)); have n20_ := Aside0.mk ((by rw [hg]; exact Nat.ne_of_gt (blk_lt (g := gb445) (o := .cells #[.int .i64 t438, .slice Ao33 t461.length co33, .slice Ao34 t462.length co34] 29 (0, 0)) (by (with_reducible repeat (first | refine blk_drewN ?_ _ | refine blk_drew ?_ | refine blk_alloc ?_ _)); exact BK445.out)) : gb478 ≠ gb445)); have n21_ := Aside0.mk ((by rw [hg]; exact Nat.ne_of_lt (blk_lt (g := gb450) (o := .cells #[.slice Ao37 t446.length co37] 38 (0, 0)) (by (with_reducible repeat (first | refine blk_drewN ?_ _ | refine blk_drew ?_ | refine blk_alloc ?_ _)); exact BK450.out)) : gb450 ≠ gb478)); have n22_ := Aside0.mk ((by rw [hg]; exact Nat.ne_of_gt (blk_lt (g := gb450) (o := .cells #[.slice Ao37 t446.length co37] 38 (0, 0)) (by (with_reducible repeat (first | refine blk_drewN ?_ _ | refine blk_drew ?_ | refine blk_alloc ?_ _)); exact BK450.out)) : gb478 ≠ gb450)); clear HO_438000; clear HO_446001; clear HO_446002; clear HO_451000; clear HO470; clear HO473; clear HO476; clear BK424; clear BK437; clear BK445; clear BK450; clear HB; have HO_438000 := n0_; have HO_446001 := n1_; have HO_446002 := n2_; have HO_451000 := n3_; have HO470 := n4_; have HO473 := n5_; have HO476 := n6_; have BK424 := n7_; have BK437 := n8_; have BK445 := n9_; have BK450 := n10_; have HB := n11_; have BK478 := n12_; have GW478 := n13_; have GE478 := n14_; have NB424_478 := n15_; have NB478_424 := n16_; have NB437_478 := n17_; have NB478_437 := n18_; have NB445_478 := n19_; have NB478_445 := n20_; have NB450_478 := n21_; have NB478_450 := n22_; clear n0_ n1_ n2_ n3_ n4_ n5_ n6_ n7_ n8_ n9_ n10_ n11_ n12_ n13_ n14_ n15_ n16_ n17_ n18_ n19_ n20_ n21_ n22_; clear hb hbox hg; obtain ⟨Ao127, co127, eo127⟩ := Kd.R_slice HO476.out; subst eo127; have hnb128 := NB478_424.out; have hnc128 := NB424_478.out; have hnb129 := NB478_437.out; have hnc129 := NB437_478.out; have hnb130 := NB478_445.out; have hnc130 := NB445_478.out; have hnb131 := NB478_450.out; have hnc131 := NB450_478.out; have hcz132_0 : w126.cell? ⟨gb478, 0, none⟩ = some (.slice none 0 0) := (blk_cell BK478.out 0).trans rfl; have hfz132_0 := blk_frozen BK478.out 0))
                      (try simp only [Act.put, List.setIfInBounds_toArray, List.set_cons_zero, List.set_cons_succ])
                      go_cut [92] (fun v92 wc => ∃ (kq : Nat) (x92_109 : Bool), v92 = .bool x92_109 ∧ Aside0 (laws_FnExactFirstOfState.j2 kq t464 x92_109 t465 = some r) ∧ Aside0 (kq ≤ kj64) ∧ Aside0 (Kd.V (Kd.int .i64) 2 wc w.heap.size (fun k_ => some k_ ≠ ((.slice Ao33 t461.length co33) : Value).ownBlock ∧ some k_ ≠ ((.slice Ao34 t462.length co34) : Value).ownBlock ∧ some k_ ≠ ((.slice Ao37 t446.length co37) : Value).ownBlock ∧ some k_ ≠ ((.slice Ao127 t474.length co127) : Value).ownBlock ∧ k_ ≠ gb424 ∧ k_ ≠ gb437 ∧ k_ ≠ gb445 ∧ k_ ≠ gb450 ∧ k_ ≠ gb478 ∧ k_ ≠ lt_ N28 k_ ∧ k_ ≠ lt_ N122 k_) (.slice Ao23 t433.length co23) t433) ∧ Aside0 (Kd.S (Kd.slice 2 (Kd.int .i64)) 23 wc w.heap.size (fun k_ => some k_ ≠ ((.slice Ao34 t462.length co34) : Value).ownBlock ∧ some k_ ≠ ((.slice Ao37 t446.length co37) : Value).ownBlock ∧ some k_ ≠ ((.slice Ao127 t474.length co127) : Value).ownBlock ∧ k_ ≠ ge_ N28 k_ ∧ k_ ≠ lt_ N122 k_) (.slice Ao33 t461.length co33) t461) ∧ Aside0 (Kd.R (Kd.int .i64) 2 wc w.heap.size (fun k_ => some k_ ≠ ((.slice Ao37 t446.length co37) : Value).ownBlock ∧ some k_ ≠ ((.slice Ao127 t474.length co127) : Value).ownBlock) (.slice Ao34 t462.length co34) t462) ∧ Aside0 (Kd.R (Kd.int .i64) 2 wc w.heap.size (fun k_ => some k_ ≠ ((.slice Ao34 t462.length co34) : Value).ownBlock ∧ some k_ ≠ ((.slice Ao127 t474.length co127) : Value).ownBlock) (.slice Ao37 t446.length co37) t465) ∧ Aside0 (Kd.R (Kd.int .i64) 2 wc w.heap.size (fun k_ => some k_ ≠ ((.slice Ao34 t462.length co34) : Value).ownBlock ∧ some k_ ≠ ((.slice Ao37 t446.length co37) : Value).ownBlock) (.slice Ao127 t474.length co127) t474) ∧ Aside0 (wc.heap[gb424]? = some (.cells #[.int .i64 a0_0, (.slice A0_1 l0_1.length c0_1), (.slice A0_2 l0_2.length c0_2)] 25 (0, 0))) ∧ Aside0 (wc.heap[gb437]? = some (.cells #[(.slice Ao23 t433.length co23)] 38 (0, 0))) ∧ Aside0 (wc.heap[gb445]? = some (.cells #[.int .i64 t438, (.slice Ao33 t461.length co33), (.slice Ao34 t462.length co34)] 29 (0, 0))) ∧ Aside0 (wc.heap[gb450]? = some (.cells #[(.slice Ao37 t446.length co37)] 38 (0, 0))) ∧ Aside0 (wc.heap[gb478]? = some (.cells #[(.slice Ao127 t474.length co127)] 38 (0, 0))) ∧ Aside0 (Below w.heap.size w wc))
                      case first =>
                        have H := HC110.out
                        clear HC110
                        replace H := Option.bind_eq_some_iff.mp H
                        obtain ⟨t479, A1330, H⟩ := H
                        replace H : (if t479 = true then (laws_FnExactFirstOfState.j2 kj64 t464 (t477 != t436) t465) else (laws_FnExactFirstOfState.j2 kj64 t464 true t465)) = some r := H
                        have A133 := Aside0.mk A1330
                        clear A1330
                        by_cases c134 : t479 = true
                        · subst c134
                          have H1 : (laws_FnExactFirstOfState.j2 kj64 t464 (t477 != t436) t465) = some r := by rw [if_pos rfl] at H; exact H
                          clear H
                          have H := H1
                          clear H1
                          have H' := Aside0.mk H
                          clear H
                          have hnb135 := NB478_424.out
                          have hnc135 := NB424_478.out
                          have hnb136 := NB478_437.out
                          have hnc136 := NB437_478.out
                          have hnb137 := NB478_445.out
                          have hnc137 := NB445_478.out
                          have hnb138 := NB478_450.out
                          have hnc138 := NB450_478.out
                          have hcz139_0 : w126.cell? ⟨gb478, 0, none⟩ = some (.slice none 0 0) := (blk_cell BK478.out 0).trans rfl
                          have hfz139_0 := blk_frozen BK478.out 0
                          have hnb140 := NB437_424.out
                          have hnc140 := NB424_437.out
                          have hnb141 := NB437_445.out
                          have hnc141 := NB445_437.out
                          have hnb142 := NB437_450.out
                          have hnc142 := NB450_437.out
                          have hcz143_0 : w126.cell? ⟨gb437, 0, none⟩ = some (.slice Ao23 t433.length co23) := (blk_cell BK437.out 0).trans rfl
                          have hfz143_0 := blk_frozen BK437.out 0
                          go_wp2_with (first | ((with_reducible refine gate_callee (f := 19) rfl ?_); refine goesL_ (some 86) rfl rfl Try.func19 (by kernel_rfl) rfl #[.agg #[.slice Ao127 t474.length co127], .agg #[.slice Ao23 t433.length co23]] rfl (by (try simp only [List.map_toArray, List.map_cons, List.map_nil]); first | done | rfl | (simp only [List.length_drop, List.length_take]; rfl)) ?_; (with_reducible refine (laws_eqTree.calls kj64 _ _ t474 _ _ t433 true _ ?side1 ?side2 ?side3 ?side4 A133.out).mono ?_); (case side1 => refine (Kd.R_reads' (e := 2) (base := w.heap.size) (ok := fun k_ => (((True ∧ some k_ ≠ (.slice Ao34 t462.length co34 : Value).ownBlock) ∧ some k_ ≠ (.slice Ao37 t446.length co37 : Value).ownBlock) ∧ some k_ ≠ (.slice Ao124 t471.length co124 : Value).ownBlock)) (n := t474.length) (c := co127) ?_).2.2; exact (by (with_reducible repeat (first | apply Kd.R_alloc | apply Kd.R_drewN | apply Kd.R_drew)); exact (Kd.R_mono (Kd.R_far (p := ⟨gb478, 0, none⟩) (Kd.R_types HO476.out BK478.out (by decide)) (fun _ hk => hk.2) (.slice Ao127 t474.length co127)) (fun _ h_ => h_.1)))); (case side2 => exact (Kd.R_reads' HO476.out).2.1); (case side3 => refine (Kd.V_reads' (e := 2) (base := w.heap.size) (ok := fun k_ => ((((((some k_ ≠ (.slice Ao33 t461.length co33 : Value).ownBlock ∧ (some k_ ≠ (.slice Ao34 t462.length co34 : Value).ownBlock ∧ (some k_ ≠ (.slice Ao37 t446.length co37 : Value).ownBlock ∧ (k_ ≠ gb424 ∧ (k_ ≠ gb437 ∧ (k_ ≠ gb445 ∧ (k_ ≠ gb450 ∧ k_ ≠ lt_ N28 k_))))))) ∧ k_ ≠ lt_ N122 k_) ∧ some k_ ≠ (.slice Ao123 t468.length co123 : Value).ownBlock) ∧ some k_ ≠ (.slice Ao124 t471.length co124 : Value).ownBlock) ∧ some k_ ≠ (.slice Ao127 t474.length co127 : Value).ownBlock) ∧ k_ ≠ gb478)) (n := t433.length) (c := co23) ?_).2.2; exact (by (with_reducible repeat (first | apply Kd.V_alloc | apply Kd.V_drewN | apply Kd.V_drew)); exact (Kd.V_mono (Kd.V_far (p := ⟨gb478, 0, none⟩) (Kd.V_mono HO_438000.out (fun k_ hk => (⟨hk, hk.2⟩ : _ ∧ k_ ≠ gb478))) (fun _ hk => hk.2) (.slice Ao127 t474.length co127)) (fun _ h_ => h_.1)))); (case side4 => exact (Kd.V_reads' HO_438000.out).2.1); rintro e w144 ⟨rfl, hb⟩; refine ⟨_, rfl, ?_⟩; have n0_ := Aside0.mk (Kd.V_below (by (with_reducible repeat (first | apply Kd.V_alloc | apply Kd.V_drewN | apply Kd.V_drew)); exact (Kd.V_mono (Kd.V_far (p := ⟨gb478, 0, none⟩) (Kd.V_mono HO_438000.out (fun k_ hk => (⟨hk, hk.2⟩ : _ ∧ k_ ≠ gb478))) (fun _ hk => hk.2) (.slice Ao127 t474.length co127)) (fun _ h_ => h_.1))) hb); have n1_ := Aside0.mk (Kd.S_below (by (with_reducible repeat (first | apply Kd.S_alloc | apply Kd.S_drewN | apply Kd.S_drew)); exact (Kd.S_mono (Kd.S_far (p := ⟨gb478, 0, none⟩) (Kd.S_types HO_446001.out BK478.out (by decide)) (fun _ hk => hk.2) (.slice Ao127 t474.length co127)) (fun _ h_ => h_.1))) hb); have n2_ := Aside0.mk (Kd.R_below (by (with_reducible repeat (first | apply Kd.R_alloc | apply Kd.R_drewN | apply Kd.R_drew)); exact (Kd.R_mono (Kd.R_far (p := ⟨gb478, 0, none⟩) (Kd.R_types HO_446002.out BK478.out (by decide)) (fun _ hk => hk.2) (.slice Ao127 t474.length co127)) (fun _ h_ => h_.1))) hb); have n3_ := Aside0.mk (Kd.R_below (by (with_reducible repeat (first | apply Kd.R_alloc | apply Kd.R_drewN | apply Kd.R_drew)); exact (Kd.R_mono (Kd.R_far (p := ⟨gb478, 0, none⟩) (Kd.R_types HO_451000.out BK478.out (by decide)) (fun _ hk => hk.2) (.slice Ao127 t474.length co127)) (fun _ h_ => h_.1))) hb); have n4_ := Aside0.mk (Kd.S_below (by (with_reducible repeat (first | apply Kd.S_alloc | apply Kd.S_drewN | apply Kd.S_drew)); exact (Kd.S_mono (Kd.S_far (p := ⟨gb478, 0, none⟩) (Kd.S_types HO470.out BK478.out (by decide)) (fun _ hk => hk.2) (.slice Ao127 t474.length co127)) (fun _ h_ => h_.1))) hb); have n5_ := Aside0.mk (Kd.R_below (by (with_reducible repeat (first | apply Kd.R_alloc | apply Kd.R_drewN | apply Kd.R_drew)); exact (Kd.R_mono (Kd.R_far (p := ⟨gb478, 0, none⟩) (Kd.R_types HO473.out BK478.out (by decide)) (fun _ hk => hk.2) (.slice Ao127 t474.length co127)) (fun _ h_ => h_.1))) hb); have n6_ := Aside0.mk (Kd.R_below (by (with_reducible repeat (first | apply Kd.R_alloc | apply Kd.R_drewN | apply Kd.R_drew)); exact (Kd.R_mono (Kd.R_far (p := ⟨gb478, 0, none⟩) (Kd.R_types HO476.out BK478.out (by decide)) (fun _ hk => hk.2) (.slice Ao127 t474.length co127)) (fun _ h_ => h_.1))) hb); have n7_ := Aside0.mk (blk_below (g := gb424) (o := .cells #[.int .i64 a0_0, .slice A0_1 l0_1.length c0_1, .slice A0_2 l0_2.length c0_2] 25 (0, 0)) (by (with_reducible repeat (first | refine blk_drewN ?_ _ | refine blk_drew ?_ | refine blk_alloc ?_ _)); refine blk_far ?_ NB424_478.out _; (with_reducible repeat (first | refine blk_drewN ?_ _ | refine blk_drew ?_ | refine blk_alloc ?_ _)); exact BK424.out) hb); have n8_ := Aside0.mk (blk_below (g := gb437) (o := .cells #[.slice Ao23 t433.length co23] 38 (0, 0)) (by (with_reducible repeat (first | refine blk_drewN ?_ _ | refine blk_drew ?_ | refine blk_alloc ?_ _)); refine blk_far ?_ NB437_478.out _; (with_reducible repeat (first | refine blk_drewN ?_ _ | refine blk_drew ?_ | refine blk_alloc ?_ _)); exact BK437.out) hb); have n9_ := Aside0.mk (blk_below (g := gb445) (o := .cells #[.int .i64 t438, .slice Ao33 t461.length co33, .slice Ao34 t462.length co34] 29 (0, 0)) (by (with_reducible repeat (first | refine blk_drewN ?_ _ | refine blk_drew ?_ | refine blk_alloc ?_ _)); refine blk_far ?_ NB445_478.out _; (with_reducible repeat (first | refine blk_drewN ?_ _ | refine blk_drew ?_ | refine blk_alloc ?_ _)); exact BK445.out) hb); have n10_ := Aside0.mk (blk_below (g := gb450) (o := .cells #[.slice Ao37 t446.length co37] 38 (0, 0)) (by (with_reducible repeat (first | refine blk_drewN ?_ _ | refine blk_drew ?_ | refine blk_alloc ?_ _)); refine blk_far ?_ NB450_478.out _; (with_reducible repeat (first | refine blk_drewN ?_ _ | refine blk_drew ?_ | refine blk_alloc ?_ _)); exact BK450.out) hb); have n11_ := Aside0.mk (blk_below (g := gb478) (o := .cells #[.slice Ao127 t474.length co127] 38 (0, 0)) (by (with_reducible repeat (first | refine blk_drewN ?_ _ | refine blk_drew ?_ | refine blk_alloc ?_ _)); refine blk_put (cs := #[.slice none 0 0]) ?_ 0 _ rfl; (with_reducible repeat (first | refine blk_drewN ?_ _ | refine blk_drew ?_ | refine blk_alloc ?_ _)); exact BK478.out) hb); have n12_ := Aside0.mk (below_step (by repeat (first | (with_reducible first | exact HB.out | apply below_alloc | apply pw_below_drewN | apply below_drew1 | refine below_set ?_ GE424.out | refine below_set ?_ GE437.out | refine below_set ?_ GE445.out | refine below_set ?_ GE450.out | refine below_set ?_ GE478.out) | exact HB.out)) hb); clear HO_438000; clear HO_446001; clear HO_446002; clear HO_451000; clear HO470; clear HO473; clear HO476; clear BK424; clear BK437; clear BK445; clear BK450; clear BK478; clear HB; have HO_438000 := n0_; have HO_446001 := n1_; have HO_446002 := n2_; have HO_451000 := n3_; have HO470 := n4_; have HO473 := n5_; have HO476 := n6_; have BK424 := n7_; have BK437 := n8_; have BK445 := n9_; have BK450 := n10_; have BK478 := n11_; have HB := n12_; clear n0_ n1_ n2_ n3_ n4_ n5_ n6_ n7_ n8_ n9_ n10_ n11_ n12_; (try clear hb); (try clear hb2); (try clear hk); (try clear hi)))
                          go_meet
                          case rel => exact ⟨_, ((t477 != t436)), (by first | rfl | (simp; done) | (simp [*]; done)), H', ⟨by have := HJ11.out; have := HJ64.out; first | omega | exact Nat.le_refl _⟩, ⟨by (try simp only [hl446001_64]); (try simp only [hl446002_64]); (with_reducible repeat (first | apply Kd.V_alloc | apply Kd.V_drewN | apply Kd.V_drew)); exact Kd.V_mono HO_438000.out (fun _ hk => ⟨hk.1.1.1.1.1.1, ⟨hk.1.1.1.1.1.2.1, ⟨hk.1.1.1.1.1.2.2.1, ⟨hk.1.2, ⟨hk.1.1.1.1.1.2.2.2.1, ⟨hk.1.1.1.1.1.2.2.2.2.1, ⟨hk.1.1.1.1.1.2.2.2.2.2.1, ⟨hk.1.1.1.1.1.2.2.2.2.2.2.1, ⟨hk.2, ⟨hk.1.1.1.1.1.2.2.2.2.2.2.2, hk.1.1.1.1.2⟩⟩⟩⟩⟩⟩⟩⟩⟩⟩)⟩, ⟨by (try simp only [hl446001_64]); (try simp only [hl446002_64]); (with_reducible repeat (first | apply Kd.S_alloc | apply Kd.S_drewN | apply Kd.S_drew)); exact Kd.S_mono HO_446001.out (fun _ hk => ⟨hk.1.1.1.1.1, ⟨hk.1.1.1.1.2.1, ⟨hk.2, ⟨hk.1.1.1.1.2.2, hk.1.1.1.2⟩⟩⟩⟩)⟩, ⟨by (try simp only [hl446001_64]); (try simp only [hl446002_64]); (with_reducible repeat (first | apply Kd.R_alloc | apply Kd.R_drewN | apply Kd.R_drew)); exact Kd.R_mono HO_446002.out (fun _ hk => ⟨hk.1.1, hk.2⟩)⟩, ⟨by (try simp only [hl446001_64]); (try simp only [hl446002_64]); (with_reducible repeat (first | apply Kd.R_alloc | apply Kd.R_drewN | apply Kd.R_drew)); exact Kd.R_mono HO_451000.out (fun _ hk => ⟨hk.1.1, hk.2⟩)⟩, ⟨by (try simp only [hl446001_64]); (try simp only [hl446002_64]); (with_reducible repeat (first | apply Kd.R_alloc | apply Kd.R_drewN | apply Kd.R_drew)); exact Kd.R_mono HO476.out (fun _ hk => ⟨hk.1.1.2, hk.1.2⟩)⟩, ⟨by (try simp only [hl446001_64]); (try simp only [hl446002_64]); (with_reducible repeat (first | refine blk_drewN ?_ _ | refine blk_drew ?_ | refine blk_alloc ?_ _)); exact BK424.out⟩, ⟨by (try simp only [hl446001_64]); (try simp only [hl446002_64]); (with_reducible repeat (first | refine blk_drewN ?_ _ | refine blk_drew ?_ | refine blk_alloc ?_ _)); exact BK437.out⟩, ⟨by (try simp only [hl446001_64]); (try simp only [hl446002_64]); (with_reducible repeat (first | refine blk_drewN ?_ _ | refine blk_drew ?_ | refine blk_alloc ?_ _)); exact BK445.out⟩, ⟨by (try simp only [hl446001_64]); (try simp only [hl446002_64]); (with_reducible repeat (first | refine blk_drewN ?_ _ | refine blk_drew ?_ | refine blk_alloc ?_ _)); exact BK450.out⟩, ⟨by (try simp only [hl446001_64]); (try simp only [hl446002_64]); (with_reducible repeat (first | refine blk_drewN ?_ _ | refine blk_drew ?_ | refine blk_alloc ?_ _)); exact BK478.out⟩, ⟨by repeat (first | (with_reducible first | exact HB.out | apply below_alloc | apply pw_below_drewN | apply below_drew1 | refine below_set ?_ GE424.out | refine below_set ?_ GE437.out | refine below_set ?_ GE445.out | refine below_set ?_ GE450.out | refine below_set ?_ GE478.out) | exact HB.out)⟩⟩
                        · replace c134 := Bool.eq_false_iff.mpr c134
                          subst c134
                          have H1 : (laws_FnExactFirstOfState.j2 kj64 t464 true t465) = some r := by rw [if_neg (show ¬ (false = true) by decide)] at H; exact H
                          clear H
                          have H := H1
                          clear H1
                          have H' := Aside0.mk H
                          clear H
                          have hnb145 := NB478_424.out
                          have hnc145 := NB424_478.out
                          have hnb146 := NB478_437.out
                          have hnc146 := NB437_478.out
                          have hnb147 := NB478_445.out
                          have hnc147 := NB445_478.out
                          have hnb148 := NB478_450.out
                          have hnc148 := NB450_478.out
                          have hcz149_0 : w126.cell? ⟨gb478, 0, none⟩ = some (.slice none 0 0) := (blk_cell BK478.out 0).trans rfl
                          have hfz149_0 := blk_frozen BK478.out 0
                          have hnb150 := NB437_424.out
                          have hnc150 := NB424_437.out
                          have hnb151 := NB437_445.out
                          have hnc151 := NB445_437.out
                          have hnb152 := NB437_450.out
                          have hnc152 := NB450_437.out
                          have hcz153_0 : w126.cell? ⟨gb437, 0, none⟩ = some (.slice Ao23 t433.length co23) := (blk_cell BK437.out 0).trans rfl
                          have hfz153_0 := blk_frozen BK437.out 0
                          go_wp2_with (first | ((with_reducible refine gate_callee (f := 19) rfl ?_); refine goesL_ (some 86) rfl rfl Try.func19 (by kernel_rfl) rfl #[.agg #[.slice Ao127 t474.length co127], .agg #[.slice Ao23 t433.length co23]] rfl (by (try simp only [List.map_toArray, List.map_cons, List.map_nil]); first | done | rfl | (simp only [List.length_drop, List.length_take]; rfl)) ?_; (with_reducible refine (laws_eqTree.calls kj64 _ _ t474 _ _ t433 false _ ?side1 ?side2 ?side3 ?side4 A133.out).mono ?_); (case side1 => refine (Kd.R_reads' (e := 2) (base := w.heap.size) (ok := fun k_ => (((True ∧ some k_ ≠ (.slice Ao34 t462.length co34 : Value).ownBlock) ∧ some k_ ≠ (.slice Ao37 t446.length co37 : Value).ownBlock) ∧ some k_ ≠ (.slice Ao124 t471.length co124 : Value).ownBlock)) (n := t474.length) (c := co127) ?_).2.2; exact (by (with_reducible repeat (first | apply Kd.R_alloc | apply Kd.R_drewN | apply Kd.R_drew)); exact (Kd.R_mono (Kd.R_far (p := ⟨gb478, 0, none⟩) (Kd.R_types HO476.out BK478.out (by decide)) (fun _ hk => hk.2) (.slice Ao127 t474.length co127)) (fun _ h_ => h_.1)))); (case side2 => exact (Kd.R_reads' HO476.out).2.1); (case side3 => refine (Kd.V_reads' (e := 2) (base := w.heap.size) (ok := fun k_ => ((((((some k_ ≠ (.slice Ao33 t461.length co33 : Value).ownBlock ∧ (some k_ ≠ (.slice Ao34 t462.length co34 : Value).ownBlock ∧ (some k_ ≠ (.slice Ao37 t446.length co37 : Value).ownBlock ∧ (k_ ≠ gb424 ∧ (k_ ≠ gb437 ∧ (k_ ≠ gb445 ∧ (k_ ≠ gb450 ∧ k_ ≠ lt_ N28 k_))))))) ∧ k_ ≠ lt_ N122 k_) ∧ some k_ ≠ (.slice Ao123 t468.length co123 : Value).ownBlock) ∧ some k_ ≠ (.slice Ao124 t471.length co124 : Value).ownBlock) ∧ some k_ ≠ (.slice Ao127 t474.length co127 : Value).ownBlock) ∧ k_ ≠ gb478)) (n := t433.length) (c := co23) ?_).2.2; exact (by (with_reducible repeat (first | apply Kd.V_alloc | apply Kd.V_drewN | apply Kd.V_drew)); exact (Kd.V_mono (Kd.V_far (p := ⟨gb478, 0, none⟩) (Kd.V_mono HO_438000.out (fun k_ hk => (⟨hk, hk.2⟩ : _ ∧ k_ ≠ gb478))) (fun _ hk => hk.2) (.slice Ao127 t474.length co127)) (fun _ h_ => h_.1)))); (case side4 => exact (Kd.V_reads' HO_438000.out).2.1); rintro e w154 ⟨rfl, hb⟩; refine ⟨_, rfl, ?_⟩; have n0_ := Aside0.mk (Kd.V_below (by (with_reducible repeat (first | apply Kd.V_alloc | apply Kd.V_drewN | apply Kd.V_drew)); exact (Kd.V_mono (Kd.V_far (p := ⟨gb478, 0, none⟩) (Kd.V_mono HO_438000.out (fun k_ hk => (⟨hk, hk.2⟩ : _ ∧ k_ ≠ gb478))) (fun _ hk => hk.2) (.slice Ao127 t474.length co127)) (fun _ h_ => h_.1))) hb); have n1_ := Aside0.mk (Kd.S_below (by (with_reducible repeat (first | apply Kd.S_alloc | apply Kd.S_drewN | apply Kd.S_drew)); exact (Kd.S_mono (Kd.S_far (p := ⟨gb478, 0, none⟩) (Kd.S_types HO_446001.out BK478.out (by decide)) (fun _ hk => hk.2) (.slice Ao127 t474.length co127)) (fun _ h_ => h_.1))) hb); have n2_ := Aside0.mk (Kd.R_below (by (with_reducible repeat (first | apply Kd.R_alloc | apply Kd.R_drewN | apply Kd.R_drew)); exact (Kd.R_mono (Kd.R_far (p := ⟨gb478, 0, none⟩) (Kd.R_types HO_446002.out BK478.out (by decide)) (fun _ hk => hk.2) (.slice Ao127 t474.length co127)) (fun _ h_ => h_.1))) hb); have n3_ := Aside0.mk (Kd.R_below (by (with_reducible repeat (first | apply Kd.R_alloc | apply Kd.R_drewN | apply Kd.R_drew)); exact (Kd.R_mono (Kd.R_far (p := ⟨gb478, 0, none⟩) (Kd.R_types HO_451000.out BK478.out (by decide)) (fun _ hk => hk.2) (.slice Ao127 t474.length co127)) (fun _ h_ => h_.1))) hb); have n4_ := Aside0.mk (Kd.S_below (by (with_reducible repeat (first | apply Kd.S_alloc | apply Kd.S_drewN | apply Kd.S_drew)); exact (Kd.S_mono (Kd.S_far (p := ⟨gb478, 0, none⟩) (Kd.S_types HO470.out BK478.out (by decide)) (fun _ hk => hk.2) (.slice Ao127 t474.length co127)) (fun _ h_ => h_.1))) hb); have n5_ := Aside0.mk (Kd.R_below (by (with_reducible repeat (first | apply Kd.R_alloc | apply Kd.R_drewN | apply Kd.R_drew)); exact (Kd.R_mono (Kd.R_far (p := ⟨gb478, 0, none⟩) (Kd.R_types HO473.out BK478.out (by decide)) (fun _ hk => hk.2) (.slice Ao127 t474.length co127)) (fun _ h_ => h_.1))) hb); have n6_ := Aside0.mk (Kd.R_below (by (with_reducible repeat (first | apply Kd.R_alloc | apply Kd.R_drewN | apply Kd.R_drew)); exact (Kd.R_mono (Kd.R_far (p := ⟨gb478, 0, none⟩) (Kd.R_types HO476.out BK478.out (by decide)) (fun _ hk => hk.2) (.slice Ao127 t474.length co127)) (fun _ h_ => h_.1))) hb); have n7_ := Aside0.mk (blk_below (g := gb424) (o := .cells #[.int .i64 a0_0, .slice A0_1 l0_1.length c0_1, .slice A0_2 l0_2.length c0_2] 25 (0, 0)) (by (with_reducible repeat (first | refine blk_drewN ?_ _ | refine blk_drew ?_ | refine blk_alloc ?_ _)); refine blk_far ?_ NB424_478.out _; (with_reducible repeat (first | refine blk_drewN ?_ _ | refine blk_drew ?_ | refine blk_alloc ?_ _)); exact BK424.out) hb); have n8_ := Aside0.mk (blk_below (g := gb437) (o := .cells #[.slice Ao23 t433.length co23] 38 (0, 0)) (by (with_reducible repeat (first | refine blk_drewN ?_ _ | refine blk_drew ?_ | refine blk_alloc ?_ _)); refine blk_far ?_ NB437_478.out _; (with_reducible repeat (first | refine blk_drewN ?_ _ | refine blk_drew ?_ | refine blk_alloc ?_ _)); exact BK437.out) hb); have n9_ := Aside0.mk (blk_below (g := gb445) (o := .cells #[.int .i64 t438, .slice Ao33 t461.length co33, .slice Ao34 t462.length co34] 29 (0, 0)) (by (with_reducible repeat (first | refine blk_drewN ?_ _ | refine blk_drew ?_ | refine blk_alloc ?_ _)); refine blk_far ?_ NB445_478.out _; (with_reducible repeat (first | refine blk_drewN ?_ _ | refine blk_drew ?_ | refine blk_alloc ?_ _)); exact BK445.out) hb); have n10_ := Aside0.mk (blk_below (g := gb450) (o := .cells #[.slice Ao37 t446.length co37] 38 (0, 0)) (by (with_reducible repeat (first | refine blk_drewN ?_ _ | refine blk_drew ?_ | refine blk_alloc ?_ _)); refine blk_far ?_ NB450_478.out _; (with_reducible repeat (first | refine blk_drewN ?_ _ | refine blk_drew ?_ | refine blk_alloc ?_ _)); exact BK450.out) hb); have n11_ := Aside0.mk (blk_below (g := gb478) (o := .cells #[.slice Ao127 t474.length co127] 38 (0, 0)) (by (with_reducible repeat (first | refine blk_drewN ?_ _ | refine blk_drew ?_ | refine blk_alloc ?_ _)); refine blk_put (cs := #[.slice none 0 0]) ?_ 0 _ rfl; (with_reducible repeat (first | refine blk_drewN ?_ _ | refine blk_drew ?_ | refine blk_alloc ?_ _)); exact BK478.out) hb); have n12_ := Aside0.mk (below_step (by repeat (first | (with_reducible first | exact HB.out | apply below_alloc | apply pw_below_drewN | apply below_drew1 | refine below_set ?_ GE424.out | refine below_set ?_ GE437.out | refine below_set ?_ GE445.out | refine below_set ?_ GE450.out | refine below_set ?_ GE478.out) | exact HB.out)) hb); clear HO_438000; clear HO_446001; clear HO_446002; clear HO_451000; clear HO470; clear HO473; clear HO476; clear BK424; clear BK437; clear BK445; clear BK450; clear BK478; clear HB; have HO_438000 := n0_; have HO_446001 := n1_; have HO_446002 := n2_; have HO_451000 := n3_; have HO470 := n4_; have HO473 := n5_; have HO476 := n6_; have BK424 := n7_; have BK437 := n8_; have BK445 := n9_; have BK450 := n10_; have BK478 := n11_; have HB := n12_; clear n0_ n1_ n2_ n3_ n4_ n5_ n6_ n7_ n8_ n9_ n10_ n11_ n12_; (try clear hb); (try clear hb2); (try clear hk); (try clear hi)))
                          go_meet
                          case rel => exact ⟨_, (true), (by first | rfl | (simp; done) | (simp [*]; done)), H', ⟨by have := HJ11.out; have := HJ64.out; first | omega | exact Nat.le_refl _⟩, ⟨by (try simp only [hl446001_64]); (try simp only [hl446002_64]); (with_reducible repeat (first | apply Kd.V_alloc | apply Kd.V_drewN | apply Kd.V_drew)); exact Kd.V_mono HO_438000.out (fun _ hk => ⟨hk.1.1.1.1.1.1, ⟨hk.1.1.1.1.1.2.1, ⟨hk.1.1.1.1.1.2.2.1, ⟨hk.1.2, ⟨hk.1.1.1.1.1.2.2.2.1, ⟨hk.1.1.1.1.1.2.2.2.2.1, ⟨hk.1.1.1.1.1.2.2.2.2.2.1, ⟨hk.1.1.1.1.1.2.2.2.2.2.2.1, ⟨hk.2, ⟨hk.1.1.1.1.1.2.2.2.2.2.2.2, hk.1.1.1.1.2⟩⟩⟩⟩⟩⟩⟩⟩⟩⟩)⟩, ⟨by (try simp only [hl446001_64]); (try simp only [hl446002_64]); (with_reducible repeat (first | apply Kd.S_alloc | apply Kd.S_drewN | apply Kd.S_drew)); exact Kd.S_mono HO_446001.out (fun _ hk => ⟨hk.1.1.1.1.1, ⟨hk.1.1.1.1.2.1, ⟨hk.2, ⟨hk.1.1.1.1.2.2, hk.1.1.1.2⟩⟩⟩⟩)⟩, ⟨by (try simp only [hl446001_64]); (try simp only [hl446002_64]); (with_reducible repeat (first | apply Kd.R_alloc | apply Kd.R_drewN | apply Kd.R_drew)); exact Kd.R_mono HO_446002.out (fun _ hk => ⟨hk.1.1, hk.2⟩)⟩, ⟨by (try simp only [hl446001_64]); (try simp only [hl446002_64]); (with_reducible repeat (first | apply Kd.R_alloc | apply Kd.R_drewN | apply Kd.R_drew)); exact Kd.R_mono HO_451000.out (fun _ hk => ⟨hk.1.1, hk.2⟩)⟩, ⟨by (try simp only [hl446001_64]); (try simp only [hl446002_64]); (with_reducible repeat (first | apply Kd.R_alloc | apply Kd.R_drewN | apply Kd.R_drew)); exact Kd.R_mono HO476.out (fun _ hk => ⟨hk.1.1.2, hk.1.2⟩)⟩, ⟨by (try simp only [hl446001_64]); (try simp only [hl446002_64]); (with_reducible repeat (first | refine blk_drewN ?_ _ | refine blk_drew ?_ | refine blk_alloc ?_ _)); exact BK424.out⟩, ⟨by (try simp only [hl446001_64]); (try simp only [hl446002_64]); (with_reducible repeat (first | refine blk_drewN ?_ _ | refine blk_drew ?_ | refine blk_alloc ?_ _)); exact BK437.out⟩, ⟨by (try simp only [hl446001_64]); (try simp only [hl446002_64]); (with_reducible repeat (first | refine blk_drewN ?_ _ | refine blk_drew ?_ | refine blk_alloc ?_ _)); exact BK445.out⟩, ⟨by (try simp only [hl446001_64]); (try simp only [hl446002_64]); (with_reducible repeat (first | refine blk_drewN ?_ _ | refine blk_drew ?_ | refine blk_alloc ?_ _)); exact BK450.out⟩, ⟨by (try simp only [hl446001_64]); (try simp only [hl446002_64]); (with_reducible repeat (first | refine blk_drewN ?_ _ | refine blk_drew ?_ | refine blk_alloc ?_ _)); exact BK478.out⟩, ⟨by repeat (first | (with_reducible first | exact HB.out | apply below_alloc | apply pw_below_drewN | apply below_drew1 | refine below_set ?_ GE424.out | refine below_set ?_ GE437.out | refine below_set ?_ GE445.out | refine below_set ?_ GE450.out | refine below_set ?_ GE478.out) | exact HB.out)⟩⟩
                      case rest =>
                        clear HC110
                        try clear c1
                        try clear c2
                        try clear p2
                        try clear c3
                        try clear c4
                        try clear c4b0
                        try clear c5
                        try clear c6
                        try clear c7
                        try clear c8
                        try clear c9
                        try clear c10
                        try clear c11
                        try clear c12
                        try clear c13
                        try clear c14
                        try clear c15
                        try clear c19
                        try clear c20
                        try clear c21
                        try clear c22
                        try clear c23
                        try clear c24
                        try clear c30
                        try clear c31
                        try clear c38
                        try clear c39
                        try clear c40
                        try clear c43
                        try clear c44
                        try clear c45
                        try clear c46
                        try clear c48
                        try clear c49
                        try clear c52
                        try clear c53
                        try clear c54
                        try clear c56
                        try clear c57
                        try clear c60
                        try clear c63
                        try clear c71
                        try clear c72
                        try clear c73
                        try clear c77
                        try clear c77b0
                        try clear c79
                        try clear c80
                        try clear c81
                        try clear c82
                        try clear c84
                        try clear c85
                        try clear c88
                        try clear c89
                        try clear c90
                        try clear c92
                        try clear c93
                        try clear c96
                        try clear c99
                        try clear c99b0
                        try clear c100
                        try clear c101
                        try clear c102
                        try clear c107
                        try clear c107b0
                        try clear c107b1
                        try clear c111
                        try clear c112
                        try clear c113
                        try clear c118
                        try clear c119
                        try clear c128
                        try clear c129
                        try clear c130
                        try clear c131
                        try clear c134
                        try clear c135
                        try clear c136
                        try clear c137
                        try clear c138
                        try clear c140
                        try clear c141
                        try clear c142
                        try clear c145
                        try clear c146
                        try clear c147
                        try clear c148
                        try clear c150
                        try clear c151
                        try clear c152
                        try clear hcz103_0
                        try clear hcz105_0
                        try clear hcz114_0
                        try clear hcz116_0
                        try clear hcz120_0
                        try clear hcz120_1
                        try clear hcz120_2
                        try clear hcz132_0
                        try clear hcz139_0
                        try clear hcz143_0
                        try clear hcz149_0
                        try clear hcz14_0
                        try clear hcz14_1
                        try clear hcz14_2
                        try clear hcz153_0
                        try clear hcz16_0
                        try clear hcz16_1
                        try clear hcz16_2
                        try clear hcz25_0
                        try clear hcz26_0
                        try clear hcz26_1
                        try clear hcz26_2
                        try clear hcz32_0
                        try clear hcz32_1
                        try clear hcz32_2
                        try clear hcz41_0
                        try clear hcz47_0
                        try clear hcz50_0
                        try clear hcz55_0
                        try clear hcz58_0
                        try clear hcz6_0
                        try clear hcz6_1
                        try clear hcz6_2
                        try clear hcz74_0
                        try clear hcz74_1
                        try clear hcz74_2
                        try clear hcz83_0
                        try clear hcz86_0
                        try clear hcz91_0
                        try clear hcz94_0
                        try clear hfz103_0
                        try clear hfz105_0
                        try clear hfz114_0
                        try clear hfz116_0
                        try clear hfz120_0
                        try clear hfz120_1
                        try clear hfz120_2
                        try clear hfz132_0
                        try clear hfz139_0
                        try clear hfz143_0
                        try clear hfz149_0
                        try clear hfz14_0
                        try clear hfz14_1
                        try clear hfz14_2
                        try clear hfz153_0
                        try clear hfz16_0
                        try clear hfz16_1
                        try clear hfz16_2
                        try clear hfz25_0
                        try clear hfz26_0
                        try clear hfz26_1
                        try clear hfz26_2
                        try clear hfz32_0
                        try clear hfz32_1
                        try clear hfz32_2
                        try clear hfz41_0
                        try clear hfz47_0
                        try clear hfz50_0
                        try clear hfz55_0
                        try clear hfz58_0
                        try clear hfz6_0
                        try clear hfz6_1
                        try clear hfz6_2
                        try clear hfz74_0
                        try clear hfz74_1
                        try clear hfz74_2
                        try clear hfz83_0
                        try clear hfz86_0
                        try clear hfz91_0
                        try clear hfz94_0
                        try clear p2
                        obtain ⟨kq, x92_109, rfl, HA, HJ109, HO_438000, HO_446001, HO_446002, HO_451000, HO_479000, BK424, BK437, BK445, BK450, BK478, HB⟩ := hcut
                        have hl451000_109 := (Kd.R_reads' HO_451000.out).1
                        rw [hl451000_109] at HO_451000
                        (try simp only [hl451000_109])
                        (try simp only [hl451000_109] at BK424)
                        (try simp only [hl451000_109] at BK437)
                        (try simp only [hl451000_109] at BK445)
                        (try simp only [hl451000_109] at BK450)
                        (try simp only [hl451000_109] at BK478)
                        (try simp only [hl451000_109] at HO_438000)
                        (try simp only [hl451000_109] at HO_446001)
                        (try simp only [hl451000_109] at HO_446002)
                        (try simp only [hl451000_109] at HO_479000)
                        cases kq with
                        | zero => exact absurd HA.out (by simp [laws_FnExactFirstOfState.j2])
                        | succ kj109 =>
                          have H := HA.out
                          clear HA
                          simp only [laws_FnExactFirstOfState.j2] at H
                          by_cases c155 : x92_109 = true
                          · subst c155
                            have H1 : (some false) = some r := by rw [if_pos rfl] at H; exact H
                            clear H
                            have H := H1
                            clear H1
                            obtain rfl := Option.some.inj H
                            go_wp2
                            go_ret
                            exact ⟨by first | rfl | (simp [errW_none, errW_some] <;> rfl) | (simp [*, errW_none, errW_some] <;> rfl), by repeat (first | (with_reducible first | exact HB.out | apply below_alloc | apply pw_below_drewN | apply below_drew1 | refine below_set ?_ GE424.out | refine below_set ?_ GE437.out | refine below_set ?_ GE445.out | refine below_set ?_ GE450.out | refine below_set ?_ GE478.out) | exact HB.out)⟩
                          · replace c155 := Bool.eq_false_iff.mpr c155
                            subst c155
                            have H1 : ((laws_heldTree.f kj109 t465 1).bind fun t480 => (if t480 < 0 then (some false) else (if t480 = t464 then (some true) else (some false)))) = some r := by rw [if_neg (show ¬ (false = true) by decide)] at H; exact H
                            clear H
                            have H := H1
                            clear H1
                            replace H := Option.bind_eq_some_iff.mp H
                            obtain ⟨t480, A1560, H⟩ := H
                            replace H : (if t480 < 0 then (some false) else (if t480 = t464 then (some true) else (some false))) = some r := H
                            have A156 := Aside0.mk A1560
                            clear A1560
                            by_cases c157 : t480 < 0
                            · rw [if_pos c157] at H
                              have c157b0 : decide (t480 < 0) = true := decide_eq_true c157
                              clear c157
                              obtain rfl := Option.some.inj H
                              have hnb158 := NB450_424.out
                              have hnc158 := NB424_450.out
                              have hnb159 := NB450_437.out
                              have hnc159 := NB437_450.out
                              have hnb160 := NB450_445.out
                              have hnc160 := NB445_450.out
                              have hnb161 := NB450_478.out
                              have hnc161 := NB478_450.out
                              have hcz162_0 : wc.cell? ⟨gb450, 0, none⟩ = some (.slice Ao37 t465.length co37) := (blk_cell BK450.out 0).trans rfl
                              have hfz162_0 := blk_frozen BK450.out 0
                              go_wp2_with (first | ((with_reducible refine gate_callee (f := 21) rfl ?_); refine goesL_ (some 95) rfl rfl Try.func21 (by kernel_rfl) rfl #[.agg #[.slice Ao37 t465.length co37], .int .i64 1] rfl (by (try simp only [List.map_toArray, List.map_cons, List.map_nil]); first | done | rfl | (simp only [List.length_drop, List.length_take]; rfl)) ?_; (with_reducible refine (laws_heldTree.calls kj109 _ _ t465 1 t480 _ ?side1 ?side2 A156.out).mono ?_); (case side1 => repeat (first | exact (Kd.R_reads' HO_451000.out).2.2 | (with_reducible refine Kd.C_alloc ?_ _) | (with_reducible refine Kd.C_drewN ?_ _) | (with_reducible refine Kd.C_drew ?_))); (case side2 => exact (Kd.R_reads' HO_451000.out).2.1); rintro e w163 ⟨rfl, hb⟩; refine ⟨_, rfl, ?_⟩; have n0_ := Aside0.mk (Kd.V_below (by (with_reducible repeat (first | apply Kd.V_alloc | apply Kd.V_drewN | apply Kd.V_drew)); exact HO_438000.out) hb); have n1_ := Aside0.mk (Kd.S_below (by (with_reducible repeat (first | apply Kd.S_alloc | apply Kd.S_drewN | apply Kd.S_drew)); exact HO_446001.out) hb); have n2_ := Aside0.mk (Kd.R_below (by (with_reducible repeat (first | apply Kd.R_alloc | apply Kd.R_drewN | apply Kd.R_drew)); exact HO_446002.out) hb); have n3_ := Aside0.mk (Kd.R_below (by (with_reducible repeat (first | apply Kd.R_alloc | apply Kd.R_drewN | apply Kd.R_drew)); exact HO_451000.out) hb); have n4_ := Aside0.mk (Kd.R_below (by (with_reducible repeat (first | apply Kd.R_alloc | apply Kd.R_drewN | apply Kd.R_drew)); exact HO_479000.out) hb); have n5_ := Aside0.mk (blk_below (g := gb424) (o := .cells #[.int .i64 a0_0, .slice A0_1 l0_1.length c0_1, .slice A0_2 l0_2.length c0_2] 25 (0, 0)) (by (with_reducible repeat (first | refine blk_drewN ?_ _ | refine blk_drew ?_ | refine blk_alloc ?_ _)); exact BK424.out) hb); have n6_ := Aside0.mk (blk_below (g := gb437) (o := .cells #[.slice Ao23 t433.length co23] 38 (0, 0)) (by (with_reducible repeat (first | refine blk_drewN ?_ _ | refine blk_drew ?_ | refine blk_alloc ?_ _)); exact BK437.out) hb); have n7_ := Aside0.mk (blk_below (g := gb445) (o := .cells #[.int .i64 t438, .slice Ao33 t461.length co33, .slice Ao34 t462.length co34] 29 (0, 0)) (by (with_reducible repeat (first | refine blk_drewN ?_ _ | refine blk_drew ?_ | refine blk_alloc ?_ _)); exact BK445.out) hb); have n8_ := Aside0.mk (blk_below (g := gb450) (o := .cells #[.slice Ao37 t465.length co37] 38 (0, 0)) (by (with_reducible repeat (first | refine blk_drewN ?_ _ | refine blk_drew ?_ | refine blk_alloc ?_ _)); exact BK450.out) hb); have n9_ := Aside0.mk (blk_below (g := gb478) (o := .cells #[.slice Ao127 t474.length co127] 38 (0, 0)) (by (with_reducible repeat (first | refine blk_drewN ?_ _ | refine blk_drew ?_ | refine blk_alloc ?_ _)); exact BK478.out) hb); have n10_ := Aside0.mk (below_step (by repeat (first | (with_reducible first | exact HB.out | apply below_alloc | apply pw_below_drewN | apply below_drew1 | refine below_set ?_ GE424.out | refine below_set ?_ GE437.out | refine below_set ?_ GE445.out | refine below_set ?_ GE450.out | refine below_set ?_ GE478.out) | exact HB.out)) hb); clear HO_438000; clear HO_446001; clear HO_446002; clear HO_451000; clear HO_479000; clear BK424; clear BK437; clear BK445; clear BK450; clear BK478; clear HB; have HO_438000 := n0_; have HO_446001 := n1_; have HO_446002 := n2_; have HO_451000 := n3_; have HO_479000 := n4_; have BK424 := n5_; have BK437 := n6_; have BK445 := n7_; have BK450 := n8_; have BK478 := n9_; have HB := n10_; clear n0_ n1_ n2_ n3_ n4_ n5_ n6_ n7_ n8_ n9_ n10_; (try clear hb); (try clear hb2); (try clear hk); (try clear hi)))
                              go_ret
                              exact ⟨by first | rfl | (simp [errW_none, errW_some] <;> rfl) | (simp [*, errW_none, errW_some] <;> rfl), by repeat (first | (with_reducible first | exact HB.out | apply below_alloc | apply pw_below_drewN | apply below_drew1 | refine below_set ?_ GE424.out | refine below_set ?_ GE437.out | refine below_set ?_ GE445.out | refine below_set ?_ GE450.out | refine below_set ?_ GE478.out) | exact HB.out)⟩
                            · rw [if_neg c157] at H
                              have c157b0 : decide (t480 < 0) = false := decide_eq_false c157
                              clear c157
                              by_cases c164 : t480 = t464
                              · rw [if_pos c164] at H
                                have c164b0 : (t480 == t464) = true := beq_iff_eq.mpr c164
                                have c164b1 : (t480 != t464) = false := bne_eq_false_iff_eq.mpr c164
                                clear c164
                                obtain rfl := Option.some.inj H
                                have hnb165 := NB450_424.out
                                have hnc165 := NB424_450.out
                                have hnb166 := NB450_437.out
                                have hnc166 := NB437_450.out
                                have hnb167 := NB450_445.out
                                have hnc167 := NB445_450.out
                                have hnb168 := NB450_478.out
                                have hnc168 := NB478_450.out
                                have hcz169_0 : wc.cell? ⟨gb450, 0, none⟩ = some (.slice Ao37 t465.length co37) := (blk_cell BK450.out 0).trans rfl
                                have hfz169_0 := blk_frozen BK450.out 0
                                go_wp2_with (first | ((with_reducible refine gate_callee (f := 21) rfl ?_); refine goesL_ (some 95) rfl rfl Try.func21 (by kernel_rfl) rfl #[.agg #[.slice Ao37 t465.length co37], .int .i64 1] rfl (by (try simp only [List.map_toArray, List.map_cons, List.map_nil]); first | done | rfl | (simp only [List.length_drop, List.length_take]; rfl)) ?_; (with_reducible refine (laws_heldTree.calls kj109 _ _ t465 1 t480 _ ?side1 ?side2 A156.out).mono ?_); (case side1 => repeat (first | exact (Kd.R_reads' HO_451000.out).2.2 | (with_reducible refine Kd.C_alloc ?_ _) | (with_reducible refine Kd.C_drewN ?_ _) | (with_reducible refine Kd.C_drew ?_))); (case side2 => exact (Kd.R_reads' HO_451000.out).2.1); rintro e w170 ⟨rfl, hb⟩; refine ⟨_, rfl, ?_⟩; have n0_ := Aside0.mk (Kd.V_below (by (with_reducible repeat (first | apply Kd.V_alloc | apply Kd.V_drewN | apply Kd.V_drew)); exact HO_438000.out) hb); have n1_ := Aside0.mk (Kd.S_below (by (with_reducible repeat (first | apply Kd.S_alloc | apply Kd.S_drewN | apply Kd.S_drew)); exact HO_446001.out) hb); have n2_ := Aside0.mk (Kd.R_below (by (with_reducible repeat (first | apply Kd.R_alloc | apply Kd.R_drewN | apply Kd.R_drew)); exact HO_446002.out) hb); have n3_ := Aside0.mk (Kd.R_below (by (with_reducible repeat (first | apply Kd.R_alloc | apply Kd.R_drewN | apply Kd.R_drew)); exact HO_451000.out) hb); have n4_ := Aside0.mk (Kd.R_below (by (with_reducible repeat (first | apply Kd.R_alloc | apply Kd.R_drewN | apply Kd.R_drew)); exact HO_479000.out) hb); have n5_ := Aside0.mk (blk_below (g := gb424) (o := .cells #[.int .i64 a0_0, .slice A0_1 l0_1.length c0_1, .slice A0_2 l0_2.length c0_2] 25 (0, 0)) (by (with_reducible repeat (first | refine blk_drewN ?_ _ | refine blk_drew ?_ | refine blk_alloc ?_ _)); exact BK424.out) hb); have n6_ := Aside0.mk (blk_below (g := gb437) (o := .cells #[.slice Ao23 t433.length co23] 38 (0, 0)) (by (with_reducible repeat (first | refine blk_drewN ?_ _ | refine blk_drew ?_ | refine blk_alloc ?_ _)); exact BK437.out) hb); have n7_ := Aside0.mk (blk_below (g := gb445) (o := .cells #[.int .i64 t438, .slice Ao33 t461.length co33, .slice Ao34 t462.length co34] 29 (0, 0)) (by (with_reducible repeat (first | refine blk_drewN ?_ _ | refine blk_drew ?_ | refine blk_alloc ?_ _)); exact BK445.out) hb); have n8_ := Aside0.mk (blk_below (g := gb450) (o := .cells #[.slice Ao37 t465.length co37] 38 (0, 0)) (by (with_reducible repeat (first | refine blk_drewN ?_ _ | refine blk_drew ?_ | refine blk_alloc ?_ _)); exact BK450.out) hb); have n9_ := Aside0.mk (blk_below (g := gb478) (o := .cells #[.slice Ao127 t474.length co127] 38 (0, 0)) (by (with_reducible repeat (first | refine blk_drewN ?_ _ | refine blk_drew ?_ | refine blk_alloc ?_ _)); exact BK478.out) hb); have n10_ := Aside0.mk (below_step (by repeat (first | (with_reducible first | exact HB.out | apply below_alloc | apply pw_below_drewN | apply below_drew1 | refine below_set ?_ GE424.out | refine below_set ?_ GE437.out | refine below_set ?_ GE445.out | refine below_set ?_ GE450.out | refine below_set ?_ GE478.out) | exact HB.out)) hb); clear HO_438000; clear HO_446001; clear HO_446002; clear HO_451000; clear HO_479000; clear BK424; clear BK437; clear BK445; clear BK450; clear BK478; clear HB; have HO_438000 := n0_; have HO_446001 := n1_; have HO_446002 := n2_; have HO_451000 := n3_; have HO_479000 := n4_; have BK424 := n5_; have BK437 := n6_; have BK445 := n7_; have BK450 := n8_; have BK478 := n9_; have HB := n10_; clear n0_ n1_ n2_ n3_ n4_ n5_ n6_ n7_ n8_ n9_ n10_; (try clear hb); (try clear hb2); (try clear hk); (try clear hi)))
                                go_ret
                                exact ⟨by first | rfl | (simp [errW_none, errW_some] <;> rfl) | (simp [*, errW_none, errW_some] <;> rfl), by repeat (first | (with_reducible first | exact HB.out | apply below_alloc | apply pw_below_drewN | apply below_drew1 | refine below_set ?_ GE424.out | refine below_set ?_ GE437.out | refine below_set ?_ GE445.out | refine below_set ?_ GE450.out | refine below_set ?_ GE478.out) | exact HB.out)⟩
                              · rw [if_neg c164] at H
                                have c164b0 : (t480 == t464) = false := beq_eq_false_iff_ne.mpr c164
                                have c164b1 : (t480 != t464) = true := bne_iff_ne.mpr c164
                                obtain rfl := Option.some.inj H
                                have hnb171 := NB450_424.out
                                have hnc171 := NB424_450.out
                                have hnb172 := NB450_437.out
                                have hnc172 := NB437_450.out
                                have hnb173 := NB450_445.out
                                have hnc173 := NB445_450.out
                                have hnb174 := NB450_478.out
                                have hnc174 := NB478_450.out
                                have hcz175_0 : wc.cell? ⟨gb450, 0, none⟩ = some (.slice Ao37 t465.length co37) := (blk_cell BK450.out 0).trans rfl
                                have hfz175_0 := blk_frozen BK450.out 0
                                go_wp2_with (first | ((with_reducible refine gate_callee (f := 21) rfl ?_); refine goesL_ (some 95) rfl rfl Try.func21 (by kernel_rfl) rfl #[.agg #[.slice Ao37 t465.length co37], .int .i64 1] rfl (by (try simp only [List.map_toArray, List.map_cons, List.map_nil]); first | done | rfl | (simp only [List.length_drop, List.length_take]; rfl)) ?_; (with_reducible refine (laws_heldTree.calls kj109 _ _ t465 1 t480 _ ?side1 ?side2 A156.out).mono ?_); (case side1 => repeat (first | exact (Kd.R_reads' HO_451000.out).2.2 | (with_reducible refine Kd.C_alloc ?_ _) | (with_reducible refine Kd.C_drewN ?_ _) | (with_reducible refine Kd.C_drew ?_))); (case side2 => exact (Kd.R_reads' HO_451000.out).2.1); rintro e w176 ⟨rfl, hb⟩; refine ⟨_, rfl, ?_⟩; have n0_ := Aside0.mk (Kd.V_below (by (with_reducible repeat (first | apply Kd.V_alloc | apply Kd.V_drewN | apply Kd.V_drew)); exact HO_438000.out) hb); have n1_ := Aside0.mk (Kd.S_below (by (with_reducible repeat (first | apply Kd.S_alloc | apply Kd.S_drewN | apply Kd.S_drew)); exact HO_446001.out) hb); have n2_ := Aside0.mk (Kd.R_below (by (with_reducible repeat (first | apply Kd.R_alloc | apply Kd.R_drewN | apply Kd.R_drew)); exact HO_446002.out) hb); have n3_ := Aside0.mk (Kd.R_below (by (with_reducible repeat (first | apply Kd.R_alloc | apply Kd.R_drewN | apply Kd.R_drew)); exact HO_451000.out) hb); have n4_ := Aside0.mk (Kd.R_below (by (with_reducible repeat (first | apply Kd.R_alloc | apply Kd.R_drewN | apply Kd.R_drew)); exact HO_479000.out) hb); have n5_ := Aside0.mk (blk_below (g := gb424) (o := .cells #[.int .i64 a0_0, .slice A0_1 l0_1.length c0_1, .slice A0_2 l0_2.length c0_2] 25 (0, 0)) (by (with_reducible repeat (first | refine blk_drewN ?_ _ | refine blk_drew ?_ | refine blk_alloc ?_ _)); exact BK424.out) hb); have n6_ := Aside0.mk (blk_below (g := gb437) (o := .cells #[.slice Ao23 t433.length co23] 38 (0, 0)) (by (with_reducible repeat (first | refine blk_drewN ?_ _ | refine blk_drew ?_ | refine blk_alloc ?_ _)); exact BK437.out) hb); have n7_ := Aside0.mk (blk_below (g := gb445) (o := .cells #[.int .i64 t438, .slice Ao33 t461.length co33, .slice Ao34 t462.length co34] 29 (0, 0)) (by (with_reducible repeat (first | refine blk_drewN ?_ _ | refine blk_drew ?_ | refine blk_alloc ?_ _)); exact BK445.out) hb); have n8_ := Aside0.mk (blk_below (g := gb450) (o := .cells #[.slice Ao37 t465.length co37] 38 (0, 0)) (by (with_reducible repeat (first | refine blk_drewN ?_ _ | refine blk_drew ?_ | refine blk_alloc ?_ _)); exact BK450.out) hb); have n9_ := Aside0.mk (blk_below (g := gb478) (o := .cells #[.slice Ao127 t474.length co127] 38 (0, 0)) (by (with_reducible repeat (first | refine blk_drewN ?_ _ | refine blk_drew ?_ | refine blk_alloc ?_ _)); exact BK478.out) hb); have n10_ := Aside0.mk (below_step (by repeat (first | (with_reducible first | exact HB.out | apply below_alloc | apply pw_below_drewN | apply below_drew1 | refine below_set ?_ GE424.out | refine below_set ?_ GE437.out | refine below_set ?_ GE445.out | refine below_set ?_ GE450.out | refine below_set ?_ GE478.out) | exact HB.out)) hb); clear HO_438000; clear HO_446001; clear HO_446002; clear HO_451000; clear HO_479000; clear BK424; clear BK437; clear BK445; clear BK450; clear BK478; clear HB; have HO_438000 := n0_; have HO_446001 := n1_; have HO_446002 := n2_; have HO_451000 := n3_; have HO_479000 := n4_; have BK424 := n5_; have BK437 := n6_; have BK445 := n7_; have BK450 := n8_; have BK478 := n9_; have HB := n10_; clear n0_ n1_ n2_ n3_ n4_ n5_ n6_ n7_ n8_ n9_ n10_; (try clear hb); (try clear hb2); (try clear hk); (try clear hi)))
                                go_ret
                                exact ⟨by first | rfl | (simp [errW_none, errW_some] <;> rfl) | (simp [*, errW_none, errW_some] <;> rfl), by repeat (first | (with_reducible first | exact HB.out | apply below_alloc | apply pw_below_drewN | apply below_drew1 | refine below_set ?_ GE424.out | refine below_set ?_ GE437.out | refine below_set ?_ GE445.out | refine below_set ?_ GE450.out | refine below_set ?_ GE478.out) | exact HB.out)⟩
                    · rw [if_neg c107] at H
                      have c107b0 : (t466 == t464) = false := beq_eq_false_iff_ne.mpr c107
                      have c107b1 : (t466 != t464) = true := bne_iff_ne.mpr c107
                      obtain rfl := Option.some.inj H
                      have hnb177 := NB450_424.out
                      have hnc177 := NB424_450.out
                      have hnb178 := NB450_437.out
                      have hnc178 := NB437_450.out
                      have hnb179 := NB450_445.out
                      have hnc179 := NB445_450.out
                      have hcz180_0 : wc.cell? ⟨gb450, 0, none⟩ = some (.slice Ao37 t446.length co37) := (blk_cell BK450.out 0).trans rfl
                      have hfz180_0 := blk_frozen BK450.out 0
                      go_wp2_with (first | ((with_reducible refine gate_callee (f := 20) rfl ?_); refine goesL_ (some 68) rfl rfl Try.func20 (by kernel_rfl) rfl #[.agg #[.slice Ao37 t446.length co37], .int .i64 1] rfl (by (try simp only [List.map_toArray, List.map_cons, List.map_nil]); first | done | rfl | (simp only [List.length_drop, List.length_take]; rfl)) ?_; (with_reducible refine (laws_markTree.calls kj64 (fun k_ => some k_ = (.slice Ao37 t446.length co37 : Value).ownBlock) (.slice Ao37 t446.length co37) t446 1 t464 t465 w _ ?side1 ?side2 A97.out).mono ?_); (case side1 => repeat (first | (with_reducible first | exact HB.out | apply below_alloc | apply pw_below_drewN | apply below_drew1 | refine below_set ?_ GE424.out | refine below_set ?_ GE437.out | refine below_set ?_ GE445.out | refine below_set ?_ GE450.out) | exact HB.out)); (case side2 => exact Kd.R_tight rfl HO_451000.out); rintro e w181 ⟨rfl, hy0, hb, hkp⟩; refine ⟨_, rfl, ?_⟩; have n0_ := Aside0.mk (Kd.V_mono (ok' := fun k_ => some k_ ≠ (.slice Ao33 t461.length co33 : Value).ownBlock ∧ some k_ ≠ (.slice Ao34 t462.length co34 : Value).ownBlock ∧ some k_ ≠ (.slice Ao37 t446.length co37 : Value).ownBlock ∧ k_ ≠ gb424 ∧ k_ ≠ gb437 ∧ k_ ≠ gb445 ∧ k_ ≠ gb450 ∧ k_ ≠ lt_ N28 k_) (Kd.V_keptB (HO_438000.out) hkp (fun k_ hk_ hs_ => (hk_.2.2.1) hs_)) (fun k_ hk_ => ⟨hk_.1.1, hk_.1.2.1, hk_.1.2.2.1, hk_.1.2.2.2.1, hk_.1.2.2.2.2.1, hk_.1.2.2.2.2.2.1, hk_.1.2.2.2.2.2.2.1, hk_.1.2.2.2.2.2.2.2⟩)); have n1_ := Aside0.mk (Kd.S_mono (ok' := fun k_ => some k_ ≠ (.slice Ao34 t462.length co34 : Value).ownBlock ∧ some k_ ≠ (.slice Ao37 t446.length co37 : Value).ownBlock ∧ k_ ≠ ge_ N28 k_) (Kd.S_keptB (HO_446001.out) hkp (fun k_ hk_ hs_ => (hk_.2.1) hs_)) (fun k_ hk_ => ⟨hk_.1.1, hk_.1.2.1, hk_.1.2.2⟩)); have n2_ := Aside0.mk (Kd.R_mono (ok' := fun k_ => some k_ ≠ (.slice Ao37 t446.length co37 : Value).ownBlock) (Kd.R_keptB (HO_446002.out) hkp (fun k_ hk_ hs_ => (hk_) hs_)) (fun k_ hk_ => hk_.1)); have n3_ := Aside0.mk (Kd.R_reok rfl hy0 (fun k_ e_ => HO_451000.out.1 k_ e_)); have n4_ := Aside0.mk (blk_kept (by (with_reducible repeat (first | refine blk_drewN ?_ _ | refine blk_drew ?_ | refine blk_alloc ?_ _)); exact BK424.out) hkp (fun hs_ => (fun e_ => (Kd.R_ne HO_451000.out BK424.out (by decide)) e_) hs_)); have n5_ := Aside0.mk (blk_kept (by (with_reducible repeat (first | refine blk_drewN ?_ _ | refine blk_drew ?_ | refine blk_alloc ?_ _)); exact BK437.out) hkp (fun hs_ => (fun e_ => (Kd.R_ne HO_451000.out BK437.out (by decide)) e_) hs_)); have n6_ := Aside0.mk (blk_kept (by (with_reducible repeat (first | refine blk_drewN ?_ _ | refine blk_drew ?_ | refine blk_alloc ?_ _)); exact BK445.out) hkp (fun hs_ => (fun e_ => (Kd.R_ne HO_451000.out BK445.out (by decide)) e_) hs_)); have n7_ := Aside0.mk (blk_kept (by (with_reducible repeat (first | refine blk_drewN ?_ _ | refine blk_drew ?_ | refine blk_alloc ?_ _)); exact BK450.out) hkp (fun hs_ => (fun e_ => (Kd.R_ne HO_451000.out BK450.out (by decide)) e_) hs_)); have n8_ := Aside0.mk (hb); clear HO_438000; clear HO_446001; clear HO_446002; clear HO_451000; clear BK424; clear BK437; clear BK445; clear BK450; clear HB; have HO_438000 := n0_; have HO_446001 := n1_; have HO_446002 := n2_; have HO_451000 := n3_; have BK424 := n4_; have BK437 := n5_; have BK445 := n6_; have BK450 := n7_; have HB := n8_; clear n0_ n1_ n2_ n3_ n4_ n5_ n6_ n7_ n8_; (try clear hb); (try clear hkp); (try clear hy0); have hcz182_0 : w181.cell? ⟨gb450, 0, none⟩ = some (.slice Ao37 t446.length co37) := (blk_cell BK450.out 0).trans rfl; have hfz182_0 := blk_frozen BK450.out 0) | ((with_reducible refine gate_callee (f := 21) rfl ?_); refine goesL_ (some 71) rfl rfl Try.func21 (by kernel_rfl) rfl #[.agg #[.slice Ao37 t465.length co37], .int .i64 1] rfl (by (try simp only [List.map_toArray, List.map_cons, List.map_nil]); first | done | (rw [show t465.length = t446.length from (Kd.R_reads' HO_451000.out).1.symm] <;> rfl) | rfl | (simp only [List.length_drop, List.length_take]; rfl)) ?_; (with_reducible refine (laws_heldTree.calls kj64 _ _ t465 1 t466 _ ?side1 ?side2 A98.out).mono ?_); (case side1 => repeat (first | exact (Kd.R_reads' HO_451000.out).2.2 | (with_reducible refine Kd.C_alloc ?_ _) | (with_reducible refine Kd.C_drewN ?_ _) | (with_reducible refine Kd.C_drew ?_))); (case side2 => rw [show t465.length = t446.length from (Kd.R_reads' HO_451000.out).1.symm]; exact (Kd.R_reads' HO_451000.out).2.1); rintro e w183 ⟨rfl, hb⟩; refine ⟨_, rfl, ?_⟩; have n0_ := Aside0.mk (Kd.V_below (by (with_reducible repeat (first | apply Kd.V_alloc | apply Kd.V_drewN | apply Kd.V_drew)); exact HO_438000.out) hb); have n1_ := Aside0.mk (Kd.S_below (by (with_reducible repeat (first | apply Kd.S_alloc | apply Kd.S_drewN | apply Kd.S_drew)); exact HO_446001.out) hb); have n2_ := Aside0.mk (Kd.R_below (by (with_reducible repeat (first | apply Kd.R_alloc | apply Kd.R_drewN | apply Kd.R_drew)); exact HO_446002.out) hb); have n3_ := Aside0.mk (Kd.R_below (by (with_reducible repeat (first | apply Kd.R_alloc | apply Kd.R_drewN | apply Kd.R_drew)); exact HO_451000.out) hb); have n4_ := Aside0.mk (blk_below (g := gb424) (o := .cells #[.int .i64 a0_0, .slice A0_1 l0_1.length c0_1, .slice A0_2 l0_2.length c0_2] 25 (0, 0)) (by (with_reducible repeat (first | refine blk_drewN ?_ _ | refine blk_drew ?_ | refine blk_alloc ?_ _)); exact BK424.out) hb); have n5_ := Aside0.mk (blk_below (g := gb437) (o := .cells #[.slice Ao23 t433.length co23] 38 (0, 0)) (by (with_reducible repeat (first | refine blk_drewN ?_ _ | refine blk_drew ?_ | refine blk_alloc ?_ _)); exact BK437.out) hb); have n6_ := Aside0.mk (blk_below (g := gb445) (o := .cells #[.int .i64 t438, .slice Ao33 t461.length co33, .slice Ao34 t462.length co34] 29 (0, 0)) (by (with_reducible repeat (first | refine blk_drewN ?_ _ | refine blk_drew ?_ | refine blk_alloc ?_ _)); exact BK445.out) hb); have n7_ := Aside0.mk (blk_below (g := gb450) (o := .cells #[.slice Ao37 t446.length co37] 38 (0, 0)) (by (with_reducible repeat (first | refine blk_drewN ?_ _ | refine blk_drew ?_ | refine blk_alloc ?_ _)); exact BK450.out) hb); have n8_ := Aside0.mk (below_step (by repeat (first | (with_reducible first | exact HB.out | apply below_alloc | apply pw_below_drewN | apply below_drew1 | refine below_set ?_ GE424.out | refine below_set ?_ GE437.out | refine below_set ?_ GE445.out | refine below_set ?_ GE450.out) | exact HB.out)) hb); clear HO_438000; clear HO_446001; clear HO_446002; clear HO_451000; clear BK424; clear BK437; clear BK445; clear BK450; clear HB; have HO_438000 := n0_; have HO_446001 := n1_; have HO_446002 := n2_; have HO_451000 := n3_; have BK424 := n4_; have BK437 := n5_; have BK445 := n6_; have BK450 := n7_; have HB := n8_; clear n0_ n1_ n2_ n3_ n4_ n5_ n6_ n7_ n8_; (try clear hb); (try clear hb2); (try clear hk); (try clear hi)))
                      go_ret
                      exact ⟨by first | rfl | (simp [errW_none, errW_some] <;> rfl) | (simp [*, errW_none, errW_some] <;> rfl), by repeat (first | (with_reducible first | exact HB.out | apply below_alloc | apply pw_below_drewN | apply below_drew1 | refine below_set ?_ GE424.out | refine below_set ?_ GE437.out | refine below_set ?_ GE445.out | refine below_set ?_ GE450.out) | exact HB.out)⟩
          · replace c63 := Bool.eq_false_iff.mpr c63
            subst c63
            have H1 : (some false) = some r := by rw [if_neg (show ¬ (false = true) by decide)] at H; exact H
            clear H
            have H := H1
            clear H1
            obtain rfl := Option.some.inj H
            try go_wp2
            have n0_ := Aside0.mk (Kd.V_drew HO_438000.out)
            have n1_ := Aside0.mk (Kd.S_drew HO_446001.out)
            have n2_ := Aside0.mk (Kd.R_drew HO_446002.out)
            have n3_ := Aside0.mk (Kd.R_drew HO_451000.out)
            have n4_ := Aside0.mk (blk_drew BK424.out)
            have n5_ := Aside0.mk (blk_drew BK437.out)
            have n6_ := Aside0.mk (blk_drew BK445.out)
            have n7_ := Aside0.mk (blk_drew BK450.out)
            have n8_ := Aside0.mk (below_drew1 HB.out)
            clear HO_438000
            clear HO_446001
            clear HO_446002
            clear HO_451000
            clear BK424
            clear BK437
            clear BK445
            clear BK450
            clear HB
            have HO_438000 := n0_
            have HO_446001 := n1_
            have HO_446002 := n2_
            have HO_451000 := n3_
            have BK424 := n4_
            have BK437 := n5_
            have BK445 := n6_
            have BK450 := n7_
            have HB := n8_
            clear n0_ n1_ n2_ n3_ n4_ n5_ n6_ n7_ n8_
            refine start_ (n := 5) (S := fun w' => w'.cell? ⟨gb445, 0, none⟩ = some (.int .i64 t438) ∧ w'.cell? ⟨gb445, 1, none⟩ = some (.slice Ao33 t439.length co33) ∧ w'.cell? ⟨gb445, 2, none⟩ = some (.slice Ao34 t442.length co34) ∧ w'.cell? ⟨gb424, 0, none⟩ = some (.int .i64 a0_0) ∧ w'.cell? ⟨gb424, 1, none⟩ = some (.slice A0_1 l0_1.length c0_1) ∧ w'.cell? ⟨gb424, 2, none⟩ = some (.slice A0_2 l0_2.length c0_2)) (ds := []) #[false, false, false, false, false] (by kernel_rfl) rfl rfl ⟨(blk_cell BK445.out 0).trans rfl, (blk_cell BK445.out 1).trans rfl, (blk_cell BK445.out 2).trans rfl, (blk_cell BK424.out 0).trans rfl, (blk_cell BK424.out 1).trans rfl, (blk_cell BK424.out 2).trans rfl⟩ (fun hHeld => ?_)
            generalize wc.drew = w184 at HO_438000 HO_446001 HO_446002 HO_451000 BK424 BK437 BK445 BK450 HB hHeld ⊢
            refine take_ (i := 0) (N := some 45) (v := ?_) (a' := ?_) #[true, false, false, false, false] rfl rfl (by kernel_rfl) (fun _ _ _ h => h) (Or.inl ⟨by rfl, ?_⟩) hHeld ?_ ?_
            rotate_left
            · rintro w' ⟨s0, s1, s2, s3, s4, s5⟩
              go_simp
              with_reducible rfl
            rotate_left
            · simp only [Act.put, List.setIfInBounds_toArray, List.set_cons_zero, List.set_cons_succ, i64_w, i32_w]
              rfl
            refine take_ (i := 1) (N := some 46) (v := ?_) (a' := ?_) #[true, true, false, false, false] rfl rfl (by kernel_rfl) (fun _ _ _ h => h) (Or.inl ⟨by rfl, ?_⟩) hHeld ?_ ?_
            rotate_left
            · rintro w' ⟨s0, s1, s2, s3, s4, s5⟩
              go_simp
              with_reducible rfl
            rotate_left
            · simp only [Act.put, List.setIfInBounds_toArray, List.set_cons_zero, List.set_cons_succ, i64_w, i32_w]
              rfl
            refine one_ (i := 2) (N := some 47) #[true, true, true, false, false] rfl rfl (by kernel_rfl) (by decide) (fun K hK => ?_)
            refine goes_ Try.func10 (by kernel_rfl) rfl #[.agg #[.int .i64 a0_0, .slice A0_1 l0_1.length c0_1, .slice A0_2 l0_2.length c0_2]] (by rfl) rfl rfl (by (try simp only [List.map_toArray, List.map_cons, List.map_nil]); first | done | rfl | (simp only [List.length_drop, List.length_take]; rfl)) ?_
            with_reducible refine (laws_toAutomaton.calls kj11 a0_0 _ _ l0_1 _ _ l0_2 t452 t453 t456 _ ?side1 ?side2 ?side3 ?side4 A61.out).mono ?_
            (case side1 => repeat (first | exact (Kd.C_below HR0_1.out HB.out) | (with_reducible refine Kd.C_alloc ?_ _) | (with_reducible refine Kd.C_drewN ?_ _) | (with_reducible refine Kd.C_drew ?_)))
            (case side2 => exact HC0_1.out)
            (case side3 => repeat (first | exact (Kd.C_below HR0_2.out HB.out) | (with_reducible refine Kd.C_alloc ?_ _) | (with_reducible refine Kd.C_drewN ?_ _) | (with_reducible refine Kd.C_drew ?_)))
            (case side4 => exact HC0_2.out)
            rintro e w185 ⟨v454, v457, rfl, ho0, ho1, hb⟩
            refine ⟨_, rfl, ?_⟩
            have n0_ := Aside0.mk (Kd.V_mono (Kd.V_told (Kd.V_told (Kd.V_old (by (with_reducible repeat (first | apply Kd.V_alloc | apply Kd.V_drewN | apply Kd.V_drew)); exact HO_438000.out) hb) (Kd.S_base ho0)) (Kd.R_base ho1)) (fun _ h_ => h_.1))
            have n1_ := Aside0.mk (Kd.S_mono (Kd.S_told (Kd.S_told (Kd.S_old (by (with_reducible repeat (first | apply Kd.S_alloc | apply Kd.S_drewN | apply Kd.S_drew)); exact HO_446001.out) hb) (Kd.S_base ho0)) (Kd.R_base ho1)) (fun _ h_ => h_.1))
            have n2_ := Aside0.mk (Kd.R_elder' (by (with_reducible repeat (first | apply Kd.R_alloc | apply Kd.R_drewN | apply Kd.R_drew)); exact HO_446002.out) (Kd.R_base ho1) hb)
            have n3_ := Aside0.mk (Kd.R_elder' (by (with_reducible repeat (first | apply Kd.R_alloc | apply Kd.R_drewN | apply Kd.R_drew)); exact HO_451000.out) (Kd.R_base ho1) hb)
            have n4_ := Aside0.mk (Kd.S_lower (Kd.S_new' (Kd.S_new' (Kd.S_new' ho0 (Kd.S_lt (by (with_reducible repeat (first | apply Kd.S_alloc | apply Kd.S_drewN | apply Kd.S_drew)); exact HO_446001.out))) (Kd.R_lt (by (with_reducible repeat (first | apply Kd.R_alloc | apply Kd.R_drewN | apply Kd.R_drew)); exact HO_446002.out))) (Kd.R_lt (by (with_reducible repeat (first | apply Kd.R_alloc | apply Kd.R_drewN | apply Kd.R_drew)); exact HO_451000.out))) (below_size (by repeat (first | (with_reducible first | exact HB.out | apply below_alloc | apply pw_below_drewN | apply below_drew1 | refine below_set ?_ GE424.out | refine below_set ?_ GE437.out | refine below_set ?_ GE445.out | refine below_set ?_ GE450.out) | exact HB.out))))
            have n5_ := Aside0.mk (Kd.R_lower (Kd.R_new' (Kd.R_new' ho1 (Kd.R_lt (by (with_reducible repeat (first | apply Kd.R_alloc | apply Kd.R_drewN | apply Kd.R_drew)); exact HO_446002.out))) (Kd.R_lt (by (with_reducible repeat (first | apply Kd.R_alloc | apply Kd.R_drewN | apply Kd.R_drew)); exact HO_451000.out))) (below_size (by repeat (first | (with_reducible first | exact HB.out | apply below_alloc | apply pw_below_drewN | apply below_drew1 | refine below_set ?_ GE424.out | refine below_set ?_ GE437.out | refine below_set ?_ GE445.out | refine below_set ?_ GE450.out) | exact HB.out))))
            have n6_ := Aside0.mk (blk_below (g := gb424) (o := .cells #[.int .i64 a0_0, .slice A0_1 l0_1.length c0_1, .slice A0_2 l0_2.length c0_2] 25 (0, 0)) (by (with_reducible repeat (first | refine blk_drewN ?_ _ | refine blk_drew ?_ | refine blk_alloc ?_ _)); exact BK424.out) hb)
            have n7_ := Aside0.mk (blk_below (g := gb437) (o := .cells #[.slice Ao23 t433.length co23] 38 (0, 0)) (by (with_reducible repeat (first | refine blk_drewN ?_ _ | refine blk_drew ?_ | refine blk_alloc ?_ _)); exact BK437.out) hb)
            have n8_ := Aside0.mk (blk_below (g := gb445) (o := .cells #[.int .i64 t438, .slice Ao33 t439.length co33, .slice Ao34 t442.length co34] 29 (0, 0)) (by (with_reducible repeat (first | refine blk_drewN ?_ _ | refine blk_drew ?_ | refine blk_alloc ?_ _)); exact BK445.out) hb)
            have n9_ := Aside0.mk (blk_below (g := gb450) (o := .cells #[.slice Ao37 t446.length co37] 38 (0, 0)) (by (with_reducible repeat (first | refine blk_drewN ?_ _ | refine blk_drew ?_ | refine blk_alloc ?_ _)); exact BK450.out) hb)
            have n10_ := Aside0.mk (below_step (by repeat (first | (with_reducible first | exact HB.out | apply below_alloc | apply pw_below_drewN | apply below_drew1 | refine below_set ?_ GE424.out | refine below_set ?_ GE437.out | refine below_set ?_ GE445.out | refine below_set ?_ GE450.out) | exact HB.out)) hb)
            clear HO_438000
            clear HO_446001
            clear HO_446002
            clear HO_451000
            clear BK424
            clear BK437
            clear BK445
            clear BK450
            clear HB
            have HO_438000 := n0_
            have HO_446001 := n1_
            have HO_446002 := n2_
            have HO_451000 := n3_
            have HO455 := n4_
            have HO458 := n5_
            have BK424 := n6_
            have BK437 := n7_
            have BK445 := n8_
            have BK450 := n9_
            have HB := n10_
            clear n0_ n1_ n2_ n3_ n4_ n5_ n6_ n7_ n8_ n9_ n10_
            (try clear hb)
            (try clear hb2)
            (try clear hk)
            (try clear hi)
            (try clear ho0)
            (try clear ho1)
            obtain ⟨Ao186, co186, eo186⟩ := Kd.S_slice HO455.out
            (first | subst eo186 | (injection eo186 with f1_ f2_ f3_; have f4_ := f1_.symm; have f5_ := f3_.symm; clear f1_ f2_ f3_; subst f4_; subst f5_))
            obtain ⟨Ao187, co187, eo187⟩ := Kd.R_slice HO458.out
            (first | subst eo187 | (injection eo187 with f1_ f2_ f3_; have f4_ := f1_.symm; have f5_ := f3_.symm; clear f1_ f2_ f3_; subst f4_; subst f5_))
            refine hK.out _ _ ⟨(blk_cell BK445.out 0).trans rfl, (blk_cell BK445.out 1).trans rfl, (blk_cell BK445.out 2).trans rfl, (blk_cell BK424.out 0).trans rfl, (blk_cell BK424.out 1).trans rfl, (blk_cell BK424.out 2).trans rfl⟩ (fun hHeld => ?_)
            clear hK K
            refine norm_ (a' := ?_) ?_ ?_
            rotate_left
            · show Act.put _ (some 47) _ = _
              simp only [Act.put, List.setIfInBounds_toArray, List.set_cons_zero, List.set_cons_succ, i64_w, i32_w]
              rfl
            refine one_ (i := 3) (N := some 48) #[true, true, true, true, false] rfl rfl (by kernel_rfl) (by decide) (fun K hK => ?_)
            refine goes_ Try.func12 (by kernel_rfl) rfl #[.agg #[.int .i64 t438, .slice Ao33 t439.length co33, .slice Ao34 t442.length co34], .agg #[.int .i64 t452, .slice Ao186 t453.length co186, .slice Ao187 t456.length co187]] (by rfl) rfl rfl (by (try simp only [List.map_toArray, List.map_cons, List.map_nil]); first | done | rfl | (simp only [List.length_drop, List.length_take]; rfl)) ?_
            with_reducible refine (laws_eqAutomaton.calls kj11 t438 _ _ t439 _ _ t442 t452 _ _ t453 _ _ t456 false _ ?side1 ?side2 ?side3 ?side4 ?side5 ?side6 ?side7 ?side8 A62.out).mono ?_
            (case side1 => repeat (first | exact (Kd.S_reads' HO_446001.out).2.2 | (with_reducible refine Kd.C_alloc ?_ _) | (with_reducible refine Kd.C_drewN ?_ _) | (with_reducible refine Kd.C_drew ?_)))
            (case side2 => exact (Kd.S_reads' HO_446001.out).2.1)
            (case side3 => repeat (first | exact (Kd.R_reads' HO_446002.out).2.2 | (with_reducible refine Kd.C_alloc ?_ _) | (with_reducible refine Kd.C_drewN ?_ _) | (with_reducible refine Kd.C_drew ?_)))
            (case side4 => exact (Kd.R_reads' HO_446002.out).2.1)
            (case side5 => repeat (first | exact (Kd.S_reads' HO455.out).2.2 | (with_reducible refine Kd.C_alloc ?_ _) | (with_reducible refine Kd.C_drewN ?_ _) | (with_reducible refine Kd.C_drew ?_)))
            (case side6 => exact (Kd.S_reads' HO455.out).2.1)
            (case side7 => repeat (first | exact (Kd.R_reads' HO458.out).2.2 | (with_reducible refine Kd.C_alloc ?_ _) | (with_reducible refine Kd.C_drewN ?_ _) | (with_reducible refine Kd.C_drew ?_)))
            (case side8 => exact (Kd.R_reads' HO458.out).2.1)
            rintro e w188 ⟨rfl, hb⟩
            refine ⟨_, rfl, ?_⟩
            have n0_ := Aside0.mk (Kd.V_below (by (with_reducible repeat (first | apply Kd.V_alloc | apply Kd.V_drewN | apply Kd.V_drew)); exact HO_438000.out) hb)
            have n1_ := Aside0.mk (Kd.S_below (by (with_reducible repeat (first | apply Kd.S_alloc | apply Kd.S_drewN | apply Kd.S_drew)); exact HO_446001.out) hb)
            have n2_ := Aside0.mk (Kd.R_below (by (with_reducible repeat (first | apply Kd.R_alloc | apply Kd.R_drewN | apply Kd.R_drew)); exact HO_446002.out) hb)
            have n3_ := Aside0.mk (Kd.R_below (by (with_reducible repeat (first | apply Kd.R_alloc | apply Kd.R_drewN | apply Kd.R_drew)); exact HO_451000.out) hb)
            have n4_ := Aside0.mk (Kd.S_below (by (with_reducible repeat (first | apply Kd.S_alloc | apply Kd.S_drewN | apply Kd.S_drew)); exact HO455.out) hb)
            have n5_ := Aside0.mk (Kd.R_below (by (with_reducible repeat (first | apply Kd.R_alloc | apply Kd.R_drewN | apply Kd.R_drew)); exact HO458.out) hb)
            have n6_ := Aside0.mk (blk_below (g := gb424) (o := .cells #[.int .i64 a0_0, .slice A0_1 l0_1.length c0_1, .slice A0_2 l0_2.length c0_2] 25 (0, 0)) (by (with_reducible repeat (first | refine blk_drewN ?_ _ | refine blk_drew ?_ | refine blk_alloc ?_ _)); exact BK424.out) hb)
            have n7_ := Aside0.mk (blk_below (g := gb437) (o := .cells #[.slice Ao23 t433.length co23] 38 (0, 0)) (by (with_reducible repeat (first | refine blk_drewN ?_ _ | refine blk_drew ?_ | refine blk_alloc ?_ _)); exact BK437.out) hb)
            have n8_ := Aside0.mk (blk_below (g := gb445) (o := .cells #[.int .i64 t438, .slice Ao33 t439.length co33, .slice Ao34 t442.length co34] 29 (0, 0)) (by (with_reducible repeat (first | refine blk_drewN ?_ _ | refine blk_drew ?_ | refine blk_alloc ?_ _)); exact BK445.out) hb)
            have n9_ := Aside0.mk (blk_below (g := gb450) (o := .cells #[.slice Ao37 t446.length co37] 38 (0, 0)) (by (with_reducible repeat (first | refine blk_drewN ?_ _ | refine blk_drew ?_ | refine blk_alloc ?_ _)); exact BK450.out) hb)
            have n10_ := Aside0.mk (below_step (by repeat (first | (with_reducible first | exact HB.out | apply below_alloc | apply pw_below_drewN | apply below_drew1 | refine below_set ?_ GE424.out | refine below_set ?_ GE437.out | refine below_set ?_ GE445.out | refine below_set ?_ GE450.out) | exact HB.out)) hb)
            clear HO_438000
            clear HO_446001
            clear HO_446002
            clear HO_451000
            clear HO455
            clear HO458
            clear BK424
            clear BK437
            clear BK445
            clear BK450
            clear HB
            have HO_438000 := n0_
            have HO_446001 := n1_
            have HO_446002 := n2_
            have HO_451000 := n3_
            have HO455 := n4_
            have HO458 := n5_
            have BK424 := n6_
            have BK437 := n7_
            have BK445 := n8_
            have BK450 := n9_
            have HB := n10_
            clear n0_ n1_ n2_ n3_ n4_ n5_ n6_ n7_ n8_ n9_ n10_
            (try clear hb)
            (try clear hb2)
            (try clear hk)
            (try clear hi)
            refine hK.out _ _ ⟨(blk_cell BK445.out 0).trans rfl, (blk_cell BK445.out 1).trans rfl, (blk_cell BK445.out 2).trans rfl, (blk_cell BK424.out 0).trans rfl, (blk_cell BK424.out 1).trans rfl, (blk_cell BK424.out 2).trans rfl⟩ (fun hHeld => ?_)
            clear hK K
            refine norm_ (a' := ?_) ?_ ?_
            rotate_left
            · show Act.put _ (some 48) _ = _
              simp only [Act.put, List.setIfInBounds_toArray, List.set_cons_zero, List.set_cons_succ, i64_w, i32_w]
              rfl
            refine pure_ (i := 4) (N := some 49) (v := ?_) (a' := ?_) #[true, true, true, true, true] rfl rfl (by kernel_rfl) (fun _ _ _ h => h) (Or.inl ⟨by rfl, ?_⟩) ?_ ?_
            rotate_left
            · intro w'
              go_simp
              with_reducible rfl
            rotate_left
            · simp only [Act.put, List.setIfInBounds_toArray, List.set_cons_zero, List.set_cons_succ, i64_w, i32_w]
              rfl
            refine done_ (by kernel_rfl) ?_
            try go_wp2
            go_ret
            exact ⟨by first | rfl | (simp [errW_none, errW_some] <;> rfl) | (simp [*, errW_none, errW_some] <;> rfl), by repeat (first | (with_reducible first | exact HB.out | apply below_alloc | apply pw_below_drewN | apply below_drew1 | refine below_set ?_ GE424.out | refine below_set ?_ GE437.out | refine below_set ?_ GE445.out | refine below_set ?_ GE450.out) | exact HB.out)⟩

end Go.Proofs.Ytmnpdkhkgddojaa.E
