/- The row of the law FnExactFirstTaken, out of its pure statement. -/
import Derived.Test.YtmnpdkhkgddojaaQFTEx0
import Derived.Test.YtmnpdkhkgddojaaQFTEx1
import Derived.Test.YtmnpdkhkgddojaaQFTEx4
import Derived.Test.YtmnpdkhkgddojaaQFTEx5
-- Written by wip/ext.py of this claim (contracts by the form of the kit's print; hand-written ones among them).
namespace Go.Proofs.Ytmnpdkhkgddojaa.E
open Go.RowKit Go.Proofs.YtmnpdkhkgddojaaW.PrintWords Go.Proofs.YtmnpdkhkgddojaaW.PrintLast Go.Proofs.YtmnpdkhkgddojaaW.PrintMore
attribute [local go_sem] max2_int min2_int max_two min_two max_three min_three max_four min_four   -- for this text's walks alone
set_option linter.unusedVariables false
set_option linter.unusedSimpArgs false

mutual
def laws_FnExactFirstTaken.j0 : Nat → Int → Int → Bool → Int → List (List Int) → List Int → List Int → Int → List (List Int) → List Int → List Int → Option (Bool)
  | 0, _, _, _, _, _, _, _, _, _, _, _ => none
  | k + 1, x5, x8, x40, x341000, x341001, x341002, x354000, x362000, x362001, x362002, x367000 => if x40 = true then (some false) else ((laws_toAutomaton.f k x341000 x341001 x341002).bind fun bt368 => ((laws_eqAutomaton.f k x362000 x362001 x362002 bt368.1 bt368.2.1 bt368.2.2).bind fun t375 => (if t375 = true then ((laws_markAutomaton.f k x362000 x362001 x362002 1).bind fun bt376 => (if bt376.1 < 0 then (laws_FnExactFirstTaken.j1 k x5 true x341000 x341001 x341002 x354000 x367000) else ((laws_eqTree.f k x367000 x354000).bind fun t379 => (if t379 = true then (laws_FnExactFirstTaken.j1 k x5 (x8 != x5) x341000 x341001 x341002 x354000 x367000) else (laws_FnExactFirstTaken.j1 k x5 true x341000 x341001 x341002 x354000 x367000))))) else (some false))))
def laws_FnExactFirstTaken.j1 : Nat → Int → Bool → Int → List (List Int) → List Int → List Int → List Int → Option (Bool)
  | 0, _, _, _, _, _, _, _ => none
  | k + 1, x5, x61, x341000, x341001, x341002, x354000, x367000 => if x61 = true then (some false) else ((laws_markTree.f k x367000 1).bind fun bt380 => ((laws_heldTree.f k bt380.2 1).bind fun t382 => (if t382 < 0 then (some false) else (if t382 = bt380.1 then ((laws_toAutomaton.f k x341000 x341001 x341002).bind fun bt383 => ((impl_FirstTaken.f k bt383.1 bt383.2.1 bt383.2.2).bind fun bt390 => ((laws_eqTree.f k bt390.1 x354000).bind fun t395 => (if t395 = true then (laws_FnExactFirstTaken.j2 k bt380.1 (bt390.2 != x5) bt380.2) else (laws_FnExactFirstTaken.j2 k bt380.1 true bt380.2))))) else (some false)))))
def laws_FnExactFirstTaken.j2 : Nat → Int → Bool → List Int → Option (Bool)
  | 0, _, _, _ => none
  | k + 1, x10, x87, x367000 => if x87 = true then (some false) else ((laws_heldTree.f k x367000 1).bind fun t396 => (if t396 < 0 then (some false) else (if t396 = x10 then (some true) else (some false))))
end
def laws_FnExactFirstTaken.f (k : Nat) (a0_0 : Int) (l0_1 : List (List Int)) (l0_2 : List Int) : Option (Bool) := (laws_szAutomaton.f k a0_0 l0_1 l0_2 1048576).bind fun t341 => (if t341 < 0 then (some true) else ((laws_toAutomaton.f k a0_0 l0_1 l0_2).bind fun bt342 => ((spec_FirstTaken.f k bt342.1 bt342.2.1 bt342.2.2).bind fun bt349 => ((laws_toAutomaton.f k a0_0 l0_1 l0_2).bind fun bt354 => ((impl_FirstTaken.f k bt354.1 bt354.2.1 bt354.2.2).bind fun bt362 => ((laws_eqTree.f k bt362.1 bt349.1).bind fun t367 => (if t367 = true then (laws_FnExactFirstTaken.j0 k bt349.2 bt362.2 (bt362.2 != bt349.2) a0_0 l0_1 l0_2 bt349.1 bt354.1 bt354.2.1 bt354.2.2 bt362.1) else (laws_FnExactFirstTaken.j0 k bt349.2 bt362.2 true a0_0 l0_1 l0_2 bt349.1 bt354.1 bt354.2.1 bt354.2.2 bt362.1))))))))
set_option maxHeartbeats 8000000 in
set_option maxRecDepth 100000 in
theorem laws_FnExactFirstTaken.calls (k : Nat) (a0_0 : Int) (A0_1 : Option Addr) (c0_1 : Nat) (l0_1 : List (List Int)) (A0_2 : Option Addr) (c0_2 : Nat) (l0_2 : List Int) (r : Bool) (w : World) (hr0_1 : Kd.C (Kd.slice 2 (Kd.int .i64)) w A0_1 l0_1.length l0_1) (hc0_1 : l0_1.length ≤ c0_1) (hr0_2 : Kd.C (Kd.int .i64) w A0_2 l0_2.length l0_2) (hc0_2 : l0_2.length ≤ c0_2) (h : laws_FnExactFirstTaken.f k a0_0 l0_1 l0_2 = some r) :
    Calls Try.prog 5 #[.agg #[.int .i64 a0_0, .slice A0_1 l0_1.length c0_1, .slice A0_2 l0_2.length c0_2]] w fun e w' => e = .returned (.bool r) ∧ Below w.heap.size w w' := by
  have hu25 := Try.underlying25
  have hu38 := Try.underlying38
  have hu29 := Try.underlying29
  have HR0_1 := Aside0.mk hr0_1
  have HC0_1 := Aside0.mk hc0_1
  clear hr0_1 hc0_1
  have HR0_2 := Aside0.mk hr0_2
  have HC0_2 := Aside0.mk hc0_2
  clear hr0_2 hc0_2
  have HB := Aside0.mk (Below.refl w.heap.size w)
  have H : ((laws_szAutomaton.f k a0_0 l0_1 l0_2 1048576).bind fun t341 => (if t341 < 0 then (some true) else ((laws_toAutomaton.f k a0_0 l0_1 l0_2).bind fun bt342 => ((spec_FirstTaken.f k bt342.1 bt342.2.1 bt342.2.2).bind fun bt349 => ((laws_toAutomaton.f k a0_0 l0_1 l0_2).bind fun bt354 => ((impl_FirstTaken.f k bt354.1 bt354.2.1 bt354.2.2).bind fun bt362 => ((laws_eqTree.f k bt362.1 bt349.1).bind fun t367 => (if t367 = true then (laws_FnExactFirstTaken.j0 k bt349.2 bt362.2 (bt362.2 != bt349.2) a0_0 l0_1 l0_2 bt349.1 bt354.1 bt354.2.1 bt354.2.2 bt362.1) else (laws_FnExactFirstTaken.j0 k bt349.2 bt362.2 true a0_0 l0_1 l0_2 bt349.1 bt354.1 bt354.2.1 bt354.2.2 bt362.1))))))))) = some r := h
  clear h
  replace H := Option.bind_eq_some_iff.mp H
  obtain ⟨t341, A20, H⟩ := H
  replace H : (if t341 < 0 then (some true) else ((laws_toAutomaton.f k a0_0 l0_1 l0_2).bind fun bt342 => ((spec_FirstTaken.f k bt342.1 bt342.2.1 bt342.2.2).bind fun bt349 => ((laws_toAutomaton.f k a0_0 l0_1 l0_2).bind fun bt354 => ((impl_FirstTaken.f k bt354.1 bt354.2.1 bt354.2.2).bind fun bt362 => ((laws_eqTree.f k bt362.1 bt349.1).bind fun t367 => (if t367 = true then (laws_FnExactFirstTaken.j0 k bt349.2 bt362.2 (bt362.2 != bt349.2) a0_0 l0_1 l0_2 bt349.1 bt354.1 bt354.2.1 bt354.2.2 bt362.1) else (laws_FnExactFirstTaken.j0 k bt349.2 bt362.2 true a0_0 l0_1 l0_2 bt349.1 bt354.1 bt354.2.1 bt354.2.2 bt362.1)))))))) = some r := H
  have A2 := Aside0.mk A20
  clear A20
  by_cases c3 : t341 < 0
  · rw [if_pos c3] at H
    have c3b0 : decide (t341 < 0) = true := decide_eq_true c3
    clear c3
    obtain rfl := Option.some.inj H
    go_enter Try.func5, Try.ntmps5
    go_wp2_with (first | ((with_reducible refine gate_dst (N := 1) rfl ?_); refine box_event ?hg (N := 1) ?hd (cs := #[.int .i64 a0_0, .slice A0_1 l0_1.length c0_1, .slice A0_2 l0_2.length c0_2]) (t := 25) ?hr ?_; (case hd => rfl); (case hg => rfl); (case hr => first | (go_simp; done) | (go_simp; rfl)); intro gb340 hg w4 hbox hb; have n0_ := Aside0.mk (below_step (by repeat (first | (with_reducible first | exact HB.out | apply below_alloc | apply pw_below_drewN | apply below_drew1) | exact HB.out)) hb); have n1_ := Aside0.mk (hbox); have n2_ := Aside0.mk ((by rw [hg]; exact (below_size (by repeat (first | (with_reducible first | exact HB.out | apply below_alloc | apply pw_below_drewN | apply below_drew1) | exact HB.out))) : w.heap.size ≤ gb340)); have n3_ := Aside0.mk ((by rw [hg]; exact (below_size (by repeat (first | (with_reducible first | exact HB.out | apply below_alloc | apply pw_below_drewN | apply below_drew1) | exact HB.out))) : w.heap.size ≤ gb340)); clear HB; have HB := n0_; have BK340 := n1_; have GW340 := n2_; have GE340 := n3_; clear n0_ n1_ n2_ n3_; clear hb hbox hg; have hcz5_0 : w4.cell? ⟨gb340, 0, none⟩ = some (.int .i64 a0_0) := (blk_cell BK340.out 0).trans rfl; have hcz5_1 : w4.cell? ⟨gb340, 1, none⟩ = some (.slice A0_1 l0_1.length c0_1) := (blk_cell BK340.out 1).trans rfl; have hcz5_2 : w4.cell? ⟨gb340, 2, none⟩ = some (.slice A0_2 l0_2.length c0_2) := (blk_cell BK340.out 2).trans rfl; have hfz5_0 := blk_frozen BK340.out 0; have hfz5_1 := blk_frozen BK340.out 1; have hfz5_2 := blk_frozen BK340.out 2) | ((with_reducible refine gate_callee (f := 8) rfl ?_); refine goesL_ (some 16) rfl rfl Try.func8 (by kernel_rfl) rfl #[.agg #[.int .i64 a0_0, .slice A0_1 l0_1.length c0_1, .slice A0_2 l0_2.length c0_2], .int .i64 1048576] rfl (by (try simp only [List.map_toArray, List.map_cons, List.map_nil]); first | done | rfl | (simp only [List.length_drop, List.length_take]; rfl)) ?_; (with_reducible refine (laws_szAutomaton.calls k a0_0 _ _ l0_1 _ _ l0_2 1048576 t341 _ ?side1 ?side2 ?side3 ?side4 A2.out).mono ?_); (case side1 => repeat (first | exact (Kd.C_below HR0_1.out HB.out) | (with_reducible refine Kd.C_alloc ?_ _) | (with_reducible refine Kd.C_drewN ?_ _) | (with_reducible refine Kd.C_drew ?_))); (case side2 => exact HC0_1.out); (case side3 => repeat (first | exact (Kd.C_below HR0_2.out HB.out) | (with_reducible refine Kd.C_alloc ?_ _) | (with_reducible refine Kd.C_drewN ?_ _) | (with_reducible refine Kd.C_drew ?_))); (case side4 => exact HC0_2.out); rintro e w6 ⟨rfl, hb⟩; refine ⟨_, rfl, ?_⟩; have n0_ := Aside0.mk (blk_below (g := gb340) (o := .cells #[.int .i64 a0_0, .slice A0_1 l0_1.length c0_1, .slice A0_2 l0_2.length c0_2] 25 (0, 0)) (by (with_reducible repeat (first | refine blk_drewN ?_ _ | refine blk_drew ?_ | refine blk_alloc ?_ _)); exact BK340.out) hb); have n1_ := Aside0.mk (below_step (by repeat (first | (with_reducible first | exact HB.out | apply below_alloc | apply pw_below_drewN | apply below_drew1 | refine below_set ?_ GE340.out) | exact HB.out)) hb); clear BK340; clear HB; have BK340 := n0_; have HB := n1_; clear n0_ n1_; (try clear hb); (try clear hb2); (try clear hk); (try clear hi)))
    go_ret
    exact ⟨by first | rfl | (simp [errW_none, errW_some] <;> rfl) | (simp [*, errW_none, errW_some] <;> rfl), by repeat (first | (with_reducible first | exact HB.out | apply below_alloc | apply pw_below_drewN | apply below_drew1 | refine below_set ?_ GE340.out) | exact HB.out)⟩
  · rw [if_neg c3] at H
    have c3b0 : decide (t341 < 0) = false := decide_eq_false c3
    clear c3
    replace H := Option.bind_eq_some_iff.mp H
    obtain ⟨⟨t342, t343, t346⟩, A70, H⟩ := H
    replace H : ((spec_FirstTaken.f k t342 t343 t346).bind fun bt349 => ((laws_toAutomaton.f k a0_0 l0_1 l0_2).bind fun bt354 => ((impl_FirstTaken.f k bt354.1 bt354.2.1 bt354.2.2).bind fun bt362 => ((laws_eqTree.f k bt362.1 bt349.1).bind fun t367 => (if t367 = true then (laws_FnExactFirstTaken.j0 k bt349.2 bt362.2 (bt362.2 != bt349.2) a0_0 l0_1 l0_2 bt349.1 bt354.1 bt354.2.1 bt354.2.2 bt362.1) else (laws_FnExactFirstTaken.j0 k bt349.2 bt362.2 true a0_0 l0_1 l0_2 bt349.1 bt354.1 bt354.2.1 bt354.2.2 bt362.1)))))) = some r := H
    have A7 := Aside0.mk A70
    clear A70
    replace H := Option.bind_eq_some_iff.mp H
    obtain ⟨⟨t349, t352⟩, A80, H⟩ := H
    replace H : ((laws_toAutomaton.f k a0_0 l0_1 l0_2).bind fun bt354 => ((impl_FirstTaken.f k bt354.1 bt354.2.1 bt354.2.2).bind fun bt362 => ((laws_eqTree.f k bt362.1 t349).bind fun t367 => (if t367 = true then (laws_FnExactFirstTaken.j0 k t352 bt362.2 (bt362.2 != t352) a0_0 l0_1 l0_2 t349 bt354.1 bt354.2.1 bt354.2.2 bt362.1) else (laws_FnExactFirstTaken.j0 k t352 bt362.2 true a0_0 l0_1 l0_2 t349 bt354.1 bt354.2.1 bt354.2.2 bt362.1))))) = some r := H
    have A8 := Aside0.mk A80
    clear A80
    replace H := Option.bind_eq_some_iff.mp H
    obtain ⟨⟨t354, t355, t358⟩, A90, H⟩ := H
    replace H : ((impl_FirstTaken.f k t354 t355 t358).bind fun bt362 => ((laws_eqTree.f k bt362.1 t349).bind fun t367 => (if t367 = true then (laws_FnExactFirstTaken.j0 k t352 bt362.2 (bt362.2 != t352) a0_0 l0_1 l0_2 t349 t354 t355 t358 bt362.1) else (laws_FnExactFirstTaken.j0 k t352 bt362.2 true a0_0 l0_1 l0_2 t349 t354 t355 t358 bt362.1)))) = some r := H
    have A9 := Aside0.mk A90
    clear A90
    replace H := Option.bind_eq_some_iff.mp H
    obtain ⟨⟨t362, t365⟩, A100, H⟩ := H
    replace H : ((laws_eqTree.f k t362 t349).bind fun t367 => (if t367 = true then (laws_FnExactFirstTaken.j0 k t352 t365 (t365 != t352) a0_0 l0_1 l0_2 t349 t354 t355 t358 t362) else (laws_FnExactFirstTaken.j0 k t352 t365 true a0_0 l0_1 l0_2 t349 t354 t355 t358 t362))) = some r := H
    have A10 := Aside0.mk A100
    clear A100
    have HC11 := Aside0.mk H
    clear H
    go_enter Try.func5, Try.ntmps5
    go_upto_region 8 with (first | ((with_reducible refine gate_dst (N := 1) rfl ?_); refine box_event ?hg (N := 1) ?hd (cs := #[.int .i64 a0_0, .slice A0_1 l0_1.length c0_1, .slice A0_2 l0_2.length c0_2]) (t := 25) ?hr ?_; (case hd => rfl); (case hg => rfl); (case hr => first | (go_simp; done) | (go_simp; rfl)); intro gb340 hg w12 hbox hb; have n0_ := Aside0.mk (below_step (by repeat (first | (with_reducible first | exact HB.out | apply below_alloc | apply pw_below_drewN | apply below_drew1) | exact HB.out)) hb); have n1_ := Aside0.mk (hbox); have n2_ := Aside0.mk ((by rw [hg]; exact (below_size (by repeat (first | (with_reducible first | exact HB.out | apply below_alloc | apply pw_below_drewN | apply below_drew1) | exact HB.out))) : w.heap.size ≤ gb340)); have n3_ := Aside0.mk ((by rw [hg]; exact (below_size (by repeat (first | (with_reducible first | exact HB.out | apply below_alloc | apply pw_below_drewN | apply below_drew1) | exact HB.out))) : w.heap.size ≤ gb340)); clear HB; have HB := n0_; have BK340 := n1_; have GW340 := n2_; have GE340 := n3_; clear n0_ n1_ n2_ n3_; clear hb hbox hg; have hcz13_0 : w12.cell? ⟨gb340, 0, none⟩ = some (.int .i64 a0_0) := (blk_cell BK340.out 0).trans rfl; have hcz13_1 : w12.cell? ⟨gb340, 1, none⟩ = some (.slice A0_1 l0_1.length c0_1) := (blk_cell BK340.out 1).trans rfl; have hcz13_2 : w12.cell? ⟨gb340, 2, none⟩ = some (.slice A0_2 l0_2.length c0_2) := (blk_cell BK340.out 2).trans rfl; have hfz13_0 := blk_frozen BK340.out 0; have hfz13_1 := blk_frozen BK340.out 1; have hfz13_2 := blk_frozen BK340.out 2) | ((with_reducible refine gate_callee (f := 8) rfl ?_); refine goesL_ (some 16) rfl rfl Try.func8 (by kernel_rfl) rfl #[.agg #[.int .i64 a0_0, .slice A0_1 l0_1.length c0_1, .slice A0_2 l0_2.length c0_2], .int .i64 1048576] rfl (by (try simp only [List.map_toArray, List.map_cons, List.map_nil]); first | done | rfl | (simp only [List.length_drop, List.length_take]; rfl)) ?_; (with_reducible refine (laws_szAutomaton.calls k a0_0 _ _ l0_1 _ _ l0_2 1048576 t341 _ ?side1 ?side2 ?side3 ?side4 A2.out).mono ?_); (case side1 => repeat (first | exact (Kd.C_below HR0_1.out HB.out) | (with_reducible refine Kd.C_alloc ?_ _) | (with_reducible refine Kd.C_drewN ?_ _) | (with_reducible refine Kd.C_drew ?_))); (case side2 => exact HC0_1.out); (case side3 => repeat (first | exact (Kd.C_below HR0_2.out HB.out) | (with_reducible refine Kd.C_alloc ?_ _) | (with_reducible refine Kd.C_drewN ?_ _) | (with_reducible refine Kd.C_drew ?_))); (case side4 => exact HC0_2.out); rintro e w14 ⟨rfl, hb⟩; refine ⟨_, rfl, ?_⟩; have n0_ := Aside0.mk (blk_below (g := gb340) (o := .cells #[.int .i64 a0_0, .slice A0_1 l0_1.length c0_1, .slice A0_2 l0_2.length c0_2] 25 (0, 0)) (by (with_reducible repeat (first | refine blk_drewN ?_ _ | refine blk_drew ?_ | refine blk_alloc ?_ _)); exact BK340.out) hb); have n1_ := Aside0.mk (below_step (by repeat (first | (with_reducible first | exact HB.out | apply below_alloc | apply pw_below_drewN | apply below_drew1 | refine below_set ?_ GE340.out) | exact HB.out)) hb); clear BK340; clear HB; have BK340 := n0_; have HB := n1_; clear n0_ n1_; (try clear hb); (try clear hb2); (try clear hk); (try clear hi); have hcz15_0 : w14.cell? ⟨gb340, 0, none⟩ = some (.int .i64 a0_0) := (blk_cell BK340.out 0).trans rfl; have hcz15_1 : w14.cell? ⟨gb340, 1, none⟩ = some (.slice A0_1 l0_1.length c0_1) := (blk_cell BK340.out 1).trans rfl; have hcz15_2 : w14.cell? ⟨gb340, 2, none⟩ = some (.slice A0_2 l0_2.length c0_2) := (blk_cell BK340.out 2).trans rfl; have hfz15_0 := blk_frozen BK340.out 0; have hfz15_1 := blk_frozen BK340.out 1; have hfz15_2 := blk_frozen BK340.out 2) | ((with_reducible refine gate_callee (f := 10) rfl ?_); refine goesL_ (some 21) rfl rfl Try.func10 (by kernel_rfl) rfl #[.agg #[.int .i64 a0_0, .slice A0_1 l0_1.length c0_1, .slice A0_2 l0_2.length c0_2]] rfl (by (try simp only [List.map_toArray, List.map_cons, List.map_nil]); first | done | rfl | (simp only [List.length_drop, List.length_take]; rfl)) ?_; (with_reducible refine (laws_toAutomaton.calls k a0_0 _ _ l0_1 _ _ l0_2 t342 t343 t346 _ ?side1 ?side2 ?side3 ?side4 A7.out).mono ?_); (case side1 => repeat (first | exact (Kd.C_below HR0_1.out HB.out) | (with_reducible refine Kd.C_alloc ?_ _) | (with_reducible refine Kd.C_drewN ?_ _) | (with_reducible refine Kd.C_drew ?_))); (case side2 => exact HC0_1.out); (case side3 => repeat (first | exact (Kd.C_below HR0_2.out HB.out) | (with_reducible refine Kd.C_alloc ?_ _) | (with_reducible refine Kd.C_drewN ?_ _) | (with_reducible refine Kd.C_drew ?_))); (case side4 => exact HC0_2.out); rintro e w16 ⟨v344, v347, rfl, ho0, ho1, hb⟩; refine ⟨_, rfl, ?_⟩; obtain ⟨N17, hN17⟩ := nat_of_below hb; have n0_ := Aside0.mk (Kd.S_lower (S_geN hN17 ho0) (below_size (by repeat (first | (with_reducible first | exact HB.out | apply below_alloc | apply pw_below_drewN | apply below_drew1 | refine below_set ?_ GE340.out) | exact HB.out)))); have n1_ := Aside0.mk (Kd.R_lower ho1 (below_size (by repeat (first | (with_reducible first | exact HB.out | apply below_alloc | apply pw_below_drewN | apply below_drew1 | refine below_set ?_ GE340.out) | exact HB.out)))); have n2_ := Aside0.mk (blk_below (g := gb340) (o := .cells #[.int .i64 a0_0, .slice A0_1 l0_1.length c0_1, .slice A0_2 l0_2.length c0_2] 25 (0, 0)) (by (with_reducible repeat (first | refine blk_drewN ?_ _ | refine blk_drew ?_ | refine blk_alloc ?_ _)); exact BK340.out) hb); have n3_ := Aside0.mk (below_step (by repeat (first | (with_reducible first | exact HB.out | apply below_alloc | apply pw_below_drewN | apply below_drew1 | refine below_set ?_ GE340.out) | exact HB.out)) hb); clear BK340; clear HB; have HO345 := n0_; have HO348 := n1_; have BK340 := n2_; have HB := n3_; clear n0_ n1_ n2_ n3_; (try clear hb); (try clear hb2); (try clear hk); (try clear hi); (try clear ho0); (try clear ho1); obtain ⟨Ao18, co18, eo18⟩ := Kd.S_slice HO345.out; subst eo18; obtain ⟨Ao19, co19, eo19⟩ := Kd.R_slice HO348.out; subst eo19) | ((with_reducible refine gate_callee (f := 17) rfl ?_); refine goesL_ (some 22) rfl rfl Try.func17 (by kernel_rfl) rfl #[.agg #[.int .i64 t342, .slice Ao18 t343.length co18, .slice Ao19 t346.length co19]] rfl (by (try simp only [List.map_toArray, List.map_cons, List.map_nil]); first | done | rfl | (simp only [List.length_drop, List.length_take]; rfl)) ?_; (with_reducible refine (spec_FirstTaken.calls k t342 _ _ t343 _ _ t346 t349 t352 _ ?side1 ?side2 ?side3 ?side4 A8.out).mono ?_); (case side1 => repeat (first | exact (Kd.S_reads' HO345.out).2.2 | (with_reducible refine Kd.C_alloc ?_ _) | (with_reducible refine Kd.C_drewN ?_ _) | (with_reducible refine Kd.C_drew ?_))); (case side2 => exact (Kd.S_reads' HO345.out).2.1); (case side3 => repeat (first | exact (Kd.R_reads' HO348.out).2.2 | (with_reducible refine Kd.C_alloc ?_ _) | (with_reducible refine Kd.C_drewN ?_ _) | (with_reducible refine Kd.C_drew ?_))); (case side4 => exact (Kd.R_reads' HO348.out).2.1); rintro e w20 ⟨v350, rfl, ho0, hb⟩; refine ⟨_, rfl, ?_⟩; have n0_ := Aside0.mk (Kd.S_below (by (with_reducible repeat (first | apply Kd.S_alloc | apply Kd.S_drewN | apply Kd.S_drew)); exact HO345.out) hb); have n1_ := Aside0.mk (Kd.R_below (by (with_reducible repeat (first | apply Kd.R_alloc | apply Kd.R_drewN | apply Kd.R_drew)); exact HO348.out) hb); have n2_ := Aside0.mk (Kd.V_lower (Kd.V_mono (ok' := fun k_ => some k_ ≠ (.slice Ao18 t343.length co18 : Value).ownBlock ∧ some k_ ≠ (.slice Ao19 t346.length co19 : Value).ownBlock ∧ k_ ≠ gb340) ho0 (fun k_ hk_ => ⟨(Kd.fresh' (Kd.S_lt (by (with_reducible repeat (first | apply Kd.S_alloc | apply Kd.S_drewN | apply Kd.S_drew)); exact HO345.out)) k_ hk_), (Kd.fresh' (Kd.R_lt (by (with_reducible repeat (first | apply Kd.R_alloc | apply Kd.R_drewN | apply Kd.R_drew)); exact HO348.out)) k_ hk_), (Kd.freshB (g := gb340) (o := .cells #[.int .i64 a0_0, .slice A0_1 l0_1.length c0_1, .slice A0_2 l0_2.length c0_2] 25 (0, 0)) (by (with_reducible repeat (first | refine blk_drewN ?_ _ | refine blk_drew ?_ | refine blk_alloc ?_ _)); exact BK340.out) k_ hk_)⟩)) (below_size (by repeat (first | (with_reducible first | exact HB.out | apply below_alloc | apply pw_below_drewN | apply below_drew1 | refine below_set ?_ GE340.out) | exact HB.out)))); have n3_ := Aside0.mk (blk_below (g := gb340) (o := .cells #[.int .i64 a0_0, .slice A0_1 l0_1.length c0_1, .slice A0_2 l0_2.length c0_2] 25 (0, 0)) (by (with_reducible repeat (first | refine blk_drewN ?_ _ | refine blk_drew ?_ | refine blk_alloc ?_ _)); exact BK340.out) hb); have n4_ := Aside0.mk (below_step (by repeat (first | (with_reducible first | exact HB.out | apply below_alloc | apply pw_below_drewN | apply below_drew1 | refine below_set ?_ GE340.out) | exact HB.out)) hb); clear HO345; clear HO348; clear BK340; clear HB; have HO345 := n0_; have HO348 := n1_; have HO351 := n2_; have BK340 := n3_; have HB := n4_; clear n0_ n1_ n2_ n3_ n4_; (try clear hb); (try clear hb2); (try clear hk); (try clear hi); (try clear ho0)) | ((with_reducible refine gate_dst (N := 4) rfl ?_); refine box_event ?hg (N := 4) ?hd (cs := #[.slice none 0 0]) (t := 38) ?hr ?_; (case hd => rfl); (case hg => rfl); (case hr => first | (go_simp; done) | (go_simp; rfl)); intro gb353 hg w21 hbox hb; have n0_ := Aside0.mk (Kd.S_below (by (with_reducible repeat (first | apply Kd.S_alloc | apply Kd.S_drewN | apply Kd.S_drew)); exact HO345.out) hb); have n1_ := Aside0.mk (Kd.R_below (by (with_reducible repeat (first | apply Kd.R_alloc | apply Kd.R_drewN | apply Kd.R_drew)); exact HO348.out) hb); have n2_ := Aside0.mk (Kd.V_below (Kd.V_elderB (by (with_reducible repeat (first | apply Kd.V_alloc | apply Kd.V_drewN | apply Kd.V_drew)); exact HO351.out) gb353 (Nat.le_of_eq hg.symm)) hb); have n3_ := Aside0.mk (blk_below (g := gb340) (o := .cells #[.int .i64 a0_0, .slice A0_1 l0_1.length c0_1, .slice A0_2 l0_2.length c0_2] 25 (0, 0)) (by (with_reducible repeat (first | refine blk_drewN ?_ _ | refine blk_drew ?_ | refine blk_alloc ?_ _)); exact BK340.out) hb); have n4_ := Aside0.mk (below_step (by repeat (first | (with_reducible first | exact HB.out | apply below_alloc | apply pw_below_drewN | apply below_drew1 | refine below_set ?_ GE340.out) | exact HB.out)) hb); have n5_ := Aside0.mk (hbox); have n6_ := Aside0.mk ((by rw [hg]; exact (below_size (by repeat (first | (with_reducible first | exact HB.out | apply below_alloc | apply pw_below_drewN | apply below_drew1 | refine below_set ?_ GE340.out) | exact HB.out))) : w.heap.size ≤ gb353)); have n7_ := Aside0.mk ((by rw [hg]; exact (below_size (by repeat (first | (with_reducible first | exact HB.out | apply below_alloc | apply pw_below_drewN | apply below_drew1 | refine below_set ?_ GE340.out) | exact HB.out))) : w.heap.size ≤ gb353)); have n8_ := Aside0.mk ((by rw [hg]; exact Nat.ne_of_lt (blk_lt (g := gb340) (o := .cells #[.int .i64 a0_0, .slice A0_1 l0_1.length c0_1, .slice A0_2 l0_2.length c0_2] 25 (0, 0)) (by (with_reducible repeat (first | refine blk_drewN ?_ _ | refine blk_drew ?_ | refine blk_alloc ?_ _)); exact BK340.out)) : gb340 ≠ gb353)); have n9_ := Aside0.mk ((by rw [hg]; exact Nat.ne_of_gt (blk_lt (g := gb340) (o := .cells #[.int .i64 a0_0, .slice A0_1 l0_1.length c0_1, .slice A0_2 l0_2.length c0_2] 25 (0, 0)) (by (with_reducible repeat (first | refine blk_drewN ?_ _ | refine blk_drew ?_ | refine blk_alloc ?_ _)); exact BK340.out)) : gb353 ≠ gb340)); clear HO345; clear HO348; clear HO351; clear BK340; clear HB; have HO345 := n0_; have HO348 := n1_; have HO351 := n2_; have BK340 := n3_; have HB := n4_; have BK353 := n5_; have GW353 := n6_; have GE353 := n7_; have NB340_353 := n8_; have NB353_340 := n9_; clear n0_ n1_ n2_ n3_ n4_ n5_ n6_ n7_ n8_ n9_; clear hb hbox hg; obtain ⟨Ao22, co22, eo22⟩ := Kd.V_slice HO351.out; subst eo22; have hnb23 := NB353_340.out; have hnc23 := NB340_353.out; have hcz24_0 : w21.cell? ⟨gb353, 0, none⟩ = some (.slice none 0 0) := (blk_cell BK353.out 0).trans rfl; have hfz24_0 := blk_frozen BK353.out 0; have hcz25_0 : w21.cell? ⟨gb340, 0, none⟩ = some (.int .i64 a0_0) := (blk_cell BK340.out 0).trans rfl; have hcz25_1 : w21.cell? ⟨gb340, 1, none⟩ = some (.slice A0_1 l0_1.length c0_1) := (blk_cell BK340.out 1).trans rfl; have hcz25_2 : w21.cell? ⟨gb340, 2, none⟩ = some (.slice A0_2 l0_2.length c0_2) := (blk_cell BK340.out 2).trans rfl; have hfz25_0 := blk_frozen BK340.out 0; have hfz25_1 := blk_frozen BK340.out 1; have hfz25_2 := blk_frozen BK340.out 2) | ((with_reducible refine gate_callee (f := 10) rfl ?_); refine goesL_ (some 26) rfl rfl Try.func10 (by kernel_rfl) rfl #[.agg #[.int .i64 a0_0, .slice A0_1 l0_1.length c0_1, .slice A0_2 l0_2.length c0_2]] rfl (by (try simp only [List.map_toArray, List.map_cons, List.map_nil]); first | done | rfl | (simp only [List.length_drop, List.length_take]; rfl)) ?_; (with_reducible refine (laws_toAutomaton.calls k a0_0 _ _ l0_1 _ _ l0_2 t354 t355 t358 _ ?side1 ?side2 ?side3 ?side4 A9.out).mono ?_); (case side1 => exact Kd.C_below HR0_1.out (by repeat (first | (with_reducible first | exact HB.out | apply below_alloc | apply pw_below_drewN | apply below_drew1 | refine below_set ?_ GE340.out | refine below_set ?_ GE353.out) | exact HB.out))); (case side2 => exact HC0_1.out); (case side3 => exact Kd.C_below HR0_2.out (by repeat (first | (with_reducible first | exact HB.out | apply below_alloc | apply pw_below_drewN | apply below_drew1 | refine below_set ?_ GE340.out | refine below_set ?_ GE353.out) | exact HB.out))); (case side4 => exact HC0_2.out); rintro e w26 ⟨v356, v359, rfl, ho0, ho1, hb⟩; refine ⟨_, rfl, ?_⟩; obtain ⟨N27, hN27⟩ := nat_of_below hb; have n0_ := Aside0.mk (Kd.S_mono (Kd.S_told (Kd.S_told (Kd.S_old ((S_ltN (by (with_reducible repeat (first | apply Kd.S_alloc | apply Kd.S_drewN | apply Kd.S_drew)); exact (Kd.S_mono (Kd.S_far (p := ⟨gb353, 0, none⟩) (Kd.S_types HO345.out BK353.out (by decide)) (fun _ hk => hk.2) (.slice Ao22 t349.length co22)) (fun _ h_ => h_.1))) hN27)) hb) (Kd.S_base ho0)) (Kd.R_base ho1)) (fun _ h_ => h_.1)); have n1_ := Aside0.mk (Kd.R_elder' (by (with_reducible repeat (first | apply Kd.R_alloc | apply Kd.R_drewN | apply Kd.R_drew)); exact (Kd.R_mono (Kd.R_far (p := ⟨gb353, 0, none⟩) (Kd.R_types HO348.out BK353.out (by decide)) (fun _ hk => hk.2) (.slice Ao22 t349.length co22)) (fun _ h_ => h_.1))) (Kd.R_base ho1) hb); have n2_ := Aside0.mk (Kd.V_mono (Kd.V_told (Kd.V_told (Kd.V_old ((V_ltN (by (with_reducible repeat (first | apply Kd.V_alloc | apply Kd.V_drewN | apply Kd.V_drew)); exact (Kd.V_mono (Kd.V_far (p := ⟨gb353, 0, none⟩) (Kd.V_mono HO351.out (fun k_ hk => (⟨hk, hk.2⟩ : _ ∧ k_ ≠ gb353))) (fun _ hk => hk.2) (.slice Ao22 t349.length co22)) (fun _ h_ => h_.1))) hN27)) hb) (Kd.S_base ho0)) (Kd.R_base ho1)) (fun _ h_ => h_.1)); have n3_ := Aside0.mk (Kd.S_lower (Kd.S_new' (Kd.S_new' (S_geN hN27 ho0) (Kd.S_lt (by (with_reducible repeat (first | apply Kd.S_alloc | apply Kd.S_drewN | apply Kd.S_drew)); exact (Kd.S_mono (Kd.S_far (p := ⟨gb353, 0, none⟩) (Kd.S_types HO345.out BK353.out (by decide)) (fun _ hk => hk.2) (.slice Ao22 t349.length co22)) (fun _ h_ => h_.1))))) (Kd.R_lt (by (with_reducible repeat (first | apply Kd.R_alloc | apply Kd.R_drewN | apply Kd.R_drew)); exact (Kd.R_mono (Kd.R_far (p := ⟨gb353, 0, none⟩) (Kd.R_types HO348.out BK353.out (by decide)) (fun _ hk => hk.2) (.slice Ao22 t349.length co22)) (fun _ h_ => h_.1))))) (below_size (by repeat (first | (with_reducible first | exact HB.out | apply below_alloc | apply pw_below_drewN | apply below_drew1 | refine below_set ?_ GE340.out | refine below_set ?_ GE353.out) | exact HB.out)))); have n4_ := Aside0.mk (Kd.R_lower (Kd.R_new' ho1 (Kd.R_lt (by (with_reducible repeat (first | apply Kd.R_alloc | apply Kd.R_drewN | apply Kd.R_drew)); exact (Kd.R_mono (Kd.R_far (p := ⟨gb353, 0, none⟩) (Kd.R_types HO348.out BK353.out (by decide)) (fun _ hk => hk.2) (.slice Ao22 t349.length co22)) (fun _ h_ => h_.1))))) (below_size (by repeat (first | (with_reducible first | exact HB.out | apply below_alloc | apply pw_below_drewN | apply below_drew1 | refine below_set ?_ GE340.out | refine below_set ?_ GE353.out) | exact HB.out)))); have n5_ := Aside0.mk (blk_below (g := gb340) (o := .cells #[.int .i64 a0_0, .slice A0_1 l0_1.length c0_1, .slice A0_2 l0_2.length c0_2] 25 (0, 0)) (by (with_reducible repeat (first | refine blk_drewN ?_ _ | refine blk_drew ?_ | refine blk_alloc ?_ _)); refine blk_far ?_ NB340_353.out _; (with_reducible repeat (first | refine blk_drewN ?_ _ | refine blk_drew ?_ | refine blk_alloc ?_ _)); exact BK340.out) hb); have n6_ := Aside0.mk (blk_below (g := gb353) (o := .cells #[.slice Ao22 t349.length co22] 38 (0, 0)) (by (with_reducible repeat (first | refine blk_drewN ?_ _ | refine blk_drew ?_ | refine blk_alloc ?_ _)); refine blk_put (cs := #[.slice none 0 0]) ?_ 0 _ rfl; (with_reducible repeat (first | refine blk_drewN ?_ _ | refine blk_drew ?_ | refine blk_alloc ?_ _)); exact BK353.out) hb); have n7_ := Aside0.mk (below_step (by repeat (first | (with_reducible first | exact HB.out | apply below_alloc | apply pw_below_drewN | apply below_drew1 | refine below_set ?_ GE340.out | refine below_set ?_ GE353.out) | exact HB.out)) hb); clear HO345; clear HO348; clear HO351; clear BK340; clear BK353; clear HB; have HO345 := n0_; have HO348 := n1_; have HO351 := n2_; have HO357 := n3_; have HO360 := n4_; have BK340 := n5_; have BK353 := n6_; have HB := n7_; clear n0_ n1_ n2_ n3_ n4_ n5_ n6_ n7_; (try clear hb); (try clear hb2); (try clear hk); (try clear hi); (try clear ho0); (try clear ho1)) | ((with_reducible refine gate_dst (N := 6) rfl ?_); refine box_event ?hg (N := 6) ?hd (cs := #[.int .i64 0, .slice none 0 0, .slice none 0 0]) (t := 29) ?hr ?_; (case hd => rfl); (case hg => rfl); (case hr => first | (go_simp; done) | (go_simp; rfl)); intro gb361 hg w28 hbox hb; have n0_ := Aside0.mk (Kd.S_below (by (with_reducible repeat (first | apply Kd.S_alloc | apply Kd.S_drewN | apply Kd.S_drew)); exact HO345.out) hb); have n1_ := Aside0.mk (Kd.R_below (by (with_reducible repeat (first | apply Kd.R_alloc | apply Kd.R_drewN | apply Kd.R_drew)); exact HO348.out) hb); have n2_ := Aside0.mk (Kd.V_below (Kd.V_elderB (by (with_reducible repeat (first | apply Kd.V_alloc | apply Kd.V_drewN | apply Kd.V_drew)); exact HO351.out) gb361 (Nat.le_of_eq hg.symm)) hb); have n3_ := Aside0.mk (Kd.S_below (by (with_reducible repeat (first | apply Kd.S_alloc | apply Kd.S_drewN | apply Kd.S_drew)); exact HO357.out) hb); have n4_ := Aside0.mk (Kd.R_below (by (with_reducible repeat (first | apply Kd.R_alloc | apply Kd.R_drewN | apply Kd.R_drew)); exact HO360.out) hb); have n5_ := Aside0.mk (blk_below (g := gb340) (o := .cells #[.int .i64 a0_0, .slice A0_1 l0_1.length c0_1, .slice A0_2 l0_2.length c0_2] 25 (0, 0)) (by (with_reducible repeat (first | refine blk_drewN ?_ _ | refine blk_drew ?_ | refine blk_alloc ?_ _)); exact BK340.out) hb); have n6_ := Aside0.mk (blk_below (g := gb353) (o := .cells #[.slice Ao22 t349.length co22] 38 (0, 0)) (by (with_reducible repeat (first | refine blk_drewN ?_ _ | refine blk_drew ?_ | refine blk_alloc ?_ _)); exact BK353.out) hb); have n7_ := Aside0.mk (below_step (by repeat (first | (with_reducible first | exact HB.out | apply below_alloc | apply pw_below_drewN | apply below_drew1 | refine below_set ?_ GE340.out | refine below_set ?_ GE353.out) | exact HB.out)) hb); have n8_ := Aside0.mk (hbox); have n9_ := Aside0.mk ((by rw [hg]; exact (below_size (by repeat (first | (with_reducible first | exact HB.out | apply below_alloc | apply pw_below_drewN | apply below_drew1 | refine below_set ?_ GE340.out | refine below_set ?_ GE353.out) | exact HB.out))) : w.heap.size ≤ gb361)); have n10_ := Aside0.mk ((by rw [hg]; exact (below_size (by repeat (first | (with_reducible first | exact HB.out | apply below_alloc | apply pw_below_drewN | apply below_drew1 | refine below_set ?_ GE340.out | refine below_set ?_ GE353.out) | exact HB.out))) : w.heap.size ≤ gb361)); have n11_ := Aside0.mk ((by rw [hg]; exact Nat.ne_of_lt (blk_lt (g := gb340) (o := .cells #[.int .i64 a0_0, .slice A0_1 l0_1.length c0_1, .slice A0_2 l0_2.length c0_2] 25 (0, 0)) (by (with_reducible repeat (first | refine blk_drewN ?_ _ | refine blk_drew ?_ | refine blk_alloc ?_ _)); exact BK340.out)) : gb340 ≠ gb361)); have n12_ := Aside0.mk ((by rw [hg]; exact Nat.ne_of_gt (blk_lt (g := gb340) (o := .cells #[.int .i64 a0_0, .slice A0_1 l0_1.length c0_1, .slice A0_2 l0_2.length c0_2] 25 (0, 0)) (by (with_reducible repeat (first | refine blk_drewN ?_ _ | refine blk_drew ?_ | refine blk_alloc ?_ _)); exact BK340.out)) : gb361 ≠ gb340)); have n13_ := Aside0.mk ((by rw [hg]; exact Nat.ne_of_lt (blk_lt (g := gb353) (o := .cells #[.slice Ao22 t349.length co22] 38 (0, 0)) (by (with_reducible repeat (first | refine blk_drewN ?_ _ | refine blk_drew ?_ | refine blk_alloc ?_ _)); exact BK353.out)) : gb353 ≠ gb361)); have n14_ := Aside0.mk ((by rw [hg]; exact Nat.ne_of_gt (blk_lt (g := gb353) (o := .cells #[.slice Ao22 t349.length co22] 38 (0, 0)) (by (with_reducible repeat (first | refine blk_drewN ?_ _ | refine blk_drew ?_ | refine blk_alloc ?_ _)); exact BK353.out)) : gb361 ≠ gb353)); clear HO345; clear HO348; clear HO351; clear HO357; clear HO360; clear BK340; clear BK353; clear HB; have HO345 := n0_; have HO348 := n1_; have HO351 := n2_; have HO357 := n3_; have HO360 := n4_; have BK340 := n5_; have BK353 := n6_; have HB := n7_; have BK361 := n8_; have GW361 := n9_; have GE361 := n10_; have NB340_361 := n11_; have NB361_340 := n12_; have NB353_361 := n13_; have NB361_353 := n14_; clear n0_ n1_ n2_ n3_ n4_ n5_ n6_ n7_ n8_ n9_ n10_ n11_ n12_ n13_ n14_; clear hb hbox hg; have hnb29 := NB361_340.out; have hnc29 := NB340_361.out; have hnb30 := NB361_353.out; have hnc30 := NB353_361.out; have hcz31_0 : w28.cell? ⟨gb361, 0, none⟩ = some (.int .i64 0) := (blk_cell BK361.out 0).trans rfl; have hcz31_1 : w28.cell? ⟨gb361, 1, none⟩ = some (.slice none 0 0) := (blk_cell BK361.out 1).trans rfl; have hcz31_2 : w28.cell? ⟨gb361, 2, none⟩ = some (.slice none 0 0) := (blk_cell BK361.out 2).trans rfl; have hfz31_0 := blk_frozen BK361.out 0; have hfz31_1 := blk_frozen BK361.out 1; have hfz31_2 := blk_frozen BK361.out 2; obtain ⟨Ao32, co32, eo32⟩ := Kd.S_slice HO357.out; subst eo32; obtain ⟨Ao33, co33, eo33⟩ := Kd.R_slice HO360.out; subst eo33) | ((with_reducible refine gate_callee (f := 18) rfl ?_); refine goesL_ (some 29) rfl rfl Try.func18 (by kernel_rfl) rfl #[.agg #[.int .i64 t354, .slice Ao32 t355.length co32, .slice Ao33 t358.length co33]] rfl (by (try simp only [List.map_toArray, List.map_cons, List.map_nil]); first | done | rfl | (simp only [List.length_drop, List.length_take]; rfl)) ?_; (with_reducible refine (impl_FirstTaken.calls k t354 _ _ t355 _ _ t358 t362 t365 _ ?side1 ?side2 ?side3 ?side4 A10.out).mono ?_); (case side1 => refine (Kd.S_reads' (e := 23) (base := w.heap.size) (ok := fun k_ => (((some k_ ≠ (.slice Ao33 t358.length co33 : Value).ownBlock ∧ k_ ≠ ge_ N27 k_) ∧ some k_ ≠ (.slice Ao18 t343.length co18 : Value).ownBlock) ∧ some k_ ≠ (.slice Ao19 t346.length co19 : Value).ownBlock)) (n := t355.length) (c := co32) ?_).2.2; exact (by (with_reducible repeat (first | apply Kd.S_alloc | apply Kd.S_drewN | apply Kd.S_drew)); exact (Kd.S_mono (Kd.S_far (p := ⟨gb361, 2, none⟩) (Kd.S_far (p := ⟨gb361, 1, none⟩) (Kd.S_far (p := ⟨gb361, 0, none⟩) (Kd.S_types HO357.out BK361.out (by decide)) (fun _ hk => hk.2) (.int .i64 t354)) (fun _ hk => hk.2) (.slice Ao32 t355.length co32)) (fun _ hk => hk.2) (.slice Ao33 t358.length co33)) (fun _ h_ => h_.1)))); (case side2 => exact (Kd.S_reads' HO357.out).2.1); (case side3 => refine (Kd.R_reads' (e := 2) (base := w.heap.size) (ok := fun k_ => (True ∧ some k_ ≠ (.slice Ao19 t346.length co19 : Value).ownBlock)) (n := t358.length) (c := co33) ?_).2.2; exact (by (with_reducible repeat (first | apply Kd.R_alloc | apply Kd.R_drewN | apply Kd.R_drew)); exact (Kd.R_mono (Kd.R_far (p := ⟨gb361, 2, none⟩) (Kd.R_far (p := ⟨gb361, 1, none⟩) (Kd.R_far (p := ⟨gb361, 0, none⟩) (Kd.R_types HO360.out BK361.out (by decide)) (fun _ hk => hk.2) (.int .i64 t354)) (fun _ hk => hk.2) (.slice Ao32 t355.length co32)) (fun _ hk => hk.2) (.slice Ao33 t358.length co33)) (fun _ h_ => h_.1)))); (case side4 => exact (Kd.R_reads' HO360.out).2.1); rintro e w34 ⟨v363, rfl, ho0, hb⟩; refine ⟨_, rfl, ?_⟩; have n0_ := Aside0.mk (Kd.S_elder' (by (with_reducible repeat (first | apply Kd.S_alloc | apply Kd.S_drewN | apply Kd.S_drew)); exact (Kd.S_mono (Kd.S_far (p := ⟨gb361, 2, none⟩) (Kd.S_far (p := ⟨gb361, 1, none⟩) (Kd.S_far (p := ⟨gb361, 0, none⟩) (Kd.S_types HO345.out BK361.out (by decide)) (fun _ hk => hk.2) (.int .i64 t354)) (fun _ hk => hk.2) (.slice Ao32 t355.length co32)) (fun _ hk => hk.2) (.slice Ao33 t358.length co33)) (fun _ h_ => h_.1))) (Kd.R_base ho0) hb); have n1_ := Aside0.mk (Kd.R_elder' (by (with_reducible repeat (first | apply Kd.R_alloc | apply Kd.R_drewN | apply Kd.R_drew)); exact (Kd.R_mono (Kd.R_far (p := ⟨gb361, 2, none⟩) (Kd.R_far (p := ⟨gb361, 1, none⟩) (Kd.R_far (p := ⟨gb361, 0, none⟩) (Kd.R_types HO348.out BK361.out (by decide)) (fun _ hk => hk.2) (.int .i64 t354)) (fun _ hk => hk.2) (.slice Ao32 t355.length co32)) (fun _ hk => hk.2) (.slice Ao33 t358.length co33)) (fun _ h_ => h_.1))) (Kd.R_base ho0) hb); have n2_ := Aside0.mk (Kd.V_elder' (by (with_reducible repeat (first | apply Kd.V_alloc | apply Kd.V_drewN | apply Kd.V_drew)); exact (Kd.V_mono (Kd.V_far (p := ⟨gb361, 2, none⟩) (Kd.V_far (p := ⟨gb361, 1, none⟩) (Kd.V_far (p := ⟨gb361, 0, none⟩) (Kd.V_mono HO351.out (fun k_ hk => (⟨hk, hk.2⟩ : _ ∧ k_ ≠ gb361))) (fun _ hk => hk.2) (.int .i64 t354)) (fun _ hk => hk.2) (.slice Ao32 t355.length co32)) (fun _ hk => hk.2) (.slice Ao33 t358.length co33)) (fun _ h_ => h_.1))) (Kd.R_base ho0) hb); have n3_ := Aside0.mk (Kd.S_elder' (by (with_reducible repeat (first | apply Kd.S_alloc | apply Kd.S_drewN | apply Kd.S_drew)); exact (Kd.S_mono (Kd.S_far (p := ⟨gb361, 2, none⟩) (Kd.S_far (p := ⟨gb361, 1, none⟩) (Kd.S_far (p := ⟨gb361, 0, none⟩) (Kd.S_types HO357.out BK361.out (by decide)) (fun _ hk => hk.2) (.int .i64 t354)) (fun _ hk => hk.2) (.slice Ao32 t355.length co32)) (fun _ hk => hk.2) (.slice Ao33 t358.length co33)) (fun _ h_ => h_.1))) (Kd.R_base ho0) hb); have n4_ := Aside0.mk (Kd.R_elder' (by (with_reducible repeat (first | apply Kd.R_alloc | apply Kd.R_drewN | apply Kd.R_drew)); exact (Kd.R_mono (Kd.R_far (p := ⟨gb361, 2, none⟩) (Kd.R_far (p := ⟨gb361, 1, none⟩) (Kd.R_far (p := ⟨gb361, 0, none⟩) (Kd.R_types HO360.out BK361.out (by decide)) (fun _ hk => hk.2) (.int .i64 t354)) (fun _ hk => hk.2) (.slice Ao32 t355.length co32)) (fun _ hk => hk.2) (.slice Ao33 t358.length co33)) (fun _ h_ => h_.1))) (Kd.R_base ho0) hb); have n5_ := Aside0.mk (Kd.R_lower (Kd.R_new' (Kd.R_new' ho0 (Kd.R_lt (by (with_reducible repeat (first | apply Kd.R_alloc | apply Kd.R_drewN | apply Kd.R_drew)); exact (Kd.R_mono (Kd.R_far (p := ⟨gb361, 2, none⟩) (Kd.R_far (p := ⟨gb361, 1, none⟩) (Kd.R_far (p := ⟨gb361, 0, none⟩) (Kd.R_types HO348.out BK361.out (by decide)) (fun _ hk => hk.2) (.int .i64 t354)) (fun _ hk => hk.2) (.slice Ao32 t355.length co32)) (fun _ hk => hk.2) (.slice Ao33 t358.length co33)) (fun _ h_ => h_.1))))) (Kd.R_lt (by (with_reducible repeat (first | apply Kd.R_alloc | apply Kd.R_drewN | apply Kd.R_drew)); exact (Kd.R_mono (Kd.R_far (p := ⟨gb361, 2, none⟩) (Kd.R_far (p := ⟨gb361, 1, none⟩) (Kd.R_far (p := ⟨gb361, 0, none⟩) (Kd.R_types HO360.out BK361.out (by decide)) (fun _ hk => hk.2) (.int .i64 t354)) (fun _ hk => hk.2) (.slice Ao32 t355.length co32)) (fun _ hk => hk.2) (.slice Ao33 t358.length co33)) (fun _ h_ => h_.1))))) (below_size (by repeat (first | (with_reducible first | exact HB.out | apply below_alloc | apply pw_below_drewN | apply below_drew1 | refine below_set ?_ GE340.out | refine below_set ?_ GE353.out | refine below_set ?_ GE361.out) | exact HB.out)))); have n6_ := Aside0.mk (blk_below (g := gb340) (o := .cells #[.int .i64 a0_0, .slice A0_1 l0_1.length c0_1, .slice A0_2 l0_2.length c0_2] 25 (0, 0)) (by (with_reducible repeat (first | refine blk_drewN ?_ _ | refine blk_drew ?_ | refine blk_alloc ?_ _)); refine blk_far ?_ NB340_361.out _; (with_reducible repeat (first | refine blk_drewN ?_ _ | refine blk_drew ?_ | refine blk_alloc ?_ _)); refine blk_far ?_ NB340_361.out _; (with_reducible repeat (first | refine blk_drewN ?_ _ | refine blk_drew ?_ | refine blk_alloc ?_ _)); refine blk_far ?_ NB340_361.out _; (with_reducible repeat (first | refine blk_drewN ?_ _ | refine blk_drew ?_ | refine blk_alloc ?_ _)); exact BK340.out) hb); have n7_ := Aside0.mk (blk_below (g := gb353) (o := .cells #[.slice Ao22 t349.length co22] 38 (0, 0)) (by (with_reducible repeat (first | refine blk_drewN ?_ _ | refine blk_drew ?_ | refine blk_alloc ?_ _)); refine blk_far ?_ NB353_361.out _; (with_reducible repeat (first | refine blk_drewN ?_ _ | refine blk_drew ?_ | refine blk_alloc ?_ _)); refine blk_far ?_ NB353_361.out _; (with_reducible repeat (first | refine blk_drewN ?_ _ | refine blk_drew ?_ | refine blk_alloc ?_ _)); refine blk_far ?_ NB353_361.out _; (with_reducible repeat (first | refine blk_drewN ?_ _ | refine blk_drew ?_ | refine blk_alloc ?_ _)); exact BK353.out) hb); have n8_ := Aside0.mk (blk_below (g := gb361) (o := .cells #[.int .i64 t354, .slice Ao32 t355.length co32, .slice Ao33 t358.length co33] 29 (0, 0)) (by (with_reducible repeat (first | refine blk_drewN ?_ _ | refine blk_drew ?_ | refine blk_alloc ?_ _)); refine blk_put (cs := #[.int .i64 t354, .slice Ao32 t355.length co32, .slice none 0 0]) ?_ 2 _ rfl; (with_reducible repeat (first | refine blk_drewN ?_ _ | refine blk_drew ?_ | refine blk_alloc ?_ _)); refine blk_put (cs := #[.int .i64 t354, .slice none 0 0, .slice none 0 0]) ?_ 1 _ rfl; (with_reducible repeat (first | refine blk_drewN ?_ _ | refine blk_drew ?_ | refine blk_alloc ?_ _)); refine blk_put (cs := #[.int .i64 0, .slice none 0 0, .slice none 0 0]) ?_ 0 _ rfl; (with_reducible repeat (first | refine blk_drewN ?_ _ | refine blk_drew ?_ | refine blk_alloc ?_ _)); exact BK361.out) hb); have n9_ := Aside0.mk (below_step (by repeat (first | (with_reducible first | exact HB.out | apply below_alloc | apply pw_below_drewN | apply below_drew1 | refine below_set ?_ GE340.out | refine below_set ?_ GE353.out | refine below_set ?_ GE361.out) | exact HB.out)) hb); clear HO345; clear HO348; clear HO351; clear HO357; clear HO360; clear BK340; clear BK353; clear BK361; clear HB; have HO345 := n0_; have HO348 := n1_; have HO351 := n2_; have HO357 := n3_; have HO360 := n4_; have HO364 := n5_; have BK340 := n6_; have BK353 := n7_; have BK361 := n8_; have HB := n9_; clear n0_ n1_ n2_ n3_ n4_ n5_ n6_ n7_ n8_ n9_; (try clear hb); (try clear hb2); (try clear hk); (try clear hi); (try clear ho0)) | ((with_reducible refine gate_dst (N := 7) rfl ?_); refine box_event ?hg (N := 7) ?hd (cs := #[.slice none 0 0]) (t := 38) ?hr ?_; (case hd => rfl); (case hg => rfl); (case hr => first | (go_simp; done) | (go_simp; rfl)); intro gb366 hg w35 hbox hb; have n0_ := Aside0.mk (Kd.S_below (by (with_reducible repeat (first | apply Kd.S_alloc | apply Kd.S_drewN | apply Kd.S_drew)); exact HO345.out) hb); have n1_ := Aside0.mk (Kd.R_below (by (with_reducible repeat (first | apply Kd.R_alloc | apply Kd.R_drewN | apply Kd.R_drew)); exact HO348.out) hb); have n2_ := Aside0.mk (Kd.V_below (Kd.V_elderB (by (with_reducible repeat (first | apply Kd.V_alloc | apply Kd.V_drewN | apply Kd.V_drew)); exact HO351.out) gb366 (Nat.le_of_eq hg.symm)) hb); have n3_ := Aside0.mk (Kd.S_below (by (with_reducible repeat (first | apply Kd.S_alloc | apply Kd.S_drewN | apply Kd.S_drew)); exact HO357.out) hb); have n4_ := Aside0.mk (Kd.R_below (by (with_reducible repeat (first | apply Kd.R_alloc | apply Kd.R_drewN | apply Kd.R_drew)); exact HO360.out) hb); have n5_ := Aside0.mk (Kd.R_below (by (with_reducible repeat (first | apply Kd.R_alloc | apply Kd.R_drewN | apply Kd.R_drew)); exact HO364.out) hb); have n6_ := Aside0.mk (blk_below (g := gb340) (o := .cells #[.int .i64 a0_0, .slice A0_1 l0_1.length c0_1, .slice A0_2 l0_2.length c0_2] 25 (0, 0)) (by (with_reducible repeat (first | refine blk_drewN ?_ _ | refine blk_drew ?_ | refine blk_alloc ?_ _)); exact BK340.out) hb); have n7_ := Aside0.mk (blk_below (g := gb353) (o := .cells #[.slice Ao22 t349.length co22] 38 (0, 0)) (by (with_reducible repeat (first | refine blk_drewN ?_ _ | refine blk_drew ?_ | refine blk_alloc ?_ _)); exact BK353.out) hb); have n8_ := Aside0.mk (blk_below (g := gb361) (o := .cells #[.int .i64 t354, .slice Ao32 t355.length co32, .slice Ao33 t358.length co33] 29 (0, 0)) (by (with_reducible repeat (first | refine blk_drewN ?_ _ | refine blk_drew ?_ | refine blk_alloc ?_ _)); exact BK361.out) hb); have n9_ := Aside0.mk (below_step (by repeat (first | (with_reducible first | exact HB.out | apply below_alloc | apply pw_below_drewN | apply below_drew1 | refine below_set ?_ GE340.out | refine below_set ?_ GE353.out | refine below_set ?_ GE361.out) | exact HB.out)) hb); have n10_ := Aside0.mk (hbox); have n11_ := Aside0.mk ((by rw [hg]; exact (below_size (by repeat (first | (with_reducible first | exact HB.out | apply below_alloc | apply pw_below_drewN | apply below_drew1 | refine below_set ?_ GE340.out | refine below_set ?_ GE353.out | refine below_set ?_ GE361.out) | exact HB.out))) : w.heap.size ≤ gb366)); have n12_ := Aside0.mk ((by rw [hg]; exact (below_size (by repeat (first | (with_reducible first | exact HB.out | apply below_alloc | apply pw_below_drewN | apply below_drew1 | refine below_set ?_ GE340.out | refine below_set ?_ GE353.out | refine below_set ?_ GE361.out) | exact HB.out))) : w.heap.size ≤ gb366)); have n13_ := Aside0.mk ((by rw [hg]; exact Nat.ne_of_lt (blk_lt (g := gb340) (o := .cells #[.int .i64 a0_0, .slice A0_1 l0_1.length c0_1, .slice A0_2 l0_2.length c0_2] 25 (0, 0)) (by (with_reducible repeat (first | refine blk_drewN ?_ _ | refine blk_drew ?_ | refine blk_alloc ?_ _)); exact BK340.out)) : gb340 ≠ gb366)); have n14_ := Aside0.mk ((by rw [hg]; exact Nat.ne_of_gt (blk_lt (g := gb340) (o := .cells #[.int .i64 a0_0, .slice A0_1 l0_1.length c0_1, .slice A0_2 l0_2.length c0_2] 25 (0, 0)) (by (with_reducible repeat (first | refine blk_drewN ?_ _ | refine blk_drew ?_ | refine blk_alloc ?_ _)); exact BK340.out)) : gb366 ≠ gb340)); have n15_ := Aside0.mk ((by rw [hg]; exact Nat.ne_of_lt (blk_lt (g := gb353) (o := .cells #[.slice Ao22 t349.length co22] 38 (0, 0)) (by (with_reducible repeat (first | refine blk_drewN ?_ _ | refine blk_drew ?_ | refine blk_alloc ?_ _)); exact BK353.out)) : gb353 ≠ gb366)); have n16_ := Aside0.mk ((by rw [hg]; exact Nat.ne_of_gt (blk_lt (g := gb353) (o := .cells #[.slice Ao22 t349.length co22] 38 (0, 0)) (by (with_reducible repeat (first | refine blk_drewN ?_ _ | refine blk_drew ?_ | refine blk_alloc ?_ _)); exact BK353.out)) : gb366 ≠ gb353)); have n17_ := Aside0.mk ((by rw [hg]; exact Nat.ne_of_lt (blk_lt (g := gb361) (o := .cells #[.int .i64 t354, .slice Ao32 t355.length co32, .slice Ao33 t358.length co33] 29 (0, 0)) (by (with_reducible repeat (first | refine blk_drewN ?_ _ | refine blk_drew ?_ | refine blk_alloc ?_ _)); exact BK361.out)) : gb361 ≠ gb366)); have n18_ := Aside0.mk ((by rw [hg]; exact Nat.ne_of_gt (blk_lt (g := gb361) (o := .cells #[.int .i64 t354, .slice Ao32 t355.length co32, .slice Ao33 t358.length co33] 29 (0, 0)) (by (with_reducible repeat (first | refine blk_drewN ?_ _ | refine blk_drew ?_ | refine blk_alloc ?_ _)); exact BK361.out)) : gb366 ≠ gb361)); clear HO345; clear HO348; clear HO351; clear HO357; clear HO360; clear HO364; clear BK340; clear BK353; clear BK361; clear HB; have HO345 := n0_; have HO348 := n1_; have HO351 := n2_; have HO357 := n3_; have HO360 := n4_; have HO364 := n5_; have BK340 := n6_; have BK353 := n7_; have BK361 := n8_; have HB := n9_; have BK366 := n10_; have GW366 := n11_; have GE366 := n12_; have NB340_366 := n13_; have NB366_340 := n14_; have NB353_366 := n15_; have NB366_353 := n16_; have NB361_366 := n17_; have NB366_361 := n18_; clear n0_ n1_ n2_ n3_ n4_ n5_ n6_ n7_ n8_ n9_ n10_ n11_ n12_ n13_ n14_ n15_ n16_ n17_ n18_; clear hb hbox hg; obtain ⟨Ao36, co36, eo36⟩ := Kd.R_slice HO364.out; subst eo36; have hnb37 := NB366_340.out; have hnc37 := NB340_366.out; have hnb38 := NB366_353.out; have hnc38 := NB353_366.out; have hnb39 := NB366_361.out; have hnc39 := NB361_366.out; have hcz40_0 : w35.cell? ⟨gb366, 0, none⟩ = some (.slice none 0 0) := (blk_cell BK366.out 0).trans rfl; have hfz40_0 := blk_frozen BK366.out 0))
    (try simp only [Act.put, List.setIfInBounds_toArray, List.set_cons_zero, List.set_cons_succ])
    go_cut [40] (fun v40 wc => ∃ (kq : Nat) (x40_10 : Bool), v40 = .bool x40_10 ∧ Aside0 (laws_FnExactFirstTaken.j0 kq t352 t365 x40_10 a0_0 l0_1 l0_2 t349 t354 t355 t358 t362 = some r) ∧ Aside0 (kq ≤ k) ∧ Aside0 (Kd.V (Kd.int .i64) 2 wc w.heap.size (fun k_ => some k_ ≠ ((.slice Ao32 t355.length co32) : Value).ownBlock ∧ some k_ ≠ ((.slice Ao33 t358.length co33) : Value).ownBlock ∧ some k_ ≠ ((.slice Ao36 t362.length co36) : Value).ownBlock ∧ k_ ≠ gb340 ∧ k_ ≠ gb353 ∧ k_ ≠ gb361 ∧ k_ ≠ gb366 ∧ k_ ≠ lt_ N27 k_) (.slice Ao22 t349.length co22) t349) ∧ Aside0 (Kd.S (Kd.slice 2 (Kd.int .i64)) 23 wc w.heap.size (fun k_ => some k_ ≠ ((.slice Ao33 t358.length co33) : Value).ownBlock ∧ some k_ ≠ ((.slice Ao36 t362.length co36) : Value).ownBlock ∧ k_ ≠ ge_ N27 k_) (.slice Ao32 t355.length co32) t355) ∧ Aside0 (Kd.R (Kd.int .i64) 2 wc w.heap.size (fun k_ => some k_ ≠ ((.slice Ao36 t362.length co36) : Value).ownBlock) (.slice Ao33 t358.length co33) t358) ∧ Aside0 (Kd.R (Kd.int .i64) 2 wc w.heap.size (fun k_ => some k_ ≠ ((.slice Ao33 t358.length co33) : Value).ownBlock) (.slice Ao36 t362.length co36) t362) ∧ Aside0 (wc.heap[gb340]? = some (.cells #[.int .i64 a0_0, (.slice A0_1 l0_1.length c0_1), (.slice A0_2 l0_2.length c0_2)] 25 (0, 0))) ∧ Aside0 (wc.heap[gb353]? = some (.cells #[(.slice Ao22 t349.length co22)] 38 (0, 0))) ∧ Aside0 (wc.heap[gb361]? = some (.cells #[.int .i64 t354, (.slice Ao32 t355.length co32), (.slice Ao33 t358.length co33)] 29 (0, 0))) ∧ Aside0 (wc.heap[gb366]? = some (.cells #[(.slice Ao36 t362.length co36)] 38 (0, 0))) ∧ Aside0 (Below w.heap.size w wc))
    case first =>
      have H := HC11.out
      clear HC11
      replace H := Option.bind_eq_some_iff.mp H
      obtain ⟨t367, A410, H⟩ := H
      replace H : (if t367 = true then (laws_FnExactFirstTaken.j0 k t352 t365 (t365 != t352) a0_0 l0_1 l0_2 t349 t354 t355 t358 t362) else (laws_FnExactFirstTaken.j0 k t352 t365 true a0_0 l0_1 l0_2 t349 t354 t355 t358 t362)) = some r := H
      have A41 := Aside0.mk A410
      clear A410
      by_cases c42 : t367 = true
      · subst c42
        have H1 : (laws_FnExactFirstTaken.j0 k t352 t365 (t365 != t352) a0_0 l0_1 l0_2 t349 t354 t355 t358 t362) = some r := by rw [if_pos rfl] at H; exact H
        clear H
        have H := H1
        clear H1
        have H' := Aside0.mk H
        clear H
        have hnb43 := NB366_340.out
        have hnc43 := NB340_366.out
        have hnb44 := NB366_353.out
        have hnc44 := NB353_366.out
        have hnb45 := NB366_361.out
        have hnc45 := NB361_366.out
        have hcz46_0 : w35.cell? ⟨gb366, 0, none⟩ = some (.slice none 0 0) := (blk_cell BK366.out 0).trans rfl
        have hfz46_0 := blk_frozen BK366.out 0
        have hnb47 := NB353_340.out
        have hnc47 := NB340_353.out
        have hnb48 := NB353_361.out
        have hnc48 := NB361_353.out
        have hcz49_0 : w35.cell? ⟨gb353, 0, none⟩ = some (.slice Ao22 t349.length co22) := (blk_cell BK353.out 0).trans rfl
        have hfz49_0 := blk_frozen BK353.out 0
        go_wp2_with (first | ((with_reducible refine gate_callee (f := 19) rfl ?_); refine goesL_ (some 34) rfl rfl Try.func19 (by kernel_rfl) rfl #[.agg #[.slice Ao36 t362.length co36], .agg #[.slice Ao22 t349.length co22]] rfl (by (try simp only [List.map_toArray, List.map_cons, List.map_nil]); first | done | rfl | (simp only [List.length_drop, List.length_take]; rfl)) ?_; (with_reducible refine (laws_eqTree.calls k _ _ t362 _ _ t349 true _ ?side1 ?side2 ?side3 ?side4 A41.out).mono ?_); (case side1 => refine (Kd.R_reads' (e := 2) (base := w.heap.size) (ok := fun k_ => ((True ∧ some k_ ≠ (.slice Ao19 t346.length co19 : Value).ownBlock) ∧ some k_ ≠ (.slice Ao33 t358.length co33 : Value).ownBlock)) (n := t362.length) (c := co36) ?_).2.2; exact (by (with_reducible repeat (first | apply Kd.R_alloc | apply Kd.R_drewN | apply Kd.R_drew)); exact (Kd.R_mono (Kd.R_far (p := ⟨gb366, 0, none⟩) (Kd.R_types HO364.out BK366.out (by decide)) (fun _ hk => hk.2) (.slice Ao36 t362.length co36)) (fun _ h_ => h_.1)))); (case side2 => exact (Kd.R_reads' HO364.out).2.1); (case side3 => refine (Kd.V_reads' (e := 2) (base := w.heap.size) (ok := fun k_ => ((((((((some k_ ≠ (.slice Ao18 t343.length co18 : Value).ownBlock ∧ (some k_ ≠ (.slice Ao19 t346.length co19 : Value).ownBlock ∧ k_ ≠ gb340)) ∧ k_ ≠ gb353) ∧ k_ ≠ lt_ N27 k_) ∧ some k_ ≠ (.slice Ao32 t355.length co32 : Value).ownBlock) ∧ some k_ ≠ (.slice Ao33 t358.length co33 : Value).ownBlock) ∧ k_ ≠ gb361) ∧ some k_ ≠ (.slice Ao36 t362.length co36 : Value).ownBlock) ∧ k_ ≠ gb366)) (n := t349.length) (c := co22) ?_).2.2; exact (by (with_reducible repeat (first | apply Kd.V_alloc | apply Kd.V_drewN | apply Kd.V_drew)); exact (Kd.V_mono (Kd.V_far (p := ⟨gb366, 0, none⟩) (Kd.V_mono HO351.out (fun k_ hk => (⟨hk, hk.2⟩ : _ ∧ k_ ≠ gb366))) (fun _ hk => hk.2) (.slice Ao36 t362.length co36)) (fun _ h_ => h_.1)))); (case side4 => exact (Kd.V_reads' HO351.out).2.1); rintro e w50 ⟨rfl, hb⟩; refine ⟨_, rfl, ?_⟩; have n0_ := Aside0.mk (Kd.S_below (by (with_reducible repeat (first | apply Kd.S_alloc | apply Kd.S_drewN | apply Kd.S_drew)); exact (Kd.S_mono (Kd.S_far (p := ⟨gb366, 0, none⟩) (Kd.S_types HO345.out BK366.out (by decide)) (fun _ hk => hk.2) (.slice Ao36 t362.length co36)) (fun _ h_ => h_.1))) hb); have n1_ := Aside0.mk (Kd.R_below (by (with_reducible repeat (first | apply Kd.R_alloc | apply Kd.R_drewN | apply Kd.R_drew)); exact (Kd.R_mono (Kd.R_far (p := ⟨gb366, 0, none⟩) (Kd.R_types HO348.out BK366.out (by decide)) (fun _ hk => hk.2) (.slice Ao36 t362.length co36)) (fun _ h_ => h_.1))) hb); have n2_ := Aside0.mk (Kd.V_below (by (with_reducible repeat (first | apply Kd.V_alloc | apply Kd.V_drewN | apply Kd.V_drew)); exact (Kd.V_mono (Kd.V_far (p := ⟨gb366, 0, none⟩) (Kd.V_mono HO351.out (fun k_ hk => (⟨hk, hk.2⟩ : _ ∧ k_ ≠ gb366))) (fun _ hk => hk.2) (.slice Ao36 t362.length co36)) (fun _ h_ => h_.1))) hb); have n3_ := Aside0.mk (Kd.S_below (by (with_reducible repeat (first | apply Kd.S_alloc | apply Kd.S_drewN | apply Kd.S_drew)); exact (Kd.S_mono (Kd.S_far (p := ⟨gb366, 0, none⟩) (Kd.S_types HO357.out BK366.out (by decide)) (fun _ hk => hk.2) (.slice Ao36 t362.length co36)) (fun _ h_ => h_.1))) hb); have n4_ := Aside0.mk (Kd.R_below (by (with_reducible repeat (first | apply Kd.R_alloc | apply Kd.R_drewN | apply Kd.R_drew)); exact (Kd.R_mono (Kd.R_far (p := ⟨gb366, 0, none⟩) (Kd.R_types HO360.out BK366.out (by decide)) (fun _ hk => hk.2) (.slice Ao36 t362.length co36)) (fun _ h_ => h_.1))) hb); have n5_ := Aside0.mk (Kd.R_below (by (with_reducible repeat (first | apply Kd.R_alloc | apply Kd.R_drewN | apply Kd.R_drew)); exact (Kd.R_mono (Kd.R_far (p := ⟨gb366, 0, none⟩) (Kd.R_types HO364.out BK366.out (by decide)) (fun _ hk => hk.2) (.slice Ao36 t362.length co36)) (fun _ h_ => h_.1))) hb); have n6_ := Aside0.mk (blk_below (g := gb340) (o := .cells #[.int .i64 a0_0, .slice A0_1 l0_1.length c0_1, .slice A0_2 l0_2.length c0_2] 25 (0, 0)) (by (with_reducible repeat (first | refine blk_drewN ?_ _ | refine blk_drew ?_ | refine blk_alloc ?_ _)); refine blk_far ?_ NB340_366.out _; (with_reducible repeat (first | refine blk_drewN ?_ _ | refine blk_drew ?_ | refine blk_alloc ?_ _)); exact BK340.out) hb); have n7_ := Aside0.mk (blk_below (g := gb353) (o := .cells #[.slice Ao22 t349.length co22] 38 (0, 0)) (by (with_reducible repeat (first | refine blk_drewN ?_ _ | refine blk_drew ?_ | refine blk_alloc ?_ _)); refine blk_far ?_ NB353_366.out _; (with_reducible repeat (first | refine blk_drewN ?_ _ | refine blk_drew ?_ | refine blk_alloc ?_ _)); exact BK353.out) hb); have n8_ := Aside0.mk (blk_below (g := gb361) (o := .cells #[.int .i64 t354, .slice Ao32 t355.length co32, .slice Ao33 t358.length co33] 29 (0, 0)) (by (with_reducible repeat (first | refine blk_drewN ?_ _ | refine blk_drew ?_ | refine blk_alloc ?_ _)); refine blk_far ?_ NB361_366.out _; (with_reducible repeat (first | refine blk_drewN ?_ _ | refine blk_drew ?_ | refine blk_alloc ?_ _)); exact BK361.out) hb); have n9_ := Aside0.mk (blk_below (g := gb366) (o := .cells #[.slice Ao36 t362.length co36] 38 (0, 0)) (by (with_reducible repeat (first | refine blk_drewN ?_ _ | refine blk_drew ?_ | refine blk_alloc ?_ _)); refine blk_put (cs := #[.slice none 0 0]) ?_ 0 _ rfl; (with_reducible repeat (first | refine blk_drewN ?_ _ | refine blk_drew ?_ | refine blk_alloc ?_ _)); exact BK366.out) hb); have n10_ := Aside0.mk (below_step (by repeat (first | (with_reducible first | exact HB.out | apply below_alloc | apply pw_below_drewN | apply below_drew1 | refine below_set ?_ GE340.out | refine below_set ?_ GE353.out | refine below_set ?_ GE361.out | refine below_set ?_ GE366.out) | exact HB.out)) hb); clear HO345; clear HO348; clear HO351; clear HO357; clear HO360; clear HO364; clear BK340; clear BK353; clear BK361; clear BK366; clear HB; have HO345 := n0_; have HO348 := n1_; have HO351 := n2_; have HO357 := n3_; have HO360 := n4_; have HO364 := n5_; have BK340 := n6_; have BK353 := n7_; have BK361 := n8_; have BK366 := n9_; have HB := n10_; clear n0_ n1_ n2_ n3_ n4_ n5_ n6_ n7_ n8_ n9_ n10_; (try clear hb); (try clear hb2); (try clear hk); (try clear hi)))
        go_meet
        case rel => exact ⟨_, ((t365 != t352)), (by first | rfl | (simp; done) | (simp [*]; done)), H', ⟨by first | omega | exact Nat.le_refl _⟩, ⟨by (with_reducible repeat (first | apply Kd.V_alloc | apply Kd.V_drewN | apply Kd.V_drew)); exact Kd.V_mono HO351.out (fun _ hk => ⟨hk.1.1.1.1.2, ⟨hk.1.1.1.2, ⟨hk.1.2, ⟨hk.1.1.1.1.1.1.1.2.2, ⟨hk.1.1.1.1.1.1.2, ⟨hk.1.1.2, ⟨hk.2, hk.1.1.1.1.1.2⟩⟩⟩⟩⟩⟩⟩)⟩, ⟨by (with_reducible repeat (first | apply Kd.S_alloc | apply Kd.S_drewN | apply Kd.S_drew)); exact Kd.S_mono HO357.out (fun _ hk => ⟨hk.1.1.1.1, ⟨hk.2, hk.1.1.1.2⟩⟩)⟩, ⟨by (with_reducible repeat (first | apply Kd.R_alloc | apply Kd.R_drewN | apply Kd.R_drew)); exact Kd.R_mono HO360.out (fun _ hk => hk.2)⟩, ⟨by (with_reducible repeat (first | apply Kd.R_alloc | apply Kd.R_drewN | apply Kd.R_drew)); exact Kd.R_mono HO364.out (fun _ hk => hk.2)⟩, ⟨by (with_reducible repeat (first | refine blk_drewN ?_ _ | refine blk_drew ?_ | refine blk_alloc ?_ _)); exact BK340.out⟩, ⟨by (with_reducible repeat (first | refine blk_drewN ?_ _ | refine blk_drew ?_ | refine blk_alloc ?_ _)); exact BK353.out⟩, ⟨by (with_reducible repeat (first | refine blk_drewN ?_ _ | refine blk_drew ?_ | refine blk_alloc ?_ _)); exact BK361.out⟩, ⟨by (with_reducible repeat (first | refine blk_drewN ?_ _ | refine blk_drew ?_ | refine blk_alloc ?_ _)); exact BK366.out⟩, ⟨by repeat (first | (with_reducible first | exact HB.out | apply below_alloc | apply pw_below_drewN | apply below_drew1 | refine below_set ?_ GE340.out | refine below_set ?_ GE353.out | refine below_set ?_ GE361.out | refine below_set ?_ GE366.out) | exact HB.out)⟩⟩
      · replace c42 := Bool.eq_false_iff.mpr c42
        subst c42
        have H1 : (laws_FnExactFirstTaken.j0 k t352 t365 true a0_0 l0_1 l0_2 t349 t354 t355 t358 t362) = some r := by rw [if_neg (show ¬ (false = true) by decide)] at H; exact H
        clear H
        have H := H1
        clear H1
        have H' := Aside0.mk H
        clear H
        have hnb51 := NB366_340.out
        have hnc51 := NB340_366.out
        have hnb52 := NB366_353.out
        have hnc52 := NB353_366.out
        have hnb53 := NB366_361.out
        have hnc53 := NB361_366.out
        have hcz54_0 : w35.cell? ⟨gb366, 0, none⟩ = some (.slice none 0 0) := (blk_cell BK366.out 0).trans rfl
        have hfz54_0 := blk_frozen BK366.out 0
        have hnb55 := NB353_340.out
        have hnc55 := NB340_353.out
        have hnb56 := NB353_361.out
        have hnc56 := NB361_353.out
        have hcz57_0 : w35.cell? ⟨gb353, 0, none⟩ = some (.slice Ao22 t349.length co22) := (blk_cell BK353.out 0).trans rfl
        have hfz57_0 := blk_frozen BK353.out 0
        go_wp2_with (first | ((with_reducible refine gate_callee (f := 19) rfl ?_); refine goesL_ (some 34) rfl rfl Try.func19 (by kernel_rfl) rfl #[.agg #[.slice Ao36 t362.length co36], .agg #[.slice Ao22 t349.length co22]] rfl (by (try simp only [List.map_toArray, List.map_cons, List.map_nil]); first | done | rfl | (simp only [List.length_drop, List.length_take]; rfl)) ?_; (with_reducible refine (laws_eqTree.calls k _ _ t362 _ _ t349 false _ ?side1 ?side2 ?side3 ?side4 A41.out).mono ?_); (case side1 => refine (Kd.R_reads' (e := 2) (base := w.heap.size) (ok := fun k_ => ((True ∧ some k_ ≠ (.slice Ao19 t346.length co19 : Value).ownBlock) ∧ some k_ ≠ (.slice Ao33 t358.length co33 : Value).ownBlock)) (n := t362.length) (c := co36) ?_).2.2; exact (by (with_reducible repeat (first | apply Kd.R_alloc | apply Kd.R_drewN | apply Kd.R_drew)); exact (Kd.R_mono (Kd.R_far (p := ⟨gb366, 0, none⟩) (Kd.R_types HO364.out BK366.out (by decide)) (fun _ hk => hk.2) (.slice Ao36 t362.length co36)) (fun _ h_ => h_.1)))); (case side2 => exact (Kd.R_reads' HO364.out).2.1); (case side3 => refine (Kd.V_reads' (e := 2) (base := w.heap.size) (ok := fun k_ => ((((((((some k_ ≠ (.slice Ao18 t343.length co18 : Value).ownBlock ∧ (some k_ ≠ (.slice Ao19 t346.length co19 : Value).ownBlock ∧ k_ ≠ gb340)) ∧ k_ ≠ gb353) ∧ k_ ≠ lt_ N27 k_) ∧ some k_ ≠ (.slice Ao32 t355.length co32 : Value).ownBlock) ∧ some k_ ≠ (.slice Ao33 t358.length co33 : Value).ownBlock) ∧ k_ ≠ gb361) ∧ some k_ ≠ (.slice Ao36 t362.length co36 : Value).ownBlock) ∧ k_ ≠ gb366)) (n := t349.length) (c := co22) ?_).2.2; exact (by (with_reducible repeat (first | apply Kd.V_alloc | apply Kd.V_drewN | apply Kd.V_drew)); exact (Kd.V_mono (Kd.V_far (p := ⟨gb366, 0, none⟩) (Kd.V_mono HO351.out (fun k_ hk => (⟨hk, hk.2⟩ : _ ∧ k_ ≠ gb366))) (fun _ hk => hk.2) (.slice Ao36 t362.length co36)) (fun _ h_ => h_.1)))); (case side4 => exact (Kd.V_reads' HO351.out).2.1); rintro e w58 ⟨rfl, hb⟩; refine ⟨_, rfl, ?_⟩; have n0_ := Aside0.mk (Kd.S_below (by (with_reducible repeat (first | apply Kd.S_alloc | apply Kd.S_drewN | apply Kd.S_drew)); exact (Kd.S_mono (Kd.S_far (p := ⟨gb366, 0, none⟩) (Kd.S_types HO345.out BK366.out (by decide)) (fun _ hk => hk.2) (.slice Ao36 t362.length co36)) (fun _ h_ => h_.1))) hb); have n1_ := Aside0.mk (Kd.R_below (by (with_reducible repeat (first | apply Kd.R_alloc | apply Kd.R_drewN | apply Kd.R_drew)); exact (Kd.R_mono (Kd.R_far (p := ⟨gb366, 0, none⟩) (Kd.R_types HO348.out BK366.out (by decide)) (fun _ hk => hk.2) (.slice Ao36 t362.length co36)) (fun _ h_ => h_.1))) hb); have n2_ := Aside0.mk (Kd.V_below (by (with_reducible repeat (first | apply Kd.V_alloc | apply Kd.V_drewN | apply Kd.V_drew)); exact (Kd.V_mono (Kd.V_far (p := ⟨gb366, 0, none⟩) (Kd.V_mono HO351.out (fun k_ hk => (⟨hk, hk.2⟩ : _ ∧ k_ ≠ gb366))) (fun _ hk => hk.2) (.slice Ao36 t362.length co36)) (fun _ h_ => h_.1))) hb); have n3_ := Aside0.mk (Kd.S_below (by (with_reducible repeat (first | apply Kd.S_alloc | apply Kd.S_drewN | apply Kd.S_drew)); exact (Kd.S_mono (Kd.S_far (p := ⟨gb366, 0, none⟩) (Kd.S_types HO357.out BK366.out (by decide)) (fun _ hk => hk.2) (.slice Ao36 t362.length co36)) (fun _ h_ => h_.1))) hb); have n4_ := Aside0.mk (Kd.R_below (by (with_reducible repeat (first | apply Kd.R_alloc | apply Kd.R_drewN | apply Kd.R_drew)); exact (Kd.R_mono (Kd.R_far (p := ⟨gb366, 0, none⟩) (Kd.R_types HO360.out BK366.out (by decide)) (fun _ hk => hk.2) (.slice Ao36 t362.length co36)) (fun _ h_ => h_.1))) hb); have n5_ := Aside0.mk (Kd.R_below (by (with_reducible repeat (first | apply Kd.R_alloc | apply Kd.R_drewN | apply Kd.R_drew)); exact (Kd.R_mono (Kd.R_far (p := ⟨gb366, 0, none⟩) (Kd.R_types HO364.out BK366.out (by decide)) (fun _ hk => hk.2) (.slice Ao36 t362.length co36)) (fun _ h_ => h_.1))) hb); have n6_ := Aside0.mk (blk_below (g := gb340) (o := .cells #[.int .i64 a0_0, .slice A0_1 l0_1.length c0_1, .slice A0_2 l0_2.length c0_2] 25 (0, 0)) (by (with_reducible repeat (first | refine blk_drewN ?_ _ | refine blk_drew ?_ | refine blk_alloc ?_ _)); refine blk_far ?_ NB340_366.out _; (with_reducible repeat (first | refine blk_drewN ?_ _ | refine blk_drew ?_ | refine blk_alloc ?_ _)); exact BK340.out) hb); have n7_ := Aside0.mk (blk_below (g := gb353) (o := .cells #[.slice Ao22 t349.length co22] 38 (0, 0)) (by (with_reducible repeat (first | refine blk_drewN ?_ _ | refine blk_drew ?_ | refine blk_alloc ?_ _)); refine blk_far ?_ NB353_366.out _; (with_reducible repeat (first | refine blk_drewN ?_ _ | refine blk_drew ?_ | refine blk_alloc ?_ _)); exact BK353.out) hb); have n8_ := Aside0.mk (blk_below (g := gb361) (o := .cells #[.int .i64 t354, .slice Ao32 t355.length co32, .slice Ao33 t358.length co33] 29 (0, 0)) (by (with_reducible repeat (first | refine blk_drewN ?_ _ | refine blk_drew ?_ | refine blk_alloc ?_ _)); refine blk_far ?_ NB361_366.out _; (with_reducible repeat (first | refine blk_drewN ?_ _ | refine blk_drew ?_ | refine blk_alloc ?_ _)); exact BK361.out) hb); have n9_ := Aside0.mk (blk_below (g := gb366) (o := .cells #[.slice Ao36 t362.length co36] 38 (0, 0)) (by (with_reducible repeat (first | refine blk_drewN ?_ _ | refine blk_drew ?_ | refine blk_alloc ?_ _)); refine blk_put (cs := #[.slice none 0 0]) ?_ 0 _ rfl; (with_reducible repeat (first | refine blk_drewN ?_ _ | refine blk_drew ?_ | refine blk_alloc ?_ _)); exact BK366.out) hb); have n10_ := Aside0.mk (below_step (by repeat (first | (with_reducible first | exact HB.out | apply below_alloc | apply pw_below_drewN | apply below_drew1 | refine below_set ?_ GE340.out | refine below_set ?_ GE353.out | refine below_set ?_ GE361.out | refine below_set ?_ GE366.out) | exact HB.out)) hb); clear HO345; clear HO348; clear HO351; clear HO357; clear HO360; clear HO364; clear BK340; clear BK353; clear BK361; clear BK366; clear HB; have HO345 := n0_; have HO348 := n1_; have HO351 := n2_; have HO357 := n3_; have HO360 := n4_; have HO364 := n5_; have BK340 := n6_; have BK353 := n7_; have BK361 := n8_; have BK366 := n9_; have HB := n10_; clear n0_ n1_ n2_ n3_ n4_ n5_ n6_ n7_ n8_ n9_ n10_; (try clear hb); (try clear hb2); (try clear hk); (try clear hi)))
        go_meet
        case rel => exact ⟨_, (true), (by first | rfl | (simp; done) | (simp [*]; done)), H', ⟨by first | omega | exact Nat.le_refl _⟩, ⟨by (with_reducible repeat (first | apply Kd.V_alloc | apply Kd.V_drewN | apply Kd.V_drew)); exact Kd.V_mono HO351.out (fun _ hk => ⟨hk.1.1.1.1.2, ⟨hk.1.1.1.2, ⟨hk.1.2, ⟨hk.1.1.1.1.1.1.1.2.2, ⟨hk.1.1.1.1.1.1.2, ⟨hk.1.1.2, ⟨hk.2, hk.1.1.1.1.1.2⟩⟩⟩⟩⟩⟩⟩)⟩, ⟨by (with_reducible repeat (first | apply Kd.S_alloc | apply Kd.S_drewN | apply Kd.S_drew)); exact Kd.S_mono HO357.out (fun _ hk => ⟨hk.1.1.1.1, ⟨hk.2, hk.1.1.1.2⟩⟩)⟩, ⟨by (with_reducible repeat (first | apply Kd.R_alloc | apply Kd.R_drewN | apply Kd.R_drew)); exact Kd.R_mono HO360.out (fun _ hk => hk.2)⟩, ⟨by (with_reducible repeat (first | apply Kd.R_alloc | apply Kd.R_drewN | apply Kd.R_drew)); exact Kd.R_mono HO364.out (fun _ hk => hk.2)⟩, ⟨by (with_reducible repeat (first | refine blk_drewN ?_ _ | refine blk_drew ?_ | refine blk_alloc ?_ _)); exact BK340.out⟩, ⟨by (with_reducible repeat (first | refine blk_drewN ?_ _ | refine blk_drew ?_ | refine blk_alloc ?_ _)); exact BK353.out⟩, ⟨by (with_reducible repeat (first | refine blk_drewN ?_ _ | refine blk_drew ?_ | refine blk_alloc ?_ _)); exact BK361.out⟩, ⟨by (with_reducible repeat (first | refine blk_drewN ?_ _ | refine blk_drew ?_ | refine blk_alloc ?_ _)); exact BK366.out⟩, ⟨by repeat (first | (with_reducible first | exact HB.out | apply below_alloc | apply pw_below_drewN | apply below_drew1 | refine below_set ?_ GE340.out | refine below_set ?_ GE353.out | refine below_set ?_ GE361.out | refine below_set ?_ GE366.out) | exact HB.out)⟩⟩
    case rest =>
      clear HC11
      try clear c1
      try clear c2
      try clear p2
      try clear c3
      try clear c3b0
      try clear c4
      try clear c5
      try clear c8
      try clear c10
      try clear c17
      try clear c18
      try clear c19
      try clear c23
      try clear c29
      try clear c30
      try clear c37
      try clear c38
      try clear c39
      try clear c42
      try clear c43
      try clear c44
      try clear c45
      try clear c47
      try clear c48
      try clear c51
      try clear c52
      try clear c53
      try clear c55
      try clear c56
      try clear hcz13_0
      try clear hcz13_1
      try clear hcz13_2
      try clear hcz15_0
      try clear hcz15_1
      try clear hcz15_2
      try clear hcz24_0
      try clear hcz25_0
      try clear hcz25_1
      try clear hcz25_2
      try clear hcz31_0
      try clear hcz31_1
      try clear hcz31_2
      try clear hcz40_0
      try clear hcz46_0
      try clear hcz49_0
      try clear hcz54_0
      try clear hcz57_0
      try clear hcz5_0
      try clear hcz5_1
      try clear hcz5_2
      try clear hfz13_0
      try clear hfz13_1
      try clear hfz13_2
      try clear hfz15_0
      try clear hfz15_1
      try clear hfz15_2
      try clear hfz24_0
      try clear hfz25_0
      try clear hfz25_1
      try clear hfz25_2
      try clear hfz31_0
      try clear hfz31_1
      try clear hfz31_2
      try clear hfz40_0
      try clear hfz46_0
      try clear hfz49_0
      try clear hfz54_0
      try clear hfz57_0
      try clear hfz5_0
      try clear hfz5_1
      try clear hfz5_2
      obtain ⟨kq, x40_10, rfl, HA, HJ10, HO_354000, HO_362001, HO_362002, HO_367000, BK340, BK353, BK361, BK366, HB⟩ := hcut
      cases kq with
      | zero => exact absurd HA.out (by simp [laws_FnExactFirstTaken.j0])
      | succ kj10 =>
        have H := HA.out
        clear HA
        simp only [laws_FnExactFirstTaken.j0] at H
        by_cases c59 : x40_10 = true
        · subst c59
          have H1 : (some false) = some r := by rw [if_pos rfl] at H; exact H
          clear H
          have H := H1
          clear H1
          obtain rfl := Option.some.inj H
          go_wp2
          go_ret
          exact ⟨by first | rfl | (simp [errW_none, errW_some] <;> rfl) | (simp [*, errW_none, errW_some] <;> rfl), by repeat (first | (with_reducible first | exact HB.out | apply below_alloc | apply pw_below_drewN | apply below_drew1 | refine below_set ?_ GE340.out | refine below_set ?_ GE353.out | refine below_set ?_ GE361.out | refine below_set ?_ GE366.out) | exact HB.out)⟩
        · replace c59 := Bool.eq_false_iff.mpr c59
          subst c59
          have H1 : ((laws_toAutomaton.f kj10 a0_0 l0_1 l0_2).bind fun bt368 => ((laws_eqAutomaton.f kj10 t354 t355 t358 bt368.1 bt368.2.1 bt368.2.2).bind fun t375 => (if t375 = true then ((laws_markAutomaton.f kj10 t354 t355 t358 1).bind fun bt376 => (if bt376.1 < 0 then (laws_FnExactFirstTaken.j1 kj10 t352 true a0_0 l0_1 l0_2 t349 t362) else ((laws_eqTree.f kj10 t362 t349).bind fun t379 => (if t379 = true then (laws_FnExactFirstTaken.j1 kj10 t352 (t365 != t352) a0_0 l0_1 l0_2 t349 t362) else (laws_FnExactFirstTaken.j1 kj10 t352 true a0_0 l0_1 l0_2 t349 t362))))) else (some false)))) = some r := by rw [if_neg (show ¬ (false = true) by decide)] at H; exact H
          clear H
          have H := H1
          clear H1
          replace H := Option.bind_eq_some_iff.mp H
          obtain ⟨⟨t368, t369, t372⟩, A600, H⟩ := H
          replace H : ((laws_eqAutomaton.f kj10 t354 t355 t358 t368 t369 t372).bind fun t375 => (if t375 = true then ((laws_markAutomaton.f kj10 t354 t355 t358 1).bind fun bt376 => (if bt376.1 < 0 then (laws_FnExactFirstTaken.j1 kj10 t352 true a0_0 l0_1 l0_2 t349 t362) else ((laws_eqTree.f kj10 t362 t349).bind fun t379 => (if t379 = true then (laws_FnExactFirstTaken.j1 kj10 t352 (t365 != t352) a0_0 l0_1 l0_2 t349 t362) else (laws_FnExactFirstTaken.j1 kj10 t352 true a0_0 l0_1 l0_2 t349 t362))))) else (some false))) = some r := H
          have A60 := Aside0.mk A600
          clear A600
          replace H := Option.bind_eq_some_iff.mp H
          obtain ⟨t375, A610, H⟩ := H
          replace H : (if t375 = true then ((laws_markAutomaton.f kj10 t354 t355 t358 1).bind fun bt376 => (if bt376.1 < 0 then (laws_FnExactFirstTaken.j1 kj10 t352 true a0_0 l0_1 l0_2 t349 t362) else ((laws_eqTree.f kj10 t362 t349).bind fun t379 => (if t379 = true then (laws_FnExactFirstTaken.j1 kj10 t352 (t365 != t352) a0_0 l0_1 l0_2 t349 t362) else (laws_FnExactFirstTaken.j1 kj10 t352 true a0_0 l0_1 l0_2 t349 t362))))) else (some false)) = some r := H
          have A61 := Aside0.mk A610
          clear A610
          by_cases c62 : t375 = true
          · subst c62
            have H1 : ((laws_markAutomaton.f kj10 t354 t355 t358 1).bind fun bt376 => (if bt376.1 < 0 then (laws_FnExactFirstTaken.j1 kj10 t352 true a0_0 l0_1 l0_2 t349 t362) else ((laws_eqTree.f kj10 t362 t349).bind fun t379 => (if t379 = true then (laws_FnExactFirstTaken.j1 kj10 t352 (t365 != t352) a0_0 l0_1 l0_2 t349 t362) else (laws_FnExactFirstTaken.j1 kj10 t352 true a0_0 l0_1 l0_2 t349 t362))))) = some r := by rw [if_pos rfl] at H; exact H
            clear H
            have H := H1
            clear H1
            replace H := Option.bind_eq_some_iff.mp H
            obtain ⟨⟨t376, t377, t378⟩, A630, H⟩ := H
            replace H : (if t376 < 0 then (laws_FnExactFirstTaken.j1 kj10 t352 true a0_0 l0_1 l0_2 t349 t362) else ((laws_eqTree.f kj10 t362 t349).bind fun t379 => (if t379 = true then (laws_FnExactFirstTaken.j1 kj10 t352 (t365 != t352) a0_0 l0_1 l0_2 t349 t362) else (laws_FnExactFirstTaken.j1 kj10 t352 true a0_0 l0_1 l0_2 t349 t362)))) = some r := H
            have A63 := Aside0.mk A630
            clear A630
            have HC64 := Aside0.mk H
            clear H
            try go_wp2
            have n0_ := Aside0.mk (Kd.V_drew HO_354000.out)
            have n1_ := Aside0.mk (Kd.S_drew HO_362001.out)
            have n2_ := Aside0.mk (Kd.R_drew HO_362002.out)
            have n3_ := Aside0.mk (Kd.R_drew HO_367000.out)
            have n4_ := Aside0.mk (blk_drew BK340.out)
            have n5_ := Aside0.mk (blk_drew BK353.out)
            have n6_ := Aside0.mk (blk_drew BK361.out)
            have n7_ := Aside0.mk (blk_drew BK366.out)
            have n8_ := Aside0.mk (below_drew1 HB.out)
            clear HO_354000
            clear HO_362001
            clear HO_362002
            clear HO_367000
            clear BK340
            clear BK353
            clear BK361
            clear BK366
            clear HB
            have HO_354000 := n0_
            have HO_362001 := n1_
            have HO_362002 := n2_
            have HO_367000 := n3_
            have BK340 := n4_
            have BK353 := n5_
            have BK361 := n6_
            have BK366 := n7_
            have HB := n8_
            clear n0_ n1_ n2_ n3_ n4_ n5_ n6_ n7_ n8_
            refine start_ (n := 5) (S := fun w' => w'.cell? ⟨gb361, 0, none⟩ = some (.int .i64 t354) ∧ w'.cell? ⟨gb361, 1, none⟩ = some (.slice Ao32 t355.length co32) ∧ w'.cell? ⟨gb361, 2, none⟩ = some (.slice Ao33 t358.length co33) ∧ w'.cell? ⟨gb340, 0, none⟩ = some (.int .i64 a0_0) ∧ w'.cell? ⟨gb340, 1, none⟩ = some (.slice A0_1 l0_1.length c0_1) ∧ w'.cell? ⟨gb340, 2, none⟩ = some (.slice A0_2 l0_2.length c0_2)) (ds := []) #[false, false, false, false, false] (by kernel_rfl) rfl rfl ⟨(blk_cell BK361.out 0).trans rfl, (blk_cell BK361.out 1).trans rfl, (blk_cell BK361.out 2).trans rfl, (blk_cell BK340.out 0).trans rfl, (blk_cell BK340.out 1).trans rfl, (blk_cell BK340.out 2).trans rfl⟩ (fun hHeld => ?_)
            generalize wc.drew = w65 at HO_354000 HO_362001 HO_362002 HO_367000 BK340 BK353 BK361 BK366 HB hHeld ⊢
            refine take_ (i := 0) (N := some 41) (v := ?_) (a' := ?_) #[true, false, false, false, false] rfl rfl (by kernel_rfl) (fun _ _ _ h => h) (Or.inl ⟨by rfl, ?_⟩) hHeld ?_ ?_
            rotate_left
            · rintro w' ⟨s0, s1, s2, s3, s4, s5⟩
              go_simp
              with_reducible rfl
            rotate_left
            · simp only [Act.put, List.setIfInBounds_toArray, List.set_cons_zero, List.set_cons_succ, i64_w, i32_w]
              rfl
            refine take_ (i := 1) (N := some 42) (v := ?_) (a' := ?_) #[true, true, false, false, false] rfl rfl (by kernel_rfl) (fun _ _ _ h => h) (Or.inl ⟨by rfl, ?_⟩) hHeld ?_ ?_
            rotate_left
            · rintro w' ⟨s0, s1, s2, s3, s4, s5⟩
              go_simp
              with_reducible rfl
            rotate_left
            · simp only [Act.put, List.setIfInBounds_toArray, List.set_cons_zero, List.set_cons_succ, i64_w, i32_w]
              rfl
            refine one_ (i := 2) (N := some 43) #[true, true, true, false, false] rfl rfl (by kernel_rfl) (by decide) (fun K hK => ?_)
            refine goes_ Try.func10 (by kernel_rfl) rfl #[.agg #[.int .i64 a0_0, .slice A0_1 l0_1.length c0_1, .slice A0_2 l0_2.length c0_2]] (by rfl) rfl rfl (by (try simp only [List.map_toArray, List.map_cons, List.map_nil]); first | done | rfl | (simp only [List.length_drop, List.length_take]; rfl)) ?_
            with_reducible refine (laws_toAutomaton.calls kj10 a0_0 _ _ l0_1 _ _ l0_2 t368 t369 t372 _ ?side1 ?side2 ?side3 ?side4 A60.out).mono ?_
            (case side1 => repeat (first | exact (Kd.C_below HR0_1.out HB.out) | (with_reducible refine Kd.C_alloc ?_ _) | (with_reducible refine Kd.C_drewN ?_ _) | (with_reducible refine Kd.C_drew ?_)))
            (case side2 => exact HC0_1.out)
            (case side3 => repeat (first | exact (Kd.C_below HR0_2.out HB.out) | (with_reducible refine Kd.C_alloc ?_ _) | (with_reducible refine Kd.C_drewN ?_ _) | (with_reducible refine Kd.C_drew ?_)))
            (case side4 => exact HC0_2.out)
            rintro e w66 ⟨v370, v373, rfl, ho0, ho1, hb⟩
            refine ⟨_, rfl, ?_⟩
            have n0_ := Aside0.mk (Kd.V_mono (Kd.V_told (Kd.V_told (Kd.V_old (by (with_reducible repeat (first | apply Kd.V_alloc | apply Kd.V_drewN | apply Kd.V_drew)); exact HO_354000.out) hb) (Kd.S_base ho0)) (Kd.R_base ho1)) (fun _ h_ => h_.1))
            have n1_ := Aside0.mk (Kd.S_mono (Kd.S_told (Kd.S_told (Kd.S_old (by (with_reducible repeat (first | apply Kd.S_alloc | apply Kd.S_drewN | apply Kd.S_drew)); exact HO_362001.out) hb) (Kd.S_base ho0)) (Kd.R_base ho1)) (fun _ h_ => h_.1))
            have n2_ := Aside0.mk (Kd.R_elder' (by (with_reducible repeat (first | apply Kd.R_alloc | apply Kd.R_drewN | apply Kd.R_drew)); exact HO_362002.out) (Kd.R_base ho1) hb)
            have n3_ := Aside0.mk (Kd.R_elder' (by (with_reducible repeat (first | apply Kd.R_alloc | apply Kd.R_drewN | apply Kd.R_drew)); exact HO_367000.out) (Kd.R_base ho1) hb)
            have n4_ := Aside0.mk (Kd.S_lower (Kd.S_new' (Kd.S_new' (Kd.S_new' ho0 (Kd.S_lt (by (with_reducible repeat (first | apply Kd.S_alloc | apply Kd.S_drewN | apply Kd.S_drew)); exact HO_362001.out))) (Kd.R_lt (by (with_reducible repeat (first | apply Kd.R_alloc | apply Kd.R_drewN | apply Kd.R_drew)); exact HO_362002.out))) (Kd.R_lt (by (with_reducible repeat (first | apply Kd.R_alloc | apply Kd.R_drewN | apply Kd.R_drew)); exact HO_367000.out))) (below_size (by repeat (first | (with_reducible first | exact HB.out | apply below_alloc | apply pw_below_drewN | apply below_drew1 | refine below_set ?_ GE340.out | refine below_set ?_ GE353.out | refine below_set ?_ GE361.out | refine below_set ?_ GE366.out) | exact HB.out))))
            have n5_ := Aside0.mk (Kd.R_lower (Kd.R_new' (Kd.R_new' ho1 (Kd.R_lt (by (with_reducible repeat (first | apply Kd.R_alloc | apply Kd.R_drewN | apply Kd.R_drew)); exact HO_362002.out))) (Kd.R_lt (by (with_reducible repeat (first | apply Kd.R_alloc | apply Kd.R_drewN | apply Kd.R_drew)); exact HO_367000.out))) (below_size (by repeat (first | (with_reducible first | exact HB.out | apply below_alloc | apply pw_below_drewN | apply below_drew1 | refine below_set ?_ GE340.out | refine below_set ?_ GE353.out | refine below_set ?_ GE361.out | refine below_set ?_ GE366.out) | exact HB.out))))
            have n6_ := Aside0.mk (blk_below (g := gb340) (o := .cells #[.int .i64 a0_0, .slice A0_1 l0_1.length c0_1, .slice A0_2 l0_2.length c0_2] 25 (0, 0)) (by (with_reducible repeat (first | refine blk_drewN ?_ _ | refine blk_drew ?_ | refine blk_alloc ?_ _)); exact BK340.out) hb)
            have n7_ := Aside0.mk (blk_below (g := gb353) (o := .cells #[.slice Ao22 t349.length co22] 38 (0, 0)) (by (with_reducible repeat (first | refine blk_drewN ?_ _ | refine blk_drew ?_ | refine blk_alloc ?_ _)); exact BK353.out) hb)
            have n8_ := Aside0.mk (blk_below (g := gb361) (o := .cells #[.int .i64 t354, .slice Ao32 t355.length co32, .slice Ao33 t358.length co33] 29 (0, 0)) (by (with_reducible repeat (first | refine blk_drewN ?_ _ | refine blk_drew ?_ | refine blk_alloc ?_ _)); exact BK361.out) hb)
            have n9_ := Aside0.mk (blk_below (g := gb366) (o := .cells #[.slice Ao36 t362.length co36] 38 (0, 0)) (by (with_reducible repeat (first | refine blk_drewN ?_ _ | refine blk_drew ?_ | refine blk_alloc ?_ _)); exact BK366.out) hb)
            have n10_ := Aside0.mk (below_step (by repeat (first | (with_reducible first | exact HB.out | apply below_alloc | apply pw_below_drewN | apply below_drew1 | refine below_set ?_ GE340.out | refine below_set ?_ GE353.out | refine below_set ?_ GE361.out | refine below_set ?_ GE366.out) | exact HB.out)) hb)
            clear HO_354000
            clear HO_362001
            clear HO_362002
            clear HO_367000
            clear BK340
            clear BK353
            clear BK361
            clear BK366
            clear HB
            have HO_354000 := n0_
            have HO_362001 := n1_
            have HO_362002 := n2_
            have HO_367000 := n3_
            have HO371 := n4_
            have HO374 := n5_
            have BK340 := n6_
            have BK353 := n7_
            have BK361 := n8_
            have BK366 := n9_
            have HB := n10_
            clear n0_ n1_ n2_ n3_ n4_ n5_ n6_ n7_ n8_ n9_ n10_
            (try clear hb)
            (try clear hb2)
            (try clear hk)
            (try clear hi)
            (try clear ho0)
            (try clear ho1)
            obtain ⟨Ao67, co67, eo67⟩ := Kd.S_slice HO371.out
            (first | subst eo67 | (injection eo67 with f1_ f2_ f3_; have f4_ := f1_.symm; have f5_ := f3_.symm; clear f1_ f2_ f3_; subst f4_; subst f5_))
            obtain ⟨Ao68, co68, eo68⟩ := Kd.R_slice HO374.out
            (first | subst eo68 | (injection eo68 with f1_ f2_ f3_; have f4_ := f1_.symm; have f5_ := f3_.symm; clear f1_ f2_ f3_; subst f4_; subst f5_))
            refine hK.out _ _ ⟨(blk_cell BK361.out 0).trans rfl, (blk_cell BK361.out 1).trans rfl, (blk_cell BK361.out 2).trans rfl, (blk_cell BK340.out 0).trans rfl, (blk_cell BK340.out 1).trans rfl, (blk_cell BK340.out 2).trans rfl⟩ (fun hHeld => ?_)
            clear hK K
            refine norm_ (a' := ?_) ?_ ?_
            rotate_left
            · show Act.put _ (some 43) _ = _
              simp only [Act.put, List.setIfInBounds_toArray, List.set_cons_zero, List.set_cons_succ, i64_w, i32_w]
              rfl
            refine one_ (i := 3) (N := some 44) #[true, true, true, true, false] rfl rfl (by kernel_rfl) (by decide) (fun K hK => ?_)
            refine goes_ Try.func12 (by kernel_rfl) rfl #[.agg #[.int .i64 t354, .slice Ao32 t355.length co32, .slice Ao33 t358.length co33], .agg #[.int .i64 t368, .slice Ao67 t369.length co67, .slice Ao68 t372.length co68]] (by rfl) rfl rfl (by (try simp only [List.map_toArray, List.map_cons, List.map_nil]); first | done | rfl | (simp only [List.length_drop, List.length_take]; rfl)) ?_
            with_reducible refine (laws_eqAutomaton.calls kj10 t354 _ _ t355 _ _ t358 t368 _ _ t369 _ _ t372 true _ ?side1 ?side2 ?side3 ?side4 ?side5 ?side6 ?side7 ?side8 A61.out).mono ?_
            (case side1 => repeat (first | exact (Kd.S_reads' HO_362001.out).2.2 | (with_reducible refine Kd.C_alloc ?_ _) | (with_reducible refine Kd.C_drewN ?_ _) | (with_reducible refine Kd.C_drew ?_)))
            (case side2 => exact (Kd.S_reads' HO_362001.out).2.1)
            (case side3 => repeat (first | exact (Kd.R_reads' HO_362002.out).2.2 | (with_reducible refine Kd.C_alloc ?_ _) | (with_reducible refine Kd.C_drewN ?_ _) | (with_reducible refine Kd.C_drew ?_)))
            (case side4 => exact (Kd.R_reads' HO_362002.out).2.1)
            (case side5 => repeat (first | exact (Kd.S_reads' HO371.out).2.2 | (with_reducible refine Kd.C_alloc ?_ _) | (with_reducible refine Kd.C_drewN ?_ _) | (with_reducible refine Kd.C_drew ?_)))
            (case side6 => exact (Kd.S_reads' HO371.out).2.1)
            (case side7 => repeat (first | exact (Kd.R_reads' HO374.out).2.2 | (with_reducible refine Kd.C_alloc ?_ _) | (with_reducible refine Kd.C_drewN ?_ _) | (with_reducible refine Kd.C_drew ?_)))
            (case side8 => exact (Kd.R_reads' HO374.out).2.1)
            rintro e w69 ⟨rfl, hb⟩
            refine ⟨_, rfl, ?_⟩
            have n0_ := Aside0.mk (Kd.V_below (by (with_reducible repeat (first | apply Kd.V_alloc | apply Kd.V_drewN | apply Kd.V_drew)); exact HO_354000.out) hb)
            have n1_ := Aside0.mk (Kd.S_below (by (with_reducible repeat (first | apply Kd.S_alloc | apply Kd.S_drewN | apply Kd.S_drew)); exact HO_362001.out) hb)
            have n2_ := Aside0.mk (Kd.R_below (by (with_reducible repeat (first | apply Kd.R_alloc | apply Kd.R_drewN | apply Kd.R_drew)); exact HO_362002.out) hb)
            have n3_ := Aside0.mk (Kd.R_below (by (with_reducible repeat (first | apply Kd.R_alloc | apply Kd.R_drewN | apply Kd.R_drew)); exact HO_367000.out) hb)
            have n4_ := Aside0.mk (Kd.S_below (by (with_reducible repeat (first | apply Kd.S_alloc | apply Kd.S_drewN | apply Kd.S_drew)); exact HO371.out) hb)
            have n5_ := Aside0.mk (Kd.R_below (by (with_reducible repeat (first | apply Kd.R_alloc | apply Kd.R_drewN | apply Kd.R_drew)); exact HO374.out) hb)
            have n6_ := Aside0.mk (blk_below (g := gb340) (o := .cells #[.int .i64 a0_0, .slice A0_1 l0_1.length c0_1, .slice A0_2 l0_2.length c0_2] 25 (0, 0)) (by (with_reducible repeat (first | refine blk_drewN ?_ _ | refine blk_drew ?_ | refine blk_alloc ?_ _)); exact BK340.out) hb)
            have n7_ := Aside0.mk (blk_below (g := gb353) (o := .cells #[.slice Ao22 t349.length co22] 38 (0, 0)) (by (with_reducible repeat (first | refine blk_drewN ?_ _ | refine blk_drew ?_ | refine blk_alloc ?_ _)); exact BK353.out) hb)
            have n8_ := Aside0.mk (blk_below (g := gb361) (o := .cells #[.int .i64 t354, .slice Ao32 t355.length co32, .slice Ao33 t358.length co33] 29 (0, 0)) (by (with_reducible repeat (first | refine blk_drewN ?_ _ | refine blk_drew ?_ | refine blk_alloc ?_ _)); exact BK361.out) hb)
            have n9_ := Aside0.mk (blk_below (g := gb366) (o := .cells #[.slice Ao36 t362.length co36] 38 (0, 0)) (by (with_reducible repeat (first | refine blk_drewN ?_ _ | refine blk_drew ?_ | refine blk_alloc ?_ _)); exact BK366.out) hb)
            have n10_ := Aside0.mk (below_step (by repeat (first | (with_reducible first | exact HB.out | apply below_alloc | apply pw_below_drewN | apply below_drew1 | refine below_set ?_ GE340.out | refine below_set ?_ GE353.out | refine below_set ?_ GE361.out | refine below_set ?_ GE366.out) | exact HB.out)) hb)
            clear HO_354000
            clear HO_362001
            clear HO_362002
            clear HO_367000
            clear HO371
            clear HO374
            clear BK340
            clear BK353
            clear BK361
            clear BK366
            clear HB
            have HO_354000 := n0_
            have HO_362001 := n1_
            have HO_362002 := n2_
            have HO_367000 := n3_
            have HO371 := n4_
            have HO374 := n5_
            have BK340 := n6_
            have BK353 := n7_
            have BK361 := n8_
            have BK366 := n9_
            have HB := n10_
            clear n0_ n1_ n2_ n3_ n4_ n5_ n6_ n7_ n8_ n9_ n10_
            (try clear hb)
            (try clear hb2)
            (try clear hk)
            (try clear hi)
            refine hK.out _ _ ⟨(blk_cell BK361.out 0).trans rfl, (blk_cell BK361.out 1).trans rfl, (blk_cell BK361.out 2).trans rfl, (blk_cell BK340.out 0).trans rfl, (blk_cell BK340.out 1).trans rfl, (blk_cell BK340.out 2).trans rfl⟩ (fun hHeld => ?_)
            clear hK K
            refine norm_ (a' := ?_) ?_ ?_
            rotate_left
            · show Act.put _ (some 44) _ = _
              simp only [Act.put, List.setIfInBounds_toArray, List.set_cons_zero, List.set_cons_succ, i64_w, i32_w]
              rfl
            refine pure_ (i := 4) (N := some 45) (v := ?_) (a' := ?_) #[true, true, true, true, true] rfl rfl (by kernel_rfl) (fun _ _ _ h => h) (Or.inl ⟨by rfl, ?_⟩) ?_ ?_
            rotate_left
            · intro w'
              go_simp
              with_reducible rfl
            rotate_left
            · simp only [Act.put, List.setIfInBounds_toArray, List.set_cons_zero, List.set_cons_succ, i64_w, i32_w]
              rfl
            refine done_ (by kernel_rfl) ?_
            have hnb70 := NB361_340.out
            have hnc70 := NB340_361.out
            have hnb71 := NB361_353.out
            have hnc71 := NB353_361.out
            have hnb72 := NB361_366.out
            have hnc72 := NB366_361.out
            have hcz73_0 : w69.cell? ⟨gb361, 0, none⟩ = some (.int .i64 t354) := (blk_cell BK361.out 0).trans rfl
            have hcz73_1 : w69.cell? ⟨gb361, 1, none⟩ = some (.slice Ao32 t355.length co32) := (blk_cell BK361.out 1).trans rfl
            have hcz73_2 : w69.cell? ⟨gb361, 2, none⟩ = some (.slice Ao33 t358.length co33) := (blk_cell BK361.out 2).trans rfl
            have hfz73_0 := blk_frozen BK361.out 0
            have hfz73_1 := blk_frozen BK361.out 1
            have hfz73_2 := blk_frozen BK361.out 2
            go_upto_region 14 with (first | ((with_reducible refine gate_callee (f := 15) rfl ?_); refine goesL_ (some 48) rfl rfl Try.func15 (by kernel_rfl) rfl #[.agg #[.int .i64 t354, .slice Ao32 t355.length co32, .slice Ao33 t358.length co33], .int .i64 1] rfl (by (try simp only [List.map_toArray, List.map_cons, List.map_nil]); first | done | rfl | (simp only [List.length_drop, List.length_take]; rfl)) ?_; obtain ⟨PS74, hPS74, kPS74⟩ := S_open (HO_362001.out); (with_reducible refine (laws_markAutomaton.calls kj10 t354 PS74 (.slice Ao32 t355.length co32) t355 (fun k_ => some k_ = (.slice Ao33 t358.length co33 : Value).ownBlock) (.slice Ao33 t358.length co33) t358 1 t376 t377 t378 w _ ?side1 ?side2 ?side3 ?side4 A63.out).mono ?_); (case side1 => repeat (first | (with_reducible first | exact HB.out | apply below_alloc | apply pw_below_drewN | apply below_drew1 | refine below_set ?_ GE340.out | refine below_set ?_ GE353.out | refine below_set ?_ GE361.out | refine below_set ?_ GE366.out) | exact HB.out)); (case side2 => exact kPS74); (case side3 => exact fun k_ e_ e2_ => ((hPS74 k_ e_).1.1.1.1) e2_); (case side4 => exact Kd.R_tight rfl HO_362002.out); rintro e w75 ⟨rfl, hy0, hy1, hb, hkp⟩; refine ⟨_, rfl, ?_⟩; have n0_ := Aside0.mk (Kd.V_mono (ok' := fun k_ => some k_ ≠ (.slice Ao32 t355.length co32 : Value).ownBlock ∧ some k_ ≠ (.slice Ao33 t358.length co33 : Value).ownBlock ∧ some k_ ≠ (.slice Ao36 t362.length co36 : Value).ownBlock ∧ some k_ ≠ (.slice Ao68 t372.length co68 : Value).ownBlock ∧ k_ ≠ gb340 ∧ k_ ≠ gb353 ∧ k_ ≠ gb361 ∧ k_ ≠ gb366 ∧ k_ ≠ lt_ N27 k_) (Kd.V_keptB ((V_awayP (P := PS74) HO_354000.out (fun k_ h_ e_ => no_lap (h_.1.1.2.2.2.2.2.2.2) ((hPS74 k_ e_).1.1.1.2.2)))) hkp (fun k_ hk_ hs_ => Or.elim hs_ (fun e_ => (hk_.2) e_) (fun e_ => (hk_.1.1.1.2.1) e_))) (fun k_ hk_ => ⟨hk_.1.1.1.1.1, hk_.1.1.1.1.2.1, hk_.1.1.1.1.2.2.1, hk_.1.1.2, hk_.1.1.1.1.2.2.2.1, hk_.1.1.1.1.2.2.2.2.1, hk_.1.1.1.1.2.2.2.2.2.1, hk_.1.1.1.1.2.2.2.2.2.2.1, hk_.1.1.1.1.2.2.2.2.2.2.2⟩)); have n1_ := Aside0.mk (Kd.S_mono hy0 (fun k_ e_ => (hPS74 k_ e_).1)); have n2_ := Aside0.mk (Kd.R_reok rfl hy1 (fun k_ e_ => HO_362002.out.1 k_ e_)); have n3_ := Aside0.mk (Kd.R_mono (ok' := fun k_ => some k_ ≠ (.slice Ao33 t358.length co33 : Value).ownBlock ∧ some k_ ≠ (.slice Ao68 t372.length co68 : Value).ownBlock) (Kd.R_keptB ((R_awayS (P := PS74) rfl HO_367000.out (fun k_ e_ => (hPS74 k_ e_).1.1.1.2.1))) hkp (fun k_ hk_ hs_ => Or.elim hs_ (fun e_ => (hk_.2) e_) (fun e_ => (hk_.1.1) e_))) (fun k_ hk_ => ⟨hk_.1.1.1, hk_.1.1.2⟩)); have n4_ := Aside0.mk (blk_kept (by (with_reducible repeat (first | refine blk_drewN ?_ _ | refine blk_drew ?_ | refine blk_alloc ?_ _)); exact BK340.out) hkp (fun hs_ => Or.elim hs_ (fun e_ => (fun e_ => far_S (hPS74 _ e_).2.2.2 BK340.out (by decide)) e_) (fun e_ => (fun e_ => (Kd.R_ne HO_362002.out BK340.out (by decide)) e_) e_))); have n5_ := Aside0.mk (blk_kept (by (with_reducible repeat (first | refine blk_drewN ?_ _ | refine blk_drew ?_ | refine blk_alloc ?_ _)); exact BK353.out) hkp (fun hs_ => Or.elim hs_ (fun e_ => (fun e_ => far_S (hPS74 _ e_).2.2.2 BK353.out (by decide)) e_) (fun e_ => (fun e_ => (Kd.R_ne HO_362002.out BK353.out (by decide)) e_) e_))); have n6_ := Aside0.mk (blk_kept (by (with_reducible repeat (first | refine blk_drewN ?_ _ | refine blk_drew ?_ | refine blk_alloc ?_ _)); exact BK361.out) hkp (fun hs_ => Or.elim hs_ (fun e_ => (fun e_ => far_S (hPS74 _ e_).2.2.2 BK361.out (by decide)) e_) (fun e_ => (fun e_ => (Kd.R_ne HO_362002.out BK361.out (by decide)) e_) e_))); have n7_ := Aside0.mk (blk_kept (by (with_reducible repeat (first | refine blk_drewN ?_ _ | refine blk_drew ?_ | refine blk_alloc ?_ _)); exact BK366.out) hkp (fun hs_ => Or.elim hs_ (fun e_ => (fun e_ => far_S (hPS74 _ e_).2.2.2 BK366.out (by decide)) e_) (fun e_ => (fun e_ => (Kd.R_ne HO_362002.out BK366.out (by decide)) e_) e_))); have n8_ := Aside0.mk (Kd.R_mono (ok' := fun k_ => some k_ ≠ (.slice Ao33 t358.length co33 : Value).ownBlock ∧ some k_ ≠ (.slice Ao36 t362.length co36 : Value).ownBlock) (Kd.R_keptB ((R_awayS (P := PS74) rfl HO374.out (fun k_ e_ => (hPS74 k_ e_).1.2))) hkp (fun k_ hk_ hs_ => Or.elim hs_ (fun e_ => (hk_.2) e_) (fun e_ => (hk_.1.1.2) e_))) (fun k_ hk_ => ⟨hk_.1.1.1.2, hk_.1.1.2⟩)); have n9_ := Aside0.mk (hb); clear HO_354000; clear HO_362001; clear HO_362002; clear HO_367000; clear BK340; clear BK353; clear BK361; clear BK366; clear HO374; clear HB; clear HO371; have HO_354000 := n0_; have HO_362001 := n1_; have HO_362002 := n2_; have HO_367000 := n3_; have BK340 := n4_; have BK353 := n5_; have BK361 := n6_; have BK366 := n7_; have HO374 := n8_; have HB := n9_; clear n0_ n1_ n2_ n3_ n4_ n5_ n6_ n7_ n8_ n9_; (try clear hb); (try clear hkp); (try clear hy0); (try clear hy1); (try clear hPS74 kPS74)))
            (try simp only [Act.put, List.setIfInBounds_toArray, List.set_cons_zero, List.set_cons_succ])
            go_cut [61] (fun v61 wc => ∃ (kq : Nat) (x61_63 : Bool), v61 = .bool x61_63 ∧ Aside0 (laws_FnExactFirstTaken.j1 kq t352 x61_63 a0_0 l0_1 l0_2 t349 t362 = some r) ∧ Aside0 (kq ≤ kj10) ∧ Aside0 (Kd.V (Kd.int .i64) 2 wc w.heap.size (fun k_ => some k_ ≠ ((.slice Ao32 t355.length co32) : Value).ownBlock ∧ some k_ ≠ ((.slice Ao33 t358.length co33) : Value).ownBlock ∧ some k_ ≠ ((.slice Ao36 t362.length co36) : Value).ownBlock ∧ k_ ≠ gb340 ∧ k_ ≠ gb353 ∧ k_ ≠ gb361 ∧ k_ ≠ gb366 ∧ k_ ≠ lt_ N27 k_) (.slice Ao22 t349.length co22) t349) ∧ Aside0 (Kd.S (Kd.slice 2 (Kd.int .i64)) 23 wc w.heap.size (fun k_ => some k_ ≠ ((.slice Ao33 t358.length co33) : Value).ownBlock ∧ some k_ ≠ ((.slice Ao36 t362.length co36) : Value).ownBlock ∧ k_ ≠ ge_ N27 k_) (.slice Ao32 t355.length co32) t377) ∧ Aside0 (Kd.R (Kd.int .i64) 2 wc w.heap.size (fun k_ => some k_ ≠ ((.slice Ao36 t362.length co36) : Value).ownBlock) (.slice Ao33 t358.length co33) t378) ∧ Aside0 (Kd.R (Kd.int .i64) 2 wc w.heap.size (fun k_ => some k_ ≠ ((.slice Ao33 t358.length co33) : Value).ownBlock) (.slice Ao36 t362.length co36) t362) ∧ Aside0 (wc.heap[gb340]? = some (.cells #[.int .i64 a0_0, (.slice A0_1 l0_1.length c0_1), (.slice A0_2 l0_2.length c0_2)] 25 (0, 0))) ∧ Aside0 (wc.heap[gb353]? = some (.cells #[(.slice Ao22 t349.length co22)] 38 (0, 0))) ∧ Aside0 (wc.heap[gb361]? = some (.cells #[.int .i64 t354, (.slice Ao32 t355.length co32), (.slice Ao33 t358.length co33)] 29 (0, 0))) ∧ Aside0 (wc.heap[gb366]? = some (.cells #[(.slice Ao36 t362.length co36)] 38 (0, 0))) ∧ Aside0 (Below w.heap.size w wc))
            case first =>
              have H := HC64.out
              clear HC64
              by_cases c76 : t376 < 0
              · rw [if_pos c76] at H
                have c76b0 : decide (t376 < 0) = true := decide_eq_true c76
                clear c76
                (first | rw [c76b0] | (simp only [i64_w, i32_w]; rw [c76b0]) | skip)
                have H' := Aside0.mk H
                clear H
                go_wp2
                go_meet
                case rel => exact ⟨_, (true), (by first | rfl | (simp; done) | (simp [*]; done)), H', ⟨by have := HJ10.out; first | omega | exact Nat.le_refl _⟩, ⟨by (with_reducible repeat (first | apply Kd.V_alloc | apply Kd.V_drewN | apply Kd.V_drew)); exact Kd.V_mono HO_354000.out (fun _ hk => ⟨hk.1, ⟨hk.2.1, ⟨hk.2.2.1, ⟨hk.2.2.2.2.1, ⟨hk.2.2.2.2.2.1, ⟨hk.2.2.2.2.2.2.1, ⟨hk.2.2.2.2.2.2.2.1, hk.2.2.2.2.2.2.2.2⟩⟩⟩⟩⟩⟩⟩)⟩, ⟨by (with_reducible repeat (first | apply Kd.S_alloc | apply Kd.S_drewN | apply Kd.S_drew)); exact Kd.S_mono HO_362001.out (fun _ hk => ⟨hk.1.1.1, ⟨hk.1.1.2.1, hk.1.1.2.2⟩⟩)⟩, ⟨by (with_reducible repeat (first | apply Kd.R_alloc | apply Kd.R_drewN | apply Kd.R_drew)); exact Kd.R_mono HO_362002.out (fun _ hk => hk.1)⟩, ⟨by (with_reducible repeat (first | apply Kd.R_alloc | apply Kd.R_drewN | apply Kd.R_drew)); exact Kd.R_mono HO_367000.out (fun _ hk => hk.1)⟩, ⟨by (with_reducible repeat (first | refine blk_drewN ?_ _ | refine blk_drew ?_ | refine blk_alloc ?_ _)); exact BK340.out⟩, ⟨by (with_reducible repeat (first | refine blk_drewN ?_ _ | refine blk_drew ?_ | refine blk_alloc ?_ _)); exact BK353.out⟩, ⟨by (with_reducible repeat (first | refine blk_drewN ?_ _ | refine blk_drew ?_ | refine blk_alloc ?_ _)); exact BK361.out⟩, ⟨by (with_reducible repeat (first | refine blk_drewN ?_ _ | refine blk_drew ?_ | refine blk_alloc ?_ _)); exact BK366.out⟩, ⟨by repeat (first | (with_reducible first | exact HB.out | apply below_alloc | apply pw_below_drewN | apply below_drew1 | refine below_set ?_ GE340.out | refine below_set ?_ GE353.out | refine below_set ?_ GE361.out | refine below_set ?_ GE366.out) | exact HB.out)⟩⟩
              · rw [if_neg c76] at H
                have c76b0 : decide (t376 < 0) = false := decide_eq_false c76
                clear c76
                (first | rw [c76b0] | (simp only [i64_w, i32_w]; rw [c76b0]) | skip)
                replace H := Option.bind_eq_some_iff.mp H
                obtain ⟨t379, A770, H⟩ := H
                replace H : (if t379 = true then (laws_FnExactFirstTaken.j1 kj10 t352 (t365 != t352) a0_0 l0_1 l0_2 t349 t362) else (laws_FnExactFirstTaken.j1 kj10 t352 true a0_0 l0_1 l0_2 t349 t362)) = some r := H
                have A77 := Aside0.mk A770
                clear A770
                by_cases c78 : t379 = true
                · subst c78
                  have H1 : (laws_FnExactFirstTaken.j1 kj10 t352 (t365 != t352) a0_0 l0_1 l0_2 t349 t362) = some r := by rw [if_pos rfl] at H; exact H
                  clear H
                  have H := H1
                  clear H1
                  have H' := Aside0.mk H
                  clear H
                  have hnb79 := NB366_340.out
                  have hnc79 := NB340_366.out
                  have hnb80 := NB366_353.out
                  have hnc80 := NB353_366.out
                  have hnb81 := NB366_361.out
                  have hnc81 := NB361_366.out
                  have hcz82_0 : w75.cell? ⟨gb366, 0, none⟩ = some (.slice Ao36 t362.length co36) := (blk_cell BK366.out 0).trans rfl
                  have hfz82_0 := blk_frozen BK366.out 0
                  have hnb83 := NB353_340.out
                  have hnc83 := NB340_353.out
                  have hnb84 := NB353_361.out
                  have hnc84 := NB361_353.out
                  have hcz85_0 : w75.cell? ⟨gb353, 0, none⟩ = some (.slice Ao22 t349.length co22) := (blk_cell BK353.out 0).trans rfl
                  have hfz85_0 := blk_frozen BK353.out 0
                  go_wp2_with (first | (go_at_call 19; (with_reducible refine (laws_eqTree.calls kj10 _ _ t362 _ _ t349 true _ ?side1 ?side2 ?side3 ?side4 A77.out).mono ?_); (case side1 => repeat (first | exact (Kd.R_reads' HO_367000.out).2.2 | (with_reducible refine Kd.C_alloc ?_ _) | (with_reducible refine Kd.C_drewN ?_ _) | (with_reducible refine Kd.C_drew ?_))); (case side2 => exact (Kd.R_reads' HO_367000.out).2.1); (case side3 => repeat (first | exact (Kd.V_reads' HO_354000.out).2.2 | (with_reducible refine Kd.C_alloc ?_ _) | (with_reducible refine Kd.C_drewN ?_ _) | (with_reducible refine Kd.C_drew ?_))); (case side4 => exact (Kd.V_reads' HO_354000.out).2.1); rintro e w86 ⟨rfl, hb⟩; have n0_ := Aside0.mk (Kd.V_below (by (with_reducible repeat (first | apply Kd.V_alloc | apply Kd.V_drewN | apply Kd.V_drew)); exact HO_354000.out) hb); have n1_ := Aside0.mk (Kd.S_below (by (with_reducible repeat (first | apply Kd.S_alloc | apply Kd.S_drewN | apply Kd.S_drew)); exact HO_362001.out) hb); have n2_ := Aside0.mk (Kd.R_below (by (with_reducible repeat (first | apply Kd.R_alloc | apply Kd.R_drewN | apply Kd.R_drew)); exact HO_362002.out) hb); have n3_ := Aside0.mk (Kd.R_below (by (with_reducible repeat (first | apply Kd.R_alloc | apply Kd.R_drewN | apply Kd.R_drew)); exact HO_367000.out) hb); have n4_ := Aside0.mk (Kd.R_below (by (with_reducible repeat (first | apply Kd.R_alloc | apply Kd.R_drewN | apply Kd.R_drew)); exact HO374.out) hb); have n5_ := Aside0.mk (blk_below (g := gb340) (o := .cells #[.int .i64 a0_0, .slice A0_1 l0_1.length c0_1, .slice A0_2 l0_2.length c0_2] 25 (0, 0)) (by (with_reducible repeat (first | refine blk_drewN ?_ _ | refine blk_drew ?_ | refine blk_alloc ?_ _)); exact BK340.out) hb); have n6_ := Aside0.mk (blk_below (g := gb353) (o := .cells #[.slice Ao22 t349.length co22] 38 (0, 0)) (by (with_reducible repeat (first | refine blk_drewN ?_ _ | refine blk_drew ?_ | refine blk_alloc ?_ _)); exact BK353.out) hb); have n7_ := Aside0.mk (blk_below (g := gb361) (o := .cells #[.int .i64 t354, .slice Ao32 t355.length co32, .slice Ao33 t358.length co33] 29 (0, 0)) (by (with_reducible repeat (first | refine blk_drewN ?_ _ | refine blk_drew ?_ | refine blk_alloc ?_ _)); exact BK361.out) hb); have n8_ := Aside0.mk (blk_below (g := gb366) (o := .cells #[.slice Ao36 t362.length co36] 38 (0, 0)) (by (with_reducible repeat (first | refine blk_drewN ?_ _ | refine blk_drew ?_ | refine blk_alloc ?_ _)); exact BK366.out) hb); have n9_ := Aside0.mk (below_step (by repeat (first | (with_reducible first | exact HB.out | apply below_alloc | apply pw_below_drewN | apply below_drew1 | refine below_set ?_ GE340.out | refine below_set ?_ GE353.out | refine below_set ?_ GE361.out | refine below_set ?_ GE366.out) | exact HB.out)) hb); clear HO_354000; clear HO_362001; clear HO_362002; clear HO_367000; clear HO374; clear BK340; clear BK353; clear BK361; clear BK366; clear HB; have HO_354000 := n0_; have HO_362001 := n1_; have HO_362002 := n2_; have HO_367000 := n3_; have HO374 := n4_; have BK340 := n5_; have BK353 := n6_; have BK361 := n7_; have BK366 := n8_; have HB := n9_; clear n0_ n1_ n2_ n3_ n4_ n5_ n6_ n7_ n8_ n9_; (try clear hb); (try clear hb2); (try clear hk); (try clear hi)))
                  go_meet
                  case rel => exact ⟨_, ((t365 != t352)), (by first | rfl | (simp; done) | (simp [*]; done)), H', ⟨by have := HJ10.out; first | omega | exact Nat.le_refl _⟩, ⟨by (with_reducible repeat (first | apply Kd.V_alloc | apply Kd.V_drewN | apply Kd.V_drew)); exact Kd.V_mono HO_354000.out (fun _ hk => ⟨hk.1, ⟨hk.2.1, ⟨hk.2.2.1, ⟨hk.2.2.2.2.1, ⟨hk.2.2.2.2.2.1, ⟨hk.2.2.2.2.2.2.1, ⟨hk.2.2.2.2.2.2.2.1, hk.2.2.2.2.2.2.2.2⟩⟩⟩⟩⟩⟩⟩)⟩, ⟨by (with_reducible repeat (first | apply Kd.S_alloc | apply Kd.S_drewN | apply Kd.S_drew)); exact Kd.S_mono HO_362001.out (fun _ hk => ⟨hk.1.1.1, ⟨hk.1.1.2.1, hk.1.1.2.2⟩⟩)⟩, ⟨by (with_reducible repeat (first | apply Kd.R_alloc | apply Kd.R_drewN | apply Kd.R_drew)); exact Kd.R_mono HO_362002.out (fun _ hk => hk.1)⟩, ⟨by (with_reducible repeat (first | apply Kd.R_alloc | apply Kd.R_drewN | apply Kd.R_drew)); exact Kd.R_mono HO_367000.out (fun _ hk => hk.1)⟩, ⟨by (with_reducible repeat (first | refine blk_drewN ?_ _ | refine blk_drew ?_ | refine blk_alloc ?_ _)); exact BK340.out⟩, ⟨by (with_reducible repeat (first | refine blk_drewN ?_ _ | refine blk_drew ?_ | refine blk_alloc ?_ _)); exact BK353.out⟩, ⟨by (with_reducible repeat (first | refine blk_drewN ?_ _ | refine blk_drew ?_ | refine blk_alloc ?_ _)); exact BK361.out⟩, ⟨by (with_reducible repeat (first | refine blk_drewN ?_ _ | refine blk_drew ?_ | refine blk_alloc ?_ _)); exact BK366.out⟩, ⟨by repeat (first | (with_reducible first | exact HB.out | apply below_alloc | apply pw_below_drewN | apply below_drew1 | refine below_set ?_ GE340.out | refine below_set ?_ GE353.out | refine below_set ?_ GE361.out | refine below_set ?_ GE366.out) | exact HB.out)⟩⟩
                · replace c78 := Bool.eq_false_iff.mpr c78
                  subst c78
                  have H1 : (laws_FnExactFirstTaken.j1 kj10 t352 true a0_0 l0_1 l0_2 t349 t362) = some r := by rw [if_neg (show ¬ (false = true) by decide)] at H; exact H
                  clear H
                  have H := H1
                  clear H1
                  have H' := Aside0.mk H
                  clear H
                  have hnb87 := NB366_340.out
                  have hnc87 := NB340_366.out
                  have hnb88 := NB366_353.out
                  have hnc88 := NB353_366.out
                  have hnb89 := NB366_361.out
                  have hnc89 := NB361_366.out
                  have hcz90_0 : w75.cell? ⟨gb366, 0, none⟩ = some (.slice Ao36 t362.length co36) := (blk_cell BK366.out 0).trans rfl
                  have hfz90_0 := blk_frozen BK366.out 0
                  have hnb91 := NB353_340.out
                  have hnc91 := NB340_353.out
                  have hnb92 := NB353_361.out
                  have hnc92 := NB361_353.out
                  have hcz93_0 : w75.cell? ⟨gb353, 0, none⟩ = some (.slice Ao22 t349.length co22) := (blk_cell BK353.out 0).trans rfl
                  have hfz93_0 := blk_frozen BK353.out 0
                  go_wp2_with (first | (go_at_call 19; (with_reducible refine (laws_eqTree.calls kj10 _ _ t362 _ _ t349 false _ ?side1 ?side2 ?side3 ?side4 A77.out).mono ?_); (case side1 => repeat (first | exact (Kd.R_reads' HO_367000.out).2.2 | (with_reducible refine Kd.C_alloc ?_ _) | (with_reducible refine Kd.C_drewN ?_ _) | (with_reducible refine Kd.C_drew ?_))); (case side2 => exact (Kd.R_reads' HO_367000.out).2.1); (case side3 => repeat (first | exact (Kd.V_reads' HO_354000.out).2.2 | (with_reducible refine Kd.C_alloc ?_ _) | (with_reducible refine Kd.C_drewN ?_ _) | (with_reducible refine Kd.C_drew ?_))); (case side4 => exact (Kd.V_reads' HO_354000.out).2.1); rintro e w94 ⟨rfl, hb⟩; have n0_ := Aside0.mk (Kd.V_below (by (with_reducible repeat (first | apply Kd.V_alloc | apply Kd.V_drewN | apply Kd.V_drew)); exact HO_354000.out) hb); have n1_ := Aside0.mk (Kd.S_below (by (with_reducible repeat (first | apply Kd.S_alloc | apply Kd.S_drewN | apply Kd.S_drew)); exact HO_362001.out) hb); have n2_ := Aside0.mk (Kd.R_below (by (with_reducible repeat (first | apply Kd.R_alloc | apply Kd.R_drewN | apply Kd.R_drew)); exact HO_362002.out) hb); have n3_ := Aside0.mk (Kd.R_below (by (with_reducible repeat (first | apply Kd.R_alloc | apply Kd.R_drewN | apply Kd.R_drew)); exact HO_367000.out) hb); have n4_ := Aside0.mk (Kd.R_below (by (with_reducible repeat (first | apply Kd.R_alloc | apply Kd.R_drewN | apply Kd.R_drew)); exact HO374.out) hb); have n5_ := Aside0.mk (blk_below (g := gb340) (o := .cells #[.int .i64 a0_0, .slice A0_1 l0_1.length c0_1, .slice A0_2 l0_2.length c0_2] 25 (0, 0)) (by (with_reducible repeat (first | refine blk_drewN ?_ _ | refine blk_drew ?_ | refine blk_alloc ?_ _)); exact BK340.out) hb); have n6_ := Aside0.mk (blk_below (g := gb353) (o := .cells #[.slice Ao22 t349.length co22] 38 (0, 0)) (by (with_reducible repeat (first | refine blk_drewN ?_ _ | refine blk_drew ?_ | refine blk_alloc ?_ _)); exact BK353.out) hb); have n7_ := Aside0.mk (blk_below (g := gb361) (o := .cells #[.int .i64 t354, .slice Ao32 t355.length co32, .slice Ao33 t358.length co33] 29 (0, 0)) (by (with_reducible repeat (first | refine blk_drewN ?_ _ | refine blk_drew ?_ | refine blk_alloc ?_ _)); exact BK361.out) hb); have n8_ := Aside0.mk (blk_below (g := gb366) (o := .cells #[.slice Ao36 t362.length co36] 38 (0, 0)) (by (with_reducible repeat (first | refine blk_drewN ?_ _ | refine blk_drew ?_ | refine blk_alloc ?_ _)); exact BK366.out) hb); have n9_ := Aside0.mk (below_step (by repeat (first | (with_reducible first | exact HB.out | apply below_alloc | apply pw_below_drewN | apply below_drew1 | refine below_set ?_ GE340.out | refine below_set ?_ GE353.out | refine below_set ?_ GE361.out | refine below_set ?_ GE366.out) | exact HB.out)) hb); clear HO_354000; clear HO_362001; clear HO_362002; clear HO_367000; clear HO374; clear BK340; clear BK353; clear BK361; clear BK366; clear HB; have HO_354000 := n0_; have HO_362001 := n1_; have HO_362002 := n2_; have HO_367000 := n3_; have HO374 := n4_; have BK340 := n5_; have BK353 := n6_; have BK361 := n7_; have BK366 := n8_; have HB := n9_; clear n0_ n1_ n2_ n3_ n4_ n5_ n6_ n7_ n8_ n9_; (try clear hb); (try clear hb2); (try clear hk); (try clear hi)))
                  go_meet
                  case rel => exact ⟨_, (true), (by first | rfl | (simp; done) | (simp [*]; done)), H', ⟨by have := HJ10.out; first | omega | exact Nat.le_refl _⟩, ⟨by (with_reducible repeat (first | apply Kd.V_alloc | apply Kd.V_drewN | apply Kd.V_drew)); exact Kd.V_mono HO_354000.out (fun _ hk => ⟨hk.1, ⟨hk.2.1, ⟨hk.2.2.1, ⟨hk.2.2.2.2.1, ⟨hk.2.2.2.2.2.1, ⟨hk.2.2.2.2.2.2.1, ⟨hk.2.2.2.2.2.2.2.1, hk.2.2.2.2.2.2.2.2⟩⟩⟩⟩⟩⟩⟩)⟩, ⟨by (with_reducible repeat (first | apply Kd.S_alloc | apply Kd.S_drewN | apply Kd.S_drew)); exact Kd.S_mono HO_362001.out (fun _ hk => ⟨hk.1.1.1, ⟨hk.1.1.2.1, hk.1.1.2.2⟩⟩)⟩, ⟨by (with_reducible repeat (first | apply Kd.R_alloc | apply Kd.R_drewN | apply Kd.R_drew)); exact Kd.R_mono HO_362002.out (fun _ hk => hk.1)⟩, ⟨by (with_reducible repeat (first | apply Kd.R_alloc | apply Kd.R_drewN | apply Kd.R_drew)); exact Kd.R_mono HO_367000.out (fun _ hk => hk.1)⟩, ⟨by (with_reducible repeat (first | refine blk_drewN ?_ _ | refine blk_drew ?_ | refine blk_alloc ?_ _)); exact BK340.out⟩, ⟨by (with_reducible repeat (first | refine blk_drewN ?_ _ | refine blk_drew ?_ | refine blk_alloc ?_ _)); exact BK353.out⟩, ⟨by (with_reducible repeat (first | refine blk_drewN ?_ _ | refine blk_drew ?_ | refine blk_alloc ?_ _)); exact BK361.out⟩, ⟨by (with_reducible repeat (first | refine blk_drewN ?_ _ | refine blk_drew ?_ | refine blk_alloc ?_ _)); exact BK366.out⟩, ⟨by repeat (first | (with_reducible first | exact HB.out | apply below_alloc | apply pw_below_drewN | apply below_drew1 | refine below_set ?_ GE340.out | refine below_set ?_ GE353.out | refine below_set ?_ GE361.out | refine below_set ?_ GE366.out) | exact HB.out)⟩⟩
            case rest =>
              clear HC64
              try clear c1
              try clear c2
              try clear p2
              try clear c3
              try clear c3b0
              try clear c4
              try clear c5
              try clear c6
              try clear c7
              try clear c8
              try clear c9
              try clear c10
              try clear c12
              try clear c15
              try clear c17
              try clear c18
              try clear c19
              try clear c23
              try clear c29
              try clear c30
              try clear c37
              try clear c38
              try clear c39
              try clear c42
              try clear c43
              try clear c44
              try clear c45
              try clear c47
              try clear c48
              try clear c51
              try clear c52
              try clear c53
              try clear c55
              try clear c56
              try clear c59
              try clear c62
              try clear c70
              try clear c71
              try clear c72
              try clear c76
              try clear c76b0
              try clear c78
              try clear c79
              try clear c80
              try clear c81
              try clear c83
              try clear c84
              try clear c87
              try clear c88
              try clear c89
              try clear c91
              try clear c92
              try clear hcz13_0
              try clear hcz13_1
              try clear hcz13_2
              try clear hcz15_0
              try clear hcz15_1
              try clear hcz15_2
              try clear hcz24_0
              try clear hcz25_0
              try clear hcz25_1
              try clear hcz25_2
              try clear hcz31_0
              try clear hcz31_1
              try clear hcz31_2
              try clear hcz40_0
              try clear hcz46_0
              try clear hcz49_0
              try clear hcz54_0
              try clear hcz57_0
              try clear hcz5_0
              try clear hcz5_1
              try clear hcz5_2
              try clear hcz73_0
              try clear hcz73_1
              try clear hcz73_2
              try clear hcz82_0
              try clear hcz85_0
              try clear hcz90_0
              try clear hcz93_0
              try clear hfz13_0
              try clear hfz13_1
              try clear hfz13_2
              try clear hfz15_0
              try clear hfz15_1
              try clear hfz15_2
              try clear hfz24_0
              try clear hfz25_0
              try clear hfz25_1
              try clear hfz25_2
              try clear hfz31_0
              try clear hfz31_1
              try clear hfz31_2
              try clear hfz40_0
              try clear hfz46_0
              try clear hfz49_0
              try clear hfz54_0
              try clear hfz57_0
              try clear hfz5_0
              try clear hfz5_1
              try clear hfz5_2
              try clear hfz73_0
              try clear hfz73_1
              try clear hfz73_2
              try clear hfz82_0
              try clear hfz85_0
              try clear hfz90_0
              try clear hfz93_0
              try clear p2
              obtain ⟨kq, x61_63, rfl, HA, HJ63, HO_354000, HO_362001, HO_362002, HO_367000, BK340, BK353, BK361, BK366, HB⟩ := hcut
              have hl362001_63 := (Kd.S_reads' HO_362001.out).1
              rw [hl362001_63] at HO_362001
              (try simp only [hl362001_63])
              (try simp only [hl362001_63] at BK340)
              (try simp only [hl362001_63] at BK353)
              (try simp only [hl362001_63] at BK361)
              (try simp only [hl362001_63] at BK366)
              (try simp only [hl362001_63] at HO_354000)
              (try simp only [hl362001_63] at HO_362002)
              (try simp only [hl362001_63] at HO_367000)
              have hl362002_63 := (Kd.R_reads' HO_362002.out).1
              rw [hl362002_63] at HO_362002
              (try simp only [hl362002_63])
              (try simp only [hl362002_63] at BK340)
              (try simp only [hl362002_63] at BK353)
              (try simp only [hl362002_63] at BK361)
              (try simp only [hl362002_63] at BK366)
              (try simp only [hl362002_63] at HO_354000)
              (try simp only [hl362002_63] at HO_362001)
              (try simp only [hl362002_63] at HO_367000)
              cases kq with
              | zero => exact absurd HA.out (by simp [laws_FnExactFirstTaken.j1])
              | succ kj63 =>
                have H := HA.out
                clear HA
                simp only [laws_FnExactFirstTaken.j1] at H
                by_cases c95 : x61_63 = true
                · subst c95
                  have H1 : (some false) = some r := by rw [if_pos rfl] at H; exact H
                  clear H
                  have H := H1
                  clear H1
                  obtain rfl := Option.some.inj H
                  go_wp2
                  go_ret
                  exact ⟨by first | rfl | (simp [errW_none, errW_some] <;> rfl) | (simp [*, errW_none, errW_some] <;> rfl), by repeat (first | (with_reducible first | exact HB.out | apply below_alloc | apply pw_below_drewN | apply below_drew1 | refine below_set ?_ GE340.out | refine below_set ?_ GE353.out | refine below_set ?_ GE361.out | refine below_set ?_ GE366.out) | exact HB.out)⟩
                · replace c95 := Bool.eq_false_iff.mpr c95
                  subst c95
                  have H1 : ((laws_markTree.f kj63 t362 1).bind fun bt380 => ((laws_heldTree.f kj63 bt380.2 1).bind fun t382 => (if t382 < 0 then (some false) else (if t382 = bt380.1 then ((laws_toAutomaton.f kj63 a0_0 l0_1 l0_2).bind fun bt383 => ((impl_FirstTaken.f kj63 bt383.1 bt383.2.1 bt383.2.2).bind fun bt390 => ((laws_eqTree.f kj63 bt390.1 t349).bind fun t395 => (if t395 = true then (laws_FnExactFirstTaken.j2 kj63 bt380.1 (bt390.2 != t352) bt380.2) else (laws_FnExactFirstTaken.j2 kj63 bt380.1 true bt380.2))))) else (some false))))) = some r := by rw [if_neg (show ¬ (false = true) by decide)] at H; exact H
                  clear H
                  have H := H1
                  clear H1
                  replace H := Option.bind_eq_some_iff.mp H
                  obtain ⟨⟨t380, t381⟩, A960, H⟩ := H
                  replace H : ((laws_heldTree.f kj63 t381 1).bind fun t382 => (if t382 < 0 then (some false) else (if t382 = t380 then ((laws_toAutomaton.f kj63 a0_0 l0_1 l0_2).bind fun bt383 => ((impl_FirstTaken.f kj63 bt383.1 bt383.2.1 bt383.2.2).bind fun bt390 => ((laws_eqTree.f kj63 bt390.1 t349).bind fun t395 => (if t395 = true then (laws_FnExactFirstTaken.j2 kj63 t380 (bt390.2 != t352) t381) else (laws_FnExactFirstTaken.j2 kj63 t380 true t381))))) else (some false)))) = some r := H
                  have A96 := Aside0.mk A960
                  clear A960
                  replace H := Option.bind_eq_some_iff.mp H
                  obtain ⟨t382, A970, H⟩ := H
                  replace H : (if t382 < 0 then (some false) else (if t382 = t380 then ((laws_toAutomaton.f kj63 a0_0 l0_1 l0_2).bind fun bt383 => ((impl_FirstTaken.f kj63 bt383.1 bt383.2.1 bt383.2.2).bind fun bt390 => ((laws_eqTree.f kj63 bt390.1 t349).bind fun t395 => (if t395 = true then (laws_FnExactFirstTaken.j2 kj63 t380 (bt390.2 != t352) t381) else (laws_FnExactFirstTaken.j2 kj63 t380 true t381))))) else (some false))) = some r := H
                  have A97 := Aside0.mk A970
                  clear A970
                  by_cases c98 : t382 < 0
                  · rw [if_pos c98] at H
                    have c98b0 : decide (t382 < 0) = true := decide_eq_true c98
                    clear c98
                    obtain rfl := Option.some.inj H
                    have hnb99 := NB366_340.out
                    have hnc99 := NB340_366.out
                    have hnb100 := NB366_353.out
                    have hnc100 := NB353_366.out
                    have hnb101 := NB366_361.out
                    have hnc101 := NB361_366.out
                    have hcz102_0 : wc.cell? ⟨gb366, 0, none⟩ = some (.slice Ao36 t362.length co36) := (blk_cell BK366.out 0).trans rfl
                    have hfz102_0 := blk_frozen BK366.out 0
                    go_wp2_with (first | ((with_reducible refine gate_callee (f := 20) rfl ?_); refine goesL_ (some 64) rfl rfl Try.func20 (by kernel_rfl) rfl #[.agg #[.slice Ao36 t362.length co36], .int .i64 1] rfl (by (try simp only [List.map_toArray, List.map_cons, List.map_nil]); first | done | rfl | (simp only [List.length_drop, List.length_take]; rfl)) ?_; (with_reducible refine (laws_markTree.calls kj63 (fun k_ => some k_ = (.slice Ao36 t362.length co36 : Value).ownBlock) (.slice Ao36 t362.length co36) t362 1 t380 t381 w _ ?side1 ?side2 A96.out).mono ?_); (case side1 => repeat (first | (with_reducible first | exact HB.out | apply below_alloc | apply pw_below_drewN | apply below_drew1 | refine below_set ?_ GE340.out | refine below_set ?_ GE353.out | refine below_set ?_ GE361.out | refine below_set ?_ GE366.out) | exact HB.out)); (case side2 => exact Kd.R_tight rfl HO_367000.out); rintro e w103 ⟨rfl, hy0, hb, hkp⟩; refine ⟨_, rfl, ?_⟩; have n0_ := Aside0.mk (Kd.V_mono (ok' := fun k_ => some k_ ≠ (.slice Ao32 t377.length co32 : Value).ownBlock ∧ some k_ ≠ (.slice Ao33 t378.length co33 : Value).ownBlock ∧ some k_ ≠ (.slice Ao36 t362.length co36 : Value).ownBlock ∧ k_ ≠ gb340 ∧ k_ ≠ gb353 ∧ k_ ≠ gb361 ∧ k_ ≠ gb366 ∧ k_ ≠ lt_ N27 k_) (Kd.V_keptB (HO_354000.out) hkp (fun k_ hk_ hs_ => (hk_.2.2.1) hs_)) (fun k_ hk_ => ⟨hk_.1.1, hk_.1.2.1, hk_.1.2.2.1, hk_.1.2.2.2.1, hk_.1.2.2.2.2.1, hk_.1.2.2.2.2.2.1, hk_.1.2.2.2.2.2.2.1, hk_.1.2.2.2.2.2.2.2⟩)); have n1_ := Aside0.mk (Kd.S_mono (ok' := fun k_ => some k_ ≠ (.slice Ao33 t378.length co33 : Value).ownBlock ∧ some k_ ≠ (.slice Ao36 t362.length co36 : Value).ownBlock ∧ k_ ≠ ge_ N27 k_) (Kd.S_keptB (HO_362001.out) hkp (fun k_ hk_ hs_ => (hk_.2.1) hs_)) (fun k_ hk_ => ⟨hk_.1.1, hk_.1.2.1, hk_.1.2.2⟩)); have n2_ := Aside0.mk (Kd.R_mono (ok' := fun k_ => some k_ ≠ (.slice Ao36 t362.length co36 : Value).ownBlock) (Kd.R_keptB (HO_362002.out) hkp (fun k_ hk_ hs_ => (hk_) hs_)) (fun k_ hk_ => hk_.1)); have n3_ := Aside0.mk (Kd.R_reok rfl hy0 (fun k_ e_ => HO_367000.out.1 k_ e_)); have n4_ := Aside0.mk (blk_kept (by (with_reducible repeat (first | refine blk_drewN ?_ _ | refine blk_drew ?_ | refine blk_alloc ?_ _)); exact BK340.out) hkp (fun hs_ => (fun e_ => (Kd.R_ne HO_367000.out BK340.out (by decide)) e_) hs_)); have n5_ := Aside0.mk (blk_kept (by (with_reducible repeat (first | refine blk_drewN ?_ _ | refine blk_drew ?_ | refine blk_alloc ?_ _)); exact BK353.out) hkp (fun hs_ => (fun e_ => (Kd.R_ne HO_367000.out BK353.out (by decide)) e_) hs_)); have n6_ := Aside0.mk (blk_kept (by (with_reducible repeat (first | refine blk_drewN ?_ _ | refine blk_drew ?_ | refine blk_alloc ?_ _)); exact BK361.out) hkp (fun hs_ => (fun e_ => (Kd.R_ne HO_367000.out BK361.out (by decide)) e_) hs_)); have n7_ := Aside0.mk (blk_kept (by (with_reducible repeat (first | refine blk_drewN ?_ _ | refine blk_drew ?_ | refine blk_alloc ?_ _)); exact BK366.out) hkp (fun hs_ => (fun e_ => (Kd.R_ne HO_367000.out BK366.out (by decide)) e_) hs_)); have n8_ := Aside0.mk (hb); clear HO_354000; clear HO_362001; clear HO_362002; clear HO_367000; clear BK340; clear BK353; clear BK361; clear BK366; clear HB; have HO_354000 := n0_; have HO_362001 := n1_; have HO_362002 := n2_; have HO_367000 := n3_; have BK340 := n4_; have BK353 := n5_; have BK361 := n6_; have BK366 := n7_; have HB := n8_; clear n0_ n1_ n2_ n3_ n4_ n5_ n6_ n7_ n8_; (try clear hb); (try clear hkp); (try clear hy0); have hcz104_0 : w103.cell? ⟨gb366, 0, none⟩ = some (.slice Ao36 t362.length co36) := (blk_cell BK366.out 0).trans rfl; have hfz104_0 := blk_frozen BK366.out 0) | ((with_reducible refine gate_callee (f := 21) rfl ?_); refine goesL_ (some 67) rfl rfl Try.func21 (by kernel_rfl) rfl #[.agg #[.slice Ao36 t381.length co36], .int .i64 1] rfl (by (try simp only [List.map_toArray, List.map_cons, List.map_nil]); first | done | (rw [show t381.length = t362.length from (Kd.R_reads' HO_367000.out).1.symm] <;> rfl) | rfl | (simp only [List.length_drop, List.length_take]; rfl)) ?_; (with_reducible refine (laws_heldTree.calls kj63 _ _ t381 1 t382 _ ?side1 ?side2 A97.out).mono ?_); (case side1 => repeat (first | exact (Kd.R_reads' HO_367000.out).2.2 | (with_reducible refine Kd.C_alloc ?_ _) | (with_reducible refine Kd.C_drewN ?_ _) | (with_reducible refine Kd.C_drew ?_))); (case side2 => rw [show t381.length = t362.length from (Kd.R_reads' HO_367000.out).1.symm]; exact (Kd.R_reads' HO_367000.out).2.1); rintro e w105 ⟨rfl, hb⟩; refine ⟨_, rfl, ?_⟩; have n0_ := Aside0.mk (Kd.V_below (by (with_reducible repeat (first | apply Kd.V_alloc | apply Kd.V_drewN | apply Kd.V_drew)); exact HO_354000.out) hb); have n1_ := Aside0.mk (Kd.S_below (by (with_reducible repeat (first | apply Kd.S_alloc | apply Kd.S_drewN | apply Kd.S_drew)); exact HO_362001.out) hb); have n2_ := Aside0.mk (Kd.R_below (by (with_reducible repeat (first | apply Kd.R_alloc | apply Kd.R_drewN | apply Kd.R_drew)); exact HO_362002.out) hb); have n3_ := Aside0.mk (Kd.R_below (by (with_reducible repeat (first | apply Kd.R_alloc | apply Kd.R_drewN | apply Kd.R_drew)); exact HO_367000.out) hb); have n4_ := Aside0.mk (blk_below (g := gb340) (o := .cells #[.int .i64 a0_0, .slice A0_1 l0_1.length c0_1, .slice A0_2 l0_2.length c0_2] 25 (0, 0)) (by (with_reducible repeat (first | refine blk_drewN ?_ _ | refine blk_drew ?_ | refine blk_alloc ?_ _)); exact BK340.out) hb); have n5_ := Aside0.mk (blk_below (g := gb353) (o := .cells #[.slice Ao22 t349.length co22] 38 (0, 0)) (by (with_reducible repeat (first | refine blk_drewN ?_ _ | refine blk_drew ?_ | refine blk_alloc ?_ _)); exact BK353.out) hb); have n6_ := Aside0.mk (blk_below (g := gb361) (o := .cells #[.int .i64 t354, .slice Ao32 t377.length co32, .slice Ao33 t378.length co33] 29 (0, 0)) (by (with_reducible repeat (first | refine blk_drewN ?_ _ | refine blk_drew ?_ | refine blk_alloc ?_ _)); exact BK361.out) hb); have n7_ := Aside0.mk (blk_below (g := gb366) (o := .cells #[.slice Ao36 t362.length co36] 38 (0, 0)) (by (with_reducible repeat (first | refine blk_drewN ?_ _ | refine blk_drew ?_ | refine blk_alloc ?_ _)); exact BK366.out) hb); have n8_ := Aside0.mk (below_step (by repeat (first | (with_reducible first | exact HB.out | apply below_alloc | apply pw_below_drewN | apply below_drew1 | refine below_set ?_ GE340.out | refine below_set ?_ GE353.out | refine below_set ?_ GE361.out | refine below_set ?_ GE366.out) | exact HB.out)) hb); clear HO_354000; clear HO_362001; clear HO_362002; clear HO_367000; clear BK340; clear BK353; clear BK361; clear BK366; clear HB; have HO_354000 := n0_; have HO_362001 := n1_; have HO_362002 := n2_; have HO_367000 := n3_; have BK340 := n4_; have BK353 := n5_; have BK361 := n6_; have BK366 := n7_; have HB := n8_; clear n0_ n1_ n2_ n3_ n4_ n5_ n6_ n7_ n8_; (try clear hb); (try clear hb2); (try clear hk); (try clear hi)))
                    go_ret
                    exact ⟨by first | rfl | (simp [errW_none, errW_some] <;> rfl) | (simp [*, errW_none, errW_some] <;> rfl), by repeat (first | (with_reducible first | exact HB.out | apply below_alloc | apply pw_below_drewN | apply below_drew1 | refine below_set ?_ GE340.out | refine below_set ?_ GE353.out | refine below_set ?_ GE361.out | refine below_set ?_ GE366.out) | exact HB.out)⟩
                  · rw [if_neg c98] at H
                    have c98b0 : decide (t382 < 0) = false := decide_eq_false c98
                    clear c98
                    by_cases c106 : t382 = t380
                    · rw [if_pos c106] at H
                      have c106b0 : (t382 == t380) = true := beq_iff_eq.mpr c106
                      have c106b1 : (t382 != t380) = false := bne_eq_false_iff_eq.mpr c106
                      clear c106
                      replace H := Option.bind_eq_some_iff.mp H
                      obtain ⟨⟨t383, t384, t387⟩, A1070, H⟩ := H
                      replace H : ((impl_FirstTaken.f kj63 t383 t384 t387).bind fun bt390 => ((laws_eqTree.f kj63 bt390.1 t349).bind fun t395 => (if t395 = true then (laws_FnExactFirstTaken.j2 kj63 t380 (bt390.2 != t352) t381) else (laws_FnExactFirstTaken.j2 kj63 t380 true t381)))) = some r := H
                      have A107 := Aside0.mk A1070
                      clear A1070
                      replace H := Option.bind_eq_some_iff.mp H
                      obtain ⟨⟨t390, t393⟩, A1080, H⟩ := H
                      replace H : ((laws_eqTree.f kj63 t390 t349).bind fun t395 => (if t395 = true then (laws_FnExactFirstTaken.j2 kj63 t380 (t393 != t352) t381) else (laws_FnExactFirstTaken.j2 kj63 t380 true t381))) = some r := H
                      have A108 := Aside0.mk A1080
                      clear A1080
                      have HC109 := Aside0.mk H
                      clear H
                      have hnb110 := NB366_340.out
                      have hnc110 := NB340_366.out
                      have hnb111 := NB366_353.out
                      have hnc111 := NB353_366.out
                      have hnb112 := NB366_361.out
                      have hnc112 := NB361_366.out
                      have hcz113_0 : wc.cell? ⟨gb366, 0, none⟩ = some (.slice Ao36 t362.length co36) := (blk_cell BK366.out 0).trans rfl
                      have hfz113_0 := blk_frozen BK366.out 0
                      go_upto_region 25 with (first | ((with_reducible refine gate_callee (f := 20) rfl ?_); refine goesL_ (some 64) rfl rfl Try.func20 (by kernel_rfl) rfl #[.agg #[.slice Ao36 t362.length co36], .int .i64 1] rfl (by (try simp only [List.map_toArray, List.map_cons, List.map_nil]); first | done | rfl | (simp only [List.length_drop, List.length_take]; rfl)) ?_; (with_reducible refine (laws_markTree.calls kj63 (fun k_ => some k_ = (.slice Ao36 t362.length co36 : Value).ownBlock) (.slice Ao36 t362.length co36) t362 1 t380 t381 w _ ?side1 ?side2 A96.out).mono ?_); (case side1 => repeat (first | (with_reducible first | exact HB.out | apply below_alloc | apply pw_below_drewN | apply below_drew1 | refine below_set ?_ GE340.out | refine below_set ?_ GE353.out | refine below_set ?_ GE361.out | refine below_set ?_ GE366.out) | exact HB.out)); (case side2 => exact Kd.R_tight rfl HO_367000.out); rintro e w114 ⟨rfl, hy0, hb, hkp⟩; refine ⟨_, rfl, ?_⟩; have n0_ := Aside0.mk (Kd.V_mono (ok' := fun k_ => some k_ ≠ (.slice Ao32 t377.length co32 : Value).ownBlock ∧ some k_ ≠ (.slice Ao33 t378.length co33 : Value).ownBlock ∧ some k_ ≠ (.slice Ao36 t362.length co36 : Value).ownBlock ∧ k_ ≠ gb340 ∧ k_ ≠ gb353 ∧ k_ ≠ gb361 ∧ k_ ≠ gb366 ∧ k_ ≠ lt_ N27 k_) (Kd.V_keptB (HO_354000.out) hkp (fun k_ hk_ hs_ => (hk_.2.2.1) hs_)) (fun k_ hk_ => ⟨hk_.1.1, hk_.1.2.1, hk_.1.2.2.1, hk_.1.2.2.2.1, hk_.1.2.2.2.2.1, hk_.1.2.2.2.2.2.1, hk_.1.2.2.2.2.2.2.1, hk_.1.2.2.2.2.2.2.2⟩)); have n1_ := Aside0.mk (Kd.S_mono (ok' := fun k_ => some k_ ≠ (.slice Ao33 t378.length co33 : Value).ownBlock ∧ some k_ ≠ (.slice Ao36 t362.length co36 : Value).ownBlock ∧ k_ ≠ ge_ N27 k_) (Kd.S_keptB (HO_362001.out) hkp (fun k_ hk_ hs_ => (hk_.2.1) hs_)) (fun k_ hk_ => ⟨hk_.1.1, hk_.1.2.1, hk_.1.2.2⟩)); have n2_ := Aside0.mk (Kd.R_mono (ok' := fun k_ => some k_ ≠ (.slice Ao36 t362.length co36 : Value).ownBlock) (Kd.R_keptB (HO_362002.out) hkp (fun k_ hk_ hs_ => (hk_) hs_)) (fun k_ hk_ => hk_.1)); have n3_ := Aside0.mk (Kd.R_reok rfl hy0 (fun k_ e_ => HO_367000.out.1 k_ e_)); have n4_ := Aside0.mk (blk_kept (by (with_reducible repeat (first | refine blk_drewN ?_ _ | refine blk_drew ?_ | refine blk_alloc ?_ _)); exact BK340.out) hkp (fun hs_ => (fun e_ => (Kd.R_ne HO_367000.out BK340.out (by decide)) e_) hs_)); have n5_ := Aside0.mk (blk_kept (by (with_reducible repeat (first | refine blk_drewN ?_ _ | refine blk_drew ?_ | refine blk_alloc ?_ _)); exact BK353.out) hkp (fun hs_ => (fun e_ => (Kd.R_ne HO_367000.out BK353.out (by decide)) e_) hs_)); have n6_ := Aside0.mk (blk_kept (by (with_reducible repeat (first | refine blk_drewN ?_ _ | refine blk_drew ?_ | refine blk_alloc ?_ _)); exact BK361.out) hkp (fun hs_ => (fun e_ => (Kd.R_ne HO_367000.out BK361.out (by decide)) e_) hs_)); have n7_ := Aside0.mk (blk_kept (by (with_reducible repeat (first | refine blk_drewN ?_ _ | refine blk_drew ?_ | refine blk_alloc ?_ _)); exact BK366.out) hkp (fun hs_ => (fun e_ => (Kd.R_ne HO_367000.out BK366.out (by decide)) e_) hs_)); have n8_ := Aside0.mk (hb); clear HO_354000; clear HO_362001; clear HO_362002; clear HO_367000; clear BK340; clear BK353; clear BK361; clear BK366; clear HB; have HO_354000 := n0_; have HO_362001 := n1_; have HO_362002 := n2_; have HO_367000 := n3_; have BK340 := n4_; have BK353 := n5_; have BK361 := n6_; have BK366 := n7_; have HB := n8_; clear n0_ n1_ n2_ n3_ n4_ n5_ n6_ n7_ n8_; (try clear hb); (try clear hkp); (try clear hy0); have hcz115_0 : w114.cell? ⟨gb366, 0, none⟩ = some (.slice Ao36 t362.length co36) := (blk_cell BK366.out 0).trans rfl; have hfz115_0 := blk_frozen BK366.out 0) | ((with_reducible refine gate_callee (f := 21) rfl ?_); refine goesL_ (some 67) rfl rfl Try.func21 (by kernel_rfl) rfl #[.agg #[.slice Ao36 t381.length co36], .int .i64 1] rfl (by (try simp only [List.map_toArray, List.map_cons, List.map_nil]); first | done | (rw [show t381.length = t362.length from (Kd.R_reads' HO_367000.out).1.symm] <;> rfl) | rfl | (simp only [List.length_drop, List.length_take]; rfl)) ?_; (with_reducible refine (laws_heldTree.calls kj63 _ _ t381 1 t382 _ ?side1 ?side2 A97.out).mono ?_); (case side1 => repeat (first | exact (Kd.R_reads' HO_367000.out).2.2 | (with_reducible refine Kd.C_alloc ?_ _) | (with_reducible refine Kd.C_drewN ?_ _) | (with_reducible refine Kd.C_drew ?_))); (case side2 => rw [show t381.length = t362.length from (Kd.R_reads' HO_367000.out).1.symm]; exact (Kd.R_reads' HO_367000.out).2.1); rintro e w116 ⟨rfl, hb⟩; refine ⟨_, rfl, ?_⟩; have n0_ := Aside0.mk (Kd.V_below (by (with_reducible repeat (first | apply Kd.V_alloc | apply Kd.V_drewN | apply Kd.V_drew)); exact HO_354000.out) hb); have n1_ := Aside0.mk (Kd.S_below (by (with_reducible repeat (first | apply Kd.S_alloc | apply Kd.S_drewN | apply Kd.S_drew)); exact HO_362001.out) hb); have n2_ := Aside0.mk (Kd.R_below (by (with_reducible repeat (first | apply Kd.R_alloc | apply Kd.R_drewN | apply Kd.R_drew)); exact HO_362002.out) hb); have n3_ := Aside0.mk (Kd.R_below (by (with_reducible repeat (first | apply Kd.R_alloc | apply Kd.R_drewN | apply Kd.R_drew)); exact HO_367000.out) hb); have n4_ := Aside0.mk (blk_below (g := gb340) (o := .cells #[.int .i64 a0_0, .slice A0_1 l0_1.length c0_1, .slice A0_2 l0_2.length c0_2] 25 (0, 0)) (by (with_reducible repeat (first | refine blk_drewN ?_ _ | refine blk_drew ?_ | refine blk_alloc ?_ _)); exact BK340.out) hb); have n5_ := Aside0.mk (blk_below (g := gb353) (o := .cells #[.slice Ao22 t349.length co22] 38 (0, 0)) (by (with_reducible repeat (first | refine blk_drewN ?_ _ | refine blk_drew ?_ | refine blk_alloc ?_ _)); exact BK353.out) hb); have n6_ := Aside0.mk (blk_below (g := gb361) (o := .cells #[.int .i64 t354, .slice Ao32 t377.length co32, .slice Ao33 t378.length co33] 29 (0, 0)) (by (with_reducible repeat (first | refine blk_drewN ?_ _ | refine blk_drew ?_ | refine blk_alloc ?_ _)); exact BK361.out) hb); have n7_ := Aside0.mk (blk_below (g := gb366) (o := .cells #[.slice Ao36 t362.length co36] 38 (0, 0)) (by (with_reducible repeat (first | refine blk_drewN ?_ _ | refine blk_drew ?_ | refine blk_alloc ?_ _)); exact BK366.out) hb); have n8_ := Aside0.mk (below_step (by repeat (first | (with_reducible first | exact HB.out | apply below_alloc | apply pw_below_drewN | apply below_drew1 | refine below_set ?_ GE340.out | refine below_set ?_ GE353.out | refine below_set ?_ GE361.out | refine below_set ?_ GE366.out) | exact HB.out)) hb); clear HO_354000; clear HO_362001; clear HO_362002; clear HO_367000; clear BK340; clear BK353; clear BK361; clear BK366; clear HB; have HO_354000 := n0_; have HO_362001 := n1_; have HO_362002 := n2_; have HO_367000 := n3_; have BK340 := n4_; have BK353 := n5_; have BK361 := n6_; have BK366 := n7_; have HB := n8_; clear n0_ n1_ n2_ n3_ n4_ n5_ n6_ n7_ n8_; (try clear hb); (try clear hb2); (try clear hk); (try clear hi); have hnb117 := NB340_353.out; have hnc117 := NB353_340.out; have hnb118 := NB340_361.out; have hnc118 := NB361_340.out; have hcz119_0 : w116.cell? ⟨gb340, 0, none⟩ = some (.int .i64 a0_0) := (blk_cell BK340.out 0).trans rfl; have hcz119_1 : w116.cell? ⟨gb340, 1, none⟩ = some (.slice A0_1 l0_1.length c0_1) := (blk_cell BK340.out 1).trans rfl; have hcz119_2 : w116.cell? ⟨gb340, 2, none⟩ = some (.slice A0_2 l0_2.length c0_2) := (blk_cell BK340.out 2).trans rfl; have hfz119_0 := blk_frozen BK340.out 0; have hfz119_1 := blk_frozen BK340.out 1; have hfz119_2 := blk_frozen BK340.out 2) | ((with_reducible refine gate_callee (f := 10) rfl ?_); refine goesL_ (some 75) rfl rfl Try.func10 (by kernel_rfl) rfl #[.agg #[.int .i64 a0_0, .slice A0_1 l0_1.length c0_1, .slice A0_2 l0_2.length c0_2]] rfl (by (try simp only [List.map_toArray, List.map_cons, List.map_nil]); first | done | rfl | (simp only [List.length_drop, List.length_take]; rfl)) ?_; (with_reducible refine (laws_toAutomaton.calls kj63 a0_0 _ _ l0_1 _ _ l0_2 t383 t384 t387 _ ?side1 ?side2 ?side3 ?side4 A107.out).mono ?_); (case side1 => repeat (first | exact (Kd.C_below HR0_1.out HB.out) | (with_reducible refine Kd.C_alloc ?_ _) | (with_reducible refine Kd.C_drewN ?_ _) | (with_reducible refine Kd.C_drew ?_))); (case side2 => exact HC0_1.out); (case side3 => repeat (first | exact (Kd.C_below HR0_2.out HB.out) | (with_reducible refine Kd.C_alloc ?_ _) | (with_reducible refine Kd.C_drewN ?_ _) | (with_reducible refine Kd.C_drew ?_))); (case side4 => exact HC0_2.out); rintro e w120 ⟨v385, v388, rfl, ho0, ho1, hb⟩; refine ⟨_, rfl, ?_⟩; obtain ⟨N121, hN121⟩ := nat_of_below hb; have n0_ := Aside0.mk (Kd.V_mono (Kd.V_told (Kd.V_told (Kd.V_old ((V_ltN (by (with_reducible repeat (first | apply Kd.V_alloc | apply Kd.V_drewN | apply Kd.V_drew)); exact HO_354000.out) hN121)) hb) (Kd.S_base ho0)) (Kd.R_base ho1)) (fun _ h_ => h_.1)); have n1_ := Aside0.mk (Kd.S_mono (Kd.S_told (Kd.S_told (Kd.S_old ((S_ltN (by (with_reducible repeat (first | apply Kd.S_alloc | apply Kd.S_drewN | apply Kd.S_drew)); exact HO_362001.out) hN121)) hb) (Kd.S_base ho0)) (Kd.R_base ho1)) (fun _ h_ => h_.1)); have n2_ := Aside0.mk (Kd.R_elder' (by (with_reducible repeat (first | apply Kd.R_alloc | apply Kd.R_drewN | apply Kd.R_drew)); exact HO_362002.out) (Kd.R_base ho1) hb); have n3_ := Aside0.mk (Kd.R_elder' (by (with_reducible repeat (first | apply Kd.R_alloc | apply Kd.R_drewN | apply Kd.R_drew)); exact HO_367000.out) (Kd.R_base ho1) hb); have n4_ := Aside0.mk (Kd.S_lower (Kd.S_new' (Kd.S_new' (Kd.S_new' (S_geN hN121 ho0) (Kd.S_lt (by (with_reducible repeat (first | apply Kd.S_alloc | apply Kd.S_drewN | apply Kd.S_drew)); exact HO_362001.out))) (Kd.R_lt (by (with_reducible repeat (first | apply Kd.R_alloc | apply Kd.R_drewN | apply Kd.R_drew)); exact HO_362002.out))) (Kd.R_lt (by (with_reducible repeat (first | apply Kd.R_alloc | apply Kd.R_drewN | apply Kd.R_drew)); exact HO_367000.out))) (below_size (by repeat (first | (with_reducible first | exact HB.out | apply below_alloc | apply pw_below_drewN | apply below_drew1 | refine below_set ?_ GE340.out | refine below_set ?_ GE353.out | refine below_set ?_ GE361.out | refine below_set ?_ GE366.out) | exact HB.out)))); have n5_ := Aside0.mk (Kd.R_lower (Kd.R_new' (Kd.R_new' ho1 (Kd.R_lt (by (with_reducible repeat (first | apply Kd.R_alloc | apply Kd.R_drewN | apply Kd.R_drew)); exact HO_362002.out))) (Kd.R_lt (by (with_reducible repeat (first | apply Kd.R_alloc | apply Kd.R_drewN | apply Kd.R_drew)); exact HO_367000.out))) (below_size (by repeat (first | (with_reducible first | exact HB.out | apply below_alloc | apply pw_below_drewN | apply below_drew1 | refine below_set ?_ GE340.out | refine below_set ?_ GE353.out | refine below_set ?_ GE361.out | refine below_set ?_ GE366.out) | exact HB.out)))); have n6_ := Aside0.mk (blk_below (g := gb340) (o := .cells #[.int .i64 a0_0, .slice A0_1 l0_1.length c0_1, .slice A0_2 l0_2.length c0_2] 25 (0, 0)) (by (with_reducible repeat (first | refine blk_drewN ?_ _ | refine blk_drew ?_ | refine blk_alloc ?_ _)); exact BK340.out) hb); have n7_ := Aside0.mk (blk_below (g := gb353) (o := .cells #[.slice Ao22 t349.length co22] 38 (0, 0)) (by (with_reducible repeat (first | refine blk_drewN ?_ _ | refine blk_drew ?_ | refine blk_alloc ?_ _)); exact BK353.out) hb); have n8_ := Aside0.mk (blk_below (g := gb361) (o := .cells #[.int .i64 t354, .slice Ao32 t377.length co32, .slice Ao33 t378.length co33] 29 (0, 0)) (by (with_reducible repeat (first | refine blk_drewN ?_ _ | refine blk_drew ?_ | refine blk_alloc ?_ _)); exact BK361.out) hb); have n9_ := Aside0.mk (blk_below (g := gb366) (o := .cells #[.slice Ao36 t362.length co36] 38 (0, 0)) (by (with_reducible repeat (first | refine blk_drewN ?_ _ | refine blk_drew ?_ | refine blk_alloc ?_ _)); exact BK366.out) hb); have n10_ := Aside0.mk (below_step (by repeat (first | (with_reducible first | exact HB.out | apply below_alloc | apply pw_below_drewN | apply below_drew1 | refine below_set ?_ GE340.out | refine below_set ?_ GE353.out | refine below_set ?_ GE361.out | refine below_set ?_ GE366.out) | exact HB.out)) hb); clear HO_354000; clear HO_362001; clear HO_362002; clear HO_367000; clear BK340; clear BK353; clear BK361; clear BK366; clear HB; have HO_354000 := n0_; have HO_362001 := n1_; have HO_362002 := n2_; have HO_367000 := n3_; have HO386 := n4_; have HO389 := n5_; have BK340 := n6_; have BK353 := n7_; have BK361 := n8_; have BK366 := n9_; have HB := n10_; clear n0_ n1_ n2_ n3_ n4_ n5_ n6_ n7_ n8_ n9_ n10_; (try clear hb); (try clear hb2); (try clear hk); (try clear hi); (try clear ho0); (try clear ho1); obtain ⟨Ao122, co122, eo122⟩ := Kd.S_slice HO386.out; subst eo122; obtain ⟨Ao123, co123, eo123⟩ := Kd.R_slice HO389.out; subst eo123) | ((with_reducible refine gate_callee (f := 18) rfl ?_); refine goesL_ (some 76) rfl rfl Try.func18 (by kernel_rfl) rfl #[.agg #[.int .i64 t383, .slice Ao122 t384.length co122, .slice Ao123 t387.length co123]] rfl (by (try simp only [List.map_toArray, List.map_cons, List.map_nil]); first | done | rfl | (simp only [List.length_drop, List.length_take]; rfl)) ?_; (with_reducible refine (impl_FirstTaken.calls kj63 t383 _ _ t384 _ _ t387 t390 t393 _ ?side1 ?side2 ?side3 ?side4 A108.out).mono ?_); (case side1 => repeat (first | exact (Kd.S_reads' HO386.out).2.2 | (with_reducible refine Kd.C_alloc ?_ _) | (with_reducible refine Kd.C_drewN ?_ _) | (with_reducible refine Kd.C_drew ?_))); (case side2 => exact (Kd.S_reads' HO386.out).2.1); (case side3 => repeat (first | exact (Kd.R_reads' HO389.out).2.2 | (with_reducible refine Kd.C_alloc ?_ _) | (with_reducible refine Kd.C_drewN ?_ _) | (with_reducible refine Kd.C_drew ?_))); (case side4 => exact (Kd.R_reads' HO389.out).2.1); rintro e w124 ⟨v391, rfl, ho0, hb⟩; refine ⟨_, rfl, ?_⟩; have n0_ := Aside0.mk (Kd.V_elder' (by (with_reducible repeat (first | apply Kd.V_alloc | apply Kd.V_drewN | apply Kd.V_drew)); exact HO_354000.out) (Kd.R_base ho0) hb); have n1_ := Aside0.mk (Kd.S_elder' (by (with_reducible repeat (first | apply Kd.S_alloc | apply Kd.S_drewN | apply Kd.S_drew)); exact HO_362001.out) (Kd.R_base ho0) hb); have n2_ := Aside0.mk (Kd.R_elder' (by (with_reducible repeat (first | apply Kd.R_alloc | apply Kd.R_drewN | apply Kd.R_drew)); exact HO_362002.out) (Kd.R_base ho0) hb); have n3_ := Aside0.mk (Kd.R_elder' (by (with_reducible repeat (first | apply Kd.R_alloc | apply Kd.R_drewN | apply Kd.R_drew)); exact HO_367000.out) (Kd.R_base ho0) hb); have n4_ := Aside0.mk (Kd.S_elder' (by (with_reducible repeat (first | apply Kd.S_alloc | apply Kd.S_drewN | apply Kd.S_drew)); exact HO386.out) (Kd.R_base ho0) hb); have n5_ := Aside0.mk (Kd.R_elder' (by (with_reducible repeat (first | apply Kd.R_alloc | apply Kd.R_drewN | apply Kd.R_drew)); exact HO389.out) (Kd.R_base ho0) hb); have n6_ := Aside0.mk (Kd.R_lower (Kd.R_new' (Kd.R_new' (Kd.R_new' ho0 (Kd.R_lt (by (with_reducible repeat (first | apply Kd.R_alloc | apply Kd.R_drewN | apply Kd.R_drew)); exact HO_362002.out))) (Kd.R_lt (by (with_reducible repeat (first | apply Kd.R_alloc | apply Kd.R_drewN | apply Kd.R_drew)); exact HO_367000.out))) (Kd.R_lt (by (with_reducible repeat (first | apply Kd.R_alloc | apply Kd.R_drewN | apply Kd.R_drew)); exact HO389.out))) (below_size (by repeat (first | (with_reducible first | exact HB.out | apply below_alloc | apply pw_below_drewN | apply below_drew1 | refine below_set ?_ GE340.out | refine below_set ?_ GE353.out | refine below_set ?_ GE361.out | refine below_set ?_ GE366.out) | exact HB.out)))); have n7_ := Aside0.mk (blk_below (g := gb340) (o := .cells #[.int .i64 a0_0, .slice A0_1 l0_1.length c0_1, .slice A0_2 l0_2.length c0_2] 25 (0, 0)) (by (with_reducible repeat (first | refine blk_drewN ?_ _ | refine blk_drew ?_ | refine blk_alloc ?_ _)); exact BK340.out) hb); have n8_ := Aside0.mk (blk_below (g := gb353) (o := .cells #[.slice Ao22 t349.length co22] 38 (0, 0)) (by (with_reducible repeat (first | refine blk_drewN ?_ _ | refine blk_drew ?_ | refine blk_alloc ?_ _)); exact BK353.out) hb); have n9_ := Aside0.mk (blk_below (g := gb361) (o := .cells #[.int .i64 t354, .slice Ao32 t377.length co32, .slice Ao33 t378.length co33] 29 (0, 0)) (by (with_reducible repeat (first | refine blk_drewN ?_ _ | refine blk_drew ?_ | refine blk_alloc ?_ _)); exact BK361.out) hb); have n10_ := Aside0.mk (blk_below (g := gb366) (o := .cells #[.slice Ao36 t362.length co36] 38 (0, 0)) (by (with_reducible repeat (first | refine blk_drewN ?_ _ | refine blk_drew ?_ | refine blk_alloc ?_ _)); exact BK366.out) hb); have n11_ := Aside0.mk (below_step (by repeat (first | (with_reducible first | exact HB.out | apply below_alloc | apply pw_below_drewN | apply below_drew1 | refine below_set ?_ GE340.out | refine below_set ?_ GE353.out | refine below_set ?_ GE361.out | refine below_set ?_ GE366.out) | exact HB.out)) hb); clear HO_354000; clear HO_362001; clear HO_362002; clear HO_367000; clear HO386; clear HO389; clear BK340; clear BK353; clear BK361; clear BK366; clear HB; have HO_354000 := n0_; have HO_362001 := n1_; have HO_362002 := n2_; have HO_367000 := n3_; have HO386 := n4_; have HO389 := n5_; have HO392 := n6_; have BK340 := n7_; have BK353 := n8_; have BK361 := n9_; have BK366 := n10_; have HB := n11_; clear n0_ n1_ n2_ n3_ n4_ n5_ n6_ n7_ n8_ n9_ n10_ n11_; (try clear hb); (try clear hb2); (try clear hk); (try clear hi); (try clear ho0)) | ((with_reducible refine gate_dst (N := 12) rfl ?_); refine box_event ?hg (N := 12) ?hd (cs := #[.slice none 0 0]) (t := 38) ?hr ?_; (case hd => rfl); (case hg => rfl); (case hr => first | (go_simp; done) | (go_simp; rfl)); intro gb394 hg w125 hbox hb; have n0_ := Aside0.mk (Kd.V_below (Kd.V_elderB (by (with_reducible repeat (first | apply Kd.V_alloc | apply Kd.V_drewN | apply Kd.V_drew)); exact HO_354000.out) gb394 (Nat.le_of_eq hg.symm)) hb); have n1_ := Aside0.mk (Kd.S_below (by (with_reducible repeat (first | apply Kd.S_alloc | apply Kd.S_drewN | apply Kd.S_drew)); exact HO_362001.out) hb); have n2_ := Aside0.mk (Kd.R_below (by (with_reducible repeat (first | apply Kd.R_alloc | apply Kd.R_drewN | apply Kd.R_drew)); exact HO_362002.out) hb); have n3_ := Aside0.mk (Kd.R_below (by (with_reducible repeat (first | apply Kd.R_alloc | apply Kd.R_drewN | apply Kd.R_drew)); exact HO_367000.out) hb); have n4_ := Aside0.mk (Kd.S_below (by (with_reducible repeat (first | apply Kd.S_alloc | apply Kd.S_drewN | apply Kd.S_drew)); exact HO386.out) hb); have n5_ := Aside0.mk (Kd.R_below (by (with_reducible repeat (first | apply Kd.R_alloc | apply Kd.R_drewN | apply Kd.R_drew)); exact HO389.out) hb); have n6_ := Aside0.mk (Kd.R_below (by (with_reducible repeat (first | apply Kd.R_alloc | apply Kd.R_drewN | apply Kd.R_drew)); exact HO392.out) hb); have n7_ := Aside0.mk (blk_below (g := gb340) (o := .cells #[.int .i64 a0_0, .slice A0_1 l0_1.length c0_1, .slice A0_2 l0_2.length c0_2] 25 (0, 0)) (by (with_reducible repeat (first | refine blk_drewN ?_ _ | refine blk_drew ?_ | refine blk_alloc ?_ _)); exact BK340.out) hb); have n8_ := Aside0.mk (blk_below (g := gb353) (o := .cells #[.slice Ao22 t349.length co22] 38 (0, 0)) (by (with_reducible repeat (first | refine blk_drewN ?_ _ | refine blk_drew ?_ | refine blk_alloc ?_ _)); exact BK353.out) hb); have n9_ := Aside0.mk (blk_below (g := gb361) (o := .cells #[.int .i64 t354, .slice Ao32 t377.length co32, .slice Ao33 t378.length co33] 29 (0, 0)) (by (with_reducible repeat (first | refine blk_drewN ?_ _ | refine blk_drew ?_ | refine blk_alloc ?_ _)); exact BK361.out) hb); have n10_ := Aside0.mk (blk_below (g := gb366) (o := .cells #[.slice Ao36 t362.length co36] 38 (0, 0)) (by (with_reducible repeat (first | refine blk_drewN ?_ _ | refine blk_drew ?_ | refine blk_alloc ?_ _)); exact BK366.out) hb); have n11_ := Aside0.mk (below_step (by repeat (first | (with_reducible first | exact HB.out | apply below_alloc | apply pw_below_drewN | apply below_drew1 | refine below_set ?_ GE340.out | refine below_set ?_ GE353.out | refine below_set ?_ GE361.out | refine below_set ?_ GE366.out) | exact HB.out)) hb); have n12_ := Aside0.mk (hbox); have n13_ := Aside0.mk ((by rw [hg]; exact (below_size (by repeat (first | (with_reducible first | exact HB.out | apply below_alloc | apply pw_below_drewN | apply below_drew1 | refine below_set ?_ GE340.out | refine below_set ?_ GE353.out | refine below_set ?_ GE361.out | refine below_set ?_ GE366.out) | exact HB.out))) : w.heap.size ≤ gb394)); have n14_ := Aside0.mk ((by rw [hg]; exact (below_size (by repeat (first | (with_reducible first | exact HB.out | apply below_alloc | apply pw_below_drewN | apply below_drew1 | refine below_set ?_ GE340.out | refine below_set ?_ GE353.out | refine below_set ?_ GE361.out | refine below_set ?_ GE366.out) | exact HB.out))) : w.heap.size ≤ gb394)); have n15_ := Aside0.mk ((by rw [hg]; exact Nat.ne_of_lt (blk_lt (g := gb340) (o := .cells #[.int .i64 a0_0, .slice A0_1 l0_1.length c0_1, .slice A0_2 l0_2.length c0_2] 25 (0, 0)) (by (with_reducible repeat (first | refine blk_drewN ?_ _ | refine blk_drew ?_ | refine blk_alloc ?_ _)); exact BK340.out)) : gb340 ≠ gb394)); have n16_ := Aside0.mk ((by rw [hg]; exact Nat.ne_of_gt (blk_lt (g := gb340) (o := .cells #[.int .i64 a0_0, .slice A0_1 l0_1.length c0_1, .slice A0_2 l0_2.length c0_2] 25 (0, 0)) (by (with_reducible repeat (first | refine blk_drewN ?_ _ | refine blk_drew ?_ | refine blk_alloc ?_ _)); exact BK340.out)) : gb394 ≠ gb340)); have n17_ := Aside0.mk ((by rw [hg]; exact Nat.ne_of_lt (blk_lt (g := gb353) (o := .cells #[.slice Ao22 t349.length co22] 38 (0, 0)) (by (with_reducible repeat (first | refine blk_drewN ?_ _ | refine blk_drew ?_ | refine blk_alloc ?_ _)); exact BK353.out)) : gb353 ≠ gb394)); have n18_ := Aside0.mk ((by rw [hg]; exact Nat.ne_of_gt (blk_lt (g := gb353) (o := .cells #[.slice Ao22 t349.length co22] 38 (0, 0)) (by (with_reducible repeat (first | refine blk_drewN ?_ _ | refine blk_drew ?_ | refine blk_alloc ?_ _)); exact BK353.out)) : gb394 ≠ gb353)); have n19_ := Aside0.mk ((by rw [hg]; exact Nat.ne_of_lt (blk_lt (g := gb361) (o := .cells #[.int .i64 t354, .slice Ao32 t377.length co32, .slice Ao33 t378.length co33] 29 (0, 0)) (by (with_reducible repeat (first | refine blk_drewN ?_ _ | refine blk_drew ?_ | refine blk_alloc ?_ _)); exact BK361.out)) : gb361 ≠ gb394)); have n20_ := Aside0.mk ((by rw [hg]; exact Nat.ne_of_gt (blk_lt (g := gb361) (o := .cells #[.int .i64 t354, .slice Ao32 t377.length co32, .slice Ao33 t378.length co33] 29 (0, 0)) (by (with_reducible repeat (first | refine blk_drewN ?_ _ | refine blk_drew ?_ | refine blk_alloc ?_ _)); exact BK361.out)) : gb394 ≠ gb361)); have n21_ := Aside0.mk ((by rw [hg]; exact Nat.ne_of_lt (blk_lt (g := gb366) (o := .cells #[.slice Ao36 t362.length co36] 38 (0, 0)) (by (with_reducible repeat (first | refine blk_drewN ?_ _ | refine blk_drew ?_ | refine blk_alloc ?_ _)); exact BK366.out)) : gb366 ≠ gb394)); have n22_ := Aside0.mk ((by rw [hg]; exact Nat.ne_of_gt (blk_lt (g := gb366) (o := .cells #[.slice Ao36 t362.length co36] 38 (0, 0)) (by (with_reducible repeat (first | refine blk_drewN ?_ _ | refine blk_drew ?_ | refine blk_alloc ?_ _)); exact BK366.out)) : gb394 ≠ gb366)); clear HO_354000; clear HO_362001; clear HO_362002; clear HO_367000; clear HO386; clear HO389; clear HO392; clear BK340; clear BK353; clear BK361; clear BK366; clear HB; have HO_354000 := n0_; have HO_362001 := n1_; have HO_362002 := n2_; have HO_367000 := n3_; have HO386 := n4_; have HO389 := n5_; have HO392 := n6_; have BK340 := n7_; have BK353 := n8_; have BK361 := n9_; have BK366 := n10_; have HB := n11_; have BK394 := n12_; have GW394 := n13_; have GE394 := n14_; have NB340_394 := n15_; have NB394_340 := n16_; have NB353_394 := n17_; have NB394_353 := n18_; have NB361_394 := n19_; have NB394_361 := n20_; have NB366_394 := n21_; have NB394_366 := n22_; clear n0_ n1_ n2_ n3_ n4_ n5_ n6_ n7_ n8_ n9_ n10_ n11_ n12_ n13_ n14_ n15_ n16_ n17_ n18_ n19_ n20_ n21_ n22_; clear hb hbox hg; obtain ⟨Ao126, co126, eo126⟩ := Kd.R_slice HO392.out; subst eo126; have hnb127 := NB394_340.out; have hnc127 := NB340_394.out; have hnb128 := NB394_353.out; have hnc128 := NB353_394.out; have hnb129 := NB394_361.out; have hnc129 := NB361_394.out; have hnb130 := NB394_366.out; have hnc130 := NB366_394.out; have hcz131_0 : w125.cell? ⟨gb394, 0, none⟩ = some (.slice none 0 0) := (blk_cell BK394.out 0).trans rfl; have hfz131_0 := blk_frozen BK394.out 0))
                      (try simp only [Act.put, List.setIfInBounds_toArray, List.set_cons_zero, List.set_cons_succ])
                      go_cut [87] (fun v87 wc => ∃ (kq : Nat) (x87_108 : Bool), v87 = .bool x87_108 ∧ Aside0 (laws_FnExactFirstTaken.j2 kq t380 x87_108 t381 = some r) ∧ Aside0 (kq ≤ kj63) ∧ Aside0 (Kd.V (Kd.int .i64) 2 wc w.heap.size (fun k_ => some k_ ≠ ((.slice Ao32 t377.length co32) : Value).ownBlock ∧ some k_ ≠ ((.slice Ao33 t378.length co33) : Value).ownBlock ∧ some k_ ≠ ((.slice Ao36 t362.length co36) : Value).ownBlock ∧ some k_ ≠ ((.slice Ao126 t390.length co126) : Value).ownBlock ∧ k_ ≠ gb340 ∧ k_ ≠ gb353 ∧ k_ ≠ gb361 ∧ k_ ≠ gb366 ∧ k_ ≠ gb394 ∧ k_ ≠ lt_ N27 k_ ∧ k_ ≠ lt_ N121 k_) (.slice Ao22 t349.length co22) t349) ∧ Aside0 (Kd.S (Kd.slice 2 (Kd.int .i64)) 23 wc w.heap.size (fun k_ => some k_ ≠ ((.slice Ao33 t378.length co33) : Value).ownBlock ∧ some k_ ≠ ((.slice Ao36 t362.length co36) : Value).ownBlock ∧ some k_ ≠ ((.slice Ao126 t390.length co126) : Value).ownBlock ∧ k_ ≠ ge_ N27 k_ ∧ k_ ≠ lt_ N121 k_) (.slice Ao32 t377.length co32) t377) ∧ Aside0 (Kd.R (Kd.int .i64) 2 wc w.heap.size (fun k_ => some k_ ≠ ((.slice Ao36 t362.length co36) : Value).ownBlock ∧ some k_ ≠ ((.slice Ao126 t390.length co126) : Value).ownBlock) (.slice Ao33 t378.length co33) t378) ∧ Aside0 (Kd.R (Kd.int .i64) 2 wc w.heap.size (fun k_ => some k_ ≠ ((.slice Ao33 t378.length co33) : Value).ownBlock ∧ some k_ ≠ ((.slice Ao126 t390.length co126) : Value).ownBlock) (.slice Ao36 t362.length co36) t381) ∧ Aside0 (Kd.R (Kd.int .i64) 2 wc w.heap.size (fun k_ => some k_ ≠ ((.slice Ao33 t378.length co33) : Value).ownBlock ∧ some k_ ≠ ((.slice Ao36 t362.length co36) : Value).ownBlock) (.slice Ao126 t390.length co126) t390) ∧ Aside0 (wc.heap[gb340]? = some (.cells #[.int .i64 a0_0, (.slice A0_1 l0_1.length c0_1), (.slice A0_2 l0_2.length c0_2)] 25 (0, 0))) ∧ Aside0 (wc.heap[gb353]? = some (.cells #[(.slice Ao22 t349.length co22)] 38 (0, 0))) ∧ Aside0 (wc.heap[gb361]? = some (.cells #[.int .i64 t354, (.slice Ao32 t377.length co32), (.slice Ao33 t378.length co33)] 29 (0, 0))) ∧ Aside0 (wc.heap[gb366]? = some (.cells #[(.slice Ao36 t362.length co36)] 38 (0, 0))) ∧ Aside0 (wc.heap[gb394]? = some (.cells #[(.slice Ao126 t390.length co126)] 38 (0, 0))) ∧ Aside0 (Below w.heap.size w wc))
                      case first =>
                        have H := HC109.out
                        clear HC109
                        replace H := Option.bind_eq_some_iff.mp H
                        obtain ⟨t395, A1320, H⟩ := H
                        replace H : (if t395 = true then (laws_FnExactFirstTaken.j2 kj63 t380 (t393 != t352) t381) else (laws_FnExactFirstTaken.j2 kj63 t380 true t381)) = some r := H
                        have A132 := Aside0.mk A1320
                        clear A1320
                        by_cases c133 : t395 = true
                        · subst c133
                          have H1 : (laws_FnExactFirstTaken.j2 kj63 t380 (t393 != t352) t381) = some r := by rw [if_pos rfl] at H; exact H
                          clear H
                          have H := H1
                          clear H1
                          have H' := Aside0.mk H
                          clear H
                          have hnb134 := NB394_340.out
                          have hnc134 := NB340_394.out
                          have hnb135 := NB394_353.out
                          have hnc135 := NB353_394.out
                          have hnb136 := NB394_361.out
                          have hnc136 := NB361_394.out
                          have hnb137 := NB394_366.out
                          have hnc137 := NB366_394.out
                          have hcz138_0 : w125.cell? ⟨gb394, 0, none⟩ = some (.slice none 0 0) := (blk_cell BK394.out 0).trans rfl
                          have hfz138_0 := blk_frozen BK394.out 0
                          have hnb139 := NB353_340.out
                          have hnc139 := NB340_353.out
                          have hnb140 := NB353_361.out
                          have hnc140 := NB361_353.out
                          have hnb141 := NB353_366.out
                          have hnc141 := NB366_353.out
                          have hcz142_0 : w125.cell? ⟨gb353, 0, none⟩ = some (.slice Ao22 t349.length co22) := (blk_cell BK353.out 0).trans rfl
                          have hfz142_0 := blk_frozen BK353.out 0
                          go_wp2_with (first | ((with_reducible refine gate_callee (f := 19) rfl ?_); refine goesL_ (some 81) rfl rfl Try.func19 (by kernel_rfl) rfl #[.agg #[.slice Ao126 t390.length co126], .agg #[.slice Ao22 t349.length co22]] rfl (by (try simp only [List.map_toArray, List.map_cons, List.map_nil]); first | done | rfl | (simp only [List.length_drop, List.length_take]; rfl)) ?_; (with_reducible refine (laws_eqTree.calls kj63 _ _ t390 _ _ t349 true _ ?side1 ?side2 ?side3 ?side4 A132.out).mono ?_); (case side1 => refine (Kd.R_reads' (e := 2) (base := w.heap.size) (ok := fun k_ => (((True ∧ some k_ ≠ (.slice Ao33 t378.length co33 : Value).ownBlock) ∧ some k_ ≠ (.slice Ao36 t362.length co36 : Value).ownBlock) ∧ some k_ ≠ (.slice Ao123 t387.length co123 : Value).ownBlock)) (n := t390.length) (c := co126) ?_).2.2; exact (by (with_reducible repeat (first | apply Kd.R_alloc | apply Kd.R_drewN | apply Kd.R_drew)); exact (Kd.R_mono (Kd.R_far (p := ⟨gb394, 0, none⟩) (Kd.R_types HO392.out BK394.out (by decide)) (fun _ hk => hk.2) (.slice Ao126 t390.length co126)) (fun _ h_ => h_.1)))); (case side2 => exact (Kd.R_reads' HO392.out).2.1); (case side3 => refine (Kd.V_reads' (e := 2) (base := w.heap.size) (ok := fun k_ => ((((((some k_ ≠ (.slice Ao32 t377.length co32 : Value).ownBlock ∧ (some k_ ≠ (.slice Ao33 t378.length co33 : Value).ownBlock ∧ (some k_ ≠ (.slice Ao36 t362.length co36 : Value).ownBlock ∧ (k_ ≠ gb340 ∧ (k_ ≠ gb353 ∧ (k_ ≠ gb361 ∧ (k_ ≠ gb366 ∧ k_ ≠ lt_ N27 k_))))))) ∧ k_ ≠ lt_ N121 k_) ∧ some k_ ≠ (.slice Ao122 t384.length co122 : Value).ownBlock) ∧ some k_ ≠ (.slice Ao123 t387.length co123 : Value).ownBlock) ∧ some k_ ≠ (.slice Ao126 t390.length co126 : Value).ownBlock) ∧ k_ ≠ gb394)) (n := t349.length) (c := co22) ?_).2.2; exact (by (with_reducible repeat (first | apply Kd.V_alloc | apply Kd.V_drewN | apply Kd.V_drew)); exact (Kd.V_mono (Kd.V_far (p := ⟨gb394, 0, none⟩) (Kd.V_mono HO_354000.out (fun k_ hk => (⟨hk, hk.2⟩ : _ ∧ k_ ≠ gb394))) (fun _ hk => hk.2) (.slice Ao126 t390.length co126)) (fun _ h_ => h_.1)))); (case side4 => exact (Kd.V_reads' HO_354000.out).2.1); rintro e w143 ⟨rfl, hb⟩; refine ⟨_, rfl, ?_⟩; have n0_ := Aside0.mk (Kd.V_below (by (with_reducible repeat (first | apply Kd.V_alloc | apply Kd.V_drewN | apply Kd.V_drew)); exact (Kd.V_mono (Kd.V_far (p := ⟨gb394, 0, none⟩) (Kd.V_mono HO_354000.out (fun k_ hk => (⟨hk, hk.2⟩ : _ ∧ k_ ≠ gb394))) (fun _ hk => hk.2) (.slice Ao126 t390.length co126)) (fun _ h_ => h_.1))) hb); have n1_ := Aside0.mk (Kd.S_below (by (with_reducible repeat (first | apply Kd.S_alloc | apply Kd.S_drewN | apply Kd.S_drew)); exact (Kd.S_mono (Kd.S_far (p := ⟨gb394, 0, none⟩) (Kd.S_types HO_362001.out BK394.out (by decide)) (fun _ hk => hk.2) (.slice Ao126 t390.length co126)) (fun _ h_ => h_.1))) hb); have n2_ := Aside0.mk (Kd.R_below (by (with_reducible repeat (first | apply Kd.R_alloc | apply Kd.R_drewN | apply Kd.R_drew)); exact (Kd.R_mono (Kd.R_far (p := ⟨gb394, 0, none⟩) (Kd.R_types HO_362002.out BK394.out (by decide)) (fun _ hk => hk.2) (.slice Ao126 t390.length co126)) (fun _ h_ => h_.1))) hb); have n3_ := Aside0.mk (Kd.R_below (by (with_reducible repeat (first | apply Kd.R_alloc | apply Kd.R_drewN | apply Kd.R_drew)); exact (Kd.R_mono (Kd.R_far (p := ⟨gb394, 0, none⟩) (Kd.R_types HO_367000.out BK394.out (by decide)) (fun _ hk => hk.2) (.slice Ao126 t390.length co126)) (fun _ h_ => h_.1))) hb); have n4_ := Aside0.mk (Kd.S_below (by (with_reducible repeat (first | apply Kd.S_alloc | apply Kd.S_drewN | apply Kd.S_drew)); exact (Kd.S_mono (Kd.S_far (p := ⟨gb394, 0, none⟩) (Kd.S_types HO386.out BK394.out (by decide)) (fun _ hk => hk.2) (.slice Ao126 t390.length co126)) (fun _ h_ => h_.1))) hb); have n5_ := Aside0.mk (Kd.R_below (by (with_reducible repeat (first | apply Kd.R_alloc | apply Kd.R_drewN | apply Kd.R_drew)); exact (Kd.R_mono (Kd.R_far (p := ⟨gb394, 0, none⟩) (Kd.R_types HO389.out BK394.out (by decide)) (fun _ hk => hk.2) (.slice Ao126 t390.length co126)) (fun _ h_ => h_.1))) hb); have n6_ := Aside0.mk (Kd.R_below (by (with_reducible repeat (first | apply Kd.R_alloc | apply Kd.R_drewN | apply Kd.R_drew)); exact (Kd.R_mono (Kd.R_far (p := ⟨gb394, 0, none⟩) (Kd.R_types HO392.out BK394.out (by decide)) (fun _ hk => hk.2) (.slice Ao126 t390.length co126)) (fun _ h_ => h_.1))) hb); have n7_ := Aside0.mk (blk_below (g := gb340) (o := .cells #[.int .i64 a0_0, .slice A0_1 l0_1.length c0_1, .slice A0_2 l0_2.length c0_2] 25 (0, 0)) (by (with_reducible repeat (first | refine blk_drewN ?_ _ | refine blk_drew ?_ | refine blk_alloc ?_ _)); refine blk_far ?_ NB340_394.out _; (with_reducible repeat (first | refine blk_drewN ?_ _ | refine blk_drew ?_ | refine blk_alloc ?_ _)); exact BK340.out) hb); have n8_ := Aside0.mk (blk_below (g := gb353) (o := .cells #[.slice Ao22 t349.length co22] 38 (0, 0)) (by (with_reducible repeat (first | refine blk_drewN ?_ _ | refine blk_drew ?_ | refine blk_alloc ?_ _)); refine blk_far ?_ NB353_394.out _; (with_reducible repeat (first | refine blk_drewN ?_ _ | refine blk_drew ?_ | refine blk_alloc ?_ _)); exact BK353.out) hb); have n9_ := Aside0.mk (blk_below (g := gb361) (o := .cells #[.int .i64 t354, .slice Ao32 t377.length co32, .slice Ao33 t378.length co33] 29 (0, 0)) (by (with_reducible repeat (first | refine blk_drewN ?_ _ | refine blk_drew ?_ | refine blk_alloc ?_ _)); refine blk_far ?_ NB361_394.out _; (with_reducible repeat (first | refine blk_drewN ?_ _ | refine blk_drew ?_ | refine blk_alloc ?_ _)); exact BK361.out) hb); have n10_ := Aside0.mk (blk_below (g := gb366) (o := .cells #[.slice Ao36 t362.length co36] 38 (0, 0)) (by (with_reducible repeat (first | refine blk_drewN ?_ _ | refine blk_drew ?_ | refine blk_alloc ?_ _)); refine blk_far ?_ NB366_394.out _; (with_reducible repeat (first | refine blk_drewN ?_ _ | refine blk_drew ?_ | refine blk_alloc ?_ _)); exact BK366.out) hb); have n11_ := Aside0.mk (blk_below (g := gb394) (o := .cells #[.slice Ao126 t390.length co126] 38 (0, 0)) (by (with_reducible repeat (first | refine blk_drewN ?_ _ | refine blk_drew ?_ | refine blk_alloc ?_ _)); refine blk_put (cs := #[.slice none 0 0]) ?_ 0 _ rfl; (with_reducible repeat (first | refine blk_drewN ?_ _ | refine blk_drew ?_ | refine blk_alloc ?_ _)); exact BK394.out) hb); have n12_ := Aside0.mk (below_step (by repeat (first | (with_reducible first | exact HB.out | apply below_alloc | apply pw_below_drewN | apply below_drew1 | refine below_set ?_ GE340.out | refine below_set ?_ GE353.out | refine below_set ?_ GE361.out | refine below_set ?_ GE366.out | refine below_set ?_ GE394.out) | exact HB.out)) hb); clear HO_354000; clear HO_362001; clear HO_362002; clear HO_367000; clear HO386; clear HO389; clear HO392; clear BK340; clear BK353; clear BK361; clear BK366; clear BK394; clear HB; have HO_354000 := n0_; have HO_362001 := n1_; have HO_362002 := n2_; have HO_367000 := n3_; have HO386 := n4_; have HO389 := n5_; have HO392 := n6_; have BK340 := n7_; have BK353 := n8_; have BK361 := n9_; have BK366 := n10_; have BK394 := n11_; have HB := n12_; clear n0_ n1_ n2_ n3_ n4_ n5_ n6_ n7_ n8_ n9_ n10_ n11_ n12_; (try clear hb); (try clear hb2); (try clear hk); (try clear hi)))
                          go_meet
                          case rel => exact ⟨_, ((t393 != t352)), (by first | rfl | (simp; done) | (simp [*]; done)), H', ⟨by have := HJ10.out; have := HJ63.out; first | omega | exact Nat.le_refl _⟩, ⟨by (try simp only [hl362001_63]); (try simp only [hl362002_63]); (with_reducible repeat (first | apply Kd.V_alloc | apply Kd.V_drewN | apply Kd.V_drew)); exact Kd.V_mono HO_354000.out (fun _ hk => ⟨hk.1.1.1.1.1.1, ⟨hk.1.1.1.1.1.2.1, ⟨hk.1.1.1.1.1.2.2.1, ⟨hk.1.2, ⟨hk.1.1.1.1.1.2.2.2.1, ⟨hk.1.1.1.1.1.2.2.2.2.1, ⟨hk.1.1.1.1.1.2.2.2.2.2.1, ⟨hk.1.1.1.1.1.2.2.2.2.2.2.1, ⟨hk.2, ⟨hk.1.1.1.1.1.2.2.2.2.2.2.2, hk.1.1.1.1.2⟩⟩⟩⟩⟩⟩⟩⟩⟩⟩)⟩, ⟨by (try simp only [hl362001_63]); (try simp only [hl362002_63]); (with_reducible repeat (first | apply Kd.S_alloc | apply Kd.S_drewN | apply Kd.S_drew)); exact Kd.S_mono HO_362001.out (fun _ hk => ⟨hk.1.1.1.1.1, ⟨hk.1.1.1.1.2.1, ⟨hk.2, ⟨hk.1.1.1.1.2.2, hk.1.1.1.2⟩⟩⟩⟩)⟩, ⟨by (try simp only [hl362001_63]); (try simp only [hl362002_63]); (with_reducible repeat (first | apply Kd.R_alloc | apply Kd.R_drewN | apply Kd.R_drew)); exact Kd.R_mono HO_362002.out (fun _ hk => ⟨hk.1.1, hk.2⟩)⟩, ⟨by (try simp only [hl362001_63]); (try simp only [hl362002_63]); (with_reducible repeat (first | apply Kd.R_alloc | apply Kd.R_drewN | apply Kd.R_drew)); exact Kd.R_mono HO_367000.out (fun _ hk => ⟨hk.1.1, hk.2⟩)⟩, ⟨by (try simp only [hl362001_63]); (try simp only [hl362002_63]); (with_reducible repeat (first | apply Kd.R_alloc | apply Kd.R_drewN | apply Kd.R_drew)); exact Kd.R_mono HO392.out (fun _ hk => ⟨hk.1.1.2, hk.1.2⟩)⟩, ⟨by (try simp only [hl362001_63]); (try simp only [hl362002_63]); (with_reducible repeat (first | refine blk_drewN ?_ _ | refine blk_drew ?_ | refine blk_alloc ?_ _)); exact BK340.out⟩, ⟨by (try simp only [hl362001_63]); (try simp only [hl362002_63]); (with_reducible repeat (first | refine blk_drewN ?_ _ | refine blk_drew ?_ | refine blk_alloc ?_ _)); exact BK353.out⟩, ⟨by (try simp only [hl362001_63]); (try simp only [hl362002_63]); (with_reducible repeat (first | refine blk_drewN ?_ _ | refine blk_drew ?_ | refine blk_alloc ?_ _)); exact BK361.out⟩, ⟨by (try simp only [hl362001_63]); (try simp only [hl362002_63]); (with_reducible repeat (first | refine blk_drewN ?_ _ | refine blk_drew ?_ | refine blk_alloc ?_ _)); exact BK366.out⟩, ⟨by (try simp only [hl362001_63]); (try simp only [hl362002_63]); (with_reducible repeat (first | refine blk_drewN ?_ _ | refine blk_drew ?_ | refine blk_alloc ?_ _)); exact BK394.out⟩, ⟨by repeat (first | (with_reducible first | exact HB.out | apply below_alloc | apply pw_below_drewN | apply below_drew1 | refine below_set ?_ GE340.out | refine below_set ?_ GE353.out | refine below_set ?_ GE361.out | refine below_set ?_ GE366.out | refine below_set ?_ GE394.out) | exact HB.out)⟩⟩
                        · replace c133 := Bool.eq_false_iff.mpr c133
                          subst c133
                          have H1 : (laws_FnExactFirstTaken.j2 kj63 t380 true t381) = some r := by rw [if_neg (show ¬ (false = true) by decide)] at H; exact H
                          clear H
                          have H := H1
                          clear H1
                          have H' := Aside0.mk H
                          clear H
                          have hnb144 := NB394_340.out
                          have hnc144 := NB340_394.out
                          have hnb145 := NB394_353.out
                          have hnc145 := NB353_394.out
                          have hnb146 := NB394_361.out
                          have hnc146 := NB361_394.out
                          have hnb147 := NB394_366.out
                          have hnc147 := NB366_394.out
                          have hcz148_0 : w125.cell? ⟨gb394, 0, none⟩ = some (.slice none 0 0) := (blk_cell BK394.out 0).trans rfl
                          have hfz148_0 := blk_frozen BK394.out 0
                          have hnb149 := NB353_340.out
                          have hnc149 := NB340_353.out
                          have hnb150 := NB353_361.out
                          have hnc150 := NB361_353.out
                          have hnb151 := NB353_366.out
                          have hnc151 := NB366_353.out
                          have hcz152_0 : w125.cell? ⟨gb353, 0, none⟩ = some (.slice Ao22 t349.length co22) := (blk_cell BK353.out 0).trans rfl
                          have hfz152_0 := blk_frozen BK353.out 0
                          go_wp2_with (first | ((with_reducible refine gate_callee (f := 19) rfl ?_); refine goesL_ (some 81) rfl rfl Try.func19 (by kernel_rfl) rfl #[.agg #[.slice Ao126 t390.length co126], .agg #[.slice Ao22 t349.length co22]] rfl (by (try simp only [List.map_toArray, List.map_cons, List.map_nil]); first | done | rfl | (simp only [List.length_drop, List.length_take]; rfl)) ?_; (with_reducible refine (laws_eqTree.calls kj63 _ _ t390 _ _ t349 false _ ?side1 ?side2 ?side3 ?side4 A132.out).mono ?_); (case side1 => refine (Kd.R_reads' (e := 2) (base := w.heap.size) (ok := fun k_ => (((True ∧ some k_ ≠ (.slice Ao33 t378.length co33 : Value).ownBlock) ∧ some k_ ≠ (.slice Ao36 t362.length co36 : Value).ownBlock) ∧ some k_ ≠ (.slice Ao123 t387.length co123 : Value).ownBlock)) (n := t390.length) (c := co126) ?_).2.2; exact (by (with_reducible repeat (first | apply Kd.R_alloc | apply Kd.R_drewN | apply Kd.R_drew)); exact (Kd.R_mono (Kd.R_far (p := ⟨gb394, 0, none⟩) (Kd.R_types HO392.out BK394.out (by decide)) (fun _ hk => hk.2) (.slice Ao126 t390.length co126)) (fun _ h_ => h_.1)))); (case side2 => exact (Kd.R_reads' HO392.out).2.1); (case side3 => refine (Kd.V_reads' (e := 2) (base := w.heap.size) (ok := fun k_ => ((((((some k_ ≠ (.slice Ao32 t377.length co32 : Value).ownBlock ∧ (some k_ ≠ (.slice Ao33 t378.length co33 : Value).ownBlock ∧ (some k_ ≠ (.slice Ao36 t362.length co36 : Value).ownBlock ∧ (k_ ≠ gb340 ∧ (k_ ≠ gb353 ∧ (k_ ≠ gb361 ∧ (k_ ≠ gb366 ∧ k_ ≠ lt_ N27 k_))))))) ∧ k_ ≠ lt_ N121 k_) ∧ some k_ ≠ (.slice Ao122 t384.length co122 : Value).ownBlock) ∧ some k_ ≠ (.slice Ao123 t387.length co123 : Value).ownBlock) ∧ some k_ ≠ (.slice Ao126 t390.length co126 : Value).ownBlock) ∧ k_ ≠ gb394)) (n := t349.length) (c := co22) ?_).2.2; exact (by (with_reducible repeat (first | apply Kd.V_alloc | apply Kd.V_drewN | apply Kd.V_drew)); exact (Kd.V_mono (Kd.V_far (p := ⟨gb394, 0, none⟩) (Kd.V_mono HO_354000.out (fun k_ hk => (⟨hk, hk.2⟩ : _ ∧ k_ ≠ gb394))) (fun _ hk => hk.2) (.slice Ao126 t390.length co126)) (fun _ h_ => h_.1)))); (case side4 => exact (Kd.V_reads' HO_354000.out).2.1); rintro e w153 ⟨rfl, hb⟩; refine ⟨_, rfl, ?_⟩; have n0_ := Aside0.mk (Kd.V_below (by (with_reducible repeat (first | apply Kd.V_alloc | apply Kd.V_drewN | apply Kd.V_drew)); exact (Kd.V_mono (Kd.V_far (p := ⟨gb394, 0, none⟩) (Kd.V_mono HO_354000.out (fun k_ hk => (⟨hk, hk.2⟩ : _ ∧ k_ ≠ gb394))) (fun _ hk => hk.2) (.slice Ao126 t390.length co126)) (fun _ h_ => h_.1))) hb); have n1_ := Aside0.mk (Kd.S_below (by (with_reducible repeat (first | apply Kd.S_alloc | apply Kd.S_drewN | apply Kd.S_drew)); exact (Kd.S_mono (Kd.S_far (p := ⟨gb394, 0, none⟩) (Kd.S_types HO_362001.out BK394.out (by decide)) (fun _ hk => hk.2) (.slice Ao126 t390.length co126)) (fun _ h_ => h_.1))) hb); have n2_ := Aside0.mk (Kd.R_below (by (with_reducible repeat (first | apply Kd.R_alloc | apply Kd.R_drewN | apply Kd.R_drew)); exact (Kd.R_mono (Kd.R_far (p := ⟨gb394, 0, none⟩) (Kd.R_types HO_362002.out BK394.out (by decide)) (fun _ hk => hk.2) (.slice Ao126 t390.length co126)) (fun _ h_ => h_.1))) hb); have n3_ := Aside0.mk (Kd.R_below (by (with_reducible repeat (first | apply Kd.R_alloc | apply Kd.R_drewN | apply Kd.R_drew)); exact (Kd.R_mono (Kd.R_far (p := ⟨gb394, 0, none⟩) (Kd.R_types HO_367000.out BK394.out (by decide)) (fun _ hk => hk.2) (.slice Ao126 t390.length co126)) (fun _ h_ => h_.1))) hb); have n4_ := Aside0.mk (Kd.S_below (by (with_reducible repeat (first | apply Kd.S_alloc | apply Kd.S_drewN | apply Kd.S_drew)); exact (Kd.S_mono (Kd.S_far (p := ⟨gb394, 0, none⟩) (Kd.S_types HO386.out BK394.out (by decide)) (fun _ hk => hk.2) (.slice Ao126 t390.length co126)) (fun _ h_ => h_.1))) hb); have n5_ := Aside0.mk (Kd.R_below (by (with_reducible repeat (first | apply Kd.R_alloc | apply Kd.R_drewN | apply Kd.R_drew)); exact (Kd.R_mono (Kd.R_far (p := ⟨gb394, 0, none⟩) (Kd.R_types HO389.out BK394.out (by decide)) (fun _ hk => hk.2) (.slice Ao126 t390.length co126)) (fun _ h_ => h_.1))) hb); have n6_ := Aside0.mk (Kd.R_below (by (with_reducible repeat (first | apply Kd.R_alloc | apply Kd.R_drewN | apply Kd.R_drew)); exact (Kd.R_mono (Kd.R_far (p := ⟨gb394, 0, none⟩) (Kd.R_types HO392.out BK394.out (by decide)) (fun _ hk => hk.2) (.slice Ao126 t390.length co126)) (fun _ h_ => h_.1))) hb); have n7_ := Aside0.mk (blk_below (g := gb340) (o := .cells #[.int .i64 a0_0, .slice A0_1 l0_1.length c0_1, .slice A0_2 l0_2.length c0_2] 25 (0, 0)) (by (with_reducible repeat (first | refine blk_drewN ?_ _ | refine blk_drew ?_ | refine blk_alloc ?_ _)); refine blk_far ?_ NB340_394.out _; (with_reducible repeat (first | refine blk_drewN ?_ _ | refine blk_drew ?_ | refine blk_alloc ?_ _)); exact BK340.out) hb); have n8_ := Aside0.mk (blk_below (g := gb353) (o := .cells #[.slice Ao22 t349.length co22] 38 (0, 0)) (by (with_reducible repeat (first | refine blk_drewN ?_ _ | refine blk_drew ?_ | refine blk_alloc ?_ _)); refine blk_far ?_ NB353_394.out _; (with_reducible repeat (first | refine blk_drewN ?_ _ | refine blk_drew ?_ | refine blk_alloc ?_ _)); exact BK353.out) hb); have n9_ := Aside0.mk (blk_below (g := gb361) (o := .cells #[.int .i64 t354, .slice Ao32 t377.length co32, .slice Ao33 t378.length co33] 29 (0, 0)) (by (with_reducible repeat (first | refine blk_drewN ?_ _ | refine blk_drew ?_ | refine blk_alloc ?_ _)); refine blk_far ?_ NB361_394.out _; (with_reducible repeat (first | refine blk_drewN ?_ _ | refine blk_drew ?_ | refine blk_alloc ?_ _)); exact BK361.out) hb); have n10_ := Aside0.mk (blk_below (g := gb366) (o := .cells #[.slice Ao36 t362.length co36] 38 (0, 0)) (by (with_reducible repeat (first | refine blk_drewN ?_ _ | refine blk_drew ?_ | refine blk_alloc ?_ _)); refine blk_far ?_ NB366_394.out _; (with_reducible repeat (first | refine blk_drewN ?_ _ | refine blk_drew ?_ | refine blk_alloc ?_ _)); exact BK366.out) hb); have n11_ := Aside0.mk (blk_below (g := gb394) (o := .cells #[.slice Ao126 t390.length co126] 38 (0, 0)) (by (with_reducible repeat (first | refine blk_drewN ?_ _ | refine blk_drew ?_ | refine blk_alloc ?_ _)); refine blk_put (cs := #[.slice none 0 0]) ?_ 0 _ rfl; (with_reducible repeat (first | refine blk_drewN ?_ _ | refine blk_drew ?_ | refine blk_alloc ?_ _)); exact BK394.out) hb); have n12_ := Aside0.mk (below_step (by repeat (first | (with_reducible first | exact HB.out | apply below_alloc | apply pw_below_drewN | apply below_drew1 | refine below_set ?_ GE340.out | refine below_set ?_ GE353.out | refine below_set ?_ GE361.out | refine below_set ?_ GE366.out | refine below_set ?_ GE394.out) | exact HB.out)) hb); clear HO_354000; clear HO_362001; clear HO_362002; clear HO_367000; clear HO386; clear HO389; clear HO392; clear BK340; clear BK353; clear BK361; clear BK366; clear BK394; clear HB; have HO_354000 := n0_; have HO_362001 := n1_; have HO_362002 := n2_; have HO_367000 := n3_; have HO386 := n4_; have HO389 := n5_; have HO392 := n6_; have BK340 := n7_; have BK353 := n8_; have BK361 := n9_; have BK366 := n10_; have BK394 := n11_; have HB := n12_; clear n0_ n1_ n2_ n3_ n4_ n5_ n6_ n7_ n8_ n9_ n10_ n11_ n12_; (try clear hb); (try clear hb2); (try clear hk); (try clear hi)))
                          go_meet
                          case rel => exact ⟨_, (true), (by first | rfl | (simp; done) | (simp [*]; done)), H', ⟨by have := HJ10.out; have := HJ63.out; first | omega | exact Nat.le_refl _⟩, ⟨by (try simp only [hl362001_63]); (try simp only [hl362002_63]); (with_reducible repeat (first | apply Kd.V_alloc | apply Kd.V_drewN | apply Kd.V_drew)); exact Kd.V_mono HO_354000.out (fun _ hk => ⟨hk.1.1.1.1.1.1, ⟨hk.1.1.1.1.1.2.1, ⟨hk.1.1.1.1.1.2.2.1, ⟨hk.1.2, ⟨hk.1.1.1.1.1.2.2.2.1, ⟨hk.1.1.1.1.1.2.2.2.2.1, ⟨hk.1.1.1.1.1.2.2.2.2.2.1, ⟨hk.1.1.1.1.1.2.2.2.2.2.2.1, ⟨hk.2, ⟨hk.1.1.1.1.1.2.2.2.2.2.2.2, hk.1.1.1.1.2⟩⟩⟩⟩⟩⟩⟩⟩⟩⟩)⟩, ⟨by (try simp only [hl362001_63]); (try simp only [hl362002_63]); (with_reducible repeat (first | apply Kd.S_alloc | apply Kd.S_drewN | apply Kd.S_drew)); exact Kd.S_mono HO_362001.out (fun _ hk => ⟨hk.1.1.1.1.1, ⟨hk.1.1.1.1.2.1, ⟨hk.2, ⟨hk.1.1.1.1.2.2, hk.1.1.1.2⟩⟩⟩⟩)⟩, ⟨by (try simp only [hl362001_63]); (try simp only [hl362002_63]); (with_reducible repeat (first | apply Kd.R_alloc | apply Kd.R_drewN | apply Kd.R_drew)); exact Kd.R_mono HO_362002.out (fun _ hk => ⟨hk.1.1, hk.2⟩)⟩, ⟨by (try simp only [hl362001_63]); (try simp only [hl362002_63]); (with_reducible repeat (first | apply Kd.R_alloc | apply Kd.R_drewN | apply Kd.R_drew)); exact Kd.R_mono HO_367000.out (fun _ hk => ⟨hk.1.1, hk.2⟩)⟩, ⟨by (try simp only [hl362001_63]); (try simp only [hl362002_63]); (with_reducible repeat (first | apply Kd.R_alloc | apply Kd.R_drewN | apply Kd.R_drew)); exact Kd.R_mono HO392.out (fun _ hk => ⟨hk.1.1.2, hk.1.2⟩)⟩, ⟨by (try simp only [hl362001_63]); (try simp only [hl362002_63]); (with_reducible repeat (first | refine blk_drewN ?_ _ | refine blk_drew ?_ | refine blk_alloc ?_ _)); exact BK340.out⟩, ⟨by (try simp only [hl362001_63]); (try simp only [hl362002_63]); (with_reducible repeat (first | refine blk_drewN ?_ _ | refine blk_drew ?_ | refine blk_alloc ?_ _)); exact BK353.out⟩, ⟨by (try simp only [hl362001_63]); (try simp only [hl362002_63]); (with_reducible repeat (first | refine blk_drewN ?_ _ | refine blk_drew ?_ | refine blk_alloc ?_ _)); exact BK361.out⟩, ⟨by (try simp only [hl362001_63]); (try simp only [hl362002_63]); (with_reducible repeat (first | refine blk_drewN ?_ _ | refine blk_drew ?_ | refine blk_alloc ?_ _)); exact BK366.out⟩, ⟨by (try simp only [hl362001_63]); (try simp only [hl362002_63]); (with_reducible repeat (first | refine blk_drewN ?_ _ | refine blk_drew ?_ | refine blk_alloc ?_ _)); exact BK394.out⟩, ⟨by repeat (first | (with_reducible first | exact HB.out | apply below_alloc | apply pw_below_drewN | apply below_drew1 | refine below_set ?_ GE340.out | refine below_set ?_ GE353.out | refine below_set ?_ GE361.out | refine below_set ?_ GE366.out | refine below_set ?_ GE394.out) | exact HB.out)⟩⟩
                      case rest =>
                        clear HC109
                        try clear c1
                        try clear c2
                        try clear p2
                        try clear c3
                        try clear c3b0
                        try clear c4
                        try clear c5
                        try clear c6
                        try clear c7
                        try clear c8
                        try clear c9
                        try clear c10
                        try clear c11
                        try clear c12
                        try clear c13
                        try clear c14
                        try clear c15
                        try clear c17
                        try clear c18
                        try clear c19
                        try clear c20
                        try clear c21
                        try clear c23
                        try clear c29
                        try clear c30
                        try clear c37
                        try clear c38
                        try clear c39
                        try clear c42
                        try clear c43
                        try clear c44
                        try clear c45
                        try clear c47
                        try clear c48
                        try clear c51
                        try clear c52
                        try clear c53
                        try clear c55
                        try clear c56
                        try clear c59
                        try clear c62
                        try clear c70
                        try clear c71
                        try clear c72
                        try clear c76
                        try clear c76b0
                        try clear c78
                        try clear c79
                        try clear c80
                        try clear c81
                        try clear c83
                        try clear c84
                        try clear c87
                        try clear c88
                        try clear c89
                        try clear c91
                        try clear c92
                        try clear c95
                        try clear c98
                        try clear c98b0
                        try clear c99
                        try clear c100
                        try clear c101
                        try clear c106
                        try clear c106b0
                        try clear c106b1
                        try clear c110
                        try clear c111
                        try clear c112
                        try clear c117
                        try clear c118
                        try clear c127
                        try clear c128
                        try clear c129
                        try clear c130
                        try clear c133
                        try clear c134
                        try clear c135
                        try clear c136
                        try clear c137
                        try clear c139
                        try clear c140
                        try clear c141
                        try clear c144
                        try clear c145
                        try clear c146
                        try clear c147
                        try clear c149
                        try clear c150
                        try clear c151
                        try clear hcz102_0
                        try clear hcz104_0
                        try clear hcz113_0
                        try clear hcz115_0
                        try clear hcz119_0
                        try clear hcz119_1
                        try clear hcz119_2
                        try clear hcz131_0
                        try clear hcz138_0
                        try clear hcz13_0
                        try clear hcz13_1
                        try clear hcz13_2
                        try clear hcz142_0
                        try clear hcz148_0
                        try clear hcz152_0
                        try clear hcz15_0
                        try clear hcz15_1
                        try clear hcz15_2
                        try clear hcz24_0
                        try clear hcz25_0
                        try clear hcz25_1
                        try clear hcz25_2
                        try clear hcz31_0
                        try clear hcz31_1
                        try clear hcz31_2
                        try clear hcz40_0
                        try clear hcz46_0
                        try clear hcz49_0
                        try clear hcz54_0
                        try clear hcz57_0
                        try clear hcz5_0
                        try clear hcz5_1
                        try clear hcz5_2
                        try clear hcz73_0
                        try clear hcz73_1
                        try clear hcz73_2
                        try clear hcz82_0
                        try clear hcz85_0
                        try clear hcz90_0
                        try clear hcz93_0
                        try clear hfz102_0
                        try clear hfz104_0
                        try clear hfz113_0
                        try clear hfz115_0
                        try clear hfz119_0
                        try clear hfz119_1
                        try clear hfz119_2
                        try clear hfz131_0
                        try clear hfz138_0
                        try clear hfz13_0
                        try clear hfz13_1
                        try clear hfz13_2
                        try clear hfz142_0
                        try clear hfz148_0
                        try clear hfz152_0
                        try clear hfz15_0
                        try clear hfz15_1
                        try clear hfz15_2
                        try clear hfz24_0
                        try clear hfz25_0
                        try clear hfz25_1
                        try clear hfz25_2
                        try clear hfz31_0
                        try clear hfz31_1
                        try clear hfz31_2
                        try clear hfz40_0
                        try clear hfz46_0
                        try clear hfz49_0
                        try clear hfz54_0
                        try clear hfz57_0
                        try clear hfz5_0
                        try clear hfz5_1
                        try clear hfz5_2
                        try clear hfz73_0
                        try clear hfz73_1
                        try clear hfz73_2
                        try clear hfz82_0
                        try clear hfz85_0
                        try clear hfz90_0
                        try clear hfz93_0
                        try clear p2
                        obtain ⟨kq, x87_108, rfl, HA, HJ108, HO_354000, HO_362001, HO_362002, HO_367000, HO_395000, BK340, BK353, BK361, BK366, BK394, HB⟩ := hcut
                        have hl367000_108 := (Kd.R_reads' HO_367000.out).1
                        rw [hl367000_108] at HO_367000
                        (try simp only [hl367000_108])
                        (try simp only [hl367000_108] at BK340)
                        (try simp only [hl367000_108] at BK353)
                        (try simp only [hl367000_108] at BK361)
                        (try simp only [hl367000_108] at BK366)
                        (try simp only [hl367000_108] at BK394)
                        (try simp only [hl367000_108] at HO_354000)
                        (try simp only [hl367000_108] at HO_362001)
                        (try simp only [hl367000_108] at HO_362002)
                        (try simp only [hl367000_108] at HO_395000)
                        cases kq with
                        | zero => exact absurd HA.out (by simp [laws_FnExactFirstTaken.j2])
                        | succ kj108 =>
                          have H := HA.out
                          clear HA
                          simp only [laws_FnExactFirstTaken.j2] at H
                          by_cases c154 : x87_108 = true
                          · subst c154
                            have H1 : (some false) = some r := by rw [if_pos rfl] at H; exact H
                            clear H
                            have H := H1
                            clear H1
                            obtain rfl := Option.some.inj H
                            go_wp2
                            go_ret
                            exact ⟨by first | rfl | (simp [errW_none, errW_some] <;> rfl) | (simp [*, errW_none, errW_some] <;> rfl), by repeat (first | (with_reducible first | exact HB.out | apply below_alloc | apply pw_below_drewN | apply below_drew1 | refine below_set ?_ GE340.out | refine below_set ?_ GE353.out | refine below_set ?_ GE361.out | refine below_set ?_ GE366.out | refine below_set ?_ GE394.out) | exact HB.out)⟩
                          · replace c154 := Bool.eq_false_iff.mpr c154
                            subst c154
                            have H1 : ((laws_heldTree.f kj108 t381 1).bind fun t396 => (if t396 < 0 then (some false) else (if t396 = t380 then (some true) else (some false)))) = some r := by rw [if_neg (show ¬ (false = true) by decide)] at H; exact H
                            clear H
                            have H := H1
                            clear H1
                            replace H := Option.bind_eq_some_iff.mp H
                            obtain ⟨t396, A1550, H⟩ := H
                            replace H : (if t396 < 0 then (some false) else (if t396 = t380 then (some true) else (some false))) = some r := H
                            have A155 := Aside0.mk A1550
                            clear A1550
                            by_cases c156 : t396 < 0
                            · rw [if_pos c156] at H
                              have c156b0 : decide (t396 < 0) = true := decide_eq_true c156
                              clear c156
                              obtain rfl := Option.some.inj H
                              have hnb157 := NB366_340.out
                              have hnc157 := NB340_366.out
                              have hnb158 := NB366_353.out
                              have hnc158 := NB353_366.out
                              have hnb159 := NB366_361.out
                              have hnc159 := NB361_366.out
                              have hnb160 := NB366_394.out
                              have hnc160 := NB394_366.out
                              have hcz161_0 : wc.cell? ⟨gb366, 0, none⟩ = some (.slice Ao36 t381.length co36) := (blk_cell BK366.out 0).trans rfl
                              have hfz161_0 := blk_frozen BK366.out 0
                              go_wp2_with (first | ((with_reducible refine gate_callee (f := 21) rfl ?_); refine goesL_ (some 90) rfl rfl Try.func21 (by kernel_rfl) rfl #[.agg #[.slice Ao36 t381.length co36], .int .i64 1] rfl (by (try simp only [List.map_toArray, List.map_cons, List.map_nil]); first | done | rfl | (simp only [List.length_drop, List.length_take]; rfl)) ?_; (with_reducible refine (laws_heldTree.calls kj108 _ _ t381 1 t396 _ ?side1 ?side2 A155.out).mono ?_); (case side1 => repeat (first | exact (Kd.R_reads' HO_367000.out).2.2 | (with_reducible refine Kd.C_alloc ?_ _) | (with_reducible refine Kd.C_drewN ?_ _) | (with_reducible refine Kd.C_drew ?_))); (case side2 => exact (Kd.R_reads' HO_367000.out).2.1); rintro e w162 ⟨rfl, hb⟩; refine ⟨_, rfl, ?_⟩; have n0_ := Aside0.mk (Kd.V_below (by (with_reducible repeat (first | apply Kd.V_alloc | apply Kd.V_drewN | apply Kd.V_drew)); exact HO_354000.out) hb); have n1_ := Aside0.mk (Kd.S_below (by (with_reducible repeat (first | apply Kd.S_alloc | apply Kd.S_drewN | apply Kd.S_drew)); exact HO_362001.out) hb); have n2_ := Aside0.mk (Kd.R_below (by (with_reducible repeat (first | apply Kd.R_alloc | apply Kd.R_drewN | apply Kd.R_drew)); exact HO_362002.out) hb); have n3_ := Aside0.mk (Kd.R_below (by (with_reducible repeat (first | apply Kd.R_alloc | apply Kd.R_drewN | apply Kd.R_drew)); exact HO_367000.out) hb); have n4_ := Aside0.mk (Kd.R_below (by (with_reducible repeat (first | apply Kd.R_alloc | apply Kd.R_drewN | apply Kd.R_drew)); exact HO_395000.out) hb); have n5_ := Aside0.mk (blk_below (g := gb340) (o := .cells #[.int .i64 a0_0, .slice A0_1 l0_1.length c0_1, .slice A0_2 l0_2.length c0_2] 25 (0, 0)) (by (with_reducible repeat (first | refine blk_drewN ?_ _ | refine blk_drew ?_ | refine blk_alloc ?_ _)); exact BK340.out) hb); have n6_ := Aside0.mk (blk_below (g := gb353) (o := .cells #[.slice Ao22 t349.length co22] 38 (0, 0)) (by (with_reducible repeat (first | refine blk_drewN ?_ _ | refine blk_drew ?_ | refine blk_alloc ?_ _)); exact BK353.out) hb); have n7_ := Aside0.mk (blk_below (g := gb361) (o := .cells #[.int .i64 t354, .slice Ao32 t377.length co32, .slice Ao33 t378.length co33] 29 (0, 0)) (by (with_reducible repeat (first | refine blk_drewN ?_ _ | refine blk_drew ?_ | refine blk_alloc ?_ _)); exact BK361.out) hb); have n8_ := Aside0.mk (blk_below (g := gb366) (o := .cells #[.slice Ao36 t381.length co36] 38 (0, 0)) (by (with_reducible repeat (first | refine blk_drewN ?_ _ | refine blk_drew ?_ | refine blk_alloc ?_ _)); exact BK366.out) hb); have n9_ := Aside0.mk (blk_below (g := gb394) (o := .cells #[.slice Ao126 t390.length co126] 38 (0, 0)) (by (with_reducible repeat (first | refine blk_drewN ?_ _ | refine blk_drew ?_ | refine blk_alloc ?_ _)); exact BK394.out) hb); have n10_ := Aside0.mk (below_step (by repeat (first | (with_reducible first | exact HB.out | apply below_alloc | apply pw_below_drewN | apply below_drew1 | refine below_set ?_ GE340.out | refine below_set ?_ GE353.out | refine below_set ?_ GE361.out | refine below_set ?_ GE366.out | refine below_set ?_ GE394.out) | exact HB.out)) hb); clear HO_354000; clear HO_362001; clear HO_362002; clear HO_367000; clear HO_395000; clear BK340; clear BK353; clear BK361; clear BK366; clear BK394; clear HB; have HO_354000 := n0_; have HO_362001 := n1_; have HO_362002 := n2_; have HO_367000 := n3_; have HO_395000 := n4_; have BK340 := n5_; have BK353 := n6_; have BK361 := n7_; have BK366 := n8_; have BK394 := n9_; have HB := n10_; clear n0_ n1_ n2_ n3_ n4_ n5_ n6_ n7_ n8_ n9_ n10_; (try clear hb); (try clear hb2); (try clear hk); (try clear hi)))
                              go_ret
                              exact ⟨by first | rfl | (simp [errW_none, errW_some] <;> rfl) | (simp [*, errW_none, errW_some] <;> rfl), by repeat (first | (with_reducible first | exact HB.out | apply below_alloc | apply pw_below_drewN | apply below_drew1 | refine below_set ?_ GE340.out | refine below_set ?_ GE353.out | refine below_set ?_ GE361.out | refine below_set ?_ GE366.out | refine below_set ?_ GE394.out) | exact HB.out)⟩
                            · rw [if_neg c156] at H
                              have c156b0 : decide (t396 < 0) = false := decide_eq_false c156
                              clear c156
                              by_cases c163 : t396 = t380
                              · rw [if_pos c163] at H
                                have c163b0 : (t396 == t380) = true := beq_iff_eq.mpr c163
                                have c163b1 : (t396 != t380) = false := bne_eq_false_iff_eq.mpr c163
                                clear c163
                                obtain rfl := Option.some.inj H
                                have hnb164 := NB366_340.out
                                have hnc164 := NB340_366.out
                                have hnb165 := NB366_353.out
                                have hnc165 := NB353_366.out
                                have hnb166 := NB366_361.out
                                have hnc166 := NB361_366.out
                                have hnb167 := NB366_394.out
                                have hnc167 := NB394_366.out
                                have hcz168_0 : wc.cell? ⟨gb366, 0, none⟩ = some (.slice Ao36 t381.length co36) := (blk_cell BK366.out 0).trans rfl
                                have hfz168_0 := blk_frozen BK366.out 0
                                go_wp2_with (first | ((with_reducible refine gate_callee (f := 21) rfl ?_); refine goesL_ (some 90) rfl rfl Try.func21 (by kernel_rfl) rfl #[.agg #[.slice Ao36 t381.length co36], .int .i64 1] rfl (by (try simp only [List.map_toArray, List.map_cons, List.map_nil]); first | done | rfl | (simp only [List.length_drop, List.length_take]; rfl)) ?_; (with_reducible refine (laws_heldTree.calls kj108 _ _ t381 1 t396 _ ?side1 ?side2 A155.out).mono ?_); (case side1 => repeat (first | exact (Kd.R_reads' HO_367000.out).2.2 | (with_reducible refine Kd.C_alloc ?_ _) | (with_reducible refine Kd.C_drewN ?_ _) | (with_reducible refine Kd.C_drew ?_))); (case side2 => exact (Kd.R_reads' HO_367000.out).2.1); rintro e w169 ⟨rfl, hb⟩; refine ⟨_, rfl, ?_⟩; have n0_ := Aside0.mk (Kd.V_below (by (with_reducible repeat (first | apply Kd.V_alloc | apply Kd.V_drewN | apply Kd.V_drew)); exact HO_354000.out) hb); have n1_ := Aside0.mk (Kd.S_below (by (with_reducible repeat (first | apply Kd.S_alloc | apply Kd.S_drewN | apply Kd.S_drew)); exact HO_362001.out) hb); have n2_ := Aside0.mk (Kd.R_below (by (with_reducible repeat (first | apply Kd.R_alloc | apply Kd.R_drewN | apply Kd.R_drew)); exact HO_362002.out) hb); have n3_ := Aside0.mk (Kd.R_below (by (with_reducible repeat (first | apply Kd.R_alloc | apply Kd.R_drewN | apply Kd.R_drew)); exact HO_367000.out) hb); have n4_ := Aside0.mk (Kd.R_below (by (with_reducible repeat (first | apply Kd.R_alloc | apply Kd.R_drewN | apply Kd.R_drew)); exact HO_395000.out) hb); have n5_ := Aside0.mk (blk_below (g := gb340) (o := .cells #[.int .i64 a0_0, .slice A0_1 l0_1.length c0_1, .slice A0_2 l0_2.length c0_2] 25 (0, 0)) (by (with_reducible repeat (first | refine blk_drewN ?_ _ | refine blk_drew ?_ | refine blk_alloc ?_ _)); exact BK340.out) hb); have n6_ := Aside0.mk (blk_below (g := gb353) (o := .cells #[.slice Ao22 t349.length co22] 38 (0, 0)) (by (with_reducible repeat (first | refine blk_drewN ?_ _ | refine blk_drew ?_ | refine blk_alloc ?_ _)); exact BK353.out) hb); have n7_ := Aside0.mk (blk_below (g := gb361) (o := .cells #[.int .i64 t354, .slice Ao32 t377.length co32, .slice Ao33 t378.length co33] 29 (0, 0)) (by (with_reducible repeat (first | refine blk_drewN ?_ _ | refine blk_drew ?_ | refine blk_alloc ?_ _)); exact BK361.out) hb); have n8_ := Aside0.mk (blk_below (g := gb366) (o := .cells #[.slice Ao36 t381.length co36] 38 (0, 0)) (by (with_reducible repeat (first | refine blk_drewN ?_ _ | refine blk_drew ?_ | refine blk_alloc ?_ _)); exact BK366.out) hb); have n9_ := Aside0.mk (blk_below (g := gb394) (o := .cells #[.slice Ao126 t390.length co126] 38 (0, 0)) (by (with_reducible repeat (first | refine blk_drewN ?_ _ | refine blk_drew ?_ | refine blk_alloc ?_ _)); exact BK394.out) hb); have n10_ := Aside0.mk (below_step (by repeat (first | (with_reducible first | exact HB.out | apply below_alloc | apply pw_below_drewN | apply below_drew1 | refine below_set ?_ GE340.out | refine below_set ?_ GE353.out | refine below_set ?_ GE361.out | refine below_set ?_ GE366.out | refine below_set ?_ GE394.out) | exact HB.out)) hb); clear HO_354000; clear HO_362001; clear HO_362002; clear HO_367000; clear HO_395000; clear BK340; clear BK353; clear BK361; clear BK366; clear BK394; clear HB; have HO_354000 := n0_; have HO_362001 := n1_; have HO_362002 := n2_; have HO_367000 := n3_; have HO_395000 := n4_; have BK340 := n5_; have BK353 := n6_; have BK361 := n7_; have BK366 := n8_; have BK394 := n9_; have HB := n10_; clear n0_ n1_ n2_ n3_ n4_ n5_ n6_ n7_ n8_ n9_ n10_; (try clear hb); (try clear hb2); (try clear hk); (try clear hi)))
                                go_ret
                                exact ⟨by first | rfl | (simp [errW_none, errW_some] <;> rfl) | (simp [*, errW_none, errW_some] <;> rfl), by repeat (first | (with_reducible first | exact HB.out | apply below_alloc | apply pw_below_drewN | apply below_drew1 | refine below_set ?_ GE340.out | refine below_set ?_ GE353.out | refine below_set ?_ GE361.out | refine below_set ?_ GE366.out | refine below_set ?_ GE394.out) | exact HB.out)⟩
                              · rw [if_neg c163] at H
                                have c163b0 : (t396 == t380) = false := beq_eq_false_iff_ne.mpr c163
                                have c163b1 : (t396 != t380) = true := bne_iff_ne.mpr c163
                                obtain rfl := Option.some.inj H
                                have hnb170 := NB366_340.out
                                have hnc170 := NB340_366.out
                                have hnb171 := NB366_353.out
                                have hnc171 := NB353_366.out
                                have hnb172 := NB366_361.out
                                have hnc172 := NB361_366.out
                                have hnb173 := NB366_394.out
                                have hnc173 := NB394_366.out
                                have hcz174_0 : wc.cell? ⟨gb366, 0, none⟩ = some (.slice Ao36 t381.length co36) := (blk_cell BK366.out 0).trans rfl
                                have hfz174_0 := blk_frozen BK366.out 0
                                go_wp2_with (first | ((with_reducible refine gate_callee (f := 21) rfl ?_); refine goesL_ (some 90) rfl rfl Try.func21 (by kernel_rfl) rfl #[.agg #[.slice Ao36 t381.length co36], .int .i64 1] rfl (by (try simp only [List.map_toArray, List.map_cons, List.map_nil]); first | done | rfl | (simp only [List.length_drop, List.length_take]; rfl)) ?_; (with_reducible refine (laws_heldTree.calls kj108 _ _ t381 1 t396 _ ?side1 ?side2 A155.out).mono ?_); (case side1 => repeat (first | exact (Kd.R_reads' HO_367000.out).2.2 | (with_reducible refine Kd.C_alloc ?_ _) | (with_reducible refine Kd.C_drewN ?_ _) | (with_reducible refine Kd.C_drew ?_))); (case side2 => exact (Kd.R_reads' HO_367000.out).2.1); rintro e w175 ⟨rfl, hb⟩; refine ⟨_, rfl, ?_⟩; have n0_ := Aside0.mk (Kd.V_below (by (with_reducible repeat (first | apply Kd.V_alloc | apply Kd.V_drewN | apply Kd.V_drew)); exact HO_354000.out) hb); have n1_ := Aside0.mk (Kd.S_below (by (with_reducible repeat (first | apply Kd.S_alloc | apply Kd.S_drewN | apply Kd.S_drew)); exact HO_362001.out) hb); have n2_ := Aside0.mk (Kd.R_below (by (with_reducible repeat (first | apply Kd.R_alloc | apply Kd.R_drewN | apply Kd.R_drew)); exact HO_362002.out) hb); have n3_ := Aside0.mk (Kd.R_below (by (with_reducible repeat (first | apply Kd.R_alloc | apply Kd.R_drewN | apply Kd.R_drew)); exact HO_367000.out) hb); have n4_ := Aside0.mk (Kd.R_below (by (with_reducible repeat (first | apply Kd.R_alloc | apply Kd.R_drewN | apply Kd.R_drew)); exact HO_395000.out) hb); have n5_ := Aside0.mk (blk_below (g := gb340) (o := .cells #[.int .i64 a0_0, .slice A0_1 l0_1.length c0_1, .slice A0_2 l0_2.length c0_2] 25 (0, 0)) (by (with_reducible repeat (first | refine blk_drewN ?_ _ | refine blk_drew ?_ | refine blk_alloc ?_ _)); exact BK340.out) hb); have n6_ := Aside0.mk (blk_below (g := gb353) (o := .cells #[.slice Ao22 t349.length co22] 38 (0, 0)) (by (with_reducible repeat (first | refine blk_drewN ?_ _ | refine blk_drew ?_ | refine blk_alloc ?_ _)); exact BK353.out) hb); have n7_ := Aside0.mk (blk_below (g := gb361) (o := .cells #[.int .i64 t354, .slice Ao32 t377.length co32, .slice Ao33 t378.length co33] 29 (0, 0)) (by (with_reducible repeat (first | refine blk_drewN ?_ _ | refine blk_drew ?_ | refine blk_alloc ?_ _)); exact BK361.out) hb); have n8_ := Aside0.mk (blk_below (g := gb366) (o := .cells #[.slice Ao36 t381.length co36] 38 (0, 0)) (by (with_reducible repeat (first | refine blk_drewN ?_ _ | refine blk_drew ?_ | refine blk_alloc ?_ _)); exact BK366.out) hb); have n9_ := Aside0.mk (blk_below (g := gb394) (o := .cells #[.slice Ao126 t390.length co126] 38 (0, 0)) (by (with_reducible repeat (first | refine blk_drewN ?_ _ | refine blk_drew ?_ | refine blk_alloc ?_ _)); exact BK394.out) hb); have n10_ := Aside0.mk (below_step (by repeat (first | (with_reducible first | exact HB.out | apply below_alloc | apply pw_below_drewN | apply below_drew1 | refine below_set ?_ GE340.out | refine below_set ?_ GE353.out | refine below_set ?_ GE361.out | refine below_set ?_ GE366.out | refine below_set ?_ GE394.out) | exact HB.out)) hb); clear HO_354000; clear HO_362001; clear HO_362002; clear HO_367000; clear HO_395000; clear BK340; clear BK353; clear BK361; clear BK366; clear BK394; clear HB; have HO_354000 := n0_; have HO_362001 := n1_; have HO_362002 := n2_; have HO_367000 := n3_; have HO_395000 := n4_; have BK340 := n5_; have BK353 := n6_; have BK361 := n7_; have BK366 := n8_; have BK394 := n9_; have HB := n10_; clear n0_ n1_ n2_ n3_ n4_ n5_ n6_ n7_ n8_ n9_ n10_; (try clear hb); (try clear hb2); (try clear hk); (try clear hi)))
                                go_ret
                                exact ⟨by first | rfl | (simp [errW_none, errW_some] <;> rfl) | (simp [*, errW_none, errW_some] <;> rfl), by repeat (first | (with_reducible first | exact HB.out | apply below_alloc | apply pw_below_drewN | apply below_drew1 | refine below_set ?_ GE340.out | refine below_set ?_ GE353.out | refine below_set ?_ GE361.out | refine below_set ?_ GE366.out | refine below_set ?_ GE394.out) | exact HB.out)⟩
                    · rw [if_neg c106] at H
                      have c106b0 : (t382 == t380) = false := beq_eq_false_iff_ne.mpr c106
                      have c106b1 : (t382 != t380) = true := bne_iff_ne.mpr c106
                      obtain rfl := Option.some.inj H
                      have hnb176 := NB366_340.out
                      have hnc176 := NB340_366.out
                      have hnb177 := NB366_353.out
                      have hnc177 := NB353_366.out
                      have hnb178 := NB366_361.out
                      have hnc178 := NB361_366.out
                      have hcz179_0 : wc.cell? ⟨gb366, 0, none⟩ = some (.slice Ao36 t362.length co36) := (blk_cell BK366.out 0).trans rfl
                      have hfz179_0 := blk_frozen BK366.out 0
                      go_wp2_with (first | ((with_reducible refine gate_callee (f := 20) rfl ?_); refine goesL_ (some 64) rfl rfl Try.func20 (by kernel_rfl) rfl #[.agg #[.slice Ao36 t362.length co36], .int .i64 1] rfl (by (try simp only [List.map_toArray, List.map_cons, List.map_nil]); first | done | rfl | (simp only [List.length_drop, List.length_take]; rfl)) ?_; (with_reducible refine (laws_markTree.calls kj63 (fun k_ => some k_ = (.slice Ao36 t362.length co36 : Value).ownBlock) (.slice Ao36 t362.length co36) t362 1 t380 t381 w _ ?side1 ?side2 A96.out).mono ?_); (case side1 => repeat (first | (with_reducible first | exact HB.out | apply below_alloc | apply pw_below_drewN | apply below_drew1 | refine below_set ?_ GE340.out | refine below_set ?_ GE353.out | refine below_set ?_ GE361.out | refine below_set ?_ GE366.out) | exact HB.out)); (case side2 => exact Kd.R_tight rfl HO_367000.out); rintro e w180 ⟨rfl, hy0, hb, hkp⟩; refine ⟨_, rfl, ?_⟩; have n0_ := Aside0.mk (Kd.V_mono (ok' := fun k_ => some k_ ≠ (.slice Ao32 t377.length co32 : Value).ownBlock ∧ some k_ ≠ (.slice Ao33 t378.length co33 : Value).ownBlock ∧ some k_ ≠ (.slice Ao36 t362.length co36 : Value).ownBlock ∧ k_ ≠ gb340 ∧ k_ ≠ gb353 ∧ k_ ≠ gb361 ∧ k_ ≠ gb366 ∧ k_ ≠ lt_ N27 k_) (Kd.V_keptB (HO_354000.out) hkp (fun k_ hk_ hs_ => (hk_.2.2.1) hs_)) (fun k_ hk_ => ⟨hk_.1.1, hk_.1.2.1, hk_.1.2.2.1, hk_.1.2.2.2.1, hk_.1.2.2.2.2.1, hk_.1.2.2.2.2.2.1, hk_.1.2.2.2.2.2.2.1, hk_.1.2.2.2.2.2.2.2⟩)); have n1_ := Aside0.mk (Kd.S_mono (ok' := fun k_ => some k_ ≠ (.slice Ao33 t378.length co33 : Value).ownBlock ∧ some k_ ≠ (.slice Ao36 t362.length co36 : Value).ownBlock ∧ k_ ≠ ge_ N27 k_) (Kd.S_keptB (HO_362001.out) hkp (fun k_ hk_ hs_ => (hk_.2.1) hs_)) (fun k_ hk_ => ⟨hk_.1.1, hk_.1.2.1, hk_.1.2.2⟩)); have n2_ := Aside0.mk (Kd.R_mono (ok' := fun k_ => some k_ ≠ (.slice Ao36 t362.length co36 : Value).ownBlock) (Kd.R_keptB (HO_362002.out) hkp (fun k_ hk_ hs_ => (hk_) hs_)) (fun k_ hk_ => hk_.1)); have n3_ := Aside0.mk (Kd.R_reok rfl hy0 (fun k_ e_ => HO_367000.out.1 k_ e_)); have n4_ := Aside0.mk (blk_kept (by (with_reducible repeat (first | refine blk_drewN ?_ _ | refine blk_drew ?_ | refine blk_alloc ?_ _)); exact BK340.out) hkp (fun hs_ => (fun e_ => (Kd.R_ne HO_367000.out BK340.out (by decide)) e_) hs_)); have n5_ := Aside0.mk (blk_kept (by (with_reducible repeat (first | refine blk_drewN ?_ _ | refine blk_drew ?_ | refine blk_alloc ?_ _)); exact BK353.out) hkp (fun hs_ => (fun e_ => (Kd.R_ne HO_367000.out BK353.out (by decide)) e_) hs_)); have n6_ := Aside0.mk (blk_kept (by (with_reducible repeat (first | refine blk_drewN ?_ _ | refine blk_drew ?_ | refine blk_alloc ?_ _)); exact BK361.out) hkp (fun hs_ => (fun e_ => (Kd.R_ne HO_367000.out BK361.out (by decide)) e_) hs_)); have n7_ := Aside0.mk (blk_kept (by (with_reducible repeat (first | refine blk_drewN ?_ _ | refine blk_drew ?_ | refine blk_alloc ?_ _)); exact BK366.out) hkp (fun hs_ => (fun e_ => (Kd.R_ne HO_367000.out BK366.out (by decide)) e_) hs_)); have n8_ := Aside0.mk (hb); clear HO_354000; clear HO_362001; clear HO_362002; clear HO_367000; clear BK340; clear BK353; clear BK361; clear BK366; clear HB; have HO_354000 := n0_; have HO_362001 := n1_; have HO_362002 := n2_; have HO_367000 := n3_; have BK340 := n4_; have BK353 := n5_; have BK361 := n6_; have BK366 := n7_; have HB := n8_; clear n0_ n1_ n2_ n3_ n4_ n5_ n6_ n7_ n8_; (try clear hb); (try clear hkp); (try clear hy0); have hcz181_0 : w180.cell? ⟨gb366, 0, none⟩ = some (.slice Ao36 t362.length co36) := (blk_cell BK366.out 0).trans rfl; have hfz181_0 := blk_frozen BK366.out 0) | ((with_reducible refine gate_callee (f := 21) rfl ?_); refine goesL_ (some 67) rfl rfl Try.func21 (by kernel_rfl) rfl #[.agg #[.slice Ao36 t381.length co36], .int .i64 1] rfl (by (try simp only [List.map_toArray, List.map_cons, List.map_nil]); first | done | (rw [show t381.length = t362.length from (Kd.R_reads' HO_367000.out).1.symm] <;> rfl) | rfl | (simp only [List.length_drop, List.length_take]; rfl)) ?_; (with_reducible refine (laws_heldTree.calls kj63 _ _ t381 1 t382 _ ?side1 ?side2 A97.out).mono ?_); (case side1 => repeat (first | exact (Kd.R_reads' HO_367000.out).2.2 | (with_reducible refine Kd.C_alloc ?_ _) | (with_reducible refine Kd.C_drewN ?_ _) | (with_reducible refine Kd.C_drew ?_))); (case side2 => rw [show t381.length = t362.length from (Kd.R_reads' HO_367000.out).1.symm]; exact (Kd.R_reads' HO_367000.out).2.1); rintro e w182 ⟨rfl, hb⟩; refine ⟨_, rfl, ?_⟩; have n0_ := Aside0.mk (Kd.V_below (by (with_reducible repeat (first | apply Kd.V_alloc | apply Kd.V_drewN | apply Kd.V_drew)); exact HO_354000.out) hb); have n1_ := Aside0.mk (Kd.S_below (by (with_reducible repeat (first | apply Kd.S_alloc | apply Kd.S_drewN | apply Kd.S_drew)); exact HO_362001.out) hb); have n2_ := Aside0.mk (Kd.R_below (by (with_reducible repeat (first | apply Kd.R_alloc | apply Kd.R_drewN | apply Kd.R_drew)); exact HO_362002.out) hb); have n3_ := Aside0.mk (Kd.R_below (by (with_reducible repeat (first | apply Kd.R_alloc | apply Kd.R_drewN | apply Kd.R_drew)); exact HO_367000.out) hb); have n4_ := Aside0.mk (blk_below (g := gb340) (o := .cells #[.int .i64 a0_0, .slice A0_1 l0_1.length c0_1, .slice A0_2 l0_2.length c0_2] 25 (0, 0)) (by (with_reducible repeat (first | refine blk_drewN ?_ _ | refine blk_drew ?_ | refine blk_alloc ?_ _)); exact BK340.out) hb); have n5_ := Aside0.mk (blk_below (g := gb353) (o := .cells #[.slice Ao22 t349.length co22] 38 (0, 0)) (by (with_reducible repeat (first | refine blk_drewN ?_ _ | refine blk_drew ?_ | refine blk_alloc ?_ _)); exact BK353.out) hb); have n6_ := Aside0.mk (blk_below (g := gb361) (o := .cells #[.int .i64 t354, .slice Ao32 t377.length co32, .slice Ao33 t378.length co33] 29 (0, 0)) (by (with_reducible repeat (first | refine blk_drewN ?_ _ | refine blk_drew ?_ | refine blk_alloc ?_ _)); exact BK361.out) hb); have n7_ := Aside0.mk (blk_below (g := gb366) (o := .cells #[.slice Ao36 t362.length co36] 38 (0, 0)) (by (with_reducible repeat (first | refine blk_drewN ?_ _ | refine blk_drew ?_ | refine blk_alloc ?_ _)); exact BK366.out) hb); have n8_ := Aside0.mk (below_step (by repeat (first | (with_reducible first | exact HB.out | apply below_alloc | apply pw_below_drewN | apply below_drew1 | refine below_set ?_ GE340.out | refine below_set ?_ GE353.out | refine below_set ?_ GE361.out | refine below_set ?_ GE366.out) | exact HB.out)) hb); clear HO_354000; clear HO_362001; clear HO_362002; clear HO_367000; clear BK340; clear BK353; clear BK361; clear BK366; clear HB; have HO_354000 := n0_; have HO_362001 := n1_; have HO_362002 := n2_; have HO_367000 := n3_; have BK340 := n4_; have BK353 := n5_; have BK361 := n6_; have BK366 := n7_; have HB := n8_; clear n0_ n1_ n2_ n3_ n4_ n5_ n6_ n7_ n8_; (try clear hb); (try clear hb2); (try clear hk); (try clear hi)))
                      go_ret
                      exact ⟨by first | rfl | (simp [errW_none, errW_some] <;> rfl) | (simp [*, errW_none, errW_some] <;> rfl), by repeat (first | (with_reducible first | exact HB.out | apply below_alloc | apply pw_below_drewN | apply below_drew1 | refine below_set ?_ GE340.out | refine below_set ?_ GE353.out | refine below_set ?_ GE361.out | refine below_set ?_ GE366.out) | exact HB.out)⟩
          · replace c62 := Bool.eq_false_iff.mpr c62
            subst c62
            have H1 : (some false) = some r := by rw [if_neg (show ¬ (false = true) by decide)] at H; exact H
            clear H
            have H := H1
            clear H1
            obtain rfl := Option.some.inj H
            try go_wp2
            have n0_ := Aside0.mk (Kd.V_drew HO_354000.out)
            have n1_ := Aside0.mk (Kd.S_drew HO_362001.out)
            have n2_ := Aside0.mk (Kd.R_drew HO_362002.out)
            have n3_ := Aside0.mk (Kd.R_drew HO_367000.out)
            have n4_ := Aside0.mk (blk_drew BK340.out)
            have n5_ := Aside0.mk (blk_drew BK353.out)
            have n6_ := Aside0.mk (blk_drew BK361.out)
            have n7_ := Aside0.mk (blk_drew BK366.out)
            have n8_ := Aside0.mk (below_drew1 HB.out)
            clear HO_354000
            clear HO_362001
            clear HO_362002
            clear HO_367000
            clear BK340
            clear BK353
            clear BK361
            clear BK366
            clear HB
            have HO_354000 := n0_
            have HO_362001 := n1_
            have HO_362002 := n2_
            have HO_367000 := n3_
            have BK340 := n4_
            have BK353 := n5_
            have BK361 := n6_
            have BK366 := n7_
            have HB := n8_
            clear n0_ n1_ n2_ n3_ n4_ n5_ n6_ n7_ n8_
            refine start_ (n := 5) (S := fun w' => w'.cell? ⟨gb361, 0, none⟩ = some (.int .i64 t354) ∧ w'.cell? ⟨gb361, 1, none⟩ = some (.slice Ao32 t355.length co32) ∧ w'.cell? ⟨gb361, 2, none⟩ = some (.slice Ao33 t358.length co33) ∧ w'.cell? ⟨gb340, 0, none⟩ = some (.int .i64 a0_0) ∧ w'.cell? ⟨gb340, 1, none⟩ = some (.slice A0_1 l0_1.length c0_1) ∧ w'.cell? ⟨gb340, 2, none⟩ = some (.slice A0_2 l0_2.length c0_2)) (ds := []) #[false, false, false, false, false] (by kernel_rfl) rfl rfl ⟨(blk_cell BK361.out 0).trans rfl, (blk_cell BK361.out 1).trans rfl, (blk_cell BK361.out 2).trans rfl, (blk_cell BK340.out 0).trans rfl, (blk_cell BK340.out 1).trans rfl, (blk_cell BK340.out 2).trans rfl⟩ (fun hHeld => ?_)
            generalize wc.drew = w183 at HO_354000 HO_362001 HO_362002 HO_367000 BK340 BK353 BK361 BK366 HB hHeld ⊢
            refine take_ (i := 0) (N := some 41) (v := ?_) (a' := ?_) #[true, false, false, false, false] rfl rfl (by kernel_rfl) (fun _ _ _ h => h) (Or.inl ⟨by rfl, ?_⟩) hHeld ?_ ?_
            rotate_left
            · rintro w' ⟨s0, s1, s2, s3, s4, s5⟩
              go_simp
              with_reducible rfl
            rotate_left
            · simp only [Act.put, List.setIfInBounds_toArray, List.set_cons_zero, List.set_cons_succ, i64_w, i32_w]
              rfl
            refine take_ (i := 1) (N := some 42) (v := ?_) (a' := ?_) #[true, true, false, false, false] rfl rfl (by kernel_rfl) (fun _ _ _ h => h) (Or.inl ⟨by rfl, ?_⟩) hHeld ?_ ?_
            rotate_left
            · rintro w' ⟨s0, s1, s2, s3, s4, s5⟩
              go_simp
              with_reducible rfl
            rotate_left
            · simp only [Act.put, List.setIfInBounds_toArray, List.set_cons_zero, List.set_cons_succ, i64_w, i32_w]
              rfl
            refine one_ (i := 2) (N := some 43) #[true, true, true, false, false] rfl rfl (by kernel_rfl) (by decide) (fun K hK => ?_)
            refine goes_ Try.func10 (by kernel_rfl) rfl #[.agg #[.int .i64 a0_0, .slice A0_1 l0_1.length c0_1, .slice A0_2 l0_2.length c0_2]] (by rfl) rfl rfl (by (try simp only [List.map_toArray, List.map_cons, List.map_nil]); first | done | rfl | (simp only [List.length_drop, List.length_take]; rfl)) ?_
            with_reducible refine (laws_toAutomaton.calls kj10 a0_0 _ _ l0_1 _ _ l0_2 t368 t369 t372 _ ?side1 ?side2 ?side3 ?side4 A60.out).mono ?_
            (case side1 => repeat (first | exact (Kd.C_below HR0_1.out HB.out) | (with_reducible refine Kd.C_alloc ?_ _) | (with_reducible refine Kd.C_drewN ?_ _) | (with_reducible refine Kd.C_drew ?_)))
            (case side2 => exact HC0_1.out)
            (case side3 => repeat (first | exact (Kd.C_below HR0_2.out HB.out) | (with_reducible refine Kd.C_alloc ?_ _) | (with_reducible refine Kd.C_drewN ?_ _) | (with_reducible refine Kd.C_drew ?_)))
            (case side4 => exact HC0_2.out)
            rintro e w184 ⟨v370, v373, rfl, ho0, ho1, hb⟩
            refine ⟨_, rfl, ?_⟩
            have n0_ := Aside0.mk (Kd.V_mono (Kd.V_told (Kd.V_told (Kd.V_old (by (with_reducible repeat (first | apply Kd.V_alloc | apply Kd.V_drewN | apply Kd.V_drew)); exact HO_354000.out) hb) (Kd.S_base ho0)) (Kd.R_base ho1)) (fun _ h_ => h_.1))
            have n1_ := Aside0.mk (Kd.S_mono (Kd.S_told (Kd.S_told (Kd.S_old (by (with_reducible repeat (first | apply Kd.S_alloc | apply Kd.S_drewN | apply Kd.S_drew)); exact HO_362001.out) hb) (Kd.S_base ho0)) (Kd.R_base ho1)) (fun _ h_ => h_.1))
            have n2_ := Aside0.mk (Kd.R_elder' (by (with_reducible repeat (first | apply Kd.R_alloc | apply Kd.R_drewN | apply Kd.R_drew)); exact HO_362002.out) (Kd.R_base ho1) hb)
            have n3_ := Aside0.mk (Kd.R_elder' (by (with_reducible repeat (first | apply Kd.R_alloc | apply Kd.R_drewN | apply Kd.R_drew)); exact HO_367000.out) (Kd.R_base ho1) hb)
            have n4_ := Aside0.mk (Kd.S_lower (Kd.S_new' (Kd.S_new' (Kd.S_new' ho0 (Kd.S_lt (by (with_reducible repeat (first | apply Kd.S_alloc | apply Kd.S_drewN | apply Kd.S_drew)); exact HO_362001.out))) (Kd.R_lt (by (with_reducible repeat (first | apply Kd.R_alloc | apply Kd.R_drewN | apply Kd.R_drew)); exact HO_362002.out))) (Kd.R_lt (by (with_reducible repeat (first | apply Kd.R_alloc | apply Kd.R_drewN | apply Kd.R_drew)); exact HO_367000.out))) (below_size (by repeat (first | (with_reducible first | exact HB.out | apply below_alloc | apply pw_below_drewN | apply below_drew1 | refine below_set ?_ GE340.out | refine below_set ?_ GE353.out | refine below_set ?_ GE361.out | refine below_set ?_ GE366.out) | exact HB.out))))
            have n5_ := Aside0.mk (Kd.R_lower (Kd.R_new' (Kd.R_new' ho1 (Kd.R_lt (by (with_reducible repeat (first | apply Kd.R_alloc | apply Kd.R_drewN | apply Kd.R_drew)); exact HO_362002.out))) (Kd.R_lt (by (with_reducible repeat (first | apply Kd.R_alloc | apply Kd.R_drewN | apply Kd.R_drew)); exact HO_367000.out))) (below_size (by repeat (first | (with_reducible first | exact HB.out | apply below_alloc | apply pw_below_drewN | apply below_drew1 | refine below_set ?_ GE340.out | refine below_set ?_ GE353.out | refine below_set ?_ GE361.out | refine below_set ?_ GE366.out) | exact HB.out))))
            have n6_ := Aside0.mk (blk_below (g := gb340) (o := .cells #[.int .i64 a0_0, .slice A0_1 l0_1.length c0_1, .slice A0_2 l0_2.length c0_2] 25 (0, 0)) (by (with_reducible repeat (first | refine blk_drewN ?_ _ | refine blk_drew ?_ | refine blk_alloc ?_ _)); exact BK340.out) hb)
            have n7_ := Aside0.mk (blk_below (g := gb353) (o := .cells #[.slice Ao22 t349.length co22] 38 (0, 0)) (by (with_reducible repeat (first | refine blk_drewN ?_ _ | refine blk_drew ?_ | refine blk_alloc ?_ _)); exact BK353.out) hb)
            have n8_ := Aside0.mk (blk_below (g := gb361) (o := .cells #[.int .i64 t354, .slice Ao32 t355.length co32, .slice Ao33 t358.length co33] 29 (0, 0)) (by (with_reducible repeat (first | refine blk_drewN ?_ _ | refine blk_drew ?_ | refine blk_alloc ?_ _)); exact BK361.out) hb)
            have n9_ := Aside0.mk (blk_below (g := gb366) (o := .cells #[.slice Ao36 t362.length co36] 38 (0, 0)) (by (with_reducible repeat (first | refine blk_drewN ?_ _ | refine blk_drew ?_ | refine blk_alloc ?_ _)); exact BK366.out) hb)
            have n10_ := Aside0.mk (below_step (by repeat (first | (with_reducible first | exact HB.out | apply below_alloc | apply pw_below_drewN | apply below_drew1 | refine below_set ?_ GE340.out | refine below_set ?_ GE353.out | refine below_set ?_ GE361.out | refine below_set ?_ GE366.out) | exact HB.out)) hb)
            clear HO_354000
            clear HO_362001
            clear HO_362002
            clear HO_367000
            clear BK340
            clear BK353
            clear BK361
            clear BK366
            clear HB
            have HO_354000 := n0_
            have HO_362001 := n1_
            have HO_362002 := n2_
            have HO_367000 := n3_
            have HO371 := n4_
            have HO374 := n5_
            have BK340 := n6_
            have BK353 := n7_
            have BK361 := n8_
            have BK366 := n9_
            have HB := n10_
            clear n0_ n1_ n2_ n3_ n4_ n5_ n6_ n7_ n8_ n9_ n10_
            (try clear hb)
            (try clear hb2)
            (try clear hk)
            (try clear hi)
            (try clear ho0)
            (try clear ho1)
            obtain ⟨Ao185, co185, eo185⟩ := Kd.S_slice HO371.out
            (first | subst eo185 | (injection eo185 with f1_ f2_ f3_; have f4_ := f1_.symm; have f5_ := f3_.symm; clear f1_ f2_ f3_; subst f4_; subst f5_))
            obtain ⟨Ao186, co186, eo186⟩ := Kd.R_slice HO374.out
            (first | subst eo186 | (injection eo186 with f1_ f2_ f3_; have f4_ := f1_.symm; have f5_ := f3_.symm; clear f1_ f2_ f3_; subst f4_; subst f5_))
            refine hK.out _ _ ⟨(blk_cell BK361.out 0).trans rfl, (blk_cell BK361.out 1).trans rfl, (blk_cell BK361.out 2).trans rfl, (blk_cell BK340.out 0).trans rfl, (blk_cell BK340.out 1).trans rfl, (blk_cell BK340.out 2).trans rfl⟩ (fun hHeld => ?_)
            clear hK K
            refine norm_ (a' := ?_) ?_ ?_
            rotate_left
            · show Act.put _ (some 43) _ = _
              simp only [Act.put, List.setIfInBounds_toArray, List.set_cons_zero, List.set_cons_succ, i64_w, i32_w]
              rfl
            refine one_ (i := 3) (N := some 44) #[true, true, true, true, false] rfl rfl (by kernel_rfl) (by decide) (fun K hK => ?_)
            refine goes_ Try.func12 (by kernel_rfl) rfl #[.agg #[.int .i64 t354, .slice Ao32 t355.length co32, .slice Ao33 t358.length co33], .agg #[.int .i64 t368, .slice Ao185 t369.length co185, .slice Ao186 t372.length co186]] (by rfl) rfl rfl (by (try simp only [List.map_toArray, List.map_cons, List.map_nil]); first | done | rfl | (simp only [List.length_drop, List.length_take]; rfl)) ?_
            with_reducible refine (laws_eqAutomaton.calls kj10 t354 _ _ t355 _ _ t358 t368 _ _ t369 _ _ t372 false _ ?side1 ?side2 ?side3 ?side4 ?side5 ?side6 ?side7 ?side8 A61.out).mono ?_
            (case side1 => repeat (first | exact (Kd.S_reads' HO_362001.out).2.2 | (with_reducible refine Kd.C_alloc ?_ _) | (with_reducible refine Kd.C_drewN ?_ _) | (with_reducible refine Kd.C_drew ?_)))
            (case side2 => exact (Kd.S_reads' HO_362001.out).2.1)
            (case side3 => repeat (first | exact (Kd.R_reads' HO_362002.out).2.2 | (with_reducible refine Kd.C_alloc ?_ _) | (with_reducible refine Kd.C_drewN ?_ _) | (with_reducible refine Kd.C_drew ?_)))
            (case side4 => exact (Kd.R_reads' HO_362002.out).2.1)
            (case side5 => repeat (first | exact (Kd.S_reads' HO371.out).2.2 | (with_reducible refine Kd.C_alloc ?_ _) | (with_reducible refine Kd.C_drewN ?_ _) | (with_reducible refine Kd.C_drew ?_)))
            (case side6 => exact (Kd.S_reads' HO371.out).2.1)
            (case side7 => repeat (first | exact (Kd.R_reads' HO374.out).2.2 | (with_reducible refine Kd.C_alloc ?_ _) | (with_reducible refine Kd.C_drewN ?_ _) | (with_reducible refine Kd.C_drew ?_)))
            (case side8 => exact (Kd.R_reads' HO374.out).2.1)
            rintro e w187 ⟨rfl, hb⟩
            refine ⟨_, rfl, ?_⟩
            have n0_ := Aside0.mk (Kd.V_below (by (with_reducible repeat (first | apply Kd.V_alloc | apply Kd.V_drewN | apply Kd.V_drew)); exact HO_354000.out) hb)
            have n1_ := Aside0.mk (Kd.S_below (by (with_reducible repeat (first | apply Kd.S_alloc | apply Kd.S_drewN | apply Kd.S_drew)); exact HO_362001.out) hb)
            have n2_ := Aside0.mk (Kd.R_below (by (with_reducible repeat (first | apply Kd.R_alloc | apply Kd.R_drewN | apply Kd.R_drew)); exact HO_362002.out) hb)
            have n3_ := Aside0.mk (Kd.R_below (by (with_reducible repeat (first | apply Kd.R_alloc | apply Kd.R_drewN | apply Kd.R_drew)); exact HO_367000.out) hb)
            have n4_ := Aside0.mk (Kd.S_below (by (with_reducible repeat (first | apply Kd.S_alloc | apply Kd.S_drewN | apply Kd.S_drew)); exact HO371.out) hb)
            have n5_ := Aside0.mk (Kd.R_below (by (with_reducible repeat (first | apply Kd.R_alloc | apply Kd.R_drewN | apply Kd.R_drew)); exact HO374.out) hb)
            have n6_ := Aside0.mk (blk_below (g := gb340) (o := .cells #[.int .i64 a0_0, .slice A0_1 l0_1.length c0_1, .slice A0_2 l0_2.length c0_2] 25 (0, 0)) (by (with_reducible repeat (first | refine blk_drewN ?_ _ | refine blk_drew ?_ | refine blk_alloc ?_ _)); exact BK340.out) hb)
            have n7_ := Aside0.mk (blk_below (g := gb353) (o := .cells #[.slice Ao22 t349.length co22] 38 (0, 0)) (by (with_reducible repeat (first | refine blk_drewN ?_ _ | refine blk_drew ?_ | refine blk_alloc ?_ _)); exact BK353.out) hb)
            have n8_ := Aside0.mk (blk_below (g := gb361) (o := .cells #[.int .i64 t354, .slice Ao32 t355.length co32, .slice Ao33 t358.length co33] 29 (0, 0)) (by (with_reducible repeat (first | refine blk_drewN ?_ _ | refine blk_drew ?_ | refine blk_alloc ?_ _)); exact BK361.out) hb)
            have n9_ := Aside0.mk (blk_below (g := gb366) (o := .cells #[.slice Ao36 t362.length co36] 38 (0, 0)) (by (with_reducible repeat (first | refine blk_drewN ?_ _ | refine blk_drew ?_ | refine blk_alloc ?_ _)); exact BK366.out) hb)
            have n10_ := Aside0.mk (below_step (by repeat (first | (with_reducible first | exact HB.out | apply below_alloc | apply pw_below_drewN | apply below_drew1 | refine below_set ?_ GE340.out | refine below_set ?_ GE353.out | refine below_set ?_ GE361.out | refine below_set ?_ GE366.out) | exact HB.out)) hb)
            clear HO_354000
            clear HO_362001
            clear HO_362002
            clear HO_367000
            clear HO371
            clear HO374
            clear BK340
            clear BK353
            clear BK361
            clear BK366
            clear HB
            have HO_354000 := n0_
            have HO_362001 := n1_
            have HO_362002 := n2_
            have HO_367000 := n3_
            have HO371 := n4_
            have HO374 := n5_
            have BK340 := n6_
            have BK353 := n7_
            have BK361 := n8_
            have BK366 := n9_
            have HB := n10_
            clear n0_ n1_ n2_ n3_ n4_ n5_ n6_ n7_ n8_ n9_ n10_
            (try clear hb)
            (try clear hb2)
            (try clear hk)
            (try clear hi)
            refine hK.out _ _ ⟨(blk_cell BK361.out 0).trans rfl, (blk_cell BK361.out 1).trans rfl, (blk_cell BK361.out 2).trans rfl, (blk_cell BK340.out 0).trans rfl, (blk_cell BK340.out 1).trans rfl, (blk_cell BK340.out 2).trans rfl⟩ (fun hHeld => ?_)
            clear hK K
            refine norm_ (a' := ?_) ?_ ?_
            rotate_left
            · show Act.put _ (some 44) _ = _
              simp only [Act.put, List.setIfInBounds_toArray, List.set_cons_zero, List.set_cons_succ, i64_w, i32_w]
              rfl
            refine pure_ (i := 4) (N := some 45) (v := ?_) (a' := ?_) #[true, true, true, true, true] rfl rfl (by kernel_rfl) (fun _ _ _ h => h) (Or.inl ⟨by rfl, ?_⟩) ?_ ?_
            rotate_left
            · intro w'
              go_simp
              with_reducible rfl
            rotate_left
            · simp only [Act.put, List.setIfInBounds_toArray, List.set_cons_zero, List.set_cons_succ, i64_w, i32_w]
              rfl
            refine done_ (by kernel_rfl) ?_
            try go_wp2
            go_ret
            exact ⟨by first | rfl | (simp [errW_none, errW_some] <;> rfl) | (simp [*, errW_none, errW_some] <;> rfl), by repeat (first | (with_reducible first | exact HB.out | apply below_alloc | apply pw_below_drewN | apply below_drew1 | refine below_set ?_ GE340.out | refine below_set ?_ GE353.out | refine below_set ?_ GE361.out | refine below_set ?_ GE366.out) | exact HB.out)⟩

end Go.Proofs.Ytmnpdkhkgddojaa.E
