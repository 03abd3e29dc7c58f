/- The row of the law FnBinary, out of its pure statement. -/
import Derived.Test.YthbdbgoeaichcaaQFBEx0
import Derived.Test.YthbdbgoeaichcaaQFBEx1
import Derived.Test.YthbdbgoeaichcaaQFBL
-- Written by wip/ext.py of this claim (contracts by the form of the kit's print; hand-written ones among them).
namespace Go.Proofs.Ythbdbgoeaichcaa.E
set_option maxHeartbeats 8000000
set_option maxRecDepth 100000
open Go.RowKit Go.Proofs.YthbdbgoeaichcaaW.PrintWords Go.Proofs.YthbdbgoeaichcaaW.PrintLast Go.Proofs.YthbdbgoeaichcaaW.PrintMore Go.Proofs.Ythbdbgoeaichcaa.Mi
attribute [local go_sem] max2_int min2_int max_two min_two max_three min_three max_four min_four   -- for this text's walks alone
set_option linter.unusedVariables false
set_option linter.unusedSimpArgs false

mutual
def spec_l01DrawOf.l0 : Nat → Int → List Int → List Int → Int → Int → List Int → Int → Int → Option (List Int × Int × Int)
  | 0, _, _, _, _, _, _, _, _ => none
  | k + 1, x1, x5, x6, x7, x8, x1000, x1001, x1002 => if x8 < x1 then (spec_l01DrawOf.l1 k x1 x5 x6 x7 x8 (wrap64 ((x6.length : Int) - 1)) x1000 x1001 x1002) else (some (x5, x1001, x1002))
def spec_l01DrawOf.l1 : Nat → Int → List Int → List Int → Int → Int → Int → List Int → Int → Int → Option (List Int × Int × Int)
  | 0, _, _, _, _, _, _, _, _, _ => none
  | k + 1, x1, x5, x6, x7, x8, x9, x1000, x1001, x1002 => if x9 > 0 then ((spec_l01Next.f x1000 x1001 x1002 x7).bind fun bt158 => (if bt158.1 = 0 then (spec_l01DrawOf.l1 k x1 x5 x6 x7 x8 (wrap64 (x9 - 1)) x1000 bt158.2.1 bt158.2.2) else (if 0 ≤ x9 then (if x9 < (x6.length : Int) then (if 0 ≤ (rd x6 x9) then (if (rd x6 x9) < (x5.length : Int) then ((some (x5.set ((rd x6 x9) : Int).toNat (wrap64 ((rd x5 (rd x6 x9)) + 1)) : List Int)).bind fun y163 => (if 0 ≤ (wrap64 (x9 + 1)) then (if (wrap64 (x9 + 1)) ≤ (x6.length : Int) then ((spec_l01Own.f (x6.take ((wrap64 (x9 + 1)) : Int).toNat)).bind fun t168 => (if t168.length < 17592186044416 then (if y163.length < 17592186044416 then (spec_l01DrawOf.l0 k x1 (y163 ++ [0]) (t168 ++ [x8]) x7 (wrap64 (x8 + 1)) x1000 bt158.2.1 bt158.2.2) else (none)) else (none))) else (none)) else (none))) else (none)) else (none)) else (none)) else (none)))) else (if 0 ≤ x9 then (if x9 < (x6.length : Int) then (if 0 ≤ (rd x6 x9) then (if (rd x6 x9) < (x5.length : Int) then ((some (x5.set ((rd x6 x9) : Int).toNat (wrap64 ((rd x5 (rd x6 x9)) + 1)) : List Int)).bind fun y179 => (if 0 ≤ (wrap64 (x9 + 1)) then (if (wrap64 (x9 + 1)) ≤ (x6.length : Int) then ((spec_l01Own.f (x6.take ((wrap64 (x9 + 1)) : Int).toNat)).bind fun t184 => (if t184.length < 17592186044416 then (if y179.length < 17592186044416 then (spec_l01DrawOf.l0 k x1 (y179 ++ [0]) (t184 ++ [x8]) x7 (wrap64 (x8 + 1)) x1000 x1001 x1002) else (none)) else (none))) else (none)) else (none))) else (none)) else (none)) else (none)) else (none))
end
def spec_l01DrawOf.f (k : Nat) (s0_0 : List Int) (s0_1 : Int) (s0_2 : Int) (a1 : Int) : Option (List Int × Int × Int) := (spec_l01Pick.f s0_0 s0_1 s0_2 (([1, 2, 4, 30] : List Int))).bind fun bt155 => (spec_l01DrawOf.l0 k a1 (([0] : List Int)) (([0] : List Int)) bt155.1 1 s0_0 bt155.2.1 bt155.2.2)
theorem spec_l01DrawOf.calls (k : Nat) (g : Nat) (s0_0 : List Int) (s0_1 : Int) (s0_2 : Int) (a1 : Int) (r1 : List Int) (r2 : Int) (r3 : Int) (w0 w : World) (hI : IsS77 w0 w g s0_0 s0_1 s0_2) (hB : Below w0.heap.size w0 w) (h : spec_l01DrawOf.f k s0_0 s0_1 s0_2 a1 = some (r1, r2, r3)) :
    Calls Try.prog 81 #[.pointer (some ⟨g, 0, none⟩), .int .i64 a1] w fun e w' => ∃ v0_ : Value, e = .returned (.agg #[v0_]) ∧ Kd.R (Kd.int .i64) 2 w' w.heap.size (fun _ => True) v0_ r1 ∧ IsS77 w0 w' g s0_0 r2 r3 ∧ Below w0.heap.size w0 w' ∧ KeepBut w w' g none := by
  have hu26 := Try.underlying26
  have HI0 := as_ hI
  have HK := as_ (KeepBut.refl w g none)
  have HL := as_ hB.size
  clear hI
  have HW0 := as_ hB.size
  have HB := as_ hB
  clear hB
  have H : ((spec_l01Pick.f s0_0 s0_1 s0_2 (([1, 2, 4, 30] : List Int))).bind fun bt155 => (spec_l01DrawOf.l0 k a1 (([0] : List Int)) (([0] : List Int)) bt155.1 1 s0_0 bt155.2.1 bt155.2.2)) = some (r1, r2, r3) := h
  clear h
  obtain ⟨y146, hy146⟩ := ex_ (([0] : List Int) : List Int)
  replace H : ((spec_l01Pick.f s0_0 s0_1 s0_2 (([1, 2, 4, 30] : List Int))).bind fun bt155 => (spec_l01DrawOf.l0 k a1 y146 (([0] : List Int)) bt155.1 1 s0_0 bt155.2.1 bt155.2.2)) = some (r1, r2, r3) := yr_ hy146 H
  have Ny146 := as_ hy146
  clear hy146
  obtain ⟨y149, hy149⟩ := ex_ (([0] : List Int) : List Int)
  replace H : ((spec_l01Pick.f s0_0 s0_1 s0_2 (([1, 2, 4, 30] : List Int))).bind fun bt155 => (spec_l01DrawOf.l0 k a1 y146 y149 bt155.1 1 s0_0 bt155.2.1 bt155.2.2)) = some (r1, r2, r3) := yr_ hy149 H
  have Ny149 := as_ hy149
  clear hy149
  obtain ⟨y152, hy152⟩ := ex_ (([1, 2, 4, 30] : List Int) : List Int)
  replace H : ((spec_l01Pick.f s0_0 s0_1 s0_2 y152).bind fun bt155 => (spec_l01DrawOf.l0 k a1 y146 y149 bt155.1 1 s0_0 bt155.2.1 bt155.2.2)) = some (r1, r2, r3) := yr_ hy152 H
  have Ny152 := as_ hy152
  clear hy152
  obtain ⟨⟨t155, t156, t157⟩, A3, H⟩ := bo_ H
  dsimp only at H
  have H' := as_ H
  clear H
  go_enter Try.func81, Try.ntmps81
  go_wp2_with (first | ((with_reducible refine gate_dst (N := 4) rfl ?_); refine bx_ 4 #[.slice none 0 0] 26 ?_; intro gb145 hg w4 hbox hb; replace HB := as_ (below_step (b1_ HB ⟨IsS77.ge HI0.out⟩) hb); have BK145 := as_ (hbox); have GW145 := as_ ((by rw [hg]; exact (keep_size (w := w) (g := g) (row := none) (ku_ HK)) : w.heap.size ≤ gb145)); have GE145 := as_ ((Nat.le_trans HW0.out (by rw [hg]; exact (keep_size (w := w) (g := g) (row := none) (ku_ HK)) : w.heap.size ≤ gb145) : w0.heap.size ≤ gb145)); replace HK := as_ (KeepBut.trans (ku_ HK) (KeepBut.of_below hb g none) (.inl rfl)); have NB0_145 := as_ ((by rw [hg]; exact Nat.ne_of_lt (IsS77.lt (show IsS77 w0 _ g s0_0 s0_1 s0_2 from hi77_ HI0)) : g ≠ gb145)); have NB145_0 := as_ ((by rw [hg]; exact Nat.ne_of_gt (IsS77.lt (show IsS77 w0 _ g s0_0 s0_1 s0_2 from hi77_ HI0)) : gb145 ≠ g)); replace HI0 := as_ (IsS77.below (hi77_ HI0) hb); clear hb hbox hg) | ((with_reducible refine gate_dst (N := 10) rfl ?_); refine Kd.R_lit (Kd.int .i64) _ 2 ?hg (N := 10) ?hd (xs := ([0] : List Int)) (inner := [.int .i64 0]) (ok := fun _ => True) (okp := fun _ => True) ?hr ?hp (fun _ hk => hk) trivial (Below.refl _ _) (Nat.le_refl _) (by simp) ?_; (case hd => rfl); (case hg => rfl); (case hr => first | (go_simp; done) | (go_simp; rfl)); (case hp => exact (Reps.one (show Kd.M (Kd.int .i64) _ _ _ 0 [.int .i64 0] from rfl) (Reps.none _ _))); intro v147 w5 ho6 hb hg_ hnew_; clear hg_ hnew_; (first | rw [← Ny146.out] at ho6 | (simp only [Int.reduceToNat] at ho6; rw [← Ny146.out] at ho6)); have HO148 := as_ (Kd.R_lower ho6 (keep_size (w := w) (g := g) (row := none) (by repeat (first | (with_reducible first | exact HK.out | apply KeepBut.set_ | apply keep_drewN | apply keep_drew | apply keep_alloc | refine keep_far ?_ GW145.out _) | exact HK.out)))); replace BK145 := kb_ BK145 hb; replace HK := as_ (KeepBut.trans (by repeat (first | (with_reducible first | exact HK.out | apply KeepBut.set_ | apply keep_drewN | apply keep_drew | apply keep_alloc | refine keep_far ?_ GW145.out _) | exact HK.out)) (KeepBut.of_below hb g none) (.inl rfl)); replace HB := as_ (below_step (b2_ HB ⟨IsS77.ge HI0.out⟩ GE145) hb); replace HI0 := as_ (IsS77.below (by repeat (first | (with_reducible first | exact HI0.out | apply IsS77.alloc | apply IsS77.drewN | apply IsS77.drew | apply IsS77.set_1 | apply IsS77.set_2 | refine IsS77.far ?_ NB0_145.out _) | exact HI0.out)) hb); clear hb ho6) | ((with_reducible refine gate_dst (N := 11) rfl ?_); refine Kd.R_lit (Kd.int .i64) _ 2 ?hg (N := 11) ?hd (xs := ([0] : List Int)) (inner := [.int .i64 0]) (ok := fun _ => True) (okp := fun _ => True) ?hr ?hp (fun _ hk => hk) trivial (Below.refl _ _) (Nat.le_refl _) (by simp) ?_; (case hd => rfl); (case hg => rfl); (case hr => first | (go_simp; done) | (go_simp; rfl)); (case hp => exact (Reps.one (show Kd.M (Kd.int .i64) _ _ _ 0 [.int .i64 0] from rfl) (Reps.none _ _))); intro v150 w7 ho8 hb hg_ hnew_; clear hg_ hnew_; (first | rw [← Ny149.out] at ho8 | (simp only [Int.reduceToNat] at ho8; rw [← Ny149.out] at ho8)); have HO151 := as_ (Kd.R_lower (nRR_ ho8 HO148) (keep_size (w := w) (g := g) (row := none) (by repeat (first | (with_reducible first | exact HK.out | apply KeepBut.set_ | apply keep_drewN | apply keep_drew | apply keep_alloc | refine keep_far ?_ GW145.out _) | exact HK.out)))); replace HO148 := eR_ HO148 (Kd.R_base ho8) hb; replace BK145 := kb_ BK145 hb; replace HK := as_ (KeepBut.trans (by repeat (first | (with_reducible first | exact HK.out | apply KeepBut.set_ | apply keep_drewN | apply keep_drew | apply keep_alloc | refine keep_far ?_ GW145.out _) | exact HK.out)) (KeepBut.of_below hb g none) (.inl rfl)); replace HB := as_ (below_step (b2_ HB ⟨IsS77.ge HI0.out⟩ GE145) hb); replace HI0 := as_ (IsS77.below (by repeat (first | (with_reducible first | exact HI0.out | apply IsS77.alloc | apply IsS77.drewN | apply IsS77.drew | apply IsS77.set_1 | apply IsS77.set_2 | refine IsS77.far ?_ NB0_145.out _) | exact HI0.out)) hb); clear hb ho8) | ((with_reducible refine gate_dst (N := 13) rfl ?_); refine Kd.R_lit (Kd.int .i64) _ 2 ?hg (N := 13) ?hd (xs := ([1, 2, 4, 30] : List Int)) (inner := [.int .i64 1, .int .i64 2, .int .i64 4, .int .i64 30]) (ok := fun _ => True) (okp := fun _ => True) ?hr ?hp (fun _ hk => hk) trivial (Below.refl _ _) (Nat.le_refl _) (by simp) ?_; (case hd => rfl); (case hg => rfl); (case hr => first | (go_simp; done) | (go_simp; rfl)); (case hp => exact (Reps.one (show Kd.M (Kd.int .i64) _ _ _ 1 [.int .i64 1] from rfl) (Reps.one (show Kd.M (Kd.int .i64) _ _ _ 2 [.int .i64 2] from rfl) (Reps.one (show Kd.M (Kd.int .i64) _ _ _ 4 [.int .i64 4] from rfl) (Reps.one (show Kd.M (Kd.int .i64) _ _ _ 30 [.int .i64 30] from rfl) (Reps.none _ _)))))); intro v153 w9 ho10 hb hg_ hnew_; clear hg_ hnew_; (first | rw [← Ny152.out] at ho10 | (simp only [Int.reduceToNat] at ho10; rw [← Ny152.out] at ho10)); have HO154 := as_ (Kd.R_lower (nRR_ (nRR_ ho10 HO148) HO151) (keep_size (w := w) (g := g) (row := none) (by repeat (first | (with_reducible first | exact HK.out | apply KeepBut.set_ | apply keep_drewN | apply keep_drew | apply keep_alloc | refine keep_far ?_ GW145.out _) | exact HK.out)))); replace HO148 := eR_ HO148 (Kd.R_base ho10) hb; replace HO151 := eR_ HO151 (Kd.R_base ho10) hb; replace BK145 := kb_ BK145 hb; replace HK := as_ (KeepBut.trans (by repeat (first | (with_reducible first | exact HK.out | apply KeepBut.set_ | apply keep_drewN | apply keep_drew | apply keep_alloc | refine keep_far ?_ GW145.out _) | exact HK.out)) (KeepBut.of_below hb g none) (.inl rfl)); replace HB := as_ (below_step (b2_ HB ⟨IsS77.ge HI0.out⟩ GE145) hb); replace HI0 := as_ (IsS77.below (by repeat (first | (with_reducible first | exact HI0.out | apply IsS77.alloc | apply IsS77.drewN | apply IsS77.drew | apply IsS77.set_1 | apply IsS77.set_2 | refine IsS77.far ?_ NB0_145.out _) | exact HI0.out)) hb); clear hb ho10; obtain ⟨Ao11, co11, eo11⟩ := Kd.R_slice HO154.out; subst eo11) | ((with_reducible refine gate_callee (f := 64) rfl ?_); refine gL_ 14 Try.func64 #[.pointer (some ⟨g, 0, none⟩), .slice Ao11 y152.length co11] ?_; (with_reducible refine (spec_l01Pick.calls g s0_0 s0_1 s0_2 _ _ y152 t155 t156 t157 w0 _ ?side1 ?side2 ?side3 ?side4 ?side5 A3.out).mono ?_); (case side1 => repeat (first | (with_reducible first | exact HI0.out | apply IsS77.alloc | apply IsS77.drewN | apply IsS77.drew | apply IsS77.set_1 | apply IsS77.set_2 | refine IsS77.far ?_ NB0_145.out _) | exact HI0.out)); (case side2 => repeat (first | (with_reducible first | exact HB.out | apply below_alloc | apply pw_below_drewN | apply below_drew1 | refine below_set ?_ (IsS77.ge HI0.out) | refine below_set ?_ GE145.out) | exact HB.out)); (case side3 => exact cC_ (Kd.R_reads' HO154.out).2.2); (case side4 => exact (Kd.R_reads' HO154.out).2.1); (case side5 => exact far_slice (IsS77.own_ne HI0.out HO154.out (by decide))); rintro e w12 ⟨rfl, hi, hb, hk⟩; refine ⟨_, rfl, ?_⟩; replace BK145 := as_ (KeepBut.blk hk (g' := gb145) (o := .cells #[.slice none 0 0] 26 (0, 0)) (bk_ BK145) NB145_0.out (by simp)); replace HO148 := as_ (Kd.R_mono (Kd.R_keep (IsS77.apart (show IsS77 w0 _ g s0_0 s0_1 s0_2 from by repeat (first | (with_reducible first | exact HI0.out | apply IsS77.alloc | apply IsS77.drewN | apply IsS77.drew | apply IsS77.set_1 | apply IsS77.set_2 | refine IsS77.far ?_ NB0_145.out _) | exact HI0.out)) (bR_ HO148) (by decide)) hk (fun _ h => h.2)) (fun _ h => h.1)); replace HO151 := as_ (Kd.R_mono (Kd.R_keep (IsS77.apart (show IsS77 w0 _ g s0_0 s0_1 s0_2 from by repeat (first | (with_reducible first | exact HI0.out | apply IsS77.alloc | apply IsS77.drewN | apply IsS77.drew | apply IsS77.set_1 | apply IsS77.set_2 | refine IsS77.far ?_ NB0_145.out _) | exact HI0.out)) (bR_ HO151) (by decide)) hk (fun _ h => h.2)) (fun _ h => h.1)); replace HO154 := as_ (Kd.R_mono (Kd.R_keep (IsS77.apart (show IsS77 w0 _ g s0_0 s0_1 s0_2 from by repeat (first | (with_reducible first | exact HI0.out | apply IsS77.alloc | apply IsS77.drewN | apply IsS77.drew | apply IsS77.set_1 | apply IsS77.set_2 | refine IsS77.far ?_ NB0_145.out _) | exact HI0.out)) (bR_ HO154) (by decide)) hk (fun _ h => h.2)) (fun _ h => h.1)); replace HK := as_ (KeepBut.trans (by repeat (first | (with_reducible first | exact HK.out | apply KeepBut.set_ | apply keep_drewN | apply keep_drew | apply keep_alloc | refine keep_far ?_ GW145.out _) | exact HK.out)) hk (.inl rfl)); replace HB := as_ (hb); replace HI0 := as_ (hi); clear hb hk hi))
  go_loopg [5, 6, 8] k (fun kq v5 v6 v8 w' => ∃ (x5_1 : List Int) (x6_1 : List Int) (x8_1 : Int) (x1001_1 : Int) (x1002_1 : Int), v8 = .int .i64 x8_1 ∧ Aside0 (spec_l01DrawOf.l0 kq a1 x5_1 x6_1 t155 x8_1 s0_0 x1001_1 x1002_1 = some (r1, r2, r3)) ∧ Aside0 (kq ≤ k) ∧ Aside0 (Kd.R (Kd.int .i64) 2 w' w.heap.size (fun k_ => some k_ ≠ (v6 : Value).ownBlock) v5 x5_1) ∧ Aside0 (Kd.R (Kd.int .i64) 2 w' w.heap.size (fun k_ => some k_ ≠ (v5 : Value).ownBlock) v6 x6_1) ∧ Aside0 (w'.heap[gb145]? = some (.cells #[(.slice none 0 0)] 26 (0, 0))) ∧ Aside0 (IsS77 w0 w' g s0_0 x1001_1 x1002_1) ∧ Aside0 (KeepBut w w' g none) ∧ Aside0 (Below w0.heap.size w0 w'))
  case atStart => exact ⟨(y146), (y149), (1), (t156), (t157), rf_, H', ⟨Nat.le_refl _⟩, ⟨mR_ HO148⟩, ⟨mR_ HO151⟩, ⟨bk_ BK145⟩, ⟨by repeat (first | (with_reducible first | exact HI0.out | apply IsS77.alloc | apply IsS77.drewN | apply IsS77.drew | apply IsS77.set_1 | apply IsS77.set_2 | refine IsS77.far ?_ NB0_145.out _) | exact HI0.out)⟩, ⟨by repeat (first | (with_reducible first | exact HK.out | apply KeepBut.set_ | apply keep_drewN | apply keep_drew | apply keep_alloc | refine keep_far ?_ GW145.out _) | exact HK.out)⟩, ⟨b2_ HB ⟨IsS77.ge HI0.out⟩ GE145⟩⟩
  case round =>
    clear H'
    (try clear p2); (try clear c6); (try clear c8)
    obtain ⟨x5_1, x6_1, x8_1, x1001_1, x1002_1, rfl, HA, HK1, HO_5, HO_6, BK145, HI0, HK, HB⟩ := hrel
    cases gk with
    | zero => exact absurd HA.out (by simp [spec_l01DrawOf.l0])
    | succ k1 =>
      have H := HA.out
      clear HA
      simp only [spec_l01DrawOf.l0] at H
      by_cases c13 : x8_1 < a1
      rotate_left
      · rw [if_neg c13] at H
        have c13b0 := decide_eq_false c13
        clear c13
        simp only [Option.some.injEq, Prod.mk.injEq] at H
        obtain ⟨rfl, rfl, rfl⟩ := H
        obtain ⟨Ao56, co56, eo56⟩ := Kd.R_slice HO_5.out
        subst eo56
        have hnb57 := NB145_0.out
        have hnc57 := NB0_145.out
        obtain ⟨hcz58_0, hfz58_0⟩ := tc1_ BK145
        go_wp2
        refine bodyPost_ret (results_cell_row rfl _ _ gb145 26 #[.slice Ao56 x5_1.length co56] (0, 0) _ rfl (bp_ BK145) Try.underlying26 rfl (by kernel_rfl)) rfl ?_
        exact ⟨_, re_, fR1_ HO_5 BK145, by repeat (first | (with_reducible first | exact HI0.out | apply IsS77.alloc | apply IsS77.drewN | apply IsS77.drew | apply IsS77.set_1 | apply IsS77.set_2 | refine IsS77.far ?_ NB0_145.out _) | exact HI0.out), b2_ HB ⟨IsS77.ge HI0.out⟩ GE145, by repeat (first | (with_reducible first | exact HK.out | apply KeepBut.set_ | apply keep_drewN | apply keep_drew | apply keep_alloc | refine keep_far ?_ GW145.out _) | exact HK.out)⟩
      rw [if_pos c13] at H
      have c13b0 := decide_eq_true c13
      clear c13
      have H' := as_ H
      clear H
      obtain ⟨Ao14, co14, eo14⟩ := Kd.R_slice HO_6.out
      subst eo14
      go_wp2
      go_loopg [9] k1 (fun kq v9 w' => ∃ (x9_2 : Int) (x1001_2 : Int) (x1002_2 : Int), v9 = .int .i64 x9_2 ∧ Aside0 (spec_l01DrawOf.l1 kq a1 x5_1 x6_1 t155 x8_1 x9_2 s0_0 x1001_2 x1002_2 = some (r1, r2, r3)) ∧ Aside0 (kq ≤ k1) ∧ Aside0 (Kd.R (Kd.int .i64) 2 w' w.heap.size (fun k_ => some k_ ≠ ((.slice Ao14 x6_1.length co14) : Value).ownBlock) u5 x5_1) ∧ Aside0 (Kd.R (Kd.int .i64) 2 w' w.heap.size (fun k_ => some k_ ≠ (u5 : Value).ownBlock) (.slice Ao14 x6_1.length co14) x6_1) ∧ Aside0 (w'.heap[gb145]? = some (.cells #[(.slice none 0 0)] 26 (0, 0))) ∧ Aside0 (IsS77 w0 w' g s0_0 x1001_2 x1002_2) ∧ Aside0 (KeepBut w w' g none) ∧ Aside0 (Below w0.heap.size w0 w'))
      case atStart => exact ⟨(wrap64 ((x6_1.length : Int) - 1)), (x1001_1), (x1002_1), rf_, H', ⟨Nat.le_refl _⟩, ⟨bR_ HO_5⟩, ⟨bR_ HO_6⟩, ⟨bk_ BK145⟩, ⟨by repeat (first | (with_reducible first | exact HI0.out | apply IsS77.alloc | apply IsS77.drewN | apply IsS77.drew | apply IsS77.set_1 | apply IsS77.set_2 | refine IsS77.far ?_ NB0_145.out _) | exact HI0.out)⟩, ⟨by repeat (first | (with_reducible first | exact HK.out | apply KeepBut.set_ | apply keep_drewN | apply keep_drew | apply keep_alloc | refine keep_far ?_ GW145.out _) | exact HK.out)⟩, ⟨b2_ HB ⟨IsS77.ge HI0.out⟩ GE145⟩⟩
      case round =>
        clear H'
        (try clear c1); (try clear p2); (try clear c6); (try clear p6); (try clear c8); (try clear c13); (try clear c13b0); (try clear p2)
        obtain ⟨x9_2, x1001_2, x1002_2, rfl, HA, HK2, HO_5, HO_6, BK145, HI0, HK, HB⟩ := hrel
        cases gk with
        | zero => exact absurd HA.out (by simp [spec_l01DrawOf.l1])
        | succ k2 =>
          have H := HA.out
          clear HA
          simp only [spec_l01DrawOf.l1] at H
          by_cases c15 : x9_2 > 0
          · rw [if_pos c15] at H
            have c15b0 : decide (0 < x9_2) = true := decide_eq_true c15
            clear c15
            obtain ⟨⟨t158, t159, t160⟩, A16, H⟩ := bo_ H
            dsimp only at H
            by_cases c17 : t158 = 0
            · rw [if_pos c17] at H
              have c17b0 := beq_iff_eq.mpr c17
              have c17b1 := bne_eq_false_iff_eq.mpr c17
              clear c17
              have H' := as_ H
              clear H
              go_wp2_with (first | (go_at_call 63; (with_reducible refine (spec_l01Next.calls g s0_0 x1001_2 x1002_2 t155 t158 t159 t160 w0 _ ?side1 ?side2 A16.out).mono ?_); (case side1 => repeat (first | (with_reducible first | exact HI0.out | apply IsS77.alloc | apply IsS77.drewN | apply IsS77.drew | apply IsS77.set_1 | apply IsS77.set_2 | refine IsS77.far ?_ NB0_145.out _) | exact HI0.out)); (case side2 => repeat (first | (with_reducible first | exact HB.out | apply below_alloc | apply pw_below_drewN | apply below_drew1 | refine below_set ?_ (IsS77.ge HI0.out) | refine below_set ?_ GE145.out) | exact HB.out)); rintro e w18 ⟨rfl, hi, hb, hk⟩; replace HO_5 := as_ (Kd.R_mono (Kd.R_keep (IsS77.apart (show IsS77 w0 _ g s0_0 x1001_2 x1002_2 from by repeat (first | (with_reducible first | exact HI0.out | apply IsS77.alloc | apply IsS77.drewN | apply IsS77.drew | apply IsS77.set_1 | apply IsS77.set_2 | refine IsS77.far ?_ NB0_145.out _) | exact HI0.out)) (bR_ HO_5) (by decide)) hk (fun _ h => h.2)) (fun _ h => h.1)); replace HO_6 := as_ (Kd.R_mono (Kd.R_keep (IsS77.apart (show IsS77 w0 _ g s0_0 x1001_2 x1002_2 from by repeat (first | (with_reducible first | exact HI0.out | apply IsS77.alloc | apply IsS77.drewN | apply IsS77.drew | apply IsS77.set_1 | apply IsS77.set_2 | refine IsS77.far ?_ NB0_145.out _) | exact HI0.out)) (bR_ HO_6) (by decide)) hk (fun _ h => h.2)) (fun _ h => h.1)); replace BK145 := as_ (KeepBut.blk hk (g' := gb145) (o := .cells #[.slice none 0 0] 26 (0, 0)) (bk_ BK145) NB145_0.out (by simp)); replace HK := as_ (KeepBut.trans (by repeat (first | (with_reducible first | exact HK.out | apply KeepBut.set_ | apply keep_drewN | apply keep_drew | apply keep_alloc | refine keep_far ?_ GW145.out _) | exact HK.out)) hk (.inl rfl)); replace HB := as_ (hb); replace HI0 := as_ (hi); clear hb hk hi))
              go_roundg k2
              case measure => have := HK1.out; have := HK2.out; omega
              case rel => exact ⟨(wrap64 (x9_2 - 1)), (t159), (t160), rf_, H', ⟨by have := HK1.out; have := HK2.out; omega⟩, ⟨bR_ HO_5⟩, ⟨bR_ HO_6⟩, ⟨bk_ BK145⟩, ⟨by repeat (first | (with_reducible first | exact HI0.out | apply IsS77.alloc | apply IsS77.drewN | apply IsS77.drew | apply IsS77.set_1 | apply IsS77.set_2 | refine IsS77.far ?_ NB0_145.out _) | exact HI0.out)⟩, ⟨by repeat (first | (with_reducible first | exact HK.out | apply KeepBut.set_ | apply keep_drewN | apply keep_drew | apply keep_alloc | refine keep_far ?_ GW145.out _) | exact HK.out)⟩, ⟨b2_ HB ⟨IsS77.ge HI0.out⟩ GE145⟩⟩
            rw [if_neg c17] at H
            have c17b0 := beq_eq_false_iff_ne.mpr c17
            have c17b1 := bne_iff_ne.mpr c17
            obtain ⟨c19b0, H⟩ := ite_d H
            obtain ⟨c20b0, H⟩ := ite_d H
            obtain ⟨c21b0, H⟩ := ite_d H
            obtain ⟨c22b0, H⟩ := ite_d H
            obtain ⟨y163, hy163⟩ := ex_ (x5_1.set ((rd x6_1 x9_2) : Int).toNat (wrap64 ((rd x5_1 (rd x6_1 x9_2)) + 1)) : List Int)
            replace H : (if 0 ≤ (wrap64 (x9_2 + 1)) then (if (wrap64 (x9_2 + 1)) ≤ (x6_1.length : Int) then ((spec_l01Own.f (x6_1.take ((wrap64 (x9_2 + 1)) : Int).toNat)).bind fun t168 => (if t168.length < 17592186044416 then (if y163.length < 17592186044416 then (spec_l01DrawOf.l0 k2 a1 (y163 ++ [0]) (t168 ++ [x8_1]) t155 (wrap64 (x8_1 + 1)) s0_0 t159 t160) else (none)) else (none))) else (none)) else (none)) = some (r1, r2, r3) := yr_ hy163 H
            have Ny163 := as_ hy163
            clear hy163
            obtain ⟨ji24, hji24⟩ : ∃ j_ : Int, (wrap64 (x9_2 + 1)) = j_ := ⟨_, rfl⟩
            replace H : (if 0 ≤ (ji24) then (if (ji24) ≤ (x6_1.length : Int) then ((spec_l01Own.f (x6_1.take ((ji24) : Int).toNat)).bind fun t168 => (if t168.length < 17592186044416 then (if y163.length < 17592186044416 then (spec_l01DrawOf.l0 k2 a1 (y163 ++ [0]) (t168 ++ [x8_1]) t155 (wrap64 (x8_1 + 1)) s0_0 t159 t160) else (none)) else (none))) else (none)) else (none)) = some (r1, r2, r3) := by first | (rw [hji24] at H; exact H) | (simp only [hji24] at H ⊢; exact H)
            (try rw [hji24] at A16)
            have hji24w : (IntKind.i64.wrap (x9_2 + 1)) = ji24 := (i64_w _).trans hji24
            obtain ⟨c25, H⟩ := ite_s H
            have c25b0 := eq_true c25
            have c25b1 := decide_eq_true c25
            clear c25
            obtain ⟨c26, H⟩ := ite_s H
            have c26b0 := eq_true c26
            have c26b1 := decide_eq_true c26
            clear c26
            obtain ⟨y164, hy164⟩ := ex_ (x6_1.take ((ji24) : Int).toNat : List Int)
            replace H : ((spec_l01Own.f y164).bind fun t168 => (if t168.length < 17592186044416 then (if y163.length < 17592186044416 then (spec_l01DrawOf.l0 k2 a1 (y163 ++ [0]) (t168 ++ [x8_1]) t155 (wrap64 (x8_1 + 1)) s0_0 t159 t160) else (none)) else (none))) = some (r1, r2, r3) := yr_ hy164 H
            have Ny164 := as_ hy164
            clear hy164
            obtain ⟨t168, A27, H⟩ := bo_ H
            obtain ⟨c28, H⟩ := ite_s H
            have LMc28 := as_ c28
            clear c28
            obtain ⟨y171, hy171⟩ := ex_ (t168 ++ [x8_1] : List Int)
            replace H : (if y163.length < 17592186044416 then (spec_l01DrawOf.l0 k2 a1 (y163 ++ [0]) y171 t155 (wrap64 (x8_1 + 1)) s0_0 t159 t160) else (none)) = some (r1, r2, r3) := yr_ hy171 H
            have Ny171 := as_ hy171
            clear hy171
            obtain ⟨c29, H⟩ := ite_s H
            have LMc29 := as_ c29
            clear c29
            obtain ⟨y174, hy174⟩ := ex_ (y163 ++ [0] : List Int)
            replace H : (spec_l01DrawOf.l0 k2 a1 y174 y171 t155 (wrap64 (x8_1 + 1)) s0_0 t159 t160) = some (r1, r2, r3) := yr_ hy174 H
            have Ny174 := as_ hy174
            clear hy174
            have H' := as_ H
            clear H
            go_wp2_with (first | (go_at_call 63; (with_reducible refine (spec_l01Next.calls g s0_0 x1001_2 x1002_2 t155 t158 t159 t160 w0 _ ?side1 ?side2 A16.out).mono ?_); (case side1 => repeat (first | (with_reducible first | exact HI0.out | apply IsS77.alloc | apply IsS77.drewN | apply IsS77.drew | apply IsS77.set_1 | apply IsS77.set_2 | refine IsS77.far ?_ NB0_145.out _) | exact HI0.out)); (case side2 => repeat (first | (with_reducible first | exact HB.out | apply below_alloc | apply pw_below_drewN | apply below_drew1 | refine below_set ?_ (IsS77.ge HI0.out) | refine below_set ?_ GE145.out) | exact HB.out)); rintro e w30 ⟨rfl, hi, hb, hk⟩; replace HO_5 := as_ (Kd.R_mono (Kd.R_keep (IsS77.apart (show IsS77 w0 _ g s0_0 x1001_2 x1002_2 from by repeat (first | (with_reducible first | exact HI0.out | apply IsS77.alloc | apply IsS77.drewN | apply IsS77.drew | apply IsS77.set_1 | apply IsS77.set_2 | refine IsS77.far ?_ NB0_145.out _) | exact HI0.out)) (bR_ HO_5) (by decide)) hk (fun _ h => h.2)) (fun _ h => h.1)); replace HO_6 := as_ (Kd.R_mono (Kd.R_keep (IsS77.apart (show IsS77 w0 _ g s0_0 x1001_2 x1002_2 from by repeat (first | (with_reducible first | exact HI0.out | apply IsS77.alloc | apply IsS77.drewN | apply IsS77.drew | apply IsS77.set_1 | apply IsS77.set_2 | refine IsS77.far ?_ NB0_145.out _) | exact HI0.out)) (bR_ HO_6) (by decide)) hk (fun _ h => h.2)) (fun _ h => h.1)); replace BK145 := as_ (KeepBut.blk hk (g' := gb145) (o := .cells #[.slice none 0 0] 26 (0, 0)) (bk_ BK145) NB145_0.out (by simp)); replace HK := as_ (KeepBut.trans (by repeat (first | (with_reducible first | exact HK.out | apply KeepBut.set_ | apply keep_drewN | apply keep_drew | apply keep_alloc | refine keep_far ?_ GW145.out _) | exact HK.out)) hk (.inl rfl)); replace HB := as_ (hb); replace HI0 := as_ (hi); clear hb hk hi; have p161 : 0 ≤ (x9_2 : Int) := od_; have q161 : x9_2 < (x6_1.length : Int) := od_; obtain ⟨ad161, e161, hx161_0⟩ := Kd.at_int (Kd.R_reads' HO_6.out).2.2 x9_2 p161 q161; cases e161; replace p161 := eq_true p161; replace q161 := eq_true q161; obtain ⟨Ao31, co31, eo31⟩ := Kd.R_slice HO_5.out; subst eo31; have p162 : 0 ≤ ((rd x6_1 x9_2) : Int) := od_; have q162 : (rd x6_1 x9_2) < (x5_1.length : Int) := od_; obtain ⟨ad162, e162, hx162_0⟩ := Kd.at_int (Kd.R_reads' HO_5.out).2.2 (rd x6_1 x9_2) p162 q162; cases e162; replace p162 := eq_true p162; replace q162 := eq_true q162; have p23 : 0 ≤ ((rd x6_1 x9_2) : Int) := od_; have q23 : ((rd x6_1 x9_2) : Int) < ((x5_1.length : Int) : Int) := od_; obtain ⟨go23, co23, eo23, gb23, gl23, cl23, HG23⟩ := Kd.R_form HO_5.out (by omega); (first | cases eo23 | (injection eo23 with ea_ en_ ec_; (first | subst ea_ | (injection ea_ with ea_; subst ea_)); subst ec_; clear en_)); have GB23 := as_ gb23; have GG23 := as_ HG23; clear gb23 gl23 HG23; (first | simp only [add_plain] at hx162_0 | skip); obtain ⟨hx23_0, hf23_0⟩ := Kd.R_celln 0 HO_5.out ((rd x6_1 x9_2) : Int) p23 q23; replace p23 := eq_true p23; replace q23 := eq_true q23; obtain ⟨hy32_, hz32_⟩ := Kd.R_celln 0 HO_5.out ((rd x6_1 x9_2) : Int) (od_) (od_); have HP32 := Kd.R_putg HO_5.out ((rd x6_1 x9_2) : Int) (wrap64 ((rd x5_1 (rd x6_1 x9_2)) + 1))) | ((with_reducible refine gate_store (t := 2) (p := 41) rfl ?_); refine store_event (t := 2) (p := 41) (v := ?vo_w33) (w1 := (w30.setCell ⟨go23, ((rd x6_1 x9_2) : Int).toNat, none⟩ (.int .i64 (wrap64 ((rd x5_1 (rd x6_1 x9_2)) + 1))))) ?hg ?ho ?hn ?hr ?_; (case ho => rfl); (case hg => rfl); (case hn => rfl); (case hr => first | (go_simp; done) | (go_simp; rfl)); intro w33 hw; have hg : w30.grownBy w33 (some go23) := (by rw [hw]; exact HP32.2); have hp_ : Kd.R (Kd.int .i64) 2 w33 w.heap.size (fun k_ => some k_ ≠ (.slice (some ad161) x6_1.length co14 : Value).ownBlock) (.slice (some ⟨go23, 0, none⟩) x5_1.length co31) y163 := (by rw [hw, Ny163.out]; exact HP32.1); clear HP32; replace HO_6 := as_ (Kd.R_after (v := (.slice (some ⟨go23, 0, none⟩) x5_1.length co31)) (v1 := (.slice (some ⟨go23, 0, none⟩) x5_1.length co31)) (ok := (fun _ => True)) (mR_ HO_6) hg (.inl rfl)); replace BK145 := as_ (blk_grown (bk_ BK145) hg (Kd.R_ne HO_5.out BK145.out (by decide))); replace HI0 := as_ (IsS77.grown (by repeat (first | (with_reducible first | exact HI0.out | apply IsS77.alloc | apply IsS77.drewN | apply IsS77.drew | apply IsS77.set_1 | apply IsS77.set_2 | refine IsS77.far ?_ NB0_145.out _) | exact HI0.out)) hg (IsS77.own_ne HI0.out HO_5.out (by decide))); replace HB := as_ ((by rw [hw]; exact below_set (HB.out) (Nat.le_trans HL.out GB23.out) : Below w0.heap.size w0 w33)); replace HK := as_ (KeepBut.trans (by repeat (first | (with_reducible first | exact HK.out | apply KeepBut.set_ | apply keep_drewN | apply keep_drew | apply keep_alloc | refine keep_far ?_ GW145.out _) | exact HK.out)) (KeepBut.of_grown hg g) (Kd.R_base2 HO_5.out)); replace HO_5 := as_ (hp_); clear hg hw hp_; have q34 : ((ji24) : Int) ≤ ((x6_1.length : Int) : Int) := od_; obtain ⟨i034, hi034, _, hsz34, _⟩ := info_parts info2; have hroom34 : x6_1.length ≤ co14 := (Kd.R_reads' HO_6.out).2.1; have hC34 : Kd.C (Kd.int .i64) _ (some ad161) x6_1.length x6_1 := (Kd.R_reads' HO_6.out).2.2; have hcut34 := cut_to (P := Try.prog) 24 2 .i64 Try.underlying24 hi034 (some ad161) x6_1.length co14 (ji24) (od_) q34 hroom34; have hr34 := Kd.C_take (m := ((ji24) : Int).toNat) hC34 (by omega); have hy34 : y164.length = ((ji24) : Int).toNat := (by rw [Ny164.out, List.length_take]; omega); rw [← Ny164.out] at hr34; rw [← hy34] at hcut34; have HR167 := as_ hr34; have HC167 := as_ (show y164.length ≤ co14 from by omega); clear hr34 hC34 hroom34 hi034 hsz34; have KY34 := as_ hy34; clear hy34; have KL34 := as_ (show ((ji24) : Int).toNat ≤ x6_1.length from by omega); replace q34 := eq_true q34) | ((with_reducible refine gate_callee (f := 87) rfl ?_); refine gL_ 46 Try.func87 #[.slice (some ad161) y164.length co14] ?_; (with_reducible refine (spec_l01Own.calls _ _ y164 t168 _ ?side1 ?side2 A27.out).mono ?_); (case side1 => repeat (first | exact (by repeat (first | (with_reducible exact HR167.out) | (with_reducible refine Kd.C_alloc ?_ _) | (with_reducible refine Kd.C_drewN ?_ _) | (with_reducible refine Kd.C_drew ?_) | exact HR167.out)) | (with_reducible refine Kd.C_alloc ?_ _) | (with_reducible refine Kd.C_drewN ?_ _) | (with_reducible refine Kd.C_drew ?_))); (case side2 => exact HC167.out); rintro e w35 ⟨v169, rfl, ho0, hb⟩; refine ⟨_, rfl, ?_⟩; have HO170 := as_ (Kd.R_lower (nRR_ (nRR_ ho0 HO_5) HO_6) (keep_size (w := w) (g := g) (row := none) (by repeat (first | (with_reducible first | exact HK.out | apply KeepBut.set_ | apply keep_drewN | apply keep_drew | apply keep_alloc | refine keep_far ?_ GW145.out _) | exact HK.out)))); replace HO_5 := eR_ HO_5 (Kd.R_base ho0) hb; replace HO_6 := eR_ HO_6 (Kd.R_base ho0) hb; replace BK145 := kb_ BK145 hb; replace HR167 := as_ (Kd.C_below (by repeat (first | (with_reducible exact HR167.out) | (with_reducible refine Kd.C_alloc ?_ _) | (with_reducible refine Kd.C_drewN ?_ _) | (with_reducible refine Kd.C_drew ?_) | exact HR167.out)) hb); replace HK := as_ (KeepBut.trans (by repeat (first | (with_reducible first | exact HK.out | apply KeepBut.set_ | apply keep_drewN | apply keep_drew | apply keep_alloc | refine keep_far ?_ GW145.out _) | exact HK.out)) (KeepBut.of_below hb g none) (.inl rfl)); replace HB := as_ (below_step (b2_ HB ⟨IsS77.ge HI0.out⟩ GE145) hb); replace HI0 := as_ (IsS77.below (by repeat (first | (with_reducible first | exact HI0.out | apply IsS77.alloc | apply IsS77.drewN | apply IsS77.drew | apply IsS77.set_1 | apply IsS77.set_2 | refine IsS77.far ?_ NB0_145.out _) | exact HI0.out)) hb); clear hb ho0) | ((with_reducible refine gate_builtin (b := .append) (xs := #[.tmp 46, .tmp 48]) rfl ?_); at_builtin; refine Kd.R_append (Kd.int .i64) w.heap.size rfl (.tmp 46) (.tmp 48) 24 2 (.int .i64 0) 8 rfl Try.underlying24 info2 rfl (by decide) (by omega) v169 t168 x8_1 [.int .i64 x8_1] (fun k_ => some k_ ≠ (.slice (some ⟨go23, 0, none⟩) x5_1.length co31 : Value).ownBlock ∧ some k_ ≠ (.slice (some ad161) x6_1.length co14 : Value).ownBlock) (fun _ => False) rfl rfl ?aP (fun _ hk => hk.elim) ?aF ?aO (Below.refl _ _) ?aS ?aL ?_; (case aP => exact rfl); (case aF => exact (fun k_ hk => ⟨Kd.fresh' (Kd.R_lt (bR_ HO_5)) k_ hk, Kd.fresh' (Kd.R_lt (bR_ HO_6)) k_ hk⟩)); (case aO => exact (mR_ HO170)); (case aS => exact (keep_size (w := w) (g := g) (row := none) (by repeat (first | (with_reducible first | exact HK.out | apply KeepBut.set_ | apply keep_drewN | apply keep_drew | apply keep_alloc | refine keep_far ?_ GW145.out _) | exact HK.out)))); (case aL => have := LMc28.out; omega); intro v172 w36 ho hb hg hat; rw [← Ny171.out] at ho; replace HO_5 := as_ (Kd.R_after (ok := (fun k_ => some k_ ≠ (.slice (some ad161) x6_1.length co14 : Value).ownBlock)) (bR_ HO_5) hg hat); replace BK145 := as_ (blk_grown (bk_ BK145) hg (Kd.R_ne HO170.out BK145.out (by decide))); replace HB := as_ (below_weaken (b2_ HB ⟨IsS77.ge HI0.out⟩ GE145) HL.out hb); replace HI0 := as_ (IsS77.grown (by repeat (first | (with_reducible first | exact HI0.out | apply IsS77.alloc | apply IsS77.drewN | apply IsS77.drew | apply IsS77.set_1 | apply IsS77.set_2 | refine IsS77.far ?_ NB0_145.out _) | exact HI0.out)) hg (IsS77.own_ne HI0.out HO170.out (by decide))); replace HK := as_ (KeepBut.trans (by repeat (first | (with_reducible first | exact HK.out | apply KeepBut.set_ | apply keep_drewN | apply keep_drew | apply keep_alloc | refine keep_far ?_ GW145.out _) | exact HK.out)) (KeepBut.of_grown hg g) (Kd.R_base2 HO170.out)); replace HR167 := as_ ((show Kd.C (Kd.int .i64) w36 (some ad161) y164.length y164 from by rw [Ny164.out]; exact Kd.C_take (m := ((ji24) : Int).toNat) ((Kd.R_reads' (Kd.R_after (ok := (fun k_ => some k_ ≠ (.slice (some ⟨go23, 0, none⟩) x5_1.length co31 : Value).ownBlock)) (mR_ HO_6) hg hat)).2.2) KL34.out)); replace HO_6 := as_ (Kd.R_after (ok := (fun k_ => some k_ ≠ (.slice (some ⟨go23, 0, none⟩) x5_1.length co31 : Value).ownBlock)) (mR_ HO_6) hg hat); have HO173 := as_ (ho); clear HO170; clear ho hb hg hat) | ((with_reducible refine gate_builtin (b := .append) (xs := #[.tmp 50, .tmp 51]) rfl ?_); at_builtin; refine Kd.R_append (Kd.int .i64) w.heap.size rfl (.tmp 50) (.tmp 51) 24 2 (.int .i64 0) 8 rfl Try.underlying24 info2 rfl (by decide) (by omega) (.slice (some ⟨go23, 0, none⟩) x5_1.length co31) y163 0 [.int .i64 0] (fun k_ => some k_ ≠ (.slice (some ad161) x6_1.length co14 : Value).ownBlock ∧ some k_ ≠ (v172 : Value).ownBlock) (fun _ => False) rfl rfl ?aP (fun _ hk => hk.elim) ?aF ?aO (Below.refl _ _) ?aS ?aL ?_; (case aP => exact rfl); (case aF => exact (fun k_ hk => ⟨Kd.fresh' (Kd.R_lt (bR_ HO_6)) k_ hk, Kd.fresh' (Kd.R_lt (bR_ HO173)) k_ hk⟩)); (case aO => exact (bR_ HO_5)); (case aS => exact (keep_size (w := w) (g := g) (row := none) (by repeat (first | (with_reducible first | exact HK.out | apply KeepBut.set_ | apply keep_drewN | apply keep_drew | apply keep_alloc | refine keep_far ?_ GW145.out _) | exact HK.out)))); (case aL => have := LMc29.out; omega); intro v175 w37 ho hb hg hat; rw [← Ny174.out] at ho; replace BK145 := as_ (blk_grown (bk_ BK145) hg (Kd.R_ne HO_5.out BK145.out (by decide))); replace HO173 := as_ (Kd.R_after (ok := (fun k_ => some k_ ≠ (.slice (some ad161) x6_1.length co14 : Value).ownBlock)) (mR_ HO173) hg hat); replace HB := as_ (below_weaken (b2_ HB ⟨IsS77.ge HI0.out⟩ GE145) HL.out hb); replace HI0 := as_ (IsS77.grown (by repeat (first | (with_reducible first | exact HI0.out | apply IsS77.alloc | apply IsS77.drewN | apply IsS77.drew | apply IsS77.set_1 | apply IsS77.set_2 | refine IsS77.far ?_ NB0_145.out _) | exact HI0.out)) hg (IsS77.own_ne HI0.out HO_5.out (by decide))); replace HK := as_ (KeepBut.trans (by repeat (first | (with_reducible first | exact HK.out | apply KeepBut.set_ | apply keep_drewN | apply keep_drew | apply keep_alloc | refine keep_far ?_ GW145.out _) | exact HK.out)) (KeepBut.of_grown hg g) (Kd.R_base2 HO_5.out)); replace HR167 := as_ ((show Kd.C (Kd.int .i64) w37 (some ad161) y164.length y164 from by rw [Ny164.out]; exact Kd.C_take (m := ((ji24) : Int).toNat) ((Kd.R_reads' (Kd.R_after (ok := (fun k_ => some k_ ≠ (v172 : Value).ownBlock)) (mR_ HO_6) hg hat)).2.2) KL34.out)); replace HO_6 := as_ (Kd.R_after (ok := (fun k_ => some k_ ≠ (v172 : Value).ownBlock)) (mR_ HO_6) hg hat); have HO176 := as_ (ho); clear HO_5; clear ho hb hg hat))
            go_roundg k2
            case measure => have := HK1.out; have := HK2.out; omega
            case rel => exact ⟨(y174), (y171), (wrap64 (x8_1 + 1)), (t159), (t160), rf_, H', ⟨by have := HK1.out; have := HK2.out; omega⟩, ⟨mR_ HO176⟩, ⟨mR_ HO173⟩, ⟨bk_ BK145⟩, ⟨by repeat (first | (with_reducible first | exact HI0.out | apply IsS77.alloc | apply IsS77.drewN | apply IsS77.drew | apply IsS77.set_1 | apply IsS77.set_2 | refine IsS77.far ?_ NB0_145.out _) | exact HI0.out)⟩, ⟨by repeat (first | (with_reducible first | exact HK.out | apply KeepBut.set_ | apply keep_drewN | apply keep_drew | apply keep_alloc | refine keep_far ?_ GW145.out _) | exact HK.out)⟩, ⟨b2_ HB ⟨IsS77.ge HI0.out⟩ GE145⟩⟩
          rw [if_neg c15] at H
          have c15b0 : decide (0 < x9_2) = false := decide_eq_false c15
          clear c15
          obtain ⟨c38b0, H⟩ := ite_d H
          obtain ⟨c39b0, H⟩ := ite_d H
          obtain ⟨c40b0, H⟩ := ite_d H
          obtain ⟨c41b0, H⟩ := ite_d H
          obtain ⟨y179, hy179⟩ := ex_ (x5_1.set ((rd x6_1 x9_2) : Int).toNat (wrap64 ((rd x5_1 (rd x6_1 x9_2)) + 1)) : List Int)
          replace H : (if 0 ≤ (wrap64 (x9_2 + 1)) then (if (wrap64 (x9_2 + 1)) ≤ (x6_1.length : Int) then ((spec_l01Own.f (x6_1.take ((wrap64 (x9_2 + 1)) : Int).toNat)).bind fun t184 => (if t184.length < 17592186044416 then (if y179.length < 17592186044416 then (spec_l01DrawOf.l0 k2 a1 (y179 ++ [0]) (t184 ++ [x8_1]) t155 (wrap64 (x8_1 + 1)) s0_0 x1001_2 x1002_2) else (none)) else (none))) else (none)) else (none)) = some (r1, r2, r3) := yr_ hy179 H
          have Ny179 := as_ hy179
          clear hy179
          obtain ⟨ji43, hji43⟩ : ∃ j_ : Int, (wrap64 (x9_2 + 1)) = j_ := ⟨_, rfl⟩
          replace H : (if 0 ≤ (ji43) then (if (ji43) ≤ (x6_1.length : Int) then ((spec_l01Own.f (x6_1.take ((ji43) : Int).toNat)).bind fun t184 => (if t184.length < 17592186044416 then (if y179.length < 17592186044416 then (spec_l01DrawOf.l0 k2 a1 (y179 ++ [0]) (t184 ++ [x8_1]) t155 (wrap64 (x8_1 + 1)) s0_0 x1001_2 x1002_2) else (none)) else (none))) else (none)) else (none)) = some (r1, r2, r3) := by first | (rw [hji43] at H; exact H) | (simp only [hji43] at H ⊢; exact H)
          have hji43w : (IntKind.i64.wrap (x9_2 + 1)) = ji43 := (i64_w _).trans hji43
          obtain ⟨c44, H⟩ := ite_s H
          have c44b0 := eq_true c44
          have c44b1 := decide_eq_true c44
          clear c44
          obtain ⟨c45, H⟩ := ite_s H
          have c45b0 := eq_true c45
          have c45b1 := decide_eq_true c45
          clear c45
          obtain ⟨y180, hy180⟩ := ex_ (x6_1.take ((ji43) : Int).toNat : List Int)
          replace H : ((spec_l01Own.f y180).bind fun t184 => (if t184.length < 17592186044416 then (if y179.length < 17592186044416 then (spec_l01DrawOf.l0 k2 a1 (y179 ++ [0]) (t184 ++ [x8_1]) t155 (wrap64 (x8_1 + 1)) s0_0 x1001_2 x1002_2) else (none)) else (none))) = some (r1, r2, r3) := yr_ hy180 H
          have Ny180 := as_ hy180
          clear hy180
          obtain ⟨t184, A46, H⟩ := bo_ H
          obtain ⟨c47, H⟩ := ite_s H
          have LMc47 := as_ c47
          clear c47
          obtain ⟨y187, hy187⟩ := ex_ (t184 ++ [x8_1] : List Int)
          replace H : (if y179.length < 17592186044416 then (spec_l01DrawOf.l0 k2 a1 (y179 ++ [0]) y187 t155 (wrap64 (x8_1 + 1)) s0_0 x1001_2 x1002_2) else (none)) = some (r1, r2, r3) := yr_ hy187 H
          have Ny187 := as_ hy187
          clear hy187
          obtain ⟨c48, H⟩ := ite_s H
          have LMc48 := as_ c48
          clear c48
          obtain ⟨y190, hy190⟩ := ex_ (y179 ++ [0] : List Int)
          replace H : (spec_l01DrawOf.l0 k2 a1 y190 y187 t155 (wrap64 (x8_1 + 1)) s0_0 x1001_2 x1002_2) = some (r1, r2, r3) := yr_ hy190 H
          have Ny190 := as_ hy190
          clear hy190
          have H' := as_ H
          clear H
          have p177 : 0 ≤ (x9_2 : Int) := od_
          have q177 : x9_2 < (x6_1.length : Int) := od_
          obtain ⟨ad177, e177, hx177_0⟩ := Kd.at_int (Kd.R_reads' HO_6.out).2.2 x9_2 p177 q177
          cases e177
          replace p177 := eq_true p177
          replace q177 := eq_true q177
          obtain ⟨Ao49, co49, eo49⟩ := Kd.R_slice HO_5.out
          subst eo49
          have p178 : 0 ≤ ((rd x6_1 x9_2) : Int) := od_
          have q178 : (rd x6_1 x9_2) < (x5_1.length : Int) := od_
          obtain ⟨ad178, e178, hx178_0⟩ := Kd.at_int (Kd.R_reads' HO_5.out).2.2 (rd x6_1 x9_2) p178 q178
          cases e178
          replace p178 := eq_true p178
          replace q178 := eq_true q178
          have p42 : 0 ≤ ((rd x6_1 x9_2) : Int) := od_
          have q42 : ((rd x6_1 x9_2) : Int) < ((x5_1.length : Int) : Int) := od_
          obtain ⟨go42, co42, eo42, gb42, gl42, cl42, HG42⟩ := Kd.R_form HO_5.out (by omega)
          (first | cases eo42 | (injection eo42 with ea_ en_ ec_; (first | subst ea_ | (injection ea_ with ea_; subst ea_)); subst ec_; clear en_))
          have GB42 := as_ gb42
          have GG42 := as_ HG42
          clear gb42 gl42 HG42
          (first | simp only [add_plain] at hx178_0 | skip)
          obtain ⟨hx42_0, hf42_0⟩ := Kd.R_celln 0 HO_5.out ((rd x6_1 x9_2) : Int) p42 q42
          replace p42 := eq_true p42
          replace q42 := eq_true q42
          have HP50 := Kd.R_putg HO_5.out ((rd x6_1 x9_2) : Int) (wrap64 ((rd x5_1 (rd x6_1 x9_2)) + 1))
          go_wp2_with (first | ((with_reducible refine gate_store (t := 2) (p := 41) rfl ?_); refine store_event (t := 2) (p := 41) (v := ?vo_w51) (w1 := (wr.setCell ⟨go42, ((rd x6_1 x9_2) : Int).toNat, none⟩ (.int .i64 (wrap64 ((rd x5_1 (rd x6_1 x9_2)) + 1))))) ?hg ?ho ?hn ?hr ?_; (case ho => rfl); (case hg => rfl); (case hn => rfl); (case hr => first | (go_simp; done) | (go_simp; rfl)); intro w51 hw; have hg : wr.grownBy w51 (some go42) := (by rw [hw]; exact HP50.2); have hp_ : Kd.R (Kd.int .i64) 2 w51 w.heap.size (fun k_ => some k_ ≠ (.slice (some ad177) x6_1.length co14 : Value).ownBlock) (.slice (some ⟨go42, 0, none⟩) x5_1.length co49) y179 := (by rw [hw, Ny179.out]; exact HP50.1); clear HP50; replace HO_6 := as_ (Kd.R_after (v := (.slice (some ⟨go42, 0, none⟩) x5_1.length co49)) (v1 := (.slice (some ⟨go42, 0, none⟩) x5_1.length co49)) (ok := (fun _ => True)) (mR_ HO_6) hg (.inl rfl)); replace BK145 := as_ (blk_grown (bk_ BK145) hg (Kd.R_ne HO_5.out BK145.out (by decide))); replace HI0 := as_ (IsS77.grown (by repeat (first | (with_reducible first | exact HI0.out | apply IsS77.alloc | apply IsS77.drewN | apply IsS77.drew | apply IsS77.set_1 | apply IsS77.set_2 | refine IsS77.far ?_ NB0_145.out _) | exact HI0.out)) hg (IsS77.own_ne HI0.out HO_5.out (by decide))); replace HB := as_ ((by rw [hw]; exact below_set (HB.out) (Nat.le_trans HL.out GB42.out) : Below w0.heap.size w0 w51)); replace HK := as_ (KeepBut.trans (by repeat (first | (with_reducible first | exact HK.out | apply KeepBut.set_ | apply keep_drewN | apply keep_drew | apply keep_alloc | refine keep_far ?_ GW145.out _) | exact HK.out)) (KeepBut.of_grown hg g) (Kd.R_base2 HO_5.out)); replace HO_5 := as_ (hp_); clear hg hw hp_; have q52 : ((ji43) : Int) ≤ ((x6_1.length : Int) : Int) := od_; obtain ⟨i052, hi052, _, hsz52, _⟩ := info_parts info2; have hroom52 : x6_1.length ≤ co14 := (Kd.R_reads' HO_6.out).2.1; have hC52 : Kd.C (Kd.int .i64) _ (some ad177) x6_1.length x6_1 := (Kd.R_reads' HO_6.out).2.2; have hcut52 := cut_to (P := Try.prog) 24 2 .i64 Try.underlying24 hi052 (some ad177) x6_1.length co14 (ji43) (od_) q52 hroom52; have hr52 := Kd.C_take (m := ((ji43) : Int).toNat) hC52 (by omega); have hy52 : y180.length = ((ji43) : Int).toNat := (by rw [Ny180.out, List.length_take]; omega); rw [← Ny180.out] at hr52; rw [← hy52] at hcut52; have HR183 := as_ hr52; have HC183 := as_ (show y180.length ≤ co14 from by omega); clear hr52 hC52 hroom52 hi052 hsz52; have KY52 := as_ hy52; clear hy52; have KL52 := as_ (show ((ji43) : Int).toNat ≤ x6_1.length from by omega); replace q52 := eq_true q52) | ((with_reducible refine gate_callee (f := 87) rfl ?_); refine gL_ 46 Try.func87 #[.slice (some ad177) y180.length co14] ?_; (with_reducible refine (spec_l01Own.calls _ _ y180 t184 _ ?side1 ?side2 A46.out).mono ?_); (case side1 => repeat (first | exact (by repeat (first | (with_reducible exact HR183.out) | (with_reducible refine Kd.C_alloc ?_ _) | (with_reducible refine Kd.C_drewN ?_ _) | (with_reducible refine Kd.C_drew ?_) | exact HR183.out)) | (with_reducible refine Kd.C_alloc ?_ _) | (with_reducible refine Kd.C_drewN ?_ _) | (with_reducible refine Kd.C_drew ?_))); (case side2 => exact HC183.out); rintro e w53 ⟨v185, rfl, ho0, hb⟩; refine ⟨_, rfl, ?_⟩; have HO186 := as_ (Kd.R_lower (nRR_ (nRR_ ho0 HO_5) HO_6) (keep_size (w := w) (g := g) (row := none) (by repeat (first | (with_reducible first | exact HK.out | apply KeepBut.set_ | apply keep_drewN | apply keep_drew | apply keep_alloc | refine keep_far ?_ GW145.out _) | exact HK.out)))); replace HO_5 := eR_ HO_5 (Kd.R_base ho0) hb; replace HO_6 := eR_ HO_6 (Kd.R_base ho0) hb; replace BK145 := kb_ BK145 hb; replace HR183 := as_ (Kd.C_below (by repeat (first | (with_reducible exact HR183.out) | (with_reducible refine Kd.C_alloc ?_ _) | (with_reducible refine Kd.C_drewN ?_ _) | (with_reducible refine Kd.C_drew ?_) | exact HR183.out)) hb); replace HK := as_ (KeepBut.trans (by repeat (first | (with_reducible first | exact HK.out | apply KeepBut.set_ | apply keep_drewN | apply keep_drew | apply keep_alloc | refine keep_far ?_ GW145.out _) | exact HK.out)) (KeepBut.of_below hb g none) (.inl rfl)); replace HB := as_ (below_step (b2_ HB ⟨IsS77.ge HI0.out⟩ GE145) hb); replace HI0 := as_ (IsS77.below (by repeat (first | (with_reducible first | exact HI0.out | apply IsS77.alloc | apply IsS77.drewN | apply IsS77.drew | apply IsS77.set_1 | apply IsS77.set_2 | refine IsS77.far ?_ NB0_145.out _) | exact HI0.out)) hb); clear hb ho0) | ((with_reducible refine gate_builtin (b := .append) (xs := #[.tmp 46, .tmp 48]) rfl ?_); at_builtin; refine Kd.R_append (Kd.int .i64) w.heap.size rfl (.tmp 46) (.tmp 48) 24 2 (.int .i64 0) 8 rfl Try.underlying24 info2 rfl (by decide) (by omega) v185 t184 x8_1 [.int .i64 x8_1] (fun k_ => some k_ ≠ (.slice (some ⟨go42, 0, none⟩) x5_1.length co49 : Value).ownBlock ∧ some k_ ≠ (.slice (some ad177) x6_1.length co14 : Value).ownBlock) (fun _ => False) rfl rfl ?aP (fun _ hk => hk.elim) ?aF ?aO (Below.refl _ _) ?aS ?aL ?_; (case aP => exact rfl); (case aF => exact (fun k_ hk => ⟨Kd.fresh' (Kd.R_lt (bR_ HO_5)) k_ hk, Kd.fresh' (Kd.R_lt (bR_ HO_6)) k_ hk⟩)); (case aO => exact (mR_ HO186)); (case aS => exact (keep_size (w := w) (g := g) (row := none) (by repeat (first | (with_reducible first | exact HK.out | apply KeepBut.set_ | apply keep_drewN | apply keep_drew | apply keep_alloc | refine keep_far ?_ GW145.out _) | exact HK.out)))); (case aL => have := LMc47.out; omega); intro v188 w54 ho hb hg hat; rw [← Ny187.out] at ho; replace HO_5 := as_ (Kd.R_after (ok := (fun k_ => some k_ ≠ (.slice (some ad177) x6_1.length co14 : Value).ownBlock)) (bR_ HO_5) hg hat); replace BK145 := as_ (blk_grown (bk_ BK145) hg (Kd.R_ne HO186.out BK145.out (by decide))); replace HB := as_ (below_weaken (b2_ HB ⟨IsS77.ge HI0.out⟩ GE145) HL.out hb); replace HI0 := as_ (IsS77.grown (by repeat (first | (with_reducible first | exact HI0.out | apply IsS77.alloc | apply IsS77.drewN | apply IsS77.drew | apply IsS77.set_1 | apply IsS77.set_2 | refine IsS77.far ?_ NB0_145.out _) | exact HI0.out)) hg (IsS77.own_ne HI0.out HO186.out (by decide))); replace HK := as_ (KeepBut.trans (by repeat (first | (with_reducible first | exact HK.out | apply KeepBut.set_ | apply keep_drewN | apply keep_drew | apply keep_alloc | refine keep_far ?_ GW145.out _) | exact HK.out)) (KeepBut.of_grown hg g) (Kd.R_base2 HO186.out)); replace HR183 := as_ ((show Kd.C (Kd.int .i64) w54 (some ad177) y180.length y180 from by rw [Ny180.out]; exact Kd.C_take (m := ((ji43) : Int).toNat) ((Kd.R_reads' (Kd.R_after (ok := (fun k_ => some k_ ≠ (.slice (some ⟨go42, 0, none⟩) x5_1.length co49 : Value).ownBlock)) (mR_ HO_6) hg hat)).2.2) KL52.out)); replace HO_6 := as_ (Kd.R_after (ok := (fun k_ => some k_ ≠ (.slice (some ⟨go42, 0, none⟩) x5_1.length co49 : Value).ownBlock)) (mR_ HO_6) hg hat); have HO189 := as_ (ho); clear HO186; clear ho hb hg hat) | ((with_reducible refine gate_builtin (b := .append) (xs := #[.tmp 50, .tmp 51]) rfl ?_); at_builtin; refine Kd.R_append (Kd.int .i64) w.heap.size rfl (.tmp 50) (.tmp 51) 24 2 (.int .i64 0) 8 rfl Try.underlying24 info2 rfl (by decide) (by omega) (.slice (some ⟨go42, 0, none⟩) x5_1.length co49) y179 0 [.int .i64 0] (fun k_ => some k_ ≠ (.slice (some ad177) x6_1.length co14 : Value).ownBlock ∧ some k_ ≠ (v188 : Value).ownBlock) (fun _ => False) rfl rfl ?aP (fun _ hk => hk.elim) ?aF ?aO (Below.refl _ _) ?aS ?aL ?_; (case aP => exact rfl); (case aF => exact (fun k_ hk => ⟨Kd.fresh' (Kd.R_lt (bR_ HO_6)) k_ hk, Kd.fresh' (Kd.R_lt (bR_ HO189)) k_ hk⟩)); (case aO => exact (bR_ HO_5)); (case aS => exact (keep_size (w := w) (g := g) (row := none) (by repeat (first | (with_reducible first | exact HK.out | apply KeepBut.set_ | apply keep_drewN | apply keep_drew | apply keep_alloc | refine keep_far ?_ GW145.out _) | exact HK.out)))); (case aL => have := LMc48.out; omega); intro v191 w55 ho hb hg hat; rw [← Ny190.out] at ho; replace BK145 := as_ (blk_grown (bk_ BK145) hg (Kd.R_ne HO_5.out BK145.out (by decide))); replace HO189 := as_ (Kd.R_after (ok := (fun k_ => some k_ ≠ (.slice (some ad177) x6_1.length co14 : Value).ownBlock)) (mR_ HO189) hg hat); replace HB := as_ (below_weaken (b2_ HB ⟨IsS77.ge HI0.out⟩ GE145) HL.out hb); replace HI0 := as_ (IsS77.grown (by repeat (first | (with_reducible first | exact HI0.out | apply IsS77.alloc | apply IsS77.drewN | apply IsS77.drew | apply IsS77.set_1 | apply IsS77.set_2 | refine IsS77.far ?_ NB0_145.out _) | exact HI0.out)) hg (IsS77.own_ne HI0.out HO_5.out (by decide))); replace HK := as_ (KeepBut.trans (by repeat (first | (with_reducible first | exact HK.out | apply KeepBut.set_ | apply keep_drewN | apply keep_drew | apply keep_alloc | refine keep_far ?_ GW145.out _) | exact HK.out)) (KeepBut.of_grown hg g) (Kd.R_base2 HO_5.out)); replace HR183 := as_ ((show Kd.C (Kd.int .i64) w55 (some ad177) y180.length y180 from by rw [Ny180.out]; exact Kd.C_take (m := ((ji43) : Int).toNat) ((Kd.R_reads' (Kd.R_after (ok := (fun k_ => some k_ ≠ (v188 : Value).ownBlock)) (mR_ HO_6) hg hat)).2.2) KL52.out)); replace HO_6 := as_ (Kd.R_after (ok := (fun k_ => some k_ ≠ (v188 : Value).ownBlock)) (mR_ HO_6) hg hat); have HO192 := as_ (ho); clear HO_5; clear ho hb hg hat))
          go_roundg k2
          case measure => have := HK1.out; have := HK2.out; omega
          case rel => exact ⟨(y190), (y187), (wrap64 (x8_1 + 1)), (x1001_2), (x1002_2), rf_, H', ⟨by have := HK1.out; have := HK2.out; omega⟩, ⟨mR_ HO192⟩, ⟨mR_ HO189⟩, ⟨bk_ BK145⟩, ⟨by repeat (first | (with_reducible first | exact HI0.out | apply IsS77.alloc | apply IsS77.drewN | apply IsS77.drew | apply IsS77.set_1 | apply IsS77.set_2 | refine IsS77.far ?_ NB0_145.out _) | exact HI0.out)⟩, ⟨by repeat (first | (with_reducible first | exact HK.out | apply KeepBut.set_ | apply keep_drewN | apply keep_drew | apply keep_alloc | refine keep_far ?_ GW145.out _) | exact HK.out)⟩, ⟨b2_ HB ⟨IsS77.ge HI0.out⟩ GE145⟩⟩

def spec_l01Small.f (k : Nat) (s0_0 : List Int) (s0_1 : Int) (s0_2 : Int) : Option (List Int × Int × Int) := (spec_l01Next.f s0_0 s0_1 s0_2 6).bind fun bt194 => ((spec_l01DrawOf.f k s0_0 bt194.2.1 bt194.2.2 (wrap64 (1 + bt194.1))).bind fun bt197 => (some (bt197.1, bt197.2.1, bt197.2.2)))
theorem spec_l01Small.calls (k : Nat) (g : Nat) (s0_0 : List Int) (s0_1 : Int) (s0_2 : Int) (r1 : List Int) (r2 : Int) (r3 : Int) (w0 w : World) (hI : IsS77 w0 w g s0_0 s0_1 s0_2) (hB : Below w0.heap.size w0 w) (h : spec_l01Small.f k s0_0 s0_1 s0_2 = some (r1, r2, r3)) :
    Calls Try.prog 83 #[.pointer (some ⟨g, 0, none⟩)] w fun e w' => ∃ v0_ : Value, e = .returned (.agg #[v0_]) ∧ Kd.R (Kd.int .i64) 2 w' w.heap.size (fun _ => True) v0_ r1 ∧ IsS77 w0 w' g s0_0 r2 r3 ∧ Below w0.heap.size w0 w' ∧ KeepBut w w' g none := by
  have hu26 := Try.underlying26
  have HI0 := as_ hI
  have HK := as_ (KeepBut.refl w g none)
  have HL := as_ hB.size
  clear hI
  have HW0 := as_ hB.size
  have HB := as_ hB
  clear hB
  have H : ((spec_l01Next.f s0_0 s0_1 s0_2 6).bind fun bt194 => ((spec_l01DrawOf.f k s0_0 bt194.2.1 bt194.2.2 (wrap64 (1 + bt194.1))).bind fun bt197 => (some (bt197.1, bt197.2.1, bt197.2.2)))) = some (r1, r2, r3) := h
  clear h
  obtain ⟨⟨t194, t195, t196⟩, A2, H⟩ := bo_ H
  dsimp only at H
  obtain ⟨⟨t197, t200, t201⟩, A3, H⟩ := bo_ H
  dsimp only at H
  simp only [Option.some.injEq, Prod.mk.injEq] at H
  obtain ⟨rfl, rfl, rfl⟩ := H
  go_enter Try.func83, Try.ntmps83
  go_wp2_with (first | ((with_reducible refine gate_dst (N := 2) rfl ?_); refine bx_ 2 #[.slice none 0 0] 26 ?_; intro gb193 hg w4 hbox hb; replace HB := as_ (below_step (b1_ HB ⟨IsS77.ge HI0.out⟩) hb); have BK193 := as_ (hbox); have GW193 := as_ ((by rw [hg]; exact (keep_size (w := w) (g := g) (row := none) (ku_ HK)) : w.heap.size ≤ gb193)); have GE193 := as_ ((Nat.le_trans HW0.out (by rw [hg]; exact (keep_size (w := w) (g := g) (row := none) (ku_ HK)) : w.heap.size ≤ gb193) : w0.heap.size ≤ gb193)); replace HK := as_ (KeepBut.trans (ku_ HK) (KeepBut.of_below hb g none) (.inl rfl)); have NB0_193 := as_ ((by rw [hg]; exact Nat.ne_of_lt (IsS77.lt (show IsS77 w0 _ g s0_0 s0_1 s0_2 from hi77_ HI0)) : g ≠ gb193)); have NB193_0 := as_ ((by rw [hg]; exact Nat.ne_of_gt (IsS77.lt (show IsS77 w0 _ g s0_0 s0_1 s0_2 from hi77_ HI0)) : gb193 ≠ g)); replace HI0 := as_ (IsS77.below (hi77_ HI0) hb); clear hb hbox hg) | ((with_reducible refine gate_callee (f := 63) rfl ?_); refine gL_ 5 Try.func63 #[.pointer (some ⟨g, 0, none⟩), .int .i64 6] ?_; (with_reducible refine (spec_l01Next.calls g s0_0 s0_1 s0_2 6 t194 t195 t196 w0 _ ?side1 ?side2 A2.out).mono ?_); (case side1 => repeat (first | (with_reducible first | exact HI0.out | apply IsS77.alloc | apply IsS77.drewN | apply IsS77.drew | apply IsS77.set_1 | apply IsS77.set_2 | refine IsS77.far ?_ NB0_193.out _) | exact HI0.out)); (case side2 => repeat (first | (with_reducible first | exact HB.out | apply below_alloc | apply pw_below_drewN | apply below_drew1 | refine below_set ?_ (IsS77.ge HI0.out) | refine below_set ?_ GE193.out) | exact HB.out)); rintro e w5 ⟨rfl, hi, hb, hk⟩; refine ⟨_, rfl, ?_⟩; replace BK193 := as_ (KeepBut.blk hk (g' := gb193) (o := .cells #[.slice none 0 0] 26 (0, 0)) (bk_ BK193) NB193_0.out (by simp)); replace HK := as_ (KeepBut.trans (by repeat (first | (with_reducible first | exact HK.out | apply KeepBut.set_ | apply keep_drewN | apply keep_drew | apply keep_alloc | refine keep_far ?_ GW193.out _) | exact HK.out)) hk (.inl rfl)); replace HB := as_ (hb); replace HI0 := as_ (hi); clear hb hk hi) | ((with_reducible refine gate_callee (f := 81) rfl ?_); refine gL_ 7 Try.func81 #[.pointer (some ⟨g, 0, none⟩), .int .i64 (wrap64 (1 + t194))] ?_; (with_reducible refine (spec_l01DrawOf.calls k g s0_0 t195 t196 (wrap64 (1 + t194)) t197 t200 t201 w0 _ ?side1 ?side2 A3.out).mono ?_); (case side1 => repeat (first | (with_reducible first | exact HI0.out | apply IsS77.alloc | apply IsS77.drewN | apply IsS77.drew | apply IsS77.set_1 | apply IsS77.set_2 | refine IsS77.far ?_ NB0_193.out _) | exact HI0.out)); (case side2 => repeat (first | (with_reducible first | exact HB.out | apply below_alloc | apply pw_below_drewN | apply below_drew1 | refine below_set ?_ (IsS77.ge HI0.out) | refine below_set ?_ GE193.out) | exact HB.out)); rintro e w6 ⟨v198, rfl, ho0, hi, hb, hk⟩; refine ⟨_, rfl, ?_⟩; replace BK193 := as_ (KeepBut.blk hk (g' := gb193) (o := .cells #[.slice none 0 0] 26 (0, 0)) (bk_ BK193) NB193_0.out (by simp)); have HO199 := as_ (Kd.R_lower ho0 (keep_size (w := w) (g := g) (row := none) (by repeat (first | (with_reducible first | exact HK.out | apply KeepBut.set_ | apply keep_drewN | apply keep_drew | apply keep_alloc | refine keep_far ?_ GW193.out _) | exact HK.out)))); replace HK := as_ (KeepBut.trans (by repeat (first | (with_reducible first | exact HK.out | apply KeepBut.set_ | apply keep_drewN | apply keep_drew | apply keep_alloc | refine keep_far ?_ GW193.out _) | exact HK.out)) hk (.inl rfl)); replace HB := as_ (hb); replace HI0 := as_ (hi); clear hb hk hi ho0; obtain ⟨Ao7, co7, eo7⟩ := Kd.R_slice HO199.out; subst eo7; have hnb8 := NB193_0.out; have hnc8 := NB0_193.out; obtain ⟨hcz9_0, hfz9_0⟩ := tc1_ BK193))
  refine bodyPost_ret (results_cell_row rfl _ _ gb193 26 #[.slice Ao7 t197.length co7] (0, 0) _ rfl (bp_ BK193) Try.underlying26 rfl (by kernel_rfl)) rfl ?_
  exact ⟨_, re_, fR1_ HO199 BK193, by repeat (first | (with_reducible first | exact HI0.out | apply IsS77.alloc | apply IsS77.drewN | apply IsS77.drew | apply IsS77.set_1 | apply IsS77.set_2 | refine IsS77.far ?_ NB0_193.out _) | exact HI0.out), b2_ HB ⟨IsS77.ge HI0.out⟩ GE193, by repeat (first | (with_reducible first | exact HK.out | apply KeepBut.set_ | apply keep_drewN | apply keep_drew | apply keep_alloc | refine keep_far ?_ GW193.out _) | exact HK.out)⟩

def spec_l01Join.l0 : Nat → List (S26) → List Int → Int → Option (List Int × Bool)
  | 0, _, _, _ => none
  | k + 1, x0, x4, x5 => if x5 < (x0.length : Int) then (if 0 ≤ x5 then (if x4.length + ((rd_T26 x0 x5).f0).length < 17592186044416 then ((some (x4 ++ ((rd_T26 x0 x5).f0) : List Int)).bind fun y207 => (if (y207.length : Int) > 24 then (some (([] : List Int), false)) else (spec_l01Join.l0 k x0 y207 (wrap64 (x5 + 1))))) else (none)) else (none)) else (some (x4, true))
def spec_l01Join.f (k : Nat) (l0 : List (S26)) : Option (List Int × Bool) := spec_l01Join.l0 k l0 (([(l0.length : Int)] : List Int)) 0
theorem spec_l01Join.calls (k : Nat) (A0 : Option Addr) (c0 : Nat) (l0 : List (S26)) (r1 : List Int) (r2 : Bool) (w : World) (hr0 : Kd.C k26 w A0 l0.length l0) (hc0 : l0.length ≤ c0) (h : spec_l01Join.f k l0 = some (r1, r2)) :
    Calls Try.prog 84 #[.slice A0 l0.length c0] w fun e w' => ∃ v0_ : Value, e = .returned (.tuple #[.agg #[v0_], .bool r2]) ∧ Kd.R (Kd.int .i64) 2 w' w.heap.size (fun _ => True) v0_ r1 ∧ Below w.heap.size w w' := by
  have hu26 := Try.underlying26
  have HR0 := as_ hr0
  have HC0 := as_ hc0
  clear hr0 hc0
  have HB := as_ (Below.refl w.heap.size w)
  have H : (spec_l01Join.l0 k l0 (([(l0.length : Int)] : List Int)) 0) = some (r1, r2) := h
  clear h
  obtain ⟨y203, hy203⟩ := ex_ (([(l0.length : Int)] : List Int) : List Int)
  replace H : (spec_l01Join.l0 k l0 y203 0) = some (r1, r2) := yr_ hy203 H
  have Ny203 := as_ hy203
  clear hy203
  have H' := as_ H
  clear H
  go_enter Try.func84, Try.ntmps84
  go_wp2_with (first | ((with_reducible refine gate_dst (N := 2) rfl ?_); refine bx_ 2 #[.slice none 0 0] 26 ?_; intro gb202 hg w2 hbox hb; have BK202 := as_ (hbox); have GW202 := gz_ hg (b_ HB); have GE202 := GW202; replace HB := as_ (below_step (b_ HB) hb); clear hb hbox hg) | ((with_reducible refine gate_dst (N := 8) rfl ?_); refine Kd.R_lit (Kd.int .i64) _ 2 ?hg (N := 8) ?hd (xs := ([(l0.length : Int)] : List Int)) (inner := [.int .i64 (l0.length : Int)]) (ok := fun _ => True) (okp := fun _ => True) ?hr ?hp (fun _ hk => hk) trivial (Below.refl _ _) (Nat.le_refl _) (by simp) ?_; (case hd => rfl); (case hg => rfl); (case hr => first | (go_simp; done) | (go_simp; rfl)); (case hp => exact (Reps.one (show Kd.M (Kd.int .i64) _ _ _ (l0.length : Int) [.int .i64 (l0.length : Int)] from rfl) (Reps.none _ _))); intro v204 w3 ho4 hb hg_ hnew_; clear hg_ hnew_; (first | rw [← Ny203.out] at ho4 | (simp only [Int.reduceToNat] at ho4; rw [← Ny203.out] at ho4)); have HO205 := as_ (Kd.R_lower ho4 (below_size (b1_ HB GE202))); replace BK202 := kb_ BK202 hb; replace HB := as_ (below_step (b1_ HB GE202) hb); clear hb ho4))
  go_loopg [4, 5] k (fun kq v4 v5 w' => ∃ (x4_1 : List Int) (x5_1 : Int), v5 = .int .i64 x5_1 ∧ Aside0 (spec_l01Join.l0 kq l0 x4_1 x5_1 = some (r1, r2)) ∧ Aside0 (kq ≤ k) ∧ Aside0 (Kd.R (Kd.int .i64) 2 w' w.heap.size (fun _ => True) v4 x4_1) ∧ Aside0 (w'.heap[gb202]? = some (.cells #[(.slice none 0 0)] 26 (0, 0))) ∧ Aside0 (Below w.heap.size w w'))
  case atStart => exact ⟨(y203), (0), rf_, H', ⟨Nat.le_refl _⟩, ⟨bR_ HO205⟩, ⟨bk_ BK202⟩, ⟨b1_ HB GE202⟩⟩
  case round =>
    clear H'
    try clear p2
    obtain ⟨x4_1, x5_1, rfl, HA, HK1, HO_4, BK202, HB⟩ := hrel
    cases gk with
    | zero => exact absurd HA.out (by simp [spec_l01Join.l0])
    | succ k1 =>
      have H := HA.out
      clear HA
      simp only [spec_l01Join.l0] at H
      by_cases c5 : x5_1 < (l0.length : Int)
      rotate_left
      · rw [if_neg c5] at H
        have c5b0 := decide_eq_false c5
        clear c5
        simp only [Option.some.injEq, Prod.mk.injEq] at H
        obtain ⟨rfl, rfl⟩ := H
        obtain ⟨Ao14, co14, eo14⟩ := Kd.R_slice HO_4.out
        subst eo14
        obtain ⟨hcz15_0, hfz15_0⟩ := tc1_ BK202
        go_wp2
        refine bodyPost_ret (results_ct rfl _ _ gb202 26 #[.slice Ao14 x4_1.length co14] (0, 0) _ rfl (bp_ BK202) Try.underlying26 rfl (by kernel_rfl)) rfl ?_
        exact ⟨_, re_, fR1_ HO_4 BK202, b1_ HB GE202⟩
      rw [if_pos c5] at H
      have c5b0 := decide_eq_true c5
      clear c5
      obtain ⟨c6b0, H⟩ := ite_d H
      obtain ⟨c7, H⟩ := ite_s H
      have LMc7 := as_ c7
      clear c7
      obtain ⟨y207, hy207⟩ := ex_ (x4_1 ++ ((rd_T26 l0 x5_1).f0) : List Int)
      replace H : (if (y207.length : Int) > 24 then (some (([] : List Int), false)) else (spec_l01Join.l0 k1 l0 y207 (wrap64 (x5_1 + 1)))) = some (r1, r2) := yr_ hy207 H
      have Ny207 := as_ hy207
      clear hy207
      by_cases c8 : (y207.length : Int) > 24
      · rw [if_pos c8] at H
        have c8b0 := decide_eq_true c8
        have c8b1 : decide (24 < y207.length) = true := decide_eq_true (by omega)
        clear c8
        simp only [Option.some.injEq, Prod.mk.injEq] at H
        obtain ⟨rfl, rfl⟩ := H
        have p206 : 0 ≤ (x5_1 : Int) := od_
        have q206 : x5_1 < (l0.length : Int) := od_
        obtain ⟨ad206, A206_0, c206_0, e206, hx206_0, hl206_0, hi206_0⟩ := at_T26 HR0.out x5_1 p206 q206
        cases e206
        try replace hx206_0 := hx_ HB hx206_0
        have HR206_0 := as_ hi206_0
        have HC206_0 := as_ hl206_0
        clear hi206_0 hl206_0
        replace p206 := eq_true p206
        replace q206 := eq_true q206
        go_wp2_with (first | ((with_reducible refine gate_builtin (b := .append) (xs := #[.tmp 15, .tmp 20]) rfl ?_); at_builtin; refine Kd.R_append_rows (Kd.int .i64) (w0 := w) w.heap.size rfl (.tmp 15) (.tmp 20) 24 2 (.int .i64 0) 8 rfl Try.underlying24 info2 rfl (by decide) (by omega) u4 x4_1 ((rd_T26 l0 x5_1).f0) _ _ _ (fun _ => True) (fun _ => False) rfl rfl ?aO ?aR (fun _ _ h => h) (fun _ h => h.elim) ?aF ?aB ?aS ?aL ?_; (case aR => exact bC_ HR206_0 HB); (case aB => exact (b1_ HB GE202)); (case aF => exact (fun _ _ => trivial)); (case aO => exact (bR_ HO_4)); (case aS => exact (below_size (b1_ HB GE202))); (case aL => have := LMc7.out; omega); intro v208 w9 ho hb hg hat; rw [← Ny207.out] at ho; replace BK202 := as_ (blk_grown (bk_ BK202) hg (Kd.R_ne HO_4.out BK202.out (by decide))); replace HB := as_ (hb); have HO209 := as_ (ho); clear HO_4; clear ho hb hg hat; obtain ⟨Ao10, co10, eo10⟩ := Kd.R_slice HO209.out; subst eo10; obtain ⟨hcz11_0, hfz11_0⟩ := tc1_ BK202))
        refine bodyPost_ret (results_ct rfl _ _ gb202 26 #[.slice none 0 0] (0, 0) _ rfl (bp_ BK202) Try.underlying26 rfl (by kernel_rfl)) rfl ?_
        exact ⟨_, re_, by first | exact Kd.R_nil _ _ _ _ _ | exact Kd.N_nil _ _ _ _ _ | exact Kd.V_nil _ _ _ _ _ | exact Kd.Q_nil _ _ _ _ _ | exact Kd.S_nil _ _ _ _ _, b1_ HB GE202⟩
      rw [if_neg c8] at H
      have c8b0 := decide_eq_false c8
      have c8b1 : decide (24 < y207.length) = false := decide_eq_false (by omega)
      clear c8
      have H' := as_ H
      clear H
      have p206 : 0 ≤ (x5_1 : Int) := od_
      have q206 : x5_1 < (l0.length : Int) := od_
      obtain ⟨ad206, A206_0, c206_0, e206, hx206_0, hl206_0, hi206_0⟩ := at_T26 HR0.out x5_1 p206 q206
      cases e206
      try replace hx206_0 := hx_ HB hx206_0
      have HR206_0 := as_ hi206_0
      have HC206_0 := as_ hl206_0
      clear hi206_0 hl206_0
      replace p206 := eq_true p206
      replace q206 := eq_true q206
      go_wp2_with (first | ((with_reducible refine gate_builtin (b := .append) (xs := #[.tmp 15, .tmp 20]) rfl ?_); at_builtin; refine Kd.R_append_rows (Kd.int .i64) (w0 := w) w.heap.size rfl (.tmp 15) (.tmp 20) 24 2 (.int .i64 0) 8 rfl Try.underlying24 info2 rfl (by decide) (by omega) u4 x4_1 ((rd_T26 l0 x5_1).f0) _ _ _ (fun _ => True) (fun _ => False) rfl rfl ?aO ?aR (fun _ _ h => h) (fun _ h => h.elim) ?aF ?aB ?aS ?aL ?_; (case aR => exact bC_ HR206_0 HB); (case aB => exact (b1_ HB GE202)); (case aF => exact (fun _ _ => trivial)); (case aO => exact (bR_ HO_4)); (case aS => exact (below_size (b1_ HB GE202))); (case aL => have := LMc7.out; omega); intro v208 w12 ho hb hg hat; rw [← Ny207.out] at ho; replace BK202 := as_ (blk_grown (bk_ BK202) hg (Kd.R_ne HO_4.out BK202.out (by decide))); replace HB := as_ (hb); have HO209 := as_ (ho); clear HO_4; clear ho hb hg hat; obtain ⟨Ao13, co13, eo13⟩ := Kd.R_slice HO209.out; subst eo13))
      go_roundg k1
      case measure => have := HK1.out; omega
      case rel => exact ⟨(y207), (wrap64 (x5_1 + 1)), rf_, H', om_ HK1, ⟨bR_ HO209⟩, ⟨bk_ BK202⟩, ⟨b1_ HB GE202⟩⟩

def shK (v : Value) (hv : v.oneCell' = true) (x : S26) : Kd S26 := {
  sz := 1
  E := []
  K := fun _ y cs => cs = [v] ∧ y = x
  M := fun _ _ _ y cs => cs = [v] ∧ y = x
  K_len := fun h => by rw [h.1]; rfl
  K_one := fun h u hu => by rw [h.1, List.mem_singleton] at hu; rw [hu]; exact hv
  K_below := fun _ h => h
  K_of_M := fun h => h
  M_mono := fun _ h => h
  M_bound := fun h => h
  M_move := fun _ h => h
  M_lower := fun _ h => h }
theorem sh_C {w : World} {A A4 : Option Addr} {l : List Int} {c n4 c4 : Nat} {hv} {e base base2 e2 : Nat} {ok ok2 : Nat → Prop} {xs : List S26} (h : Kd.S (shK (.slice A l.length c) hv (⟨l⟩ : S26)) e w base ok (.slice A4 n4 c4) xs) (hr : Kd.R (Kd.int .i64) e2 w base2 ok2 (.slice A l.length c) l) : Kd.C k26 w A4 xs.length xs :=
  ReadsRow.imp_ (show ReadsRow (fun x cs => cs = [Value.slice A l.length c] ∧ x = (⟨l⟩ : S26)) 1 w A4 xs.length xs from (Kd.S_reads' h).2.2) (Below.refl _ _) (fun p cs hp => by
    obtain ⟨rfl, rfl⟩ := hp
    exact k26_mk w _ (Kd.R_reads' hr).2.1 (Kd.R_reads' hr).2.2)
def spec_l01Draw.l0 : Nat → List (S26) → Int → List Int → Int → Int → List Int → Option (List Int × Int × Int)
  | 0, _, _, _, _, _, _ => none
  | k + 1, x4, x5, x1000, x1001, x1002, x228000 => if x5 > 0 then (if x4.length < 5864062014805 then (spec_l01Draw.l0 k (x4 ++ [(⟨x228000⟩ : S26)]) (wrap64 (x5 - 1)) x1000 x1001 x1002 x228000) else (none)) else ((spec_l01Join.f k x4).bind fun bt240 => (if bt240.2 = true then (some (bt240.1, x1001, x1002)) else ((spec_l01Pick.f x1000 x1001 x1002 (([8, 12, 24] : List Int))).bind fun bt248 => ((spec_l01Next.f x1000 bt248.2.1 bt248.2.2 bt248.1).bind fun bt251 => ((spec_l01DrawOf.f k x1000 bt251.2.1 bt251.2.2 (wrap64 (1 + bt251.1))).bind fun bt254 => (some (bt254.1, bt254.2.1, bt254.2.2)))))))
def spec_l01Draw.f (k : Nat) (s0_0 : List Int) (s0_1 : Int) (s0_2 : Int) : Option (List Int × Int × Int) := (spec_l01Next.f s0_0 s0_1 s0_2 5).bind fun bt211 => (if bt211.1 = 0 then ((spec_l01Small.f k s0_0 bt211.2.1 bt211.2.2).bind fun bt214 => (some (bt214.1, bt214.2.1, bt214.2.2))) else (if bt211.1 = 1 then ((spec_l01Next.f s0_0 bt211.2.1 bt211.2.2 5).bind fun bt219 => ((spec_l01DrawOf.f k s0_0 bt219.2.1 bt219.2.2 (wrap64 (1 + bt219.1))).bind fun bt222 => ((spec_l01Next.f s0_0 bt222.2.1 bt222.2.2 5).bind fun bt231 => (spec_l01Draw.l0 k (([] : List (S26))) bt231.1 s0_0 bt231.2.1 bt231.2.2 bt222.1)))) else ((spec_l01Pick.f s0_0 bt211.2.1 bt211.2.2 (([8, 12, 24] : List Int))).bind fun bt262 => ((spec_l01Next.f s0_0 bt262.2.1 bt262.2.2 bt262.1).bind fun bt265 => ((spec_l01DrawOf.f k s0_0 bt265.2.1 bt265.2.2 (wrap64 (1 + bt265.1))).bind fun bt268 => (some (bt268.1, bt268.2.1, bt268.2.2)))))))
theorem spec_l01Draw.calls (k : Nat) (g : Nat) (s0_0 : List Int) (s0_1 : Int) (s0_2 : Int) (r1 : List Int) (r2 : Int) (r3 : Int) (w0 w : World) (hI : IsS77 w0 w g s0_0 s0_1 s0_2) (hB : Below w0.heap.size w0 w) (h : spec_l01Draw.f k s0_0 s0_1 s0_2 = some (r1, r2, r3)) :
    Calls Try.prog 73 #[.pointer (some ⟨g, 0, none⟩)] w fun e w' => ∃ v0_ : Value, e = .returned (.agg #[v0_]) ∧ Kd.R (Kd.int .i64) 2 w' w.heap.size (fun _ => True) v0_ r1 ∧ IsS77 w0 w' g s0_0 r2 r3 ∧ Below w0.heap.size w0 w' ∧ KeepBut w w' g none := by
  have hu26 := Try.underlying26
  have HI0 := as_ hI
  have HK := as_ (KeepBut.refl w g none)
  have HL := as_ hB.size
  clear hI
  have HW0 := as_ hB.size
  have HB := as_ hB
  clear hB
  have H : ((spec_l01Next.f s0_0 s0_1 s0_2 5).bind fun bt211 => (if bt211.1 = 0 then ((spec_l01Small.f k s0_0 bt211.2.1 bt211.2.2).bind fun bt214 => (some (bt214.1, bt214.2.1, bt214.2.2))) else (if bt211.1 = 1 then ((spec_l01Next.f s0_0 bt211.2.1 bt211.2.2 5).bind fun bt219 => ((spec_l01DrawOf.f k s0_0 bt219.2.1 bt219.2.2 (wrap64 (1 + bt219.1))).bind fun bt222 => ((spec_l01Next.f s0_0 bt222.2.1 bt222.2.2 5).bind fun bt231 => (spec_l01Draw.l0 k (([] : List (S26))) bt231.1 s0_0 bt231.2.1 bt231.2.2 bt222.1)))) else ((spec_l01Pick.f s0_0 bt211.2.1 bt211.2.2 (([8, 12, 24] : List Int))).bind fun bt262 => ((spec_l01Next.f s0_0 bt262.2.1 bt262.2.2 bt262.1).bind fun bt265 => ((spec_l01DrawOf.f k s0_0 bt265.2.1 bt265.2.2 (wrap64 (1 + bt265.1))).bind fun bt268 => (some (bt268.1, bt268.2.1, bt268.2.2)))))))) = some (r1, r2, r3) := h
  clear h
  obtain ⟨⟨t211, t212, t213⟩, A2, H⟩ := bo_ H
  dsimp only at H
  by_cases c3 : t211 = 0
  · rw [if_pos c3] at H
    have c3b0 := beq_iff_eq.mpr c3
    have c3b1 := bne_eq_false_iff_eq.mpr c3
    clear c3
    obtain ⟨⟨t214, t217, t218⟩, A4, H⟩ := bo_ H
    dsimp only at H
    simp only [Option.some.injEq, Prod.mk.injEq] at H
    obtain ⟨rfl, rfl, rfl⟩ := H
    go_enter Try.func73, Try.ntmps73
    go_wp2_with (first | ((with_reducible refine gate_dst (N := 2) rfl ?_); refine bx_ 2 #[.slice none 0 0] 26 ?_; intro gb210 hg w5 hbox hb; replace HB := as_ (below_step (b1_ HB ⟨IsS77.ge HI0.out⟩) hb); have BK210 := as_ (hbox); have GW210 := as_ ((by rw [hg]; exact (keep_size (w := w) (g := g) (row := none) (ku_ HK)) : w.heap.size ≤ gb210)); have GE210 := as_ ((Nat.le_trans HW0.out (by rw [hg]; exact (keep_size (w := w) (g := g) (row := none) (ku_ HK)) : w.heap.size ≤ gb210) : w0.heap.size ≤ gb210)); replace HK := as_ (KeepBut.trans (ku_ HK) (KeepBut.of_below hb g none) (.inl rfl)); have NB0_210 := as_ ((by rw [hg]; exact Nat.ne_of_lt (IsS77.lt (show IsS77 w0 _ g s0_0 s0_1 s0_2 from hi77_ HI0)) : g ≠ gb210)); have NB210_0 := as_ ((by rw [hg]; exact Nat.ne_of_gt (IsS77.lt (show IsS77 w0 _ g s0_0 s0_1 s0_2 from hi77_ HI0)) : gb210 ≠ g)); replace HI0 := as_ (IsS77.below (hi77_ HI0) hb); clear hb hbox hg) | ((with_reducible refine gate_callee (f := 63) rfl ?_); refine gL_ 9 Try.func63 #[.pointer (some ⟨g, 0, none⟩), .int .i64 5] ?_; (with_reducible refine (spec_l01Next.calls g s0_0 s0_1 s0_2 5 t211 t212 t213 w0 _ ?side1 ?side2 A2.out).mono ?_); (case side1 => repeat (first | (with_reducible first | exact HI0.out | apply IsS77.alloc | apply IsS77.drewN | apply IsS77.drew | apply IsS77.set_1 | apply IsS77.set_2 | refine IsS77.far ?_ NB0_210.out _) | exact HI0.out)); (case side2 => repeat (first | (with_reducible first | exact HB.out | apply below_alloc | apply pw_below_drewN | apply below_drew1 | refine below_set ?_ (IsS77.ge HI0.out) | refine below_set ?_ GE210.out) | exact HB.out)); rintro e w6 ⟨rfl, hi, hb, hk⟩; refine ⟨_, rfl, ?_⟩; replace BK210 := as_ (KeepBut.blk hk (g' := gb210) (o := .cells #[.slice none 0 0] 26 (0, 0)) (bk_ BK210) NB210_0.out (by simp)); replace HK := as_ (KeepBut.trans (by repeat (first | (with_reducible first | exact HK.out | apply KeepBut.set_ | apply keep_drewN | apply keep_drew | apply keep_alloc | refine keep_far ?_ GW210.out _) | exact HK.out)) hk (.inl rfl)); replace HB := as_ (hb); replace HI0 := as_ (hi); clear hb hk hi) | ((with_reducible refine gate_callee (f := 83) rfl ?_); refine gL_ 13 Try.func83 #[.pointer (some ⟨g, 0, none⟩)] ?_; (with_reducible refine (spec_l01Small.calls k g s0_0 t212 t213 t214 t217 t218 w0 _ ?side1 ?side2 A4.out).mono ?_); (case side1 => repeat (first | (with_reducible first | exact HI0.out | apply IsS77.alloc | apply IsS77.drewN | apply IsS77.drew | apply IsS77.set_1 | apply IsS77.set_2 | refine IsS77.far ?_ NB0_210.out _) | exact HI0.out)); (case side2 => repeat (first | (with_reducible first | exact HB.out | apply below_alloc | apply pw_below_drewN | apply below_drew1 | refine below_set ?_ (IsS77.ge HI0.out) | refine below_set ?_ GE210.out) | exact HB.out)); rintro e w7 ⟨v215, rfl, ho0, hi, hb, hk⟩; refine ⟨_, rfl, ?_⟩; replace BK210 := as_ (KeepBut.blk hk (g' := gb210) (o := .cells #[.slice none 0 0] 26 (0, 0)) (bk_ BK210) NB210_0.out (by simp)); have HO216 := as_ (Kd.R_lower ho0 (keep_size (w := w) (g := g) (row := none) (by repeat (first | (with_reducible first | exact HK.out | apply KeepBut.set_ | apply keep_drewN | apply keep_drew | apply keep_alloc | refine keep_far ?_ GW210.out _) | exact HK.out)))); replace HK := as_ (KeepBut.trans (by repeat (first | (with_reducible first | exact HK.out | apply KeepBut.set_ | apply keep_drewN | apply keep_drew | apply keep_alloc | refine keep_far ?_ GW210.out _) | exact HK.out)) hk (.inl rfl)); replace HB := as_ (hb); replace HI0 := as_ (hi); clear hb hk hi ho0; obtain ⟨Ao8, co8, eo8⟩ := Kd.R_slice HO216.out; subst eo8; have hnb9 := NB210_0.out; have hnc9 := NB0_210.out; obtain ⟨hcz10_0, hfz10_0⟩ := tc1_ BK210))
    refine bodyPost_ret (results_cell_row rfl _ _ gb210 26 #[.slice Ao8 t214.length co8] (0, 0) _ rfl (bp_ BK210) Try.underlying26 rfl (by kernel_rfl)) rfl ?_
    exact ⟨_, re_, by (with_reducible repeat (first | apply Kd.R_alloc | apply Kd.R_drewN | apply Kd.R_drew)); exact Kd.R_mono (Kd.R_far (p := ⟨gb210, 0, none⟩) (Kd.R_types HO216.out BK210.out (by first | decide | (simp [shK]; done))) (fun _ hk => hk.2) (.slice Ao8 t214.length co8)) (fun _ hk => trivial), by repeat (first | (with_reducible first | exact HI0.out | apply IsS77.alloc | apply IsS77.drewN | apply IsS77.drew | apply IsS77.set_1 | apply IsS77.set_2 | refine IsS77.far ?_ NB0_210.out _) | exact HI0.out), b2_ HB ⟨IsS77.ge HI0.out⟩ GE210, by repeat (first | (with_reducible first | exact HK.out | apply KeepBut.set_ | apply keep_drewN | apply keep_drew | apply keep_alloc | refine keep_far ?_ GW210.out _) | exact HK.out)⟩
  rw [if_neg c3] at H
  have c3b0 := beq_eq_false_iff_ne.mpr c3
  have c3b1 := bne_iff_ne.mpr c3
  by_cases c11 : t211 = 1
  rotate_left
  · rw [if_neg c11] at H
    have c11b0 := beq_eq_false_iff_ne.mpr c11
    have c11b1 := bne_iff_ne.mpr c11
    obtain ⟨y259, hy259⟩ := ex_ (([8, 12, 24] : List Int) : List Int)
    replace H : ((spec_l01Pick.f s0_0 t212 t213 y259).bind fun bt262 => ((spec_l01Next.f s0_0 bt262.2.1 bt262.2.2 bt262.1).bind fun bt265 => ((spec_l01DrawOf.f k s0_0 bt265.2.1 bt265.2.2 (wrap64 (1 + bt265.1))).bind fun bt268 => (some (bt268.1, bt268.2.1, bt268.2.2))))) = some (r1, r2, r3) := yr_ hy259 H
    have Ny259 := as_ hy259
    clear hy259
    obtain ⟨⟨t262, t263, t264⟩, A70, H⟩ := bo_ H
    dsimp only at H
    obtain ⟨⟨t265, t266, t267⟩, A71, H⟩ := bo_ H
    dsimp only at H
    obtain ⟨⟨t268, t271, t272⟩, A72, H⟩ := bo_ H
    dsimp only at H
    simp only [Option.some.injEq, Prod.mk.injEq] at H
    obtain ⟨rfl, rfl, rfl⟩ := H
    go_enter Try.func73, Try.ntmps73
    go_wp2_with (first | ((with_reducible refine gate_dst (N := 2) rfl ?_); refine bx_ 2 #[.slice none 0 0] 26 ?_; intro gb210 hg w73 hbox hb; replace HB := as_ (below_step (b1_ HB ⟨IsS77.ge HI0.out⟩) hb); have BK210 := as_ (hbox); have GW210 := as_ ((by rw [hg]; exact (keep_size (w := w) (g := g) (row := none) (ku_ HK)) : w.heap.size ≤ gb210)); have GE210 := as_ ((Nat.le_trans HW0.out (by rw [hg]; exact (keep_size (w := w) (g := g) (row := none) (ku_ HK)) : w.heap.size ≤ gb210) : w0.heap.size ≤ gb210)); replace HK := as_ (KeepBut.trans (ku_ HK) (KeepBut.of_below hb g none) (.inl rfl)); have NB0_210 := as_ ((by rw [hg]; exact Nat.ne_of_lt (IsS77.lt (show IsS77 w0 _ g s0_0 s0_1 s0_2 from hi77_ HI0)) : g ≠ gb210)); have NB210_0 := as_ ((by rw [hg]; exact Nat.ne_of_gt (IsS77.lt (show IsS77 w0 _ g s0_0 s0_1 s0_2 from hi77_ HI0)) : gb210 ≠ g)); replace HI0 := as_ (IsS77.below (hi77_ HI0) hb); clear hb hbox hg) | ((with_reducible refine gate_callee (f := 63) rfl ?_); refine gL_ 9 Try.func63 #[.pointer (some ⟨g, 0, none⟩), .int .i64 5] ?_; (with_reducible refine (spec_l01Next.calls g s0_0 s0_1 s0_2 5 t211 t212 t213 w0 _ ?side1 ?side2 A2.out).mono ?_); (case side1 => repeat (first | (with_reducible first | exact HI0.out | apply IsS77.alloc | apply IsS77.drewN | apply IsS77.drew | apply IsS77.set_1 | apply IsS77.set_2 | refine IsS77.far ?_ NB0_210.out _) | exact HI0.out)); (case side2 => repeat (first | (with_reducible first | exact HB.out | apply below_alloc | apply pw_below_drewN | apply below_drew1 | refine below_set ?_ (IsS77.ge HI0.out) | refine below_set ?_ GE210.out) | exact HB.out)); rintro e w74 ⟨rfl, hi, hb, hk⟩; refine ⟨_, rfl, ?_⟩; replace BK210 := as_ (KeepBut.blk hk (g' := gb210) (o := .cells #[.slice none 0 0] 26 (0, 0)) (bk_ BK210) NB210_0.out (by simp)); replace HK := as_ (KeepBut.trans (by repeat (first | (with_reducible first | exact HK.out | apply KeepBut.set_ | apply keep_drewN | apply keep_drew | apply keep_alloc | refine keep_far ?_ GW210.out _) | exact HK.out)) hk (.inl rfl)); replace HB := as_ (hb); replace HI0 := as_ (hi); clear hb hk hi) | ((with_reducible refine gate_dst (N := 42) rfl ?_); refine Kd.R_lit (Kd.int .i64) _ 2 ?hg (N := 42) ?hd (xs := ([8, 12, 24] : List Int)) (inner := [.int .i64 8, .int .i64 12, .int .i64 24]) (ok := fun _ => True) (okp := fun _ => True) ?hr ?hp (fun _ hk => hk) trivial (Below.refl _ _) (Nat.le_refl _) (by simp) ?_; (case hd => rfl); (case hg => rfl); (case hr => first | (go_simp; done) | (go_simp; rfl)); (case hp => exact (Reps.one (show Kd.M (Kd.int .i64) _ _ _ 8 [.int .i64 8] from rfl) (Reps.one (show Kd.M (Kd.int .i64) _ _ _ 12 [.int .i64 12] from rfl) (Reps.one (show Kd.M (Kd.int .i64) _ _ _ 24 [.int .i64 24] from rfl) (Reps.none _ _))))); intro v260 w75 ho76 hb hg_ hnew_; clear hg_ hnew_; (first | rw [← Ny259.out] at ho76 | (simp only [Int.reduceToNat] at ho76; rw [← Ny259.out] at ho76)); have HO261 := as_ (Kd.R_lower ho76 (keep_size (w := w) (g := g) (row := none) (by repeat (first | (with_reducible first | exact HK.out | apply KeepBut.set_ | apply keep_drewN | apply keep_drew | apply keep_alloc | refine keep_far ?_ GW210.out _) | exact HK.out)))); replace BK210 := kb_ BK210 hb; replace HK := as_ (KeepBut.trans (by repeat (first | (with_reducible first | exact HK.out | apply KeepBut.set_ | apply keep_drewN | apply keep_drew | apply keep_alloc | refine keep_far ?_ GW210.out _) | exact HK.out)) (KeepBut.of_below hb g none) (.inl rfl)); replace HB := as_ (below_step (b2_ HB ⟨IsS77.ge HI0.out⟩ GE210) hb); replace HI0 := as_ (IsS77.below (by repeat (first | (with_reducible first | exact HI0.out | apply IsS77.alloc | apply IsS77.drewN | apply IsS77.drew | apply IsS77.set_1 | apply IsS77.set_2 | refine IsS77.far ?_ NB0_210.out _) | exact HI0.out)) hb); clear hb ho76; obtain ⟨Ao77, co77, eo77⟩ := Kd.R_slice HO261.out; subst eo77) | ((with_reducible refine gate_callee (f := 64) rfl ?_); refine gL_ 43 Try.func64 #[.pointer (some ⟨g, 0, none⟩), .slice Ao77 y259.length co77] ?_; (with_reducible refine (spec_l01Pick.calls g s0_0 t212 t213 _ _ y259 t262 t263 t264 w0 _ ?side1 ?side2 ?side3 ?side4 ?side5 A70.out).mono ?_); (case side1 => repeat (first | (with_reducible first | exact HI0.out | apply IsS77.alloc | apply IsS77.drewN | apply IsS77.drew | apply IsS77.set_1 | apply IsS77.set_2 | refine IsS77.far ?_ NB0_210.out _) | exact HI0.out)); (case side2 => repeat (first | (with_reducible first | exact HB.out | apply below_alloc | apply pw_below_drewN | apply below_drew1 | refine below_set ?_ (IsS77.ge HI0.out) | refine below_set ?_ GE210.out) | exact HB.out)); (case side3 => exact cC_ (Kd.R_reads' HO261.out).2.2); (case side4 => exact (Kd.R_reads' HO261.out).2.1); (case side5 => exact far_slice (IsS77.own_ne HI0.out HO261.out (by first | decide | (simp [shK]; done)))); rintro e w78 ⟨rfl, hi, hb, hk⟩; refine ⟨_, rfl, ?_⟩; replace BK210 := as_ (KeepBut.blk hk (g' := gb210) (o := .cells #[.slice none 0 0] 26 (0, 0)) (bk_ BK210) NB210_0.out (by simp)); replace HO261 := as_ (Kd.R_mono (Kd.R_keep (IsS77.apart (show IsS77 w0 _ g s0_0 t212 t213 from by repeat (first | (with_reducible first | exact HI0.out | apply IsS77.alloc | apply IsS77.drewN | apply IsS77.drew | apply IsS77.set_1 | apply IsS77.set_2 | refine IsS77.far ?_ NB0_210.out _) | exact HI0.out)) (bR_ HO261) (by first | decide | (simp [shK]; done))) hk (fun _ h => h.2)) (fun _ h => h.1)); replace HK := as_ (KeepBut.trans (by repeat (first | (with_reducible first | exact HK.out | apply KeepBut.set_ | apply keep_drewN | apply keep_drew | apply keep_alloc | refine keep_far ?_ GW210.out _) | exact HK.out)) hk (.inl rfl)); replace HB := as_ (hb); replace HI0 := as_ (hi); clear hb hk hi) | ((with_reducible refine gate_callee (f := 63) rfl ?_); refine gL_ 44 Try.func63 #[.pointer (some ⟨g, 0, none⟩), .int .i64 t262] ?_; (with_reducible refine (spec_l01Next.calls g s0_0 t263 t264 t262 t265 t266 t267 w0 _ ?side1 ?side2 A71.out).mono ?_); (case side1 => repeat (first | (with_reducible first | exact HI0.out | apply IsS77.alloc | apply IsS77.drewN | apply IsS77.drew | apply IsS77.set_1 | apply IsS77.set_2 | refine IsS77.far ?_ NB0_210.out _) | exact HI0.out)); (case side2 => repeat (first | (with_reducible first | exact HB.out | apply below_alloc | apply pw_below_drewN | apply below_drew1 | refine below_set ?_ (IsS77.ge HI0.out) | refine below_set ?_ GE210.out) | exact HB.out)); rintro e w79 ⟨rfl, hi, hb, hk⟩; refine ⟨_, rfl, ?_⟩; replace BK210 := as_ (KeepBut.blk hk (g' := gb210) (o := .cells #[.slice none 0 0] 26 (0, 0)) (bk_ BK210) NB210_0.out (by simp)); replace HO261 := as_ (Kd.R_mono (Kd.R_keep (IsS77.apart (show IsS77 w0 _ g s0_0 t263 t264 from by repeat (first | (with_reducible first | exact HI0.out | apply IsS77.alloc | apply IsS77.drewN | apply IsS77.drew | apply IsS77.set_1 | apply IsS77.set_2 | refine IsS77.far ?_ NB0_210.out _) | exact HI0.out)) (bR_ HO261) (by first | decide | (simp [shK]; done))) hk (fun _ h => h.2)) (fun _ h => h.1)); replace HK := as_ (KeepBut.trans (by repeat (first | (with_reducible first | exact HK.out | apply KeepBut.set_ | apply keep_drewN | apply keep_drew | apply keep_alloc | refine keep_far ?_ GW210.out _) | exact HK.out)) hk (.inl rfl)); replace HB := as_ (hb); replace HI0 := as_ (hi); clear hb hk hi) | ((with_reducible refine gate_callee (f := 81) rfl ?_); refine gL_ 46 Try.func81 #[.pointer (some ⟨g, 0, none⟩), .int .i64 (wrap64 (1 + t265))] ?_; (with_reducible refine (spec_l01DrawOf.calls k g s0_0 t266 t267 (wrap64 (1 + t265)) t268 t271 t272 w0 _ ?side1 ?side2 A72.out).mono ?_); (case side1 => repeat (first | (with_reducible first | exact HI0.out | apply IsS77.alloc | apply IsS77.drewN | apply IsS77.drew | apply IsS77.set_1 | apply IsS77.set_2 | refine IsS77.far ?_ NB0_210.out _) | exact HI0.out)); (case side2 => repeat (first | (with_reducible first | exact HB.out | apply below_alloc | apply pw_below_drewN | apply below_drew1 | refine below_set ?_ (IsS77.ge HI0.out) | refine below_set ?_ GE210.out) | exact HB.out)); rintro e w80 ⟨v269, rfl, ho0, hi, hb, hk⟩; refine ⟨_, rfl, ?_⟩; replace BK210 := as_ (KeepBut.blk hk (g' := gb210) (o := .cells #[.slice none 0 0] 26 (0, 0)) (bk_ BK210) NB210_0.out (by simp)); have HO270 := as_ (Kd.R_lower (nRR_ ho0 HO261) (keep_size (w := w) (g := g) (row := none) (by repeat (first | (with_reducible first | exact HK.out | apply KeepBut.set_ | apply keep_drewN | apply keep_drew | apply keep_alloc | refine keep_far ?_ GW210.out _) | exact HK.out)))); replace HO261 := as_ (Kd.R_mono (Kd.R_told (Kd.R_oldK (IsS77.apart (show IsS77 w0 _ g s0_0 t266 t267 from by repeat (first | (with_reducible first | exact HI0.out | apply IsS77.alloc | apply IsS77.drewN | apply IsS77.drew | apply IsS77.set_1 | apply IsS77.set_2 | refine IsS77.far ?_ NB0_210.out _) | exact HI0.out)) (bR_ HO261) (by first | decide | (simp [shK]; done))) hk) (Kd.R_base ho0)) (fun _ h_ => h_.1)); replace HK := as_ (KeepBut.trans (by repeat (first | (with_reducible first | exact HK.out | apply KeepBut.set_ | apply keep_drewN | apply keep_drew | apply keep_alloc | refine keep_far ?_ GW210.out _) | exact HK.out)) hk (.inl rfl)); replace HB := as_ (hb); replace HI0 := as_ (hi); clear hb hk hi ho0; obtain ⟨Ao81, co81, eo81⟩ := Kd.R_slice HO270.out; subst eo81; have hnb82 := NB210_0.out; have hnc82 := NB0_210.out; obtain ⟨hcz83_0, hfz83_0⟩ := tc1_ BK210))
    refine bodyPost_ret (results_cell_row rfl _ _ gb210 26 #[.slice Ao81 t268.length co81] (0, 0) _ rfl (bp_ BK210) Try.underlying26 rfl (by kernel_rfl)) rfl ?_
    exact ⟨_, re_, by (with_reducible repeat (first | apply Kd.R_alloc | apply Kd.R_drewN | apply Kd.R_drew)); exact Kd.R_mono (Kd.R_far (p := ⟨gb210, 0, none⟩) (Kd.R_types HO270.out BK210.out (by first | decide | (simp [shK]; done))) (fun _ hk => hk.2) (.slice Ao81 t268.length co81)) (fun _ hk => trivial), by repeat (first | (with_reducible first | exact HI0.out | apply IsS77.alloc | apply IsS77.drewN | apply IsS77.drew | apply IsS77.set_1 | apply IsS77.set_2 | refine IsS77.far ?_ NB0_210.out _) | exact HI0.out), b2_ HB ⟨IsS77.ge HI0.out⟩ GE210, by repeat (first | (with_reducible first | exact HK.out | apply KeepBut.set_ | apply keep_drewN | apply keep_drew | apply keep_alloc | refine keep_far ?_ GW210.out _) | exact HK.out)⟩
  rw [if_pos c11] at H
  have c11b0 := beq_iff_eq.mpr c11
  have c11b1 := bne_eq_false_iff_eq.mpr c11
  clear c11
  obtain ⟨⟨t219, t220, t221⟩, A12, H⟩ := bo_ H
  dsimp only at H
  obtain ⟨⟨t222, t225, t226⟩, A13, H⟩ := bo_ H
  dsimp only at H
  obtain ⟨y228, hy228⟩ := ex_ (([] : List (S26)) : List (S26))
  replace H : ((spec_l01Next.f s0_0 t225 t226 5).bind fun bt231 => (spec_l01Draw.l0 k y228 bt231.1 s0_0 bt231.2.1 bt231.2.2 t222)) = some (r1, r2, r3) := yr_ hy228 H
  have Ny228 := as_ hy228
  clear hy228
  obtain ⟨⟨t231, t232, t233⟩, A14, H⟩ := bo_ H
  dsimp only at H
  have H' := as_ H
  clear H
  go_enter Try.func73, Try.ntmps73
  go_wp2_with (first | ((with_reducible refine gate_dst (N := 2) rfl ?_); refine bx_ 2 #[.slice none 0 0] 26 ?_; intro gb210 hg w15 hbox hb; replace HB := as_ (below_step (b1_ HB ⟨IsS77.ge HI0.out⟩) hb); have BK210 := as_ (hbox); have GW210 := as_ ((by rw [hg]; exact (keep_size (w := w) (g := g) (row := none) (ku_ HK)) : w.heap.size ≤ gb210)); have GE210 := as_ ((Nat.le_trans HW0.out (by rw [hg]; exact (keep_size (w := w) (g := g) (row := none) (ku_ HK)) : w.heap.size ≤ gb210) : w0.heap.size ≤ gb210)); replace HK := as_ (KeepBut.trans (ku_ HK) (KeepBut.of_below hb g none) (.inl rfl)); have NB0_210 := as_ ((by rw [hg]; exact Nat.ne_of_lt (IsS77.lt (show IsS77 w0 _ g s0_0 s0_1 s0_2 from hi77_ HI0)) : g ≠ gb210)); have NB210_0 := as_ ((by rw [hg]; exact Nat.ne_of_gt (IsS77.lt (show IsS77 w0 _ g s0_0 s0_1 s0_2 from hi77_ HI0)) : gb210 ≠ g)); replace HI0 := as_ (IsS77.below (hi77_ HI0) hb); clear hb hbox hg) | ((with_reducible refine gate_callee (f := 63) rfl ?_); refine gL_ 9 Try.func63 #[.pointer (some ⟨g, 0, none⟩), .int .i64 5] ?_; (with_reducible refine (spec_l01Next.calls g s0_0 s0_1 s0_2 5 t211 t212 t213 w0 _ ?side1 ?side2 A2.out).mono ?_); (case side1 => repeat (first | (with_reducible first | exact HI0.out | apply IsS77.alloc | apply IsS77.drewN | apply IsS77.drew | apply IsS77.set_1 | apply IsS77.set_2 | refine IsS77.far ?_ NB0_210.out _) | exact HI0.out)); (case side2 => repeat (first | (with_reducible first | exact HB.out | apply below_alloc | apply pw_below_drewN | apply below_drew1 | refine below_set ?_ (IsS77.ge HI0.out) | refine below_set ?_ GE210.out) | exact HB.out)); rintro e w16 ⟨rfl, hi, hb, hk⟩; refine ⟨_, rfl, ?_⟩; replace BK210 := as_ (KeepBut.blk hk (g' := gb210) (o := .cells #[.slice none 0 0] 26 (0, 0)) (bk_ BK210) NB210_0.out (by simp)); replace HK := as_ (KeepBut.trans (by repeat (first | (with_reducible first | exact HK.out | apply KeepBut.set_ | apply keep_drewN | apply keep_drew | apply keep_alloc | refine keep_far ?_ GW210.out _) | exact HK.out)) hk (.inl rfl)); replace HB := as_ (hb); replace HI0 := as_ (hi); clear hb hk hi) | ((with_reducible refine gate_callee (f := 63) rfl ?_); refine gL_ 18 Try.func63 #[.pointer (some ⟨g, 0, none⟩), .int .i64 5] ?_; (with_reducible refine (spec_l01Next.calls g s0_0 t212 t213 5 t219 t220 t221 w0 _ ?side1 ?side2 A12.out).mono ?_); (case side1 => repeat (first | (with_reducible first | exact HI0.out | apply IsS77.alloc | apply IsS77.drewN | apply IsS77.drew | apply IsS77.set_1 | apply IsS77.set_2 | refine IsS77.far ?_ NB0_210.out _) | exact HI0.out)); (case side2 => repeat (first | (with_reducible first | exact HB.out | apply below_alloc | apply pw_below_drewN | apply below_drew1 | refine below_set ?_ (IsS77.ge HI0.out) | refine below_set ?_ GE210.out) | exact HB.out)); rintro e w17 ⟨rfl, hi, hb, hk⟩; refine ⟨_, rfl, ?_⟩; replace BK210 := as_ (KeepBut.blk hk (g' := gb210) (o := .cells #[.slice none 0 0] 26 (0, 0)) (bk_ BK210) NB210_0.out (by simp)); replace HK := as_ (KeepBut.trans (by repeat (first | (with_reducible first | exact HK.out | apply KeepBut.set_ | apply keep_drewN | apply keep_drew | apply keep_alloc | refine keep_far ?_ GW210.out _) | exact HK.out)) hk (.inl rfl)); replace HB := as_ (hb); replace HI0 := as_ (hi); clear hb hk hi) | ((with_reducible refine gate_callee (f := 81) rfl ?_); refine gL_ 20 Try.func81 #[.pointer (some ⟨g, 0, none⟩), .int .i64 (wrap64 (1 + t219))] ?_; (with_reducible refine (spec_l01DrawOf.calls k g s0_0 t220 t221 (wrap64 (1 + t219)) t222 t225 t226 w0 _ ?side1 ?side2 A13.out).mono ?_); (case side1 => repeat (first | (with_reducible first | exact HI0.out | apply IsS77.alloc | apply IsS77.drewN | apply IsS77.drew | apply IsS77.set_1 | apply IsS77.set_2 | refine IsS77.far ?_ NB0_210.out _) | exact HI0.out)); (case side2 => repeat (first | (with_reducible first | exact HB.out | apply below_alloc | apply pw_below_drewN | apply below_drew1 | refine below_set ?_ (IsS77.ge HI0.out) | refine below_set ?_ GE210.out) | exact HB.out)); rintro e w18 ⟨v223, rfl, ho0, hi, hb, hk⟩; refine ⟨_, rfl, ?_⟩; replace BK210 := as_ (KeepBut.blk hk (g' := gb210) (o := .cells #[.slice none 0 0] 26 (0, 0)) (bk_ BK210) NB210_0.out (by simp)); have HO224 := as_ (Kd.R_lower ho0 (keep_size (w := w) (g := g) (row := none) (by repeat (first | (with_reducible first | exact HK.out | apply KeepBut.set_ | apply keep_drewN | apply keep_drew | apply keep_alloc | refine keep_far ?_ GW210.out _) | exact HK.out)))); replace HK := as_ (KeepBut.trans (by repeat (first | (with_reducible first | exact HK.out | apply KeepBut.set_ | apply keep_drewN | apply keep_drew | apply keep_alloc | refine keep_far ?_ GW210.out _) | exact HK.out)) hk (.inl rfl)); replace HB := as_ (hb); replace HI0 := as_ (hi); clear hb hk hi ho0) | ((with_reducible refine gate_dst (N := 3) rfl ?_); refine bx_ 3 #[.slice none 0 0] 26 ?_; intro gb227 hg w19 hbox hb; replace HO224 := rb_ HO224 hb; replace HB := as_ (below_step (b2_ HB ⟨IsS77.ge HI0.out⟩ GE210) hb); have BK227 := as_ (hbox); have GW227 := as_ ((by rw [hg]; exact (keep_size (w := w) (g := g) (row := none) (by repeat (first | (with_reducible first | exact HK.out | apply KeepBut.set_ | apply keep_drewN | apply keep_drew | apply keep_alloc | refine keep_far ?_ GW210.out _) | exact HK.out))) : w.heap.size ≤ gb227)); have GE227 := as_ ((Nat.le_trans HW0.out (by rw [hg]; exact (keep_size (w := w) (g := g) (row := none) (by repeat (first | (with_reducible first | exact HK.out | apply KeepBut.set_ | apply keep_drewN | apply keep_drew | apply keep_alloc | refine keep_far ?_ GW210.out _) | exact HK.out))) : w.heap.size ≤ gb227) : w0.heap.size ≤ gb227)); replace HK := as_ (KeepBut.trans (by repeat (first | (with_reducible first | exact HK.out | apply KeepBut.set_ | apply keep_drewN | apply keep_drew | apply keep_alloc | refine keep_far ?_ GW210.out _) | exact HK.out)) (KeepBut.of_below hb g none) (.inl rfl)); have NB210_227 := nl_ hg (bk_ BK210); have NB227_210 := ng_ hg (bk_ BK210); replace BK210 := kb_ BK210 hb; have NB0_227 := as_ ((by rw [hg]; exact Nat.ne_of_lt (IsS77.lt (show IsS77 w0 _ g s0_0 t225 t226 from by repeat (first | (with_reducible first | exact HI0.out | apply IsS77.alloc | apply IsS77.drewN | apply IsS77.drew | apply IsS77.set_1 | apply IsS77.set_2 | refine IsS77.far ?_ NB0_210.out _) | exact HI0.out))) : g ≠ gb227)); have NB227_0 := as_ ((by rw [hg]; exact Nat.ne_of_gt (IsS77.lt (show IsS77 w0 _ g s0_0 t225 t226 from by repeat (first | (with_reducible first | exact HI0.out | apply IsS77.alloc | apply IsS77.drewN | apply IsS77.drew | apply IsS77.set_1 | apply IsS77.set_2 | refine IsS77.far ?_ NB0_210.out _) | exact HI0.out))) : gb227 ≠ g)); replace HI0 := as_ (IsS77.below (by repeat (first | (with_reducible first | exact HI0.out | apply IsS77.alloc | apply IsS77.drewN | apply IsS77.drew | apply IsS77.set_1 | apply IsS77.set_2 | refine IsS77.far ?_ NB0_210.out _) | exact HI0.out)) hb); clear hb hbox hg; obtain ⟨Ao20, co20, eo20⟩ := Kd.R_slice HO224.out; subst eo20; have hnb21 := NB227_210.out; have hnc21 := NB210_227.out; have hnb22 := NB227_0.out; have hnc22 := NB0_227.out; obtain ⟨hcz23_0, hfz23_0⟩ := tc1_ BK227) | ((with_reducible refine gate_dst (N := 21) rfl ?_); refine Kd.S_lit (shK (.slice Ao20 t222.length co20) rfl (⟨t222⟩ : S26)) _ 26 ?hg (N := 21) ?hd (xs := ([] : List (S26))) (inner := []) (ok := fun _ => True) (okp := fun _ => True) ?hr ?hp (fun _ hk => hk) trivial (Below.refl _ _) (Nat.le_refl _) (by simp) ?_; (case hd => rfl); (case hg => rfl); (case hr => first | (go_simp; done) | (go_simp; rfl)); (case hp => exact (Reps.none _ _)); intro v229 w24 ho25 hb hg_ hnew_; clear hg_ hnew_; (first | rw [← Ny228.out] at ho25 | (simp only [Int.reduceToNat] at ho25; rw [← Ny228.out] at ho25)); have HO230 := as_ (Kd.S_lower (Kd.S_newB (Kd.S_newB (Kd.S_new' ho25 (Kd.R_lt (by (with_reducible repeat (first | apply Kd.R_alloc | apply Kd.R_drewN | apply Kd.R_drew)); exact (Kd.R_mono (Kd.R_far (p := ⟨gb227, 0, none⟩) (Kd.R_types HO224.out BK227.out (by first | decide | (simp [shK]; done))) (fun _ hk => hk.2) (.slice Ao20 t222.length co20)) (fun _ h_ => h_.1))))) (g := gb210) (o := .cells #[.slice none 0 0] 26 (0, 0)) (bf_ BK210 NB210_227)) (g := gb227) (o := .cells #[.slice Ao20 t222.length co20] 26 (0, 0)) (bp_ BK227)) (keep_size (w := w) (g := g) (row := none) (by repeat (first | (with_reducible first | exact HK.out | apply KeepBut.set_ | apply keep_drewN | apply keep_drew | apply keep_alloc | refine keep_far ?_ GW210.out _ | refine keep_far ?_ GW227.out _) | exact HK.out)))); replace HO224 := as_ (Kd.R_below (by (with_reducible repeat (first | apply Kd.R_alloc | apply Kd.R_drewN | apply Kd.R_drew)); exact (Kd.R_mono (Kd.R_far (p := ⟨gb227, 0, none⟩) (Kd.R_types HO224.out BK227.out (by first | decide | (simp [shK]; done))) (fun _ hk => hk.2) (.slice Ao20 t222.length co20)) (fun _ h_ => h_.1))) hb); replace BK210 := as_ (blk_below (bf_ BK210 NB210_227) hb); replace BK227 := as_ (blk_below (g := gb227) (o := .cells #[.slice Ao20 t222.length co20] 26 (0, 0)) (bp_ BK227) hb); replace HK := as_ (KeepBut.trans (by repeat (first | (with_reducible first | exact HK.out | apply KeepBut.set_ | apply keep_drewN | apply keep_drew | apply keep_alloc | refine keep_far ?_ GW210.out _ | refine keep_far ?_ GW227.out _) | exact HK.out)) (KeepBut.of_below hb g none) (.inl rfl)); replace HB := as_ (below_step (b3_ HB ⟨IsS77.ge HI0.out⟩ GE210 GE227) hb); replace HI0 := as_ (IsS77.below (show IsS77 w0 (w19.setCell ⟨gb227, 0, none⟩ (.slice Ao20 t222.length co20)) g s0_0 t225 t226 from by repeat (first | (with_reducible first | exact HI0.out | apply IsS77.alloc | apply IsS77.drewN | apply IsS77.drew | apply IsS77.set_1 | apply IsS77.set_2 | refine IsS77.far ?_ NB0_210.out _ | refine IsS77.far ?_ NB0_227.out _) | exact HI0.out)) hb); clear hb ho25) | ((with_reducible refine gate_callee (f := 63) rfl ?_); refine gL_ 23 Try.func63 #[.pointer (some ⟨g, 0, none⟩), .int .i64 5] ?_; (with_reducible refine (spec_l01Next.calls g s0_0 t225 t226 5 t231 t232 t233 w0 _ ?side1 ?side2 A14.out).mono ?_); (case side1 => repeat (first | (with_reducible first | exact HI0.out | apply IsS77.alloc | apply IsS77.drewN | apply IsS77.drew | apply IsS77.set_1 | apply IsS77.set_2 | refine IsS77.far ?_ NB0_210.out _ | refine IsS77.far ?_ NB0_227.out _) | exact HI0.out)); (case side2 => repeat (first | (with_reducible first | exact HB.out | apply below_alloc | apply pw_below_drewN | apply below_drew1 | refine below_set ?_ (IsS77.ge HI0.out) | refine below_set ?_ GE210.out | refine below_set ?_ GE227.out) | exact HB.out)); rintro e w26 ⟨rfl, hi, hb, hk⟩; refine ⟨_, rfl, ?_⟩; replace BK210 := as_ (KeepBut.blk hk (g' := gb210) (o := .cells #[.slice none 0 0] 26 (0, 0)) (bk_ BK210) NB210_0.out (by simp)); replace HO224 := as_ (Kd.R_mono (Kd.R_keep (IsS77.apart (show IsS77 w0 _ g s0_0 t225 t226 from by repeat (first | (with_reducible first | exact HI0.out | apply IsS77.alloc | apply IsS77.drewN | apply IsS77.drew | apply IsS77.set_1 | apply IsS77.set_2 | refine IsS77.far ?_ NB0_210.out _ | refine IsS77.far ?_ NB0_227.out _) | exact HI0.out)) (bR_ HO224) (by first | decide | (simp [shK]; done))) hk (fun _ h => h.2)) (fun _ h => h.1)); replace BK227 := as_ (KeepBut.blk hk (g' := gb227) (o := .cells #[.slice Ao20 t222.length co20] 26 (0, 0)) (bk_ BK227) NB227_0.out (by simp)); replace HO230 := as_ (Kd.S_mono (Kd.S_keep (IsS77.apartS (show IsS77 w0 _ g s0_0 t225 t226 from by repeat (first | (with_reducible first | exact HI0.out | apply IsS77.alloc | apply IsS77.drewN | apply IsS77.drew | apply IsS77.set_1 | apply IsS77.set_2 | refine IsS77.far ?_ NB0_210.out _ | refine IsS77.far ?_ NB0_227.out _) | exact HI0.out)) (bS_ HO230) (by first | decide | (simp [shK]; done))) hk (fun _ h => h.2)) (fun _ h => h.1)); replace HK := as_ (KeepBut.trans (by repeat (first | (with_reducible first | exact HK.out | apply KeepBut.set_ | apply keep_drewN | apply keep_drew | apply keep_alloc | refine keep_far ?_ GW210.out _ | refine keep_far ?_ GW227.out _) | exact HK.out)) hk (.inl rfl)); replace HB := as_ (hb); replace HI0 := as_ (hi); clear hb hk hi))
  go_loopg [4, 5] k (fun kq v4 v5 w' => ∃ (x4_1 : List (S26)) (x5_1 : Int), v5 = .int .i64 x5_1 ∧ Aside0 (spec_l01Draw.l0 kq x4_1 x5_1 s0_0 t232 t233 t222 = some (r1, r2, r3)) ∧ Aside0 (kq ≤ k) ∧ Aside0 (Kd.S (shK (.slice Ao20 t222.length co20) rfl (⟨t222⟩ : S26)) 26 w' w.heap.size (fun k_ => some k_ ≠ ((.slice Ao20 t222.length co20) : Value).ownBlock ∧ k_ ≠ gb210 ∧ k_ ≠ gb227) v4 x4_1) ∧ Aside0 (Kd.R (Kd.int .i64) 2 w' w.heap.size (fun _ => True) (.slice Ao20 t222.length co20) t222) ∧ Aside0 (w'.heap[gb210]? = some (.cells #[(.slice none 0 0)] 26 (0, 0))) ∧ Aside0 (w'.heap[gb227]? = some (.cells #[(.slice Ao20 t222.length co20)] 26 (0, 0))) ∧ Aside0 (IsS77 w0 w' g s0_0 t232 t233) ∧ Aside0 (KeepBut w w' g none) ∧ Aside0 (Below w0.heap.size w0 w'))
  case atStart => exact ⟨(y228), (t231), rf_, H', ⟨Nat.le_refl _⟩, ⟨mS_ HO230⟩, ⟨bR_ HO224⟩, ⟨bk_ BK210⟩, ⟨bk_ BK227⟩, ⟨by repeat (first | (with_reducible first | exact HI0.out | apply IsS77.alloc | apply IsS77.drewN | apply IsS77.drew | apply IsS77.set_1 | apply IsS77.set_2 | refine IsS77.far ?_ NB0_210.out _ | refine IsS77.far ?_ NB0_227.out _) | exact HI0.out)⟩, ⟨by repeat (first | (with_reducible first | exact HK.out | apply KeepBut.set_ | apply keep_drewN | apply keep_drew | apply keep_alloc | refine keep_far ?_ GW210.out _ | refine keep_far ?_ GW227.out _) | exact HK.out)⟩, ⟨b3_ HB ⟨IsS77.ge HI0.out⟩ GE210 GE227⟩⟩
  case round =>
    clear H'
    (try clear c1); (try clear c2); (try clear p2); (try clear c3); (try clear c3b0); (try clear c3b1); (try clear c6); (try clear p6); (try clear c7); (try clear c8); (try clear c9); (try clear c11); (try clear c11b0); (try clear c11b1); (try clear c21); (try clear c22); (try clear hcz10_0); (try clear hcz23_0); (try clear hfz10_0); (try clear hfz23_0)
    obtain ⟨x4_1, x5_1, rfl, HA, HK1, HO_4, HO_228000, BK210, BK227, HI0, HK, HB⟩ := hrel
    cases gk with
    | zero => exact absurd HA.out (by simp [spec_l01Draw.l0])
    | succ k1 =>
      have H := HA.out
      clear HA
      simp only [spec_l01Draw.l0] at H
      by_cases c27 : x5_1 > 0
      · rw [if_pos c27] at H
        have c27b0 : decide (0 < x5_1) = true := decide_eq_true c27
        clear c27
        replace H : (if x4_1.length < 5864062014805 then (spec_l01Draw.l0 k1 (x4_1 ++ [(⟨t222⟩ : S26)]) (wrap64 (x5_1 - 1)) s0_0 t232 t233 t222) else (none)) = some (r1, r2, r3) := H
        obtain ⟨c29, H⟩ := ite_s H
        have LMc29 := as_ c29
        clear c29
        obtain ⟨y237, hy237⟩ := ex_ (x4_1 ++ [(⟨t222⟩ : S26)] : List (S26))
        replace H : (spec_l01Draw.l0 k1 y237 (wrap64 (x5_1 - 1)) s0_0 t232 t233 t222) = some (r1, r2, r3) := yr_ hy237 H
        have Ny237 := as_ hy237
        clear hy237
        have H' := as_ H
        clear H
        have hnb30 := NB227_210.out
        have hnc30 := NB210_227.out
        have hnb31 := NB227_0.out
        have hnc31 := NB0_227.out
        obtain ⟨hcz32_0, hfz32_0⟩ := tc1_ BK227
        go_wp2_with (first | ((with_reducible refine gate_builtin (b := .append) (xs := #[.tmp 28, .tmp 30]) rfl ?_); at_builtin; refine Kd.S_append (shK (.slice Ao20 t222.length co20) rfl (⟨t222⟩ : S26)) w.heap.size rfl (.tmp 28) (.tmp 30) 89 26 (.agg #[(.slice none 0 0)]) 24 rfl Try.underlying89 info26 rfl (by first | decide | (simp [shK]; done)) (by omega) u4 x4_1 (⟨t222⟩ : S26) [.slice Ao20 t222.length co20] (fun k_ => some k_ ≠ (.slice Ao20 t222.length co20 : Value).ownBlock ∧ k_ ≠ gb210 ∧ k_ ≠ gb227) (fun _ => False) rfl rfl ?aP (fun _ hk => hk.elim) ?aF ?aO (Below.refl _ _) ?aS ?aL ?_; (case aP => exact ⟨rfl, rfl⟩); (case aF => exact (fun k_ hk => ⟨Kd.fresh' (Kd.R_lt (bR_ HO_228000)) k_ hk, Kd.freshB (g := gb210) (o := .cells #[.slice none 0 0] 26 (0, 0)) (bk_ BK210) k_ hk, Kd.freshB (g := gb227) (o := .cells #[.slice Ao20 t222.length co20] 26 (0, 0)) (bk_ BK227) k_ hk⟩)); (case aO => exact (by (with_reducible repeat (first | apply Kd.S_alloc | apply Kd.S_drewN | apply Kd.S_drew)); exact Kd.S_mono HO_4.out (fun k_ hk => ⟨hk, fun h_ => h_⟩))); (case aS => exact (keep_size (w := w) (g := g) (row := none) (by repeat (first | (with_reducible first | exact HK.out | apply KeepBut.set_ | apply keep_drewN | apply keep_drew | apply keep_alloc | refine keep_far ?_ GW210.out _ | refine keep_far ?_ GW227.out _) | exact HK.out)))); (case aL => have := LMc29.out; omega); intro v238 w34 ho hb hg hat; rw [← Ny237.out] at ho; replace HO_228000 := as_ (Kd.R_over' (bR_ HO_228000) (Kd.S_typed (bS_ HO_4)) (by first | decide | (simp [shK]; done)) hg); replace BK210 := as_ (blk_grown (bk_ BK210) hg (Kd.S_away HO_4.out (fun _ hk => hk.2.1))); replace BK227 := as_ (blk_grown (bk_ BK227) hg (Kd.S_away HO_4.out (fun _ hk => hk.2.2))); replace HB := as_ (below_weaken (b3_ HB ⟨IsS77.ge HI0.out⟩ GE210 GE227) HL.out hb); replace HI0 := as_ (IsS77.grown (by repeat (first | (with_reducible first | exact HI0.out | apply IsS77.alloc | apply IsS77.drewN | apply IsS77.drew | apply IsS77.set_1 | apply IsS77.set_2 | refine IsS77.far ?_ NB0_210.out _ | refine IsS77.far ?_ NB0_227.out _) | exact HI0.out)) hg (IsS77.own_neS HI0.out HO_4.out (by first | decide | (simp [shK]; done)))); replace HK := as_ (KeepBut.trans (by repeat (first | (with_reducible first | exact HK.out | apply KeepBut.set_ | apply keep_drewN | apply keep_drew | apply keep_alloc | refine keep_far ?_ GW210.out _ | refine keep_far ?_ GW227.out _) | exact HK.out)) (KeepBut.of_grown hg g) (Kd.S_base2 HO_4.out)); have HO239 := as_ (ho); clear HO_4; clear ho hb hg hat))
        go_roundg k1
        case measure => have := HK1.out; omega
        case rel => exact ⟨(y237), (wrap64 (x5_1 - 1)), rf_, H', om_ HK1, ⟨bS_ HO239⟩, ⟨mR_ HO_228000⟩, ⟨bk_ BK210⟩, ⟨bk_ BK227⟩, ⟨by repeat (first | (with_reducible first | exact HI0.out | apply IsS77.alloc | apply IsS77.drewN | apply IsS77.drew | apply IsS77.set_1 | apply IsS77.set_2 | refine IsS77.far ?_ NB0_210.out _ | refine IsS77.far ?_ NB0_227.out _) | exact HI0.out)⟩, ⟨by repeat (first | (with_reducible first | exact HK.out | apply KeepBut.set_ | apply keep_drewN | apply keep_drew | apply keep_alloc | refine keep_far ?_ GW210.out _ | refine keep_far ?_ GW227.out _) | exact HK.out)⟩, ⟨b3_ HB ⟨IsS77.ge HI0.out⟩ GE210 GE227⟩⟩
      rw [if_neg c27] at H
      have c27b0 : decide (0 < x5_1) = false := decide_eq_false c27
      clear c27
      obtain ⟨⟨t240, t243⟩, A36, H⟩ := bo_ H
      dsimp only at H
      by_cases c37 : t243 = true
      · subst c37
        replace H := it_ H
        simp only [Option.some.injEq, Prod.mk.injEq] at H
        obtain ⟨rfl, rfl, rfl⟩ := H
        obtain ⟨Ao38, co38, eo38⟩ := Kd.S_slice HO_4.out
        subst eo38
        go_wp2_with (first | ((with_reducible refine gate_callee (f := 84) rfl ?_); refine gL_ 34 Try.func84 #[.slice Ao38 x4_1.length co38] ?_; (with_reducible refine (spec_l01Join.calls k1 _ _ x4_1 t240 true _ ?side1 ?side2 A36.out).mono ?_); (case side1 => repeat (first | exact (sh_C HO_4.out HO_228000.out) | (with_reducible refine Kd.C_alloc ?_ _) | (with_reducible refine Kd.C_drewN ?_ _) | (with_reducible refine Kd.C_drew ?_))); (case side2 => exact (Kd.S_reads' HO_4.out).2.1); rintro e w39 ⟨v241, rfl, ho0, hb⟩; refine ⟨_, rfl, ?_⟩; replace HO_4 := eS_ HO_4 (Kd.R_base ho0) hb; have HO242 := as_ (Kd.R_lower (nRR_ ho0 HO_228000) (keep_size (w := w) (g := g) (row := none) (by repeat (first | (with_reducible first | exact HK.out | apply KeepBut.set_ | apply keep_drewN | apply keep_drew | apply keep_alloc | refine keep_far ?_ GW210.out _ | refine keep_far ?_ GW227.out _) | exact HK.out)))); replace HO_228000 := eR_ HO_228000 (Kd.R_base ho0) hb; replace BK210 := kb_ BK210 hb; replace BK227 := kb_ BK227 hb; replace HK := as_ (KeepBut.trans (by repeat (first | (with_reducible first | exact HK.out | apply KeepBut.set_ | apply keep_drewN | apply keep_drew | apply keep_alloc | refine keep_far ?_ GW210.out _ | refine keep_far ?_ GW227.out _) | exact HK.out)) (KeepBut.of_below hb g none) (.inl rfl)); replace HB := as_ (below_step (b3_ HB ⟨IsS77.ge HI0.out⟩ GE210 GE227) hb); replace HI0 := as_ (IsS77.below (by repeat (first | (with_reducible first | exact HI0.out | apply IsS77.alloc | apply IsS77.drewN | apply IsS77.drew | apply IsS77.set_1 | apply IsS77.set_2 | refine IsS77.far ?_ NB0_210.out _ | refine IsS77.far ?_ NB0_227.out _) | exact HI0.out)) hb); clear hb ho0) | ((with_reducible refine gate_dst (N := 6) rfl ?_); refine bx_ 6 #[.slice none 0 0] 26 ?_; intro gb244 hg w40 hbox hb; replace HO_4 := as_ (Kd.S_below (Kd.S_elderB (bS_ HO_4) gb244 (Nat.le_of_eq hg.symm)) hb); replace HO_228000 := rb_ HO_228000 hb; replace HO242 := rb_ HO242 hb; replace HB := as_ (below_step (b3_ HB ⟨IsS77.ge HI0.out⟩ GE210 GE227) hb); have BK244 := as_ (hbox); have GW244 := as_ ((by rw [hg]; exact (keep_size (w := w) (g := g) (row := none) (by repeat (first | (with_reducible first | exact HK.out | apply KeepBut.set_ | apply keep_drewN | apply keep_drew | apply keep_alloc | refine keep_far ?_ GW210.out _ | refine keep_far ?_ GW227.out _) | exact HK.out))) : w.heap.size ≤ gb244)); have GE244 := as_ ((Nat.le_trans HW0.out (by rw [hg]; exact (keep_size (w := w) (g := g) (row := none) (by repeat (first | (with_reducible first | exact HK.out | apply KeepBut.set_ | apply keep_drewN | apply keep_drew | apply keep_alloc | refine keep_far ?_ GW210.out _ | refine keep_far ?_ GW227.out _) | exact HK.out))) : w.heap.size ≤ gb244) : w0.heap.size ≤ gb244)); replace HK := as_ (KeepBut.trans (by repeat (first | (with_reducible first | exact HK.out | apply KeepBut.set_ | apply keep_drewN | apply keep_drew | apply keep_alloc | refine keep_far ?_ GW210.out _ | refine keep_far ?_ GW227.out _) | exact HK.out)) (KeepBut.of_below hb g none) (.inl rfl)); have NB210_244 := nl_ hg (bk_ BK210); have NB244_210 := ng_ hg (bk_ BK210); replace BK210 := kb_ BK210 hb; have NB227_244 := nl_ hg (bk_ BK227); have NB244_227 := ng_ hg (bk_ BK227); replace BK227 := kb_ BK227 hb; have NB0_244 := as_ ((by rw [hg]; exact Nat.ne_of_lt (IsS77.lt (show IsS77 w0 _ g s0_0 t232 t233 from by repeat (first | (with_reducible first | exact HI0.out | apply IsS77.alloc | apply IsS77.drewN | apply IsS77.drew | apply IsS77.set_1 | apply IsS77.set_2 | refine IsS77.far ?_ NB0_210.out _ | refine IsS77.far ?_ NB0_227.out _) | exact HI0.out))) : g ≠ gb244)); have NB244_0 := as_ ((by rw [hg]; exact Nat.ne_of_gt (IsS77.lt (show IsS77 w0 _ g s0_0 t232 t233 from by repeat (first | (with_reducible first | exact HI0.out | apply IsS77.alloc | apply IsS77.drewN | apply IsS77.drew | apply IsS77.set_1 | apply IsS77.set_2 | refine IsS77.far ?_ NB0_210.out _ | refine IsS77.far ?_ NB0_227.out _) | exact HI0.out))) : gb244 ≠ g)); replace HI0 := as_ (IsS77.below (by repeat (first | (with_reducible first | exact HI0.out | apply IsS77.alloc | apply IsS77.drewN | apply IsS77.drew | apply IsS77.set_1 | apply IsS77.set_2 | refine IsS77.far ?_ NB0_210.out _ | refine IsS77.far ?_ NB0_227.out _) | exact HI0.out)) hb); clear hb hbox hg; obtain ⟨Ao41, co41, eo41⟩ := Kd.R_slice HO242.out; subst eo41; have hnb42 := NB244_210.out; have hnc42 := NB210_244.out; have hnb43 := NB244_227.out; have hnc43 := NB227_244.out; have hnb44 := NB244_0.out; have hnc44 := NB0_244.out; obtain ⟨hcz45_0, hfz45_0⟩ := tc1_ BK244; have hnb46 := NB210_227.out; have hnc46 := NB227_210.out; have hnb47 := NB210_0.out; have hnc47 := NB0_210.out; obtain ⟨hcz48_0, hfz48_0⟩ := tc1_ BK210))
        refine bodyPost_ret (results_cell_row rfl _ _ gb210 26 #[.slice Ao41 t240.length co41] (0, 0) _ rfl (by (with_reducible repeat (first | refine blk_drewN ?_ _ | refine blk_drew ?_ | refine blk_alloc ?_ _)); refine blk_put (cs := #[.slice none 0 0]) ?_ 0 _ rfl; (with_reducible repeat (first | refine blk_drewN ?_ _ | refine blk_drew ?_ | refine blk_alloc ?_ _)); refine blk_far ?_ NB210_244.out _; (with_reducible repeat (first | refine blk_drewN ?_ _ | refine blk_drew ?_ | refine blk_alloc ?_ _)); exact BK210.out) Try.underlying26 rfl (by kernel_rfl)) rfl ?_
        exact ⟨_, re_, by (with_reducible repeat (first | apply Kd.R_alloc | apply Kd.R_drewN | apply Kd.R_drew)); exact Kd.R_mono (Kd.R_far (p := ⟨gb210, 0, none⟩) (Kd.R_far (p := ⟨gb244, 0, none⟩) (Kd.R_types (Kd.R_types HO242.out BK244.out (by first | decide | (simp [shK]; done))) BK210.out (by first | decide | (simp [shK]; done))) (fun _ hk => hk.1.2) (.slice Ao41 t240.length co41)) (fun _ hk => hk.2) (.slice Ao41 t240.length co41)) (fun _ hk => trivial), by repeat (first | (with_reducible first | exact HI0.out | apply IsS77.alloc | apply IsS77.drewN | apply IsS77.drew | apply IsS77.set_1 | apply IsS77.set_2 | refine IsS77.far ?_ NB0_210.out _ | refine IsS77.far ?_ NB0_227.out _ | refine IsS77.far ?_ NB0_244.out _) | exact HI0.out), b4_ HB ⟨IsS77.ge HI0.out⟩ GE210 GE227 GE244, by repeat (first | (with_reducible first | exact HK.out | apply KeepBut.set_ | apply keep_drewN | apply keep_drew | apply keep_alloc | refine keep_far ?_ GW210.out _ | refine keep_far ?_ GW227.out _ | refine keep_far ?_ GW244.out _) | exact HK.out)⟩
      replace c37 := Bool.eq_false_iff.mpr c37
      subst c37
      replace H := if_ H
      obtain ⟨y245, hy245⟩ := ex_ (([8, 12, 24] : List Int) : List Int)
      replace H : ((spec_l01Pick.f s0_0 t232 t233 y245).bind fun bt248 => ((spec_l01Next.f s0_0 bt248.2.1 bt248.2.2 bt248.1).bind fun bt251 => ((spec_l01DrawOf.f k1 s0_0 bt251.2.1 bt251.2.2 (wrap64 (1 + bt251.1))).bind fun bt254 => (some (bt254.1, bt254.2.1, bt254.2.2))))) = some (r1, r2, r3) := yr_ hy245 H
      have Ny245 := as_ hy245
      clear hy245
      obtain ⟨⟨t248, t249, t250⟩, A49, H⟩ := bo_ H
      dsimp only at H
      obtain ⟨⟨t251, t252, t253⟩, A50, H⟩ := bo_ H
      dsimp only at H
      obtain ⟨⟨t254, t257, t258⟩, A51, H⟩ := bo_ H
      dsimp only at H
      simp only [Option.some.injEq, Prod.mk.injEq] at H
      obtain ⟨rfl, rfl, rfl⟩ := H
      obtain ⟨Ao52, co52, eo52⟩ := Kd.S_slice HO_4.out
      subst eo52
      go_wp2_with (first | ((with_reducible refine gate_callee (f := 84) rfl ?_); refine gL_ 34 Try.func84 #[.slice Ao52 x4_1.length co52] ?_; (with_reducible refine (spec_l01Join.calls k1 _ _ x4_1 t240 false _ ?side1 ?side2 A36.out).mono ?_); (case side1 => repeat (first | exact (sh_C HO_4.out HO_228000.out) | (with_reducible refine Kd.C_alloc ?_ _) | (with_reducible refine Kd.C_drewN ?_ _) | (with_reducible refine Kd.C_drew ?_))); (case side2 => exact (Kd.S_reads' HO_4.out).2.1); rintro e w53 ⟨v241, rfl, ho0, hb⟩; refine ⟨_, rfl, ?_⟩; replace HO_4 := eS_ HO_4 (Kd.R_base ho0) hb; have HO242 := as_ (Kd.R_lower (nRR_ ho0 HO_228000) (keep_size (w := w) (g := g) (row := none) (by repeat (first | (with_reducible first | exact HK.out | apply KeepBut.set_ | apply keep_drewN | apply keep_drew | apply keep_alloc | refine keep_far ?_ GW210.out _ | refine keep_far ?_ GW227.out _) | exact HK.out)))); replace HO_228000 := eR_ HO_228000 (Kd.R_base ho0) hb; replace BK210 := kb_ BK210 hb; replace BK227 := kb_ BK227 hb; replace HK := as_ (KeepBut.trans (by repeat (first | (with_reducible first | exact HK.out | apply KeepBut.set_ | apply keep_drewN | apply keep_drew | apply keep_alloc | refine keep_far ?_ GW210.out _ | refine keep_far ?_ GW227.out _) | exact HK.out)) (KeepBut.of_below hb g none) (.inl rfl)); replace HB := as_ (below_step (b3_ HB ⟨IsS77.ge HI0.out⟩ GE210 GE227) hb); replace HI0 := as_ (IsS77.below (by repeat (first | (with_reducible first | exact HI0.out | apply IsS77.alloc | apply IsS77.drewN | apply IsS77.drew | apply IsS77.set_1 | apply IsS77.set_2 | refine IsS77.far ?_ NB0_210.out _ | refine IsS77.far ?_ NB0_227.out _) | exact HI0.out)) hb); clear hb ho0) | ((with_reducible refine gate_dst (N := 6) rfl ?_); refine bx_ 6 #[.slice none 0 0] 26 ?_; intro gb244 hg w54 hbox hb; replace HO_4 := as_ (Kd.S_below (Kd.S_elderB (bS_ HO_4) gb244 (Nat.le_of_eq hg.symm)) hb); replace HO_228000 := rb_ HO_228000 hb; replace HO242 := rb_ HO242 hb; replace HB := as_ (below_step (b3_ HB ⟨IsS77.ge HI0.out⟩ GE210 GE227) hb); have BK244 := as_ (hbox); have GW244 := as_ ((by rw [hg]; exact (keep_size (w := w) (g := g) (row := none) (by repeat (first | (with_reducible first | exact HK.out | apply KeepBut.set_ | apply keep_drewN | apply keep_drew | apply keep_alloc | refine keep_far ?_ GW210.out _ | refine keep_far ?_ GW227.out _) | exact HK.out))) : w.heap.size ≤ gb244)); have GE244 := as_ ((Nat.le_trans HW0.out (by rw [hg]; exact (keep_size (w := w) (g := g) (row := none) (by repeat (first | (with_reducible first | exact HK.out | apply KeepBut.set_ | apply keep_drewN | apply keep_drew | apply keep_alloc | refine keep_far ?_ GW210.out _ | refine keep_far ?_ GW227.out _) | exact HK.out))) : w.heap.size ≤ gb244) : w0.heap.size ≤ gb244)); replace HK := as_ (KeepBut.trans (by repeat (first | (with_reducible first | exact HK.out | apply KeepBut.set_ | apply keep_drewN | apply keep_drew | apply keep_alloc | refine keep_far ?_ GW210.out _ | refine keep_far ?_ GW227.out _) | exact HK.out)) (KeepBut.of_below hb g none) (.inl rfl)); have NB210_244 := nl_ hg (bk_ BK210); have NB244_210 := ng_ hg (bk_ BK210); replace BK210 := kb_ BK210 hb; have NB227_244 := nl_ hg (bk_ BK227); have NB244_227 := ng_ hg (bk_ BK227); replace BK227 := kb_ BK227 hb; have NB0_244 := as_ ((by rw [hg]; exact Nat.ne_of_lt (IsS77.lt (show IsS77 w0 _ g s0_0 t232 t233 from by repeat (first | (with_reducible first | exact HI0.out | apply IsS77.alloc | apply IsS77.drewN | apply IsS77.drew | apply IsS77.set_1 | apply IsS77.set_2 | refine IsS77.far ?_ NB0_210.out _ | refine IsS77.far ?_ NB0_227.out _) | exact HI0.out))) : g ≠ gb244)); have NB244_0 := as_ ((by rw [hg]; exact Nat.ne_of_gt (IsS77.lt (show IsS77 w0 _ g s0_0 t232 t233 from by repeat (first | (with_reducible first | exact HI0.out | apply IsS77.alloc | apply IsS77.drewN | apply IsS77.drew | apply IsS77.set_1 | apply IsS77.set_2 | refine IsS77.far ?_ NB0_210.out _ | refine IsS77.far ?_ NB0_227.out _) | exact HI0.out))) : gb244 ≠ g)); replace HI0 := as_ (IsS77.below (by repeat (first | (with_reducible first | exact HI0.out | apply IsS77.alloc | apply IsS77.drewN | apply IsS77.drew | apply IsS77.set_1 | apply IsS77.set_2 | refine IsS77.far ?_ NB0_210.out _ | refine IsS77.far ?_ NB0_227.out _) | exact HI0.out)) hb); clear hb hbox hg; obtain ⟨Ao55, co55, eo55⟩ := Kd.R_slice HO242.out; subst eo55; have hnb56 := NB244_210.out; have hnc56 := NB210_244.out; have hnb57 := NB244_227.out; have hnc57 := NB227_244.out; have hnb58 := NB244_0.out; have hnc58 := NB0_244.out; obtain ⟨hcz59_0, hfz59_0⟩ := tc1_ BK244) | ((with_reducible refine gate_dst (N := 42) rfl ?_); refine Kd.R_lit (Kd.int .i64) _ 2 ?hg (N := 42) ?hd (xs := ([8, 12, 24] : List Int)) (inner := [.int .i64 8, .int .i64 12, .int .i64 24]) (ok := fun _ => True) (okp := fun _ => True) ?hr ?hp (fun _ hk => hk) trivial (Below.refl _ _) (Nat.le_refl _) (by simp) ?_; (case hd => rfl); (case hg => rfl); (case hr => first | (go_simp; done) | (go_simp; rfl)); (case hp => exact (Reps.one (show Kd.M (Kd.int .i64) _ _ _ 8 [.int .i64 8] from rfl) (Reps.one (show Kd.M (Kd.int .i64) _ _ _ 12 [.int .i64 12] from rfl) (Reps.one (show Kd.M (Kd.int .i64) _ _ _ 24 [.int .i64 24] from rfl) (Reps.none _ _))))); intro v246 w60 ho61 hb hg_ hnew_; clear hg_ hnew_; (first | rw [← Ny245.out] at ho61 | (simp only [Int.reduceToNat] at ho61; rw [← Ny245.out] at ho61)); replace HO_4 := as_ (Kd.S_elder' (iS_ HO_4) (Kd.R_base ho61) hb); have HO247 := as_ (Kd.R_lower (Kd.R_new' (Kd.R_new' ho61 (Kd.R_lt (by (with_reducible repeat (first | apply Kd.R_alloc | apply Kd.R_drewN | apply Kd.R_drew)); exact (Kd.R_mono (Kd.R_far (p := ⟨gb244, 0, none⟩) (Kd.R_types HO_228000.out BK244.out (by first | decide | (simp [shK]; done))) (fun _ hk => hk.2) (.slice Ao55 t240.length co55)) (fun _ h_ => h_.1))))) (Kd.R_lt (by (with_reducible repeat (first | apply Kd.R_alloc | apply Kd.R_drewN | apply Kd.R_drew)); exact (Kd.R_mono (Kd.R_far (p := ⟨gb244, 0, none⟩) (Kd.R_types HO242.out BK244.out (by first | decide | (simp [shK]; done))) (fun _ hk => hk.2) (.slice Ao55 t240.length co55)) (fun _ h_ => h_.1))))) (keep_size (w := w) (g := g) (row := none) (by repeat (first | (with_reducible first | exact HK.out | apply KeepBut.set_ | apply keep_drewN | apply keep_drew | apply keep_alloc | refine keep_far ?_ GW210.out _ | refine keep_far ?_ GW227.out _ | refine keep_far ?_ GW244.out _) | exact HK.out)))); replace HO_228000 := as_ (Kd.R_elder' (by (with_reducible repeat (first | apply Kd.R_alloc | apply Kd.R_drewN | apply Kd.R_drew)); exact (Kd.R_mono (Kd.R_far (p := ⟨gb244, 0, none⟩) (Kd.R_types HO_228000.out BK244.out (by first | decide | (simp [shK]; done))) (fun _ hk => hk.2) (.slice Ao55 t240.length co55)) (fun _ h_ => h_.1))) (Kd.R_base ho61) hb); replace HO242 := as_ (Kd.R_elder' (by (with_reducible repeat (first | apply Kd.R_alloc | apply Kd.R_drewN | apply Kd.R_drew)); exact (Kd.R_mono (Kd.R_far (p := ⟨gb244, 0, none⟩) (Kd.R_types HO242.out BK244.out (by first | decide | (simp [shK]; done))) (fun _ hk => hk.2) (.slice Ao55 t240.length co55)) (fun _ h_ => h_.1))) (Kd.R_base ho61) hb); replace BK210 := as_ (blk_below (bf_ BK210 NB210_244) hb); replace BK227 := as_ (blk_below (bf_ BK227 NB227_244) hb); replace BK244 := as_ (blk_below (g := gb244) (o := .cells #[.slice Ao55 t240.length co55] 26 (0, 0)) (bp_ BK244) hb); replace HK := as_ (KeepBut.trans (by repeat (first | (with_reducible first | exact HK.out | apply KeepBut.set_ | apply keep_drewN | apply keep_drew | apply keep_alloc | refine keep_far ?_ GW210.out _ | refine keep_far ?_ GW227.out _ | refine keep_far ?_ GW244.out _) | exact HK.out)) (KeepBut.of_below hb g none) (.inl rfl)); replace HB := as_ (below_step (b4_ HB ⟨IsS77.ge HI0.out⟩ GE210 GE227 GE244) hb); replace HI0 := as_ (IsS77.below (show IsS77 w0 (w54.setCell ⟨gb244, 0, none⟩ (.slice Ao55 t240.length co55)) g s0_0 t232 t233 from by repeat (first | (with_reducible first | exact HI0.out | apply IsS77.alloc | apply IsS77.drewN | apply IsS77.drew | apply IsS77.set_1 | apply IsS77.set_2 | refine IsS77.far ?_ NB0_210.out _ | refine IsS77.far ?_ NB0_227.out _ | refine IsS77.far ?_ NB0_244.out _) | exact HI0.out)) hb); clear hb ho61; obtain ⟨Ao62, co62, eo62⟩ := Kd.R_slice HO247.out; subst eo62) | ((with_reducible refine gate_callee (f := 64) rfl ?_); refine gL_ 43 Try.func64 #[.pointer (some ⟨g, 0, none⟩), .slice Ao62 y245.length co62] ?_; (with_reducible refine (spec_l01Pick.calls g s0_0 t232 t233 _ _ y245 t248 t249 t250 w0 _ ?side1 ?side2 ?side3 ?side4 ?side5 A49.out).mono ?_); (case side1 => repeat (first | (with_reducible first | exact HI0.out | apply IsS77.alloc | apply IsS77.drewN | apply IsS77.drew | apply IsS77.set_1 | apply IsS77.set_2 | refine IsS77.far ?_ NB0_210.out _ | refine IsS77.far ?_ NB0_227.out _ | refine IsS77.far ?_ NB0_244.out _) | exact HI0.out)); (case side2 => repeat (first | (with_reducible first | exact HB.out | apply below_alloc | apply pw_below_drewN | apply below_drew1 | refine below_set ?_ (IsS77.ge HI0.out) | refine below_set ?_ GE210.out | refine below_set ?_ GE227.out | refine below_set ?_ GE244.out) | exact HB.out)); (case side3 => exact cC_ (Kd.R_reads' HO247.out).2.2); (case side4 => exact (Kd.R_reads' HO247.out).2.1); (case side5 => exact far_slice (IsS77.own_ne HI0.out HO247.out (by first | decide | (simp [shK]; done)))); rintro e w63 ⟨rfl, hi, hb, hk⟩; refine ⟨_, rfl, ?_⟩; replace HO_4 := as_ (Kd.S_mono (Kd.S_keep (IsS77.apartS (show IsS77 w0 _ g s0_0 t232 t233 from by repeat (first | (with_reducible first | exact HI0.out | apply IsS77.alloc | apply IsS77.drewN | apply IsS77.drew | apply IsS77.set_1 | apply IsS77.set_2 | refine IsS77.far ?_ NB0_210.out _ | refine IsS77.far ?_ NB0_227.out _ | refine IsS77.far ?_ NB0_244.out _) | exact HI0.out)) (bS_ HO_4) (by first | decide | (simp [shK]; done))) hk (fun _ h => h.2)) (fun _ h => h.1)); replace HO_228000 := as_ (Kd.R_mono (Kd.R_keep (IsS77.apart (show IsS77 w0 _ g s0_0 t232 t233 from by repeat (first | (with_reducible first | exact HI0.out | apply IsS77.alloc | apply IsS77.drewN | apply IsS77.drew | apply IsS77.set_1 | apply IsS77.set_2 | refine IsS77.far ?_ NB0_210.out _ | refine IsS77.far ?_ NB0_227.out _ | refine IsS77.far ?_ NB0_244.out _) | exact HI0.out)) (bR_ HO_228000) (by first | decide | (simp [shK]; done))) hk (fun _ h => h.2)) (fun _ h => h.1)); replace BK210 := as_ (KeepBut.blk hk (g' := gb210) (o := .cells #[.slice none 0 0] 26 (0, 0)) (bk_ BK210) NB210_0.out (by simp)); replace BK227 := as_ (KeepBut.blk hk (g' := gb227) (o := .cells #[.slice Ao20 t222.length co20] 26 (0, 0)) (bk_ BK227) NB227_0.out (by simp)); replace HO242 := as_ (Kd.R_mono (Kd.R_keep (IsS77.apart (show IsS77 w0 _ g s0_0 t232 t233 from by repeat (first | (with_reducible first | exact HI0.out | apply IsS77.alloc | apply IsS77.drewN | apply IsS77.drew | apply IsS77.set_1 | apply IsS77.set_2 | refine IsS77.far ?_ NB0_210.out _ | refine IsS77.far ?_ NB0_227.out _ | refine IsS77.far ?_ NB0_244.out _) | exact HI0.out)) (bR_ HO242) (by first | decide | (simp [shK]; done))) hk (fun _ h => h.2)) (fun _ h => h.1)); replace BK244 := as_ (KeepBut.blk hk (g' := gb244) (o := .cells #[.slice Ao55 t240.length co55] 26 (0, 0)) (bk_ BK244) NB244_0.out (by simp)); replace HO247 := as_ (Kd.R_mono (Kd.R_keep (IsS77.apart (show IsS77 w0 _ g s0_0 t232 t233 from by repeat (first | (with_reducible first | exact HI0.out | apply IsS77.alloc | apply IsS77.drewN | apply IsS77.drew | apply IsS77.set_1 | apply IsS77.set_2 | refine IsS77.far ?_ NB0_210.out _ | refine IsS77.far ?_ NB0_227.out _ | refine IsS77.far ?_ NB0_244.out _) | exact HI0.out)) (bR_ HO247) (by first | decide | (simp [shK]; done))) hk (fun _ h => h.2)) (fun _ h => h.1)); replace HK := as_ (KeepBut.trans (by repeat (first | (with_reducible first | exact HK.out | apply KeepBut.set_ | apply keep_drewN | apply keep_drew | apply keep_alloc | refine keep_far ?_ GW210.out _ | refine keep_far ?_ GW227.out _ | refine keep_far ?_ GW244.out _) | exact HK.out)) hk (.inl rfl)); replace HB := as_ (hb); replace HI0 := as_ (hi); clear hb hk hi) | ((with_reducible refine gate_callee (f := 63) rfl ?_); refine gL_ 44 Try.func63 #[.pointer (some ⟨g, 0, none⟩), .int .i64 t248] ?_; (with_reducible refine (spec_l01Next.calls g s0_0 t249 t250 t248 t251 t252 t253 w0 _ ?side1 ?side2 A50.out).mono ?_); (case side1 => repeat (first | (with_reducible first | exact HI0.out | apply IsS77.alloc | apply IsS77.drewN | apply IsS77.drew | apply IsS77.set_1 | apply IsS77.set_2 | refine IsS77.far ?_ NB0_210.out _ | refine IsS77.far ?_ NB0_227.out _ | refine IsS77.far ?_ NB0_244.out _) | exact HI0.out)); (case side2 => repeat (first | (with_reducible first | exact HB.out | apply below_alloc | apply pw_below_drewN | apply below_drew1 | refine below_set ?_ (IsS77.ge HI0.out) | refine below_set ?_ GE210.out | refine below_set ?_ GE227.out | refine below_set ?_ GE244.out) | exact HB.out)); rintro e w64 ⟨rfl, hi, hb, hk⟩; refine ⟨_, rfl, ?_⟩; replace HO_4 := as_ (Kd.S_mono (Kd.S_keep (IsS77.apartS (show IsS77 w0 _ g s0_0 t249 t250 from by repeat (first | (with_reducible first | exact HI0.out | apply IsS77.alloc | apply IsS77.drewN | apply IsS77.drew | apply IsS77.set_1 | apply IsS77.set_2 | refine IsS77.far ?_ NB0_210.out _ | refine IsS77.far ?_ NB0_227.out _ | refine IsS77.far ?_ NB0_244.out _) | exact HI0.out)) (bS_ HO_4) (by first | decide | (simp [shK]; done))) hk (fun _ h => h.2)) (fun _ h => h.1)); replace HO_228000 := as_ (Kd.R_mono (Kd.R_keep (IsS77.apart (show IsS77 w0 _ g s0_0 t249 t250 from by repeat (first | (with_reducible first | exact HI0.out | apply IsS77.alloc | apply IsS77.drewN | apply IsS77.drew | apply IsS77.set_1 | apply IsS77.set_2 | refine IsS77.far ?_ NB0_210.out _ | refine IsS77.far ?_ NB0_227.out _ | refine IsS77.far ?_ NB0_244.out _) | exact HI0.out)) (bR_ HO_228000) (by first | decide | (simp [shK]; done))) hk (fun _ h => h.2)) (fun _ h => h.1)); replace BK210 := as_ (KeepBut.blk hk (g' := gb210) (o := .cells #[.slice none 0 0] 26 (0, 0)) (bk_ BK210) NB210_0.out (by simp)); replace BK227 := as_ (KeepBut.blk hk (g' := gb227) (o := .cells #[.slice Ao20 t222.length co20] 26 (0, 0)) (bk_ BK227) NB227_0.out (by simp)); replace HO242 := as_ (Kd.R_mono (Kd.R_keep (IsS77.apart (show IsS77 w0 _ g s0_0 t249 t250 from by repeat (first | (with_reducible first | exact HI0.out | apply IsS77.alloc | apply IsS77.drewN | apply IsS77.drew | apply IsS77.set_1 | apply IsS77.set_2 | refine IsS77.far ?_ NB0_210.out _ | refine IsS77.far ?_ NB0_227.out _ | refine IsS77.far ?_ NB0_244.out _) | exact HI0.out)) (bR_ HO242) (by first | decide | (simp [shK]; done))) hk (fun _ h => h.2)) (fun _ h => h.1)); replace BK244 := as_ (KeepBut.blk hk (g' := gb244) (o := .cells #[.slice Ao55 t240.length co55] 26 (0, 0)) (bk_ BK244) NB244_0.out (by simp)); replace HO247 := as_ (Kd.R_mono (Kd.R_keep (IsS77.apart (show IsS77 w0 _ g s0_0 t249 t250 from by repeat (first | (with_reducible first | exact HI0.out | apply IsS77.alloc | apply IsS77.drewN | apply IsS77.drew | apply IsS77.set_1 | apply IsS77.set_2 | refine IsS77.far ?_ NB0_210.out _ | refine IsS77.far ?_ NB0_227.out _ | refine IsS77.far ?_ NB0_244.out _) | exact HI0.out)) (bR_ HO247) (by first | decide | (simp [shK]; done))) hk (fun _ h => h.2)) (fun _ h => h.1)); replace HK := as_ (KeepBut.trans (by repeat (first | (with_reducible first | exact HK.out | apply KeepBut.set_ | apply keep_drewN | apply keep_drew | apply keep_alloc | refine keep_far ?_ GW210.out _ | refine keep_far ?_ GW227.out _ | refine keep_far ?_ GW244.out _) | exact HK.out)) hk (.inl rfl)); replace HB := as_ (hb); replace HI0 := as_ (hi); clear hb hk hi) | ((with_reducible refine gate_callee (f := 81) rfl ?_); refine gL_ 46 Try.func81 #[.pointer (some ⟨g, 0, none⟩), .int .i64 (wrap64 (1 + t251))] ?_; (with_reducible refine (spec_l01DrawOf.calls k1 g s0_0 t252 t253 (wrap64 (1 + t251)) t254 t257 t258 w0 _ ?side1 ?side2 A51.out).mono ?_); (case side1 => repeat (first | (with_reducible first | exact HI0.out | apply IsS77.alloc | apply IsS77.drewN | apply IsS77.drew | apply IsS77.set_1 | apply IsS77.set_2 | refine IsS77.far ?_ NB0_210.out _ | refine IsS77.far ?_ NB0_227.out _ | refine IsS77.far ?_ NB0_244.out _) | exact HI0.out)); (case side2 => repeat (first | (with_reducible first | exact HB.out | apply below_alloc | apply pw_below_drewN | apply below_drew1 | refine below_set ?_ (IsS77.ge HI0.out) | refine below_set ?_ GE210.out | refine below_set ?_ GE227.out | refine below_set ?_ GE244.out) | exact HB.out)); rintro e w65 ⟨v255, rfl, ho0, hi, hb, hk⟩; refine ⟨_, rfl, ?_⟩; replace HO_4 := as_ (Kd.S_mono (Kd.S_told (Kd.S_oldK (IsS77.apartS (show IsS77 w0 _ g s0_0 t252 t253 from by repeat (first | (with_reducible first | exact HI0.out | apply IsS77.alloc | apply IsS77.drewN | apply IsS77.drew | apply IsS77.set_1 | apply IsS77.set_2 | refine IsS77.far ?_ NB0_210.out _ | refine IsS77.far ?_ NB0_227.out _ | refine IsS77.far ?_ NB0_244.out _) | exact HI0.out)) (bS_ HO_4) (by first | decide | (simp [shK]; done))) hk) (Kd.R_base ho0)) (fun _ h_ => h_.1)); replace BK210 := as_ (KeepBut.blk hk (g' := gb210) (o := .cells #[.slice none 0 0] 26 (0, 0)) (bk_ BK210) NB210_0.out (by simp)); replace BK227 := as_ (KeepBut.blk hk (g' := gb227) (o := .cells #[.slice Ao20 t222.length co20] 26 (0, 0)) (bk_ BK227) NB227_0.out (by simp)); replace BK244 := as_ (KeepBut.blk hk (g' := gb244) (o := .cells #[.slice Ao55 t240.length co55] 26 (0, 0)) (bk_ BK244) NB244_0.out (by simp)); have HO256 := as_ (Kd.R_lower (nRR_ (nRR_ (nRR_ ho0 HO_228000) HO242) HO247) (keep_size (w := w) (g := g) (row := none) (by repeat (first | (with_reducible first | exact HK.out | apply KeepBut.set_ | apply keep_drewN | apply keep_drew | apply keep_alloc | refine keep_far ?_ GW210.out _ | refine keep_far ?_ GW227.out _ | refine keep_far ?_ GW244.out _) | exact HK.out)))); replace HO_228000 := as_ (Kd.R_mono (Kd.R_told (Kd.R_oldK (IsS77.apart (show IsS77 w0 _ g s0_0 t252 t253 from by repeat (first | (with_reducible first | exact HI0.out | apply IsS77.alloc | apply IsS77.drewN | apply IsS77.drew | apply IsS77.set_1 | apply IsS77.set_2 | refine IsS77.far ?_ NB0_210.out _ | refine IsS77.far ?_ NB0_227.out _ | refine IsS77.far ?_ NB0_244.out _) | exact HI0.out)) (bR_ HO_228000) (by first | decide | (simp [shK]; done))) hk) (Kd.R_base ho0)) (fun _ h_ => h_.1)); replace HO242 := as_ (Kd.R_mono (Kd.R_told (Kd.R_oldK (IsS77.apart (show IsS77 w0 _ g s0_0 t252 t253 from by repeat (first | (with_reducible first | exact HI0.out | apply IsS77.alloc | apply IsS77.drewN | apply IsS77.drew | apply IsS77.set_1 | apply IsS77.set_2 | refine IsS77.far ?_ NB0_210.out _ | refine IsS77.far ?_ NB0_227.out _ | refine IsS77.far ?_ NB0_244.out _) | exact HI0.out)) (bR_ HO242) (by first | decide | (simp [shK]; done))) hk) (Kd.R_base ho0)) (fun _ h_ => h_.1)); replace HO247 := as_ (Kd.R_mono (Kd.R_told (Kd.R_oldK (IsS77.apart (show IsS77 w0 _ g s0_0 t252 t253 from by repeat (first | (with_reducible first | exact HI0.out | apply IsS77.alloc | apply IsS77.drewN | apply IsS77.drew | apply IsS77.set_1 | apply IsS77.set_2 | refine IsS77.far ?_ NB0_210.out _ | refine IsS77.far ?_ NB0_227.out _ | refine IsS77.far ?_ NB0_244.out _) | exact HI0.out)) (bR_ HO247) (by first | decide | (simp [shK]; done))) hk) (Kd.R_base ho0)) (fun _ h_ => h_.1)); replace HK := as_ (KeepBut.trans (by repeat (first | (with_reducible first | exact HK.out | apply KeepBut.set_ | apply keep_drewN | apply keep_drew | apply keep_alloc | refine keep_far ?_ GW210.out _ | refine keep_far ?_ GW227.out _ | refine keep_far ?_ GW244.out _) | exact HK.out)) hk (.inl rfl)); replace HB := as_ (hb); replace HI0 := as_ (hi); clear hb hk hi ho0; obtain ⟨Ao66, co66, eo66⟩ := Kd.R_slice HO256.out; subst eo66; have hnb67 := NB210_227.out; have hnc67 := NB227_210.out; have hnb68 := NB210_0.out; have hnc68 := NB0_210.out; obtain ⟨hcz69_0, hfz69_0⟩ := tc1_ BK210))
      refine bodyPost_ret (results_cell_row rfl _ _ gb210 26 #[.slice Ao66 t254.length co66] (0, 0) _ rfl (bp_ BK210) Try.underlying26 rfl (by kernel_rfl)) rfl ?_
      exact ⟨_, re_, by (with_reducible repeat (first | apply Kd.R_alloc | apply Kd.R_drewN | apply Kd.R_drew)); exact Kd.R_mono (Kd.R_far (p := ⟨gb210, 0, none⟩) (Kd.R_types HO256.out BK210.out (by first | decide | (simp [shK]; done))) (fun _ hk => hk.2) (.slice Ao66 t254.length co66)) (fun _ hk => trivial), by repeat (first | (with_reducible first | exact HI0.out | apply IsS77.alloc | apply IsS77.drewN | apply IsS77.drew | apply IsS77.set_1 | apply IsS77.set_2 | refine IsS77.far ?_ NB0_210.out _ | refine IsS77.far ?_ NB0_227.out _ | refine IsS77.far ?_ NB0_244.out _) | exact HI0.out), b4_ HB ⟨IsS77.ge HI0.out⟩ GE210 GE227 GE244, by repeat (first | (with_reducible first | exact HK.out | apply KeepBut.set_ | apply keep_drewN | apply keep_drew | apply keep_alloc | refine keep_far ?_ GW210.out _ | refine keep_far ?_ GW227.out _ | refine keep_far ?_ GW244.out _) | exact HK.out)⟩

def spec_l01Spoil.f (k : Nat) (s0_0 : List Int) (s0_1 : Int) (s0_2 : Int) : Option (List Int × Int × Int) := (spec_l01Draw.f k s0_0 s0_1 s0_2).bind fun bt274 => ((spec_l01Bad.f s0_0 bt274.2.1 bt274.2.2 bt274.1).bind fun bt279 => (some (bt279.1, bt279.2.1, bt279.2.2)))
theorem spec_l01Spoil.calls (k : Nat) (g : Nat) (s0_0 : List Int) (s0_1 : Int) (s0_2 : Int) (r1 : List Int) (r2 : Int) (r3 : Int) (w0 w : World) (hI : IsS77 w0 w g s0_0 s0_1 s0_2) (hB : Below w0.heap.size w0 w) (h : spec_l01Spoil.f k s0_0 s0_1 s0_2 = some (r1, r2, r3)) :
    Calls Try.prog 36 #[.pointer (some ⟨g, 0, none⟩)] w fun e w' => ∃ v0_ : Value, e = .returned (.agg #[v0_]) ∧ Kd.R (Kd.int .i64) 2 w' w.heap.size (fun _ => True) v0_ r1 ∧ IsS77 w0 w' g s0_0 r2 r3 ∧ Below w0.heap.size w0 w' ∧ KeepBut w w' g none := by
  have hu26 := Try.underlying26
  have HI0 := as_ hI
  have HK := as_ (KeepBut.refl w g none)
  have HL := as_ hB.size
  clear hI
  have HW0 := as_ hB.size
  have HB := as_ hB
  clear hB
  have H : ((spec_l01Draw.f k s0_0 s0_1 s0_2).bind fun bt274 => ((spec_l01Bad.f s0_0 bt274.2.1 bt274.2.2 bt274.1).bind fun bt279 => (some (bt279.1, bt279.2.1, bt279.2.2)))) = some (r1, r2, r3) := h
  clear h
  obtain ⟨⟨t274, t277, t278⟩, A2, H⟩ := bo_ H
  dsimp only at H
  obtain ⟨⟨t279, t282, t283⟩, A3, H⟩ := bo_ H
  dsimp only at H
  simp only [Option.some.injEq, Prod.mk.injEq] at H
  obtain ⟨rfl, rfl, rfl⟩ := H
  go_enter Try.func36, Try.ntmps36
  go_wp2_with (first | ((with_reducible refine gate_dst (N := 2) rfl ?_); refine bx_ 2 #[.slice none 0 0] 26 ?_; intro gb273 hg w4 hbox hb; replace HB := as_ (below_step (b1_ HB ⟨IsS77.ge HI0.out⟩) hb); have BK273 := as_ (hbox); have GW273 := as_ ((by rw [hg]; exact (keep_size (w := w) (g := g) (row := none) (ku_ HK)) : w.heap.size ≤ gb273)); have GE273 := as_ ((Nat.le_trans HW0.out (by rw [hg]; exact (keep_size (w := w) (g := g) (row := none) (ku_ HK)) : w.heap.size ≤ gb273) : w0.heap.size ≤ gb273)); replace HK := as_ (KeepBut.trans (ku_ HK) (KeepBut.of_below hb g none) (.inl rfl)); have NB0_273 := as_ ((by rw [hg]; exact Nat.ne_of_lt (IsS77.lt (show IsS77 w0 _ g s0_0 s0_1 s0_2 from hi77_ HI0)) : g ≠ gb273)); have NB273_0 := as_ ((by rw [hg]; exact Nat.ne_of_gt (IsS77.lt (show IsS77 w0 _ g s0_0 s0_1 s0_2 from hi77_ HI0)) : gb273 ≠ g)); replace HI0 := as_ (IsS77.below (hi77_ HI0) hb); clear hb hbox hg) | ((with_reducible refine gate_callee (f := 73) rfl ?_); refine gL_ 5 Try.func73 #[.pointer (some ⟨g, 0, none⟩)] ?_; (with_reducible refine (spec_l01Draw.calls k g s0_0 s0_1 s0_2 t274 t277 t278 w0 _ ?side1 ?side2 A2.out).mono ?_); (case side1 => repeat (first | (with_reducible first | exact HI0.out | apply IsS77.alloc | apply IsS77.drewN | apply IsS77.drew | apply IsS77.set_1 | apply IsS77.set_2 | refine IsS77.far ?_ NB0_273.out _) | exact HI0.out)); (case side2 => repeat (first | (with_reducible first | exact HB.out | apply below_alloc | apply pw_below_drewN | apply below_drew1 | refine below_set ?_ (IsS77.ge HI0.out) | refine below_set ?_ GE273.out) | exact HB.out)); rintro e w5 ⟨v275, rfl, ho0, hi, hb, hk⟩; refine ⟨_, rfl, ?_⟩; replace BK273 := as_ (KeepBut.blk hk (g' := gb273) (o := .cells #[.slice none 0 0] 26 (0, 0)) (bk_ BK273) NB273_0.out (by simp)); have HO276 := as_ (Kd.R_lower ho0 (keep_size (w := w) (g := g) (row := none) (by repeat (first | (with_reducible first | exact HK.out | apply KeepBut.set_ | apply keep_drewN | apply keep_drew | apply keep_alloc | refine keep_far ?_ GW273.out _) | exact HK.out)))); replace HK := as_ (KeepBut.trans (by repeat (first | (with_reducible first | exact HK.out | apply KeepBut.set_ | apply keep_drewN | apply keep_drew | apply keep_alloc | refine keep_far ?_ GW273.out _) | exact HK.out)) hk (.inl rfl)); replace HB := as_ (hb); replace HI0 := as_ (hi); clear hb hk hi ho0; obtain ⟨Ao6, co6, eo6⟩ := Kd.R_slice HO276.out; subst eo6) | ((with_reducible refine gate_callee (f := 72) rfl ?_); refine gL_ 6 Try.func72 #[.pointer (some ⟨g, 0, none⟩), .agg #[.slice Ao6 t274.length co6]] ?_; (with_reducible refine (spec_l01Bad.calls g s0_0 t277 t278 (fun k_ => some k_ = (.slice Ao6 t274.length co6 : Value).ownBlock) (.slice Ao6 t274.length co6) t274 t279 t282 t283 w0 _ ?side1 ?side2 ?side3 A3.out).mono ?_); (case side1 => repeat (first | (with_reducible first | exact HI0.out | apply IsS77.alloc | apply IsS77.drewN | apply IsS77.drew | apply IsS77.set_1 | apply IsS77.set_2 | refine IsS77.far ?_ NB0_273.out _) | exact HI0.out)); (case side2 => repeat (first | (with_reducible first | exact HB.out | apply below_alloc | apply pw_below_drewN | apply below_drew1 | refine below_set ?_ (IsS77.ge HI0.out) | refine below_set ?_ GE273.out) | exact HB.out)); (case side3 => exact Kd.R_lower (Kd.R_tight rfl HO276.out) HL.out); rintro e w7 ⟨v280, rfl, ho0, hi, hb, hkp⟩; refine ⟨_, rfl, ?_⟩; replace HI0 := as_ (hi); replace BK273 := as_ (blk_kept (bk_ BK273) hkp (fun hs_ => Or.elim hs_ (fun hs_ => (fun e_ => (Kd.R_ne HO276.out BK273.out (by decide)) e_) hs_) (fun e_ => NB273_0.out e_))); have HO281 := as_ (Kd.R_mono (ok' := fun k_ => True) (Kd.R_raise (d := (Kd.int .i64)) (b := w0.heap.size) (b' := w.heap.size) (fun _ _ _ _ h_ => h_) ho0 (fun k_ e_ => Or.elim (ho0.1 k_ e_) (fun hs_ => (fun e_ => Kd.R_base HO276.out k_ e_.symm) hs_) (fun hn_ => Nat.le_trans (keep_size (w := w) (g := g) (row := none) (by repeat (first | (with_reducible first | exact HK.out | apply KeepBut.set_ | apply keep_drewN | apply keep_drew | apply keep_alloc | refine keep_far ?_ GW273.out _) | exact HK.out))) hn_))) (fun k_ hk_ => trivial)); replace HK := as_ (Kept.keepG (by repeat (first | (with_reducible first | exact HK.out | apply KeepBut.set_ | apply keep_drewN | apply keep_drew | apply keep_alloc | refine keep_far ?_ GW273.out _) | exact HK.out)) hkp (fun k_ hs_ => Or.elim hs_ (fun hs_ => (fun e_ => .inr (Kd.R_base HO276.out k_ e_.symm)) hs_) (fun e_ => .inl e_))); replace HB := as_ (hb); clear HO276; clear hb; (try clear hkp); clear ho0; obtain ⟨Ao8, co8, eo8⟩ := Kd.R_slice HO281.out; subst eo8; have hnb9 := NB273_0.out; have hnc9 := NB0_273.out; obtain ⟨hcz10_0, hfz10_0⟩ := tc1_ BK273))
  refine bodyPost_ret (results_cell_row rfl _ _ gb273 26 #[.slice Ao8 t279.length co8] (0, 0) _ rfl (bp_ BK273) Try.underlying26 rfl (by kernel_rfl)) rfl ?_
  exact ⟨_, re_, fR1_ HO281 BK273, by repeat (first | (with_reducible first | exact HI0.out | apply IsS77.alloc | apply IsS77.drewN | apply IsS77.drew | apply IsS77.set_1 | apply IsS77.set_2 | refine IsS77.far ?_ NB0_273.out _) | exact HI0.out), b2_ HB ⟨IsS77.ge HI0.out⟩ GE273, by repeat (first | (with_reducible first | exact HK.out | apply KeepBut.set_ | apply keep_drewN | apply keep_drew | apply keep_alloc | refine keep_far ?_ GW273.out _) | exact HK.out)⟩

def spec_l01From.l0 : Nat → List Int → Int → List Int → Int → Int → Option (List Int × Int × Int)
  | 0, _, _, _, _, _ => none
  | k + 1, x0, x4, x285000, x285001, x285002 => if x4 < (x0.length : Int) then (if x4 < 4096 then (if 0 ≤ x4 then (spec_l01From.l0 k x0 (wrap64 (x4 + 1)) x285000 x285001 (IntKind.u64.wrap ((IntKind.u64.wrap ((IntKind.u64.wrap (x285002 * 1099511628211)) + (IntKind.u64.wrap (rd x0 x4)))) + 233))) else (none)) else (some (x285000, x285001, x285002))) else (some (x285000, x285001, x285002))
def spec_l01From.f (k : Nat) (l0 : List Int) : Option (List Int × Int × Int) := spec_l01From.l0 k l0 0 l0 0 (IntKind.u64.wrap (13911 + (IntKind.u64.wrap ((l0.length : Int)))))
def spec_l01From.T5 : Bool × List (List Nat × List Nat) := (true, [([], []), ([], []), ([1], [1]), ([2], [2]), ([3], [3]), ([4], [4]), ([], []), ([], []), ([6, 7], [6, 7]), ([8], [8]), ([9], [9]), ([5, 10], [5, 10]), ([11], [11]), ([0, 0, 1, 2, 3, 4, 5, 6, 7, 8, 9, 10, 11, 12], [0]), ([13, 0, 1, 2, 3, 4, 5, 6, 7, 8, 9, 10, 11, 12], [13]), ([14, 12, 0, 1, 2, 3, 4, 5, 6, 7, 8, 9, 10, 11, 12], [12, 14])])
def spec_l01From.B5 : List Nat := [0, 0, 2, 6, 14, 30, 0, 0, 192, 448, 960, 2046, 4094, 8191, 16383, 32767]
theorem spec_l01From.tab5 : rtab .any (opsOf Try.f37 5) = spec_l01From.T5 := by kernel_rfl
theorem spec_l01From.bits5 : waitsOk spec_l01From.T5.2 spec_l01From.B5 = true := by kernel_rfl
theorem spec_l01From.calls (k : Nat) (A0 : Option Addr) (c0 : Nat) (l0 : List Int) (r1 : List Int) (r2 : Int) (r3 : Int) (w0 w : World) (hB : Below w0.heap.size w0 w) (hr0 : Kd.C (Kd.int .u8) w0 A0 l0.length l0) (hc0 : l0.length ≤ c0) (h : spec_l01From.f k l0 = some (r1, r2, r3)) :
    Calls Try.prog 37 #[.slice A0 l0.length c0] w fun e w' => ∃ g_ : Nat, e = .returned (.pointer (some ⟨g_, 0, none⟩)) ∧ IsS77 w0 w' g_ r1 r2 r3 ∧ Below w0.heap.size w0 w' ∧ Below w.heap.size w w' := by
  have hu77 := Try.underlying77
  have HR0 := as_ hr0
  have HC0 := as_ hc0
  clear hr0 hc0
  have HBW := as_ (Below.refl w.heap.size w)
  have HW0 := as_ hB.size
  have HB := as_ hB
  clear hB
  have H : (spec_l01From.l0 k l0 0 l0 0 (IntKind.u64.wrap (13911 + (IntKind.u64.wrap ((l0.length : Int)))))) = some (r1, r2, r3) := h
  clear h
  have H' := as_ H
  clear H
  go_enter Try.func37, Try.ntmps37
  go_wp2_with (first | ((with_reducible refine gate_dst (N := 11) rfl ?_); refine bx_ 11 #[.slice A0 l0.length c0, .int .i64 0, .int .u64 (IntKind.u64.wrap (13911 + (IntKind.u64.wrap ((l0.length : Int)))))] 77 ?_; intro gb284 hg w2 hbox hb; replace HB := as_ (below_step (b_ HB) hb); have BK284 := as_ (hbox); have GW284 := gz_ hg (b_ HBW); have GE284 := as_ ((Nat.le_trans HW0.out (by rw [hg]; exact (below_size (b_ HBW)) : w.heap.size ≤ gb284) : w0.heap.size ≤ gb284)); replace HBW := as_ (below_step HBW.out hb); clear hb hbox hg))
  go_loopg [4] k (fun kq v4 w' => ∃ (x4_1 : Int) (x285002_1 : Int), v4 = .int .i64 x4_1 ∧ Aside0 (spec_l01From.l0 kq l0 x4_1 l0 0 x285002_1 = some (r1, r2, r3)) ∧ Aside0 (kq ≤ k) ∧ Aside0 (w'.heap[gb284]? = some (.cells #[(.slice A0 l0.length c0), .int .i64 0, .int .u64 x285002_1] 77 (0, 0))) ∧ Aside0 (Below w0.heap.size w0 w') ∧ Aside0 (Below w.heap.size w w'))
  case atStart => exact ⟨(0), (IntKind.u64.wrap (13911 + (IntKind.u64.wrap ((l0.length : Int))))), rf_, H', ⟨Nat.le_refl _⟩, ⟨bk_ BK284⟩, ⟨b1_ HB GE284⟩, ⟨b1_ HBW GW284⟩⟩
  case round =>
    clear H'
    try clear p2
    obtain ⟨x4_1, x285002_1, rfl, HA, HK1, BK284, HB, HBW⟩ := hrel
    cases gk with
    | zero => exact absurd HA.out (by simp [spec_l01From.l0])
    | succ k1 =>
      have H := HA.out
      clear HA
      simp only [spec_l01From.l0] at H
      by_cases c3 : x4_1 < (l0.length : Int)
      rotate_left
      · rw [if_neg c3] at H
        have c3b0 := decide_eq_false c3
        clear c3
        simp only [Option.some.injEq, Prod.mk.injEq] at H
        obtain ⟨rfl, rfl, rfl⟩ := H
        go_wp2
        go_ret
        exact ⟨_, rfl, (show IsS77 w0 _ gb284 l0 0 x285002_1 from ⟨_, _, bk_ BK284, GE284.out, HR0.out⟩), b1_ HB GE284, b1_ HBW GW284⟩
      rw [if_pos c3] at H
      have c3b0 := decide_eq_true c3
      clear c3
      by_cases c4 : x4_1 < 4096
      rotate_left
      · rw [if_neg c4] at H
        have c4b0 := decide_eq_false c4
        clear c4
        simp only [Option.some.injEq, Prod.mk.injEq] at H
        obtain ⟨rfl, rfl, rfl⟩ := H
        go_wp2
        go_ret
        exact ⟨_, rfl, (show IsS77 w0 _ gb284 l0 0 x285002_1 from ⟨_, _, bk_ BK284, GE284.out, HR0.out⟩), b1_ HB GE284, b1_ HBW GW284⟩
      rw [if_pos c4] at H
      have c4b0 := decide_eq_true c4
      clear c4
      obtain ⟨c5b0, H⟩ := ite_d H
      have H' := as_ H
      clear H
      try go_wp2
      replace BK284 := dk_ BK284; replace HB := db_ HB
      have p285 : 0 ≤ (x4_1 : Int) := od_
      have q285 : x4_1 < (l0.length : Int) := od_
      obtain ⟨ad285, e285, hx285_0⟩ := Kd.at_int HR0.out x4_1 p285 q285
      have hw285_0 := hx285_0
      cases e285
      replace hx285_0 := pw_cell_below HB.out hx285_0
      replace p285 := eq_true p285
      replace q285 := eq_true q285
      refine start_ (n := 16) (S := fun w' => w'.cell? ⟨gb284, 0, none⟩ = some (.slice (some ad285) l0.length c0) ∧ w'.cell? ⟨gb284, 1, none⟩ = some (.int .i64 0) ∧ w'.cell? ⟨gb284, 2, none⟩ = some (.int .u64 x285002_1) ∧ w'.cell? (ad285.add (x4_1).toNat) = some (.int .u8 (rd l0 x4_1))) (ds := [15]) #[false, false, false, false, false, false, false, false, false, false, false, false, false, false, false, false] (by kernel_rfl) rfl rfl (tz3_ BK284 (((HB.out.cell (World.block_lt_of_cell? _ _ hw285_0)).trans hw285_0))) (fun hHeld => ?_); refine with_tabW spec_l01From.tab5 spec_l01From.bits5 (fun HT_ HW_ => ?_)
      have HBW2 := db_ HBW
      clear HBW
      have HBW := HBW2
      clear HBW2
      generalize wr.drew = w6 at BK284 HB HBW hx285_0 hHeld ⊢
      refine pu_ 0 22 HT_ ?_
      refine pu_ 1 23 HT_ ?_
      refine pu_ 2 24 HT_ ?_
      refine pu_ 3 25 HT_ ?_
      refine pu_ 6 28 HT_ ?_
      refine pu_ 7 29 HT_ ?_
      refine pu_ 8 30 HT_ ?_
      refine tk_ 4 26 HT_ HW_ hHeld ?_
      refine pu_ 5 27 HT_ ?_
      refine tk_ 9 31 HT_ HW_ hHeld ?_
      refine pu_ 10 32 HT_ ?_
      refine pu_ 11 33 HT_ ?_
      refine pu_ 12 34 HT_ ?_
      refine pu_ 13 35 HT_ ?_
      refine pu_ 14 36 HT_ ?_
      refine last_ (i := 15) (N := none) #[true, true, true, true, true, true, true, true, true, true, true, true, true, true, true, true] rfl rfl (one_of HT_.out (by kernel_rfl)) (by decide) (fun K hK => ?_)
      have hs7 : w6.cell? ⟨gb284, 2, none⟩ = some (.int .u64 x285002_1) := (blk_cell BK284.out 2).trans rfl
      have hfs7 := blk_frozen BK284.out 2
      refine skip_ (w1 := ?_) (by rfl) rfl ?_ ?_
      rotate_left
      · go_simp
        rfl
      refine hK.out _ _ ?_
      clear hK K
      refine dn_ HT_ ?_
      try go_wp2
      go_roundg k1
      case measure => have := HK1.out; omega
      case rel => exact ⟨(wrap64 (x4_1 + 1)), (IntKind.u64.wrap ((IntKind.u64.wrap ((IntKind.u64.wrap (x285002_1 * 1099511628211)) + (IntKind.u64.wrap (rd l0 x4_1)))) + 233)), rf_, H', om_ HK1, ⟨bp_ BK284⟩, ⟨b1_ HB GE284⟩, ⟨b1_ HBW GW284⟩⟩

def spec_DrawBinaryOf.f (k : Nat) (l0 : List Int) : Option (List Int) := (spec_l01From.f k l0).bind fun bt287 => ((spec_l01Spoil.f k bt287.1 bt287.2.1 bt287.2.2).bind fun bt291 => (some bt291.1))
theorem spec_DrawBinaryOf.calls (k : Nat) (A0 : Option Addr) (c0 : Nat) (l0 : List Int) (r : List Int) (w : World) (hr0 : Kd.C (Kd.int .u8) w A0 l0.length l0) (hc0 : l0.length ≤ c0) (h : spec_DrawBinaryOf.f k l0 = some r) :
    Calls Try.prog 5 #[.slice A0 l0.length c0] w fun e w' => ∃ v0_ : Value, e = .returned (.agg #[v0_]) ∧ Kd.R (Kd.int .i64) 2 w' w.heap.size (fun _ => True) v0_ r ∧ Below w.heap.size w w' := by
  have hu26 := Try.underlying26
  have HR0 := as_ hr0
  have HC0 := as_ hc0
  clear hr0 hc0
  have HB := as_ (Below.refl w.heap.size w)
  have H : ((spec_l01From.f k l0).bind fun bt287 => ((spec_l01Spoil.f k bt287.1 bt287.2.1 bt287.2.2).bind fun bt291 => (some bt291.1))) = some r := h
  clear h
  obtain ⟨⟨t287, t288, t289⟩, A2, H⟩ := bo_ H
  dsimp only at H
  obtain ⟨⟨t291, t294, t295⟩, A3, H⟩ := bo_ H
  dsimp only at H
  obtain rfl := Option.some.inj H
  go_enter Try.func5, Try.ntmps5
  go_wp2_with (first | ((with_reducible refine gate_dst (N := 2) rfl ?_); refine bx_ 2 #[.slice none 0 0] 26 ?_; intro gb286 hg w4 hbox hb; have BK286 := as_ (hbox); have GW286 := gz_ hg (b_ HB); have GE286 := GW286; replace HB := as_ (below_step (b_ HB) hb); clear hb hbox hg) | ((with_reducible refine gate_callee (f := 37) rfl ?_); refine gL_ 4 Try.func37 #[.slice A0 l0.length c0] ?_; (with_reducible refine (spec_l01From.calls k _ _ l0 t287 t288 t289 w _ ?side1 ?side2 ?side3 A2.out).mono ?_); (case side1 => repeat (first | (with_reducible first | exact HB.out | apply below_alloc | apply pw_below_drewN | apply below_drew1 | refine below_set ?_ GE286.out) | exact HB.out)); (case side2 => exact HR0.out); (case side3 => exact HC0.out); rintro e w5 ⟨g290, rfl, hi, hb, hb2⟩; refine ⟨_, rfl, ?_⟩; replace HB := as_ (hb); have HI290 := as_ (hi); have NB290_286 := as_ (IsS77.ne_blk hi (blk_below (bk_ BK286) hb2) (by decide)); have NB286_290 := as_ (Ne.symm (IsS77.ne_blk hi (blk_below (bk_ BK286) hb2) (by decide))); replace BK286 := kb_ BK286 hb2; clear hb hb2 hi) | ((with_reducible refine gate_callee (f := 36) rfl ?_); refine gL_ 5 Try.func36 #[.pointer (some ⟨g290, 0, none⟩)] ?_; (with_reducible refine (spec_l01Spoil.calls k g290 t287 t288 t289 t291 t294 t295 w _ ?side1 ?side2 A3.out).mono ?_); (case side1 => repeat (first | (with_reducible first | exact HI290.out | apply IsS77.alloc | apply IsS77.drewN | apply IsS77.drew | apply IsS77.set_1 | apply IsS77.set_2 | refine IsS77.far ?_ NB290_286.out _) | exact HI290.out)); (case side2 => repeat (first | (with_reducible first | exact HB.out | apply below_alloc | apply pw_below_drewN | apply below_drew1 | refine below_set ?_ (IsS77.ge HI290.out) | refine below_set ?_ GE286.out) | exact HB.out)); rintro e w6 ⟨v292, rfl, ho0, hi, hb, hk⟩; refine ⟨_, rfl, ?_⟩; replace BK286 := as_ (KeepBut.blk hk (g' := gb286) (o := .cells #[.slice none 0 0] 26 (0, 0)) (bk_ BK286) NB286_290.out (by simp)); have HO293 := as_ (Kd.R_lower ho0 (below_size (b2_ HB ⟨IsS77.ge HI290.out⟩ GE286))); replace HB := as_ (hb); replace HI290 := as_ (hi); clear hb hk hi ho0; obtain ⟨Ao7, co7, eo7⟩ := Kd.R_slice HO293.out; subst eo7; have hnb8 := NB286_290.out; have hnc8 := NB290_286.out; obtain ⟨hcz9_0, hfz9_0⟩ := tc1_ BK286))
  refine bodyPost_ret (results_cell_row rfl _ _ gb286 26 #[.slice Ao7 t291.length co7] (0, 0) _ rfl (bp_ BK286) Try.underlying26 rfl (by kernel_rfl)) rfl ?_
  exact ⟨_, re_, fR1_ HO293 BK286, b2_ HB ⟨IsS77.ge HI290.out⟩ GE286⟩

mutual
def impl_isTree.j0 : Nat → List Int → Bool → Option (Bool)
  | 0, _, _ => none
  | k + 1, x0, x13 => if x13 = true then (some false) else (impl_isTree.l0 k 1 x0 (x0.length : Int) 0)
def impl_isTree.l0 : Nat → Int → List Int → Int → Int → Option (Bool)
  | 0, _, _, _, _ => none
  | k + 1, x3, x14, x15, x16 => if x16 < x15 then (if 0 ≤ x16 then (if x16 < (x14.length : Int) then (if x3 = 0 then (some false) else (if (rd x14 x16) < 0 then (some false) else (if (rd x14 x16) ≥ 24 then (some false) else (impl_isTree.l0 k (wrap64 (x3 + (wrap64 ((rd x14 x16) - 1)))) x14 x15 (wrap64 (x16 + 1)))))) else (none)) else (none)) else (some (x3 == 0))
end
def impl_isTree.f (k : Nat) (l0 : List Int) : Option (Bool) := if (l0.length : Int) < 1 then (impl_isTree.j0 k l0 true) else (impl_isTree.j0 k l0 (decide ((l0.length : Int) > 24)))
theorem impl_isTree.calls (k : Nat) (A0 : Option Addr) (c0 : Nat) (l0 : List Int) (r : Bool) (w : World) (hr0 : Kd.C (Kd.int .i64) w A0 l0.length l0) (hc0 : l0.length ≤ c0) (h : impl_isTree.f k l0 = some r) :
    Calls Try.prog 74 #[.slice A0 l0.length c0] w fun e w' => e = .returned (.bool r) ∧ Drawn0 w w' := by
  have HR0 := as_ hr0
  have HC0 := as_ hc0
  clear hr0 hc0
  have H : (if (l0.length : Int) < 1 then (impl_isTree.j0 k l0 true) else (impl_isTree.j0 k l0 (decide ((l0.length : Int) > 24)))) = some r := h
  clear h
  have HC2 := as_ H
  clear H
  go_enter Try.func74, Try.ntmps74
  go_upto_region 1 with (fail)
  go_cut [13] (fun v13 wc => ∃ (kq : Nat) (x13_1 : Bool), v13 = .bool x13_1 ∧ Aside0 (impl_isTree.j0 kq l0 x13_1 = some r) ∧ Aside0 (kq ≤ k) ∧ Drawn0 w wc)
  case first =>
    have H := HC2.out
    clear HC2
    by_cases c3 : (l0.length : Int) < 1
    · rw [if_pos c3] at H
      have c3b0 := decide_eq_true c3
      have c3b1 : decide (l0.length < 1) = true := decide_eq_true (by omega)
      clear c3
      (first | rw [c3b0] | (simp only [i64_w, i32_w]; rw [c3b0]) | skip)
      have H' := as_ H
      clear H
      go_wp2
      go_meet
      case rel => exact ⟨_, (true), rf_, H', ⟨by first | omega | exact Nat.le_refl _⟩, d0_⟩
    rw [if_neg c3] at H
    have c3b0 := decide_eq_false c3
    have c3b1 : decide (l0.length < 1) = false := decide_eq_false (by omega)
    clear c3
    (first | rw [c3b0] | (simp only [i64_w, i32_w]; rw [c3b0]) | skip)
    have H' := as_ H
    clear H
    go_wp2
    go_meet
    case rel => exact ⟨_, (decide ((l0.length : Int) > 24)), rf_, H', ⟨by first | omega | exact Nat.le_refl _⟩, d0_⟩
  case rest =>
    clear HC2
    (try clear p2); (try clear c3); (try clear c3b0); (try clear c3b1)
    obtain ⟨kq, x13_1, rfl, HA, HJ1, ⟨mc1, rfl⟩⟩ := hcut
    cases kq with
    | zero => exact absurd HA.out (by simp [impl_isTree.j0])
    | succ kj1 =>
      have H := HA.out
      clear HA
      simp only [impl_isTree.j0] at H
      by_cases c4 : x13_1 = true
      · subst c4
        replace H := it_ H
        obtain rfl := Option.some.inj H
        go_wp2
        go_ret
        exact ⟨rf_, d0_⟩
      replace c4 := Bool.eq_false_iff.mpr c4
      subst c4
      replace H := if_ H
      have H' := as_ H
      clear H
      go_wp2
      go_loopg [3, 16] kj1 (fun kq v3 v16 w' => ∃ (x3_2 : Int) (x16_2 : Int), v3 = .int .i64 x3_2 ∧ v16 = .int .i64 x16_2 ∧ Aside0 (impl_isTree.l0 kq x3_2 l0 (l0.length : Int) x16_2 = some r) ∧ Aside0 (kq ≤ kj1) ∧ Drawn0 w w')
      case atStart => exact ⟨(1), (0), rf_, rf_, H', ⟨Nat.le_refl _⟩, d0_⟩
      case round =>
        clear H'
        (try clear c1); (try clear p2); (try clear c3); (try clear c3b0); (try clear c3b1); (try clear c4); (try clear p2)
        obtain ⟨x3_2, x16_2, rfl, rfl, HA, HK2, ⟨m2, rfl⟩⟩ := hrel
        cases gk with
        | zero => exact absurd HA.out (by simp [impl_isTree.l0])
        | succ k2 =>
          have H := HA.out
          clear HA
          simp only [impl_isTree.l0] at H
          by_cases c5 : x16_2 < (l0.length : Int)
          rotate_left
          · rw [if_neg c5] at H
            have c5b0 := decide_eq_false c5
            clear c5
            obtain rfl := Option.some.inj H
            go_wp2
            go_ret
            exact ⟨rf_, d0_⟩
          rw [if_pos c5] at H
          have c5b0 := decide_eq_true c5
          clear c5
          obtain ⟨c6b0, H⟩ := ite_d H
          obtain ⟨c7b0, H⟩ := ite_d H
          by_cases c8 : x3_2 = 0
          · rw [if_pos c8] at H
            have c8b0 := beq_iff_eq.mpr c8
            have c8b1 := bne_eq_false_iff_eq.mpr c8
            clear c8
            obtain rfl := Option.some.inj H
            have p296 : 0 ≤ (x16_2 : Int) := od_
            have q296 : x16_2 < (l0.length : Int) := od_
            obtain ⟨ad296, e296, hx296_0⟩ := Kd.at_int HR0.out x16_2 p296 q296
            cases e296
            replace p296 := eq_true p296
            replace q296 := eq_true q296
            go_wp2
            go_ret
            exact ⟨rf_, d0_⟩
          rw [if_neg c8] at H
          have c8b0 := beq_eq_false_iff_ne.mpr c8
          have c8b1 := bne_iff_ne.mpr c8
          by_cases c9 : (rd l0 x16_2) < 0
          · rw [if_pos c9] at H
            have c9b0 := decide_eq_true c9
            clear c9
            obtain rfl := Option.some.inj H
            have p296 : 0 ≤ (x16_2 : Int) := od_
            have q296 : x16_2 < (l0.length : Int) := od_
            obtain ⟨ad296, e296, hx296_0⟩ := Kd.at_int HR0.out x16_2 p296 q296
            cases e296
            replace p296 := eq_true p296
            replace q296 := eq_true q296
            go_wp2
            go_ret
            exact ⟨rf_, d0_⟩
          rw [if_neg c9] at H
          have c9b0 := decide_eq_false c9
          clear c9
          by_cases c10 : (rd l0 x16_2) ≥ 24
          · rw [if_pos c10] at H
            have c10b0 := decide_eq_true c10
            clear c10
            obtain rfl := Option.some.inj H
            have p296 : 0 ≤ (x16_2 : Int) := od_
            have q296 : x16_2 < (l0.length : Int) := od_
            obtain ⟨ad296, e296, hx296_0⟩ := Kd.at_int HR0.out x16_2 p296 q296
            cases e296
            replace p296 := eq_true p296
            replace q296 := eq_true q296
            go_wp2
            go_ret
            exact ⟨rf_, d0_⟩
          rw [if_neg c10] at H
          have c10b0 := decide_eq_false c10
          clear c10
          have H' := as_ H
          clear H
          have p296 : 0 ≤ (x16_2 : Int) := od_
          have q296 : x16_2 < (l0.length : Int) := od_
          obtain ⟨ad296, e296, hx296_0⟩ := Kd.at_int HR0.out x16_2 p296 q296
          cases e296
          replace p296 := eq_true p296
          replace q296 := eq_true q296
          go_wp2
          go_roundg k2
          case measure => have := HJ1.out; have := HK2.out; omega
          case rel => exact ⟨(wrap64 (x3_2 + (wrap64 ((rd l0 x16_2) - 1)))), (wrap64 (x16_2 + 1)), rf_, rf_, H', ⟨by have := HJ1.out; have := HK2.out; omega⟩, d0_⟩

def impl_IsTree.f (k : Nat) (l0_0 : List Int) : Option (Bool) := (impl_isTree.f k l0_0).bind fun t298 => (some t298)
theorem impl_IsTree.calls (k : Nat) (A0_0 : Option Addr) (c0_0 : Nat) (l0_0 : List Int) (r : Bool) (w : World) (hr0_0 : Kd.C (Kd.int .i64) w A0_0 l0_0.length l0_0) (hc0_0 : l0_0.length ≤ c0_0) (h : impl_IsTree.f k l0_0 = some r) :
    Calls Try.prog 38 #[.agg #[.slice A0_0 l0_0.length c0_0]] w fun e w' => e = .returned (.bool r) ∧ Below w.heap.size w w' := by
  have hu26 := Try.underlying26
  have HR0_0 := as_ hr0_0
  have HC0_0 := as_ hc0_0
  clear hr0_0 hc0_0
  have HB := as_ (Below.refl w.heap.size w)
  have H : ((impl_isTree.f k l0_0).bind fun t298 => (some t298)) = some r := h
  clear h
  obtain ⟨t298, A2, H⟩ := bo_ H
  obtain rfl := Option.some.inj H
  go_enter Try.func38, Try.ntmps38
  go_wp2_with (first | ((with_reducible refine gate_dst (N := 1) rfl ?_); refine bx_ 1 #[.slice A0_0 l0_0.length c0_0] 26 ?_; intro gb297 hg w3 hbox hb; have BK297 := as_ (hbox); have GW297 := gz_ hg (b_ HB); have GE297 := GW297; replace HB := as_ (below_step (b_ HB) hb); clear hb hbox hg; obtain ⟨hcz4_0, hfz4_0⟩ := tc1_ BK297) | ((with_reducible refine gate_callee (f := 74) rfl ?_); refine gL_ 5 Try.func74 #[.slice A0_0 l0_0.length c0_0] ?_; (with_reducible refine (impl_isTree.calls k _ _ l0_0 t298 _ ?side1 ?side2 A2.out).mono ?_); (case side1 => exact bC_ HR0_0 HB); (case side2 => exact HC0_0.out); rintro e w' ⟨rfl, ⟨nd, rfl⟩⟩; refine ⟨_, rfl, ?_⟩))
  go_ret
  exact ⟨re_, b1_ HB GE297⟩

end Go.Proofs.Ythbdbgoeaichcaa.E
