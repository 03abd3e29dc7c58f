/- The row of the law FnExactCombineAutomata, out of its pure statement. -/
import Derived.Test.YtpbfideppdmceaaQCMEx0
import Derived.Test.YtpbfideppdmceaaQCMEx2
import Derived.Test.YtpbfideppdmceaaQCMEx3
import Derived.Test.YtpbfideppdmceaaQCML
-- Written by wip/ext.py of this claim (contracts by the form of the kit's print; hand-written ones among them).
namespace Go.Proofs.Ytpbfideppdmceaa.E
open Go.RowKit Go.Proofs.YtpbfideppdmceaaW.PrintWords Go.Proofs.YtpbfideppdmceaaW.PrintLast Go.Proofs.YtpbfideppdmceaaW.PrintMore Go.Proofs.Ytpbfideppdmceaa.Mi
attribute [local go_sem] max2_int min2_int max_two min_two max_three min_three max_four min_four   -- for this text's walks alone
set_option linter.unusedVariables false
set_option linter.unusedSimpArgs false

mutual
def spec_l06Combined.l0 : Nat → List (List Int) → Int → Int → Int → List (List Int) → List Int → Int → List (List Int) → List Int → Int → List (List Int) → List Int → Option (Int × (List (List Int)) × List Int)
  | 0, _, _, _, _, _, _, _, _, _, _, _, _ => none
  | k + 1, x2, x3, x10, x192000, x192001, x192002, x193000, x193001, x193002, x201000, x201001, x201002 => if x10 < (x2.length : Int) then (spec_l06Combined.l1 k x2 x3 x10 (([] : List Int)) 0 x192000 x192001 x192002 x193000 x193001 x193002 x201000 x201001 x201002) else (some (x201000, x201001, x201002))
def spec_l06Combined.l1 : Nat → List (List Int) → Int → Int → List Int → Int → Int → List (List Int) → List Int → Int → List (List Int) → List Int → Int → List (List Int) → List Int → Option (Int × (List (List Int)) × List Int)
  | 0, _, _, _, _, _, _, _, _, _, _, _, _, _, _ => none
  | k + 1, x2, x3, x10, x11, x12, x192000, x192001, x192002, x193000, x193001, x193002, x201000, x201001, x201002 => if x12 < (x2.length : Int) then (if 0 ≤ x10 then (if x10 < (x2.length : Int) then (if 0 < ((rd_L1 x2 x10).length : Int) then (if 0 ≤ (rd (rd_L1 x2 x10) 0) then (if (rd (rd_L1 x2 x10) 0) < (x192001.length : Int) then (if 0 ≤ x12 then (if 0 < ((rd_L1 x2 x12).length : Int) then (if 0 ≤ (rd (rd_L1 x2 x12) 0) then (if (rd (rd_L1 x2 x12) 0) < ((rd_L1 x192001 (rd (rd_L1 x2 x10) 0)).length : Int) then (if 1 < ((rd_L1 x2 x10).length : Int) then (if 0 ≤ (rd (rd_L1 x2 x10) 1) then (if (rd (rd_L1 x2 x10) 1) < (x193001.length : Int) then (if 1 < ((rd_L1 x2 x12).length : Int) then (if 0 ≤ (rd (rd_L1 x2 x12) 1) then (if (rd (rd_L1 x2 x12) 1) < ((rd_L1 x193001 (rd (rd_L1 x2 x10) 1)).length : Int) then ((spec_l06Number.f k x2 (rd (rd_L1 x192001 (rd (rd_L1 x2 x10) 0)) (rd (rd_L1 x2 x12) 0)) (rd (rd_L1 x193001 (rd (rd_L1 x2 x10) 1)) (rd (rd_L1 x2 x12) 1))).bind fun bt216 => (if x11.length < 17592186044416 then (spec_l06Combined.l1 k x2 x3 x10 (x11 ++ [bt216.1]) (wrap64 (x12 + 1)) x192000 x192001 x192002 x193000 x193001 x193002 x201000 x201001 x201002) else (none))) else (none)) else (none)) else (none)) else (none)) else (none)) else (none)) else (none)) else (none)) else (none)) else (none)) else (none)) else (none)) else (none)) else (none)) else (none)) else (if x201001.length < 5864062014805 then ((some (x201001 ++ [x11] : List (List Int))).bind fun y223 => (if 0 ≤ x10 then (if x10 < (x2.length : Int) then (if 0 < ((rd_L1 x2 x10).length : Int) then ((spec_l06Good.f k x192000 x192001 x192002 (rd (rd_L1 x2 x10) 0)).bind fun t228 => (if 1 < ((rd_L1 x2 x10).length : Int) then ((spec_l06Good.f k x193000 x193001 x193002 (rd (rd_L1 x2 x10) 1)).bind fun t231 => (if x3 = 0 then (if t228 = true then (if t231 = true then (if x201002.length < 17592186044416 then (spec_l06Combined.l0 k x2 x3 (wrap64 (x10 + 1)) x192000 x192001 x192002 x193000 x193001 x193002 x201000 y223 (x201002 ++ [x10])) else (none)) else (if x3 = 1 then (if x201002.length < 17592186044416 then (spec_l06Combined.l0 k x2 x3 (wrap64 (x10 + 1)) x192000 x192001 x192002 x193000 x193001 x193002 x201000 y223 (x201002 ++ [x10])) else (none)) else (if x3 = 2 then (if (t228 != t231) = true then (if x201002.length < 17592186044416 then (spec_l06Combined.l0 k x2 x3 (wrap64 (x10 + 1)) x192000 x192001 x192002 x193000 x193001 x193002 x201000 y223 (x201002 ++ [x10])) else (none)) else (spec_l06Combined.l0 k x2 x3 (wrap64 (x10 + 1)) x192000 x192001 x192002 x193000 x193001 x193002 x201000 y223 x201002)) else (spec_l06Combined.l0 k x2 x3 (wrap64 (x10 + 1)) x192000 x192001 x192002 x193000 x193001 x193002 x201000 y223 x201002)))) else (if x3 = 1 then (if t231 = true then (if x201002.length < 17592186044416 then (spec_l06Combined.l0 k x2 x3 (wrap64 (x10 + 1)) x192000 x192001 x192002 x193000 x193001 x193002 x201000 y223 (x201002 ++ [x10])) else (none)) else (if x3 = 2 then (if (t228 != t231) = true then (if x201002.length < 17592186044416 then (spec_l06Combined.l0 k x2 x3 (wrap64 (x10 + 1)) x192000 x192001 x192002 x193000 x193001 x193002 x201000 y223 (x201002 ++ [x10])) else (none)) else (spec_l06Combined.l0 k x2 x3 (wrap64 (x10 + 1)) x192000 x192001 x192002 x193000 x193001 x193002 x201000 y223 x201002)) else (spec_l06Combined.l0 k x2 x3 (wrap64 (x10 + 1)) x192000 x192001 x192002 x193000 x193001 x193002 x201000 y223 x201002))) else (if x3 = 2 then (if (t228 != t231) = true then (if x201002.length < 17592186044416 then (spec_l06Combined.l0 k x2 x3 (wrap64 (x10 + 1)) x192000 x192001 x192002 x193000 x193001 x193002 x201000 y223 (x201002 ++ [x10])) else (none)) else (spec_l06Combined.l0 k x2 x3 (wrap64 (x10 + 1)) x192000 x192001 x192002 x193000 x193001 x193002 x201000 y223 x201002)) else (spec_l06Combined.l0 k x2 x3 (wrap64 (x10 + 1)) x192000 x192001 x192002 x193000 x193001 x193002 x201000 y223 x201002)))) else (if x3 = 1 then (if t228 = true then (if x201002.length < 17592186044416 then (spec_l06Combined.l0 k x2 x3 (wrap64 (x10 + 1)) x192000 x192001 x192002 x193000 x193001 x193002 x201000 y223 (x201002 ++ [x10])) else (none)) else (if t231 = true then (if x201002.length < 17592186044416 then (spec_l06Combined.l0 k x2 x3 (wrap64 (x10 + 1)) x192000 x192001 x192002 x193000 x193001 x193002 x201000 y223 (x201002 ++ [x10])) else (none)) else (if x3 = 2 then (if (t228 != t231) = true then (if x201002.length < 17592186044416 then (spec_l06Combined.l0 k x2 x3 (wrap64 (x10 + 1)) x192000 x192001 x192002 x193000 x193001 x193002 x201000 y223 (x201002 ++ [x10])) else (none)) else (spec_l06Combined.l0 k x2 x3 (wrap64 (x10 + 1)) x192000 x192001 x192002 x193000 x193001 x193002 x201000 y223 x201002)) else (spec_l06Combined.l0 k x2 x3 (wrap64 (x10 + 1)) x192000 x192001 x192002 x193000 x193001 x193002 x201000 y223 x201002)))) else (if x3 = 2 then (if (t228 != t231) = true then (if x201002.length < 17592186044416 then (spec_l06Combined.l0 k x2 x3 (wrap64 (x10 + 1)) x192000 x192001 x192002 x193000 x193001 x193002 x201000 y223 (x201002 ++ [x10])) else (none)) else (spec_l06Combined.l0 k x2 x3 (wrap64 (x10 + 1)) x192000 x192001 x192002 x193000 x193001 x193002 x201000 y223 x201002)) else (spec_l06Combined.l0 k x2 x3 (wrap64 (x10 + 1)) x192000 x192001 x192002 x193000 x193001 x193002 x201000 y223 x201002))))) else (none))) else (none)) else (none)) else (none))) else (none))
end
def spec_l06Combined.f (k : Nat) (a0_0 : Int) (l0_1 : List (List Int)) (l0_2 : List Int) (a1_0 : Int) (l1_1 : List (List Int)) (l1_2 : List Int) (l2 : List (List Int)) (a3 : Int) : Option (Int × (List (List Int)) × List Int) := spec_l06Combined.l0 k l2 a3 0 a0_0 l0_1 l0_2 a1_0 l1_1 l1_2 0 (([] : List (List Int))) (([] : List Int))
def spec_l06Combined.T9 : Bool × List (List Nat × List Nat) := (true, [([], []), ([], []), ([1], [1]), ([], []), ([], []), ([3, 4], [3, 4]), ([5], [5]), ([6], [6]), ([7], [7]), ([2, 8], [2, 8]), ([9], [9]), ([], []), ([], []), ([11, 12], [11, 12]), ([13], [13]), ([14], [14]), ([15], [15]), ([10, 16], [10, 16]), ([17], [17]), ([], []), ([19], [19]), ([], []), ([], []), ([21, 22], [21, 22]), ([23], [23]), ([24], [24]), ([25], [25]), ([20, 26], [20, 26]), ([27], [27]), ([], []), ([], []), ([29, 30], [29, 30]), ([31], [31]), ([32], [32]), ([33], [33]), ([28, 34], [28, 34]), ([35], [35]), ([0, 18, 36], [0, 18, 36]), ([37], [37]), ([38], [38]), ([38], [38]), ([39, 37, 0, 1, 2, 3, 4, 5, 6, 7, 8, 9, 10, 11, 12, 13, 14, 15, 16, 17, 18, 19, 20, 21, 22, 23, 24, 25, 26, 27, 28, 29, 30, 31, 32, 33, 34, 35, 36, 37, 38, 39], [39]), ([40, 41, 0, 1, 2, 3, 4, 5, 6, 7, 8, 9, 10, 11, 12, 13, 14, 15, 16, 17, 18, 19, 20, 21, 22, 23, 24, 25, 26, 27, 28, 29, 30, 31, 32, 33, 34, 35, 36, 37, 38, 39, 40, 41], [40])])
def spec_l06Combined.B9 : List Nat := [0, 0, 2, 0, 0, 24, 56, 120, 248, 510, 1022, 0, 0, 6144, 14336, 30720, 63488, 131070, 262142, 0, 524288, 0, 0, 6291456, 14680064, 31457280, 65011712, 133693440, 267911168, 0, 0, 1610612736, 3758096384, 8053063680, 16642998272, 34359214080, 68718952448, 137438953471, 274877906943, 549755813887, 549755813887, 1099511627775, 4398046511103]
theorem spec_l06Combined.tab9 : rtab .any (opsOf Try.f27 9) = spec_l06Combined.T9 := by kernel_rfl
theorem spec_l06Combined.bits9 : waitsOk spec_l06Combined.T9.2 spec_l06Combined.B9 = true := by kernel_rfl
def spec_l06Combined.T12 : Bool × List (List Nat × List Nat) := (true, [([], []), ([], []), ([], []), ([1, 2], [1, 2]), ([3], [3]), ([4], [4]), ([5], [5]), ([0, 6], [0, 6]), ([], []), ([], []), ([], []), ([9, 10], [9, 10]), ([11], [11]), ([12], [12]), ([13], [13]), ([8, 14, 7], [8, 14]), ([7, 15, 0, 1, 2, 3, 4, 5, 6, 7], [7]), ([15, 16, 0, 1, 2, 3, 4, 5, 6, 7, 8, 9, 10, 11, 12, 13, 14, 15, 16], [15])])
def spec_l06Combined.B12 : List Nat := [0, 0, 0, 6, 14, 30, 62, 127, 0, 0, 0, 1536, 3584, 7680, 15872, 32767, 65535, 131071]
theorem spec_l06Combined.tab12 : rtab .any (opsOf Try.f27 12) = spec_l06Combined.T12 := by kernel_rfl
theorem spec_l06Combined.bits12 : waitsOk spec_l06Combined.T12.2 spec_l06Combined.B12 = true := by kernel_rfl
set_option maxHeartbeats 8000000 in
set_option maxRecDepth 100000 in
theorem spec_l06Combined.calls (k : Nat) (a0_0 : Int) (A0_1 : Option Addr) (c0_1 : Nat) (l0_1 : List (List Int)) (A0_2 : Option Addr) (c0_2 : Nat) (l0_2 : List Int) (a1_0 : Int) (A1_1 : Option Addr) (c1_1 : Nat) (l1_1 : List (List Int)) (A1_2 : Option Addr) (c1_2 : Nat) (l1_2 : List Int) (A2 : Option Addr) (c2 : Nat) (l2 : List (List Int)) (a3 : Int) (r1 : Int) (r2 : List (List Int)) (r3 : List Int) (w : World) (hr0_1 : Kd.C (Kd.slice 2 (Kd.int .i64)) w A0_1 l0_1.length l0_1) (hc0_1 : l0_1.length ≤ c0_1) (hr0_2 : Kd.C (Kd.int .i64) w A0_2 l0_2.length l0_2) (hc0_2 : l0_2.length ≤ c0_2) (hr1_1 : Kd.C (Kd.slice 2 (Kd.int .i64)) w A1_1 l1_1.length l1_1) (hc1_1 : l1_1.length ≤ c1_1) (hr1_2 : Kd.C (Kd.int .i64) w A1_2 l1_2.length l1_2) (hc1_2 : l1_2.length ≤ c1_2) (hr2 : Kd.C (Kd.slice 2 (Kd.int .i64)) w A2 l2.length l2) (hc2 : l2.length ≤ c2) (h : spec_l06Combined.f k a0_0 l0_1 l0_2 a1_0 l1_1 l1_2 l2 a3 = some (r1, r2, r3)) :
    Calls Try.prog 27 #[.agg #[.int .i64 a0_0, .slice A0_1 l0_1.length c0_1, .slice A0_2 l0_2.length c0_2], .agg #[.int .i64 a1_0, .slice A1_1 l1_1.length c1_1, .slice A1_2 l1_2.length c1_2], .slice A2 l2.length c2, .int .i64 a3] w fun e w' => ∃ v1_ v2_ : Value, e = .returned (.agg #[.int .i64 r1, v1_, v2_]) ∧ Kd.S (Kd.slice 2 (Kd.int .i64)) 23 w' w.heap.size (fun k_ => some k_ ≠ (v2_ : Value).ownBlock) v1_ r2 ∧ Kd.R (Kd.int .i64) 2 w' w.heap.size (fun _ => True) v2_ r3 ∧ Below w.heap.size w w' := by
  have hu29 := Try.underlying29
  have HR0_1 := as_ hr0_1
  have HC0_1 := as_ hc0_1
  clear hr0_1 hc0_1
  have HR0_2 := as_ hr0_2
  have HC0_2 := as_ hc0_2
  clear hr0_2 hc0_2
  have HR1_1 := as_ hr1_1
  have HC1_1 := as_ hc1_1
  clear hr1_1 hc1_1
  have HR1_2 := as_ hr1_2
  have HC1_2 := as_ hc1_2
  clear hr1_2 hc1_2
  have HR2 := as_ hr2
  have HC2 := as_ hc2
  clear hr2 hc2
  have HB := as_ (Below.refl w.heap.size w)
  have H : (spec_l06Combined.l0 k l2 a3 0 a0_0 l0_1 l0_2 a1_0 l1_1 l1_2 0 (([] : List (List Int))) (([] : List Int))) = some (r1, r2, r3) := h
  clear h
  obtain ⟨y194, hy194⟩ := ex_ (([] : List (List Int)) : List (List Int))
  replace H : (spec_l06Combined.l0 k l2 a3 0 a0_0 l0_1 l0_2 a1_0 l1_1 l1_2 0 y194 (([] : List Int))) = some (r1, r2, r3) := yr_ hy194 H
  have Ny194 := as_ hy194
  clear hy194
  obtain ⟨y197, hy197⟩ := ex_ (([] : List Int) : List Int)
  replace H : (spec_l06Combined.l0 k l2 a3 0 a0_0 l0_1 l0_2 a1_0 l1_1 l1_2 0 y194 y197) = some (r1, r2, r3) := yr_ hy197 H
  have Ny197 := as_ hy197
  clear hy197
  have H' := as_ H
  clear H
  go_enter Try.func27, Try.ntmps27
  go_wp2_with (first | ((with_reducible refine gate_dst (N := 4) rfl ?_); refine bx_ 4 #[.int .i64 a0_0, .slice A0_1 l0_1.length c0_1, .slice A0_2 l0_2.length c0_2] 29 ?_; intro gb191 hg w5 hbox hb; have BK191 := as_ (hbox); have GW191 := gz_ hg (b_ HB); have GE191 := GW191; replace HB := as_ (below_step (b_ HB) hb); clear hb hbox hg) | ((with_reducible refine gate_dst (N := 5) rfl ?_); refine bx_ 5 #[.int .i64 a1_0, .slice A1_1 l1_1.length c1_1, .slice A1_2 l1_2.length c1_2] 29 ?_; intro gb192 hg w6 hbox hb; have BK192 := as_ (hbox); have GW192 := gz_ hg (b1_ HB GE191); have GE192 := GW192; replace HB := as_ (below_step (b1_ HB GE191) hb); have NB191_192 := nl_ hg (bk_ BK191); have NB192_191 := ng_ hg (bk_ BK191); replace BK191 := kb_ BK191 hb; clear hb hbox hg) | ((with_reducible refine gate_dst (N := 8) rfl ?_); refine bx_ 8 #[.int .i64 0, .slice none 0 0, .slice none 0 0] 29 ?_; intro gb193 hg w7 hbox hb; have BK193 := as_ (hbox); have GW193 := gz_ hg (b2_ HB GE191 GE192); have GE193 := GW193; replace HB := as_ (below_step (b2_ HB GE191 GE192) hb); have NB191_193 := nl_ hg (bk_ BK191); have NB193_191 := ng_ hg (bk_ BK191); replace BK191 := kb_ BK191 hb; have NB192_193 := nl_ hg (bk_ BK192); have NB193_192 := ng_ hg (bk_ BK192); replace BK192 := kb_ BK192 hb; clear hb hbox hg) | ((with_reducible refine gate_dst (N := 17) rfl ?_); refine Kd.S_lit (Kd.slice 2 (Kd.int .i64)) _ 23 ?hg (N := 17) ?hd (xs := ([] : List (List Int))) (inner := []) (ok := fun _ => True) (okp := fun _ => True) ?hr ?hp (fun _ hk => hk) trivial (Below.refl _ _) (Nat.le_refl _) (by simp) ?_; (case hd => rfl); (case hg => rfl); (case hr => first | (go_simp; done) | (go_simp; rfl)); (case hp => exact (Reps.none _ _)); intro v195 w8 ho9 hb hg_ hnew_; clear hg_ hnew_; (first | rw [← Ny194.out] at ho9 | (simp only [Int.reduceToNat] at ho9; rw [← Ny194.out] at ho9)); have HO196 := as_ (Kd.S_lower ho9 (below_size (b3_ HB GE191 GE192 GE193))); replace BK191 := kb_ BK191 hb; replace BK192 := kb_ BK192 hb; replace BK193 := kb_ BK193 hb; replace HB := as_ (below_step (b3_ HB GE191 GE192 GE193) hb); clear hb ho9) | ((with_reducible refine gate_dst (N := 18) rfl ?_); refine Kd.R_lit (Kd.int .i64) _ 2 ?hg (N := 18) ?hd (xs := ([] : List Int)) (inner := []) (ok := fun _ => True) (okp := fun _ => True) ?hr ?hp (fun _ hk => hk) trivial (Below.refl _ _) (Nat.le_refl _) (by simp) ?_; (case hd => rfl); (case hg => rfl); (case hr => first | (go_simp; done) | (go_simp; rfl)); (case hp => exact (Reps.none _ _)); intro v198 w10 ho11 hb hg_ hnew_; clear hg_ hnew_; (first | rw [← Ny197.out] at ho11 | (simp only [Int.reduceToNat] at ho11; rw [← Ny197.out] at ho11)); replace HO196 := eS_ HO196 (Kd.R_base ho11) hb; have HO199 := as_ (Kd.R_lower ho11 (below_size (b3_ HB GE191 GE192 GE193))); replace BK191 := kb_ BK191 hb; replace BK192 := kb_ BK192 hb; replace BK193 := kb_ BK193 hb; replace HB := as_ (below_step (b3_ HB GE191 GE192 GE193) hb); clear hb ho11; obtain ⟨Ao12, co12, eo12⟩ := Kd.R_slice HO199.out; subst eo12; obtain ⟨Ao13, co13, eo13⟩ := Kd.S_slice HO196.out; subst eo13) | ((with_reducible refine gate_dst (N := 9) rfl ?_); refine bx_ 9 #[.int .i64 0, .slice none 0 0, .slice none 0 0] 29 ?_; intro gb200 hg w14 hbox hb; replace HO196 := sb_ HO196 hb; replace HO199 := rb_ HO199 hb; have BK200 := as_ (hbox); have GW200 := gz_ hg (b3_ HB GE191 GE192 GE193); have GE200 := GW200; replace HB := as_ (below_step (b3_ HB GE191 GE192 GE193) hb); have NB191_200 := nl_ hg (bk_ BK191); have NB200_191 := ng_ hg (bk_ BK191); replace BK191 := kb_ BK191 hb; have NB192_200 := nl_ hg (bk_ BK192); have NB200_192 := ng_ hg (bk_ BK192); replace BK192 := kb_ BK192 hb; have NB193_200 := nl_ hg (bk_ BK193); have NB200_193 := ng_ hg (bk_ BK193); replace BK193 := kb_ BK193 hb; clear hb hbox hg; have hnb15 := NB200_191.out; have hnc15 := NB191_200.out; have hnb16 := NB200_192.out; have hnc16 := NB192_200.out; have hnb17 := NB200_193.out; have hnc17 := NB193_200.out; obtain ⟨hcz18_0, hfz18_0, hcz18_1, hfz18_1, hcz18_2, hfz18_2⟩ := tc3_ BK200))
  go_loopg [10] k (fun kq v10 w' => ∃ (x10_1 : Int) (x201001_1 : List (List Int)) (x201002_1 : List Int) (u201001 : Value) (u201002 : Value), v10 = .int .i64 x10_1 ∧ Aside0 (spec_l06Combined.l0 kq l2 a3 x10_1 a0_0 l0_1 l0_2 a1_0 l1_1 l1_2 0 x201001_1 x201002_1 = some (r1, r2, r3)) ∧ Aside0 (kq ≤ k) ∧ Aside0 (Kd.S (Kd.slice 2 (Kd.int .i64)) 23 w' w.heap.size (fun k_ => some k_ ≠ (u201002 : Value).ownBlock) u201001 x201001_1) ∧ Aside0 (Kd.R (Kd.int .i64) 2 w' w.heap.size (fun _ => True) u201002 x201002_1) ∧ Aside0 (w'.heap[gb191]? = some (.cells #[.int .i64 a0_0, (.slice A0_1 l0_1.length c0_1), (.slice A0_2 l0_2.length c0_2)] 29 (0, 0))) ∧ Aside0 (w'.heap[gb192]? = some (.cells #[.int .i64 a1_0, (.slice A1_1 l1_1.length c1_1), (.slice A1_2 l1_2.length c1_2)] 29 (0, 0))) ∧ Aside0 (w'.heap[gb193]? = some (.cells #[.int .i64 0, (.slice none 0 0), (.slice none 0 0)] 29 (0, 0))) ∧ Aside0 (w'.heap[gb200]? = some (.cells #[.int .i64 0, u201001, u201002] 29 (0, 0))) ∧ Aside0 (Below w.heap.size w w'))
  case atStart => exact ⟨(0), (y194), (y197), (.slice Ao13 y194.length co13), (.slice Ao12 y197.length co12), rf_, H', ⟨Nat.le_refl _⟩, ⟨fS1_ HO196 BK200⟩, ⟨fR1_ HO199 BK200⟩, ⟨bf_ BK191 NB191_200⟩, ⟨bf_ BK192 NB192_200⟩, ⟨bf_ BK193 NB193_200⟩, ⟨bp_ BK200⟩, ⟨b4_ HB GE191 GE192 GE193 GE200⟩⟩
  case round =>
    clear H'
    (try clear c1); (try clear c2); (try clear p2); (try clear c15); (try clear c16); (try clear c17); (try clear hcz18_0); (try clear hcz18_1); (try clear hcz18_2); (try clear hfz18_0); (try clear hfz18_1); (try clear hfz18_2)
    obtain ⟨x10_1, x201001_1, x201002_1, u201001, u201002, rfl, HA, HK1, HO_201001, HO_201002, BK191, BK192, BK193, BK200, HB⟩ := hrel
    cases gk with
    | zero => exact absurd HA.out (by simp [spec_l06Combined.l0])
    | succ k1 =>
      have H := HA.out
      clear HA
      simp only [spec_l06Combined.l0] at H
      by_cases c19 : x10_1 < (l2.length : Int)
      rotate_left
      · rw [if_neg c19] at H
        have c19b0 := decide_eq_false c19
        clear c19
        simp only [Option.some.injEq, Prod.mk.injEq] at H
        obtain ⟨rfl, rfl, rfl⟩ := H
        have hnb359 := NB200_191.out
        have hnc359 := NB191_200.out
        have hnb360 := NB200_192.out
        have hnc360 := NB192_200.out
        have hnb361 := NB200_193.out
        have hnc361 := NB193_200.out
        obtain ⟨hcz362_0, hfz362_0, hcz362_1, hfz362_1, hcz362_2, hfz362_2⟩ := tc3_ BK200
        have hnb363 := NB193_191.out
        have hnc363 := NB191_193.out
        have hnb364 := NB193_192.out
        have hnc364 := NB192_193.out
        obtain ⟨hcz365_0, hfz365_0, hcz365_1, hfz365_1, hcz365_2, hfz365_2⟩ := tc3_ BK193
        obtain ⟨Ao366, co366, eo366⟩ := Kd.S_slice HO_201001.out
        subst eo366
        obtain ⟨Ao367, co367, eo367⟩ := Kd.R_slice HO_201002.out
        subst eo367
        go_wp2
        refine bodyPost_ret (results_cell_row rfl _ _ gb193 29 #[.int .i64 0, .slice Ao366 x201001_1.length co366, .slice Ao367 x201002_1.length co367] (0, 0) _ rfl (bp_ BK193) Try.underlying29 rfl (by kernel_rfl)) rfl ?_
        exact ⟨_, _, re_, iS1_ HO_201001 BK193, fR1_ HO_201002 BK193, b4_ HB GE191 GE192 GE193 GE200⟩
      rw [if_pos c19] at H
      have c19b0 := decide_eq_true c19
      clear c19
      obtain ⟨y201, hy201⟩ := ex_ (([] : List Int) : List Int)
      replace H : (spec_l06Combined.l1 k1 l2 a3 x10_1 y201 0 a0_0 l0_1 l0_2 a1_0 l1_1 l1_2 0 x201001_1 x201002_1) = some (r1, r2, r3) := yr_ hy201 H
      have Ny201 := as_ hy201
      clear hy201
      have H' := as_ H
      clear H
      go_wp2_with (first | ((with_reducible refine gate_dst (N := 26) rfl ?_); refine Kd.R_lit (Kd.int .i64) _ 2 ?hg (N := 26) ?hd (xs := ([] : List Int)) (inner := []) (ok := fun _ => True) (okp := fun _ => True) ?hr ?hp (fun _ hk => hk) trivial (Below.refl _ _) (Nat.le_refl _) (by simp) ?_; (case hd => rfl); (case hg => rfl); (case hr => first | (go_simp; done) | (go_simp; rfl)); (case hp => exact (Reps.none _ _)); intro v202 w20 ho21 hb hg_ hnew_; clear hg_ hnew_; (first | rw [← Ny201.out] at ho21 | (simp only [Int.reduceToNat] at ho21; rw [← Ny201.out] at ho21)); replace HO_201001 := eS_ HO_201001 (Kd.R_base ho21) hb; have HO203 := as_ (Kd.R_lower (nRR_ ho21 HO_201002) (below_size (b4_ HB GE191 GE192 GE193 GE200))); replace HO_201002 := eR_ HO_201002 (Kd.R_base ho21) hb; replace BK191 := kb_ BK191 hb; replace BK192 := kb_ BK192 hb; replace BK193 := kb_ BK193 hb; replace BK200 := kb_ BK200 hb; replace HB := as_ (below_step (b4_ HB GE191 GE192 GE193 GE200) hb); clear hb ho21))
      go_loopg [11, 12] k1 (fun kq v11 v12 w' => ∃ (x11_2 : List Int) (x12_2 : Int), v12 = .int .i64 x12_2 ∧ Aside0 (spec_l06Combined.l1 kq l2 a3 x10_1 x11_2 x12_2 a0_0 l0_1 l0_2 a1_0 l1_1 l1_2 0 x201001_1 x201002_1 = some (r1, r2, r3)) ∧ Aside0 (kq ≤ k1) ∧ Aside0 (Kd.R (Kd.int .i64) 2 w' w.heap.size (fun k_ => some k_ ≠ (u201002 : Value).ownBlock) v11 x11_2) ∧ Aside0 (Kd.S (Kd.slice 2 (Kd.int .i64)) 23 w' w.heap.size (fun k_ => some k_ ≠ (v11 : Value).ownBlock ∧ some k_ ≠ (u201002 : Value).ownBlock) u201001 x201001_1) ∧ Aside0 (Kd.R (Kd.int .i64) 2 w' w.heap.size (fun k_ => some k_ ≠ (v11 : Value).ownBlock) u201002 x201002_1) ∧ Aside0 (w'.heap[gb191]? = some (.cells #[.int .i64 a0_0, (.slice A0_1 l0_1.length c0_1), (.slice A0_2 l0_2.length c0_2)] 29 (0, 0))) ∧ Aside0 (w'.heap[gb192]? = some (.cells #[.int .i64 a1_0, (.slice A1_1 l1_1.length c1_1), (.slice A1_2 l1_2.length c1_2)] 29 (0, 0))) ∧ Aside0 (w'.heap[gb193]? = some (.cells #[.int .i64 0, (.slice none 0 0), (.slice none 0 0)] 29 (0, 0))) ∧ Aside0 (w'.heap[gb200]? = some (.cells #[.int .i64 0, u201001, u201002] 29 (0, 0))) ∧ Aside0 (Below w.heap.size w w'))
      case atStart => exact ⟨(y201), (0), rf_, H', ⟨Nat.le_refl _⟩, ⟨fR_ HO203⟩, ⟨fS_ HO_201001⟩, ⟨fR_ HO_201002⟩, ⟨bk_ BK191⟩, ⟨bk_ BK192⟩, ⟨bk_ BK193⟩, ⟨bk_ BK200⟩, ⟨b4_ HB GE191 GE192 GE193 GE200⟩⟩
      case round =>
        clear H'
        (try clear c1); (try clear c2); (try clear p2); (try clear c15); (try clear c16); (try clear c17); (try clear c19); (try clear c19b0); (try clear hcz18_0); (try clear hcz18_1); (try clear hcz18_2); (try clear hfz18_0); (try clear hfz18_1); (try clear hfz18_2); (try clear p2)
        obtain ⟨x11_2, x12_2, rfl, HA, HK2, HO_11, HO_201001, HO_201002, BK191, BK192, BK193, BK200, HB⟩ := hrel
        cases gk with
        | zero => exact absurd HA.out (by simp [spec_l06Combined.l1])
        | succ k2 =>
          have H := HA.out
          clear HA
          simp only [spec_l06Combined.l1] at H
          by_cases c22 : x12_2 < (l2.length : Int)
          · rw [if_pos c22] at H
            have c22b0 := decide_eq_true c22
            clear c22
            obtain ⟨c23b0, H⟩ := ite_d H
            obtain ⟨c24b0, H⟩ := ite_d H
            obtain ⟨c25, H⟩ := ite_s H
            have c25b0 : decide (0 < ((rd_L1 l2 x10_1).length : Int)) = true := decide_eq_true c25
            have c25b1 : decide (0 < (rd_L1 l2 x10_1).length) = true := decide_eq_true (by omega)
            clear c25
            obtain ⟨c26b0, H⟩ := ite_d H
            obtain ⟨c27b0, H⟩ := ite_d H
            obtain ⟨c28b0, H⟩ := ite_d H
            obtain ⟨c29, H⟩ := ite_s H
            have c29b0 : decide (0 < ((rd_L1 l2 x12_2).length : Int)) = true := decide_eq_true c29
            have c29b1 : decide (0 < (rd_L1 l2 x12_2).length) = true := decide_eq_true (by omega)
            clear c29
            obtain ⟨c30b0, H⟩ := ite_d H
            obtain ⟨c31b0, H⟩ := ite_d H
            obtain ⟨c32, H⟩ := ite_s H
            have c32b0 := decide_eq_true c32
            have c32b1 : decide (1 < (rd_L1 l2 x10_1).length) = true := decide_eq_true (by omega)
            clear c32
            obtain ⟨c33b0, H⟩ := ite_d H
            obtain ⟨c34b0, H⟩ := ite_d H
            obtain ⟨c35, H⟩ := ite_s H
            have c35b0 := decide_eq_true c35
            have c35b1 : decide (1 < (rd_L1 l2 x12_2).length) = true := decide_eq_true (by omega)
            clear c35
            obtain ⟨c36b0, H⟩ := ite_d H
            obtain ⟨c37b0, H⟩ := ite_d H
            obtain ⟨⟨t216, t217⟩, A38, H⟩ := bo_ H
            dsimp only at H
            obtain ⟨c39, H⟩ := ite_s H
            have LMc39 := as_ c39
            clear c39
            obtain ⟨y220, hy220⟩ := ex_ (x11_2 ++ [t216] : List Int)
            replace H : (spec_l06Combined.l1 k2 l2 a3 x10_1 y220 (wrap64 (x12_2 + 1)) a0_0 l0_1 l0_2 a1_0 l1_1 l1_2 0 x201001_1 x201002_1) = some (r1, r2, r3) := yr_ hy220 H
            have Ny220 := as_ hy220
            clear hy220
            have H' := as_ H
            clear H
            try go_wp2
            replace HO_11 := dR_ HO_11; replace HO_201001 := dS_ HO_201001; replace HO_201002 := dR_ HO_201002; replace BK191 := dk_ BK191; replace BK192 := dk_ BK192; replace BK193 := dk_ BK193; replace BK200 := dk_ BK200; replace HB := db_ HB
            have p204 : 0 ≤ (x10_1 : Int) := od_
            have q204 : x10_1 < (l2.length : Int) := od_
            obtain ⟨ad204, A204_0, c204_0, e204, hx204_0, hl204_0, hi204_0⟩ := at_L1 HR2.out x10_1 p204 q204
            have hw204_0 := hx204_0
            cases e204
            try replace hx204_0 := hx_ HB hx204_0
            have HR204_0 := as_ hi204_0
            have HC204_0 := as_ hl204_0
            clear hi204_0 hl204_0
            replace p204 := eq_true p204
            replace q204 := eq_true q204
            have p205 : 0 ≤ (0 : Int) := (by omega)
            have q205 : 0 < ((rd_L1 l2 x10_1).length : Int) := od_
            obtain ⟨ad205, e205, hx205_0⟩ := Kd.at_int HR204_0.out 0 p205 q205
            have hw205_0 := hx205_0
            (try rw [show ((0 : Int)).toNat = 0 from rfl] at hw205_0)
            (try rw [show 0 * 1 = 0 from rfl] at hw205_0)
            (try rw [Addr.add_zero'] at hw205_0)
            cases e205
            have qi205 : (0 < (rd_L1 l2 x10_1).length) = True := eq_true (by omega)
            (try rw [show ((0 : Int)).toNat = 0 from rfl] at hx205_0)
            (try rw [Addr.add_zero'] at hx205_0)
            try replace hx205_0 := hx_ HB hx205_0
            replace p205 := eq_true p205
            replace q205 := eq_true q205
            have p206 : 0 ≤ ((rd (rd_L1 l2 x10_1) 0) : Int) := od_
            have q206 : (rd (rd_L1 l2 x10_1) 0) < (l0_1.length : Int) := od_
            obtain ⟨ad206, A206_0, c206_0, e206, hx206_0, hl206_0, hi206_0⟩ := at_L1 HR0_1.out (rd (rd_L1 l2 x10_1) 0) p206 q206
            have hw206_0 := hx206_0
            cases e206
            try replace hx206_0 := hx_ HB hx206_0
            have HR206_0 := as_ hi206_0
            have HC206_0 := as_ hl206_0
            clear hi206_0 hl206_0
            replace p206 := eq_true p206
            replace q206 := eq_true q206
            have p207 : 0 ≤ (x12_2 : Int) := od_
            have q207 : x12_2 < (l2.length : Int) := od_
            obtain ⟨ad207, A207_0, c207_0, e207, hx207_0, hl207_0, hi207_0⟩ := at_L1 HR2.out x12_2 p207 q207
            have hw207_0 := hx207_0
            obtain rfl : ad204 = ad207 := (by injection e207)
            try replace hx207_0 := hx_ HB hx207_0
            have HR207_0 := as_ hi207_0
            have HC207_0 := as_ hl207_0
            clear hi207_0 hl207_0
            replace p207 := eq_true p207
            replace q207 := eq_true q207
            have p208 : 0 ≤ (0 : Int) := (by omega)
            have q208 : 0 < ((rd_L1 l2 x12_2).length : Int) := od_
            obtain ⟨ad208, e208, hx208_0⟩ := Kd.at_int HR207_0.out 0 p208 q208
            have hw208_0 := hx208_0
            (try rw [show ((0 : Int)).toNat = 0 from rfl] at hw208_0)
            (try rw [show 0 * 1 = 0 from rfl] at hw208_0)
            (try rw [Addr.add_zero'] at hw208_0)
            cases e208
            have qi208 : (0 < (rd_L1 l2 x12_2).length) = True := eq_true (by omega)
            (try rw [show ((0 : Int)).toNat = 0 from rfl] at hx208_0)
            (try rw [Addr.add_zero'] at hx208_0)
            try replace hx208_0 := hx_ HB hx208_0
            replace p208 := eq_true p208
            replace q208 := eq_true q208
            have p209 : 0 ≤ ((rd (rd_L1 l2 x12_2) 0) : Int) := od_
            have q209 : (rd (rd_L1 l2 x12_2) 0) < ((rd_L1 l0_1 (rd (rd_L1 l2 x10_1) 0)).length : Int) := od_
            obtain ⟨ad209, e209, hx209_0⟩ := Kd.at_int HR206_0.out (rd (rd_L1 l2 x12_2) 0) p209 q209
            have hw209_0 := hx209_0
            cases e209
            try replace hx209_0 := hx_ HB hx209_0
            replace p209 := eq_true p209
            replace q209 := eq_true q209
            have p210 : 0 ≤ (x10_1 : Int) := od_
            have q210 : x10_1 < (l2.length : Int) := od_
            obtain ⟨ad210, A210_0, c210_0, e210, hx210_0, hl210_0, hi210_0⟩ := at_L1 HR2.out x10_1 p210 q210
            have hw210_0 := hx210_0
            obtain rfl : ad204 = ad210 := (by injection e210)
            try replace hx210_0 := hx_ HB hx210_0
            have HR210_0 := as_ hi210_0
            have HC210_0 := as_ hl210_0
            clear hi210_0 hl210_0
            replace p210 := eq_true p210
            replace q210 := eq_true q210
            have ea_ := Option.some.inj (hx204_0.symm.trans hx210_0)
            injection ea_ with ea_ en_ ec_
            subst ea_
            subst ec_
            clear en_
            have p211 : 0 ≤ (1 : Int) := (by omega)
            have q211 : 1 < ((rd_L1 l2 x10_1).length : Int) := od_
            obtain ⟨ad211, e211, hx211_0⟩ := Kd.at_int HR210_0.out 1 p211 q211
            have hw211_0 := hx211_0
            (try rw [show ((1 : Int)).toNat = 1 from rfl] at hw211_0)
            (try rw [show 1 * 1 = 1 from rfl] at hw211_0)
            (try simp only [Nat.reduceMul, Nat.reduceEqDiff, Go.Addr.add, ↓reduceIte] at hw211_0)
            cases e211
            (try simp only [show (1 : Int).toNat = 1 from rfl, Nat.reduceMul, Nat.reduceEqDiff, Go.Addr.add, ↓reduceIte] at hx211_0)
            have qi211 : (1 < (rd_L1 l2 x10_1).length) = True := eq_true (by omega)
            (try rw [show ((1 : Int)).toNat = 1 from rfl] at hx211_0)
            try replace hx211_0 := hx_ HB hx211_0
            replace p211 := eq_true p211
            replace q211 := eq_true q211
            have p212 : 0 ≤ ((rd (rd_L1 l2 x10_1) 1) : Int) := od_
            have q212 : (rd (rd_L1 l2 x10_1) 1) < (l1_1.length : Int) := od_
            obtain ⟨ad212, A212_0, c212_0, e212, hx212_0, hl212_0, hi212_0⟩ := at_L1 HR1_1.out (rd (rd_L1 l2 x10_1) 1) p212 q212
            have hw212_0 := hx212_0
            cases e212
            try replace hx212_0 := hx_ HB hx212_0
            have HR212_0 := as_ hi212_0
            have HC212_0 := as_ hl212_0
            clear hi212_0 hl212_0
            replace p212 := eq_true p212
            replace q212 := eq_true q212
            have p213 : 0 ≤ (x12_2 : Int) := od_
            have q213 : x12_2 < (l2.length : Int) := od_
            obtain ⟨ad213, A213_0, c213_0, e213, hx213_0, hl213_0, hi213_0⟩ := at_L1 HR2.out x12_2 p213 q213
            have hw213_0 := hx213_0
            obtain rfl : ad204 = ad213 := (by injection e213)
            try replace hx213_0 := hx_ HB hx213_0
            have HR213_0 := as_ hi213_0
            have HC213_0 := as_ hl213_0
            clear hi213_0 hl213_0
            replace p213 := eq_true p213
            replace q213 := eq_true q213
            have ea_ := Option.some.inj (hx207_0.symm.trans hx213_0)
            injection ea_ with ea_ en_ ec_
            subst ea_
            subst ec_
            clear en_
            have p214 : 0 ≤ (1 : Int) := (by omega)
            have q214 : 1 < ((rd_L1 l2 x12_2).length : Int) := od_
            obtain ⟨ad214, e214, hx214_0⟩ := Kd.at_int HR213_0.out 1 p214 q214
            have hw214_0 := hx214_0
            (try rw [show ((1 : Int)).toNat = 1 from rfl] at hw214_0)
            (try rw [show 1 * 1 = 1 from rfl] at hw214_0)
            (try simp only [Nat.reduceMul, Nat.reduceEqDiff, Go.Addr.add, ↓reduceIte] at hw214_0)
            cases e214
            (try simp only [show (1 : Int).toNat = 1 from rfl, Nat.reduceMul, Nat.reduceEqDiff, Go.Addr.add, ↓reduceIte] at hx214_0)
            have qi214 : (1 < (rd_L1 l2 x12_2).length) = True := eq_true (by omega)
            (try rw [show ((1 : Int)).toNat = 1 from rfl] at hx214_0)
            try replace hx214_0 := hx_ HB hx214_0
            replace p214 := eq_true p214
            replace q214 := eq_true q214
            have p215 : 0 ≤ ((rd (rd_L1 l2 x12_2) 1) : Int) := od_
            have q215 : (rd (rd_L1 l2 x12_2) 1) < ((rd_L1 l1_1 (rd (rd_L1 l2 x10_1) 1)).length : Int) := od_
            obtain ⟨ad215, e215, hx215_0⟩ := Kd.at_int HR212_0.out (rd (rd_L1 l2 x12_2) 1) p215 q215
            have hw215_0 := hx215_0
            cases e215
            try replace hx215_0 := hx_ HB hx215_0
            replace p215 := eq_true p215
            replace q215 := eq_true q215
            refine start_ (n := 43) (S := fun w' => w'.cell? ⟨gb191, 0, none⟩ = some (.int .i64 a0_0) ∧ w'.cell? ⟨gb191, 1, none⟩ = some (.slice (some ad206) l0_1.length c0_1) ∧ w'.cell? ⟨gb191, 2, none⟩ = some (.slice A0_2 l0_2.length c0_2) ∧ w'.cell? ⟨gb192, 0, none⟩ = some (.int .i64 a1_0) ∧ w'.cell? ⟨gb192, 1, none⟩ = some (.slice (some ad212) l1_1.length c1_1) ∧ w'.cell? ⟨gb192, 2, none⟩ = some (.slice A1_2 l1_2.length c1_2) ∧ w'.cell? (ad204.add (x10_1).toNat) = some (.slice (some ad205) (rd_L1 l2 x10_1).length c204_0) ∧ w'.cell? ad205 = some (.int .i64 (rd (rd_L1 l2 x10_1) 0)) ∧ w'.cell? (ad206.add ((rd (rd_L1 l2 x10_1) 0)).toNat) = some (.slice (some ad209) (rd_L1 l0_1 (rd (rd_L1 l2 x10_1) 0)).length c206_0) ∧ w'.cell? (ad204.add (x12_2).toNat) = some (.slice (some ad208) (rd_L1 l2 x12_2).length c207_0) ∧ w'.cell? ad208 = some (.int .i64 (rd (rd_L1 l2 x12_2) 0)) ∧ w'.cell? (ad209.add ((rd (rd_L1 l2 x12_2) 0)).toNat) = some (.int .i64 (rd (rd_L1 l0_1 (rd (rd_L1 l2 x10_1) 0)) (rd (rd_L1 l2 x12_2) 0))) ∧ w'.cell? (ad204.add (x10_1).toNat) = some (.slice (some ad205) (rd_L1 l2 x10_1).length c204_0) ∧ w'.cell? ⟨ad205.block, ad205.off + 1, none⟩ = some (.int .i64 (rd (rd_L1 l2 x10_1) 1)) ∧ w'.cell? (ad212.add ((rd (rd_L1 l2 x10_1) 1)).toNat) = some (.slice (some ad215) (rd_L1 l1_1 (rd (rd_L1 l2 x10_1) 1)).length c212_0) ∧ w'.cell? (ad204.add (x12_2).toNat) = some (.slice (some ad208) (rd_L1 l2 x12_2).length c207_0) ∧ w'.cell? ⟨ad208.block, ad208.off + 1, none⟩ = some (.int .i64 (rd (rd_L1 l2 x12_2) 1)) ∧ w'.cell? (ad215.add ((rd (rd_L1 l2 x12_2) 1)).toNat) = some (.int .i64 (rd (rd_L1 l1_1 (rd (rd_L1 l2 x10_1) 1)) (rd (rd_L1 l2 x12_2) 1)))) (ds := []) #[false, false, false, false, false, false, false, false, false, false, false, false, false, false, false, false, false, false, false, false, false, false, false, false, false, false, false, false, false, false, false, false, false, false, false, false, false, false, false, false, false, false, false] (by kernel_rfl) rfl rfl ⟨tz_ BK191 0, tz_ BK191 1, tz_ BK191 2, tz_ BK192 0, tz_ BK192 1, tz_ BK192 2, ((HB.out.cell (World.block_lt_of_cell? w _ hw204_0)).trans hw204_0), ((HB.out.cell (World.block_lt_of_cell? w _ hw205_0)).trans hw205_0), ((HB.out.cell (World.block_lt_of_cell? w _ hw206_0)).trans hw206_0), ((HB.out.cell (World.block_lt_of_cell? w _ hw207_0)).trans hw207_0), ((HB.out.cell (World.block_lt_of_cell? w _ hw208_0)).trans hw208_0), ((HB.out.cell (World.block_lt_of_cell? w _ hw209_0)).trans hw209_0), ((HB.out.cell (World.block_lt_of_cell? w _ hw210_0)).trans hw210_0), ((HB.out.cell (World.block_lt_of_cell? w _ hw211_0)).trans hw211_0), ((HB.out.cell (World.block_lt_of_cell? w _ hw212_0)).trans hw212_0), ((HB.out.cell (World.block_lt_of_cell? w _ hw213_0)).trans hw213_0), ((HB.out.cell (World.block_lt_of_cell? w _ hw214_0)).trans hw214_0), ((HB.out.cell (World.block_lt_of_cell? w _ hw215_0)).trans hw215_0)⟩ (fun hHeld => ?_); refine with_tabW spec_l06Combined.tab9 spec_l06Combined.bits9 (fun HT_ HW_ => ?_)
            generalize wr.drew = w40 at HO_11 HO_201001 HO_201002 BK191 BK192 BK193 BK200 HB HR204_0 HR206_0 HR207_0 HR210_0 HR212_0 HR213_0 hx204_0 hx205_0 hx206_0 hx207_0 hx208_0 hx209_0 hx210_0 hx211_0 hx212_0 hx213_0 hx214_0 hx215_0 hHeld ⊢
            refine pu_ 0 34 HT_ ?_
            refine pu_ 1 35 HT_ ?_
            refine pu_ 3 37 HT_ ?_
            refine pu_ 4 38 HT_ ?_
            refine pu_ 5 39 HT_ ?_
            refine pu_ 11 45 HT_ ?_
            refine pu_ 12 46 HT_ ?_
            refine pu_ 13 47 HT_ ?_
            refine pu_ 19 53 HT_ ?_
            refine pu_ 21 55 HT_ ?_
            refine pu_ 22 56 HT_ ?_
            refine pu_ 23 57 HT_ ?_
            refine pu_ 29 63 HT_ ?_
            refine pu_ 30 64 HT_ ?_
            refine pu_ 31 65 HT_ ?_
            refine tk_ 2 36 HT_ HW_ hHeld ?_
            refine tk_ 6 40 HT_ HW_ hHeld ?_
            refine pu_ 7 41 HT_ ?_
            refine tk_ 8 42 HT_ HW_ hHeld ?_
            refine pu_ 9 43 HT_ ?_
            refine tk_ 10 44 HT_ HW_ hHeld ?_
            refine tk_ 14 48 HT_ HW_ hHeld ?_
            refine pu_ 15 49 HT_ ?_
            refine tk_ 16 50 HT_ HW_ hHeld ?_
            refine pu_ 17 51 HT_ ?_
            refine tk_ 18 52 HT_ HW_ hHeld ?_
            refine tk_ 20 54 HT_ HW_ hHeld ?_
            refine tk_ 24 58 HT_ HW_ hHeld ?_
            refine pu_ 25 59 HT_ ?_
            refine tk_ 26 60 HT_ HW_ hHeld ?_
            refine pu_ 27 61 HT_ ?_
            refine tk_ 28 62 HT_ HW_ hHeld ?_
            refine tk_ 32 66 HT_ HW_ hHeld ?_
            refine pu_ 33 67 HT_ ?_
            refine tk_ 34 68 HT_ HW_ hHeld ?_
            refine pu_ 35 69 HT_ ?_
            refine tk_ 36 70 HT_ HW_ hHeld ?_
            refine on_ 37 (some 71) HT_ fun K hK => ?_
            refine gR_ Try.func33 #[.slice (some ad204) l2.length c2, .int .i64 (rd (rd_L1 l0_1 (rd (rd_L1 l2 x10_1) 0)) (rd (rd_L1 l2 x12_2) 0)), .int .i64 (rd (rd_L1 l1_1 (rd (rd_L1 l2 x10_1) 1)) (rd (rd_L1 l2 x12_2) 1))] ?_
            with_reducible refine (spec_l06Number.calls k2 (fun k_ => k_ < w.heap.size) _ _ l2 (rd (rd_L1 l0_1 (rd (rd_L1 l2 x10_1) 0)) (rd (rd_L1 l2 x12_2) 0)) (rd (rd_L1 l1_1 (rd (rd_L1 l2 x10_1) 1)) (rd (rd_L1 l2 x12_2) 1)) t216 t217 _ ?side1 A38.out).mono ?_
            (case side1 => exact Kd.V_mk HC2.out (Kd.F_below (Kd.C_F (Kd.heap_slice 2 (Kd.heap_int .i64)) HR2.out) (b4_ HB GE191 GE192 GE193 GE200)))
            rintro e w41 ⟨v218, rfl, ho0, hb⟩
            refine ⟨_, rfl, ?_⟩
            have HO219 := as_ (Kd.V_lower (Kd.V_mono (ok' := fun k_ => some k_ ≠ (u11 : Value).ownBlock ∧ some k_ ≠ (u201001 : Value).ownBlock ∧ some k_ ≠ (u201002 : Value).ownBlock ∧ k_ ≠ gb191 ∧ k_ ≠ gb192 ∧ k_ ≠ gb193 ∧ k_ ≠ gb200) ho0 (fun k_ hk_ => ⟨Or.elim hk_ (fun hs_ => fun e_ => Nat.not_le.2 hs_ (Kd.R_base HO_11.out k_ e_.symm)) (fun hn_ => (Kd.fresh' (Kd.R_lt (bR_ HO_11)) k_ hn_)), Or.elim hk_ (fun hs_ => fun e_ => Nat.not_le.2 hs_ (Kd.S_base HO_201001.out k_ e_.symm)) (fun hn_ => (Kd.fresh' (Kd.S_lt (bS_ HO_201001)) k_ hn_)), Or.elim hk_ (fun hs_ => fun e_ => Nat.not_le.2 hs_ (Kd.R_base HO_201002.out k_ e_.symm)) (fun hn_ => (Kd.fresh' (Kd.R_lt (bR_ HO_201002)) k_ hn_)), Or.elim hk_ (fun hs_ => fun e_ => Nat.not_le.2 hs_ (by rw [e_]; exact GW191.out)) (fun hn_ => (Kd.freshB (g := gb191) (o := .cells #[.int .i64 a0_0, .slice (some ad206) l0_1.length c0_1, .slice A0_2 l0_2.length c0_2] 29 (0, 0)) (bk_ BK191) k_ hn_)), Or.elim hk_ (fun hs_ => fun e_ => Nat.not_le.2 hs_ (by rw [e_]; exact GW192.out)) (fun hn_ => (Kd.freshB (g := gb192) (o := .cells #[.int .i64 a1_0, .slice (some ad212) l1_1.length c1_1, .slice A1_2 l1_2.length c1_2] 29 (0, 0)) (bk_ BK192) k_ hn_)), Or.elim hk_ (fun hs_ => fun e_ => Nat.not_le.2 hs_ (by rw [e_]; exact GW193.out)) (fun hn_ => (Kd.freshB (g := gb193) (o := .cells #[.int .i64 0, .slice none 0 0, .slice none 0 0] 29 (0, 0)) (bk_ BK193) k_ hn_)), Or.elim hk_ (fun hs_ => fun e_ => Nat.not_le.2 hs_ (by rw [e_]; exact GW200.out)) (fun hn_ => (Kd.freshB (g := gb200) (o := .cells #[.int .i64 0, u201001, u201002] 29 (0, 0)) (bk_ BK200) k_ hn_))⟩)) (below_size (b4_ HB GE191 GE192 GE193 GE200))); replace HO_11 := rb_ HO_11 hb; replace HO_201001 := sb_ HO_201001 hb; replace HO_201002 := rb_ HO_201002 hb; replace BK191 := kb_ BK191 hb; replace BK192 := kb_ BK192 hb; replace BK193 := kb_ BK193 hb; replace BK200 := kb_ BK200 hb; replace HB := as_ (below_step (b4_ HB GE191 GE192 GE193 GE200) hb)
            clear hb ho0
            refine hK.out _ _ ⟨tz_ BK191 0, tz_ BK191 1, tz_ BK191 2, tz_ BK192 0, tz_ BK192 1, tz_ BK192 2, ((HB.out.cell (World.block_lt_of_cell? w _ hw204_0)).trans hw204_0), ((HB.out.cell (World.block_lt_of_cell? w _ hw205_0)).trans hw205_0), ((HB.out.cell (World.block_lt_of_cell? w _ hw206_0)).trans hw206_0), ((HB.out.cell (World.block_lt_of_cell? w _ hw207_0)).trans hw207_0), ((HB.out.cell (World.block_lt_of_cell? w _ hw208_0)).trans hw208_0), ((HB.out.cell (World.block_lt_of_cell? w _ hw209_0)).trans hw209_0), ((HB.out.cell (World.block_lt_of_cell? w _ hw210_0)).trans hw210_0), ((HB.out.cell (World.block_lt_of_cell? w _ hw211_0)).trans hw211_0), ((HB.out.cell (World.block_lt_of_cell? w _ hw212_0)).trans hw212_0), ((HB.out.cell (World.block_lt_of_cell? w _ hw213_0)).trans hw213_0), ((HB.out.cell (World.block_lt_of_cell? w _ hw214_0)).trans hw214_0), ((HB.out.cell (World.block_lt_of_cell? w _ hw215_0)).trans hw215_0)⟩ (fun hHeld => ?_)
            clear hK K
            refine nm_ 71 ?_
            refine pu_ 38 33 HT_ ?_
            refine pu_ 39 72 HT_ ?_
            refine pu_ 40 73 HT_ ?_
            refine pu_ 41 13 HT_ ?_
            refine pu_ 42 14 HT_ ?_
            refine dn_ HT_ ?_
            try go_wp2_with (first | ((with_reducible refine gate_builtin (b := .append) (xs := #[.tmp 74, .tmp 76]) rfl ?_); at_builtin; refine Kd.R_append (Kd.int .i64) (w0 := w) w.heap.size rfl (.tmp 74) (.tmp 76) 23 2 (.int .i64 0) 8 rfl Try.underlying23 info2 rfl (by decide) (by omega) u11 x11_2 t216 [.int .i64 t216] (fun k_ => some k_ ≠ (u201002 : Value).ownBlock) (fun _ => False) rfl rfl ?aP (fun _ hk => hk.elim) ?aF ?aO ?aB ?aS ?aL ?_; (case aP => exact rfl); (case aB => exact (b4_ HB GE191 GE192 GE193 GE200)); (case aF => exact (fun k_ hk => Kd.fresh' (Kd.R_lt (bR_ HO_201002)) k_ hk)); (case aO => exact (bR_ HO_11)); (case aS => exact (below_size (b4_ HB GE191 GE192 GE193 GE200))); (case aL => have := LMc39.out; omega); intro v221 w42 ho hb hg hat; rw [← Ny220.out] at ho; replace HO_201001 := as_ (Kd.S_after (ok := (fun k_ => some k_ ≠ (u201002 : Value).ownBlock)) (fS_ HO_201001) hg hat); replace HO_201002 := as_ (Kd.R_after (ok := (fun _ => True)) (fR_ HO_201002) hg hat); replace BK191 := as_ (blk_grown (bk_ BK191) hg (Kd.R_ne HO_11.out BK191.out (by decide))); replace BK192 := as_ (blk_grown (bk_ BK192) hg (Kd.R_ne HO_11.out BK192.out (by decide))); replace BK193 := as_ (blk_grown (bk_ BK193) hg (Kd.R_ne HO_11.out BK193.out (by decide))); replace BK200 := as_ (blk_grown (bk_ BK200) hg (Kd.R_ne HO_11.out BK200.out (by decide))); replace HO219 := as_ (Kd.V_afterv (ok := (fun k_ => some k_ ≠ (u201001 : Value).ownBlock ∧ some k_ ≠ (u201002 : Value).ownBlock ∧ k_ ≠ gb191 ∧ k_ ≠ gb192 ∧ k_ ≠ gb193 ∧ k_ ≠ gb200)) (fV_ HO219) hg hat); replace HB := as_ (hb); have HO222 := as_ (ho); clear HO_11; clear ho hb hg hat))
            go_roundg k2
            case measure => have := HK1.out; have := HK2.out; omega
            case rel => exact ⟨(y220), (wrap64 (x12_2 + 1)), rf_, H', ⟨by have := HK1.out; have := HK2.out; omega⟩, ⟨bR_ HO222⟩, ⟨fS_ HO_201001⟩, ⟨fR_ HO_201002⟩, ⟨bk_ BK191⟩, ⟨bk_ BK192⟩, ⟨bk_ BK193⟩, ⟨bk_ BK200⟩, ⟨b4_ HB GE191 GE192 GE193 GE200⟩⟩
          rw [if_neg c22] at H
          have c22b0 := decide_eq_false c22
          clear c22
          obtain ⟨c43, H⟩ := ite_s H
          have LMc43 := as_ c43
          clear c43
          obtain ⟨y223, hy223⟩ := ex_ (x201001_1 ++ [x11_2] : List (List Int))
          replace H : (if 0 ≤ x10_1 then (if x10_1 < (l2.length : Int) then (if 0 < ((rd_L1 l2 x10_1).length : Int) then ((spec_l06Good.f k2 a0_0 l0_1 l0_2 (rd (rd_L1 l2 x10_1) 0)).bind fun t228 => (if 1 < ((rd_L1 l2 x10_1).length : Int) then ((spec_l06Good.f k2 a1_0 l1_1 l1_2 (rd (rd_L1 l2 x10_1) 1)).bind fun t231 => (if a3 = 0 then (if t228 = true then (if t231 = true then (if x201002_1.length < 17592186044416 then (spec_l06Combined.l0 k2 l2 a3 (wrap64 (x10_1 + 1)) a0_0 l0_1 l0_2 a1_0 l1_1 l1_2 0 y223 (x201002_1 ++ [x10_1])) else (none)) else (if a3 = 1 then (if x201002_1.length < 17592186044416 then (spec_l06Combined.l0 k2 l2 a3 (wrap64 (x10_1 + 1)) a0_0 l0_1 l0_2 a1_0 l1_1 l1_2 0 y223 (x201002_1 ++ [x10_1])) else (none)) else (if a3 = 2 then (if (t228 != t231) = true then (if x201002_1.length < 17592186044416 then (spec_l06Combined.l0 k2 l2 a3 (wrap64 (x10_1 + 1)) a0_0 l0_1 l0_2 a1_0 l1_1 l1_2 0 y223 (x201002_1 ++ [x10_1])) else (none)) else (spec_l06Combined.l0 k2 l2 a3 (wrap64 (x10_1 + 1)) a0_0 l0_1 l0_2 a1_0 l1_1 l1_2 0 y223 x201002_1)) else (spec_l06Combined.l0 k2 l2 a3 (wrap64 (x10_1 + 1)) a0_0 l0_1 l0_2 a1_0 l1_1 l1_2 0 y223 x201002_1)))) else (if a3 = 1 then (if t231 = true then (if x201002_1.length < 17592186044416 then (spec_l06Combined.l0 k2 l2 a3 (wrap64 (x10_1 + 1)) a0_0 l0_1 l0_2 a1_0 l1_1 l1_2 0 y223 (x201002_1 ++ [x10_1])) else (none)) else (if a3 = 2 then (if (t228 != t231) = true then (if x201002_1.length < 17592186044416 then (spec_l06Combined.l0 k2 l2 a3 (wrap64 (x10_1 + 1)) a0_0 l0_1 l0_2 a1_0 l1_1 l1_2 0 y223 (x201002_1 ++ [x10_1])) else (none)) else (spec_l06Combined.l0 k2 l2 a3 (wrap64 (x10_1 + 1)) a0_0 l0_1 l0_2 a1_0 l1_1 l1_2 0 y223 x201002_1)) else (spec_l06Combined.l0 k2 l2 a3 (wrap64 (x10_1 + 1)) a0_0 l0_1 l0_2 a1_0 l1_1 l1_2 0 y223 x201002_1))) else (if a3 = 2 then (if (t228 != t231) = true then (if x201002_1.length < 17592186044416 then (spec_l06Combined.l0 k2 l2 a3 (wrap64 (x10_1 + 1)) a0_0 l0_1 l0_2 a1_0 l1_1 l1_2 0 y223 (x201002_1 ++ [x10_1])) else (none)) else (spec_l06Combined.l0 k2 l2 a3 (wrap64 (x10_1 + 1)) a0_0 l0_1 l0_2 a1_0 l1_1 l1_2 0 y223 x201002_1)) else (spec_l06Combined.l0 k2 l2 a3 (wrap64 (x10_1 + 1)) a0_0 l0_1 l0_2 a1_0 l1_1 l1_2 0 y223 x201002_1)))) else (if a3 = 1 then (if t228 = true then (if x201002_1.length < 17592186044416 then (spec_l06Combined.l0 k2 l2 a3 (wrap64 (x10_1 + 1)) a0_0 l0_1 l0_2 a1_0 l1_1 l1_2 0 y223 (x201002_1 ++ [x10_1])) else (none)) else (if t231 = true then (if x201002_1.length < 17592186044416 then (spec_l06Combined.l0 k2 l2 a3 (wrap64 (x10_1 + 1)) a0_0 l0_1 l0_2 a1_0 l1_1 l1_2 0 y223 (x201002_1 ++ [x10_1])) else (none)) else (if a3 = 2 then (if (t228 != t231) = true then (if x201002_1.length < 17592186044416 then (spec_l06Combined.l0 k2 l2 a3 (wrap64 (x10_1 + 1)) a0_0 l0_1 l0_2 a1_0 l1_1 l1_2 0 y223 (x201002_1 ++ [x10_1])) else (none)) else (spec_l06Combined.l0 k2 l2 a3 (wrap64 (x10_1 + 1)) a0_0 l0_1 l0_2 a1_0 l1_1 l1_2 0 y223 x201002_1)) else (spec_l06Combined.l0 k2 l2 a3 (wrap64 (x10_1 + 1)) a0_0 l0_1 l0_2 a1_0 l1_1 l1_2 0 y223 x201002_1)))) else (if a3 = 2 then (if (t228 != t231) = true then (if x201002_1.length < 17592186044416 then (spec_l06Combined.l0 k2 l2 a3 (wrap64 (x10_1 + 1)) a0_0 l0_1 l0_2 a1_0 l1_1 l1_2 0 y223 (x201002_1 ++ [x10_1])) else (none)) else (spec_l06Combined.l0 k2 l2 a3 (wrap64 (x10_1 + 1)) a0_0 l0_1 l0_2 a1_0 l1_1 l1_2 0 y223 x201002_1)) else (spec_l06Combined.l0 k2 l2 a3 (wrap64 (x10_1 + 1)) a0_0 l0_1 l0_2 a1_0 l1_1 l1_2 0 y223 x201002_1))))) else (none))) else (none)) else (none)) else (none)) = some (r1, r2, r3) := yr_ hy223 H
          have Ny223 := as_ hy223
          clear hy223
          obtain ⟨c44b0, H⟩ := ite_d H
          obtain ⟨c45b0, H⟩ := ite_d H
          obtain ⟨c46, H⟩ := ite_s H
          have c46b0 : decide (0 < ((rd_L1 l2 x10_1).length : Int)) = true := decide_eq_true c46
          have c46b1 : decide (0 < (rd_L1 l2 x10_1).length) = true := decide_eq_true (by omega)
          clear c46
          obtain ⟨t228, A47, H⟩ := bo_ H
          obtain ⟨c48, H⟩ := ite_s H
          have c48b0 := decide_eq_true c48
          have c48b1 : decide (1 < (rd_L1 l2 x10_1).length) = true := decide_eq_true (by omega)
          clear c48
          obtain ⟨t231, A49, H⟩ := bo_ H
          have H5 := as_ H
          clear H
          have hnb54 := NB200_191.out
          have hnc54 := NB191_200.out
          have hnb55 := NB200_192.out
          have hnc55 := NB192_200.out
          have hnb56 := NB200_193.out
          have hnc56 := NB193_200.out
          obtain ⟨hcz57_0, hfz57_0, hcz57_1, hfz57_1, hcz57_2, hfz57_2⟩ := tc3_ BK200
          obtain ⟨Ao59, co59, eo59⟩ := Kd.R_slice HO_11.out
          subst eo59
          try go_wp2_with (first | ((with_reducible refine gate_builtin (b := .append) (xs := #[.tmp 79, .tmp 81]) rfl ?_); at_builtin; refine Kd.S_append (Kd.slice 2 (Kd.int .i64)) (w0 := w) w.heap.size rfl (.tmp 79) (.tmp 81) 22 23 (.slice none 0 0) 24 rfl Try.underlying22 info23 rfl (by decide) (by omega) u201001 x201001_1 x11_2 [.slice Ao59 x11_2.length co59] (fun k_ => some k_ ≠ (u201002 : Value).ownBlock) (fun k_ => some k_ = (.slice Ao59 x11_2.length co59 : Value).ownBlock) rfl rfl ?aP (fun k_ hk_ => ((Kd.R_mono (ok' := fun k_ => ((fun k_ => some k_ ≠ (u201002 : Value).ownBlock)) k_ ∧ some k_ ≠ (u201001 : Value).ownBlock) (Kd.R_apart' (HO_11.out) (Kd.S_typed HO_201001.out) (by decide)) (fun k_ hk => ⟨hk.1, hk.2⟩))).1 k_ hk_.symm) ?aF ?aO ?aB ?aS ?aL ?_; (case aP => exact Kd.M_row (Kd.R_mono (Kd.R_tight rfl (Kd.R_mono (ok' := fun k_ => ((fun k_ => some k_ ≠ (u201002 : Value).ownBlock)) k_ ∧ some k_ ≠ (u201001 : Value).ownBlock) (Kd.R_apart' (HO_11.out) (Kd.S_typed HO_201001.out) (by decide)) (fun k_ hk => ⟨hk.1, hk.2⟩))) (fun _ h_ => h_))); (case aB => exact (b4_ HB GE191 GE192 GE193 GE200)); (case aF => exact (fun k_ hk => Kd.fresh' (Kd.R_lt (bR_ HO_201002)) k_ hk)); (case aO => exact (by (with_reducible repeat (first | apply Kd.S_alloc | apply Kd.S_drewN | apply Kd.S_drew)); exact Kd.S_mono HO_201001.out (fun k_ hk => ⟨hk.2, fun e_ => hk.1 e_⟩))); (case aS => exact (below_size (b4_ HB GE191 GE192 GE193 GE200))); (case aL => have := LMc43.out; omega); intro v224 w58 ho hb hg hat; rw [← Ny223.out] at ho; replace HO_201002 := as_ (Kd.R_over' (bR_ HO_201002) (Kd.S_typed (bS_ HO_201001)) (by decide) hg); replace BK191 := as_ (blk_grown (bk_ BK191) hg (Kd.S_ne HO_201001.out BK191.out (by decide))); replace BK192 := as_ (blk_grown (bk_ BK192) hg (Kd.S_ne HO_201001.out BK192.out (by decide))); replace BK193 := as_ (blk_grown (bk_ BK193) hg (Kd.S_ne HO_201001.out BK193.out (by decide))); replace BK200 := as_ (blk_grown (bk_ BK200) hg (Kd.S_ne HO_201001.out BK200.out (by decide))); replace HB := as_ (hb); have HO225 := as_ (ho); clear HO_201001 HO_11; clear ho hb hg hat; obtain ⟨Ao60, co60, eo60⟩ := Kd.S_slice HO225.out; subst eo60; obtain ⟨hcz61_0, hfz61_0, hcz61_1, hfz61_1, hcz61_2, hfz61_2⟩ := tc3_ BK200))
          have n0_ : Aside0 (Kd.R (Kd.int .i64) 2 (w58.setCell ⟨gb200, 1, none⟩ (.slice Ao60 y223.length co60)) w.heap.size (fun _ => True) u201002 x201002_1) := ⟨fR1_ HO_201002 BK200⟩; have n1_ : Aside0 (Kd.S (Kd.slice 2 (Kd.int .i64)) 23 (w58.setCell ⟨gb200, 1, none⟩ (.slice Ao60 y223.length co60)) w.heap.size (fun k_ => some k_ ≠ (u201002 : Value).ownBlock) (.slice Ao60 y223.length co60) y223) := ⟨iS1_ HO225 BK200⟩; have n2_ : Aside0 ((w58.setCell ⟨gb200, 1, none⟩ (.slice Ao60 y223.length co60)).heap[gb191]? = some (.cells #[.int .i64 a0_0, .slice A0_1 l0_1.length c0_1, .slice A0_2 l0_2.length c0_2] 29 (0, 0))) := ⟨bf_ BK191 NB191_200⟩; have n3_ : Aside0 ((w58.setCell ⟨gb200, 1, none⟩ (.slice Ao60 y223.length co60)).heap[gb192]? = some (.cells #[.int .i64 a1_0, .slice A1_1 l1_1.length c1_1, .slice A1_2 l1_2.length c1_2] 29 (0, 0))) := ⟨bf_ BK192 NB192_200⟩; have n4_ : Aside0 ((w58.setCell ⟨gb200, 1, none⟩ (.slice Ao60 y223.length co60)).heap[gb193]? = some (.cells #[.int .i64 0, .slice none 0 0, .slice none 0 0] 29 (0, 0))) := ⟨bf_ BK193 NB193_200⟩; have n5_ : Aside0 ((w58.setCell ⟨gb200, 1, none⟩ (.slice Ao60 y223.length co60)).heap[gb200]? = some (.cells #[.int .i64 0, .slice Ao60 y223.length co60, u201002] 29 (0, 0))) := ⟨bp_ BK200⟩; have n6_ : Aside0 (Below w.heap.size w (w58.setCell ⟨gb200, 1, none⟩ (.slice Ao60 y223.length co60))) := ⟨b4_ HB GE191 GE192 GE193 GE200⟩
          (try clear HO_201002)
          (try clear HO225)
          (try clear BK191)
          (try clear BK192)
          (try clear BK193)
          (try clear BK200)
          (try clear HB)
          generalize (w58.setCell ⟨gb200, 1, none⟩ (.slice Ao60 y223.length co60)) = w62 at n0_ n1_ n2_ n3_ n4_ n5_ n6_ ⊢
          have HO_201002 := n0_
          have HO225 := n1_
          have BK191 := n2_
          have BK192 := n3_
          have BK193 := n4_
          have BK200 := n5_
          have HB := n6_
          clear n0_ n1_ n2_ n3_ n4_ n5_ n6_
          replace HO_201002 := dR_ HO_201002; replace HO225 := dS_ HO225; replace BK191 := dk_ BK191; replace BK192 := dk_ BK192; replace BK193 := dk_ BK193; replace BK200 := dk_ BK200; replace HB := db_ HB
          have p226 : 0 ≤ (x10_1 : Int) := od_
          have q226 : x10_1 < (l2.length : Int) := od_
          obtain ⟨ad226, A226_0, c226_0, e226, hx226_0, hl226_0, hi226_0⟩ := at_L1 HR2.out x10_1 p226 q226
          have hw226_0 := hx226_0
          cases e226
          try replace hx226_0 := hx_ HB hx226_0
          have HR226_0 := as_ hi226_0
          have HC226_0 := as_ hl226_0
          clear hi226_0 hl226_0
          replace p226 := eq_true p226
          replace q226 := eq_true q226
          have p227 : 0 ≤ (0 : Int) := (by omega)
          have q227 : 0 < ((rd_L1 l2 x10_1).length : Int) := od_
          obtain ⟨ad227, e227, hx227_0⟩ := Kd.at_int HR226_0.out 0 p227 q227
          have hw227_0 := hx227_0
          (try rw [show ((0 : Int)).toNat = 0 from rfl] at hw227_0)
          (try rw [show 0 * 1 = 0 from rfl] at hw227_0)
          (try rw [Addr.add_zero'] at hw227_0)
          cases e227
          have qi227 : (0 < (rd_L1 l2 x10_1).length) = True := eq_true (by omega)
          (try rw [show ((0 : Int)).toNat = 0 from rfl] at hx227_0)
          (try rw [Addr.add_zero'] at hx227_0)
          try replace hx227_0 := hx_ HB hx227_0
          replace p227 := eq_true p227
          replace q227 := eq_true q227
          have p229 : 0 ≤ (x10_1 : Int) := od_
          have q229 : x10_1 < (l2.length : Int) := od_
          obtain ⟨ad229, A229_0, c229_0, e229, hx229_0, hl229_0, hi229_0⟩ := at_L1 HR2.out x10_1 p229 q229
          have hw229_0 := hx229_0
          obtain rfl : ad226 = ad229 := (by injection e229)
          try replace hx229_0 := hx_ HB hx229_0
          have HR229_0 := as_ hi229_0
          have HC229_0 := as_ hl229_0
          clear hi229_0 hl229_0
          replace p229 := eq_true p229
          replace q229 := eq_true q229
          have ea_ := Option.some.inj (hx226_0.symm.trans hx229_0)
          injection ea_ with ea_ en_ ec_
          subst ea_
          subst ec_
          clear en_
          have p230 : 0 ≤ (1 : Int) := (by omega)
          have q230 : 1 < ((rd_L1 l2 x10_1).length : Int) := od_
          obtain ⟨ad230, e230, hx230_0⟩ := Kd.at_int HR229_0.out 1 p230 q230
          have hw230_0 := hx230_0
          (try rw [show ((1 : Int)).toNat = 1 from rfl] at hw230_0)
          (try rw [show 1 * 1 = 1 from rfl] at hw230_0)
          (try simp only [Nat.reduceMul, Nat.reduceEqDiff, Go.Addr.add, ↓reduceIte] at hw230_0)
          cases e230
          (try simp only [show (1 : Int).toNat = 1 from rfl, Nat.reduceMul, Nat.reduceEqDiff, Go.Addr.add, ↓reduceIte] at hx230_0)
          have qi230 : (1 < (rd_L1 l2 x10_1).length) = True := eq_true (by omega)
          (try rw [show ((1 : Int)).toNat = 1 from rfl] at hx230_0)
          try replace hx230_0 := hx_ HB hx230_0
          replace p230 := eq_true p230
          replace q230 := eq_true q230
          refine start_ (n := 18) (S := fun w' => w'.cell? ⟨gb191, 0, none⟩ = some (.int .i64 a0_0) ∧ w'.cell? ⟨gb191, 1, none⟩ = some (.slice A0_1 l0_1.length c0_1) ∧ w'.cell? ⟨gb191, 2, none⟩ = some (.slice A0_2 l0_2.length c0_2) ∧ w'.cell? ⟨gb192, 0, none⟩ = some (.int .i64 a1_0) ∧ w'.cell? ⟨gb192, 1, none⟩ = some (.slice A1_1 l1_1.length c1_1) ∧ w'.cell? ⟨gb192, 2, none⟩ = some (.slice A1_2 l1_2.length c1_2) ∧ w'.cell? (ad226.add (x10_1).toNat) = some (.slice (some ad227) (rd_L1 l2 x10_1).length c226_0) ∧ w'.cell? ad227 = some (.int .i64 (rd (rd_L1 l2 x10_1) 0)) ∧ w'.cell? (ad226.add (x10_1).toNat) = some (.slice (some ad227) (rd_L1 l2 x10_1).length c226_0) ∧ w'.cell? ⟨ad227.block, ad227.off + 1, none⟩ = some (.int .i64 (rd (rd_L1 l2 x10_1) 1))) (ds := []) #[false, false, false, false, false, false, false, false, false, false, false, false, false, false, false, false, false, false] (by kernel_rfl) rfl rfl ⟨tz_ BK191 0, tz_ BK191 1, tz_ BK191 2, tz_ BK192 0, tz_ BK192 1, tz_ BK192 2, ((HB.out.cell (World.block_lt_of_cell? w _ hw226_0)).trans hw226_0), ((HB.out.cell (World.block_lt_of_cell? w _ hw227_0)).trans hw227_0), ((HB.out.cell (World.block_lt_of_cell? w _ hw229_0)).trans hw229_0), ((HB.out.cell (World.block_lt_of_cell? w _ hw230_0)).trans hw230_0)⟩ (fun hHeld => ?_); refine with_tabW spec_l06Combined.tab12 spec_l06Combined.bits12 (fun HT_ HW_ => ?_)
          generalize w62.drew = w63 at HO_201002 HO225 BK191 BK192 BK193 BK200 HB HR226_0 HR229_0 hx226_0 hx227_0 hx229_0 hx230_0 hHeld ⊢
          refine pu_ 1 85 HT_ ?_
          refine pu_ 2 86 HT_ ?_
          refine pu_ 3 87 HT_ ?_
          refine pu_ 9 93 HT_ ?_
          refine pu_ 10 94 HT_ ?_
          refine pu_ 11 95 HT_ ?_
          refine tk_ 0 84 HT_ HW_ hHeld ?_
          refine tk_ 4 88 HT_ HW_ hHeld ?_
          refine pu_ 5 89 HT_ ?_
          refine tk_ 6 90 HT_ HW_ hHeld ?_
          refine tk_ 8 92 HT_ HW_ hHeld ?_
          refine tk_ 12 96 HT_ HW_ hHeld ?_
          refine pu_ 13 97 HT_ ?_
          refine tk_ 14 98 HT_ HW_ hHeld ?_
          refine on_ 7 (some 91) HT_ fun K hK => ?_
          refine gR_ Try.func18 #[.agg #[.int .i64 a0_0, .slice A0_1 l0_1.length c0_1, .slice A0_2 l0_2.length c0_2], .int .i64 (rd (rd_L1 l2 x10_1) 0)] ?_
          with_reducible refine (spec_l06Good.calls k2 a0_0 _ _ l0_1 _ _ l0_2 (rd (rd_L1 l2 x10_1) 0) t228 _ ?side1 ?side2 ?side3 ?side4 A47.out).mono ?_
          (case side1 => exact bC_ HR0_1 HB)
          (case side2 => exact HC0_1.out)
          (case side3 => exact bC_ HR0_2 HB)
          (case side4 => exact HC0_2.out)
          rintro e w64 ⟨rfl, hb⟩
          refine ⟨_, rfl, ?_⟩
          replace HO_201002 := rb_ HO_201002 hb; replace HO225 := sb_ HO225 hb; replace BK191 := kb_ BK191 hb; replace BK192 := kb_ BK192 hb; replace BK193 := kb_ BK193 hb; replace BK200 := kb_ BK200 hb; replace HB := as_ (below_step (b4_ HB GE191 GE192 GE193 GE200) hb)
          clear hb
          refine hK.out _ _ ⟨tz_ BK191 0, tz_ BK191 1, tz_ BK191 2, tz_ BK192 0, tz_ BK192 1, tz_ BK192 2, ((HB.out.cell (World.block_lt_of_cell? w _ hw226_0)).trans hw226_0), ((HB.out.cell (World.block_lt_of_cell? w _ hw227_0)).trans hw227_0), ((HB.out.cell (World.block_lt_of_cell? w _ hw229_0)).trans hw229_0), ((HB.out.cell (World.block_lt_of_cell? w _ hw230_0)).trans hw230_0)⟩ (fun hHeld => ?_)
          clear hK K
          refine nm_ 91 ?_
          refine on_ 15 (some 99) HT_ fun K hK => ?_
          refine gR_ Try.func18 #[.agg #[.int .i64 a1_0, .slice A1_1 l1_1.length c1_1, .slice A1_2 l1_2.length c1_2], .int .i64 (rd (rd_L1 l2 x10_1) 1)] ?_
          with_reducible refine (spec_l06Good.calls k2 a1_0 _ _ l1_1 _ _ l1_2 (rd (rd_L1 l2 x10_1) 1) t231 _ ?side1 ?side2 ?side3 ?side4 A49.out).mono ?_
          (case side1 => exact bC_ HR1_1 HB)
          (case side2 => exact HC1_1.out)
          (case side3 => exact bC_ HR1_2 HB)
          (case side4 => exact HC1_2.out)
          rintro e w65 ⟨rfl, hb⟩
          refine ⟨_, rfl, ?_⟩
          replace HO_201002 := rb_ HO_201002 hb; replace HO225 := sb_ HO225 hb; replace BK191 := kb_ BK191 hb; replace BK192 := kb_ BK192 hb; replace BK193 := kb_ BK193 hb; replace BK200 := kb_ BK200 hb; replace HB := as_ (below_step (b4_ HB GE191 GE192 GE193 GE200) hb)
          clear hb
          refine hK.out _ _ ⟨tz_ BK191 0, tz_ BK191 1, tz_ BK191 2, tz_ BK192 0, tz_ BK192 1, tz_ BK192 2, ((HB.out.cell (World.block_lt_of_cell? w _ hw226_0)).trans hw226_0), ((HB.out.cell (World.block_lt_of_cell? w _ hw227_0)).trans hw227_0), ((HB.out.cell (World.block_lt_of_cell? w _ hw229_0)).trans hw229_0), ((HB.out.cell (World.block_lt_of_cell? w _ hw230_0)).trans hw230_0)⟩ (fun hHeld => ?_)
          clear hK K
          refine nm_ 99 ?_
          refine pu_ 16 15 HT_ ?_
          refine pu_ 17 16 HT_ ?_
          refine dn_ HT_ ?_
          have H := H5.out
          clear H5
          by_cases c50 : a3 = 0
          rotate_left
          · rw [if_neg c50] at H
            have c50b0 := beq_eq_false_iff_ne.mpr c50
            have c50b1 := bne_iff_ne.mpr c50
            by_cases c236 : a3 = 1
            rotate_left
            · rw [if_neg c236] at H
              have c236b0 := beq_eq_false_iff_ne.mpr c236
              have c236b1 := bne_iff_ne.mpr c236
              by_cases c316 : a3 = 2
              rotate_left
              · rw [if_neg c316] at H
                have c316b0 := beq_eq_false_iff_ne.mpr c316
                have c316b1 := bne_iff_ne.mpr c316
                have H' := as_ H
                clear H
                try go_wp2
                go_roundg k2
                case measure => have := HK1.out; have := HK2.out; omega
                case rel => exact ⟨(wrap64 (x10_1 + 1)), (y223), (x201002_1), (.slice Ao60 y223.length co60), (u201002), rf_, H', ⟨by have := HK1.out; have := HK2.out; omega⟩, ⟨bS_ HO225⟩, ⟨bR_ HO_201002⟩, ⟨bk_ BK191⟩, ⟨bk_ BK192⟩, ⟨bk_ BK193⟩, ⟨bk_ BK200⟩, ⟨b4_ HB GE191 GE192 GE193 GE200⟩⟩
              rw [if_pos c316] at H
              have c316b0 := beq_iff_eq.mpr c316
              have c316b1 := bne_eq_false_iff_eq.mpr c316
              clear c316
              by_cases c317 : (t228 != t231) = true
              rotate_left
              · rw [if_neg c317] at H
                have c317b0 : (t228 != t231) = false := by simpa using c317
                (try (have c317b1 : decide (t228 = t231) = true := by simpa using c317))
                (try (have c317b2 : (t228 == t231) = true := by simpa using c317))
                clear c317
                have H' := as_ H
                clear H
                try go_wp2
                go_roundg k2
                case measure => have := HK1.out; have := HK2.out; omega
                case rel => exact ⟨(wrap64 (x10_1 + 1)), (y223), (x201002_1), (.slice Ao60 y223.length co60), (u201002), rf_, H', ⟨by have := HK1.out; have := HK2.out; omega⟩, ⟨bS_ HO225⟩, ⟨bR_ HO_201002⟩, ⟨bk_ BK191⟩, ⟨bk_ BK192⟩, ⟨bk_ BK193⟩, ⟨bk_ BK200⟩, ⟨b4_ HB GE191 GE192 GE193 GE200⟩⟩
              rw [if_pos c317] at H
              have c317b0 : (t228 != t231) = true := c317
              (try (have c317b1 : decide (t228 = t231) = false := by simpa using c317))
              (try (have c317b2 : (t228 == t231) = false := by simpa using c317))
              (try (have c317b3 : ¬ (t228 = t231) := by simpa using c317))
              clear c317
              obtain ⟨c318, H⟩ := ite_s H
              have LMc318 := as_ c318
              clear c318
              obtain ⟨y259, hy259⟩ := ex_ (x201002_1 ++ [x10_1] : List Int)
              replace H : (spec_l06Combined.l0 k2 l2 a3 (wrap64 (x10_1 + 1)) a0_0 l0_1 l0_2 a1_0 l1_1 l1_2 0 y223 y259) = some (r1, r2, r3) := yr_ hy259 H
              have Ny259 := as_ hy259
              clear hy259
              have H' := as_ H
              clear H
              obtain ⟨hcz331_0, hfz331_0, hcz331_1, hfz331_1, hcz331_2, hfz331_2⟩ := tc3_ BK200
              try go_wp2_with (first | ((with_reducible refine gate_builtin (b := .append) (xs := #[.tmp 128, .tmp 130]) rfl ?_); at_builtin; refine Kd.R_append (Kd.int .i64) (w0 := w) w.heap.size rfl (.tmp 128) (.tmp 130) 23 2 (.int .i64 0) 8 rfl Try.underlying23 info2 rfl (by decide) (by omega) u201002 x201002_1 x10_1 [.int .i64 x10_1] (fun _ => True) (fun _ => False) rfl rfl ?aP (fun _ hk => hk.elim) ?aF ?aO ?aB ?aS ?aL ?_; (case aP => exact rfl); (case aB => exact (b4_ HB GE191 GE192 GE193 GE200)); (case aF => exact (fun _ _ => trivial)); (case aO => exact (bR_ HO_201002)); (case aS => exact (below_size (b4_ HB GE191 GE192 GE193 GE200))); (case aL => have := LMc318.out; omega); intro v260 w332 ho hb hg hat; rw [← Ny259.out] at ho; replace BK191 := as_ (blk_grown (bk_ BK191) hg (Kd.R_ne HO_201002.out BK191.out (by decide))); replace BK192 := as_ (blk_grown (bk_ BK192) hg (Kd.R_ne HO_201002.out BK192.out (by decide))); replace BK193 := as_ (blk_grown (bk_ BK193) hg (Kd.R_ne HO_201002.out BK193.out (by decide))); replace BK200 := as_ (blk_grown (bk_ BK200) hg (Kd.R_ne HO_201002.out BK200.out (by decide))); replace HO225 := as_ (Kd.S_after (ok := (fun _ => True)) (fS_ HO225) hg hat); replace HB := as_ (hb); have HO261 := as_ (ho); clear HO_201002; clear ho hb hg hat; obtain ⟨Ao333, co333, eo333⟩ := Kd.R_slice HO261.out; subst eo333; obtain ⟨hcz334_0, hfz334_0, hcz334_1, hfz334_1, hcz334_2, hfz334_2⟩ := tc3_ BK200))
              go_roundg k2
              case measure => have := HK1.out; have := HK2.out; omega
              case rel => exact ⟨(wrap64 (x10_1 + 1)), (y223), (y259), (.slice Ao60 y223.length co60), (.slice Ao333 y259.length co333), rf_, H', ⟨by have := HK1.out; have := HK2.out; omega⟩, ⟨fS1_ HO225 BK200⟩, ⟨fR1_ HO261 BK200⟩, ⟨bf_ BK191 NB191_200⟩, ⟨bf_ BK192 NB192_200⟩, ⟨bf_ BK193 NB193_200⟩, ⟨bp_ BK200⟩, ⟨b4_ HB GE191 GE192 GE193 GE200⟩⟩
            rw [if_pos c236] at H
            have c236b0 := beq_iff_eq.mpr c236
            have c236b1 := bne_eq_false_iff_eq.mpr c236
            clear c236
            by_cases c237 : t228 = true
            · subst c237
              replace H := it_ H
              obtain ⟨c238, H⟩ := ite_s H
              have LMc238 := as_ c238
              clear c238
              obtain ⟨y250, hy250⟩ := ex_ (x201002_1 ++ [x10_1] : List Int)
              replace H : (spec_l06Combined.l0 k2 l2 a3 (wrap64 (x10_1 + 1)) a0_0 l0_1 l0_2 a1_0 l1_1 l1_2 0 y223 y250) = some (r1, r2, r3) := yr_ hy250 H
              have Ny250 := as_ hy250
              clear hy250
              have H' := as_ H
              clear H
              obtain ⟨hcz251_0, hfz251_0, hcz251_1, hfz251_1, hcz251_2, hfz251_2⟩ := tc3_ BK200
              try go_wp2_with (first | ((with_reducible refine gate_builtin (b := .append) (xs := #[.tmp 128, .tmp 130]) rfl ?_); at_builtin; refine Kd.R_append (Kd.int .i64) (w0 := w) w.heap.size rfl (.tmp 128) (.tmp 130) 23 2 (.int .i64 0) 8 rfl Try.underlying23 info2 rfl (by decide) (by omega) u201002 x201002_1 x10_1 [.int .i64 x10_1] (fun _ => True) (fun _ => False) rfl rfl ?aP (fun _ hk => hk.elim) ?aF ?aO ?aB ?aS ?aL ?_; (case aP => exact rfl); (case aB => exact (b4_ HB GE191 GE192 GE193 GE200)); (case aF => exact (fun _ _ => trivial)); (case aO => exact (bR_ HO_201002)); (case aS => exact (below_size (b4_ HB GE191 GE192 GE193 GE200))); (case aL => have := LMc238.out; omega); intro v251 w252 ho hb hg hat; rw [← Ny250.out] at ho; replace BK191 := as_ (blk_grown (bk_ BK191) hg (Kd.R_ne HO_201002.out BK191.out (by decide))); replace BK192 := as_ (blk_grown (bk_ BK192) hg (Kd.R_ne HO_201002.out BK192.out (by decide))); replace BK193 := as_ (blk_grown (bk_ BK193) hg (Kd.R_ne HO_201002.out BK193.out (by decide))); replace BK200 := as_ (blk_grown (bk_ BK200) hg (Kd.R_ne HO_201002.out BK200.out (by decide))); replace HO225 := as_ (Kd.S_after (ok := (fun _ => True)) (fS_ HO225) hg hat); replace HB := as_ (hb); have HO252 := as_ (ho); clear HO_201002; clear ho hb hg hat; obtain ⟨Ao253, co253, eo253⟩ := Kd.R_slice HO252.out; subst eo253; obtain ⟨hcz254_0, hfz254_0, hcz254_1, hfz254_1, hcz254_2, hfz254_2⟩ := tc3_ BK200))
              go_roundg k2
              case measure => have := HK1.out; have := HK2.out; omega
              case rel => exact ⟨(wrap64 (x10_1 + 1)), (y223), (y250), (.slice Ao60 y223.length co60), (.slice Ao253 y250.length co253), rf_, H', ⟨by have := HK1.out; have := HK2.out; omega⟩, ⟨fS1_ HO225 BK200⟩, ⟨fR1_ HO252 BK200⟩, ⟨bf_ BK191 NB191_200⟩, ⟨bf_ BK192 NB192_200⟩, ⟨bf_ BK193 NB193_200⟩, ⟨bp_ BK200⟩, ⟨b4_ HB GE191 GE192 GE193 GE200⟩⟩
            replace c237 := Bool.eq_false_iff.mpr c237
            subst c237
            replace H := if_ H
            by_cases c255 : t231 = true
            · subst c255
              replace H := it_ H
              obtain ⟨c256, H⟩ := ite_s H
              have LMc256 := as_ c256
              clear c256
              obtain ⟨y253, hy253⟩ := ex_ (x201002_1 ++ [x10_1] : List Int)
              replace H : (spec_l06Combined.l0 k2 l2 a3 (wrap64 (x10_1 + 1)) a0_0 l0_1 l0_2 a1_0 l1_1 l1_2 0 y223 y253) = some (r1, r2, r3) := yr_ hy253 H
              have Ny253 := as_ hy253
              clear hy253
              have H' := as_ H
              clear H
              obtain ⟨hcz269_0, hfz269_0, hcz269_1, hfz269_1, hcz269_2, hfz269_2⟩ := tc3_ BK200
              try go_wp2_with (first | ((with_reducible refine gate_builtin (b := .append) (xs := #[.tmp 128, .tmp 130]) rfl ?_); at_builtin; refine Kd.R_append (Kd.int .i64) (w0 := w) w.heap.size rfl (.tmp 128) (.tmp 130) 23 2 (.int .i64 0) 8 rfl Try.underlying23 info2 rfl (by decide) (by omega) u201002 x201002_1 x10_1 [.int .i64 x10_1] (fun _ => True) (fun _ => False) rfl rfl ?aP (fun _ hk => hk.elim) ?aF ?aO ?aB ?aS ?aL ?_; (case aP => exact rfl); (case aB => exact (b4_ HB GE191 GE192 GE193 GE200)); (case aF => exact (fun _ _ => trivial)); (case aO => exact (bR_ HO_201002)); (case aS => exact (below_size (b4_ HB GE191 GE192 GE193 GE200))); (case aL => have := LMc256.out; omega); intro v254 w270 ho hb hg hat; rw [← Ny253.out] at ho; replace BK191 := as_ (blk_grown (bk_ BK191) hg (Kd.R_ne HO_201002.out BK191.out (by decide))); replace BK192 := as_ (blk_grown (bk_ BK192) hg (Kd.R_ne HO_201002.out BK192.out (by decide))); replace BK193 := as_ (blk_grown (bk_ BK193) hg (Kd.R_ne HO_201002.out BK193.out (by decide))); replace BK200 := as_ (blk_grown (bk_ BK200) hg (Kd.R_ne HO_201002.out BK200.out (by decide))); replace HO225 := as_ (Kd.S_after (ok := (fun _ => True)) (fS_ HO225) hg hat); replace HB := as_ (hb); have HO255 := as_ (ho); clear HO_201002; clear ho hb hg hat; obtain ⟨Ao271, co271, eo271⟩ := Kd.R_slice HO255.out; subst eo271; obtain ⟨hcz272_0, hfz272_0, hcz272_1, hfz272_1, hcz272_2, hfz272_2⟩ := tc3_ BK200))
              go_roundg k2
              case measure => have := HK1.out; have := HK2.out; omega
              case rel => exact ⟨(wrap64 (x10_1 + 1)), (y223), (y253), (.slice Ao60 y223.length co60), (.slice Ao271 y253.length co271), rf_, H', ⟨by have := HK1.out; have := HK2.out; omega⟩, ⟨fS1_ HO225 BK200⟩, ⟨fR1_ HO255 BK200⟩, ⟨bf_ BK191 NB191_200⟩, ⟨bf_ BK192 NB192_200⟩, ⟨bf_ BK193 NB193_200⟩, ⟨bp_ BK200⟩, ⟨b4_ HB GE191 GE192 GE193 GE200⟩⟩
            replace c255 := Bool.eq_false_iff.mpr c255
            subst c255
            replace H := if_ H
            by_cases c273 : a3 = 2
            rotate_left
            · rw [if_neg c273] at H
              have c273b0 := beq_eq_false_iff_ne.mpr c273
              have c273b1 := bne_iff_ne.mpr c273
              have H' := as_ H
              clear H
              try go_wp2
              go_roundg k2
              case measure => have := HK1.out; have := HK2.out; omega
              case rel => exact ⟨(wrap64 (x10_1 + 1)), (y223), (x201002_1), (.slice Ao60 y223.length co60), (u201002), rf_, H', ⟨by have := HK1.out; have := HK2.out; omega⟩, ⟨bS_ HO225⟩, ⟨bR_ HO_201002⟩, ⟨bk_ BK191⟩, ⟨bk_ BK192⟩, ⟨bk_ BK193⟩, ⟨bk_ BK200⟩, ⟨b4_ HB GE191 GE192 GE193 GE200⟩⟩
            rw [if_pos c273] at H
            have c273b0 := beq_iff_eq.mpr c273
            have c273b1 := bne_eq_false_iff_eq.mpr c273
            clear c273
            by_cases c274 : (false != false) = true
            · exact absurd c274 (by decide)
            rw [if_neg c274] at H
            clear c274
            have H' := as_ H
            clear H
            try go_wp2
            go_roundg k2
            case measure => have := HK1.out; have := HK2.out; omega
            case rel => exact ⟨(wrap64 (x10_1 + 1)), (y223), (x201002_1), (.slice Ao60 y223.length co60), (u201002), rf_, H', ⟨by have := HK1.out; have := HK2.out; omega⟩, ⟨bS_ HO225⟩, ⟨bR_ HO_201002⟩, ⟨bk_ BK191⟩, ⟨bk_ BK192⟩, ⟨bk_ BK193⟩, ⟨bk_ BK200⟩, ⟨b4_ HB GE191 GE192 GE193 GE200⟩⟩
          rw [if_pos c50] at H
          have c50b0 := beq_iff_eq.mpr c50
          have c50b1 := bne_eq_false_iff_eq.mpr c50
          clear c50
          by_cases c51 : t228 = true
          · subst c51
            replace H := it_ H
            by_cases c52 : t231 = true
            · subst c52
              replace H := it_ H
              obtain ⟨c53, H⟩ := ite_s H
              have LMc53 := as_ c53
              clear c53
              obtain ⟨y232, hy232⟩ := ex_ (x201002_1 ++ [x10_1] : List Int)
              replace H : (spec_l06Combined.l0 k2 l2 a3 (wrap64 (x10_1 + 1)) a0_0 l0_1 l0_2 a1_0 l1_1 l1_2 0 y223 y232) = some (r1, r2, r3) := yr_ hy232 H
              have Ny232 := as_ hy232
              clear hy232
              have H' := as_ H
              clear H
              obtain ⟨hcz66_0, hfz66_0, hcz66_1, hfz66_1, hcz66_2, hfz66_2⟩ := tc3_ BK200
              try go_wp2_with (first | ((with_reducible refine gate_builtin (b := .append) (xs := #[.tmp 128, .tmp 130]) rfl ?_); at_builtin; refine Kd.R_append (Kd.int .i64) (w0 := w) w.heap.size rfl (.tmp 128) (.tmp 130) 23 2 (.int .i64 0) 8 rfl Try.underlying23 info2 rfl (by decide) (by omega) u201002 x201002_1 x10_1 [.int .i64 x10_1] (fun _ => True) (fun _ => False) rfl rfl ?aP (fun _ hk => hk.elim) ?aF ?aO ?aB ?aS ?aL ?_; (case aP => exact rfl); (case aB => exact (b4_ HB GE191 GE192 GE193 GE200)); (case aF => exact (fun _ _ => trivial)); (case aO => exact (bR_ HO_201002)); (case aS => exact (below_size (b4_ HB GE191 GE192 GE193 GE200))); (case aL => have := LMc53.out; omega); intro v233 w67 ho hb hg hat; rw [← Ny232.out] at ho; replace BK191 := as_ (blk_grown (bk_ BK191) hg (Kd.R_ne HO_201002.out BK191.out (by decide))); replace BK192 := as_ (blk_grown (bk_ BK192) hg (Kd.R_ne HO_201002.out BK192.out (by decide))); replace BK193 := as_ (blk_grown (bk_ BK193) hg (Kd.R_ne HO_201002.out BK193.out (by decide))); replace BK200 := as_ (blk_grown (bk_ BK200) hg (Kd.R_ne HO_201002.out BK200.out (by decide))); replace HO225 := as_ (Kd.S_after (ok := (fun _ => True)) (fS_ HO225) hg hat); replace HB := as_ (hb); have HO234 := as_ (ho); clear HO_201002; clear ho hb hg hat; obtain ⟨Ao68, co68, eo68⟩ := Kd.R_slice HO234.out; subst eo68; obtain ⟨hcz69_0, hfz69_0, hcz69_1, hfz69_1, hcz69_2, hfz69_2⟩ := tc3_ BK200))
              go_roundg k2
              case measure => have := HK1.out; have := HK2.out; omega
              case rel => exact ⟨(wrap64 (x10_1 + 1)), (y223), (y232), (.slice Ao60 y223.length co60), (.slice Ao68 y232.length co68), rf_, H', ⟨by have := HK1.out; have := HK2.out; omega⟩, ⟨fS1_ HO225 BK200⟩, ⟨fR1_ HO234 BK200⟩, ⟨bf_ BK191 NB191_200⟩, ⟨bf_ BK192 NB192_200⟩, ⟨bf_ BK193 NB193_200⟩, ⟨bp_ BK200⟩, ⟨b4_ HB GE191 GE192 GE193 GE200⟩⟩
            replace c52 := Bool.eq_false_iff.mpr c52
            subst c52
            replace H := if_ H
            by_cases c70 : a3 = 1
            · rw [if_pos c70] at H
              have c70b0 := beq_iff_eq.mpr c70
              have c70b1 := bne_eq_false_iff_eq.mpr c70
              clear c70
              obtain ⟨c71, H⟩ := ite_s H
              have LMc71 := as_ c71
              clear c71
              obtain ⟨y235, hy235⟩ := ex_ (x201002_1 ++ [x10_1] : List Int)
              replace H : (spec_l06Combined.l0 k2 l2 a3 (wrap64 (x10_1 + 1)) a0_0 l0_1 l0_2 a1_0 l1_1 l1_2 0 y223 y235) = some (r1, r2, r3) := yr_ hy235 H
              have Ny235 := as_ hy235
              clear hy235
              have H' := as_ H
              clear H
              obtain ⟨hcz84_0, hfz84_0, hcz84_1, hfz84_1, hcz84_2, hfz84_2⟩ := tc3_ BK200
              try go_wp2_with (first | ((with_reducible refine gate_builtin (b := .append) (xs := #[.tmp 128, .tmp 130]) rfl ?_); at_builtin; refine Kd.R_append (Kd.int .i64) (w0 := w) w.heap.size rfl (.tmp 128) (.tmp 130) 23 2 (.int .i64 0) 8 rfl Try.underlying23 info2 rfl (by decide) (by omega) u201002 x201002_1 x10_1 [.int .i64 x10_1] (fun _ => True) (fun _ => False) rfl rfl ?aP (fun _ hk => hk.elim) ?aF ?aO ?aB ?aS ?aL ?_; (case aP => exact rfl); (case aB => exact (b4_ HB GE191 GE192 GE193 GE200)); (case aF => exact (fun _ _ => trivial)); (case aO => exact (bR_ HO_201002)); (case aS => exact (below_size (b4_ HB GE191 GE192 GE193 GE200))); (case aL => have := LMc71.out; omega); intro v236 w85 ho hb hg hat; rw [← Ny235.out] at ho; replace BK191 := as_ (blk_grown (bk_ BK191) hg (Kd.R_ne HO_201002.out BK191.out (by decide))); replace BK192 := as_ (blk_grown (bk_ BK192) hg (Kd.R_ne HO_201002.out BK192.out (by decide))); replace BK193 := as_ (blk_grown (bk_ BK193) hg (Kd.R_ne HO_201002.out BK193.out (by decide))); replace BK200 := as_ (blk_grown (bk_ BK200) hg (Kd.R_ne HO_201002.out BK200.out (by decide))); replace HO225 := as_ (Kd.S_after (ok := (fun _ => True)) (fS_ HO225) hg hat); replace HB := as_ (hb); have HO237 := as_ (ho); clear HO_201002; clear ho hb hg hat; obtain ⟨Ao86, co86, eo86⟩ := Kd.R_slice HO237.out; subst eo86; obtain ⟨hcz87_0, hfz87_0, hcz87_1, hfz87_1, hcz87_2, hfz87_2⟩ := tc3_ BK200))
              go_roundg k2
              case measure => have := HK1.out; have := HK2.out; omega
              case rel => exact ⟨(wrap64 (x10_1 + 1)), (y223), (y235), (.slice Ao60 y223.length co60), (.slice Ao86 y235.length co86), rf_, H', ⟨by have := HK1.out; have := HK2.out; omega⟩, ⟨fS1_ HO225 BK200⟩, ⟨fR1_ HO237 BK200⟩, ⟨bf_ BK191 NB191_200⟩, ⟨bf_ BK192 NB192_200⟩, ⟨bf_ BK193 NB193_200⟩, ⟨bp_ BK200⟩, ⟨b4_ HB GE191 GE192 GE193 GE200⟩⟩
            rw [if_neg c70] at H
            have c70b0 := beq_eq_false_iff_ne.mpr c70
            have c70b1 := bne_iff_ne.mpr c70
            by_cases c88 : a3 = 2
            rotate_left
            · rw [if_neg c88] at H
              have c88b0 := beq_eq_false_iff_ne.mpr c88
              have c88b1 := bne_iff_ne.mpr c88
              have H' := as_ H
              clear H
              try go_wp2
              go_roundg k2
              case measure => have := HK1.out; have := HK2.out; omega
              case rel => exact ⟨(wrap64 (x10_1 + 1)), (y223), (x201002_1), (.slice Ao60 y223.length co60), (u201002), rf_, H', ⟨by have := HK1.out; have := HK2.out; omega⟩, ⟨bS_ HO225⟩, ⟨bR_ HO_201002⟩, ⟨bk_ BK191⟩, ⟨bk_ BK192⟩, ⟨bk_ BK193⟩, ⟨bk_ BK200⟩, ⟨b4_ HB GE191 GE192 GE193 GE200⟩⟩
            rw [if_pos c88] at H
            have c88b0 := beq_iff_eq.mpr c88
            have c88b1 := bne_eq_false_iff_eq.mpr c88
            clear c88
            by_cases c89 : (true != false) = true
            rotate_left
            · exact absurd (by decide) c89
            rw [if_pos c89] at H
            have c89b0 : (true != false) = true := c89
            clear c89
            obtain ⟨c90, H⟩ := ite_s H
            have LMc90 := as_ c90
            clear c90
            obtain ⟨y238, hy238⟩ := ex_ (x201002_1 ++ [x10_1] : List Int)
            replace H : (spec_l06Combined.l0 k2 l2 a3 (wrap64 (x10_1 + 1)) a0_0 l0_1 l0_2 a1_0 l1_1 l1_2 0 y223 y238) = some (r1, r2, r3) := yr_ hy238 H
            have Ny238 := as_ hy238
            clear hy238
            have H' := as_ H
            clear H
            obtain ⟨hcz103_0, hfz103_0, hcz103_1, hfz103_1, hcz103_2, hfz103_2⟩ := tc3_ BK200
            try go_wp2_with (first | ((with_reducible refine gate_builtin (b := .append) (xs := #[.tmp 128, .tmp 130]) rfl ?_); at_builtin; refine Kd.R_append (Kd.int .i64) (w0 := w) w.heap.size rfl (.tmp 128) (.tmp 130) 23 2 (.int .i64 0) 8 rfl Try.underlying23 info2 rfl (by decide) (by omega) u201002 x201002_1 x10_1 [.int .i64 x10_1] (fun _ => True) (fun _ => False) rfl rfl ?aP (fun _ hk => hk.elim) ?aF ?aO ?aB ?aS ?aL ?_; (case aP => exact rfl); (case aB => exact (b4_ HB GE191 GE192 GE193 GE200)); (case aF => exact (fun _ _ => trivial)); (case aO => exact (bR_ HO_201002)); (case aS => exact (below_size (b4_ HB GE191 GE192 GE193 GE200))); (case aL => have := LMc90.out; omega); intro v239 w104 ho hb hg hat; rw [← Ny238.out] at ho; replace BK191 := as_ (blk_grown (bk_ BK191) hg (Kd.R_ne HO_201002.out BK191.out (by decide))); replace BK192 := as_ (blk_grown (bk_ BK192) hg (Kd.R_ne HO_201002.out BK192.out (by decide))); replace BK193 := as_ (blk_grown (bk_ BK193) hg (Kd.R_ne HO_201002.out BK193.out (by decide))); replace BK200 := as_ (blk_grown (bk_ BK200) hg (Kd.R_ne HO_201002.out BK200.out (by decide))); replace HO225 := as_ (Kd.S_after (ok := (fun _ => True)) (fS_ HO225) hg hat); replace HB := as_ (hb); have HO240 := as_ (ho); clear HO_201002; clear ho hb hg hat; obtain ⟨Ao105, co105, eo105⟩ := Kd.R_slice HO240.out; subst eo105; obtain ⟨hcz106_0, hfz106_0, hcz106_1, hfz106_1, hcz106_2, hfz106_2⟩ := tc3_ BK200))
            go_roundg k2
            case measure => have := HK1.out; have := HK2.out; omega
            case rel => exact ⟨(wrap64 (x10_1 + 1)), (y223), (y238), (.slice Ao60 y223.length co60), (.slice Ao105 y238.length co105), rf_, H', ⟨by have := HK1.out; have := HK2.out; omega⟩, ⟨fS1_ HO225 BK200⟩, ⟨fR1_ HO240 BK200⟩, ⟨bf_ BK191 NB191_200⟩, ⟨bf_ BK192 NB192_200⟩, ⟨bf_ BK193 NB193_200⟩, ⟨bp_ BK200⟩, ⟨b4_ HB GE191 GE192 GE193 GE200⟩⟩
          replace c51 := Bool.eq_false_iff.mpr c51
          subst c51
          replace H := if_ H
          by_cases c131 : a3 = 1
          rotate_left
          · rw [if_neg c131] at H
            have c131b0 := beq_eq_false_iff_ne.mpr c131
            have c131b1 := bne_iff_ne.mpr c131
            by_cases c193 : a3 = 2
            rotate_left
            · rw [if_neg c193] at H
              have c193b0 := beq_eq_false_iff_ne.mpr c193
              have c193b1 := bne_iff_ne.mpr c193
              have H' := as_ H
              clear H
              try go_wp2
              go_roundg k2
              case measure => have := HK1.out; have := HK2.out; omega
              case rel => exact ⟨(wrap64 (x10_1 + 1)), (y223), (x201002_1), (.slice Ao60 y223.length co60), (u201002), rf_, H', ⟨by have := HK1.out; have := HK2.out; omega⟩, ⟨bS_ HO225⟩, ⟨bR_ HO_201002⟩, ⟨bk_ BK191⟩, ⟨bk_ BK192⟩, ⟨bk_ BK193⟩, ⟨bk_ BK200⟩, ⟨b4_ HB GE191 GE192 GE193 GE200⟩⟩
            rw [if_pos c193] at H
            have c193b0 := beq_iff_eq.mpr c193
            have c193b1 := bne_eq_false_iff_eq.mpr c193
            clear c193
            by_cases c194 : (false != t231) = true
            rotate_left
            · rw [if_neg c194] at H
              have c194b0 : (false != t231) = false := by simpa using c194
              (try (have c194b1 : decide (false = t231) = true := by simpa using c194))
              (try (have c194b2 : (false == t231) = true := by simpa using c194))
              clear c194
              have H' := as_ H
              clear H
              try go_wp2
              go_roundg k2
              case measure => have := HK1.out; have := HK2.out; omega
              case rel => exact ⟨(wrap64 (x10_1 + 1)), (y223), (x201002_1), (.slice Ao60 y223.length co60), (u201002), rf_, H', ⟨by have := HK1.out; have := HK2.out; omega⟩, ⟨bS_ HO225⟩, ⟨bR_ HO_201002⟩, ⟨bk_ BK191⟩, ⟨bk_ BK192⟩, ⟨bk_ BK193⟩, ⟨bk_ BK200⟩, ⟨b4_ HB GE191 GE192 GE193 GE200⟩⟩
            rw [if_pos c194] at H
            have c194b0 : (false != t231) = true := c194
            (try (have c194b1 : decide (false = t231) = false := by simpa using c194))
            (try (have c194b2 : (false == t231) = false := by simpa using c194))
            (try (have c194b3 : ¬ (false = t231) := by simpa using c194))
            clear c194
            obtain ⟨c195, H⟩ := ite_s H
            have LMc195 := as_ c195
            clear c195
            obtain ⟨y247, hy247⟩ := ex_ (x201002_1 ++ [x10_1] : List Int)
            replace H : (spec_l06Combined.l0 k2 l2 a3 (wrap64 (x10_1 + 1)) a0_0 l0_1 l0_2 a1_0 l1_1 l1_2 0 y223 y247) = some (r1, r2, r3) := yr_ hy247 H
            have Ny247 := as_ hy247
            clear hy247
            have H' := as_ H
            clear H
            obtain ⟨hcz208_0, hfz208_0, hcz208_1, hfz208_1, hcz208_2, hfz208_2⟩ := tc3_ BK200
            try go_wp2_with (first | ((with_reducible refine gate_builtin (b := .append) (xs := #[.tmp 128, .tmp 130]) rfl ?_); at_builtin; refine Kd.R_append (Kd.int .i64) (w0 := w) w.heap.size rfl (.tmp 128) (.tmp 130) 23 2 (.int .i64 0) 8 rfl Try.underlying23 info2 rfl (by decide) (by omega) u201002 x201002_1 x10_1 [.int .i64 x10_1] (fun _ => True) (fun _ => False) rfl rfl ?aP (fun _ hk => hk.elim) ?aF ?aO ?aB ?aS ?aL ?_; (case aP => exact rfl); (case aB => exact (b4_ HB GE191 GE192 GE193 GE200)); (case aF => exact (fun _ _ => trivial)); (case aO => exact (bR_ HO_201002)); (case aS => exact (below_size (b4_ HB GE191 GE192 GE193 GE200))); (case aL => have := LMc195.out; omega); intro v248 w209 ho hb hg hat; rw [← Ny247.out] at ho; replace BK191 := as_ (blk_grown (bk_ BK191) hg (Kd.R_ne HO_201002.out BK191.out (by decide))); replace BK192 := as_ (blk_grown (bk_ BK192) hg (Kd.R_ne HO_201002.out BK192.out (by decide))); replace BK193 := as_ (blk_grown (bk_ BK193) hg (Kd.R_ne HO_201002.out BK193.out (by decide))); replace BK200 := as_ (blk_grown (bk_ BK200) hg (Kd.R_ne HO_201002.out BK200.out (by decide))); replace HO225 := as_ (Kd.S_after (ok := (fun _ => True)) (fS_ HO225) hg hat); replace HB := as_ (hb); have HO249 := as_ (ho); clear HO_201002; clear ho hb hg hat; obtain ⟨Ao210, co210, eo210⟩ := Kd.R_slice HO249.out; subst eo210; obtain ⟨hcz211_0, hfz211_0, hcz211_1, hfz211_1, hcz211_2, hfz211_2⟩ := tc3_ BK200))
            go_roundg k2
            case measure => have := HK1.out; have := HK2.out; omega
            case rel => exact ⟨(wrap64 (x10_1 + 1)), (y223), (y247), (.slice Ao60 y223.length co60), (.slice Ao210 y247.length co210), rf_, H', ⟨by have := HK1.out; have := HK2.out; omega⟩, ⟨fS1_ HO225 BK200⟩, ⟨fR1_ HO249 BK200⟩, ⟨bf_ BK191 NB191_200⟩, ⟨bf_ BK192 NB192_200⟩, ⟨bf_ BK193 NB193_200⟩, ⟨bp_ BK200⟩, ⟨b4_ HB GE191 GE192 GE193 GE200⟩⟩
          rw [if_pos c131] at H
          have c131b0 := beq_iff_eq.mpr c131
          have c131b1 := bne_eq_false_iff_eq.mpr c131
          clear c131
          by_cases c132 : t231 = true
          · subst c132
            replace H := it_ H
            obtain ⟨c133, H⟩ := ite_s H
            have LMc133 := as_ c133
            clear c133
            obtain ⟨y241, hy241⟩ := ex_ (x201002_1 ++ [x10_1] : List Int)
            replace H : (spec_l06Combined.l0 k2 l2 a3 (wrap64 (x10_1 + 1)) a0_0 l0_1 l0_2 a1_0 l1_1 l1_2 0 y223 y241) = some (r1, r2, r3) := yr_ hy241 H
            have Ny241 := as_ hy241
            clear hy241
            have H' := as_ H
            clear H
            obtain ⟨hcz146_0, hfz146_0, hcz146_1, hfz146_1, hcz146_2, hfz146_2⟩ := tc3_ BK200
            try go_wp2_with (first | ((with_reducible refine gate_builtin (b := .append) (xs := #[.tmp 128, .tmp 130]) rfl ?_); at_builtin; refine Kd.R_append (Kd.int .i64) (w0 := w) w.heap.size rfl (.tmp 128) (.tmp 130) 23 2 (.int .i64 0) 8 rfl Try.underlying23 info2 rfl (by decide) (by omega) u201002 x201002_1 x10_1 [.int .i64 x10_1] (fun _ => True) (fun _ => False) rfl rfl ?aP (fun _ hk => hk.elim) ?aF ?aO ?aB ?aS ?aL ?_; (case aP => exact rfl); (case aB => exact (b4_ HB GE191 GE192 GE193 GE200)); (case aF => exact (fun _ _ => trivial)); (case aO => exact (bR_ HO_201002)); (case aS => exact (below_size (b4_ HB GE191 GE192 GE193 GE200))); (case aL => have := LMc133.out; omega); intro v242 w147 ho hb hg hat; rw [← Ny241.out] at ho; replace BK191 := as_ (blk_grown (bk_ BK191) hg (Kd.R_ne HO_201002.out BK191.out (by decide))); replace BK192 := as_ (blk_grown (bk_ BK192) hg (Kd.R_ne HO_201002.out BK192.out (by decide))); replace BK193 := as_ (blk_grown (bk_ BK193) hg (Kd.R_ne HO_201002.out BK193.out (by decide))); replace BK200 := as_ (blk_grown (bk_ BK200) hg (Kd.R_ne HO_201002.out BK200.out (by decide))); replace HO225 := as_ (Kd.S_after (ok := (fun _ => True)) (fS_ HO225) hg hat); replace HB := as_ (hb); have HO243 := as_ (ho); clear HO_201002; clear ho hb hg hat; obtain ⟨Ao148, co148, eo148⟩ := Kd.R_slice HO243.out; subst eo148; obtain ⟨hcz149_0, hfz149_0, hcz149_1, hfz149_1, hcz149_2, hfz149_2⟩ := tc3_ BK200))
            go_roundg k2
            case measure => have := HK1.out; have := HK2.out; omega
            case rel => exact ⟨(wrap64 (x10_1 + 1)), (y223), (y241), (.slice Ao60 y223.length co60), (.slice Ao148 y241.length co148), rf_, H', ⟨by have := HK1.out; have := HK2.out; omega⟩, ⟨fS1_ HO225 BK200⟩, ⟨fR1_ HO243 BK200⟩, ⟨bf_ BK191 NB191_200⟩, ⟨bf_ BK192 NB192_200⟩, ⟨bf_ BK193 NB193_200⟩, ⟨bp_ BK200⟩, ⟨b4_ HB GE191 GE192 GE193 GE200⟩⟩
          replace c132 := Bool.eq_false_iff.mpr c132
          subst c132
          replace H := if_ H
          by_cases c150 : a3 = 2
          rotate_left
          · rw [if_neg c150] at H
            have c150b0 := beq_eq_false_iff_ne.mpr c150
            have c150b1 := bne_iff_ne.mpr c150
            have H' := as_ H
            clear H
            try go_wp2
            go_roundg k2
            case measure => have := HK1.out; have := HK2.out; omega
            case rel => exact ⟨(wrap64 (x10_1 + 1)), (y223), (x201002_1), (.slice Ao60 y223.length co60), (u201002), rf_, H', ⟨by have := HK1.out; have := HK2.out; omega⟩, ⟨bS_ HO225⟩, ⟨bR_ HO_201002⟩, ⟨bk_ BK191⟩, ⟨bk_ BK192⟩, ⟨bk_ BK193⟩, ⟨bk_ BK200⟩, ⟨b4_ HB GE191 GE192 GE193 GE200⟩⟩
          rw [if_pos c150] at H
          have c150b0 := beq_iff_eq.mpr c150
          have c150b1 := bne_eq_false_iff_eq.mpr c150
          clear c150
          by_cases c151 : (false != false) = true
          · exact absurd c151 (by decide)
          rw [if_neg c151] at H
          clear c151
          have H' := as_ H
          clear H
          try go_wp2
          go_roundg k2
          case measure => have := HK1.out; have := HK2.out; omega
          case rel => exact ⟨(wrap64 (x10_1 + 1)), (y223), (x201002_1), (.slice Ao60 y223.length co60), (u201002), rf_, H', ⟨by have := HK1.out; have := HK2.out; omega⟩, ⟨bS_ HO225⟩, ⟨bR_ HO_201002⟩, ⟨bk_ BK191⟩, ⟨bk_ BK192⟩, ⟨bk_ BK193⟩, ⟨bk_ BK200⟩, ⟨b4_ HB GE191 GE192 GE193 GE200⟩⟩

end Go.Proofs.Ytpbfideppdmceaa.E
