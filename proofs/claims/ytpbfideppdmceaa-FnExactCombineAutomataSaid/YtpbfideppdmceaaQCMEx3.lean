/- The row of the law FnExactCombineAutomata, out of its pure statement. -/
import Derived.Test.YtpbfideppdmceaaQCMEx0
import Derived.Test.YtpbfideppdmceaaQCML
-- Written by wip/ext.py of this claim (contracts by the form of the kit's print; hand-written ones among them).
namespace Go.Proofs.Ytpbfideppdmceaa.E
open Go.RowKit Go.Proofs.YtpbfideppdmceaaW.PrintWords Go.Proofs.YtpbfideppdmceaaW.PrintLast Go.Proofs.YtpbfideppdmceaaW.PrintMore Go.Proofs.Ytpbfideppdmceaa.Mi
attribute [local go_sem] max2_int min2_int max_two min_two max_three min_three max_four min_four   -- for this text's walks alone
set_option linter.unusedVariables false
set_option linter.unusedSimpArgs false

def spec_l06Number.p0 : Nat → List (List Int) → Int → Int → Int → Option (Int × (List (List Int)))
  | 0, _, _, _, _ => none
  | k + 1, x0, x1, x2, x8 => if x8 < (x0.length : Int) then (if 0 ≤ x8 then (if 0 < ((rd_L1 x0 x8).length : Int) then (if (rd (rd_L1 x0 x8) 0) = x1 then (if 1 < ((rd_L1 x0 x8).length : Int) then (if (rd (rd_L1 x0 x8) 1) = x2 then (some (x8, x0)) else (spec_l06Number.p0 k x0 x1 x2 (wrap64 (x8 + 1)))) else (none)) else (spec_l06Number.p0 k x0 x1 x2 (wrap64 (x8 + 1)))) else (none)) else (none)) else (if x0.length < 1048576 then some ((x0.length : Int), x0 ++ [[x1, x2]]) else none)
def spec_l06Number.put (k : Nat) (l0 : List (List Int)) (a1 : Int) (a2 : Int) : Option (Int × (List (List Int))) := spec_l06Number.p0 k l0 a1 a2 0
set_option maxHeartbeats 8000000 in
set_option maxRecDepth 100000 in
theorem spec_l06Number.put_calls (k : Nat) (base : Nat) (ok : Nat → Prop) (A0 : Option Addr) (c0 : Nat) (l0 : List (List Int)) (a1 : Int) (a2 : Int) (r1 : Int) (r2 : List (List Int)) (w0 w : World) (hB : Below base w0 w) (hbw : base ≤ w.heap.size) (hfr : ∀ k_, w.heap.size ≤ k_ → ok k_) (hs0 : Kd.N (Kd.slice 2 (Kd.int .i64)) 23 w base ok (.slice A0 l0.length c0) l0) (h : spec_l06Number.put k l0 a1 a2 = some (r1, r2)) :
    Calls Try.prog 33 #[.slice A0 l0.length c0, .int .i64 a1, .int .i64 a2] w fun e w' => ∃ v1_ : Value, e = .returned (.tuple #[.int .i64 r1, v1_]) ∧ Kd.N (Kd.slice 2 (Kd.int .i64)) 23 w' base ok v1_ r2 ∧ Below base w0 w' ∧ Kept w w' (fun k_ => some k_ = (Value.slice A0 l0.length c0).ownBlock) ∧ (v1_.ownBlock = (Value.slice A0 l0.length c0).ownBlock ∨ ∃ b, v1_.ownBlock = some b ∧ w.heap.size ≤ b) := by
  have HO0 := as_ hs0
  have HB := as_ hB
  have HK := as_ (Kept.refl w (fun k_ => some k_ = (Value.slice A0 l0.length c0).ownBlock))
  have FR := as_ hfr
  have BW := as_ hbw
  clear hB hfr hbw hs0
  have H : (spec_l06Number.p0 k l0 a1 a2 0) = some (r1, r2) := h
  clear h
  have H' := as_ H
  clear H
  go_enter Try.func33, Try.ntmps33
  go_wp2
  go_loopg [8] k (fun kq v8 w' => ∃ (x8_1 : Int), v8 = .int .i64 x8_1 ∧ Aside0 (spec_l06Number.p0 kq l0 a1 a2 x8_1 = some (r1, r2)) ∧ Aside0 (kq ≤ k) ∧ Aside0 (Kd.N (Kd.slice 2 (Kd.int .i64)) 23 w' base ok (.slice A0 l0.length c0) l0) ∧ Aside0 (Kept w w' (fun k_ => some k_ = (Value.slice A0 l0.length c0).ownBlock)) ∧ Aside0 (Below base w0 w'))
  case atStart => exact ⟨(0), rf_, H', ⟨Nat.le_refl _⟩, HO0, HK, HB⟩
  case round =>
    clear H'
    (try clear p2); (try clear c3)
    clear HO0 HK HB
    obtain ⟨x8_1, rfl, HA, HK1, HO_0, HK, HB⟩ := hrel
    cases gk with
    | zero => exact absurd HA.out (by simp [spec_l06Number.p0])
    | succ k1 =>
      have H := HA.out
      clear HA
      simp only [spec_l06Number.p0] at H
      by_cases c4 : x8_1 < (l0.length : Int)
      rotate_left
      · rw [if_neg c4] at H
        have c4b0 := decide_eq_false c4
        clear c4
        obtain ⟨c10, H⟩ := ite_s H
        have LM := as_ c10
        simp only [Option.some.injEq, Prod.mk.injEq] at H
        obtain ⟨rfl, rfl⟩ := H
        clear c10
        have HWR := as_ HK.out.1
        go_wp2_with (first | ((with_reducible refine gate_dst (N := 40) rfl ?_); go_must (refine Kd.R_lit (Kd.int .i64) _ 2 ?hg (N := 40) ?hd (xs := ([a1, a2] : List Int)) (inner := [.int .i64 a1, .int .i64 a2]) (ok := fun k_ => wr.heap.size ≤ k_) (okp := fun _ => False) ?hr ?hp (fun _ hk => hk.elim) (Nat.le_refl _) (Below.refl _ _) (Nat.le_refl _) (by simp) ?_; (case hd => rfl); (case hg => rfl); (case hr => first | (go_simp; done) | (go_simp; rfl)); (case hp => exact (Reps.one (show Kd.M (Kd.int .i64) _ _ _ a1 [.int .i64 a1] from rfl) (Reps.one (show Kd.M (Kd.int .i64) _ _ _ a2 [.int .i64 a2] from rfl) (Reps.none _ _)))); intro v40 w2 ho hbl hg_ hnew_; clear hg_ hnew_; obtain ⟨A40, c40, e40_⟩ := Kd.R_slice ho; subst e40_; replace HB := as_ (below_then HB.out (Nat.le_trans BW.out HWR.out) hbl); replace HK := as_ (Kept.below HK.out hbl); have HQ := as_ ho; have HS := as_ hbl.size; have LT := as_ (Kd.N_lt HO_0.out); replace HO_0 := as_ (Kd.N_below HO_0.out hbl); clear ho hbl)) | ((with_reducible refine gate_builtin (b := .append) (xs := #[.tmp 37, .tmp 41]) rfl ?_); at_builtin; go_must (refine Kd.N_append (Kd.slice 2 (Kd.int .i64)) (w0 := w0) base rfl (.tmp 37) (.tmp 41) 22 23 (.slice none 0 0) 24 rfl Try.underlying22 info23 rfl (by decide) (by omega) (.slice A0 l0.length c0) l0 ([a1, a2] : List Int) [.slice A40 ([a1, a2] : List Int).length c40] ok (fun k_ => wr.heap.size ≤ k_) rfl rfl ?aP ?aK ?aF ?aO ?aB ?aS ?aL ?_; (case aP => exact Kd.FK_slice_mk (Kd.R_reads' HQ.out).2.1 (Kd.R_F HQ.out)); (case aK => exact (fun k_ hk => ⟨FR.out k_ (Nat.le_trans HWR.out hk), fun e_ => by have := LT.out k_ e_.symm; omega⟩)); (case aF => exact (fun k_ hk => FR.out k_ (Nat.le_trans HK.out.1 hk))); (case aO => exact HO_0.out); (case aB => exact HB.out); (case aS => exact Nat.le_trans BW.out HK.out.1); (case aL => have := LM.out; omega); intro v1 w10 ho hb hg hat; have n0_ := as_ hb; have n1_ := as_ ho; have n4_ := as_ hat; have n5_ := as_ HK.out.1; have n3_ := as_ (Kept.of_grown (S := (fun k_ => some k_ = (Value.slice A0 l0.length c0).ownBlock)) hg HK.out (fun k_ e_ => .inl e_.symm)); clear HB HO_0 HK ho hb hg hat; have HB := n0_; have HO_0 := n1_; have HK := n3_; have HT := n4_; have HZ := n5_; clear n0_ n1_ n3_ n4_ n5_)))
        go_ret2
        exact ⟨_, rfl, HO_0.out, HB.out, HK.out, HT.out.imp id (fun ⟨b_, h1_, h2_⟩ => ⟨b_, h1_, Nat.le_trans HZ.out h2_⟩)⟩
      rw [if_pos c4] at H
      have c4b0 := decide_eq_true c4
      clear c4
      obtain ⟨c5b0, H⟩ := ite_d H
      obtain ⟨c6, H⟩ := ite_s H
      have c6b0 : decide (0 < ((rd_L1 l0 x8_1).length : Int)) = true := decide_eq_true c6
      have c6b1 : decide (0 < (rd_L1 l0 x8_1).length) = true := decide_eq_true (by omega)
      clear c6
      by_cases c7 : (rd (rd_L1 l0 x8_1) 0) = a1
      rotate_left
      · rw [if_neg c7] at H
        have c7b0 := beq_eq_false_iff_ne.mpr c7
        have c7b1 := bne_iff_ne.mpr c7
        have H' := as_ H
        clear H
        have p117 : 0 ≤ (x8_1 : Int) := od_
        have q117 : x8_1 < (l0.length : Int) := od_
        obtain ⟨ad117, A117_0, c117_0, e117, hx117_0, hl117_0, hi117_0⟩ := at_L1 (Kd.N_reads' HO_0.out).2.2 x8_1 p117 q117
        cases e117
        obtain ⟨ce117, hce117, hMe117, hcc117⟩ := Kd.N_get HO_0.out [] x8_1 p117 (by first | exact q117 | exact od_ | (have e_ := (Kd.N_reads' HO_0.out).1; omega))
        obtain ⟨ua117_0, uc117_0, rfl, ul117_0, ge117_0⟩ := Kd.FK_slice_open hMe117
        have hv117_0 := hcc117 0 _ rfl
        rw [Nat.add_zero, show ((Kd.slice 2 (Kd.int .i64))).sz = 1 from rfl, Nat.mul_one] at hv117_0
        replace hv117_0 := Option.some.inj (hv117_0.symm.trans hx117_0)
        injection hv117_0 with hva_ hvn_ hvc_
        rw [hva_] at ge117_0
        rw [hvc_] at ul117_0
        have HL117_0 := as_ (show Kd.V (Kd.int .i64) 2 _ w.heap.size _ _ (rd_L1 l0 x8_1) from Kd.V_mk ul117_0 ge117_0)
        clear hva_ hvn_ hvc_ ge117_0 ul117_0
        clear hcc117 hce117
        have HR117_0 := as_ hi117_0
        have HC117_0 := as_ hl117_0
        clear hi117_0 hl117_0
        replace p117 := eq_true p117
        replace q117 := eq_true q117
        have p118 : 0 ≤ (0 : Int) := (by omega)
        have q118 : 0 < ((rd_L1 l0 x8_1).length : Int) := od_
        obtain ⟨ad118, e118, hx118_0⟩ := Kd.at_int (by repeat (first | (with_reducible exact HR117_0.out) | (with_reducible refine Kd.C_alloc ?_ _) | (with_reducible refine Kd.C_drewN ?_ _) | (with_reducible refine Kd.C_drew ?_) | exact HR117_0.out)) 0 p118 q118
        cases e118
        have qi118 : (0 < (rd_L1 l0 x8_1).length) = True := eq_true (by omega)
        (try rw [show ((0 : Int)).toNat = 0 from rfl] at hx118_0)
        (try rw [Addr.add_zero'] at hx118_0)
        replace p118 := eq_true p118
        replace q118 := eq_true q118
        go_wp2
        go_roundg k1
        case measure => have := HK1.out; omega
        case rel => exact ⟨(wrap64 (x8_1 + 1)), rf_, H', om_ HK1, HO_0, HK, HB⟩
      rw [if_pos c7] at H
      have c7b0 := beq_iff_eq.mpr c7
      have c7b1 := bne_eq_false_iff_eq.mpr c7
      clear c7
      obtain ⟨c8, H⟩ := ite_s H
      have c8b0 := decide_eq_true c8
      have c8b1 : decide (1 < (rd_L1 l0 x8_1).length) = true := decide_eq_true (by omega)
      clear c8
      by_cases c9 : (rd (rd_L1 l0 x8_1) 1) = a2
      · rw [if_pos c9] at H
        have c9b0 := beq_iff_eq.mpr c9
        have c9b1 := bne_eq_false_iff_eq.mpr c9
        clear c9
        simp only [Option.some.injEq, Prod.mk.injEq] at H
        obtain ⟨rfl, rfl⟩ := H
        have p117 : 0 ≤ (x8_1 : Int) := od_
        have q117 : x8_1 < (l0.length : Int) := od_
        obtain ⟨ad117, A117_0, c117_0, e117, hx117_0, hl117_0, hi117_0⟩ := at_L1 (Kd.N_reads' HO_0.out).2.2 x8_1 p117 q117
        cases e117
        obtain ⟨ce117, hce117, hMe117, hcc117⟩ := Kd.N_get HO_0.out [] x8_1 p117 (by first | exact q117 | exact od_ | (have e_ := (Kd.N_reads' HO_0.out).1; omega))
        obtain ⟨ua117_0, uc117_0, rfl, ul117_0, ge117_0⟩ := Kd.FK_slice_open hMe117
        have hv117_0 := hcc117 0 _ rfl
        rw [Nat.add_zero, show ((Kd.slice 2 (Kd.int .i64))).sz = 1 from rfl, Nat.mul_one] at hv117_0
        replace hv117_0 := Option.some.inj (hv117_0.symm.trans hx117_0)
        injection hv117_0 with hva_ hvn_ hvc_
        rw [hva_] at ge117_0
        rw [hvc_] at ul117_0
        have HL117_0 := as_ (show Kd.V (Kd.int .i64) 2 _ w.heap.size _ _ (rd_L1 l0 x8_1) from Kd.V_mk ul117_0 ge117_0)
        clear hva_ hvn_ hvc_ ge117_0 ul117_0
        clear hcc117 hce117
        have HR117_0 := as_ hi117_0
        have HC117_0 := as_ hl117_0
        clear hi117_0 hl117_0
        replace p117 := eq_true p117
        replace q117 := eq_true q117
        have p118 : 0 ≤ (0 : Int) := (by omega)
        have q118 : 0 < ((rd_L1 l0 x8_1).length : Int) := od_
        obtain ⟨ad118, e118, hx118_0⟩ := Kd.at_int (by repeat (first | (with_reducible exact HR117_0.out) | (with_reducible refine Kd.C_alloc ?_ _) | (with_reducible refine Kd.C_drewN ?_ _) | (with_reducible refine Kd.C_drew ?_) | exact HR117_0.out)) 0 p118 q118
        cases e118
        have qi118 : (0 < (rd_L1 l0 x8_1).length) = True := eq_true (by omega)
        (try rw [show ((0 : Int)).toNat = 0 from rfl] at hx118_0)
        (try rw [Addr.add_zero'] at hx118_0)
        replace p118 := eq_true p118
        replace q118 := eq_true q118
        have p119 : 0 ≤ (x8_1 : Int) := od_
        have q119 : x8_1 < (l0.length : Int) := od_
        obtain ⟨ad119, A119_0, c119_0, e119, hx119_0, hl119_0, hi119_0⟩ := at_L1 (Kd.N_reads' HO_0.out).2.2 x8_1 p119 q119
        obtain rfl : ad117 = ad119 := (by injection e119)
        obtain ⟨ce119, hce119, hMe119, hcc119⟩ := Kd.N_get HO_0.out [] x8_1 p119 (by first | exact q119 | exact od_ | (have e_ := (Kd.N_reads' HO_0.out).1; omega))
        obtain ⟨ua119_0, uc119_0, rfl, ul119_0, ge119_0⟩ := Kd.FK_slice_open hMe119
        have hv119_0 := hcc119 0 _ rfl
        rw [Nat.add_zero, show ((Kd.slice 2 (Kd.int .i64))).sz = 1 from rfl, Nat.mul_one] at hv119_0
        replace hv119_0 := Option.some.inj (hv119_0.symm.trans hx119_0)
        injection hv119_0 with hva_ hvn_ hvc_
        rw [hva_] at ge119_0
        rw [hvc_] at ul119_0
        have HL119_0 := as_ (show Kd.V (Kd.int .i64) 2 _ w.heap.size _ _ (rd_L1 l0 x8_1) from Kd.V_mk ul119_0 ge119_0)
        clear hva_ hvn_ hvc_ ge119_0 ul119_0
        clear hcc119 hce119
        have HR119_0 := as_ hi119_0
        have HC119_0 := as_ hl119_0
        clear hi119_0 hl119_0
        replace p119 := eq_true p119
        replace q119 := eq_true q119
        have ea_ := Option.some.inj (hx117_0.symm.trans hx119_0)
        injection ea_ with ea_ en_ ec_
        subst ea_
        subst ec_
        clear en_
        have p120 : 0 ≤ (1 : Int) := (by omega)
        have q120 : 1 < ((rd_L1 l0 x8_1).length : Int) := od_
        obtain ⟨ad120, e120, hx120_0⟩ := Kd.at_int (by repeat (first | (with_reducible exact HR119_0.out) | (with_reducible refine Kd.C_alloc ?_ _) | (with_reducible refine Kd.C_drewN ?_ _) | (with_reducible refine Kd.C_drew ?_) | exact HR119_0.out)) 1 p120 q120
        cases e120
        (try simp only [show (1 : Int).toNat = 1 from rfl, Nat.reduceMul, Nat.reduceEqDiff, Go.Addr.add, ↓reduceIte] at hx120_0)
        have qi120 : (1 < (rd_L1 l0 x8_1).length) = True := eq_true (by omega)
        (try rw [show ((1 : Int)).toNat = 1 from rfl] at hx120_0)
        replace p120 := eq_true p120
        replace q120 := eq_true q120
        go_wp2
        go_ret2
        exact ⟨_, re_, HO_0.out, HB.out, HK.out, .inl rfl⟩
      rw [if_neg c9] at H
      have c9b0 := beq_eq_false_iff_ne.mpr c9
      have c9b1 := bne_iff_ne.mpr c9
      have H' := as_ H
      clear H
      have p117 : 0 ≤ (x8_1 : Int) := od_
      have q117 : x8_1 < (l0.length : Int) := od_
      obtain ⟨ad117, A117_0, c117_0, e117, hx117_0, hl117_0, hi117_0⟩ := at_L1 (Kd.N_reads' HO_0.out).2.2 x8_1 p117 q117
      cases e117
      obtain ⟨ce117, hce117, hMe117, hcc117⟩ := Kd.N_get HO_0.out [] x8_1 p117 (by first | exact q117 | exact od_ | (have e_ := (Kd.N_reads' HO_0.out).1; omega))
      obtain ⟨ua117_0, uc117_0, rfl, ul117_0, ge117_0⟩ := Kd.FK_slice_open hMe117
      have hv117_0 := hcc117 0 _ rfl
      rw [Nat.add_zero, show ((Kd.slice 2 (Kd.int .i64))).sz = 1 from rfl, Nat.mul_one] at hv117_0
      replace hv117_0 := Option.some.inj (hv117_0.symm.trans hx117_0)
      injection hv117_0 with hva_ hvn_ hvc_
      rw [hva_] at ge117_0
      rw [hvc_] at ul117_0
      have HL117_0 := as_ (show Kd.V (Kd.int .i64) 2 _ w.heap.size _ _ (rd_L1 l0 x8_1) from Kd.V_mk ul117_0 ge117_0)
      clear hva_ hvn_ hvc_ ge117_0 ul117_0
      clear hcc117 hce117
      have HR117_0 := as_ hi117_0
      have HC117_0 := as_ hl117_0
      clear hi117_0 hl117_0
      replace p117 := eq_true p117
      replace q117 := eq_true q117
      have p118 : 0 ≤ (0 : Int) := (by omega)
      have q118 : 0 < ((rd_L1 l0 x8_1).length : Int) := od_
      obtain ⟨ad118, e118, hx118_0⟩ := Kd.at_int (by repeat (first | (with_reducible exact HR117_0.out) | (with_reducible refine Kd.C_alloc ?_ _) | (with_reducible refine Kd.C_drewN ?_ _) | (with_reducible refine Kd.C_drew ?_) | exact HR117_0.out)) 0 p118 q118
      cases e118
      have qi118 : (0 < (rd_L1 l0 x8_1).length) = True := eq_true (by omega)
      (try rw [show ((0 : Int)).toNat = 0 from rfl] at hx118_0)
      (try rw [Addr.add_zero'] at hx118_0)
      replace p118 := eq_true p118
      replace q118 := eq_true q118
      have p119 : 0 ≤ (x8_1 : Int) := od_
      have q119 : x8_1 < (l0.length : Int) := od_
      obtain ⟨ad119, A119_0, c119_0, e119, hx119_0, hl119_0, hi119_0⟩ := at_L1 (Kd.N_reads' HO_0.out).2.2 x8_1 p119 q119
      obtain rfl : ad117 = ad119 := (by injection e119)
      obtain ⟨ce119, hce119, hMe119, hcc119⟩ := Kd.N_get HO_0.out [] x8_1 p119 (by first | exact q119 | exact od_ | (have e_ := (Kd.N_reads' HO_0.out).1; omega))
      obtain ⟨ua119_0, uc119_0, rfl, ul119_0, ge119_0⟩ := Kd.FK_slice_open hMe119
      have hv119_0 := hcc119 0 _ rfl
      rw [Nat.add_zero, show ((Kd.slice 2 (Kd.int .i64))).sz = 1 from rfl, Nat.mul_one] at hv119_0
      replace hv119_0 := Option.some.inj (hv119_0.symm.trans hx119_0)
      injection hv119_0 with hva_ hvn_ hvc_
      rw [hva_] at ge119_0
      rw [hvc_] at ul119_0
      have HL119_0 := as_ (show Kd.V (Kd.int .i64) 2 _ w.heap.size _ _ (rd_L1 l0 x8_1) from Kd.V_mk ul119_0 ge119_0)
      clear hva_ hvn_ hvc_ ge119_0 ul119_0
      clear hcc119 hce119
      have HR119_0 := as_ hi119_0
      have HC119_0 := as_ hl119_0
      clear hi119_0 hl119_0
      replace p119 := eq_true p119
      replace q119 := eq_true q119
      have ea_ := Option.some.inj (hx117_0.symm.trans hx119_0)
      injection ea_ with ea_ en_ ec_
      subst ea_
      subst ec_
      clear en_
      have p120 : 0 ≤ (1 : Int) := (by omega)
      have q120 : 1 < ((rd_L1 l0 x8_1).length : Int) := od_
      obtain ⟨ad120, e120, hx120_0⟩ := Kd.at_int (by repeat (first | (with_reducible exact HR119_0.out) | (with_reducible refine Kd.C_alloc ?_ _) | (with_reducible refine Kd.C_drewN ?_ _) | (with_reducible refine Kd.C_drew ?_) | exact HR119_0.out)) 1 p120 q120
      cases e120
      (try simp only [show (1 : Int).toNat = 1 from rfl, Nat.reduceMul, Nat.reduceEqDiff, Go.Addr.add, ↓reduceIte] at hx120_0)
      have qi120 : (1 < (rd_L1 l0 x8_1).length) = True := eq_true (by omega)
      (try rw [show ((1 : Int)).toNat = 1 from rfl] at hx120_0)
      replace p120 := eq_true p120
      replace q120 := eq_true q120
      go_wp2
      go_roundg k1
      case measure => have := HK1.out; omega
      case rel => exact ⟨(wrap64 (x8_1 + 1)), rf_, H', om_ HK1, HO_0, HK, HB⟩
mutual
def spec_l06Pairs.l0 : Nat → Int → List (List Int) → Int → Int → List (List Int) → List Int → Int → List (List Int) → List Int → Option ((List (List Int)) × Bool)
  | 0, _, _, _, _, _, _, _, _, _ => none
  | k + 1, x2, x8, x9, x125000, x125001, x125002, x126000, x126001, x126002 => if x9 < (x8.length : Int) then (spec_l06Pairs.l1 k x2 x8 x9 0 (x8.length : Int) x125000 x125001 x125002 x126000 x126001 x126002) else (some (x8, true))
def spec_l06Pairs.l1 : Nat → Int → List (List Int) → Int → Int → Int → Int → List (List Int) → List Int → Int → List (List Int) → List Int → Option ((List (List Int)) × Bool)
  | 0, _, _, _, _, _, _, _, _, _, _, _ => none
  | k + 1, x2, x8, x9, x10, x11, x125000, x125001, x125002, x126000, x126001, x126002 => if x10 < x11 then (if 0 ≤ x9 then (if x9 < (x8.length : Int) then (if 0 ≤ x10 then (if x10 < (x8.length : Int) then (if 0 < ((rd_L1 x8 x9).length : Int) then (if 0 ≤ (rd (rd_L1 x8 x9) 0) then (if (rd (rd_L1 x8 x9) 0) < (x125001.length : Int) then (if 0 < ((rd_L1 x8 x10).length : Int) then (if 0 ≤ (rd (rd_L1 x8 x10) 0) then (if (rd (rd_L1 x8 x10) 0) < ((rd_L1 x125001 (rd (rd_L1 x8 x9) 0)).length : Int) then (if 1 < ((rd_L1 x8 x9).length : Int) then (if 0 ≤ (rd (rd_L1 x8 x9) 1) then (if (rd (rd_L1 x8 x9) 1) < (x126001.length : Int) then (if 1 < ((rd_L1 x8 x10).length : Int) then (if 0 ≤ (rd (rd_L1 x8 x10) 1) then (if (rd (rd_L1 x8 x10) 1) < ((rd_L1 x126001 (rd (rd_L1 x8 x9) 1)).length : Int) then ((spec_l06Number.put k x8 (rd (rd_L1 x125001 (rd (rd_L1 x8 x9) 0)) (rd (rd_L1 x8 x10) 0)) (rd (rd_L1 x126001 (rd (rd_L1 x8 x9) 1)) (rd (rd_L1 x8 x10) 1))).bind fun bt142 => (if (rd (rd_L1 x8 x10) 0) < (x125001.length : Int) then (if (rd (rd_L1 x8 x9) 0) < ((rd_L1 x125001 (rd (rd_L1 x8 x10) 0)).length : Int) then (if (rd (rd_L1 x8 x10) 1) < (x126001.length : Int) then (if (rd (rd_L1 x8 x9) 1) < ((rd_L1 x126001 (rd (rd_L1 x8 x10) 1)).length : Int) then ((spec_l06Number.put k bt142.2 (rd (rd_L1 x125001 (rd (rd_L1 x8 x10) 0)) (rd (rd_L1 x8 x9) 0)) (rd (rd_L1 x126001 (rd (rd_L1 x8 x10) 1)) (rd (rd_L1 x8 x9) 1))).bind fun bt154 => (if (bt154.2.length : Int) > x2 then (some (([] : List (List Int)), false)) else (spec_l06Pairs.l1 k x2 bt154.2 x9 (wrap64 (x10 + 1)) x11 x125000 x125001 x125002 x126000 x126001 x126002))) else (none)) else (none)) else (none)) else (none))) else (none)) else (none)) else (none)) else (none)) else (none)) else (none)) else (none)) else (none)) else (none)) else (none)) else (none)) else (none)) else (none)) else (none)) else (none)) else (none)) else (spec_l06Pairs.l0 k x2 x8 (wrap64 (x9 + 1)) x125000 x125001 x125002 x126000 x126001 x126002)
end
def spec_l06Pairs.f (k : Nat) (a0_0 : Int) (l0_1 : List (List Int)) (l0_2 : List Int) (a1_0 : Int) (l1_1 : List (List Int)) (l1_2 : List Int) (a2 : Int) : Option ((List (List Int)) × Bool) := spec_l06Pairs.l0 k a2 (([(([a0_0, a1_0] : List Int))] : List (List Int))) 0 a0_0 l0_1 l0_2 a1_0 l1_1 l1_2
def spec_l06Pairs.T8 : Bool × List (List Nat × List Nat) := (true, [([], []), ([], []), ([0, 1], [0, 1]), ([2], [2]), ([], []), ([], []), ([4, 5], [4, 5]), ([6], [6]), ([3, 0, 1, 2, 3], [3]), ([7, 8, 0, 1, 2, 3, 4, 5, 6, 7, 8], [7])])
def spec_l06Pairs.B8 : List Nat := [0, 0, 3, 7, 0, 0, 48, 112, 15, 511]
theorem spec_l06Pairs.tab8 : rtab .any (opsOf Try.f17 8) = spec_l06Pairs.T8 := by kernel_rfl
theorem spec_l06Pairs.bits8 : waitsOk spec_l06Pairs.T8.2 spec_l06Pairs.B8 = true := by kernel_rfl
def spec_l06Pairs.T9 : Bool × List (List Nat × List Nat) := (true, [([], []), ([], []), ([1], [1]), ([], []), ([3], [3]), ([4], [4]), ([2, 5], [2, 5]), ([6], [6]), ([], []), ([8], [8]), ([9], [9]), ([7, 10], [7, 10]), ([11], [11]), ([], []), ([13], [13]), ([], []), ([15], [15]), ([16], [16]), ([14, 17], [14, 17]), ([18], [18]), ([], []), ([20], [20]), ([21], [21]), ([19, 22], [19, 22]), ([23], [23]), ([0, 12, 24], [0, 12, 24]), ([25], [25]), ([26], [26]), ([26], [26]), ([28, 25, 0, 1, 2, 3, 4, 5, 6, 7, 8, 9, 10, 11, 12, 13, 14, 15, 16, 17, 18, 19, 20, 21, 22, 23, 24, 25, 26, 27, 28], [0, 28])])
def spec_l06Pairs.B9 : List Nat := [0, 0, 2, 0, 8, 24, 62, 126, 0, 256, 768, 2046, 4094, 0, 8192, 0, 32768, 98304, 253952, 516096, 0, 1048576, 3145728, 8380416, 16769024, 33554431, 67108863, 134217727, 134217727, 536870911]
theorem spec_l06Pairs.tab9 : rtab .any (opsOf Try.f17 9) = spec_l06Pairs.T9 := by kernel_rfl
theorem spec_l06Pairs.bits9 : waitsOk spec_l06Pairs.T9.2 spec_l06Pairs.B9 = true := by kernel_rfl
def spec_l06Pairs.T10 : Bool × List (List Nat × List Nat) := (true, [([], []), ([], []), ([1], [1]), ([], []), ([3], [3]), ([4], [4]), ([2, 5], [2, 5]), ([6], [6]), ([], []), ([8], [8]), ([9], [9]), ([7, 10], [7, 10]), ([11], [11]), ([], []), ([13], [13]), ([], []), ([15], [15]), ([16], [16]), ([14, 17], [14, 17]), ([18], [18]), ([], []), ([20], [20]), ([21], [21]), ([19, 22], [19, 22]), ([23], [23]), ([0, 12, 24], [0, 12, 24]), ([25], [25]), ([26], [26]), ([26], [26]), ([28, 25, 0, 1, 2, 3, 4, 5, 6, 7, 8, 9, 10, 11, 12, 13, 14, 15, 16, 17, 18, 19, 20, 21, 22, 23, 24, 25, 26, 27, 28], [0, 28])])
def spec_l06Pairs.B10 : List Nat := [0, 0, 2, 0, 8, 24, 62, 126, 0, 256, 768, 2046, 4094, 0, 8192, 0, 32768, 98304, 253952, 516096, 0, 1048576, 3145728, 8380416, 16769024, 33554431, 67108863, 134217727, 134217727, 536870911]
theorem spec_l06Pairs.tab10 : rtab .any (opsOf Try.f17 10) = spec_l06Pairs.T10 := by kernel_rfl
theorem spec_l06Pairs.bits10 : waitsOk spec_l06Pairs.T10.2 spec_l06Pairs.B10 = true := by kernel_rfl
set_option maxHeartbeats 8000000 in
set_option maxRecDepth 100000 in
theorem spec_l06Pairs.calls (k : Nat) (a0_0 : Int) (A0_1 : Option Addr) (c0_1 : Nat) (l0_1 : List (List Int)) (A0_2 : Option Addr) (c0_2 : Nat) (l0_2 : List Int) (a1_0 : Int) (A1_1 : Option Addr) (c1_1 : Nat) (l1_1 : List (List Int)) (A1_2 : Option Addr) (c1_2 : Nat) (l1_2 : List Int) (a2 : Int) (r1 : List (List Int)) (r2 : Bool) (w : World) (hr0_1 : Kd.C (Kd.slice 2 (Kd.int .i64)) w A0_1 l0_1.length l0_1) (hc0_1 : l0_1.length ≤ c0_1) (hr0_2 : Kd.C (Kd.int .i64) w A0_2 l0_2.length l0_2) (hc0_2 : l0_2.length ≤ c0_2) (hr1_1 : Kd.C (Kd.slice 2 (Kd.int .i64)) w A1_1 l1_1.length l1_1) (hc1_1 : l1_1.length ≤ c1_1) (hr1_2 : Kd.C (Kd.int .i64) w A1_2 l1_2.length l1_2) (hc1_2 : l1_2.length ≤ c1_2) (h : spec_l06Pairs.f k a0_0 l0_1 l0_2 a1_0 l1_1 l1_2 a2 = some (r1, r2)) :
    Calls Try.prog 17 #[.agg #[.int .i64 a0_0, .slice A0_1 l0_1.length c0_1, .slice A0_2 l0_2.length c0_2], .agg #[.int .i64 a1_0, .slice A1_1 l1_1.length c1_1, .slice A1_2 l1_2.length c1_2], .int .i64 a2] w fun e w' => ∃ v0_ : Value, e = .returned (.tuple #[v0_, .bool r2]) ∧ Kd.V (Kd.slice 2 (Kd.int .i64)) 23 w' w.heap.size (fun k_ => (w.heap.size ≤ k_)) v0_ r1 ∧ Below w.heap.size w w' := by
  have hu29 := Try.underlying29
  have HR0_1 := as_ hr0_1
  have HC0_1 := as_ hc0_1
  clear hr0_1 hc0_1
  have HR0_2 := as_ hr0_2
  have HC0_2 := as_ hc0_2
  clear hr0_2 hc0_2
  have HR1_1 := as_ hr1_1
  have HC1_1 := as_ hc1_1
  clear hr1_1 hc1_1
  have HR1_2 := as_ hr1_2
  have HC1_2 := as_ hc1_2
  clear hr1_2 hc1_2
  have HB := as_ (Below.refl w.heap.size w)
  have H : (spec_l06Pairs.l0 k a2 (([(([a0_0, a1_0] : List Int))] : List (List Int))) 0 a0_0 l0_1 l0_2 a1_0 l1_1 l1_2) = some (r1, r2) := h
  clear h
  obtain ⟨y126, hy126⟩ := ex_ (([a0_0, a1_0] : List Int) : List Int)
  replace H : (spec_l06Pairs.l0 k a2 (([y126] : List (List Int))) 0 a0_0 l0_1 l0_2 a1_0 l1_1 l1_2) = some (r1, r2) := yr_ hy126 H
  have Ny126 := as_ hy126
  clear hy126
  obtain ⟨y129, hy129⟩ := ex_ (([y126] : List (List Int)) : List (List Int))
  replace H : (spec_l06Pairs.l0 k a2 y129 0 a0_0 l0_1 l0_2 a1_0 l1_1 l1_2) = some (r1, r2) := yr_ hy129 H
  have Ny129 := as_ hy129
  clear hy129
  have H' := as_ H
  clear H
  go_enter Try.func17, Try.ntmps17
  go_wp2_with (first | ((with_reducible refine gate_dst (N := 3) rfl ?_); refine bx_ 3 #[.int .i64 a0_0, .slice A0_1 l0_1.length c0_1, .slice A0_2 l0_2.length c0_2] 29 ?_; intro gb124 hg w4 hbox hb; have BK124 := as_ (hbox); have GW124 := gz_ hg (b_ HB); have GE124 := GW124; replace HB := as_ (below_step (b_ HB) hb); clear hb hbox hg) | ((with_reducible refine gate_dst (N := 4) rfl ?_); refine bx_ 4 #[.int .i64 a1_0, .slice A1_1 l1_1.length c1_1, .slice A1_2 l1_2.length c1_2] 29 ?_; intro gb125 hg w5 hbox hb; have BK125 := as_ (hbox); have GW125 := gz_ hg (b1_ HB GE124); have GE125 := GW125; replace HB := as_ (below_step (b1_ HB GE124) hb); have NB124_125 := nl_ hg (bk_ BK124); have NB125_124 := ng_ hg (bk_ BK124); replace BK124 := kb_ BK124 hb; clear hb hbox hg; have hnb6 := NB124_125.out; have hnc6 := NB125_124.out; obtain ⟨hcz7_0, hfz7_0, hcz7_1, hfz7_1, hcz7_2, hfz7_2⟩ := tc3_ BK124; obtain ⟨hcz8_0, hfz8_0, hcz8_1, hfz8_1, hcz8_2, hfz8_2⟩ := tc3_ BK125) | ((with_reducible refine gate_dst (N := 18) rfl ?_); refine Kd.R_lit (Kd.int .i64) _ 2 ?hg (N := 18) ?hd (xs := ([a0_0, a1_0] : List Int)) (inner := [.int .i64 a0_0, .int .i64 a1_0]) (ok := fun _ => True) (okp := fun _ => True) ?hr ?hp (fun _ hk => hk) trivial (Below.refl _ _) (Nat.le_refl _) (by simp) ?_; (case hd => rfl); (case hg => rfl); (case hr => first | (go_simp; done) | (go_simp; rfl)); (case hp => exact (Reps.one (show Kd.M (Kd.int .i64) _ _ _ a0_0 [.int .i64 a0_0] from rfl) (Reps.one (show Kd.M (Kd.int .i64) _ _ _ a1_0 [.int .i64 a1_0] from rfl) (Reps.none _ _)))); intro v127 w9 ho10 hb hg_ hnew_; clear hg_ hnew_; (first | rw [← Ny126.out] at ho10 | (simp only [Int.reduceToNat] at ho10; rw [← Ny126.out] at ho10)); have HO128 := as_ (Kd.R_lower (Kd.R_newM (M := fun k_ => (w.heap.size ≤ k_)) ho10 (below_size (b2_ HB GE124 GE125)) (fun k_ h_ => h_)) (below_size (b2_ HB GE124 GE125))); replace BK124 := kb_ BK124 hb; replace BK125 := kb_ BK125 hb; replace HB := as_ (below_step (b2_ HB GE124 GE125) hb); clear hb ho10; obtain ⟨Ao11, co11, eo11⟩ := Kd.R_slice HO128.out; subst eo11) | ((with_reducible refine gate_dst (N := 19) rfl ?_); refine Kd.N_lit (Kd.slice 2 (Kd.int .i64)) _ 23 ?hg (N' := 19) ?hd (xs := ([y126] : List (List Int))) (inner := [.slice Ao11 y126.length co11]) (ok := (fun k_ => (w.heap.size ≤ k_) ∧ k_ ≠ gb124 ∧ k_ ≠ gb125)) (okp := (fun k_ => (w.heap.size ≤ k_) ∧ k_ ≠ gb124 ∧ k_ ≠ gb125)) ?hr ?hp (fun _ hk => hk) ((show ∀ k_, w9.heap.size ≤ k_ → (fun k_ => (w.heap.size ≤ k_) ∧ k_ ≠ gb124 ∧ k_ ≠ gb125) k_ from fun k_ hk => ⟨(Nat.le_trans (below_size (b2_ HB GE124 GE125)) hk), Kd.freshB (g := gb124) (o := .cells #[.int .i64 a0_0, .slice A0_1 l0_1.length c0_1, .slice A0_2 l0_2.length c0_2] 29 (0, 0)) (bk_ BK124) k_ hk, Kd.freshB (g := gb125) (o := .cells #[.int .i64 a1_0, .slice A1_1 l1_1.length c1_1, .slice A1_2 l1_2.length c1_2] 29 (0, 0)) (bk_ BK125) k_ hk⟩) _ (Nat.le_refl _)) (Below.refl _ _) (Nat.le_refl _) (by simp) ?_; (case hd => rfl); (case hg => rfl); (case hr => first | (go_simp; done) | (go_simp; rfl)); (case hp => exact (Reps.one (show Kd.FK (Kd.slice 2 (Kd.int .i64)) _ _ y126 [.slice Ao11 y126.length co11] from (Kd.FK_slice_mk (Kd.R_reads' (Kd.R_mono (ok' := (fun k_ => (w.heap.size ≤ k_) ∧ k_ ≠ gb124 ∧ k_ ≠ gb125)) (Kd.R_types (Kd.R_types (HO128.out) BK124.out (by decide)) BK125.out (by decide)) (fun k_ hk => ⟨hk.1.1.1, ⟨hk.1.2, hk.2⟩⟩))).2.1 (Kd.R_F (Kd.R_mono (ok' := (fun k_ => (w.heap.size ≤ k_) ∧ k_ ≠ gb124 ∧ k_ ≠ gb125)) (Kd.R_types (Kd.R_types (HO128.out) BK124.out (by decide)) BK125.out (by decide)) (fun k_ hk => ⟨hk.1.1.1, ⟨hk.1.2, hk.2⟩⟩))))) (Reps.none _ _))); intro v130 w12 ho13 hb hg_ hnew_; clear hg_ hnew_; (first | rw [← Ny129.out] at ho13 | (simp only [Int.reduceToNat] at ho13; rw [← Ny129.out] at ho13)); have HO131 := as_ (Kd.N_lower ho13 (below_size (b2_ HB GE124 GE125))); replace BK124 := kb_ BK124 hb; replace BK125 := kb_ BK125 hb; replace HB := as_ (below_step (b2_ HB GE124 GE125) hb); clear HO128; clear hb ho13))
  go_loopg [8, 9] k (fun kq v8 v9 w' => ∃ (x8_1 : List (List Int)) (x9_1 : Int), v9 = .int .i64 x9_1 ∧ Aside0 (spec_l06Pairs.l0 kq a2 x8_1 x9_1 a0_0 l0_1 l0_2 a1_0 l1_1 l1_2 = some (r1, r2)) ∧ Aside0 (kq ≤ k) ∧ Aside0 (Kd.N (Kd.slice 2 (Kd.int .i64)) 23 w' w.heap.size (fun k_ => (w.heap.size ≤ k_) ∧ k_ ≠ gb124 ∧ k_ ≠ gb125) v8 x8_1) ∧ Aside0 (w'.heap[gb124]? = some (.cells #[.int .i64 a0_0, (.slice A0_1 l0_1.length c0_1), (.slice A0_2 l0_2.length c0_2)] 29 (0, 0))) ∧ Aside0 (w'.heap[gb125]? = some (.cells #[.int .i64 a1_0, (.slice A1_1 l1_1.length c1_1), (.slice A1_2 l1_2.length c1_2)] 29 (0, 0))) ∧ Aside0 (Below w.heap.size w w'))
  case atStart => exact ⟨(y129), (0), rf_, H', ⟨Nat.le_refl _⟩, ⟨bN_ HO131⟩, ⟨bk_ BK124⟩, ⟨bk_ BK125⟩, ⟨b2_ HB GE124 GE125⟩⟩
  case round =>
    clear H'
    (try clear c1); (try clear p2); (try clear c6); (try clear hcz7_0); (try clear hcz7_1); (try clear hcz7_2); (try clear hcz8_0); (try clear hcz8_1); (try clear hcz8_2); (try clear hfz7_0); (try clear hfz7_1); (try clear hfz7_2); (try clear hfz8_0); (try clear hfz8_1); (try clear hfz8_2)
    obtain ⟨x8_1, x9_1, rfl, HA, HK1, HO_8, BK124, BK125, HB⟩ := hrel
    cases gk with
    | zero => exact absurd HA.out (by simp [spec_l06Pairs.l0])
    | succ k1 =>
      have H := HA.out
      clear HA
      simp only [spec_l06Pairs.l0] at H
      by_cases c14 : x9_1 < (x8_1.length : Int)
      rotate_left
      · rw [if_neg c14] at H
        have c14b0 := decide_eq_false c14
        clear c14
        simp only [Option.some.injEq, Prod.mk.injEq] at H
        obtain ⟨rfl, rfl⟩ := H
        obtain ⟨Ao56, co56, eo56⟩ := Kd.N_slice HO_8.out
        subst eo56
        go_wp2
        go_ret2
        exact ⟨_, re_, Kd.N_V (Kd.N_mono HO_8.out (fun _ hk => hk.1)), b2_ HB GE124 GE125⟩
      rw [if_pos c14] at H
      have c14b0 := decide_eq_true c14
      clear c14
      have H' := as_ H
      clear H
      obtain ⟨Ao15, co15, eo15⟩ := Kd.N_slice HO_8.out
      subst eo15
      go_wp2
      go_loopg [8, 10] k1 (fun kq v8 v10 w' => ∃ (x8_2 : List (List Int)) (x10_2 : Int), v10 = .int .i64 x10_2 ∧ Aside0 (spec_l06Pairs.l1 kq a2 x8_2 x9_1 x10_2 (x8_1.length : Int) a0_0 l0_1 l0_2 a1_0 l1_1 l1_2 = some (r1, r2)) ∧ Aside0 (kq ≤ k1) ∧ Aside0 (Kd.N (Kd.slice 2 (Kd.int .i64)) 23 w' w.heap.size (fun k_ => (w.heap.size ≤ k_) ∧ k_ ≠ gb124 ∧ k_ ≠ gb125) v8 x8_2) ∧ Aside0 (w'.heap[gb124]? = some (.cells #[.int .i64 a0_0, (.slice A0_1 l0_1.length c0_1), (.slice A0_2 l0_2.length c0_2)] 29 (0, 0))) ∧ Aside0 (w'.heap[gb125]? = some (.cells #[.int .i64 a1_0, (.slice A1_1 l1_1.length c1_1), (.slice A1_2 l1_2.length c1_2)] 29 (0, 0))) ∧ Aside0 (Below w.heap.size w w'))
      case atStart => exact ⟨(x8_1), (0), rf_, H', ⟨Nat.le_refl _⟩, ⟨bN_ HO_8⟩, ⟨bk_ BK124⟩, ⟨bk_ BK125⟩, ⟨b2_ HB GE124 GE125⟩⟩
      case round =>
        clear H'
        (try clear c1); (try clear p2); (try clear c6); (try clear c14); (try clear c14b0); (try clear hcz7_0); (try clear hcz7_1); (try clear hcz7_2); (try clear hcz8_0); (try clear hcz8_1); (try clear hcz8_2); (try clear hfz7_0); (try clear hfz7_1); (try clear hfz7_2); (try clear hfz8_0); (try clear hfz8_1); (try clear hfz8_2); (try clear p2)
        obtain ⟨x8_2, x10_2, rfl, HA, HK2, HO_8, BK124, BK125, HB⟩ := hrel
        cases gk with
        | zero => exact absurd HA.out (by simp [spec_l06Pairs.l1])
        | succ k2 =>
          have H := HA.out
          clear HA
          simp only [spec_l06Pairs.l1] at H
          by_cases c16 : x10_2 < (x8_1.length : Int)
          rotate_left
          · rw [if_neg c16] at H
            have c16b0 := decide_eq_false c16
            clear c16
            have H' := as_ H
            clear H
            go_wp2
            go_roundg k2
            case measure => have := HK1.out; have := HK2.out; omega
            case rel => exact ⟨(x8_2), (wrap64 (x9_1 + 1)), rf_, H', ⟨by have := HK1.out; have := HK2.out; omega⟩, ⟨bN_ HO_8⟩, ⟨bk_ BK124⟩, ⟨bk_ BK125⟩, ⟨b2_ HB GE124 GE125⟩⟩
          rw [if_pos c16] at H
          have c16b0 := decide_eq_true c16
          clear c16
          obtain ⟨c17b0, H⟩ := ite_d H
          obtain ⟨c18b0, H⟩ := ite_d H
          obtain ⟨c19b0, H⟩ := ite_d H
          obtain ⟨c20b0, H⟩ := ite_d H
          obtain ⟨c21, H⟩ := ite_s H
          have c21b0 : decide (0 < ((rd_L1 x8_2 x9_1).length : Int)) = true := decide_eq_true c21
          have c21b1 : decide (0 < (rd_L1 x8_2 x9_1).length) = true := decide_eq_true (by omega)
          clear c21
          obtain ⟨c22b0, H⟩ := ite_d H
          obtain ⟨c23b0, H⟩ := ite_d H
          obtain ⟨c24, H⟩ := ite_s H
          have c24b0 : decide (0 < ((rd_L1 x8_2 x10_2).length : Int)) = true := decide_eq_true c24
          have c24b1 : decide (0 < (rd_L1 x8_2 x10_2).length) = true := decide_eq_true (by omega)
          clear c24
          obtain ⟨c25b0, H⟩ := ite_d H
          obtain ⟨c26b0, H⟩ := ite_d H
          obtain ⟨c27, H⟩ := ite_s H
          have c27b0 := decide_eq_true c27
          have c27b1 : decide (1 < (rd_L1 x8_2 x9_1).length) = true := decide_eq_true (by omega)
          clear c27
          obtain ⟨c28b0, H⟩ := ite_d H
          obtain ⟨c29b0, H⟩ := ite_d H
          obtain ⟨c30, H⟩ := ite_s H
          have c30b0 := decide_eq_true c30
          have c30b1 : decide (1 < (rd_L1 x8_2 x10_2).length) = true := decide_eq_true (by omega)
          clear c30
          obtain ⟨c31b0, H⟩ := ite_d H
          obtain ⟨c32b0, H⟩ := ite_d H
          obtain ⟨⟨t142, t143⟩, A33, H⟩ := bo_ H
          dsimp only at H
          obtain ⟨c34b0, H⟩ := ite_d H
          obtain ⟨c35b0, H⟩ := ite_d H
          obtain ⟨c36b0, H⟩ := ite_d H
          obtain ⟨c37b0, H⟩ := ite_d H
          obtain ⟨⟨t154, t155⟩, A38, H⟩ := bo_ H
          dsimp only at H
          have H5 := as_ H
          clear H
          · skip
            try go_wp2
            replace HO_8 := dN_ HO_8; replace BK124 := dk_ BK124; replace BK125 := dk_ BK125; replace HB := db_ HB
            obtain ⟨Ao41, co41, eo41⟩ := Kd.N_slice HO_8.out
            (first | subst eo41 | (injection eo41 with f1_ f2_ f3_; have f4_ := f1_.symm; have f5_ := f3_.symm; clear f1_ f2_ f3_; subst f4_; subst f5_))
            have p132 : 0 ≤ (x9_1 : Int) := od_
            have q132 : x9_1 < (x8_2.length : Int) := od_
            obtain ⟨ad132, A132_0, c132_0, e132, hx132_0, hl132_0, hi132_0⟩ := at_L1 (Kd.N_reads' HO_8.out).2.2 x9_1 p132 q132
            cases e132
            obtain ⟨ce132, hce132, hMe132, hcc132⟩ := Kd.N_get HO_8.out [] x9_1 p132 (by first | exact q132 | exact od_ | (have e_ := (Kd.N_reads' HO_8.out).1; omega))
            obtain ⟨ua132_0, uc132_0, rfl, ul132_0, ge132_0⟩ := Kd.FK_slice_open hMe132
            have hv132_0 := hcc132 0 _ rfl
            rw [Nat.add_zero, show ((Kd.slice 2 (Kd.int .i64))).sz = 1 from rfl, Nat.mul_one] at hv132_0
            replace hv132_0 := Option.some.inj (hv132_0.symm.trans hx132_0)
            injection hv132_0 with hva_ hvn_ hvc_
            rw [hva_] at ge132_0
            rw [hvc_] at ul132_0
            have HL132_0 := as_ (show Kd.V (Kd.int .i64) 2 _ w.heap.size _ _ (rd_L1 x8_2 x9_1) from Kd.V_mk ul132_0 ge132_0)
            clear hva_ hvn_ hvc_ ge132_0 ul132_0
            clear hcc132 hce132
            have HR132_0 := as_ hi132_0
            have HC132_0 := as_ hl132_0
            clear hi132_0 hl132_0
            replace p132 := eq_true p132
            replace q132 := eq_true q132
            have p133 : 0 ≤ (x10_2 : Int) := od_
            have q133 : x10_2 < (x8_2.length : Int) := od_
            obtain ⟨ad133, A133_0, c133_0, e133, hx133_0, hl133_0, hi133_0⟩ := at_L1 (Kd.N_reads' HO_8.out).2.2 x10_2 p133 q133
            obtain rfl : ad132 = ad133 := (by injection e133)
            obtain ⟨ce133, hce133, hMe133, hcc133⟩ := Kd.N_get HO_8.out [] x10_2 p133 (by first | exact q133 | exact od_ | (have e_ := (Kd.N_reads' HO_8.out).1; omega))
            obtain ⟨ua133_0, uc133_0, rfl, ul133_0, ge133_0⟩ := Kd.FK_slice_open hMe133
            have hv133_0 := hcc133 0 _ rfl
            rw [Nat.add_zero, show ((Kd.slice 2 (Kd.int .i64))).sz = 1 from rfl, Nat.mul_one] at hv133_0
            replace hv133_0 := Option.some.inj (hv133_0.symm.trans hx133_0)
            injection hv133_0 with hva_ hvn_ hvc_
            rw [hva_] at ge133_0
            rw [hvc_] at ul133_0
            have HL133_0 := as_ (show Kd.V (Kd.int .i64) 2 _ w.heap.size _ _ (rd_L1 x8_2 x10_2) from Kd.V_mk ul133_0 ge133_0)
            clear hva_ hvn_ hvc_ ge133_0 ul133_0
            clear hcc133 hce133
            have HR133_0 := as_ hi133_0
            have HC133_0 := as_ hl133_0
            clear hi133_0 hl133_0
            replace p133 := eq_true p133
            replace q133 := eq_true q133
            refine start_ (n := 10) (S := fun w' => w'.cell? (ad132.add (x9_1).toNat) = some (.slice A132_0 (rd_L1 x8_2 x9_1).length c132_0) ∧ w'.cell? (ad132.add (x10_2).toNat) = some (.slice A133_0 (rd_L1 x8_2 x10_2).length c133_0)) (ds := []) #[false, false, false, false, false, false, false, false, false, false] (by kernel_rfl) rfl rfl ⟨hx132_0, hx133_0⟩ (fun hHeld => ?_); refine with_tabW spec_l06Pairs.tab8 spec_l06Pairs.bits8 (fun HT_ HW_ => ?_)
            generalize wr.drew = w40 at HO_8 BK124 BK125 HB HL132_0 HL133_0 HR132_0 HR133_0 hx132_0 hx133_0 hHeld ⊢
            refine pu_ 0 33 HT_ ?_
            refine pu_ 1 34 HT_ ?_
            refine pu_ 2 35 HT_ ?_
            refine pu_ 4 37 HT_ ?_
            refine pu_ 5 38 HT_ ?_
            refine pu_ 6 39 HT_ ?_
            refine tk_ 3 36 HT_ HW_ hHeld ?_
            refine pu_ 8 12 HT_ ?_
            refine tk_ 7 40 HT_ HW_ hHeld ?_
            refine pu_ 9 13 HT_ ?_
            refine dn_ HT_ ?_
            try go_wp2
            have n0_ := dN_ HO_8; have n1_ := dV_ HL132_0; have n2_ := dV_ HL133_0; have n3_ := dk_ BK124; have n4_ := dk_ BK125; have n5_ := as_ (Kd.C_drew HR132_0.out); have n6_ := as_ (Kd.C_drew HR133_0.out); have n7_ := db_ HB; clear HO_8 HL132_0; clear HL133_0 BK124; clear BK125 HR132_0; clear HR133_0 HB; have HO_8 := n0_; have HL132_0 := n1_; have HL133_0 := n2_; have BK124 := n3_; have BK125 := n4_
            have HR132_0 := n5_
            have HR133_0 := n6_
            have HB := n7_
            clear n0_ n1_ n2_ n3_ n4_ n5_ n6_ n7_
            have p134 : 0 ≤ (0 : Int) := (by omega)
            have q134 : 0 < ((rd_L1 x8_2 x9_1).length : Int) := od_
            obtain ⟨ad134, e134, hx134_0⟩ := Kd.at_int (by repeat (first | (with_reducible exact HR132_0.out) | (with_reducible refine Kd.C_alloc ?_ _) | (with_reducible refine Kd.C_drewN ?_ _) | (with_reducible refine Kd.C_drew ?_) | exact HR132_0.out)) 0 p134 q134
            cases e134
            have qi134 : (0 < (rd_L1 x8_2 x9_1).length) = True := eq_true (by omega)
            (try rw [show ((0 : Int)).toNat = 0 from rfl] at hx134_0)
            (try rw [Addr.add_zero'] at hx134_0)
            replace p134 := eq_true p134
            replace q134 := eq_true q134
            have p135 : 0 ≤ ((rd (rd_L1 x8_2 x9_1) 0) : Int) := od_
            have q135 : (rd (rd_L1 x8_2 x9_1) 0) < (l0_1.length : Int) := od_
            obtain ⟨ad135, A135_0, c135_0, e135, hx135_0, hl135_0, hi135_0⟩ := at_L1 HR0_1.out (rd (rd_L1 x8_2 x9_1) 0) p135 q135
            have hw135_0 := hx135_0
            cases e135
            try replace hx135_0 := hx_ HB hx135_0
            have HR135_0 := as_ hi135_0
            have HC135_0 := as_ hl135_0
            clear hi135_0 hl135_0
            replace p135 := eq_true p135
            replace q135 := eq_true q135
            have p136 : 0 ≤ (0 : Int) := (by omega)
            have q136 : 0 < ((rd_L1 x8_2 x10_2).length : Int) := od_
            obtain ⟨ad136, e136, hx136_0⟩ := Kd.at_int (by repeat (first | (with_reducible exact HR133_0.out) | (with_reducible refine Kd.C_alloc ?_ _) | (with_reducible refine Kd.C_drewN ?_ _) | (with_reducible refine Kd.C_drew ?_) | exact HR133_0.out)) 0 p136 q136
            cases e136
            have qi136 : (0 < (rd_L1 x8_2 x10_2).length) = True := eq_true (by omega)
            (try rw [show ((0 : Int)).toNat = 0 from rfl] at hx136_0)
            (try rw [Addr.add_zero'] at hx136_0)
            replace p136 := eq_true p136
            replace q136 := eq_true q136
            have p137 : 0 ≤ ((rd (rd_L1 x8_2 x10_2) 0) : Int) := od_
            have q137 : (rd (rd_L1 x8_2 x10_2) 0) < ((rd_L1 l0_1 (rd (rd_L1 x8_2 x9_1) 0)).length : Int) := od_
            obtain ⟨ad137, e137, hx137_0⟩ := Kd.at_int HR135_0.out (rd (rd_L1 x8_2 x10_2) 0) p137 q137
            have hw137_0 := hx137_0
            cases e137
            try replace hx137_0 := hx_ HB hx137_0
            replace p137 := eq_true p137
            replace q137 := eq_true q137
            have p138 : 0 ≤ (1 : Int) := (by omega)
            have q138 : 1 < ((rd_L1 x8_2 x9_1).length : Int) := od_
            obtain ⟨ad138, e138, hx138_0⟩ := Kd.at_int (by repeat (first | (with_reducible exact HR132_0.out) | (with_reducible refine Kd.C_alloc ?_ _) | (with_reducible refine Kd.C_drewN ?_ _) | (with_reducible refine Kd.C_drew ?_) | exact HR132_0.out)) 1 p138 q138
            obtain rfl : ad134 = ad138 := (by injection e138)
            (try simp only [show (1 : Int).toNat = 1 from rfl, Nat.reduceMul, Nat.reduceEqDiff, Go.Addr.add, ↓reduceIte] at hx138_0)
            have qi138 : (1 < (rd_L1 x8_2 x9_1).length) = True := eq_true (by omega)
            (try rw [show ((1 : Int)).toNat = 1 from rfl] at hx138_0)
            replace p138 := eq_true p138
            replace q138 := eq_true q138
            have p139 : 0 ≤ ((rd (rd_L1 x8_2 x9_1) 1) : Int) := od_
            have q139 : (rd (rd_L1 x8_2 x9_1) 1) < (l1_1.length : Int) := od_
            obtain ⟨ad139, A139_0, c139_0, e139, hx139_0, hl139_0, hi139_0⟩ := at_L1 HR1_1.out (rd (rd_L1 x8_2 x9_1) 1) p139 q139
            have hw139_0 := hx139_0
            cases e139
            try replace hx139_0 := hx_ HB hx139_0
            have HR139_0 := as_ hi139_0
            have HC139_0 := as_ hl139_0
            clear hi139_0 hl139_0
            replace p139 := eq_true p139
            replace q139 := eq_true q139
            have p140 : 0 ≤ (1 : Int) := (by omega)
            have q140 : 1 < ((rd_L1 x8_2 x10_2).length : Int) := od_
            obtain ⟨ad140, e140, hx140_0⟩ := Kd.at_int (by repeat (first | (with_reducible exact HR133_0.out) | (with_reducible refine Kd.C_alloc ?_ _) | (with_reducible refine Kd.C_drewN ?_ _) | (with_reducible refine Kd.C_drew ?_) | exact HR133_0.out)) 1 p140 q140
            obtain rfl : ad136 = ad140 := (by injection e140)
            (try simp only [show (1 : Int).toNat = 1 from rfl, Nat.reduceMul, Nat.reduceEqDiff, Go.Addr.add, ↓reduceIte] at hx140_0)
            have qi140 : (1 < (rd_L1 x8_2 x10_2).length) = True := eq_true (by omega)
            (try rw [show ((1 : Int)).toNat = 1 from rfl] at hx140_0)
            replace p140 := eq_true p140
            replace q140 := eq_true q140
            have p141 : 0 ≤ ((rd (rd_L1 x8_2 x10_2) 1) : Int) := od_
            have q141 : (rd (rd_L1 x8_2 x10_2) 1) < ((rd_L1 l1_1 (rd (rd_L1 x8_2 x9_1) 1)).length : Int) := od_
            obtain ⟨ad141, e141, hx141_0⟩ := Kd.at_int HR139_0.out (rd (rd_L1 x8_2 x10_2) 1) p141 q141
            have hw141_0 := hx141_0
            cases e141
            try replace hx141_0 := hx_ HB hx141_0
            replace p141 := eq_true p141
            replace q141 := eq_true q141
            refine start_ (n := 30) (S := fun w' => w'.cell? ⟨gb124, 0, none⟩ = some (.int .i64 a0_0) ∧ w'.cell? ⟨gb124, 1, none⟩ = some (.slice (some ad135) l0_1.length c0_1) ∧ w'.cell? ⟨gb124, 2, none⟩ = some (.slice A0_2 l0_2.length c0_2) ∧ w'.cell? ⟨gb125, 0, none⟩ = some (.int .i64 a1_0) ∧ w'.cell? ⟨gb125, 1, none⟩ = some (.slice (some ad139) l1_1.length c1_1) ∧ w'.cell? ⟨gb125, 2, none⟩ = some (.slice A1_2 l1_2.length c1_2) ∧ w'.cell? ad134 = some (.int .i64 (rd (rd_L1 x8_2 x9_1) 0)) ∧ w'.cell? (ad135.add ((rd (rd_L1 x8_2 x9_1) 0)).toNat) = some (.slice (some ad137) (rd_L1 l0_1 (rd (rd_L1 x8_2 x9_1) 0)).length c135_0) ∧ w'.cell? ad136 = some (.int .i64 (rd (rd_L1 x8_2 x10_2) 0)) ∧ w'.cell? (ad137.add ((rd (rd_L1 x8_2 x10_2) 0)).toNat) = some (.int .i64 (rd (rd_L1 l0_1 (rd (rd_L1 x8_2 x9_1) 0)) (rd (rd_L1 x8_2 x10_2) 0))) ∧ w'.cell? ⟨ad134.block, ad134.off + 1, none⟩ = some (.int .i64 (rd (rd_L1 x8_2 x9_1) 1)) ∧ w'.cell? (ad139.add ((rd (rd_L1 x8_2 x9_1) 1)).toNat) = some (.slice (some ad141) (rd_L1 l1_1 (rd (rd_L1 x8_2 x9_1) 1)).length c139_0) ∧ w'.cell? ⟨ad136.block, ad136.off + 1, none⟩ = some (.int .i64 (rd (rd_L1 x8_2 x10_2) 1)) ∧ w'.cell? (ad141.add ((rd (rd_L1 x8_2 x10_2) 1)).toNat) = some (.int .i64 (rd (rd_L1 l1_1 (rd (rd_L1 x8_2 x9_1) 1)) (rd (rd_L1 x8_2 x10_2) 1)))) (ds := []) #[false, false, false, false, false, false, false, false, false, false, false, false, false, false, false, false, false, false, false, false, false, false, false, false, false, false, false, false, false, false] (by kernel_rfl) rfl rfl ⟨tz_ BK124 0, tz_ BK124 1, tz_ BK124 2, tz_ BK125 0, tz_ BK125 1, tz_ BK125 2, hx134_0, ((HB.out.cell (World.block_lt_of_cell? w _ hw135_0)).trans hw135_0), hx136_0, ((HB.out.cell (World.block_lt_of_cell? w _ hw137_0)).trans hw137_0), hx138_0, ((HB.out.cell (World.block_lt_of_cell? w _ hw139_0)).trans hw139_0), hx140_0, ((HB.out.cell (World.block_lt_of_cell? w _ hw141_0)).trans hw141_0)⟩ (fun hHeld => ?_); refine with_tabW spec_l06Pairs.tab9 spec_l06Pairs.bits9 (fun HT_ HW_ => ?_)
            generalize w40.drew = w42 at HO_8 HL132_0 HL133_0 BK124 BK125 HR132_0 HR133_0 HB HR135_0 HR139_0 hx134_0 hx135_0 hx136_0 hx137_0 hx138_0 hx139_0 hx140_0 hx141_0 hHeld ⊢
            refine pu_ 0 42 HT_ ?_
            refine pu_ 1 43 HT_ ?_
            refine pu_ 3 45 HT_ ?_
            refine pu_ 4 46 HT_ ?_
            refine pu_ 8 50 HT_ ?_
            refine pu_ 9 51 HT_ ?_
            refine pu_ 13 55 HT_ ?_
            refine pu_ 15 57 HT_ ?_
            refine pu_ 16 58 HT_ ?_
            refine pu_ 20 62 HT_ ?_
            refine pu_ 21 63 HT_ ?_
            refine tk_ 2 44 HT_ HW_ hHeld ?_
            refine tk_ 5 47 HT_ HW_ hHeld ?_
            refine pu_ 6 48 HT_ ?_
            refine tk_ 7 49 HT_ HW_ hHeld ?_
            refine tk_ 10 52 HT_ HW_ hHeld ?_
            refine pu_ 11 53 HT_ ?_
            refine tk_ 12 54 HT_ HW_ hHeld ?_
            refine tk_ 14 56 HT_ HW_ hHeld ?_
            refine tk_ 17 59 HT_ HW_ hHeld ?_
            refine pu_ 18 60 HT_ ?_
            refine tk_ 19 61 HT_ HW_ hHeld ?_
            refine tk_ 22 64 HT_ HW_ hHeld ?_
            refine pu_ 23 65 HT_ ?_
            refine tk_ 24 66 HT_ HW_ hHeld ?_
            refine on_ 25 (some 67) HT_ fun K hK => ?_
            refine gR_ Try.func33 #[.slice (some ad132) x8_2.length co41, .int .i64 (rd (rd_L1 l0_1 (rd (rd_L1 x8_2 x9_1) 0)) (rd (rd_L1 x8_2 x10_2) 0)), .int .i64 (rd (rd_L1 l1_1 (rd (rd_L1 x8_2 x9_1) 1)) (rd (rd_L1 x8_2 x10_2) 1))] ?_
            refine (spec_l06Number.put_calls k2 w.heap.size (fun k_ => (w.heap.size ≤ k_) ∧ k_ ≠ gb124 ∧ k_ ≠ gb125) _ _ x8_2 (rd (rd_L1 l0_1 (rd (rd_L1 x8_2 x9_1) 0)) (rd (rd_L1 x8_2 x10_2) 0)) (rd (rd_L1 l1_1 (rd (rd_L1 x8_2 x9_1) 1)) (rd (rd_L1 x8_2 x10_2) 1)) t142 t143 w _ HB.out (below_size HB.out) ?sidef HO_8.out A33.out).mono ?_
            (case sidef => exact fun k_ hk_ => ⟨Nat.le_trans (below_size HB.out) hk_, (fun e_ => by have := blk_lt BK124.out; omega), (fun e_ => by have := blk_lt BK125.out; omega)⟩)
            rintro e w43 ⟨v144, rfl, ho0, hb, hk, hat⟩
            have HS6_ := cell_kept (hHeld.2.2.2.2.2.2.1) hk (fun e_ => (Kd.F_in (Kd.V_F HL132_0.out) rfl (of_eq_true qi134) (by decide)).2 e_)
            have HS8_ := cell_kept (hHeld.2.2.2.2.2.2.2.2.1) hk (fun e_ => (Kd.F_in (Kd.V_F HL133_0.out) rfl (of_eq_true qi136) (by decide)).2 e_)
            have HS10_ := cell_kept (hHeld.2.2.2.2.2.2.2.2.2.2.1) hk (fun e_ => (Kd.F_in (Kd.V_F HL132_0.out) rfl (of_eq_true qi134) (by decide)).2 e_)
            have HS12_ := cell_kept (hHeld.2.2.2.2.2.2.2.2.2.2.2.2.1) hk (fun e_ => (Kd.F_in (Kd.V_F HL133_0.out) rfl (of_eq_true qi136) (by decide)).2 e_)
            refine ⟨_, rfl, ?_⟩
            have n1_ := as_ (Kd.V_mono (ok' := fun k_ => (fun k_ => (w.heap.size ≤ k_) ∧ k_ ≠ gb124 ∧ k_ ≠ gb125) k_ ∧ some k_ ≠ (v144 : Value).ownBlock) (Kd.V_kept (Kd.V_bound HL132_0.out) hk (fun k_ hk_ hs_ => hk_.1.2 hs_)) (fun k_ hk_ => ⟨hk_.1.1, fun e_ => hat.elim (fun h_ => hk_.1.2 (e_.trans h_)) (fun ⟨b_, h1_, h2_⟩ => by rw [h1_] at e_; injection e_ with e_; have := hk_.2; omega)⟩))
            have n2_ := as_ (Kd.V_mono (ok' := fun k_ => (fun k_ => (w.heap.size ≤ k_) ∧ k_ ≠ gb124 ∧ k_ ≠ gb125) k_ ∧ some k_ ≠ (v144 : Value).ownBlock) (Kd.V_kept (Kd.V_bound HL133_0.out) hk (fun k_ hk_ hs_ => hk_.1.2 hs_)) (fun k_ hk_ => ⟨hk_.1.1, fun e_ => hat.elim (fun h_ => hk_.1.2 (e_.trans h_)) (fun ⟨b_, h1_, h2_⟩ => by rw [h1_] at e_; injection e_ with e_; have := hk_.2; omega)⟩))
            have n4_ := as_ (blk_kept BK124.out hk (fun e_ => (HO_8.out.1 _ e_.symm).2.1 rfl))
            have n5_ := as_ (blk_kept BK125.out hk (fun e_ => (HO_8.out.1 _ e_.symm).2.2 rfl))
            have n6_ := as_ (Kd.V_reads' n1_.out).2.2
            have n7_ := as_ (Kd.V_reads' n2_.out).2.2
            have n3_ := as_ ho0
            have n8_ := as_ hb
            have n0_ := as_ (Kd.N_nil (Kd.slice 2 (Kd.int .i64)) 23 w43 w.heap.size (fun _ => True)); clear HO_8 HL132_0 HL133_0 BK124 BK125 HR132_0 HR133_0 HB hk hat ho0 hb; have HO_8 := n0_; have HL132_0 := n1_; have HL133_0 := n2_; have HO145 := n3_; have BK124 := n4_; have BK125 := n5_
            have HR132_0 := n6_
            have HR133_0 := n7_
            have HB := n8_
            clear n0_ n1_ n2_ n3_ n4_ n5_ n6_ n7_ n8_
            refine hK.out _ _ ⟨tz_ BK124 0, tz_ BK124 1, tz_ BK124 2, tz_ BK125 0, tz_ BK125 1, tz_ BK125 2, HS6_, ((HB.out.cell (World.block_lt_of_cell? w _ hw135_0)).trans hw135_0), HS8_, ((HB.out.cell (World.block_lt_of_cell? w _ hw137_0)).trans hw137_0), HS10_, ((HB.out.cell (World.block_lt_of_cell? w _ hw139_0)).trans hw139_0), HS12_, ((HB.out.cell (World.block_lt_of_cell? w _ hw141_0)).trans hw141_0)⟩ (fun hHeld => ?_)
            clear hK K
            refine nm_ 67 ?_
            refine pu_ 26 41 HT_ ?_
            refine pu_ 27 68 HT_ ?_
            refine pu_ 28 69 HT_ ?_
            refine pu_ 29 8 HT_ ?_
            refine dn_ HT_ ?_
            try go_wp2
            have n0_ := dN_ HO_8; have n1_ := dV_ HL132_0; have n2_ := dV_ HL133_0; have n3_ := dN_ HO145; have n4_ := dk_ BK124; have n5_ := dk_ BK125; have n6_ := as_ (Kd.C_drew HR132_0.out); have n7_ := as_ (Kd.C_drew HR133_0.out); have n8_ := db_ HB; clear HO_8 HL132_0; clear HL133_0 HO145; clear BK124 BK125; clear HR132_0 HR133_0; clear HB; have HO_8 := n0_; have HL132_0 := n1_; have HL133_0 := n2_; have HO145 := n3_; have BK124 := n4_; have BK125 := n5_
            have HR132_0 := n6_
            have HR133_0 := n7_
            have HB := n8_
            clear n0_ n1_ n2_ n3_ n4_ n5_ n6_ n7_ n8_
            have p146 : 0 ≤ (0 : Int) := (by omega)
            have q146 : 0 < ((rd_L1 x8_2 x10_2).length : Int) := od_
            obtain ⟨ad146, e146, hx146_0⟩ := Kd.at_int (by repeat (first | (with_reducible exact HR133_0.out) | (with_reducible refine Kd.C_alloc ?_ _) | (with_reducible refine Kd.C_drewN ?_ _) | (with_reducible refine Kd.C_drew ?_) | exact HR133_0.out)) 0 p146 q146
            obtain rfl : ad136 = ad146 := (by injection e146)
            have qi146 : (0 < (rd_L1 x8_2 x10_2).length) = True := eq_true (by omega)
            (try rw [show ((0 : Int)).toNat = 0 from rfl] at hx146_0)
            (try rw [Addr.add_zero'] at hx146_0)
            replace p146 := eq_true p146
            replace q146 := eq_true q146
            have p147 : 0 ≤ ((rd (rd_L1 x8_2 x10_2) 0) : Int) := od_
            have q147 : (rd (rd_L1 x8_2 x10_2) 0) < (l0_1.length : Int) := od_
            obtain ⟨ad147, A147_0, c147_0, e147, hx147_0, hl147_0, hi147_0⟩ := at_L1 HR0_1.out (rd (rd_L1 x8_2 x10_2) 0) p147 q147
            have hw147_0 := hx147_0
            obtain rfl : ad135 = ad147 := (by injection e147)
            try replace hx147_0 := hx_ HB hx147_0
            have HR147_0 := as_ hi147_0
            have HC147_0 := as_ hl147_0
            clear hi147_0 hl147_0
            replace p147 := eq_true p147
            replace q147 := eq_true q147
            have p148 : 0 ≤ (0 : Int) := (by omega)
            have q148 : 0 < ((rd_L1 x8_2 x9_1).length : Int) := od_
            obtain ⟨ad148, e148, hx148_0⟩ := Kd.at_int (by repeat (first | (with_reducible exact HR132_0.out) | (with_reducible refine Kd.C_alloc ?_ _) | (with_reducible refine Kd.C_drewN ?_ _) | (with_reducible refine Kd.C_drew ?_) | exact HR132_0.out)) 0 p148 q148
            obtain rfl : ad134 = ad148 := (by injection e148)
            have qi148 : (0 < (rd_L1 x8_2 x9_1).length) = True := eq_true (by omega)
            (try rw [show ((0 : Int)).toNat = 0 from rfl] at hx148_0)
            (try rw [Addr.add_zero'] at hx148_0)
            replace p148 := eq_true p148
            replace q148 := eq_true q148
            have p149 : 0 ≤ ((rd (rd_L1 x8_2 x9_1) 0) : Int) := od_
            have q149 : (rd (rd_L1 x8_2 x9_1) 0) < ((rd_L1 l0_1 (rd (rd_L1 x8_2 x10_2) 0)).length : Int) := od_
            obtain ⟨ad149, e149, hx149_0⟩ := Kd.at_int HR147_0.out (rd (rd_L1 x8_2 x9_1) 0) p149 q149
            have hw149_0 := hx149_0
            cases e149
            try replace hx149_0 := hx_ HB hx149_0
            replace p149 := eq_true p149
            replace q149 := eq_true q149
            have p150 : 0 ≤ (1 : Int) := (by omega)
            have q150 : 1 < ((rd_L1 x8_2 x10_2).length : Int) := od_
            obtain ⟨ad150, e150, hx150_0⟩ := Kd.at_int (by repeat (first | (with_reducible exact HR133_0.out) | (with_reducible refine Kd.C_alloc ?_ _) | (with_reducible refine Kd.C_drewN ?_ _) | (with_reducible refine Kd.C_drew ?_) | exact HR133_0.out)) 1 p150 q150
            obtain rfl : ad136 = ad150 := (by injection e150)
            (try simp only [show (1 : Int).toNat = 1 from rfl, Nat.reduceMul, Nat.reduceEqDiff, Go.Addr.add, ↓reduceIte] at hx150_0)
            have qi150 : (1 < (rd_L1 x8_2 x10_2).length) = True := eq_true (by omega)
            (try rw [show ((1 : Int)).toNat = 1 from rfl] at hx150_0)
            replace p150 := eq_true p150
            replace q150 := eq_true q150
            have p151 : 0 ≤ ((rd (rd_L1 x8_2 x10_2) 1) : Int) := od_
            have q151 : (rd (rd_L1 x8_2 x10_2) 1) < (l1_1.length : Int) := od_
            obtain ⟨ad151, A151_0, c151_0, e151, hx151_0, hl151_0, hi151_0⟩ := at_L1 HR1_1.out (rd (rd_L1 x8_2 x10_2) 1) p151 q151
            have hw151_0 := hx151_0
            obtain rfl : ad139 = ad151 := (by injection e151)
            try replace hx151_0 := hx_ HB hx151_0
            have HR151_0 := as_ hi151_0
            have HC151_0 := as_ hl151_0
            clear hi151_0 hl151_0
            replace p151 := eq_true p151
            replace q151 := eq_true q151
            have p152 : 0 ≤ (1 : Int) := (by omega)
            have q152 : 1 < ((rd_L1 x8_2 x9_1).length : Int) := od_
            obtain ⟨ad152, e152, hx152_0⟩ := Kd.at_int (by repeat (first | (with_reducible exact HR132_0.out) | (with_reducible refine Kd.C_alloc ?_ _) | (with_reducible refine Kd.C_drewN ?_ _) | (with_reducible refine Kd.C_drew ?_) | exact HR132_0.out)) 1 p152 q152
            obtain rfl : ad134 = ad152 := (by injection e152)
            (try simp only [show (1 : Int).toNat = 1 from rfl, Nat.reduceMul, Nat.reduceEqDiff, Go.Addr.add, ↓reduceIte] at hx152_0)
            have qi152 : (1 < (rd_L1 x8_2 x9_1).length) = True := eq_true (by omega)
            (try rw [show ((1 : Int)).toNat = 1 from rfl] at hx152_0)
            replace p152 := eq_true p152
            replace q152 := eq_true q152
            have p153 : 0 ≤ ((rd (rd_L1 x8_2 x9_1) 1) : Int) := od_
            have q153 : (rd (rd_L1 x8_2 x9_1) 1) < ((rd_L1 l1_1 (rd (rd_L1 x8_2 x10_2) 1)).length : Int) := od_
            obtain ⟨ad153, e153, hx153_0⟩ := Kd.at_int HR151_0.out (rd (rd_L1 x8_2 x9_1) 1) p153 q153
            have hw153_0 := hx153_0
            cases e153
            try replace hx153_0 := hx_ HB hx153_0
            replace p153 := eq_true p153
            replace q153 := eq_true q153
            obtain ⟨Ao45, co45, eo45⟩ := Kd.N_slice HO145.out
            (first | subst eo45 | (injection eo45 with f1_ f2_ f3_; have f4_ := f1_.symm; have f5_ := f3_.symm; clear f1_ f2_ f3_; subst f4_; subst f5_))
            refine start_ (n := 30) (S := fun w' => w'.cell? ⟨gb124, 0, none⟩ = some (.int .i64 a0_0) ∧ w'.cell? ⟨gb124, 1, none⟩ = some (.slice (some ad135) l0_1.length c0_1) ∧ w'.cell? ⟨gb124, 2, none⟩ = some (.slice A0_2 l0_2.length c0_2) ∧ w'.cell? ⟨gb125, 0, none⟩ = some (.int .i64 a1_0) ∧ w'.cell? ⟨gb125, 1, none⟩ = some (.slice (some ad139) l1_1.length c1_1) ∧ w'.cell? ⟨gb125, 2, none⟩ = some (.slice A1_2 l1_2.length c1_2) ∧ w'.cell? ad136 = some (.int .i64 (rd (rd_L1 x8_2 x10_2) 0)) ∧ w'.cell? (ad135.add ((rd (rd_L1 x8_2 x10_2) 0)).toNat) = some (.slice (some ad149) (rd_L1 l0_1 (rd (rd_L1 x8_2 x10_2) 0)).length c147_0) ∧ w'.cell? ad134 = some (.int .i64 (rd (rd_L1 x8_2 x9_1) 0)) ∧ w'.cell? (ad149.add ((rd (rd_L1 x8_2 x9_1) 0)).toNat) = some (.int .i64 (rd (rd_L1 l0_1 (rd (rd_L1 x8_2 x10_2) 0)) (rd (rd_L1 x8_2 x9_1) 0))) ∧ w'.cell? ⟨ad136.block, ad136.off + 1, none⟩ = some (.int .i64 (rd (rd_L1 x8_2 x10_2) 1)) ∧ w'.cell? (ad139.add ((rd (rd_L1 x8_2 x10_2) 1)).toNat) = some (.slice (some ad153) (rd_L1 l1_1 (rd (rd_L1 x8_2 x10_2) 1)).length c151_0) ∧ w'.cell? ⟨ad134.block, ad134.off + 1, none⟩ = some (.int .i64 (rd (rd_L1 x8_2 x9_1) 1)) ∧ w'.cell? (ad153.add ((rd (rd_L1 x8_2 x9_1) 1)).toNat) = some (.int .i64 (rd (rd_L1 l1_1 (rd (rd_L1 x8_2 x10_2) 1)) (rd (rd_L1 x8_2 x9_1) 1)))) (ds := []) #[false, false, false, false, false, false, false, false, false, false, false, false, false, false, false, false, false, false, false, false, false, false, false, false, false, false, false, false, false, false] (by kernel_rfl) rfl rfl ⟨tz_ BK124 0, tz_ BK124 1, tz_ BK124 2, tz_ BK125 0, tz_ BK125 1, tz_ BK125 2, hx146_0, ((HB.out.cell (World.block_lt_of_cell? w _ hw147_0)).trans hw147_0), hx148_0, ((HB.out.cell (World.block_lt_of_cell? w _ hw149_0)).trans hw149_0), hx150_0, ((HB.out.cell (World.block_lt_of_cell? w _ hw151_0)).trans hw151_0), hx152_0, ((HB.out.cell (World.block_lt_of_cell? w _ hw153_0)).trans hw153_0)⟩ (fun hHeld => ?_); refine with_tabW spec_l06Pairs.tab10 spec_l06Pairs.bits10 (fun HT_ HW_ => ?_)
            generalize w43.drew = w44 at HO_8 HL132_0 HL133_0 HO145 BK124 BK125 HR132_0 HR133_0 HB HR147_0 HR151_0 hx146_0 hx147_0 hx148_0 hx149_0 hx150_0 hx151_0 hx152_0 hx153_0 hHeld ⊢
            refine pu_ 0 71 HT_ ?_
            refine pu_ 1 72 HT_ ?_
            refine pu_ 3 74 HT_ ?_
            refine pu_ 4 75 HT_ ?_
            refine pu_ 8 79 HT_ ?_
            refine pu_ 9 80 HT_ ?_
            refine pu_ 13 84 HT_ ?_
            refine pu_ 15 86 HT_ ?_
            refine pu_ 16 87 HT_ ?_
            refine pu_ 20 91 HT_ ?_
            refine pu_ 21 92 HT_ ?_
            refine tk_ 2 73 HT_ HW_ hHeld ?_
            refine tk_ 5 76 HT_ HW_ hHeld ?_
            refine pu_ 6 77 HT_ ?_
            refine tk_ 7 78 HT_ HW_ hHeld ?_
            refine tk_ 10 81 HT_ HW_ hHeld ?_
            refine pu_ 11 82 HT_ ?_
            refine tk_ 12 83 HT_ HW_ hHeld ?_
            refine tk_ 14 85 HT_ HW_ hHeld ?_
            refine tk_ 17 88 HT_ HW_ hHeld ?_
            refine pu_ 18 89 HT_ ?_
            refine tk_ 19 90 HT_ HW_ hHeld ?_
            refine tk_ 22 93 HT_ HW_ hHeld ?_
            refine pu_ 23 94 HT_ ?_
            refine tk_ 24 95 HT_ HW_ hHeld ?_
            refine on_ 25 (some 96) HT_ fun K hK => ?_
            refine gR_ Try.func33 #[.slice Ao45 t143.length co45, .int .i64 (rd (rd_L1 l0_1 (rd (rd_L1 x8_2 x10_2) 0)) (rd (rd_L1 x8_2 x9_1) 0)), .int .i64 (rd (rd_L1 l1_1 (rd (rd_L1 x8_2 x10_2) 1)) (rd (rd_L1 x8_2 x9_1) 1))] ?_
            refine (spec_l06Number.put_calls k2 w.heap.size (fun k_ => (w.heap.size ≤ k_) ∧ k_ ≠ gb124 ∧ k_ ≠ gb125) _ _ t143 (rd (rd_L1 l0_1 (rd (rd_L1 x8_2 x10_2) 0)) (rd (rd_L1 x8_2 x9_1) 0)) (rd (rd_L1 l1_1 (rd (rd_L1 x8_2 x10_2) 1)) (rd (rd_L1 x8_2 x9_1) 1)) t154 t155 w _ HB.out (below_size HB.out) ?sidef HO145.out A38.out).mono ?_
            (case sidef => exact fun k_ hk_ => ⟨Nat.le_trans (below_size HB.out) hk_, (fun e_ => by have := blk_lt BK124.out; omega), (fun e_ => by have := blk_lt BK125.out; omega)⟩)
            rintro e w46 ⟨v156, rfl, ho0, hb, hk, hat⟩
            have HS6_ := cell_kept (hHeld.2.2.2.2.2.2.1) hk (fun e_ => (Kd.F_in (Kd.V_F HL133_0.out) rfl (of_eq_true qi136) (by decide)).2 e_)
            have HS8_ := cell_kept (hHeld.2.2.2.2.2.2.2.2.1) hk (fun e_ => (Kd.F_in (Kd.V_F HL132_0.out) rfl (of_eq_true qi134) (by decide)).2 e_)
            have HS10_ := cell_kept (hHeld.2.2.2.2.2.2.2.2.2.2.1) hk (fun e_ => (Kd.F_in (Kd.V_F HL133_0.out) rfl (of_eq_true qi136) (by decide)).2 e_)
            have HS12_ := cell_kept (hHeld.2.2.2.2.2.2.2.2.2.2.2.2.1) hk (fun e_ => (Kd.F_in (Kd.V_F HL132_0.out) rfl (of_eq_true qi134) (by decide)).2 e_)
            refine ⟨_, rfl, ?_⟩
            have n1_ := as_ (Kd.V_mono (ok' := fun k_ => (fun k_ => (w.heap.size ≤ k_) ∧ k_ ≠ gb124 ∧ k_ ≠ gb125) k_ ∧ some k_ ≠ (v156 : Value).ownBlock) (Kd.V_kept (Kd.V_bound HL132_0.out) hk (fun k_ hk_ hs_ => hk_.1.2 hs_)) (fun k_ hk_ => ⟨hk_.1.1, fun e_ => hat.elim (fun h_ => hk_.1.2 (e_.trans h_)) (fun ⟨b_, h1_, h2_⟩ => by rw [h1_] at e_; injection e_ with e_; have := hk_.2; omega)⟩))
            have n2_ := as_ (Kd.V_mono (ok' := fun k_ => (fun k_ => (w.heap.size ≤ k_) ∧ k_ ≠ gb124 ∧ k_ ≠ gb125) k_ ∧ some k_ ≠ (v156 : Value).ownBlock) (Kd.V_kept (Kd.V_bound HL133_0.out) hk (fun k_ hk_ hs_ => hk_.1.2 hs_)) (fun k_ hk_ => ⟨hk_.1.1, fun e_ => hat.elim (fun h_ => hk_.1.2 (e_.trans h_)) (fun ⟨b_, h1_, h2_⟩ => by rw [h1_] at e_; injection e_ with e_; have := hk_.2; omega)⟩))
            have n4_ := as_ (blk_kept BK124.out hk (fun e_ => (HO145.out.1 _ e_.symm).2.1 rfl))
            have n5_ := as_ (blk_kept BK125.out hk (fun e_ => (HO145.out.1 _ e_.symm).2.2 rfl))
            have n6_ := as_ (Kd.V_reads' n1_.out).2.2
            have n7_ := as_ (Kd.V_reads' n2_.out).2.2
            have n3_ := as_ ho0
            have n8_ := as_ hb
            have n0_ := as_ (Kd.N_nil (Kd.slice 2 (Kd.int .i64)) 23 w46 w.heap.size (fun _ => True)); clear HO_8 HL132_0 HL133_0 BK124 BK125 HR132_0 HR133_0 HB HO145 hk hat ho0 hb; have HO_8 := n0_; have HL132_0 := n1_; have HL133_0 := n2_; have HO157 := n3_; have BK124 := n4_; have BK125 := n5_
            have HR132_0 := n6_
            have HR133_0 := n7_
            have HB := n8_
            have HO145 := n0_
            clear n0_ n1_ n2_ n3_ n4_ n5_ n6_ n7_ n8_
            refine hK.out _ _ ⟨tz_ BK124 0, tz_ BK124 1, tz_ BK124 2, tz_ BK125 0, tz_ BK125 1, tz_ BK125 2, HS6_, ((HB.out.cell (World.block_lt_of_cell? w _ hw147_0)).trans hw147_0), HS8_, ((HB.out.cell (World.block_lt_of_cell? w _ hw149_0)).trans hw149_0), HS10_, ((HB.out.cell (World.block_lt_of_cell? w _ hw151_0)).trans hw151_0), HS12_, ((HB.out.cell (World.block_lt_of_cell? w _ hw153_0)).trans hw153_0)⟩ (fun hHeld => ?_)
            clear hK K
            refine nm_ 96 ?_
            refine pu_ 26 70 HT_ ?_
            refine pu_ 27 97 HT_ ?_
            refine pu_ 28 98 HT_ ?_
            refine pu_ 29 8 HT_ ?_
            refine dn_ HT_ ?_
            obtain ⟨Ao47, co47, eo47⟩ := Kd.N_slice HO157.out
            subst eo47
            by_cases c39 : (t155.length : Int) > a2
            · have H := H5.out
              rw [if_pos c39] at H
              have c39b0 := decide_eq_true c39
              clear c39
              simp only [Option.some.injEq, Prod.mk.injEq] at H
              obtain ⟨rfl, rfl⟩ := H
              try go_wp2
              go_ret2
              exact ⟨_, re_, (by first | exact Kd.V_nil _ _ _ _ _ | exact Kd.N_V (by exact Kd.N_nil _ _ _ _ _)), b2_ HB GE124 GE125⟩
            have H := H5.out
            rw [if_neg c39] at H
            have c39b0 := decide_eq_false c39
            have H' := as_ H
            clear c39 H
            try go_wp2
            go_roundg k2
            case measure => have := HK1.out; have := HK2.out; omega
            case rel => exact ⟨(t155), (wrap64 (x10_2 + 1)), rf_, H', ⟨by have := HK1.out; have := HK2.out; omega⟩, ⟨bN_ HO157⟩, ⟨bk_ BK124⟩, ⟨bk_ BK125⟩, ⟨b2_ HB GE124 GE125⟩⟩

def spec_l06Good.l0 : Nat → Int → Int → Int → List (List Int) → List Int → Option (Bool)
  | 0, _, _, _, _, _ => none
  | k + 1, x1, x5, x190000, x190001, x190002 => if x5 < (x190002.length : Int) then (if 0 ≤ x5 then (if (rd x190002 x5) = x1 then (some true) else (spec_l06Good.l0 k x1 (wrap64 (x5 + 1)) x190000 x190001 x190002)) else (none)) else (some false)
def spec_l06Good.f (k : Nat) (a0_0 : Int) (l0_1 : List (List Int)) (l0_2 : List Int) (a1 : Int) : Option (Bool) := spec_l06Good.l0 k a1 0 a0_0 l0_1 l0_2
set_option maxHeartbeats 8000000 in
set_option maxRecDepth 100000 in
theorem spec_l06Good.calls (k : Nat) (a0_0 : Int) (A0_1 : Option Addr) (c0_1 : Nat) (l0_1 : List (List Int)) (A0_2 : Option Addr) (c0_2 : Nat) (l0_2 : List Int) (a1 : Int) (r : Bool) (w : World) (hr0_1 : Kd.C (Kd.slice 2 (Kd.int .i64)) w A0_1 l0_1.length l0_1) (hc0_1 : l0_1.length ≤ c0_1) (hr0_2 : Kd.C (Kd.int .i64) w A0_2 l0_2.length l0_2) (hc0_2 : l0_2.length ≤ c0_2) (h : spec_l06Good.f k a0_0 l0_1 l0_2 a1 = some r) :
    Calls Try.prog 18 #[.agg #[.int .i64 a0_0, .slice A0_1 l0_1.length c0_1, .slice A0_2 l0_2.length c0_2], .int .i64 a1] w fun e w' => e = .returned (.bool r) ∧ Below w.heap.size w w' := by
  have hu29 := Try.underlying29
  have HR0_1 := as_ hr0_1
  have HC0_1 := as_ hc0_1
  clear hr0_1 hc0_1
  have HR0_2 := as_ hr0_2
  have HC0_2 := as_ hc0_2
  clear hr0_2 hc0_2
  have HB := as_ (Below.refl w.heap.size w)
  have H : (spec_l06Good.l0 k a1 0 a0_0 l0_1 l0_2) = some r := h
  clear h
  have H' := as_ H
  clear H
  go_enter Try.func18, Try.ntmps18
  go_wp2_with (first | ((with_reducible refine gate_dst (N := 2) rfl ?_); refine bx_ 2 #[.int .i64 a0_0, .slice A0_1 l0_1.length c0_1, .slice A0_2 l0_2.length c0_2] 29 ?_; intro gb189 hg w3 hbox hb; have BK189 := as_ (hbox); have GW189 := gz_ hg (b_ HB); have GE189 := GW189; replace HB := as_ (below_step (b_ HB) hb); clear hb hbox hg))
  go_loopg [5] k (fun kq v5 w' => ∃ (x5_1 : Int), v5 = .int .i64 x5_1 ∧ Aside0 (spec_l06Good.l0 kq a1 x5_1 a0_0 l0_1 l0_2 = some r) ∧ Aside0 (kq ≤ k) ∧ Aside0 (w'.heap[gb189]? = some (.cells #[.int .i64 a0_0, (.slice A0_1 l0_1.length c0_1), (.slice A0_2 l0_2.length c0_2)] 29 (0, 0))) ∧ Aside0 (Below w.heap.size w w'))
  case atStart => exact ⟨(0), rf_, H', ⟨Nat.le_refl _⟩, ⟨bk_ BK189⟩, ⟨b1_ HB GE189⟩⟩
  case round =>
    clear H'
    (try clear c1); (try clear p2)
    obtain ⟨x5_1, rfl, HA, HK1, BK189, HB⟩ := hrel
    cases gk with
    | zero => exact absurd HA.out (by simp [spec_l06Good.l0])
    | succ k1 =>
      have H := HA.out
      clear HA
      simp only [spec_l06Good.l0] at H
      by_cases c4 : x5_1 < (l0_2.length : Int)
      rotate_left
      · rw [if_neg c4] at H
        have c4b0 := decide_eq_false c4
        clear c4
        obtain rfl := Option.some.inj H
        obtain ⟨hcz9_0, hfz9_0, hcz9_1, hfz9_1, hcz9_2, hfz9_2⟩ := tc3_ BK189
        go_wp2
        go_ret
        exact ⟨re_, b1_ HB GE189⟩
      rw [if_pos c4] at H
      have c4b0 := decide_eq_true c4
      clear c4
      obtain ⟨c5b0, H⟩ := ite_d H
      by_cases c6 : (rd l0_2 x5_1) = a1
      · rw [if_pos c6] at H
        have c6b0 := beq_iff_eq.mpr c6
        have c6b1 := bne_eq_false_iff_eq.mpr c6
        clear c6
        obtain rfl := Option.some.inj H
        obtain ⟨hcz7_0, hfz7_0, hcz7_1, hfz7_1, hcz7_2, hfz7_2⟩ := tc3_ BK189
        have p190 : 0 ≤ (x5_1 : Int) := od_
        have q190 : x5_1 < (l0_2.length : Int) := od_
        obtain ⟨ad190, e190, hx190_0⟩ := Kd.at_int HR0_2.out x5_1 p190 q190
        cases e190
        try replace hx190_0 := hx_ HB hx190_0
        replace p190 := eq_true p190
        replace q190 := eq_true q190
        go_wp2
        go_ret
        exact ⟨re_, b1_ HB GE189⟩
      rw [if_neg c6] at H
      have c6b0 := beq_eq_false_iff_ne.mpr c6
      have c6b1 := bne_iff_ne.mpr c6
      have H' := as_ H
      clear H
      obtain ⟨hcz8_0, hfz8_0, hcz8_1, hfz8_1, hcz8_2, hfz8_2⟩ := tc3_ BK189
      have p190 : 0 ≤ (x5_1 : Int) := od_
      have q190 : x5_1 < (l0_2.length : Int) := od_
      obtain ⟨ad190, e190, hx190_0⟩ := Kd.at_int HR0_2.out x5_1 p190 q190
      cases e190
      try replace hx190_0 := hx_ HB hx190_0
      replace p190 := eq_true p190
      replace q190 := eq_true q190
      go_wp2
      go_roundg k1
      case measure => have := HK1.out; omega
      case rel => exact ⟨(wrap64 (x5_1 + 1)), rf_, H', om_ HK1, ⟨bk_ BK189⟩, ⟨b1_ HB GE189⟩⟩

end Go.Proofs.Ytpbfideppdmceaa.E
