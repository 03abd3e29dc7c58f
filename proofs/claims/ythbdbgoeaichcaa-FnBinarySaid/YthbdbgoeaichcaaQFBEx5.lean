/- The row of the law FnBinary, out of its pure statement. -/
import Derived.Test.YthbdbgoeaichcaaQFBEx0
import Derived.Test.YthbdbgoeaichcaaQFBEx1
import Derived.Test.YthbdbgoeaichcaaQFBEx2
import Derived.Test.YthbdbgoeaichcaaQFBEx3
import Derived.Test.YthbdbgoeaichcaaQFBEx4
import Derived.Test.YthbdbgoeaichcaaQFBL
-- Written by wip/ext.py of this claim (contracts by the form of the kit's print; hand-written ones among them).
namespace Go.Proofs.Ythbdbgoeaichcaa.E
set_option maxHeartbeats 8000000
set_option maxRecDepth 100000
open Go.RowKit Go.Proofs.YthbdbgoeaichcaaW.PrintWords Go.Proofs.YthbdbgoeaichcaaW.PrintLast Go.Proofs.YthbdbgoeaichcaaW.PrintMore Go.Proofs.Ythbdbgoeaichcaa.Mi
attribute [local go_sem] max2_int min2_int max_two min_two max_three min_three max_four min_four   -- for this text's walks alone
set_option linter.unusedVariables false
set_option linter.unusedSimpArgs false

def impl_areBinary.l0 : Nat → List ByteArray → Int → Int → Option (Bool)
  | 0, _, _, _ => none
  | k + 1, x5, x6, x7 => if x7 < x6 then (if 0 ≤ x7 then (if x7 < (x5.length : Int) then ((impl_IsBinary.f k (rdOf ByteArray.empty x5 x7)).bind fun t587 => (if t587 = true then (impl_areBinary.l0 k x5 x6 (wrap64 (x7 + 1))) else (some false))) else (none)) else (none)) else (some true)
def impl_areBinary.f (k : Nat) (l0 : List ByteArray) : Option (Bool) := impl_areBinary.l0 k l0 (l0.length : Int) 0
theorem impl_areBinary.calls (k : Nat) (A0 : Option Addr) (c0 : Nat) (l0 : List ByteArray) (r : Bool) (w : World) (hr0 : Kd.C Kd.string w A0 l0.length l0) (hc0 : l0.length ≤ c0) (h : impl_areBinary.f k l0 = some r) :
    Calls Try.prog 59 #[.slice A0 l0.length c0] w fun e w' => e = .returned (.bool r) ∧ Drawn0 w w' := by
  have HR0 := as_ hr0
  have HC0 := as_ hc0
  clear hr0 hc0
  have H : (impl_areBinary.l0 k l0 (l0.length : Int) 0) = some r := h
  clear h
  have H' := as_ H
  clear H
  go_enter Try.func59, Try.ntmps59
  go_wp2
  go_loopg [7] k (fun kq v7 w' => ∃ (x7_1 : Int), v7 = .int .i64 x7_1 ∧ Aside0 (impl_areBinary.l0 kq l0 (l0.length : Int) x7_1 = some r) ∧ Aside0 (kq ≤ k) ∧ Drawn0 w w')
  case atStart => exact ⟨(0), rf_, H', ⟨Nat.le_refl _⟩, d0_⟩
  case round =>
    clear H'
    obtain ⟨x7_1, rfl, HA, HK1, ⟨m1, rfl⟩⟩ := hrel
    cases gk with
    | zero => exact absurd HA.out (by simp [impl_areBinary.l0])
    | succ k1 =>
      have H := HA.out
      clear HA
      simp only [impl_areBinary.l0] at H
      by_cases c2 : x7_1 < (l0.length : Int)
      rotate_left
      · rw [if_neg c2] at H
        have c2b0 := decide_eq_false c2
        clear c2
        obtain rfl := Option.some.inj H
        go_wp2
        go_ret
        exact ⟨rf_, d0_⟩
      rw [if_pos c2] at H
      have c2b0 := decide_eq_true c2
      clear c2
      obtain ⟨c3b0, H⟩ := ite_d H
      obtain ⟨c4b0, H⟩ := ite_d H
      obtain ⟨t587, A5, H⟩ := bo_ H
      by_cases c6 : t587 = true
      · subst c6
        replace H := it_ H
        have H' := as_ H
        clear H
        have p586 : 0 ≤ (x7_1 : Int) := od_
        have q586 : x7_1 < (l0.length : Int) := od_
        obtain ⟨ad586, e586, hx586_0⟩ := Kd.at_string HR0.out x7_1 p586 q586
        cases e586
        replace p586 := eq_true p586
        replace q586 := eq_true q586
        go_wp2_with (first | ((with_reducible refine gate_callee (f := 10) rfl ?_); refine gL_ 12 Try.func10 #[.string (rdOf ByteArray.empty l0 x7_1)] ?_; (with_reducible refine (impl_IsBinary.calls k1 (rdOf ByteArray.empty l0 x7_1) true _ A5.out).mono ?_); rintro e w' ⟨rfl, ⟨nd, rfl⟩⟩; refine ⟨_, rfl, ?_⟩))
        go_roundg k1
        case measure => have := HK1.out; omega
        case rel => exact ⟨(wrap64 (x7_1 + 1)), rf_, H', om_ HK1, d0_⟩
      replace c6 := Bool.eq_false_iff.mpr c6
      subst c6
      replace H := if_ H
      obtain rfl := Option.some.inj H
      have p586 : 0 ≤ (x7_1 : Int) := od_
      have q586 : x7_1 < (l0.length : Int) := od_
      obtain ⟨ad586, e586, hx586_0⟩ := Kd.at_string HR0.out x7_1 p586 q586
      cases e586
      replace p586 := eq_true p586
      replace q586 := eq_true q586
      go_wp2_with (first | ((with_reducible refine gate_callee (f := 10) rfl ?_); refine gL_ 12 Try.func10 #[.string (rdOf ByteArray.empty l0 x7_1)] ?_; (with_reducible refine (impl_IsBinary.calls k1 (rdOf ByteArray.empty l0 x7_1) false _ A5.out).mono ?_); rintro e w' ⟨rfl, ⟨nd, rfl⟩⟩; refine ⟨_, rfl, ?_⟩))
      go_ret
      exact ⟨rf_, d0_⟩

def impl_JoinSides.f (k : Nat) (a0 : ByteArray) (a1 : ByteArray) : Option (ByteArray × Int) := (impl_areBinary.f k (([a0, a1] : List ByteArray))).bind fun t591 => (if t591 = true then ((impl_nodesOf.f a0).bind fun t592 => ((impl_nodesOf.f a1).bind fun t593 => (if (wrap64 ((wrap64 (t592 + t593)) + 1)) > 23 then (some ((⟨#[]⟩ : ByteArray), 3)) else (if 1 + a0.size ≤ 9223372036854775807 then (if ((⟨#[49]⟩ : ByteArray) ++ a0).size + a1.size ≤ 9223372036854775807 then (some (((⟨#[49]⟩ : ByteArray) ++ a0) ++ a1, 0)) else (none)) else (none))))) else (some ((⟨#[]⟩ : ByteArray), 1)))
theorem impl_JoinSides.calls (k : Nat) (a0 : ByteArray) (a1 : ByteArray) (r1 : ByteArray) (r2 : Int) (w : World) (h : impl_JoinSides.f k a0 a1 = some (r1, r2)) :
    Calls Try.prog 25 #[.string a0, .string a1] w fun e w' => e = .returned (.tuple #[.string r1, .int .i64 r2]) ∧ Below w.heap.size w w' := by
  have HB := as_ (Below.refl w.heap.size w)
  have H : ((impl_areBinary.f k (([a0, a1] : List ByteArray))).bind fun t591 => (if t591 = true then ((impl_nodesOf.f a0).bind fun t592 => ((impl_nodesOf.f a1).bind fun t593 => (if (wrap64 ((wrap64 (t592 + t593)) + 1)) > 23 then (some ((⟨#[]⟩ : ByteArray), 3)) else (if 1 + a0.size ≤ 9223372036854775807 then (if ((⟨#[49]⟩ : ByteArray) ++ a0).size + a1.size ≤ 9223372036854775807 then (some (((⟨#[49]⟩ : ByteArray) ++ a0) ++ a1, 0)) else (none)) else (none))))) else (some ((⟨#[]⟩ : ByteArray), 1)))) = some (r1, r2) := h
  clear h
  obtain ⟨y588, hy588⟩ := ex_ (([a0, a1] : List ByteArray) : List ByteArray)
  replace H : ((impl_areBinary.f k y588).bind fun t591 => (if t591 = true then ((impl_nodesOf.f a0).bind fun t592 => ((impl_nodesOf.f a1).bind fun t593 => (if (wrap64 ((wrap64 (t592 + t593)) + 1)) > 23 then (some ((⟨#[]⟩ : ByteArray), 3)) else (if 1 + a0.size ≤ 9223372036854775807 then (if ((⟨#[49]⟩ : ByteArray) ++ a0).size + a1.size ≤ 9223372036854775807 then (some (((⟨#[49]⟩ : ByteArray) ++ a0) ++ a1, 0)) else (none)) else (none))))) else (some ((⟨#[]⟩ : ByteArray), 1)))) = some (r1, r2) := yr_ hy588 H
  have Ny588 := as_ hy588
  clear hy588
  obtain ⟨t591, A3, H⟩ := bo_ H
  by_cases c4 : t591 = true
  rotate_left
  · replace c4 := Bool.eq_false_iff.mpr c4
    subst c4
    replace H := if_ H
    simp only [Option.some.injEq, Prod.mk.injEq] at H
    obtain ⟨rfl, rfl⟩ := H
    go_enter Try.func25, Try.ntmps25
    go_wp2_with (first | ((with_reducible refine gate_dst (N := 9) rfl ?_); refine Kd.R_lit Kd.string _ 9 ?hg (N := 9) ?hd (xs := ([a0, a1] : List ByteArray)) (inner := [.string a0, .string a1]) (ok := fun _ => True) (okp := fun _ => True) ?hr ?hp (fun _ hk => hk) trivial (Below.refl _ _) (Nat.le_refl _) (by simp) ?_; (case hd => rfl); (case hg => rfl); (case hr => first | (go_simp; done) | (go_simp; rfl)); (case hp => exact (Reps.one (show Kd.M Kd.string _ _ _ a0 [.string a0] from rfl) (Reps.one (show Kd.M Kd.string _ _ _ a1 [.string a1] from rfl) (Reps.none _ _)))); intro v589 w16 ho17 hb hg_ hnew_; clear hg_ hnew_; (first | rw [← Ny588.out] at ho17 | (simp only [Int.reduceToNat] at ho17; rw [← Ny588.out] at ho17)); have HO590 := as_ (Kd.R_lower ho17 (below_size (b_ HB))); replace HB := as_ (below_step (b_ HB) hb); clear hb ho17; obtain ⟨Ao18, co18, eo18⟩ := Kd.R_slice HO590.out; subst eo18) | ((with_reducible refine gate_callee (f := 59) rfl ?_); refine gL_ 10 Try.func59 #[.slice Ao18 y588.length co18] ?_; (with_reducible refine (impl_areBinary.calls k _ _ y588 false _ ?side1 ?side2 A3.out).mono ?_); (case side1 => exact cC_ (Kd.R_reads' HO590.out).2.2); (case side2 => exact (Kd.R_reads' HO590.out).2.1); rintro e w' ⟨rfl, ⟨nd, rfl⟩⟩; refine ⟨_, rfl, ?_⟩))
    go_ret2
    exact ⟨re_, b_ HB⟩
  subst c4
  replace H := it_ H
  obtain ⟨t592, A5, H⟩ := bo_ H
  obtain ⟨t593, A6, H⟩ := bo_ H
  by_cases c7 : (wrap64 ((wrap64 (t592 + t593)) + 1)) > 23
  · rw [if_pos c7] at H
    have c7b0 := decide_eq_true c7
    clear c7
    simp only [Option.some.injEq, Prod.mk.injEq] at H
    obtain ⟨rfl, rfl⟩ := H
    go_enter Try.func25, Try.ntmps25
    go_wp2_with (first | ((with_reducible refine gate_dst (N := 9) rfl ?_); refine Kd.R_lit Kd.string _ 9 ?hg (N := 9) ?hd (xs := ([a0, a1] : List ByteArray)) (inner := [.string a0, .string a1]) (ok := fun _ => True) (okp := fun _ => True) ?hr ?hp (fun _ hk => hk) trivial (Below.refl _ _) (Nat.le_refl _) (by simp) ?_; (case hd => rfl); (case hg => rfl); (case hr => first | (go_simp; done) | (go_simp; rfl)); (case hp => exact (Reps.one (show Kd.M Kd.string _ _ _ a0 [.string a0] from rfl) (Reps.one (show Kd.M Kd.string _ _ _ a1 [.string a1] from rfl) (Reps.none _ _)))); intro v589 w8 ho9 hb hg_ hnew_; clear hg_ hnew_; (first | rw [← Ny588.out] at ho9 | (simp only [Int.reduceToNat] at ho9; rw [← Ny588.out] at ho9)); have HO590 := as_ (Kd.R_lower ho9 (below_size (b_ HB))); replace HB := as_ (below_step (b_ HB) hb); clear hb ho9; obtain ⟨Ao10, co10, eo10⟩ := Kd.R_slice HO590.out; subst eo10) | ((with_reducible refine gate_callee (f := 59) rfl ?_); refine gL_ 10 Try.func59 #[.slice Ao10 y588.length co10] ?_; (with_reducible refine (impl_areBinary.calls k _ _ y588 true _ ?side1 ?side2 A3.out).mono ?_); (case side1 => exact cC_ (Kd.R_reads' HO590.out).2.2); (case side2 => exact (Kd.R_reads' HO590.out).2.1); rintro e w' ⟨rfl, ⟨nd, rfl⟩⟩; refine ⟨_, rfl, ?_⟩) | ((with_reducible refine gate_callee (f := 60) rfl ?_); refine gL_ 14 Try.func60 #[.string a0] ?_; (with_reducible refine (impl_nodesOf.calls a0 t592 _ A5.out).mono ?_); rintro e w' ⟨rfl, ⟨nd, rfl⟩⟩; refine ⟨_, rfl, ?_⟩) | ((with_reducible refine gate_callee (f := 60) rfl ?_); refine gL_ 16 Try.func60 #[.string a1] ?_; (with_reducible refine (impl_nodesOf.calls a1 t593 _ A6.out).mono ?_); rintro e w' ⟨rfl, ⟨nd, rfl⟩⟩; refine ⟨_, rfl, ?_⟩))
    go_ret2
    exact ⟨re_, b_ HB⟩
  rw [if_neg c7] at H
  have c7b0 := decide_eq_false c7
  clear c7
  obtain ⟨c11, H⟩ := ite_s H
  have c11b0 := eq_true c11
  have c11b1 := decide_eq_true c11
  try have c11b2 : (9223372036854775807 < 1 + a0.size) = False := eq_false (Nat.not_lt.2 c11)
  obtain ⟨c12, H⟩ := ite_s H
  have c12b0 := eq_true c12
  have c12b1 := decide_eq_true c12
  try have c12b2 : (9223372036854775807 < ((⟨#[49]⟩ : ByteArray) ++ a0).size + a1.size) = False := eq_false (Nat.not_lt.2 c12)
  try have c12b3 : (9223372036854775807 < 1 + a0.size + a1.size) = False := eq_false (by have z_ := c12; simp only [ByteArray.size_append, ByteArray.size_extract, decide_eq_true_eq, eq_iff_iff, iff_true, (show (⟨#[49]⟩ : ByteArray).size = 1 from rfl)] at *; first | omega | (simp at z_; omega))
  simp only [Option.some.injEq, Prod.mk.injEq] at H
  obtain ⟨rfl, rfl⟩ := H
  go_enter Try.func25, Try.ntmps25
  go_wp2_with (first | ((with_reducible refine gate_dst (N := 9) rfl ?_); refine Kd.R_lit Kd.string _ 9 ?hg (N := 9) ?hd (xs := ([a0, a1] : List ByteArray)) (inner := [.string a0, .string a1]) (ok := fun _ => True) (okp := fun _ => True) ?hr ?hp (fun _ hk => hk) trivial (Below.refl _ _) (Nat.le_refl _) (by simp) ?_; (case hd => rfl); (case hg => rfl); (case hr => first | (go_simp; done) | (go_simp; rfl)); (case hp => exact (Reps.one (show Kd.M Kd.string _ _ _ a0 [.string a0] from rfl) (Reps.one (show Kd.M Kd.string _ _ _ a1 [.string a1] from rfl) (Reps.none _ _)))); intro v589 w13 ho14 hb hg_ hnew_; clear hg_ hnew_; (first | rw [← Ny588.out] at ho14 | (simp only [Int.reduceToNat] at ho14; rw [← Ny588.out] at ho14)); have HO590 := as_ (Kd.R_lower ho14 (below_size (b_ HB))); replace HB := as_ (below_step (b_ HB) hb); clear hb ho14; obtain ⟨Ao15, co15, eo15⟩ := Kd.R_slice HO590.out; subst eo15) | ((with_reducible refine gate_callee (f := 59) rfl ?_); refine gL_ 10 Try.func59 #[.slice Ao15 y588.length co15] ?_; (with_reducible refine (impl_areBinary.calls k _ _ y588 true _ ?side1 ?side2 A3.out).mono ?_); (case side1 => exact cC_ (Kd.R_reads' HO590.out).2.2); (case side2 => exact (Kd.R_reads' HO590.out).2.1); rintro e w' ⟨rfl, ⟨nd, rfl⟩⟩; refine ⟨_, rfl, ?_⟩) | ((with_reducible refine gate_callee (f := 60) rfl ?_); refine gL_ 14 Try.func60 #[.string a0] ?_; (with_reducible refine (impl_nodesOf.calls a0 t592 _ A5.out).mono ?_); rintro e w' ⟨rfl, ⟨nd, rfl⟩⟩; refine ⟨_, rfl, ?_⟩) | ((with_reducible refine gate_callee (f := 60) rfl ?_); refine gL_ 16 Try.func60 #[.string a1] ?_; (with_reducible refine (impl_nodesOf.calls a1 t593 _ A6.out).mono ?_); rintro e w' ⟨rfl, ⟨nd, rfl⟩⟩; refine ⟨_, rfl, ?_⟩))
  go_ret2
  exact ⟨re_, b_ HB⟩

def spec_DrawJoinSides.f (k : Nat) (l0 : List Int) : Option (ByteArray × ByteArray) := (spec_l01From.f k l0).bind fun bt594 => ((spec_l01Pick.f bt594.1 bt594.2.1 bt594.2.2 (([5, 14] : List Int))).bind fun bt601 => ((spec_l01Next.f bt594.1 bt601.2.1 bt601.2.2 bt601.1).bind fun bt604 => ((spec_l03DrawOf.f k bt594.1 bt604.2.1 bt604.2.2 bt604.1).bind fun bt607 => ((spec_l03Bad.f bt594.1 bt607.2.1 bt607.2.2 bt607.1).bind fun bt610 => ((spec_l01Pick.f bt594.1 bt610.2.1 bt610.2.2 (([5, 14] : List Int))).bind fun bt616 => ((spec_l01Next.f bt594.1 bt616.2.1 bt616.2.2 bt616.1).bind fun bt619 => ((spec_l03DrawOf.f k bt594.1 bt619.2.1 bt619.2.2 bt619.1).bind fun bt622 => ((spec_l03Bad.f bt594.1 bt622.2.1 bt622.2.2 bt622.1).bind fun bt625 => (some (bt610.1, bt625.1))))))))))
theorem spec_DrawJoinSides.calls (k : Nat) (A0 : Option Addr) (c0 : Nat) (l0 : List Int) (r1 : ByteArray) (r2 : ByteArray) (w : World) (hr0 : Kd.C (Kd.int .u8) w A0 l0.length l0) (hc0 : l0.length ≤ c0) (h : spec_DrawJoinSides.f k l0 = some (r1, r2)) :
    Calls Try.prog 26 #[.slice A0 l0.length c0] w fun e w' => e = .returned (.tuple #[.string r1, .string r2]) ∧ Below w.heap.size w w' := by
  have HR0 := as_ hr0
  have HC0 := as_ hc0
  clear hr0 hc0
  have HB := as_ (Below.refl w.heap.size w)
  have H : ((spec_l01From.f k l0).bind fun bt594 => ((spec_l01Pick.f bt594.1 bt594.2.1 bt594.2.2 (([5, 14] : List Int))).bind fun bt601 => ((spec_l01Next.f bt594.1 bt601.2.1 bt601.2.2 bt601.1).bind fun bt604 => ((spec_l03DrawOf.f k bt594.1 bt604.2.1 bt604.2.2 bt604.1).bind fun bt607 => ((spec_l03Bad.f bt594.1 bt607.2.1 bt607.2.2 bt607.1).bind fun bt610 => ((spec_l01Pick.f bt594.1 bt610.2.1 bt610.2.2 (([5, 14] : List Int))).bind fun bt616 => ((spec_l01Next.f bt594.1 bt616.2.1 bt616.2.2 bt616.1).bind fun bt619 => ((spec_l03DrawOf.f k bt594.1 bt619.2.1 bt619.2.2 bt619.1).bind fun bt622 => ((spec_l03Bad.f bt594.1 bt622.2.1 bt622.2.2 bt622.1).bind fun bt625 => (some (bt610.1, bt625.1))))))))))) = some (r1, r2) := h
  clear h
  obtain ⟨⟨t594, t595, t596⟩, A2, H⟩ := bo_ H
  dsimp only at H
  obtain ⟨y598, hy598⟩ := ex_ (([5, 14] : List Int) : List Int)
  replace H : ((spec_l01Pick.f t594 t595 t596 y598).bind fun bt601 => ((spec_l01Next.f t594 bt601.2.1 bt601.2.2 bt601.1).bind fun bt604 => ((spec_l03DrawOf.f k t594 bt604.2.1 bt604.2.2 bt604.1).bind fun bt607 => ((spec_l03Bad.f t594 bt607.2.1 bt607.2.2 bt607.1).bind fun bt610 => ((spec_l01Pick.f t594 bt610.2.1 bt610.2.2 (([5, 14] : List Int))).bind fun bt616 => ((spec_l01Next.f t594 bt616.2.1 bt616.2.2 bt616.1).bind fun bt619 => ((spec_l03DrawOf.f k t594 bt619.2.1 bt619.2.2 bt619.1).bind fun bt622 => ((spec_l03Bad.f t594 bt622.2.1 bt622.2.2 bt622.1).bind fun bt625 => (some (bt610.1, bt625.1)))))))))) = some (r1, r2) := yr_ hy598 H
  have Ny598 := as_ hy598
  clear hy598
  obtain ⟨⟨t601, t602, t603⟩, A3, H⟩ := bo_ H
  dsimp only at H
  obtain ⟨⟨t604, t605, t606⟩, A4, H⟩ := bo_ H
  dsimp only at H
  obtain ⟨⟨t607, t608, t609⟩, A5, H⟩ := bo_ H
  dsimp only at H
  obtain ⟨⟨t610, t611, t612⟩, A6, H⟩ := bo_ H
  dsimp only at H
  obtain ⟨y613, hy613⟩ := ex_ (([5, 14] : List Int) : List Int)
  replace H : ((spec_l01Pick.f t594 t611 t612 y613).bind fun bt616 => ((spec_l01Next.f t594 bt616.2.1 bt616.2.2 bt616.1).bind fun bt619 => ((spec_l03DrawOf.f k t594 bt619.2.1 bt619.2.2 bt619.1).bind fun bt622 => ((spec_l03Bad.f t594 bt622.2.1 bt622.2.2 bt622.1).bind fun bt625 => (some (t610, bt625.1)))))) = some (r1, r2) := yr_ hy613 H
  have Ny613 := as_ hy613
  clear hy613
  obtain ⟨⟨t616, t617, t618⟩, A7, H⟩ := bo_ H
  dsimp only at H
  obtain ⟨⟨t619, t620, t621⟩, A8, H⟩ := bo_ H
  dsimp only at H
  obtain ⟨⟨t622, t623, t624⟩, A9, H⟩ := bo_ H
  dsimp only at H
  obtain ⟨⟨t625, t626, t627⟩, A10, H⟩ := bo_ H
  dsimp only at H
  simp only [Option.some.injEq, Prod.mk.injEq] at H
  obtain ⟨rfl, rfl⟩ := H
  go_enter Try.func26, Try.ntmps26
  go_wp2_with (first | ((with_reducible refine gate_callee (f := 37) rfl ?_); refine gL_ 7 Try.func37 #[.slice A0 l0.length c0] ?_; (with_reducible refine (spec_l01From.calls k _ _ l0 t594 t595 t596 w _ ?side1 ?side2 ?side3 A2.out).mono ?_); (case side1 => repeat (first | (with_reducible first | exact HB.out | apply below_alloc | apply pw_below_drewN | apply below_drew1) | exact HB.out)); (case side2 => exact HR0.out); (case side3 => exact HC0.out); rintro e w11 ⟨g597, rfl, hi, hb, hb2⟩; refine ⟨_, rfl, ?_⟩; replace HB := as_ (hb); have HI597 := as_ (hi); clear hb hb2 hi) | ((with_reducible refine gate_dst (N := 12) rfl ?_); refine Kd.R_lit (Kd.int .i64) _ 2 ?hg (N := 12) ?hd (xs := ([5, 14] : List Int)) (inner := [.int .i64 5, .int .i64 14]) (ok := fun _ => True) (okp := fun _ => True) ?hr ?hp (fun _ hk => hk) trivial (Below.refl _ _) (Nat.le_refl _) (by simp) ?_; (case hd => rfl); (case hg => rfl); (case hr => first | (go_simp; done) | (go_simp; rfl)); (case hp => exact (Reps.one (show Kd.M (Kd.int .i64) _ _ _ 5 [.int .i64 5] from rfl) (Reps.one (show Kd.M (Kd.int .i64) _ _ _ 14 [.int .i64 14] from rfl) (Reps.none _ _)))); intro v599 w12 ho13 hb hg_ hnew_; clear hg_ hnew_; (first | rw [← Ny598.out] at ho13 | (simp only [Int.reduceToNat] at ho13; rw [← Ny598.out] at ho13)); have HO600 := as_ (Kd.R_lower ho13 (below_size (b1_ HB ⟨IsS77.ge HI597.out⟩))); replace HB := as_ (below_step (b1_ HB ⟨IsS77.ge HI597.out⟩) hb); replace HI597 := as_ (IsS77.below (hi77_ HI597) hb); clear hb ho13; obtain ⟨Ao14, co14, eo14⟩ := Kd.R_slice HO600.out; subst eo14) | ((with_reducible refine gate_callee (f := 64) rfl ?_); refine gL_ 13 Try.func64 #[.pointer (some ⟨g597, 0, none⟩), .slice Ao14 y598.length co14] ?_; (with_reducible refine (spec_l01Pick.calls g597 t594 t595 t596 _ _ y598 t601 t602 t603 w _ ?side1 ?side2 ?side3 ?side4 ?side5 A3.out).mono ?_); (case side1 => repeat (first | (with_reducible first | exact HI597.out | apply IsS77.alloc | apply IsS77.drewN | apply IsS77.drew | apply IsS77.set_1 | apply IsS77.set_2) | exact HI597.out)); (case side2 => repeat (first | (with_reducible first | exact HB.out | apply below_alloc | apply pw_below_drewN | apply below_drew1 | refine below_set ?_ (IsS77.ge HI597.out)) | exact HB.out)); (case side3 => exact cC_ (Kd.R_reads' HO600.out).2.2); (case side4 => exact (Kd.R_reads' HO600.out).2.1); (case side5 => exact far_slice (IsS77.own_ne HI597.out HO600.out (by decide))); rintro e w15 ⟨rfl, hi, hb, hk⟩; refine ⟨_, rfl, ?_⟩; replace HO600 := as_ (Kd.R_mono (Kd.R_keep (IsS77.apart (show IsS77 w _ g597 t594 t595 t596 from hi77_ HI597) (bR_ HO600) (by decide)) hk (fun _ h => h.2)) (fun _ h => h.1)); replace HB := as_ (hb); replace HI597 := as_ (hi); clear hb hk hi) | ((with_reducible refine gate_callee (f := 63) rfl ?_); refine gL_ 14 Try.func63 #[.pointer (some ⟨g597, 0, none⟩), .int .i64 t601] ?_; (with_reducible refine (spec_l01Next.calls g597 t594 t602 t603 t601 t604 t605 t606 w _ ?side1 ?side2 A4.out).mono ?_); (case side1 => repeat (first | (with_reducible first | exact HI597.out | apply IsS77.alloc | apply IsS77.drewN | apply IsS77.drew | apply IsS77.set_1 | apply IsS77.set_2) | exact HI597.out)); (case side2 => repeat (first | (with_reducible first | exact HB.out | apply below_alloc | apply pw_below_drewN | apply below_drew1 | refine below_set ?_ (IsS77.ge HI597.out)) | exact HB.out)); rintro e w16 ⟨rfl, hi, hb, hk⟩; refine ⟨_, rfl, ?_⟩; replace HO600 := as_ (Kd.R_mono (Kd.R_keep (IsS77.apart (show IsS77 w _ g597 t594 t602 t603 from hi77_ HI597) (bR_ HO600) (by decide)) hk (fun _ h => h.2)) (fun _ h => h.1)); replace HB := as_ (hb); replace HI597 := as_ (hi); clear hb hk hi) | ((with_reducible refine gate_callee (f := 62) rfl ?_); refine gL_ 15 Try.func62 #[.pointer (some ⟨g597, 0, none⟩), .int .i64 t604] ?_; (with_reducible refine (spec_l03DrawOf.calls k g597 t594 t605 t606 t604 t607 t608 t609 w _ ?side1 ?side2 A5.out).mono ?_); (case side1 => repeat (first | (with_reducible first | exact HI597.out | apply IsS77.alloc | apply IsS77.drewN | apply IsS77.drew | apply IsS77.set_1 | apply IsS77.set_2) | exact HI597.out)); (case side2 => repeat (first | (with_reducible first | exact HB.out | apply below_alloc | apply pw_below_drewN | apply below_drew1 | refine below_set ?_ (IsS77.ge HI597.out)) | exact HB.out)); rintro e w17 ⟨rfl, hi, hb, hk⟩; refine ⟨_, rfl, ?_⟩; replace HO600 := as_ (Kd.R_mono (Kd.R_keep (IsS77.apart (show IsS77 w _ g597 t594 t605 t606 from hi77_ HI597) (bR_ HO600) (by decide)) hk (fun _ h => h.2)) (fun _ h => h.1)); replace HB := as_ (hb); replace HI597 := as_ (hi); clear hb hk hi) | ((with_reducible refine gate_callee (f := 61) rfl ?_); refine gL_ 16 Try.func61 #[.pointer (some ⟨g597, 0, none⟩), .string t607] ?_; (with_reducible refine (spec_l03Bad.calls g597 t594 t608 t609 t607 t610 t611 t612 w _ ?side1 ?side2 A6.out).mono ?_); (case side1 => repeat (first | (with_reducible first | exact HI597.out | apply IsS77.alloc | apply IsS77.drewN | apply IsS77.drew | apply IsS77.set_1 | apply IsS77.set_2) | exact HI597.out)); (case side2 => repeat (first | (with_reducible first | exact HB.out | apply below_alloc | apply pw_below_drewN | apply below_drew1 | refine below_set ?_ (IsS77.ge HI597.out)) | exact HB.out)); rintro e w18 ⟨rfl, hi, hb, hk⟩; refine ⟨_, rfl, ?_⟩; replace HO600 := as_ (Kd.R_mono (Kd.R_keep (IsS77.apart (show IsS77 w _ g597 t594 t608 t609 from hi77_ HI597) (bR_ HO600) (by decide)) hk (fun _ h => h.2)) (fun _ h => h.1)); replace HB := as_ (hb); replace HI597 := as_ (hi); clear hb hk hi) | ((with_reducible refine gate_dst (N := 22) rfl ?_); refine Kd.R_lit (Kd.int .i64) _ 2 ?hg (N := 22) ?hd (xs := ([5, 14] : List Int)) (inner := [.int .i64 5, .int .i64 14]) (ok := fun _ => True) (okp := fun _ => True) ?hr ?hp (fun _ hk => hk) trivial (Below.refl _ _) (Nat.le_refl _) (by simp) ?_; (case hd => rfl); (case hg => rfl); (case hr => first | (go_simp; done) | (go_simp; rfl)); (case hp => exact (Reps.one (show Kd.M (Kd.int .i64) _ _ _ 5 [.int .i64 5] from rfl) (Reps.one (show Kd.M (Kd.int .i64) _ _ _ 14 [.int .i64 14] from rfl) (Reps.none _ _)))); intro v614 w19 ho20 hb hg_ hnew_; clear hg_ hnew_; (first | rw [← Ny613.out] at ho20 | (simp only [Int.reduceToNat] at ho20; rw [← Ny613.out] at ho20)); have HO615 := as_ (Kd.R_lower (nRR_ ho20 HO600) (below_size (b1_ HB ⟨IsS77.ge HI597.out⟩))); replace HO600 := eR_ HO600 (Kd.R_base ho20) hb; replace HB := as_ (below_step (b1_ HB ⟨IsS77.ge HI597.out⟩) hb); replace HI597 := as_ (IsS77.below (hi77_ HI597) hb); clear hb ho20; obtain ⟨Ao21, co21, eo21⟩ := Kd.R_slice HO615.out; subst eo21) | ((with_reducible refine gate_callee (f := 64) rfl ?_); refine gL_ 23 Try.func64 #[.pointer (some ⟨g597, 0, none⟩), .slice Ao21 y613.length co21] ?_; (with_reducible refine (spec_l01Pick.calls g597 t594 t611 t612 _ _ y613 t616 t617 t618 w _ ?side1 ?side2 ?side3 ?side4 ?side5 A7.out).mono ?_); (case side1 => repeat (first | (with_reducible first | exact HI597.out | apply IsS77.alloc | apply IsS77.drewN | apply IsS77.drew | apply IsS77.set_1 | apply IsS77.set_2) | exact HI597.out)); (case side2 => repeat (first | (with_reducible first | exact HB.out | apply below_alloc | apply pw_below_drewN | apply below_drew1 | refine below_set ?_ (IsS77.ge HI597.out)) | exact HB.out)); (case side3 => exact cC_ (Kd.R_reads' HO615.out).2.2); (case side4 => exact (Kd.R_reads' HO615.out).2.1); (case side5 => exact far_slice (IsS77.own_ne HI597.out HO615.out (by decide))); rintro e w22 ⟨rfl, hi, hb, hk⟩; refine ⟨_, rfl, ?_⟩; replace HO600 := as_ (Kd.R_mono (Kd.R_keep (IsS77.apart (show IsS77 w _ g597 t594 t611 t612 from hi77_ HI597) (bR_ HO600) (by decide)) hk (fun _ h => h.2)) (fun _ h => h.1)); replace HO615 := as_ (Kd.R_mono (Kd.R_keep (IsS77.apart (show IsS77 w _ g597 t594 t611 t612 from hi77_ HI597) (bR_ HO615) (by decide)) hk (fun _ h => h.2)) (fun _ h => h.1)); replace HB := as_ (hb); replace HI597 := as_ (hi); clear hb hk hi) | ((with_reducible refine gate_callee (f := 63) rfl ?_); refine gL_ 24 Try.func63 #[.pointer (some ⟨g597, 0, none⟩), .int .i64 t616] ?_; (with_reducible refine (spec_l01Next.calls g597 t594 t617 t618 t616 t619 t620 t621 w _ ?side1 ?side2 A8.out).mono ?_); (case side1 => repeat (first | (with_reducible first | exact HI597.out | apply IsS77.alloc | apply IsS77.drewN | apply IsS77.drew | apply IsS77.set_1 | apply IsS77.set_2) | exact HI597.out)); (case side2 => repeat (first | (with_reducible first | exact HB.out | apply below_alloc | apply pw_below_drewN | apply below_drew1 | refine below_set ?_ (IsS77.ge HI597.out)) | exact HB.out)); rintro e w23 ⟨rfl, hi, hb, hk⟩; refine ⟨_, rfl, ?_⟩; replace HO600 := as_ (Kd.R_mono (Kd.R_keep (IsS77.apart (show IsS77 w _ g597 t594 t617 t618 from hi77_ HI597) (bR_ HO600) (by decide)) hk (fun _ h => h.2)) (fun _ h => h.1)); replace HO615 := as_ (Kd.R_mono (Kd.R_keep (IsS77.apart (show IsS77 w _ g597 t594 t617 t618 from hi77_ HI597) (bR_ HO615) (by decide)) hk (fun _ h => h.2)) (fun _ h => h.1)); replace HB := as_ (hb); replace HI597 := as_ (hi); clear hb hk hi) | ((with_reducible refine gate_callee (f := 62) rfl ?_); refine gL_ 25 Try.func62 #[.pointer (some ⟨g597, 0, none⟩), .int .i64 t619] ?_; (with_reducible refine (spec_l03DrawOf.calls k g597 t594 t620 t621 t619 t622 t623 t624 w _ ?side1 ?side2 A9.out).mono ?_); (case side1 => repeat (first | (with_reducible first | exact HI597.out | apply IsS77.alloc | apply IsS77.drewN | apply IsS77.drew | apply IsS77.set_1 | apply IsS77.set_2) | exact HI597.out)); (case side2 => repeat (first | (with_reducible first | exact HB.out | apply below_alloc | apply pw_below_drewN | apply below_drew1 | refine below_set ?_ (IsS77.ge HI597.out)) | exact HB.out)); rintro e w24 ⟨rfl, hi, hb, hk⟩; refine ⟨_, rfl, ?_⟩; replace HO600 := as_ (Kd.R_mono (Kd.R_keep (IsS77.apart (show IsS77 w _ g597 t594 t620 t621 from hi77_ HI597) (bR_ HO600) (by decide)) hk (fun _ h => h.2)) (fun _ h => h.1)); replace HO615 := as_ (Kd.R_mono (Kd.R_keep (IsS77.apart (show IsS77 w _ g597 t594 t620 t621 from hi77_ HI597) (bR_ HO615) (by decide)) hk (fun _ h => h.2)) (fun _ h => h.1)); replace HB := as_ (hb); replace HI597 := as_ (hi); clear hb hk hi) | ((with_reducible refine gate_callee (f := 61) rfl ?_); refine gL_ 26 Try.func61 #[.pointer (some ⟨g597, 0, none⟩), .string t622] ?_; (with_reducible refine (spec_l03Bad.calls g597 t594 t623 t624 t622 t625 t626 t627 w _ ?side1 ?side2 A10.out).mono ?_); (case side1 => repeat (first | (with_reducible first | exact HI597.out | apply IsS77.alloc | apply IsS77.drewN | apply IsS77.drew | apply IsS77.set_1 | apply IsS77.set_2) | exact HI597.out)); (case side2 => repeat (first | (with_reducible first | exact HB.out | apply below_alloc | apply pw_below_drewN | apply below_drew1 | refine below_set ?_ (IsS77.ge HI597.out)) | exact HB.out)); rintro e w25 ⟨rfl, hi, hb, hk⟩; refine ⟨_, rfl, ?_⟩; replace HO600 := as_ (Kd.R_mono (Kd.R_keep (IsS77.apart (show IsS77 w _ g597 t594 t623 t624 from hi77_ HI597) (bR_ HO600) (by decide)) hk (fun _ h => h.2)) (fun _ h => h.1)); replace HO615 := as_ (Kd.R_mono (Kd.R_keep (IsS77.apart (show IsS77 w _ g597 t594 t623 t624 from hi77_ HI597) (bR_ HO615) (by decide)) hk (fun _ h => h.2)) (fun _ h => h.1)); replace HB := as_ (hb); replace HI597 := as_ (hi); clear hb hk hi))
  go_ret2
  exact ⟨re_, b1_ HB ⟨IsS77.ge HI597.out⟩⟩

def spec_JoinSides.j0 : Nat → ByteArray → ByteArray → Bool → Option (ByteArray × Int)
  | 0, _, _, _ => none
  | k + 1, x0, x1, x6 => if x6 = true then (some ((⟨#[]⟩ : ByteArray), 1)) else ((spec_l03N.f x0).bind fun t630 => ((spec_l03N.f x1).bind fun t631 => (if (wrap64 (t630 + t631)) ≥ 23 then (some ((⟨#[]⟩ : ByteArray), 3)) else (if 1 + x0.size ≤ 9223372036854775807 then (if ((⟨#[49]⟩ : ByteArray) ++ x0).size + x1.size ≤ 9223372036854775807 then (some (((⟨#[49]⟩ : ByteArray) ++ x0) ++ x1, 0)) else (none)) else (none)))))
def spec_JoinSides.f (k : Nat) (a0 : ByteArray) (a1 : ByteArray) : Option (ByteArray × Int) := (spec_l03Is.f k a0).bind fun t628 => (if t628 = true then ((spec_l03Is.f k a1).bind fun t629 => (spec_JoinSides.j0 k a0 a1 (!t629))) else (spec_JoinSides.j0 k a0 a1 true))
theorem spec_JoinSides.calls (k : Nat) (a0 : ByteArray) (a1 : ByteArray) (r1 : ByteArray) (r2 : Int) (w : World) (h : spec_JoinSides.f k a0 a1 = some (r1, r2)) :
    Calls Try.prog 27 #[.string a0, .string a1] w fun e w' => e = .returned (.tuple #[.string r1, .int .i64 r2]) ∧ Drawn0 w w' := by
  have H : ((spec_l03Is.f k a0).bind fun t628 => (if t628 = true then ((spec_l03Is.f k a1).bind fun t629 => (spec_JoinSides.j0 k a0 a1 (!t629))) else (spec_JoinSides.j0 k a0 a1 true))) = some (r1, r2) := h
  clear h
  have HC3 := as_ H
  clear H
  go_enter Try.func27, Try.ntmps27
  go_upto_region 1 with (fail)
  go_cut [6] (fun v6 wc => ∃ (kq : Nat) (x6_2 : Bool), v6 = .bool x6_2 ∧ Aside0 (spec_JoinSides.j0 kq a0 a1 x6_2 = some (r1, r2)) ∧ Aside0 (kq ≤ k) ∧ Drawn0 w wc)
  case first =>
    have H := HC3.out
    clear HC3
    obtain ⟨t628, A4, H⟩ := bo_ H
    by_cases c5 : t628 = true
    · subst c5
      replace H := it_ H
      obtain ⟨t629, A6, H⟩ := bo_ H
      have H' := as_ H
      clear H
      go_wp2_with (first | ((with_reducible refine gate_callee (f := 48) rfl ?_); refine gL_ 8 Try.func48 #[.string a0] ?_; (with_reducible refine (spec_l03Is.calls k a0 true _ A4.out).mono ?_); rintro e w' ⟨rfl, ⟨nd, rfl⟩⟩; refine ⟨_, rfl, ?_⟩) | (go_at_call 48; (with_reducible refine (spec_l03Is.calls k a1 t629 _ A6.out).mono ?_); rintro e w' ⟨rfl, ⟨nd, rfl⟩⟩))
      go_meet
      case rel => exact ⟨_, (!t629), rf_, H', ⟨by first | omega | exact Nat.le_refl _⟩, d0_⟩
    replace c5 := Bool.eq_false_iff.mpr c5
    subst c5
    replace H := if_ H
    have H' := as_ H
    clear H
    go_wp2_with (first | ((with_reducible refine gate_callee (f := 48) rfl ?_); refine gL_ 8 Try.func48 #[.string a0] ?_; (with_reducible refine (spec_l03Is.calls k a0 false _ A4.out).mono ?_); rintro e w' ⟨rfl, ⟨nd, rfl⟩⟩; refine ⟨_, rfl, ?_⟩))
    go_meet
    case rel => exact ⟨_, (true), rf_, H', ⟨by first | omega | exact Nat.le_refl _⟩, d0_⟩
  case rest =>
    clear HC3
    (try clear c2); (try clear p2); (try clear c4); (try clear c5)
    obtain ⟨kq, x6_2, rfl, HA, HJ2, ⟨mc2, rfl⟩⟩ := hcut
    cases kq with
    | zero => exact absurd HA.out (by simp [spec_JoinSides.j0])
    | succ kj2 =>
      have H := HA.out
      clear HA
      simp only [spec_JoinSides.j0] at H
      by_cases c7 : x6_2 = true
      · subst c7
        replace H := it_ H
        simp only [Option.some.injEq, Prod.mk.injEq] at H
        obtain ⟨rfl, rfl⟩ := H
        go_wp2
        go_ret2
        exact ⟨rf_, d0_⟩
      replace c7 := Bool.eq_false_iff.mpr c7
      subst c7
      replace H := if_ H
      obtain ⟨t630, A8, H⟩ := bo_ H
      obtain ⟨t631, A9, H⟩ := bo_ H
      by_cases c10 : (wrap64 (t630 + t631)) ≥ 23
      · rw [if_pos c10] at H
        have c10b0 := decide_eq_true c10
        clear c10
        simp only [Option.some.injEq, Prod.mk.injEq] at H
        obtain ⟨rfl, rfl⟩ := H
        go_wp2_with (first | ((with_reducible refine gate_callee (f := 65) rfl ?_); refine gL_ 17 Try.func65 #[.string a0] ?_; (with_reducible refine (spec_l03N.calls a0 t630 _ A8.out).mono ?_); rintro e w' ⟨rfl, ⟨nd, rfl⟩⟩; refine ⟨_, rfl, ?_⟩) | ((with_reducible refine gate_callee (f := 65) rfl ?_); refine gL_ 19 Try.func65 #[.string a1] ?_; (with_reducible refine (spec_l03N.calls a1 t631 _ A9.out).mono ?_); rintro e w' ⟨rfl, ⟨nd, rfl⟩⟩; refine ⟨_, rfl, ?_⟩))
        go_ret2
        exact ⟨rf_, d0_⟩
      rw [if_neg c10] at H
      have c10b0 := decide_eq_false c10
      clear c10
      obtain ⟨c11, H⟩ := ite_s H
      have c11b0 := eq_true c11
      have c11b1 := decide_eq_true c11
      try have c11b2 : (9223372036854775807 < 1 + a0.size) = False := eq_false (Nat.not_lt.2 c11)
      obtain ⟨c12, H⟩ := ite_s H
      have c12b0 := eq_true c12
      have c12b1 := decide_eq_true c12
      try have c12b2 : (9223372036854775807 < ((⟨#[49]⟩ : ByteArray) ++ a0).size + a1.size) = False := eq_false (Nat.not_lt.2 c12)
      try have c12b3 : (9223372036854775807 < 1 + a0.size + a1.size) = False := eq_false (by have z_ := c12; simp only [ByteArray.size_append, ByteArray.size_extract, decide_eq_true_eq, eq_iff_iff, iff_true, (show (⟨#[49]⟩ : ByteArray).size = 1 from rfl)] at *; first | omega | (simp at z_; omega))
      simp only [Option.some.injEq, Prod.mk.injEq] at H
      obtain ⟨rfl, rfl⟩ := H
      go_wp2_with (first | ((with_reducible refine gate_callee (f := 65) rfl ?_); refine gL_ 17 Try.func65 #[.string a0] ?_; (with_reducible refine (spec_l03N.calls a0 t630 _ A8.out).mono ?_); rintro e w' ⟨rfl, ⟨nd, rfl⟩⟩; refine ⟨_, rfl, ?_⟩) | ((with_reducible refine gate_callee (f := 65) rfl ?_); refine gL_ 19 Try.func65 #[.string a1] ?_; (with_reducible refine (spec_l03N.calls a1 t631 _ A9.out).mono ?_); rintro e w' ⟨rfl, ⟨nd, rfl⟩⟩; refine ⟨_, rfl, ?_⟩))
      go_ret2
      exact ⟨rf_, d0_⟩

def spec_DrawTreeOfBinary.f (k : Nat) (l0 : List Int) : Option (ByteArray) := (spec_l03Spoil.f k l0).bind fun t632 => (some t632)
theorem spec_DrawTreeOfBinary.calls (k : Nat) (A0 : Option Addr) (c0 : Nat) (l0 : List Int) (r : ByteArray) (w : World) (hr0 : Kd.C (Kd.int .u8) w A0 l0.length l0) (hc0 : l0.length ≤ c0) (h : spec_DrawTreeOfBinary.f k l0 = some r) :
    Calls Try.prog 28 #[.slice A0 l0.length c0] w fun e w' => e = .returned (.string r) ∧ Below w.heap.size w w' := by
  have HR0 := as_ hr0
  have HC0 := as_ hc0
  clear hr0 hc0
  have HB := as_ (Below.refl w.heap.size w)
  have H : ((spec_l03Spoil.f k l0).bind fun t632 => (some t632)) = some r := h
  clear h
  obtain ⟨t632, A2, H⟩ := bo_ H
  obtain rfl := Option.some.inj H
  go_enter Try.func28, Try.ntmps28
  go_wp2_with (first | ((with_reducible refine gate_callee (f := 46) rfl ?_); refine gL_ 4 Try.func46 #[.slice A0 l0.length c0] ?_; (with_reducible refine (spec_l03Spoil.calls k _ _ l0 t632 _ ?side1 ?side2 A2.out).mono ?_); (case side1 => exact cC_ HR0.out); (case side2 => exact HC0.out); rintro e w3 ⟨rfl, hb⟩; refine ⟨_, rfl, ?_⟩; replace HB := as_ (below_step (b_ HB) hb); clear hb))
  go_ret
  exact ⟨re_, b_ HB⟩

def spec_l03Forest.f : Nat → ByteArray → Option (List Int × Int)
  | 0, _ => none
  | k + 1, a0 => if a0.toList = ([48] : List UInt8) then (some ((([] : List Int)), 0)) else ((spec_l03Sides.f k a0).bind fun bt636 => ((spec_l03Forest.f k bt636.1).bind fun bt638 => ((spec_l03Forest.f k bt636.2).bind fun bt642 => ((some (([bt638.2] : List Int) : List Int)).bind fun y646 => (if y646.length + bt638.1.length < 17592186044416 then ((some (y646 ++ bt638.1 : List Int)).bind fun y649 => (if y649.length + bt642.1.length < 17592186044416 then (some ((y649 ++ bt642.1), wrap64 (bt642.2 + 1))) else (none))) else (none))))))
theorem spec_l03Forest.calls (k : Nat) : ∀ (a0 : ByteArray) (r1 : List Int) (r2 : Int) (w : World) (h : spec_l03Forest.f k a0 = some (r1, r2)),
    Calls Try.prog 66 #[.string a0] w fun e w' => ∃ v0_ : Value, e = .returned (.tuple #[v0_, .int .i64 r2]) ∧ Kd.R (Kd.int .i64) 2 w' w.heap.size (fun _ => True) v0_ r1 ∧ Below w.heap.size w w' := by
  induction k using Nat.strongRecOn with
  | _ k ih =>
  intro a0 r1 r2 w h
  cases k with
  | zero => exact absurd h (by simp [spec_l03Forest.f])
  | succ k =>
  simp only [spec_l03Forest.f] at h
  have HB := as_ (Below.refl w.heap.size w)
  have H : (if a0.toList = ([48] : List UInt8) then (some ((([] : List Int)), 0)) else ((spec_l03Sides.f k a0).bind fun bt636 => ((spec_l03Forest.f k bt636.1).bind fun bt638 => ((spec_l03Forest.f k bt636.2).bind fun bt642 => ((some (([bt638.2] : List Int) : List Int)).bind fun y646 => (if y646.length + bt638.1.length < 17592186044416 then ((some (y646 ++ bt638.1 : List Int)).bind fun y649 => (if y649.length + bt642.1.length < 17592186044416 then (some ((y649 ++ bt642.1), wrap64 (bt642.2 + 1))) else (none))) else (none))))))) = some (r1, r2) := h
  clear h
  by_cases c2 : a0.toList = ([48] : List UInt8)
  · rw [if_pos c2] at H
    have c2b0 := beq_iff_eq.mpr c2
    have c2b1 := bne_eq_false_iff_eq.mpr c2
    clear c2
    obtain ⟨y633, hy633⟩ := ex_ (([] : List Int) : List Int)
    replace H : (some (y633, 0)) = some (r1, r2) := yr_ hy633 H
    have Ny633 := as_ hy633
    clear hy633
    simp only [Option.some.injEq, Prod.mk.injEq] at H
    obtain ⟨rfl, rfl⟩ := H
    go_enter Try.func66, Try.ntmps66
    go_wp2_with (first | ((with_reducible refine gate_dst (N := 12) rfl ?_); refine Kd.R_lit (Kd.int .i64) _ 2 ?hg (N := 12) ?hd (xs := ([] : List Int)) (inner := []) (ok := fun _ => True) (okp := fun _ => True) ?hr ?hp (fun _ hk => hk) trivial (Below.refl _ _) (Nat.le_refl _) (by simp) ?_; (case hd => rfl); (case hg => rfl); (case hr => first | (go_simp; done) | (go_simp; rfl)); (case hp => exact (Reps.none _ _)); intro v634 w3 ho4 hb hg_ hnew_; clear hg_ hnew_; (first | rw [← Ny633.out] at ho4 | (simp only [Int.reduceToNat] at ho4; rw [← Ny633.out] at ho4)); have HO635 := as_ (Kd.R_lower ho4 (below_size (b_ HB))); replace HB := as_ (below_step (b_ HB) hb); clear hb ho4))
    go_ret2
    exact ⟨_, re_, bR_ HO635, b_ HB⟩
  rw [if_neg c2] at H
  have c2b0 := beq_eq_false_iff_ne.mpr c2
  have c2b1 := bne_iff_ne.mpr c2
  obtain ⟨⟨t636, t637⟩, A5, H⟩ := bo_ H
  dsimp only at H
  obtain ⟨⟨t638, t639⟩, A6, H⟩ := bo_ H
  dsimp only at H
  obtain ⟨⟨t642, t643⟩, A7, H⟩ := bo_ H
  dsimp only at H
  obtain ⟨y646, hy646⟩ := ex_ (([t639] : List Int) : List Int)
  replace H : (if y646.length + t638.length < 17592186044416 then ((some (y646 ++ t638 : List Int)).bind fun y649 => (if y649.length + t642.length < 17592186044416 then (some ((y649 ++ t642), wrap64 (t643 + 1))) else (none))) else (none)) = some (r1, r2) := yr_ hy646 H
  have Ny646 := as_ hy646
  clear hy646
  obtain ⟨c8, H⟩ := ite_s H
  have LMc8 := as_ c8
  clear c8
  obtain ⟨y649, hy649⟩ := ex_ (y646 ++ t638 : List Int)
  replace H : (if y649.length + t642.length < 17592186044416 then (some ((y649 ++ t642), wrap64 (t643 + 1))) else (none)) = some (r1, r2) := yr_ hy649 H
  have Ny649 := as_ hy649
  clear hy649
  obtain ⟨c9, H⟩ := ite_s H
  have LMc9 := as_ c9
  clear c9
  obtain ⟨y652, hy652⟩ := ex_ (y649 ++ t642 : List Int)
  replace H : (some (y652, wrap64 (t643 + 1))) = some (r1, r2) := yr_ hy652 H
  have Ny652 := as_ hy652
  clear hy652
  simp only [Option.some.injEq, Prod.mk.injEq] at H
  obtain ⟨rfl, rfl⟩ := H
  go_enter Try.func66, Try.ntmps66
  go_wp2_with (first | ((with_reducible refine gate_callee (f := 71) rfl ?_); refine gL_ 15 Try.func71 #[.string a0] ?_; (with_reducible refine (spec_l03Sides.calls k a0 t636 t637 _ A5.out).mono ?_); rintro e w' ⟨rfl, ⟨nd, rfl⟩⟩; refine ⟨_, rfl, ?_⟩) | ((with_reducible refine gate_callee (f := 66) rfl ?_); refine gL_ 20 Try.func66 #[.string t636] ?_; (with_reducible refine (ih k (by omega) t636 t638 t639 _ A6.out).mono ?_); rintro e w10 ⟨v640, rfl, ho0, hb⟩; refine ⟨_, rfl, ?_⟩; have HO641 := as_ (Kd.R_lower ho0 (below_size (b_ HB))); replace HB := as_ (below_step (b_ HB) hb); clear hb ho0) | ((with_reducible refine gate_callee (f := 66) rfl ?_); refine gL_ 25 Try.func66 #[.string t637] ?_; (with_reducible refine (ih k (by omega) t637 t642 t643 _ A7.out).mono ?_); rintro e w11 ⟨v644, rfl, ho0, hb⟩; refine ⟨_, rfl, ?_⟩; have HO645 := as_ (Kd.R_lower (nRR_ ho0 HO641) (below_size (b_ HB))); replace HO641 := eR_ HO641 (Kd.R_base ho0) hb; replace HB := as_ (below_step (b_ HB) hb); clear hb ho0) | ((with_reducible refine gate_dst (N := 29) rfl ?_); refine Kd.R_lit (Kd.int .i64) _ 2 ?hg (N := 29) ?hd (xs := ([t639] : List Int)) (inner := [.int .i64 t639]) (ok := fun _ => True) (okp := fun _ => True) ?hr ?hp (fun _ hk => hk) trivial (Below.refl _ _) (Nat.le_refl _) (by simp) ?_; (case hd => rfl); (case hg => rfl); (case hr => first | (go_simp; done) | (go_simp; rfl)); (case hp => exact (Reps.one (show Kd.M (Kd.int .i64) _ _ _ t639 [.int .i64 t639] from rfl) (Reps.none _ _))); intro v647 w12 ho13 hb hg_ hnew_; clear hg_ hnew_; (first | rw [← Ny646.out] at ho13 | (simp only [Int.reduceToNat] at ho13; rw [← Ny646.out] at ho13)); have HO648 := as_ (Kd.R_lower (nRR_ (nRR_ ho13 HO641) HO645) (below_size (b_ HB))); replace HO641 := eR_ HO641 (Kd.R_base ho13) hb; replace HO645 := eR_ HO645 (Kd.R_base ho13) hb; replace HB := as_ (below_step (b_ HB) hb); clear hb ho13; obtain ⟨Ao15, co15, eo15⟩ := Kd.R_slice HO641.out; subst eo15) | ((with_reducible refine gate_builtin (b := .append) (xs := #[.tmp 29, .tmp 30]) rfl ?_); at_builtin; refine Kd.R_append_rows (Kd.int .i64) (w0 := w) w.heap.size rfl (.tmp 29) (.tmp 30) 24 2 (.int .i64 0) 8 rfl Try.underlying24 info2 rfl (by decide) (by omega) v647 y646 t638 _ _ _ (fun k_ => some k_ ≠ (.slice Ao15 t638.length co15 : Value).ownBlock ∧ some k_ ≠ (v644 : Value).ownBlock) (fun _ => False) rfl rfl ?aO ?aR (fun _ _ h => h) (fun _ h => h.elim) ?aF ?aB ?aS ?aL ?_; (case aR => exact cC_ (Kd.R_reads' HO641.out).2.2); (case aB => exact (b_ HB)); (case aF => exact (fun k_ hk => ⟨Kd.fresh' (Kd.R_lt (bR_ HO641)) k_ hk, Kd.fresh' (Kd.R_lt (bR_ HO645)) k_ hk⟩)); (case aO => exact (mR_ HO648)); (case aS => exact (below_size (b_ HB))); (case aL => have := LMc8.out; omega); intro v650 w14 ho hb hg hat; rw [← Ny649.out] at ho; replace HO641 := as_ (Kd.R_after (ok := (fun k_ => some k_ ≠ (v644 : Value).ownBlock)) (mR_ HO641) hg hat); replace HO645 := as_ (Kd.R_after (ok := (fun k_ => some k_ ≠ (.slice Ao15 t638.length co15 : Value).ownBlock)) (mR_ HO645) hg hat); replace HB := as_ (hb); have HO651 := as_ (ho); clear HO648; clear ho hb hg hat; obtain ⟨Ao17, co17, eo17⟩ := Kd.R_slice HO645.out; subst eo17) | ((with_reducible refine gate_builtin (b := .append) (xs := #[.tmp 31, .tmp 32]) rfl ?_); at_builtin; refine Kd.R_append_rows (Kd.int .i64) (w0 := w) w.heap.size rfl (.tmp 31) (.tmp 32) 24 2 (.int .i64 0) 8 rfl Try.underlying24 info2 rfl (by decide) (by omega) v650 y649 t642 _ _ _ (fun k_ => some k_ ≠ (.slice Ao15 t638.length co15 : Value).ownBlock ∧ some k_ ≠ (.slice Ao17 t642.length co17 : Value).ownBlock) (fun _ => False) rfl rfl ?aO ?aR (fun _ _ h => h) (fun _ h => h.elim) ?aF ?aB ?aS ?aL ?_; (case aR => exact cC_ (Kd.R_reads' HO645.out).2.2); (case aB => exact (b_ HB)); (case aF => exact (fun k_ hk => ⟨Kd.fresh' (Kd.R_lt (bR_ HO641)) k_ hk, Kd.fresh' (Kd.R_lt (bR_ HO645)) k_ hk⟩)); (case aO => exact (bR_ HO651)); (case aS => exact (below_size (b_ HB))); (case aL => have := LMc9.out; omega); intro v653 w16 ho hb hg hat; rw [← Ny652.out] at ho; replace HO641 := as_ (Kd.R_after (ok := (fun k_ => some k_ ≠ (.slice Ao17 t642.length co17 : Value).ownBlock)) (bR_ HO641) hg hat); replace HO645 := as_ (Kd.R_after (ok := (fun k_ => some k_ ≠ (.slice Ao15 t638.length co15 : Value).ownBlock)) (bR_ HO645) hg hat); replace HB := as_ (hb); have HO654 := as_ (ho); clear HO651; clear ho hb hg hat))
  go_ret2
  exact ⟨_, re_, mR_ HO654, b_ HB⟩

def spec_TreeOfBinary.f (k : Nat) (a0 : ByteArray) : Option (List Int × Int) := (spec_l03Is.f k a0).bind fun t656 => (if t656 = true then ((spec_l03Forest.f k a0).bind fun bt657 => ((some (([bt657.2] : List Int) : List Int)).bind fun y661 => (if y661.length + bt657.1.length < 17592186044416 then (some ((y661 ++ bt657.1), 0)) else (none)))) else (some (([] : List Int), 1)))
theorem spec_TreeOfBinary.calls (k : Nat) (a0 : ByteArray) (r1 : List Int) (r2 : Int) (w : World) (h : spec_TreeOfBinary.f k a0 = some (r1, r2)) :
    Calls Try.prog 29 #[.string a0] w fun e w' => ∃ v0_ : Value, e = .returned (.tuple #[.agg #[v0_], .int .i64 r2]) ∧ Kd.R (Kd.int .i64) 2 w' w.heap.size (fun _ => True) v0_ r1 ∧ Below w.heap.size w w' := by
  have hu26 := Try.underlying26
  have HB := as_ (Below.refl w.heap.size w)
  have H : ((spec_l03Is.f k a0).bind fun t656 => (if t656 = true then ((spec_l03Forest.f k a0).bind fun bt657 => ((some (([bt657.2] : List Int) : List Int)).bind fun y661 => (if y661.length + bt657.1.length < 17592186044416 then (some ((y661 ++ bt657.1), 0)) else (none)))) else (some (([] : List Int), 1)))) = some (r1, r2) := h
  clear h
  obtain ⟨t656, A2, H⟩ := bo_ H
  by_cases c3 : t656 = true
  rotate_left
  · replace c3 := Bool.eq_false_iff.mpr c3
    subst c3
    replace H := if_ H
    simp only [Option.some.injEq, Prod.mk.injEq] at H
    obtain ⟨rfl, rfl⟩ := H
    go_enter Try.func29, Try.ntmps29
    go_wp2_with (first | ((with_reducible refine gate_dst (N := 2) rfl ?_); refine bx_ 2 #[.slice none 0 0] 26 ?_; intro gb655 hg w14 hbox hb; have BK655 := as_ (hbox); have GW655 := gz_ hg (b_ HB); have GE655 := GW655; replace HB := as_ (below_step (b_ HB) hb); clear hb hbox hg) | ((with_reducible refine gate_callee (f := 48) rfl ?_); refine gL_ 7 Try.func48 #[.string a0] ?_; (with_reducible refine (spec_l03Is.calls k a0 false _ A2.out).mono ?_); rintro e w' ⟨rfl, ⟨nd, rfl⟩⟩; refine ⟨_, rfl, ?_⟩; (try (rw [drewN_self w14]; generalize hq_ : World.drewN w14 _ = w14; replace BK655 : Aside0 (w14.heap[gb655]? = some (.cells #[.slice none 0 0] 26 (0, 0))) := ⟨by rw [← hq_]; exact (bk_ BK655)⟩; replace HB : Aside0 (Below w.heap.size w w14) := ⟨by rw [← hq_]; exact (b1_ HB GE655)⟩; clear hq_)); obtain ⟨hcz15_0, hfz15_0⟩ := tc1_ BK655))
    refine bodyPost_ret (results_ct rfl _ _ gb655 26 #[.slice none 0 0] (0, 0) _ rfl (bp_ BK655) Try.underlying26 rfl (by kernel_rfl)) rfl ?_
    exact ⟨_, re_, by first | exact Kd.R_nil _ _ _ _ _ | exact Kd.N_nil _ _ _ _ _ | exact Kd.V_nil _ _ _ _ _ | exact Kd.Q_nil _ _ _ _ _ | exact Kd.S_nil _ _ _ _ _, b1_ HB GE655⟩
  subst c3
  replace H := it_ H
  obtain ⟨⟨t657, t658⟩, A4, H⟩ := bo_ H
  dsimp only at H
  obtain ⟨y661, hy661⟩ := ex_ (([t658] : List Int) : List Int)
  replace H : (if y661.length + t657.length < 17592186044416 then (some ((y661 ++ t657), 0)) else (none)) = some (r1, r2) := yr_ hy661 H
  have Ny661 := as_ hy661
  clear hy661
  obtain ⟨c5, H⟩ := ite_s H
  have LMc5 := as_ c5
  clear c5
  obtain ⟨y664, hy664⟩ := ex_ (y661 ++ t657 : List Int)
  replace H : (some (y664, 0)) = some (r1, r2) := yr_ hy664 H
  have Ny664 := as_ hy664
  clear hy664
  simp only [Option.some.injEq, Prod.mk.injEq] at H
  obtain ⟨rfl, rfl⟩ := H
  go_enter Try.func29, Try.ntmps29
  go_wp2_with (first | ((with_reducible refine gate_dst (N := 2) rfl ?_); refine bx_ 2 #[.slice none 0 0] 26 ?_; intro gb655 hg w6 hbox hb; have BK655 := as_ (hbox); have GW655 := gz_ hg (b_ HB); have GE655 := GW655; replace HB := as_ (below_step (b_ HB) hb); clear hb hbox hg) | ((with_reducible refine gate_callee (f := 48) rfl ?_); refine gL_ 7 Try.func48 #[.string a0] ?_; (with_reducible refine (spec_l03Is.calls k a0 true _ A2.out).mono ?_); rintro e w' ⟨rfl, ⟨nd, rfl⟩⟩; refine ⟨_, rfl, ?_⟩; (try (rw [drewN_self w6]; generalize hq_ : World.drewN w6 _ = w6; replace BK655 : Aside0 (w6.heap[gb655]? = some (.cells #[.slice none 0 0] 26 (0, 0))) := ⟨by rw [← hq_]; exact (bk_ BK655)⟩; replace HB : Aside0 (Below w.heap.size w w6) := ⟨by rw [← hq_]; exact (b1_ HB GE655)⟩; clear hq_))) | ((with_reducible refine gate_callee (f := 66) rfl ?_); refine gL_ 12 Try.func66 #[.string a0] ?_; (with_reducible refine (spec_l03Forest.calls k a0 t657 t658 _ A4.out).mono ?_); rintro e w7 ⟨v659, rfl, ho0, hb⟩; refine ⟨_, rfl, ?_⟩; have HO660 := as_ (Kd.R_lower ho0 (below_size (b1_ HB GE655))); replace BK655 := kb_ BK655 hb; replace HB := as_ (below_step (b1_ HB GE655) hb); clear hb ho0) | ((with_reducible refine gate_dst (N := 16) rfl ?_); refine Kd.R_lit (Kd.int .i64) _ 2 ?hg (N := 16) ?hd (xs := ([t658] : List Int)) (inner := [.int .i64 t658]) (ok := fun _ => True) (okp := fun _ => True) ?hr ?hp (fun _ hk => hk) trivial (Below.refl _ _) (Nat.le_refl _) (by simp) ?_; (case hd => rfl); (case hg => rfl); (case hr => first | (go_simp; done) | (go_simp; rfl)); (case hp => exact (Reps.one (show Kd.M (Kd.int .i64) _ _ _ t658 [.int .i64 t658] from rfl) (Reps.none _ _))); intro v662 w8 ho9 hb hg_ hnew_; clear hg_ hnew_; (first | rw [← Ny661.out] at ho9 | (simp only [Int.reduceToNat] at ho9; rw [← Ny661.out] at ho9)); have HO663 := as_ (Kd.R_lower (nRR_ ho9 HO660) (below_size (b1_ HB GE655))); replace HO660 := eR_ HO660 (Kd.R_base ho9) hb; replace BK655 := kb_ BK655 hb; replace HB := as_ (below_step (b1_ HB GE655) hb); clear hb ho9; obtain ⟨Ao11, co11, eo11⟩ := Kd.R_slice HO660.out; subst eo11) | ((with_reducible refine gate_builtin (b := .append) (xs := #[.tmp 16, .tmp 17]) rfl ?_); at_builtin; refine Kd.R_append_rows (Kd.int .i64) (w0 := w) w.heap.size rfl (.tmp 16) (.tmp 17) 24 2 (.int .i64 0) 8 rfl Try.underlying24 info2 rfl (by decide) (by omega) v662 y661 t657 _ _ _ (fun k_ => some k_ ≠ (.slice Ao11 t657.length co11 : Value).ownBlock) (fun _ => False) rfl rfl ?aO ?aR (fun _ _ h => h) (fun _ h => h.elim) ?aF ?aB ?aS ?aL ?_; (case aR => exact cC_ (Kd.R_reads' HO660.out).2.2); (case aB => exact (b1_ HB GE655)); (case aF => exact (fun k_ hk => Kd.fresh' (Kd.R_lt (bR_ HO660)) k_ hk)); (case aO => exact (mR_ HO663)); (case aS => exact (below_size (b1_ HB GE655))); (case aL => have := LMc5.out; omega); intro v665 w10 ho hb hg hat; rw [← Ny664.out] at ho; replace BK655 := as_ (blk_grown (bk_ BK655) hg (Kd.R_ne HO663.out BK655.out (by decide))); replace HO660 := as_ (Kd.R_after (ok := (fun _ => True)) (bR_ HO660) hg hat); replace HB := as_ (hb); have HO666 := as_ (ho); clear HO663; clear ho hb hg hat; obtain ⟨Ao12, co12, eo12⟩ := Kd.R_slice HO666.out; subst eo12; obtain ⟨hcz13_0, hfz13_0⟩ := tc1_ BK655))
  refine bodyPost_ret (results_ct rfl _ _ gb655 26 #[.slice Ao12 y664.length co12] (0, 0) _ rfl (bp_ BK655) Try.underlying26 rfl (by kernel_rfl)) rfl ?_
  exact ⟨_, re_, fR1_ HO666 BK655, b1_ HB GE655⟩

def spec_DrawBinaryOfVector.f (k : Nat) (l0 : List Int) : Option (List Int) := (spec_l01From.f k l0).bind fun bt667 => ((spec_l03Draw.f k bt667.1 bt667.2.1 bt667.2.2).bind fun bt671 => ((spec_l03Vector.f k bt671.1).bind fun t674 => (if (t674.length : Int) > 0 then ((spec_l01Next.f bt667.1 bt671.2.1 bt671.2.2 8).bind fun bt677 => (if bt677.1 = 0 then ((spec_l01Next.f bt667.1 bt677.2.1 bt677.2.2 (t674.length : Int)).bind fun bt680 => ((spec_l01Pick.f bt667.1 bt680.2.1 bt680.2.2 (([0, 1, 2, (-1), 24] : List Int))).bind fun bt686 => (if 0 ≤ bt680.1 then (if bt680.1 < (t674.length : Int) then (some (t674.set (bt680.1 : Int).toNat bt686.1)) else (none)) else (none)))) else (if bt677.1 = 1 then (if t674.length < 17592186044416 then (some (t674 ++ [0])) else (none)) else (if bt677.1 = 2 then (if 1 ≤ (t674.length : Int) then (some (t674.drop (1 : Int).toNat)) else (none)) else (some t674))))) else (some t674))))
theorem spec_DrawBinaryOfVector.calls (k : Nat) (A0 : Option Addr) (c0 : Nat) (l0 : List Int) (r : List Int) (w : World) (hr0 : Kd.C (Kd.int .u8) w A0 l0.length l0) (hc0 : l0.length ≤ c0) (h : spec_DrawBinaryOfVector.f k l0 = some r) :
    Calls Try.prog 30 #[.slice A0 l0.length c0] w fun e w' => ∃ v0_ : Value, e = .returned (v0_) ∧ Kd.Q (Kd.int .i64) 2 w' w.heap.size (fun _ => True) v0_ r ∧ Below w.heap.size w w' := by
  have HR0 := as_ hr0
  have HC0 := as_ hc0
  clear hr0 hc0
  have HB := as_ (Below.refl w.heap.size w)
  have H : ((spec_l01From.f k l0).bind fun bt667 => ((spec_l03Draw.f k bt667.1 bt667.2.1 bt667.2.2).bind fun bt671 => ((spec_l03Vector.f k bt671.1).bind fun t674 => (if (t674.length : Int) > 0 then ((spec_l01Next.f bt667.1 bt671.2.1 bt671.2.2 8).bind fun bt677 => (if bt677.1 = 0 then ((spec_l01Next.f bt667.1 bt677.2.1 bt677.2.2 (t674.length : Int)).bind fun bt680 => ((spec_l01Pick.f bt667.1 bt680.2.1 bt680.2.2 (([0, 1, 2, (-1), 24] : List Int))).bind fun bt686 => (if 0 ≤ bt680.1 then (if bt680.1 < (t674.length : Int) then (some (t674.set (bt680.1 : Int).toNat bt686.1)) else (none)) else (none)))) else (if bt677.1 = 1 then (if t674.length < 17592186044416 then (some (t674 ++ [0])) else (none)) else (if bt677.1 = 2 then (if 1 ≤ (t674.length : Int) then (some (t674.drop (1 : Int).toNat)) else (none)) else (some t674))))) else (some t674))))) = some r := h
  clear h
  obtain ⟨⟨t667, t668, t669⟩, A2, H⟩ := bo_ H
  dsimp only at H
  obtain ⟨⟨t671, t672, t673⟩, A3, H⟩ := bo_ H
  dsimp only at H
  obtain ⟨t674, A4, H⟩ := bo_ H
  by_cases c5 : (t674.length : Int) > 0
  rotate_left
  · rw [if_neg c5] at H
    have c5b0 : decide (0 < (t674.length : Int)) = false := decide_eq_false c5
    have c5b1 : decide (0 < t674.length) = false := decide_eq_false (by omega)
    clear c5
    obtain rfl := Option.some.inj H
    go_enter Try.func30, Try.ntmps30
    go_wp2_with (first | ((with_reducible refine gate_callee (f := 37) rfl ?_); refine gL_ 6 Try.func37 #[.slice A0 l0.length c0] ?_; (with_reducible refine (spec_l01From.calls k _ _ l0 t667 t668 t669 w _ ?side1 ?side2 ?side3 A2.out).mono ?_); (case side1 => repeat (first | (with_reducible first | exact HB.out | apply below_alloc | apply pw_below_drewN | apply below_drew1) | exact HB.out)); (case side2 => exact HR0.out); (case side3 => exact HC0.out); rintro e w46 ⟨g670, rfl, hi, hb, hb2⟩; refine ⟨_, rfl, ?_⟩; replace HB := as_ (hb); have HI670 := as_ (hi); clear hb hb2 hi) | ((with_reducible refine gate_callee (f := 67) rfl ?_); refine gL_ 8 Try.func67 #[.pointer (some ⟨g670, 0, none⟩)] ?_; (with_reducible refine (spec_l03Draw.calls k g670 t667 t668 t669 t671 t672 t673 w _ ?side1 ?side2 A3.out).mono ?_); (case side1 => repeat (first | (with_reducible first | exact HI670.out | apply IsS77.alloc | apply IsS77.drewN | apply IsS77.drew | apply IsS77.set_1 | apply IsS77.set_2) | exact HI670.out)); (case side2 => repeat (first | (with_reducible first | exact HB.out | apply below_alloc | apply pw_below_drewN | apply below_drew1 | refine below_set ?_ (IsS77.ge HI670.out)) | exact HB.out)); rintro e w47 ⟨rfl, hi, hb, hk⟩; refine ⟨_, rfl, ?_⟩; replace HB := as_ (hb); replace HI670 := as_ (hi); clear hb hk hi) | ((with_reducible refine gate_callee (f := 49) rfl ?_); refine gL_ 9 Try.func49 #[.string t671] ?_; (with_reducible refine (spec_l03Vector.calls k t671 t674 _ A4.out).mono ?_); rintro e w48 ⟨v675, rfl, ho0, hb⟩; refine ⟨_, rfl, ?_⟩; have HO676 := as_ (Kd.R_lower ho0 (below_size (b1_ HB ⟨IsS77.ge HI670.out⟩))); replace HB := as_ (below_step (b1_ HB ⟨IsS77.ge HI670.out⟩) hb); replace HI670 := as_ (IsS77.below (hi77_ HI670) hb); clear hb ho0; obtain ⟨Ao49, co49, eo49⟩ := Kd.R_slice HO676.out; subst eo49))
    go_ret
    exact ⟨_, re_, Kd.Q_of_R (bR_ HO676), b1_ HB ⟨IsS77.ge HI670.out⟩⟩
  rw [if_pos c5] at H
  have c5b0 : decide (0 < (t674.length : Int)) = true := decide_eq_true c5
  have c5b1 : decide (0 < t674.length) = true := decide_eq_true (by omega)
  clear c5
  obtain ⟨⟨t677, t678, t679⟩, A6, H⟩ := bo_ H
  dsimp only at H
  by_cases c7 : t677 = 0
  · rw [if_pos c7] at H
    have c7b0 := beq_iff_eq.mpr c7
    have c7b1 := bne_eq_false_iff_eq.mpr c7
    clear c7
    obtain ⟨⟨t680, t681, t682⟩, A8, H⟩ := bo_ H
    dsimp only at H
    obtain ⟨y683, hy683⟩ := ex_ (([0, 1, 2, (-1), 24] : List Int) : List Int)
    replace H : ((spec_l01Pick.f t667 t681 t682 y683).bind fun bt686 => (if 0 ≤ t680 then (if t680 < (t674.length : Int) then (some (t674.set (t680 : Int).toNat bt686.1)) else (none)) else (none))) = some r := yr_ hy683 H
    have Ny683 := as_ hy683
    clear hy683
    obtain ⟨⟨t686, t687, t688⟩, A9, H⟩ := bo_ H
    dsimp only at H
    obtain ⟨c10b0, H⟩ := ite_d H
    obtain ⟨c11b0, H⟩ := ite_d H
    obtain ⟨y689, hy689⟩ := ex_ (t674.set (t680 : Int).toNat t686 : List Int)
    replace H : (some y689) = some r := yr_ hy689 H
    have Ny689 := as_ hy689
    clear hy689
    obtain rfl := Option.some.inj H
    go_enter Try.func30, Try.ntmps30
    go_wp2_with (first | ((with_reducible refine gate_callee (f := 37) rfl ?_); refine gL_ 6 Try.func37 #[.slice A0 l0.length c0] ?_; (with_reducible refine (spec_l01From.calls k _ _ l0 t667 t668 t669 w _ ?side1 ?side2 ?side3 A2.out).mono ?_); (case side1 => repeat (first | (with_reducible first | exact HB.out | apply below_alloc | apply pw_below_drewN | apply below_drew1) | exact HB.out)); (case side2 => exact HR0.out); (case side3 => exact HC0.out); rintro e w13 ⟨g670, rfl, hi, hb, hb2⟩; refine ⟨_, rfl, ?_⟩; replace HB := as_ (hb); have HI670 := as_ (hi); clear hb hb2 hi) | ((with_reducible refine gate_callee (f := 67) rfl ?_); refine gL_ 8 Try.func67 #[.pointer (some ⟨g670, 0, none⟩)] ?_; (with_reducible refine (spec_l03Draw.calls k g670 t667 t668 t669 t671 t672 t673 w _ ?side1 ?side2 A3.out).mono ?_); (case side1 => repeat (first | (with_reducible first | exact HI670.out | apply IsS77.alloc | apply IsS77.drewN | apply IsS77.drew | apply IsS77.set_1 | apply IsS77.set_2) | exact HI670.out)); (case side2 => repeat (first | (with_reducible first | exact HB.out | apply below_alloc | apply pw_below_drewN | apply below_drew1 | refine below_set ?_ (IsS77.ge HI670.out)) | exact HB.out)); rintro e w14 ⟨rfl, hi, hb, hk⟩; refine ⟨_, rfl, ?_⟩; replace HB := as_ (hb); replace HI670 := as_ (hi); clear hb hk hi) | ((with_reducible refine gate_callee (f := 49) rfl ?_); refine gL_ 9 Try.func49 #[.string t671] ?_; (with_reducible refine (spec_l03Vector.calls k t671 t674 _ A4.out).mono ?_); rintro e w15 ⟨v675, rfl, ho0, hb⟩; refine ⟨_, rfl, ?_⟩; have HO676 := as_ (Kd.R_lower ho0 (below_size (b1_ HB ⟨IsS77.ge HI670.out⟩))); replace HB := as_ (below_step (b1_ HB ⟨IsS77.ge HI670.out⟩) hb); replace HI670 := as_ (IsS77.below (hi77_ HI670) hb); clear hb ho0; obtain ⟨Ao16, co16, eo16⟩ := Kd.R_slice HO676.out; subst eo16) | ((with_reducible refine gate_callee (f := 63) rfl ?_); refine gL_ 14 Try.func63 #[.pointer (some ⟨g670, 0, none⟩), .int .i64 8] ?_; (with_reducible refine (spec_l01Next.calls g670 t667 t672 t673 8 t677 t678 t679 w _ ?side1 ?side2 A6.out).mono ?_); (case side1 => repeat (first | (with_reducible first | exact HI670.out | apply IsS77.alloc | apply IsS77.drewN | apply IsS77.drew | apply IsS77.set_1 | apply IsS77.set_2) | exact HI670.out)); (case side2 => repeat (first | (with_reducible first | exact HB.out | apply below_alloc | apply pw_below_drewN | apply below_drew1 | refine below_set ?_ (IsS77.ge HI670.out)) | exact HB.out)); rintro e w17 ⟨rfl, hi, hb, hk⟩; refine ⟨_, rfl, ?_⟩; replace HO676 := as_ (Kd.R_mono (Kd.R_keep (IsS77.apart (show IsS77 w _ g670 t667 t672 t673 from hi77_ HI670) (bR_ HO676) (by decide)) hk (fun _ h => h.2)) (fun _ h => h.1)); replace HB := as_ (hb); replace HI670 := as_ (hi); clear hb hk hi) | ((with_reducible refine gate_callee (f := 63) rfl ?_); refine gL_ 21 Try.func63 #[.pointer (some ⟨g670, 0, none⟩), .int .i64 (t674.length : Int)] ?_; (with_reducible refine (spec_l01Next.calls g670 t667 t678 t679 (t674.length : Int) t680 t681 t682 w _ ?side1 ?side2 A8.out).mono ?_); (case side1 => repeat (first | (with_reducible first | exact HI670.out | apply IsS77.alloc | apply IsS77.drewN | apply IsS77.drew | apply IsS77.set_1 | apply IsS77.set_2) | exact HI670.out)); (case side2 => repeat (first | (with_reducible first | exact HB.out | apply below_alloc | apply pw_below_drewN | apply below_drew1 | refine below_set ?_ (IsS77.ge HI670.out)) | exact HB.out)); rintro e w18 ⟨rfl, hi, hb, hk⟩; refine ⟨_, rfl, ?_⟩; replace HO676 := as_ (Kd.R_mono (Kd.R_keep (IsS77.apart (show IsS77 w _ g670 t667 t678 t679 from hi77_ HI670) (bR_ HO676) (by decide)) hk (fun _ h => h.2)) (fun _ h => h.1)); replace HB := as_ (hb); replace HI670 := as_ (hi); clear hb hk hi) | ((with_reducible refine gate_dst (N := 23) rfl ?_); refine Kd.R_lit (Kd.int .i64) _ 2 ?hg (N := 23) ?hd (xs := ([0, 1, 2, (-1), 24] : List Int)) (inner := [.int .i64 0, .int .i64 1, .int .i64 2, .int .i64 (-1), .int .i64 24]) (ok := fun _ => True) (okp := fun _ => True) ?hr ?hp (fun _ hk => hk) trivial (Below.refl _ _) (Nat.le_refl _) (by simp) ?_; (case hd => rfl); (case hg => rfl); (case hr => first | (go_simp; done) | (go_simp; rfl)); (case hp => exact (Reps.one (show Kd.M (Kd.int .i64) _ _ _ 0 [.int .i64 0] from rfl) (Reps.one (show Kd.M (Kd.int .i64) _ _ _ 1 [.int .i64 1] from rfl) (Reps.one (show Kd.M (Kd.int .i64) _ _ _ 2 [.int .i64 2] from rfl) (Reps.one (show Kd.M (Kd.int .i64) _ _ _ (-1) [.int .i64 (-1)] from rfl) (Reps.one (show Kd.M (Kd.int .i64) _ _ _ 24 [.int .i64 24] from rfl) (Reps.none _ _))))))); intro v684 w19 ho20 hb hg_ hnew_; clear hg_ hnew_; (first | rw [← Ny683.out] at ho20 | (simp only [Int.reduceToNat] at ho20; rw [← Ny683.out] at ho20)); have HO685 := as_ (Kd.R_lower (nRR_ ho20 HO676) (below_size (b1_ HB ⟨IsS77.ge HI670.out⟩))); replace HO676 := eR_ HO676 (Kd.R_base ho20) hb; replace HB := as_ (below_step (b1_ HB ⟨IsS77.ge HI670.out⟩) hb); replace HI670 := as_ (IsS77.below (hi77_ HI670) hb); clear hb ho20; obtain ⟨Ao21, co21, eo21⟩ := Kd.R_slice HO685.out; subst eo21) | ((with_reducible refine gate_callee (f := 64) rfl ?_); refine gL_ 24 Try.func64 #[.pointer (some ⟨g670, 0, none⟩), .slice Ao21 y683.length co21] ?_; (with_reducible refine (spec_l01Pick.calls g670 t667 t681 t682 _ _ y683 t686 t687 t688 w _ ?side1 ?side2 ?side3 ?side4 ?side5 A9.out).mono ?_); (case side1 => repeat (first | (with_reducible first | exact HI670.out | apply IsS77.alloc | apply IsS77.drewN | apply IsS77.drew | apply IsS77.set_1 | apply IsS77.set_2) | exact HI670.out)); (case side2 => repeat (first | (with_reducible first | exact HB.out | apply below_alloc | apply pw_below_drewN | apply below_drew1 | refine below_set ?_ (IsS77.ge HI670.out)) | exact HB.out)); (case side3 => exact cC_ (Kd.R_reads' HO685.out).2.2); (case side4 => exact (Kd.R_reads' HO685.out).2.1); (case side5 => exact far_slice (IsS77.own_ne HI670.out HO685.out (by decide))); rintro e w22 ⟨rfl, hi, hb, hk⟩; refine ⟨_, rfl, ?_⟩; replace HO676 := as_ (Kd.R_mono (Kd.R_keep (IsS77.apart (show IsS77 w _ g670 t667 t681 t682 from hi77_ HI670) (bR_ HO676) (by decide)) hk (fun _ h => h.2)) (fun _ h => h.1)); replace HO685 := as_ (Kd.R_mono (Kd.R_keep (IsS77.apart (show IsS77 w _ g670 t667 t681 t682 from hi77_ HI670) (bR_ HO685) (by decide)) hk (fun _ h => h.2)) (fun _ h => h.1)); replace HB := as_ (hb); replace HI670 := as_ (hi); clear hb hk hi; have p12 : 0 ≤ (t680 : Int) := od_; have q12 : (t680 : Int) < ((t674.length : Int) : Int) := od_; obtain ⟨go12, co12, eo12, gb12, gl12, cl12, HG12⟩ := Kd.R_form HO676.out (by omega); (first | cases eo12 | (injection eo12 with ea_ en_ ec_; (first | subst ea_ | (injection ea_ with ea_; subst ea_)); subst ec_; clear en_)); have GB12 := as_ gb12; have GG12 := as_ HG12; clear gb12 gl12 HG12; obtain ⟨hx12_0, hf12_0⟩ := Kd.R_celln 0 HO676.out (t680 : Int) p12 q12; replace p12 := eq_true p12; replace q12 := eq_true q12; have n_ := as_ (Kd.R_mono (ok' := (fun k_ => some k_ ≠ (.slice Ao21 y683.length co21 : Value).ownBlock)) HO676.out (fun k_ hk => hk.2)); clear HO676; have HO676 := n_; clear n_; obtain ⟨hy23_, hz23_⟩ := Kd.R_celln 0 HO676.out (t680 : Int) (od_) (od_); have HP23 := Kd.R_putg HO676.out (t680 : Int) t686) | ((with_reducible refine gate_store (t := 2) (p := 25) rfl ?_); refine store_event (t := 2) (p := 25) (v := ?vo_w24) (w1 := (w22.setCell ⟨go12, (t680 : Int).toNat, none⟩ (.int .i64 t686))) ?hg ?ho ?hn ?hr ?_; (case ho => rfl); (case hg => rfl); (case hn => rfl); (case hr => first | (go_simp; done) | (go_simp; rfl)); intro w24 hw; have hg : w22.grownBy w24 (some go12) := (by rw [hw]; exact HP23.2); have hp_ : Kd.R (Kd.int .i64) 2 w24 w.heap.size (fun k_ => some k_ ≠ (.slice Ao21 y683.length co21 : Value).ownBlock) (.slice (some ⟨go12, 0, none⟩) t674.length co16) y689 := (by rw [hw, Ny689.out]; exact HP23.1); clear HP23; replace HI670 := as_ (IsS77.grown (hi77_ HI670) hg (IsS77.own_ne HI670.out HO676.out (by decide))); replace HO676 := as_ (hp_); replace HO685 := as_ (Kd.R_after (v := (.slice (some ⟨go12, 0, none⟩) t674.length co16)) (v1 := (.slice (some ⟨go12, 0, none⟩) t674.length co16)) (ok := (fun _ => True)) (bR_ HO685) hg (.inl rfl)); replace HB := as_ ((by rw [hw]; exact below_set (HB.out) GB12.out : Below w.heap.size w w24)); clear hg hw hp_))
    go_ret
    exact ⟨_, re_, Kd.Q_of_R (mR_ HO676), b1_ HB ⟨IsS77.ge HI670.out⟩⟩
  rw [if_neg c7] at H
  have c7b0 := beq_eq_false_iff_ne.mpr c7
  have c7b1 := bne_iff_ne.mpr c7
  by_cases c25 : t677 = 1
  · rw [if_pos c25] at H
    have c25b0 := beq_iff_eq.mpr c25
    have c25b1 := bne_eq_false_iff_eq.mpr c25
    clear c25
    obtain ⟨c26, H⟩ := ite_s H
    have LMc26 := as_ c26
    clear c26
    obtain ⟨y690, hy690⟩ := ex_ (t674 ++ [0] : List Int)
    replace H : (some y690) = some r := yr_ hy690 H
    have Ny690 := as_ hy690
    clear hy690
    obtain rfl := Option.some.inj H
    go_enter Try.func30, Try.ntmps30
    go_wp2_with (first | ((with_reducible refine gate_callee (f := 37) rfl ?_); refine gL_ 6 Try.func37 #[.slice A0 l0.length c0] ?_; (with_reducible refine (spec_l01From.calls k _ _ l0 t667 t668 t669 w _ ?side1 ?side2 ?side3 A2.out).mono ?_); (case side1 => repeat (first | (with_reducible first | exact HB.out | apply below_alloc | apply pw_below_drewN | apply below_drew1) | exact HB.out)); (case side2 => exact HR0.out); (case side3 => exact HC0.out); rintro e w27 ⟨g670, rfl, hi, hb, hb2⟩; refine ⟨_, rfl, ?_⟩; replace HB := as_ (hb); have HI670 := as_ (hi); clear hb hb2 hi) | ((with_reducible refine gate_callee (f := 67) rfl ?_); refine gL_ 8 Try.func67 #[.pointer (some ⟨g670, 0, none⟩)] ?_; (with_reducible refine (spec_l03Draw.calls k g670 t667 t668 t669 t671 t672 t673 w _ ?side1 ?side2 A3.out).mono ?_); (case side1 => repeat (first | (with_reducible first | exact HI670.out | apply IsS77.alloc | apply IsS77.drewN | apply IsS77.drew | apply IsS77.set_1 | apply IsS77.set_2) | exact HI670.out)); (case side2 => repeat (first | (with_reducible first | exact HB.out | apply below_alloc | apply pw_below_drewN | apply below_drew1 | refine below_set ?_ (IsS77.ge HI670.out)) | exact HB.out)); rintro e w28 ⟨rfl, hi, hb, hk⟩; refine ⟨_, rfl, ?_⟩; replace HB := as_ (hb); replace HI670 := as_ (hi); clear hb hk hi) | ((with_reducible refine gate_callee (f := 49) rfl ?_); refine gL_ 9 Try.func49 #[.string t671] ?_; (with_reducible refine (spec_l03Vector.calls k t671 t674 _ A4.out).mono ?_); rintro e w29 ⟨v675, rfl, ho0, hb⟩; refine ⟨_, rfl, ?_⟩; have HO676 := as_ (Kd.R_lower ho0 (below_size (b1_ HB ⟨IsS77.ge HI670.out⟩))); replace HB := as_ (below_step (b1_ HB ⟨IsS77.ge HI670.out⟩) hb); replace HI670 := as_ (IsS77.below (hi77_ HI670) hb); clear hb ho0; obtain ⟨Ao30, co30, eo30⟩ := Kd.R_slice HO676.out; subst eo30) | ((with_reducible refine gate_callee (f := 63) rfl ?_); refine gL_ 14 Try.func63 #[.pointer (some ⟨g670, 0, none⟩), .int .i64 8] ?_; (with_reducible refine (spec_l01Next.calls g670 t667 t672 t673 8 t677 t678 t679 w _ ?side1 ?side2 A6.out).mono ?_); (case side1 => repeat (first | (with_reducible first | exact HI670.out | apply IsS77.alloc | apply IsS77.drewN | apply IsS77.drew | apply IsS77.set_1 | apply IsS77.set_2) | exact HI670.out)); (case side2 => repeat (first | (with_reducible first | exact HB.out | apply below_alloc | apply pw_below_drewN | apply below_drew1 | refine below_set ?_ (IsS77.ge HI670.out)) | exact HB.out)); rintro e w31 ⟨rfl, hi, hb, hk⟩; refine ⟨_, rfl, ?_⟩; replace HO676 := as_ (Kd.R_mono (Kd.R_keep (IsS77.apart (show IsS77 w _ g670 t667 t672 t673 from hi77_ HI670) (bR_ HO676) (by decide)) hk (fun _ h => h.2)) (fun _ h => h.1)); replace HB := as_ (hb); replace HI670 := as_ (hi); clear hb hk hi) | ((with_reducible refine gate_builtin (b := .append) (xs := #[.tmp 28, .tmp 29]) rfl ?_); at_builtin; refine Kd.R_append (Kd.int .i64) (w0 := w) w.heap.size rfl (.tmp 28) (.tmp 29) 24 2 (.int .i64 0) 8 rfl Try.underlying24 info2 rfl (by decide) (by omega) (.slice Ao30 t674.length co30) t674 0 [.int .i64 0] (fun _ => True) (fun _ => False) rfl rfl ?aP (fun _ hk => hk.elim) ?aF ?aO ?aB ?aS ?aL ?_; (case aP => exact rfl); (case aB => exact (b1_ HB ⟨IsS77.ge HI670.out⟩)); (case aF => exact (fun _ _ => trivial)); (case aO => exact (bR_ HO676)); (case aS => exact (below_size (b1_ HB ⟨IsS77.ge HI670.out⟩))); (case aL => have := LMc26.out; omega); intro v691 w32 ho hb hg hat; rw [← Ny690.out] at ho; replace HI670 := as_ (IsS77.grown (hi77_ HI670) hg (IsS77.own_ne HI670.out HO676.out (by decide))); replace HB := as_ (hb); have HO692 := as_ (ho); clear HO676; clear ho hb hg hat))
    go_ret
    exact ⟨_, re_, Kd.Q_of_R (bR_ HO692), b1_ HB ⟨IsS77.ge HI670.out⟩⟩
  rw [if_neg c25] at H
  have c25b0 := beq_eq_false_iff_ne.mpr c25
  have c25b1 := bne_iff_ne.mpr c25
  by_cases c33 : t677 = 2
  rotate_left
  · rw [if_neg c33] at H
    have c33b0 := beq_eq_false_iff_ne.mpr c33
    have c33b1 := bne_iff_ne.mpr c33
    obtain rfl := Option.some.inj H
    go_enter Try.func30, Try.ntmps30
    go_wp2_with (first | ((with_reducible refine gate_callee (f := 37) rfl ?_); refine gL_ 6 Try.func37 #[.slice A0 l0.length c0] ?_; (with_reducible refine (spec_l01From.calls k _ _ l0 t667 t668 t669 w _ ?side1 ?side2 ?side3 A2.out).mono ?_); (case side1 => repeat (first | (with_reducible first | exact HB.out | apply below_alloc | apply pw_below_drewN | apply below_drew1) | exact HB.out)); (case side2 => exact HR0.out); (case side3 => exact HC0.out); rintro e w41 ⟨g670, rfl, hi, hb, hb2⟩; refine ⟨_, rfl, ?_⟩; replace HB := as_ (hb); have HI670 := as_ (hi); clear hb hb2 hi) | ((with_reducible refine gate_callee (f := 67) rfl ?_); refine gL_ 8 Try.func67 #[.pointer (some ⟨g670, 0, none⟩)] ?_; (with_reducible refine (spec_l03Draw.calls k g670 t667 t668 t669 t671 t672 t673 w _ ?side1 ?side2 A3.out).mono ?_); (case side1 => repeat (first | (with_reducible first | exact HI670.out | apply IsS77.alloc | apply IsS77.drewN | apply IsS77.drew | apply IsS77.set_1 | apply IsS77.set_2) | exact HI670.out)); (case side2 => repeat (first | (with_reducible first | exact HB.out | apply below_alloc | apply pw_below_drewN | apply below_drew1 | refine below_set ?_ (IsS77.ge HI670.out)) | exact HB.out)); rintro e w42 ⟨rfl, hi, hb, hk⟩; refine ⟨_, rfl, ?_⟩; replace HB := as_ (hb); replace HI670 := as_ (hi); clear hb hk hi) | ((with_reducible refine gate_callee (f := 49) rfl ?_); refine gL_ 9 Try.func49 #[.string t671] ?_; (with_reducible refine (spec_l03Vector.calls k t671 t674 _ A4.out).mono ?_); rintro e w43 ⟨v675, rfl, ho0, hb⟩; refine ⟨_, rfl, ?_⟩; have HO676 := as_ (Kd.R_lower ho0 (below_size (b1_ HB ⟨IsS77.ge HI670.out⟩))); replace HB := as_ (below_step (b1_ HB ⟨IsS77.ge HI670.out⟩) hb); replace HI670 := as_ (IsS77.below (hi77_ HI670) hb); clear hb ho0; obtain ⟨Ao44, co44, eo44⟩ := Kd.R_slice HO676.out; subst eo44) | ((with_reducible refine gate_callee (f := 63) rfl ?_); refine gL_ 14 Try.func63 #[.pointer (some ⟨g670, 0, none⟩), .int .i64 8] ?_; (with_reducible refine (spec_l01Next.calls g670 t667 t672 t673 8 t677 t678 t679 w _ ?side1 ?side2 A6.out).mono ?_); (case side1 => repeat (first | (with_reducible first | exact HI670.out | apply IsS77.alloc | apply IsS77.drewN | apply IsS77.drew | apply IsS77.set_1 | apply IsS77.set_2) | exact HI670.out)); (case side2 => repeat (first | (with_reducible first | exact HB.out | apply below_alloc | apply pw_below_drewN | apply below_drew1 | refine below_set ?_ (IsS77.ge HI670.out)) | exact HB.out)); rintro e w45 ⟨rfl, hi, hb, hk⟩; refine ⟨_, rfl, ?_⟩; replace HO676 := as_ (Kd.R_mono (Kd.R_keep (IsS77.apart (show IsS77 w _ g670 t667 t672 t673 from hi77_ HI670) (bR_ HO676) (by decide)) hk (fun _ h => h.2)) (fun _ h => h.1)); replace HB := as_ (hb); replace HI670 := as_ (hi); clear hb hk hi))
    go_ret
    exact ⟨_, re_, Kd.Q_of_R (bR_ HO676), b1_ HB ⟨IsS77.ge HI670.out⟩⟩
  rw [if_pos c33] at H
  have c33b0 := beq_iff_eq.mpr c33
  have c33b1 := bne_eq_false_iff_eq.mpr c33
  clear c33
  obtain ⟨c34, H⟩ := ite_s H
  have c34b0 := eq_true c34
  have c34b1 := decide_eq_true c34
  clear c34
  obtain ⟨y693, hy693⟩ := ex_ (t674.drop (1 : Int).toNat : List Int)
  replace H : (some y693) = some r := yr_ hy693 H
  have Ny693 := as_ hy693
  clear hy693
  obtain rfl := Option.some.inj H
  go_enter Try.func30, Try.ntmps30
  go_wp2_with (first | ((with_reducible refine gate_callee (f := 37) rfl ?_); refine gL_ 6 Try.func37 #[.slice A0 l0.length c0] ?_; (with_reducible refine (spec_l01From.calls k _ _ l0 t667 t668 t669 w _ ?side1 ?side2 ?side3 A2.out).mono ?_); (case side1 => repeat (first | (with_reducible first | exact HB.out | apply below_alloc | apply pw_below_drewN | apply below_drew1) | exact HB.out)); (case side2 => exact HR0.out); (case side3 => exact HC0.out); rintro e w35 ⟨g670, rfl, hi, hb, hb2⟩; refine ⟨_, rfl, ?_⟩; replace HB := as_ (hb); have HI670 := as_ (hi); clear hb hb2 hi) | ((with_reducible refine gate_callee (f := 67) rfl ?_); refine gL_ 8 Try.func67 #[.pointer (some ⟨g670, 0, none⟩)] ?_; (with_reducible refine (spec_l03Draw.calls k g670 t667 t668 t669 t671 t672 t673 w _ ?side1 ?side2 A3.out).mono ?_); (case side1 => repeat (first | (with_reducible first | exact HI670.out | apply IsS77.alloc | apply IsS77.drewN | apply IsS77.drew | apply IsS77.set_1 | apply IsS77.set_2) | exact HI670.out)); (case side2 => repeat (first | (with_reducible first | exact HB.out | apply below_alloc | apply pw_below_drewN | apply below_drew1 | refine below_set ?_ (IsS77.ge HI670.out)) | exact HB.out)); rintro e w36 ⟨rfl, hi, hb, hk⟩; refine ⟨_, rfl, ?_⟩; replace HB := as_ (hb); replace HI670 := as_ (hi); clear hb hk hi) | ((with_reducible refine gate_callee (f := 49) rfl ?_); refine gL_ 9 Try.func49 #[.string t671] ?_; (with_reducible refine (spec_l03Vector.calls k t671 t674 _ A4.out).mono ?_); rintro e w37 ⟨v675, rfl, ho0, hb⟩; refine ⟨_, rfl, ?_⟩; have HO676 := as_ (Kd.R_lower ho0 (below_size (b1_ HB ⟨IsS77.ge HI670.out⟩))); replace HB := as_ (below_step (b1_ HB ⟨IsS77.ge HI670.out⟩) hb); replace HI670 := as_ (IsS77.below (hi77_ HI670) hb); clear hb ho0; obtain ⟨Ao38, co38, eo38⟩ := Kd.R_slice HO676.out; subst eo38) | ((with_reducible refine gate_callee (f := 63) rfl ?_); refine gL_ 14 Try.func63 #[.pointer (some ⟨g670, 0, none⟩), .int .i64 8] ?_; (with_reducible refine (spec_l01Next.calls g670 t667 t672 t673 8 t677 t678 t679 w _ ?side1 ?side2 A6.out).mono ?_); (case side1 => repeat (first | (with_reducible first | exact HI670.out | apply IsS77.alloc | apply IsS77.drewN | apply IsS77.drew | apply IsS77.set_1 | apply IsS77.set_2) | exact HI670.out)); (case side2 => repeat (first | (with_reducible first | exact HB.out | apply below_alloc | apply pw_below_drewN | apply below_drew1 | refine below_set ?_ (IsS77.ge HI670.out)) | exact HB.out)); rintro e w39 ⟨rfl, hi, hb, hk⟩; refine ⟨_, rfl, ?_⟩; replace HO676 := as_ (Kd.R_mono (Kd.R_keep (IsS77.apart (show IsS77 w _ g670 t667 t672 t673 from hi77_ HI670) (bR_ HO676) (by decide)) hk (fun _ h => h.2)) (fun _ h => h.1)); replace HB := as_ (hb); replace HI670 := as_ (hi); clear hb hk hi; have q40 : (1 : Int) ≤ ((t674.length : Int) : Int) := od_; obtain ⟨i040, hi040, _, hsz40, _⟩ := info_parts info2; have hcut40 := cut_from (P := Try.prog) 24 2 .i64 Try.underlying24 hi040 1 hsz40 Ao38 t674.length co38 1 (by omega) q40; have hr40 := Kd.Q_drop (k := (1 : Int).toNat) (Kd.Q_of_R HO676.out) (by omega); obtain ⟨A40, hA40⟩ : ∃ A1, A1 = (if co38 = (1 : Int).toNat then Ao38 else (Ao38 : Option Addr).map (·.add ((1 : Int).toNat * 1))) := ⟨_, rfl⟩; obtain ⟨c40, hc40⟩ : ∃ c1, c1 = co38 - (1 : Int).toNat := ⟨_, rfl⟩; have hy40 : y693.length = t674.length - (1 : Int).toNat := (by rw [Ny693.out, List.length_drop]); rw [← Ny693.out] at hr40; rw [← hy40, ← hA40, ← hc40] at hcut40; replace hr40 : Kd.Q (Kd.int .i64) 2 w39 w.heap.size (fun _ => True) (.slice A40 y693.length c40) y693 := (by rw [hA40, hc40, hy40]; exact hr40); have HE40 : Aside0 ((Value.slice A40 y693.length c40).ownBlock = (.slice Ao38 t674.length co38 : Value).ownBlock) := ⟨by rw [hA40]; split <;> (cases (Ao38 : Option Addr) <;> rfl)⟩; clear hy40 hi040 hsz40 HO676 hA40 hc40; have HO695 := as_ hr40; clear hr40; replace q40 := eq_true q40))
  go_ret
  exact ⟨_, re_, bQ_ HO695, b1_ HB ⟨IsS77.ge HI670.out⟩⟩

mutual
def spec_l03Of.l0 : Nat → List Int → Int → Option (ByteArray × Bool)
  | 0, _, _ => none
  | k + 1, x0, x4 => if x4 < (x0.length : Int) then (if 0 ≤ x4 then (if (rd x0 x4) = (wrap64 ((wrap64 ((x0.length : Int) - 1)) - x4)) then (if x4 ≤ (x0.length : Int) then ((spec_l03Of.f k (x0.take (x4 : Int).toNat)).bind fun bt698 => (if 0 ≤ (wrap64 (x4 + 1)) then (if (wrap64 (x4 + 1)) ≤ (x0.length : Int) then ((spec_l03Of.f k (x0.drop ((wrap64 (x4 + 1)) : Int).toNat)).bind fun bt701 => (if 1 + bt698.1.size ≤ 9223372036854775807 then (if ((⟨#[49]⟩ : ByteArray) ++ bt698.1).size + bt701.1.size ≤ 9223372036854775807 then (if bt698.2 = true then (some (((⟨#[49]⟩ : ByteArray) ++ bt698.1) ++ bt701.1, bt701.2)) else (some (((⟨#[49]⟩ : ByteArray) ++ bt698.1) ++ bt701.1, false))) else (none)) else (none))) else (none)) else (none))) else (none)) else (spec_l03Of.l0 k x0 (wrap64 (x4 + 1)))) else (none)) else (some ((⟨#[]⟩ : ByteArray), false))
def spec_l03Of.f : Nat → List Int → Option (ByteArray × Bool)
  | 0, _ => none
  | k + 1, l0 => if (l0.length : Int) = 0 then (some ((⟨#[48]⟩ : ByteArray), true)) else (spec_l03Of.l0 k l0 0)
end
theorem spec_l03Of.calls (k : Nat) : ∀ (A0 : Option Addr) (c0 : Nat) (l0 : List Int) (r1 : ByteArray) (r2 : Bool) (w : World) (hr0 : Kd.C (Kd.int .i64) w A0 l0.length l0) (hc0 : l0.length ≤ c0) (h : spec_l03Of.f k l0 = some (r1, r2)),
    Calls Try.prog 69 #[.slice A0 l0.length c0] w fun e w' => e = .returned (.tuple #[.string r1, .bool r2]) ∧ Drawn0 w w' := by
  induction k using Nat.strongRecOn with
  | _ k ih =>
  intro A0 c0 l0 r1 r2 w hr0 hc0 h
  cases k with
  | zero => exact absurd h (by simp [spec_l03Of.f])
  | succ k =>
  simp only [spec_l03Of.f] at h
  have HR0 := as_ hr0
  have HC0 := as_ hc0
  clear hr0 hc0
  have H : (if (l0.length : Int) = 0 then (some ((⟨#[48]⟩ : ByteArray), true)) else (spec_l03Of.l0 k l0 0)) = some (r1, r2) := h
  clear h
  by_cases c2 : (l0.length : Int) = 0
  · rw [if_pos c2] at H
    have c2b0 := beq_iff_eq.mpr c2
    have c2b1 := bne_eq_false_iff_eq.mpr c2
    clear c2
    simp only [Option.some.injEq, Prod.mk.injEq] at H
    obtain ⟨rfl, rfl⟩ := H
    go_enter Try.func69, Try.ntmps69
    go_wp2
    go_ret2
    exact ⟨rf_, d0_⟩
  rw [if_neg c2] at H
  have c2b0 := beq_eq_false_iff_ne.mpr c2
  have c2b1 := bne_iff_ne.mpr c2
  have c2b2 : ¬ (l0 = []) := fun h_ => c2 (by rw [h_]; rfl)
  have H' := as_ H
  clear H
  go_enter Try.func69, Try.ntmps69
  go_wp2
  go_loopg [4] k (fun kq v4 w' => ∃ (x4_1 : Int), v4 = .int .i64 x4_1 ∧ Aside0 (spec_l03Of.l0 kq l0 x4_1 = some (r1, r2)) ∧ Aside0 (kq ≤ k) ∧ Drawn0 w w')
  case atStart => exact ⟨(0), rf_, H', ⟨Nat.le_refl _⟩, d0_⟩
  case round =>
    clear H'
    (try clear c2); (try clear c2b0); (try clear c2b1); (try clear c2b2); (try clear p2)
    obtain ⟨x4_1, rfl, HA, HK1, ⟨m1, rfl⟩⟩ := hrel
    cases gk with
    | zero => exact absurd HA.out (by simp [spec_l03Of.l0])
    | succ k1 =>
      have H := HA.out
      clear HA
      simp only [spec_l03Of.l0] at H
      by_cases c3 : x4_1 < (l0.length : Int)
      rotate_left
      · rw [if_neg c3] at H
        have c3b0 := decide_eq_false c3
        clear c3
        simp only [Option.some.injEq, Prod.mk.injEq] at H
        obtain ⟨rfl, rfl⟩ := H
        go_wp2
        go_ret2
        exact ⟨rf_, d0_⟩
      rw [if_pos c3] at H
      have c3b0 := decide_eq_true c3
      clear c3
      obtain ⟨c4b0, H⟩ := ite_d H
      by_cases c5 : (rd l0 x4_1) = (wrap64 ((wrap64 ((l0.length : Int) - 1)) - x4_1))
      rotate_left
      · rw [if_neg c5] at H
        have c5b0 := beq_eq_false_iff_ne.mpr c5
        have c5b1 := bne_iff_ne.mpr c5
        have H' := as_ H
        clear H
        have p696 : 0 ≤ (x4_1 : Int) := od_
        have q696 : x4_1 < (l0.length : Int) := od_
        obtain ⟨ad696, e696, hx696_0⟩ := Kd.at_int HR0.out x4_1 p696 q696
        cases e696
        replace p696 := eq_true p696
        replace q696 := eq_true q696
        go_wp2
        go_roundg k1
        case measure => have := HK1.out; omega
        case rel => exact ⟨(wrap64 (x4_1 + 1)), rf_, H', om_ HK1, d0_⟩
      rw [if_pos c5] at H
      have c5b0 := beq_iff_eq.mpr c5
      have c5b1 := bne_eq_false_iff_eq.mpr c5
      clear c5
      have c6b0 := eq_true (od_ : 0 ≤ x4_1)
      obtain ⟨c7, H⟩ := ite_s H
      have c7b0 := eq_true c7
      have c7b1 := decide_eq_true c7
      clear c7
      obtain ⟨⟨t698, t699⟩, A8, H⟩ := bo_ H
      dsimp only at H
      obtain ⟨ji9, hji9⟩ : ∃ j_ : Int, (wrap64 (x4_1 + 1)) = j_ := ⟨_, rfl⟩
      replace H : (if 0 ≤ (ji9) then (if (ji9) ≤ (l0.length : Int) then ((spec_l03Of.f k1 (l0.drop ((ji9) : Int).toNat)).bind fun bt701 => (if 1 + t698.size ≤ 9223372036854775807 then (if ((⟨#[49]⟩ : ByteArray) ++ t698).size + bt701.1.size ≤ 9223372036854775807 then (if t699 = true then (some (((⟨#[49]⟩ : ByteArray) ++ t698) ++ bt701.1, bt701.2)) else (some (((⟨#[49]⟩ : ByteArray) ++ t698) ++ bt701.1, false))) else (none)) else (none))) else (none)) else (none)) = some (r1, r2) := by first | (rw [hji9] at H; exact H) | (simp only [hji9] at H ⊢; exact H)
      (try rw [hji9] at A8)
      have hji9w : (IntKind.i64.wrap (x4_1 + 1)) = ji9 := (i64_w _).trans hji9
      obtain ⟨c10, H⟩ := ite_s H
      have c10b0 := eq_true c10
      have c10b1 := decide_eq_true c10
      clear c10
      obtain ⟨c11, H⟩ := ite_s H
      have c11b0 := eq_true c11
      have c11b1 := decide_eq_true c11
      clear c11
      obtain ⟨⟨t701, t702⟩, A12, H⟩ := bo_ H
      dsimp only at H
      obtain ⟨c13, H⟩ := ite_s H
      have c13b0 := eq_true c13
      have c13b1 := decide_eq_true c13
      try have c13b2 : (9223372036854775807 < 1 + t698.size) = False := eq_false (Nat.not_lt.2 c13)
      obtain ⟨c14, H⟩ := ite_s H
      have c14b0 := eq_true c14
      have c14b1 := decide_eq_true c14
      try have c14b2 : (9223372036854775807 < ((⟨#[49]⟩ : ByteArray) ++ t698).size + t701.size) = False := eq_false (Nat.not_lt.2 c14)
      try have c14b3 : (9223372036854775807 < 1 + t698.size + t701.size) = False := eq_false (by have z_ := c14; simp only [ByteArray.size_append, ByteArray.size_extract, decide_eq_true_eq, eq_iff_iff, iff_true, (show (⟨#[49]⟩ : ByteArray).size = 1 from rfl)] at *; first | omega | (simp at z_; omega))
      by_cases c15 : t699 = true
      · subst c15
        replace H := it_ H
        simp only [Option.some.injEq, Prod.mk.injEq] at H
        obtain ⟨rfl, rfl⟩ := H
        have p696 : 0 ≤ (x4_1 : Int) := od_
        have q696 : x4_1 < (l0.length : Int) := od_
        obtain ⟨ad696, e696, hx696_0⟩ := Kd.at_int HR0.out x4_1 p696 q696
        cases e696
        replace p696 := eq_true p696
        replace q696 := eq_true q696
        obtain ⟨i016, hi016, _, hsz16, _⟩ := info_parts info2
        obtain ⟨hcut16, hA16, hC16⟩ := print_take_of (P := Try.prog) (Value.int .i64) 0 24 2 .i64 Try.underlying24 hi016 hsz16 (some ad696) c0 l0 x4_1 (od_) (od_) HC0.out
        have HR697 := as_ (Kd.C_of_reads (h1 := fun _ => rfl) (hA16 _ (Kd.reads_of_C HR0.out)))
        have HC697 := as_ hC16
        clear hA16 hC16 hi016 hsz16
        go_wp2_with (first | ((with_reducible refine gate_callee (f := 69) rfl ?_); refine gL_ 32 Try.func69 #[.slice (some ad696) (l0.take (x4_1 : Int).toNat).length c0] ?_ (hargs := (by (try simp only [List.map_toArray, List.map_cons, List.map_nil]); first | done | (rw [show (l0.take (x4_1 : Int).toNat).length = x4_1.toNat from (by rw [List.length_take]; have h_ : (x4_1 : Int) ≤ (l0.length : Int) := od_; omega)] <;> rfl) | rfl | (simp only [List.length_drop, List.length_take]; rfl))); (with_reducible refine (ih k1 (by have := HK1.out; omega) _ _ (l0.take (x4_1 : Int).toNat) t698 true _ ?side1 ?side2 A8.out).mono ?_); (case side1 => exact cC_ HR697.out); (case side2 => exact HC697.out); rintro e w' ⟨rfl, ⟨nd, rfl⟩⟩; refine ⟨_, rfl, ?_⟩; obtain ⟨i017, hi017, _, hsz17, _⟩ := info_parts info2; obtain ⟨A17, hcut17, hA17, hC17⟩ := print_drop_of (P := Try.prog) (Value.int .i64) 0 24 2 .i64 Try.underlying24 hi017 hsz17 (some ad696) c0 l0 (ji9) (od_) (od_) HC0.out; have HR700 := as_ (Kd.C_of_reads (h1 := fun _ => rfl) (hA17 _ (Kd.reads_of_C HR0.out))); have HC700 := as_ hC17; clear hA17 hC17 hi017 hsz17) | ((with_reducible refine gate_callee (f := 69) rfl ?_); refine gL_ 40 Try.func69 #[.slice A17 (l0.drop ((ji9) : Int).toNat).length (c0 - (ji9).toNat)] ?_ (hargs := (by (try simp only [List.map_toArray, List.map_cons, List.map_nil]); first | done | (rw [show (l0.drop ((ji9) : Int).toNat).length = (l0.length - (ji9).toNat) from List.length_drop] <;> rfl) | (simp only [hji9]; rfl) | rfl | (simp only [List.length_drop, List.length_take]; rfl))); (with_reducible refine (ih k1 (by have := HK1.out; omega) _ _ (l0.drop ((ji9) : Int).toNat) t701 t702 _ ?side1 ?side2 A12.out).mono ?_); (case side1 => exact cC_ HR700.out); (case side2 => exact HC700.out); rintro e w' ⟨rfl, ⟨nd, rfl⟩⟩; refine ⟨_, rfl, ?_⟩))
        go_ret2
        exact ⟨by first | rfl | (simp; done) | (simp only [← hji9] <;> (first | rfl | simp)) | (simp [*]; done), d0_⟩
      replace c15 := Bool.eq_false_iff.mpr c15
      subst c15
      replace H := if_ H
      simp only [Option.some.injEq, Prod.mk.injEq] at H
      obtain ⟨rfl, rfl⟩ := H
      have p696 : 0 ≤ (x4_1 : Int) := od_
      have q696 : x4_1 < (l0.length : Int) := od_
      obtain ⟨ad696, e696, hx696_0⟩ := Kd.at_int HR0.out x4_1 p696 q696
      cases e696
      replace p696 := eq_true p696
      replace q696 := eq_true q696
      obtain ⟨i018, hi018, _, hsz18, _⟩ := info_parts info2
      obtain ⟨hcut18, hA18, hC18⟩ := print_take_of (P := Try.prog) (Value.int .i64) 0 24 2 .i64 Try.underlying24 hi018 hsz18 (some ad696) c0 l0 x4_1 (od_) (od_) HC0.out
      have HR697 := as_ (Kd.C_of_reads (h1 := fun _ => rfl) (hA18 _ (Kd.reads_of_C HR0.out)))
      have HC697 := as_ hC18
      clear hA18 hC18 hi018 hsz18
      go_wp2_with (first | ((with_reducible refine gate_callee (f := 69) rfl ?_); refine gL_ 32 Try.func69 #[.slice (some ad696) (l0.take (x4_1 : Int).toNat).length c0] ?_ (hargs := (by (try simp only [List.map_toArray, List.map_cons, List.map_nil]); first | done | (rw [show (l0.take (x4_1 : Int).toNat).length = x4_1.toNat from (by rw [List.length_take]; have h_ : (x4_1 : Int) ≤ (l0.length : Int) := od_; omega)] <;> rfl) | rfl | (simp only [List.length_drop, List.length_take]; rfl))); (with_reducible refine (ih k1 (by have := HK1.out; omega) _ _ (l0.take (x4_1 : Int).toNat) t698 false _ ?side1 ?side2 A8.out).mono ?_); (case side1 => exact cC_ HR697.out); (case side2 => exact HC697.out); rintro e w' ⟨rfl, ⟨nd, rfl⟩⟩; refine ⟨_, rfl, ?_⟩; obtain ⟨i019, hi019, _, hsz19, _⟩ := info_parts info2; obtain ⟨A19, hcut19, hA19, hC19⟩ := print_drop_of (P := Try.prog) (Value.int .i64) 0 24 2 .i64 Try.underlying24 hi019 hsz19 (some ad696) c0 l0 (ji9) (od_) (od_) HC0.out; have HR700 := as_ (Kd.C_of_reads (h1 := fun _ => rfl) (hA19 _ (Kd.reads_of_C HR0.out))); have HC700 := as_ hC19; clear hA19 hC19 hi019 hsz19) | ((with_reducible refine gate_callee (f := 69) rfl ?_); refine gL_ 40 Try.func69 #[.slice A19 (l0.drop ((ji9) : Int).toNat).length (c0 - (ji9).toNat)] ?_ (hargs := (by (try simp only [List.map_toArray, List.map_cons, List.map_nil]); first | done | (rw [show (l0.drop ((ji9) : Int).toNat).length = (l0.length - (ji9).toNat) from List.length_drop] <;> rfl) | (simp only [hji9]; rfl) | rfl | (simp only [List.length_drop, List.length_take]; rfl))); (with_reducible refine (ih k1 (by have := HK1.out; omega) _ _ (l0.drop ((ji9) : Int).toNat) t701 t702 _ ?side1 ?side2 A12.out).mono ?_); (case side1 => exact cC_ HR700.out); (case side2 => exact HC700.out); rintro e w' ⟨rfl, ⟨nd, rfl⟩⟩; refine ⟨_, rfl, ?_⟩))
      go_ret2
      exact ⟨by first | rfl | (simp; done) | (simp only [← hji9] <;> (first | rfl | simp)) | (simp [*]; done), d0_⟩

def spec_BinaryOfVector.l0 : Nat → List Int → Int → Option (ByteArray × Int)
  | 0, _, _ => none
  | k + 1, x0, x4 => if x4 < (x0.length : Int) then (if 0 ≤ x4 then ((spec_l01In.f (rd x0 x4) 0 23).bind fun t704 => (if t704 = true then (spec_BinaryOfVector.l0 k x0 (wrap64 (x4 + 1))) else (some ((⟨#[]⟩ : ByteArray), 2)))) else (none)) else ((spec_l03Of.f k x0).bind fun bt705 => (if bt705.2 = true then (some (bt705.1, 0)) else (some ((⟨#[]⟩ : ByteArray), 4))))
def spec_BinaryOfVector.f (k : Nat) (l0 : List Int) : Option (ByteArray × Int) := if (l0.length : Int) > 23 then (some ((⟨#[]⟩ : ByteArray), 2)) else (spec_BinaryOfVector.l0 k l0 0)
theorem spec_BinaryOfVector.calls (k : Nat) (A0 : Option Addr) (c0 : Nat) (l0 : List Int) (r1 : ByteArray) (r2 : Int) (w : World) (hr0 : Kd.C (Kd.int .i64) w A0 l0.length l0) (hc0 : l0.length ≤ c0) (h : spec_BinaryOfVector.f k l0 = some (r1, r2)) :
    Calls Try.prog 31 #[.slice A0 l0.length c0] w fun e w' => e = .returned (.tuple #[.string r1, .int .i64 r2]) ∧ Drawn0 w w' := by
  have HR0 := as_ hr0
  have HC0 := as_ hc0
  clear hr0 hc0
  have H : (if (l0.length : Int) > 23 then (some ((⟨#[]⟩ : ByteArray), 2)) else (spec_BinaryOfVector.l0 k l0 0)) = some (r1, r2) := h
  clear h
  by_cases c2 : (l0.length : Int) > 23
  · rw [if_pos c2] at H
    have c2b0 := decide_eq_true c2
    have c2b1 : decide (23 < l0.length) = true := decide_eq_true (by omega)
    clear c2
    simp only [Option.some.injEq, Prod.mk.injEq] at H
    obtain ⟨rfl, rfl⟩ := H
    go_enter Try.func31, Try.ntmps31
    go_wp2
    go_ret2
    exact ⟨rf_, d0_⟩
  rw [if_neg c2] at H
  have c2b0 := decide_eq_false c2
  have c2b1 : decide (23 < l0.length) = false := decide_eq_false (by omega)
  clear c2
  have H' := as_ H
  clear H
  go_enter Try.func31, Try.ntmps31
  go_wp2
  go_loopg [4] k (fun kq v4 w' => ∃ (x4_1 : Int), v4 = .int .i64 x4_1 ∧ Aside0 (spec_BinaryOfVector.l0 kq l0 x4_1 = some (r1, r2)) ∧ Aside0 (kq ≤ k) ∧ Drawn0 w w')
  case atStart => exact ⟨(0), rf_, H', ⟨Nat.le_refl _⟩, d0_⟩
  case round =>
    clear H'
    (try clear c2); (try clear c2b0); (try clear c2b1); (try clear p2)
    obtain ⟨x4_1, rfl, HA, HK1, ⟨m1, rfl⟩⟩ := hrel
    cases gk with
    | zero => exact absurd HA.out (by simp [spec_BinaryOfVector.l0])
    | succ k1 =>
      have H := HA.out
      clear HA
      simp only [spec_BinaryOfVector.l0] at H
      by_cases c3 : x4_1 < (l0.length : Int)
      rotate_left
      · rw [if_neg c3] at H
        have c3b0 := decide_eq_false c3
        clear c3
        obtain ⟨⟨t705, t706⟩, A7, H⟩ := bo_ H
        dsimp only at H
        by_cases c8 : t706 = true
        · subst c8
          replace H := it_ H
          simp only [Option.some.injEq, Prod.mk.injEq] at H
          obtain ⟨rfl, rfl⟩ := H
          go_wp2_with (first | ((with_reducible refine gate_callee (f := 69) rfl ?_); refine gL_ 24 Try.func69 #[.slice A0 l0.length c0] ?_; (with_reducible refine (spec_l03Of.calls k1 _ _ l0 t705 true _ ?side1 ?side2 A7.out).mono ?_); (case side1 => exact cC_ HR0.out); (case side2 => exact HC0.out); rintro e w' ⟨rfl, ⟨nd, rfl⟩⟩; refine ⟨_, rfl, ?_⟩))
          go_ret2
          exact ⟨rf_, d0_⟩
        replace c8 := Bool.eq_false_iff.mpr c8
        subst c8
        replace H := if_ H
        simp only [Option.some.injEq, Prod.mk.injEq] at H
        obtain ⟨rfl, rfl⟩ := H
        go_wp2_with (first | ((with_reducible refine gate_callee (f := 69) rfl ?_); refine gL_ 24 Try.func69 #[.slice A0 l0.length c0] ?_; (with_reducible refine (spec_l03Of.calls k1 _ _ l0 t705 false _ ?side1 ?side2 A7.out).mono ?_); (case side1 => exact cC_ HR0.out); (case side2 => exact HC0.out); rintro e w' ⟨rfl, ⟨nd, rfl⟩⟩; refine ⟨_, rfl, ?_⟩))
        go_ret2
        exact ⟨rf_, d0_⟩
      rw [if_pos c3] at H
      have c3b0 := decide_eq_true c3
      clear c3
      obtain ⟨c4b0, H⟩ := ite_d H
      obtain ⟨t704, A5, H⟩ := bo_ H
      by_cases c6 : t704 = true
      · subst c6
        replace H := it_ H
        have H' := as_ H
        clear H
        have p703 : 0 ≤ (x4_1 : Int) := od_
        have q703 : x4_1 < (l0.length : Int) := od_
        obtain ⟨ad703, e703, hx703_0⟩ := Kd.at_int HR0.out x4_1 p703 q703
        cases e703
        replace p703 := eq_true p703
        replace q703 := eq_true q703
        go_wp2_with (first | ((with_reducible refine gate_callee (f := 68) rfl ?_); refine gL_ 20 Try.func68 #[.int .i64 (rd l0 x4_1), .int .i64 0, .int .i64 23] ?_; (with_reducible refine (spec_l01In.calls (rd l0 x4_1) 0 23 true _ A5.out).mono ?_); rintro e w' ⟨rfl, ⟨nd, rfl⟩⟩; refine ⟨_, rfl, ?_⟩))
        go_roundg k1
        case measure => have := HK1.out; omega
        case rel => exact ⟨(wrap64 (x4_1 + 1)), rf_, H', om_ HK1, d0_⟩
      replace c6 := Bool.eq_false_iff.mpr c6
      subst c6
      replace H := if_ H
      simp only [Option.some.injEq, Prod.mk.injEq] at H
      obtain ⟨rfl, rfl⟩ := H
      have p703 : 0 ≤ (x4_1 : Int) := od_
      have q703 : x4_1 < (l0.length : Int) := od_
      obtain ⟨ad703, e703, hx703_0⟩ := Kd.at_int HR0.out x4_1 p703 q703
      cases e703
      replace p703 := eq_true p703
      replace q703 := eq_true q703
      go_wp2_with (first | ((with_reducible refine gate_callee (f := 68) rfl ?_); refine gL_ 20 Try.func68 #[.int .i64 (rd l0 x4_1), .int .i64 0, .int .i64 23] ?_; (with_reducible refine (spec_l01In.calls (rd l0 x4_1) 0 23 false _ A5.out).mono ?_); rintro e w' ⟨rfl, ⟨nd, rfl⟩⟩; refine ⟨_, rfl, ?_⟩))
      go_ret2
      exact ⟨rf_, d0_⟩

end Go.Proofs.Ythbdbgoeaichcaa.E
