/- The row of the law FnExactCombineAutomata, out of its pure statement. -/
import Derived.Test.YtpbfideppdmceaaQCMEx9
import Derived.Test.YtpbfideppdmceaaQCML1
import Derived.Test.YtpbfideppdmceaaRows
import Derived.Below
import Derived.ChangeOld
import Derived.OpenShut
import Derived.ProofKit
import Derived.ShutString
import Derived.SizedLaws
import Derived.WalkKit
namespace Go.Proofs.Ytpbfideppdmceaa.fnExactCombineAutomata
open Go.ChangeShapes Go.WideShapes Go.ChangeAt Go.RowKit Go.Proofs.YtpbfideppdmceaaW.PrintWords
open Go.ChangeMaps (open_string shut_string)
set_option linter.unusedVariables false
theorem own : ownKnob Try.prog.godebug = none := by kernel_rfl
theorem laidOut : laidOutB Try.prog = true := by kernel_rfl
set_option maxRecDepth 100000 in
theorem lifted (os : Os) (started : os.Started) (H : Type) (enc : TypeId × Value → H) :
    ReturnsInHanded {} Try.checked os 4 .any (Rows.fnExactCombineAutomataSpec.pre6 enc Try.prog Try.f4 Rows.fnExactCombineAutomataRow.domain false) (Rows.fnExactCombineAutomataSpec.post enc Try.prog Try.f4 false true false false) := by
  refine returnsInHanded_of_change_sized (C := Try.checked) own started (by kernel_rfl) Try.func4
    (ChangeSpec.witness6 (enc := enc) (C := Try.checked) false ⟨#[], #[.agg #[(.int .i64 0), (.slice none 0 0), (.slice none 0 0)], .agg #[(.int .i64 0), (.slice none 0 0), (.slice none 0 0)], .int .i64 0], []⟩ 8 (by kernel_rfl) (by kernel_rfl) (by kernel_rfl) (by kernel_rfl)) ?_
  intro W base args ds gs before hval0 hW hcnd hsz0 _
  clear hsz0
  have hval : ∀ (j : Nat) t v, Try.f4.params[j]? = some t → args[j]? = some v → Value.okWide Try.prog W .any base t v := hval0
  have hW' := hW
  obtain ⟨p, q, hA0, hV, rfl, hfz, hnd⟩ := hW
  have hA : DataW.TrodAll enc Try.prog W 0 (fun _ => true) true Try.f4.params.toList args.toList ds p := hA0
  rw [Try.params4] at hA hval
  obtain ⟨v0, vs0, d0, ds0, p0, q0, hargs, rfl, rfl, h0, r0⟩ := trodAll_cons hA
  obtain ⟨v1, vs1, d1, ds1, p1, q1, rfl, rfl, rfl, h1, r1⟩ := trodAll_cons r0
  obtain ⟨v2, vs2, d2, ds2, p2, q2, rfl, rfl, rfl, h2, r2⟩ := trodAll_cons r1
  obtain ⟨rfl, rfl, rfl⟩ := trodAll_nil r2
  obtain rfl : args = #[v0, v1, v2] := by cases args; simp_all
  obtain ⟨rfl, rfl⟩ := trodVars_none hV
  have k0 := h0
  have lt0 : ∀ x ∈ p0, x.block < W.heap.size := by obtain ⟨m, hm⟩ := k0; exact DataW.trod_lt m _ _ _ hm
  obtain ⟨u0_0, u0_1, u0_2, y0_0, y0_1, y0_2, nn0, rfl, _, _, t0_0, t0_1, t0_2⟩ := Go.Joins.open_agg3 Try.underlying25 (by kernel_rfl) (by kernel_rfl) (hval 0 25 v0 rfl rfl) h0
  obtain ⟨a0_0, hv0_0, _, w0_0⟩ := DataW.trod_int Try.underlying2 t0_0
  obtain rfl : u0_0 = .int .i64 a0_0 := by simpa using hv0_0
  obtain ⟨A0_1, c0_1, l0_1, rfl, hc0_1, hm0_1, hC0_1, hq0_1⟩ := Open.slice_in (d := (Kd.slice 2 (Kd.int .i64))) Try.underlying22 (by kernel_rfl) (Open.opens_slice Try.underlying23 (by kernel_rfl) (Open.opens_int Try.underlying2)) t0_1
  obtain ⟨A0_2, c0_2, l0_2, rfl, hc0_2, hm0_2, hC0_2, hq0_2⟩ := Open.slice_in (d := (Kd.int .i64)) Try.underlying23 (by kernel_rfl) (Open.opens_int Try.underlying2) t0_2
  have k1 := h1
  have lt1 : ∀ x ∈ p1, x.block < W.heap.size := by obtain ⟨m, hm⟩ := k1; exact DataW.trod_lt m _ _ _ hm
  obtain ⟨u1_0, u1_1, u1_2, y1_0, y1_1, y1_2, nn1, rfl, _, _, t1_0, t1_1, t1_2⟩ := Go.Joins.open_agg3 Try.underlying25 (by kernel_rfl) (by kernel_rfl) (hval 1 25 v1 rfl rfl) h1
  obtain ⟨a1_0, hv1_0, _, w1_0⟩ := DataW.trod_int Try.underlying2 t1_0
  obtain rfl : u1_0 = .int .i64 a1_0 := by simpa using hv1_0
  obtain ⟨A1_1, c1_1, l1_1, rfl, hc1_1, hm1_1, hC1_1, hq1_1⟩ := Open.slice_in (d := (Kd.slice 2 (Kd.int .i64))) Try.underlying22 (by kernel_rfl) (Open.opens_slice Try.underlying23 (by kernel_rfl) (Open.opens_int Try.underlying2)) t1_1
  obtain ⟨A1_2, c1_2, l1_2, rfl, hc1_2, hm1_2, hC1_2, hq1_2⟩ := Open.slice_in (d := (Kd.int .i64)) Try.underlying23 (by kernel_rfl) (Open.opens_int Try.underlying2) t1_2
  have k2 := h2
  have lt2 : ∀ x ∈ p2, x.block < W.heap.size := by obtain ⟨m, hm⟩ := k2; exact DataW.trod_lt m _ _ _ hm
  obtain ⟨a2, rfl, rfl, rfl, w2⟩ := open_int Try.underlying2 (hval 2 2 v2 rfl rfl) h2
  clear hA0 hval0
  obtain ⟨k, h⟩ := Pure.FnExactCombineAutomata a0_0 l0_1 l0_2 a1_0 l1_1 l1_2 a2 w0_0 hm0_1 hq0_1 hm0_2 hq0_2 w1_0 hm1_1 hq1_1 hm1_2 hq1_2 w2
  refine (E.laws_FnExactCombineAutomata.calls k a0_0 _ _ l0_1 _ _ l0_2 a1_0 _ _ l1_1 _ _ l1_2 a2 true W hC0_1 hc0_1 hC0_2 hc0_2 hC1_1 hc1_1 hC1_2 hc1_2 h).mono fun e W' ⟨he, bel0⟩ => ?_
  have bel := bel0
  subst he
  exact ⟨_, rfl, _, _, _, [], _, [], hW', trodAll_mk1 (shut_bool Try.underlying4 _), (trodAll_cons_mk (Below.trod laidOut (by kernel_rfl) (of_decide_eq_true (by kernel_rfl)) k0 bel lt0) (trodAll_cons_mk (Below.trod laidOut (by kernel_rfl) (of_decide_eq_true (by kernel_rfl)) k1 bel lt1) (trodAll_cons_mk (Below.trod laidOut (by kernel_rfl) (of_decide_eq_true (by kernel_rfl)) k2 bel lt2) trodAll_mk0))), rfl, bel.frame _, fun h => by cases h⟩
theorem over : Rows.fnExactCombineAutomataRow.holds Try.pinned (OpenSpec.ofChange Rows.fnExactCombineAutomataSpec) :=
  OpenClaim.holds_of_wide 4 Try.f4 rfl rfl rfl rfl rfl rfl rfl ⟨rfl, rfl, rfl, rfl, rfl⟩ rfl rfl rfl rfl rfl (by kernel_rfl) Try.func4 (by kernel_rfl)
    (of_decide_eq_true (by kernel_rfl)) (by unfold Func.isWrapper; first | (rw [if_pos (by decide +kernel)]; kernel_rfl) | (rw [if_neg (by decide +kernel)]; exact ⟨rfl, rfl⟩))
    (fun os started H enc _ => lifted os started H enc)
theorem proved : Rows.FnExactCombineAutomataSaid := over
#print axioms proved
end Go.Proofs.Ytpbfideppdmceaa.fnExactCombineAutomata
namespace Go.Proofs.Ytpbfideppdmceaa
theorem fnExactCombineAutomata_holds : Rows.FnExactCombineAutomataSaid := fnExactCombineAutomata.proved
end Go.Proofs.Ytpbfideppdmceaa
