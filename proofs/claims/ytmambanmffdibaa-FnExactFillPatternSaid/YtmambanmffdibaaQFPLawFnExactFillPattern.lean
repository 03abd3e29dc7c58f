/- The row of the law FnExactFillPattern, out of its pure statement. -/
import Derived.Test.YtmambanmffdibaaQFPEx16
import Derived.Test.YtmambanmffdibaaQFPL5
import Derived.Test.YtmambanmffdibaaQFPL7
import Derived.Test.YtmambanmffdibaaRows
import Derived.Below
import Derived.ChangeOld
import Derived.OpenShut
import Derived.ProofKit
import Derived.ShutString
import Derived.SizedLaws
import Derived.WalkKit
namespace Go.Proofs.Ytmambanmffdibaa.fnExactFillPattern
open Go.ChangeShapes Go.WideShapes Go.ChangeAt Go.RowKit Go.Proofs.YtmambanmffdibaaW.PrintWords
open Go.ChangeMaps (open_string shut_string)
set_option linter.unusedVariables false
theorem own : ownKnob Try.prog.godebug = none := by kernel_rfl
theorem laidOut : laidOutB Try.prog = true := by kernel_rfl
instance : Inhabited E.S28 := ⟨E.z28⟩
set_option maxRecDepth 100000 in
theorem opens28 {H : Type} {enc : TypeId × Value → H} {w : World} {base : Nat} {held : Bool} : Open.Opens E.k28 (fun _ => True) enc Try.prog w base held 28 := by
  intro fuel cs x h
  obtain ⟨y0, n0, _, hl, h0⟩ := trod_struct1 Try.underlying28 h
  have hl1 : cs.length = 1 := hl.trans (by kernel_rfl)
  match cs, hl1 with
  | [c0], _ =>
    have h1 : DataW.trod enc Try.prog w base (fun _ => true) held n0 26 [c0] = some y0 := by simpa [show Try.prog.cellsOf 26 = 1 by kernel_rfl] using h0
    obtain ⟨A, c, xs, rfl, hlc, _, hC, _⟩ := Open.slice_in (d := (Kd.int .i64)) Try.underlying26 (by kernel_rfl) (Open.opens_int Try.underlying2) h1
    exact ⟨⟨xs⟩, E.k28_mk w (⟨xs⟩ : E.S28) hlc hC, trivial⟩
set_option maxRecDepth 100000 in
theorem lifted (os : Os) (started : os.Started) (H : Type) (enc : TypeId × Value → H) :
    ReturnsInHanded {} Try.checked os 7 .any (Rows.fnExactFillPatternSpec.pre6 enc Try.prog Try.f7 Rows.fnExactFillPatternRow.domain false) (Rows.fnExactFillPatternSpec.post enc Try.prog Try.f7 false true false false) := by
  refine returnsInHanded_of_change_sized (C := Try.checked) own started (by kernel_rfl) Try.func7
    (ChangeSpec.witness6 (enc := enc) (C := Try.checked) false ⟨#[], #[.string ⟨#[]⟩, .slice none 0 0], []⟩ 8 (by kernel_rfl) (by kernel_rfl) (by kernel_rfl) (by kernel_rfl)) ?_
  intro W base args ds gs before hval0 hW hcnd hsz0 _
  clear hsz0
  have hval : ∀ (j : Nat) t v, Try.f7.params[j]? = some t → args[j]? = some v → Value.okWide Try.prog W .any base t v := hval0
  have hW' := hW
  obtain ⟨p, q, hA0, hV, rfl, hfz, hnd⟩ := hW
  have hA : DataW.TrodAll enc Try.prog W 0 (fun _ => true) true Try.f7.params.toList args.toList ds p := hA0
  rw [Try.params7] at hA hval
  obtain ⟨v0, vs0, d0, ds0, p0, q0, hargs, rfl, rfl, h0, r0⟩ := trodAll_cons hA
  obtain ⟨v1, vs1, d1, ds1, p1, q1, rfl, rfl, rfl, h1, r1⟩ := trodAll_cons r0
  obtain ⟨rfl, rfl, rfl⟩ := trodAll_nil r1
  obtain rfl : args = #[v0, v1] := by cases args; simp_all
  obtain ⟨rfl, rfl⟩ := trodVars_none hV
  have k0 := h0
  have lt0 : ∀ x ∈ p0, x.block < W.heap.size := by obtain ⟨m, hm⟩ := k0; exact DataW.trod_lt m _ _ _ hm
  obtain ⟨a0, rfl, rfl, rfl, w0⟩ := open_string Try.underlying9 (hval 0 9 v0 rfl rfl) h0
  have k1 := h1
  have lt1 : ∀ x ∈ p1, x.block < W.heap.size := by obtain ⟨m, hm⟩ := k1; exact DataW.trod_lt m _ _ _ hm
  obtain ⟨b1, n1, e1, rfl⟩ := okWide_slice Try.underlying41 (hval 1 41 v1 rfl rfl)
  obtain ⟨fu1, hf1⟩ := h1
  obtain ⟨A1, c1, l1, hv1, hc1, hm1, hC1, hq1⟩ := Open.slice_in (v := .slice b1 n1 e1) (d := E.k28) Try.underlying41 (by kernel_rfl) opens28 (by simpa [Value.cells] using hf1)
  obtain ⟨rfl, rfl, rfl⟩ : b1 = A1 ∧ n1 = l1.length ∧ e1 = c1 := by simpa using hv1
  clear hA0 hval0
  obtain ⟨k, h⟩ := Pure.FnExactFillPattern a0 l1 w0 hm1 (E.small28 hC1)
  refine (E.laws_FnExactFillPattern.calls k a0 _ _ l1 true W hC1 hc1 h).mono fun e W' ⟨he, bel0⟩ => ?_
  have bel := bel0
  subst he
  exact ⟨_, rfl, _, _, _, [], _, [], hW', trodAll_mk1 (shut_bool Try.underlying4 _), (trodAll_cons_mk (Below.trod laidOut (by kernel_rfl) (of_decide_eq_true (by kernel_rfl)) k0 bel lt0) (trodAll_cons_mk (Below.trod laidOut (by kernel_rfl) (of_decide_eq_true (by kernel_rfl)) k1 bel lt1) trodAll_mk0)), rfl, bel.frame _, fun h => by cases h⟩
theorem over : Rows.fnExactFillPatternRow.holds Try.pinned (OpenSpec.ofChange Rows.fnExactFillPatternSpec) :=
  OpenClaim.holds_of_wide 7 Try.f7 rfl rfl rfl rfl rfl rfl rfl ⟨rfl, rfl, rfl, rfl, rfl⟩ rfl rfl rfl rfl rfl (by kernel_rfl) Try.func7 (by kernel_rfl)
    (of_decide_eq_true (by kernel_rfl)) (by unfold Func.isWrapper; first | (rw [if_pos (by decide +kernel)]; kernel_rfl) | (rw [if_neg (by decide +kernel)]; exact ⟨rfl, rfl⟩))
    (fun os started H enc _ => lifted os started H enc)
theorem proved : Rows.FnExactFillPatternSaid := over
#print axioms proved
end Go.Proofs.Ytmambanmffdibaa.fnExactFillPattern
namespace Go.Proofs.Ytmambanmffdibaa
theorem fnExactFillPattern_holds : Rows.FnExactFillPatternSaid := fnExactFillPattern.proved
end Go.Proofs.Ytmambanmffdibaa
