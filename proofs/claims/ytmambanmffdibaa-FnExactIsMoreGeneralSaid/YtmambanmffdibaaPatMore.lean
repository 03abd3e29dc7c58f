/- impl.twoPatterns and impl.IsMoreGeneral. -/
import Derived.Test.YtmambanmffdibaaPatMatch
namespace Go.Proofs.Ytmambanmffdibaa.P
set_option linter.unusedVariables false
set_option linter.unusedSectionVars false
open Go.RowKit Go.Proofs.YtmambanmffdibaaW.PrintWords Go.Proofs.YtmambanmffdibaaW.PrintLast Go.Proofs.YtmambanmffdibaaW.PrintMore
/-- A pattern that was read is still there. -/
def Reads (w : World) (o : Option Pat) (v : Value) : Prop := ∀ p, o = some p → (kP 61).K w p [v]
set_option maxHeartbeats 4000000 in
set_option maxRecDepth 100000 in
theorem twoPatterns_calls (s t : ByteArray) (w : World) : Calls Try.prog 37 #[.string s, .string t] w fun e w' => Below w.heap.size w w' ∧ ∃ v1 v2, e = .returned (.tuple #[v1, v2, .bool ((toP s).isSome && (toP t).isSome)]) ∧ Reads w' (toP s) v1 ∧ Reads w' (toP t) v2 := by
  have C1 := Aside0.mk (toPattern_calls s)
  have C2 := Aside0.mk (toPattern_calls t)
  obtain ⟨o1, e1⟩ : ∃ o, o = toP s := ⟨_, rfl⟩
  obtain ⟨o2, e2⟩ : ∃ o, o = toP t := ⟨_, rfl⟩
  rw [← e1] at C1 ⊢
  rw [← e2] at C2 ⊢
  clear e1 e2
  obtain ⟨b1, hb1⟩ : ∃ b, b = o1.isSome := ⟨_, rfl⟩
  obtain ⟨b2, hb2⟩ : ∃ b, b = o2.isSome := ⟨_, rfl⟩
  have HB1 := Aside0.mk hb1
  have HB2 := Aside0.mk hb2
  rw [← hb1, ← hb2]
  clear hb1 hb2
  have fin : ∀ {v1 v2 : Value} {w5 w6 : World}, Below w.heap.size w w5 → Below w5.heap.size w5 w6 → (∀ p, o1 = some p → (kP 61).M w5 w.heap.size (fun _ => True) p [v1]) → (∀ p, o2 = some p → (kP 61).M w6 w5.heap.size (fun _ => True) p [v2]) → Below w.heap.size w w6 ∧ Reads w6 o1 v1 ∧ Reads w6 o2 v2 :=
    fun h5 h6 m1 m2 => ⟨below_step h5 h6, fun p hp => K_still ((kP 61).K_of_M (m1 p hp)) (still_below h6), fun p hp => (kP 61).K_of_M (m2 p hp)⟩
  have FIN := Aside0.mk @fin
  clear fin
  cases b1 <;> cases b2 <;> (
    go_enter Try.func37, Try.ntmps37
    go_wp2_with (first | (go_at_call 35; refine (C1.out _).mono ?_; rintro e w5 ⟨hb, v5, he, hM⟩; rw [← HB1.out] at he; subst he; have HM5 := Aside0.mk hM; have HB5 := Aside0.mk hb; clear C1 hb hM) | (go_at_call 35; refine (C2.out _).mono ?_; rintro e w6 ⟨hb, v6, he, hM⟩; rw [← HB2.out] at he; subst he; have HM6 := Aside0.mk hM; have HB6 := Aside0.mk hb; clear hb hM))
    refine bodyPost_ret (results_tmp3 rfl _ _ _) rfl ?_
    obtain ⟨f1, f2, f3⟩ := FIN.out HB5.out HB6.out HM5.out HM6.out
    exact ⟨f1, v5, v6, rfl, f2, f3⟩)
/-- IsMoreGeneral. -/
def moreP (s t : ByteArray) : Bool × Int := match toP s, toP t with
  | some p, some q => ((matchP 61 p q fun _ => none).1, 0)
  | _, _ => (false, 6)
set_option maxHeartbeats 4000000 in
set_option maxRecDepth 100000 in
theorem isMoreGeneral_calls (s t : ByteArray) (w : World) : Calls Try.prog 12 #[.string s, .string t] w fun e w' => e = .returned (.tuple #[.bool (moreP s t).1, .int .i64 (moreP s t).2]) ∧ Below w.heap.size w w' := by
  have C1 := Aside0.mk (twoPatterns_calls s t w)
  obtain ⟨r, hr⟩ : ∃ r, r = moreP s t := ⟨_, rfl⟩
  rw [← hr]
  rw [moreP] at hr
  cases h1 : toP s with
  | none =>
    rw [h1] at hr C1
    subst hr
    go_enter Try.func12, Try.ntmps12
    go_wp2_with (first | (go_at_call 37; refine C1.out.mono ?_; rintro e w5 ⟨hb, v1, v2, rfl, hM1, hM2⟩; have HB5 := Aside0.mk hb; clear hb hM1 hM2))
    go_ret2
    exact ⟨rfl, HB5.out⟩
  | some p =>
    cases h2 : toP t with
    | none =>
      rw [h1, h2] at hr C1
      subst hr
      go_enter Try.func12, Try.ntmps12
      go_wp2_with (first | (go_at_call 37; refine C1.out.mono ?_; rintro e w5 ⟨hb, v1, v2, rfl, hM1, hM2⟩; have HB5 := Aside0.mk hb; clear hb hM1 hM2))
      go_ret2
      exact ⟨rfl, HB5.out⟩
    | some q =>
      rw [h1, h2] at hr C1
      subst hr
      obtain ⟨m, hm⟩ : ∃ m, m = matchP 61 p q fun _ => none := ⟨_, rfl⟩
      have HMm := Aside0.mk hm
      simp only [← hm]
      clear hm
      go_enter Try.func12, Try.ntmps12
      go_wp2_with (first | (go_at_call 37; refine C1.out.mono ?_; rintro e w5 ⟨hb, v1, v2, rfl, hM1, hM2⟩; have HM1 := Aside0.mk (hM1 _ rfl); have HM2 := Aside0.mk (hM2 _ rfl); have HB5 := Aside0.mk hb; clear hb hM1 hM2) | (refine mp_make rfl rfl ?_; intro g hg w6 hm6 hb6; have HG6 := Aside0.mk hg; have HM6 := Aside0.mk hm6; have HB6 := Aside0.mk hb6; clear hg hm6 hb6) | (go_at_call 38; refine (match_calls 61 p q 61 _ _ g _ (fun _ => none) _ (K_still HM1.out (still_below HB6.out)) (K_still HM2.out (still_below HB6.out)) HM6.out (fun b => ⟨fun _ => rfl, fun q h => by cases h⟩)).mono ?_; rintro e w7 ⟨he, hg, _⟩; rw [← HMm.out] at he; subst he; have HG7 := Aside0.mk hg; clear hg))
      go_ret2
      exact ⟨rfl, (below_step HB5.out HB6.out).grown HG7.out (Nat.le_trans HB5.out.size HB6.out.size) (fun k hk => by injection hk with hk; rw [← hk, HG6.out]; exact HB5.out.size)⟩
end Go.Proofs.Ytmambanmffdibaa.P
