/- (filled).match: what it answers, and what the map holds then. -/
import Derived.Test.YtmambanmffdibaaPatMap
namespace Go.Proofs.Ytmambanmffdibaa.P
set_option linter.unusedVariables false
set_option linter.unusedSectionVars false
open Go.RowKit Go.Proofs.YtmambanmffdibaaW.PrintWords Go.Proofs.YtmambanmffdibaaW.PrintLast Go.Proofs.YtmambanmffdibaaW.PrintMore
/-- What stands in the place of letters. -/
abbrev Fill := Int → Option Pat
def matchL (f : Pat → Pat → Fill → Bool × Fill) : List Pat → List Pat → Fill → Bool × Fill
  | k :: ks, j :: js, F => if (f k j F).1 = true then matchL f ks js (f k j F).2 else (false, (f k j F).2)
  | _, _, F => (true, F)
def matchP : Nat → Pat → Pat → Fill → Bool × Fill
  | 0, _, _, F => (false, F)
  | n + 1, p, q, F => if p.letter ≠ 0 then (true, fun c => if c = p.letter then some q else F c) else if q.letter ≠ 0 ∨ p.kids.length ≠ q.kids.length then (false, F) else matchL (matchP n) p.kids q.kids F
/-- The map's pointers lead to the patterns. -/
def Tr (w : World) (f : Int → Option Value) (F : Fill) : Prop := ∀ b, (F b = none → f b = none) ∧ ∀ q, F b = some q → ∃ d v, f b = some v ∧ (kP d).K w q [v]
theorem tr_still {w w1 : World} {f : Int → Option Value} {F : Fill} (h : Tr w f F) (hs : Still w w1) : Tr w1 f F := fun b => ⟨(h b).1, fun q hq => by
  obtain ⟨d, v, h1, h2⟩ := (h b).2 q hq
  exact ⟨d, v, h1, K_still h2 hs⟩⟩
theorem matchL_step (f : Pat → Pat → Fill → Bool × Fill) (ks js : List Pat) (F : Fill) (i : Nat) (hi : i < ks.length) (hj : i < js.length) : matchL f (ks.drop i) (js.drop i) F = if (f (ks.getD i default) (js.getD i default) F).1 = true then matchL f (ks.drop (i + 1)) (js.drop (i + 1)) (f (ks.getD i default) (js.getD i default) F).2 else (false, (f (ks.getD i default) (js.getD i default) F).2) := by
  rw [List.drop_eq_getElem_cons hi, List.drop_eq_getElem_cons hj, matchL, List.getD_eq_getElem?_getD, List.getElem?_eq_getElem hi, List.getD_eq_getElem?_getD, List.getElem?_eq_getElem hj]
  rfl
theorem matchL_end (f : Pat → Pat → Fill → Bool × Fill) (ks js : List Pat) (F : Fill) (i : Nat) (hi : ks.length ≤ i) : matchL f (ks.drop i) (js.drop i) F = (true, F) := by
  rw [List.drop_eq_nil_of_le hi]
  cases js.drop i <;> rfl
/-- What match hands back. -/
def MatchR (w : World) (g : Nat) (r : Bool × Fill) (e : Ending) (w' : World) : Prop := e = .returned (.bool r.1) ∧ w.grownBy w' (some g) ∧ ∃ f, MapB w' g f ∧ Tr w' f r.2
theorem matchR_same {w w' : World} {g : Nat} {b : Bool} {f : Int → Option Value} {F : Fill} (hb : Below w.heap.size w w') (hB : MapB w g f) (hT : Tr w f F) : MatchR w g (b, F) (.returned (.bool b)) w' :=
  ⟨rfl, grown_of_below hb _, f, map_below hB hb, tr_still hT (still_below hb)⟩
theorem grown_then {a b c : World} {row : Option Nat} (h : a.grownBy b row) (k : b.grownBy c row) : a.grownBy c row := h.trans k
theorem grown_drewN {a b : World} {row : Option Nat} (h : a.grownBy b row) (n : Nat) : a.grownBy (b.drewN n) row := ⟨h.os, h.tape, h.output, h.size, h.block⟩
set_option maxHeartbeats 4000000 in
set_option maxRecDepth 100000 in
theorem match_calls : ∀ (n : Nat) (p q : Pat) (nq : Nat) (vp vq : Value) (g : Nat) (f : Int → Option Value) (F : Fill) (w : World), (kP n).K w p [vp] → (kP nq).K w q [vq] → MapB w g f → Tr w f F →
    Calls Try.prog 38 #[.map (some g), vp, vq] w (MatchR w g (matchP n p q F))
  | 0, p, q, nq, vp, vq, g, f, F, w, h, _, _, _ => h.elim
  | n + 1, p, q, nq, vp, vq, g, f, F, w, hp, hq, hB, hT => by
    have ih := match_calls n
    have hp' := hp
    have hq' := hq
    obtain ⟨m, gp, A, c, hm, rfl, h0, h1, hl, hC⟩ := K_open hp'
    obtain rfl : m = n := by omega
    obtain ⟨mq, gq, B, cq, hmq, rfl, k0, k1, hlq, hCq⟩ := K_open hq'
    have HB := Aside0.mk hB
    have HT := Aside0.mk hT
    have HQ := Aside0.mk hq
    clear hp' hq' hp hq hB hT
    by_cases hz : p.letter = 0
    · by_cases hzq : q.letter = 0
      · by_cases hlen : p.kids.length = q.kids.length
        · have e : matchP (m + 1) p q F = matchL (matchP m) p.kids q.kids F := by
            rw [matchP, if_neg (fun h => h hz), if_neg (fun h => h.elim (fun h => h hzq) (fun h => h hlen))]
          obtain ⟨R, hR⟩ : ∃ R, R = matchL (matchP m) p.kids q.kids F := ⟨_, rfl⟩
          rw [e, ← hR]
          rw [hz] at h0
          rw [hzq] at k0
          have HC := Aside0.mk hC
          have HCq := Aside0.mk hCq
          have HR := Aside0.mk hR.symm
          have HL := Aside0.mk hlen
          have hne : ((p.kids.length : Int) != (q.kids.length : Int)) = false := bne_eq_false_iff_eq.2 (by omega)
          clear e hR hC hCq hl hlq hz hzq hlen
          go_enter Try.func38, Try.ntmps38
          go_wp2
          go_region
          all_goals go_wp2
          all_goals (go_loopg [43] (p.kids.length + 1) (fun kq v43 w' => ∃ (i : Nat) (f2 : Int → Option Value) (F2 : Fill), v43 = .int .i64 (i : Int) ∧ i + kq = p.kids.length + 1 ∧ i ≤ p.kids.length ∧ Aside0 (matchL (matchP m) (p.kids.drop i) (q.kids.drop i) F2 = R) ∧ Aside0 (MapB w' g f2) ∧ Aside0 (Tr w' f2 F2) ∧ Aside0 (w.grownBy w' (some g))))
          case atStart => exact ⟨0, f, F, rfl, by omega, by omega, ⟨by rw [List.drop_zero, List.drop_zero]; exact HR.out⟩, ⟨by repeat (first | exact HB.out | apply map_drewN | apply map_drew)⟩, ⟨tr_still HT.out (still_below (by repeat (first | exact Below.refl _ _ | apply pw_below_drewN | apply below_drew1)))⟩, ⟨grown_of_below (by repeat (first | exact Below.refl _ _ | apply pw_below_drewN | apply below_drew1)) _⟩⟩
          case round =>
            obtain ⟨i, f2, F2, rfl, hk, hil, HR2, HB2, HT2, HG2⟩ := hrel
            have st := still_map HB.out HG2.out
            cases gk with
            | zero =>
              exfalso
              omega
            | succ gk =>
              by_cases hi : i < p.kids.length
              · have hb1 : decide ((i : Int) < (p.kids.length : Int)) = true := decide_eq_true (by omega)
                obtain ⟨ad, u, rfl, hx, hK⟩ := at_P (C_still HC.out st) i hi
                obtain ⟨ad2, u2', rfl, hx2, hK2⟩ := at_P (C_still HCq.out st) i (by have := HL.out; omega)
                have hr := HR2.out
                rw [matchL_step _ _ _ _ i hi (by have := HL.out; omega)] at hr
                have IH := Aside0.mk (ih _ _ _ _ _ _ _ _ _ hK hK2 HB2.out HT2.out)
                obtain ⟨r, hre⟩ : ∃ r, r = matchP m (p.kids.getD i default) (q.kids.getD i default) F2 := ⟨_, rfl⟩
                rw [← hre] at IH hr
                have hq1 := st _ _ k1
                have hw : wrap64 ((i : Int) + 1) = ((i + 1 : Nat) : Int) := by have := (C_still HC.out st).2.1; unfold wrap64; omega
                have hi2 : (i < p.kids.length) = True := eq_true hi
                have hi3 : (i < q.kids.length) = True := eq_true (by have := HL.out; omega)
                clear hre hK hK2 k0 k1 h0 h1
                cases hb : r.1 with
                | true =>
                  rw [if_pos hb] at hr
                  have HR3 := Aside0.mk hr
                  clear hr
                  go_wp2_with (first | (go_at_call 38; refine IH.out.mono ?_; rintro e w5 ⟨he, hg, f3, hm3, ht3⟩; rw [hb] at he; subst he; have HG3 := Aside0.mk (grown_then HG2.out hg); have HB3 := Aside0.mk hm3; have HT3 := Aside0.mk ht3; clear hg hm3 ht3))
                  go_roundg gk
                  case measure => omega
                  case rel => exact ⟨i + 1, f3, r.2, by first | (rw [hw]; done) | rfl | (congr 1; omega), by omega, by omega, ⟨HR3.out⟩, ⟨HB3.out⟩, ⟨HT3.out⟩, ⟨HG3.out⟩⟩
                | false =>
                  rw [if_neg (by rw [hb]; decide)] at hr
                  have HR3 := Aside0.mk hr
                  clear hr
                  go_wp2_with (first | (go_at_call 38; refine IH.out.mono ?_; rintro e w5 ⟨he, hg, f3, hm3, ht3⟩; rw [hb] at he; subst he; have HG3 := Aside0.mk (grown_then HG2.out hg); have HB3 := Aside0.mk hm3; have HT3 := Aside0.mk ht3; clear hg hm3 ht3))
                  go_ret
                  rw [← HR3.out]
                  exact ⟨rfl, HG3.out, f3, HB3.out, HT3.out⟩
              · have hb1 : decide ((i : Int) < (p.kids.length : Int)) = false := decide_eq_false (by omega)
                have hr := HR2.out
                rw [matchL_end _ _ _ _ i (by omega)] at hr
                have HR3 := Aside0.mk hr
                clear hr
                go_wp2
                go_ret
                rw [← HR3.out]
                exact ⟨rfl, HG2.out, f2, HB2.out, HT2.out⟩
        · have e : matchP (m + 1) p q F = (false, F) := by
            rw [matchP, if_neg (fun h => h hz), if_pos (.inr hlen)]
          rw [e]
          rw [hz] at h0
          rw [hzq] at k0
          have hne : ((p.kids.length : Int) != (q.kids.length : Int)) = true := bne_iff_ne.2 (by omega)
          clear e hC hCq hl hlq hz hzq hlen
          go_enter Try.func38, Try.ntmps38
          go_wp2
          go_region
          all_goals go_wp2
          all_goals go_ret
          all_goals exact matchR_same (by repeat (first | exact Below.refl _ _ | apply pw_below_drewN | apply below_drew1)) HB.out HT.out
      · have e : matchP (m + 1) p q F = (false, F) := by
          rw [matchP, if_neg (fun h => h hz), if_pos (.inl hzq)]
        rw [e]
        rw [hz] at h0
        obtain ⟨b, hb⟩ : ∃ b, q.letter = b := ⟨_, rfl⟩
        rw [hb] at k0 hzq
        have hz2 : (b != 0) = true := bne_iff_ne.2 hzq
        clear e hC hCq hl hlq hz hzq hb
        go_enter Try.func38, Try.ntmps38
        go_wp2
        go_region
        all_goals go_wp2
        all_goals go_ret
        all_goals exact matchR_same (by repeat (first | exact Below.refl _ _ | apply pw_below_drewN | apply below_drew1)) HB.out HT.out
    · have e : matchP (m + 1) p q F = (true, fun c => if c = p.letter then some q else F c) := by rw [matchP, if_pos hz]
      rw [e]
      obtain ⟨b, hb⟩ : ∃ b, p.letter = b := ⟨_, rfl⟩
      rw [hb] at h0 hz ⊢
      have hz2 : (b != 0) = true := bne_iff_ne.2 hz
      clear e hb hz
      go_enter Try.func38, Try.ntmps38
      go_wp2_with (first | (refine mp_put _ _ _ rfl (.inl rfl) rfl rfl rfl HB.out ?_; intro w1 hm1 hg1; have HM1 := Aside0.mk hm1; have HG1 := Aside0.mk hg1; clear hm1 hg1))
      go_ret
      refine ⟨rfl, HG1.out, _, HM1.out, fun c => ?_⟩
      have hT2 := tr_still HT.out (still_map HB.out HG1.out)
      by_cases hc : c = b
      · rw [if_pos hc]
        refine ⟨fun h => ?_, fun q2 h2 => ⟨nq, .pointer (some ⟨gq, 0, none⟩), rfl, ?_⟩⟩
        · simp only [if_pos hc] at h; cases h
        · simp only [if_pos hc] at h2
          obtain rfl := Option.some.inj h2
          exact K_still HQ.out (still_map HB.out HG1.out)
      · simp only [if_neg hc]
        exact hT2 c
end Go.Proofs.Ytmambanmffdibaa.P
