/- The row of the law FnBinary, out of its pure statement. -/
import Derived.Test.YthbdbgoeaichcaaQFBEx0
import Derived.Test.YthbdbgoeaichcaaQFBEx1
import Derived.Test.YthbdbgoeaichcaaQFBEx2
import Derived.Test.YthbdbgoeaichcaaQFBEx3
import Derived.Test.YthbdbgoeaichcaaQFBEx4
import Derived.Test.YthbdbgoeaichcaaQFBEx5
import Derived.Test.YthbdbgoeaichcaaQFBEx6
import Derived.Test.YthbdbgoeaichcaaQFBL
-- Written by wip/ext.py of this claim (contracts by the form of the kit's print; hand-written ones among them).
namespace Go.Proofs.Ythbdbgoeaichcaa.E
open Go.RowKit Go.Proofs.YthbdbgoeaichcaaW.PrintWords Go.Proofs.YthbdbgoeaichcaaW.PrintLast Go.Proofs.YthbdbgoeaichcaaW.PrintMore Go.Proofs.Ythbdbgoeaichcaa.Mi
attribute [local go_sem] max2_int min2_int max_two min_two max_three min_three max_four min_four   -- for this text's walks alone
set_option linter.unusedVariables false
set_option linter.unusedSimpArgs false

mutual
def laws_FnBinary.j0 : Nat → List Int → ByteArray → Int → Bool → List Int → Option (Bool)
  | 0, _, _, _, _, _ => none
  | k + 1, x0, x4, x5, x87, x745000 => if x87 = true then (some false) else (if x5 = 0 then ((impl_TreeOfBinary.f k x4).bind fun bt749 => (if bt749.2 = 0 then ((laws_trees5.f k bt749.1 x745000).bind fun t754 => (if t754 = true then (if (x4.size : Int) = (wrap64 ((wrap64 (2 * (x745000.length : Int))) - 1)) then ((impl_IsBinary.f k x4).bind fun t755 => (if t755 = true then (laws_FnBinary.j1 k x0) else (some false))) else (some false)) else (some false))) else (some false))) else (laws_FnBinary.j1 k x0))
def laws_FnBinary.j1 : Nat → List Int → Option (Bool)
  | 0, _ => none
  | k + 1, x0 => (spec_DrawVectorOf.f k x0).bind fun t756 => ((impl_VectorOf.f k t756).bind fun bt757 => ((spec_VectorOf.f k t756).bind fun bt761 => ((impl_MirrorBinary.f k t756).bind fun bt765 => ((spec_MirrorBinary.f k t756).bind fun bt767 => ((impl_InnerOrder.f k t756).bind fun bt769 => ((spec_InnerOrder.f k t756).bind fun bt773 => ((impl_BracketsOf.f k t756).bind fun bt777 => ((spec_BracketsOf.f k t756).bind fun bt779 => (if bt757.2 = bt761.2 then ((laws_likeInts.f k bt757.1 bt761.1).bind fun t781 => (if t781 = true then (if bt765.2 = bt767.2 then (if bt765.1.toList = bt767.1.toList then (if bt769.2 = bt773.2 then ((laws_likeInts.f k bt769.1 bt773.1).bind fun t782 => (if t782 = true then (if bt777.2 = bt779.2 then (if bt777.1.toList = bt779.1.toList then ((impl_IsBinary.f k t756).bind fun t783 => ((spec_IsBinary.f k t756).bind fun t784 => (if (t783 != t784) = true then (laws_FnBinary.j2 k x0 t756 bt757.1 bt757.2 bt765.1 bt769.1 bt777.1 true) else ((impl_IsBinary.f k t756).bind fun t785 => (laws_FnBinary.j2 k x0 t756 bt757.1 bt757.2 bt765.1 bt769.1 bt777.1 (t785 != (bt757.2 == 0))))))) else (laws_FnBinary.j2 k x0 t756 bt757.1 bt757.2 bt765.1 bt769.1 bt777.1 true)) else (laws_FnBinary.j2 k x0 t756 bt757.1 bt757.2 bt765.1 bt769.1 bt777.1 true)) else (laws_FnBinary.j2 k x0 t756 bt757.1 bt757.2 bt765.1 bt769.1 bt777.1 true))) else (laws_FnBinary.j2 k x0 t756 bt757.1 bt757.2 bt765.1 bt769.1 bt777.1 true)) else (laws_FnBinary.j2 k x0 t756 bt757.1 bt757.2 bt765.1 bt769.1 bt777.1 true)) else (laws_FnBinary.j2 k x0 t756 bt757.1 bt757.2 bt765.1 bt769.1 bt777.1 true)) else (laws_FnBinary.j2 k x0 t756 bt757.1 bt757.2 bt765.1 bt769.1 bt777.1 true))) else (laws_FnBinary.j2 k x0 t756 bt757.1 bt757.2 bt765.1 bt769.1 bt777.1 true))))))))))
def laws_FnBinary.j2 : Nat → List Int → ByteArray → List Int → Int → ByteArray → List Int → ByteArray → Bool → Option (Bool)
  | 0, _, _, _, _, _, _, _, _ => none
  | k + 1, x0, x10, x11, x12, x15, x19, x23, x213 => if x213 = true then (some false) else (if x12 = 0 then ((impl_BinaryOfVector.f k x11).bind fun bt786 => ((impl_ParseBrackets.f k x23).bind fun bt788 => ((impl_MirrorBinary.f k x15).bind fun bt790 => (if bt786.2 = 0 then (if bt788.2 = 0 then (if bt790.2 = 0 then (if bt786.1.toList = x10.toList then (if bt788.1.toList = x10.toList then (if bt790.1.toList = x10.toList then (laws_FnBinary.j3 k x0 x10 ((x19.length : Int) != (x11.length : Int))) else (laws_FnBinary.j3 k x0 x10 true)) else (laws_FnBinary.j3 k x0 x10 true)) else (laws_FnBinary.j3 k x0 x10 true)) else (laws_FnBinary.j3 k x0 x10 true)) else (laws_FnBinary.j3 k x0 x10 true)) else (laws_FnBinary.j3 k x0 x10 true))))) else (laws_FnBinary.j4 k x0))
def laws_FnBinary.j4 : Nat → List Int → Option (Bool)
  | 0, _ => none
  | k + 1, x0 => (spec_DrawJoinSides.f k x0).bind fun bt797 => ((impl_JoinSides.f k bt797.1 bt797.2).bind fun bt799 => ((spec_JoinSides.f k bt797.1 bt797.2).bind fun bt801 => ((spec_DrawTreeOfBinary.f k x0).bind fun t803 => ((impl_TreeOfBinary.f k t803).bind fun bt804 => ((spec_TreeOfBinary.f k t803).bind fun bt809 => ((spec_DrawBinaryOfVector.f k x0).bind fun t814 => ((impl_BinaryOfVector.f k t814).bind fun bt817 => ((spec_BinaryOfVector.f k t814).bind fun bt819 => ((spec_DrawParseBrackets.f k x0).bind fun t821 => ((impl_ParseBrackets.f k t821).bind fun bt822 => ((spec_ParseBrackets.f k t821).bind fun bt824 => ((spec_DrawSidesOf.f k x0).bind fun t826 => ((impl_SidesOf.f k t826).bind fun bt827 => ((spec_SidesOf.f k t826).bind fun bt830 => (if bt799.2 = bt801.2 then (if bt799.1.toList = bt801.1.toList then (if bt804.2 = bt809.2 then ((laws_trees5.f k bt804.1 bt809.1).bind fun t833 => (if t833 = true then (if bt817.2 = bt819.2 then (if bt817.1.toList = bt819.1.toList then (if bt822.2 = bt824.2 then (if bt822.1.toList = bt824.1.toList then (if bt827.2.2 = bt830.2.2 then (if bt827.1.toList = bt830.1.toList then (some (bt827.2.1.toList == bt830.2.1.toList)) else (some false)) else (some false)) else (some false)) else (some false)) else (some false)) else (some false)) else (some false))) else (some false)) else (some false)) else (some false))))))))))))))))
def laws_FnBinary.j3 : Nat → List Int → ByteArray → Bool → Option (Bool)
  | 0, _, _, _ => none
  | k + 1, x0, x10, x262 => if x262 = true then (some false) else ((impl_SidesOf.f k x10).bind fun bt792 => (if ((bt792.2.2 == 0) != (x10.toList != ([48] : List UInt8))) = true then (some false) else (if bt792.2.2 = 0 then ((impl_JoinSides.f k bt792.1 bt792.2.1).bind fun bt795 => (if bt795.2 = 0 then (if bt795.1.toList = x10.toList then (laws_FnBinary.j4 k x0) else (some false)) else (some false))) else (laws_FnBinary.j4 k x0))))
end
def laws_FnBinary.f (k : Nat) (l0 : List Int) : Option (Bool) := (laws_big.f l0).bind fun t740 => (if t740 = true then (some true) else ((spec_DrawBinaryOf.f k l0).bind fun t741 => ((impl_BinaryOf.f k t741).bind fun bt745 => ((spec_BinaryOf.f k t741).bind fun bt747 => (if bt745.2 = bt747.2 then (laws_FnBinary.j0 k l0 bt745.1 bt745.2 (bt745.1.toList != bt747.1.toList) t741) else (laws_FnBinary.j0 k l0 bt745.1 bt745.2 true t741))))))
set_option maxHeartbeats 8000000 in
set_option maxRecDepth 100000 in
theorem laws_FnBinary.calls (k : Nat) (A0 : Option Addr) (c0 : Nat) (l0 : List Int) (r : Bool) (w : World) (hr0 : Kd.C (Kd.int .u8) w A0 l0.length l0) (hc0 : l0.length ≤ c0) (h : laws_FnBinary.f k l0 = some r) :
    Calls Try.prog 3 #[.slice A0 l0.length c0] w fun e w' => e = .returned (.bool r) ∧ Below w.heap.size w w' := by
  have hu26 := Try.underlying26
  have HR0 := as_ hr0
  have HC0 := as_ hc0
  clear hr0 hc0
  have HB := as_ (Below.refl w.heap.size w)
  have H : ((laws_big.f l0).bind fun t740 => (if t740 = true then (some true) else ((spec_DrawBinaryOf.f k l0).bind fun t741 => ((impl_BinaryOf.f k t741).bind fun bt745 => ((spec_BinaryOf.f k t741).bind fun bt747 => (if bt745.2 = bt747.2 then (laws_FnBinary.j0 k l0 bt745.1 bt745.2 (bt745.1.toList != bt747.1.toList) t741) else (laws_FnBinary.j0 k l0 bt745.1 bt745.2 true t741))))))) = some r := h
  clear h
  obtain ⟨t740, A2, H⟩ := bo_ H
  by_cases c3 : t740 = true
  · subst c3
    replace H := it_ H
    obtain rfl := Option.some.inj H
    go_enter Try.func3, Try.ntmps3
    go_wp2_with (first | ((with_reducible refine gate_callee (f := 4) rfl ?_); refine gL_ 67 Try.func4 #[.slice A0 l0.length c0] ?_; (with_reducible refine (laws_big.calls _ _ l0 true _ ?side1 ?side2 A2.out).mono ?_); (case side1 => exact cC_ HR0.out); (case side2 => exact HC0.out); rintro e w' ⟨rfl, ⟨nd, rfl⟩⟩; refine ⟨_, rfl, ?_⟩))
    go_ret
    exact ⟨re_, b_ HB⟩
  replace c3 := Bool.eq_false_iff.mpr c3
  subst c3
  replace H := if_ H
  obtain ⟨t741, A4, H⟩ := bo_ H
  obtain ⟨⟨t745, t746⟩, A5, H⟩ := bo_ H
  dsimp only at H
  obtain ⟨⟨t747, t748⟩, A6, H⟩ := bo_ H
  dsimp only at H
  have HC7 := as_ H
  clear H
  go_enter Try.func3, Try.ntmps3
  go_upto_region 6 with (first | ((with_reducible refine gate_callee (f := 4) rfl ?_); refine gL_ 67 Try.func4 #[.slice A0 l0.length c0] ?_; (with_reducible refine (laws_big.calls _ _ l0 false _ ?side1 ?side2 A2.out).mono ?_); (case side1 => exact cC_ HR0.out); (case side2 => exact HC0.out); rintro e w' ⟨rfl, ⟨nd, rfl⟩⟩; refine ⟨_, rfl, ?_⟩) | ((with_reducible refine gate_callee (f := 5) rfl ?_); refine gL_ 69 Try.func5 #[.slice A0 l0.length c0] ?_; (with_reducible refine (spec_DrawBinaryOf.calls k _ _ l0 t741 _ ?side1 ?side2 A4.out).mono ?_); (case side1 => exact cC_ HR0.out); (case side2 => exact HC0.out); rintro e w8 ⟨v742, rfl, ho0, hb⟩; refine ⟨_, rfl, ?_⟩; have HO743 := as_ (Kd.R_lower ho0 (below_size (b_ HB))); replace HB := as_ (below_step (b_ HB) hb); clear hb ho0) | ((with_reducible refine gate_dst (N := 3) rfl ?_); (try (refine gate_guard (by rfl) ?_; dsimp only)); refine bx_ 3 #[.slice none 0 0] 26 ?_; intro gb744 hg w9 hbox hb; replace HO743 := rb_ HO743 hb; have BK744 := as_ (hbox); have GW744 := gz_ hg (b_ HB); have GE744 := GW744; replace HB := as_ (below_step (b_ HB) hb); clear hb hbox hg; obtain ⟨Ao10, co10, eo10⟩ := Kd.R_slice HO743.out; subst eo10; obtain ⟨hcz11_0, hfz11_0⟩ := tc1_ BK744) | ((with_reducible refine gate_callee (f := 6) rfl ?_); refine gL_ 72 Try.func6 #[.agg #[.slice Ao10 t741.length co10]] ?_; (with_reducible refine (impl_BinaryOf.calls k _ _ t741 t745 t746 _ ?side1 ?side2 A5.out).mono ?_); (case side1 => exact rR1_ HO743 BK744); (case side2 => exact (Kd.R_reads' HO743.out).2.1); rintro e w12 ⟨rfl, hb⟩; refine ⟨_, rfl, ?_⟩; replace HO743 := as_ (Kd.R_below (iR1_ HO743 BK744) hb); replace BK744 := as_ (blk_below (g := gb744) (o := .cells #[.slice Ao10 t741.length co10] 26 (0, 0)) (bp_ BK744) hb); replace HB := as_ (below_step (b1_ HB GE744) hb); clear hb; obtain ⟨hcz13_0, hfz13_0⟩ := tc1_ BK744) | ((with_reducible refine gate_callee (f := 7) rfl ?_); refine gL_ 77 Try.func7 #[.agg #[.slice Ao10 t741.length co10]] ?_; (with_reducible refine (spec_BinaryOf.calls k _ _ t741 t747 t748 _ ?side1 ?side2 A6.out).mono ?_); (case side1 => exact cC_ (Kd.R_reads' HO743.out).2.2); (case side2 => exact (Kd.R_reads' HO743.out).2.1); rintro e w14 ⟨rfl, hb⟩; refine ⟨_, rfl, ?_⟩; replace HO743 := rb_ HO743 hb; replace BK744 := kb_ BK744 hb; replace HB := as_ (below_step (b1_ HB GE744) hb); clear hb))
  (try simp only [Act.put, List.setIfInBounds_toArray, List.set_cons_zero, List.set_cons_succ])
  go_cut [87] from 4095 to 0 (fun v87 wc => ∃ (kq : Nat) (x87_6 : Bool), v87 = .bool x87_6 ∧ Aside0 (laws_FnBinary.j0 kq l0 t745 t746 x87_6 t741 = some r) ∧ Aside0 (kq ≤ k) ∧ Aside0 (Kd.R (Kd.int .i64) 2 wc w.heap.size (fun _ => True) (.slice Ao10 t741.length co10) t741) ∧ Aside0 (wc.heap[gb744]? = some (.cells #[(.slice Ao10 t741.length co10)] 26 (0, 0))) ∧ Aside0 (Below w.heap.size w wc))
  case first => as_aux_lemma =>
    have H := HC7.out
    clear HC7
    by_cases c15 : t746 = t748
    · rw [if_pos c15] at H
      have c15b0 := beq_iff_eq.mpr c15
      have c15b1 := bne_eq_false_iff_eq.mpr c15
      clear c15
      (first | rw [c15b0] | (simp only [i64_w, i32_w]; rw [c15b0]) | skip)
      have H' := as_ H
      clear H
      go_wp2
      go_meet
      case rel => exact ⟨_, ((t745.toList != t747.toList)), rf_, H', ⟨by first | omega | exact Nat.le_refl _⟩, ⟨bR_ HO743⟩, ⟨bk_ BK744⟩, ⟨b1_ HB GE744⟩⟩
    rw [if_neg c15] at H
    have c15b0 := beq_eq_false_iff_ne.mpr c15
    have c15b1 := bne_iff_ne.mpr c15
    (first | rw [c15b0] | (simp only [i64_w, i32_w]; rw [c15b0]) | skip)
    have H' := as_ H
    clear H
    go_wp2
    go_meet
    case rel => exact ⟨_, (true), rf_, H', ⟨by first | omega | exact Nat.le_refl _⟩, ⟨bR_ HO743⟩, ⟨bk_ BK744⟩, ⟨b1_ HB GE744⟩⟩
  case rest => as_aux_lemma =>
    clear HC7
    (try clear c1); (try clear p2); (try clear c3); (try clear c4); (try clear c5); (try clear c6); (try clear c7); (try clear c15); (try clear c15b0); (try clear c15b1); (try clear hcz11_0); (try clear hcz13_0); (try clear hfz11_0); (try clear hfz13_0)
    obtain ⟨kq, x87_6, rfl, HA, HJ6, HO_745000, BK744, HB⟩ := hcut
    cases kq with
    | zero => exact absurd HA.out (by simp [laws_FnBinary.j0])
    | succ kj6 =>
      have H := HA.out
      clear HA
      simp only [laws_FnBinary.j0] at H
      by_cases c16 : x87_6 = true
      · subst c16
        replace H := it_ H
        obtain rfl := Option.some.inj H
        go_wp2
        go_ret
        exact ⟨re_, b1_ HB GE744⟩
      replace c16 := Bool.eq_false_iff.mpr c16
      subst c16
      replace H := if_ H
      have HC17 := as_ H
      clear H
      go_upto_if 89 with (fail)
      go_cut [] from 89 to 89 (fun wc => ∃ (kq : Nat), Aside0 (laws_FnBinary.j1 kq l0 = some r) ∧ Aside0 (kq ≤ kj6) ∧ Aside0 (Kd.R (Kd.int .i64) 2 wc w.heap.size (fun _ => True) (.slice Ao10 t741.length co10) t741) ∧ Aside0 (wc.heap[gb744]? = some (.cells #[(.slice Ao10 t741.length co10)] 26 (0, 0))) ∧ Aside0 (Below w.heap.size w wc))
      case first => as_aux_lemma =>
        have H := HC17.out
        clear HC17
        by_cases c18 : t746 = 0
        rotate_left
        · rw [if_neg c18] at H
          have c18b0 := beq_eq_false_iff_ne.mpr c18
          have c18b1 := bne_iff_ne.mpr c18
          (first | rw [c18b0] | (simp only [i64_w, i32_w]; rw [c18b0]) | skip)
          have H' := as_ H
          clear H
          go_wp2
          go_meet
          case rel => exact ⟨_, H', ⟨by have := HJ6.out; first | omega | exact Nat.le_refl _⟩, ⟨bR_ HO_745000⟩, ⟨bk_ BK744⟩, ⟨b1_ HB GE744⟩⟩
        rw [if_pos c18] at H
        have c18b0 := beq_iff_eq.mpr c18
        have c18b1 := bne_eq_false_iff_eq.mpr c18
        clear c18
        (first | rw [c18b0] | (simp only [i64_w, i32_w]; rw [c18b0]) | skip)
        obtain ⟨⟨t749, t752⟩, A19, H⟩ := bo_ H
        dsimp only at H
        by_cases c20 : t752 = 0
        rotate_left
        · rw [if_neg c20] at H
          have c20b0 := beq_eq_false_iff_ne.mpr c20
          have c20b1 := bne_iff_ne.mpr c20
          obtain rfl := Option.some.inj H
          go_wp2_with (first | ((with_reducible refine gate_callee (f := 8) rfl ?_); refine gL_ 92 Try.func8 #[.string t745] ?_; (with_reducible refine (impl_TreeOfBinary.calls kj6 t745 t749 t752 _ A19.out).mono ?_); rintro e w57 ⟨v750, rfl, ho0, hb⟩; refine ⟨_, rfl, ?_⟩; have HO751 := as_ (Kd.R_lower (nRR_ ho0 HO_745000) (below_size (b1_ HB GE744))); replace HO_745000 := eR_ HO_745000 (Kd.R_base ho0) hb; replace BK744 := kb_ BK744 hb; replace HB := as_ (below_step (b1_ HB GE744) hb); clear hb ho0) | ((with_reducible refine gate_dst (N := 8) rfl ?_); (try (refine gate_guard (by rfl) ?_; dsimp only)); refine bx_ 8 #[.slice none 0 0] 26 ?_; intro gb753 hg w58 hbox hb; replace HO_745000 := rb_ HO_745000 hb; replace HO751 := rb_ HO751 hb; have BK753 := as_ (hbox); have GW753 := gz_ hg (b1_ HB GE744); have GE753 := GW753; replace HB := as_ (below_step (b1_ HB GE744) hb); have NB744_753 := nl_ hg (bk_ BK744); have NB753_744 := ng_ hg (bk_ BK744); replace BK744 := kb_ BK744 hb; clear hb hbox hg; obtain ⟨Ao59, co59, eo59⟩ := Kd.R_slice HO751.out; subst eo59; have hnb60 := NB753_744.out; have hnc60 := NB744_753.out; obtain ⟨hcz61_0, hfz61_0⟩ := tc1_ BK753))
          go_ret
          exact ⟨re_, b2_ HB GE744 GE753⟩
        rw [if_pos c20] at H
        have c20b0 := beq_iff_eq.mpr c20
        have c20b1 := bne_eq_false_iff_eq.mpr c20
        clear c20
        obtain ⟨t754, A21, H⟩ := bo_ H
        by_cases c22 : t754 = true
        rotate_left
        · replace c22 := Bool.eq_false_iff.mpr c22
          subst c22
          replace H := if_ H
          obtain rfl := Option.some.inj H
          go_wp2_with (first | ((with_reducible refine gate_callee (f := 8) rfl ?_); refine gL_ 92 Try.func8 #[.string t745] ?_; (with_reducible refine (impl_TreeOfBinary.calls kj6 t745 t749 t752 _ A19.out).mono ?_); rintro e w50 ⟨v750, rfl, ho0, hb⟩; refine ⟨_, rfl, ?_⟩; have HO751 := as_ (Kd.R_lower (nRR_ ho0 HO_745000) (below_size (b1_ HB GE744))); replace HO_745000 := eR_ HO_745000 (Kd.R_base ho0) hb; replace BK744 := kb_ BK744 hb; replace HB := as_ (below_step (b1_ HB GE744) hb); clear hb ho0) | ((with_reducible refine gate_dst (N := 8) rfl ?_); (try (refine gate_guard (by rfl) ?_; dsimp only)); refine bx_ 8 #[.slice none 0 0] 26 ?_; intro gb753 hg w51 hbox hb; replace HO_745000 := rb_ HO_745000 hb; replace HO751 := rb_ HO751 hb; have BK753 := as_ (hbox); have GW753 := gz_ hg (b1_ HB GE744); have GE753 := GW753; replace HB := as_ (below_step (b1_ HB GE744) hb); have NB744_753 := nl_ hg (bk_ BK744); have NB753_744 := ng_ hg (bk_ BK744); replace BK744 := kb_ BK744 hb; clear hb hbox hg; obtain ⟨Ao52, co52, eo52⟩ := Kd.R_slice HO751.out; subst eo52; have hnb53 := NB753_744.out; have hnc53 := NB744_753.out; obtain ⟨hcz54_0, hfz54_0⟩ := tc1_ BK753; obtain ⟨hcz55_0, hfz55_0⟩ := tc1_ BK744) | (go_at_call 9; (with_reducible refine (laws_trees5.calls kj6 _ _ t749 _ _ t741 false _ ?side1 ?side2 ?side3 ?side4 A21.out).mono ?_); (case side1 => exact rR1_ HO751 BK753); (case side2 => exact (Kd.R_reads' HO751.out).2.1); (case side3 => exact rR1_ HO_745000 BK753); (case side4 => exact (Kd.R_reads' HO_745000.out).2.1); rintro e w56 ⟨rfl, hb⟩; replace HO_745000 := as_ (Kd.R_below (iR1_ HO_745000 BK753) hb); replace HO751 := as_ (Kd.R_below (iR1_ HO751 BK753) hb); replace BK744 := as_ (blk_below (bf_ BK744 NB744_753) hb); replace BK753 := as_ (blk_below (g := gb753) (o := .cells #[.slice Ao52 t749.length co52] 26 (0, 0)) (bp_ BK753) hb); replace HB := as_ (below_step (b2_ HB GE744 GE753) hb); clear hb))
          go_ret
          exact ⟨re_, b2_ HB GE744 GE753⟩
        subst c22
        replace H := it_ H
        by_cases c23 : (t745.size : Int) = (wrap64 ((wrap64 (2 * (t741.length : Int))) - 1))
        rotate_left
        · rw [if_neg c23] at H
          have c23b0 := beq_eq_false_iff_ne.mpr c23
          have c23b1 := bne_iff_ne.mpr c23
          obtain rfl := Option.some.inj H
          go_wp2_with (first | ((with_reducible refine gate_callee (f := 8) rfl ?_); refine gL_ 92 Try.func8 #[.string t745] ?_; (with_reducible refine (impl_TreeOfBinary.calls kj6 t745 t749 t752 _ A19.out).mono ?_); rintro e w42 ⟨v750, rfl, ho0, hb⟩; refine ⟨_, rfl, ?_⟩; have HO751 := as_ (Kd.R_lower (nRR_ ho0 HO_745000) (below_size (b1_ HB GE744))); replace HO_745000 := eR_ HO_745000 (Kd.R_base ho0) hb; replace BK744 := kb_ BK744 hb; replace HB := as_ (below_step (b1_ HB GE744) hb); clear hb ho0) | ((with_reducible refine gate_dst (N := 8) rfl ?_); (try (refine gate_guard (by rfl) ?_; dsimp only)); refine bx_ 8 #[.slice none 0 0] 26 ?_; intro gb753 hg w43 hbox hb; replace HO_745000 := rb_ HO_745000 hb; replace HO751 := rb_ HO751 hb; have BK753 := as_ (hbox); have GW753 := gz_ hg (b1_ HB GE744); have GE753 := GW753; replace HB := as_ (below_step (b1_ HB GE744) hb); have NB744_753 := nl_ hg (bk_ BK744); have NB753_744 := ng_ hg (bk_ BK744); replace BK744 := kb_ BK744 hb; clear hb hbox hg; obtain ⟨Ao44, co44, eo44⟩ := Kd.R_slice HO751.out; subst eo44; have hnb45 := NB753_744.out; have hnc45 := NB744_753.out; obtain ⟨hcz46_0, hfz46_0⟩ := tc1_ BK753; obtain ⟨hcz47_0, hfz47_0⟩ := tc1_ BK744) | (go_at_call 9; (with_reducible refine (laws_trees5.calls kj6 _ _ t749 _ _ t741 true _ ?side1 ?side2 ?side3 ?side4 A21.out).mono ?_); (case side1 => exact rR1_ HO751 BK753); (case side2 => exact (Kd.R_reads' HO751.out).2.1); (case side3 => exact rR1_ HO_745000 BK753); (case side4 => exact (Kd.R_reads' HO_745000.out).2.1); rintro e w48 ⟨rfl, hb⟩; replace HO_745000 := as_ (Kd.R_below (iR1_ HO_745000 BK753) hb); replace HO751 := as_ (Kd.R_below (iR1_ HO751 BK753) hb); replace BK744 := as_ (blk_below (bf_ BK744 NB744_753) hb); replace BK753 := as_ (blk_below (g := gb753) (o := .cells #[.slice Ao44 t749.length co44] 26 (0, 0)) (bp_ BK753) hb); replace HB := as_ (below_step (b2_ HB GE744 GE753) hb); clear hb; obtain ⟨hcz49_0, hfz49_0⟩ := tc1_ BK744))
          go_ret
          exact ⟨re_, b2_ HB GE744 GE753⟩
        rw [if_pos c23] at H
        have c23b0 := beq_iff_eq.mpr c23
        have c23b1 := bne_eq_false_iff_eq.mpr c23
        clear c23
        obtain ⟨t755, A24, H⟩ := bo_ H
        by_cases c25 : t755 = true
        · subst c25
          replace H := it_ H
          have H' := as_ H
          clear H
          go_wp2_with (first | ((with_reducible refine gate_callee (f := 8) rfl ?_); refine gL_ 92 Try.func8 #[.string t745] ?_; (with_reducible refine (impl_TreeOfBinary.calls kj6 t745 t749 t752 _ A19.out).mono ?_); rintro e w26 ⟨v750, rfl, ho0, hb⟩; refine ⟨_, rfl, ?_⟩; have HO751 := as_ (Kd.R_lower (nRR_ ho0 HO_745000) (below_size (b1_ HB GE744))); replace HO_745000 := eR_ HO_745000 (Kd.R_base ho0) hb; replace BK744 := kb_ BK744 hb; replace HB := as_ (below_step (b1_ HB GE744) hb); clear hb ho0) | ((with_reducible refine gate_dst (N := 8) rfl ?_); (try (refine gate_guard (by rfl) ?_; dsimp only)); refine bx_ 8 #[.slice none 0 0] 26 ?_; intro gb753 hg w27 hbox hb; replace HO_745000 := rb_ HO_745000 hb; replace HO751 := rb_ HO751 hb; have BK753 := as_ (hbox); have GW753 := gz_ hg (b1_ HB GE744); have GE753 := GW753; replace HB := as_ (below_step (b1_ HB GE744) hb); have NB744_753 := nl_ hg (bk_ BK744); have NB753_744 := ng_ hg (bk_ BK744); replace BK744 := kb_ BK744 hb; clear hb hbox hg; obtain ⟨Ao28, co28, eo28⟩ := Kd.R_slice HO751.out; subst eo28; have hnb29 := NB753_744.out; have hnc29 := NB744_753.out; obtain ⟨hcz30_0, hfz30_0⟩ := tc1_ BK753; obtain ⟨hcz31_0, hfz31_0⟩ := tc1_ BK744) | (go_at_call 9; (with_reducible refine (laws_trees5.calls kj6 _ _ t749 _ _ t741 true _ ?side1 ?side2 ?side3 ?side4 A21.out).mono ?_); (case side1 => exact rR1_ HO751 BK753); (case side2 => exact (Kd.R_reads' HO751.out).2.1); (case side3 => exact rR1_ HO_745000 BK753); (case side4 => exact (Kd.R_reads' HO_745000.out).2.1); rintro e w32 ⟨rfl, hb⟩; replace HO_745000 := as_ (Kd.R_below (iR1_ HO_745000 BK753) hb); replace HO751 := as_ (Kd.R_below (iR1_ HO751 BK753) hb); replace BK744 := as_ (blk_below (bf_ BK744 NB744_753) hb); replace BK753 := as_ (blk_below (g := gb753) (o := .cells #[.slice Ao28 t749.length co28] 26 (0, 0)) (bp_ BK753) hb); replace HB := as_ (below_step (b2_ HB GE744 GE753) hb); clear hb; obtain ⟨hcz33_0, hfz33_0⟩ := tc1_ BK744) | (go_at_call 10; (with_reducible refine (impl_IsBinary.calls kj6 t745 true _ A24.out).mono ?_); rintro e w' ⟨rfl, ⟨nd, rfl⟩⟩))
          go_meet
          case rel => exact ⟨_, H', ⟨by have := HJ6.out; first | omega | exact Nat.le_refl _⟩, ⟨mR_ HO_745000⟩, ⟨bk_ BK744⟩, ⟨b2_ HB GE744 GE753⟩⟩
        replace c25 := Bool.eq_false_iff.mpr c25
        subst c25
        replace H := if_ H
        obtain rfl := Option.some.inj H
        go_wp2_with (first | ((with_reducible refine gate_callee (f := 8) rfl ?_); refine gL_ 92 Try.func8 #[.string t745] ?_; (with_reducible refine (impl_TreeOfBinary.calls kj6 t745 t749 t752 _ A19.out).mono ?_); rintro e w34 ⟨v750, rfl, ho0, hb⟩; refine ⟨_, rfl, ?_⟩; have HO751 := as_ (Kd.R_lower (nRR_ ho0 HO_745000) (below_size (b1_ HB GE744))); replace HO_745000 := eR_ HO_745000 (Kd.R_base ho0) hb; replace BK744 := kb_ BK744 hb; replace HB := as_ (below_step (b1_ HB GE744) hb); clear hb ho0) | ((with_reducible refine gate_dst (N := 8) rfl ?_); (try (refine gate_guard (by rfl) ?_; dsimp only)); refine bx_ 8 #[.slice none 0 0] 26 ?_; intro gb753 hg w35 hbox hb; replace HO_745000 := rb_ HO_745000 hb; replace HO751 := rb_ HO751 hb; have BK753 := as_ (hbox); have GW753 := gz_ hg (b1_ HB GE744); have GE753 := GW753; replace HB := as_ (below_step (b1_ HB GE744) hb); have NB744_753 := nl_ hg (bk_ BK744); have NB753_744 := ng_ hg (bk_ BK744); replace BK744 := kb_ BK744 hb; clear hb hbox hg; obtain ⟨Ao36, co36, eo36⟩ := Kd.R_slice HO751.out; subst eo36; have hnb37 := NB753_744.out; have hnc37 := NB744_753.out; obtain ⟨hcz38_0, hfz38_0⟩ := tc1_ BK753; obtain ⟨hcz39_0, hfz39_0⟩ := tc1_ BK744) | (go_at_call 9; (with_reducible refine (laws_trees5.calls kj6 _ _ t749 _ _ t741 true _ ?side1 ?side2 ?side3 ?side4 A21.out).mono ?_); (case side1 => exact rR1_ HO751 BK753); (case side2 => exact (Kd.R_reads' HO751.out).2.1); (case side3 => exact rR1_ HO_745000 BK753); (case side4 => exact (Kd.R_reads' HO_745000.out).2.1); rintro e w40 ⟨rfl, hb⟩; replace HO_745000 := as_ (Kd.R_below (iR1_ HO_745000 BK753) hb); replace HO751 := as_ (Kd.R_below (iR1_ HO751 BK753) hb); replace BK744 := as_ (blk_below (bf_ BK744 NB744_753) hb); replace BK753 := as_ (blk_below (g := gb753) (o := .cells #[.slice Ao36 t749.length co36] 26 (0, 0)) (bp_ BK753) hb); replace HB := as_ (below_step (b2_ HB GE744 GE753) hb); clear hb; obtain ⟨hcz41_0, hfz41_0⟩ := tc1_ BK744) | (go_at_call 10; (with_reducible refine (impl_IsBinary.calls kj6 t745 false _ A24.out).mono ?_); rintro e w' ⟨rfl, ⟨nd, rfl⟩⟩))
        go_ret
        exact ⟨re_, b2_ HB GE744 GE753⟩
      case rest => as_aux_lemma =>
        clear HC17
        (try clear c1); (try clear c2); (try clear p2); (try clear c3); (try clear c4); (try clear c5); (try clear c6); (try clear p6); (try clear c7); (try clear c8); (try clear c15); (try clear c15b0); (try clear c15b1); (try clear c16); (try clear c18); (try clear c18b0); (try clear c18b1); (try clear c20); (try clear c20b0); (try clear c20b1); (try clear c22); (try clear c23); (try clear c23b0); (try clear c23b1); (try clear c25); (try clear c29); (try clear c37); (try clear c45); (try clear c53); (try clear c60); (try clear hcz11_0); (try clear hcz13_0); (try clear hcz30_0); (try clear hcz31_0); (try clear hcz33_0); (try clear hcz38_0); (try clear hcz39_0); (try clear hcz41_0); (try clear hcz46_0); (try clear hcz47_0); (try clear hcz49_0); (try clear hcz54_0); (try clear hcz55_0); (try clear hcz61_0); (try clear hfz11_0); (try clear hfz13_0); (try clear hfz30_0); (try clear hfz31_0); (try clear hfz33_0); (try clear hfz38_0); (try clear hfz39_0); (try clear hfz41_0); (try clear hfz46_0); (try clear hfz47_0); (try clear hfz49_0); (try clear hfz54_0); (try clear hfz55_0); (try clear hfz61_0); (try clear p2)
        obtain ⟨kq, HA, HJ16, HO_745000, BK744, HB⟩ := hcut
        cases kq with
        | zero => exact absurd HA.out (by simp [laws_FnBinary.j1])
        | succ kj16 =>
          have H := HA.out
          clear HA
          simp only [laws_FnBinary.j1] at H
          obtain ⟨t756, A62, H⟩ := bo_ H
          obtain ⟨⟨t757, t758⟩, A63, H⟩ := bo_ H
          dsimp only at H
          obtain ⟨⟨t761, t762⟩, A64, H⟩ := bo_ H
          dsimp only at H
          obtain ⟨⟨t765, t766⟩, A65, H⟩ := bo_ H
          dsimp only at H
          obtain ⟨⟨t767, t768⟩, A66, H⟩ := bo_ H
          dsimp only at H
          obtain ⟨⟨t769, t770⟩, A67, H⟩ := bo_ H
          dsimp only at H
          obtain ⟨⟨t773, t774⟩, A68, H⟩ := bo_ H
          dsimp only at H
          obtain ⟨⟨t777, t778⟩, A69, H⟩ := bo_ H
          dsimp only at H
          obtain ⟨⟨t779, t780⟩, A70, H⟩ := bo_ H
          dsimp only at H
          have HC71 := as_ H
          clear H
          go_upto_region 21 with (first | ((with_reducible refine gate_callee (f := 11) rfl ?_); refine gL_ 119 Try.func11 #[.slice A0 l0.length c0] ?_; (with_reducible refine (spec_DrawVectorOf.calls kj16 _ _ l0 t756 _ ?side1 ?side2 A62.out).mono ?_); (case side1 => exact bC_ HR0 HB); (case side2 => exact HC0.out); rintro e w72 ⟨rfl, hb⟩; refine ⟨_, rfl, ?_⟩; replace HO_745000 := rb_ HO_745000 hb; replace BK744 := kb_ BK744 hb; replace HB := as_ (below_step (b1_ HB GE744) hb); clear hb) | ((with_reducible refine gate_callee (f := 12) rfl ?_); refine gL_ 122 Try.func12 #[.string t756] ?_; (with_reducible refine (impl_VectorOf.calls kj16 t756 t757 t758 _ A63.out).mono ?_); rintro e w73 ⟨v759, rfl, ho0, hb⟩; refine ⟨_, rfl, ?_⟩; have HO760 := as_ (Kd.R_lower (nRR_ ho0 HO_745000) (below_size (b1_ HB GE744))); replace HO_745000 := eR_ HO_745000 (Kd.R_base ho0) hb; replace BK744 := kb_ BK744 hb; replace HB := as_ (below_step (b1_ HB GE744) hb); clear hb ho0) | ((with_reducible refine gate_callee (f := 13) rfl ?_); refine gL_ 127 Try.func13 #[.string t756] ?_; (with_reducible refine (spec_VectorOf.calls kj16 t756 t761 t762 _ A64.out).mono ?_); rintro e w74 ⟨v763, rfl, ho0, hb⟩; refine ⟨_, rfl, ?_⟩; have HO764 := as_ (Kd.R_lower (nRR_ (nRR_ ho0 HO_745000) HO760) (below_size (b1_ HB GE744))); replace HO_745000 := eR_ HO_745000 (Kd.R_base ho0) hb; replace HO760 := eR_ HO760 (Kd.R_base ho0) hb; replace BK744 := kb_ BK744 hb; replace HB := as_ (below_step (b1_ HB GE744) hb); clear hb ho0) | ((with_reducible refine gate_callee (f := 14) rfl ?_); refine gL_ 132 Try.func14 #[.string t756] ?_; (with_reducible refine (impl_MirrorBinary.calls kj16 t756 t765 t766 _ A65.out).mono ?_); rintro e w' ⟨rfl, ⟨nd, rfl⟩⟩; refine ⟨_, rfl, ?_⟩) | ((with_reducible refine gate_callee (f := 15) rfl ?_); refine gL_ 137 Try.func15 #[.string t756] ?_; (with_reducible refine (spec_MirrorBinary.calls kj16 t756 t767 t768 _ A66.out).mono ?_); rintro e w' ⟨rfl, ⟨nd, rfl⟩⟩; refine ⟨_, rfl, ?_⟩) | ((with_reducible refine gate_callee (f := 16) rfl ?_); refine gL_ 142 Try.func16 #[.string t756] ?_; (with_reducible refine (impl_InnerOrder.calls kj16 t756 t769 t770 _ A67.out).mono ?_); rintro e w75 ⟨v771, rfl, ho0, hb⟩; refine ⟨_, rfl, ?_⟩; have HO772 := as_ (Kd.R_lower (nRR_ (nRR_ (nRR_ ho0 HO_745000) HO760) HO764) (below_size (b1_ HB GE744))); replace HO_745000 := eR_ HO_745000 (Kd.R_base ho0) hb; replace HO760 := eR_ HO760 (Kd.R_base ho0) hb; replace HO764 := eR_ HO764 (Kd.R_base ho0) hb; replace BK744 := kb_ BK744 hb; replace HB := as_ (below_step (b1_ HB GE744) hb); clear hb ho0) | ((with_reducible refine gate_callee (f := 17) rfl ?_); refine gL_ 147 Try.func17 #[.string t756] ?_; (with_reducible refine (spec_InnerOrder.calls kj16 t756 t773 t774 _ A68.out).mono ?_); rintro e w76 ⟨v775, rfl, ho0, hb⟩; refine ⟨_, rfl, ?_⟩; have HO776 := as_ (Kd.R_lower (nRR_ (nRR_ (nRR_ (nRR_ ho0 HO_745000) HO760) HO764) HO772) (below_size (b1_ HB GE744))); replace HO_745000 := eR_ HO_745000 (Kd.R_base ho0) hb; replace HO760 := eR_ HO760 (Kd.R_base ho0) hb; replace HO764 := eR_ HO764 (Kd.R_base ho0) hb; replace HO772 := eR_ HO772 (Kd.R_base ho0) hb; replace BK744 := kb_ BK744 hb; replace HB := as_ (below_step (b1_ HB GE744) hb); clear hb ho0) | ((with_reducible refine gate_callee (f := 18) rfl ?_); refine gL_ 152 Try.func18 #[.string t756] ?_; (with_reducible refine (impl_BracketsOf.calls kj16 t756 t777 t778 _ A69.out).mono ?_); rintro e w' ⟨rfl, ⟨nd, rfl⟩⟩; refine ⟨_, rfl, ?_⟩) | ((with_reducible refine gate_callee (f := 19) rfl ?_); refine gL_ 157 Try.func19 #[.string t756] ?_; (with_reducible refine (spec_BracketsOf.calls kj16 t756 t779 t780 _ A70.out).mono ?_); rintro e w77 ⟨rfl, hb⟩; refine ⟨_, rfl, ?_⟩; replace HO_745000 := rb_ HO_745000 hb; replace HO760 := rb_ HO760 hb; replace HO764 := rb_ HO764 hb; replace HO772 := rb_ HO772 hb; replace HO776 := rb_ HO776 hb; replace BK744 := kb_ BK744 hb; replace HB := as_ (below_step (b1_ HB GE744) hb); clear hb))
          (try simp only [Act.put, List.setIfInBounds_toArray, List.set_cons_zero, List.set_cons_succ])
          go_cut [213] from 4095 to 0 (fun v213 wc => ∃ (kq : Nat) (x213_70 : Bool), v213 = .bool x213_70 ∧ Aside0 (laws_FnBinary.j2 kq l0 t756 t757 t758 t765 t769 t777 x213_70 = some r) ∧ Aside0 (kq ≤ kj16) ∧ Aside0 (Kd.R (Kd.int .i64) 2 wc w.heap.size (fun k_ => some k_ ≠ (v771 : Value).ownBlock ∧ some k_ ≠ ((.slice Ao10 t741.length co10) : Value).ownBlock) v759 t757) ∧ Aside0 (Kd.R (Kd.int .i64) 2 wc w.heap.size (fun k_ => some k_ ≠ (v759 : Value).ownBlock ∧ some k_ ≠ ((.slice Ao10 t741.length co10) : Value).ownBlock) v771 t769) ∧ Aside0 (Kd.R (Kd.int .i64) 2 wc w.heap.size (fun k_ => some k_ ≠ (v759 : Value).ownBlock ∧ some k_ ≠ (v771 : Value).ownBlock) (.slice Ao10 t741.length co10) t741) ∧ Aside0 (wc.heap[gb744]? = some (.cells #[(.slice Ao10 t741.length co10)] 26 (0, 0))) ∧ Aside0 (Below w.heap.size w wc))
          case first => as_aux_lemma =>
            have H := HC71.out
            clear HC71
            by_cases c78 : t758 = t762
            rotate_left
            · rw [if_neg c78] at H
              have c78b0 := beq_eq_false_iff_ne.mpr c78
              have c78b1 := bne_iff_ne.mpr c78
              (first | rw [c78b0] | (simp only [i64_w, i32_w]; rw [c78b0]) | skip)
              have H' := as_ H
              clear H
              go_wp2
              go_meet
              case rel => exact ⟨_, (true), rf_, H', ⟨by have := HJ6.out; have := HJ16.out; first | omega | exact Nat.le_refl _⟩, ⟨mR_ HO760⟩, ⟨mR_ HO772⟩, ⟨mR_ HO_745000⟩, ⟨bk_ BK744⟩, ⟨b1_ HB GE744⟩⟩
            rw [if_pos c78] at H
            have c78b0 := beq_iff_eq.mpr c78
            have c78b1 := bne_eq_false_iff_eq.mpr c78
            clear c78
            (first | rw [c78b0] | (simp only [i64_w, i32_w]; rw [c78b0]) | skip)
            obtain ⟨t781, A79, H⟩ := bo_ H
            by_cases c80 : t781 = true
            rotate_left
            · replace c80 := Bool.eq_false_iff.mpr c80
              subst c80
              replace H := if_ H
              have H' := as_ H
              clear H
              obtain ⟨Ao118, co118, eo118⟩ := Kd.R_slice HO760.out
              subst eo118
              obtain ⟨Ao119, co119, eo119⟩ := Kd.R_slice HO764.out
              subst eo119
              go_wp2_with (first | (go_at_call 20; (with_reducible refine (laws_likeInts.calls kj16 _ _ t757 _ _ t761 false _ ?side1 ?side2 ?side3 ?side4 A79.out).mono ?_); (case side1 => exact cC_ (Kd.R_reads' HO760.out).2.2); (case side2 => exact (Kd.R_reads' HO760.out).2.1); (case side3 => exact cC_ (Kd.R_reads' HO764.out).2.2); (case side4 => exact (Kd.R_reads' HO764.out).2.1); rintro e w' ⟨rfl, ⟨nd, rfl⟩⟩))
              go_meet
              case rel => exact ⟨_, (true), rf_, H', ⟨by have := HJ6.out; have := HJ16.out; first | omega | exact Nat.le_refl _⟩, ⟨mR_ HO760⟩, ⟨mR_ HO772⟩, ⟨mR_ HO_745000⟩, ⟨bk_ BK744⟩, ⟨b1_ HB GE744⟩⟩
            subst c80
            replace H := it_ H
            by_cases c81 : t766 = t768
            rotate_left
            · rw [if_neg c81] at H
              have c81b0 := beq_eq_false_iff_ne.mpr c81
              have c81b1 := bne_iff_ne.mpr c81
              have H' := as_ H
              clear H
              obtain ⟨Ao116, co116, eo116⟩ := Kd.R_slice HO760.out
              subst eo116
              obtain ⟨Ao117, co117, eo117⟩ := Kd.R_slice HO764.out
              subst eo117
              go_wp2_with (first | (go_at_call 20; (with_reducible refine (laws_likeInts.calls kj16 _ _ t757 _ _ t761 true _ ?side1 ?side2 ?side3 ?side4 A79.out).mono ?_); (case side1 => exact cC_ (Kd.R_reads' HO760.out).2.2); (case side2 => exact (Kd.R_reads' HO760.out).2.1); (case side3 => exact cC_ (Kd.R_reads' HO764.out).2.2); (case side4 => exact (Kd.R_reads' HO764.out).2.1); rintro e w' ⟨rfl, ⟨nd, rfl⟩⟩))
              go_meet
              case rel => exact ⟨_, (true), rf_, H', ⟨by have := HJ6.out; have := HJ16.out; first | omega | exact Nat.le_refl _⟩, ⟨mR_ HO760⟩, ⟨mR_ HO772⟩, ⟨mR_ HO_745000⟩, ⟨bk_ BK744⟩, ⟨b1_ HB GE744⟩⟩
            rw [if_pos c81] at H
            have c81b0 := beq_iff_eq.mpr c81
            have c81b1 := bne_eq_false_iff_eq.mpr c81
            clear c81
            by_cases c82 : t765.toList = t767.toList
            rotate_left
            · rw [if_neg c82] at H
              have c82b0 := beq_eq_false_iff_ne.mpr c82
              have c82b1 := bne_iff_ne.mpr c82
              have H' := as_ H
              clear H
              obtain ⟨Ao114, co114, eo114⟩ := Kd.R_slice HO760.out
              subst eo114
              obtain ⟨Ao115, co115, eo115⟩ := Kd.R_slice HO764.out
              subst eo115
              go_wp2_with (first | (go_at_call 20; (with_reducible refine (laws_likeInts.calls kj16 _ _ t757 _ _ t761 true _ ?side1 ?side2 ?side3 ?side4 A79.out).mono ?_); (case side1 => exact cC_ (Kd.R_reads' HO760.out).2.2); (case side2 => exact (Kd.R_reads' HO760.out).2.1); (case side3 => exact cC_ (Kd.R_reads' HO764.out).2.2); (case side4 => exact (Kd.R_reads' HO764.out).2.1); rintro e w' ⟨rfl, ⟨nd, rfl⟩⟩))
              go_meet
              case rel => exact ⟨_, (true), rf_, H', ⟨by have := HJ6.out; have := HJ16.out; first | omega | exact Nat.le_refl _⟩, ⟨mR_ HO760⟩, ⟨mR_ HO772⟩, ⟨mR_ HO_745000⟩, ⟨bk_ BK744⟩, ⟨b1_ HB GE744⟩⟩
            rw [if_pos c82] at H
            have c82b0 := beq_iff_eq.mpr c82
            have c82b1 := bne_eq_false_iff_eq.mpr c82
            clear c82
            by_cases c83 : t770 = t774
            rotate_left
            · rw [if_neg c83] at H
              have c83b0 := beq_eq_false_iff_ne.mpr c83
              have c83b1 := bne_iff_ne.mpr c83
              have H' := as_ H
              clear H
              obtain ⟨Ao112, co112, eo112⟩ := Kd.R_slice HO760.out
              subst eo112
              obtain ⟨Ao113, co113, eo113⟩ := Kd.R_slice HO764.out
              subst eo113
              go_wp2_with (first | (go_at_call 20; (with_reducible refine (laws_likeInts.calls kj16 _ _ t757 _ _ t761 true _ ?side1 ?side2 ?side3 ?side4 A79.out).mono ?_); (case side1 => exact cC_ (Kd.R_reads' HO760.out).2.2); (case side2 => exact (Kd.R_reads' HO760.out).2.1); (case side3 => exact cC_ (Kd.R_reads' HO764.out).2.2); (case side4 => exact (Kd.R_reads' HO764.out).2.1); rintro e w' ⟨rfl, ⟨nd, rfl⟩⟩))
              go_meet
              case rel => exact ⟨_, (true), rf_, H', ⟨by have := HJ6.out; have := HJ16.out; first | omega | exact Nat.le_refl _⟩, ⟨mR_ HO760⟩, ⟨mR_ HO772⟩, ⟨mR_ HO_745000⟩, ⟨bk_ BK744⟩, ⟨b1_ HB GE744⟩⟩
            rw [if_pos c83] at H
            have c83b0 := beq_iff_eq.mpr c83
            have c83b1 := bne_eq_false_iff_eq.mpr c83
            clear c83
            obtain ⟨t782, A84, H⟩ := bo_ H
            by_cases c85 : t782 = true
            rotate_left
            · replace c85 := Bool.eq_false_iff.mpr c85
              subst c85
              replace H := if_ H
              have H' := as_ H
              clear H
              obtain ⟨Ao108, co108, eo108⟩ := Kd.R_slice HO760.out
              subst eo108
              obtain ⟨Ao109, co109, eo109⟩ := Kd.R_slice HO764.out
              subst eo109
              go_wp2_with (first | (go_at_call 20; (with_reducible refine (laws_likeInts.calls kj16 _ _ t757 _ _ t761 true _ ?side1 ?side2 ?side3 ?side4 A79.out).mono ?_); (case side1 => exact cC_ (Kd.R_reads' HO760.out).2.2); (case side2 => exact (Kd.R_reads' HO760.out).2.1); (case side3 => exact cC_ (Kd.R_reads' HO764.out).2.2); (case side4 => exact (Kd.R_reads' HO764.out).2.1); rintro e w' ⟨rfl, ⟨nd, rfl⟩⟩; obtain ⟨Ao110, co110, eo110⟩ := Kd.R_slice HO772.out; subst eo110; obtain ⟨Ao111, co111, eo111⟩ := Kd.R_slice HO776.out; subst eo111) | (go_at_call 20; (with_reducible refine (laws_likeInts.calls kj16 _ _ t769 _ _ t773 false _ ?side1 ?side2 ?side3 ?side4 A84.out).mono ?_); (case side1 => exact cC_ (Kd.R_reads' HO772.out).2.2); (case side2 => exact (Kd.R_reads' HO772.out).2.1); (case side3 => exact cC_ (Kd.R_reads' HO776.out).2.2); (case side4 => exact (Kd.R_reads' HO776.out).2.1); rintro e w' ⟨rfl, ⟨nd, rfl⟩⟩))
              go_meet
              case rel => exact ⟨_, (true), rf_, H', ⟨by have := HJ6.out; have := HJ16.out; first | omega | exact Nat.le_refl _⟩, ⟨mR_ HO760⟩, ⟨mR_ HO772⟩, ⟨mR_ HO_745000⟩, ⟨bk_ BK744⟩, ⟨b1_ HB GE744⟩⟩
            subst c85
            replace H := it_ H
            by_cases c86 : t778 = t780
            rotate_left
            · rw [if_neg c86] at H
              have c86b0 := beq_eq_false_iff_ne.mpr c86
              have c86b1 := bne_iff_ne.mpr c86
              have H' := as_ H
              clear H
              obtain ⟨Ao104, co104, eo104⟩ := Kd.R_slice HO760.out
              subst eo104
              obtain ⟨Ao105, co105, eo105⟩ := Kd.R_slice HO764.out
              subst eo105
              go_wp2_with (first | (go_at_call 20; (with_reducible refine (laws_likeInts.calls kj16 _ _ t757 _ _ t761 true _ ?side1 ?side2 ?side3 ?side4 A79.out).mono ?_); (case side1 => exact cC_ (Kd.R_reads' HO760.out).2.2); (case side2 => exact (Kd.R_reads' HO760.out).2.1); (case side3 => exact cC_ (Kd.R_reads' HO764.out).2.2); (case side4 => exact (Kd.R_reads' HO764.out).2.1); rintro e w' ⟨rfl, ⟨nd, rfl⟩⟩; obtain ⟨Ao106, co106, eo106⟩ := Kd.R_slice HO772.out; subst eo106; obtain ⟨Ao107, co107, eo107⟩ := Kd.R_slice HO776.out; subst eo107) | (go_at_call 20; (with_reducible refine (laws_likeInts.calls kj16 _ _ t769 _ _ t773 true _ ?side1 ?side2 ?side3 ?side4 A84.out).mono ?_); (case side1 => exact cC_ (Kd.R_reads' HO772.out).2.2); (case side2 => exact (Kd.R_reads' HO772.out).2.1); (case side3 => exact cC_ (Kd.R_reads' HO776.out).2.2); (case side4 => exact (Kd.R_reads' HO776.out).2.1); rintro e w' ⟨rfl, ⟨nd, rfl⟩⟩))
              go_meet
              case rel => exact ⟨_, (true), rf_, H', ⟨by have := HJ6.out; have := HJ16.out; first | omega | exact Nat.le_refl _⟩, ⟨mR_ HO760⟩, ⟨mR_ HO772⟩, ⟨mR_ HO_745000⟩, ⟨bk_ BK744⟩, ⟨b1_ HB GE744⟩⟩
            rw [if_pos c86] at H
            have c86b0 := beq_iff_eq.mpr c86
            have c86b1 := bne_eq_false_iff_eq.mpr c86
            clear c86
            by_cases c87 : t777.toList = t779.toList
            rotate_left
            · rw [if_neg c87] at H
              have c87b0 := beq_eq_false_iff_ne.mpr c87
              have c87b1 := bne_iff_ne.mpr c87
              have H' := as_ H
              clear H
              obtain ⟨Ao100, co100, eo100⟩ := Kd.R_slice HO760.out
              subst eo100
              obtain ⟨Ao101, co101, eo101⟩ := Kd.R_slice HO764.out
              subst eo101
              go_wp2_with (first | (go_at_call 20; (with_reducible refine (laws_likeInts.calls kj16 _ _ t757 _ _ t761 true _ ?side1 ?side2 ?side3 ?side4 A79.out).mono ?_); (case side1 => exact cC_ (Kd.R_reads' HO760.out).2.2); (case side2 => exact (Kd.R_reads' HO760.out).2.1); (case side3 => exact cC_ (Kd.R_reads' HO764.out).2.2); (case side4 => exact (Kd.R_reads' HO764.out).2.1); rintro e w' ⟨rfl, ⟨nd, rfl⟩⟩; obtain ⟨Ao102, co102, eo102⟩ := Kd.R_slice HO772.out; subst eo102; obtain ⟨Ao103, co103, eo103⟩ := Kd.R_slice HO776.out; subst eo103) | (go_at_call 20; (with_reducible refine (laws_likeInts.calls kj16 _ _ t769 _ _ t773 true _ ?side1 ?side2 ?side3 ?side4 A84.out).mono ?_); (case side1 => exact cC_ (Kd.R_reads' HO772.out).2.2); (case side2 => exact (Kd.R_reads' HO772.out).2.1); (case side3 => exact cC_ (Kd.R_reads' HO776.out).2.2); (case side4 => exact (Kd.R_reads' HO776.out).2.1); rintro e w' ⟨rfl, ⟨nd, rfl⟩⟩))
              go_meet
              case rel => exact ⟨_, (true), rf_, H', ⟨by have := HJ6.out; have := HJ16.out; first | omega | exact Nat.le_refl _⟩, ⟨mR_ HO760⟩, ⟨mR_ HO772⟩, ⟨mR_ HO_745000⟩, ⟨bk_ BK744⟩, ⟨b1_ HB GE744⟩⟩
            rw [if_pos c87] at H
            have c87b0 := beq_iff_eq.mpr c87
            have c87b1 := bne_eq_false_iff_eq.mpr c87
            clear c87
            obtain ⟨t783, A88, H⟩ := bo_ H
            obtain ⟨t784, A89, H⟩ := bo_ H
            by_cases c90 : (t783 != t784) = true
            · rw [if_pos c90] at H
              have c90b0 : (t783 != t784) = true := c90
              (try (have c90b1 : decide (t783 = t784) = false := by simpa using c90))
              (try (have c90b2 : (t783 == t784) = false := by simpa using c90))
              (try (have c90b3 : ¬ (t783 = t784) := by simpa using c90))
              clear c90
              have H' := as_ H
              clear H
              obtain ⟨Ao91, co91, eo91⟩ := Kd.R_slice HO760.out
              subst eo91
              obtain ⟨Ao92, co92, eo92⟩ := Kd.R_slice HO764.out
              subst eo92
              go_wp2_with (first | (go_at_call 20; (with_reducible refine (laws_likeInts.calls kj16 _ _ t757 _ _ t761 true _ ?side1 ?side2 ?side3 ?side4 A79.out).mono ?_); (case side1 => exact cC_ (Kd.R_reads' HO760.out).2.2); (case side2 => exact (Kd.R_reads' HO760.out).2.1); (case side3 => exact cC_ (Kd.R_reads' HO764.out).2.2); (case side4 => exact (Kd.R_reads' HO764.out).2.1); rintro e w' ⟨rfl, ⟨nd, rfl⟩⟩; obtain ⟨Ao93, co93, eo93⟩ := Kd.R_slice HO772.out; subst eo93; obtain ⟨Ao94, co94, eo94⟩ := Kd.R_slice HO776.out; subst eo94) | (go_at_call 20; (with_reducible refine (laws_likeInts.calls kj16 _ _ t769 _ _ t773 true _ ?side1 ?side2 ?side3 ?side4 A84.out).mono ?_); (case side1 => exact cC_ (Kd.R_reads' HO772.out).2.2); (case side2 => exact (Kd.R_reads' HO772.out).2.1); (case side3 => exact cC_ (Kd.R_reads' HO776.out).2.2); (case side4 => exact (Kd.R_reads' HO776.out).2.1); rintro e w' ⟨rfl, ⟨nd, rfl⟩⟩) | (go_at_call 10; (with_reducible refine (impl_IsBinary.calls kj16 t756 t783 _ A88.out).mono ?_); rintro e w' ⟨rfl, ⟨nd, rfl⟩⟩) | (go_at_call 21; (with_reducible refine (spec_IsBinary.calls kj16 t756 t784 _ A89.out).mono ?_); rintro e w' ⟨rfl, ⟨nd, rfl⟩⟩))
              go_meet
              case rel => exact ⟨_, (true), rf_, H', ⟨by have := HJ6.out; have := HJ16.out; first | omega | exact Nat.le_refl _⟩, ⟨mR_ HO760⟩, ⟨mR_ HO772⟩, ⟨mR_ HO_745000⟩, ⟨bk_ BK744⟩, ⟨b1_ HB GE744⟩⟩
            rw [if_neg c90] at H
            have c90b0 : (t783 != t784) = false := by simpa using c90
            (try (have c90b1 : decide (t783 = t784) = true := by simpa using c90))
            (try (have c90b2 : (t783 == t784) = true := by simpa using c90))
            clear c90
            obtain ⟨t785, A95, H⟩ := bo_ H
            have e785 : t785 = t783 := Option.some.inj (A95.out.symm.trans A88.out)
            have H' := as_ H
            clear H
            obtain ⟨Ao96, co96, eo96⟩ := Kd.R_slice HO760.out
            subst eo96
            obtain ⟨Ao97, co97, eo97⟩ := Kd.R_slice HO764.out
            subst eo97
            go_wp2_with (first | (go_at_call 20; (with_reducible refine (laws_likeInts.calls kj16 _ _ t757 _ _ t761 true _ ?side1 ?side2 ?side3 ?side4 A79.out).mono ?_); (case side1 => exact cC_ (Kd.R_reads' HO760.out).2.2); (case side2 => exact (Kd.R_reads' HO760.out).2.1); (case side3 => exact cC_ (Kd.R_reads' HO764.out).2.2); (case side4 => exact (Kd.R_reads' HO764.out).2.1); rintro e w' ⟨rfl, ⟨nd, rfl⟩⟩; obtain ⟨Ao98, co98, eo98⟩ := Kd.R_slice HO772.out; subst eo98; obtain ⟨Ao99, co99, eo99⟩ := Kd.R_slice HO776.out; subst eo99) | (go_at_call 20; (with_reducible refine (laws_likeInts.calls kj16 _ _ t769 _ _ t773 true _ ?side1 ?side2 ?side3 ?side4 A84.out).mono ?_); (case side1 => exact cC_ (Kd.R_reads' HO772.out).2.2); (case side2 => exact (Kd.R_reads' HO772.out).2.1); (case side3 => exact cC_ (Kd.R_reads' HO776.out).2.2); (case side4 => exact (Kd.R_reads' HO776.out).2.1); rintro e w' ⟨rfl, ⟨nd, rfl⟩⟩) | (go_at_call 10; (with_reducible refine (impl_IsBinary.calls kj16 t756 t783 _ A88.out).mono ?_); rintro e w' ⟨rfl, ⟨nd, rfl⟩⟩) | (go_at_call 21; (with_reducible refine (spec_IsBinary.calls kj16 t756 t784 _ A89.out).mono ?_); rintro e w' ⟨rfl, ⟨nd, rfl⟩⟩) | (go_at_call 10; (with_reducible refine (impl_IsBinary.calls kj16 t756 t785 _ A95.out).mono ?_); rintro e w' ⟨rfl, ⟨nd, rfl⟩⟩))
            go_meet
            case rel => exact ⟨_, ((t785 != (t758 == 0))), (by rw [e785]; first | rfl | (simp; done) | (cases t783 <;> cases (t758 == 0) <;> simp_all)), H', ⟨by have := HJ6.out; have := HJ16.out; first | omega | exact Nat.le_refl _⟩, ⟨mR_ HO760⟩, ⟨mR_ HO772⟩, ⟨mR_ HO_745000⟩, ⟨bk_ BK744⟩, ⟨b1_ HB GE744⟩⟩
          case rest => as_aux_lemma =>
            clear HC71
            (try clear c1); (try clear c2); (try clear p2); (try clear c3); (try clear c4); (try clear c5); (try clear c6); (try clear p6); (try clear c7); (try clear c8); (try clear c9); (try clear c11); (try clear c12); (try clear c13); (try clear c14); (try clear c15); (try clear c15b0); (try clear c15b1); (try clear c16); (try clear c17); (try clear c18); (try clear c18b0); (try clear c18b1); (try clear c19); (try clear c20); (try clear c20b0); (try clear c20b1); (try clear c22); (try clear c23); (try clear c23b0); (try clear c23b1); (try clear c25); (try clear c29); (try clear c37); (try clear c45); (try clear c53); (try clear c60); (try clear p64); (try clear c78); (try clear c78b0); (try clear c78b1); (try clear c80); (try clear c81); (try clear c81b0); (try clear c81b1); (try clear c82); (try clear c82b0); (try clear c82b1); (try clear c83); (try clear c83b0); (try clear c83b1); (try clear c85); (try clear c86); (try clear c86b0); (try clear c86b1); (try clear c87); (try clear c87b0); (try clear c87b1); (try clear c90); (try clear c90b0); (try clear c90b1); (try clear c90b2); (try clear hcz11_0); (try clear hcz13_0); (try clear hcz30_0); (try clear hcz31_0); (try clear hcz33_0); (try clear hcz38_0); (try clear hcz39_0); (try clear hcz41_0); (try clear hcz46_0); (try clear hcz47_0); (try clear hcz49_0); (try clear hcz54_0); (try clear hcz55_0); (try clear hcz61_0); (try clear hfz11_0); (try clear hfz13_0); (try clear hfz30_0); (try clear hfz31_0); (try clear hfz33_0); (try clear hfz38_0); (try clear hfz39_0); (try clear hfz41_0); (try clear hfz46_0); (try clear hfz47_0); (try clear hfz49_0); (try clear hfz54_0); (try clear hfz55_0); (try clear hfz61_0); (try clear p2); (try clear p6)
            obtain ⟨kq, x213_70, rfl, HA, HJ70, HO_11, HO_19, HO_745000, BK744, HB⟩ := hcut
            cases kq with
            | zero => exact absurd HA.out (by simp [laws_FnBinary.j2])
            | succ kj70 =>
              have H := HA.out
              clear HA
              simp only [laws_FnBinary.j2] at H
              by_cases c120 : x213_70 = true
              · subst c120
                replace H := it_ H
                obtain rfl := Option.some.inj H
                go_wp2
                go_ret
                exact ⟨re_, b1_ HB GE744⟩
              replace c120 := Bool.eq_false_iff.mpr c120
              subst c120
              replace H := if_ H
              have HC121 := as_ H
              clear H
              go_upto_if 215 with (fail)
              go_cut [] from 215 to 215 (fun wc => ∃ (kq : Nat), Aside0 (laws_FnBinary.j4 kq l0 = some r) ∧ Aside0 (kq ≤ kj70) ∧ Aside0 (Kd.R (Kd.int .i64) 2 wc w.heap.size (fun _ => True) (.slice Ao10 t741.length co10) t741) ∧ Aside0 (wc.heap[gb744]? = some (.cells #[(.slice Ao10 t741.length co10)] 26 (0, 0))) ∧ Aside0 (Below w.heap.size w wc))
              case first => as_aux_lemma =>
                have H := HC121.out
                clear HC121
                by_cases c122 : t758 = 0
                rotate_left
                · rw [if_neg c122] at H
                  have c122b0 := beq_eq_false_iff_ne.mpr c122
                  have c122b1 := bne_iff_ne.mpr c122
                  (first | rw [c122b0] | (simp only [i64_w, i32_w]; rw [c122b0]) | skip)
                  have H' := as_ H
                  clear H
                  go_wp2
                  go_meet
                  case rel => exact ⟨_, H', ⟨by have := HJ6.out; have := HJ16.out; have := HJ70.out; first | omega | exact Nat.le_refl _⟩, ⟨mR_ HO_745000⟩, ⟨bk_ BK744⟩, ⟨b1_ HB GE744⟩⟩
                rw [if_pos c122] at H
                have c122b0 := beq_iff_eq.mpr c122
                have c122b1 := bne_eq_false_iff_eq.mpr c122
                clear c122
                (first | rw [c122b0] | (simp only [i64_w, i32_w]; rw [c122b0]) | skip)
                obtain ⟨⟨t786, t787⟩, A123, H⟩ := bo_ H
                dsimp only at H
                obtain ⟨⟨t788, t789⟩, A124, H⟩ := bo_ H
                dsimp only at H
                obtain ⟨⟨t790, t791⟩, A125, H⟩ := bo_ H
                dsimp only at H
                have HC126 := as_ H
                clear H
                obtain ⟨Ao127, co127, eo127⟩ := Kd.R_slice HO_11.out
                subst eo127
                go_upto_region 27 with (first | ((with_reducible refine gate_callee (f := 22) rfl ?_); refine gL_ 218 Try.func22 #[.slice Ao127 t757.length co127] ?_; (with_reducible refine (impl_BinaryOfVector.calls kj70 _ _ t757 t786 t787 _ ?side1 ?side2 A123.out).mono ?_); (case side1 => exact cC_ (Kd.R_reads' HO_11.out).2.2); (case side2 => exact (Kd.R_reads' HO_11.out).2.1); rintro e w' ⟨rfl, ⟨nd, rfl⟩⟩; refine ⟨_, rfl, ?_⟩) | ((with_reducible refine gate_callee (f := 23) rfl ?_); refine gL_ 223 Try.func23 #[.string t777] ?_; (with_reducible refine (impl_ParseBrackets.calls kj70 t777 t788 t789 _ A124.out).mono ?_); rintro e w' ⟨rfl, ⟨nd, rfl⟩⟩; refine ⟨_, rfl, ?_⟩) | ((with_reducible refine gate_callee (f := 14) rfl ?_); refine gL_ 228 Try.func14 #[.string t765] ?_; (with_reducible refine (impl_MirrorBinary.calls kj70 t765 t790 t791 _ A125.out).mono ?_); rintro e w' ⟨rfl, ⟨nd, rfl⟩⟩; refine ⟨_, rfl, ?_⟩))
                (try simp only [Act.put, List.setIfInBounds_toArray, List.set_cons_zero, List.set_cons_succ])
                go_cut [262] from 4095 to 0 (fun v262 wc => ∃ (kq : Nat) (x262_125 : Bool), v262 = .bool x262_125 ∧ Aside0 (laws_FnBinary.j3 kq l0 t756 x262_125 = some r) ∧ Aside0 (kq ≤ kj70) ∧ Aside0 (Kd.R (Kd.int .i64) 2 wc w.heap.size (fun _ => True) (.slice Ao10 t741.length co10) t741) ∧ Aside0 (wc.heap[gb744]? = some (.cells #[(.slice Ao10 t741.length co10)] 26 (0, 0))) ∧ Aside0 (Below w.heap.size w wc))
                case first => as_aux_lemma =>
                  have H := HC126.out
                  clear HC126
                  by_cases c128 : t787 = 0
                  rotate_left
                  · rw [if_neg c128] at H
                    have c128b0 := beq_eq_false_iff_ne.mpr c128
                    have c128b1 := bne_iff_ne.mpr c128
                    (first | rw [c128b0] | (simp only [i64_w, i32_w]; rw [c128b0]) | skip)
                    have H' := as_ H
                    clear H
                    go_wp2
                    go_meet
                    case rel => exact ⟨_, (true), rf_, H', ⟨by have := HJ6.out; have := HJ16.out; have := HJ70.out; first | omega | exact Nat.le_refl _⟩, ⟨mR_ HO_745000⟩, ⟨bk_ BK744⟩, ⟨b1_ HB GE744⟩⟩
                  rw [if_pos c128] at H
                  have c128b0 := beq_iff_eq.mpr c128
                  have c128b1 := bne_eq_false_iff_eq.mpr c128
                  clear c128
                  (first | rw [c128b0] | (simp only [i64_w, i32_w]; rw [c128b0]) | skip)
                  by_cases c129 : t789 = 0
                  rotate_left
                  · rw [if_neg c129] at H
                    have c129b0 := beq_eq_false_iff_ne.mpr c129
                    have c129b1 := bne_iff_ne.mpr c129
                    have H' := as_ H
                    clear H
                    go_wp2
                    go_meet
                    case rel => exact ⟨_, (true), rf_, H', ⟨by have := HJ6.out; have := HJ16.out; have := HJ70.out; first | omega | exact Nat.le_refl _⟩, ⟨mR_ HO_745000⟩, ⟨bk_ BK744⟩, ⟨b1_ HB GE744⟩⟩
                  rw [if_pos c129] at H
                  have c129b0 := beq_iff_eq.mpr c129
                  have c129b1 := bne_eq_false_iff_eq.mpr c129
                  clear c129
                  by_cases c130 : t791 = 0
                  rotate_left
                  · rw [if_neg c130] at H
                    have c130b0 := beq_eq_false_iff_ne.mpr c130
                    have c130b1 := bne_iff_ne.mpr c130
                    have H' := as_ H
                    clear H
                    go_wp2
                    go_meet
                    case rel => exact ⟨_, (true), rf_, H', ⟨by have := HJ6.out; have := HJ16.out; have := HJ70.out; first | omega | exact Nat.le_refl _⟩, ⟨mR_ HO_745000⟩, ⟨bk_ BK744⟩, ⟨b1_ HB GE744⟩⟩
                  rw [if_pos c130] at H
                  have c130b0 := beq_iff_eq.mpr c130
                  have c130b1 := bne_eq_false_iff_eq.mpr c130
                  clear c130
                  by_cases c131 : t786.toList = t756.toList
                  rotate_left
                  · rw [if_neg c131] at H
                    have c131b0 := beq_eq_false_iff_ne.mpr c131
                    have c131b1 := bne_iff_ne.mpr c131
                    have H' := as_ H
                    clear H
                    go_wp2
                    go_meet
                    case rel => exact ⟨_, (true), rf_, H', ⟨by have := HJ6.out; have := HJ16.out; have := HJ70.out; first | omega | exact Nat.le_refl _⟩, ⟨mR_ HO_745000⟩, ⟨bk_ BK744⟩, ⟨b1_ HB GE744⟩⟩
                  rw [if_pos c131] at H
                  have c131b0 := beq_iff_eq.mpr c131
                  have c131b1 := bne_eq_false_iff_eq.mpr c131
                  clear c131
                  by_cases c132 : t788.toList = t756.toList
                  rotate_left
                  · rw [if_neg c132] at H
                    have c132b0 := beq_eq_false_iff_ne.mpr c132
                    have c132b1 := bne_iff_ne.mpr c132
                    have H' := as_ H
                    clear H
                    go_wp2
                    go_meet
                    case rel => exact ⟨_, (true), rf_, H', ⟨by have := HJ6.out; have := HJ16.out; have := HJ70.out; first | omega | exact Nat.le_refl _⟩, ⟨mR_ HO_745000⟩, ⟨bk_ BK744⟩, ⟨b1_ HB GE744⟩⟩
                  rw [if_pos c132] at H
                  have c132b0 := beq_iff_eq.mpr c132
                  have c132b1 := bne_eq_false_iff_eq.mpr c132
                  clear c132
                  by_cases c133 : t790.toList = t756.toList
                  · rw [if_pos c133] at H
                    have c133b0 := beq_iff_eq.mpr c133
                    have c133b1 := bne_eq_false_iff_eq.mpr c133
                    clear c133
                    have H' := as_ H
                    clear H
                    obtain ⟨Ao134, co134, eo134⟩ := Kd.R_slice HO_19.out
                    subst eo134
                    go_wp2
                    go_meet
                    case rel => exact ⟨_, (((t769.length : Int) != (t757.length : Int))), rf_, H', ⟨by have := HJ6.out; have := HJ16.out; have := HJ70.out; first | omega | exact Nat.le_refl _⟩, ⟨mR_ HO_745000⟩, ⟨bk_ BK744⟩, ⟨b1_ HB GE744⟩⟩
                  rw [if_neg c133] at H
                  have c133b0 := beq_eq_false_iff_ne.mpr c133
                  have c133b1 := bne_iff_ne.mpr c133
                  have H' := as_ H
                  clear H
                  go_wp2
                  go_meet
                  case rel => exact ⟨_, (true), rf_, H', ⟨by have := HJ6.out; have := HJ16.out; have := HJ70.out; first | omega | exact Nat.le_refl _⟩, ⟨mR_ HO_745000⟩, ⟨bk_ BK744⟩, ⟨b1_ HB GE744⟩⟩
                case rest => as_aux_lemma =>
                  clear HC126
                  (try clear c1); (try clear c2); (try clear p2); (try clear c3); (try clear c4); (try clear c5); (try clear c6); (try clear p6); (try clear c7); (try clear c8); (try clear c9); (try clear c11); (try clear c12); (try clear c13); (try clear c14); (try clear c15); (try clear c15b0); (try clear c15b1); (try clear c16); (try clear c17); (try clear c18); (try clear c18b0); (try clear c18b1); (try clear c19); (try clear c20); (try clear c20b0); (try clear c20b1); (try clear c22); (try clear c23); (try clear c23b0); (try clear c23b1); (try clear c25); (try clear c29); (try clear c37); (try clear c45); (try clear c53); (try clear c60); (try clear p64); (try clear c78); (try clear c78b0); (try clear c78b1); (try clear c80); (try clear c81); (try clear c81b0); (try clear c81b1); (try clear c82); (try clear c82b0); (try clear c82b1); (try clear c83); (try clear c83b0); (try clear c83b1); (try clear c85); (try clear c86); (try clear c86b0); (try clear c86b1); (try clear c87); (try clear c87b0); (try clear c87b1); (try clear c90); (try clear c90b0); (try clear c90b1); (try clear c90b2); (try clear c120); (try clear c122); (try clear c122b0); (try clear c122b1); (try clear c128); (try clear c128b0); (try clear c128b1); (try clear c129); (try clear c129b0); (try clear c129b1); (try clear c130); (try clear c130b0); (try clear c130b1); (try clear c131); (try clear c131b0); (try clear c131b1); (try clear c132); (try clear c132b0); (try clear c132b1); (try clear c133); (try clear c133b0); (try clear c133b1); (try clear hcz11_0); (try clear hcz13_0); (try clear hcz30_0); (try clear hcz31_0); (try clear hcz33_0); (try clear hcz38_0); (try clear hcz39_0); (try clear hcz41_0); (try clear hcz46_0); (try clear hcz47_0); (try clear hcz49_0); (try clear hcz54_0); (try clear hcz55_0); (try clear hcz61_0); (try clear hfz11_0); (try clear hfz13_0); (try clear hfz30_0); (try clear hfz31_0); (try clear hfz33_0); (try clear hfz38_0); (try clear hfz39_0); (try clear hfz41_0); (try clear hfz46_0); (try clear hfz47_0); (try clear hfz49_0); (try clear hfz54_0); (try clear hfz55_0); (try clear hfz61_0); (try clear p2); (try clear p6); (try clear p64)
                  obtain ⟨kq, x262_125, rfl, HA, HJ125, HO_745000, BK744, HB⟩ := hcut
                  cases kq with
                  | zero => exact absurd HA.out (by simp [laws_FnBinary.j3])
                  | succ kj125 =>
                    have H := HA.out
                    clear HA
                    simp only [laws_FnBinary.j3] at H
                    by_cases c135 : x262_125 = true
                    · subst c135
                      replace H := it_ H
                      obtain rfl := Option.some.inj H
                      go_wp2
                      go_ret
                      exact ⟨re_, b1_ HB GE744⟩
                    replace c135 := Bool.eq_false_iff.mpr c135
                    subst c135
                    replace H := if_ H
                    obtain ⟨⟨t792, t793, t794⟩, A136, H⟩ := bo_ H
                    dsimp only at H
                    by_cases c137 : ((t794 == 0) != (t756.toList != ([48] : List UInt8))) = true
                    · rw [if_pos c137] at H
                      have c137b0 : ((t794 == 0) != (t756.toList != ([48] : List UInt8))) = true := c137
                      have c137b4 : (!((t794 == 0) == !(t756.toList == ([48] : List UInt8)))) = true := c137b0
                      (try (have c137b1 : decide ((t794 == 0) = (t756.toList != ([48] : List UInt8))) = false := by simpa using c137))
                      (try (have c137b2 : ((t794 == 0) == (t756.toList != ([48] : List UInt8))) = false := by simpa using c137))
                      (try (have c137b3 : ¬ ((t794 == 0) = (t756.toList != ([48] : List UInt8))) := by simpa using c137))
                      clear c137
                      obtain rfl := Option.some.inj H
                      go_wp2_with (first | ((with_reducible refine gate_callee (f := 24) rfl ?_); refine gL_ 265 Try.func24 #[.string t756] ?_; (with_reducible refine (impl_SidesOf.calls kj125 t756 t792 t793 t794 _ A136.out).mono ?_); rintro e w' ⟨rfl, ⟨nd, rfl⟩⟩; refine ⟨_, rfl, ?_⟩))
                      go_ret
                      exact ⟨re_, b1_ HB GE744⟩
                    rw [if_neg c137] at H
                    have c137b0 : ((t794 == 0) != (t756.toList != ([48] : List UInt8))) = false := by simpa using c137
                    have c137b4 : (!((t794 == 0) == !(t756.toList == ([48] : List UInt8)))) = false := c137b0
                    (try (have c137b1 : decide ((t794 == 0) = (t756.toList != ([48] : List UInt8))) = true := by simpa using c137))
                    (try (have c137b2 : ((t794 == 0) == (t756.toList != ([48] : List UInt8))) = true := by simpa using c137))
                    clear c137
                    by_cases c138 : t794 = 0
                    rotate_left
                    · rw [if_neg c138] at H
                      have c138b0 := beq_eq_false_iff_ne.mpr c138
                      have c138b4 : (t756.toList == ([48] : List UInt8)) = true := by have h := c137b0; rw [c138b0] at h; simpa using h
                      have c138b1 := bne_iff_ne.mpr c138
                      have H' := as_ H
                      clear H
                      go_wp2_with (first | ((with_reducible refine gate_callee (f := 24) rfl ?_); refine gL_ 265 Try.func24 #[.string t756] ?_; (with_reducible refine (impl_SidesOf.calls kj125 t756 t792 t793 t794 _ A136.out).mono ?_); rintro e w' ⟨rfl, ⟨nd, rfl⟩⟩; refine ⟨_, rfl, ?_⟩))
                      go_meet
                      case rel => exact ⟨_, H', ⟨by have := HJ6.out; have := HJ16.out; have := HJ70.out; have := HJ125.out; first | omega | exact Nat.le_refl _⟩, ⟨bR_ HO_745000⟩, ⟨bk_ BK744⟩, ⟨b1_ HB GE744⟩⟩
                    rw [if_pos c138] at H
                    have c138b0 := beq_iff_eq.mpr c138
                    have c138b4 : (t756.toList == ([48] : List UInt8)) = false := by have h := c137b0; rw [c138b0] at h; simpa using h
                    have c138b1 := bne_eq_false_iff_eq.mpr c138
                    clear c138
                    obtain ⟨⟨t795, t796⟩, A139, H⟩ := bo_ H
                    dsimp only at H
                    by_cases c140 : t796 = 0
                    rotate_left
                    · rw [if_neg c140] at H
                      have c140b0 := beq_eq_false_iff_ne.mpr c140
                      have c140b1 := bne_iff_ne.mpr c140
                      obtain rfl := Option.some.inj H
                      go_wp2_with (first | ((with_reducible refine gate_callee (f := 24) rfl ?_); refine gL_ 265 Try.func24 #[.string t756] ?_; (with_reducible refine (impl_SidesOf.calls kj125 t756 t792 t793 t794 _ A136.out).mono ?_); rintro e w' ⟨rfl, ⟨nd, rfl⟩⟩; refine ⟨_, rfl, ?_⟩) | ((with_reducible refine gate_callee (f := 25) rfl ?_); refine gL_ 279 Try.func25 #[.string t792, .string t793] ?_; (with_reducible refine (impl_JoinSides.calls kj125 t792 t793 t795 t796 _ A139.out).mono ?_); rintro e w144 ⟨rfl, hb⟩; refine ⟨_, rfl, ?_⟩; replace HO_745000 := rb_ HO_745000 hb; replace BK744 := kb_ BK744 hb; replace HB := as_ (below_step (b1_ HB GE744) hb); clear hb))
                      go_ret
                      exact ⟨re_, b1_ HB GE744⟩
                    rw [if_pos c140] at H
                    have c140b0 := beq_iff_eq.mpr c140
                    have c140b1 := bne_eq_false_iff_eq.mpr c140
                    clear c140
                    by_cases c141 : t795.toList = t756.toList
                    · rw [if_pos c141] at H
                      have c141b0 := beq_iff_eq.mpr c141
                      have c141b1 := bne_eq_false_iff_eq.mpr c141
                      clear c141
                      have H' := as_ H
                      clear H
                      go_wp2_with (first | ((with_reducible refine gate_callee (f := 24) rfl ?_); refine gL_ 265 Try.func24 #[.string t756] ?_; (with_reducible refine (impl_SidesOf.calls kj125 t756 t792 t793 t794 _ A136.out).mono ?_); rintro e w' ⟨rfl, ⟨nd, rfl⟩⟩; refine ⟨_, rfl, ?_⟩) | ((with_reducible refine gate_callee (f := 25) rfl ?_); refine gL_ 279 Try.func25 #[.string t792, .string t793] ?_; (with_reducible refine (impl_JoinSides.calls kj125 t792 t793 t795 t796 _ A139.out).mono ?_); rintro e w142 ⟨rfl, hb⟩; refine ⟨_, rfl, ?_⟩; replace HO_745000 := rb_ HO_745000 hb; replace BK744 := kb_ BK744 hb; replace HB := as_ (below_step (b1_ HB GE744) hb); clear hb))
                      go_meet
                      case rel => exact ⟨_, H', ⟨by have := HJ6.out; have := HJ16.out; have := HJ70.out; have := HJ125.out; first | omega | exact Nat.le_refl _⟩, ⟨bR_ HO_745000⟩, ⟨bk_ BK744⟩, ⟨b1_ HB GE744⟩⟩
                    rw [if_neg c141] at H
                    have c141b0 := beq_eq_false_iff_ne.mpr c141
                    have c141b1 := bne_iff_ne.mpr c141
                    obtain rfl := Option.some.inj H
                    go_wp2_with (first | ((with_reducible refine gate_callee (f := 24) rfl ?_); refine gL_ 265 Try.func24 #[.string t756] ?_; (with_reducible refine (impl_SidesOf.calls kj125 t756 t792 t793 t794 _ A136.out).mono ?_); rintro e w' ⟨rfl, ⟨nd, rfl⟩⟩; refine ⟨_, rfl, ?_⟩) | ((with_reducible refine gate_callee (f := 25) rfl ?_); refine gL_ 279 Try.func25 #[.string t792, .string t793] ?_; (with_reducible refine (impl_JoinSides.calls kj125 t792 t793 t795 t796 _ A139.out).mono ?_); rintro e w143 ⟨rfl, hb⟩; refine ⟨_, rfl, ?_⟩; replace HO_745000 := rb_ HO_745000 hb; replace BK744 := kb_ BK744 hb; replace HB := as_ (below_step (b1_ HB GE744) hb); clear hb))
                    go_ret
                    exact ⟨re_, b1_ HB GE744⟩
              case rest => as_aux_lemma =>
                clear HC121
                (try clear c1); (try clear c2); (try clear p2); (try clear c3); (try clear c4); (try clear c5); (try clear c6); (try clear p6); (try clear c7); (try clear c8); (try clear c9); (try clear c11); (try clear c12); (try clear c13); (try clear c14); (try clear c15); (try clear c15b0); (try clear c15b1); (try clear c16); (try clear c17); (try clear c18); (try clear c18b0); (try clear c18b1); (try clear c19); (try clear c20); (try clear c20b0); (try clear c20b1); (try clear c22); (try clear c23); (try clear c23b0); (try clear c23b1); (try clear c24); (try clear c25); (try clear c29); (try clear c37); (try clear c45); (try clear c53); (try clear c60); (try clear p64); (try clear c78); (try clear c78b0); (try clear c78b1); (try clear c80); (try clear c81); (try clear c81b0); (try clear c81b1); (try clear c82); (try clear c82b0); (try clear c82b1); (try clear c83); (try clear c83b0); (try clear c83b1); (try clear c85); (try clear c86); (try clear c86b0); (try clear c86b1); (try clear c87); (try clear c87b0); (try clear c87b1); (try clear c90); (try clear c90b0); (try clear c90b1); (try clear c90b2); (try clear c120); (try clear c122); (try clear c122b0); (try clear c122b1); (try clear c128); (try clear c128b0); (try clear c128b1); (try clear c129); (try clear c129b0); (try clear c129b1); (try clear c130); (try clear c130b0); (try clear c130b1); (try clear c131); (try clear c131b0); (try clear c131b1); (try clear c132); (try clear c132b0); (try clear c132b1); (try clear c133); (try clear c133b0); (try clear c133b1); (try clear c135); (try clear c137); (try clear c137b0); (try clear c137b1); (try clear c137b2); (try clear c138); (try clear c138b0); (try clear c138b1); (try clear c140); (try clear c140b0); (try clear c140b1); (try clear c141); (try clear c141b0); (try clear c141b1); (try clear hcz11_0); (try clear hcz13_0); (try clear hcz30_0); (try clear hcz31_0); (try clear hcz33_0); (try clear hcz38_0); (try clear hcz39_0); (try clear hcz41_0); (try clear hcz46_0); (try clear hcz47_0); (try clear hcz49_0); (try clear hcz54_0); (try clear hcz55_0); (try clear hcz61_0); (try clear hfz11_0); (try clear hfz13_0); (try clear hfz30_0); (try clear hfz31_0); (try clear hfz33_0); (try clear hfz38_0); (try clear hfz39_0); (try clear hfz41_0); (try clear hfz46_0); (try clear hfz47_0); (try clear hfz49_0); (try clear hfz54_0); (try clear hfz55_0); (try clear hfz61_0); (try clear p2); (try clear p6); (try clear p64)
                obtain ⟨kq, HA, HJ120, HO_745000, BK744, HB⟩ := hcut
                cases kq with
                | zero => exact absurd HA.out (by simp [laws_FnBinary.j4])
                | succ kj120 =>
                  have H := HA.out
                  clear HA
                  simp only [laws_FnBinary.j4] at H
                  obtain ⟨⟨t797, t798⟩, A145, H⟩ := bo_ H
                  dsimp only at H
                  obtain ⟨⟨t799, t800⟩, A146, H⟩ := bo_ H
                  dsimp only at H
                  obtain ⟨⟨t801, t802⟩, A147, H⟩ := bo_ H
                  dsimp only at H
                  obtain ⟨t803, A148, H⟩ := bo_ H
                  obtain ⟨⟨t804, t807⟩, A149, H⟩ := bo_ H
                  dsimp only at H
                  obtain ⟨⟨t809, t812⟩, A150, H⟩ := bo_ H
                  dsimp only at H
                  obtain ⟨t814, A151, H⟩ := bo_ H
                  obtain ⟨⟨t817, t818⟩, A152, H⟩ := bo_ H
                  dsimp only at H
                  obtain ⟨⟨t819, t820⟩, A153, H⟩ := bo_ H
                  dsimp only at H
                  obtain ⟨t821, A154, H⟩ := bo_ H
                  obtain ⟨⟨t822, t823⟩, A155, H⟩ := bo_ H
                  dsimp only at H
                  obtain ⟨⟨t824, t825⟩, A156, H⟩ := bo_ H
                  dsimp only at H
                  obtain ⟨t826, A157, H⟩ := bo_ H
                  obtain ⟨⟨t827, t828, t829⟩, A158, H⟩ := bo_ H
                  dsimp only at H
                  obtain ⟨⟨t830, t831, t832⟩, A159, H⟩ := bo_ H
                  dsimp only at H
                  have HC_ := as_ H
                  clear H
                  go_upto_region 51 with (first | ((with_reducible refine gate_callee (f := 26) rfl ?_); refine gL_ 291 Try.func26 #[.slice A0 l0.length c0] ?_; (with_reducible refine (spec_DrawJoinSides.calls kj120 _ _ l0 t797 t798 _ ?side1 ?side2 A145.out).mono ?_); (case side1 => exact bC_ HR0 HB); (case side2 => exact HC0.out); rintro e w193 ⟨rfl, hb⟩; refine ⟨_, rfl, ?_⟩; replace HO_745000 := rb_ HO_745000 hb; replace BK744 := kb_ BK744 hb; replace HB := as_ (below_step (b1_ HB GE744) hb); clear hb) | ((with_reducible refine gate_callee (f := 25) rfl ?_); refine gL_ 297 Try.func25 #[.string t797, .string t798] ?_; (with_reducible refine (impl_JoinSides.calls kj120 t797 t798 t799 t800 _ A146.out).mono ?_); rintro e w194 ⟨rfl, hb⟩; refine ⟨_, rfl, ?_⟩; replace HO_745000 := rb_ HO_745000 hb; replace BK744 := kb_ BK744 hb; replace HB := as_ (below_step (b1_ HB GE744) hb); clear hb) | ((with_reducible refine gate_callee (f := 27) rfl ?_); refine gL_ 303 Try.func27 #[.string t797, .string t798] ?_; (with_reducible refine (spec_JoinSides.calls kj120 t797 t798 t801 t802 _ A147.out).mono ?_); rintro e w' ⟨rfl, ⟨nd, rfl⟩⟩; refine ⟨_, rfl, ?_⟩; (try (rw [drewN_self w194]; generalize hq_ : World.drewN w194 _ = w194; replace HO_745000 : Aside0 (Kd.R (Kd.int .i64) 2 w194 w.heap.size (fun _ => True) (.slice Ao10 t741.length co10) t741) := ⟨by rw [← hq_]; exact (bR_ HO_745000)⟩; replace BK744 : Aside0 (w194.heap[gb744]? = some (.cells #[.slice Ao10 t741.length co10] 26 (0, 0))) := ⟨by rw [← hq_]; exact (bk_ BK744)⟩; replace HB : Aside0 (Below w.heap.size w w194) := ⟨by rw [← hq_]; exact (b1_ HB GE744)⟩; clear hq_))) | ((with_reducible refine gate_callee (f := 28) rfl ?_); refine gL_ 307 Try.func28 #[.slice A0 l0.length c0] ?_; (with_reducible refine (spec_DrawTreeOfBinary.calls kj120 _ _ l0 t803 _ ?side1 ?side2 A148.out).mono ?_); (case side1 => exact bC_ HR0 HB); (case side2 => exact HC0.out); rintro e w195 ⟨rfl, hb⟩; refine ⟨_, rfl, ?_⟩; replace HO_745000 := rb_ HO_745000 hb; replace BK744 := kb_ BK744 hb; replace HB := as_ (below_step (b1_ HB GE744) hb); clear hb) | ((with_reducible refine gate_callee (f := 8) rfl ?_); refine gL_ 310 Try.func8 #[.string t803] ?_; (with_reducible refine (impl_TreeOfBinary.calls kj120 t803 t804 t807 _ A149.out).mono ?_); rintro e w196 ⟨v805, rfl, ho0, hb⟩; refine ⟨_, rfl, ?_⟩; have HO806 := as_ (Kd.R_lower (nRR_ ho0 HO_745000) (below_size (b1_ HB GE744))); replace HO_745000 := eR_ HO_745000 (Kd.R_base ho0) hb; replace BK744 := kb_ BK744 hb; replace HB := as_ (below_step (b1_ HB GE744) hb); clear hb ho0) | ((with_reducible refine gate_dst (N := 45) rfl ?_); (try (refine gate_guard (by rfl) ?_; dsimp only)); refine bx_ 45 #[.slice none 0 0] 26 ?_; intro gb808 hg w197 hbox hb; replace HO_745000 := rb_ HO_745000 hb; replace HO806 := rb_ HO806 hb; have BK808 := as_ (hbox); have GW808 := gz_ hg (b1_ HB GE744); have GE808 := GW808; replace HB := as_ (below_step (b1_ HB GE744) hb); have NB744_808 := nl_ hg (bk_ BK744); have NB808_744 := ng_ hg (bk_ BK744); replace BK744 := kb_ BK744 hb; clear hb hbox hg; obtain ⟨Ao198, co198, eo198⟩ := Kd.R_slice HO806.out; subst eo198; have hnb199 := NB808_744.out; have hnc199 := NB744_808.out; obtain ⟨hcz200_0, hfz200_0⟩ := tc1_ BK808) | ((with_reducible refine gate_callee (f := 29) rfl ?_); refine gL_ 315 Try.func29 #[.string t803] ?_; (with_reducible refine (spec_TreeOfBinary.calls kj120 t803 t809 t812 _ A150.out).mono ?_); rintro e w201 ⟨v810, rfl, ho0, hb⟩; refine ⟨_, rfl, ?_⟩; have HO811 := as_ (Kd.R_lower (Kd.R_new' (Kd.R_new' ho0 (Kd.R_lt (iR1_ HO_745000 BK808))) (Kd.R_lt (iR1_ HO806 BK808))) (below_size (b2_ HB GE744 GE808))); replace HO_745000 := as_ (Kd.R_elder' (iR1_ HO_745000 BK808) (Kd.R_base ho0) hb); replace HO806 := as_ (Kd.R_elder' (iR1_ HO806 BK808) (Kd.R_base ho0) hb); replace BK744 := as_ (blk_below (bf_ BK744 NB744_808) hb); replace BK808 := as_ (blk_below (g := gb808) (o := .cells #[.slice Ao198 t804.length co198] 26 (0, 0)) (bp_ BK808) hb); replace HB := as_ (below_step (b2_ HB GE744 GE808) hb); clear hb ho0) | ((with_reducible refine gate_dst (N := 47) rfl ?_); (try (refine gate_guard (by rfl) ?_; dsimp only)); refine bx_ 47 #[.slice none 0 0] 26 ?_; intro gb813 hg w202 hbox hb; replace HO_745000 := rb_ HO_745000 hb; replace HO806 := rb_ HO806 hb; replace HO811 := rb_ HO811 hb; have BK813 := as_ (hbox); have GW813 := gz_ hg (b2_ HB GE744 GE808); have GE813 := GW813; replace HB := as_ (below_step (b2_ HB GE744 GE808) hb); have NB744_813 := nl_ hg (bk_ BK744); have NB813_744 := ng_ hg (bk_ BK744); replace BK744 := kb_ BK744 hb; have NB808_813 := nl_ hg (bk_ BK808); have NB813_808 := ng_ hg (bk_ BK808); replace BK808 := kb_ BK808 hb; clear hb hbox hg; obtain ⟨Ao203, co203, eo203⟩ := Kd.R_slice HO811.out; subst eo203; have hnb204 := NB813_744.out; have hnc204 := NB744_813.out; have hnb205 := NB813_808.out; have hnc205 := NB808_813.out; obtain ⟨hcz206_0, hfz206_0⟩ := tc1_ BK813) | ((with_reducible refine gate_callee (f := 30) rfl ?_); refine gL_ 319 Try.func30 #[.slice A0 l0.length c0] ?_; (with_reducible refine (spec_DrawBinaryOfVector.calls kj120 _ _ l0 t814 _ ?side1 ?side2 A151.out).mono ?_); (case side1 => exact Kd.C_below HR0.out (b3_ HB GE744 GE808 GE813)); (case side2 => exact HC0.out); rintro e w207 ⟨v815, rfl, ho0, hb⟩; refine ⟨_, rfl, ?_⟩; have HO816 := as_ (Kd.Q_lower (Kd.Q_new' (Kd.Q_new' (Kd.Q_new' ho0 (Kd.R_lt (iR1_ HO_745000 BK813))) (Kd.R_lt (iR1_ HO806 BK813))) (Kd.R_lt (iR1_ HO811 BK813))) (below_size (b3_ HB GE744 GE808 GE813))); replace HO_745000 := as_ (Kd.R_elder' (iR1_ HO_745000 BK813) (Kd.Q_base ho0) hb); replace HO806 := as_ (Kd.R_elder' (iR1_ HO806 BK813) (Kd.Q_base ho0) hb); replace HO811 := as_ (Kd.R_elder' (iR1_ HO811 BK813) (Kd.Q_base ho0) hb); replace BK744 := as_ (blk_below (bf_ BK744 NB744_813) hb); replace BK808 := as_ (blk_below (bf_ BK808 NB808_813) hb); replace BK813 := as_ (blk_below (g := gb813) (o := .cells #[.slice Ao203 t809.length co203] 26 (0, 0)) (bp_ BK813) hb); replace HB := as_ (below_step (b3_ HB GE744 GE808 GE813) hb); clear hb ho0; obtain ⟨Ao208, co208, eo208, _⟩ := Kd.Q_slice HO816.out; subst eo208) | ((with_reducible refine gate_callee (f := 22) rfl ?_); refine gL_ 322 Try.func22 #[.slice Ao208 t814.length co208] ?_; (with_reducible refine (impl_BinaryOfVector.calls kj120 _ _ t814 t817 t818 _ ?side1 ?side2 A152.out).mono ?_); (case side1 => repeat (first | exact (Kd.Q_reads' HO816.out).2.2 | (with_reducible refine Kd.C_alloc ?_ _) | (with_reducible refine Kd.C_drewN ?_ _) | (with_reducible refine Kd.C_drew ?_))); (case side2 => exact (Kd.Q_reads' HO816.out).2.1); rintro e w' ⟨rfl, ⟨nd, rfl⟩⟩; refine ⟨_, rfl, ?_⟩) | ((with_reducible refine gate_callee (f := 31) rfl ?_); refine gL_ 327 Try.func31 #[.slice Ao208 t814.length co208] ?_; (with_reducible refine (spec_BinaryOfVector.calls kj120 _ _ t814 t819 t820 _ ?side1 ?side2 A153.out).mono ?_); (case side1 => repeat (first | exact (Kd.Q_reads' HO816.out).2.2 | (with_reducible refine Kd.C_alloc ?_ _) | (with_reducible refine Kd.C_drewN ?_ _) | (with_reducible refine Kd.C_drew ?_))); (case side2 => exact (Kd.Q_reads' HO816.out).2.1); rintro e w' ⟨rfl, ⟨nd, rfl⟩⟩; refine ⟨_, rfl, ?_⟩) | ((with_reducible refine gate_callee (f := 32) rfl ?_); refine gL_ 331 Try.func32 #[.slice A0 l0.length c0] ?_; (with_reducible refine (spec_DrawParseBrackets.calls kj120 _ _ l0 t821 _ ?side1 ?side2 A154.out).mono ?_); (case side1 => repeat (first | exact (Kd.C_below HR0.out (b3_ HB GE744 GE808 GE813)) | (with_reducible refine Kd.C_alloc ?_ _) | (with_reducible refine Kd.C_drewN ?_ _) | (with_reducible refine Kd.C_drew ?_))); (case side2 => exact HC0.out); rintro e w209 ⟨rfl, hb⟩; refine ⟨_, rfl, ?_⟩; replace HO_745000 := rb_ HO_745000 hb; replace HO806 := rb_ HO806 hb; replace HO811 := rb_ HO811 hb; replace HO816 := as_ (Kd.Q_below (bQ_ HO816) hb); replace BK744 := kb_ BK744 hb; replace BK808 := kb_ BK808 hb; replace BK813 := kb_ BK813 hb; replace HB := as_ (below_step (b3_ HB GE744 GE808 GE813) hb); clear hb) | ((with_reducible refine gate_callee (f := 23) rfl ?_); refine gL_ 334 Try.func23 #[.string t821] ?_; (with_reducible refine (impl_ParseBrackets.calls kj120 t821 t822 t823 _ A155.out).mono ?_); rintro e w' ⟨rfl, ⟨nd, rfl⟩⟩; refine ⟨_, rfl, ?_⟩) | ((with_reducible refine gate_callee (f := 33) rfl ?_); refine gL_ 339 Try.func33 #[.string t821] ?_; (with_reducible refine (spec_ParseBrackets.calls kj120 t821 t824 t825 _ A156.out).mono ?_); rintro e w210 ⟨rfl, hb⟩; refine ⟨_, rfl, ?_⟩; replace HO_745000 := rb_ HO_745000 hb; replace HO806 := rb_ HO806 hb; replace HO811 := rb_ HO811 hb; replace HO816 := as_ (Kd.Q_below (bQ_ HO816) hb); replace BK744 := kb_ BK744 hb; replace BK808 := kb_ BK808 hb; replace BK813 := kb_ BK813 hb; replace HB := as_ (below_step (b3_ HB GE744 GE808 GE813) hb); clear hb) | ((with_reducible refine gate_callee (f := 34) rfl ?_); refine gL_ 343 Try.func34 #[.slice A0 l0.length c0] ?_; (with_reducible refine (spec_DrawSidesOf.calls kj120 _ _ l0 t826 _ ?side1 ?side2 A157.out).mono ?_); (case side1 => exact bC_ HR0 HB); (case side2 => exact HC0.out); rintro e w211 ⟨rfl, hb⟩; refine ⟨_, rfl, ?_⟩; replace HO_745000 := rb_ HO_745000 hb; replace HO806 := rb_ HO806 hb; replace HO811 := rb_ HO811 hb; replace HO816 := as_ (Kd.Q_below (bQ_ HO816) hb); replace BK744 := kb_ BK744 hb; replace BK808 := kb_ BK808 hb; replace BK813 := kb_ BK813 hb; replace HB := as_ (below_step (b3_ HB GE744 GE808 GE813) hb); clear hb) | ((with_reducible refine gate_callee (f := 24) rfl ?_); refine gL_ 346 Try.func24 #[.string t826] ?_; (with_reducible refine (impl_SidesOf.calls kj120 t826 t827 t828 t829 _ A158.out).mono ?_); rintro e w' ⟨rfl, ⟨nd, rfl⟩⟩; refine ⟨_, rfl, ?_⟩) | ((with_reducible refine gate_callee (f := 35) rfl ?_); refine gL_ 352 Try.func35 #[.string t826] ?_; (with_reducible refine (spec_SidesOf.calls kj120 t826 t830 t831 t832 _ A159.out).mono ?_); rintro e w' ⟨rfl, ⟨nd, rfl⟩⟩; refine ⟨_, rfl, ?_⟩; obtain ⟨hcz212_0, hfz212_0⟩ := tc1_ BK808; obtain ⟨hcz213_0, hfz213_0⟩ := tc1_ BK813))
                  have H := HC_.out
                  clear HC_
                  by_cases c160 : t800 = t802
                  rotate_left
                  · rw [if_neg c160] at H
                    have c160b0 := beq_eq_false_iff_ne.mpr c160
                    have c160b1 := bne_iff_ne.mpr c160
                    obtain rfl := Option.some.inj H
                    go_wp2
                    go_ret
                    exact ⟨re_, b3_ HB GE744 GE808 GE813⟩
                  rw [if_pos c160] at H
                  have c160b0 := beq_iff_eq.mpr c160
                  have c160b1 := bne_eq_false_iff_eq.mpr c160
                  clear c160
                  by_cases c161 : t799.toList = t801.toList
                  rotate_left
                  · rw [if_neg c161] at H
                    have c161b0 := beq_eq_false_iff_ne.mpr c161
                    have c161b1 := bne_iff_ne.mpr c161
                    obtain rfl := Option.some.inj H
                    go_wp2
                    go_ret
                    exact ⟨re_, b3_ HB GE744 GE808 GE813⟩
                  rw [if_pos c161] at H
                  have c161b0 := beq_iff_eq.mpr c161
                  have c161b1 := bne_eq_false_iff_eq.mpr c161
                  clear c161
                  by_cases c162 : t807 = t812
                  rotate_left
                  · rw [if_neg c162] at H
                    have c162b0 := beq_eq_false_iff_ne.mpr c162
                    have c162b1 := bne_iff_ne.mpr c162
                    obtain rfl := Option.some.inj H
                    go_wp2
                    go_ret
                    exact ⟨re_, b3_ HB GE744 GE808 GE813⟩
                  rw [if_pos c162] at H
                  have c162b0 := beq_iff_eq.mpr c162
                  have c162b1 := bne_eq_false_iff_eq.mpr c162
                  clear c162
                  obtain ⟨t833, A163, H⟩ := bo_ H
                  by_cases c164 : t833 = true
                  rotate_left
                  · replace c164 := Bool.eq_false_iff.mpr c164
                    subst c164
                    replace H := if_ H
                    obtain rfl := Option.some.inj H
                    go_wp2_with (first | (go_at_call 9; (with_reducible refine (laws_trees5.calls kj120 _ _ t804 _ _ t809 false _ ?side1 ?side2 ?side3 ?side4 A163.out).mono ?_); (case side1 => exact cC_ (Kd.R_reads' HO806.out).2.2); (case side2 => exact (Kd.R_reads' HO806.out).2.1); (case side3 => exact cC_ (Kd.R_reads' HO811.out).2.2); (case side4 => exact (Kd.R_reads' HO811.out).2.1); rintro e w214 ⟨rfl, hb⟩; replace HO_745000 := rb_ HO_745000 hb; replace HO806 := rb_ HO806 hb; replace HO811 := rb_ HO811 hb; replace HO816 := as_ (Kd.Q_below (bQ_ HO816) hb); replace BK744 := kb_ BK744 hb; replace BK808 := kb_ BK808 hb; replace BK813 := kb_ BK813 hb; replace HB := as_ (below_step (b3_ HB GE744 GE808 GE813) hb); clear hb))
                    go_ret
                    exact ⟨re_, b3_ HB GE744 GE808 GE813⟩
                  subst c164
                  replace H := it_ H
                  by_cases c165 : t818 = t820
                  rotate_left
                  · rw [if_neg c165] at H
                    have c165b0 := beq_eq_false_iff_ne.mpr c165
                    have c165b1 := bne_iff_ne.mpr c165
                    obtain rfl := Option.some.inj H
                    go_wp2_with (first | (go_at_call 9; (with_reducible refine (laws_trees5.calls kj120 _ _ t804 _ _ t809 true _ ?side1 ?side2 ?side3 ?side4 A163.out).mono ?_); (case side1 => exact cC_ (Kd.R_reads' HO806.out).2.2); (case side2 => exact (Kd.R_reads' HO806.out).2.1); (case side3 => exact cC_ (Kd.R_reads' HO811.out).2.2); (case side4 => exact (Kd.R_reads' HO811.out).2.1); rintro e w214 ⟨rfl, hb⟩; replace HO_745000 := rb_ HO_745000 hb; replace HO806 := rb_ HO806 hb; replace HO811 := rb_ HO811 hb; replace HO816 := as_ (Kd.Q_below (bQ_ HO816) hb); replace BK744 := kb_ BK744 hb; replace BK808 := kb_ BK808 hb; replace BK813 := kb_ BK813 hb; replace HB := as_ (below_step (b3_ HB GE744 GE808 GE813) hb); clear hb))
                    go_ret
                    exact ⟨re_, b3_ HB GE744 GE808 GE813⟩
                  rw [if_pos c165] at H
                  have c165b0 := beq_iff_eq.mpr c165
                  have c165b1 := bne_eq_false_iff_eq.mpr c165
                  clear c165
                  by_cases c166 : t817.toList = t819.toList
                  rotate_left
                  · rw [if_neg c166] at H
                    have c166b0 := beq_eq_false_iff_ne.mpr c166
                    have c166b1 := bne_iff_ne.mpr c166
                    obtain rfl := Option.some.inj H
                    go_wp2_with (first | (go_at_call 9; (with_reducible refine (laws_trees5.calls kj120 _ _ t804 _ _ t809 true _ ?side1 ?side2 ?side3 ?side4 A163.out).mono ?_); (case side1 => exact cC_ (Kd.R_reads' HO806.out).2.2); (case side2 => exact (Kd.R_reads' HO806.out).2.1); (case side3 => exact cC_ (Kd.R_reads' HO811.out).2.2); (case side4 => exact (Kd.R_reads' HO811.out).2.1); rintro e w214 ⟨rfl, hb⟩; replace HO_745000 := rb_ HO_745000 hb; replace HO806 := rb_ HO806 hb; replace HO811 := rb_ HO811 hb; replace HO816 := as_ (Kd.Q_below (bQ_ HO816) hb); replace BK744 := kb_ BK744 hb; replace BK808 := kb_ BK808 hb; replace BK813 := kb_ BK813 hb; replace HB := as_ (below_step (b3_ HB GE744 GE808 GE813) hb); clear hb))
                    go_ret
                    exact ⟨re_, b3_ HB GE744 GE808 GE813⟩
                  rw [if_pos c166] at H
                  have c166b0 := beq_iff_eq.mpr c166
                  have c166b1 := bne_eq_false_iff_eq.mpr c166
                  clear c166
                  by_cases c167 : t823 = t825
                  rotate_left
                  · rw [if_neg c167] at H
                    have c167b0 := beq_eq_false_iff_ne.mpr c167
                    have c167b1 := bne_iff_ne.mpr c167
                    obtain rfl := Option.some.inj H
                    go_wp2_with (first | (go_at_call 9; (with_reducible refine (laws_trees5.calls kj120 _ _ t804 _ _ t809 true _ ?side1 ?side2 ?side3 ?side4 A163.out).mono ?_); (case side1 => exact cC_ (Kd.R_reads' HO806.out).2.2); (case side2 => exact (Kd.R_reads' HO806.out).2.1); (case side3 => exact cC_ (Kd.R_reads' HO811.out).2.2); (case side4 => exact (Kd.R_reads' HO811.out).2.1); rintro e w214 ⟨rfl, hb⟩; replace HO_745000 := rb_ HO_745000 hb; replace HO806 := rb_ HO806 hb; replace HO811 := rb_ HO811 hb; replace HO816 := as_ (Kd.Q_below (bQ_ HO816) hb); replace BK744 := kb_ BK744 hb; replace BK808 := kb_ BK808 hb; replace BK813 := kb_ BK813 hb; replace HB := as_ (below_step (b3_ HB GE744 GE808 GE813) hb); clear hb))
                    go_ret
                    exact ⟨re_, b3_ HB GE744 GE808 GE813⟩
                  rw [if_pos c167] at H
                  have c167b0 := beq_iff_eq.mpr c167
                  have c167b1 := bne_eq_false_iff_eq.mpr c167
                  clear c167
                  by_cases c168 : t822.toList = t824.toList
                  rotate_left
                  · rw [if_neg c168] at H
                    have c168b0 := beq_eq_false_iff_ne.mpr c168
                    have c168b1 := bne_iff_ne.mpr c168
                    obtain rfl := Option.some.inj H
                    go_wp2_with (first | (go_at_call 9; (with_reducible refine (laws_trees5.calls kj120 _ _ t804 _ _ t809 true _ ?side1 ?side2 ?side3 ?side4 A163.out).mono ?_); (case side1 => exact cC_ (Kd.R_reads' HO806.out).2.2); (case side2 => exact (Kd.R_reads' HO806.out).2.1); (case side3 => exact cC_ (Kd.R_reads' HO811.out).2.2); (case side4 => exact (Kd.R_reads' HO811.out).2.1); rintro e w214 ⟨rfl, hb⟩; replace HO_745000 := rb_ HO_745000 hb; replace HO806 := rb_ HO806 hb; replace HO811 := rb_ HO811 hb; replace HO816 := as_ (Kd.Q_below (bQ_ HO816) hb); replace BK744 := kb_ BK744 hb; replace BK808 := kb_ BK808 hb; replace BK813 := kb_ BK813 hb; replace HB := as_ (below_step (b3_ HB GE744 GE808 GE813) hb); clear hb))
                    go_ret
                    exact ⟨re_, b3_ HB GE744 GE808 GE813⟩
                  rw [if_pos c168] at H
                  have c168b0 := beq_iff_eq.mpr c168
                  have c168b1 := bne_eq_false_iff_eq.mpr c168
                  clear c168
                  by_cases c169 : t829 = t832
                  rotate_left
                  · rw [if_neg c169] at H
                    have c169b0 := beq_eq_false_iff_ne.mpr c169
                    have c169b1 := bne_iff_ne.mpr c169
                    obtain rfl := Option.some.inj H
                    go_wp2_with (first | (go_at_call 9; (with_reducible refine (laws_trees5.calls kj120 _ _ t804 _ _ t809 true _ ?side1 ?side2 ?side3 ?side4 A163.out).mono ?_); (case side1 => exact cC_ (Kd.R_reads' HO806.out).2.2); (case side2 => exact (Kd.R_reads' HO806.out).2.1); (case side3 => exact cC_ (Kd.R_reads' HO811.out).2.2); (case side4 => exact (Kd.R_reads' HO811.out).2.1); rintro e w214 ⟨rfl, hb⟩; replace HO_745000 := rb_ HO_745000 hb; replace HO806 := rb_ HO806 hb; replace HO811 := rb_ HO811 hb; replace HO816 := as_ (Kd.Q_below (bQ_ HO816) hb); replace BK744 := kb_ BK744 hb; replace BK808 := kb_ BK808 hb; replace BK813 := kb_ BK813 hb; replace HB := as_ (below_step (b3_ HB GE744 GE808 GE813) hb); clear hb))
                    go_ret
                    exact ⟨re_, b3_ HB GE744 GE808 GE813⟩
                  rw [if_pos c169] at H
                  have c169b0 := beq_iff_eq.mpr c169
                  have c169b1 := bne_eq_false_iff_eq.mpr c169
                  clear c169
                  by_cases c170 : t827.toList = t830.toList
                  · rw [if_pos c170] at H
                    have c170b0 := beq_iff_eq.mpr c170
                    have c170b1 := bne_eq_false_iff_eq.mpr c170
                    clear c170
                    obtain rfl := Option.some.inj H
                    go_wp2_with (first | (go_at_call 9; (with_reducible refine (laws_trees5.calls kj120 _ _ t804 _ _ t809 true _ ?side1 ?side2 ?side3 ?side4 A163.out).mono ?_); (case side1 => exact cC_ (Kd.R_reads' HO806.out).2.2); (case side2 => exact (Kd.R_reads' HO806.out).2.1); (case side3 => exact cC_ (Kd.R_reads' HO811.out).2.2); (case side4 => exact (Kd.R_reads' HO811.out).2.1); rintro e w214 ⟨rfl, hb⟩; replace HO_745000 := rb_ HO_745000 hb; replace HO806 := rb_ HO806 hb; replace HO811 := rb_ HO811 hb; replace HO816 := as_ (Kd.Q_below (bQ_ HO816) hb); replace BK744 := kb_ BK744 hb; replace BK808 := kb_ BK808 hb; replace BK813 := kb_ BK813 hb; replace HB := as_ (below_step (b3_ HB GE744 GE808 GE813) hb); clear hb))
                    go_ret
                    exact ⟨re_, b3_ HB GE744 GE808 GE813⟩
                  rw [if_neg c170] at H
                  have c170b0 := beq_eq_false_iff_ne.mpr c170
                  have c170b1 := bne_iff_ne.mpr c170
                  obtain rfl := Option.some.inj H
                  go_wp2_with (first | (go_at_call 9; (with_reducible refine (laws_trees5.calls kj120 _ _ t804 _ _ t809 true _ ?side1 ?side2 ?side3 ?side4 A163.out).mono ?_); (case side1 => exact cC_ (Kd.R_reads' HO806.out).2.2); (case side2 => exact (Kd.R_reads' HO806.out).2.1); (case side3 => exact cC_ (Kd.R_reads' HO811.out).2.2); (case side4 => exact (Kd.R_reads' HO811.out).2.1); rintro e w214 ⟨rfl, hb⟩; replace HO_745000 := rb_ HO_745000 hb; replace HO806 := rb_ HO806 hb; replace HO811 := rb_ HO811 hb; replace HO816 := as_ (Kd.Q_below (bQ_ HO816) hb); replace BK744 := kb_ BK744 hb; replace BK808 := kb_ BK808 hb; replace BK813 := kb_ BK813 hb; replace HB := as_ (below_step (b3_ HB GE744 GE808 GE813) hb); clear hb))
                  go_ret
                  exact ⟨re_, b3_ HB GE744 GE808 GE813⟩

end Go.Proofs.Ythbdbgoeaichcaa.E
