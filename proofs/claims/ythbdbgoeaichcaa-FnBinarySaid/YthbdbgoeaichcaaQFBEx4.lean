/- The row of the law FnBinary, out of its pure statement. -/
import Derived.Test.YthbdbgoeaichcaaQFBEx0
import Derived.Test.YthbdbgoeaichcaaQFBEx1
import Derived.Test.YthbdbgoeaichcaaQFBEx2
import Derived.Test.YthbdbgoeaichcaaQFBEx3
import Derived.Test.YthbdbgoeaichcaaQFBL
-- Written by wip/ext.py of this claim (contracts by the form of the kit's print; hand-written ones among them).
namespace Go.Proofs.Ythbdbgoeaichcaa.E
set_option maxHeartbeats 8000000
set_option maxRecDepth 100000
open Go.RowKit Go.Proofs.YthbdbgoeaichcaaW.PrintWords Go.Proofs.YthbdbgoeaichcaaW.PrintLast Go.Proofs.YthbdbgoeaichcaaW.PrintMore Go.Proofs.Ythbdbgoeaichcaa.Mi
attribute [local go_sem] max2_int min2_int max_two min_two max_three min_three max_four min_four   -- for this text's walks alone
set_option linter.unusedVariables false
set_option linter.unusedSimpArgs false

def spec_l03DrawOf.f (k : Nat) (s0_0 : List Int) (s0_1 : Int) (s0_2 : Int) (a1 : Int) : Option (ByteArray × Int × Int) := (spec_l01DrawOf.f k s0_0 s0_1 s0_2 (wrap64 (a1 + 1))).bind fun bt408 => ((spec_l01Children.f k bt408.1 0).bind fun t414 => ((spec_l03Binary.f k bt408.1 t414).bind fun t417 => ((spec_l01Next.f s0_0 bt408.2.1 bt408.2.2 2).bind fun bt418 => (if bt418.1 = 0 then ((spec_l03Mirror.f k t417).bind fun t421 => (some (t421, bt418.2.1, bt418.2.2))) else (some (t417, bt418.2.1, bt418.2.2))))))
theorem spec_l03DrawOf.calls (k : Nat) (g : Nat) (s0_0 : List Int) (s0_1 : Int) (s0_2 : Int) (a1 : Int) (r1 : ByteArray) (r2 : Int) (r3 : Int) (w0 w : World) (hI : IsS77 w0 w g s0_0 s0_1 s0_2) (hB : Below w0.heap.size w0 w) (h : spec_l03DrawOf.f k s0_0 s0_1 s0_2 a1 = some (r1, r2, r3)) :
    Calls Try.prog 62 #[.pointer (some ⟨g, 0, none⟩), .int .i64 a1] w fun e w' => e = .returned (.string r1) ∧ IsS77 w0 w' g s0_0 r2 r3 ∧ Below w0.heap.size w0 w' ∧ KeepBut w w' g none := by
  have hu26 := Try.underlying26
  have HI0 := as_ hI
  have HK := as_ (KeepBut.refl w g none)
  have HL := as_ hB.size
  clear hI
  have HW0 := as_ hB.size
  have HB := as_ hB
  clear hB
  have H : ((spec_l01DrawOf.f k s0_0 s0_1 s0_2 (wrap64 (a1 + 1))).bind fun bt408 => ((spec_l01Children.f k bt408.1 0).bind fun t414 => ((spec_l03Binary.f k bt408.1 t414).bind fun t417 => ((spec_l01Next.f s0_0 bt408.2.1 bt408.2.2 2).bind fun bt418 => (if bt418.1 = 0 then ((spec_l03Mirror.f k t417).bind fun t421 => (some (t421, bt418.2.1, bt418.2.2))) else (some (t417, bt418.2.1, bt418.2.2))))))) = some (r1, r2, r3) := h
  clear h
  obtain ⟨⟨t408, t411, t412⟩, A3, H⟩ := bo_ H
  dsimp only at H
  obtain ⟨t414, A4, H⟩ := bo_ H
  obtain ⟨t417, A5, H⟩ := bo_ H
  obtain ⟨⟨t418, t419, t420⟩, A6, H⟩ := bo_ H
  dsimp only at H
  by_cases c7 : t418 = 0
  · rw [if_pos c7] at H
    have c7b0 := beq_iff_eq.mpr c7
    have c7b1 := bne_eq_false_iff_eq.mpr c7
    clear c7
    obtain ⟨t421, A8, H⟩ := bo_ H
    simp only [Option.some.injEq, Prod.mk.injEq] at H
    obtain ⟨rfl, rfl, rfl⟩ := H
    go_enter Try.func62, Try.ntmps62
    try go_wp2_with (first | ((with_reducible refine gate_callee (f := 81) rfl ?_); refine gL_ 10 Try.func81 #[.pointer (some ⟨g, 0, none⟩), .int .i64 (wrap64 (a1 + 1))] ?_; (with_reducible refine (spec_l01DrawOf.calls k g s0_0 s0_1 s0_2 (wrap64 (a1 + 1)) t408 t411 t412 w0 _ ?side1 ?side2 A3.out).mono ?_); (case side1 => repeat (first | (with_reducible first | exact HI0.out | apply IsS77.alloc | apply IsS77.drewN | apply IsS77.drew | apply IsS77.set_1 | apply IsS77.set_2) | exact HI0.out)); (case side2 => repeat (first | (with_reducible first | exact HB.out | apply below_alloc | apply pw_below_drewN | apply below_drew1 | refine below_set ?_ (IsS77.ge HI0.out)) | exact HB.out)); rintro e w9 ⟨v409, rfl, ho0, hi, hb, hk⟩; refine ⟨_, rfl, ?_⟩; have HO410 := as_ (Kd.R_lower ho0 (keep_size (w := w) (g := g) (row := none) (ku_ HK))); replace HK := as_ (KeepBut.trans (ku_ HK) hk (.inl rfl)); replace HB := as_ (hb); replace HI0 := as_ (hi); clear hb hk hi ho0) | ((with_reducible refine gate_dst (N := 5) rfl ?_); refine bx_ 5 #[.slice none 0 0] 26 ?_; intro gb413 hg w10 hbox hb; replace HO410 := rb_ HO410 hb; replace HB := as_ (below_step (b1_ HB ⟨IsS77.ge HI0.out⟩) hb); have BK413 := as_ (hbox); have GW413 := as_ ((by rw [hg]; exact (keep_size (w := w) (g := g) (row := none) (ku_ HK)) : w.heap.size ≤ gb413)); have GE413 := as_ ((Nat.le_trans HW0.out (by rw [hg]; exact (keep_size (w := w) (g := g) (row := none) (ku_ HK)) : w.heap.size ≤ gb413) : w0.heap.size ≤ gb413)); replace HK := as_ (KeepBut.trans (ku_ HK) (KeepBut.of_below hb g none) (.inl rfl)); have NB0_413 := as_ ((by rw [hg]; exact Nat.ne_of_lt (IsS77.lt (show IsS77 w0 _ g s0_0 t411 t412 from hi77_ HI0)) : g ≠ gb413)); have NB413_0 := as_ ((by rw [hg]; exact Nat.ne_of_gt (IsS77.lt (show IsS77 w0 _ g s0_0 t411 t412 from hi77_ HI0)) : gb413 ≠ g)); replace HI0 := as_ (IsS77.below (hi77_ HI0) hb); clear hb hbox hg; obtain ⟨Ao11, co11, eo11⟩ := Kd.R_slice HO410.out; subst eo11; have hnb12 := NB413_0.out; have hnc12 := NB0_413.out; obtain ⟨hcz13_0, hfz13_0⟩ := tc1_ BK413))
    have n0_ : Aside0 (Kd.R (Kd.int .i64) 2 (w10.setCell ⟨gb413, 0, none⟩ (.slice Ao11 t408.length co11)) w.heap.size (fun _ => True) (.slice Ao11 t408.length co11) t408) := ⟨fR1_ HO410 BK413⟩; have n1_ : Aside0 ((w10.setCell ⟨gb413, 0, none⟩ (.slice Ao11 t408.length co11)).heap[gb413]? = some (.cells #[.slice Ao11 t408.length co11] 26 (0, 0))) := ⟨bp_ BK413⟩; have n2_ : Aside0 (IsS77 w0 (w10.setCell ⟨gb413, 0, none⟩ (.slice Ao11 t408.length co11)) g s0_0 t411 t412) := ⟨by repeat (first | (with_reducible first | exact HI0.out | apply IsS77.alloc | apply IsS77.drewN | apply IsS77.drew | apply IsS77.set_1 | apply IsS77.set_2 | refine IsS77.far ?_ NB0_413.out _) | exact HI0.out)⟩; have n3_ : Aside0 (KeepBut w (w10.setCell ⟨gb413, 0, none⟩ (.slice Ao11 t408.length co11)) g none) := ⟨by repeat (first | (with_reducible first | exact HK.out | apply KeepBut.set_ | apply keep_drewN | apply keep_drew | apply keep_alloc | refine keep_far ?_ GW413.out _) | exact HK.out)⟩; have n4_ : Aside0 (Below w0.heap.size w0 (w10.setCell ⟨gb413, 0, none⟩ (.slice Ao11 t408.length co11))) := ⟨b2_ HB ⟨IsS77.ge HI0.out⟩ GE413⟩
    (try clear HO410)
    (try clear BK413)
    (try clear HI0)
    (try clear HK)
    (try clear HB)
    generalize (w10.setCell ⟨gb413, 0, none⟩ (.slice Ao11 t408.length co11)) = w14 at n0_ n1_ n2_ n3_ n4_ ⊢
    have HO410 := n0_
    have BK413 := n1_
    have HI0 := n2_
    have HK := n3_
    have HB := n4_
    clear n0_ n1_ n2_ n3_ n4_
    have n0_ := dR_ HO410; have n1_ := dk_ BK413; have n2_ := as_ (IsS77.drew HI0.out); have n3_ := as_ (keep_drew HK.out); have n4_ := db_ HB; clear HO410 BK413; clear HI0 HK; clear HB; have HO410 := n0_; have BK413 := n1_
    have HI0 := n2_
    have HK := n3_
    have HB := n4_
    clear n0_ n1_ n2_ n3_ n4_
    refine start_ (n := 5) (S := fun w' => w'.cell? ⟨gb413, 0, none⟩ = some (.slice Ao11 t408.length co11)) (ds := []) #[false, false, false, false, false] (by kernel_rfl) rfl rfl ((blk_cell BK413.out 0).trans rfl) (fun hHeld => ?_)
    generalize w14.drew = w15 at HO410 BK413 HI0 HK HB hHeld ⊢
    refine take_ (i := 0) (N := some 11) (v := ?_) (a' := ?_) #[true, false, false, false, false] rfl rfl (by kernel_rfl) (fun _ _ _ h => h) (Or.inl ⟨by rfl, ?_⟩) hHeld ?_ ?_
    rotate_left
    · intro w' s0
      go_simp
      with_reducible rfl
    rotate_left
    · simp only [Act.put, List.setIfInBounds_toArray, List.set_cons_zero, List.set_cons_succ, i64_w, i32_w]
      rfl
    refine take_ (i := 1) (N := some 12) (v := ?_) (a' := ?_) #[true, true, false, false, false] rfl rfl (by kernel_rfl) (fun _ _ _ h => h) (Or.inl ⟨by rfl, ?_⟩) hHeld ?_ ?_
    rotate_left
    · intro w' s0
      go_simp
      with_reducible rfl
    rotate_left
    · simp only [Act.put, List.setIfInBounds_toArray, List.set_cons_zero, List.set_cons_succ, i64_w, i32_w]
      rfl
    refine one_ (i := 2) (N := some 13) #[true, true, true, false, false] rfl rfl (by kernel_rfl) (by decide) (fun K hK => ?_)
    refine gR_ Try.func43 #[.agg #[.slice Ao11 t408.length co11], .int .i64 0] ?_
    with_reducible refine (spec_l01Children.calls k _ _ t408 0 t414 _ ?side1 ?side2 A4.out).mono ?_
    (case side1 => exact cC_ (Kd.R_reads' HO410.out).2.2)
    (case side2 => exact (Kd.R_reads' HO410.out).2.1)
    rintro e w16 ⟨v415, rfl, ho0, hb⟩
    refine ⟨_, rfl, ?_⟩
    have n0_ := eR_ HO410 (Kd.R_base ho0) hb; have n1_ := as_ (Kd.R_lower (nRR_ ho0 HO410) (keep_size (w := w) (g := g) (row := none) (by repeat (first | (with_reducible first | exact HK.out | apply KeepBut.set_ | apply keep_drewN | apply keep_drew | apply keep_alloc | refine keep_far ?_ GW413.out _) | exact HK.out)))); have n2_ := as_ (IsS77.below (by repeat (first | (with_reducible first | exact HI0.out | apply IsS77.alloc | apply IsS77.drewN | apply IsS77.drew | apply IsS77.set_1 | apply IsS77.set_2 | refine IsS77.far ?_ NB0_413.out _) | exact HI0.out)) hb); have n3_ := kb_ BK413 hb; have n4_ := as_ (KeepBut.trans (by repeat (first | (with_reducible first | exact HK.out | apply KeepBut.set_ | apply keep_drewN | apply keep_drew | apply keep_alloc | refine keep_far ?_ GW413.out _) | exact HK.out)) (KeepBut.of_below hb g none) (.inl rfl)); have n5_ := as_ (below_step (b2_ HB ⟨IsS77.ge HI0.out⟩ GE413) hb); clear HO410 HI0; clear BK413 HK; clear HB; have HO410 := n0_; have HO416 := n1_
    have HI0 := n2_
    have BK413 := n3_
    have HK := n4_
    have HB := n5_
    clear n0_ n1_ n2_ n3_ n4_ n5_
    clear hb ho0
    obtain ⟨Ao17, co17, eo17⟩ := Kd.R_slice HO416.out
    (first | subst eo17 | (injection eo17 with f1_ f2_ f3_; have f4_ := f1_.symm; have f5_ := f3_.symm; clear f1_ f2_ f3_; subst f4_; subst f5_))
    refine hK.out _ _ ((blk_cell BK413.out 0).trans rfl) (fun hHeld => ?_)
    clear hK K
    refine nm_ 13 ?_
    refine one_ (i := 3) (N := some 14) #[true, true, true, true, false] rfl rfl (by kernel_rfl) (by decide) (fun K hK => ?_)
    refine gR_ Try.func42 #[.agg #[.slice Ao11 t408.length co11], .slice Ao17 t414.length co17] ?_
    with_reducible refine (spec_l03Binary.calls k _ _ t408 _ _ t414 t417 _ ?side1 ?side2 ?side3 ?side4 A5.out).mono ?_
    (case side1 => exact cC_ (Kd.R_reads' HO410.out).2.2)
    (case side2 => exact (Kd.R_reads' HO410.out).2.1)
    (case side3 => exact cC_ (Kd.R_reads' HO416.out).2.2)
    (case side4 => exact (Kd.R_reads' HO416.out).2.1)
    rintro e w18 ⟨rfl, hb⟩
    refine ⟨_, rfl, ?_⟩
    have n0_ := rb_ HO410 hb; have n1_ := rb_ HO416 hb; have n2_ := as_ (IsS77.below (by repeat (first | (with_reducible first | exact HI0.out | apply IsS77.alloc | apply IsS77.drewN | apply IsS77.drew | apply IsS77.set_1 | apply IsS77.set_2 | refine IsS77.far ?_ NB0_413.out _) | exact HI0.out)) hb); have n3_ := kb_ BK413 hb; have n4_ := as_ (KeepBut.trans (by repeat (first | (with_reducible first | exact HK.out | apply KeepBut.set_ | apply keep_drewN | apply keep_drew | apply keep_alloc | refine keep_far ?_ GW413.out _) | exact HK.out)) (KeepBut.of_below hb g none) (.inl rfl)); have n5_ := as_ (below_step (b2_ HB ⟨IsS77.ge HI0.out⟩ GE413) hb); clear HO410 HO416; clear HI0 BK413; clear HK HB; have HO410 := n0_; have HO416 := n1_
    have HI0 := n2_
    have BK413 := n3_
    have HK := n4_
    have HB := n5_
    clear n0_ n1_ n2_ n3_ n4_ n5_
    clear hb
    refine hK.out _ _ ((blk_cell BK413.out 0).trans rfl) (fun hHeld => ?_)
    clear hK K
    refine nm_ 14 ?_
    refine pure_ (i := 4) (N := some 6) (v := ?_) (a' := ?_) #[true, true, true, true, true] rfl rfl (by kernel_rfl) (fun _ _ _ h => h) (Or.inl ⟨by rfl, ?_⟩) ?_ ?_
    rotate_left
    · intro w'
      go_simp
      with_reducible rfl
    rotate_left
    · simp only [Act.put, List.setIfInBounds_toArray, List.set_cons_zero, List.set_cons_succ, i64_w, i32_w]
      rfl
    refine done_ (by kernel_rfl) ?_
    try go_wp2_with (first | ((with_reducible refine gate_callee (f := 63) rfl ?_); refine gL_ 16 Try.func63 #[.pointer (some ⟨g, 0, none⟩), .int .i64 2] ?_; (with_reducible refine (spec_l01Next.calls g s0_0 t411 t412 2 t418 t419 t420 w0 _ ?side1 ?side2 A6.out).mono ?_); (case side1 => repeat (first | (with_reducible first | exact HI0.out | apply IsS77.alloc | apply IsS77.drewN | apply IsS77.drew | apply IsS77.set_1 | apply IsS77.set_2 | refine IsS77.far ?_ NB0_413.out _) | exact HI0.out)); (case side2 => repeat (first | (with_reducible first | exact HB.out | apply below_alloc | apply pw_below_drewN | apply below_drew1 | refine below_set ?_ (IsS77.ge HI0.out) | refine below_set ?_ GE413.out) | exact HB.out)); rintro e w19 ⟨rfl, hi, hb, hk⟩; refine ⟨_, rfl, ?_⟩; replace HO410 := as_ (Kd.R_mono (Kd.R_keep (IsS77.apart (show IsS77 w0 _ g s0_0 t411 t412 from by repeat (first | (with_reducible first | exact HI0.out | apply IsS77.alloc | apply IsS77.drewN | apply IsS77.drew | apply IsS77.set_1 | apply IsS77.set_2 | refine IsS77.far ?_ NB0_413.out _) | exact HI0.out)) (bR_ HO410) (by decide)) hk (fun _ h => h.2)) (fun _ h => h.1)); replace BK413 := as_ (KeepBut.blk hk (g' := gb413) (o := .cells #[.slice Ao11 t408.length co11] 26 (0, 0)) (bk_ BK413) NB413_0.out (by simp)); replace HO416 := as_ (Kd.R_mono (Kd.R_keep (IsS77.apart (show IsS77 w0 _ g s0_0 t411 t412 from by repeat (first | (with_reducible first | exact HI0.out | apply IsS77.alloc | apply IsS77.drewN | apply IsS77.drew | apply IsS77.set_1 | apply IsS77.set_2 | refine IsS77.far ?_ NB0_413.out _) | exact HI0.out)) (bR_ HO416) (by decide)) hk (fun _ h => h.2)) (fun _ h => h.1)); replace HK := as_ (KeepBut.trans (by repeat (first | (with_reducible first | exact HK.out | apply KeepBut.set_ | apply keep_drewN | apply keep_drew | apply keep_alloc | refine keep_far ?_ GW413.out _) | exact HK.out)) hk (.inl rfl)); replace HB := as_ (hb); replace HI0 := as_ (hi); clear hb hk hi) | ((with_reducible refine gate_callee (f := 51) rfl ?_); refine gL_ 19 Try.func51 #[.string t417] ?_; (with_reducible refine (spec_l03Mirror.calls k t417 t421 _ A8.out).mono ?_); rintro e w' ⟨rfl, ⟨nd, rfl⟩⟩; refine ⟨_, rfl, ?_⟩))
    go_ret
    exact ⟨re_, by repeat (first | (with_reducible first | exact HI0.out | apply IsS77.alloc | apply IsS77.drewN | apply IsS77.drew | apply IsS77.set_1 | apply IsS77.set_2 | refine IsS77.far ?_ NB0_413.out _) | exact HI0.out), b2_ HB ⟨IsS77.ge HI0.out⟩ GE413, by repeat (first | (with_reducible first | exact HK.out | apply KeepBut.set_ | apply keep_drewN | apply keep_drew | apply keep_alloc | refine keep_far ?_ GW413.out _) | exact HK.out)⟩
  rw [if_neg c7] at H
  have c7b0 := beq_eq_false_iff_ne.mpr c7
  have c7b1 := bne_iff_ne.mpr c7
  simp only [Option.some.injEq, Prod.mk.injEq] at H
  obtain ⟨rfl, rfl, rfl⟩ := H
  go_enter Try.func62, Try.ntmps62
  try go_wp2_with (first | ((with_reducible refine gate_callee (f := 81) rfl ?_); refine gL_ 10 Try.func81 #[.pointer (some ⟨g, 0, none⟩), .int .i64 (wrap64 (a1 + 1))] ?_; (with_reducible refine (spec_l01DrawOf.calls k g s0_0 s0_1 s0_2 (wrap64 (a1 + 1)) t408 t411 t412 w0 _ ?side1 ?side2 A3.out).mono ?_); (case side1 => repeat (first | (with_reducible first | exact HI0.out | apply IsS77.alloc | apply IsS77.drewN | apply IsS77.drew | apply IsS77.set_1 | apply IsS77.set_2) | exact HI0.out)); (case side2 => repeat (first | (with_reducible first | exact HB.out | apply below_alloc | apply pw_below_drewN | apply below_drew1 | refine below_set ?_ (IsS77.ge HI0.out)) | exact HB.out)); rintro e w20 ⟨v409, rfl, ho0, hi, hb, hk⟩; refine ⟨_, rfl, ?_⟩; have HO410 := as_ (Kd.R_lower ho0 (keep_size (w := w) (g := g) (row := none) (ku_ HK))); replace HK := as_ (KeepBut.trans (ku_ HK) hk (.inl rfl)); replace HB := as_ (hb); replace HI0 := as_ (hi); clear hb hk hi ho0) | ((with_reducible refine gate_dst (N := 5) rfl ?_); refine bx_ 5 #[.slice none 0 0] 26 ?_; intro gb413 hg w21 hbox hb; replace HO410 := rb_ HO410 hb; replace HB := as_ (below_step (b1_ HB ⟨IsS77.ge HI0.out⟩) hb); have BK413 := as_ (hbox); have GW413 := as_ ((by rw [hg]; exact (keep_size (w := w) (g := g) (row := none) (ku_ HK)) : w.heap.size ≤ gb413)); have GE413 := as_ ((Nat.le_trans HW0.out (by rw [hg]; exact (keep_size (w := w) (g := g) (row := none) (ku_ HK)) : w.heap.size ≤ gb413) : w0.heap.size ≤ gb413)); replace HK := as_ (KeepBut.trans (ku_ HK) (KeepBut.of_below hb g none) (.inl rfl)); have NB0_413 := as_ ((by rw [hg]; exact Nat.ne_of_lt (IsS77.lt (show IsS77 w0 _ g s0_0 t411 t412 from hi77_ HI0)) : g ≠ gb413)); have NB413_0 := as_ ((by rw [hg]; exact Nat.ne_of_gt (IsS77.lt (show IsS77 w0 _ g s0_0 t411 t412 from hi77_ HI0)) : gb413 ≠ g)); replace HI0 := as_ (IsS77.below (hi77_ HI0) hb); clear hb hbox hg; obtain ⟨Ao22, co22, eo22⟩ := Kd.R_slice HO410.out; subst eo22; have hnb23 := NB413_0.out; have hnc23 := NB0_413.out; obtain ⟨hcz24_0, hfz24_0⟩ := tc1_ BK413))
  have n0_ : Aside0 (Kd.R (Kd.int .i64) 2 (w21.setCell ⟨gb413, 0, none⟩ (.slice Ao22 t408.length co22)) w.heap.size (fun _ => True) (.slice Ao22 t408.length co22) t408) := ⟨fR1_ HO410 BK413⟩; have n1_ : Aside0 ((w21.setCell ⟨gb413, 0, none⟩ (.slice Ao22 t408.length co22)).heap[gb413]? = some (.cells #[.slice Ao22 t408.length co22] 26 (0, 0))) := ⟨bp_ BK413⟩; have n2_ : Aside0 (IsS77 w0 (w21.setCell ⟨gb413, 0, none⟩ (.slice Ao22 t408.length co22)) g s0_0 t411 t412) := ⟨by repeat (first | (with_reducible first | exact HI0.out | apply IsS77.alloc | apply IsS77.drewN | apply IsS77.drew | apply IsS77.set_1 | apply IsS77.set_2 | refine IsS77.far ?_ NB0_413.out _) | exact HI0.out)⟩; have n3_ : Aside0 (KeepBut w (w21.setCell ⟨gb413, 0, none⟩ (.slice Ao22 t408.length co22)) g none) := ⟨by repeat (first | (with_reducible first | exact HK.out | apply KeepBut.set_ | apply keep_drewN | apply keep_drew | apply keep_alloc | refine keep_far ?_ GW413.out _) | exact HK.out)⟩; have n4_ : Aside0 (Below w0.heap.size w0 (w21.setCell ⟨gb413, 0, none⟩ (.slice Ao22 t408.length co22))) := ⟨b2_ HB ⟨IsS77.ge HI0.out⟩ GE413⟩
  (try clear HO410)
  (try clear BK413)
  (try clear HI0)
  (try clear HK)
  (try clear HB)
  generalize (w21.setCell ⟨gb413, 0, none⟩ (.slice Ao22 t408.length co22)) = w25 at n0_ n1_ n2_ n3_ n4_ ⊢
  have HO410 := n0_
  have BK413 := n1_
  have HI0 := n2_
  have HK := n3_
  have HB := n4_
  clear n0_ n1_ n2_ n3_ n4_
  have n0_ := dR_ HO410; have n1_ := dk_ BK413; have n2_ := as_ (IsS77.drew HI0.out); have n3_ := as_ (keep_drew HK.out); have n4_ := db_ HB; clear HO410 BK413; clear HI0 HK; clear HB; have HO410 := n0_; have BK413 := n1_
  have HI0 := n2_
  have HK := n3_
  have HB := n4_
  clear n0_ n1_ n2_ n3_ n4_
  refine start_ (n := 5) (S := fun w' => w'.cell? ⟨gb413, 0, none⟩ = some (.slice Ao22 t408.length co22)) (ds := []) #[false, false, false, false, false] (by kernel_rfl) rfl rfl ((blk_cell BK413.out 0).trans rfl) (fun hHeld => ?_)
  generalize w25.drew = w26 at HO410 BK413 HI0 HK HB hHeld ⊢
  refine take_ (i := 0) (N := some 11) (v := ?_) (a' := ?_) #[true, false, false, false, false] rfl rfl (by kernel_rfl) (fun _ _ _ h => h) (Or.inl ⟨by rfl, ?_⟩) hHeld ?_ ?_
  rotate_left
  · intro w' s0
    go_simp
    with_reducible rfl
  rotate_left
  · simp only [Act.put, List.setIfInBounds_toArray, List.set_cons_zero, List.set_cons_succ, i64_w, i32_w]
    rfl
  refine take_ (i := 1) (N := some 12) (v := ?_) (a' := ?_) #[true, true, false, false, false] rfl rfl (by kernel_rfl) (fun _ _ _ h => h) (Or.inl ⟨by rfl, ?_⟩) hHeld ?_ ?_
  rotate_left
  · intro w' s0
    go_simp
    with_reducible rfl
  rotate_left
  · simp only [Act.put, List.setIfInBounds_toArray, List.set_cons_zero, List.set_cons_succ, i64_w, i32_w]
    rfl
  refine one_ (i := 2) (N := some 13) #[true, true, true, false, false] rfl rfl (by kernel_rfl) (by decide) (fun K hK => ?_)
  refine gR_ Try.func43 #[.agg #[.slice Ao22 t408.length co22], .int .i64 0] ?_
  with_reducible refine (spec_l01Children.calls k _ _ t408 0 t414 _ ?side1 ?side2 A4.out).mono ?_
  (case side1 => exact cC_ (Kd.R_reads' HO410.out).2.2)
  (case side2 => exact (Kd.R_reads' HO410.out).2.1)
  rintro e w27 ⟨v415, rfl, ho0, hb⟩
  refine ⟨_, rfl, ?_⟩
  have n0_ := eR_ HO410 (Kd.R_base ho0) hb; have n1_ := as_ (Kd.R_lower (nRR_ ho0 HO410) (keep_size (w := w) (g := g) (row := none) (by repeat (first | (with_reducible first | exact HK.out | apply KeepBut.set_ | apply keep_drewN | apply keep_drew | apply keep_alloc | refine keep_far ?_ GW413.out _) | exact HK.out)))); have n2_ := as_ (IsS77.below (by repeat (first | (with_reducible first | exact HI0.out | apply IsS77.alloc | apply IsS77.drewN | apply IsS77.drew | apply IsS77.set_1 | apply IsS77.set_2 | refine IsS77.far ?_ NB0_413.out _) | exact HI0.out)) hb); have n3_ := kb_ BK413 hb; have n4_ := as_ (KeepBut.trans (by repeat (first | (with_reducible first | exact HK.out | apply KeepBut.set_ | apply keep_drewN | apply keep_drew | apply keep_alloc | refine keep_far ?_ GW413.out _) | exact HK.out)) (KeepBut.of_below hb g none) (.inl rfl)); have n5_ := as_ (below_step (b2_ HB ⟨IsS77.ge HI0.out⟩ GE413) hb); clear HO410 HI0; clear BK413 HK; clear HB; have HO410 := n0_; have HO416 := n1_
  have HI0 := n2_
  have BK413 := n3_
  have HK := n4_
  have HB := n5_
  clear n0_ n1_ n2_ n3_ n4_ n5_
  clear hb ho0
  obtain ⟨Ao28, co28, eo28⟩ := Kd.R_slice HO416.out
  (first | subst eo28 | (injection eo28 with f1_ f2_ f3_; have f4_ := f1_.symm; have f5_ := f3_.symm; clear f1_ f2_ f3_; subst f4_; subst f5_))
  refine hK.out _ _ ((blk_cell BK413.out 0).trans rfl) (fun hHeld => ?_)
  clear hK K
  refine nm_ 13 ?_
  refine one_ (i := 3) (N := some 14) #[true, true, true, true, false] rfl rfl (by kernel_rfl) (by decide) (fun K hK => ?_)
  refine gR_ Try.func42 #[.agg #[.slice Ao22 t408.length co22], .slice Ao28 t414.length co28] ?_
  with_reducible refine (spec_l03Binary.calls k _ _ t408 _ _ t414 t417 _ ?side1 ?side2 ?side3 ?side4 A5.out).mono ?_
  (case side1 => exact cC_ (Kd.R_reads' HO410.out).2.2)
  (case side2 => exact (Kd.R_reads' HO410.out).2.1)
  (case side3 => exact cC_ (Kd.R_reads' HO416.out).2.2)
  (case side4 => exact (Kd.R_reads' HO416.out).2.1)
  rintro e w29 ⟨rfl, hb⟩
  refine ⟨_, rfl, ?_⟩
  have n0_ := rb_ HO410 hb; have n1_ := rb_ HO416 hb; have n2_ := as_ (IsS77.below (by repeat (first | (with_reducible first | exact HI0.out | apply IsS77.alloc | apply IsS77.drewN | apply IsS77.drew | apply IsS77.set_1 | apply IsS77.set_2 | refine IsS77.far ?_ NB0_413.out _) | exact HI0.out)) hb); have n3_ := kb_ BK413 hb; have n4_ := as_ (KeepBut.trans (by repeat (first | (with_reducible first | exact HK.out | apply KeepBut.set_ | apply keep_drewN | apply keep_drew | apply keep_alloc | refine keep_far ?_ GW413.out _) | exact HK.out)) (KeepBut.of_below hb g none) (.inl rfl)); have n5_ := as_ (below_step (b2_ HB ⟨IsS77.ge HI0.out⟩ GE413) hb); clear HO410 HO416; clear HI0 BK413; clear HK HB; have HO410 := n0_; have HO416 := n1_
  have HI0 := n2_
  have BK413 := n3_
  have HK := n4_
  have HB := n5_
  clear n0_ n1_ n2_ n3_ n4_ n5_
  clear hb
  refine hK.out _ _ ((blk_cell BK413.out 0).trans rfl) (fun hHeld => ?_)
  clear hK K
  refine nm_ 14 ?_
  refine pure_ (i := 4) (N := some 6) (v := ?_) (a' := ?_) #[true, true, true, true, true] rfl rfl (by kernel_rfl) (fun _ _ _ h => h) (Or.inl ⟨by rfl, ?_⟩) ?_ ?_
  rotate_left
  · intro w'
    go_simp
    with_reducible rfl
  rotate_left
  · simp only [Act.put, List.setIfInBounds_toArray, List.set_cons_zero, List.set_cons_succ, i64_w, i32_w]
    rfl
  refine done_ (by kernel_rfl) ?_
  try go_wp2_with (first | ((with_reducible refine gate_callee (f := 63) rfl ?_); refine gL_ 16 Try.func63 #[.pointer (some ⟨g, 0, none⟩), .int .i64 2] ?_; (with_reducible refine (spec_l01Next.calls g s0_0 t411 t412 2 t418 t419 t420 w0 _ ?side1 ?side2 A6.out).mono ?_); (case side1 => repeat (first | (with_reducible first | exact HI0.out | apply IsS77.alloc | apply IsS77.drewN | apply IsS77.drew | apply IsS77.set_1 | apply IsS77.set_2 | refine IsS77.far ?_ NB0_413.out _) | exact HI0.out)); (case side2 => repeat (first | (with_reducible first | exact HB.out | apply below_alloc | apply pw_below_drewN | apply below_drew1 | refine below_set ?_ (IsS77.ge HI0.out) | refine below_set ?_ GE413.out) | exact HB.out)); rintro e w30 ⟨rfl, hi, hb, hk⟩; refine ⟨_, rfl, ?_⟩; replace HO410 := as_ (Kd.R_mono (Kd.R_keep (IsS77.apart (show IsS77 w0 _ g s0_0 t411 t412 from by repeat (first | (with_reducible first | exact HI0.out | apply IsS77.alloc | apply IsS77.drewN | apply IsS77.drew | apply IsS77.set_1 | apply IsS77.set_2 | refine IsS77.far ?_ NB0_413.out _) | exact HI0.out)) (bR_ HO410) (by decide)) hk (fun _ h => h.2)) (fun _ h => h.1)); replace BK413 := as_ (KeepBut.blk hk (g' := gb413) (o := .cells #[.slice Ao22 t408.length co22] 26 (0, 0)) (bk_ BK413) NB413_0.out (by simp)); replace HO416 := as_ (Kd.R_mono (Kd.R_keep (IsS77.apart (show IsS77 w0 _ g s0_0 t411 t412 from by repeat (first | (with_reducible first | exact HI0.out | apply IsS77.alloc | apply IsS77.drewN | apply IsS77.drew | apply IsS77.set_1 | apply IsS77.set_2 | refine IsS77.far ?_ NB0_413.out _) | exact HI0.out)) (bR_ HO416) (by decide)) hk (fun _ h => h.2)) (fun _ h => h.1)); replace HK := as_ (KeepBut.trans (by repeat (first | (with_reducible first | exact HK.out | apply KeepBut.set_ | apply keep_drewN | apply keep_drew | apply keep_alloc | refine keep_far ?_ GW413.out _) | exact HK.out)) hk (.inl rfl)); replace HB := as_ (hb); replace HI0 := as_ (hi); clear hb hk hi))
  go_ret
  exact ⟨re_, by repeat (first | (with_reducible first | exact HI0.out | apply IsS77.alloc | apply IsS77.drewN | apply IsS77.drew | apply IsS77.set_1 | apply IsS77.set_2 | refine IsS77.far ?_ NB0_413.out _) | exact HI0.out), b2_ HB ⟨IsS77.ge HI0.out⟩ GE413, by repeat (first | (with_reducible first | exact HK.out | apply KeepBut.set_ | apply keep_drewN | apply keep_drew | apply keep_alloc | refine keep_far ?_ GW413.out _) | exact HK.out)⟩

def spec_l03Draw.f (k : Nat) (s0_0 : List Int) (s0_1 : Int) (s0_2 : Int) : Option (ByteArray × Int × Int) := (spec_l01Pick.f s0_0 s0_1 s0_2 (([5, 9, 24] : List Int))).bind fun bt425 => ((spec_l01Next.f s0_0 bt425.2.1 bt425.2.2 bt425.1).bind fun bt428 => ((spec_l03DrawOf.f k s0_0 bt428.2.1 bt428.2.2 bt428.1).bind fun bt431 => (some (bt431.1, bt431.2.1, bt431.2.2))))
theorem spec_l03Draw.calls (k : Nat) (g : Nat) (s0_0 : List Int) (s0_1 : Int) (s0_2 : Int) (r1 : ByteArray) (r2 : Int) (r3 : Int) (w0 w : World) (hI : IsS77 w0 w g s0_0 s0_1 s0_2) (hB : Below w0.heap.size w0 w) (h : spec_l03Draw.f k s0_0 s0_1 s0_2 = some (r1, r2, r3)) :
    Calls Try.prog 67 #[.pointer (some ⟨g, 0, none⟩)] w fun e w' => e = .returned (.string r1) ∧ IsS77 w0 w' g s0_0 r2 r3 ∧ Below w0.heap.size w0 w' ∧ KeepBut w w' g none := by
  have HI0 := as_ hI
  have HK := as_ (KeepBut.refl w g none)
  have HL := as_ hB.size
  clear hI
  have HW0 := as_ hB.size
  have HB := as_ hB
  clear hB
  have H : ((spec_l01Pick.f s0_0 s0_1 s0_2 (([5, 9, 24] : List Int))).bind fun bt425 => ((spec_l01Next.f s0_0 bt425.2.1 bt425.2.2 bt425.1).bind fun bt428 => ((spec_l03DrawOf.f k s0_0 bt428.2.1 bt428.2.2 bt428.1).bind fun bt431 => (some (bt431.1, bt431.2.1, bt431.2.2))))) = some (r1, r2, r3) := h
  clear h
  obtain ⟨y422, hy422⟩ := ex_ (([5, 9, 24] : List Int) : List Int)
  replace H : ((spec_l01Pick.f s0_0 s0_1 s0_2 y422).bind fun bt425 => ((spec_l01Next.f s0_0 bt425.2.1 bt425.2.2 bt425.1).bind fun bt428 => ((spec_l03DrawOf.f k s0_0 bt428.2.1 bt428.2.2 bt428.1).bind fun bt431 => (some (bt431.1, bt431.2.1, bt431.2.2))))) = some (r1, r2, r3) := yr_ hy422 H
  have Ny422 := as_ hy422
  clear hy422
  obtain ⟨⟨t425, t426, t427⟩, A2, H⟩ := bo_ H
  dsimp only at H
  obtain ⟨⟨t428, t429, t430⟩, A3, H⟩ := bo_ H
  dsimp only at H
  obtain ⟨⟨t431, t432, t433⟩, A4, H⟩ := bo_ H
  dsimp only at H
  simp only [Option.some.injEq, Prod.mk.injEq] at H
  obtain ⟨rfl, rfl, rfl⟩ := H
  go_enter Try.func67, Try.ntmps67
  go_wp2_with (first | ((with_reducible refine gate_dst (N := 6) rfl ?_); refine Kd.R_lit (Kd.int .i64) _ 2 ?hg (N := 6) ?hd (xs := ([5, 9, 24] : List Int)) (inner := [.int .i64 5, .int .i64 9, .int .i64 24]) (ok := fun _ => True) (okp := fun _ => True) ?hr ?hp (fun _ hk => hk) trivial (Below.refl _ _) (Nat.le_refl _) (by simp) ?_; (case hd => rfl); (case hg => rfl); (case hr => first | (go_simp; done) | (go_simp; rfl)); (case hp => exact (Reps.one (show Kd.M (Kd.int .i64) _ _ _ 5 [.int .i64 5] from rfl) (Reps.one (show Kd.M (Kd.int .i64) _ _ _ 9 [.int .i64 9] from rfl) (Reps.one (show Kd.M (Kd.int .i64) _ _ _ 24 [.int .i64 24] from rfl) (Reps.none _ _))))); intro v423 w5 ho6 hb hg_ hnew_; clear hg_ hnew_; (first | rw [← Ny422.out] at ho6 | (simp only [Int.reduceToNat] at ho6; rw [← Ny422.out] at ho6)); have HO424 := as_ (Kd.R_lower ho6 (keep_size (w := w) (g := g) (row := none) (ku_ HK))); replace HK := as_ (KeepBut.trans (ku_ HK) (KeepBut.of_below hb g none) (.inl rfl)); replace HB := as_ (below_step (b1_ HB ⟨IsS77.ge HI0.out⟩) hb); replace HI0 := as_ (IsS77.below (hi77_ HI0) hb); clear hb ho6; obtain ⟨Ao7, co7, eo7⟩ := Kd.R_slice HO424.out; subst eo7) | ((with_reducible refine gate_callee (f := 64) rfl ?_); refine gL_ 7 Try.func64 #[.pointer (some ⟨g, 0, none⟩), .slice Ao7 y422.length co7] ?_; (with_reducible refine (spec_l01Pick.calls g s0_0 s0_1 s0_2 _ _ y422 t425 t426 t427 w0 _ ?side1 ?side2 ?side3 ?side4 ?side5 A2.out).mono ?_); (case side1 => repeat (first | (with_reducible first | exact HI0.out | apply IsS77.alloc | apply IsS77.drewN | apply IsS77.drew | apply IsS77.set_1 | apply IsS77.set_2) | exact HI0.out)); (case side2 => repeat (first | (with_reducible first | exact HB.out | apply below_alloc | apply pw_below_drewN | apply below_drew1 | refine below_set ?_ (IsS77.ge HI0.out)) | exact HB.out)); (case side3 => exact cC_ (Kd.R_reads' HO424.out).2.2); (case side4 => exact (Kd.R_reads' HO424.out).2.1); (case side5 => exact far_slice (IsS77.own_ne HI0.out HO424.out (by decide))); rintro e w8 ⟨rfl, hi, hb, hk⟩; refine ⟨_, rfl, ?_⟩; replace HO424 := as_ (Kd.R_mono (Kd.R_keep (IsS77.apart (show IsS77 w0 _ g s0_0 s0_1 s0_2 from hi77_ HI0) (bR_ HO424) (by decide)) hk (fun _ h => h.2)) (fun _ h => h.1)); replace HK := as_ (KeepBut.trans (ku_ HK) hk (.inl rfl)); replace HB := as_ (hb); replace HI0 := as_ (hi); clear hb hk hi) | ((with_reducible refine gate_callee (f := 63) rfl ?_); refine gL_ 8 Try.func63 #[.pointer (some ⟨g, 0, none⟩), .int .i64 t425] ?_; (with_reducible refine (spec_l01Next.calls g s0_0 t426 t427 t425 t428 t429 t430 w0 _ ?side1 ?side2 A3.out).mono ?_); (case side1 => repeat (first | (with_reducible first | exact HI0.out | apply IsS77.alloc | apply IsS77.drewN | apply IsS77.drew | apply IsS77.set_1 | apply IsS77.set_2) | exact HI0.out)); (case side2 => repeat (first | (with_reducible first | exact HB.out | apply below_alloc | apply pw_below_drewN | apply below_drew1 | refine below_set ?_ (IsS77.ge HI0.out)) | exact HB.out)); rintro e w9 ⟨rfl, hi, hb, hk⟩; refine ⟨_, rfl, ?_⟩; replace HO424 := as_ (Kd.R_mono (Kd.R_keep (IsS77.apart (show IsS77 w0 _ g s0_0 t426 t427 from hi77_ HI0) (bR_ HO424) (by decide)) hk (fun _ h => h.2)) (fun _ h => h.1)); replace HK := as_ (KeepBut.trans (ku_ HK) hk (.inl rfl)); replace HB := as_ (hb); replace HI0 := as_ (hi); clear hb hk hi) | ((with_reducible refine gate_callee (f := 62) rfl ?_); refine gL_ 9 Try.func62 #[.pointer (some ⟨g, 0, none⟩), .int .i64 t428] ?_; (with_reducible refine (spec_l03DrawOf.calls k g s0_0 t429 t430 t428 t431 t432 t433 w0 _ ?side1 ?side2 A4.out).mono ?_); (case side1 => repeat (first | (with_reducible first | exact HI0.out | apply IsS77.alloc | apply IsS77.drewN | apply IsS77.drew | apply IsS77.set_1 | apply IsS77.set_2) | exact HI0.out)); (case side2 => repeat (first | (with_reducible first | exact HB.out | apply below_alloc | apply pw_below_drewN | apply below_drew1 | refine below_set ?_ (IsS77.ge HI0.out)) | exact HB.out)); rintro e w10 ⟨rfl, hi, hb, hk⟩; refine ⟨_, rfl, ?_⟩; replace HO424 := as_ (Kd.R_mono (Kd.R_keep (IsS77.apart (show IsS77 w0 _ g s0_0 t429 t430 from hi77_ HI0) (bR_ HO424) (by decide)) hk (fun _ h => h.2)) (fun _ h => h.1)); replace HK := as_ (KeepBut.trans (ku_ HK) hk (.inl rfl)); replace HB := as_ (hb); replace HI0 := as_ (hi); clear hb hk hi))
  go_ret
  exact ⟨re_, hi77_ HI0, b1_ HB ⟨IsS77.ge HI0.out⟩, ku_ HK⟩

def spec_l03Spoil.f (k : Nat) (l0 : List Int) : Option (ByteArray) := (spec_l01From.f k l0).bind fun bt434 => ((spec_l03Draw.f k bt434.1 bt434.2.1 bt434.2.2).bind fun bt438 => ((spec_l03Bad.f bt434.1 bt438.2.1 bt438.2.2 bt438.1).bind fun bt441 => (some bt441.1)))
theorem spec_l03Spoil.calls (k : Nat) (A0 : Option Addr) (c0 : Nat) (l0 : List Int) (r : ByteArray) (w : World) (hr0 : Kd.C (Kd.int .u8) w A0 l0.length l0) (hc0 : l0.length ≤ c0) (h : spec_l03Spoil.f k l0 = some r) :
    Calls Try.prog 46 #[.slice A0 l0.length c0] w fun e w' => e = .returned (.string r) ∧ Below w.heap.size w w' := by
  have HR0 := as_ hr0
  have HC0 := as_ hc0
  clear hr0 hc0
  have HB := as_ (Below.refl w.heap.size w)
  have H : ((spec_l01From.f k l0).bind fun bt434 => ((spec_l03Draw.f k bt434.1 bt434.2.1 bt434.2.2).bind fun bt438 => ((spec_l03Bad.f bt434.1 bt438.2.1 bt438.2.2 bt438.1).bind fun bt441 => (some bt441.1)))) = some r := h
  clear h
  obtain ⟨⟨t434, t435, t436⟩, A2, H⟩ := bo_ H
  dsimp only at H
  obtain ⟨⟨t438, t439, t440⟩, A3, H⟩ := bo_ H
  dsimp only at H
  obtain ⟨⟨t441, t442, t443⟩, A4, H⟩ := bo_ H
  dsimp only at H
  obtain rfl := Option.some.inj H
  go_enter Try.func46, Try.ntmps46
  go_wp2_with (first | ((with_reducible refine gate_callee (f := 37) rfl ?_); refine gL_ 5 Try.func37 #[.slice A0 l0.length c0] ?_; (with_reducible refine (spec_l01From.calls k _ _ l0 t434 t435 t436 w _ ?side1 ?side2 ?side3 A2.out).mono ?_); (case side1 => repeat (first | (with_reducible first | exact HB.out | apply below_alloc | apply pw_below_drewN | apply below_drew1) | exact HB.out)); (case side2 => exact HR0.out); (case side3 => exact HC0.out); rintro e w5 ⟨g437, rfl, hi, hb, hb2⟩; refine ⟨_, rfl, ?_⟩; replace HB := as_ (hb); have HI437 := as_ (hi); clear hb hb2 hi) | ((with_reducible refine gate_callee (f := 67) rfl ?_); refine gL_ 8 Try.func67 #[.pointer (some ⟨g437, 0, none⟩)] ?_; (with_reducible refine (spec_l03Draw.calls k g437 t434 t435 t436 t438 t439 t440 w _ ?side1 ?side2 A3.out).mono ?_); (case side1 => repeat (first | (with_reducible first | exact HI437.out | apply IsS77.alloc | apply IsS77.drewN | apply IsS77.drew | apply IsS77.set_1 | apply IsS77.set_2) | exact HI437.out)); (case side2 => repeat (first | (with_reducible first | exact HB.out | apply below_alloc | apply pw_below_drewN | apply below_drew1 | refine below_set ?_ (IsS77.ge HI437.out)) | exact HB.out)); rintro e w6 ⟨rfl, hi, hb, hk⟩; refine ⟨_, rfl, ?_⟩; replace HB := as_ (hb); replace HI437 := as_ (hi); clear hb hk hi) | ((with_reducible refine gate_callee (f := 61) rfl ?_); refine gL_ 9 Try.func61 #[.pointer (some ⟨g437, 0, none⟩), .string t438] ?_; (with_reducible refine (spec_l03Bad.calls g437 t434 t439 t440 t438 t441 t442 t443 w _ ?side1 ?side2 A4.out).mono ?_); (case side1 => repeat (first | (with_reducible first | exact HI437.out | apply IsS77.alloc | apply IsS77.drewN | apply IsS77.drew | apply IsS77.set_1 | apply IsS77.set_2) | exact HI437.out)); (case side2 => repeat (first | (with_reducible first | exact HB.out | apply below_alloc | apply pw_below_drewN | apply below_drew1 | refine below_set ?_ (IsS77.ge HI437.out)) | exact HB.out)); rintro e w7 ⟨rfl, hi, hb, hk⟩; refine ⟨_, rfl, ?_⟩; replace HB := as_ (hb); replace HI437 := as_ (hi); clear hb hk hi))
  go_ret
  exact ⟨re_, b1_ HB ⟨IsS77.ge HI437.out⟩⟩

def spec_DrawVectorOf.f (k : Nat) (l0 : List Int) : Option (ByteArray) := (spec_l03Spoil.f k l0).bind fun t444 => (some t444)
theorem spec_DrawVectorOf.calls (k : Nat) (A0 : Option Addr) (c0 : Nat) (l0 : List Int) (r : ByteArray) (w : World) (hr0 : Kd.C (Kd.int .u8) w A0 l0.length l0) (hc0 : l0.length ≤ c0) (h : spec_DrawVectorOf.f k l0 = some r) :
    Calls Try.prog 11 #[.slice A0 l0.length c0] w fun e w' => e = .returned (.string r) ∧ Below w.heap.size w w' := by
  have HR0 := as_ hr0
  have HC0 := as_ hc0
  clear hr0 hc0
  have HB := as_ (Below.refl w.heap.size w)
  have H : ((spec_l03Spoil.f k l0).bind fun t444 => (some t444)) = some r := h
  clear h
  obtain ⟨t444, A2, H⟩ := bo_ H
  obtain rfl := Option.some.inj H
  go_enter Try.func11, Try.ntmps11
  go_wp2_with (first | ((with_reducible refine gate_callee (f := 46) rfl ?_); refine gL_ 4 Try.func46 #[.slice A0 l0.length c0] ?_; (with_reducible refine (spec_l03Spoil.calls k _ _ l0 t444 _ ?side1 ?side2 A2.out).mono ?_); (case side1 => exact cC_ HR0.out); (case side2 => exact HC0.out); rintro e w3 ⟨rfl, hb⟩; refine ⟨_, rfl, ?_⟩; replace HB := as_ (below_step (b_ HB) hb); clear hb))
  go_ret
  exact ⟨re_, b_ HB⟩

def impl_nodesOf.f (a0 : ByteArray) : Option (Int) := some (wrap64 ((a0.size : Int) / 2))
theorem impl_nodesOf.calls (a0 : ByteArray) (r : Int) (w : World) (h : impl_nodesOf.f a0 = some r) :
    Calls Try.prog 60 #[.string a0] w fun e w' => e = .returned (.int .i64 r) ∧ Drawn0 w w' := by
  have H : (some (wrap64 ((a0.size : Int) / 2))) = some r := h
  clear h
  obtain rfl := Option.some.inj H
  go_enter Try.func60, Try.ntmps60
  go_wp2
  go_ret
  exact ⟨rf_, d0_⟩

def impl_vector.f : Nat → ByteArray → Option (List Int)
  | 0, _ => none
  | k + 1, a0 => if a0.toList = ([48] : List UInt8) then (some ([] : List Int)) else ((impl_sides.f k a0).bind fun bt445 => ((impl_vector.f k bt445.1).bind fun t447 => ((impl_nodesOf.f bt445.2).bind fun t450 => ((impl_vector.f k bt445.2).bind fun t454 => ((slices_Concat_int64_int64.f k (([t447, (([t450] : List Int)), t454] : List (List Int)))).bind fun t460 => (some t460))))))
theorem impl_vector.calls (k : Nat) : ∀ (a0 : ByteArray) (r : List Int) (w : World) (h : impl_vector.f k a0 = some r),
    Calls Try.prog 47 #[.string a0] w fun e w' => ∃ v0_ : Value, e = .returned (v0_) ∧ Kd.R (Kd.int .i64) 2 w' w.heap.size (fun _ => True) v0_ r ∧ Below w.heap.size w w' := by
  induction k using Nat.strongRecOn with
  | _ k ih =>
  intro a0 r w h
  cases k with
  | zero => exact absurd h (by simp [impl_vector.f])
  | succ k =>
  simp only [impl_vector.f] at h
  have HB := as_ (Below.refl w.heap.size w)
  have H : (if a0.toList = ([48] : List UInt8) then (some ([] : List Int)) else ((impl_sides.f k a0).bind fun bt445 => ((impl_vector.f k bt445.1).bind fun t447 => ((impl_nodesOf.f bt445.2).bind fun t450 => ((impl_vector.f k bt445.2).bind fun t454 => ((slices_Concat_int64_int64.f k (([t447, (([t450] : List Int)), t454] : List (List Int)))).bind fun t460 => (some t460))))))) = some r := h
  clear h
  by_cases c2 : a0.toList = ([48] : List UInt8)
  · rw [if_pos c2] at H
    have c2b0 := beq_iff_eq.mpr c2
    have c2b1 := bne_eq_false_iff_eq.mpr c2
    clear c2
    obtain rfl := Option.some.inj H
    go_enter Try.func47, Try.ntmps47
    go_wp2
    go_ret
    exact ⟨_, re_, by first | exact Kd.R_nil _ _ _ _ _ | exact Kd.N_nil _ _ _ _ _ | exact Kd.V_nil _ _ _ _ _ | exact Kd.Q_nil _ _ _ _ _ | exact Kd.S_nil _ _ _ _ _, b_ HB⟩
  rw [if_neg c2] at H
  have c2b0 := beq_eq_false_iff_ne.mpr c2
  have c2b1 := bne_iff_ne.mpr c2
  obtain ⟨⟨t445, t446⟩, A3, H⟩ := bo_ H
  dsimp only at H
  obtain ⟨t447, A4, H⟩ := bo_ H
  obtain ⟨t450, A5, H⟩ := bo_ H
  obtain ⟨y451, hy451⟩ := ex_ (([t450] : List Int) : List Int)
  replace H : ((impl_vector.f k t446).bind fun t454 => ((slices_Concat_int64_int64.f k (([t447, y451, t454] : List (List Int)))).bind fun t460 => (some t460))) = some r := yr_ hy451 H
  have Ny451 := as_ hy451
  clear hy451
  obtain ⟨t454, A6, H⟩ := bo_ H
  obtain ⟨y457, hy457⟩ := ex_ (([t447, y451, t454] : List (List Int)) : List (List Int))
  replace H : ((slices_Concat_int64_int64.f k y457).bind fun t460 => (some t460)) = some r := yr_ hy457 H
  have Ny457 := as_ hy457
  clear hy457
  obtain ⟨t460, A7, H⟩ := bo_ H
  obtain rfl := Option.some.inj H
  go_enter Try.func47, Try.ntmps47
  go_wp2_with (first | ((with_reducible refine gate_callee (f := 58) rfl ?_); refine gL_ 9 Try.func58 #[.string a0] ?_; (with_reducible refine (impl_sides.calls k a0 t445 t446 _ A3.out).mono ?_); rintro e w' ⟨rfl, ⟨nd, rfl⟩⟩; refine ⟨_, rfl, ?_⟩) | ((with_reducible refine gate_callee (f := 47) rfl ?_); refine gL_ 13 Try.func47 #[.string t445] ?_; (with_reducible refine (ih k (by omega) t445 t447 _ A4.out).mono ?_); rintro e w8 ⟨v448, rfl, ho0, hb⟩; refine ⟨_, rfl, ?_⟩; have HO449 := as_ (Kd.R_lower ho0 (below_size (b_ HB))); replace HB := as_ (below_step (b_ HB) hb); clear hb ho0) | ((with_reducible refine gate_callee (f := 60) rfl ?_); refine gL_ 15 Try.func60 #[.string t446] ?_; (with_reducible refine (impl_nodesOf.calls t446 t450 _ A5.out).mono ?_); rintro e w' ⟨rfl, ⟨nd, rfl⟩⟩; refine ⟨_, rfl, ?_⟩) | ((with_reducible refine gate_dst (N := 16) rfl ?_); refine Kd.R_lit (Kd.int .i64) _ 2 ?hg (N := 16) ?hd (xs := ([t450] : List Int)) (inner := [.int .i64 t450]) (ok := fun _ => True) (okp := fun _ => True) ?hr ?hp (fun _ hk => hk) trivial (Below.refl _ _) (Nat.le_refl _) (by simp) ?_; (case hd => rfl); (case hg => rfl); (case hr => first | (go_simp; done) | (go_simp; rfl)); (case hp => exact (Reps.one (show Kd.M (Kd.int .i64) _ _ _ t450 [.int .i64 t450] from rfl) (Reps.none _ _))); intro v452 w9 ho10 hb hg_ hnew_; clear hg_ hnew_; (first | rw [← Ny451.out] at ho10 | (simp only [Int.reduceToNat] at ho10; rw [← Ny451.out] at ho10)); have HO453 := as_ (Kd.R_lower (nRR_ ho10 HO449) (below_size (b_ HB))); replace HO449 := eR_ HO449 (Kd.R_base ho10) hb; replace HB := as_ (below_step (b_ HB) hb); clear hb ho10) | ((with_reducible refine gate_callee (f := 47) rfl ?_); refine gL_ 18 Try.func47 #[.string t446] ?_; (with_reducible refine (ih k (by omega) t446 t454 _ A6.out).mono ?_); rintro e w11 ⟨v455, rfl, ho0, hb⟩; refine ⟨_, rfl, ?_⟩; have HO456 := as_ (Kd.R_lower (nRR_ (nRR_ ho0 HO449) HO453) (below_size (b_ HB))); replace HO449 := eR_ HO449 (Kd.R_base ho0) hb; replace HO453 := eR_ HO453 (Kd.R_base ho0) hb; replace HB := as_ (below_step (b_ HB) hb); clear hb ho0; obtain ⟨Ao12, co12, eo12⟩ := Kd.R_slice HO449.out; subst eo12; obtain ⟨Ao13, co13, eo13⟩ := Kd.R_slice HO453.out; subst eo13; obtain ⟨Ao14, co14, eo14⟩ := Kd.R_slice HO456.out; subst eo14) | ((with_reducible refine gate_dst (N := 19) rfl ?_); refine Kd.N_lit (Kd.slice 2 (Kd.int .i64)) _ 24 ?hg (N' := 19) ?hd (xs := ([t447, y451, t454] : List (List Int))) (inner := [.slice Ao12 t447.length co12, .slice Ao13 y451.length co13, .slice Ao14 t454.length co14]) (ok := (fun _ => True)) (okp := (fun _ => True)) ?hr ?hp (fun _ hk => hk) ((show ∀ k_, w11.heap.size ≤ k_ → (fun _ => True) k_ from fun k_ hk => trivial) _ (Nat.le_refl _)) (Below.refl _ _) (Nat.le_refl _) (by simp) ?_; (case hd => rfl); (case hg => rfl); (case hr => first | (go_simp; done) | (go_simp; rfl)); (case hp => exact (Reps.one (show Kd.FK (Kd.slice 2 (Kd.int .i64)) _ _ t447 [.slice Ao12 t447.length co12] from (Kd.FK_slice_mk (Kd.R_reads' (Kd.R_mono (ok' := (fun _ => True)) (HO449.out) (fun k_ hk => trivial))).2.1 (Kd.R_F (Kd.R_mono (ok' := (fun _ => True)) (HO449.out) (fun k_ hk => trivial))))) (Reps.one (show Kd.FK (Kd.slice 2 (Kd.int .i64)) _ _ y451 [.slice Ao13 y451.length co13] from (Kd.FK_slice_mk (Kd.R_reads' (Kd.R_mono (ok' := (fun _ => True)) (HO453.out) (fun k_ hk => trivial))).2.1 (Kd.R_F (Kd.R_mono (ok' := (fun _ => True)) (HO453.out) (fun k_ hk => trivial))))) (Reps.one (show Kd.FK (Kd.slice 2 (Kd.int .i64)) _ _ t454 [.slice Ao14 t454.length co14] from (Kd.FK_slice_mk (Kd.R_reads' (Kd.R_mono (ok' := (fun _ => True)) (HO456.out) (fun k_ hk => trivial))).2.1 (Kd.R_F (Kd.R_mono (ok' := (fun _ => True)) (HO456.out) (fun k_ hk => trivial))))) (Reps.none _ _))))); intro v458 w15 ho16 hb hg_ hnew_; clear hg_ hnew_; (first | rw [← Ny457.out] at ho16 | (simp only [Int.reduceToNat] at ho16; rw [← Ny457.out] at ho16)); have HO459 := as_ (Kd.N_lower ho16 (below_size (b_ HB))); replace HB := as_ (below_step (b_ HB) hb); clear HO449 HO453 HO456; clear hb ho16; obtain ⟨Ao17, co17, eo17⟩ := Kd.N_slice HO459.out; subst eo17) | ((with_reducible refine gate_callee (f := 78) rfl ?_); refine gL_ 20 Try.func78 #[.slice Ao17 y457.length co17] ?_; (with_reducible refine (slices_Concat_int64_int64.calls k _ _ y457 t460 _ ?side1 ?side2 A7.out).mono ?_); (case side1 => repeat (first | exact (Kd.N_reads' HO459.out).2.2 | (with_reducible refine Kd.C_alloc ?_ _) | (with_reducible refine Kd.C_drewN ?_ _) | (with_reducible refine Kd.C_drew ?_))); (case side2 => exact (Kd.N_reads' HO459.out).2.1); rintro e w18 ⟨v461, rfl, ho0, hb⟩; refine ⟨_, rfl, ?_⟩; replace HO459 := as_ (Kd.N_elder' (bN_ HO459) (Kd.R_base ho0) hb); have HO462 := as_ (Kd.R_lower ho0 (below_size (b_ HB))); replace HB := as_ (below_step (b_ HB) hb); clear hb ho0))
  go_ret
  exact ⟨_, re_, bR_ HO462, b_ HB⟩

def impl_VectorOf.f (k : Nat) (a0 : ByteArray) : Option (List Int × Int) := (impl_IsBinary.f k a0).bind fun t463 => (if t463 = true then ((impl_vector.f k a0).bind fun t464 => (some (t464, 0))) else (some (([] : List Int), 1)))
theorem impl_VectorOf.calls (k : Nat) (a0 : ByteArray) (r1 : List Int) (r2 : Int) (w : World) (h : impl_VectorOf.f k a0 = some (r1, r2)) :
    Calls Try.prog 12 #[.string a0] w fun e w' => ∃ v0_ : Value, e = .returned (.tuple #[v0_, .int .i64 r2]) ∧ Kd.R (Kd.int .i64) 2 w' w.heap.size (fun _ => True) v0_ r1 ∧ Below w.heap.size w w' := by
  have HB := as_ (Below.refl w.heap.size w)
  have H : ((impl_IsBinary.f k a0).bind fun t463 => (if t463 = true then ((impl_vector.f k a0).bind fun t464 => (some (t464, 0))) else (some (([] : List Int), 1)))) = some (r1, r2) := h
  clear h
  obtain ⟨t463, A2, H⟩ := bo_ H
  by_cases c3 : t463 = true
  · subst c3
    replace H := it_ H
    obtain ⟨t464, A4, H⟩ := bo_ H
    simp only [Option.some.injEq, Prod.mk.injEq] at H
    obtain ⟨rfl, rfl⟩ := H
    go_enter Try.func12, Try.ntmps12
    go_wp2_with (first | ((with_reducible refine gate_callee (f := 10) rfl ?_); refine gL_ 5 Try.func10 #[.string a0] ?_; (with_reducible refine (impl_IsBinary.calls k a0 true _ A2.out).mono ?_); rintro e w' ⟨rfl, ⟨nd, rfl⟩⟩; refine ⟨_, rfl, ?_⟩) | ((with_reducible refine gate_callee (f := 47) rfl ?_); refine gL_ 8 Try.func47 #[.string a0] ?_; (with_reducible refine (impl_vector.calls k a0 t464 _ A4.out).mono ?_); rintro e w5 ⟨v465, rfl, ho0, hb⟩; refine ⟨_, rfl, ?_⟩; have HO466 := as_ (Kd.R_lower ho0 (below_size (b_ HB))); replace HB := as_ (below_step (b_ HB) hb); clear hb ho0))
    go_ret2
    exact ⟨_, re_, bR_ HO466, b_ HB⟩
  replace c3 := Bool.eq_false_iff.mpr c3
  subst c3
  replace H := if_ H
  simp only [Option.some.injEq, Prod.mk.injEq] at H
  obtain ⟨rfl, rfl⟩ := H
  go_enter Try.func12, Try.ntmps12
  go_wp2_with (first | ((with_reducible refine gate_callee (f := 10) rfl ?_); refine gL_ 5 Try.func10 #[.string a0] ?_; (with_reducible refine (impl_IsBinary.calls k a0 false _ A2.out).mono ?_); rintro e w' ⟨rfl, ⟨nd, rfl⟩⟩; refine ⟨_, rfl, ?_⟩))
  go_ret2
  exact ⟨_, re_, by first | exact Kd.R_nil _ _ _ _ _ | exact Kd.N_nil _ _ _ _ _ | exact Kd.V_nil _ _ _ _ _ | exact Kd.Q_nil _ _ _ _ _ | exact Kd.S_nil _ _ _ _ _, b_ HB⟩

def spec_l03Is.f (k : Nat) (a0 : ByteArray) : Option (Bool) := if (a0.size : Int) ≤ 47 then ((spec_l03End.f k a0 0).bind fun t467 => (some (t467 == (a0.size : Int)))) else (some false)
theorem spec_l03Is.calls (k : Nat) (a0 : ByteArray) (r : Bool) (w : World) (h : spec_l03Is.f k a0 = some r) :
    Calls Try.prog 48 #[.string a0] w fun e w' => e = .returned (.bool r) ∧ Drawn0 w w' := by
  have H : (if (a0.size : Int) ≤ 47 then ((spec_l03End.f k a0 0).bind fun t467 => (some (t467 == (a0.size : Int)))) else (some false)) = some r := h
  clear h
  by_cases c2 : (a0.size : Int) ≤ 47
  · rw [if_pos c2] at H
    have c2b0 := decide_eq_true c2
    have c2b1 : decide (a0.size ≤ 47) = true := decide_eq_true (by omega)
    clear c2
    obtain ⟨t467, A3, H⟩ := bo_ H
    obtain rfl := Option.some.inj H
    go_enter Try.func48, Try.ntmps48
    go_wp2_with (first | (go_at_call 79; (with_reducible refine (spec_l03End.calls k a0 0 t467 _ A3.out).mono ?_); rintro e w' ⟨rfl, ⟨nd, rfl⟩⟩))
    go_ret
    exact ⟨rf_, d0_⟩
  rw [if_neg c2] at H
  have c2b0 := decide_eq_false c2
  have c2b1 : decide (a0.size ≤ 47) = false := decide_eq_false (by omega)
  clear c2
  obtain rfl := Option.some.inj H
  go_enter Try.func48, Try.ntmps48
  go_wp2
  go_ret
  exact ⟨rf_, d0_⟩

def spec_l03N.f (a0 : ByteArray) : Option (Int) := some (wrap64 ((a0.size : Int) / 2))
theorem spec_l03N.calls (a0 : ByteArray) (r : Int) (w : World) (h : spec_l03N.f a0 = some r) :
    Calls Try.prog 65 #[.string a0] w fun e w' => e = .returned (.int .i64 r) ∧ Drawn0 w w' := by
  have H : (some (wrap64 ((a0.size : Int) / 2))) = some r := h
  clear h
  obtain rfl := Option.some.inj H
  go_enter Try.func65, Try.ntmps65
  go_wp2
  go_ret
  exact ⟨rf_, d0_⟩

def spec_l03Vector.f : Nat → ByteArray → Option (List Int)
  | 0, _ => none
  | k + 1, a0 => if a0.toList = ([48] : List UInt8) then (some (([] : List Int))) else ((spec_l03Sides.f k a0).bind fun bt471 => ((spec_l03Vector.f k bt471.1).bind fun t473 => ((spec_l03N.f bt471.2).bind fun t476 => (if t473.length < 17592186044416 then ((some (t473 ++ [t476] : List Int)).bind fun y477 => ((spec_l03Vector.f k bt471.2).bind fun t480 => (if y477.length + t480.length < 17592186044416 then (some (y477 ++ t480)) else (none)))) else (none)))))
theorem spec_l03Vector.calls (k : Nat) : ∀ (a0 : ByteArray) (r : List Int) (w : World) (h : spec_l03Vector.f k a0 = some r),
    Calls Try.prog 49 #[.string a0] w fun e w' => ∃ v0_ : Value, e = .returned (v0_) ∧ Kd.R (Kd.int .i64) 2 w' w.heap.size (fun _ => True) v0_ r ∧ Below w.heap.size w w' := by
  induction k using Nat.strongRecOn with
  | _ k ih =>
  intro a0 r w h
  cases k with
  | zero => exact absurd h (by simp [spec_l03Vector.f])
  | succ k =>
  simp only [spec_l03Vector.f] at h
  have HB := as_ (Below.refl w.heap.size w)
  have H : (if a0.toList = ([48] : List UInt8) then (some (([] : List Int))) else ((spec_l03Sides.f k a0).bind fun bt471 => ((spec_l03Vector.f k bt471.1).bind fun t473 => ((spec_l03N.f bt471.2).bind fun t476 => (if t473.length < 17592186044416 then ((some (t473 ++ [t476] : List Int)).bind fun y477 => ((spec_l03Vector.f k bt471.2).bind fun t480 => (if y477.length + t480.length < 17592186044416 then (some (y477 ++ t480)) else (none)))) else (none)))))) = some r := h
  clear h
  by_cases c2 : a0.toList = ([48] : List UInt8)
  · rw [if_pos c2] at H
    have c2b0 := beq_iff_eq.mpr c2
    have c2b1 := bne_eq_false_iff_eq.mpr c2
    clear c2
    obtain ⟨y468, hy468⟩ := ex_ (([] : List Int) : List Int)
    replace H : (some y468) = some r := yr_ hy468 H
    have Ny468 := as_ hy468
    clear hy468
    obtain rfl := Option.some.inj H
    go_enter Try.func49, Try.ntmps49
    go_wp2_with (first | ((with_reducible refine gate_dst (N := 7) rfl ?_); refine Kd.R_lit (Kd.int .i64) _ 2 ?hg (N := 7) ?hd (xs := ([] : List Int)) (inner := []) (ok := fun _ => True) (okp := fun _ => True) ?hr ?hp (fun _ hk => hk) trivial (Below.refl _ _) (Nat.le_refl _) (by simp) ?_; (case hd => rfl); (case hg => rfl); (case hr => first | (go_simp; done) | (go_simp; rfl)); (case hp => exact (Reps.none _ _)); intro v469 w3 ho4 hb hg_ hnew_; clear hg_ hnew_; (first | rw [← Ny468.out] at ho4 | (simp only [Int.reduceToNat] at ho4; rw [← Ny468.out] at ho4)); have HO470 := as_ (Kd.R_lower ho4 (below_size (b_ HB))); replace HB := as_ (below_step (b_ HB) hb); clear hb ho4))
    go_ret
    exact ⟨_, re_, bR_ HO470, b_ HB⟩
  rw [if_neg c2] at H
  have c2b0 := beq_eq_false_iff_ne.mpr c2
  have c2b1 := bne_iff_ne.mpr c2
  obtain ⟨⟨t471, t472⟩, A5, H⟩ := bo_ H
  dsimp only at H
  obtain ⟨t473, A6, H⟩ := bo_ H
  obtain ⟨t476, A7, H⟩ := bo_ H
  obtain ⟨c8, H⟩ := ite_s H
  have LMc8 := as_ c8
  clear c8
  obtain ⟨y477, hy477⟩ := ex_ (t473 ++ [t476] : List Int)
  replace H : ((spec_l03Vector.f k t472).bind fun t480 => (if y477.length + t480.length < 17592186044416 then (some (y477 ++ t480)) else (none))) = some r := yr_ hy477 H
  have Ny477 := as_ hy477
  clear hy477
  obtain ⟨t480, A9, H⟩ := bo_ H
  obtain ⟨c10, H⟩ := ite_s H
  have LMc10 := as_ c10
  clear c10
  obtain ⟨y483, hy483⟩ := ex_ (y477 ++ t480 : List Int)
  replace H : (some y483) = some r := yr_ hy483 H
  have Ny483 := as_ hy483
  clear hy483
  obtain rfl := Option.some.inj H
  go_enter Try.func49, Try.ntmps49
  go_wp2_with (first | ((with_reducible refine gate_callee (f := 71) rfl ?_); refine gL_ 10 Try.func71 #[.string a0] ?_; (with_reducible refine (spec_l03Sides.calls k a0 t471 t472 _ A5.out).mono ?_); rintro e w' ⟨rfl, ⟨nd, rfl⟩⟩; refine ⟨_, rfl, ?_⟩) | ((with_reducible refine gate_callee (f := 49) rfl ?_); refine gL_ 14 Try.func49 #[.string t471] ?_; (with_reducible refine (ih k (by omega) t471 t473 _ A6.out).mono ?_); rintro e w11 ⟨v474, rfl, ho0, hb⟩; refine ⟨_, rfl, ?_⟩; have HO475 := as_ (Kd.R_lower ho0 (below_size (b_ HB))); replace HB := as_ (below_step (b_ HB) hb); clear hb ho0) | ((with_reducible refine gate_callee (f := 65) rfl ?_); refine gL_ 16 Try.func65 #[.string t472] ?_; (with_reducible refine (spec_l03N.calls t472 t476 _ A7.out).mono ?_); rintro e w' ⟨rfl, ⟨nd, rfl⟩⟩; refine ⟨_, rfl, ?_⟩) | ((with_reducible refine gate_builtin (b := .append) (xs := #[.tmp 14, .tmp 17]) rfl ?_); at_builtin; refine Kd.R_append (Kd.int .i64) (w0 := w) w.heap.size rfl (.tmp 14) (.tmp 17) 24 2 (.int .i64 0) 8 rfl Try.underlying24 info2 rfl (by decide) (by omega) v474 t473 t476 [.int .i64 t476] (fun _ => True) (fun _ => False) rfl rfl ?aP (fun _ hk => hk.elim) ?aF ?aO ?aB ?aS ?aL ?_; (case aP => exact rfl); (case aB => exact (b_ HB)); (case aF => exact (fun _ _ => trivial)); (case aO => exact (bR_ HO475)); (case aS => exact (below_size (b_ HB))); (case aL => have := LMc8.out; omega); intro v478 w12 ho hb hg hat; rw [← Ny477.out] at ho; replace HB := as_ (hb); have HO479 := as_ (ho); clear HO475; clear ho hb hg hat) | ((with_reducible refine gate_callee (f := 49) rfl ?_); refine gL_ 20 Try.func49 #[.string t472] ?_; (with_reducible refine (ih k (by omega) t472 t480 _ A9.out).mono ?_); rintro e w13 ⟨v481, rfl, ho0, hb⟩; refine ⟨_, rfl, ?_⟩; have HO482 := as_ (Kd.R_lower (nRR_ ho0 HO479) (below_size (b_ HB))); replace HO479 := eR_ HO479 (Kd.R_base ho0) hb; replace HB := as_ (below_step (b_ HB) hb); clear hb ho0; obtain ⟨Ao15, co15, eo15⟩ := Kd.R_slice HO482.out; subst eo15) | ((with_reducible refine gate_builtin (b := .append) (xs := #[.tmp 18, .tmp 20]) rfl ?_); at_builtin; refine Kd.R_append_rows (Kd.int .i64) (w0 := w) w.heap.size rfl (.tmp 18) (.tmp 20) 24 2 (.int .i64 0) 8 rfl Try.underlying24 info2 rfl (by decide) (by omega) v478 y477 t480 _ _ _ (fun k_ => some k_ ≠ (.slice Ao15 t480.length co15 : Value).ownBlock) (fun _ => False) rfl rfl ?aO ?aR (fun _ _ h => h) (fun _ h => h.elim) ?aF ?aB ?aS ?aL ?_; (case aR => exact cC_ (Kd.R_reads' HO482.out).2.2); (case aB => exact (b_ HB)); (case aF => exact (fun k_ hk => Kd.fresh' (Kd.R_lt (bR_ HO482)) k_ hk)); (case aO => exact (mR_ HO479)); (case aS => exact (below_size (b_ HB))); (case aL => have := LMc10.out; omega); intro v484 w14 ho hb hg hat; rw [← Ny483.out] at ho; replace HO482 := as_ (Kd.R_after (ok := (fun _ => True)) (bR_ HO482) hg hat); replace HB := as_ (hb); have HO485 := as_ (ho); clear HO479; clear ho hb hg hat))
  go_ret
  exact ⟨_, re_, mR_ HO485, b_ HB⟩

def spec_VectorOf.f (k : Nat) (a0 : ByteArray) : Option (List Int × Int) := (spec_l03Is.f k a0).bind fun t486 => (if t486 = true then ((spec_l03Vector.f k a0).bind fun t487 => (some (t487, 0))) else (some (([] : List Int), 1)))
theorem spec_VectorOf.calls (k : Nat) (a0 : ByteArray) (r1 : List Int) (r2 : Int) (w : World) (h : spec_VectorOf.f k a0 = some (r1, r2)) :
    Calls Try.prog 13 #[.string a0] w fun e w' => ∃ v0_ : Value, e = .returned (.tuple #[v0_, .int .i64 r2]) ∧ Kd.R (Kd.int .i64) 2 w' w.heap.size (fun _ => True) v0_ r1 ∧ Below w.heap.size w w' := by
  have HB := as_ (Below.refl w.heap.size w)
  have H : ((spec_l03Is.f k a0).bind fun t486 => (if t486 = true then ((spec_l03Vector.f k a0).bind fun t487 => (some (t487, 0))) else (some (([] : List Int), 1)))) = some (r1, r2) := h
  clear h
  obtain ⟨t486, A2, H⟩ := bo_ H
  by_cases c3 : t486 = true
  · subst c3
    replace H := it_ H
    obtain ⟨t487, A4, H⟩ := bo_ H
    simp only [Option.some.injEq, Prod.mk.injEq] at H
    obtain ⟨rfl, rfl⟩ := H
    go_enter Try.func13, Try.ntmps13
    go_wp2_with (first | ((with_reducible refine gate_callee (f := 48) rfl ?_); refine gL_ 5 Try.func48 #[.string a0] ?_; (with_reducible refine (spec_l03Is.calls k a0 true _ A2.out).mono ?_); rintro e w' ⟨rfl, ⟨nd, rfl⟩⟩; refine ⟨_, rfl, ?_⟩) | ((with_reducible refine gate_callee (f := 49) rfl ?_); refine gL_ 8 Try.func49 #[.string a0] ?_; (with_reducible refine (spec_l03Vector.calls k a0 t487 _ A4.out).mono ?_); rintro e w5 ⟨v488, rfl, ho0, hb⟩; refine ⟨_, rfl, ?_⟩; have HO489 := as_ (Kd.R_lower ho0 (below_size (b_ HB))); replace HB := as_ (below_step (b_ HB) hb); clear hb ho0))
    go_ret2
    exact ⟨_, re_, bR_ HO489, b_ HB⟩
  replace c3 := Bool.eq_false_iff.mpr c3
  subst c3
  replace H := if_ H
  simp only [Option.some.injEq, Prod.mk.injEq] at H
  obtain ⟨rfl, rfl⟩ := H
  go_enter Try.func13, Try.ntmps13
  go_wp2_with (first | ((with_reducible refine gate_callee (f := 48) rfl ?_); refine gL_ 5 Try.func48 #[.string a0] ?_; (with_reducible refine (spec_l03Is.calls k a0 false _ A2.out).mono ?_); rintro e w' ⟨rfl, ⟨nd, rfl⟩⟩; refine ⟨_, rfl, ?_⟩))
  go_ret2
  exact ⟨_, re_, by first | exact Kd.R_nil _ _ _ _ _ | exact Kd.N_nil _ _ _ _ _ | exact Kd.V_nil _ _ _ _ _ | exact Kd.Q_nil _ _ _ _ _ | exact Kd.S_nil _ _ _ _ _, b_ HB⟩

def impl_mirrorBinary.f : Nat → ByteArray → Option (ByteArray)
  | 0, _ => none
  | k + 1, a0 => if a0.toList = ([48] : List UInt8) then (some a0) else ((impl_sides.f k a0).bind fun bt490 => ((impl_mirrorBinary.f k bt490.2).bind fun t492 => (if 1 + t492.size ≤ 9223372036854775807 then ((impl_mirrorBinary.f k bt490.1).bind fun t493 => (if ((⟨#[49]⟩ : ByteArray) ++ t492).size + t493.size ≤ 9223372036854775807 then (some (((⟨#[49]⟩ : ByteArray) ++ t492) ++ t493)) else (none))) else (none))))
theorem impl_mirrorBinary.calls (k : Nat) : ∀ (a0 : ByteArray) (r : ByteArray) (w : World) (h : impl_mirrorBinary.f k a0 = some r),
    Calls Try.prog 50 #[.string a0] w fun e w' => e = .returned (.string r) ∧ Drawn0 w w' := by
  induction k using Nat.strongRecOn with
  | _ k ih =>
  intro a0 r w h
  cases k with
  | zero => exact absurd h (by simp [impl_mirrorBinary.f])
  | succ k =>
  simp only [impl_mirrorBinary.f] at h
  have H : (if a0.toList = ([48] : List UInt8) then (some a0) else ((impl_sides.f k a0).bind fun bt490 => ((impl_mirrorBinary.f k bt490.2).bind fun t492 => (if 1 + t492.size ≤ 9223372036854775807 then ((impl_mirrorBinary.f k bt490.1).bind fun t493 => (if ((⟨#[49]⟩ : ByteArray) ++ t492).size + t493.size ≤ 9223372036854775807 then (some (((⟨#[49]⟩ : ByteArray) ++ t492) ++ t493)) else (none))) else (none))))) = some r := h
  clear h
  by_cases c2 : a0.toList = ([48] : List UInt8)
  · rw [if_pos c2] at H
    have c2b0 := beq_iff_eq.mpr c2
    have c2b1 := bne_eq_false_iff_eq.mpr c2
    clear c2
    obtain rfl := Option.some.inj H
    go_enter Try.func50, Try.ntmps50
    go_wp2
    go_ret
    exact ⟨rf_, d0_⟩
  rw [if_neg c2] at H
  have c2b0 := beq_eq_false_iff_ne.mpr c2
  have c2b1 := bne_iff_ne.mpr c2
  obtain ⟨⟨t490, t491⟩, A3, H⟩ := bo_ H
  dsimp only at H
  obtain ⟨t492, A4, H⟩ := bo_ H
  obtain ⟨c5, H⟩ := ite_s H
  have c5b0 := eq_true c5
  have c5b1 := decide_eq_true c5
  try have c5b2 : (9223372036854775807 < 1 + t492.size) = False := eq_false (Nat.not_lt.2 c5)
  obtain ⟨t493, A6, H⟩ := bo_ H
  obtain ⟨c7, H⟩ := ite_s H
  have c7b0 := eq_true c7
  have c7b1 := decide_eq_true c7
  try have c7b2 : (9223372036854775807 < ((⟨#[49]⟩ : ByteArray) ++ t492).size + t493.size) = False := eq_false (Nat.not_lt.2 c7)
  try have c7b3 : (9223372036854775807 < 1 + t492.size + t493.size) = False := eq_false (by have z_ := c7; simp only [ByteArray.size_append, ByteArray.size_extract, decide_eq_true_eq, eq_iff_iff, iff_true, (show (⟨#[49]⟩ : ByteArray).size = 1 from rfl)] at *; first | omega | (simp at z_; omega))
  obtain rfl := Option.some.inj H
  go_enter Try.func50, Try.ntmps50
  go_wp2_with (first | ((with_reducible refine gate_callee (f := 58) rfl ?_); refine gL_ 10 Try.func58 #[.string a0] ?_; (with_reducible refine (impl_sides.calls k a0 t490 t491 _ A3.out).mono ?_); rintro e w' ⟨rfl, ⟨nd, rfl⟩⟩; refine ⟨_, rfl, ?_⟩) | ((with_reducible refine gate_callee (f := 50) rfl ?_); refine gL_ 14 Try.func50 #[.string t491] ?_; (with_reducible refine (ih k (by omega) t491 t492 _ A4.out).mono ?_); rintro e w' ⟨rfl, ⟨nd, rfl⟩⟩; refine ⟨_, rfl, ?_⟩) | ((with_reducible refine gate_callee (f := 50) rfl ?_); refine gL_ 17 Try.func50 #[.string t490] ?_; (with_reducible refine (ih k (by omega) t490 t493 _ A6.out).mono ?_); rintro e w' ⟨rfl, ⟨nd, rfl⟩⟩; refine ⟨_, rfl, ?_⟩))
  go_ret
  exact ⟨rf_, d0_⟩

def impl_MirrorBinary.f (k : Nat) (a0 : ByteArray) : Option (ByteArray × Int) := (impl_IsBinary.f k a0).bind fun t494 => (if t494 = true then ((impl_mirrorBinary.f k a0).bind fun t495 => (some (t495, 0))) else (some ((⟨#[]⟩ : ByteArray), 1)))
theorem impl_MirrorBinary.calls (k : Nat) (a0 : ByteArray) (r1 : ByteArray) (r2 : Int) (w : World) (h : impl_MirrorBinary.f k a0 = some (r1, r2)) :
    Calls Try.prog 14 #[.string a0] w fun e w' => e = .returned (.tuple #[.string r1, .int .i64 r2]) ∧ Drawn0 w w' := by
  have H : ((impl_IsBinary.f k a0).bind fun t494 => (if t494 = true then ((impl_mirrorBinary.f k a0).bind fun t495 => (some (t495, 0))) else (some ((⟨#[]⟩ : ByteArray), 1)))) = some (r1, r2) := h
  clear h
  obtain ⟨t494, A2, H⟩ := bo_ H
  by_cases c3 : t494 = true
  · subst c3
    replace H := it_ H
    obtain ⟨t495, A4, H⟩ := bo_ H
    simp only [Option.some.injEq, Prod.mk.injEq] at H
    obtain ⟨rfl, rfl⟩ := H
    go_enter Try.func14, Try.ntmps14
    go_wp2_with (first | ((with_reducible refine gate_callee (f := 10) rfl ?_); refine gL_ 5 Try.func10 #[.string a0] ?_; (with_reducible refine (impl_IsBinary.calls k a0 true _ A2.out).mono ?_); rintro e w' ⟨rfl, ⟨nd, rfl⟩⟩; refine ⟨_, rfl, ?_⟩) | ((with_reducible refine gate_callee (f := 50) rfl ?_); refine gL_ 8 Try.func50 #[.string a0] ?_; (with_reducible refine (impl_mirrorBinary.calls k a0 t495 _ A4.out).mono ?_); rintro e w' ⟨rfl, ⟨nd, rfl⟩⟩; refine ⟨_, rfl, ?_⟩))
    go_ret2
    exact ⟨rf_, d0_⟩
  replace c3 := Bool.eq_false_iff.mpr c3
  subst c3
  replace H := if_ H
  simp only [Option.some.injEq, Prod.mk.injEq] at H
  obtain ⟨rfl, rfl⟩ := H
  go_enter Try.func14, Try.ntmps14
  go_wp2_with (first | ((with_reducible refine gate_callee (f := 10) rfl ?_); refine gL_ 5 Try.func10 #[.string a0] ?_; (with_reducible refine (impl_IsBinary.calls k a0 false _ A2.out).mono ?_); rintro e w' ⟨rfl, ⟨nd, rfl⟩⟩; refine ⟨_, rfl, ?_⟩))
  go_ret2
  exact ⟨rf_, d0_⟩

def spec_MirrorBinary.f (k : Nat) (a0 : ByteArray) : Option (ByteArray × Int) := (spec_l03Is.f k a0).bind fun t496 => (if t496 = true then ((spec_l03Mirror.f k a0).bind fun t497 => (some (t497, 0))) else (some ((⟨#[]⟩ : ByteArray), 1)))
theorem spec_MirrorBinary.calls (k : Nat) (a0 : ByteArray) (r1 : ByteArray) (r2 : Int) (w : World) (h : spec_MirrorBinary.f k a0 = some (r1, r2)) :
    Calls Try.prog 15 #[.string a0] w fun e w' => e = .returned (.tuple #[.string r1, .int .i64 r2]) ∧ Drawn0 w w' := by
  have H : ((spec_l03Is.f k a0).bind fun t496 => (if t496 = true then ((spec_l03Mirror.f k a0).bind fun t497 => (some (t497, 0))) else (some ((⟨#[]⟩ : ByteArray), 1)))) = some (r1, r2) := h
  clear h
  obtain ⟨t496, A2, H⟩ := bo_ H
  by_cases c3 : t496 = true
  · subst c3
    replace H := it_ H
    obtain ⟨t497, A4, H⟩ := bo_ H
    simp only [Option.some.injEq, Prod.mk.injEq] at H
    obtain ⟨rfl, rfl⟩ := H
    go_enter Try.func15, Try.ntmps15
    go_wp2_with (first | ((with_reducible refine gate_callee (f := 48) rfl ?_); refine gL_ 5 Try.func48 #[.string a0] ?_; (with_reducible refine (spec_l03Is.calls k a0 true _ A2.out).mono ?_); rintro e w' ⟨rfl, ⟨nd, rfl⟩⟩; refine ⟨_, rfl, ?_⟩) | ((with_reducible refine gate_callee (f := 51) rfl ?_); refine gL_ 8 Try.func51 #[.string a0] ?_; (with_reducible refine (spec_l03Mirror.calls k a0 t497 _ A4.out).mono ?_); rintro e w' ⟨rfl, ⟨nd, rfl⟩⟩; refine ⟨_, rfl, ?_⟩))
    go_ret2
    exact ⟨rf_, d0_⟩
  replace c3 := Bool.eq_false_iff.mpr c3
  subst c3
  replace H := if_ H
  simp only [Option.some.injEq, Prod.mk.injEq] at H
  obtain ⟨rfl, rfl⟩ := H
  go_enter Try.func15, Try.ntmps15
  go_wp2_with (first | ((with_reducible refine gate_callee (f := 48) rfl ?_); refine gL_ 5 Try.func48 #[.string a0] ?_; (with_reducible refine (spec_l03Is.calls k a0 false _ A2.out).mono ?_); rintro e w' ⟨rfl, ⟨nd, rfl⟩⟩; refine ⟨_, rfl, ?_⟩))
  go_ret2
  exact ⟨rf_, d0_⟩

def impl_inner.f : Nat → ByteArray → Int → Option (List Int)
  | 0, _, _ => none
  | k + 1, a0, a1 => if a0.toList = ([48] : List UInt8) then (some ([] : List Int)) else ((impl_sides.f k a0).bind fun bt498 => ((impl_inner.f k bt498.1 (wrap64 (a1 + 1))).bind fun t500 => ((impl_nodesOf.f bt498.1).bind fun t506 => ((impl_inner.f k bt498.2 (wrap64 ((wrap64 (a1 + 1)) + t506))).bind fun t507 => ((slices_Concat_int64_int64.f k (([t500, (([a1] : List Int)), t507] : List (List Int)))).bind fun t513 => (some t513))))))
theorem impl_inner.calls (k : Nat) : ∀ (a0 : ByteArray) (a1 : Int) (r : List Int) (w : World) (h : impl_inner.f k a0 a1 = some r),
    Calls Try.prog 52 #[.string a0, .int .i64 a1] w fun e w' => ∃ v0_ : Value, e = .returned (v0_) ∧ Kd.R (Kd.int .i64) 2 w' w.heap.size (fun _ => True) v0_ r ∧ Below w.heap.size w w' := by
  induction k using Nat.strongRecOn with
  | _ k ih =>
  intro a0 a1 r w h
  cases k with
  | zero => exact absurd h (by simp [impl_inner.f])
  | succ k =>
  simp only [impl_inner.f] at h
  have HB := as_ (Below.refl w.heap.size w)
  have H : (if a0.toList = ([48] : List UInt8) then (some ([] : List Int)) else ((impl_sides.f k a0).bind fun bt498 => ((impl_inner.f k bt498.1 (wrap64 (a1 + 1))).bind fun t500 => ((impl_nodesOf.f bt498.1).bind fun t506 => ((impl_inner.f k bt498.2 (wrap64 ((wrap64 (a1 + 1)) + t506))).bind fun t507 => ((slices_Concat_int64_int64.f k (([t500, (([a1] : List Int)), t507] : List (List Int)))).bind fun t513 => (some t513))))))) = some r := h
  clear h
  by_cases c3 : a0.toList = ([48] : List UInt8)
  · rw [if_pos c3] at H
    have c3b0 := beq_iff_eq.mpr c3
    have c3b1 := bne_eq_false_iff_eq.mpr c3
    clear c3
    obtain rfl := Option.some.inj H
    go_enter Try.func52, Try.ntmps52
    go_wp2
    go_ret
    exact ⟨_, re_, by first | exact Kd.R_nil _ _ _ _ _ | exact Kd.N_nil _ _ _ _ _ | exact Kd.V_nil _ _ _ _ _ | exact Kd.Q_nil _ _ _ _ _ | exact Kd.S_nil _ _ _ _ _, b_ HB⟩
  rw [if_neg c3] at H
  have c3b0 := beq_eq_false_iff_ne.mpr c3
  have c3b1 := bne_iff_ne.mpr c3
  obtain ⟨⟨t498, t499⟩, A4, H⟩ := bo_ H
  dsimp only at H
  obtain ⟨t500, A5, H⟩ := bo_ H
  obtain ⟨y503, hy503⟩ := ex_ (([a1] : List Int) : List Int)
  replace H : ((impl_nodesOf.f t498).bind fun t506 => ((impl_inner.f k t499 (wrap64 ((wrap64 (a1 + 1)) + t506))).bind fun t507 => ((slices_Concat_int64_int64.f k (([t500, y503, t507] : List (List Int)))).bind fun t513 => (some t513)))) = some r := yr_ hy503 H
  have Ny503 := as_ hy503
  clear hy503
  obtain ⟨t506, A6, H⟩ := bo_ H
  obtain ⟨t507, A7, H⟩ := bo_ H
  obtain ⟨y510, hy510⟩ := ex_ (([t500, y503, t507] : List (List Int)) : List (List Int))
  replace H : ((slices_Concat_int64_int64.f k y510).bind fun t513 => (some t513)) = some r := yr_ hy510 H
  have Ny510 := as_ hy510
  clear hy510
  obtain ⟨t513, A8, H⟩ := bo_ H
  obtain rfl := Option.some.inj H
  go_enter Try.func52, Try.ntmps52
  go_wp2_with (first | ((with_reducible refine gate_callee (f := 58) rfl ?_); refine gL_ 11 Try.func58 #[.string a0] ?_; (with_reducible refine (impl_sides.calls k a0 t498 t499 _ A4.out).mono ?_); rintro e w' ⟨rfl, ⟨nd, rfl⟩⟩; refine ⟨_, rfl, ?_⟩) | ((with_reducible refine gate_callee (f := 52) rfl ?_); refine gL_ 17 Try.func52 #[.string t498, .int .i64 (wrap64 (a1 + 1))] ?_; (with_reducible refine (ih k (by omega) t498 (wrap64 (a1 + 1)) t500 _ A5.out).mono ?_); rintro e w9 ⟨v501, rfl, ho0, hb⟩; refine ⟨_, rfl, ?_⟩; have HO502 := as_ (Kd.R_lower ho0 (below_size (b_ HB))); replace HB := as_ (below_step (b_ HB) hb); clear hb ho0) | ((with_reducible refine gate_dst (N := 19) rfl ?_); refine Kd.R_lit (Kd.int .i64) _ 2 ?hg (N := 19) ?hd (xs := ([a1] : List Int)) (inner := [.int .i64 a1]) (ok := fun _ => True) (okp := fun _ => True) ?hr ?hp (fun _ hk => hk) trivial (Below.refl _ _) (Nat.le_refl _) (by simp) ?_; (case hd => rfl); (case hg => rfl); (case hr => first | (go_simp; done) | (go_simp; rfl)); (case hp => exact (Reps.one (show Kd.M (Kd.int .i64) _ _ _ a1 [.int .i64 a1] from rfl) (Reps.none _ _))); intro v504 w10 ho11 hb hg_ hnew_; clear hg_ hnew_; (first | rw [← Ny503.out] at ho11 | (simp only [Int.reduceToNat] at ho11; rw [← Ny503.out] at ho11)); have HO505 := as_ (Kd.R_lower (nRR_ ho11 HO502) (below_size (b_ HB))); replace HO502 := eR_ HO502 (Kd.R_base ho11) hb; replace HB := as_ (below_step (b_ HB) hb); clear hb ho11) | ((with_reducible refine gate_callee (f := 60) rfl ?_); refine gL_ 24 Try.func60 #[.string t498] ?_; (with_reducible refine (impl_nodesOf.calls t498 t506 _ A6.out).mono ?_); rintro e w' ⟨rfl, ⟨nd, rfl⟩⟩; refine ⟨_, rfl, ?_⟩) | ((with_reducible refine gate_callee (f := 52) rfl ?_); refine gL_ 26 Try.func52 #[.string t499, .int .i64 (wrap64 ((wrap64 (a1 + 1)) + t506))] ?_; (with_reducible refine (ih k (by omega) t499 (wrap64 ((wrap64 (a1 + 1)) + t506)) t507 _ A7.out).mono ?_); rintro e w12 ⟨v508, rfl, ho0, hb⟩; refine ⟨_, rfl, ?_⟩; have HO509 := as_ (Kd.R_lower (nRR_ (nRR_ ho0 HO502) HO505) (below_size (b_ HB))); replace HO502 := eR_ HO502 (Kd.R_base ho0) hb; replace HO505 := eR_ HO505 (Kd.R_base ho0) hb; replace HB := as_ (below_step (b_ HB) hb); clear hb ho0; obtain ⟨Ao13, co13, eo13⟩ := Kd.R_slice HO502.out; subst eo13; obtain ⟨Ao14, co14, eo14⟩ := Kd.R_slice HO505.out; subst eo14; obtain ⟨Ao15, co15, eo15⟩ := Kd.R_slice HO509.out; subst eo15) | ((with_reducible refine gate_dst (N := 27) rfl ?_); refine Kd.N_lit (Kd.slice 2 (Kd.int .i64)) _ 24 ?hg (N' := 27) ?hd (xs := ([t500, y503, t507] : List (List Int))) (inner := [.slice Ao13 t500.length co13, .slice Ao14 y503.length co14, .slice Ao15 t507.length co15]) (ok := (fun _ => True)) (okp := (fun _ => True)) ?hr ?hp (fun _ hk => hk) ((show ∀ k_, w12.heap.size ≤ k_ → (fun _ => True) k_ from fun k_ hk => trivial) _ (Nat.le_refl _)) (Below.refl _ _) (Nat.le_refl _) (by simp) ?_; (case hd => rfl); (case hg => rfl); (case hr => first | (go_simp; done) | (go_simp; rfl)); (case hp => exact (Reps.one (show Kd.FK (Kd.slice 2 (Kd.int .i64)) _ _ t500 [.slice Ao13 t500.length co13] from (Kd.FK_slice_mk (Kd.R_reads' (Kd.R_mono (ok' := (fun _ => True)) (HO502.out) (fun k_ hk => trivial))).2.1 (Kd.R_F (Kd.R_mono (ok' := (fun _ => True)) (HO502.out) (fun k_ hk => trivial))))) (Reps.one (show Kd.FK (Kd.slice 2 (Kd.int .i64)) _ _ y503 [.slice Ao14 y503.length co14] from (Kd.FK_slice_mk (Kd.R_reads' (Kd.R_mono (ok' := (fun _ => True)) (HO505.out) (fun k_ hk => trivial))).2.1 (Kd.R_F (Kd.R_mono (ok' := (fun _ => True)) (HO505.out) (fun k_ hk => trivial))))) (Reps.one (show Kd.FK (Kd.slice 2 (Kd.int .i64)) _ _ t507 [.slice Ao15 t507.length co15] from (Kd.FK_slice_mk (Kd.R_reads' (Kd.R_mono (ok' := (fun _ => True)) (HO509.out) (fun k_ hk => trivial))).2.1 (Kd.R_F (Kd.R_mono (ok' := (fun _ => True)) (HO509.out) (fun k_ hk => trivial))))) (Reps.none _ _))))); intro v511 w16 ho17 hb hg_ hnew_; clear hg_ hnew_; (first | rw [← Ny510.out] at ho17 | (simp only [Int.reduceToNat] at ho17; rw [← Ny510.out] at ho17)); have HO512 := as_ (Kd.N_lower ho17 (below_size (b_ HB))); replace HB := as_ (below_step (b_ HB) hb); clear HO502 HO505 HO509; clear hb ho17; obtain ⟨Ao18, co18, eo18⟩ := Kd.N_slice HO512.out; subst eo18) | ((with_reducible refine gate_callee (f := 78) rfl ?_); refine gL_ 28 Try.func78 #[.slice Ao18 y510.length co18] ?_; (with_reducible refine (slices_Concat_int64_int64.calls k _ _ y510 t513 _ ?side1 ?side2 A8.out).mono ?_); (case side1 => repeat (first | exact (Kd.N_reads' HO512.out).2.2 | (with_reducible refine Kd.C_alloc ?_ _) | (with_reducible refine Kd.C_drewN ?_ _) | (with_reducible refine Kd.C_drew ?_))); (case side2 => exact (Kd.N_reads' HO512.out).2.1); rintro e w19 ⟨v514, rfl, ho0, hb⟩; refine ⟨_, rfl, ?_⟩; replace HO512 := as_ (Kd.N_elder' (bN_ HO512) (Kd.R_base ho0) hb); have HO515 := as_ (Kd.R_lower ho0 (below_size (b_ HB))); replace HB := as_ (below_step (b_ HB) hb); clear hb ho0))
  go_ret
  exact ⟨_, re_, bR_ HO515, b_ HB⟩

def impl_InnerOrder.f (k : Nat) (a0 : ByteArray) : Option (List Int × Int) := (impl_IsBinary.f k a0).bind fun t516 => (if t516 = true then ((impl_inner.f k a0 0).bind fun t517 => (some (t517, 0))) else (some (([] : List Int), 1)))
theorem impl_InnerOrder.calls (k : Nat) (a0 : ByteArray) (r1 : List Int) (r2 : Int) (w : World) (h : impl_InnerOrder.f k a0 = some (r1, r2)) :
    Calls Try.prog 16 #[.string a0] w fun e w' => ∃ v0_ : Value, e = .returned (.tuple #[v0_, .int .i64 r2]) ∧ Kd.R (Kd.int .i64) 2 w' w.heap.size (fun _ => True) v0_ r1 ∧ Below w.heap.size w w' := by
  have HB := as_ (Below.refl w.heap.size w)
  have H : ((impl_IsBinary.f k a0).bind fun t516 => (if t516 = true then ((impl_inner.f k a0 0).bind fun t517 => (some (t517, 0))) else (some (([] : List Int), 1)))) = some (r1, r2) := h
  clear h
  obtain ⟨t516, A2, H⟩ := bo_ H
  by_cases c3 : t516 = true
  · subst c3
    replace H := it_ H
    obtain ⟨t517, A4, H⟩ := bo_ H
    simp only [Option.some.injEq, Prod.mk.injEq] at H
    obtain ⟨rfl, rfl⟩ := H
    go_enter Try.func16, Try.ntmps16
    go_wp2_with (first | ((with_reducible refine gate_callee (f := 10) rfl ?_); refine gL_ 5 Try.func10 #[.string a0] ?_; (with_reducible refine (impl_IsBinary.calls k a0 true _ A2.out).mono ?_); rintro e w' ⟨rfl, ⟨nd, rfl⟩⟩; refine ⟨_, rfl, ?_⟩) | ((with_reducible refine gate_callee (f := 52) rfl ?_); refine gL_ 8 Try.func52 #[.string a0, .int .i64 0] ?_; (with_reducible refine (impl_inner.calls k a0 0 t517 _ A4.out).mono ?_); rintro e w5 ⟨v518, rfl, ho0, hb⟩; refine ⟨_, rfl, ?_⟩; have HO519 := as_ (Kd.R_lower ho0 (below_size (b_ HB))); replace HB := as_ (below_step (b_ HB) hb); clear hb ho0))
    go_ret2
    exact ⟨_, re_, bR_ HO519, b_ HB⟩
  replace c3 := Bool.eq_false_iff.mpr c3
  subst c3
  replace H := if_ H
  simp only [Option.some.injEq, Prod.mk.injEq] at H
  obtain ⟨rfl, rfl⟩ := H
  go_enter Try.func16, Try.ntmps16
  go_wp2_with (first | ((with_reducible refine gate_callee (f := 10) rfl ?_); refine gL_ 5 Try.func10 #[.string a0] ?_; (with_reducible refine (impl_IsBinary.calls k a0 false _ A2.out).mono ?_); rintro e w' ⟨rfl, ⟨nd, rfl⟩⟩; refine ⟨_, rfl, ?_⟩))
  go_ret2
  exact ⟨_, re_, by first | exact Kd.R_nil _ _ _ _ _ | exact Kd.N_nil _ _ _ _ _ | exact Kd.V_nil _ _ _ _ _ | exact Kd.Q_nil _ _ _ _ _ | exact Kd.S_nil _ _ _ _ _, b_ HB⟩

def spec_l03Inner.f : Nat → ByteArray → Int → Option (List Int)
  | 0, _, _ => none
  | k + 1, a0, a1 => if a0.toList = ([48] : List UInt8) then (some (([] : List Int))) else ((spec_l03Sides.f k a0).bind fun bt523 => ((spec_l03Inner.f k bt523.1 (wrap64 (a1 + 1))).bind fun t525 => (if t525.length < 17592186044416 then ((some (t525 ++ [a1] : List Int)).bind fun y528 => ((spec_l03N.f bt523.1).bind fun t531 => ((spec_l03Inner.f k bt523.2 (wrap64 ((wrap64 (a1 + 1)) + t531))).bind fun t532 => (if y528.length + t532.length < 17592186044416 then (some (y528 ++ t532)) else (none))))) else (none))))
theorem spec_l03Inner.calls (k : Nat) : ∀ (a0 : ByteArray) (a1 : Int) (r : List Int) (w : World) (h : spec_l03Inner.f k a0 a1 = some r),
    Calls Try.prog 53 #[.string a0, .int .i64 a1] w fun e w' => ∃ v0_ : Value, e = .returned (v0_) ∧ Kd.R (Kd.int .i64) 2 w' w.heap.size (fun _ => True) v0_ r ∧ Below w.heap.size w w' := by
  induction k using Nat.strongRecOn with
  | _ k ih =>
  intro a0 a1 r w h
  cases k with
  | zero => exact absurd h (by simp [spec_l03Inner.f])
  | succ k =>
  simp only [spec_l03Inner.f] at h
  have HB := as_ (Below.refl w.heap.size w)
  have H : (if a0.toList = ([48] : List UInt8) then (some (([] : List Int))) else ((spec_l03Sides.f k a0).bind fun bt523 => ((spec_l03Inner.f k bt523.1 (wrap64 (a1 + 1))).bind fun t525 => (if t525.length < 17592186044416 then ((some (t525 ++ [a1] : List Int)).bind fun y528 => ((spec_l03N.f bt523.1).bind fun t531 => ((spec_l03Inner.f k bt523.2 (wrap64 ((wrap64 (a1 + 1)) + t531))).bind fun t532 => (if y528.length + t532.length < 17592186044416 then (some (y528 ++ t532)) else (none))))) else (none))))) = some r := h
  clear h
  by_cases c3 : a0.toList = ([48] : List UInt8)
  · rw [if_pos c3] at H
    have c3b0 := beq_iff_eq.mpr c3
    have c3b1 := bne_eq_false_iff_eq.mpr c3
    clear c3
    obtain ⟨y520, hy520⟩ := ex_ (([] : List Int) : List Int)
    replace H : (some y520) = some r := yr_ hy520 H
    have Ny520 := as_ hy520
    clear hy520
    obtain rfl := Option.some.inj H
    go_enter Try.func53, Try.ntmps53
    go_wp2_with (first | ((with_reducible refine gate_dst (N := 10) rfl ?_); refine Kd.R_lit (Kd.int .i64) _ 2 ?hg (N := 10) ?hd (xs := ([] : List Int)) (inner := []) (ok := fun _ => True) (okp := fun _ => True) ?hr ?hp (fun _ hk => hk) trivial (Below.refl _ _) (Nat.le_refl _) (by simp) ?_; (case hd => rfl); (case hg => rfl); (case hr => first | (go_simp; done) | (go_simp; rfl)); (case hp => exact (Reps.none _ _)); intro v521 w4 ho5 hb hg_ hnew_; clear hg_ hnew_; (first | rw [← Ny520.out] at ho5 | (simp only [Int.reduceToNat] at ho5; rw [← Ny520.out] at ho5)); have HO522 := as_ (Kd.R_lower ho5 (below_size (b_ HB))); replace HB := as_ (below_step (b_ HB) hb); clear hb ho5))
    go_ret
    exact ⟨_, re_, bR_ HO522, b_ HB⟩
  rw [if_neg c3] at H
  have c3b0 := beq_eq_false_iff_ne.mpr c3
  have c3b1 := bne_iff_ne.mpr c3
  obtain ⟨⟨t523, t524⟩, A6, H⟩ := bo_ H
  dsimp only at H
  obtain ⟨t525, A7, H⟩ := bo_ H
  obtain ⟨c8, H⟩ := ite_s H
  have LMc8 := as_ c8
  clear c8
  obtain ⟨y528, hy528⟩ := ex_ (t525 ++ [a1] : List Int)
  replace H : ((spec_l03N.f t523).bind fun t531 => ((spec_l03Inner.f k t524 (wrap64 ((wrap64 (a1 + 1)) + t531))).bind fun t532 => (if y528.length + t532.length < 17592186044416 then (some (y528 ++ t532)) else (none)))) = some r := yr_ hy528 H
  have Ny528 := as_ hy528
  clear hy528
  obtain ⟨t531, A9, H⟩ := bo_ H
  obtain ⟨t532, A10, H⟩ := bo_ H
  obtain ⟨c11, H⟩ := ite_s H
  have LMc11 := as_ c11
  clear c11
  obtain ⟨y535, hy535⟩ := ex_ (y528 ++ t532 : List Int)
  replace H : (some y535) = some r := yr_ hy535 H
  have Ny535 := as_ hy535
  clear hy535
  obtain rfl := Option.some.inj H
  go_enter Try.func53, Try.ntmps53
  go_wp2_with (first | ((with_reducible refine gate_callee (f := 71) rfl ?_); refine gL_ 13 Try.func71 #[.string a0] ?_; (with_reducible refine (spec_l03Sides.calls k a0 t523 t524 _ A6.out).mono ?_); rintro e w' ⟨rfl, ⟨nd, rfl⟩⟩; refine ⟨_, rfl, ?_⟩) | ((with_reducible refine gate_callee (f := 53) rfl ?_); refine gL_ 19 Try.func53 #[.string t523, .int .i64 (wrap64 (a1 + 1))] ?_; (with_reducible refine (ih k (by omega) t523 (wrap64 (a1 + 1)) t525 _ A7.out).mono ?_); rintro e w12 ⟨v526, rfl, ho0, hb⟩; refine ⟨_, rfl, ?_⟩; have HO527 := as_ (Kd.R_lower ho0 (below_size (b_ HB))); replace HB := as_ (below_step (b_ HB) hb); clear hb ho0) | ((with_reducible refine gate_builtin (b := .append) (xs := #[.tmp 19, .tmp 21]) rfl ?_); at_builtin; refine Kd.R_append (Kd.int .i64) (w0 := w) w.heap.size rfl (.tmp 19) (.tmp 21) 24 2 (.int .i64 0) 8 rfl Try.underlying24 info2 rfl (by decide) (by omega) v526 t525 a1 [.int .i64 a1] (fun _ => True) (fun _ => False) rfl rfl ?aP (fun _ hk => hk.elim) ?aF ?aO ?aB ?aS ?aL ?_; (case aP => exact rfl); (case aB => exact (b_ HB)); (case aF => exact (fun _ _ => trivial)); (case aO => exact (bR_ HO527)); (case aS => exact (below_size (b_ HB))); (case aL => have := LMc8.out; omega); intro v529 w13 ho hb hg hat; rw [← Ny528.out] at ho; replace HB := as_ (hb); have HO530 := as_ (ho); clear HO527; clear ho hb hg hat) | ((with_reducible refine gate_callee (f := 65) rfl ?_); refine gL_ 28 Try.func65 #[.string t523] ?_; (with_reducible refine (spec_l03N.calls t523 t531 _ A9.out).mono ?_); rintro e w' ⟨rfl, ⟨nd, rfl⟩⟩; refine ⟨_, rfl, ?_⟩) | ((with_reducible refine gate_callee (f := 53) rfl ?_); refine gL_ 30 Try.func53 #[.string t524, .int .i64 (wrap64 ((wrap64 (a1 + 1)) + t531))] ?_; (with_reducible refine (ih k (by omega) t524 (wrap64 ((wrap64 (a1 + 1)) + t531)) t532 _ A10.out).mono ?_); rintro e w14 ⟨v533, rfl, ho0, hb⟩; refine ⟨_, rfl, ?_⟩; have HO534 := as_ (Kd.R_lower (nRR_ ho0 HO530) (below_size (b_ HB))); replace HO530 := eR_ HO530 (Kd.R_base ho0) hb; replace HB := as_ (below_step (b_ HB) hb); clear hb ho0; obtain ⟨Ao16, co16, eo16⟩ := Kd.R_slice HO534.out; subst eo16) | ((with_reducible refine gate_builtin (b := .append) (xs := #[.tmp 23, .tmp 30]) rfl ?_); at_builtin; refine Kd.R_append_rows (Kd.int .i64) (w0 := w) w.heap.size rfl (.tmp 23) (.tmp 30) 24 2 (.int .i64 0) 8 rfl Try.underlying24 info2 rfl (by decide) (by omega) v529 y528 t532 _ _ _ (fun k_ => some k_ ≠ (.slice Ao16 t532.length co16 : Value).ownBlock) (fun _ => False) rfl rfl ?aO ?aR (fun _ _ h => h) (fun _ h => h.elim) ?aF ?aB ?aS ?aL ?_; (case aR => exact cC_ (Kd.R_reads' HO534.out).2.2); (case aB => exact (b_ HB)); (case aF => exact (fun k_ hk => Kd.fresh' (Kd.R_lt (bR_ HO534)) k_ hk)); (case aO => exact (mR_ HO530)); (case aS => exact (below_size (b_ HB))); (case aL => have := LMc11.out; omega); intro v536 w15 ho hb hg hat; rw [← Ny535.out] at ho; replace HO534 := as_ (Kd.R_after (ok := (fun _ => True)) (bR_ HO534) hg hat); replace HB := as_ (hb); have HO537 := as_ (ho); clear HO530; clear ho hb hg hat))
  go_ret
  exact ⟨_, re_, mR_ HO537, b_ HB⟩

def spec_InnerOrder.f (k : Nat) (a0 : ByteArray) : Option (List Int × Int) := (spec_l03Is.f k a0).bind fun t538 => (if t538 = true then ((spec_l03Inner.f k a0 0).bind fun t539 => (some (t539, 0))) else (some (([] : List Int), 1)))
theorem spec_InnerOrder.calls (k : Nat) (a0 : ByteArray) (r1 : List Int) (r2 : Int) (w : World) (h : spec_InnerOrder.f k a0 = some (r1, r2)) :
    Calls Try.prog 17 #[.string a0] w fun e w' => ∃ v0_ : Value, e = .returned (.tuple #[v0_, .int .i64 r2]) ∧ Kd.R (Kd.int .i64) 2 w' w.heap.size (fun _ => True) v0_ r1 ∧ Below w.heap.size w w' := by
  have HB := as_ (Below.refl w.heap.size w)
  have H : ((spec_l03Is.f k a0).bind fun t538 => (if t538 = true then ((spec_l03Inner.f k a0 0).bind fun t539 => (some (t539, 0))) else (some (([] : List Int), 1)))) = some (r1, r2) := h
  clear h
  obtain ⟨t538, A2, H⟩ := bo_ H
  by_cases c3 : t538 = true
  · subst c3
    replace H := it_ H
    obtain ⟨t539, A4, H⟩ := bo_ H
    simp only [Option.some.injEq, Prod.mk.injEq] at H
    obtain ⟨rfl, rfl⟩ := H
    go_enter Try.func17, Try.ntmps17
    go_wp2_with (first | ((with_reducible refine gate_callee (f := 48) rfl ?_); refine gL_ 5 Try.func48 #[.string a0] ?_; (with_reducible refine (spec_l03Is.calls k a0 true _ A2.out).mono ?_); rintro e w' ⟨rfl, ⟨nd, rfl⟩⟩; refine ⟨_, rfl, ?_⟩) | ((with_reducible refine gate_callee (f := 53) rfl ?_); refine gL_ 8 Try.func53 #[.string a0, .int .i64 0] ?_; (with_reducible refine (spec_l03Inner.calls k a0 0 t539 _ A4.out).mono ?_); rintro e w5 ⟨v540, rfl, ho0, hb⟩; refine ⟨_, rfl, ?_⟩; have HO541 := as_ (Kd.R_lower ho0 (below_size (b_ HB))); replace HB := as_ (below_step (b_ HB) hb); clear hb ho0))
    go_ret2
    exact ⟨_, re_, bR_ HO541, b_ HB⟩
  replace c3 := Bool.eq_false_iff.mpr c3
  subst c3
  replace H := if_ H
  simp only [Option.some.injEq, Prod.mk.injEq] at H
  obtain ⟨rfl, rfl⟩ := H
  go_enter Try.func17, Try.ntmps17
  go_wp2_with (first | ((with_reducible refine gate_callee (f := 48) rfl ?_); refine gL_ 5 Try.func48 #[.string a0] ?_; (with_reducible refine (spec_l03Is.calls k a0 false _ A2.out).mono ?_); rintro e w' ⟨rfl, ⟨nd, rfl⟩⟩; refine ⟨_, rfl, ?_⟩))
  go_ret2
  exact ⟨_, re_, by first | exact Kd.R_nil _ _ _ _ _ | exact Kd.N_nil _ _ _ _ _ | exact Kd.V_nil _ _ _ _ _ | exact Kd.Q_nil _ _ _ _ _ | exact Kd.S_nil _ _ _ _ _, b_ HB⟩

def impl_brackets.f : Nat → ByteArray → Int → Option (ByteArray)
  | 0, _, _ => none
  | k + 1, a0, a1 => if a0.toList = ([48] : List UInt8) then (some (Go.Utf8.encode (wrap32 (wrap64 (97 + a1))))) else ((impl_sides.f k a0).bind fun bt542 => ((impl_brackets.f k bt542.1 a1).bind fun t544 => (if 1 + t544.size ≤ 9223372036854775807 then ((impl_nodesOf.f bt542.1).bind fun t545 => ((impl_brackets.f k bt542.2 (wrap64 ((wrap64 (a1 + t545)) + 1))).bind fun t546 => (if ((⟨#[40]⟩ : ByteArray) ++ t544).size + t546.size ≤ 9223372036854775807 then (if (((⟨#[40]⟩ : ByteArray) ++ t544) ++ t546).size + 1 ≤ 9223372036854775807 then (some ((((⟨#[40]⟩ : ByteArray) ++ t544) ++ t546) ++ (⟨#[41]⟩ : ByteArray))) else (none)) else (none)))) else (none))))
theorem impl_brackets.calls (k : Nat) : ∀ (a0 : ByteArray) (a1 : Int) (r : ByteArray) (w : World) (h : impl_brackets.f k a0 a1 = some r),
    Calls Try.prog 54 #[.string a0, .int .i64 a1] w fun e w' => e = .returned (.string r) ∧ Drawn0 w w' := by
  induction k using Nat.strongRecOn with
  | _ k ih =>
  intro a0 a1 r w h
  cases k with
  | zero => exact absurd h (by simp [impl_brackets.f])
  | succ k =>
  simp only [impl_brackets.f] at h
  have H : (if a0.toList = ([48] : List UInt8) then (some (Go.Utf8.encode (wrap32 (wrap64 (97 + a1))))) else ((impl_sides.f k a0).bind fun bt542 => ((impl_brackets.f k bt542.1 a1).bind fun t544 => (if 1 + t544.size ≤ 9223372036854775807 then ((impl_nodesOf.f bt542.1).bind fun t545 => ((impl_brackets.f k bt542.2 (wrap64 ((wrap64 (a1 + t545)) + 1))).bind fun t546 => (if ((⟨#[40]⟩ : ByteArray) ++ t544).size + t546.size ≤ 9223372036854775807 then (if (((⟨#[40]⟩ : ByteArray) ++ t544) ++ t546).size + 1 ≤ 9223372036854775807 then (some ((((⟨#[40]⟩ : ByteArray) ++ t544) ++ t546) ++ (⟨#[41]⟩ : ByteArray))) else (none)) else (none)))) else (none))))) = some r := h
  clear h
  by_cases c3 : a0.toList = ([48] : List UInt8)
  · rw [if_pos c3] at H
    have c3b0 := beq_iff_eq.mpr c3
    have c3b1 := bne_eq_false_iff_eq.mpr c3
    clear c3
    obtain rfl := Option.some.inj H
    go_enter Try.func54, Try.ntmps54
    go_wp2
    go_ret
    exact ⟨rf_, d0_⟩
  rw [if_neg c3] at H
  have c3b0 := beq_eq_false_iff_ne.mpr c3
  have c3b1 := bne_iff_ne.mpr c3
  obtain ⟨⟨t542, t543⟩, A4, H⟩ := bo_ H
  dsimp only at H
  obtain ⟨t544, A5, H⟩ := bo_ H
  obtain ⟨c6, H⟩ := ite_s H
  have c6b0 := eq_true c6
  have c6b1 := decide_eq_true c6
  try have c6b2 : (9223372036854775807 < 1 + t544.size) = False := eq_false (Nat.not_lt.2 c6)
  obtain ⟨t545, A7, H⟩ := bo_ H
  obtain ⟨t546, A8, H⟩ := bo_ H
  obtain ⟨c9, H⟩ := ite_s H
  have c9b0 := eq_true c9
  have c9b1 := decide_eq_true c9
  try have c9b2 : (9223372036854775807 < ((⟨#[40]⟩ : ByteArray) ++ t544).size + t546.size) = False := eq_false (Nat.not_lt.2 c9)
  try have c9b3 : (9223372036854775807 < 1 + t544.size + t546.size) = False := eq_false (by have z_ := c9; simp only [ByteArray.size_append, ByteArray.size_extract, decide_eq_true_eq, eq_iff_iff, iff_true, (show (⟨#[40]⟩ : ByteArray).size = 1 from rfl)] at *; first | omega | (simp at z_; omega))
  obtain ⟨c10, H⟩ := ite_s H
  have c10b0 := eq_true c10
  have c10b1 := decide_eq_true c10
  try have c10b2 : (9223372036854775807 < (((⟨#[40]⟩ : ByteArray) ++ t544) ++ t546).size + 1) = False := eq_false (Nat.not_lt.2 c10)
  try have c10b3 : (9223372036854775807 < 1 + t544.size + t546.size + 1) = False := eq_false (by have z_ := c10; simp only [ByteArray.size_append, ByteArray.size_extract, decide_eq_true_eq, eq_iff_iff, iff_true, (show (⟨#[40]⟩ : ByteArray).size = 1 from rfl)] at *; first | omega | (simp at z_; omega))
  obtain rfl := Option.some.inj H
  go_enter Try.func54, Try.ntmps54
  go_wp2_with (first | ((with_reducible refine gate_callee (f := 58) rfl ?_); refine gL_ 15 Try.func58 #[.string a0] ?_; (with_reducible refine (impl_sides.calls k a0 t542 t543 _ A4.out).mono ?_); rintro e w' ⟨rfl, ⟨nd, rfl⟩⟩; refine ⟨_, rfl, ?_⟩) | ((with_reducible refine gate_callee (f := 54) rfl ?_); refine gL_ 20 Try.func54 #[.string t542, .int .i64 a1] ?_; (with_reducible refine (ih k (by omega) t542 a1 t544 _ A5.out).mono ?_); rintro e w' ⟨rfl, ⟨nd, rfl⟩⟩; refine ⟨_, rfl, ?_⟩) | ((with_reducible refine gate_callee (f := 60) rfl ?_); refine gL_ 25 Try.func60 #[.string t542] ?_; (with_reducible refine (impl_nodesOf.calls t542 t545 _ A7.out).mono ?_); rintro e w' ⟨rfl, ⟨nd, rfl⟩⟩; refine ⟨_, rfl, ?_⟩) | ((with_reducible refine gate_callee (f := 54) rfl ?_); refine gL_ 28 Try.func54 #[.string t543, .int .i64 (wrap64 ((wrap64 (a1 + t545)) + 1))] ?_; (with_reducible refine (ih k (by omega) t543 (wrap64 ((wrap64 (a1 + t545)) + 1)) t546 _ A8.out).mono ?_); rintro e w' ⟨rfl, ⟨nd, rfl⟩⟩; refine ⟨_, rfl, ?_⟩))
  go_ret
  exact ⟨rf_, d0_⟩

def impl_BracketsOf.f (k : Nat) (a0 : ByteArray) : Option (ByteArray × Int) := (impl_IsBinary.f k a0).bind fun t547 => (if t547 = true then ((impl_brackets.f k a0 0).bind fun t548 => (some (t548, 0))) else (some ((⟨#[]⟩ : ByteArray), 1)))
theorem impl_BracketsOf.calls (k : Nat) (a0 : ByteArray) (r1 : ByteArray) (r2 : Int) (w : World) (h : impl_BracketsOf.f k a0 = some (r1, r2)) :
    Calls Try.prog 18 #[.string a0] w fun e w' => e = .returned (.tuple #[.string r1, .int .i64 r2]) ∧ Drawn0 w w' := by
  have H : ((impl_IsBinary.f k a0).bind fun t547 => (if t547 = true then ((impl_brackets.f k a0 0).bind fun t548 => (some (t548, 0))) else (some ((⟨#[]⟩ : ByteArray), 1)))) = some (r1, r2) := h
  clear h
  obtain ⟨t547, A2, H⟩ := bo_ H
  by_cases c3 : t547 = true
  · subst c3
    replace H := it_ H
    obtain ⟨t548, A4, H⟩ := bo_ H
    simp only [Option.some.injEq, Prod.mk.injEq] at H
    obtain ⟨rfl, rfl⟩ := H
    go_enter Try.func18, Try.ntmps18
    go_wp2_with (first | ((with_reducible refine gate_callee (f := 10) rfl ?_); refine gL_ 5 Try.func10 #[.string a0] ?_; (with_reducible refine (impl_IsBinary.calls k a0 true _ A2.out).mono ?_); rintro e w' ⟨rfl, ⟨nd, rfl⟩⟩; refine ⟨_, rfl, ?_⟩) | ((with_reducible refine gate_callee (f := 54) rfl ?_); refine gL_ 8 Try.func54 #[.string a0, .int .i64 0] ?_; (with_reducible refine (impl_brackets.calls k a0 0 t548 _ A4.out).mono ?_); rintro e w' ⟨rfl, ⟨nd, rfl⟩⟩; refine ⟨_, rfl, ?_⟩))
    go_ret2
    exact ⟨rf_, d0_⟩
  replace c3 := Bool.eq_false_iff.mpr c3
  subst c3
  replace H := if_ H
  simp only [Option.some.injEq, Prod.mk.injEq] at H
  obtain ⟨rfl, rfl⟩ := H
  go_enter Try.func18, Try.ntmps18
  go_wp2_with (first | ((with_reducible refine gate_callee (f := 10) rfl ?_); refine gL_ 5 Try.func10 #[.string a0] ?_; (with_reducible refine (impl_IsBinary.calls k a0 false _ A2.out).mono ?_); rintro e w' ⟨rfl, ⟨nd, rfl⟩⟩; refine ⟨_, rfl, ?_⟩))
  go_ret2
  exact ⟨rf_, d0_⟩

def spec_l03Brackets.f : Nat → ByteArray → Int → Option (ByteArray)
  | 0, _, _ => none
  | k + 1, a0, a1 => if a0.toList = ([48] : List UInt8) then (some (strOfNums (([(wrap64 (97 + a1)) % 256] : List Int)))) else ((spec_l03Sides.f k a0).bind fun bt552 => ((spec_l03Brackets.f k bt552.1 a1).bind fun t554 => (if 1 + t554.size ≤ 9223372036854775807 then ((spec_l03N.f bt552.1).bind fun t555 => ((spec_l03Brackets.f k bt552.2 (wrap64 ((wrap64 (a1 + t555)) + 1))).bind fun t556 => (if ((⟨#[40]⟩ : ByteArray) ++ t554).size + t556.size ≤ 9223372036854775807 then (if (((⟨#[40]⟩ : ByteArray) ++ t554) ++ t556).size + 1 ≤ 9223372036854775807 then (some ((((⟨#[40]⟩ : ByteArray) ++ t554) ++ t556) ++ (⟨#[41]⟩ : ByteArray))) else (none)) else (none)))) else (none))))
theorem spec_l03Brackets.calls (k : Nat) : ∀ (a0 : ByteArray) (a1 : Int) (r : ByteArray) (w : World) (h : spec_l03Brackets.f k a0 a1 = some r),
    Calls Try.prog 55 #[.string a0, .int .i64 a1] w fun e w' => e = .returned (.string r) ∧ Below w.heap.size w w' := by
  induction k using Nat.strongRecOn with
  | _ k ih =>
  intro a0 a1 r w h
  cases k with
  | zero => exact absurd h (by simp [spec_l03Brackets.f])
  | succ k =>
  simp only [spec_l03Brackets.f] at h
  have HB := as_ (Below.refl w.heap.size w)
  have H : (if a0.toList = ([48] : List UInt8) then (some (strOfNums (([(wrap64 (97 + a1)) % 256] : List Int)))) else ((spec_l03Sides.f k a0).bind fun bt552 => ((spec_l03Brackets.f k bt552.1 a1).bind fun t554 => (if 1 + t554.size ≤ 9223372036854775807 then ((spec_l03N.f bt552.1).bind fun t555 => ((spec_l03Brackets.f k bt552.2 (wrap64 ((wrap64 (a1 + t555)) + 1))).bind fun t556 => (if ((⟨#[40]⟩ : ByteArray) ++ t554).size + t556.size ≤ 9223372036854775807 then (if (((⟨#[40]⟩ : ByteArray) ++ t554) ++ t556).size + 1 ≤ 9223372036854775807 then (some ((((⟨#[40]⟩ : ByteArray) ++ t554) ++ t556) ++ (⟨#[41]⟩ : ByteArray))) else (none)) else (none)))) else (none))))) = some r := h
  clear h
  by_cases c3 : a0.toList = ([48] : List UInt8)
  · rw [if_pos c3] at H
    have c3b0 := beq_iff_eq.mpr c3
    have c3b1 := bne_eq_false_iff_eq.mpr c3
    clear c3
    obtain ⟨y549, hy549⟩ := ex_ (([(wrap64 (97 + a1)) % 256] : List Int) : List Int)
    replace H : (some (strOfNums y549)) = some r := yr_ hy549 H
    have Ny549 := as_ hy549
    clear hy549
    obtain rfl := Option.some.inj H
    go_enter Try.func55, Try.ntmps55
    go_wp2_with (first | ((with_reducible refine gate_dst (N := 12) rfl ?_); refine Kd.R_lit (Kd.int .u8) _ 5 ?hg (N := 12) ?hd (xs := ([(wrap64 (97 + a1)) % 256] : List Int)) (inner := [.int .u8 ((wrap64 (97 + a1)) % 256)]) (ok := fun _ => True) (okp := fun _ => True) ?hr ?hp (fun _ hk => hk) trivial (Below.refl _ _) (Nat.le_refl _) (by simp) ?_; (case hd => rfl); (case hg => rfl); (case hr => first | (go_simp; done) | (go_simp; rfl)); (case hp => exact (Reps.one (show Kd.M (Kd.int .u8) _ _ _ ((wrap64 (97 + a1)) % 256) [.int .u8 ((wrap64 (97 + a1)) % 256)] from rfl) (Reps.none _ _))); intro v550 w4 ho5 hb hg_ hnew_; clear hg_ hnew_; (first | rw [← Ny549.out] at ho5 | (simp only [Int.reduceToNat] at ho5; rw [← Ny549.out] at ho5)); have HO551 := as_ (Kd.R_lower ho5 (below_size (b_ HB))); replace HB := as_ (below_step (b_ HB) hb); clear hb ho5; have hcv6 := own_string (P := Try.prog) Try.underlying22 Try.underlying5 Try.underlying9 (Kd.own_of_R HO551.out)))
    go_ret
    exact ⟨re_, b_ HB⟩
  rw [if_neg c3] at H
  have c3b0 := beq_eq_false_iff_ne.mpr c3
  have c3b1 := bne_iff_ne.mpr c3
  obtain ⟨⟨t552, t553⟩, A7, H⟩ := bo_ H
  dsimp only at H
  obtain ⟨t554, A8, H⟩ := bo_ H
  obtain ⟨c9, H⟩ := ite_s H
  have c9b0 := eq_true c9
  have c9b1 := decide_eq_true c9
  try have c9b2 : (9223372036854775807 < 1 + t554.size) = False := eq_false (Nat.not_lt.2 c9)
  obtain ⟨t555, A10, H⟩ := bo_ H
  obtain ⟨t556, A11, H⟩ := bo_ H
  obtain ⟨c12, H⟩ := ite_s H
  have c12b0 := eq_true c12
  have c12b1 := decide_eq_true c12
  try have c12b2 : (9223372036854775807 < ((⟨#[40]⟩ : ByteArray) ++ t554).size + t556.size) = False := eq_false (Nat.not_lt.2 c12)
  try have c12b3 : (9223372036854775807 < 1 + t554.size + t556.size) = False := eq_false (by have z_ := c12; simp only [ByteArray.size_append, ByteArray.size_extract, decide_eq_true_eq, eq_iff_iff, iff_true, (show (⟨#[40]⟩ : ByteArray).size = 1 from rfl)] at *; first | omega | (simp at z_; omega))
  obtain ⟨c13, H⟩ := ite_s H
  have c13b0 := eq_true c13
  have c13b1 := decide_eq_true c13
  try have c13b2 : (9223372036854775807 < (((⟨#[40]⟩ : ByteArray) ++ t554) ++ t556).size + 1) = False := eq_false (Nat.not_lt.2 c13)
  try have c13b3 : (9223372036854775807 < 1 + t554.size + t556.size + 1) = False := eq_false (by have z_ := c13; simp only [ByteArray.size_append, ByteArray.size_extract, decide_eq_true_eq, eq_iff_iff, iff_true, (show (⟨#[40]⟩ : ByteArray).size = 1 from rfl)] at *; first | omega | (simp at z_; omega))
  obtain rfl := Option.some.inj H
  go_enter Try.func55, Try.ntmps55
  go_wp2_with (first | ((with_reducible refine gate_callee (f := 71) rfl ?_); refine gL_ 16 Try.func71 #[.string a0] ?_; (with_reducible refine (spec_l03Sides.calls k a0 t552 t553 _ A7.out).mono ?_); rintro e w' ⟨rfl, ⟨nd, rfl⟩⟩; refine ⟨_, rfl, ?_⟩) | ((with_reducible refine gate_callee (f := 55) rfl ?_); refine gL_ 21 Try.func55 #[.string t552, .int .i64 a1] ?_; (with_reducible refine (ih k (by omega) t552 a1 t554 _ A8.out).mono ?_); rintro e w14 ⟨rfl, hb⟩; refine ⟨_, rfl, ?_⟩; replace HB := as_ (below_step (b_ HB) hb); clear hb) | ((with_reducible refine gate_callee (f := 65) rfl ?_); refine gL_ 26 Try.func65 #[.string t552] ?_; (with_reducible refine (spec_l03N.calls t552 t555 _ A10.out).mono ?_); rintro e w' ⟨rfl, ⟨nd, rfl⟩⟩; refine ⟨_, rfl, ?_⟩) | ((with_reducible refine gate_callee (f := 55) rfl ?_); refine gL_ 29 Try.func55 #[.string t553, .int .i64 (wrap64 ((wrap64 (a1 + t555)) + 1))] ?_; (with_reducible refine (ih k (by omega) t553 (wrap64 ((wrap64 (a1 + t555)) + 1)) t556 _ A11.out).mono ?_); rintro e w15 ⟨rfl, hb⟩; refine ⟨_, rfl, ?_⟩; replace HB := as_ (below_step (b_ HB) hb); clear hb))
  go_ret
  exact ⟨re_, b_ HB⟩

def spec_BracketsOf.f (k : Nat) (a0 : ByteArray) : Option (ByteArray × Int) := (spec_l03Is.f k a0).bind fun t557 => (if t557 = true then ((spec_l03Brackets.f k a0 0).bind fun t558 => (some (t558, 0))) else (some ((⟨#[]⟩ : ByteArray), 1)))
theorem spec_BracketsOf.calls (k : Nat) (a0 : ByteArray) (r1 : ByteArray) (r2 : Int) (w : World) (h : spec_BracketsOf.f k a0 = some (r1, r2)) :
    Calls Try.prog 19 #[.string a0] w fun e w' => e = .returned (.tuple #[.string r1, .int .i64 r2]) ∧ Below w.heap.size w w' := by
  have HB := as_ (Below.refl w.heap.size w)
  have H : ((spec_l03Is.f k a0).bind fun t557 => (if t557 = true then ((spec_l03Brackets.f k a0 0).bind fun t558 => (some (t558, 0))) else (some ((⟨#[]⟩ : ByteArray), 1)))) = some (r1, r2) := h
  clear h
  obtain ⟨t557, A2, H⟩ := bo_ H
  by_cases c3 : t557 = true
  · subst c3
    replace H := it_ H
    obtain ⟨t558, A4, H⟩ := bo_ H
    simp only [Option.some.injEq, Prod.mk.injEq] at H
    obtain ⟨rfl, rfl⟩ := H
    go_enter Try.func19, Try.ntmps19
    go_wp2_with (first | ((with_reducible refine gate_callee (f := 48) rfl ?_); refine gL_ 5 Try.func48 #[.string a0] ?_; (with_reducible refine (spec_l03Is.calls k a0 true _ A2.out).mono ?_); rintro e w' ⟨rfl, ⟨nd, rfl⟩⟩; refine ⟨_, rfl, ?_⟩) | ((with_reducible refine gate_callee (f := 55) rfl ?_); refine gL_ 8 Try.func55 #[.string a0, .int .i64 0] ?_; (with_reducible refine (spec_l03Brackets.calls k a0 0 t558 _ A4.out).mono ?_); rintro e w5 ⟨rfl, hb⟩; refine ⟨_, rfl, ?_⟩; replace HB := as_ (below_step (b_ HB) hb); clear hb))
    go_ret2
    exact ⟨re_, b_ HB⟩
  replace c3 := Bool.eq_false_iff.mpr c3
  subst c3
  replace H := if_ H
  simp only [Option.some.injEq, Prod.mk.injEq] at H
  obtain ⟨rfl, rfl⟩ := H
  go_enter Try.func19, Try.ntmps19
  go_wp2_with (first | ((with_reducible refine gate_callee (f := 48) rfl ?_); refine gL_ 5 Try.func48 #[.string a0] ?_; (with_reducible refine (spec_l03Is.calls k a0 false _ A2.out).mono ?_); rintro e w' ⟨rfl, ⟨nd, rfl⟩⟩; refine ⟨_, rfl, ?_⟩))
  go_ret2
  exact ⟨re_, b_ HB⟩

def spec_IsBinary.f (k : Nat) (a0 : ByteArray) : Option (Bool) := (spec_l03Is.f k a0).bind fun t559 => (some t559)
theorem spec_IsBinary.calls (k : Nat) (a0 : ByteArray) (r : Bool) (w : World) (h : spec_IsBinary.f k a0 = some r) :
    Calls Try.prog 21 #[.string a0] w fun e w' => e = .returned (.bool r) ∧ Drawn0 w w' := by
  have H : ((spec_l03Is.f k a0).bind fun t559 => (some t559)) = some r := h
  clear h
  obtain ⟨t559, A2, H⟩ := bo_ H
  obtain rfl := Option.some.inj H
  go_enter Try.func21, Try.ntmps21
  go_wp2_with (first | ((with_reducible refine gate_callee (f := 48) rfl ?_); refine gL_ 4 Try.func48 #[.string a0] ?_; (with_reducible refine (spec_l03Is.calls k a0 t559 _ A2.out).mono ?_); rintro e w' ⟨rfl, ⟨nd, rfl⟩⟩; refine ⟨_, rfl, ?_⟩))
  go_ret
  exact ⟨rf_, d0_⟩

mutual
def impl_binaryOfVector.l0 : Nat → List Int → List Int → Int → Int → Option (ByteArray × Bool)
  | 0, _, _, _, _ => none
  | k + 1, x0, x13, x14, x15 => if x15 < x14 then (if 0 ≤ x15 then (if x15 < (x13.length : Int) then (if (rd x13 x15) = (wrap64 ((wrap64 ((x0.length : Int) - 1)) - x15)) then (if x15 ≤ (x0.length : Int) then ((impl_binaryOfVector.f k (x0.take (x15 : Int).toNat)).bind fun bt562 => (if 0 ≤ (wrap64 (x15 + 1)) then (if (wrap64 (x15 + 1)) ≤ (x0.length : Int) then ((impl_binaryOfVector.f k (x0.drop ((wrap64 (x15 + 1)) : Int).toNat)).bind fun bt565 => (if 1 + bt562.1.size ≤ 9223372036854775807 then (if ((⟨#[49]⟩ : ByteArray) ++ bt562.1).size + bt565.1.size ≤ 9223372036854775807 then (if bt562.2 = true then (some (((⟨#[49]⟩ : ByteArray) ++ bt562.1) ++ bt565.1, bt565.2)) else (some (((⟨#[49]⟩ : ByteArray) ++ bt562.1) ++ bt565.1, false))) else (none)) else (none))) else (none)) else (none))) else (none)) else (impl_binaryOfVector.l0 k x0 x13 x14 (wrap64 (x15 + 1)))) else (none)) else (none)) else (some ((⟨#[]⟩ : ByteArray), false))
def impl_binaryOfVector.f : Nat → List Int → Option (ByteArray × Bool)
  | 0, _ => none
  | k + 1, l0 => if (l0.length : Int) = 0 then (some ((⟨#[48]⟩ : ByteArray), true)) else (impl_binaryOfVector.l0 k l0 l0 (l0.length : Int) 0)
end
theorem impl_binaryOfVector.calls (k : Nat) : ∀ (A0 : Option Addr) (c0 : Nat) (l0 : List Int) (r1 : ByteArray) (r2 : Bool) (w : World) (hr0 : Kd.C (Kd.int .i64) w A0 l0.length l0) (hc0 : l0.length ≤ c0) (h : impl_binaryOfVector.f k l0 = some (r1, r2)),
    Calls Try.prog 56 #[.slice A0 l0.length c0] w fun e w' => e = .returned (.tuple #[.string r1, .bool r2]) ∧ Drawn0 w w' := by
  induction k using Nat.strongRecOn with
  | _ k ih =>
  intro A0 c0 l0 r1 r2 w hr0 hc0 h
  cases k with
  | zero => exact absurd h (by simp [impl_binaryOfVector.f])
  | succ k =>
  simp only [impl_binaryOfVector.f] at h
  have HR0 := as_ hr0
  have HC0 := as_ hc0
  clear hr0 hc0
  have H : (if (l0.length : Int) = 0 then (some ((⟨#[48]⟩ : ByteArray), true)) else (impl_binaryOfVector.l0 k l0 l0 (l0.length : Int) 0)) = some (r1, r2) := h
  clear h
  by_cases c2 : (l0.length : Int) = 0
  · rw [if_pos c2] at H
    have c2b0 := beq_iff_eq.mpr c2
    have c2b1 := bne_eq_false_iff_eq.mpr c2
    clear c2
    simp only [Option.some.injEq, Prod.mk.injEq] at H
    obtain ⟨rfl, rfl⟩ := H
    go_enter Try.func56, Try.ntmps56
    go_wp2
    go_ret2
    exact ⟨rf_, d0_⟩
  rw [if_neg c2] at H
  have c2b0 := beq_eq_false_iff_ne.mpr c2
  have c2b1 := bne_iff_ne.mpr c2
  have c2b2 : ¬ (l0 = []) := fun h_ => c2 (by rw [h_]; rfl)
  have H' := as_ H
  clear H
  go_enter Try.func56, Try.ntmps56
  go_wp2
  go_loopg [15] k (fun kq v15 w' => ∃ (x15_1 : Int), v15 = .int .i64 x15_1 ∧ Aside0 (impl_binaryOfVector.l0 kq l0 l0 (l0.length : Int) x15_1 = some (r1, r2)) ∧ Aside0 (kq ≤ k) ∧ Drawn0 w w')
  case atStart => exact ⟨(0), rf_, H', ⟨Nat.le_refl _⟩, d0_⟩
  case round =>
    clear H'
    (try clear c2); (try clear c2b0); (try clear c2b1); (try clear c2b2); (try clear p2)
    obtain ⟨x15_1, rfl, HA, HK1, ⟨m1, rfl⟩⟩ := hrel
    cases gk with
    | zero => exact absurd HA.out (by simp [impl_binaryOfVector.l0])
    | succ k1 =>
      have H := HA.out
      clear HA
      simp only [impl_binaryOfVector.l0] at H
      by_cases c3 : x15_1 < (l0.length : Int)
      rotate_left
      · rw [if_neg c3] at H
        have c3b0 := decide_eq_false c3
        clear c3
        simp only [Option.some.injEq, Prod.mk.injEq] at H
        obtain ⟨rfl, rfl⟩ := H
        go_wp2
        go_ret2
        exact ⟨rf_, d0_⟩
      rw [if_pos c3] at H
      have c3b0 := decide_eq_true c3
      clear c3
      obtain ⟨c4b0, H⟩ := ite_d H
      obtain ⟨c5b0, H⟩ := ite_d H
      by_cases c6 : (rd l0 x15_1) = (wrap64 ((wrap64 ((l0.length : Int) - 1)) - x15_1))
      rotate_left
      · rw [if_neg c6] at H
        have c6b0 := beq_eq_false_iff_ne.mpr c6
        have c6b1 := bne_iff_ne.mpr c6
        have H' := as_ H
        clear H
        have p560 : 0 ≤ (x15_1 : Int) := od_
        have q560 : x15_1 < (l0.length : Int) := od_
        obtain ⟨ad560, e560, hx560_0⟩ := Kd.at_int HR0.out x15_1 p560 q560
        cases e560
        replace p560 := eq_true p560
        replace q560 := eq_true q560
        go_wp2
        go_roundg k1
        case measure => have := HK1.out; omega
        case rel => exact ⟨(wrap64 (x15_1 + 1)), rf_, H', om_ HK1, d0_⟩
      rw [if_pos c6] at H
      have c6b0 := beq_iff_eq.mpr c6
      have c6b1 := bne_eq_false_iff_eq.mpr c6
      clear c6
      have c7b0 := eq_true (od_ : 0 ≤ x15_1)
      obtain ⟨c8, H⟩ := ite_s H
      have c8b0 := eq_true c8
      have c8b1 := decide_eq_true c8
      clear c8
      obtain ⟨⟨t562, t563⟩, A9, H⟩ := bo_ H
      dsimp only at H
      obtain ⟨ji10, hji10⟩ : ∃ j_ : Int, (wrap64 (x15_1 + 1)) = j_ := ⟨_, rfl⟩
      replace H : (if 0 ≤ (ji10) then (if (ji10) ≤ (l0.length : Int) then ((impl_binaryOfVector.f k1 (l0.drop ((ji10) : Int).toNat)).bind fun bt565 => (if 1 + t562.size ≤ 9223372036854775807 then (if ((⟨#[49]⟩ : ByteArray) ++ t562).size + bt565.1.size ≤ 9223372036854775807 then (if t563 = true then (some (((⟨#[49]⟩ : ByteArray) ++ t562) ++ bt565.1, bt565.2)) else (some (((⟨#[49]⟩ : ByteArray) ++ t562) ++ bt565.1, false))) else (none)) else (none))) else (none)) else (none)) = some (r1, r2) := by first | (rw [hji10] at H; exact H) | (simp only [hji10] at H ⊢; exact H)
      (try rw [hji10] at A9)
      have hji10w : (IntKind.i64.wrap (x15_1 + 1)) = ji10 := (i64_w _).trans hji10
      obtain ⟨c11, H⟩ := ite_s H
      have c11b0 := eq_true c11
      have c11b1 := decide_eq_true c11
      clear c11
      obtain ⟨c12, H⟩ := ite_s H
      have c12b0 := eq_true c12
      have c12b1 := decide_eq_true c12
      clear c12
      obtain ⟨⟨t565, t566⟩, A13, H⟩ := bo_ H
      dsimp only at H
      obtain ⟨c14, H⟩ := ite_s H
      have c14b0 := eq_true c14
      have c14b1 := decide_eq_true c14
      try have c14b2 : (9223372036854775807 < 1 + t562.size) = False := eq_false (Nat.not_lt.2 c14)
      obtain ⟨c15, H⟩ := ite_s H
      have c15b0 := eq_true c15
      have c15b1 := decide_eq_true c15
      try have c15b2 : (9223372036854775807 < ((⟨#[49]⟩ : ByteArray) ++ t562).size + t565.size) = False := eq_false (Nat.not_lt.2 c15)
      try have c15b3 : (9223372036854775807 < 1 + t562.size + t565.size) = False := eq_false (by have z_ := c15; simp only [ByteArray.size_append, ByteArray.size_extract, decide_eq_true_eq, eq_iff_iff, iff_true, (show (⟨#[49]⟩ : ByteArray).size = 1 from rfl)] at *; first | omega | (simp at z_; omega))
      by_cases c16 : t563 = true
      · subst c16
        replace H := it_ H
        simp only [Option.some.injEq, Prod.mk.injEq] at H
        obtain ⟨rfl, rfl⟩ := H
        have p560 : 0 ≤ (x15_1 : Int) := od_
        have q560 : x15_1 < (l0.length : Int) := od_
        obtain ⟨ad560, e560, hx560_0⟩ := Kd.at_int HR0.out x15_1 p560 q560
        cases e560
        replace p560 := eq_true p560
        replace q560 := eq_true q560
        obtain ⟨i017, hi017, _, hsz17, _⟩ := info_parts info2
        obtain ⟨hcut17, hA17, hC17⟩ := print_take_of (P := Try.prog) (Value.int .i64) 0 24 2 .i64 Try.underlying24 hi017 hsz17 (some ad560) c0 l0 x15_1 (od_) (od_) HC0.out
        have HR561 := as_ (Kd.C_of_reads (h1 := fun _ => rfl) (hA17 _ (Kd.reads_of_C HR0.out)))
        have HC561 := as_ hC17
        clear hA17 hC17 hi017 hsz17
        go_wp2_with (first | ((with_reducible refine gate_callee (f := 56) rfl ?_); refine gL_ 31 Try.func56 #[.slice (some ad560) (l0.take (x15_1 : Int).toNat).length c0] ?_ (hargs := (by (try simp only [List.map_toArray, List.map_cons, List.map_nil]); first | done | (rw [show (l0.take (x15_1 : Int).toNat).length = x15_1.toNat from (by rw [List.length_take]; have h_ : (x15_1 : Int) ≤ (l0.length : Int) := od_; omega)] <;> rfl) | rfl | (simp only [List.length_drop, List.length_take]; rfl))); (with_reducible refine (ih k1 (by have := HK1.out; omega) _ _ (l0.take (x15_1 : Int).toNat) t562 true _ ?side1 ?side2 A9.out).mono ?_); (case side1 => exact cC_ HR561.out); (case side2 => exact HC561.out); rintro e w' ⟨rfl, ⟨nd, rfl⟩⟩; refine ⟨_, rfl, ?_⟩; obtain ⟨i018, hi018, _, hsz18, _⟩ := info_parts info2; obtain ⟨A18, hcut18, hA18, hC18⟩ := print_drop_of (P := Try.prog) (Value.int .i64) 0 24 2 .i64 Try.underlying24 hi018 hsz18 (some ad560) c0 l0 (ji10) (od_) (od_) HC0.out; have HR564 := as_ (Kd.C_of_reads (h1 := fun _ => rfl) (hA18 _ (Kd.reads_of_C HR0.out))); have HC564 := as_ hC18; clear hA18 hC18 hi018 hsz18) | ((with_reducible refine gate_callee (f := 56) rfl ?_); refine gL_ 39 Try.func56 #[.slice A18 (l0.drop ((ji10) : Int).toNat).length (c0 - (ji10).toNat)] ?_ (hargs := (by (try simp only [List.map_toArray, List.map_cons, List.map_nil]); first | done | (rw [show (l0.drop ((ji10) : Int).toNat).length = (l0.length - (ji10).toNat) from List.length_drop] <;> rfl) | (simp only [hji10]; rfl) | rfl | (simp only [List.length_drop, List.length_take]; rfl))); (with_reducible refine (ih k1 (by have := HK1.out; omega) _ _ (l0.drop ((ji10) : Int).toNat) t565 t566 _ ?side1 ?side2 A13.out).mono ?_); (case side1 => exact cC_ HR564.out); (case side2 => exact HC564.out); rintro e w' ⟨rfl, ⟨nd, rfl⟩⟩; refine ⟨_, rfl, ?_⟩))
        go_ret2
        exact ⟨by first | rfl | (simp; done) | (simp only [← hji10] <;> (first | rfl | simp)) | (simp [*]; done), d0_⟩
      replace c16 := Bool.eq_false_iff.mpr c16
      subst c16
      replace H := if_ H
      simp only [Option.some.injEq, Prod.mk.injEq] at H
      obtain ⟨rfl, rfl⟩ := H
      have p560 : 0 ≤ (x15_1 : Int) := od_
      have q560 : x15_1 < (l0.length : Int) := od_
      obtain ⟨ad560, e560, hx560_0⟩ := Kd.at_int HR0.out x15_1 p560 q560
      cases e560
      replace p560 := eq_true p560
      replace q560 := eq_true q560
      obtain ⟨i019, hi019, _, hsz19, _⟩ := info_parts info2
      obtain ⟨hcut19, hA19, hC19⟩ := print_take_of (P := Try.prog) (Value.int .i64) 0 24 2 .i64 Try.underlying24 hi019 hsz19 (some ad560) c0 l0 x15_1 (od_) (od_) HC0.out
      have HR561 := as_ (Kd.C_of_reads (h1 := fun _ => rfl) (hA19 _ (Kd.reads_of_C HR0.out)))
      have HC561 := as_ hC19
      clear hA19 hC19 hi019 hsz19
      go_wp2_with (first | ((with_reducible refine gate_callee (f := 56) rfl ?_); refine gL_ 31 Try.func56 #[.slice (some ad560) (l0.take (x15_1 : Int).toNat).length c0] ?_ (hargs := (by (try simp only [List.map_toArray, List.map_cons, List.map_nil]); first | done | (rw [show (l0.take (x15_1 : Int).toNat).length = x15_1.toNat from (by rw [List.length_take]; have h_ : (x15_1 : Int) ≤ (l0.length : Int) := od_; omega)] <;> rfl) | rfl | (simp only [List.length_drop, List.length_take]; rfl))); (with_reducible refine (ih k1 (by have := HK1.out; omega) _ _ (l0.take (x15_1 : Int).toNat) t562 false _ ?side1 ?side2 A9.out).mono ?_); (case side1 => exact cC_ HR561.out); (case side2 => exact HC561.out); rintro e w' ⟨rfl, ⟨nd, rfl⟩⟩; refine ⟨_, rfl, ?_⟩; obtain ⟨i020, hi020, _, hsz20, _⟩ := info_parts info2; obtain ⟨A20, hcut20, hA20, hC20⟩ := print_drop_of (P := Try.prog) (Value.int .i64) 0 24 2 .i64 Try.underlying24 hi020 hsz20 (some ad560) c0 l0 (ji10) (od_) (od_) HC0.out; have HR564 := as_ (Kd.C_of_reads (h1 := fun _ => rfl) (hA20 _ (Kd.reads_of_C HR0.out))); have HC564 := as_ hC20; clear hA20 hC20 hi020 hsz20) | ((with_reducible refine gate_callee (f := 56) rfl ?_); refine gL_ 39 Try.func56 #[.slice A20 (l0.drop ((ji10) : Int).toNat).length (c0 - (ji10).toNat)] ?_ (hargs := (by (try simp only [List.map_toArray, List.map_cons, List.map_nil]); first | done | (rw [show (l0.drop ((ji10) : Int).toNat).length = (l0.length - (ji10).toNat) from List.length_drop] <;> rfl) | (simp only [hji10]; rfl) | rfl | (simp only [List.length_drop, List.length_take]; rfl))); (with_reducible refine (ih k1 (by have := HK1.out; omega) _ _ (l0.drop ((ji10) : Int).toNat) t565 t566 _ ?side1 ?side2 A13.out).mono ?_); (case side1 => exact cC_ HR564.out); (case side2 => exact HC564.out); rintro e w' ⟨rfl, ⟨nd, rfl⟩⟩; refine ⟨_, rfl, ?_⟩))
      go_ret2
      exact ⟨by first | rfl | (simp; done) | (simp only [← hji10] <;> (first | rfl | simp)) | (simp [*]; done), d0_⟩

def impl_BinaryOfVector.l0 : Nat → List Int → List Int → Int → Int → Option (ByteArray × Int)
  | 0, _, _, _, _ => none
  | k + 1, x0, x11, x12, x13 => if x13 < x12 then (if 0 ≤ x13 then (if x13 < (x11.length : Int) then (if (rd x11 x13) < 0 then (some ((⟨#[]⟩ : ByteArray), 2)) else (if (rd x11 x13) > 23 then (some ((⟨#[]⟩ : ByteArray), 2)) else (impl_BinaryOfVector.l0 k x0 x11 x12 (wrap64 (x13 + 1))))) else (none)) else (none)) else ((impl_binaryOfVector.f k x0).bind fun bt568 => (if bt568.2 = true then (some (bt568.1, 0)) else (some ((⟨#[]⟩ : ByteArray), 4))))
def impl_BinaryOfVector.f (k : Nat) (l0 : List Int) : Option (ByteArray × Int) := if (l0.length : Int) > 23 then (some ((⟨#[]⟩ : ByteArray), 2)) else (impl_BinaryOfVector.l0 k l0 l0 (l0.length : Int) 0)
theorem impl_BinaryOfVector.calls (k : Nat) (A0 : Option Addr) (c0 : Nat) (l0 : List Int) (r1 : ByteArray) (r2 : Int) (w : World) (hr0 : Kd.C (Kd.int .i64) w A0 l0.length l0) (hc0 : l0.length ≤ c0) (h : impl_BinaryOfVector.f k l0 = some (r1, r2)) :
    Calls Try.prog 22 #[.slice A0 l0.length c0] w fun e w' => e = .returned (.tuple #[.string r1, .int .i64 r2]) ∧ Drawn0 w w' := by
  have HR0 := as_ hr0
  have HC0 := as_ hc0
  clear hr0 hc0
  have H : (if (l0.length : Int) > 23 then (some ((⟨#[]⟩ : ByteArray), 2)) else (impl_BinaryOfVector.l0 k l0 l0 (l0.length : Int) 0)) = some (r1, r2) := h
  clear h
  by_cases c2 : (l0.length : Int) > 23
  · rw [if_pos c2] at H
    have c2b0 := decide_eq_true c2
    have c2b1 : decide (23 < l0.length) = true := decide_eq_true (by omega)
    clear c2
    simp only [Option.some.injEq, Prod.mk.injEq] at H
    obtain ⟨rfl, rfl⟩ := H
    go_enter Try.func22, Try.ntmps22
    go_wp2
    go_ret2
    exact ⟨rf_, d0_⟩
  rw [if_neg c2] at H
  have c2b0 := decide_eq_false c2
  have c2b1 : decide (23 < l0.length) = false := decide_eq_false (by omega)
  clear c2
  have H' := as_ H
  clear H
  go_enter Try.func22, Try.ntmps22
  go_wp2
  go_loopg [13] k (fun kq v13 w' => ∃ (x13_1 : Int), v13 = .int .i64 x13_1 ∧ Aside0 (impl_BinaryOfVector.l0 kq l0 l0 (l0.length : Int) x13_1 = some (r1, r2)) ∧ Aside0 (kq ≤ k) ∧ Drawn0 w w')
  case atStart => exact ⟨(0), rf_, H', ⟨Nat.le_refl _⟩, d0_⟩
  case round =>
    clear H'
    (try clear c2); (try clear c2b0); (try clear c2b1); (try clear p2)
    obtain ⟨x13_1, rfl, HA, HK1, ⟨m1, rfl⟩⟩ := hrel
    cases gk with
    | zero => exact absurd HA.out (by simp [impl_BinaryOfVector.l0])
    | succ k1 =>
      have H := HA.out
      clear HA
      simp only [impl_BinaryOfVector.l0] at H
      by_cases c3 : x13_1 < (l0.length : Int)
      rotate_left
      · rw [if_neg c3] at H
        have c3b0 := decide_eq_false c3
        clear c3
        obtain ⟨⟨t568, t569⟩, A8, H⟩ := bo_ H
        dsimp only at H
        by_cases c9 : t569 = true
        · subst c9
          replace H := it_ H
          simp only [Option.some.injEq, Prod.mk.injEq] at H
          obtain ⟨rfl, rfl⟩ := H
          go_wp2_with (first | ((with_reducible refine gate_callee (f := 56) rfl ?_); refine gL_ 26 Try.func56 #[.slice A0 l0.length c0] ?_; (with_reducible refine (impl_binaryOfVector.calls k1 _ _ l0 t568 true _ ?side1 ?side2 A8.out).mono ?_); (case side1 => exact cC_ HR0.out); (case side2 => exact HC0.out); rintro e w' ⟨rfl, ⟨nd, rfl⟩⟩; refine ⟨_, rfl, ?_⟩))
          go_ret2
          exact ⟨rf_, d0_⟩
        replace c9 := Bool.eq_false_iff.mpr c9
        subst c9
        replace H := if_ H
        simp only [Option.some.injEq, Prod.mk.injEq] at H
        obtain ⟨rfl, rfl⟩ := H
        go_wp2_with (first | ((with_reducible refine gate_callee (f := 56) rfl ?_); refine gL_ 26 Try.func56 #[.slice A0 l0.length c0] ?_; (with_reducible refine (impl_binaryOfVector.calls k1 _ _ l0 t568 false _ ?side1 ?side2 A8.out).mono ?_); (case side1 => exact cC_ HR0.out); (case side2 => exact HC0.out); rintro e w' ⟨rfl, ⟨nd, rfl⟩⟩; refine ⟨_, rfl, ?_⟩))
        go_ret2
        exact ⟨rf_, d0_⟩
      rw [if_pos c3] at H
      have c3b0 := decide_eq_true c3
      clear c3
      obtain ⟨c4b0, H⟩ := ite_d H
      obtain ⟨c5b0, H⟩ := ite_d H
      by_cases c6 : (rd l0 x13_1) < 0
      · rw [if_pos c6] at H
        have c6b0 := decide_eq_true c6
        clear c6
        simp only [Option.some.injEq, Prod.mk.injEq] at H
        obtain ⟨rfl, rfl⟩ := H
        have p567 : 0 ≤ (x13_1 : Int) := od_
        have q567 : x13_1 < (l0.length : Int) := od_
        obtain ⟨ad567, e567, hx567_0⟩ := Kd.at_int HR0.out x13_1 p567 q567
        cases e567
        replace p567 := eq_true p567
        replace q567 := eq_true q567
        go_wp2
        go_ret2
        exact ⟨rf_, d0_⟩
      rw [if_neg c6] at H
      have c6b0 := decide_eq_false c6
      clear c6
      by_cases c7 : (rd l0 x13_1) > 23
      · rw [if_pos c7] at H
        have c7b0 := decide_eq_true c7
        clear c7
        simp only [Option.some.injEq, Prod.mk.injEq] at H
        obtain ⟨rfl, rfl⟩ := H
        have p567 : 0 ≤ (x13_1 : Int) := od_
        have q567 : x13_1 < (l0.length : Int) := od_
        obtain ⟨ad567, e567, hx567_0⟩ := Kd.at_int HR0.out x13_1 p567 q567
        cases e567
        replace p567 := eq_true p567
        replace q567 := eq_true q567
        go_wp2
        go_ret2
        exact ⟨rf_, d0_⟩
      rw [if_neg c7] at H
      have c7b0 := decide_eq_false c7
      clear c7
      have H' := as_ H
      clear H
      have p567 : 0 ≤ (x13_1 : Int) := od_
      have q567 : x13_1 < (l0.length : Int) := od_
      obtain ⟨ad567, e567, hx567_0⟩ := Kd.at_int HR0.out x13_1 p567 q567
      cases e567
      replace p567 := eq_true p567
      replace q567 := eq_true q567
      go_wp2
      go_roundg k1
      case measure => have := HK1.out; omega
      case rel => exact ⟨(wrap64 (x13_1 + 1)), rf_, H', om_ HK1, d0_⟩

def stringslite_HasPrefix.f (a0 : ByteArray) (a1 : ByteArray) : Option (Bool) := if (a0.size : Int) ≥ (a1.size : Int) then (if 0 ≤ (a1.size : Int) then (if (a1.size : Int) ≤ (a0.size : Int) then (some ((a0.extract 0 ((a1.size : Int) : Int).toNat).toList == a1.toList)) else (none)) else (none)) else (some false)
theorem stringslite_HasPrefix.calls (a0 : ByteArray) (a1 : ByteArray) (r : Bool) (w : World) (h : stringslite_HasPrefix.f a0 a1 = some r) :
    Calls Try.prog 86 #[.string a0, .string a1] w fun e w' => e = .returned (.bool r) ∧ Drawn0 w w' := by
  have H : (if (a0.size : Int) ≥ (a1.size : Int) then (if 0 ≤ (a1.size : Int) then (if (a1.size : Int) ≤ (a0.size : Int) then (some ((a0.extract 0 ((a1.size : Int) : Int).toNat).toList == a1.toList)) else (none)) else (none)) else (some false)) = some r := h
  clear h
  by_cases c3 : (a0.size : Int) ≥ (a1.size : Int)
  rotate_left
  · rw [if_neg c3] at H
    have c3b0 := decide_eq_false c3
    have c3b1 : decide (a1.size ≤ a0.size) = false := decide_eq_false (fun h => c3 (Int.ofNat_le.mpr h))
    clear c3
    obtain rfl := Option.some.inj H
    go_enter Try.func86, Try.ntmps86
    go_wp2
    go_ret
    exact ⟨rf_, d0_⟩
  rw [if_pos c3] at H
  have c3b0 := decide_eq_true c3
  have c3b1 : decide (a1.size ≤ a0.size) = true := decide_eq_true (Int.ofNat_le.mp c3)
  clear c3
  obtain ⟨c4, H⟩ := ite_s H
  have c4b0 := eq_true c4
  have c4b1 := decide_eq_true c4
  clear c4
  obtain ⟨c5, H⟩ := ite_s H
  have c5b0 := eq_true c5
  have c5b1 := decide_eq_true c5
  clear c5
  obtain rfl := Option.some.inj H
  go_enter Try.func86, Try.ntmps86
  go_wp2
  go_ret
  exact ⟨rf_, d0_⟩

def strings_HasPrefix.f (a0 : ByteArray) (a1 : ByteArray) : Option (Bool) := (stringslite_HasPrefix.f a0 a1).bind fun t570 => (some t570)
theorem strings_HasPrefix.calls (a0 : ByteArray) (a1 : ByteArray) (r : Bool) (w : World) (h : strings_HasPrefix.f a0 a1 = some r) :
    Calls Try.prog 80 #[.string a0, .string a1] w fun e w' => e = .returned (.bool r) ∧ Drawn0 w w' := by
  have H : ((stringslite_HasPrefix.f a0 a1).bind fun t570 => (some t570)) = some r := h
  clear h
  obtain ⟨t570, A3, H⟩ := bo_ H
  obtain rfl := Option.some.inj H
  go_enter Try.func80, Try.ntmps80
  go_wp2_with (first | ((with_reducible refine gate_callee (f := 86) rfl ?_); refine gL_ 7 Try.func86 #[.string a0, .string a1] ?_; (with_reducible refine (stringslite_HasPrefix.calls a0 a1 t570 _ A3.out).mono ?_); rintro e w' ⟨rfl, ⟨nd, rfl⟩⟩; refine ⟨_, rfl, ?_⟩))
  go_ret
  exact ⟨rf_, d0_⟩

def impl_unbracket.f : Nat → ByteArray → Option (ByteArray × ByteArray × Bool)
  | 0, _ => none
  | k + 1, a0 => if a0.toList = ([] : List UInt8) then (some ((⟨#[]⟩ : ByteArray), (⟨#[]⟩ : ByteArray), false)) else (if 0 < (a0.size : Int) then (if (bt a0 0) = 40 then (if 1 ≤ (a0.size : Int) then ((impl_unbracket.f k (a0.extract 1 a0.size)).bind fun bt571 => (if bt571.2.2 = true then ((impl_unbracket.f k bt571.2.1).bind fun bt574 => (if bt574.2.2 = true then ((strings_HasPrefix.f bt574.2.1 (⟨#[41]⟩ : ByteArray)).bind fun t577 => (if t577 = true then (if 1 + bt571.1.size ≤ 9223372036854775807 then (if ((⟨#[49]⟩ : ByteArray) ++ bt571.1).size + bt574.1.size ≤ 9223372036854775807 then (if 1 ≤ (bt574.2.1.size : Int) then (some (((⟨#[49]⟩ : ByteArray) ++ bt571.1) ++ bt574.1, bt574.2.1.extract 1 bt574.2.1.size, true)) else (none)) else (none)) else (none)) else (some ((⟨#[]⟩ : ByteArray), (⟨#[]⟩ : ByteArray), false)))) else (some ((⟨#[]⟩ : ByteArray), (⟨#[]⟩ : ByteArray), false)))) else (some ((⟨#[]⟩ : ByteArray), (⟨#[]⟩ : ByteArray), false)))) else (none)) else (if 1 ≤ (a0.size : Int) then (some ((⟨#[48]⟩ : ByteArray), a0.extract 1 a0.size, true)) else (none))) else (none))
theorem impl_unbracket.calls (k : Nat) : ∀ (a0 : ByteArray) (r1 : ByteArray) (r2 : ByteArray) (r3 : Bool) (w : World) (h : impl_unbracket.f k a0 = some (r1, r2, r3)),
    Calls Try.prog 57 #[.string a0] w fun e w' => e = .returned (.tuple #[.string r1, .string r2, .bool r3]) ∧ Drawn0 w w' := by
  induction k using Nat.strongRecOn with
  | _ k ih =>
  intro a0 r1 r2 r3 w h
  cases k with
  | zero => exact absurd h (by simp [impl_unbracket.f])
  | succ k =>
  simp only [impl_unbracket.f] at h
  have H : (if a0.toList = ([] : List UInt8) then (some ((⟨#[]⟩ : ByteArray), (⟨#[]⟩ : ByteArray), false)) else (if 0 < (a0.size : Int) then (if (bt a0 0) = 40 then (if 1 ≤ (a0.size : Int) then ((impl_unbracket.f k (a0.extract 1 a0.size)).bind fun bt571 => (if bt571.2.2 = true then ((impl_unbracket.f k bt571.2.1).bind fun bt574 => (if bt574.2.2 = true then ((strings_HasPrefix.f bt574.2.1 (⟨#[41]⟩ : ByteArray)).bind fun t577 => (if t577 = true then (if 1 + bt571.1.size ≤ 9223372036854775807 then (if ((⟨#[49]⟩ : ByteArray) ++ bt571.1).size + bt574.1.size ≤ 9223372036854775807 then (if 1 ≤ (bt574.2.1.size : Int) then (some (((⟨#[49]⟩ : ByteArray) ++ bt571.1) ++ bt574.1, bt574.2.1.extract 1 bt574.2.1.size, true)) else (none)) else (none)) else (none)) else (some ((⟨#[]⟩ : ByteArray), (⟨#[]⟩ : ByteArray), false)))) else (some ((⟨#[]⟩ : ByteArray), (⟨#[]⟩ : ByteArray), false)))) else (some ((⟨#[]⟩ : ByteArray), (⟨#[]⟩ : ByteArray), false)))) else (none)) else (if 1 ≤ (a0.size : Int) then (some ((⟨#[48]⟩ : ByteArray), a0.extract 1 a0.size, true)) else (none))) else (none))) = some (r1, r2, r3) := h
  clear h
  by_cases c2 : a0.toList = ([] : List UInt8)
  · rw [if_pos c2] at H
    have c2b0 := beq_iff_eq.mpr c2
    have c2b1 := bne_eq_false_iff_eq.mpr c2
    clear c2
    simp only [Option.some.injEq, Prod.mk.injEq] at H
    obtain ⟨rfl, rfl, rfl⟩ := H
    go_enter Try.func57, Try.ntmps57
    go_wp2
    repeat (go_quiet (fail); try go_wp2)
    go_ret3
    exact ⟨rf_, d0_⟩
  rw [if_neg c2] at H
  have c2b0 := beq_eq_false_iff_ne.mpr c2
  have c2b1 := bne_iff_ne.mpr c2
  obtain ⟨c3, H⟩ := ite_s H
  have c3b0 : decide (0 < (a0.size : Int)) = true := decide_eq_true c3
  have c3b1 : decide (0 < a0.size) = true := decide_eq_true (by omega)
  clear c3
  by_cases c5 : (bt a0 0) = 40
  rotate_left
  · rw [if_neg c5] at H
    have c5b0 := beq_eq_false_iff_ne.mpr c5
    have c5b1 := bne_iff_ne.mpr c5
    obtain ⟨c16, H⟩ := ite_s H
    have c16b0 := eq_true c16
    have c16b1 := decide_eq_true c16
    clear c16
    simp only [Option.some.injEq, Prod.mk.injEq] at H
    obtain ⟨rfl, rfl, rfl⟩ := H
    have p4 : 0 ≤ (0 : Int) := (by omega)
    have q4 : 0 < a0.size := (by have : (0 : Int) < (a0.size : Int) := od_; omega)
    have hx4 : ∀ h : 0 < a0.size, ((a0[0]'h).toNat : Int) = bt a0 0 := bt_at a0 0
    clear p4
    have qi4 : (0 < (a0.size : Int)) = True := eq_true (od_)
    replace q4 := eq_true q4
    go_enter Try.func57, Try.ntmps57
    go_wp2
    repeat (go_quiet (fail); try go_wp2)
    go_ret3
    exact ⟨rf_, d0_⟩
  rw [if_pos c5] at H
  have c5b0 := beq_iff_eq.mpr c5
  have c5b1 := bne_eq_false_iff_eq.mpr c5
  clear c5
  obtain ⟨c6, H⟩ := ite_s H
  have c6b0 := eq_true c6
  have c6b1 := decide_eq_true c6
  clear c6
  obtain ⟨⟨t571, t572, t573⟩, A7, H⟩ := bo_ H
  dsimp only at H
  by_cases c8 : t573 = true
  rotate_left
  · replace c8 := Bool.eq_false_iff.mpr c8
    subst c8
    replace H := if_ H
    simp only [Option.some.injEq, Prod.mk.injEq] at H
    obtain ⟨rfl, rfl, rfl⟩ := H
    have p4 : 0 ≤ (0 : Int) := (by omega)
    have q4 : 0 < a0.size := (by have : (0 : Int) < (a0.size : Int) := od_; omega)
    have hx4 : ∀ h : 0 < a0.size, ((a0[0]'h).toNat : Int) = bt a0 0 := bt_at a0 0
    clear p4
    have qi4 : (0 < (a0.size : Int)) = True := eq_true (od_)
    replace q4 := eq_true q4
    go_enter Try.func57, Try.ntmps57
    go_wp2_with (first | (go_at_call 57; (with_reducible refine (ih k (by omega) (a0.extract 1 a0.size) t571 t572 false _ A7.out).mono ?_); rintro e w' ⟨rfl, ⟨nd, rfl⟩⟩; (try exact dd_)))
    repeat (go_quiet (first | (go_at_call 57; (with_reducible refine (ih k (by omega) (a0.extract 1 a0.size) t571 t572 false _ A7.out).mono ?_); rintro e w' ⟨rfl, ⟨nd, rfl⟩⟩; (try exact dd_))); try go_wp2_with (first | (go_at_call 57; (with_reducible refine (ih k (by omega) (a0.extract 1 a0.size) t571 t572 false _ A7.out).mono ?_); rintro e w' ⟨rfl, ⟨nd, rfl⟩⟩; (try exact dd_))))
    go_ret3
    exact ⟨rf_, d0_⟩
  subst c8
  replace H := it_ H
  obtain ⟨⟨t574, t575, t576⟩, A9, H⟩ := bo_ H
  dsimp only at H
  by_cases c10 : t576 = true
  rotate_left
  · replace c10 := Bool.eq_false_iff.mpr c10
    subst c10
    replace H := if_ H
    simp only [Option.some.injEq, Prod.mk.injEq] at H
    obtain ⟨rfl, rfl, rfl⟩ := H
    have p4 : 0 ≤ (0 : Int) := (by omega)
    have q4 : 0 < a0.size := (by have : (0 : Int) < (a0.size : Int) := od_; omega)
    have hx4 : ∀ h : 0 < a0.size, ((a0[0]'h).toNat : Int) = bt a0 0 := bt_at a0 0
    clear p4
    have qi4 : (0 < (a0.size : Int)) = True := eq_true (od_)
    replace q4 := eq_true q4
    go_enter Try.func57, Try.ntmps57
    go_wp2_with (first | (go_at_call 57; (with_reducible refine (ih k (by omega) (a0.extract 1 a0.size) t571 t572 true _ A7.out).mono ?_); rintro e w' ⟨rfl, ⟨nd, rfl⟩⟩; (try exact dd_)) | (go_at_call 57; (with_reducible refine (ih k (by omega) t572 t574 t575 false _ A9.out).mono ?_); rintro e w' ⟨rfl, ⟨nd, rfl⟩⟩; (try exact dd_)))
    repeat (go_quiet (first | (go_at_call 57; (with_reducible refine (ih k (by omega) (a0.extract 1 a0.size) t571 t572 true _ A7.out).mono ?_); rintro e w' ⟨rfl, ⟨nd, rfl⟩⟩; (try exact dd_)) | (go_at_call 57; (with_reducible refine (ih k (by omega) t572 t574 t575 false _ A9.out).mono ?_); rintro e w' ⟨rfl, ⟨nd, rfl⟩⟩; (try exact dd_))); try go_wp2_with (first | (go_at_call 57; (with_reducible refine (ih k (by omega) (a0.extract 1 a0.size) t571 t572 true _ A7.out).mono ?_); rintro e w' ⟨rfl, ⟨nd, rfl⟩⟩; (try exact dd_)) | (go_at_call 57; (with_reducible refine (ih k (by omega) t572 t574 t575 false _ A9.out).mono ?_); rintro e w' ⟨rfl, ⟨nd, rfl⟩⟩; (try exact dd_))))
    go_ret3
    exact ⟨rf_, d0_⟩
  subst c10
  replace H := it_ H
  obtain ⟨t577, A11, H⟩ := bo_ H
  by_cases c12 : t577 = true
  rotate_left
  · replace c12 := Bool.eq_false_iff.mpr c12
    subst c12
    replace H := if_ H
    simp only [Option.some.injEq, Prod.mk.injEq] at H
    obtain ⟨rfl, rfl, rfl⟩ := H
    have p4 : 0 ≤ (0 : Int) := (by omega)
    have q4 : 0 < a0.size := (by have : (0 : Int) < (a0.size : Int) := od_; omega)
    have hx4 : ∀ h : 0 < a0.size, ((a0[0]'h).toNat : Int) = bt a0 0 := bt_at a0 0
    clear p4
    have qi4 : (0 < (a0.size : Int)) = True := eq_true (od_)
    replace q4 := eq_true q4
    go_enter Try.func57, Try.ntmps57
    go_wp2_with (first | (go_at_call 57; (with_reducible refine (ih k (by omega) (a0.extract 1 a0.size) t571 t572 true _ A7.out).mono ?_); rintro e w' ⟨rfl, ⟨nd, rfl⟩⟩; (try exact dd_)) | (go_at_call 57; (with_reducible refine (ih k (by omega) t572 t574 t575 true _ A9.out).mono ?_); rintro e w' ⟨rfl, ⟨nd, rfl⟩⟩; (try exact dd_)) | (go_at_call 80; (with_reducible refine (strings_HasPrefix.calls t575 (⟨#[41]⟩ : ByteArray) false _ A11.out).mono ?_); rintro e w' ⟨rfl, ⟨nd, rfl⟩⟩; (try exact dd_)))
    repeat (go_quiet (first | (go_at_call 57; (with_reducible refine (ih k (by omega) (a0.extract 1 a0.size) t571 t572 true _ A7.out).mono ?_); rintro e w' ⟨rfl, ⟨nd, rfl⟩⟩; (try exact dd_)) | (go_at_call 57; (with_reducible refine (ih k (by omega) t572 t574 t575 true _ A9.out).mono ?_); rintro e w' ⟨rfl, ⟨nd, rfl⟩⟩; (try exact dd_)) | (go_at_call 80; (with_reducible refine (strings_HasPrefix.calls t575 (⟨#[41]⟩ : ByteArray) false _ A11.out).mono ?_); rintro e w' ⟨rfl, ⟨nd, rfl⟩⟩; (try exact dd_))); try go_wp2_with (first | (go_at_call 57; (with_reducible refine (ih k (by omega) (a0.extract 1 a0.size) t571 t572 true _ A7.out).mono ?_); rintro e w' ⟨rfl, ⟨nd, rfl⟩⟩; (try exact dd_)) | (go_at_call 57; (with_reducible refine (ih k (by omega) t572 t574 t575 true _ A9.out).mono ?_); rintro e w' ⟨rfl, ⟨nd, rfl⟩⟩; (try exact dd_)) | (go_at_call 80; (with_reducible refine (strings_HasPrefix.calls t575 (⟨#[41]⟩ : ByteArray) false _ A11.out).mono ?_); rintro e w' ⟨rfl, ⟨nd, rfl⟩⟩; (try exact dd_))))
    go_ret3
    exact ⟨rf_, d0_⟩
  subst c12
  replace H := it_ H
  obtain ⟨c13, H⟩ := ite_s H
  have c13b0 := eq_true c13
  have c13b1 := decide_eq_true c13
  try have c13b2 : (9223372036854775807 < 1 + t571.size) = False := eq_false (Nat.not_lt.2 c13)
  obtain ⟨c14, H⟩ := ite_s H
  have c14b0 := eq_true c14
  have c14b1 := decide_eq_true c14
  try have c14b2 : (9223372036854775807 < ((⟨#[49]⟩ : ByteArray) ++ t571).size + t574.size) = False := eq_false (Nat.not_lt.2 c14)
  try have c14b3 : (9223372036854775807 < 1 + t571.size + t574.size) = False := eq_false (by have z_ := c14; simp only [ByteArray.size_append, ByteArray.size_extract, decide_eq_true_eq, eq_iff_iff, iff_true, (show (⟨#[49]⟩ : ByteArray).size = 1 from rfl)] at *; first | omega | (simp at z_; omega))
  obtain ⟨c15, H⟩ := ite_s H
  have c15b0 := eq_true c15
  have c15b1 := decide_eq_true c15
  clear c15
  simp only [Option.some.injEq, Prod.mk.injEq] at H
  obtain ⟨rfl, rfl, rfl⟩ := H
  have p4 : 0 ≤ (0 : Int) := (by omega)
  have q4 : 0 < a0.size := (by have : (0 : Int) < (a0.size : Int) := od_; omega)
  have hx4 : ∀ h : 0 < a0.size, ((a0[0]'h).toNat : Int) = bt a0 0 := bt_at a0 0
  clear p4
  have qi4 : (0 < (a0.size : Int)) = True := eq_true (od_)
  replace q4 := eq_true q4
  go_enter Try.func57, Try.ntmps57
  go_wp2_with (first | (go_at_call 57; (with_reducible refine (ih k (by omega) (a0.extract 1 a0.size) t571 t572 true _ A7.out).mono ?_); rintro e w' ⟨rfl, ⟨nd, rfl⟩⟩; (try exact dd_)) | (go_at_call 57; (with_reducible refine (ih k (by omega) t572 t574 t575 true _ A9.out).mono ?_); rintro e w' ⟨rfl, ⟨nd, rfl⟩⟩; (try exact dd_)) | (go_at_call 80; (with_reducible refine (strings_HasPrefix.calls t575 (⟨#[41]⟩ : ByteArray) true _ A11.out).mono ?_); rintro e w' ⟨rfl, ⟨nd, rfl⟩⟩; (try exact dd_)))
  repeat (go_quiet (first | (go_at_call 57; (with_reducible refine (ih k (by omega) (a0.extract 1 a0.size) t571 t572 true _ A7.out).mono ?_); rintro e w' ⟨rfl, ⟨nd, rfl⟩⟩; (try exact dd_)) | (go_at_call 57; (with_reducible refine (ih k (by omega) t572 t574 t575 true _ A9.out).mono ?_); rintro e w' ⟨rfl, ⟨nd, rfl⟩⟩; (try exact dd_)) | (go_at_call 80; (with_reducible refine (strings_HasPrefix.calls t575 (⟨#[41]⟩ : ByteArray) true _ A11.out).mono ?_); rintro e w' ⟨rfl, ⟨nd, rfl⟩⟩; (try exact dd_))); try go_wp2_with (first | (go_at_call 57; (with_reducible refine (ih k (by omega) (a0.extract 1 a0.size) t571 t572 true _ A7.out).mono ?_); rintro e w' ⟨rfl, ⟨nd, rfl⟩⟩; (try exact dd_)) | (go_at_call 57; (with_reducible refine (ih k (by omega) t572 t574 t575 true _ A9.out).mono ?_); rintro e w' ⟨rfl, ⟨nd, rfl⟩⟩; (try exact dd_)) | (go_at_call 80; (with_reducible refine (strings_HasPrefix.calls t575 (⟨#[41]⟩ : ByteArray) true _ A11.out).mono ?_); rintro e w' ⟨rfl, ⟨nd, rfl⟩⟩; (try exact dd_))))
  go_ret3
  exact ⟨rf_, d0_⟩

def impl_ParseBrackets.f (k : Nat) (a0 : ByteArray) : Option (ByteArray × Int) := if (a0.size : Int) > 92 then (some ((⟨#[]⟩ : ByteArray), 6)) else ((impl_unbracket.f k a0).bind fun bt578 => (if bt578.2.2 = true then (if bt578.2.1.toList = ([] : List UInt8) then ((impl_IsBinary.f k bt578.1).bind fun t581 => (if t581 = true then ((impl_brackets.f k bt578.1 0).bind fun t582 => (if t582.toList = a0.toList then (some (bt578.1, 0)) else (some ((⟨#[]⟩ : ByteArray), 6)))) else (some ((⟨#[]⟩ : ByteArray), 6)))) else (some ((⟨#[]⟩ : ByteArray), 6))) else (some ((⟨#[]⟩ : ByteArray), 6))))
theorem impl_ParseBrackets.calls (k : Nat) (a0 : ByteArray) (r1 : ByteArray) (r2 : Int) (w : World) (h : impl_ParseBrackets.f k a0 = some (r1, r2)) :
    Calls Try.prog 23 #[.string a0] w fun e w' => e = .returned (.tuple #[.string r1, .int .i64 r2]) ∧ Drawn0 w w' := by
  have H : (if (a0.size : Int) > 92 then (some ((⟨#[]⟩ : ByteArray), 6)) else ((impl_unbracket.f k a0).bind fun bt578 => (if bt578.2.2 = true then (if bt578.2.1.toList = ([] : List UInt8) then ((impl_IsBinary.f k bt578.1).bind fun t581 => (if t581 = true then ((impl_brackets.f k bt578.1 0).bind fun t582 => (if t582.toList = a0.toList then (some (bt578.1, 0)) else (some ((⟨#[]⟩ : ByteArray), 6)))) else (some ((⟨#[]⟩ : ByteArray), 6)))) else (some ((⟨#[]⟩ : ByteArray), 6))) else (some ((⟨#[]⟩ : ByteArray), 6))))) = some (r1, r2) := h
  clear h
  by_cases c2 : (a0.size : Int) > 92
  · rw [if_pos c2] at H
    have c2b0 := decide_eq_true c2
    have c2b1 : decide (92 < a0.size) = true := decide_eq_true (by omega)
    clear c2
    simp only [Option.some.injEq, Prod.mk.injEq] at H
    obtain ⟨rfl, rfl⟩ := H
    go_enter Try.func23, Try.ntmps23
    go_wp2
    go_ret2
    exact ⟨rf_, d0_⟩
  rw [if_neg c2] at H
  have c2b0 := decide_eq_false c2
  have c2b1 : decide (92 < a0.size) = false := decide_eq_false (by omega)
  clear c2
  obtain ⟨⟨t578, t579, t580⟩, A3, H⟩ := bo_ H
  dsimp only at H
  by_cases c4 : t580 = true
  rotate_left
  · replace c4 := Bool.eq_false_iff.mpr c4
    subst c4
    replace H := if_ H
    simp only [Option.some.injEq, Prod.mk.injEq] at H
    obtain ⟨rfl, rfl⟩ := H
    go_enter Try.func23, Try.ntmps23
    go_wp2_with (first | ((with_reducible refine gate_callee (f := 57) rfl ?_); refine gL_ 12 Try.func57 #[.string a0] ?_; (with_reducible refine (impl_unbracket.calls k a0 t578 t579 false _ A3.out).mono ?_); rintro e w' ⟨rfl, ⟨nd, rfl⟩⟩; refine ⟨_, rfl, ?_⟩))
    go_ret2
    exact ⟨rf_, d0_⟩
  subst c4
  replace H := it_ H
  by_cases c5 : t579.toList = ([] : List UInt8)
  rotate_left
  · rw [if_neg c5] at H
    have c5b0 := beq_eq_false_iff_ne.mpr c5
    have c5b1 := bne_iff_ne.mpr c5
    simp only [Option.some.injEq, Prod.mk.injEq] at H
    obtain ⟨rfl, rfl⟩ := H
    go_enter Try.func23, Try.ntmps23
    go_wp2_with (first | ((with_reducible refine gate_callee (f := 57) rfl ?_); refine gL_ 12 Try.func57 #[.string a0] ?_; (with_reducible refine (impl_unbracket.calls k a0 t578 t579 true _ A3.out).mono ?_); rintro e w' ⟨rfl, ⟨nd, rfl⟩⟩; refine ⟨_, rfl, ?_⟩))
    go_ret2
    exact ⟨rf_, d0_⟩
  rw [if_pos c5] at H
  have c5b0 := beq_iff_eq.mpr c5
  have c5b1 := bne_eq_false_iff_eq.mpr c5
  clear c5
  obtain ⟨t581, A6, H⟩ := bo_ H
  by_cases c7 : t581 = true
  rotate_left
  · replace c7 := Bool.eq_false_iff.mpr c7
    subst c7
    replace H := if_ H
    simp only [Option.some.injEq, Prod.mk.injEq] at H
    obtain ⟨rfl, rfl⟩ := H
    go_enter Try.func23, Try.ntmps23
    go_wp2_with (first | ((with_reducible refine gate_callee (f := 57) rfl ?_); refine gL_ 12 Try.func57 #[.string a0] ?_; (with_reducible refine (impl_unbracket.calls k a0 t578 t579 true _ A3.out).mono ?_); rintro e w' ⟨rfl, ⟨nd, rfl⟩⟩; refine ⟨_, rfl, ?_⟩) | (go_at_call 10; (with_reducible refine (impl_IsBinary.calls k t578 false _ A6.out).mono ?_); rintro e w' ⟨rfl, ⟨nd, rfl⟩⟩))
    go_ret2
    exact ⟨rf_, d0_⟩
  subst c7
  replace H := it_ H
  obtain ⟨t582, A8, H⟩ := bo_ H
  by_cases c9 : t582.toList = a0.toList
  · rw [if_pos c9] at H
    have c9b0 := beq_iff_eq.mpr c9
    have c9b1 := bne_eq_false_iff_eq.mpr c9
    clear c9
    simp only [Option.some.injEq, Prod.mk.injEq] at H
    obtain ⟨rfl, rfl⟩ := H
    go_enter Try.func23, Try.ntmps23
    go_wp2_with (first | ((with_reducible refine gate_callee (f := 57) rfl ?_); refine gL_ 12 Try.func57 #[.string a0] ?_; (with_reducible refine (impl_unbracket.calls k a0 t578 t579 true _ A3.out).mono ?_); rintro e w' ⟨rfl, ⟨nd, rfl⟩⟩; refine ⟨_, rfl, ?_⟩) | (go_at_call 10; (with_reducible refine (impl_IsBinary.calls k t578 true _ A6.out).mono ?_); rintro e w' ⟨rfl, ⟨nd, rfl⟩⟩) | (go_at_call 54; (with_reducible refine (impl_brackets.calls k t578 0 t582 _ A8.out).mono ?_); rintro e w' ⟨rfl, ⟨nd, rfl⟩⟩))
    go_ret2
    exact ⟨rf_, d0_⟩
  rw [if_neg c9] at H
  have c9b0 := beq_eq_false_iff_ne.mpr c9
  have c9b1 := bne_iff_ne.mpr c9
  simp only [Option.some.injEq, Prod.mk.injEq] at H
  obtain ⟨rfl, rfl⟩ := H
  go_enter Try.func23, Try.ntmps23
  go_wp2_with (first | ((with_reducible refine gate_callee (f := 57) rfl ?_); refine gL_ 12 Try.func57 #[.string a0] ?_; (with_reducible refine (impl_unbracket.calls k a0 t578 t579 true _ A3.out).mono ?_); rintro e w' ⟨rfl, ⟨nd, rfl⟩⟩; refine ⟨_, rfl, ?_⟩) | (go_at_call 10; (with_reducible refine (impl_IsBinary.calls k t578 true _ A6.out).mono ?_); rintro e w' ⟨rfl, ⟨nd, rfl⟩⟩) | (go_at_call 54; (with_reducible refine (impl_brackets.calls k t578 0 t582 _ A8.out).mono ?_); rintro e w' ⟨rfl, ⟨nd, rfl⟩⟩))
  go_ret2
  exact ⟨rf_, d0_⟩

def impl_SidesOf.f (k : Nat) (a0 : ByteArray) : Option (ByteArray × ByteArray × Int) := (impl_IsBinary.f k a0).bind fun t583 => (if t583 = true then (if a0.toList = ([48] : List UInt8) then (some ((⟨#[]⟩ : ByteArray), (⟨#[]⟩ : ByteArray), 5)) else ((impl_sides.f k a0).bind fun bt584 => (some (bt584.1, bt584.2, 0)))) else (some ((⟨#[]⟩ : ByteArray), (⟨#[]⟩ : ByteArray), 1)))
theorem impl_SidesOf.calls (k : Nat) (a0 : ByteArray) (r1 : ByteArray) (r2 : ByteArray) (r3 : Int) (w : World) (h : impl_SidesOf.f k a0 = some (r1, r2, r3)) :
    Calls Try.prog 24 #[.string a0] w fun e w' => e = .returned (.tuple #[.string r1, .string r2, .int .i64 r3]) ∧ Drawn0 w w' := by
  have H : ((impl_IsBinary.f k a0).bind fun t583 => (if t583 = true then (if a0.toList = ([48] : List UInt8) then (some ((⟨#[]⟩ : ByteArray), (⟨#[]⟩ : ByteArray), 5)) else ((impl_sides.f k a0).bind fun bt584 => (some (bt584.1, bt584.2, 0)))) else (some ((⟨#[]⟩ : ByteArray), (⟨#[]⟩ : ByteArray), 1)))) = some (r1, r2, r3) := h
  clear h
  obtain ⟨t583, A2, H⟩ := bo_ H
  by_cases c3 : t583 = true
  rotate_left
  · replace c3 := Bool.eq_false_iff.mpr c3
    subst c3
    replace H := if_ H
    simp only [Option.some.injEq, Prod.mk.injEq] at H
    obtain ⟨rfl, rfl, rfl⟩ := H
    go_enter Try.func24, Try.ntmps24
    go_wp2_with (first | ((with_reducible refine gate_callee (f := 10) rfl ?_); refine gL_ 9 Try.func10 #[.string a0] ?_; (with_reducible refine (impl_IsBinary.calls k a0 false _ A2.out).mono ?_); rintro e w' ⟨rfl, ⟨nd, rfl⟩⟩; refine ⟨_, rfl, ?_⟩))
    go_ret3
    exact ⟨rf_, d0_⟩
  subst c3
  replace H := it_ H
  by_cases c4 : a0.toList = ([48] : List UInt8)
  · rw [if_pos c4] at H
    have c4b0 := beq_iff_eq.mpr c4
    have c4b1 := bne_eq_false_iff_eq.mpr c4
    clear c4
    simp only [Option.some.injEq, Prod.mk.injEq] at H
    obtain ⟨rfl, rfl, rfl⟩ := H
    go_enter Try.func24, Try.ntmps24
    go_wp2_with (first | ((with_reducible refine gate_callee (f := 10) rfl ?_); refine gL_ 9 Try.func10 #[.string a0] ?_; (with_reducible refine (impl_IsBinary.calls k a0 true _ A2.out).mono ?_); rintro e w' ⟨rfl, ⟨nd, rfl⟩⟩; refine ⟨_, rfl, ?_⟩))
    go_ret3
    exact ⟨rf_, d0_⟩
  rw [if_neg c4] at H
  have c4b0 := beq_eq_false_iff_ne.mpr c4
  have c4b1 := bne_iff_ne.mpr c4
  obtain ⟨⟨t584, t585⟩, A5, H⟩ := bo_ H
  dsimp only at H
  simp only [Option.some.injEq, Prod.mk.injEq] at H
  obtain ⟨rfl, rfl, rfl⟩ := H
  go_enter Try.func24, Try.ntmps24
  go_wp2_with (first | ((with_reducible refine gate_callee (f := 10) rfl ?_); refine gL_ 9 Try.func10 #[.string a0] ?_; (with_reducible refine (impl_IsBinary.calls k a0 true _ A2.out).mono ?_); rintro e w' ⟨rfl, ⟨nd, rfl⟩⟩; refine ⟨_, rfl, ?_⟩) | ((with_reducible refine gate_callee (f := 58) rfl ?_); refine gL_ 16 Try.func58 #[.string a0] ?_; (with_reducible refine (impl_sides.calls k a0 t584 t585 _ A5.out).mono ?_); rintro e w' ⟨rfl, ⟨nd, rfl⟩⟩; refine ⟨_, rfl, ?_⟩))
  go_ret3
  exact ⟨rf_, d0_⟩

end Go.Proofs.Ythbdbgoeaichcaa.E
