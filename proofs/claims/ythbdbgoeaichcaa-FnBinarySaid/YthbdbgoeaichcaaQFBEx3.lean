/- The row of the law FnBinary, out of its pure statement. -/
import Derived.Test.YthbdbgoeaichcaaQFBEx0
import Derived.Test.YthbdbgoeaichcaaQFBEx1
import Derived.Test.YthbdbgoeaichcaaQFBEx2
import Derived.Test.YthbdbgoeaichcaaQFBL
-- Written by wip/ext.py of this claim (contracts by the form of the kit's print; hand-written ones among them).
namespace Go.Proofs.Ythbdbgoeaichcaa.E
set_option maxHeartbeats 8000000
set_option maxRecDepth 100000
open Go.RowKit Go.Proofs.YthbdbgoeaichcaaW.PrintWords Go.Proofs.YthbdbgoeaichcaaW.PrintLast Go.Proofs.YthbdbgoeaichcaaW.PrintMore Go.Proofs.Ythbdbgoeaichcaa.Mi
attribute [local go_sem] max2_int min2_int max_two min_two max_three min_three max_four min_four   -- for this text's walks alone
set_option linter.unusedVariables false
set_option linter.unusedSimpArgs false

def impl_endOf.l0 : Nat → List Int → Int → Int → Option (Int)
  | 0, _, _, _ => none
  | k + 1, x0, x1, x5 => if x5 > 0 then (if 0 ≤ x1 then (if x1 < (x0.length : Int) then (impl_endOf.l0 k x0 (wrap64 (x1 + 1)) (wrap64 (x5 + (wrap64 ((rd x0 x1) - 1))))) else (none)) else (none)) else (some x1)
def impl_endOf.f (k : Nat) (l0 : List Int) (a1 : Int) : Option (Int) := impl_endOf.l0 k l0 a1 1
theorem impl_endOf.calls (k : Nat) (A0 : Option Addr) (c0 : Nat) (l0 : List Int) (a1 : Int) (r : Int) (w : World) (hr0 : Kd.C (Kd.int .i64) w A0 l0.length l0) (hc0 : l0.length ≤ c0) (h : impl_endOf.f k l0 a1 = some r) :
    Calls Try.prog 75 #[.slice A0 l0.length c0, .int .i64 a1] w fun e w' => e = .returned (.int .i64 r) ∧ Drawn0 w w' := by
  have HR0 := as_ hr0
  have HC0 := as_ hc0
  clear hr0 hc0
  have H : (impl_endOf.l0 k l0 a1 1) = some r := h
  clear h
  have H' := as_ H
  clear H
  go_enter Try.func75, Try.ntmps75
  go_wp2
  go_loopg [1, 5] k (fun kq v1 v5 w' => ∃ (x1_1 : Int) (x5_1 : Int), v1 = .int .i64 x1_1 ∧ v5 = .int .i64 x5_1 ∧ Aside0 (impl_endOf.l0 kq l0 x1_1 x5_1 = some r) ∧ Aside0 (kq ≤ k) ∧ Drawn0 w w')
  case atStart => exact ⟨(a1), (1), rf_, rf_, H', ⟨Nat.le_refl _⟩, d0_⟩
  case round =>
    clear H'
    try clear p2
    obtain ⟨x1_1, x5_1, rfl, rfl, HA, HK1, ⟨m1, rfl⟩⟩ := hrel
    cases gk with
    | zero => exact absurd HA.out (by simp [impl_endOf.l0])
    | succ k1 =>
      have H := HA.out
      clear HA
      simp only [impl_endOf.l0] at H
      by_cases c3 : x5_1 > 0
      rotate_left
      · rw [if_neg c3] at H
        have c3b0 : decide (0 < x5_1) = false := decide_eq_false c3
        clear c3
        obtain rfl := Option.some.inj H
        go_wp2
        go_ret
        exact ⟨rf_, d0_⟩
      rw [if_pos c3] at H
      have c3b0 : decide (0 < x5_1) = true := decide_eq_true c3
      clear c3
      obtain ⟨c4b0, H⟩ := ite_d H
      obtain ⟨c5b0, H⟩ := ite_d H
      have H' := as_ H
      clear H
      have p299 : 0 ≤ (x1_1 : Int) := od_
      have q299 : x1_1 < (l0.length : Int) := od_
      obtain ⟨ad299, e299, hx299_0⟩ := Kd.at_int HR0.out x1_1 p299 q299
      cases e299
      replace p299 := eq_true p299
      replace q299 := eq_true q299
      go_wp2
      go_roundg k1
      case measure => have := HK1.out; omega
      case rel => exact ⟨(wrap64 (x1_1 + 1)), (wrap64 (x5_1 + (wrap64 ((rd l0 x1_1) - 1)))), rf_, rf_, H', om_ HK1, d0_⟩

def impl_kidsOf.l0 : Nat → List Int → List Int → Int → Int → Int → Option (List Int)
  | 0, _, _, _, _, _ => none
  | k + 1, x0, x5, x6, x13, x14 => if x14 < x13 then (if x5.length < 17592186044416 then ((impl_endOf.f k x0 x6).bind fun t307 => (impl_kidsOf.l0 k x0 (x5 ++ [x6]) t307 x13 (wrap64 (x14 + 1)))) else (none)) else (some x5)
def impl_kidsOf.f (k : Nat) (l0 : List Int) (a1 : Int) : Option (List Int) := if 0 ≤ a1 then (if a1 < (l0.length : Int) then (impl_kidsOf.l0 k l0 (([] : List Int)) (wrap64 (a1 + 1)) (rd l0 a1) 0) else (none)) else (none)
theorem impl_kidsOf.calls (k : Nat) (A0 : Option Addr) (c0 : Nat) (l0 : List Int) (a1 : Int) (r : List Int) (w : World) (hr0 : Kd.C (Kd.int .i64) w A0 l0.length l0) (hc0 : l0.length ≤ c0) (h : impl_kidsOf.f k l0 a1 = some r) :
    Calls Try.prog 40 #[.slice A0 l0.length c0, .int .i64 a1] w fun e w' => ∃ v0_ : Value, e = .returned (v0_) ∧ Kd.R (Kd.int .i64) 2 w' w.heap.size (fun _ => True) v0_ r ∧ Below w.heap.size w w' := by
  have HR0 := as_ hr0
  have HC0 := as_ hc0
  clear hr0 hc0
  have HB := as_ (Below.refl w.heap.size w)
  have H : (if 0 ≤ a1 then (if a1 < (l0.length : Int) then (impl_kidsOf.l0 k l0 (([] : List Int)) (wrap64 (a1 + 1)) (rd l0 a1) 0) else (none)) else (none)) = some r := h
  clear h
  obtain ⟨y300, hy300⟩ := ex_ (([] : List Int) : List Int)
  replace H : (if 0 ≤ a1 then (if a1 < (l0.length : Int) then (impl_kidsOf.l0 k l0 y300 (wrap64 (a1 + 1)) (rd l0 a1) 0) else (none)) else (none)) = some r := yr_ hy300 H
  have Ny300 := as_ hy300
  clear hy300
  obtain ⟨c3b0, H⟩ := ite_d H
  obtain ⟨c4b0, H⟩ := ite_d H
  have H' := as_ H
  clear H
  go_enter Try.func40, Try.ntmps40
  go_wp2_with (first | ((with_reducible refine gate_dst (N := 7) rfl ?_); refine Kd.R_lit (Kd.int .i64) _ 2 ?hg (N := 7) ?hd (xs := ([] : List Int)) (inner := []) (ok := fun _ => True) (okp := fun _ => True) ?hr ?hp (fun _ hk => hk) trivial (Below.refl _ _) (Nat.le_refl _) (by simp) ?_; (case hd => rfl); (case hg => rfl); (case hr => first | (go_simp; done) | (go_simp; rfl)); (case hp => exact (Reps.none _ _)); intro v301 w5 ho6 hb hg_ hnew_; clear hg_ hnew_; (first | rw [← Ny300.out] at ho6 | (simp only [Int.reduceToNat] at ho6; rw [← Ny300.out] at ho6)); have HO302 := as_ (Kd.R_lower ho6 (below_size (b_ HB))); replace HB := as_ (below_step (b_ HB) hb); clear hb ho6; have p303 : 0 ≤ (a1 : Int) := od_; have q303 : a1 < (l0.length : Int) := od_; obtain ⟨ad303, e303, hx303_0⟩ := Kd.at_int HR0.out a1 p303 q303; cases e303; replace hx303_0 := (HB.out.cell (World.block_lt_of_cell? w _ hx303_0)).trans hx303_0; replace p303 := eq_true p303; replace q303 := eq_true q303))
  go_loopg [5, 6, 14] k (fun kq v5 v6 v14 w' => ∃ (x5_1 : List Int) (x6_1 : Int) (x14_1 : Int), v6 = .int .i64 x6_1 ∧ v14 = .int .i64 x14_1 ∧ Aside0 (impl_kidsOf.l0 kq l0 x5_1 x6_1 (rd l0 a1) x14_1 = some r) ∧ Aside0 (kq ≤ k) ∧ Aside0 (Kd.R (Kd.int .i64) 2 w' w.heap.size (fun _ => True) v5 x5_1) ∧ Aside0 (Below w.heap.size w w'))
  case atStart => exact ⟨(y300), (wrap64 (a1 + 1)), (0), rf_, rf_, H', ⟨Nat.le_refl _⟩, ⟨bR_ HO302⟩, ⟨b_ HB⟩⟩
  case round =>
    clear H'
    (try clear p2); (try clear c3); (try clear c3b0); (try clear p3); (try clear q3); (try clear hx3); (try clear c4); (try clear c4b0); (try clear p6); (try clear hx303_0); (try clear p303); (try clear q303)
    obtain ⟨x5_1, x6_1, x14_1, rfl, rfl, HA, HK1, HO_5, HB⟩ := hrel
    cases gk with
    | zero => exact absurd HA.out (by simp [impl_kidsOf.l0])
    | succ k1 =>
      have H := HA.out
      clear HA
      simp only [impl_kidsOf.l0] at H
      by_cases c7 : x14_1 < (rd l0 a1)
      rotate_left
      · rw [if_neg c7] at H
        have c7b0 := decide_eq_false c7
        clear c7
        obtain rfl := Option.some.inj H
        go_wp2
        go_ret
        exact ⟨_, re_, bR_ HO_5, b_ HB⟩
      rw [if_pos c7] at H
      have c7b0 := decide_eq_true c7
      clear c7
      obtain ⟨c8, H⟩ := ite_s H
      have LMc8 := as_ c8
      clear c8
      obtain ⟨y304, hy304⟩ := ex_ (x5_1 ++ [x6_1] : List Int)
      replace H : ((impl_endOf.f k1 l0 x6_1).bind fun t307 => (impl_kidsOf.l0 k1 l0 y304 t307 (rd l0 a1) (wrap64 (x14_1 + 1)))) = some r := yr_ hy304 H
      have Ny304 := as_ hy304
      clear hy304
      obtain ⟨t307, A9, H⟩ := bo_ H
      have H' := as_ H
      clear H
      go_wp2_with (first | ((with_reducible refine gate_builtin (b := .append) (xs := #[.tmp 16, .tmp 18]) rfl ?_); at_builtin; refine Kd.R_append (Kd.int .i64) (w0 := w) w.heap.size rfl (.tmp 16) (.tmp 18) 24 2 (.int .i64 0) 8 rfl Try.underlying24 info2 rfl (by decide) (by omega) u5 x5_1 x6_1 [.int .i64 x6_1] (fun _ => True) (fun _ => False) rfl rfl ?aP (fun _ hk => hk.elim) ?aF ?aO ?aB ?aS ?aL ?_; (case aP => exact rfl); (case aB => exact (b_ HB)); (case aF => exact (fun _ _ => trivial)); (case aO => exact (bR_ HO_5)); (case aS => exact (below_size (b_ HB))); (case aL => have := LMc8.out; omega); intro v305 w10 ho hb hg hat; rw [← Ny304.out] at ho; replace HB := as_ (hb); have HO306 := as_ (ho); clear HO_5; clear ho hb hg hat) | ((with_reducible refine gate_callee (f := 75) rfl ?_); refine gL_ 22 Try.func75 #[.slice (some ad303) l0.length c0, .int .i64 x6_1] ?_; (with_reducible refine (impl_endOf.calls k1 _ _ l0 x6_1 t307 _ ?side1 ?side2 A9.out).mono ?_); (case side1 => exact bC_ HR0 HB); (case side2 => exact HC0.out); rintro e w' ⟨rfl, ⟨nd, rfl⟩⟩; refine ⟨_, rfl, ?_⟩))
      go_roundg k1
      case measure => have := HK1.out; omega
      case rel => exact ⟨(y304), (t307), (wrap64 (x14_1 + 1)), rf_, rf_, H', om_ HK1, ⟨bR_ HO306⟩, ⟨b_ HB⟩⟩

def impl_binaryOf.f : Nat → List Int → List Int → Option (ByteArray)
  | 0, _, _ => none
  | k + 1, l0, l1 => if (l1.length : Int) = 0 then (some (⟨#[48]⟩ : ByteArray)) else (if 0 < (l1.length : Int) then ((impl_kidsOf.f k l0 (rd l1 0)).bind fun t309 => ((impl_binaryOf.f k l0 t309).bind fun t312 => (if 1 + t312.size ≤ 9223372036854775807 then (if 1 ≤ (l1.length : Int) then ((impl_binaryOf.f k l0 (l1.drop 1)).bind fun t314 => (if ((⟨#[49]⟩ : ByteArray) ++ t312).size + t314.size ≤ 9223372036854775807 then (some (((⟨#[49]⟩ : ByteArray) ++ t312) ++ t314)) else (none))) else (none)) else (none)))) else (none))
def impl_binaryOf.T3 : Bool × List (List Nat × List Nat) := (true, [([], []), ([], []), ([], []), ([2], [2]), ([3], [3]), ([1, 4], [1, 4]), ([0, 5, 5], [0, 5]), ([6], [6]), ([], []), ([], []), ([9], [9]), ([8, 10, 6], [8, 10]), ([7, 11], [7, 11]), ([12, 11, 0, 1, 2, 3, 4, 5, 6, 7, 8, 9, 10, 11, 12], [12])])
def impl_binaryOf.B3 : List Nat := [0, 0, 0, 4, 12, 30, 63, 127, 0, 0, 512, 1919, 4095, 8191]
theorem impl_binaryOf.tab3 : rtab .any (opsOf Try.f39 3) = impl_binaryOf.T3 := by kernel_rfl
theorem impl_binaryOf.bits3 : waitsOk impl_binaryOf.T3.2 impl_binaryOf.B3 = true := by kernel_rfl
theorem impl_binaryOf.calls (k : Nat) : ∀ (A0 : Option Addr) (c0 : Nat) (l0 : List Int) (A1 : Option Addr) (c1 : Nat) (l1 : List Int) (r : ByteArray) (w : World) (hr0 : Kd.C (Kd.int .i64) w A0 l0.length l0) (hc0 : l0.length ≤ c0) (hr1 : Kd.C (Kd.int .i64) w A1 l1.length l1) (hc1 : l1.length ≤ c1) (h : impl_binaryOf.f k l0 l1 = some r),
    Calls Try.prog 39 #[.slice A0 l0.length c0, .slice A1 l1.length c1] w fun e w' => e = .returned (.string r) ∧ Below w.heap.size w w' := by
  induction k using Nat.strongRecOn with
  | _ k ih =>
  intro A0 c0 l0 A1 c1 l1 r w hr0 hc0 hr1 hc1 h
  cases k with
  | zero => exact absurd h (by simp [impl_binaryOf.f])
  | succ k =>
  simp only [impl_binaryOf.f] at h
  have HR0 := as_ hr0
  have HC0 := as_ hc0
  clear hr0 hc0
  have HR1 := as_ hr1
  have HC1 := as_ hc1
  clear hr1 hc1
  have HB := as_ (Below.refl w.heap.size w)
  have H : (if (l1.length : Int) = 0 then (some (⟨#[48]⟩ : ByteArray)) else (if 0 < (l1.length : Int) then ((impl_kidsOf.f k l0 (rd l1 0)).bind fun t309 => ((impl_binaryOf.f k l0 t309).bind fun t312 => (if 1 + t312.size ≤ 9223372036854775807 then (if 1 ≤ (l1.length : Int) then ((impl_binaryOf.f k l0 (l1.drop 1)).bind fun t314 => (if ((⟨#[49]⟩ : ByteArray) ++ t312).size + t314.size ≤ 9223372036854775807 then (some (((⟨#[49]⟩ : ByteArray) ++ t312) ++ t314)) else (none))) else (none)) else (none)))) else (none))) = some r := h
  clear h
  by_cases c3 : (l1.length : Int) = 0
  · rw [if_pos c3] at H
    have c3b0 := beq_iff_eq.mpr c3
    have c3b1 := bne_eq_false_iff_eq.mpr c3
    clear c3
    obtain rfl := Option.some.inj H
    go_enter Try.func39, Try.ntmps39
    go_wp2
    go_ret
    exact ⟨re_, b_ HB⟩
  rw [if_neg c3] at H
  have c3b0 := beq_eq_false_iff_ne.mpr c3
  have c3b1 := bne_iff_ne.mpr c3
  have c3b2 : ¬ (l1 = []) := fun h_ => c3 (by rw [h_]; rfl)
  obtain ⟨c4, H⟩ := ite_s H
  have c4b0 : decide (0 < (l1.length : Int)) = true := decide_eq_true c4
  have c4b1 : decide (0 < l1.length) = true := decide_eq_true (by omega)
  clear c4
  obtain ⟨t309, A5, H⟩ := bo_ H
  obtain ⟨t312, A6, H⟩ := bo_ H
  obtain ⟨c7, H⟩ := ite_s H
  have c7b0 := eq_true c7
  have c7b1 := decide_eq_true c7
  try have c7b2 : (9223372036854775807 < 1 + t312.size) = False := eq_false (Nat.not_lt.2 c7)
  obtain ⟨c8, H⟩ := ite_s H
  have c8b0 := eq_true c8
  have c8b1 := decide_eq_true c8
  clear c8
  obtain ⟨t314, A9, H⟩ := bo_ H
  obtain ⟨c10, H⟩ := ite_s H
  have c10b0 := eq_true c10
  have c10b1 := decide_eq_true c10
  try have c10b2 : (9223372036854775807 < ((⟨#[49]⟩ : ByteArray) ++ t312).size + t314.size) = False := eq_false (Nat.not_lt.2 c10)
  try have c10b3 : (9223372036854775807 < 1 + t312.size + t314.size) = False := eq_false (by have z_ := c10; simp only [ByteArray.size_append, ByteArray.size_extract, decide_eq_true_eq, eq_iff_iff, iff_true, (show (⟨#[49]⟩ : ByteArray).size = 1 from rfl)] at *; first | omega | (simp at z_; omega))
  obtain rfl := Option.some.inj H
  go_enter Try.func39, Try.ntmps39
  try go_wp2
  replace HB := db_ HB
  have p308 : 0 ≤ (0 : Int) := (by omega)
  have q308 : 0 < (l1.length : Int) := od_
  obtain ⟨ad308, e308, hx308_0⟩ := Kd.at_int HR1.out 0 p308 q308
  have hw308_0 := hx308_0
  (try rw [show ((0 : Int)).toNat = 0 from rfl] at hw308_0)
  (try rw [show 0 * 1 = 0 from rfl] at hw308_0)
  (try rw [Addr.add_zero'] at hw308_0)
  cases e308
  have qi308 : (0 < l1.length) = True := eq_true (by omega)
  (try rw [show ((0 : Int)).toNat = 0 from rfl] at hx308_0)
  (try rw [Addr.add_zero'] at hx308_0)
  try replace hx308_0 := hx_ HB hx308_0
  replace p308 := eq_true p308
  replace q308 := eq_true q308
  obtain ⟨i012, hi012, _, hsz12, _⟩ := info_parts info2
  obtain ⟨A12, hcut12, hA12, hC12⟩ := print_drop_of (P := Try.prog) (Value.int .i64) 0 24 2 .i64 Try.underlying24 hi012 hsz12 (some ad308) c1 l1 1 (by omega) (od_) HC1.out
  have HR313 := as_ (Kd.C_of_reads (h1 := fun _ => rfl) (hA12 _ (Kd.reads_of_C HR1.out)))
  have HC313 := as_ hC12
  clear hA12 hC12 hi012 hsz12
  refine start_ (n := 14) (S := fun w' => w'.cell? ad308 = some (.int .i64 (rd l1 0))) (ds := []) #[false, false, false, false, false, false, false, false, false, false, false, false, false, false] (by kernel_rfl) rfl rfl (((HB.out.cell (World.block_lt_of_cell? w _ hw308_0)).trans hw308_0)) (fun hHeld => ?_); refine with_tabW impl_binaryOf.tab3 impl_binaryOf.bits3 (fun HT_ HW_ => ?_)
  generalize w.drew = w11 at HB HR313 hx308_0 hHeld ⊢
  refine pu_ 0 8 HT_ ?_
  refine pu_ 1 9 HT_ ?_
  refine pu_ 2 10 HT_ ?_
  refine pu_ 3 11 HT_ ?_
  refine pu_ 8 16 HT_ ?_
  refine pu_ 9 17 HT_ ?_
  refine pu_ 10 18 HT_ ?_
  refine take_ (i := 4) (N := some 12) (v := ?_) (a' := ?_) #[true, true, true, true, true, false, false, false, true, true, true, false, false, false] rfl rfl (take_ofW HT_.out HW_.out (by kernel_rfl)) (fun _ _ _ h => h) (Or.inl ⟨by rfl, ?_⟩) hHeld ?_ ?_
  rotate_left
  · intro w' s0
    go_simp
    with_reducible rfl
  rotate_left
  · simp only [Act.put, List.setIfInBounds_toArray, List.set_cons_zero, List.set_cons_succ, i64_w, i32_w]
    rfl
  refine on_ 5 (some 13) HT_ fun K hK => ?_
  refine gR_ Try.func40 #[.slice A0 l0.length c0, .int .i64 (rd l1 0)] ?_
  with_reducible refine (impl_kidsOf.calls k _ _ l0 (rd l1 0) t309 _ ?side1 ?side2 A5.out).mono ?_
  (case side1 => exact bC_ HR0 HB)
  (case side2 => exact HC0.out)
  rintro e w13 ⟨v310, rfl, ho0, hb⟩
  refine ⟨_, rfl, ?_⟩
  have HO311 := as_ (Kd.R_lower ho0 (below_size (b_ HB))); replace HB := as_ (below_step (b_ HB) hb)
  clear hb ho0
  obtain ⟨Ao14, co14, eo14⟩ := Kd.R_slice HO311.out
  (first | subst eo14 | (injection eo14 with f1_ f2_ f3_; have f4_ := f1_.symm; have f5_ := f3_.symm; clear f1_ f2_ f3_; subst f4_; subst f5_))
  refine hK.out _ _ (((HB.out.cell (World.block_lt_of_cell? w _ hw308_0)).trans hw308_0)) (fun hHeld => ?_)
  clear hK K
  refine nm_ 13 ?_
  refine on_ 6 (some 14) HT_ fun K hK => ?_
  refine gR_ Try.func39 #[.slice A0 l0.length c0, .slice Ao14 t309.length co14] ?_
  with_reducible refine (ih k (by omega) _ _ l0 _ _ t309 t312 _ ?side1 ?side2 ?side3 ?side4 A6.out).mono ?_
  (case side1 => exact bC_ HR0 HB)
  (case side2 => exact HC0.out)
  (case side3 => exact cC_ (Kd.R_reads' HO311.out).2.2)
  (case side4 => exact (Kd.R_reads' HO311.out).2.1)
  rintro e w15 ⟨rfl, hb⟩
  refine ⟨_, rfl, ?_⟩
  replace HO311 := rb_ HO311 hb; replace HB := as_ (below_step (b_ HB) hb)
  clear hb
  refine hK.out _ _ (((HB.out.cell (World.block_lt_of_cell? w _ hw308_0)).trans hw308_0)) (fun hHeld => ?_)
  clear hK K
  refine nm_ 14 ?_
  refine pu_ 7 15 HT_ ?_
  refine on_ 11 (some 19) HT_ fun K hK => ?_
  refine gR_ Try.func39 #[.slice A0 l0.length c0, .slice A12 (l1.drop 1).length (c1 - 1)] ?_ (hargs := (by (try simp only [List.map_toArray, List.map_cons, List.map_nil]); first | done | (rw [show (l1.drop 1).length = (l1.length - 1) from List.length_drop] <;> rfl) | rfl | (simp only [List.length_drop, List.length_take]; rfl)))
  with_reducible refine (ih k (by omega) _ _ l0 _ _ (l1.drop 1) t314 _ ?side1 ?side2 ?side3 ?side4 A9.out).mono ?_
  (case side1 => exact bC_ HR0 HB)
  (case side2 => exact HC0.out)
  (case side3 => exact bC_ HR313 HB)
  (case side4 => exact HC313.out)
  rintro e w16 ⟨rfl, hb⟩
  refine ⟨_, rfl, ?_⟩
  replace HO311 := rb_ HO311 hb; replace HB := as_ (below_step (b_ HB) hb)
  clear hb
  refine hK.out _ _ (((HB.out.cell (World.block_lt_of_cell? w _ hw308_0)).trans hw308_0)) (fun hHeld => ?_)
  clear hK K
  refine nm_ 19 ?_
  refine pu_ 12 20 HT_ ?_
  refine pu_ 13 4 HT_ ?_
  refine dn_ HT_ ?_
  try go_wp2
  go_ret
  exact ⟨re_, b_ HB⟩

def impl_BinaryOf.f (k : Nat) (l0_0 : List Int) : Option (ByteArray × Int) := (impl_IsTree.f k l0_0).bind fun t316 => (if t316 = true then ((impl_kidsOf.f k l0_0 0).bind fun t317 => ((impl_binaryOf.f k l0_0 t317).bind fun t320 => (some (t320, 0)))) else (some ((⟨#[]⟩ : ByteArray), 1)))
def impl_BinaryOf.T3 : Bool × List (List Nat × List Nat) := (true, [([], []), ([0], [0]), ([], []), ([2], [2]), ([3], [3]), ([1, 4, 4], [1, 4]), ([5, 5, 0, 1, 2, 3, 4, 5], [5]), ([6, 0, 1, 2, 3, 4, 5, 6], [])])
def impl_BinaryOf.B3 : List Nat := [0, 1, 0, 4, 12, 31, 63, 127]
theorem impl_BinaryOf.tab3 : rtab .any (opsOf Try.f6 3) = impl_BinaryOf.T3 := by kernel_rfl
theorem impl_BinaryOf.bits3 : waitsOk impl_BinaryOf.T3.2 impl_BinaryOf.B3 = true := by kernel_rfl
theorem impl_BinaryOf.calls (k : Nat) (A0_0 : Option Addr) (c0_0 : Nat) (l0_0 : List Int) (r1 : ByteArray) (r2 : Int) (w : World) (hr0_0 : Kd.C (Kd.int .i64) w A0_0 l0_0.length l0_0) (hc0_0 : l0_0.length ≤ c0_0) (h : impl_BinaryOf.f k l0_0 = some (r1, r2)) :
    Calls Try.prog 6 #[.agg #[.slice A0_0 l0_0.length c0_0]] w fun e w' => e = .returned (.tuple #[.string r1, .int .i64 r2]) ∧ Below w.heap.size w w' := by
  have hu26 := Try.underlying26
  have HR0_0 := as_ hr0_0
  have HC0_0 := as_ hc0_0
  clear hr0_0 hc0_0
  have HB := as_ (Below.refl w.heap.size w)
  have H : ((impl_IsTree.f k l0_0).bind fun t316 => (if t316 = true then ((impl_kidsOf.f k l0_0 0).bind fun t317 => ((impl_binaryOf.f k l0_0 t317).bind fun t320 => (some (t320, 0)))) else (some ((⟨#[]⟩ : ByteArray), 1)))) = some (r1, r2) := h
  clear h
  obtain ⟨t316, A2, H⟩ := bo_ H
  by_cases c3 : t316 = true
  rotate_left
  · replace c3 := Bool.eq_false_iff.mpr c3
    subst c3
    replace H := if_ H
    simp only [Option.some.injEq, Prod.mk.injEq] at H
    obtain ⟨rfl, rfl⟩ := H
    go_enter Try.func6, Try.ntmps6
    go_wp2_with (first | ((with_reducible refine gate_dst (N := 1) rfl ?_); refine bx_ 1 #[.slice A0_0 l0_0.length c0_0] 26 ?_; intro gb315 hg w13 hbox hb; have BK315 := as_ (hbox); have GW315 := gz_ hg (b_ HB); have GE315 := GW315; replace HB := as_ (below_step (b_ HB) hb); clear hb hbox hg; obtain ⟨hcz14_0, hfz14_0⟩ := tc1_ BK315) | ((with_reducible refine gate_callee (f := 38) rfl ?_); refine gL_ 5 Try.func38 #[.agg #[.slice A0_0 l0_0.length c0_0]] ?_; (with_reducible refine (impl_IsTree.calls k _ _ l0_0 false _ ?side1 ?side2 A2.out).mono ?_); (case side1 => exact bC_ HR0_0 HB); (case side2 => exact HC0_0.out); rintro e w15 ⟨rfl, hb⟩; refine ⟨_, rfl, ?_⟩; replace BK315 := kb_ BK315 hb; replace HB := as_ (below_step (b1_ HB GE315) hb); clear hb))
    go_ret2
    exact ⟨re_, b1_ HB GE315⟩
  subst c3
  replace H := it_ H
  obtain ⟨t317, A4, H⟩ := bo_ H
  obtain ⟨t320, A5, H⟩ := bo_ H
  simp only [Option.some.injEq, Prod.mk.injEq] at H
  obtain ⟨rfl, rfl⟩ := H
  go_enter Try.func6, Try.ntmps6
  try go_wp2_with (first | ((with_reducible refine gate_dst (N := 1) rfl ?_); refine bx_ 1 #[.slice A0_0 l0_0.length c0_0] 26 ?_; intro gb315 hg w6 hbox hb; have BK315 := as_ (hbox); have GW315 := gz_ hg (b_ HB); have GE315 := GW315; replace HB := as_ (below_step (b_ HB) hb); clear hb hbox hg; obtain ⟨hcz7_0, hfz7_0⟩ := tc1_ BK315) | ((with_reducible refine gate_callee (f := 38) rfl ?_); refine gL_ 5 Try.func38 #[.agg #[.slice A0_0 l0_0.length c0_0]] ?_; (with_reducible refine (impl_IsTree.calls k _ _ l0_0 true _ ?side1 ?side2 A2.out).mono ?_); (case side1 => exact bC_ HR0_0 HB); (case side2 => exact HC0_0.out); rintro e w8 ⟨rfl, hb⟩; refine ⟨_, rfl, ?_⟩; replace BK315 := kb_ BK315 hb; replace HB := as_ (below_step (b1_ HB GE315) hb); clear hb))
  replace BK315 := dk_ BK315; replace HB := db_ HB
  refine start_ (n := 8) (S := fun w' => w'.cell? ⟨gb315, 0, none⟩ = some (.slice A0_0 l0_0.length c0_0)) (ds := []) #[false, false, false, false, false, false, false, false] (by kernel_rfl) rfl rfl ((blk_cell BK315.out 0).trans rfl) (fun hHeld => ?_); refine with_tabW impl_BinaryOf.tab3 impl_BinaryOf.bits3 (fun HT_ HW_ => ?_)
  generalize w8.drew = w9 at BK315 HB hHeld ⊢
  refine pu_ 0 7 HT_ ?_
  refine pu_ 2 9 HT_ ?_
  refine take_ (i := 1) (N := some 8) (v := ?_) (a' := ?_) #[true, true, true, false, false, false, false, false] rfl rfl (take_ofW HT_.out HW_.out (by kernel_rfl)) (fun _ _ _ h => h) (Or.inl ⟨by rfl, ?_⟩) hHeld ?_ ?_
  rotate_left
  · intro w' s0
    go_simp
    with_reducible rfl
  rotate_left
  · simp only [Act.put, List.setIfInBounds_toArray, List.set_cons_zero, List.set_cons_succ, i64_w, i32_w]
    rfl
  refine take_ (i := 3) (N := some 10) (v := ?_) (a' := ?_) #[true, true, true, true, false, false, false, false] rfl rfl (take_ofW HT_.out HW_.out (by kernel_rfl)) (fun _ _ _ h => h) (Or.inl ⟨by rfl, ?_⟩) hHeld ?_ ?_
  rotate_left
  · intro w' s0
    go_simp
    with_reducible rfl
  rotate_left
  · simp only [Act.put, List.setIfInBounds_toArray, List.set_cons_zero, List.set_cons_succ, i64_w, i32_w]
    rfl
  refine on_ 4 (some 11) HT_ fun K hK => ?_
  refine gR_ Try.func40 #[.slice A0_0 l0_0.length c0_0, .int .i64 0] ?_
  with_reducible refine (impl_kidsOf.calls k _ _ l0_0 0 t317 _ ?side1 ?side2 A4.out).mono ?_
  (case side1 => exact bC_ HR0_0 HB)
  (case side2 => exact HC0_0.out)
  rintro e w10 ⟨v318, rfl, ho0, hb⟩
  refine ⟨_, rfl, ?_⟩
  have HO319 := as_ (Kd.R_lower ho0 (below_size (b1_ HB GE315))); replace BK315 := kb_ BK315 hb; replace HB := as_ (below_step (b1_ HB GE315) hb)
  clear hb ho0
  obtain ⟨Ao11, co11, eo11⟩ := Kd.R_slice HO319.out
  (first | subst eo11 | (injection eo11 with f1_ f2_ f3_; have f4_ := f1_.symm; have f5_ := f3_.symm; clear f1_ f2_ f3_; subst f4_; subst f5_))
  refine hK.out _ _ ((blk_cell BK315.out 0).trans rfl) (fun hHeld => ?_)
  clear hK K
  refine nm_ 11 ?_
  refine on_ 5 (some 12) HT_ fun K hK => ?_
  refine gR_ Try.func39 #[.slice A0_0 l0_0.length c0_0, .slice Ao11 t317.length co11] ?_
  with_reducible refine (impl_binaryOf.calls k _ _ l0_0 _ _ t317 t320 _ ?side1 ?side2 ?side3 ?side4 A5.out).mono ?_
  (case side1 => exact bC_ HR0_0 HB)
  (case side2 => exact HC0_0.out)
  (case side3 => exact cC_ (Kd.R_reads' HO319.out).2.2)
  (case side4 => exact (Kd.R_reads' HO319.out).2.1)
  rintro e w12 ⟨rfl, hb⟩
  refine ⟨_, rfl, ?_⟩
  replace HO319 := rb_ HO319 hb; replace BK315 := kb_ BK315 hb; replace HB := as_ (below_step (b1_ HB GE315) hb)
  clear hb
  refine hK.out _ _ ((blk_cell BK315.out 0).trans rfl) (fun hHeld => ?_)
  clear hK K
  refine nm_ 12 ?_
  refine pu_ 6 2 HT_ ?_
  refine pu_ 7 3 HT_ ?_
  refine dn_ HT_ ?_
  try go_wp2
  go_ret2
  exact ⟨re_, b1_ HB GE315⟩

def spec_l01In.f (a0 : Int) (a1 : Int) (a2 : Int) : Option (Bool) := if a0 ≥ a1 then (some (decide (a0 ≤ a2))) else (some false)
theorem spec_l01In.calls (a0 : Int) (a1 : Int) (a2 : Int) (r : Bool) (w : World) (h : spec_l01In.f a0 a1 a2 = some r) :
    Calls Try.prog 68 #[.int .i64 a0, .int .i64 a1, .int .i64 a2] w fun e w' => e = .returned (.bool r) ∧ Drawn0 w w' := by
  have H : (if a0 ≥ a1 then (some (decide (a0 ≤ a2))) else (some false)) = some r := h
  clear h
  by_cases c4 : a0 ≥ a1
  · rw [if_pos c4] at H
    have c4b0 := decide_eq_true c4
    clear c4
    obtain rfl := Option.some.inj H
    go_enter Try.func68, Try.ntmps68
    go_wp2
    go_ret
    exact ⟨rf_, d0_⟩
  rw [if_neg c4] at H
  have c4b0 := decide_eq_false c4
  clear c4
  obtain rfl := Option.some.inj H
  go_enter Try.func68, Try.ntmps68
  go_wp2
  go_ret
  exact ⟨rf_, d0_⟩

def spec_l01Is.l0 : Nat → Int → Int → List Int → Option (Bool)
  | 0, _, _, _ => none
  | k + 1, x3, x4, x322000 => if x4 < (x322000.length : Int) then (if x3 = 0 then (some false) else (if 0 ≤ x4 then ((spec_l01In.f (rd x322000 x4) 0 24).bind fun t325 => (if t325 = true then (spec_l01Is.l0 k (wrap64 ((wrap64 (x3 - 1)) + (rd x322000 x4))) (wrap64 (x4 + 1)) x322000) else (some false))) else (none))) else (some (x3 == 0))
def spec_l01Is.f (k : Nat) (l0_0 : List Int) : Option (Bool) := (spec_l01N.f l0_0).bind fun t322 => ((spec_l01In.f t322 1 24).bind fun t323 => (if t323 = true then (spec_l01Is.l0 k 1 0 l0_0) else (some false)))
theorem spec_l01Is.calls (k : Nat) (A0_0 : Option Addr) (c0_0 : Nat) (l0_0 : List Int) (r : Bool) (w : World) (hr0_0 : Kd.C (Kd.int .i64) w A0_0 l0_0.length l0_0) (hc0_0 : l0_0.length ≤ c0_0) (h : spec_l01Is.f k l0_0 = some r) :
    Calls Try.prog 41 #[.agg #[.slice A0_0 l0_0.length c0_0]] w fun e w' => e = .returned (.bool r) ∧ Below w.heap.size w w' := by
  have hu26 := Try.underlying26
  have HR0_0 := as_ hr0_0
  have HC0_0 := as_ hc0_0
  clear hr0_0 hc0_0
  have HB := as_ (Below.refl w.heap.size w)
  have H : ((spec_l01N.f l0_0).bind fun t322 => ((spec_l01In.f t322 1 24).bind fun t323 => (if t323 = true then (spec_l01Is.l0 k 1 0 l0_0) else (some false)))) = some r := h
  clear h
  obtain ⟨t322, A2, H⟩ := bo_ H
  obtain ⟨t323, A3, H⟩ := bo_ H
  by_cases c4 : t323 = true
  rotate_left
  · replace c4 := Bool.eq_false_iff.mpr c4
    subst c4
    replace H := if_ H
    obtain rfl := Option.some.inj H
    go_enter Try.func41, Try.ntmps41
    go_wp2_with (first | ((with_reducible refine gate_dst (N := 1) rfl ?_); refine bx_ 1 #[.slice A0_0 l0_0.length c0_0] 26 ?_; intro gb321 hg w17 hbox hb; have BK321 := as_ (hbox); have GW321 := gz_ hg (b_ HB); have GE321 := GW321; replace HB := as_ (below_step (b_ HB) hb); clear hb hbox hg; obtain ⟨hcz18_0, hfz18_0⟩ := tc1_ BK321) | ((with_reducible refine gate_callee (f := 76) rfl ?_); refine gL_ 6 Try.func76 #[.agg #[.slice A0_0 l0_0.length c0_0]] ?_; (with_reducible refine (spec_l01N.calls _ _ l0_0 t322 _ ?side1 ?side2 A2.out).mono ?_); (case side1 => exact bC_ HR0_0 HB); (case side2 => exact HC0_0.out); rintro e w19 ⟨rfl, hb⟩; refine ⟨_, rfl, ?_⟩; replace BK321 := kb_ BK321 hb; replace HB := as_ (below_step (b1_ HB GE321) hb); clear hb) | ((with_reducible refine gate_callee (f := 68) rfl ?_); refine gL_ 7 Try.func68 #[.int .i64 t322, .int .i64 1, .int .i64 24] ?_; (with_reducible refine (spec_l01In.calls t322 1 24 false _ A3.out).mono ?_); rintro e w' ⟨rfl, ⟨nd, rfl⟩⟩; refine ⟨_, rfl, ?_⟩))
    go_ret
    exact ⟨re_, b1_ HB GE321⟩
  subst c4
  replace H := it_ H
  have H' := as_ H
  clear H
  go_enter Try.func41, Try.ntmps41
  go_wp2_with (first | ((with_reducible refine gate_dst (N := 1) rfl ?_); refine bx_ 1 #[.slice A0_0 l0_0.length c0_0] 26 ?_; intro gb321 hg w5 hbox hb; have BK321 := as_ (hbox); have GW321 := gz_ hg (b_ HB); have GE321 := GW321; replace HB := as_ (below_step (b_ HB) hb); clear hb hbox hg; obtain ⟨hcz6_0, hfz6_0⟩ := tc1_ BK321) | ((with_reducible refine gate_callee (f := 76) rfl ?_); refine gL_ 6 Try.func76 #[.agg #[.slice A0_0 l0_0.length c0_0]] ?_; (with_reducible refine (spec_l01N.calls _ _ l0_0 t322 _ ?side1 ?side2 A2.out).mono ?_); (case side1 => exact bC_ HR0_0 HB); (case side2 => exact HC0_0.out); rintro e w7 ⟨rfl, hb⟩; refine ⟨_, rfl, ?_⟩; replace BK321 := kb_ BK321 hb; replace HB := as_ (below_step (b1_ HB GE321) hb); clear hb) | ((with_reducible refine gate_callee (f := 68) rfl ?_); refine gL_ 7 Try.func68 #[.int .i64 t322, .int .i64 1, .int .i64 24] ?_; (with_reducible refine (spec_l01In.calls t322 1 24 true _ A3.out).mono ?_); rintro e w' ⟨rfl, ⟨nd, rfl⟩⟩; refine ⟨_, rfl, ?_⟩))
  go_loopg [3, 4] k (fun kq v3 v4 w' => ∃ (x3_1 : Int) (x4_1 : Int), v3 = .int .i64 x3_1 ∧ v4 = .int .i64 x4_1 ∧ Aside0 (spec_l01Is.l0 kq x3_1 x4_1 l0_0 = some r) ∧ Aside0 (kq ≤ k) ∧ Aside0 (w'.heap[gb321]? = some (.cells #[(.slice A0_0 l0_0.length c0_0)] 26 (0, 0))) ∧ Aside0 (Below w.heap.size w w'))
  case atStart => exact ⟨(1), (0), rf_, rf_, H', ⟨Nat.le_refl _⟩, ⟨bk_ BK321⟩, ⟨b1_ HB GE321⟩⟩
  case round =>
    clear H'
    (try clear p2); (try clear c4); (try clear c6); (try clear c7); (try clear hcz6_0); (try clear hfz6_0)
    obtain ⟨x3_1, x4_1, rfl, rfl, HA, HK1, BK321, HB⟩ := hrel
    cases gk with
    | zero => exact absurd HA.out (by simp [spec_l01Is.l0])
    | succ k1 =>
      have H := HA.out
      clear HA
      simp only [spec_l01Is.l0] at H
      by_cases c8 : x4_1 < (l0_0.length : Int)
      rotate_left
      · rw [if_neg c8] at H
        have c8b0 := decide_eq_false c8
        clear c8
        obtain rfl := Option.some.inj H
        obtain ⟨hcz16_0, hfz16_0⟩ := tc1_ BK321
        go_wp2
        go_ret
        exact ⟨re_, b1_ HB GE321⟩
      rw [if_pos c8] at H
      have c8b0 := decide_eq_true c8
      clear c8
      by_cases c9 : x3_1 = 0
      · rw [if_pos c9] at H
        have c9b0 := beq_iff_eq.mpr c9
        have c9b1 := bne_eq_false_iff_eq.mpr c9
        clear c9
        obtain rfl := Option.some.inj H
        obtain ⟨hcz10_0, hfz10_0⟩ := tc1_ BK321
        go_wp2
        go_ret
        exact ⟨re_, b1_ HB GE321⟩
      rw [if_neg c9] at H
      have c9b0 := beq_eq_false_iff_ne.mpr c9
      have c9b1 := bne_iff_ne.mpr c9
      obtain ⟨c11b0, H⟩ := ite_d H
      obtain ⟨t325, A12, H⟩ := bo_ H
      by_cases c13 : t325 = true
      · subst c13
        replace H := it_ H
        have H' := as_ H
        clear H
        obtain ⟨hcz14_0, hfz14_0⟩ := tc1_ BK321
        have p324 : 0 ≤ (x4_1 : Int) := od_
        have q324 : x4_1 < (l0_0.length : Int) := od_
        obtain ⟨ad324, e324, hx324_0⟩ := Kd.at_int HR0_0.out x4_1 p324 q324
        cases e324
        try replace hx324_0 := hx_ HB hx324_0
        replace p324 := eq_true p324
        replace q324 := eq_true q324
        go_wp2_with (first | (go_at_call 68; (with_reducible refine (spec_l01In.calls (rd l0_0 x4_1) 0 24 true _ A12.out).mono ?_); rintro e w' ⟨rfl, ⟨nd, rfl⟩⟩; have p326 : 0 ≤ (x4_1 : Int) := od_; have q326 : x4_1 < (l0_0.length : Int) := od_; obtain ⟨ad326, e326, hx326_0⟩ := Kd.at_int HR0_0.out x4_1 p326 q326; obtain rfl : ad324 = ad326 := (by injection e326); replace hx326_0 := (HB.out.cell (World.block_lt_of_cell? w _ hx326_0)).trans hx326_0; replace p326 := eq_true p326; replace q326 := eq_true q326))
        go_roundg k1
        case measure => have := HK1.out; omega
        case rel => exact ⟨(wrap64 ((wrap64 (x3_1 - 1)) + (rd l0_0 x4_1))), (wrap64 (x4_1 + 1)), rf_, rf_, H', om_ HK1, ⟨bk_ BK321⟩, ⟨b1_ HB GE321⟩⟩
      replace c13 := Bool.eq_false_iff.mpr c13
      subst c13
      replace H := if_ H
      obtain rfl := Option.some.inj H
      obtain ⟨hcz15_0, hfz15_0⟩ := tc1_ BK321
      have p324 : 0 ≤ (x4_1 : Int) := od_
      have q324 : x4_1 < (l0_0.length : Int) := od_
      obtain ⟨ad324, e324, hx324_0⟩ := Kd.at_int HR0_0.out x4_1 p324 q324
      cases e324
      try replace hx324_0 := hx_ HB hx324_0
      replace p324 := eq_true p324
      replace q324 := eq_true q324
      go_wp2_with (first | (go_at_call 68; (with_reducible refine (spec_l01In.calls (rd l0_0 x4_1) 0 24 false _ A12.out).mono ?_); rintro e w' ⟨rfl, ⟨nd, rfl⟩⟩))
      go_ret
      exact ⟨re_, b1_ HB GE321⟩

def spec_l01End.l0 : Nat → Int → Int → List Int → Option (Int)
  | 0, _, _, _ => none
  | k + 1, x1, x5, x328000 => if x5 > 0 then (if 0 ≤ x1 then (if x1 < (x328000.length : Int) then (spec_l01End.l0 k (wrap64 (x1 + 1)) (wrap64 ((wrap64 (x5 - 1)) + (rd x328000 x1))) x328000) else (none)) else (none)) else (some x1)
def spec_l01End.f (k : Nat) (l0_0 : List Int) (a1 : Int) : Option (Int) := spec_l01End.l0 k a1 1 l0_0
theorem spec_l01End.calls (k : Nat) (A0_0 : Option Addr) (c0_0 : Nat) (l0_0 : List Int) (a1 : Int) (r : Int) (w : World) (hr0_0 : Kd.C (Kd.int .i64) w A0_0 l0_0.length l0_0) (hc0_0 : l0_0.length ≤ c0_0) (h : spec_l01End.f k l0_0 a1 = some r) :
    Calls Try.prog 77 #[.agg #[.slice A0_0 l0_0.length c0_0], .int .i64 a1] w fun e w' => e = .returned (.int .i64 r) ∧ Below w.heap.size w w' := by
  have hu26 := Try.underlying26
  have HR0_0 := as_ hr0_0
  have HC0_0 := as_ hc0_0
  clear hr0_0 hc0_0
  have HB := as_ (Below.refl w.heap.size w)
  have H : (spec_l01End.l0 k a1 1 l0_0) = some r := h
  clear h
  have H' := as_ H
  clear H
  go_enter Try.func77, Try.ntmps77
  go_wp2_with (first | ((with_reducible refine gate_dst (N := 2) rfl ?_); refine bx_ 2 #[.slice A0_0 l0_0.length c0_0] 26 ?_; intro gb327 hg w3 hbox hb; have BK327 := as_ (hbox); have GW327 := gz_ hg (b_ HB); have GE327 := GW327; replace HB := as_ (below_step (b_ HB) hb); clear hb hbox hg))
  go_loopg [1, 5] k (fun kq v1 v5 w' => ∃ (x1_1 : Int) (x5_1 : Int), v1 = .int .i64 x1_1 ∧ v5 = .int .i64 x5_1 ∧ Aside0 (spec_l01End.l0 kq x1_1 x5_1 l0_0 = some r) ∧ Aside0 (kq ≤ k) ∧ Aside0 (w'.heap[gb327]? = some (.cells #[(.slice A0_0 l0_0.length c0_0)] 26 (0, 0))) ∧ Aside0 (Below w.heap.size w w'))
  case atStart => exact ⟨(a1), (1), rf_, rf_, H', ⟨Nat.le_refl _⟩, ⟨bk_ BK327⟩, ⟨b1_ HB GE327⟩⟩
  case round =>
    clear H'
    try clear p2
    obtain ⟨x1_1, x5_1, rfl, rfl, HA, HK1, BK327, HB⟩ := hrel
    cases gk with
    | zero => exact absurd HA.out (by simp [spec_l01End.l0])
    | succ k1 =>
      have H := HA.out
      clear HA
      simp only [spec_l01End.l0] at H
      by_cases c4 : x5_1 > 0
      rotate_left
      · rw [if_neg c4] at H
        have c4b0 : decide (0 < x5_1) = false := decide_eq_false c4
        clear c4
        obtain rfl := Option.some.inj H
        go_wp2
        go_ret
        exact ⟨re_, b1_ HB GE327⟩
      rw [if_pos c4] at H
      have c4b0 : decide (0 < x5_1) = true := decide_eq_true c4
      clear c4
      obtain ⟨c5b0, H⟩ := ite_d H
      obtain ⟨c6b0, H⟩ := ite_d H
      have H' := as_ H
      clear H
      obtain ⟨hcz7_0, hfz7_0⟩ := tc1_ BK327
      have p328 : 0 ≤ (x1_1 : Int) := od_
      have q328 : x1_1 < (l0_0.length : Int) := od_
      obtain ⟨ad328, e328, hx328_0⟩ := Kd.at_int HR0_0.out x1_1 p328 q328
      cases e328
      try replace hx328_0 := hx_ HB hx328_0
      replace p328 := eq_true p328
      replace q328 := eq_true q328
      go_wp2
      go_roundg k1
      case measure => have := HK1.out; omega
      case rel => exact ⟨(wrap64 (x1_1 + 1)), (wrap64 ((wrap64 (x5_1 - 1)) + (rd l0_0 x1_1))), rf_, rf_, H', om_ HK1, ⟨bk_ BK327⟩, ⟨b1_ HB GE327⟩⟩

def spec_l01Children.l0 : Nat → List Int → Int → Int → List Int → Option (List Int)
  | 0, _, _, _, _ => none
  | k + 1, x5, x6, x7, x330000 => if x7 > 0 then (if x5.length < 17592186044416 then ((spec_l01End.f k x330000 x6).bind fun t337 => (spec_l01Children.l0 k (x5 ++ [x6]) t337 (wrap64 (x7 - 1)) x330000)) else (none)) else (some x5)
def spec_l01Children.f (k : Nat) (l0_0 : List Int) (a1 : Int) : Option (List Int) := if 0 ≤ a1 then (if a1 < (l0_0.length : Int) then (spec_l01Children.l0 k (([] : List Int)) (wrap64 (a1 + 1)) (rd l0_0 a1) l0_0) else (none)) else (none)
theorem spec_l01Children.calls (k : Nat) (A0_0 : Option Addr) (c0_0 : Nat) (l0_0 : List Int) (a1 : Int) (r : List Int) (w : World) (hr0_0 : Kd.C (Kd.int .i64) w A0_0 l0_0.length l0_0) (hc0_0 : l0_0.length ≤ c0_0) (h : spec_l01Children.f k l0_0 a1 = some r) :
    Calls Try.prog 43 #[.agg #[.slice A0_0 l0_0.length c0_0], .int .i64 a1] w fun e w' => ∃ v0_ : Value, e = .returned (v0_) ∧ Kd.R (Kd.int .i64) 2 w' w.heap.size (fun _ => True) v0_ r ∧ Below w.heap.size w w' := by
  have hu26 := Try.underlying26
  have HR0_0 := as_ hr0_0
  have HC0_0 := as_ hc0_0
  clear hr0_0 hc0_0
  have HB := as_ (Below.refl w.heap.size w)
  have H : (if 0 ≤ a1 then (if a1 < (l0_0.length : Int) then (spec_l01Children.l0 k (([] : List Int)) (wrap64 (a1 + 1)) (rd l0_0 a1) l0_0) else (none)) else (none)) = some r := h
  clear h
  obtain ⟨y330, hy330⟩ := ex_ (([] : List Int) : List Int)
  replace H : (if 0 ≤ a1 then (if a1 < (l0_0.length : Int) then (spec_l01Children.l0 k y330 (wrap64 (a1 + 1)) (rd l0_0 a1) l0_0) else (none)) else (none)) = some r := yr_ hy330 H
  have Ny330 := as_ hy330
  clear hy330
  obtain ⟨c3b0, H⟩ := ite_d H
  obtain ⟨c4b0, H⟩ := ite_d H
  have H' := as_ H
  clear H
  go_enter Try.func43, Try.ntmps43
  go_wp2_with (first | ((with_reducible refine gate_dst (N := 2) rfl ?_); refine bx_ 2 #[.slice A0_0 l0_0.length c0_0] 26 ?_; intro gb329 hg w5 hbox hb; have BK329 := as_ (hbox); have GW329 := gz_ hg (b_ HB); have GE329 := GW329; replace HB := as_ (below_step (b_ HB) hb); clear hb hbox hg) | ((with_reducible refine gate_dst (N := 8) rfl ?_); refine Kd.R_lit (Kd.int .i64) _ 2 ?hg (N := 8) ?hd (xs := ([] : List Int)) (inner := []) (ok := fun _ => True) (okp := fun _ => True) ?hr ?hp (fun _ hk => hk) trivial (Below.refl _ _) (Nat.le_refl _) (by simp) ?_; (case hd => rfl); (case hg => rfl); (case hr => first | (go_simp; done) | (go_simp; rfl)); (case hp => exact (Reps.none _ _)); intro v331 w6 ho7 hb hg_ hnew_; clear hg_ hnew_; (first | rw [← Ny330.out] at ho7 | (simp only [Int.reduceToNat] at ho7; rw [← Ny330.out] at ho7)); have HO332 := as_ (Kd.R_lower ho7 (below_size (b1_ HB GE329))); replace BK329 := kb_ BK329 hb; replace HB := as_ (below_step (b1_ HB GE329) hb); clear hb ho7; obtain ⟨hcz8_0, hfz8_0⟩ := tc1_ BK329; have p333 : 0 ≤ (a1 : Int) := od_; have q333 : a1 < (l0_0.length : Int) := od_; obtain ⟨ad333, e333, hx333_0⟩ := Kd.at_int HR0_0.out a1 p333 q333; cases e333; replace hx333_0 := (HB.out.cell (World.block_lt_of_cell? w _ hx333_0)).trans hx333_0; replace p333 := eq_true p333; replace q333 := eq_true q333))
  go_loopg [5, 6, 7] k (fun kq v5 v6 v7 w' => ∃ (x5_1 : List Int) (x6_1 : Int) (x7_1 : Int), v6 = .int .i64 x6_1 ∧ v7 = .int .i64 x7_1 ∧ Aside0 (spec_l01Children.l0 kq x5_1 x6_1 x7_1 l0_0 = some r) ∧ Aside0 (kq ≤ k) ∧ Aside0 (Kd.R (Kd.int .i64) 2 w' w.heap.size (fun _ => True) v5 x5_1) ∧ Aside0 (w'.heap[gb329]? = some (.cells #[(.slice (some ad333) l0_0.length c0_0)] 26 (0, 0))) ∧ Aside0 (Below w.heap.size w w'))
  case atStart => exact ⟨(y330), (wrap64 (a1 + 1)), (rd l0_0 a1), rf_, rf_, H', ⟨Nat.le_refl _⟩, ⟨bR_ HO332⟩, ⟨bk_ BK329⟩, ⟨b1_ HB GE329⟩⟩
  case round =>
    clear H'
    (try clear p2); (try clear c3); (try clear c3b0); (try clear p3); (try clear q3); (try clear hx3); (try clear c4); (try clear c4b0); (try clear p6); (try clear hcz8_0); (try clear hfz8_0); (try clear hx333_0); (try clear p333); (try clear q333)
    obtain ⟨x5_1, x6_1, x7_1, rfl, rfl, HA, HK1, HO_5, BK329, HB⟩ := hrel
    cases gk with
    | zero => exact absurd HA.out (by simp [spec_l01Children.l0])
    | succ k1 =>
      have H := HA.out
      clear HA
      simp only [spec_l01Children.l0] at H
      by_cases c9 : x7_1 > 0
      rotate_left
      · rw [if_neg c9] at H
        have c9b0 : decide (0 < x7_1) = false := decide_eq_false c9
        clear c9
        obtain rfl := Option.some.inj H
        go_wp2
        go_ret
        exact ⟨_, re_, bR_ HO_5, b1_ HB GE329⟩
      rw [if_pos c9] at H
      have c9b0 : decide (0 < x7_1) = true := decide_eq_true c9
      clear c9
      obtain ⟨c10, H⟩ := ite_s H
      have LMc10 := as_ c10
      clear c10
      obtain ⟨y334, hy334⟩ := ex_ (x5_1 ++ [x6_1] : List Int)
      replace H : ((spec_l01End.f k1 l0_0 x6_1).bind fun t337 => (spec_l01Children.l0 k1 y334 t337 (wrap64 (x7_1 - 1)) l0_0)) = some r := yr_ hy334 H
      have Ny334 := as_ hy334
      clear hy334
      obtain ⟨t337, A11, H⟩ := bo_ H
      have H' := as_ H
      clear H
      go_wp2_with (first | ((with_reducible refine gate_builtin (b := .append) (xs := #[.tmp 20, .tmp 22]) rfl ?_); at_builtin; refine Kd.R_append (Kd.int .i64) (w0 := w) w.heap.size rfl (.tmp 20) (.tmp 22) 24 2 (.int .i64 0) 8 rfl Try.underlying24 info2 rfl (by decide) (by omega) u5 x5_1 x6_1 [.int .i64 x6_1] (fun _ => True) (fun _ => False) rfl rfl ?aP (fun _ hk => hk.elim) ?aF ?aO ?aB ?aS ?aL ?_; (case aP => exact rfl); (case aB => exact (b1_ HB GE329)); (case aF => exact (fun _ _ => trivial)); (case aO => exact (bR_ HO_5)); (case aS => exact (below_size (b1_ HB GE329))); (case aL => have := LMc10.out; omega); intro v335 w12 ho hb hg hat; rw [← Ny334.out] at ho; replace BK329 := as_ (blk_grown (bk_ BK329) hg (Kd.R_ne HO_5.out BK329.out (by decide))); replace HB := as_ (hb); have HO336 := as_ (ho); clear HO_5; clear ho hb hg hat; obtain ⟨hcz13_0, hfz13_0⟩ := tc1_ BK329) | ((with_reducible refine gate_callee (f := 77) rfl ?_); refine gL_ 26 Try.func77 #[.agg #[.slice (some ad333) l0_0.length c0_0], .int .i64 x6_1] ?_; (with_reducible refine (spec_l01End.calls k1 _ _ l0_0 x6_1 t337 _ ?side1 ?side2 A11.out).mono ?_); (case side1 => exact bC_ HR0_0 HB); (case side2 => exact HC0_0.out); rintro e w14 ⟨rfl, hb⟩; refine ⟨_, rfl, ?_⟩; replace HO336 := rb_ HO336 hb; replace BK329 := kb_ BK329 hb; replace HB := as_ (below_step (b1_ HB GE329) hb); clear hb))
      go_roundg k1
      case measure => have := HK1.out; omega
      case rel => exact ⟨(y334), (t337), (wrap64 (x7_1 - 1)), rf_, rf_, H', om_ HK1, ⟨bR_ HO336⟩, ⟨bk_ BK329⟩, ⟨b1_ HB GE329⟩⟩

def spec_l03Binary.f : Nat → List Int → List Int → Option (ByteArray)
  | 0, _, _ => none
  | k + 1, l0_0, l1 => if (l1.length : Int) = 0 then (some (⟨#[48]⟩ : ByteArray)) else (if 0 < (l1.length : Int) then ((spec_l01Children.f k l0_0 (rd l1 0)).bind fun t340 => ((spec_l03Binary.f k l0_0 t340).bind fun t343 => (if 1 + t343.size ≤ 9223372036854775807 then (if 1 ≤ (l1.length : Int) then ((spec_l03Binary.f k l0_0 (l1.drop 1)).bind fun t345 => (if ((⟨#[49]⟩ : ByteArray) ++ t343).size + t345.size ≤ 9223372036854775807 then (some (((⟨#[49]⟩ : ByteArray) ++ t343) ++ t345)) else (none))) else (none)) else (none)))) else (none))
def spec_l03Binary.T3 : Bool × List (List Nat × List Nat) := (true, [([], []), ([], []), ([], []), ([2], [2]), ([3], [3]), ([1, 4], [1, 4]), ([0, 5, 5], [0, 5]), ([6], [6]), ([], []), ([], []), ([9], [9]), ([8, 10, 6], [8, 10]), ([7, 11], [7, 11]), ([12, 11, 0, 1, 2, 3, 4, 5, 6, 7, 8, 9, 10, 11, 12], [12])])
def spec_l03Binary.B3 : List Nat := [0, 0, 0, 4, 12, 30, 63, 127, 0, 0, 512, 1919, 4095, 8191]
theorem spec_l03Binary.tab3 : rtab .any (opsOf Try.f42 3) = spec_l03Binary.T3 := by kernel_rfl
theorem spec_l03Binary.bits3 : waitsOk spec_l03Binary.T3.2 spec_l03Binary.B3 = true := by kernel_rfl
theorem spec_l03Binary.calls (k : Nat) : ∀ (A0_0 : Option Addr) (c0_0 : Nat) (l0_0 : List Int) (A1 : Option Addr) (c1 : Nat) (l1 : List Int) (r : ByteArray) (w : World) (hr0_0 : Kd.C (Kd.int .i64) w A0_0 l0_0.length l0_0) (hc0_0 : l0_0.length ≤ c0_0) (hr1 : Kd.C (Kd.int .i64) w A1 l1.length l1) (hc1 : l1.length ≤ c1) (h : spec_l03Binary.f k l0_0 l1 = some r),
    Calls Try.prog 42 #[.agg #[.slice A0_0 l0_0.length c0_0], .slice A1 l1.length c1] w fun e w' => e = .returned (.string r) ∧ Below w.heap.size w w' := by
  induction k using Nat.strongRecOn with
  | _ k ih =>
  intro A0_0 c0_0 l0_0 A1 c1 l1 r w hr0_0 hc0_0 hr1 hc1 h
  cases k with
  | zero => exact absurd h (by simp [spec_l03Binary.f])
  | succ k =>
  simp only [spec_l03Binary.f] at h
  have hu26 := Try.underlying26
  have HR0_0 := as_ hr0_0
  have HC0_0 := as_ hc0_0
  clear hr0_0 hc0_0
  have HR1 := as_ hr1
  have HC1 := as_ hc1
  clear hr1 hc1
  have HB := as_ (Below.refl w.heap.size w)
  have H : (if (l1.length : Int) = 0 then (some (⟨#[48]⟩ : ByteArray)) else (if 0 < (l1.length : Int) then ((spec_l01Children.f k l0_0 (rd l1 0)).bind fun t340 => ((spec_l03Binary.f k l0_0 t340).bind fun t343 => (if 1 + t343.size ≤ 9223372036854775807 then (if 1 ≤ (l1.length : Int) then ((spec_l03Binary.f k l0_0 (l1.drop 1)).bind fun t345 => (if ((⟨#[49]⟩ : ByteArray) ++ t343).size + t345.size ≤ 9223372036854775807 then (some (((⟨#[49]⟩ : ByteArray) ++ t343) ++ t345)) else (none))) else (none)) else (none)))) else (none))) = some r := h
  clear h
  by_cases c3 : (l1.length : Int) = 0
  · rw [if_pos c3] at H
    have c3b0 := beq_iff_eq.mpr c3
    have c3b1 := bne_eq_false_iff_eq.mpr c3
    clear c3
    obtain rfl := Option.some.inj H
    go_enter Try.func42, Try.ntmps42
    go_wp2_with (first | ((with_reducible refine gate_dst (N := 2) rfl ?_); refine bx_ 2 #[.slice A0_0 l0_0.length c0_0] 26 ?_; intro gb338 hg w4 hbox hb; have BK338 := as_ (hbox); have GW338 := gz_ hg (b_ HB); have GE338 := GW338; replace HB := as_ (below_step (b_ HB) hb); clear hb hbox hg))
    go_ret
    exact ⟨re_, b1_ HB GE338⟩
  rw [if_neg c3] at H
  have c3b0 := beq_eq_false_iff_ne.mpr c3
  have c3b1 := bne_iff_ne.mpr c3
  have c3b2 : ¬ (l1 = []) := fun h_ => c3 (by rw [h_]; rfl)
  obtain ⟨c5, H⟩ := ite_s H
  have c5b0 : decide (0 < (l1.length : Int)) = true := decide_eq_true c5
  have c5b1 : decide (0 < l1.length) = true := decide_eq_true (by omega)
  clear c5
  obtain ⟨t340, A6, H⟩ := bo_ H
  obtain ⟨t343, A7, H⟩ := bo_ H
  obtain ⟨c8, H⟩ := ite_s H
  have c8b0 := eq_true c8
  have c8b1 := decide_eq_true c8
  try have c8b2 : (9223372036854775807 < 1 + t343.size) = False := eq_false (Nat.not_lt.2 c8)
  obtain ⟨c9, H⟩ := ite_s H
  have c9b0 := eq_true c9
  have c9b1 := decide_eq_true c9
  clear c9
  obtain ⟨t345, A10, H⟩ := bo_ H
  obtain ⟨c11, H⟩ := ite_s H
  have c11b0 := eq_true c11
  have c11b1 := decide_eq_true c11
  try have c11b2 : (9223372036854775807 < ((⟨#[49]⟩ : ByteArray) ++ t343).size + t345.size) = False := eq_false (Nat.not_lt.2 c11)
  try have c11b3 : (9223372036854775807 < 1 + t343.size + t345.size) = False := eq_false (by have z_ := c11; simp only [ByteArray.size_append, ByteArray.size_extract, decide_eq_true_eq, eq_iff_iff, iff_true, (show (⟨#[49]⟩ : ByteArray).size = 1 from rfl)] at *; first | omega | (simp at z_; omega))
  obtain rfl := Option.some.inj H
  go_enter Try.func42, Try.ntmps42
  try go_wp2_with (first | ((with_reducible refine gate_dst (N := 2) rfl ?_); refine bx_ 2 #[.slice A0_0 l0_0.length c0_0] 26 ?_; intro gb338 hg w12 hbox hb; have BK338 := as_ (hbox); have GW338 := gz_ hg (b_ HB); have GE338 := GW338; replace HB := as_ (below_step (b_ HB) hb); clear hb hbox hg))
  replace BK338 := dk_ BK338; replace HB := db_ HB
  have p339 : 0 ≤ (0 : Int) := (by omega)
  have q339 : 0 < (l1.length : Int) := od_
  obtain ⟨ad339, e339, hx339_0⟩ := Kd.at_int HR1.out 0 p339 q339
  have hw339_0 := hx339_0
  (try rw [show ((0 : Int)).toNat = 0 from rfl] at hw339_0)
  (try rw [show 0 * 1 = 0 from rfl] at hw339_0)
  (try rw [Addr.add_zero'] at hw339_0)
  cases e339
  have qi339 : (0 < l1.length) = True := eq_true (by omega)
  (try rw [show ((0 : Int)).toNat = 0 from rfl] at hx339_0)
  (try rw [Addr.add_zero'] at hx339_0)
  try replace hx339_0 := hx_ HB hx339_0
  replace p339 := eq_true p339
  replace q339 := eq_true q339
  obtain ⟨i014, hi014, _, hsz14, _⟩ := info_parts info2
  obtain ⟨A14, hcut14, hA14, hC14⟩ := print_drop_of (P := Try.prog) (Value.int .i64) 0 24 2 .i64 Try.underlying24 hi014 hsz14 (some ad339) c1 l1 1 (by omega) (od_) HC1.out
  have HR344 := as_ (Kd.C_of_reads (h1 := fun _ => rfl) (hA14 _ (Kd.reads_of_C HR1.out)))
  have HC344 := as_ hC14
  clear hA14 hC14 hi014 hsz14
  refine start_ (n := 14) (S := fun w' => w'.cell? ⟨gb338, 0, none⟩ = some (.slice A0_0 l0_0.length c0_0) ∧ w'.cell? ad339 = some (.int .i64 (rd l1 0))) (ds := []) #[false, false, false, false, false, false, false, false, false, false, false, false, false, false] (by kernel_rfl) rfl rfl (tz1_ BK338 (((HB.out.cell (World.block_lt_of_cell? w _ hw339_0)).trans hw339_0))) (fun hHeld => ?_); refine with_tabW spec_l03Binary.tab3 spec_l03Binary.bits3 (fun HT_ HW_ => ?_)
  generalize w12.drew = w13 at BK338 HB HR344 hx339_0 hHeld ⊢
  refine pu_ 2 10 HT_ ?_
  refine pu_ 3 11 HT_ ?_
  refine pu_ 9 17 HT_ ?_
  refine pu_ 10 18 HT_ ?_
  refine tk_ 0 8 HT_ HW_ hHeld ?_
  refine tk_ 1 9 HT_ HW_ hHeld ?_
  refine tk_ 4 12 HT_ HW_ hHeld ?_
  refine tk_ 8 16 HT_ HW_ hHeld ?_
  refine on_ 5 (some 13) HT_ fun K hK => ?_
  refine gR_ Try.func43 #[.agg #[.slice A0_0 l0_0.length c0_0], .int .i64 (rd l1 0)] ?_
  with_reducible refine (spec_l01Children.calls k _ _ l0_0 (rd l1 0) t340 _ ?side1 ?side2 A6.out).mono ?_
  (case side1 => exact bC_ HR0_0 HB)
  (case side2 => exact HC0_0.out)
  rintro e w15 ⟨v341, rfl, ho0, hb⟩
  refine ⟨_, rfl, ?_⟩
  have HO342 := as_ (Kd.R_lower ho0 (below_size (b1_ HB GE338))); replace BK338 := kb_ BK338 hb; replace HB := as_ (below_step (b1_ HB GE338) hb)
  clear hb ho0
  obtain ⟨Ao16, co16, eo16⟩ := Kd.R_slice HO342.out
  (first | subst eo16 | (injection eo16 with f1_ f2_ f3_; have f4_ := f1_.symm; have f5_ := f3_.symm; clear f1_ f2_ f3_; subst f4_; subst f5_))
  refine hK.out _ _ (tz1_ BK338 (((HB.out.cell (World.block_lt_of_cell? w _ hw339_0)).trans hw339_0))) (fun hHeld => ?_)
  clear hK K
  refine nm_ 13 ?_
  refine on_ 6 (some 14) HT_ fun K hK => ?_
  refine gR_ Try.func42 #[.agg #[.slice A0_0 l0_0.length c0_0], .slice Ao16 t340.length co16] ?_
  with_reducible refine (ih k (by omega) _ _ l0_0 _ _ t340 t343 _ ?side1 ?side2 ?side3 ?side4 A7.out).mono ?_
  (case side1 => exact bC_ HR0_0 HB)
  (case side2 => exact HC0_0.out)
  (case side3 => exact cC_ (Kd.R_reads' HO342.out).2.2)
  (case side4 => exact (Kd.R_reads' HO342.out).2.1)
  rintro e w17 ⟨rfl, hb⟩
  refine ⟨_, rfl, ?_⟩
  replace HO342 := rb_ HO342 hb; replace BK338 := kb_ BK338 hb; replace HB := as_ (below_step (b1_ HB GE338) hb)
  clear hb
  refine hK.out _ _ (tz1_ BK338 (((HB.out.cell (World.block_lt_of_cell? w _ hw339_0)).trans hw339_0))) (fun hHeld => ?_)
  clear hK K
  refine nm_ 14 ?_
  refine pu_ 7 15 HT_ ?_
  refine on_ 11 (some 19) HT_ fun K hK => ?_
  refine gR_ Try.func42 #[.agg #[.slice A0_0 l0_0.length c0_0], .slice A14 (l1.drop 1).length (c1 - 1)] ?_ (hargs := (by (try simp only [List.map_toArray, List.map_cons, List.map_nil]); first | done | (rw [show (l1.drop 1).length = (l1.length - 1) from List.length_drop] <;> rfl) | rfl | (simp only [List.length_drop, List.length_take]; rfl)))
  with_reducible refine (ih k (by omega) _ _ l0_0 _ _ (l1.drop 1) t345 _ ?side1 ?side2 ?side3 ?side4 A10.out).mono ?_
  (case side1 => exact bC_ HR0_0 HB)
  (case side2 => exact HC0_0.out)
  (case side3 => exact bC_ HR344 HB)
  (case side4 => exact HC344.out)
  rintro e w18 ⟨rfl, hb⟩
  refine ⟨_, rfl, ?_⟩
  replace HO342 := rb_ HO342 hb; replace BK338 := kb_ BK338 hb; replace HB := as_ (below_step (b1_ HB GE338) hb)
  clear hb
  refine hK.out _ _ (tz1_ BK338 (((HB.out.cell (World.block_lt_of_cell? w _ hw339_0)).trans hw339_0))) (fun hHeld => ?_)
  clear hK K
  refine nm_ 19 ?_
  refine pu_ 12 20 HT_ ?_
  refine pu_ 13 4 HT_ ?_
  refine dn_ HT_ ?_
  try go_wp2
  go_ret
  exact ⟨re_, b1_ HB GE338⟩

def spec_BinaryOf.f (k : Nat) (l0_0 : List Int) : Option (ByteArray × Int) := (spec_l01Is.f k l0_0).bind fun t347 => (if t347 = true then ((spec_l01Children.f k l0_0 0).bind fun t348 => ((spec_l03Binary.f k l0_0 t348).bind fun t351 => (some (t351, 0)))) else (some ((⟨#[]⟩ : ByteArray), 1)))
theorem spec_BinaryOf.calls (k : Nat) (A0_0 : Option Addr) (c0_0 : Nat) (l0_0 : List Int) (r1 : ByteArray) (r2 : Int) (w : World) (hr0_0 : Kd.C (Kd.int .i64) w A0_0 l0_0.length l0_0) (hc0_0 : l0_0.length ≤ c0_0) (h : spec_BinaryOf.f k l0_0 = some (r1, r2)) :
    Calls Try.prog 7 #[.agg #[.slice A0_0 l0_0.length c0_0]] w fun e w' => e = .returned (.tuple #[.string r1, .int .i64 r2]) ∧ Below w.heap.size w w' := by
  have hu26 := Try.underlying26
  have HR0_0 := as_ hr0_0
  have HC0_0 := as_ hc0_0
  clear hr0_0 hc0_0
  have HB := as_ (Below.refl w.heap.size w)
  have H : ((spec_l01Is.f k l0_0).bind fun t347 => (if t347 = true then ((spec_l01Children.f k l0_0 0).bind fun t348 => ((spec_l03Binary.f k l0_0 t348).bind fun t351 => (some (t351, 0)))) else (some ((⟨#[]⟩ : ByteArray), 1)))) = some (r1, r2) := h
  clear h
  obtain ⟨t347, A2, H⟩ := bo_ H
  by_cases c3 : t347 = true
  rotate_left
  · replace c3 := Bool.eq_false_iff.mpr c3
    subst c3
    replace H := if_ H
    simp only [Option.some.injEq, Prod.mk.injEq] at H
    obtain ⟨rfl, rfl⟩ := H
    go_enter Try.func7, Try.ntmps7
    go_wp2_with (first | ((with_reducible refine gate_dst (N := 1) rfl ?_); refine bx_ 1 #[.slice A0_0 l0_0.length c0_0] 26 ?_; intro gb346 hg w13 hbox hb; have BK346 := as_ (hbox); have GW346 := gz_ hg (b_ HB); have GE346 := GW346; replace HB := as_ (below_step (b_ HB) hb); clear hb hbox hg; obtain ⟨hcz14_0, hfz14_0⟩ := tc1_ BK346) | ((with_reducible refine gate_callee (f := 41) rfl ?_); refine gL_ 5 Try.func41 #[.agg #[.slice A0_0 l0_0.length c0_0]] ?_; (with_reducible refine (spec_l01Is.calls k _ _ l0_0 false _ ?side1 ?side2 A2.out).mono ?_); (case side1 => exact bC_ HR0_0 HB); (case side2 => exact HC0_0.out); rintro e w15 ⟨rfl, hb⟩; refine ⟨_, rfl, ?_⟩; replace BK346 := kb_ BK346 hb; replace HB := as_ (below_step (b1_ HB GE346) hb); clear hb))
    go_ret2
    exact ⟨re_, b1_ HB GE346⟩
  subst c3
  replace H := it_ H
  obtain ⟨t348, A4, H⟩ := bo_ H
  obtain ⟨t351, A5, H⟩ := bo_ H
  simp only [Option.some.injEq, Prod.mk.injEq] at H
  obtain ⟨rfl, rfl⟩ := H
  go_enter Try.func7, Try.ntmps7
  try go_wp2_with (first | ((with_reducible refine gate_dst (N := 1) rfl ?_); refine bx_ 1 #[.slice A0_0 l0_0.length c0_0] 26 ?_; intro gb346 hg w6 hbox hb; have BK346 := as_ (hbox); have GW346 := gz_ hg (b_ HB); have GE346 := GW346; replace HB := as_ (below_step (b_ HB) hb); clear hb hbox hg; obtain ⟨hcz7_0, hfz7_0⟩ := tc1_ BK346) | ((with_reducible refine gate_callee (f := 41) rfl ?_); refine gL_ 5 Try.func41 #[.agg #[.slice A0_0 l0_0.length c0_0]] ?_; (with_reducible refine (spec_l01Is.calls k _ _ l0_0 true _ ?side1 ?side2 A2.out).mono ?_); (case side1 => exact bC_ HR0_0 HB); (case side2 => exact HC0_0.out); rintro e w8 ⟨rfl, hb⟩; refine ⟨_, rfl, ?_⟩; replace BK346 := kb_ BK346 hb; replace HB := as_ (below_step (b1_ HB GE346) hb); clear hb))
  replace BK346 := dk_ BK346; replace HB := db_ HB
  refine start_ (n := 6) (S := fun w' => w'.cell? ⟨gb346, 0, none⟩ = some (.slice A0_0 l0_0.length c0_0)) (ds := []) #[false, false, false, false, false, false] (by kernel_rfl) rfl rfl ((blk_cell BK346.out 0).trans rfl) (fun hHeld => ?_)
  generalize w8.drew = w9 at BK346 HB hHeld ⊢
  refine take_ (i := 0) (N := some 7) (v := ?_) (a' := ?_) #[true, false, false, false, false, false] rfl rfl (by kernel_rfl) (fun _ _ _ h => h) (Or.inl ⟨by rfl, ?_⟩) hHeld ?_ ?_
  rotate_left
  · intro w' s0
    go_simp
    with_reducible rfl
  rotate_left
  · simp only [Act.put, List.setIfInBounds_toArray, List.set_cons_zero, List.set_cons_succ, i64_w, i32_w]
    rfl
  refine take_ (i := 1) (N := some 8) (v := ?_) (a' := ?_) #[true, true, false, false, false, false] rfl rfl (by kernel_rfl) (fun _ _ _ h => h) (Or.inl ⟨by rfl, ?_⟩) hHeld ?_ ?_
  rotate_left
  · intro w' s0
    go_simp
    with_reducible rfl
  rotate_left
  · simp only [Act.put, List.setIfInBounds_toArray, List.set_cons_zero, List.set_cons_succ, i64_w, i32_w]
    rfl
  refine one_ (i := 2) (N := some 9) #[true, true, true, false, false, false] rfl rfl (by kernel_rfl) (by decide) (fun K hK => ?_)
  refine gR_ Try.func43 #[.agg #[.slice A0_0 l0_0.length c0_0], .int .i64 0] ?_
  with_reducible refine (spec_l01Children.calls k _ _ l0_0 0 t348 _ ?side1 ?side2 A4.out).mono ?_
  (case side1 => exact bC_ HR0_0 HB)
  (case side2 => exact HC0_0.out)
  rintro e w10 ⟨v349, rfl, ho0, hb⟩
  refine ⟨_, rfl, ?_⟩
  have HO350 := as_ (Kd.R_lower ho0 (below_size (b1_ HB GE346))); replace BK346 := kb_ BK346 hb; replace HB := as_ (below_step (b1_ HB GE346) hb)
  clear hb ho0
  obtain ⟨Ao11, co11, eo11⟩ := Kd.R_slice HO350.out
  (first | subst eo11 | (injection eo11 with f1_ f2_ f3_; have f4_ := f1_.symm; have f5_ := f3_.symm; clear f1_ f2_ f3_; subst f4_; subst f5_))
  refine hK.out _ _ ((blk_cell BK346.out 0).trans rfl) (fun hHeld => ?_)
  clear hK K
  refine nm_ 9 ?_
  refine one_ (i := 3) (N := some 10) #[true, true, true, true, false, false] rfl rfl (by kernel_rfl) (by decide) (fun K hK => ?_)
  refine gR_ Try.func42 #[.agg #[.slice A0_0 l0_0.length c0_0], .slice Ao11 t348.length co11] ?_
  with_reducible refine (spec_l03Binary.calls k _ _ l0_0 _ _ t348 t351 _ ?side1 ?side2 ?side3 ?side4 A5.out).mono ?_
  (case side1 => exact bC_ HR0_0 HB)
  (case side2 => exact HC0_0.out)
  (case side3 => exact cC_ (Kd.R_reads' HO350.out).2.2)
  (case side4 => exact (Kd.R_reads' HO350.out).2.1)
  rintro e w12 ⟨rfl, hb⟩
  refine ⟨_, rfl, ?_⟩
  replace HO350 := rb_ HO350 hb; replace BK346 := kb_ BK346 hb; replace HB := as_ (below_step (b1_ HB GE346) hb)
  clear hb
  refine hK.out _ _ ((blk_cell BK346.out 0).trans rfl) (fun hHeld => ?_)
  clear hK K
  refine nm_ 10 ?_
  refine pure_ (i := 4) (N := some 2) (v := ?_) (a' := ?_) #[true, true, true, true, true, false] rfl rfl (by kernel_rfl) (fun _ _ _ h => h) (Or.inl ⟨by rfl, ?_⟩) ?_ ?_
  rotate_left
  · intro w'
    go_simp
    with_reducible rfl
  rotate_left
  · simp only [Act.put, List.setIfInBounds_toArray, List.set_cons_zero, List.set_cons_succ, i64_w, i32_w]
    rfl
  refine pure_ (i := 5) (N := some 3) (v := ?_) (a' := ?_) #[true, true, true, true, true, true] rfl rfl (by kernel_rfl) (fun _ _ _ h => h) (Or.inl ⟨by rfl, ?_⟩) ?_ ?_
  rotate_left
  · intro w'
    go_simp
    with_reducible rfl
  rotate_left
  · simp only [Act.put, List.setIfInBounds_toArray, List.set_cons_zero, List.set_cons_succ, i64_w, i32_w]
    rfl
  refine done_ (by kernel_rfl) ?_
  try go_wp2
  go_ret2
  exact ⟨re_, b1_ HB GE346⟩

mutual
def impl_endBinary.l0 : Nat → ByteArray → Int → Option (ByteArray × Bool)
  | 0, _, _ => none
  | k + 1, x0, x4 => if x4 > 0 then (if x0.toList = ([] : List UInt8) then (impl_endBinary.j1 k x0 x4 true) else (if 0 < (x0.size : Int) then (if (bt x0 0) = 48 then (impl_endBinary.j1 k x0 x4 false) else (impl_endBinary.j1 k x0 x4 ((bt x0 0) != 49))) else (none))) else (some (x0, true))
def impl_endBinary.j1 : Nat → ByteArray → Int → Bool → Option (ByteArray × Bool)
  | 0, _, _, _ => none
  | k + 1, x0, x4, x9 => if x9 = true then (some ((⟨#[]⟩ : ByteArray), false)) else (if 0 < (x0.size : Int) then (if (bt x0 0) = 49 then (if 1 ≤ (x0.size : Int) then (impl_endBinary.l0 k (x0.extract 1 x0.size) (wrap64 (x4 + 1))) else (none)) else (if 1 ≤ (x0.size : Int) then (impl_endBinary.l0 k (x0.extract 1 x0.size) (wrap64 (x4 - 1))) else (none))) else (none))
end
def impl_endBinary.f (k : Nat) (a0 : ByteArray) : Option (ByteArray × Bool) := impl_endBinary.l0 k a0 1
theorem impl_endBinary.calls (k : Nat) (a0 : ByteArray) (r1 : ByteArray) (r2 : Bool) (w : World) (h : impl_endBinary.f k a0 = some (r1, r2)) :
    Calls Try.prog 45 #[.string a0] w fun e w' => e = .returned (.tuple #[.string r1, .bool r2]) ∧ Drawn0 w w' := by
  have H : (impl_endBinary.l0 k a0 1) = some (r1, r2) := h
  clear h
  have H' := as_ H
  clear H
  go_enter Try.func45, Try.ntmps45
  go_wp2
  go_loopg [0, 4] k (fun kq v0 v4 w' => ∃ (x0_1 : ByteArray) (x4_1 : Int), v0 = .string x0_1 ∧ v4 = .int .i64 x4_1 ∧ Aside0 (impl_endBinary.l0 kq x0_1 x4_1 = some (r1, r2)) ∧ Aside0 (kq ≤ k) ∧ Drawn0 w w')
  case atStart => exact ⟨(a0), (1), rf_, rf_, H', ⟨Nat.le_refl _⟩, d0_⟩
  case round =>
    clear H'
    obtain ⟨x0_1, x4_1, rfl, rfl, HA, HK1, ⟨m1, rfl⟩⟩ := hrel
    cases gk with
    | zero => exact absurd HA.out (by simp [impl_endBinary.l0])
    | succ k1 =>
      have H := HA.out
      clear HA
      simp only [impl_endBinary.l0] at H
      by_cases c2 : x4_1 > 0
      rotate_left
      · rw [if_neg c2] at H
        have c2b0 : decide (0 < x4_1) = false := decide_eq_false c2
        clear c2
        simp only [Option.some.injEq, Prod.mk.injEq] at H
        obtain ⟨rfl, rfl⟩ := H
        go_wp2
        go_ret2
        exact ⟨rf_, d0_⟩
      rw [if_pos c2] at H
      have c2b0 : decide (0 < x4_1) = true := decide_eq_true c2
      clear c2
      have HC3 := as_ H
      clear H
      go_upto_region 4 with (fail)
      go_cut [9] (fun v9 wc => ∃ (kq : Nat) (x9_2 : Bool), v9 = .bool x9_2 ∧ Aside0 (impl_endBinary.j1 kq x0_1 x4_1 x9_2 = some (r1, r2)) ∧ Aside0 (kq ≤ k1) ∧ Drawn0 w wc)
      case first =>
        have H := HC3.out
        clear HC3
        by_cases c4 : x0_1.toList = ([] : List UInt8)
        · rw [if_pos c4] at H
          have c4b0 := beq_iff_eq.mpr c4
          have c4b1 := bne_eq_false_iff_eq.mpr c4
          clear c4
          (first | rw [c4b0] | (simp only [i64_w, i32_w]; rw [c4b0]) | skip)
          have H' := as_ H
          clear H
          go_wp2
          go_meet
          case rel => exact ⟨_, (true), rf_, H', ⟨by have := HK1.out; first | omega | exact Nat.le_refl _⟩, d0_⟩
        rw [if_neg c4] at H
        have c4b0 := beq_eq_false_iff_ne.mpr c4
        have c4b1 := bne_iff_ne.mpr c4
        (first | rw [c4b0] | (simp only [i64_w, i32_w]; rw [c4b0]) | skip)
        obtain ⟨c5, H⟩ := ite_s H
        have c5b0 : decide (0 < (x0_1.size : Int)) = true := decide_eq_true c5
        have c5b1 : decide (0 < x0_1.size) = true := decide_eq_true (by omega)
        clear c5
        by_cases c7 : (bt x0_1 0) = 48
        · rw [if_pos c7] at H
          have c7b0 := beq_iff_eq.mpr c7
          have c7b1 := bne_eq_false_iff_eq.mpr c7
          clear c7
          have H' := as_ H
          clear H
          have p6 : 0 ≤ (0 : Int) := (by omega)
          have q6 : 0 < x0_1.size := (by have : (0 : Int) < (x0_1.size : Int) := od_; omega)
          have hx6 : ∀ h : 0 < x0_1.size, ((x0_1[0]'h).toNat : Int) = bt x0_1 0 := bt_at x0_1 0
          clear p6
          have qi6 : (0 < (x0_1.size : Int)) = True := eq_true (od_)
          replace q6 := eq_true q6
          go_wp2
          go_meet
          case rel => exact ⟨_, (false), rf_, H', ⟨by have := HK1.out; first | omega | exact Nat.le_refl _⟩, d0_⟩
        rw [if_neg c7] at H
        have c7b0 := beq_eq_false_iff_ne.mpr c7
        have c7b1 := bne_iff_ne.mpr c7
        have H' := as_ H
        clear H
        have p6 : 0 ≤ (0 : Int) := (by omega)
        have q6 : 0 < x0_1.size := (by have : (0 : Int) < (x0_1.size : Int) := od_; omega)
        have hx6 : ∀ h : 0 < x0_1.size, ((x0_1[0]'h).toNat : Int) = bt x0_1 0 := bt_at x0_1 0
        clear p6
        have qi6 : (0 < (x0_1.size : Int)) = True := eq_true (od_)
        replace q6 := eq_true q6
        have p8 : 0 ≤ (0 : Int) := (by omega)
        have q8 : 0 < x0_1.size := (by have : (0 : Int) < (x0_1.size : Int) := od_; omega)
        have hx8 : ∀ h : 0 < x0_1.size, ((x0_1[0]'h).toNat : Int) = bt x0_1 0 := bt_at x0_1 0
        clear p8
        have qi8 : (0 < (x0_1.size : Int)) = True := eq_true (od_)
        replace q8 := eq_true q8
        go_wp2
        go_meet
        case rel => exact ⟨_, (((bt x0_1 0) != 49)), rf_, H', ⟨by have := HK1.out; first | omega | exact Nat.le_refl _⟩, d0_⟩
      case rest =>
        clear HC3
        (try clear c2); (try clear c2b0); (try clear p2); (try clear c4); (try clear c4b0); (try clear c4b1); (try clear c5); (try clear c5b0); (try clear c5b1); (try clear p6); (try clear q6); (try clear hx6); (try clear qi6); (try clear c7); (try clear c7b0); (try clear c7b1); (try clear p8); (try clear q8); (try clear hx8); (try clear qi8); (try clear p6); (try clear p8); (try clear q6); (try clear q8)
        obtain ⟨kq, x9_2, rfl, HA, HJ2, ⟨mc2, rfl⟩⟩ := hcut
        cases kq with
        | zero => exact absurd HA.out (by simp [impl_endBinary.j1])
        | succ kj2 =>
          have H := HA.out
          clear HA
          simp only [impl_endBinary.j1] at H
          by_cases c9 : x9_2 = true
          · subst c9
            replace H := it_ H
            simp only [Option.some.injEq, Prod.mk.injEq] at H
            obtain ⟨rfl, rfl⟩ := H
            go_wp2
            go_ret2
            exact ⟨rf_, d0_⟩
          replace c9 := Bool.eq_false_iff.mpr c9
          subst c9
          replace H := if_ H
          obtain ⟨c10, H⟩ := ite_s H
          have c10b0 : decide (0 < (x0_1.size : Int)) = true := decide_eq_true c10
          have c10b1 : decide (0 < x0_1.size) = true := decide_eq_true (by omega)
          clear c10
          by_cases c12 : (bt x0_1 0) = 49
          · rw [if_pos c12] at H
            have c12b0 := beq_iff_eq.mpr c12
            have c12b1 := bne_eq_false_iff_eq.mpr c12
            clear c12
            obtain ⟨c13, H⟩ := ite_s H
            have c13b0 := eq_true c13
            have c13b1 := decide_eq_true c13
            clear c13
            have H' := as_ H
            clear H
            have p11 : 0 ≤ (0 : Int) := (by omega)
            have q11 : 0 < x0_1.size := (by have : (0 : Int) < (x0_1.size : Int) := od_; omega)
            have hx11 : ∀ h : 0 < x0_1.size, ((x0_1[0]'h).toNat : Int) = bt x0_1 0 := bt_at x0_1 0
            clear p11
            have qi11 : (0 < (x0_1.size : Int)) = True := eq_true (od_)
            replace q11 := eq_true q11
            go_wp2
            go_roundg kj2
            case measure => have := HK1.out; have := HJ2.out; omega
            case rel => exact ⟨(x0_1.extract 1 x0_1.size), (wrap64 (x4_1 + 1)), rf_, rf_, H', ⟨by have := HK1.out; have := HJ2.out; omega⟩, d0_⟩
          rw [if_neg c12] at H
          have c12b0 := beq_eq_false_iff_ne.mpr c12
          have c12b1 := bne_iff_ne.mpr c12
          obtain ⟨c14, H⟩ := ite_s H
          have c14b0 := eq_true c14
          have c14b1 := decide_eq_true c14
          clear c14
          have H' := as_ H
          clear H
          have p11 : 0 ≤ (0 : Int) := (by omega)
          have q11 : 0 < x0_1.size := (by have : (0 : Int) < (x0_1.size : Int) := od_; omega)
          have hx11 : ∀ h : 0 < x0_1.size, ((x0_1[0]'h).toNat : Int) = bt x0_1 0 := bt_at x0_1 0
          clear p11
          have qi11 : (0 < (x0_1.size : Int)) = True := eq_true (od_)
          replace q11 := eq_true q11
          go_wp2
          go_roundg kj2
          case measure => have := HK1.out; have := HJ2.out; omega
          case rel => exact ⟨(x0_1.extract 1 x0_1.size), (wrap64 (x4_1 - 1)), rf_, rf_, H', ⟨by have := HK1.out; have := HJ2.out; omega⟩, d0_⟩

def impl_IsBinary.f (k : Nat) (a0 : ByteArray) : Option (Bool) := if (a0.size : Int) > 47 then (some false) else ((impl_endBinary.f k a0).bind fun bt352 => (if bt352.2 = true then (some (bt352.1.toList == ([] : List UInt8))) else (some false)))
theorem impl_IsBinary.calls (k : Nat) (a0 : ByteArray) (r : Bool) (w : World) (h : impl_IsBinary.f k a0 = some r) :
    Calls Try.prog 10 #[.string a0] w fun e w' => e = .returned (.bool r) ∧ Drawn0 w w' := by
  have H : (if (a0.size : Int) > 47 then (some false) else ((impl_endBinary.f k a0).bind fun bt352 => (if bt352.2 = true then (some (bt352.1.toList == ([] : List UInt8))) else (some false)))) = some r := h
  clear h
  by_cases c2 : (a0.size : Int) > 47
  · rw [if_pos c2] at H
    have c2b0 := decide_eq_true c2
    have c2b1 : decide (47 < a0.size) = true := decide_eq_true (by omega)
    clear c2
    obtain rfl := Option.some.inj H
    go_enter Try.func10, Try.ntmps10
    go_wp2
    go_ret
    exact ⟨rf_, d0_⟩
  rw [if_neg c2] at H
  have c2b0 := decide_eq_false c2
  have c2b1 : decide (47 < a0.size) = false := decide_eq_false (by omega)
  clear c2
  obtain ⟨⟨t352, t353⟩, A3, H⟩ := bo_ H
  dsimp only at H
  by_cases c4 : t353 = true
  · subst c4
    replace H := it_ H
    obtain rfl := Option.some.inj H
    go_enter Try.func10, Try.ntmps10
    go_wp2_with (first | ((with_reducible refine gate_callee (f := 45) rfl ?_); refine gL_ 10 Try.func45 #[.string a0] ?_; (with_reducible refine (impl_endBinary.calls k a0 t352 true _ A3.out).mono ?_); rintro e w' ⟨rfl, ⟨nd, rfl⟩⟩; refine ⟨_, rfl, ?_⟩))
    go_ret
    exact ⟨rf_, d0_⟩
  replace c4 := Bool.eq_false_iff.mpr c4
  subst c4
  replace H := if_ H
  obtain rfl := Option.some.inj H
  go_enter Try.func10, Try.ntmps10
  go_wp2_with (first | ((with_reducible refine gate_callee (f := 45) rfl ?_); refine gL_ 10 Try.func45 #[.string a0] ?_; (with_reducible refine (impl_endBinary.calls k a0 t352 false _ A3.out).mono ?_); rintro e w' ⟨rfl, ⟨nd, rfl⟩⟩; refine ⟨_, rfl, ?_⟩))
  go_ret
  exact ⟨rf_, d0_⟩

def impl_sides.f (k : Nat) (a0 : ByteArray) : Option (ByteArray × ByteArray) := if 1 ≤ (a0.size : Int) then ((impl_endBinary.f k (a0.extract 1 a0.size)).bind fun bt354 => (if 1 ≤ (wrap64 ((a0.size : Int) - (bt354.1.size : Int))) then (if (wrap64 ((a0.size : Int) - (bt354.1.size : Int))) ≤ (a0.size : Int) then (some (a0.extract 1 ((wrap64 ((a0.size : Int) - (bt354.1.size : Int))) : Int).toNat, bt354.1)) else (none)) else (none))) else (none)
theorem impl_sides.calls (k : Nat) (a0 : ByteArray) (r1 : ByteArray) (r2 : ByteArray) (w : World) (h : impl_sides.f k a0 = some (r1, r2)) :
    Calls Try.prog 58 #[.string a0] w fun e w' => e = .returned (.tuple #[.string r1, .string r2]) ∧ Drawn0 w w' := by
  have H : (if 1 ≤ (a0.size : Int) then ((impl_endBinary.f k (a0.extract 1 a0.size)).bind fun bt354 => (if 1 ≤ (wrap64 ((a0.size : Int) - (bt354.1.size : Int))) then (if (wrap64 ((a0.size : Int) - (bt354.1.size : Int))) ≤ (a0.size : Int) then (some (a0.extract 1 ((wrap64 ((a0.size : Int) - (bt354.1.size : Int))) : Int).toNat, bt354.1)) else (none)) else (none))) else (none)) = some (r1, r2) := h
  clear h
  obtain ⟨c2, H⟩ := ite_s H
  have c2b0 := eq_true c2
  have c2b1 := decide_eq_true c2
  clear c2
  obtain ⟨⟨t354, t355⟩, A3, H⟩ := bo_ H
  dsimp only at H
  obtain ⟨c4, H⟩ := ite_s H
  have c4b0 := eq_true c4
  have c4b1 := decide_eq_true c4
  clear c4
  obtain ⟨c5, H⟩ := ite_s H
  have c5b0 := eq_true c5
  have c5b1 := decide_eq_true c5
  clear c5
  simp only [Option.some.injEq, Prod.mk.injEq] at H
  obtain ⟨rfl, rfl⟩ := H
  go_enter Try.func58, Try.ntmps58
  go_wp2_with (first | ((with_reducible refine gate_callee (f := 45) rfl ?_); refine gL_ 9 Try.func45 #[.string (a0.extract 1 a0.size)] ?_; (with_reducible refine (impl_endBinary.calls k (a0.extract 1 a0.size) t354 t355 _ A3.out).mono ?_); rintro e w' ⟨rfl, ⟨nd, rfl⟩⟩; refine ⟨_, rfl, ?_⟩))
  go_ret2
  exact ⟨rf_, d0_⟩

def slices_Grow_int64_int64.f (a1 : Int) : Option (List Int) := if 0 ≤ a1 ∧ a1 < 17592186044416 then some [] else none
theorem slices_Grow_int64_int64.calls (a1 : Int) (r : List Int) (w : World) (h : slices_Grow_int64_int64.f a1 = some r) :
    Calls Try.prog 85 #[.slice none 0 0, .int .i64 a1] w fun e w' => ∃ v0_ : Value, e = .returned (v0_) ∧ Kd.R (Kd.int .i64) 2 w' w.heap.size (fun _ => True) v0_ r ∧ Below w.heap.size w w' := by
  unfold slices_Grow_int64_int64.f at h
  by_cases c : 0 ≤ a1 ∧ a1 < 17592186044416
  · rw [if_pos c] at h
    obtain rfl := Option.some.inj h
    obtain ⟨c1, c2⟩ := c
    have HB := as_ (Below.refl w.heap.size w)
    have d1 : decide (a1 < 0) = false := decide_eq_false (by omega)
    by_cases c3 : 0 < a1
    · have d2 : decide (0 < a1) = true := decide_eq_true c3
      go_enter Try.func85, Try.ntmps85
      go_wp2_with (at_builtin; refine Kd.R_append_zeros (Kd.int .i64) (w0 := w) w.heap.size rfl (.tmp 20) (.tmp 21) 24 3 2 (.int .i64 0) 8 rfl Try.underlying24 Try.underlying3 info2 rfl (by decide) (by omega) (.slice none 0 0) ([] : List Int) 0 (a1 : Int) (fun _ => True) rfl rfl rfl ?aF ?aO c1 ?aB ?aS ?aL ?_; (case aF => exact (fun _ _ => trivial)); (case aO => exact Kd.R_nil _ _ _ _ _); (case aB => exact (b_ HB)); (case aS => exact (below_size (b_ HB))); (case aL => simp; omega); intro v1 w1 ho hb hg hat; obtain ⟨A, cp, rfl⟩ := Kd.R_slice ho; have hT := as_ (Kd.R_take ho (Nat.zero_le _)); have hB := as_ hb; clear ho hb hg hat HB)
      go_ret
      exact ⟨_, rfl, hT.out, hB.out⟩
    have d2 : decide (0 < a1) = false := decide_eq_false c3
    go_enter Try.func85, Try.ntmps85
    go_wp2
    go_ret
    exact ⟨_, rfl, Kd.R_nil _ _ _ _ _, Below.refl _ _⟩
  · rw [if_neg c] at h
    cases h

mutual
def slices_Concat_int64_int64.l0 : Nat → List (List Int) → Int → List (List Int) → Int → Int → Option (List Int)
  | 0, _, _, _, _, _ => none
  | k + 1, x0, x3, x9, x10, x11 => if x11 < x10 then (if 0 ≤ x11 then (if x11 < (x9.length : Int) then (if (wrap64 (x3 + ((rd_L2 x9 x11).length : Int))) < 0 then (none) else (slices_Concat_int64_int64.l0 k x0 (wrap64 (x3 + ((rd_L2 x9 x11).length : Int))) x9 x10 (wrap64 (x11 + 1)))) else (none)) else (none)) else ((slices_Grow_int64_int64.f x3).bind fun t357 => (slices_Concat_int64_int64.l1 k t357 x0 (x0.length : Int) 0))
def slices_Concat_int64_int64.l1 : Nat → List Int → List (List Int) → Int → Int → Option (List Int)
  | 0, _, _, _, _ => none
  | k + 1, x6, x25, x26, x27 => if x27 < x26 then (if 0 ≤ x27 then (if x27 < (x25.length : Int) then (if x6.length + (rd_L2 x25 x27).length < 17592186044416 then (slices_Concat_int64_int64.l1 k (x6 ++ (rd_L2 x25 x27)) x25 x26 (wrap64 (x27 + 1))) else (none)) else (none)) else (none)) else (some x6)
end
def slices_Concat_int64_int64.f (k : Nat) (l0 : List (List Int)) : Option (List Int) := slices_Concat_int64_int64.l0 k l0 0 l0 (l0.length : Int) 0
theorem slices_Concat_int64_int64.calls (k : Nat) (A0 : Option Addr) (c0 : Nat) (l0 : List (List Int)) (r : List Int) (w : World) (hr0 : Kd.C (Kd.slice 2 (Kd.int .i64)) w A0 l0.length l0) (hc0 : l0.length ≤ c0) (h : slices_Concat_int64_int64.f k l0 = some r) :
    Calls Try.prog 78 #[.slice A0 l0.length c0] w fun e w' => ∃ v0_ : Value, e = .returned (v0_) ∧ Kd.R (Kd.int .i64) 2 w' w.heap.size (fun _ => True) v0_ r ∧ Below w.heap.size w w' := by
  have HR0 := as_ hr0
  have HC0 := as_ hc0
  clear hr0 hc0
  have HB := as_ (Below.refl w.heap.size w)
  have H : (slices_Concat_int64_int64.l0 k l0 0 l0 (l0.length : Int) 0) = some r := h
  clear h
  have H' := as_ H
  clear H
  go_enter Try.func78, Try.ntmps78
  go_wp2
  go_loopg [3, 11] k (fun kq v3 v11 w' => ∃ (x3_1 : Int) (x11_1 : Int), v3 = .int .i64 x3_1 ∧ v11 = .int .i64 x11_1 ∧ Aside0 (slices_Concat_int64_int64.l0 kq l0 x3_1 l0 (l0.length : Int) x11_1 = some r) ∧ Aside0 (kq ≤ k) ∧ Aside0 (Below w.heap.size w w'))
  case atStart => exact ⟨(0), (0), rf_, rf_, H', ⟨Nat.le_refl _⟩, ⟨b_ HB⟩⟩
  case round =>
    clear H'
    obtain ⟨x3_1, x11_1, rfl, rfl, HA, HK1, HB⟩ := hrel
    cases gk with
    | zero => exact absurd HA.out (by simp [slices_Concat_int64_int64.l0])
    | succ k1 =>
      have H := HA.out
      clear HA
      simp only [slices_Concat_int64_int64.l0] at H
      by_cases c2 : x11_1 < (l0.length : Int)
      · rw [if_pos c2] at H
        have c2b0 := decide_eq_true c2
        clear c2
        obtain ⟨c3b0, H⟩ := ite_d H
        obtain ⟨c4b0, H⟩ := ite_d H
        by_cases c5 : (wrap64 (x3_1 + ((rd_L2 l0 x11_1).length : Int))) < 0
        · rw [if_pos c5] at H
          exact absurd H (by simp)
        rw [if_neg c5] at H
        have c5b0 := decide_eq_false c5
        clear c5
        have H' := as_ H
        clear H
        have p356 : 0 ≤ (x11_1 : Int) := od_
        have q356 : x11_1 < (l0.length : Int) := od_
        obtain ⟨ad356, A356_0, c356_0, e356, hx356_0, hl356_0, hi356_0⟩ := at_L2 HR0.out x11_1 p356 q356
        cases e356
        try replace hx356_0 := hx_ HB hx356_0
        have HR356_0 := as_ hi356_0
        have HC356_0 := as_ hl356_0
        clear hi356_0 hl356_0
        replace p356 := eq_true p356
        replace q356 := eq_true q356
        go_wp2
        go_roundg k1
        case measure => have := HK1.out; omega
        case rel => exact ⟨(wrap64 (x3_1 + ((rd_L2 l0 x11_1).length : Int))), (wrap64 (x11_1 + 1)), rf_, rf_, H', om_ HK1, ⟨b_ HB⟩⟩
      rw [if_neg c2] at H
      have c2b0 := decide_eq_false c2
      clear c2
      obtain ⟨t357, A6, H⟩ := bo_ H
      have H' := as_ H
      clear H
      go_wp2_with (first | ((with_reducible refine gate_callee (f := 85) rfl ?_); refine gL_ 24 Try.func85 #[.slice none 0 0, .int .i64 x3_1] ?_; (with_reducible refine (slices_Grow_int64_int64.calls x3_1 t357 _ A6.out).mono ?_); rintro e w7 ⟨v358, rfl, ho0, hb⟩; refine ⟨_, rfl, ?_⟩; have HO359 := as_ (Kd.R_lower ho0 (below_size (b_ HB))); replace HB := as_ (below_step (b_ HB) hb); clear hb ho0))
      go_loopg [6, 27] k1 (fun kq v6 v27 w' => ∃ (x6_2 : List Int) (x27_2 : Int), v27 = .int .i64 x27_2 ∧ Aside0 (slices_Concat_int64_int64.l1 kq x6_2 l0 (l0.length : Int) x27_2 = some r) ∧ Aside0 (kq ≤ k1) ∧ Aside0 (Kd.R (Kd.int .i64) 2 w' w.heap.size (fun _ => True) v6 x6_2) ∧ Aside0 (Below w.heap.size w w'))
      case atStart => exact ⟨(t357), (0), rf_, H', ⟨Nat.le_refl _⟩, ⟨bR_ HO359⟩, ⟨b_ HB⟩⟩
      case round =>
        clear H'
        (try clear c2); (try clear c2b0); (try clear p2); (try clear c3); (try clear c3b0); (try clear p3); (try clear q3); (try clear hx3); (try clear c4); (try clear c4b0); (try clear c5); (try clear c5b0); (try clear p6); (try clear c7); (try clear hx356_0); (try clear p356); (try clear q356)
        obtain ⟨x6_2, x27_2, rfl, HA, HK2, HO_6, HB⟩ := hrel
        cases gk with
        | zero => exact absurd HA.out (by simp [slices_Concat_int64_int64.l1])
        | succ k2 =>
          have H := HA.out
          clear HA
          simp only [slices_Concat_int64_int64.l1] at H
          by_cases c8 : x27_2 < (l0.length : Int)
          rotate_left
          · rw [if_neg c8] at H
            have c8b0 := decide_eq_false c8
            clear c8
            obtain rfl := Option.some.inj H
            go_wp2
            go_ret
            exact ⟨_, re_, bR_ HO_6, b_ HB⟩
          rw [if_pos c8] at H
          have c8b0 := decide_eq_true c8
          clear c8
          obtain ⟨c9b0, H⟩ := ite_d H
          obtain ⟨c10b0, H⟩ := ite_d H
          obtain ⟨c11, H⟩ := ite_s H
          have LMc11 := as_ c11
          clear c11
          obtain ⟨y361, hy361⟩ := ex_ (x6_2 ++ (rd_L2 l0 x27_2) : List Int)
          replace H : (slices_Concat_int64_int64.l1 k2 y361 l0 (l0.length : Int) (wrap64 (x27_2 + 1))) = some r := yr_ hy361 H
          have Ny361 := as_ hy361
          clear hy361
          have H' := as_ H
          clear H
          have p360 : 0 ≤ (x27_2 : Int) := od_
          have q360 : x27_2 < (l0.length : Int) := od_
          obtain ⟨ad360, A360_0, c360_0, e360, hx360_0, hl360_0, hi360_0⟩ := at_L2 HR0.out x27_2 p360 q360
          cases e360
          try replace hx360_0 := hx_ HB hx360_0
          have HR360_0 := as_ hi360_0
          have HC360_0 := as_ hl360_0
          clear hi360_0 hl360_0
          replace p360 := eq_true p360
          replace q360 := eq_true q360
          go_wp2_with (first | ((with_reducible refine gate_builtin (b := .append) (xs := #[.tmp 31, .tmp 32]) rfl ?_); at_builtin; refine Kd.R_append_rows (Kd.int .i64) (w0 := w) w.heap.size rfl (.tmp 31) (.tmp 32) 24 2 (.int .i64 0) 8 rfl Try.underlying24 info2 rfl (by decide) (by omega) u6 x6_2 (rd_L2 l0 x27_2) _ _ _ (fun _ => True) (fun _ => False) rfl rfl ?aO ?aR (fun _ _ h => h) (fun _ h => h.elim) ?aF ?aB ?aS ?aL ?_; (case aR => exact bC_ HR360_0 HB); (case aB => exact (b_ HB)); (case aF => exact (fun _ _ => trivial)); (case aO => exact (bR_ HO_6)); (case aS => exact (below_size (b_ HB))); (case aL => have := LMc11.out; omega); intro v362 w12 ho hb hg hat; rw [← Ny361.out] at ho; replace HB := as_ (hb); have HO363 := as_ (ho); clear HO_6; clear ho hb hg hat))
          go_roundg k2
          case measure => have := HK1.out; have := HK2.out; omega
          case rel => exact ⟨(y361), (wrap64 (x27_2 + 1)), rf_, H', ⟨by have := HK1.out; have := HK2.out; omega⟩, ⟨bR_ HO363⟩, ⟨b_ HB⟩⟩

def impl_listOf.f : Nat → ByteArray → Option (Int × List Int)
  | 0, _ => none
  | k + 1, a0 => if a0.toList = ([48] : List UInt8) then (some (0, ([] : List Int))) else ((impl_sides.f k a0).bind fun bt364 => ((impl_listOf.f k bt364.1).bind fun bt366 => ((impl_listOf.f k bt364.2).bind fun bt370 => ((slices_Concat_int64_int64.f k (([(([bt366.1] : List Int)), bt366.2, bt370.2] : List (List Int)))).bind fun t380 => (some (wrap64 (bt370.1 + 1), t380))))))
theorem impl_listOf.calls (k : Nat) : ∀ (a0 : ByteArray) (r1 : Int) (r2 : List Int) (w : World) (h : impl_listOf.f k a0 = some (r1, r2)),
    Calls Try.prog 44 #[.string a0] w fun e w' => ∃ v1_ : Value, e = .returned (.tuple #[.int .i64 r1, v1_]) ∧ Kd.R (Kd.int .i64) 2 w' w.heap.size (fun _ => True) v1_ r2 ∧ Below w.heap.size w w' := by
  induction k using Nat.strongRecOn with
  | _ k ih =>
  intro a0 r1 r2 w h
  cases k with
  | zero => exact absurd h (by simp [impl_listOf.f])
  | succ k =>
  simp only [impl_listOf.f] at h
  have HB := as_ (Below.refl w.heap.size w)
  have H : (if a0.toList = ([48] : List UInt8) then (some (0, ([] : List Int))) else ((impl_sides.f k a0).bind fun bt364 => ((impl_listOf.f k bt364.1).bind fun bt366 => ((impl_listOf.f k bt364.2).bind fun bt370 => ((slices_Concat_int64_int64.f k (([(([bt366.1] : List Int)), bt366.2, bt370.2] : List (List Int)))).bind fun t380 => (some (wrap64 (bt370.1 + 1), t380))))))) = some (r1, r2) := h
  clear h
  by_cases c2 : a0.toList = ([48] : List UInt8)
  · rw [if_pos c2] at H
    have c2b0 := beq_iff_eq.mpr c2
    have c2b1 := bne_eq_false_iff_eq.mpr c2
    clear c2
    simp only [Option.some.injEq, Prod.mk.injEq] at H
    obtain ⟨rfl, rfl⟩ := H
    go_enter Try.func44, Try.ntmps44
    go_wp2
    go_ret2
    exact ⟨_, re_, by first | exact Kd.R_nil _ _ _ _ _ | exact Kd.N_nil _ _ _ _ _ | exact Kd.V_nil _ _ _ _ _ | exact Kd.Q_nil _ _ _ _ _ | exact Kd.S_nil _ _ _ _ _, b_ HB⟩
  rw [if_neg c2] at H
  have c2b0 := beq_eq_false_iff_ne.mpr c2
  have c2b1 := bne_iff_ne.mpr c2
  obtain ⟨⟨t364, t365⟩, A3, H⟩ := bo_ H
  dsimp only at H
  obtain ⟨⟨t366, t367⟩, A4, H⟩ := bo_ H
  dsimp only at H
  obtain ⟨⟨t370, t371⟩, A5, H⟩ := bo_ H
  dsimp only at H
  obtain ⟨y374, hy374⟩ := ex_ (([t366] : List Int) : List Int)
  replace H : ((slices_Concat_int64_int64.f k (([y374, t367, t371] : List (List Int)))).bind fun t380 => (some (wrap64 (t370 + 1), t380))) = some (r1, r2) := yr_ hy374 H
  have Ny374 := as_ hy374
  clear hy374
  obtain ⟨y377, hy377⟩ := ex_ (([y374, t367, t371] : List (List Int)) : List (List Int))
  replace H : ((slices_Concat_int64_int64.f k y377).bind fun t380 => (some (wrap64 (t370 + 1), t380))) = some (r1, r2) := yr_ hy377 H
  have Ny377 := as_ hy377
  clear hy377
  obtain ⟨t380, A6, H⟩ := bo_ H
  simp only [Option.some.injEq, Prod.mk.injEq] at H
  obtain ⟨rfl, rfl⟩ := H
  go_enter Try.func44, Try.ntmps44
  go_wp2_with (first | ((with_reducible refine gate_callee (f := 58) rfl ?_); refine gL_ 14 Try.func58 #[.string a0] ?_; (with_reducible refine (impl_sides.calls k a0 t364 t365 _ A3.out).mono ?_); rintro e w' ⟨rfl, ⟨nd, rfl⟩⟩; refine ⟨_, rfl, ?_⟩) | ((with_reducible refine gate_callee (f := 44) rfl ?_); refine gL_ 19 Try.func44 #[.string t364] ?_; (with_reducible refine (ih k (by omega) t364 t366 t367 _ A4.out).mono ?_); rintro e w7 ⟨v368, rfl, ho0, hb⟩; refine ⟨_, rfl, ?_⟩; have HO369 := as_ (Kd.R_lower ho0 (below_size (b_ HB))); replace HB := as_ (below_step (b_ HB) hb); clear hb ho0) | ((with_reducible refine gate_callee (f := 44) rfl ?_); refine gL_ 24 Try.func44 #[.string t365] ?_; (with_reducible refine (ih k (by omega) t365 t370 t371 _ A5.out).mono ?_); rintro e w8 ⟨v372, rfl, ho0, hb⟩; refine ⟨_, rfl, ?_⟩; have HO373 := as_ (Kd.R_lower (nRR_ ho0 HO369) (below_size (b_ HB))); replace HO369 := eR_ HO369 (Kd.R_base ho0) hb; replace HB := as_ (below_step (b_ HB) hb); clear hb ho0) | ((with_reducible refine gate_dst (N := 30) rfl ?_); refine Kd.R_lit (Kd.int .i64) _ 2 ?hg (N := 30) ?hd (xs := ([t366] : List Int)) (inner := [.int .i64 t366]) (ok := fun _ => True) (okp := fun _ => True) ?hr ?hp (fun _ hk => hk) trivial (Below.refl _ _) (Nat.le_refl _) (by simp) ?_; (case hd => rfl); (case hg => rfl); (case hr => first | (go_simp; done) | (go_simp; rfl)); (case hp => exact (Reps.one (show Kd.M (Kd.int .i64) _ _ _ t366 [.int .i64 t366] from rfl) (Reps.none _ _))); intro v375 w9 ho10 hb hg_ hnew_; clear hg_ hnew_; (first | rw [← Ny374.out] at ho10 | (simp only [Int.reduceToNat] at ho10; rw [← Ny374.out] at ho10)); have HO376 := as_ (Kd.R_lower (nRR_ (nRR_ ho10 HO369) HO373) (below_size (b_ HB))); replace HO369 := eR_ HO369 (Kd.R_base ho10) hb; replace HO373 := eR_ HO373 (Kd.R_base ho10) hb; replace HB := as_ (below_step (b_ HB) hb); clear hb ho10; obtain ⟨Ao11, co11, eo11⟩ := Kd.R_slice HO376.out; subst eo11; obtain ⟨Ao12, co12, eo12⟩ := Kd.R_slice HO369.out; subst eo12; obtain ⟨Ao13, co13, eo13⟩ := Kd.R_slice HO373.out; subst eo13) | ((with_reducible refine gate_dst (N := 33) rfl ?_); refine Kd.N_lit (Kd.slice 2 (Kd.int .i64)) _ 24 ?hg (N' := 33) ?hd (xs := ([y374, t367, t371] : List (List Int))) (inner := [.slice Ao11 y374.length co11, .slice Ao12 t367.length co12, .slice Ao13 t371.length co13]) (ok := (fun _ => True)) (okp := (fun _ => True)) ?hr ?hp (fun _ hk => hk) ((show ∀ k_, w9.heap.size ≤ k_ → (fun _ => True) k_ from fun k_ hk => trivial) _ (Nat.le_refl _)) (Below.refl _ _) (Nat.le_refl _) (by simp) ?_; (case hd => rfl); (case hg => rfl); (case hr => first | (go_simp; done) | (go_simp; rfl)); (case hp => exact (Reps.one (show Kd.FK (Kd.slice 2 (Kd.int .i64)) _ _ y374 [.slice Ao11 y374.length co11] from (Kd.FK_slice_mk (Kd.R_reads' (Kd.R_mono (ok' := (fun _ => True)) (HO376.out) (fun k_ hk => trivial))).2.1 (Kd.R_F (Kd.R_mono (ok' := (fun _ => True)) (HO376.out) (fun k_ hk => trivial))))) (Reps.one (show Kd.FK (Kd.slice 2 (Kd.int .i64)) _ _ t367 [.slice Ao12 t367.length co12] from (Kd.FK_slice_mk (Kd.R_reads' (Kd.R_mono (ok' := (fun _ => True)) (HO369.out) (fun k_ hk => trivial))).2.1 (Kd.R_F (Kd.R_mono (ok' := (fun _ => True)) (HO369.out) (fun k_ hk => trivial))))) (Reps.one (show Kd.FK (Kd.slice 2 (Kd.int .i64)) _ _ t371 [.slice Ao13 t371.length co13] from (Kd.FK_slice_mk (Kd.R_reads' (Kd.R_mono (ok' := (fun _ => True)) (HO373.out) (fun k_ hk => trivial))).2.1 (Kd.R_F (Kd.R_mono (ok' := (fun _ => True)) (HO373.out) (fun k_ hk => trivial))))) (Reps.none _ _))))); intro v378 w14 ho15 hb hg_ hnew_; clear hg_ hnew_; (first | rw [← Ny377.out] at ho15 | (simp only [Int.reduceToNat] at ho15; rw [← Ny377.out] at ho15)); have HO379 := as_ (Kd.N_lower ho15 (below_size (b_ HB))); replace HB := as_ (below_step (b_ HB) hb); clear HO369 HO373 HO376; clear hb ho15; obtain ⟨Ao16, co16, eo16⟩ := Kd.N_slice HO379.out; subst eo16) | ((with_reducible refine gate_callee (f := 78) rfl ?_); refine gL_ 34 Try.func78 #[.slice Ao16 y377.length co16] ?_; (with_reducible refine (slices_Concat_int64_int64.calls k _ _ y377 t380 _ ?side1 ?side2 A6.out).mono ?_); (case side1 => repeat (first | exact (Kd.N_reads' HO379.out).2.2 | (with_reducible refine Kd.C_alloc ?_ _) | (with_reducible refine Kd.C_drewN ?_ _) | (with_reducible refine Kd.C_drew ?_))); (case side2 => exact (Kd.N_reads' HO379.out).2.1); rintro e w17 ⟨v381, rfl, ho0, hb⟩; refine ⟨_, rfl, ?_⟩; replace HO379 := as_ (Kd.N_elder' (bN_ HO379) (Kd.R_base ho0) hb); have HO382 := as_ (Kd.R_lower ho0 (below_size (b_ HB))); replace HB := as_ (below_step (b_ HB) hb); clear hb ho0))
  go_ret2
  exact ⟨_, re_, bR_ HO382, b_ HB⟩

def impl_TreeOfBinary.f (k : Nat) (a0 : ByteArray) : Option (List Int × Int) := (impl_IsBinary.f k a0).bind fun t384 => (if t384 = true then ((impl_listOf.f k a0).bind fun bt385 => ((some (([bt385.1] : List Int) : List Int)).bind fun y389 => (if y389.length + bt385.2.length < 17592186044416 then (some ((y389 ++ bt385.2), 0)) else (none)))) else (some (([] : List Int), 1)))
theorem impl_TreeOfBinary.calls (k : Nat) (a0 : ByteArray) (r1 : List Int) (r2 : Int) (w : World) (h : impl_TreeOfBinary.f k a0 = some (r1, r2)) :
    Calls Try.prog 8 #[.string a0] w fun e w' => ∃ v0_ : Value, e = .returned (.tuple #[.agg #[v0_], .int .i64 r2]) ∧ Kd.R (Kd.int .i64) 2 w' w.heap.size (fun _ => True) v0_ r1 ∧ Below w.heap.size w w' := by
  have hu26 := Try.underlying26
  have HB := as_ (Below.refl w.heap.size w)
  have H : ((impl_IsBinary.f k a0).bind fun t384 => (if t384 = true then ((impl_listOf.f k a0).bind fun bt385 => ((some (([bt385.1] : List Int) : List Int)).bind fun y389 => (if y389.length + bt385.2.length < 17592186044416 then (some ((y389 ++ bt385.2), 0)) else (none)))) else (some (([] : List Int), 1)))) = some (r1, r2) := h
  clear h
  obtain ⟨t384, A2, H⟩ := bo_ H
  by_cases c3 : t384 = true
  rotate_left
  · replace c3 := Bool.eq_false_iff.mpr c3
    subst c3
    replace H := if_ H
    simp only [Option.some.injEq, Prod.mk.injEq] at H
    obtain ⟨rfl, rfl⟩ := H
    go_enter Try.func8, Try.ntmps8
    go_wp2_with (first | ((with_reducible refine gate_dst (N := 2) rfl ?_); refine bx_ 2 #[.slice none 0 0] 26 ?_; intro gb383 hg w14 hbox hb; have BK383 := as_ (hbox); have GW383 := gz_ hg (b_ HB); have GE383 := GW383; replace HB := as_ (below_step (b_ HB) hb); clear hb hbox hg) | ((with_reducible refine gate_callee (f := 10) rfl ?_); refine gL_ 7 Try.func10 #[.string a0] ?_; (with_reducible refine (impl_IsBinary.calls k a0 false _ A2.out).mono ?_); rintro e w' ⟨rfl, ⟨nd, rfl⟩⟩; refine ⟨_, rfl, ?_⟩; (try (rw [drewN_self w14]; generalize hq_ : World.drewN w14 _ = w14; replace BK383 : Aside0 (w14.heap[gb383]? = some (.cells #[.slice none 0 0] 26 (0, 0))) := ⟨by rw [← hq_]; exact (bk_ BK383)⟩; replace HB : Aside0 (Below w.heap.size w w14) := ⟨by rw [← hq_]; exact (b1_ HB GE383)⟩; clear hq_)); obtain ⟨hcz15_0, hfz15_0⟩ := tc1_ BK383))
    refine bodyPost_ret (results_ct rfl _ _ gb383 26 #[.slice none 0 0] (0, 0) _ rfl (bp_ BK383) Try.underlying26 rfl (by kernel_rfl)) rfl ?_
    exact ⟨_, re_, by first | exact Kd.R_nil _ _ _ _ _ | exact Kd.N_nil _ _ _ _ _ | exact Kd.V_nil _ _ _ _ _ | exact Kd.Q_nil _ _ _ _ _ | exact Kd.S_nil _ _ _ _ _, b1_ HB GE383⟩
  subst c3
  replace H := it_ H
  obtain ⟨⟨t385, t386⟩, A4, H⟩ := bo_ H
  dsimp only at H
  obtain ⟨y389, hy389⟩ := ex_ (([t385] : List Int) : List Int)
  replace H : (if y389.length + t386.length < 17592186044416 then (some ((y389 ++ t386), 0)) else (none)) = some (r1, r2) := yr_ hy389 H
  have Ny389 := as_ hy389
  clear hy389
  obtain ⟨c5, H⟩ := ite_s H
  have LMc5 := as_ c5
  clear c5
  obtain ⟨y392, hy392⟩ := ex_ (y389 ++ t386 : List Int)
  replace H : (some (y392, 0)) = some (r1, r2) := yr_ hy392 H
  have Ny392 := as_ hy392
  clear hy392
  simp only [Option.some.injEq, Prod.mk.injEq] at H
  obtain ⟨rfl, rfl⟩ := H
  go_enter Try.func8, Try.ntmps8
  go_wp2_with (first | ((with_reducible refine gate_dst (N := 2) rfl ?_); refine bx_ 2 #[.slice none 0 0] 26 ?_; intro gb383 hg w6 hbox hb; have BK383 := as_ (hbox); have GW383 := gz_ hg (b_ HB); have GE383 := GW383; replace HB := as_ (below_step (b_ HB) hb); clear hb hbox hg) | ((with_reducible refine gate_callee (f := 10) rfl ?_); refine gL_ 7 Try.func10 #[.string a0] ?_; (with_reducible refine (impl_IsBinary.calls k a0 true _ A2.out).mono ?_); rintro e w' ⟨rfl, ⟨nd, rfl⟩⟩; refine ⟨_, rfl, ?_⟩; (try (rw [drewN_self w6]; generalize hq_ : World.drewN w6 _ = w6; replace BK383 : Aside0 (w6.heap[gb383]? = some (.cells #[.slice none 0 0] 26 (0, 0))) := ⟨by rw [← hq_]; exact (bk_ BK383)⟩; replace HB : Aside0 (Below w.heap.size w w6) := ⟨by rw [← hq_]; exact (b1_ HB GE383)⟩; clear hq_))) | ((with_reducible refine gate_callee (f := 44) rfl ?_); refine gL_ 12 Try.func44 #[.string a0] ?_; (with_reducible refine (impl_listOf.calls k a0 t385 t386 _ A4.out).mono ?_); rintro e w7 ⟨v387, rfl, ho0, hb⟩; refine ⟨_, rfl, ?_⟩; have HO388 := as_ (Kd.R_lower ho0 (below_size (b1_ HB GE383))); replace BK383 := kb_ BK383 hb; replace HB := as_ (below_step (b1_ HB GE383) hb); clear hb ho0) | ((with_reducible refine gate_dst (N := 16) rfl ?_); refine Kd.R_lit (Kd.int .i64) _ 2 ?hg (N := 16) ?hd (xs := ([t385] : List Int)) (inner := [.int .i64 t385]) (ok := fun _ => True) (okp := fun _ => True) ?hr ?hp (fun _ hk => hk) trivial (Below.refl _ _) (Nat.le_refl _) (by simp) ?_; (case hd => rfl); (case hg => rfl); (case hr => first | (go_simp; done) | (go_simp; rfl)); (case hp => exact (Reps.one (show Kd.M (Kd.int .i64) _ _ _ t385 [.int .i64 t385] from rfl) (Reps.none _ _))); intro v390 w8 ho9 hb hg_ hnew_; clear hg_ hnew_; (first | rw [← Ny389.out] at ho9 | (simp only [Int.reduceToNat] at ho9; rw [← Ny389.out] at ho9)); have HO391 := as_ (Kd.R_lower (nRR_ ho9 HO388) (below_size (b1_ HB GE383))); replace HO388 := eR_ HO388 (Kd.R_base ho9) hb; replace BK383 := kb_ BK383 hb; replace HB := as_ (below_step (b1_ HB GE383) hb); clear hb ho9; obtain ⟨Ao11, co11, eo11⟩ := Kd.R_slice HO388.out; subst eo11) | ((with_reducible refine gate_builtin (b := .append) (xs := #[.tmp 16, .tmp 17]) rfl ?_); at_builtin; refine Kd.R_append_rows (Kd.int .i64) (w0 := w) w.heap.size rfl (.tmp 16) (.tmp 17) 24 2 (.int .i64 0) 8 rfl Try.underlying24 info2 rfl (by decide) (by omega) v390 y389 t386 _ _ _ (fun k_ => some k_ ≠ (.slice Ao11 t386.length co11 : Value).ownBlock) (fun _ => False) rfl rfl ?aO ?aR (fun _ _ h => h) (fun _ h => h.elim) ?aF ?aB ?aS ?aL ?_; (case aR => exact cC_ (Kd.R_reads' HO388.out).2.2); (case aB => exact (b1_ HB GE383)); (case aF => exact (fun k_ hk => Kd.fresh' (Kd.R_lt (bR_ HO388)) k_ hk)); (case aO => exact (mR_ HO391)); (case aS => exact (below_size (b1_ HB GE383))); (case aL => have := LMc5.out; omega); intro v393 w10 ho hb hg hat; rw [← Ny392.out] at ho; replace BK383 := as_ (blk_grown (bk_ BK383) hg (Kd.R_ne HO391.out BK383.out (by decide))); replace HO388 := as_ (Kd.R_after (ok := (fun _ => True)) (bR_ HO388) hg hat); replace HB := as_ (hb); have HO394 := as_ (ho); clear HO391; clear ho hb hg hat; obtain ⟨Ao12, co12, eo12⟩ := Kd.R_slice HO394.out; subst eo12; obtain ⟨hcz13_0, hfz13_0⟩ := tc1_ BK383))
  refine bodyPost_ret (results_ct rfl _ _ gb383 26 #[.slice Ao12 y392.length co12] (0, 0) _ rfl (bp_ BK383) Try.underlying26 rfl (by kernel_rfl)) rfl ?_
  exact ⟨_, re_, fR1_ HO394 BK383, b1_ HB GE383⟩

def laws_likeInts.l0 : Nat → List Int → List Int → Int → Option (Bool)
  | 0, _, _, _ => none
  | k + 1, x0, x1, x5 => if x5 < (x0.length : Int) then (if 0 ≤ x5 then (if x5 < (x1.length : Int) then (if (rd x0 x5) = (rd x1 x5) then (laws_likeInts.l0 k x0 x1 (wrap64 (x5 + 1))) else (some false)) else (none)) else (none)) else (some true)
def laws_likeInts.f (k : Nat) (l0 : List Int) (l1 : List Int) : Option (Bool) := if (l0.length : Int) = (l1.length : Int) then (laws_likeInts.l0 k l0 l1 0) else (some false)
theorem laws_likeInts.calls (k : Nat) (A0 : Option Addr) (c0 : Nat) (l0 : List Int) (A1 : Option Addr) (c1 : Nat) (l1 : List Int) (r : Bool) (w : World) (hr0 : Kd.C (Kd.int .i64) w A0 l0.length l0) (hc0 : l0.length ≤ c0) (hr1 : Kd.C (Kd.int .i64) w A1 l1.length l1) (hc1 : l1.length ≤ c1) (h : laws_likeInts.f k l0 l1 = some r) :
    Calls Try.prog 20 #[.slice A0 l0.length c0, .slice A1 l1.length c1] w fun e w' => e = .returned (.bool r) ∧ Drawn0 w w' := by
  have HR0 := as_ hr0
  have HC0 := as_ hc0
  clear hr0 hc0
  have HR1 := as_ hr1
  have HC1 := as_ hc1
  clear hr1 hc1
  have H : (if (l0.length : Int) = (l1.length : Int) then (laws_likeInts.l0 k l0 l1 0) else (some false)) = some r := h
  clear h
  by_cases c3 : (l0.length : Int) = (l1.length : Int)
  rotate_left
  · rw [if_neg c3] at H
    have c3b0 := beq_eq_false_iff_ne.mpr c3
    have c3b1 := bne_iff_ne.mpr c3
    have c3b2 : (l0.length == l1.length) = false := by first | simpa using c3 | (simp at c3 ⊢; omega)
    obtain rfl := Option.some.inj H
    go_enter Try.func20, Try.ntmps20
    go_wp2
    repeat (go_quiet (fail); try go_wp2)
    go_ret
    exact ⟨rf_, d0_⟩
  rw [if_pos c3] at H
  have c3b0 := beq_iff_eq.mpr c3
  have c3b1 := bne_eq_false_iff_eq.mpr c3
  have c3b2 : (l0.length == l1.length) = true := by first | simpa using c3 | (simp at c3 ⊢; omega)
  clear c3
  have H' := as_ H
  clear H
  go_enter Try.func20, Try.ntmps20
  go_wp2
  repeat (go_quiet (fail); try go_wp2)
  go_loopg [5] k (fun kq v5 w' => ∃ (x5_1 : Int), v5 = .int .i64 x5_1 ∧ Aside0 (laws_likeInts.l0 kq l0 l1 x5_1 = some r) ∧ Aside0 (kq ≤ k) ∧ Drawn0 w w')
  case atStart => exact ⟨(0), rf_, H', ⟨Nat.le_refl _⟩, d0_⟩
  case round =>
    clear H'
    (try clear c1); (try clear c2); (try clear p2); (try clear c3); (try clear c3b0); (try clear c3b1); (try clear c3b2)
    obtain ⟨x5_1, rfl, HA, HK1, ⟨m1, rfl⟩⟩ := hrel
    cases gk with
    | zero => exact absurd HA.out (by simp [laws_likeInts.l0])
    | succ k1 =>
      have H := HA.out
      clear HA
      simp only [laws_likeInts.l0] at H
      by_cases c4 : x5_1 < (l0.length : Int)
      rotate_left
      · rw [if_neg c4] at H
        have c4b0 := decide_eq_false c4
        clear c4
        obtain rfl := Option.some.inj H
        go_wp2
        repeat (go_quiet (fail); try go_wp2)
        go_ret
        exact ⟨rf_, d0_⟩
      rw [if_pos c4] at H
      have c4b0 := decide_eq_true c4
      clear c4
      obtain ⟨c5b0, H⟩ := ite_d H
      obtain ⟨c6b0, H⟩ := ite_d H
      by_cases c7 : (rd l0 x5_1) = (rd l1 x5_1)
      · rw [if_pos c7] at H
        have c7b0 := beq_iff_eq.mpr c7
        have c7b1 := bne_eq_false_iff_eq.mpr c7
        clear c7
        have H' := as_ H
        clear H
        have p395 : 0 ≤ (x5_1 : Int) := od_
        have q395 : x5_1 < (l0.length : Int) := od_
        obtain ⟨ad395, e395, hx395_0⟩ := Kd.at_int HR0.out x5_1 p395 q395
        cases e395
        replace p395 := eq_true p395
        replace q395 := eq_true q395
        have p396 : 0 ≤ (x5_1 : Int) := od_
        have q396 : x5_1 < (l1.length : Int) := od_
        obtain ⟨ad396, e396, hx396_0⟩ := Kd.at_int HR1.out x5_1 p396 q396
        cases e396
        replace p396 := eq_true p396
        replace q396 := eq_true q396
        go_wp2
        repeat (go_quiet (fail); try go_wp2)
        go_roundg k1
        case measure => have := HK1.out; omega
        case rel => exact ⟨(wrap64 (x5_1 + 1)), rf_, H', om_ HK1, d0_⟩
      rw [if_neg c7] at H
      have c7b0 := beq_eq_false_iff_ne.mpr c7
      have c7b1 := bne_iff_ne.mpr c7
      obtain rfl := Option.some.inj H
      have p395 : 0 ≤ (x5_1 : Int) := od_
      have q395 : x5_1 < (l0.length : Int) := od_
      obtain ⟨ad395, e395, hx395_0⟩ := Kd.at_int HR0.out x5_1 p395 q395
      cases e395
      replace p395 := eq_true p395
      replace q395 := eq_true q395
      have p396 : 0 ≤ (x5_1 : Int) := od_
      have q396 : x5_1 < (l1.length : Int) := od_
      obtain ⟨ad396, e396, hx396_0⟩ := Kd.at_int HR1.out x5_1 p396 q396
      cases e396
      replace p396 := eq_true p396
      replace q396 := eq_true q396
      go_wp2
      repeat (go_quiet (fail); try go_wp2)
      go_ret
      exact ⟨rf_, d0_⟩

def laws_trees5.f (k : Nat) (l0_0 : List Int) (l1_0 : List Int) : Option (Bool) := (laws_likeInts.f k l0_0 l1_0).bind fun t399 => (some t399)
theorem laws_trees5.calls (k : Nat) (A0_0 : Option Addr) (c0_0 : Nat) (l0_0 : List Int) (A1_0 : Option Addr) (c1_0 : Nat) (l1_0 : List Int) (r : Bool) (w : World) (hr0_0 : Kd.C (Kd.int .i64) w A0_0 l0_0.length l0_0) (hc0_0 : l0_0.length ≤ c0_0) (hr1_0 : Kd.C (Kd.int .i64) w A1_0 l1_0.length l1_0) (hc1_0 : l1_0.length ≤ c1_0) (h : laws_trees5.f k l0_0 l1_0 = some r) :
    Calls Try.prog 9 #[.agg #[.slice A0_0 l0_0.length c0_0], .agg #[.slice A1_0 l1_0.length c1_0]] w fun e w' => e = .returned (.bool r) ∧ Below w.heap.size w w' := by
  have hu26 := Try.underlying26
  have HR0_0 := as_ hr0_0
  have HC0_0 := as_ hc0_0
  clear hr0_0 hc0_0
  have HR1_0 := as_ hr1_0
  have HC1_0 := as_ hc1_0
  clear hr1_0 hc1_0
  have HB := as_ (Below.refl w.heap.size w)
  have H : ((laws_likeInts.f k l0_0 l1_0).bind fun t399 => (some t399)) = some r := h
  clear h
  obtain ⟨t399, A3, H⟩ := bo_ H
  obtain rfl := Option.some.inj H
  go_enter Try.func9, Try.ntmps9
  go_wp2_with (first | ((with_reducible refine gate_dst (N := 2) rfl ?_); refine bx_ 2 #[.slice A0_0 l0_0.length c0_0] 26 ?_; intro gb397 hg w4 hbox hb; have BK397 := as_ (hbox); have GW397 := gz_ hg (b_ HB); have GE397 := GW397; replace HB := as_ (below_step (b_ HB) hb); clear hb hbox hg) | ((with_reducible refine gate_dst (N := 3) rfl ?_); refine bx_ 3 #[.slice A1_0 l1_0.length c1_0] 26 ?_; intro gb398 hg w5 hbox hb; have BK398 := as_ (hbox); have GW398 := gz_ hg (b1_ HB GE397); have GE398 := GW398; replace HB := as_ (below_step (b1_ HB GE397) hb); have NB397_398 := nl_ hg (bk_ BK397); have NB398_397 := ng_ hg (bk_ BK397); replace BK397 := kb_ BK397 hb; clear hb hbox hg; have hnb6 := NB397_398.out; have hnc6 := NB398_397.out; obtain ⟨hcz7_0, hfz7_0⟩ := tc1_ BK397; obtain ⟨hcz8_0, hfz8_0⟩ := tc1_ BK398) | ((with_reducible refine gate_callee (f := 20) rfl ?_); refine gL_ 9 Try.func20 #[.slice A0_0 l0_0.length c0_0, .slice A1_0 l1_0.length c1_0] ?_; (with_reducible refine (laws_likeInts.calls k _ _ l0_0 _ _ l1_0 t399 _ ?side1 ?side2 ?side3 ?side4 A3.out).mono ?_); (case side1 => exact bC_ HR0_0 HB); (case side2 => exact HC0_0.out); (case side3 => exact bC_ HR1_0 HB); (case side4 => exact HC1_0.out); rintro e w' ⟨rfl, ⟨nd, rfl⟩⟩; refine ⟨_, rfl, ?_⟩))
  go_ret
  exact ⟨re_, b2_ HB GE397 GE398⟩

def spec_l03Bad.f (s0_0 : List Int) (s0_1 : Int) (s0_2 : Int) (a1 : ByteArray) : Option (ByteArray × Int × Int) := (spec_l01Next.f s0_0 s0_1 s0_2 40).bind fun bt400 => (if bt400.1 = 0 then (if a1.size + 1 ≤ 9223372036854775807 then (some (a1 ++ (⟨#[48]⟩ : ByteArray), bt400.2.1, bt400.2.2)) else (none)) else (if bt400.1 = 1 then (if 1 ≤ (a1.size : Int) then (some (a1.extract 1 a1.size, bt400.2.1, bt400.2.2)) else (none)) else (if bt400.1 = 2 then (some ((⟨#[]⟩ : ByteArray), bt400.2.1, bt400.2.2)) else (if bt400.1 = 3 then (if 1 + a1.size ≤ 9223372036854775807 then (some ((⟨#[120]⟩ : ByteArray) ++ a1, bt400.2.1, bt400.2.2)) else (none)) else (some (a1, bt400.2.1, bt400.2.2))))))
theorem spec_l03Bad.calls (g : Nat) (s0_0 : List Int) (s0_1 : Int) (s0_2 : Int) (a1 : ByteArray) (r1 : ByteArray) (r2 : Int) (r3 : Int) (w0 w : World) (hI : IsS77 w0 w g s0_0 s0_1 s0_2) (hB : Below w0.heap.size w0 w) (h : spec_l03Bad.f s0_0 s0_1 s0_2 a1 = some (r1, r2, r3)) :
    Calls Try.prog 61 #[.pointer (some ⟨g, 0, none⟩), .string a1] w fun e w' => e = .returned (.string r1) ∧ IsS77 w0 w' g s0_0 r2 r3 ∧ Below w0.heap.size w0 w' ∧ KeepBut w w' g none := by
  have HI0 := as_ hI
  have HK := as_ (KeepBut.refl w g none)
  have HL := as_ hB.size
  clear hI
  have HW0 := as_ hB.size
  have HB := as_ hB
  clear hB
  have H : ((spec_l01Next.f s0_0 s0_1 s0_2 40).bind fun bt400 => (if bt400.1 = 0 then (if a1.size + 1 ≤ 9223372036854775807 then (some (a1 ++ (⟨#[48]⟩ : ByteArray), bt400.2.1, bt400.2.2)) else (none)) else (if bt400.1 = 1 then (if 1 ≤ (a1.size : Int) then (some (a1.extract 1 a1.size, bt400.2.1, bt400.2.2)) else (none)) else (if bt400.1 = 2 then (some ((⟨#[]⟩ : ByteArray), bt400.2.1, bt400.2.2)) else (if bt400.1 = 3 then (if 1 + a1.size ≤ 9223372036854775807 then (some ((⟨#[120]⟩ : ByteArray) ++ a1, bt400.2.1, bt400.2.2)) else (none)) else (some (a1, bt400.2.1, bt400.2.2))))))) = some (r1, r2, r3) := h
  clear h
  obtain ⟨⟨t400, t401, t402⟩, A3, H⟩ := bo_ H
  dsimp only at H
  by_cases c4 : t400 = 0
  · rw [if_pos c4] at H
    have c4b0 := beq_iff_eq.mpr c4
    have c4b1 := bne_eq_false_iff_eq.mpr c4
    clear c4
    obtain ⟨c5, H⟩ := ite_s H
    have c5b0 := eq_true c5
    have c5b1 := decide_eq_true c5
    try have c5b2 : (9223372036854775807 < a1.size + 1) = False := eq_false (Nat.not_lt.2 c5)
    simp only [Option.some.injEq, Prod.mk.injEq] at H
    obtain ⟨rfl, rfl, rfl⟩ := H
    go_enter Try.func61, Try.ntmps61
    go_wp2_with (first | ((with_reducible refine gate_callee (f := 63) rfl ?_); refine gL_ 6 Try.func63 #[.pointer (some ⟨g, 0, none⟩), .int .i64 40] ?_; (with_reducible refine (spec_l01Next.calls g s0_0 s0_1 s0_2 40 t400 t401 t402 w0 _ ?side1 ?side2 A3.out).mono ?_); (case side1 => repeat (first | (with_reducible first | exact HI0.out | apply IsS77.alloc | apply IsS77.drewN | apply IsS77.drew | apply IsS77.set_1 | apply IsS77.set_2) | exact HI0.out)); (case side2 => repeat (first | (with_reducible first | exact HB.out | apply below_alloc | apply pw_below_drewN | apply below_drew1 | refine below_set ?_ (IsS77.ge HI0.out)) | exact HB.out)); rintro e w6 ⟨rfl, hi, hb, hk⟩; refine ⟨_, rfl, ?_⟩; replace HK := as_ (KeepBut.trans (ku_ HK) hk (.inl rfl)); replace HB := as_ (hb); replace HI0 := as_ (hi); clear hb hk hi))
    go_ret
    exact ⟨re_, hi77_ HI0, b1_ HB ⟨IsS77.ge HI0.out⟩, ku_ HK⟩
  rw [if_neg c4] at H
  have c4b0 := beq_eq_false_iff_ne.mpr c4
  have c4b1 := bne_iff_ne.mpr c4
  by_cases c7 : t400 = 1
  · rw [if_pos c7] at H
    have c7b0 := beq_iff_eq.mpr c7
    have c7b1 := bne_eq_false_iff_eq.mpr c7
    clear c7
    obtain ⟨c8, H⟩ := ite_s H
    have c8b0 := eq_true c8
    have c8b1 := decide_eq_true c8
    clear c8
    simp only [Option.some.injEq, Prod.mk.injEq] at H
    obtain ⟨rfl, rfl, rfl⟩ := H
    go_enter Try.func61, Try.ntmps61
    go_wp2_with (first | ((with_reducible refine gate_callee (f := 63) rfl ?_); refine gL_ 6 Try.func63 #[.pointer (some ⟨g, 0, none⟩), .int .i64 40] ?_; (with_reducible refine (spec_l01Next.calls g s0_0 s0_1 s0_2 40 t400 t401 t402 w0 _ ?side1 ?side2 A3.out).mono ?_); (case side1 => repeat (first | (with_reducible first | exact HI0.out | apply IsS77.alloc | apply IsS77.drewN | apply IsS77.drew | apply IsS77.set_1 | apply IsS77.set_2) | exact HI0.out)); (case side2 => repeat (first | (with_reducible first | exact HB.out | apply below_alloc | apply pw_below_drewN | apply below_drew1 | refine below_set ?_ (IsS77.ge HI0.out)) | exact HB.out)); rintro e w9 ⟨rfl, hi, hb, hk⟩; refine ⟨_, rfl, ?_⟩; replace HK := as_ (KeepBut.trans (ku_ HK) hk (.inl rfl)); replace HB := as_ (hb); replace HI0 := as_ (hi); clear hb hk hi))
    go_ret
    exact ⟨re_, hi77_ HI0, b1_ HB ⟨IsS77.ge HI0.out⟩, ku_ HK⟩
  rw [if_neg c7] at H
  have c7b0 := beq_eq_false_iff_ne.mpr c7
  have c7b1 := bne_iff_ne.mpr c7
  by_cases c10 : t400 = 2
  · rw [if_pos c10] at H
    have c10b0 := beq_iff_eq.mpr c10
    have c10b1 := bne_eq_false_iff_eq.mpr c10
    clear c10
    simp only [Option.some.injEq, Prod.mk.injEq] at H
    obtain ⟨rfl, rfl, rfl⟩ := H
    go_enter Try.func61, Try.ntmps61
    go_wp2_with (first | ((with_reducible refine gate_callee (f := 63) rfl ?_); refine gL_ 6 Try.func63 #[.pointer (some ⟨g, 0, none⟩), .int .i64 40] ?_; (with_reducible refine (spec_l01Next.calls g s0_0 s0_1 s0_2 40 t400 t401 t402 w0 _ ?side1 ?side2 A3.out).mono ?_); (case side1 => repeat (first | (with_reducible first | exact HI0.out | apply IsS77.alloc | apply IsS77.drewN | apply IsS77.drew | apply IsS77.set_1 | apply IsS77.set_2) | exact HI0.out)); (case side2 => repeat (first | (with_reducible first | exact HB.out | apply below_alloc | apply pw_below_drewN | apply below_drew1 | refine below_set ?_ (IsS77.ge HI0.out)) | exact HB.out)); rintro e w11 ⟨rfl, hi, hb, hk⟩; refine ⟨_, rfl, ?_⟩; replace HK := as_ (KeepBut.trans (ku_ HK) hk (.inl rfl)); replace HB := as_ (hb); replace HI0 := as_ (hi); clear hb hk hi))
    go_ret
    exact ⟨re_, hi77_ HI0, b1_ HB ⟨IsS77.ge HI0.out⟩, ku_ HK⟩
  rw [if_neg c10] at H
  have c10b0 := beq_eq_false_iff_ne.mpr c10
  have c10b1 := bne_iff_ne.mpr c10
  by_cases c12 : t400 = 3
  rotate_left
  · rw [if_neg c12] at H
    have c12b0 := beq_eq_false_iff_ne.mpr c12
    have c12b1 := bne_iff_ne.mpr c12
    simp only [Option.some.injEq, Prod.mk.injEq] at H
    obtain ⟨rfl, rfl, rfl⟩ := H
    go_enter Try.func61, Try.ntmps61
    go_wp2_with (first | ((with_reducible refine gate_callee (f := 63) rfl ?_); refine gL_ 6 Try.func63 #[.pointer (some ⟨g, 0, none⟩), .int .i64 40] ?_; (with_reducible refine (spec_l01Next.calls g s0_0 s0_1 s0_2 40 t400 t401 t402 w0 _ ?side1 ?side2 A3.out).mono ?_); (case side1 => repeat (first | (with_reducible first | exact HI0.out | apply IsS77.alloc | apply IsS77.drewN | apply IsS77.drew | apply IsS77.set_1 | apply IsS77.set_2) | exact HI0.out)); (case side2 => repeat (first | (with_reducible first | exact HB.out | apply below_alloc | apply pw_below_drewN | apply below_drew1 | refine below_set ?_ (IsS77.ge HI0.out)) | exact HB.out)); rintro e w15 ⟨rfl, hi, hb, hk⟩; refine ⟨_, rfl, ?_⟩; replace HK := as_ (KeepBut.trans (ku_ HK) hk (.inl rfl)); replace HB := as_ (hb); replace HI0 := as_ (hi); clear hb hk hi))
    go_ret
    exact ⟨re_, hi77_ HI0, b1_ HB ⟨IsS77.ge HI0.out⟩, ku_ HK⟩
  rw [if_pos c12] at H
  have c12b0 := beq_iff_eq.mpr c12
  have c12b1 := bne_eq_false_iff_eq.mpr c12
  clear c12
  obtain ⟨c13, H⟩ := ite_s H
  have c13b0 := eq_true c13
  have c13b1 := decide_eq_true c13
  try have c13b2 : (9223372036854775807 < 1 + a1.size) = False := eq_false (Nat.not_lt.2 c13)
  simp only [Option.some.injEq, Prod.mk.injEq] at H
  obtain ⟨rfl, rfl, rfl⟩ := H
  go_enter Try.func61, Try.ntmps61
  go_wp2_with (first | ((with_reducible refine gate_callee (f := 63) rfl ?_); refine gL_ 6 Try.func63 #[.pointer (some ⟨g, 0, none⟩), .int .i64 40] ?_; (with_reducible refine (spec_l01Next.calls g s0_0 s0_1 s0_2 40 t400 t401 t402 w0 _ ?side1 ?side2 A3.out).mono ?_); (case side1 => repeat (first | (with_reducible first | exact HI0.out | apply IsS77.alloc | apply IsS77.drewN | apply IsS77.drew | apply IsS77.set_1 | apply IsS77.set_2) | exact HI0.out)); (case side2 => repeat (first | (with_reducible first | exact HB.out | apply below_alloc | apply pw_below_drewN | apply below_drew1 | refine below_set ?_ (IsS77.ge HI0.out)) | exact HB.out)); rintro e w14 ⟨rfl, hi, hb, hk⟩; refine ⟨_, rfl, ?_⟩; replace HK := as_ (KeepBut.trans (ku_ HK) hk (.inl rfl)); replace HB := as_ (hb); replace HI0 := as_ (hi); clear hb hk hi))
  go_ret
  exact ⟨re_, hi77_ HI0, b1_ HB ⟨IsS77.ge HI0.out⟩, ku_ HK⟩

mutual
def spec_l03End.l0 : Nat → ByteArray → Int → Int → Option (Int)
  | 0, _, _, _ => none
  | k + 1, x0, x1, x5 => if x5 > 0 then (if x1 ≥ (x0.size : Int) then (spec_l03End.j1 k x0 x1 x5 true) else (if 0 ≤ x1 then (if x1 < (x0.size : Int) then (if (bt x0 x1) = 48 then (spec_l03End.j1 k x0 x1 x5 false) else (spec_l03End.j1 k x0 x1 x5 ((bt x0 x1) != 49))) else (none)) else (none))) else (some x1)
def spec_l03End.j1 : Nat → ByteArray → Int → Int → Bool → Option (Int)
  | 0, _, _, _, _ => none
  | k + 1, x0, x1, x5, x23 => if x23 = true then (some (-1)) else (if 0 ≤ x1 then (if x1 < (x0.size : Int) then (if (bt x0 x1) = 49 then (spec_l03End.l0 k x0 (wrap64 (x1 + 1)) (wrap64 (x5 + 1))) else (spec_l03End.l0 k x0 (wrap64 (x1 + 1)) (wrap64 (x5 - 1)))) else (none)) else (none))
end
def spec_l03End.f (k : Nat) (a0 : ByteArray) (a1 : Int) : Option (Int) := spec_l03End.l0 k a0 a1 1
theorem spec_l03End.calls (k : Nat) (a0 : ByteArray) (a1 : Int) (r : Int) (w : World) (h : spec_l03End.f k a0 a1 = some r) :
    Calls Try.prog 79 #[.string a0, .int .i64 a1] w fun e w' => e = .returned (.int .i64 r) ∧ Drawn0 w w' := by
  have H : (spec_l03End.l0 k a0 a1 1) = some r := h
  clear h
  have H' := as_ H
  clear H
  go_enter Try.func79, Try.ntmps79
  go_wp2
  go_loopg [1, 5] k (fun kq v1 v5 w' => ∃ (x1_1 : Int) (x5_1 : Int), v1 = .int .i64 x1_1 ∧ v5 = .int .i64 x5_1 ∧ Aside0 (spec_l03End.l0 kq a0 x1_1 x5_1 = some r) ∧ Aside0 (kq ≤ k) ∧ Drawn0 w w')
  case atStart => exact ⟨(a1), (1), rf_, rf_, H', ⟨Nat.le_refl _⟩, d0_⟩
  case round =>
    clear H'
    try clear p2
    obtain ⟨x1_1, x5_1, rfl, rfl, HA, HK1, ⟨m1, rfl⟩⟩ := hrel
    cases gk with
    | zero => exact absurd HA.out (by simp [spec_l03End.l0])
    | succ k1 =>
      have H := HA.out
      clear HA
      simp only [spec_l03End.l0] at H
      by_cases c3 : x5_1 > 0
      rotate_left
      · rw [if_neg c3] at H
        have c3b0 : decide (0 < x5_1) = false := decide_eq_false c3
        clear c3
        obtain rfl := Option.some.inj H
        go_wp2
        go_ret
        exact ⟨rf_, d0_⟩
      rw [if_pos c3] at H
      have c3b0 : decide (0 < x5_1) = true := decide_eq_true c3
      clear c3
      have HC4 := as_ H
      clear H
      go_upto_region 3 with (fail)
      go_cut [23] (fun v23 wc => ∃ (kq : Nat) (x23_3 : Bool), v23 = .bool x23_3 ∧ Aside0 (spec_l03End.j1 kq a0 x1_1 x5_1 x23_3 = some r) ∧ Aside0 (kq ≤ k1) ∧ Drawn0 w wc)
      case first =>
        have H := HC4.out
        clear HC4
        by_cases c5 : x1_1 ≥ (a0.size : Int)
        · rw [if_pos c5] at H
          have c5b0 := decide_eq_true c5
          clear c5
          (first | rw [c5b0] | (simp only [i64_w, i32_w]; rw [c5b0]) | skip)
          have H' := as_ H
          clear H
          go_wp2
          go_meet
          case rel => exact ⟨_, (true), rf_, H', ⟨by have := HK1.out; first | omega | exact Nat.le_refl _⟩, d0_⟩
        rw [if_neg c5] at H
        have c5b0 := decide_eq_false c5
        clear c5
        (first | rw [c5b0] | (simp only [i64_w, i32_w]; rw [c5b0]) | skip)
        obtain ⟨c6b0, H⟩ := ite_d H
        obtain ⟨c7b0, H⟩ := ite_d H
        by_cases c9 : (bt a0 x1_1) = 48
        · rw [if_pos c9] at H
          have c9b0 := beq_iff_eq.mpr c9
          have c9b1 := bne_eq_false_iff_eq.mpr c9
          clear c9
          have H' := as_ H
          clear H
          have p8 : 0 ≤ (x1_1 : Int) := od_
          have q8 : x1_1 < (a0.size : Int) := od_
          have hx8 := bt_at a0 x1_1
          replace p8 := eq_true p8
          replace q8 := eq_true q8
          go_wp2
          go_meet
          case rel => exact ⟨_, (false), rf_, H', ⟨by have := HK1.out; first | omega | exact Nat.le_refl _⟩, d0_⟩
        rw [if_neg c9] at H
        have c9b0 := beq_eq_false_iff_ne.mpr c9
        have c9b1 := bne_iff_ne.mpr c9
        have H' := as_ H
        clear H
        have p8 : 0 ≤ (x1_1 : Int) := od_
        have q8 : x1_1 < (a0.size : Int) := od_
        have hx8 := bt_at a0 x1_1
        replace p8 := eq_true p8
        replace q8 := eq_true q8
        have p10 : 0 ≤ (x1_1 : Int) := od_
        have q10 : x1_1 < (a0.size : Int) := od_
        have hx10 := bt_at a0 x1_1
        replace p10 := eq_true p10
        replace q10 := eq_true q10
        go_wp2
        go_meet
        case rel => exact ⟨_, (((bt a0 x1_1) != 49)), rf_, H', ⟨by have := HK1.out; first | omega | exact Nat.le_refl _⟩, d0_⟩
      case rest =>
        clear HC4
        (try clear p1); (try clear q1); (try clear hx1); (try clear p2); (try clear c3); (try clear c3b0); (try clear c5); (try clear c5b0); (try clear c6); (try clear c6b0); (try clear c7); (try clear c7b0); (try clear p8); (try clear q8); (try clear hx8); (try clear c9); (try clear c9b0); (try clear c9b1); (try clear p10); (try clear q10); (try clear hx10); (try clear p10); (try clear p2); (try clear p8); (try clear q10); (try clear q8)
        obtain ⟨kq, x23_3, rfl, HA, HJ3, ⟨mc3, rfl⟩⟩ := hcut
        cases kq with
        | zero => exact absurd HA.out (by simp [spec_l03End.j1])
        | succ kj3 =>
          have H := HA.out
          clear HA
          simp only [spec_l03End.j1] at H
          by_cases c11 : x23_3 = true
          · subst c11
            replace H := it_ H
            obtain rfl := Option.some.inj H
            go_wp2
            go_ret
            exact ⟨rf_, d0_⟩
          replace c11 := Bool.eq_false_iff.mpr c11
          subst c11
          replace H := if_ H
          obtain ⟨c12b0, H⟩ := ite_d H
          obtain ⟨c13b0, H⟩ := ite_d H
          by_cases c15 : (bt a0 x1_1) = 49
          · rw [if_pos c15] at H
            have c15b0 := beq_iff_eq.mpr c15
            have c15b1 := bne_eq_false_iff_eq.mpr c15
            clear c15
            have H' := as_ H
            clear H
            have p14 : 0 ≤ (x1_1 : Int) := od_
            have q14 : x1_1 < (a0.size : Int) := od_
            have hx14 := bt_at a0 x1_1
            replace p14 := eq_true p14
            replace q14 := eq_true q14
            go_wp2
            go_roundg kj3
            case measure => have := HK1.out; have := HJ3.out; omega
            case rel => exact ⟨(wrap64 (x1_1 + 1)), (wrap64 (x5_1 + 1)), rf_, rf_, H', ⟨by have := HK1.out; have := HJ3.out; omega⟩, d0_⟩
          rw [if_neg c15] at H
          have c15b0 := beq_eq_false_iff_ne.mpr c15
          have c15b1 := bne_iff_ne.mpr c15
          have H' := as_ H
          clear H
          have p14 : 0 ≤ (x1_1 : Int) := od_
          have q14 : x1_1 < (a0.size : Int) := od_
          have hx14 := bt_at a0 x1_1
          replace p14 := eq_true p14
          replace q14 := eq_true q14
          go_wp2
          go_roundg kj3
          case measure => have := HK1.out; have := HJ3.out; omega
          case rel => exact ⟨(wrap64 (x1_1 + 1)), (wrap64 (x5_1 - 1)), rf_, rf_, H', ⟨by have := HK1.out; have := HJ3.out; omega⟩, d0_⟩

def spec_l03Sides.f (k : Nat) (a0 : ByteArray) : Option (ByteArray × ByteArray) := (spec_l03End.f k a0 1).bind fun t403 => (if 1 ≤ t403 then (if t403 ≤ (a0.size : Int) then (if 0 ≤ t403 then (some (a0.extract 1 (t403 : Int).toNat, a0.extract (t403 : Int).toNat a0.size)) else (none)) else (none)) else (none))
theorem spec_l03Sides.calls (k : Nat) (a0 : ByteArray) (r1 : ByteArray) (r2 : ByteArray) (w : World) (h : spec_l03Sides.f k a0 = some (r1, r2)) :
    Calls Try.prog 71 #[.string a0] w fun e w' => e = .returned (.tuple #[.string r1, .string r2]) ∧ Drawn0 w w' := by
  have H : ((spec_l03End.f k a0 1).bind fun t403 => (if 1 ≤ t403 then (if t403 ≤ (a0.size : Int) then (if 0 ≤ t403 then (some (a0.extract 1 (t403 : Int).toNat, a0.extract (t403 : Int).toNat a0.size)) else (none)) else (none)) else (none))) = some (r1, r2) := h
  clear h
  obtain ⟨t403, A2, H⟩ := bo_ H
  obtain ⟨c3, H⟩ := ite_s H
  have c3b0 := eq_true c3
  have c3b1 := decide_eq_true c3
  clear c3
  obtain ⟨c4, H⟩ := ite_s H
  have c4b0 := eq_true c4
  have c4b1 := decide_eq_true c4
  clear c4
  obtain ⟨c5, H⟩ := ite_s H
  have c5b0 := eq_true c5
  have c5b1 := decide_eq_true c5
  clear c5
  have c6b0 := eq_true (od_ : t403 ≤ (a0.size : Int))
  simp only [Option.some.injEq, Prod.mk.injEq] at H
  obtain ⟨rfl, rfl⟩ := H
  go_enter Try.func71, Try.ntmps71
  go_wp2_with (first | (go_at_call 79; (with_reducible refine (spec_l03End.calls k a0 1 t403 _ A2.out).mono ?_); rintro e w' ⟨rfl, ⟨nd, rfl⟩⟩; (try exact dd_)))
  repeat (go_quiet (first | (go_at_call 79; (with_reducible refine (spec_l03End.calls k a0 1 t403 _ A2.out).mono ?_); rintro e w' ⟨rfl, ⟨nd, rfl⟩⟩; (try exact dd_))); try go_wp2_with (first | (go_at_call 79; (with_reducible refine (spec_l03End.calls k a0 1 t403 _ A2.out).mono ?_); rintro e w' ⟨rfl, ⟨nd, rfl⟩⟩; (try exact dd_))))
  go_ret2
  exact ⟨rf_, d0_⟩

def spec_l03Mirror.f : Nat → ByteArray → Option (ByteArray)
  | 0, _ => none
  | k + 1, a0 => if a0.toList = ([48] : List UInt8) then (some a0) else ((spec_l03Sides.f k a0).bind fun bt404 => ((spec_l03Mirror.f k bt404.2).bind fun t406 => (if 1 + t406.size ≤ 9223372036854775807 then ((spec_l03Mirror.f k bt404.1).bind fun t407 => (if ((⟨#[49]⟩ : ByteArray) ++ t406).size + t407.size ≤ 9223372036854775807 then (some (((⟨#[49]⟩ : ByteArray) ++ t406) ++ t407)) else (none))) else (none))))
theorem spec_l03Mirror.calls (k : Nat) : ∀ (a0 : ByteArray) (r : ByteArray) (w : World) (h : spec_l03Mirror.f k a0 = some r),
    Calls Try.prog 51 #[.string a0] w fun e w' => e = .returned (.string r) ∧ Drawn0 w w' := by
  induction k using Nat.strongRecOn with
  | _ k ih =>
  intro a0 r w h
  cases k with
  | zero => exact absurd h (by simp [spec_l03Mirror.f])
  | succ k =>
  simp only [spec_l03Mirror.f] at h
  have H : (if a0.toList = ([48] : List UInt8) then (some a0) else ((spec_l03Sides.f k a0).bind fun bt404 => ((spec_l03Mirror.f k bt404.2).bind fun t406 => (if 1 + t406.size ≤ 9223372036854775807 then ((spec_l03Mirror.f k bt404.1).bind fun t407 => (if ((⟨#[49]⟩ : ByteArray) ++ t406).size + t407.size ≤ 9223372036854775807 then (some (((⟨#[49]⟩ : ByteArray) ++ t406) ++ t407)) else (none))) else (none))))) = some r := h
  clear h
  by_cases c2 : a0.toList = ([48] : List UInt8)
  · rw [if_pos c2] at H
    have c2b0 := beq_iff_eq.mpr c2
    have c2b1 := bne_eq_false_iff_eq.mpr c2
    clear c2
    obtain rfl := Option.some.inj H
    go_enter Try.func51, Try.ntmps51
    go_wp2
    go_ret
    exact ⟨rf_, d0_⟩
  rw [if_neg c2] at H
  have c2b0 := beq_eq_false_iff_ne.mpr c2
  have c2b1 := bne_iff_ne.mpr c2
  obtain ⟨⟨t404, t405⟩, A3, H⟩ := bo_ H
  dsimp only at H
  obtain ⟨t406, A4, H⟩ := bo_ H
  obtain ⟨c5, H⟩ := ite_s H
  have c5b0 := eq_true c5
  have c5b1 := decide_eq_true c5
  try have c5b2 : (9223372036854775807 < 1 + t406.size) = False := eq_false (Nat.not_lt.2 c5)
  obtain ⟨t407, A6, H⟩ := bo_ H
  obtain ⟨c7, H⟩ := ite_s H
  have c7b0 := eq_true c7
  have c7b1 := decide_eq_true c7
  try have c7b2 : (9223372036854775807 < ((⟨#[49]⟩ : ByteArray) ++ t406).size + t407.size) = False := eq_false (Nat.not_lt.2 c7)
  try have c7b3 : (9223372036854775807 < 1 + t406.size + t407.size) = False := eq_false (by have z_ := c7; simp only [ByteArray.size_append, ByteArray.size_extract, decide_eq_true_eq, eq_iff_iff, iff_true, (show (⟨#[49]⟩ : ByteArray).size = 1 from rfl)] at *; first | omega | (simp at z_; omega))
  obtain rfl := Option.some.inj H
  go_enter Try.func51, Try.ntmps51
  go_wp2_with (first | ((with_reducible refine gate_callee (f := 71) rfl ?_); refine gL_ 10 Try.func71 #[.string a0] ?_; (with_reducible refine (spec_l03Sides.calls k a0 t404 t405 _ A3.out).mono ?_); rintro e w' ⟨rfl, ⟨nd, rfl⟩⟩; refine ⟨_, rfl, ?_⟩) | ((with_reducible refine gate_callee (f := 51) rfl ?_); refine gL_ 14 Try.func51 #[.string t405] ?_; (with_reducible refine (ih k (by omega) t405 t406 _ A4.out).mono ?_); rintro e w' ⟨rfl, ⟨nd, rfl⟩⟩; refine ⟨_, rfl, ?_⟩) | ((with_reducible refine gate_callee (f := 51) rfl ?_); refine gL_ 17 Try.func51 #[.string t404] ?_; (with_reducible refine (ih k (by omega) t404 t407 _ A6.out).mono ?_); rintro e w' ⟨rfl, ⟨nd, rfl⟩⟩; refine ⟨_, rfl, ?_⟩))
  go_ret
  exact ⟨rf_, d0_⟩

end Go.Proofs.Ythbdbgoeaichcaa.E
