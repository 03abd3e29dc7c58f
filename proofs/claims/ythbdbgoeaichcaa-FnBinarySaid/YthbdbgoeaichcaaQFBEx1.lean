/- The row of the law FnBinary, out of its pure statement. -/
import Derived.Test.YthbdbgoeaichcaaQFBEx0
import Derived.Test.YthbdbgoeaichcaaQFBL
-- Written by wip/ext.py of this claim (contracts by the form of the kit's print; hand-written ones among them).
namespace Go.Proofs.Ythbdbgoeaichcaa.E
set_option maxHeartbeats 8000000
set_option maxRecDepth 100000
open Go.RowKit Go.Proofs.YthbdbgoeaichcaaW.PrintWords Go.Proofs.YthbdbgoeaichcaaW.PrintLast Go.Proofs.YthbdbgoeaichcaaW.PrintMore Go.Proofs.Ythbdbgoeaichcaa.Mi
attribute [local go_sem] max2_int min2_int max_two min_two max_three min_three max_four min_four   -- for this text's walks alone
set_option linter.unusedVariables false
set_option linter.unusedSimpArgs false

def laws_big.f (l0 : List Int) : Option (Bool) := some (decide ((l0.length : Int) > 4096))
theorem laws_big.calls (A0 : Option Addr) (c0 : Nat) (l0 : List Int) (r : Bool) (w : World) (hr0 : Kd.C (Kd.int .u8) w A0 l0.length l0) (hc0 : l0.length ≤ c0) (h : laws_big.f l0 = some r) :
    Calls Try.prog 4 #[.slice A0 l0.length c0] w fun e w' => e = .returned (.bool r) ∧ Drawn0 w w' := by
  have HR0 := as_ hr0
  have HC0 := as_ hc0
  clear hr0 hc0
  have H : (some (decide ((l0.length : Int) > 4096))) = some r := h
  clear h
  obtain rfl := Option.some.inj H
  go_enter Try.func4, Try.ntmps4
  go_wp2
  go_ret
  exact ⟨rf_, d0_⟩

def IsS77 (w0 W : World) (g : Nat) (f0 : List Int) (f1 : Int) (f2 : Int) : Prop := ∃ A0 c0, W.heap[g]? = some (.cells #[.slice A0 f0.length c0, .int .i64 f1, .int .u64 f2] 77 (0, 0)) ∧ w0.heap.size ≤ g ∧ Kd.C (Kd.int .u8) w0 A0 f0.length f0
theorem IsS77.grown {w0 W : World} {g : Nat} {f0 : List Int} {f1 : Int} {f2 : Int} {W1 : World} {row : Option Nat} (h : IsS77 w0 W g f0 f1 f2) (hw : W.grownBy W1 row) (hne : some g ≠ row) : IsS77 w0 W1 g f0 f1 f2 := by
  obtain ⟨A0, c0, hb, hg, hr0⟩ := h
  exact ⟨A0, c0, blk_grown hb hw hne, hg, hr0⟩
theorem IsS77.below {w0 W : World} {g : Nat} {f0 : List Int} {f1 : Int} {f2 : Int} {W1 : World} (h : IsS77 w0 W g f0 f1 f2) (hw : Below W.heap.size W W1) : IsS77 w0 W1 g f0 f1 f2 := h.grown (grown_of_below hw none) (by simp)
theorem IsS77.alloc {w0 W : World} {g : Nat} {f0 : List Int} {f1 : Int} {f2 : Int} (h : IsS77 w0 W g f0 f1 f2) (o : Obj) : IsS77 w0 (W.alloc o) g f0 f1 f2 := h.below (below_alloc (Below.refl _ _) o)
theorem IsS77.drewN {w0 W : World} {g : Nat} {f0 : List Int} {f1 : Int} {f2 : Int} (h : IsS77 w0 W g f0 f1 f2) (m : Nat) : IsS77 w0 (W.drewN m) g f0 f1 f2 := h
theorem IsS77.drew {w0 W : World} {g : Nat} {f0 : List Int} {f1 : Int} {f2 : Int} (h : IsS77 w0 W g f0 f1 f2) : IsS77 w0 W.drew g f0 f1 f2 := h
theorem IsS77.apart {w0 W : World} {g : Nat} {f0 : List Int} {f1 : Int} {f2 : Int} {α : Type} {d : Kd α} {e : Nat} {base : Nat} {ok : Nat → Prop} {v : Value} {xs : List α} (h : IsS77 w0 W g f0 f1 f2) (ho : d.R e W base ok v xs) (ht : ∀ q, q ∈ e :: d.E → q ≠ 77) : d.R e W base (fun k => ok k ∧ k ≠ g) v xs := by
  obtain ⟨A0, c0, hb, hg, hr0⟩ := h
  exact Kd.R_types ho hb ht
theorem IsS77.own_ne {w0 W : World} {g : Nat} {f0 : List Int} {f1 : Int} {f2 : Int} {α : Type} {d : Kd α} {e : Nat} {base : Nat} {ok : Nat → Prop} {v : Value} {xs : List α} (h : IsS77 w0 W g f0 f1 f2) (ho : d.R e W base ok v xs) (ht : e ≠ 77) : some g ≠ v.ownBlock := by
  obtain ⟨A0, c0, hb, hg, hr0⟩ := h
  exact Kd.R_ne ho hb ht
theorem IsS77.apartS {w0 W : World} {g : Nat} {f0 : List Int} {f1 : Int} {f2 : Int} {α : Type} {d : Kd α} {e : Nat} {base : Nat} {ok : Nat → Prop} {v : Value} {xs : List α} (h : IsS77 w0 W g f0 f1 f2) (ho : d.S e W base ok v xs) (ht : ∀ q, q ∈ e :: d.E → q ≠ 77) : d.S e W base (fun k => ok k ∧ k ≠ g) v xs := by
  obtain ⟨A0, c0, hb, hg, hr0⟩ := h
  exact Kd.S_types ho hb ht
theorem IsS77.own_neS {w0 W : World} {g : Nat} {f0 : List Int} {f1 : Int} {f2 : Int} {α : Type} {d : Kd α} {e : Nat} {base : Nat} {ok : Nat → Prop} {v : Value} {xs : List α} (h : IsS77 w0 W g f0 f1 f2) (ho : d.S e W base ok v xs) (ht : e ≠ 77) : some g ≠ v.ownBlock := by
  obtain ⟨A0, c0, hb, hg, hr0⟩ := h
  exact Kd.S_ne ho hb ht
theorem IsS77.lt {w0 W : World} {g : Nat} {f0 : List Int} {f1 : Int} {f2 : Int} (h : IsS77 w0 W g f0 f1 f2) : g < W.heap.size := by
  obtain ⟨A0, c0, hb, hg, hr0⟩ := h
  exact blk_lt hb
theorem IsS77.ge {w0 W : World} {g : Nat} {f0 : List Int} {f1 : Int} {f2 : Int} (h : IsS77 w0 W g f0 f1 f2) : w0.heap.size ≤ g := by
  obtain ⟨A0, c0, hb, hg, hr0⟩ := h
  exact hg
theorem IsS77.ne_blk {w0 W : World} {g : Nat} {f0 : List Int} {f1 : Int} {f2 : Int} {a : Nat} {cs : Array Value} {t : TypeId} {fr : Nat × Nat} (h : IsS77 w0 W g f0 f1 f2) (hb2 : W.heap[a]? = some (.cells cs t fr)) (ht : t ≠ 77) : g ≠ a := by
  obtain ⟨A0, c0, hb, hg, hr0⟩ := h
  rintro rfl
  rw [hb] at hb2
  injection hb2 with hb2
  injection hb2 with _ ht2
  exact ht ht2.symm
theorem IsS77.far {w0 W : World} {g : Nat} {f0 : List Int} {f1 : Int} {f2 : Int} {p : Addr} (h : IsS77 w0 W g f0 f1 f2) (hne : g ≠ p.block) (u : Value) : IsS77 w0 (W.setCell p u) g f0 f1 f2 := by
  obtain ⟨A0, c0, hb, hg, hr0⟩ := h
  exact ⟨A0, c0, blk_far hb hne u, hg, hr0⟩
theorem cellS77_0 {W : World} {g : Nat} {A0 : Option Addr} {c0 : Nat} {f0 : List Int} {f1 : Int} {f2 : Int} (h : W.heap[g]? = some (.cells #[.slice A0 f0.length c0, .int .i64 f1, .int .u64 f2] 77 (0, 0))) : W.cell? ⟨g, 0, none⟩ = some (.slice A0 f0.length c0) := (blk_cell h 0).trans rfl
theorem cellS77_1 {W : World} {g : Nat} {A0 : Option Addr} {c0 : Nat} {f0 : List Int} {f1 : Int} {f2 : Int} (h : W.heap[g]? = some (.cells #[.slice A0 f0.length c0, .int .i64 f1, .int .u64 f2] 77 (0, 0))) : W.cell? ⟨g, 1, none⟩ = some (.int .i64 f1) := (blk_cell h 1).trans rfl
theorem IsS77.set_1 {w0 W : World} {g : Nat} {f0 : List Int} {f1 : Int} {f2 : Int} (h : IsS77 w0 W g f0 f1 f2) (x : Int) : IsS77 w0 (W.setCell ⟨g, 1, none⟩ (.int .i64 x)) g f0 x f2 := by
  obtain ⟨A0, c0, hb, hg, hr0⟩ := h
  exact ⟨A0, c0, by simpa using blk_set hb 1 (.int .i64 x), hg, hr0⟩
theorem cellS77_2 {W : World} {g : Nat} {A0 : Option Addr} {c0 : Nat} {f0 : List Int} {f1 : Int} {f2 : Int} (h : W.heap[g]? = some (.cells #[.slice A0 f0.length c0, .int .i64 f1, .int .u64 f2] 77 (0, 0))) : W.cell? ⟨g, 2, none⟩ = some (.int .u64 f2) := (blk_cell h 2).trans rfl
theorem IsS77.set_2 {w0 W : World} {g : Nat} {f0 : List Int} {f1 : Int} {f2 : Int} (h : IsS77 w0 W g f0 f1 f2) (x : Int) : IsS77 w0 (W.setCell ⟨g, 2, none⟩ (.int .u64 x)) g f0 f1 x := by
  obtain ⟨A0, c0, hb, hg, hr0⟩ := h
  exact ⟨A0, c0, by simpa using blk_set hb 2 (.int .u64 x), hg, hr0⟩
theorem hi77_ {p q : Prop} (h : Aside0 p) (k : p → q := by intro h; repeat (first | (with_reducible first | exact h | apply IsS77.alloc | apply IsS77.drewN | apply IsS77.drew | apply IsS77.set_1 | apply IsS77.set_2) | exact h)) : q := k h.out
def spec_l01Next.f (s0_0 : List Int) (s0_1 : Int) (s0_2 : Int) (a1 : Int) : Option (Int × Int × Int) := if a1 < 1 then (some (0, s0_1, s0_2)) else (if s0_1 < (s0_0.length : Int) then (if 0 ≤ s0_1 then (if a1 = 0 then (none) else (some (Int.tmod (wrap64 ((wrap64 (Go.bits .and .u64 ((IntKind.u64.wrap ((IntKind.u64.wrap (s0_2 * 6364136223846793005)) + 1442695040888963407)) / 8589934592) 16777215)) + (wrap64 (rd s0_0 s0_1)))) a1, wrap64 (s0_1 + 1), IntKind.u64.wrap ((IntKind.u64.wrap (s0_2 * 6364136223846793005)) + 1442695040888963407)))) else (none)) else (if a1 = 0 then (none) else (some (Int.tmod (wrap64 (Go.bits .and .u64 ((IntKind.u64.wrap ((IntKind.u64.wrap (s0_2 * 6364136223846793005)) + 1442695040888963407)) / 8589934592) 16777215)) a1, s0_1, IntKind.u64.wrap ((IntKind.u64.wrap (s0_2 * 6364136223846793005)) + 1442695040888963407)))))
theorem spec_l01Next.calls (g : Nat) (s0_0 : List Int) (s0_1 : Int) (s0_2 : Int) (a1 : Int) (r1 : Int) (r2 : Int) (r3 : Int) (w0 w : World) (hI : IsS77 w0 w g s0_0 s0_1 s0_2) (hB : Below w0.heap.size w0 w) (h : spec_l01Next.f s0_0 s0_1 s0_2 a1 = some (r1, r2, r3)) :
    Calls Try.prog 63 #[.pointer (some ⟨g, 0, none⟩), .int .i64 a1] w fun e w' => e = .returned (.int .i64 r1) ∧ IsS77 w0 w' g s0_0 r2 r3 ∧ Below w0.heap.size w0 w' ∧ KeepBut w w' g none := by
  have HI0 := as_ hI
  have HK := as_ (KeepBut.refl w g none)
  have HL := as_ hB.size
  clear hI
  have HW0 := as_ hB.size
  have HB := as_ hB
  clear hB
  have H : (if a1 < 1 then (some (0, s0_1, s0_2)) else (if s0_1 < (s0_0.length : Int) then (if 0 ≤ s0_1 then (if a1 = 0 then (none) else (some (Int.tmod (wrap64 ((wrap64 (Go.bits .and .u64 ((IntKind.u64.wrap ((IntKind.u64.wrap (s0_2 * 6364136223846793005)) + 1442695040888963407)) / 8589934592) 16777215)) + (wrap64 (rd s0_0 s0_1)))) a1, wrap64 (s0_1 + 1), IntKind.u64.wrap ((IntKind.u64.wrap (s0_2 * 6364136223846793005)) + 1442695040888963407)))) else (none)) else (if a1 = 0 then (none) else (some (Int.tmod (wrap64 (Go.bits .and .u64 ((IntKind.u64.wrap ((IntKind.u64.wrap (s0_2 * 6364136223846793005)) + 1442695040888963407)) / 8589934592) 16777215)) a1, s0_1, IntKind.u64.wrap ((IntKind.u64.wrap (s0_2 * 6364136223846793005)) + 1442695040888963407)))))) = some (r1, r2, r3) := h
  clear h
  by_cases c3 : a1 < 1
  · rw [if_pos c3] at H
    have c3b0 := decide_eq_true c3
    clear c3
    simp only [Option.some.injEq, Prod.mk.injEq] at H
    obtain ⟨rfl, rfl, rfl⟩ := H
    go_enter Try.func63, Try.ntmps63
    go_wp2
    repeat (go_quiet (fail); try go_wp2)
    go_ret
    exact ⟨re_, hi77_ HI0, b1_ HB ⟨IsS77.ge HI0.out⟩, ku_ HK⟩
  rw [if_neg c3] at H
  have c3b0 := decide_eq_false c3
  clear c3
  by_cases c4 : s0_1 < (s0_0.length : Int)
  rotate_left
  · rw [if_neg c4] at H
    have c4b0 := decide_eq_false c4
    clear c4
    by_cases c8 : a1 = 0
    · rw [if_pos c8] at H
      exact absurd H (by simp)
    rw [if_neg c8] at H
    have c8b0 := beq_eq_false_iff_ne.mpr c8
    have c8b1 := bne_iff_ne.mpr c8
    simp only [Option.some.injEq, Prod.mk.injEq] at H
    obtain ⟨rfl, rfl, rfl⟩ := H
    obtain ⟨ASz9_0, cSz9_0, HGz9, hgz9, HSz9_0⟩ := HI0.out
    have hcz9_0 := cellS77_0 HGz9
    have hcz9_1 := cellS77_1 HGz9
    have hcz9_2 := cellS77_2 HGz9
    have hfz9_1 := blk_frozen HGz9 1
    have hfz9_2 := blk_frozen HGz9 2
    clear HGz9 hgz9
    go_enter Try.func63, Try.ntmps63
    go_wp2
    repeat (go_quiet (fail); try go_wp2)
    go_ret
    exact ⟨re_, hi77_ HI0, b1_ HB ⟨IsS77.ge HI0.out⟩, ku_ HK⟩
  rw [if_pos c4] at H
  have c4b0 := decide_eq_true c4
  clear c4
  obtain ⟨c5b0, H⟩ := ite_d H
  by_cases c6 : a1 = 0
  · rw [if_pos c6] at H
    exact absurd H (by simp)
  rw [if_neg c6] at H
  have c6b0 := beq_eq_false_iff_ne.mpr c6
  have c6b1 := bne_iff_ne.mpr c6
  simp only [Option.some.injEq, Prod.mk.injEq] at H
  obtain ⟨rfl, rfl, rfl⟩ := H
  obtain ⟨ASz7_0, cSz7_0, HGz7, hgz7, HSz7_0⟩ := HI0.out
  have hcz7_0 := cellS77_0 HGz7
  have hcz7_1 := cellS77_1 HGz7
  have hcz7_2 := cellS77_2 HGz7
  have hfz7_1 := blk_frozen HGz7 1
  have hfz7_2 := blk_frozen HGz7 2
  clear HGz7 hgz7
  have p101 : 0 ≤ (s0_1 : Int) := od_
  have q101 : s0_1 < (s0_0.length : Int) := od_
  obtain ⟨ad101, e101, hx101_0⟩ := Kd.at_int HSz7_0 s0_1 p101 q101
  cases e101
  have hn101_0 : ad101.block ≠ g := Nat.ne_of_lt (Nat.lt_of_lt_of_le (by have := World.block_lt_of_cell? _ _ hx101_0; first | rwa [add_block] at this | exact this) (IsS77.ge HI0.out))
  replace hx101_0 := pw_cell_below HB.out hx101_0
  replace hx101_0 := (cell_far (p := ⟨g, 2, none⟩) (by first | (rw [add_block]; exact hn101_0) | (show (Addr.add _ _).block ≠ _; rw [add_block]; exact hn101_0) | exact hn101_0) (.int .u64 (IntKind.u64.wrap ((IntKind.u64.wrap (s0_2 * 6364136223846793005)) + 1442695040888963407)))).trans hx101_0
  (try have hy101_0 := fun (n_ : Nat) => (show (((w.drewN n_).setCell ⟨g, 2, none⟩ (.int .u64 (IntKind.u64.wrap ((IntKind.u64.wrap (s0_2 * 6364136223846793005)) + 1442695040888963407))))).cell? _ = some _ from hx101_0))
  clear hn101_0
  replace p101 := eq_true p101
  replace q101 := eq_true q101
  go_enter Try.func63, Try.ntmps63
  go_wp2
  repeat (go_quiet (fail); try go_wp2)
  go_ret
  exact ⟨re_, hi77_ HI0, b1_ HB ⟨IsS77.ge HI0.out⟩, ku_ HK⟩

def spec_l01Pick.f (s0_0 : List Int) (s0_1 : Int) (s0_2 : Int) (l1 : List Int) : Option (Int × Int × Int) := (spec_l01Next.f s0_0 s0_1 s0_2 (l1.length : Int)).bind fun bt102 => (if 0 ≤ bt102.1 then (if bt102.1 < (l1.length : Int) then (some (rd l1 bt102.1, bt102.2.1, bt102.2.2)) else (none)) else (none))
theorem spec_l01Pick.calls (g : Nat) (s0_0 : List Int) (s0_1 : Int) (s0_2 : Int) (A1 : Option Addr) (c1 : Nat) (l1 : List Int) (r1 : Int) (r2 : Int) (r3 : Int) (w0 w : World) (hI : IsS77 w0 w g s0_0 s0_1 s0_2) (hB : Below w0.heap.size w0 w) (hr1 : Kd.C (Kd.int .i64) w A1 l1.length l1) (hc1 : l1.length ≤ c1) (hf1 : ∀ ad, A1 = some ad → 0 < l1.length → ad.block ≠ g) (h : spec_l01Pick.f s0_0 s0_1 s0_2 l1 = some (r1, r2, r3)) :
    Calls Try.prog 64 #[.pointer (some ⟨g, 0, none⟩), .slice A1 l1.length c1] w fun e w' => e = .returned (.int .i64 r1) ∧ IsS77 w0 w' g s0_0 r2 r3 ∧ Below w0.heap.size w0 w' ∧ KeepBut w w' g none := by
  have HR1 := as_ hr1
  have HC1 := as_ hc1
  clear hr1 hc1
  have HI0 := as_ hI
  have HK := as_ (KeepBut.refl w g none)
  have HL := as_ hB.size
  clear hI
  have HW0 := as_ hB.size
  have HB := as_ hB
  clear hB
  have H : ((spec_l01Next.f s0_0 s0_1 s0_2 (l1.length : Int)).bind fun bt102 => (if 0 ≤ bt102.1 then (if bt102.1 < (l1.length : Int) then (some (rd l1 bt102.1, bt102.2.1, bt102.2.2)) else (none)) else (none))) = some (r1, r2, r3) := h
  clear h
  obtain ⟨⟨t102, t103, t104⟩, A3, H⟩ := bo_ H
  dsimp only at H
  obtain ⟨c4b0, H⟩ := ite_d H
  obtain ⟨c5b0, H⟩ := ite_d H
  simp only [Option.some.injEq, Prod.mk.injEq] at H
  obtain ⟨rfl, rfl, rfl⟩ := H
  go_enter Try.func64, Try.ntmps64
  go_wp2_with (first | ((with_reducible refine gate_callee (f := 63) rfl ?_); refine gL_ 9 Try.func63 #[.pointer (some ⟨g, 0, none⟩), .int .i64 (l1.length : Int)] ?_; (with_reducible refine (spec_l01Next.calls g s0_0 s0_1 s0_2 (l1.length : Int) t102 t103 t104 w0 _ ?side1 ?side2 A3.out).mono ?_); (case side1 => repeat (first | (with_reducible first | exact HI0.out | apply IsS77.alloc | apply IsS77.drewN | apply IsS77.drew | apply IsS77.set_1 | apply IsS77.set_2) | exact HI0.out)); (case side2 => repeat (first | (with_reducible first | exact HB.out | apply below_alloc | apply pw_below_drewN | apply below_drew1 | refine below_set ?_ (IsS77.ge HI0.out)) | exact HB.out)); rintro e w6 ⟨rfl, hi, hb, hk⟩; refine ⟨_, rfl, ?_⟩; replace HK := as_ (KeepBut.trans (ku_ HK) hk (.inl rfl)); replace HB := as_ (hb); replace HI0 := as_ (hi); clear hb hk hi; have p105 : 0 ≤ (t102 : Int) := od_; have q105 : t102 < (l1.length : Int) := od_; obtain ⟨ad105, e105, hx105_0⟩ := Kd.at_int HR1.out t102 p105 q105; cases e105; replace hx105_0 := keep_cell HK.out hx105_0 (by first | (rw [add_block]; exact hf1 _ rfl (by omega)) | exact hf1 _ rfl (by omega) | exact hf1 ad105 rfl (by omega)); replace p105 := eq_true p105; replace q105 := eq_true q105))
  go_ret
  exact ⟨re_, hi77_ HI0, b1_ HB ⟨IsS77.ge HI0.out⟩, ku_ HK⟩

def spec_l01N.f (l0_0 : List Int) : Option (Int) := some (l0_0.length : Int)
theorem spec_l01N.calls (A0_0 : Option Addr) (c0_0 : Nat) (l0_0 : List Int) (r : Int) (w : World) (hr0_0 : Kd.C (Kd.int .i64) w A0_0 l0_0.length l0_0) (hc0_0 : l0_0.length ≤ c0_0) (h : spec_l01N.f l0_0 = some r) :
    Calls Try.prog 76 #[.agg #[.slice A0_0 l0_0.length c0_0]] w fun e w' => e = .returned (.int .i64 r) ∧ Below w.heap.size w w' := by
  have hu26 := Try.underlying26
  have HR0_0 := as_ hr0_0
  have HC0_0 := as_ hc0_0
  clear hr0_0 hc0_0
  have HB := as_ (Below.refl w.heap.size w)
  have H : (some (l0_0.length : Int)) = some r := h
  clear h
  obtain rfl := Option.some.inj H
  go_enter Try.func76, Try.ntmps76
  go_wp2_with (first | ((with_reducible refine gate_dst (N := 1) rfl ?_); refine bx_ 1 #[.slice A0_0 l0_0.length c0_0] 26 ?_; intro gb106 hg w2 hbox hb; have BK106 := as_ (hbox); have GW106 := gz_ hg (b_ HB); have GE106 := GW106; replace HB := as_ (below_step (b_ HB) hb); clear hb hbox hg; obtain ⟨hcz3_0, hfz3_0⟩ := tc1_ BK106))
  go_ret
  exact ⟨re_, b1_ HB GE106⟩

def spec_l01Own.f (l0 : List Int) : Option (List Int) := (some (([] : List Int) : List Int)).bind fun y107 => (if y107.length + l0.length < 17592186044416 then (some (y107 ++ l0)) else (none))
theorem spec_l01Own.calls (A0 : Option Addr) (c0 : Nat) (l0 : List Int) (r : List Int) (w : World) (hr0 : Kd.C (Kd.int .i64) w A0 l0.length l0) (hc0 : l0.length ≤ c0) (h : spec_l01Own.f l0 = some r) :
    Calls Try.prog 87 #[.slice A0 l0.length c0] w fun e w' => ∃ v0_ : Value, e = .returned (v0_) ∧ Kd.R (Kd.int .i64) 2 w' w.heap.size (fun _ => True) v0_ r ∧ Below w.heap.size w w' := by
  have HR0 := as_ hr0
  have HC0 := as_ hc0
  clear hr0 hc0
  have HB := as_ (Below.refl w.heap.size w)
  have H : ((some (([] : List Int) : List Int)).bind fun y107 => (if y107.length + l0.length < 17592186044416 then (some (y107 ++ l0)) else (none))) = some r := h
  clear h
  obtain ⟨y107, hy107⟩ := ex_ (([] : List Int) : List Int)
  replace H : (if y107.length + l0.length < 17592186044416 then (some (y107 ++ l0)) else (none)) = some r := yr_ hy107 H
  have Ny107 := as_ hy107
  clear hy107
  obtain ⟨c2, H⟩ := ite_s H
  have LMc2 := as_ c2
  clear c2
  obtain ⟨y110, hy110⟩ := ex_ (y107 ++ l0 : List Int)
  replace H : (some y110) = some r := yr_ hy110 H
  have Ny110 := as_ hy110
  clear hy110
  obtain rfl := Option.some.inj H
  go_enter Try.func87, Try.ntmps87
  go_wp2_with (first | ((with_reducible refine gate_dst (N := 3) rfl ?_); refine Kd.R_lit (Kd.int .i64) _ 2 ?hg (N := 3) ?hd (xs := ([] : List Int)) (inner := []) (ok := fun _ => True) (okp := fun _ => True) ?hr ?hp (fun _ hk => hk) trivial (Below.refl _ _) (Nat.le_refl _) (by simp) ?_; (case hd => rfl); (case hg => rfl); (case hr => first | (go_simp; done) | (go_simp; rfl)); (case hp => exact (Reps.none _ _)); intro v108 w3 ho4 hb hg_ hnew_; clear hg_ hnew_; (first | rw [← Ny107.out] at ho4 | (simp only [Int.reduceToNat] at ho4; rw [← Ny107.out] at ho4)); have HO109 := as_ (Kd.R_lower ho4 (below_size (b_ HB))); replace HB := as_ (below_step (b_ HB) hb); clear hb ho4) | ((with_reducible refine gate_builtin (b := .append) (xs := #[.tmp 3, .tmp 4]) rfl ?_); at_builtin; refine Kd.R_append_rows (Kd.int .i64) (w0 := w) w.heap.size rfl (.tmp 3) (.tmp 4) 24 2 (.int .i64 0) 8 rfl Try.underlying24 info2 rfl (by decide) (by omega) v108 y107 l0 _ _ _ (fun _ => True) (fun _ => False) rfl rfl ?aO ?aR (fun _ _ h => h) (fun _ h => h.elim) ?aF ?aB ?aS ?aL ?_; (case aR => exact bC_ HR0 HB); (case aB => exact (b_ HB)); (case aF => exact (fun _ _ => trivial)); (case aO => exact (bR_ HO109)); (case aS => exact (below_size (b_ HB))); (case aL => have := LMc2.out; omega); intro v111 w5 ho hb hg hat; rw [← Ny110.out] at ho; replace HB := as_ (hb); have HO112 := as_ (ho); clear HO109; clear ho hb hg hat))
  go_ret
  exact ⟨_, re_, bR_ HO112, b_ HB⟩

def spec_l01Make.f (l0 : List Int) : Option (List Int) := (spec_l01Own.f l0).bind fun t114 => (some t114)
theorem spec_l01Make.calls (A0 : Option Addr) (c0 : Nat) (l0 : List Int) (r : List Int) (w : World) (hr0 : Kd.C (Kd.int .i64) w A0 l0.length l0) (hc0 : l0.length ≤ c0) (h : spec_l01Make.f l0 = some r) :
    Calls Try.prog 88 #[.slice A0 l0.length c0] w fun e w' => ∃ v0_ : Value, e = .returned (.agg #[v0_]) ∧ Kd.R (Kd.int .i64) 2 w' w.heap.size (fun _ => True) v0_ r ∧ Below w.heap.size w w' := by
  have hu26 := Try.underlying26
  have HR0 := as_ hr0
  have HC0 := as_ hc0
  clear hr0 hc0
  have HB := as_ (Below.refl w.heap.size w)
  have H : ((spec_l01Own.f l0).bind fun t114 => (some t114)) = some r := h
  clear h
  obtain ⟨t114, A2, H⟩ := bo_ H
  obtain rfl := Option.some.inj H
  go_enter Try.func88, Try.ntmps88
  go_wp2_with (first | ((with_reducible refine gate_dst (N := 2) rfl ?_); refine bx_ 2 #[.slice none 0 0] 26 ?_; intro gb113 hg w3 hbox hb; have BK113 := as_ (hbox); have GW113 := gz_ hg (b_ HB); have GE113 := GW113; replace HB := as_ (below_step (b_ HB) hb); clear hb hbox hg) | ((with_reducible refine gate_callee (f := 87) rfl ?_); refine gL_ 4 Try.func87 #[.slice A0 l0.length c0] ?_; (with_reducible refine (spec_l01Own.calls _ _ l0 t114 _ ?side1 ?side2 A2.out).mono ?_); (case side1 => exact bC_ HR0 HB); (case side2 => exact HC0.out); rintro e w4 ⟨v115, rfl, ho0, hb⟩; refine ⟨_, rfl, ?_⟩; have HO116 := as_ (Kd.R_lower ho0 (below_size (b1_ HB GE113))); replace BK113 := kb_ BK113 hb; replace HB := as_ (below_step (b1_ HB GE113) hb); clear hb ho0; obtain ⟨Ao5, co5, eo5⟩ := Kd.R_slice HO116.out; subst eo5; obtain ⟨hcz6_0, hfz6_0⟩ := tc1_ BK113))
  refine bodyPost_ret (results_cell_row rfl _ _ gb113 26 #[.slice Ao5 t114.length co5] (0, 0) _ rfl (bp_ BK113) Try.underlying26 rfl (by kernel_rfl)) rfl ?_
  exact ⟨_, re_, fR1_ HO116 BK113, b1_ HB GE113⟩

def spec_l01Copy.f (l0_0 : List Int) : Option (List Int) := (spec_l01Make.f l0_0).bind fun t119 => (some t119)
theorem spec_l01Copy.calls (A0_0 : Option Addr) (c0_0 : Nat) (l0_0 : List Int) (r : List Int) (w : World) (hr0_0 : Kd.C (Kd.int .i64) w A0_0 l0_0.length l0_0) (hc0_0 : l0_0.length ≤ c0_0) (h : spec_l01Copy.f l0_0 = some r) :
    Calls Try.prog 82 #[.agg #[.slice A0_0 l0_0.length c0_0]] w fun e w' => ∃ v0_ : Value, e = .returned (.agg #[v0_]) ∧ Kd.R (Kd.int .i64) 2 w' w.heap.size (fun _ => True) v0_ r ∧ Below w.heap.size w w' := by
  have hu26 := Try.underlying26
  have HR0_0 := as_ hr0_0
  have HC0_0 := as_ hc0_0
  clear hr0_0 hc0_0
  have HB := as_ (Below.refl w.heap.size w)
  have H : ((spec_l01Make.f l0_0).bind fun t119 => (some t119)) = some r := h
  clear h
  obtain ⟨t119, A2, H⟩ := bo_ H
  obtain rfl := Option.some.inj H
  go_enter Try.func82, Try.ntmps82
  go_wp2_with (first | ((with_reducible refine gate_dst (N := 1) rfl ?_); refine bx_ 1 #[.slice A0_0 l0_0.length c0_0] 26 ?_; intro gb117 hg w3 hbox hb; have BK117 := as_ (hbox); have GW117 := gz_ hg (b_ HB); have GE117 := GW117; replace HB := as_ (below_step (b_ HB) hb); clear hb hbox hg) | ((with_reducible refine gate_dst (N := 2) rfl ?_); refine bx_ 2 #[.slice none 0 0] 26 ?_; intro gb118 hg w4 hbox hb; have BK118 := as_ (hbox); have GW118 := gz_ hg (b1_ HB GE117); have GE118 := GW118; replace HB := as_ (below_step (b1_ HB GE117) hb); have NB117_118 := nl_ hg (bk_ BK117); have NB118_117 := ng_ hg (bk_ BK117); replace BK117 := kb_ BK117 hb; clear hb hbox hg; have hnb5 := NB117_118.out; have hnc5 := NB118_117.out; obtain ⟨hcz6_0, hfz6_0⟩ := tc1_ BK117) | ((with_reducible refine gate_callee (f := 88) rfl ?_); refine gL_ 5 Try.func88 #[.slice A0_0 l0_0.length c0_0] ?_; (with_reducible refine (spec_l01Make.calls _ _ l0_0 t119 _ ?side1 ?side2 A2.out).mono ?_); (case side1 => exact bC_ HR0_0 HB); (case side2 => exact HC0_0.out); rintro e w7 ⟨v120, rfl, ho0, hb⟩; refine ⟨_, rfl, ?_⟩; have HO121 := as_ (Kd.R_lower ho0 (below_size (b2_ HB GE117 GE118))); replace BK117 := kb_ BK117 hb; replace BK118 := kb_ BK118 hb; replace HB := as_ (below_step (b2_ HB GE117 GE118) hb); clear hb ho0; obtain ⟨Ao8, co8, eo8⟩ := Kd.R_slice HO121.out; subst eo8; obtain ⟨hcz9_0, hfz9_0⟩ := tc1_ BK118))
  refine bodyPost_ret (results_cell_row rfl _ _ gb118 26 #[.slice Ao8 t119.length co8] (0, 0) _ rfl (bp_ BK118) Try.underlying26 rfl (by kernel_rfl)) rfl ?_
  exact ⟨_, re_, fR1_ HO121 BK118, b2_ HB GE117 GE118⟩

def spec_l01Bad.f (s0_0 : List Int) (s0_1 : Int) (s0_2 : Int) (l1_0 : List Int) : Option (List Int × Int × Int) := (spec_l01Copy.f l1_0).bind fun t124 => ((spec_l01Next.f s0_0 s0_1 s0_2 50).bind fun bt128 => (if bt128.1 = 0 then (some (([] : List Int), bt128.2.1, bt128.2.2)) else (if bt128.1 = 1 then ((spec_l01N.f l1_0).bind fun t131 => ((spec_l01Next.f s0_0 bt128.2.1 bt128.2.2 t131).bind fun bt132 => ((spec_l01Pick.f s0_0 bt132.2.1 bt132.2.2 (([(-1), 0, 1, 2, 25] : List Int))).bind fun bt138 => (if 0 ≤ bt132.1 then (if bt132.1 < (t124.length : Int) then (some ((t124.set (bt132.1 : Int).toNat bt138.1), bt138.2.1, bt138.2.2)) else (none)) else (none))))) else (if bt128.1 = 2 then (if t124.length < 17592186044416 then (some ((t124 ++ [0]), bt128.2.1, bt128.2.2)) else (none)) else (some (l1_0, bt128.2.1, bt128.2.2))))))
def spec_l01Bad.T6 : Bool × List (List Nat × List Nat) := (true, [([], []), ([0], [0]), ([], []), ([], []), ([3], [3]), ([2, 4, 4], [2, 4]), ([], []), ([], []), ([6, 7, 5], [6, 7]), ([1, 5, 0, 1, 2, 3, 4, 5, 6, 7, 8], [1, 5]), ([9, 8, 8, 0, 1, 2, 3, 4, 5, 6, 7, 8], [8, 9])])
def spec_l01Bad.B6 : List Nat := [0, 1, 0, 0, 8, 28, 0, 0, 252, 511, 1023]
theorem spec_l01Bad.tab6 : rtab .any (opsOf Try.f72 6) = spec_l01Bad.T6 := by kernel_rfl
theorem spec_l01Bad.bits6 : waitsOk spec_l01Bad.T6.2 spec_l01Bad.B6 = true := by kernel_rfl
theorem spec_l01Bad.calls (g : Nat) (s0_0 : List Int) (s0_1 : Int) (s0_2 : Int) (P1_0_ : Nat → Prop) (u9000_ : Value) (l1_0 : List Int) (r1 : List Int) (r2 : Int) (r3 : Int) (w0 w : World) (hI : IsS77 w0 w g s0_0 s0_1 s0_2) (hB : Below w0.heap.size w0 w) (ho1_0 : Kd.R (Kd.int .i64) 2 w w0.heap.size P1_0_ u9000_ l1_0) (h : spec_l01Bad.f s0_0 s0_1 s0_2 l1_0 = some (r1, r2, r3)) :
    Calls Try.prog 72 #[.pointer (some ⟨g, 0, none⟩), .agg #[u9000_]] w fun e w' => ∃ v0_ : Value, e = .returned (.agg #[v0_]) ∧ Kd.R (Kd.int .i64) 2 w' w0.heap.size (fun k_ => (P1_0_ k_ ∨ w.heap.size ≤ k_)) v0_ r1 ∧ IsS77 w0 w' g s0_0 r2 r3 ∧ Below w0.heap.size w0 w' ∧ Kept w w' (fun k_ => (P1_0_ k_) ∨ k_ = g) := by
  have hu26 := Try.underlying26
  have HO1_0 := as_ (show Kd.R (Kd.int .i64) 2 w w0.heap.size (fun k_ => (P1_0_ k_ ∨ w.heap.size ≤ k_)) u9000_ l1_0 from Kd.R_mono ho1_0 (fun k_ hk => (.inl hk)))
  have HI0 := as_ hI
  have HL := as_ hB.size
  clear hI
  have HK := as_ (Kept.refl w (fun k_ => (P1_0_ k_) ∨ k_ = g))
  have HW0 := as_ hB.size
  have HB := as_ hB
  clear hB
  have H : ((spec_l01Copy.f l1_0).bind fun t124 => ((spec_l01Next.f s0_0 s0_1 s0_2 50).bind fun bt128 => (if bt128.1 = 0 then (some (([] : List Int), bt128.2.1, bt128.2.2)) else (if bt128.1 = 1 then ((spec_l01N.f l1_0).bind fun t131 => ((spec_l01Next.f s0_0 bt128.2.1 bt128.2.2 t131).bind fun bt132 => ((spec_l01Pick.f s0_0 bt132.2.1 bt132.2.2 (([(-1), 0, 1, 2, 25] : List Int))).bind fun bt138 => (if 0 ≤ bt132.1 then (if bt132.1 < (t124.length : Int) then (some ((t124.set (bt132.1 : Int).toNat bt138.1), bt138.2.1, bt138.2.2)) else (none)) else (none))))) else (if bt128.1 = 2 then (if t124.length < 17592186044416 then (some ((t124 ++ [0]), bt128.2.1, bt128.2.2)) else (none)) else (some (l1_0, bt128.2.1, bt128.2.2))))))) = some (r1, r2, r3) := h
  clear h
  obtain ⟨t124, A3, H⟩ := bo_ H
  obtain ⟨⟨t128, t129, t130⟩, A4, H⟩ := bo_ H
  dsimp only at H
  by_cases c5 : t128 = 0
  · rw [if_pos c5] at H
    have c5b0 := beq_iff_eq.mpr c5
    have c5b1 := bne_eq_false_iff_eq.mpr c5
    clear c5
    simp only [Option.some.injEq, Prod.mk.injEq] at H
    obtain ⟨rfl, rfl, rfl⟩ := H
    obtain ⟨Ao6, co6, eo6⟩ := Kd.R_slice HO1_0.out
    subst eo6
    go_enter Try.func72, Try.ntmps72
    go_wp2_with (first | ((with_reducible refine gate_dst (N := 3) rfl ?_); refine bx_ 3 #[.slice Ao6 l1_0.length co6] 26 ?_; intro gb122 hg w7 hbox hb; replace HO1_0 := rb_ HO1_0 hb; have BK122 := as_ (hbox); have GW122 := as_ ((by rw [hg]; exact (by first | exact HK.out.1 | exact (show Kept w _ (fun k_ => (P1_0_ k_) ∨ k_ = g) from kq_ HK).1) : w.heap.size ≤ gb122)); replace HK := as_ (Kept.below (S := (fun k_ => (P1_0_ k_) ∨ k_ = g)) (kq_ HK) hb); have GE122 := as_ ((by rw [hg]; exact (below_size (b1_ HB ⟨IsS77.ge HI0.out⟩)) : w0.heap.size ≤ gb122)); replace HB := as_ (below_step (b1_ HB ⟨IsS77.ge HI0.out⟩) hb); have NB0_122 := as_ ((by rw [hg]; exact Nat.ne_of_lt (IsS77.lt (show IsS77 w0 _ g s0_0 s0_1 s0_2 from hi77_ HI0)) : g ≠ gb122)); have NB122_0 := as_ ((by rw [hg]; exact Nat.ne_of_gt (IsS77.lt (show IsS77 w0 _ g s0_0 s0_1 s0_2 from hi77_ HI0)) : gb122 ≠ g)); replace HI0 := as_ (IsS77.below (hi77_ HI0) hb); clear hb hbox hg) | ((with_reducible refine gate_dst (N := 4) rfl ?_); refine bx_ 4 #[.slice none 0 0] 26 ?_; intro gb123 hg w8 hbox hb; replace HO1_0 := rb_ HO1_0 hb; have BK123 := as_ (hbox); have GW123 := as_ ((by rw [hg]; exact (by first | exact HK.out.1 | exact (show Kept w _ (fun k_ => (P1_0_ k_) ∨ k_ = g) from by repeat (first | (with_reducible first | exact HK.out | apply Kept.alloc | apply Kept.drewN | apply Kept.drew | refine Kept.setCell ?_ (.inl (.inr rfl)) _ | refine Kept.setCell ?_ (.inr GW122.out) _) | exact HK.out)).1) : w.heap.size ≤ gb123)); replace HK := as_ (Kept.below (S := (fun k_ => (P1_0_ k_) ∨ k_ = g)) (by repeat (first | (with_reducible first | exact HK.out | apply Kept.alloc | apply Kept.drewN | apply Kept.drew | refine Kept.setCell ?_ (.inl (.inr rfl)) _ | refine Kept.setCell ?_ (.inr GW122.out) _) | exact HK.out)) hb); have GE123 := as_ ((by rw [hg]; exact (below_size (b2_ HB ⟨IsS77.ge HI0.out⟩ GE122)) : w0.heap.size ≤ gb123)); replace HB := as_ (below_step (b2_ HB ⟨IsS77.ge HI0.out⟩ GE122) hb); have NB122_123 := nl_ hg (bk_ BK122); have NB123_122 := ng_ hg (bk_ BK122); replace BK122 := kb_ BK122 hb; have NB0_123 := as_ ((by rw [hg]; exact Nat.ne_of_lt (IsS77.lt (show IsS77 w0 _ g s0_0 s0_1 s0_2 from by repeat (first | (with_reducible first | exact HI0.out | apply IsS77.alloc | apply IsS77.drewN | apply IsS77.drew | apply IsS77.set_1 | apply IsS77.set_2 | refine IsS77.far ?_ NB0_122.out _) | exact HI0.out))) : g ≠ gb123)); have NB123_0 := as_ ((by rw [hg]; exact Nat.ne_of_gt (IsS77.lt (show IsS77 w0 _ g s0_0 s0_1 s0_2 from by repeat (first | (with_reducible first | exact HI0.out | apply IsS77.alloc | apply IsS77.drewN | apply IsS77.drew | apply IsS77.set_1 | apply IsS77.set_2 | refine IsS77.far ?_ NB0_122.out _) | exact HI0.out))) : gb123 ≠ g)); replace HI0 := as_ (IsS77.below (by repeat (first | (with_reducible first | exact HI0.out | apply IsS77.alloc | apply IsS77.drewN | apply IsS77.drew | apply IsS77.set_1 | apply IsS77.set_2 | refine IsS77.far ?_ NB0_122.out _) | exact HI0.out)) hb); clear hb hbox hg; have hnb9 := NB122_123.out; have hnc9 := NB123_122.out; have hnb10 := NB122_0.out; have hnc10 := NB0_122.out; obtain ⟨hcz11_0, hfz11_0⟩ := tc1_ BK122) | ((with_reducible refine gate_callee (f := 82) rfl ?_); refine gL_ 7 Try.func82 #[.agg #[.slice Ao6 l1_0.length co6]] ?_; (with_reducible refine (spec_l01Copy.calls _ _ l1_0 t124 _ ?side1 ?side2 A3.out).mono ?_); (case side1 => exact cC_ (Kd.R_reads' HO1_0.out).2.2); (case side2 => exact (Kd.R_reads' HO1_0.out).2.1); rintro e w12 ⟨v125, rfl, ho0, hb⟩; refine ⟨_, rfl, ?_⟩; have HO126 := as_ (Kd.R_lower (nRR_ (Kd.R_newM (M := fun k_ => (P1_0_ k_ ∨ w.heap.size ≤ k_)) ho0 (by first | exact HK.out.1 | exact (show Kept w _ (fun k_ => (P1_0_ k_) ∨ k_ = g) from by repeat (first | (with_reducible first | exact HK.out | apply Kept.alloc | apply Kept.drewN | apply Kept.drew | refine Kept.setCell ?_ (.inl (.inr rfl)) _ | refine Kept.setCell ?_ (.inr GW122.out) _ | refine Kept.setCell ?_ (.inr GW123.out) _) | exact HK.out)).1) (fun k_ h_ => .inr h_)) HO1_0) (below_size (b3_ HB ⟨IsS77.ge HI0.out⟩ GE122 GE123))); replace HO1_0 := eR_ HO1_0 (Kd.R_base ho0) hb; replace BK122 := kb_ BK122 hb; replace BK123 := kb_ BK123 hb; replace HK := as_ (Kept.below (S := (fun k_ => (P1_0_ k_) ∨ k_ = g)) (by repeat (first | (with_reducible first | exact HK.out | apply Kept.alloc | apply Kept.drewN | apply Kept.drew | refine Kept.setCell ?_ (.inl (.inr rfl)) _ | refine Kept.setCell ?_ (.inr GW122.out) _ | refine Kept.setCell ?_ (.inr GW123.out) _) | exact HK.out)) hb); replace HB := as_ (below_step (b3_ HB ⟨IsS77.ge HI0.out⟩ GE122 GE123) hb); replace HI0 := as_ (IsS77.below (by repeat (first | (with_reducible first | exact HI0.out | apply IsS77.alloc | apply IsS77.drewN | apply IsS77.drew | apply IsS77.set_1 | apply IsS77.set_2 | refine IsS77.far ?_ NB0_122.out _ | refine IsS77.far ?_ NB0_123.out _) | exact HI0.out)) hb); clear hb ho0) | ((with_reducible refine gate_dst (N := 5) rfl ?_); refine bx_ 5 #[.slice none 0 0] 26 ?_; intro gb127 hg w13 hbox hb; replace HO1_0 := rb_ HO1_0 hb; replace HO126 := rb_ HO126 hb; have BK127 := as_ (hbox); have GW127 := as_ ((by rw [hg]; exact (by first | exact HK.out.1 | exact (show Kept w _ (fun k_ => (P1_0_ k_) ∨ k_ = g) from by repeat (first | (with_reducible first | exact HK.out | apply Kept.alloc | apply Kept.drewN | apply Kept.drew | refine Kept.setCell ?_ (.inl (.inr rfl)) _ | refine Kept.setCell ?_ (.inr GW122.out) _ | refine Kept.setCell ?_ (.inr GW123.out) _) | exact HK.out)).1) : w.heap.size ≤ gb127)); replace HK := as_ (Kept.below (S := (fun k_ => (P1_0_ k_) ∨ k_ = g)) (by repeat (first | (with_reducible first | exact HK.out | apply Kept.alloc | apply Kept.drewN | apply Kept.drew | refine Kept.setCell ?_ (.inl (.inr rfl)) _ | refine Kept.setCell ?_ (.inr GW122.out) _ | refine Kept.setCell ?_ (.inr GW123.out) _) | exact HK.out)) hb); have GE127 := as_ ((by rw [hg]; exact (below_size (b3_ HB ⟨IsS77.ge HI0.out⟩ GE122 GE123)) : w0.heap.size ≤ gb127)); replace HB := as_ (below_step (b3_ HB ⟨IsS77.ge HI0.out⟩ GE122 GE123) hb); have NB122_127 := nl_ hg (bk_ BK122); have NB127_122 := ng_ hg (bk_ BK122); replace BK122 := kb_ BK122 hb; have NB123_127 := nl_ hg (bk_ BK123); have NB127_123 := ng_ hg (bk_ BK123); replace BK123 := kb_ BK123 hb; have NB0_127 := as_ ((by rw [hg]; exact Nat.ne_of_lt (IsS77.lt (show IsS77 w0 _ g s0_0 s0_1 s0_2 from by repeat (first | (with_reducible first | exact HI0.out | apply IsS77.alloc | apply IsS77.drewN | apply IsS77.drew | apply IsS77.set_1 | apply IsS77.set_2 | refine IsS77.far ?_ NB0_122.out _ | refine IsS77.far ?_ NB0_123.out _) | exact HI0.out))) : g ≠ gb127)); have NB127_0 := as_ ((by rw [hg]; exact Nat.ne_of_gt (IsS77.lt (show IsS77 w0 _ g s0_0 s0_1 s0_2 from by repeat (first | (with_reducible first | exact HI0.out | apply IsS77.alloc | apply IsS77.drewN | apply IsS77.drew | apply IsS77.set_1 | apply IsS77.set_2 | refine IsS77.far ?_ NB0_122.out _ | refine IsS77.far ?_ NB0_123.out _) | exact HI0.out))) : gb127 ≠ g)); replace HI0 := as_ (IsS77.below (by repeat (first | (with_reducible first | exact HI0.out | apply IsS77.alloc | apply IsS77.drewN | apply IsS77.drew | apply IsS77.set_1 | apply IsS77.set_2 | refine IsS77.far ?_ NB0_122.out _ | refine IsS77.far ?_ NB0_123.out _) | exact HI0.out)) hb); clear hb hbox hg; obtain ⟨Ao14, co14, eo14⟩ := Kd.R_slice HO126.out; subst eo14; have hnb15 := NB127_122.out; have hnc15 := NB122_127.out; have hnb16 := NB127_123.out; have hnc16 := NB123_127.out; have hnb17 := NB127_0.out; have hnc17 := NB0_127.out; obtain ⟨hcz18_0, hfz18_0⟩ := tc1_ BK127) | ((with_reducible refine gate_callee (f := 63) rfl ?_); refine gL_ 9 Try.func63 #[.pointer (some ⟨g, 0, none⟩), .int .i64 50] ?_; (with_reducible refine (spec_l01Next.calls g s0_0 s0_1 s0_2 50 t128 t129 t130 w0 _ ?side1 ?side2 A4.out).mono ?_); (case side1 => repeat (first | (with_reducible first | exact HI0.out | apply IsS77.alloc | apply IsS77.drewN | apply IsS77.drew | apply IsS77.set_1 | apply IsS77.set_2 | refine IsS77.far ?_ NB0_122.out _ | refine IsS77.far ?_ NB0_123.out _ | refine IsS77.far ?_ NB0_127.out _) | exact HI0.out)); (case side2 => repeat (first | (with_reducible first | exact HB.out | apply below_alloc | apply pw_below_drewN | apply below_drew1 | refine below_set ?_ (IsS77.ge HI0.out) | refine below_set ?_ GE122.out | refine below_set ?_ GE123.out | refine below_set ?_ GE127.out) | exact HB.out)); rintro e w19 ⟨rfl, hi, hb, hk⟩; refine ⟨_, rfl, ?_⟩; replace HO1_0 := as_ (Kd.R_mono (Kd.R_keep (IsS77.apart (show IsS77 w0 _ g s0_0 s0_1 s0_2 from by repeat (first | (with_reducible first | exact HI0.out | apply IsS77.alloc | apply IsS77.drewN | apply IsS77.drew | apply IsS77.set_1 | apply IsS77.set_2 | refine IsS77.far ?_ NB0_122.out _ | refine IsS77.far ?_ NB0_123.out _ | refine IsS77.far ?_ NB0_127.out _) | exact HI0.out)) (iR1_ HO1_0 BK127) (by decide)) hk (fun _ h => h.2)) (fun _ h => h.1)); replace BK122 := as_ (KeepBut.blk hk (g' := gb122) (o := .cells #[.slice Ao6 l1_0.length co6] 26 (0, 0)) (bf_ BK122 NB122_127) NB122_0.out (by simp)); replace BK123 := as_ (KeepBut.blk hk (g' := gb123) (o := .cells #[.slice none 0 0] 26 (0, 0)) (bf_ BK123 NB123_127) NB123_0.out (by simp)); replace HO126 := as_ (Kd.R_mono (Kd.R_keep (IsS77.apart (show IsS77 w0 _ g s0_0 s0_1 s0_2 from by repeat (first | (with_reducible first | exact HI0.out | apply IsS77.alloc | apply IsS77.drewN | apply IsS77.drew | apply IsS77.set_1 | apply IsS77.set_2 | refine IsS77.far ?_ NB0_122.out _ | refine IsS77.far ?_ NB0_123.out _ | refine IsS77.far ?_ NB0_127.out _) | exact HI0.out)) (iR1_ HO126 BK127) (by decide)) hk (fun _ h => h.2)) (fun _ h => h.1)); replace BK127 := as_ (KeepBut.blk hk (g' := gb127) (o := .cells #[.slice Ao14 t124.length co14] 26 (0, 0)) (bp_ BK127) NB127_0.out (by simp)); replace HK := as_ (Kept.of_keep (S := (fun k_ => (P1_0_ k_) ∨ k_ = g)) (by repeat (first | (with_reducible first | exact HK.out | apply Kept.alloc | apply Kept.drewN | apply Kept.drew | refine Kept.setCell ?_ (.inl (.inr rfl)) _ | refine Kept.setCell ?_ (.inr GW122.out) _ | refine Kept.setCell ?_ (.inr GW123.out) _ | refine Kept.setCell ?_ (.inr GW127.out) _) | exact HK.out)) hk (.inl (.inr rfl))); replace HB := as_ (hb); replace HI0 := as_ (hi); clear hb hk hi; have hnb20 := NB123_0.out; have hnc20 := NB0_123.out; obtain ⟨hcz21_0, hfz21_0⟩ := tc1_ BK123))
    refine bodyPost_ret (results_cell_row rfl _ _ gb123 26 #[.slice none 0 0] (0, 0) _ rfl (bp_ BK123) Try.underlying26 rfl (by kernel_rfl)) rfl ?_
    exact ⟨_, re_, by first | exact Kd.R_nil _ _ _ _ _ | exact Kd.N_nil _ _ _ _ _ | exact Kd.V_nil _ _ _ _ _ | exact Kd.Q_nil _ _ _ _ _ | exact Kd.S_nil _ _ _ _ _, by repeat (first | (with_reducible first | exact HI0.out | apply IsS77.alloc | apply IsS77.drewN | apply IsS77.drew | apply IsS77.set_1 | apply IsS77.set_2 | refine IsS77.far ?_ NB0_122.out _ | refine IsS77.far ?_ NB0_123.out _ | refine IsS77.far ?_ NB0_127.out _) | exact HI0.out), b4_ HB ⟨IsS77.ge HI0.out⟩ GE122 GE123 GE127, by repeat (first | (with_reducible first | exact HK.out | apply Kept.alloc | apply Kept.drewN | apply Kept.drew | refine Kept.setCell ?_ (.inl (.inr rfl)) _ | refine Kept.setCell ?_ (.inr GW122.out) _ | refine Kept.setCell ?_ (.inr GW123.out) _ | refine Kept.setCell ?_ (.inr GW127.out) _) | exact HK.out)⟩
  rw [if_neg c5] at H
  have c5b0 := beq_eq_false_iff_ne.mpr c5
  have c5b1 := bne_iff_ne.mpr c5
  by_cases c22 : t128 = 1
  rotate_left
  · rw [if_neg c22] at H
    have c22b0 := beq_eq_false_iff_ne.mpr c22
    have c22b1 := bne_iff_ne.mpr c22
    by_cases c56 : t128 = 2
    rotate_left
    · rw [if_neg c56] at H
      have c56b0 := beq_eq_false_iff_ne.mpr c56
      have c56b1 := bne_iff_ne.mpr c56
      simp only [Option.some.injEq, Prod.mk.injEq] at H
      obtain ⟨rfl, rfl, rfl⟩ := H
      obtain ⟨Ao78, co78, eo78⟩ := Kd.R_slice HO1_0.out
      subst eo78
      go_enter Try.func72, Try.ntmps72
      go_wp2_with (first | ((with_reducible refine gate_dst (N := 3) rfl ?_); refine bx_ 3 #[.slice Ao78 l1_0.length co78] 26 ?_; intro gb122 hg w79 hbox hb; replace HO1_0 := rb_ HO1_0 hb; have BK122 := as_ (hbox); have GW122 := as_ ((by rw [hg]; exact (by first | exact HK.out.1 | exact (show Kept w _ (fun k_ => (P1_0_ k_) ∨ k_ = g) from kq_ HK).1) : w.heap.size ≤ gb122)); replace HK := as_ (Kept.below (S := (fun k_ => (P1_0_ k_) ∨ k_ = g)) (kq_ HK) hb); have GE122 := as_ ((by rw [hg]; exact (below_size (b1_ HB ⟨IsS77.ge HI0.out⟩)) : w0.heap.size ≤ gb122)); replace HB := as_ (below_step (b1_ HB ⟨IsS77.ge HI0.out⟩) hb); have NB0_122 := as_ ((by rw [hg]; exact Nat.ne_of_lt (IsS77.lt (show IsS77 w0 _ g s0_0 s0_1 s0_2 from hi77_ HI0)) : g ≠ gb122)); have NB122_0 := as_ ((by rw [hg]; exact Nat.ne_of_gt (IsS77.lt (show IsS77 w0 _ g s0_0 s0_1 s0_2 from hi77_ HI0)) : gb122 ≠ g)); replace HI0 := as_ (IsS77.below (hi77_ HI0) hb); clear hb hbox hg) | ((with_reducible refine gate_dst (N := 4) rfl ?_); refine bx_ 4 #[.slice none 0 0] 26 ?_; intro gb123 hg w80 hbox hb; replace HO1_0 := rb_ HO1_0 hb; have BK123 := as_ (hbox); have GW123 := as_ ((by rw [hg]; exact (by first | exact HK.out.1 | exact (show Kept w _ (fun k_ => (P1_0_ k_) ∨ k_ = g) from by repeat (first | (with_reducible first | exact HK.out | apply Kept.alloc | apply Kept.drewN | apply Kept.drew | refine Kept.setCell ?_ (.inl (.inr rfl)) _ | refine Kept.setCell ?_ (.inr GW122.out) _) | exact HK.out)).1) : w.heap.size ≤ gb123)); replace HK := as_ (Kept.below (S := (fun k_ => (P1_0_ k_) ∨ k_ = g)) (by repeat (first | (with_reducible first | exact HK.out | apply Kept.alloc | apply Kept.drewN | apply Kept.drew | refine Kept.setCell ?_ (.inl (.inr rfl)) _ | refine Kept.setCell ?_ (.inr GW122.out) _) | exact HK.out)) hb); have GE123 := as_ ((by rw [hg]; exact (below_size (b2_ HB ⟨IsS77.ge HI0.out⟩ GE122)) : w0.heap.size ≤ gb123)); replace HB := as_ (below_step (b2_ HB ⟨IsS77.ge HI0.out⟩ GE122) hb); have NB122_123 := nl_ hg (bk_ BK122); have NB123_122 := ng_ hg (bk_ BK122); replace BK122 := kb_ BK122 hb; have NB0_123 := as_ ((by rw [hg]; exact Nat.ne_of_lt (IsS77.lt (show IsS77 w0 _ g s0_0 s0_1 s0_2 from by repeat (first | (with_reducible first | exact HI0.out | apply IsS77.alloc | apply IsS77.drewN | apply IsS77.drew | apply IsS77.set_1 | apply IsS77.set_2 | refine IsS77.far ?_ NB0_122.out _) | exact HI0.out))) : g ≠ gb123)); have NB123_0 := as_ ((by rw [hg]; exact Nat.ne_of_gt (IsS77.lt (show IsS77 w0 _ g s0_0 s0_1 s0_2 from by repeat (first | (with_reducible first | exact HI0.out | apply IsS77.alloc | apply IsS77.drewN | apply IsS77.drew | apply IsS77.set_1 | apply IsS77.set_2 | refine IsS77.far ?_ NB0_122.out _) | exact HI0.out))) : gb123 ≠ g)); replace HI0 := as_ (IsS77.below (by repeat (first | (with_reducible first | exact HI0.out | apply IsS77.alloc | apply IsS77.drewN | apply IsS77.drew | apply IsS77.set_1 | apply IsS77.set_2 | refine IsS77.far ?_ NB0_122.out _) | exact HI0.out)) hb); clear hb hbox hg; have hnb81 := NB122_123.out; have hnc81 := NB123_122.out; have hnb82 := NB122_0.out; have hnc82 := NB0_122.out; obtain ⟨hcz83_0, hfz83_0⟩ := tc1_ BK122) | ((with_reducible refine gate_callee (f := 82) rfl ?_); refine gL_ 7 Try.func82 #[.agg #[.slice Ao78 l1_0.length co78]] ?_; (with_reducible refine (spec_l01Copy.calls _ _ l1_0 t124 _ ?side1 ?side2 A3.out).mono ?_); (case side1 => exact cC_ (Kd.R_reads' HO1_0.out).2.2); (case side2 => exact (Kd.R_reads' HO1_0.out).2.1); rintro e w84 ⟨v125, rfl, ho0, hb⟩; refine ⟨_, rfl, ?_⟩; have HO126 := as_ (Kd.R_lower (nRR_ (Kd.R_newM (M := fun k_ => (P1_0_ k_ ∨ w.heap.size ≤ k_)) ho0 (by first | exact HK.out.1 | exact (show Kept w _ (fun k_ => (P1_0_ k_) ∨ k_ = g) from by repeat (first | (with_reducible first | exact HK.out | apply Kept.alloc | apply Kept.drewN | apply Kept.drew | refine Kept.setCell ?_ (.inl (.inr rfl)) _ | refine Kept.setCell ?_ (.inr GW122.out) _ | refine Kept.setCell ?_ (.inr GW123.out) _) | exact HK.out)).1) (fun k_ h_ => .inr h_)) HO1_0) (below_size (b3_ HB ⟨IsS77.ge HI0.out⟩ GE122 GE123))); replace HO1_0 := eR_ HO1_0 (Kd.R_base ho0) hb; replace BK122 := kb_ BK122 hb; replace BK123 := kb_ BK123 hb; replace HK := as_ (Kept.below (S := (fun k_ => (P1_0_ k_) ∨ k_ = g)) (by repeat (first | (with_reducible first | exact HK.out | apply Kept.alloc | apply Kept.drewN | apply Kept.drew | refine Kept.setCell ?_ (.inl (.inr rfl)) _ | refine Kept.setCell ?_ (.inr GW122.out) _ | refine Kept.setCell ?_ (.inr GW123.out) _) | exact HK.out)) hb); replace HB := as_ (below_step (b3_ HB ⟨IsS77.ge HI0.out⟩ GE122 GE123) hb); replace HI0 := as_ (IsS77.below (by repeat (first | (with_reducible first | exact HI0.out | apply IsS77.alloc | apply IsS77.drewN | apply IsS77.drew | apply IsS77.set_1 | apply IsS77.set_2 | refine IsS77.far ?_ NB0_122.out _ | refine IsS77.far ?_ NB0_123.out _) | exact HI0.out)) hb); clear hb ho0) | ((with_reducible refine gate_dst (N := 5) rfl ?_); refine bx_ 5 #[.slice none 0 0] 26 ?_; intro gb127 hg w85 hbox hb; replace HO1_0 := rb_ HO1_0 hb; replace HO126 := rb_ HO126 hb; have BK127 := as_ (hbox); have GW127 := as_ ((by rw [hg]; exact (by first | exact HK.out.1 | exact (show Kept w _ (fun k_ => (P1_0_ k_) ∨ k_ = g) from by repeat (first | (with_reducible first | exact HK.out | apply Kept.alloc | apply Kept.drewN | apply Kept.drew | refine Kept.setCell ?_ (.inl (.inr rfl)) _ | refine Kept.setCell ?_ (.inr GW122.out) _ | refine Kept.setCell ?_ (.inr GW123.out) _) | exact HK.out)).1) : w.heap.size ≤ gb127)); replace HK := as_ (Kept.below (S := (fun k_ => (P1_0_ k_) ∨ k_ = g)) (by repeat (first | (with_reducible first | exact HK.out | apply Kept.alloc | apply Kept.drewN | apply Kept.drew | refine Kept.setCell ?_ (.inl (.inr rfl)) _ | refine Kept.setCell ?_ (.inr GW122.out) _ | refine Kept.setCell ?_ (.inr GW123.out) _) | exact HK.out)) hb); have GE127 := as_ ((by rw [hg]; exact (below_size (b3_ HB ⟨IsS77.ge HI0.out⟩ GE122 GE123)) : w0.heap.size ≤ gb127)); replace HB := as_ (below_step (b3_ HB ⟨IsS77.ge HI0.out⟩ GE122 GE123) hb); have NB122_127 := nl_ hg (bk_ BK122); have NB127_122 := ng_ hg (bk_ BK122); replace BK122 := kb_ BK122 hb; have NB123_127 := nl_ hg (bk_ BK123); have NB127_123 := ng_ hg (bk_ BK123); replace BK123 := kb_ BK123 hb; have NB0_127 := as_ ((by rw [hg]; exact Nat.ne_of_lt (IsS77.lt (show IsS77 w0 _ g s0_0 s0_1 s0_2 from by repeat (first | (with_reducible first | exact HI0.out | apply IsS77.alloc | apply IsS77.drewN | apply IsS77.drew | apply IsS77.set_1 | apply IsS77.set_2 | refine IsS77.far ?_ NB0_122.out _ | refine IsS77.far ?_ NB0_123.out _) | exact HI0.out))) : g ≠ gb127)); have NB127_0 := as_ ((by rw [hg]; exact Nat.ne_of_gt (IsS77.lt (show IsS77 w0 _ g s0_0 s0_1 s0_2 from by repeat (first | (with_reducible first | exact HI0.out | apply IsS77.alloc | apply IsS77.drewN | apply IsS77.drew | apply IsS77.set_1 | apply IsS77.set_2 | refine IsS77.far ?_ NB0_122.out _ | refine IsS77.far ?_ NB0_123.out _) | exact HI0.out))) : gb127 ≠ g)); replace HI0 := as_ (IsS77.below (by repeat (first | (with_reducible first | exact HI0.out | apply IsS77.alloc | apply IsS77.drewN | apply IsS77.drew | apply IsS77.set_1 | apply IsS77.set_2 | refine IsS77.far ?_ NB0_122.out _ | refine IsS77.far ?_ NB0_123.out _) | exact HI0.out)) hb); clear hb hbox hg; obtain ⟨Ao86, co86, eo86⟩ := Kd.R_slice HO126.out; subst eo86; have hnb87 := NB127_122.out; have hnc87 := NB122_127.out; have hnb88 := NB127_123.out; have hnc88 := NB123_127.out; have hnb89 := NB127_0.out; have hnc89 := NB0_127.out; obtain ⟨hcz90_0, hfz90_0⟩ := tc1_ BK127) | ((with_reducible refine gate_callee (f := 63) rfl ?_); refine gL_ 9 Try.func63 #[.pointer (some ⟨g, 0, none⟩), .int .i64 50] ?_; (with_reducible refine (spec_l01Next.calls g s0_0 s0_1 s0_2 50 t128 t129 t130 w0 _ ?side1 ?side2 A4.out).mono ?_); (case side1 => repeat (first | (with_reducible first | exact HI0.out | apply IsS77.alloc | apply IsS77.drewN | apply IsS77.drew | apply IsS77.set_1 | apply IsS77.set_2 | refine IsS77.far ?_ NB0_122.out _ | refine IsS77.far ?_ NB0_123.out _ | refine IsS77.far ?_ NB0_127.out _) | exact HI0.out)); (case side2 => repeat (first | (with_reducible first | exact HB.out | apply below_alloc | apply pw_below_drewN | apply below_drew1 | refine below_set ?_ (IsS77.ge HI0.out) | refine below_set ?_ GE122.out | refine below_set ?_ GE123.out | refine below_set ?_ GE127.out) | exact HB.out)); rintro e w91 ⟨rfl, hi, hb, hk⟩; refine ⟨_, rfl, ?_⟩; replace HO1_0 := as_ (Kd.R_mono (Kd.R_keep (IsS77.apart (show IsS77 w0 _ g s0_0 s0_1 s0_2 from by repeat (first | (with_reducible first | exact HI0.out | apply IsS77.alloc | apply IsS77.drewN | apply IsS77.drew | apply IsS77.set_1 | apply IsS77.set_2 | refine IsS77.far ?_ NB0_122.out _ | refine IsS77.far ?_ NB0_123.out _ | refine IsS77.far ?_ NB0_127.out _) | exact HI0.out)) (iR1_ HO1_0 BK127) (by decide)) hk (fun _ h => h.2)) (fun _ h => h.1)); replace BK122 := as_ (KeepBut.blk hk (g' := gb122) (o := .cells #[.slice Ao78 l1_0.length co78] 26 (0, 0)) (bf_ BK122 NB122_127) NB122_0.out (by simp)); replace BK123 := as_ (KeepBut.blk hk (g' := gb123) (o := .cells #[.slice none 0 0] 26 (0, 0)) (bf_ BK123 NB123_127) NB123_0.out (by simp)); replace HO126 := as_ (Kd.R_mono (Kd.R_keep (IsS77.apart (show IsS77 w0 _ g s0_0 s0_1 s0_2 from by repeat (first | (with_reducible first | exact HI0.out | apply IsS77.alloc | apply IsS77.drewN | apply IsS77.drew | apply IsS77.set_1 | apply IsS77.set_2 | refine IsS77.far ?_ NB0_122.out _ | refine IsS77.far ?_ NB0_123.out _ | refine IsS77.far ?_ NB0_127.out _) | exact HI0.out)) (iR1_ HO126 BK127) (by decide)) hk (fun _ h => h.2)) (fun _ h => h.1)); replace BK127 := as_ (KeepBut.blk hk (g' := gb127) (o := .cells #[.slice Ao86 t124.length co86] 26 (0, 0)) (bp_ BK127) NB127_0.out (by simp)); replace HK := as_ (Kept.of_keep (S := (fun k_ => (P1_0_ k_) ∨ k_ = g)) (by repeat (first | (with_reducible first | exact HK.out | apply Kept.alloc | apply Kept.drewN | apply Kept.drew | refine Kept.setCell ?_ (.inl (.inr rfl)) _ | refine Kept.setCell ?_ (.inr GW122.out) _ | refine Kept.setCell ?_ (.inr GW123.out) _ | refine Kept.setCell ?_ (.inr GW127.out) _) | exact HK.out)) hk (.inl (.inr rfl))); replace HB := as_ (hb); replace HI0 := as_ (hi); clear hb hk hi; obtain ⟨hcz92_0, hfz92_0⟩ := tc1_ BK122; have hnb93 := NB123_0.out; have hnc93 := NB0_123.out; obtain ⟨hcz94_0, hfz94_0⟩ := tc1_ BK123))
      refine bodyPost_ret (results_cell_row rfl _ _ gb123 26 #[.slice Ao78 l1_0.length co78] (0, 0) _ rfl (bp_ BK123) Try.underlying26 rfl (by kernel_rfl)) rfl ?_
      exact ⟨_, re_, fR1_ HO1_0 BK123, by repeat (first | (with_reducible first | exact HI0.out | apply IsS77.alloc | apply IsS77.drewN | apply IsS77.drew | apply IsS77.set_1 | apply IsS77.set_2 | refine IsS77.far ?_ NB0_122.out _ | refine IsS77.far ?_ NB0_123.out _ | refine IsS77.far ?_ NB0_127.out _) | exact HI0.out), b4_ HB ⟨IsS77.ge HI0.out⟩ GE122 GE123 GE127, by repeat (first | (with_reducible first | exact HK.out | apply Kept.alloc | apply Kept.drewN | apply Kept.drew | refine Kept.setCell ?_ (.inl (.inr rfl)) _ | refine Kept.setCell ?_ (.inr GW122.out) _ | refine Kept.setCell ?_ (.inr GW123.out) _ | refine Kept.setCell ?_ (.inr GW127.out) _) | exact HK.out)⟩
    rw [if_pos c56] at H
    have c56b0 := beq_iff_eq.mpr c56
    have c56b1 := bne_eq_false_iff_eq.mpr c56
    clear c56
    obtain ⟨c57, H⟩ := ite_s H
    have LMc57 := as_ c57
    clear c57
    obtain ⟨y142, hy142⟩ := ex_ (t124 ++ [0] : List Int)
    replace H : (some (y142, t129, t130)) = some (r1, r2, r3) := yr_ hy142 H
    have Ny142 := as_ hy142
    clear hy142
    simp only [Option.some.injEq, Prod.mk.injEq] at H
    obtain ⟨rfl, rfl, rfl⟩ := H
    obtain ⟨Ao58, co58, eo58⟩ := Kd.R_slice HO1_0.out
    subst eo58
    go_enter Try.func72, Try.ntmps72
    go_wp2_with (first | ((with_reducible refine gate_dst (N := 3) rfl ?_); refine bx_ 3 #[.slice Ao58 l1_0.length co58] 26 ?_; intro gb122 hg w59 hbox hb; replace HO1_0 := rb_ HO1_0 hb; have BK122 := as_ (hbox); have GW122 := as_ ((by rw [hg]; exact (by first | exact HK.out.1 | exact (show Kept w _ (fun k_ => (P1_0_ k_) ∨ k_ = g) from kq_ HK).1) : w.heap.size ≤ gb122)); replace HK := as_ (Kept.below (S := (fun k_ => (P1_0_ k_) ∨ k_ = g)) (kq_ HK) hb); have GE122 := as_ ((by rw [hg]; exact (below_size (b1_ HB ⟨IsS77.ge HI0.out⟩)) : w0.heap.size ≤ gb122)); replace HB := as_ (below_step (b1_ HB ⟨IsS77.ge HI0.out⟩) hb); have NB0_122 := as_ ((by rw [hg]; exact Nat.ne_of_lt (IsS77.lt (show IsS77 w0 _ g s0_0 s0_1 s0_2 from hi77_ HI0)) : g ≠ gb122)); have NB122_0 := as_ ((by rw [hg]; exact Nat.ne_of_gt (IsS77.lt (show IsS77 w0 _ g s0_0 s0_1 s0_2 from hi77_ HI0)) : gb122 ≠ g)); replace HI0 := as_ (IsS77.below (hi77_ HI0) hb); clear hb hbox hg) | ((with_reducible refine gate_dst (N := 4) rfl ?_); refine bx_ 4 #[.slice none 0 0] 26 ?_; intro gb123 hg w60 hbox hb; replace HO1_0 := rb_ HO1_0 hb; have BK123 := as_ (hbox); have GW123 := as_ ((by rw [hg]; exact (by first | exact HK.out.1 | exact (show Kept w _ (fun k_ => (P1_0_ k_) ∨ k_ = g) from by repeat (first | (with_reducible first | exact HK.out | apply Kept.alloc | apply Kept.drewN | apply Kept.drew | refine Kept.setCell ?_ (.inl (.inr rfl)) _ | refine Kept.setCell ?_ (.inr GW122.out) _) | exact HK.out)).1) : w.heap.size ≤ gb123)); replace HK := as_ (Kept.below (S := (fun k_ => (P1_0_ k_) ∨ k_ = g)) (by repeat (first | (with_reducible first | exact HK.out | apply Kept.alloc | apply Kept.drewN | apply Kept.drew | refine Kept.setCell ?_ (.inl (.inr rfl)) _ | refine Kept.setCell ?_ (.inr GW122.out) _) | exact HK.out)) hb); have GE123 := as_ ((by rw [hg]; exact (below_size (b2_ HB ⟨IsS77.ge HI0.out⟩ GE122)) : w0.heap.size ≤ gb123)); replace HB := as_ (below_step (b2_ HB ⟨IsS77.ge HI0.out⟩ GE122) hb); have NB122_123 := nl_ hg (bk_ BK122); have NB123_122 := ng_ hg (bk_ BK122); replace BK122 := kb_ BK122 hb; have NB0_123 := as_ ((by rw [hg]; exact Nat.ne_of_lt (IsS77.lt (show IsS77 w0 _ g s0_0 s0_1 s0_2 from by repeat (first | (with_reducible first | exact HI0.out | apply IsS77.alloc | apply IsS77.drewN | apply IsS77.drew | apply IsS77.set_1 | apply IsS77.set_2 | refine IsS77.far ?_ NB0_122.out _) | exact HI0.out))) : g ≠ gb123)); have NB123_0 := as_ ((by rw [hg]; exact Nat.ne_of_gt (IsS77.lt (show IsS77 w0 _ g s0_0 s0_1 s0_2 from by repeat (first | (with_reducible first | exact HI0.out | apply IsS77.alloc | apply IsS77.drewN | apply IsS77.drew | apply IsS77.set_1 | apply IsS77.set_2 | refine IsS77.far ?_ NB0_122.out _) | exact HI0.out))) : gb123 ≠ g)); replace HI0 := as_ (IsS77.below (by repeat (first | (with_reducible first | exact HI0.out | apply IsS77.alloc | apply IsS77.drewN | apply IsS77.drew | apply IsS77.set_1 | apply IsS77.set_2 | refine IsS77.far ?_ NB0_122.out _) | exact HI0.out)) hb); clear hb hbox hg; have hnb61 := NB122_123.out; have hnc61 := NB123_122.out; have hnb62 := NB122_0.out; have hnc62 := NB0_122.out; obtain ⟨hcz63_0, hfz63_0⟩ := tc1_ BK122) | ((with_reducible refine gate_callee (f := 82) rfl ?_); refine gL_ 7 Try.func82 #[.agg #[.slice Ao58 l1_0.length co58]] ?_; (with_reducible refine (spec_l01Copy.calls _ _ l1_0 t124 _ ?side1 ?side2 A3.out).mono ?_); (case side1 => exact cC_ (Kd.R_reads' HO1_0.out).2.2); (case side2 => exact (Kd.R_reads' HO1_0.out).2.1); rintro e w64 ⟨v125, rfl, ho0, hb⟩; refine ⟨_, rfl, ?_⟩; have HO126 := as_ (Kd.R_lower (nRR_ (Kd.R_newM (M := fun k_ => (P1_0_ k_ ∨ w.heap.size ≤ k_)) ho0 (by first | exact HK.out.1 | exact (show Kept w _ (fun k_ => (P1_0_ k_) ∨ k_ = g) from by repeat (first | (with_reducible first | exact HK.out | apply Kept.alloc | apply Kept.drewN | apply Kept.drew | refine Kept.setCell ?_ (.inl (.inr rfl)) _ | refine Kept.setCell ?_ (.inr GW122.out) _ | refine Kept.setCell ?_ (.inr GW123.out) _) | exact HK.out)).1) (fun k_ h_ => .inr h_)) HO1_0) (below_size (b3_ HB ⟨IsS77.ge HI0.out⟩ GE122 GE123))); replace HO1_0 := eR_ HO1_0 (Kd.R_base ho0) hb; replace BK122 := kb_ BK122 hb; replace BK123 := kb_ BK123 hb; replace HK := as_ (Kept.below (S := (fun k_ => (P1_0_ k_) ∨ k_ = g)) (by repeat (first | (with_reducible first | exact HK.out | apply Kept.alloc | apply Kept.drewN | apply Kept.drew | refine Kept.setCell ?_ (.inl (.inr rfl)) _ | refine Kept.setCell ?_ (.inr GW122.out) _ | refine Kept.setCell ?_ (.inr GW123.out) _) | exact HK.out)) hb); replace HB := as_ (below_step (b3_ HB ⟨IsS77.ge HI0.out⟩ GE122 GE123) hb); replace HI0 := as_ (IsS77.below (by repeat (first | (with_reducible first | exact HI0.out | apply IsS77.alloc | apply IsS77.drewN | apply IsS77.drew | apply IsS77.set_1 | apply IsS77.set_2 | refine IsS77.far ?_ NB0_122.out _ | refine IsS77.far ?_ NB0_123.out _) | exact HI0.out)) hb); clear hb ho0) | ((with_reducible refine gate_dst (N := 5) rfl ?_); refine bx_ 5 #[.slice none 0 0] 26 ?_; intro gb127 hg w65 hbox hb; replace HO1_0 := rb_ HO1_0 hb; replace HO126 := rb_ HO126 hb; have BK127 := as_ (hbox); have GW127 := as_ ((by rw [hg]; exact (by first | exact HK.out.1 | exact (show Kept w _ (fun k_ => (P1_0_ k_) ∨ k_ = g) from by repeat (first | (with_reducible first | exact HK.out | apply Kept.alloc | apply Kept.drewN | apply Kept.drew | refine Kept.setCell ?_ (.inl (.inr rfl)) _ | refine Kept.setCell ?_ (.inr GW122.out) _ | refine Kept.setCell ?_ (.inr GW123.out) _) | exact HK.out)).1) : w.heap.size ≤ gb127)); replace HK := as_ (Kept.below (S := (fun k_ => (P1_0_ k_) ∨ k_ = g)) (by repeat (first | (with_reducible first | exact HK.out | apply Kept.alloc | apply Kept.drewN | apply Kept.drew | refine Kept.setCell ?_ (.inl (.inr rfl)) _ | refine Kept.setCell ?_ (.inr GW122.out) _ | refine Kept.setCell ?_ (.inr GW123.out) _) | exact HK.out)) hb); have GE127 := as_ ((by rw [hg]; exact (below_size (b3_ HB ⟨IsS77.ge HI0.out⟩ GE122 GE123)) : w0.heap.size ≤ gb127)); replace HB := as_ (below_step (b3_ HB ⟨IsS77.ge HI0.out⟩ GE122 GE123) hb); have NB122_127 := nl_ hg (bk_ BK122); have NB127_122 := ng_ hg (bk_ BK122); replace BK122 := kb_ BK122 hb; have NB123_127 := nl_ hg (bk_ BK123); have NB127_123 := ng_ hg (bk_ BK123); replace BK123 := kb_ BK123 hb; have NB0_127 := as_ ((by rw [hg]; exact Nat.ne_of_lt (IsS77.lt (show IsS77 w0 _ g s0_0 s0_1 s0_2 from by repeat (first | (with_reducible first | exact HI0.out | apply IsS77.alloc | apply IsS77.drewN | apply IsS77.drew | apply IsS77.set_1 | apply IsS77.set_2 | refine IsS77.far ?_ NB0_122.out _ | refine IsS77.far ?_ NB0_123.out _) | exact HI0.out))) : g ≠ gb127)); have NB127_0 := as_ ((by rw [hg]; exact Nat.ne_of_gt (IsS77.lt (show IsS77 w0 _ g s0_0 s0_1 s0_2 from by repeat (first | (with_reducible first | exact HI0.out | apply IsS77.alloc | apply IsS77.drewN | apply IsS77.drew | apply IsS77.set_1 | apply IsS77.set_2 | refine IsS77.far ?_ NB0_122.out _ | refine IsS77.far ?_ NB0_123.out _) | exact HI0.out))) : gb127 ≠ g)); replace HI0 := as_ (IsS77.below (by repeat (first | (with_reducible first | exact HI0.out | apply IsS77.alloc | apply IsS77.drewN | apply IsS77.drew | apply IsS77.set_1 | apply IsS77.set_2 | refine IsS77.far ?_ NB0_122.out _ | refine IsS77.far ?_ NB0_123.out _) | exact HI0.out)) hb); clear hb hbox hg; obtain ⟨Ao66, co66, eo66⟩ := Kd.R_slice HO126.out; subst eo66; have hnb67 := NB127_122.out; have hnc67 := NB122_127.out; have hnb68 := NB127_123.out; have hnc68 := NB123_127.out; have hnb69 := NB127_0.out; have hnc69 := NB0_127.out; obtain ⟨hcz70_0, hfz70_0⟩ := tc1_ BK127) | ((with_reducible refine gate_callee (f := 63) rfl ?_); refine gL_ 9 Try.func63 #[.pointer (some ⟨g, 0, none⟩), .int .i64 50] ?_; (with_reducible refine (spec_l01Next.calls g s0_0 s0_1 s0_2 50 t128 t129 t130 w0 _ ?side1 ?side2 A4.out).mono ?_); (case side1 => repeat (first | (with_reducible first | exact HI0.out | apply IsS77.alloc | apply IsS77.drewN | apply IsS77.drew | apply IsS77.set_1 | apply IsS77.set_2 | refine IsS77.far ?_ NB0_122.out _ | refine IsS77.far ?_ NB0_123.out _ | refine IsS77.far ?_ NB0_127.out _) | exact HI0.out)); (case side2 => repeat (first | (with_reducible first | exact HB.out | apply below_alloc | apply pw_below_drewN | apply below_drew1 | refine below_set ?_ (IsS77.ge HI0.out) | refine below_set ?_ GE122.out | refine below_set ?_ GE123.out | refine below_set ?_ GE127.out) | exact HB.out)); rintro e w71 ⟨rfl, hi, hb, hk⟩; refine ⟨_, rfl, ?_⟩; replace HO1_0 := as_ (Kd.R_mono (Kd.R_keep (IsS77.apart (show IsS77 w0 _ g s0_0 s0_1 s0_2 from by repeat (first | (with_reducible first | exact HI0.out | apply IsS77.alloc | apply IsS77.drewN | apply IsS77.drew | apply IsS77.set_1 | apply IsS77.set_2 | refine IsS77.far ?_ NB0_122.out _ | refine IsS77.far ?_ NB0_123.out _ | refine IsS77.far ?_ NB0_127.out _) | exact HI0.out)) (iR1_ HO1_0 BK127) (by decide)) hk (fun _ h => h.2)) (fun _ h => h.1)); replace BK122 := as_ (KeepBut.blk hk (g' := gb122) (o := .cells #[.slice Ao58 l1_0.length co58] 26 (0, 0)) (bf_ BK122 NB122_127) NB122_0.out (by simp)); replace BK123 := as_ (KeepBut.blk hk (g' := gb123) (o := .cells #[.slice none 0 0] 26 (0, 0)) (bf_ BK123 NB123_127) NB123_0.out (by simp)); replace HO126 := as_ (Kd.R_mono (Kd.R_keep (IsS77.apart (show IsS77 w0 _ g s0_0 s0_1 s0_2 from by repeat (first | (with_reducible first | exact HI0.out | apply IsS77.alloc | apply IsS77.drewN | apply IsS77.drew | apply IsS77.set_1 | apply IsS77.set_2 | refine IsS77.far ?_ NB0_122.out _ | refine IsS77.far ?_ NB0_123.out _ | refine IsS77.far ?_ NB0_127.out _) | exact HI0.out)) (iR1_ HO126 BK127) (by decide)) hk (fun _ h => h.2)) (fun _ h => h.1)); replace BK127 := as_ (KeepBut.blk hk (g' := gb127) (o := .cells #[.slice Ao66 t124.length co66] 26 (0, 0)) (bp_ BK127) NB127_0.out (by simp)); replace HK := as_ (Kept.of_keep (S := (fun k_ => (P1_0_ k_) ∨ k_ = g)) (by repeat (first | (with_reducible first | exact HK.out | apply Kept.alloc | apply Kept.drewN | apply Kept.drew | refine Kept.setCell ?_ (.inl (.inr rfl)) _ | refine Kept.setCell ?_ (.inr GW122.out) _ | refine Kept.setCell ?_ (.inr GW123.out) _ | refine Kept.setCell ?_ (.inr GW127.out) _) | exact HK.out)) hk (.inl (.inr rfl))); replace HB := as_ (hb); replace HI0 := as_ (hi); clear hb hk hi; obtain ⟨hcz72_0, hfz72_0⟩ := tc1_ BK127) | ((with_reducible refine gate_builtin (b := .append) (xs := #[.tmp 29, .tmp 30]) rfl ?_); at_builtin; refine Kd.R_append (Kd.int .i64) (w0 := w0) w0.heap.size rfl (.tmp 29) (.tmp 30) 24 2 (.int .i64 0) 8 rfl Try.underlying24 info2 rfl (by decide) (by omega) (.slice Ao66 t124.length co66) t124 0 [.int .i64 0] (fun k_ => (P1_0_ k_ ∨ w.heap.size ≤ k_) ∧ some k_ ≠ (.slice Ao58 l1_0.length co58 : Value).ownBlock) (fun _ => False) rfl rfl ?aP (fun _ hk => hk.elim) ?aF ?aO ?aB ?aS ?aL ?_; (case aP => exact rfl); (case aB => exact (b4_ HB ⟨IsS77.ge HI0.out⟩ GE122 GE123 GE127)); (case aF => exact (fun k_ hk => ⟨(.inr (Nat.le_trans (by first | exact HK.out.1 | exact (show Kept w _ (fun k_ => (P1_0_ k_) ∨ k_ = g) from by repeat (first | (with_reducible first | exact HK.out | apply Kept.alloc | apply Kept.drewN | apply Kept.drew | refine Kept.setCell ?_ (.inl (.inr rfl)) _ | refine Kept.setCell ?_ (.inr GW122.out) _ | refine Kept.setCell ?_ (.inr GW123.out) _ | refine Kept.setCell ?_ (.inr GW127.out) _) | exact HK.out)).1) hk)), Kd.fresh' (Kd.R_lt (bR_ HO1_0)) k_ hk⟩)); (case aO => exact (mR_ HO126)); (case aS => exact (below_size (b4_ HB ⟨IsS77.ge HI0.out⟩ GE122 GE123 GE127))); (case aL => have := LMc57.out; omega); intro v143 w73 ho hb hg hat; rw [← Ny142.out] at ho; replace HI0 := as_ (IsS77.grown (by repeat (first | (with_reducible first | exact HI0.out | apply IsS77.alloc | apply IsS77.drewN | apply IsS77.drew | apply IsS77.set_1 | apply IsS77.set_2 | refine IsS77.far ?_ NB0_122.out _ | refine IsS77.far ?_ NB0_123.out _ | refine IsS77.far ?_ NB0_127.out _) | exact HI0.out)) hg (IsS77.own_ne HI0.out HO126.out (by decide))); replace HO1_0 := as_ (Kd.R_after (ok := (fun k_ => (P1_0_ k_ ∨ w.heap.size ≤ k_))) (bR_ HO1_0) hg hat); replace BK122 := as_ (blk_grown (bk_ BK122) hg (Kd.R_ne HO126.out BK122.out (by decide))); replace BK123 := as_ (blk_grown (bk_ BK123) hg (Kd.R_ne HO126.out BK123.out (by decide))); replace BK127 := as_ (blk_grown (bk_ BK127) hg (Kd.R_ne HO126.out BK127.out (by decide))); replace HB := as_ (hb); replace HK := as_ (Kept.of_grown (S := (fun k_ => (P1_0_ k_) ∨ k_ = g)) hg (by repeat (first | (with_reducible first | exact HK.out | apply Kept.alloc | apply Kept.drewN | apply Kept.drew | refine Kept.setCell ?_ (.inl (.inr rfl)) _ | refine Kept.setCell ?_ (.inr GW122.out) _ | refine Kept.setCell ?_ (.inr GW123.out) _ | refine Kept.setCell ?_ (.inr GW127.out) _) | exact HK.out)) (fun k_ e_ => Or.imp_left Or.inl ((HO126.out.1 k_ e_).1.1))); have HO144 := as_ (ho); clear HO126; clear ho hb hg hat; obtain ⟨Ao74, co74, eo74⟩ := Kd.R_slice HO144.out; subst eo74; obtain ⟨hcz75_0, hfz75_0⟩ := tc1_ BK127; have hnb76 := NB123_0.out; have hnc76 := NB0_123.out; obtain ⟨hcz77_0, hfz77_0⟩ := tc1_ BK123))
    refine bodyPost_ret (results_cell_row rfl _ _ gb123 26 #[.slice Ao74 y142.length co74] (0, 0) _ rfl (by (with_reducible repeat (first | refine blk_drewN ?_ _ | refine blk_drew ?_ | refine blk_alloc ?_ _)); refine blk_put (cs := #[.slice none 0 0]) ?_ 0 _ rfl; (with_reducible repeat (first | refine blk_drewN ?_ _ | refine blk_drew ?_ | refine blk_alloc ?_ _)); refine blk_far ?_ NB123_127.out _; (with_reducible repeat (first | refine blk_drewN ?_ _ | refine blk_drew ?_ | refine blk_alloc ?_ _)); exact BK123.out) Try.underlying26 rfl (by kernel_rfl)) rfl ?_
    exact ⟨_, re_, fR2_ HO144 BK127 BK123, by repeat (first | (with_reducible first | exact HI0.out | apply IsS77.alloc | apply IsS77.drewN | apply IsS77.drew | apply IsS77.set_1 | apply IsS77.set_2 | refine IsS77.far ?_ NB0_122.out _ | refine IsS77.far ?_ NB0_123.out _ | refine IsS77.far ?_ NB0_127.out _) | exact HI0.out), b4_ HB ⟨IsS77.ge HI0.out⟩ GE122 GE123 GE127, by repeat (first | (with_reducible first | exact HK.out | apply Kept.alloc | apply Kept.drewN | apply Kept.drew | refine Kept.setCell ?_ (.inl (.inr rfl)) _ | refine Kept.setCell ?_ (.inr GW122.out) _ | refine Kept.setCell ?_ (.inr GW123.out) _ | refine Kept.setCell ?_ (.inr GW127.out) _) | exact HK.out)⟩
  rw [if_pos c22] at H
  have c22b0 := beq_iff_eq.mpr c22
  have c22b1 := bne_eq_false_iff_eq.mpr c22
  clear c22
  obtain ⟨t131, A23, H⟩ := bo_ H
  obtain ⟨⟨t132, t133, t134⟩, A24, H⟩ := bo_ H
  dsimp only at H
  obtain ⟨y135, hy135⟩ := ex_ (([(-1), 0, 1, 2, 25] : List Int) : List Int)
  replace H : ((spec_l01Pick.f s0_0 t133 t134 y135).bind fun bt138 => (if 0 ≤ t132 then (if t132 < (t124.length : Int) then (some ((t124.set (t132 : Int).toNat bt138.1), bt138.2.1, bt138.2.2)) else (none)) else (none))) = some (r1, r2, r3) := yr_ hy135 H
  have Ny135 := as_ hy135
  clear hy135
  obtain ⟨⟨t138, t139, t140⟩, A25, H⟩ := bo_ H
  dsimp only at H
  obtain ⟨c26b0, H⟩ := ite_d H
  obtain ⟨c27b0, H⟩ := ite_d H
  obtain ⟨y141, hy141⟩ := ex_ (t124.set (t132 : Int).toNat t138 : List Int)
  replace H : (some (y141, t139, t140)) = some (r1, r2, r3) := yr_ hy141 H
  have Ny141 := as_ hy141
  clear hy141
  simp only [Option.some.injEq, Prod.mk.injEq] at H
  obtain ⟨rfl, rfl, rfl⟩ := H
  obtain ⟨Ao29, co29, eo29⟩ := Kd.R_slice HO1_0.out
  subst eo29
  go_enter Try.func72, Try.ntmps72
  try go_wp2_with (first | ((with_reducible refine gate_dst (N := 3) rfl ?_); refine bx_ 3 #[.slice Ao29 l1_0.length co29] 26 ?_; intro gb122 hg w30 hbox hb; replace HO1_0 := rb_ HO1_0 hb; have BK122 := as_ (hbox); have GW122 := as_ ((by rw [hg]; exact (by first | exact HK.out.1 | exact (show Kept w _ (fun k_ => (P1_0_ k_) ∨ k_ = g) from kq_ HK).1) : w.heap.size ≤ gb122)); replace HK := as_ (Kept.below (S := (fun k_ => (P1_0_ k_) ∨ k_ = g)) (kq_ HK) hb); have GE122 := as_ ((by rw [hg]; exact (below_size (b1_ HB ⟨IsS77.ge HI0.out⟩)) : w0.heap.size ≤ gb122)); replace HB := as_ (below_step (b1_ HB ⟨IsS77.ge HI0.out⟩) hb); have NB0_122 := as_ ((by rw [hg]; exact Nat.ne_of_lt (IsS77.lt (show IsS77 w0 _ g s0_0 s0_1 s0_2 from hi77_ HI0)) : g ≠ gb122)); have NB122_0 := as_ ((by rw [hg]; exact Nat.ne_of_gt (IsS77.lt (show IsS77 w0 _ g s0_0 s0_1 s0_2 from hi77_ HI0)) : gb122 ≠ g)); replace HI0 := as_ (IsS77.below (hi77_ HI0) hb); clear hb hbox hg) | ((with_reducible refine gate_dst (N := 4) rfl ?_); refine bx_ 4 #[.slice none 0 0] 26 ?_; intro gb123 hg w31 hbox hb; replace HO1_0 := rb_ HO1_0 hb; have BK123 := as_ (hbox); have GW123 := as_ ((by rw [hg]; exact (by first | exact HK.out.1 | exact (show Kept w _ (fun k_ => (P1_0_ k_) ∨ k_ = g) from by repeat (first | (with_reducible first | exact HK.out | apply Kept.alloc | apply Kept.drewN | apply Kept.drew | refine Kept.setCell ?_ (.inl (.inr rfl)) _ | refine Kept.setCell ?_ (.inr GW122.out) _) | exact HK.out)).1) : w.heap.size ≤ gb123)); replace HK := as_ (Kept.below (S := (fun k_ => (P1_0_ k_) ∨ k_ = g)) (by repeat (first | (with_reducible first | exact HK.out | apply Kept.alloc | apply Kept.drewN | apply Kept.drew | refine Kept.setCell ?_ (.inl (.inr rfl)) _ | refine Kept.setCell ?_ (.inr GW122.out) _) | exact HK.out)) hb); have GE123 := as_ ((by rw [hg]; exact (below_size (b2_ HB ⟨IsS77.ge HI0.out⟩ GE122)) : w0.heap.size ≤ gb123)); replace HB := as_ (below_step (b2_ HB ⟨IsS77.ge HI0.out⟩ GE122) hb); have NB122_123 := nl_ hg (bk_ BK122); have NB123_122 := ng_ hg (bk_ BK122); replace BK122 := kb_ BK122 hb; have NB0_123 := as_ ((by rw [hg]; exact Nat.ne_of_lt (IsS77.lt (show IsS77 w0 _ g s0_0 s0_1 s0_2 from by repeat (first | (with_reducible first | exact HI0.out | apply IsS77.alloc | apply IsS77.drewN | apply IsS77.drew | apply IsS77.set_1 | apply IsS77.set_2 | refine IsS77.far ?_ NB0_122.out _) | exact HI0.out))) : g ≠ gb123)); have NB123_0 := as_ ((by rw [hg]; exact Nat.ne_of_gt (IsS77.lt (show IsS77 w0 _ g s0_0 s0_1 s0_2 from by repeat (first | (with_reducible first | exact HI0.out | apply IsS77.alloc | apply IsS77.drewN | apply IsS77.drew | apply IsS77.set_1 | apply IsS77.set_2 | refine IsS77.far ?_ NB0_122.out _) | exact HI0.out))) : gb123 ≠ g)); replace HI0 := as_ (IsS77.below (by repeat (first | (with_reducible first | exact HI0.out | apply IsS77.alloc | apply IsS77.drewN | apply IsS77.drew | apply IsS77.set_1 | apply IsS77.set_2 | refine IsS77.far ?_ NB0_122.out _) | exact HI0.out)) hb); clear hb hbox hg; have hnb32 := NB122_123.out; have hnc32 := NB123_122.out; have hnb33 := NB122_0.out; have hnc33 := NB0_122.out; obtain ⟨hcz34_0, hfz34_0⟩ := tc1_ BK122) | ((with_reducible refine gate_callee (f := 82) rfl ?_); refine gL_ 7 Try.func82 #[.agg #[.slice Ao29 l1_0.length co29]] ?_; (with_reducible refine (spec_l01Copy.calls _ _ l1_0 t124 _ ?side1 ?side2 A3.out).mono ?_); (case side1 => exact cC_ (Kd.R_reads' HO1_0.out).2.2); (case side2 => exact (Kd.R_reads' HO1_0.out).2.1); rintro e w35 ⟨v125, rfl, ho0, hb⟩; refine ⟨_, rfl, ?_⟩; have HO126 := as_ (Kd.R_lower (nRR_ (Kd.R_newM (M := fun k_ => (P1_0_ k_ ∨ w.heap.size ≤ k_)) ho0 (by first | exact HK.out.1 | exact (show Kept w _ (fun k_ => (P1_0_ k_) ∨ k_ = g) from by repeat (first | (with_reducible first | exact HK.out | apply Kept.alloc | apply Kept.drewN | apply Kept.drew | refine Kept.setCell ?_ (.inl (.inr rfl)) _ | refine Kept.setCell ?_ (.inr GW122.out) _ | refine Kept.setCell ?_ (.inr GW123.out) _) | exact HK.out)).1) (fun k_ h_ => .inr h_)) HO1_0) (below_size (b3_ HB ⟨IsS77.ge HI0.out⟩ GE122 GE123))); replace HO1_0 := eR_ HO1_0 (Kd.R_base ho0) hb; replace BK122 := kb_ BK122 hb; replace BK123 := kb_ BK123 hb; replace HK := as_ (Kept.below (S := (fun k_ => (P1_0_ k_) ∨ k_ = g)) (by repeat (first | (with_reducible first | exact HK.out | apply Kept.alloc | apply Kept.drewN | apply Kept.drew | refine Kept.setCell ?_ (.inl (.inr rfl)) _ | refine Kept.setCell ?_ (.inr GW122.out) _ | refine Kept.setCell ?_ (.inr GW123.out) _) | exact HK.out)) hb); replace HB := as_ (below_step (b3_ HB ⟨IsS77.ge HI0.out⟩ GE122 GE123) hb); replace HI0 := as_ (IsS77.below (by repeat (first | (with_reducible first | exact HI0.out | apply IsS77.alloc | apply IsS77.drewN | apply IsS77.drew | apply IsS77.set_1 | apply IsS77.set_2 | refine IsS77.far ?_ NB0_122.out _ | refine IsS77.far ?_ NB0_123.out _) | exact HI0.out)) hb); clear hb ho0) | ((with_reducible refine gate_dst (N := 5) rfl ?_); refine bx_ 5 #[.slice none 0 0] 26 ?_; intro gb127 hg w36 hbox hb; replace HO1_0 := rb_ HO1_0 hb; replace HO126 := rb_ HO126 hb; have BK127 := as_ (hbox); have GW127 := as_ ((by rw [hg]; exact (by first | exact HK.out.1 | exact (show Kept w _ (fun k_ => (P1_0_ k_) ∨ k_ = g) from by repeat (first | (with_reducible first | exact HK.out | apply Kept.alloc | apply Kept.drewN | apply Kept.drew | refine Kept.setCell ?_ (.inl (.inr rfl)) _ | refine Kept.setCell ?_ (.inr GW122.out) _ | refine Kept.setCell ?_ (.inr GW123.out) _) | exact HK.out)).1) : w.heap.size ≤ gb127)); replace HK := as_ (Kept.below (S := (fun k_ => (P1_0_ k_) ∨ k_ = g)) (by repeat (first | (with_reducible first | exact HK.out | apply Kept.alloc | apply Kept.drewN | apply Kept.drew | refine Kept.setCell ?_ (.inl (.inr rfl)) _ | refine Kept.setCell ?_ (.inr GW122.out) _ | refine Kept.setCell ?_ (.inr GW123.out) _) | exact HK.out)) hb); have GE127 := as_ ((by rw [hg]; exact (below_size (b3_ HB ⟨IsS77.ge HI0.out⟩ GE122 GE123)) : w0.heap.size ≤ gb127)); replace HB := as_ (below_step (b3_ HB ⟨IsS77.ge HI0.out⟩ GE122 GE123) hb); have NB122_127 := nl_ hg (bk_ BK122); have NB127_122 := ng_ hg (bk_ BK122); replace BK122 := kb_ BK122 hb; have NB123_127 := nl_ hg (bk_ BK123); have NB127_123 := ng_ hg (bk_ BK123); replace BK123 := kb_ BK123 hb; have NB0_127 := as_ ((by rw [hg]; exact Nat.ne_of_lt (IsS77.lt (show IsS77 w0 _ g s0_0 s0_1 s0_2 from by repeat (first | (with_reducible first | exact HI0.out | apply IsS77.alloc | apply IsS77.drewN | apply IsS77.drew | apply IsS77.set_1 | apply IsS77.set_2 | refine IsS77.far ?_ NB0_122.out _ | refine IsS77.far ?_ NB0_123.out _) | exact HI0.out))) : g ≠ gb127)); have NB127_0 := as_ ((by rw [hg]; exact Nat.ne_of_gt (IsS77.lt (show IsS77 w0 _ g s0_0 s0_1 s0_2 from by repeat (first | (with_reducible first | exact HI0.out | apply IsS77.alloc | apply IsS77.drewN | apply IsS77.drew | apply IsS77.set_1 | apply IsS77.set_2 | refine IsS77.far ?_ NB0_122.out _ | refine IsS77.far ?_ NB0_123.out _) | exact HI0.out))) : gb127 ≠ g)); replace HI0 := as_ (IsS77.below (by repeat (first | (with_reducible first | exact HI0.out | apply IsS77.alloc | apply IsS77.drewN | apply IsS77.drew | apply IsS77.set_1 | apply IsS77.set_2 | refine IsS77.far ?_ NB0_122.out _ | refine IsS77.far ?_ NB0_123.out _) | exact HI0.out)) hb); clear hb hbox hg; obtain ⟨Ao37, co37, eo37⟩ := Kd.R_slice HO126.out; subst eo37; have hnb38 := NB127_122.out; have hnc38 := NB122_127.out; have hnb39 := NB127_123.out; have hnc39 := NB123_127.out; have hnb40 := NB127_0.out; have hnc40 := NB0_127.out; obtain ⟨hcz41_0, hfz41_0⟩ := tc1_ BK127) | ((with_reducible refine gate_callee (f := 63) rfl ?_); refine gL_ 9 Try.func63 #[.pointer (some ⟨g, 0, none⟩), .int .i64 50] ?_; (with_reducible refine (spec_l01Next.calls g s0_0 s0_1 s0_2 50 t128 t129 t130 w0 _ ?side1 ?side2 A4.out).mono ?_); (case side1 => repeat (first | (with_reducible first | exact HI0.out | apply IsS77.alloc | apply IsS77.drewN | apply IsS77.drew | apply IsS77.set_1 | apply IsS77.set_2 | refine IsS77.far ?_ NB0_122.out _ | refine IsS77.far ?_ NB0_123.out _ | refine IsS77.far ?_ NB0_127.out _) | exact HI0.out)); (case side2 => repeat (first | (with_reducible first | exact HB.out | apply below_alloc | apply pw_below_drewN | apply below_drew1 | refine below_set ?_ (IsS77.ge HI0.out) | refine below_set ?_ GE122.out | refine below_set ?_ GE123.out | refine below_set ?_ GE127.out) | exact HB.out)); rintro e w42 ⟨rfl, hi, hb, hk⟩; refine ⟨_, rfl, ?_⟩; replace HO1_0 := as_ (Kd.R_mono (Kd.R_keep (IsS77.apart (show IsS77 w0 _ g s0_0 s0_1 s0_2 from by repeat (first | (with_reducible first | exact HI0.out | apply IsS77.alloc | apply IsS77.drewN | apply IsS77.drew | apply IsS77.set_1 | apply IsS77.set_2 | refine IsS77.far ?_ NB0_122.out _ | refine IsS77.far ?_ NB0_123.out _ | refine IsS77.far ?_ NB0_127.out _) | exact HI0.out)) (iR1_ HO1_0 BK127) (by decide)) hk (fun _ h => h.2)) (fun _ h => h.1)); replace BK122 := as_ (KeepBut.blk hk (g' := gb122) (o := .cells #[.slice Ao29 l1_0.length co29] 26 (0, 0)) (bf_ BK122 NB122_127) NB122_0.out (by simp)); replace BK123 := as_ (KeepBut.blk hk (g' := gb123) (o := .cells #[.slice none 0 0] 26 (0, 0)) (bf_ BK123 NB123_127) NB123_0.out (by simp)); replace HO126 := as_ (Kd.R_mono (Kd.R_keep (IsS77.apart (show IsS77 w0 _ g s0_0 s0_1 s0_2 from by repeat (first | (with_reducible first | exact HI0.out | apply IsS77.alloc | apply IsS77.drewN | apply IsS77.drew | apply IsS77.set_1 | apply IsS77.set_2 | refine IsS77.far ?_ NB0_122.out _ | refine IsS77.far ?_ NB0_123.out _ | refine IsS77.far ?_ NB0_127.out _) | exact HI0.out)) (iR1_ HO126 BK127) (by decide)) hk (fun _ h => h.2)) (fun _ h => h.1)); replace BK127 := as_ (KeepBut.blk hk (g' := gb127) (o := .cells #[.slice Ao37 t124.length co37] 26 (0, 0)) (bp_ BK127) NB127_0.out (by simp)); replace HK := as_ (Kept.of_keep (S := (fun k_ => (P1_0_ k_) ∨ k_ = g)) (by repeat (first | (with_reducible first | exact HK.out | apply Kept.alloc | apply Kept.drewN | apply Kept.drew | refine Kept.setCell ?_ (.inl (.inr rfl)) _ | refine Kept.setCell ?_ (.inr GW122.out) _ | refine Kept.setCell ?_ (.inr GW123.out) _ | refine Kept.setCell ?_ (.inr GW127.out) _) | exact HK.out)) hk (.inl (.inr rfl))); replace HB := as_ (hb); replace HI0 := as_ (hi); clear hb hk hi))
  have n0_ := dR_ HO1_0; have n1_ := dR_ HO126; have n2_ := dk_ BK122; have n3_ := dk_ BK123; have n4_ := dk_ BK127; have n5_ := as_ (IsS77.drew HI0.out); have n6_ := as_ (Kept.drew HK.out); have n7_ := db_ HB; clear HO1_0 HO126; clear BK122 BK123; clear BK127 HI0; clear HK HB; have HO1_0 := n0_; have HO126 := n1_; have BK122 := n2_; have BK123 := n3_; have BK127 := n4_
  have HI0 := n5_
  have HK := n6_
  have HB := n7_
  clear n0_ n1_ n2_ n3_ n4_ n5_ n6_ n7_
  refine start_ (n := 11) (S := fun w' => w'.cell? ⟨gb127, 0, none⟩ = some (.slice Ao37 t124.length co37) ∧ w'.cell? ⟨gb122, 0, none⟩ = some (.slice Ao29 l1_0.length co29)) (ds := [10]) #[false, false, false, false, false, false, false, false, false, false, false] (by kernel_rfl) rfl rfl (tz1_ BK127 (tz_ BK122 0)) (fun hHeld => ?_); refine with_tabW spec_l01Bad.tab6 spec_l01Bad.bits6 (fun HT_ HW_ => ?_)
  generalize w42.drew = w43 at HO1_0 HO126 BK122 BK123 BK127 HI0 HK HB hHeld ⊢
  refine pu_ 0 15 HT_ ?_
  refine pu_ 2 17 HT_ ?_
  refine pu_ 6 21 HT_ ?_
  refine tk_ 1 16 HT_ HW_ hHeld ?_
  refine tk_ 3 18 HT_ HW_ hHeld ?_
  refine join_ (σ := Value) 3 #[true, true, true, true, true, true, true, true, false, false, false] (fun s_ => [(19, .int .i64 t131), (20, .int .i64 t132), (22, s_)]) (fun s_ w' => (w'.cell? ⟨gb127, 0, none⟩ = some (.slice Ao37 t124.length co37) ∧ w'.cell? ⟨gb122, 0, none⟩ = some (.slice Ao29 l1_0.length co29)) ∧ (Kd.R (Kd.int .i64) 2 w' w0.heap.size (fun k_ => (P1_0_ k_ ∨ w.heap.size ≤ k_) ∧ some k_ ≠ (s_ : Value).ownBlock ∧ some k_ ≠ (.slice Ao29 l1_0.length co29 : Value).ownBlock) (.slice Ao37 t124.length co37) t124) ∧ (Kd.R (Kd.int .i64) 2 w' w0.heap.size (fun k_ => (P1_0_ k_ ∨ w.heap.size ≤ k_) ∧ some k_ ≠ (.slice Ao37 t124.length co37 : Value).ownBlock ∧ some k_ ≠ (.slice Ao29 l1_0.length co29 : Value).ownBlock) s_ y135) ∧ (Kd.R (Kd.int .i64) 2 w' w0.heap.size (fun k_ => (P1_0_ k_ ∨ w.heap.size ≤ k_) ∧ some k_ ≠ (.slice Ao37 t124.length co37 : Value).ownBlock ∧ some k_ ≠ (s_ : Value).ownBlock) (.slice Ao29 l1_0.length co29) l1_0) ∧ (w'.heap[gb122]? = some (.cells #[.slice Ao29 l1_0.length co29] 26 (0, 0))) ∧ (w'.heap[gb123]? = some (.cells #[.slice none 0 0] 26 (0, 0))) ∧ (w'.heap[gb127]? = some (.cells #[.slice Ao37 t124.length co37] 26 (0, 0))) ∧ (IsS77 w0 w' g s0_0 t133 t134) ∧ (Kept w w' (fun k_ => (P1_0_ k_) ∨ k_ = g)) ∧ (Below w0.heap.size w0 w')) ?_ ?_
  rotate_left
  · intro hCont
    refine tw_ 4 7 (some 19) (some 22) HT_ (fun K hK => ?_) (fun K hK => ?_)
    · skip
      refine gR_ Try.func76 #[.agg #[.slice Ao29 l1_0.length co29]] ?_
      with_reducible refine (spec_l01N.calls _ _ l1_0 t131 _ ?side1 ?side2 A23.out).mono ?_
      (case side1 => exact cC_ (Kd.R_reads' HO1_0.out).2.2)
      (case side2 => exact (Kd.R_reads' HO1_0.out).2.1)
      rintro e w44 ⟨rfl, hb⟩
      refine ⟨_, rfl, ?_⟩
      have n0_ := rb_ HO1_0 hb; have n1_ := rb_ HO126 hb; have n2_ := as_ (IsS77.below (by repeat (first | (with_reducible first | exact HI0.out | apply IsS77.alloc | apply IsS77.drewN | apply IsS77.drew | apply IsS77.set_1 | apply IsS77.set_2 | refine IsS77.far ?_ NB0_122.out _ | refine IsS77.far ?_ NB0_123.out _ | refine IsS77.far ?_ NB0_127.out _) | exact HI0.out)) hb); have n3_ := kb_ BK122 hb; have n4_ := kb_ BK123 hb; have n5_ := kb_ BK127 hb; have n6_ := as_ (Kept.below (S := (fun k_ => (P1_0_ k_) ∨ k_ = g)) (by repeat (first | (with_reducible first | exact HK.out | apply Kept.alloc | apply Kept.drewN | apply Kept.drew | refine Kept.setCell ?_ (.inl (.inr rfl)) _ | refine Kept.setCell ?_ (.inr GW122.out) _ | refine Kept.setCell ?_ (.inr GW123.out) _ | refine Kept.setCell ?_ (.inr GW127.out) _) | exact HK.out)) hb); have n7_ := as_ (below_step (b4_ HB ⟨IsS77.ge HI0.out⟩ GE122 GE123 GE127) hb); clear HO1_0 HO126; clear HI0 BK122; clear BK123 BK127; clear HK HB; have HO1_0 := n0_; have HO126 := n1_
      have HI0 := n2_
      have BK122 := n3_
      have BK123 := n4_
      have BK127 := n5_
      have HK := n6_
      have HB := n7_
      clear n0_ n1_ n2_ n3_ n4_ n5_ n6_ n7_
      clear hb
      refine hK.out _ _ (tz1_ BK127 (tz_ BK122 0)) (fun hHeld => ?_)
      clear hK K
      refine nm_ 19 ?_
      refine tw_ 5 7 (some 20) (some 22) HT_ (fun K hK => ?_) (fun K hK => ?_)
      · skip
        refine gR_ Try.func63 #[.pointer (some ⟨g, 0, none⟩), .int .i64 t131] ?_
        with_reducible refine (spec_l01Next.calls g s0_0 t129 t130 t131 t132 t133 t134 w0 _ ?side1 ?side2 A24.out).mono ?_
        (case side1 => repeat (first | (with_reducible first | exact HI0.out | apply IsS77.alloc | apply IsS77.drewN | apply IsS77.drew | apply IsS77.set_1 | apply IsS77.set_2 | refine IsS77.far ?_ NB0_122.out _ | refine IsS77.far ?_ NB0_123.out _ | refine IsS77.far ?_ NB0_127.out _) | exact HI0.out))
        (case side2 => repeat (first | (with_reducible first | exact HB.out | apply below_alloc | apply pw_below_drewN | apply below_drew1 | refine below_set ?_ (IsS77.ge HI0.out) | refine below_set ?_ GE122.out | refine below_set ?_ GE123.out | refine below_set ?_ GE127.out) | exact HB.out))
        rintro e w45 ⟨rfl, hi, hb, hk⟩
        refine ⟨_, rfl, ?_⟩
        have n0_ := as_ (Kd.R_mono (Kd.R_keep (IsS77.apart (show IsS77 w0 _ g s0_0 t129 t130 from by repeat (first | (with_reducible first | exact HI0.out | apply IsS77.alloc | apply IsS77.drewN | apply IsS77.drew | apply IsS77.set_1 | apply IsS77.set_2 | refine IsS77.far ?_ NB0_122.out _ | refine IsS77.far ?_ NB0_123.out _ | refine IsS77.far ?_ NB0_127.out _) | exact HI0.out)) (bR_ HO1_0) (by decide)) hk (fun _ h => h.2)) (fun _ h => h.1)); have n1_ := as_ (KeepBut.blk hk (g' := gb122) (o := .cells #[.slice Ao29 l1_0.length co29] 26 (0, 0)) (bk_ BK122) NB122_0.out (by simp)); have n2_ := as_ (KeepBut.blk hk (g' := gb123) (o := .cells #[.slice none 0 0] 26 (0, 0)) (bk_ BK123) NB123_0.out (by simp)); have n3_ := as_ (Kd.R_mono (Kd.R_keep (IsS77.apart (show IsS77 w0 _ g s0_0 t129 t130 from by repeat (first | (with_reducible first | exact HI0.out | apply IsS77.alloc | apply IsS77.drewN | apply IsS77.drew | apply IsS77.set_1 | apply IsS77.set_2 | refine IsS77.far ?_ NB0_122.out _ | refine IsS77.far ?_ NB0_123.out _ | refine IsS77.far ?_ NB0_127.out _) | exact HI0.out)) (bR_ HO126) (by decide)) hk (fun _ h => h.2)) (fun _ h => h.1)); have n4_ := as_ (KeepBut.blk hk (g' := gb127) (o := .cells #[.slice Ao37 t124.length co37] 26 (0, 0)) (bk_ BK127) NB127_0.out (by simp)); have n5_ := as_ (Kept.of_keep (S := (fun k_ => (P1_0_ k_) ∨ k_ = g)) (by repeat (first | (with_reducible first | exact HK.out | apply Kept.alloc | apply Kept.drewN | apply Kept.drew | refine Kept.setCell ?_ (.inl (.inr rfl)) _ | refine Kept.setCell ?_ (.inr GW122.out) _ | refine Kept.setCell ?_ (.inr GW123.out) _ | refine Kept.setCell ?_ (.inr GW127.out) _) | exact HK.out)) hk (.inl (.inr rfl))); have n6_ := as_ (hb); have n7_ := as_ (hi); clear HO1_0 BK122; clear BK123 HO126; clear BK127 HK; clear HB HI0; have HO1_0 := n0_; have BK122 := n1_; have BK123 := n2_; have HO126 := n3_; have BK127 := n4_; have HK := n5_; have HB := n6_
        have HI0 := n7_
        clear n0_ n1_ n2_ n3_ n4_ n5_ n6_ n7_
        clear hb hk hi
        refine hK.out _ _ (tz1_ BK127 (tz_ BK122 0)) (fun hHeld => ?_)
        clear hK K
        refine nm_ 20 ?_
        refine on_ 7 (some 22) HT_ fun K hK => ?_
        refine Kd.R_lit_step (Kd.int .i64) _ 2 ?hg (N := 22) ?hd (xs := ([(-1), 0, 1, 2, 25] : List Int)) (inner := [.int .i64 (-1), .int .i64 0, .int .i64 1, .int .i64 2, .int .i64 25]) (ok := fun _ => True) (okp := fun _ => True) ?hr ?hp (fun _ hk => hk) trivial (Below.refl _ _) (Nat.le_refl _) (by simp) ?_; (case hd => rfl); (case hg => rfl); (case hr => first | (go_simp; done) | (go_simp; rfl)); (case hp => exact (Reps.one (show Kd.M (Kd.int .i64) _ _ _ (-1) [.int .i64 (-1)] from rfl) (Reps.one (show Kd.M (Kd.int .i64) _ _ _ 0 [.int .i64 0] from rfl) (Reps.one (show Kd.M (Kd.int .i64) _ _ _ 1 [.int .i64 1] from rfl) (Reps.one (show Kd.M (Kd.int .i64) _ _ _ 2 [.int .i64 2] from rfl) (Reps.one (show Kd.M (Kd.int .i64) _ _ _ 25 [.int .i64 25] from rfl) (Reps.none _ _)))))))
        intro v136 w46 ho47 hb hg_ hnew_
        clear hg_ hnew_
        (first | rw [← Ny135.out] at ho47 | (simp only [Int.reduceToNat] at ho47; rw [← Ny135.out] at ho47))
        have n0_ := eR_ HO1_0 (Kd.R_base ho47) hb; have n1_ := eR_ HO126 (Kd.R_base ho47) hb; have n2_ := as_ (Kd.R_lower (nRR_ (nRR_ (Kd.R_newM (M := fun k_ => (P1_0_ k_ ∨ w.heap.size ≤ k_)) ho47 (by first | exact HK.out.1 | exact (show Kept w _ (fun k_ => (P1_0_ k_) ∨ k_ = g) from by repeat (first | (with_reducible first | exact HK.out | apply Kept.alloc | apply Kept.drewN | apply Kept.drew | refine Kept.setCell ?_ (.inl (.inr rfl)) _ | refine Kept.setCell ?_ (.inr GW122.out) _ | refine Kept.setCell ?_ (.inr GW123.out) _ | refine Kept.setCell ?_ (.inr GW127.out) _) | exact HK.out)).1) (fun k_ h_ => .inr h_)) HO1_0) HO126) (below_size (b4_ HB ⟨IsS77.ge HI0.out⟩ GE122 GE123 GE127))); have n3_ := as_ (IsS77.below (by repeat (first | (with_reducible first | exact HI0.out | apply IsS77.alloc | apply IsS77.drewN | apply IsS77.drew | apply IsS77.set_1 | apply IsS77.set_2 | refine IsS77.far ?_ NB0_122.out _ | refine IsS77.far ?_ NB0_123.out _ | refine IsS77.far ?_ NB0_127.out _) | exact HI0.out)) hb); have n4_ := kb_ BK122 hb; have n5_ := kb_ BK123 hb; have n6_ := kb_ BK127 hb; have n7_ := as_ (Kept.below (S := (fun k_ => (P1_0_ k_) ∨ k_ = g)) (by repeat (first | (with_reducible first | exact HK.out | apply Kept.alloc | apply Kept.drewN | apply Kept.drew | refine Kept.setCell ?_ (.inl (.inr rfl)) _ | refine Kept.setCell ?_ (.inr GW122.out) _ | refine Kept.setCell ?_ (.inr GW123.out) _ | refine Kept.setCell ?_ (.inr GW127.out) _) | exact HK.out)) hb); have n8_ := as_ (below_step (b4_ HB ⟨IsS77.ge HI0.out⟩ GE122 GE123 GE127) hb); clear HO1_0 HO126; clear HI0 BK122; clear BK123 BK127; clear HK HB; have HO1_0 := n0_; have HO126 := n1_; have HO137 := n2_
        have HI0 := n3_
        have BK122 := n4_
        have BK123 := n5_
        have BK127 := n6_
        have HK := n7_
        have HB := n8_
        clear n0_ n1_ n2_ n3_ n4_ n5_ n6_ n7_ n8_
        clear hb ho47
        refine hK.out _ _ (tz1_ BK127 (tz_ BK122 0)) (fun hHeld => ?_)
        clear hK K
        refine nm_ 22 ?_
        exact norm_ (by simp only [putAll, Act.put, List.setIfInBounds_toArray, List.set_cons_zero, List.set_cons_succ]) (hCont (v136) _ ⟨hHeld, (mR_ HO126), (mR_ HO137), (mR_ HO1_0), (bk_ BK122), (bk_ BK123), (bk_ BK127), (by repeat (first | (with_reducible first | exact HI0.out | apply IsS77.alloc | apply IsS77.drewN | apply IsS77.drew | apply IsS77.set_1 | apply IsS77.set_2 | refine IsS77.far ?_ NB0_122.out _ | refine IsS77.far ?_ NB0_123.out _ | refine IsS77.far ?_ NB0_127.out _) | exact HI0.out)), (by repeat (first | (with_reducible first | exact HK.out | apply Kept.alloc | apply Kept.drewN | apply Kept.drew | refine Kept.setCell ?_ (.inl (.inr rfl)) _ | refine Kept.setCell ?_ (.inr GW122.out) _ | refine Kept.setCell ?_ (.inr GW123.out) _ | refine Kept.setCell ?_ (.inr GW127.out) _) | exact HK.out)), (b4_ HB ⟨IsS77.ge HI0.out⟩ GE122 GE123 GE127)⟩)
      · skip
        refine Kd.R_lit_step (Kd.int .i64) _ 2 ?hg (N := 22) ?hd (xs := ([(-1), 0, 1, 2, 25] : List Int)) (inner := [.int .i64 (-1), .int .i64 0, .int .i64 1, .int .i64 2, .int .i64 25]) (ok := fun _ => True) (okp := fun _ => True) ?hr ?hp (fun _ hk => hk) trivial (Below.refl _ _) (Nat.le_refl _) (by simp) ?_; (case hd => rfl); (case hg => rfl); (case hr => first | (go_simp; done) | (go_simp; rfl)); (case hp => exact (Reps.one (show Kd.M (Kd.int .i64) _ _ _ (-1) [.int .i64 (-1)] from rfl) (Reps.one (show Kd.M (Kd.int .i64) _ _ _ 0 [.int .i64 0] from rfl) (Reps.one (show Kd.M (Kd.int .i64) _ _ _ 1 [.int .i64 1] from rfl) (Reps.one (show Kd.M (Kd.int .i64) _ _ _ 2 [.int .i64 2] from rfl) (Reps.one (show Kd.M (Kd.int .i64) _ _ _ 25 [.int .i64 25] from rfl) (Reps.none _ _)))))))
        intro v136 w45 ho46 hb hg_ hnew_
        clear hg_ hnew_
        (first | rw [← Ny135.out] at ho46 | (simp only [Int.reduceToNat] at ho46; rw [← Ny135.out] at ho46))
        have n0_ := eR_ HO1_0 (Kd.R_base ho46) hb; have n1_ := eR_ HO126 (Kd.R_base ho46) hb; have n2_ := as_ (Kd.R_lower (nRR_ (nRR_ (Kd.R_newM (M := fun k_ => (P1_0_ k_ ∨ w.heap.size ≤ k_)) ho46 (by first | exact HK.out.1 | exact (show Kept w _ (fun k_ => (P1_0_ k_) ∨ k_ = g) from by repeat (first | (with_reducible first | exact HK.out | apply Kept.alloc | apply Kept.drewN | apply Kept.drew | refine Kept.setCell ?_ (.inl (.inr rfl)) _ | refine Kept.setCell ?_ (.inr GW122.out) _ | refine Kept.setCell ?_ (.inr GW123.out) _ | refine Kept.setCell ?_ (.inr GW127.out) _) | exact HK.out)).1) (fun k_ h_ => .inr h_)) HO1_0) HO126) (below_size (b4_ HB ⟨IsS77.ge HI0.out⟩ GE122 GE123 GE127))); have n3_ := as_ (IsS77.below (by repeat (first | (with_reducible first | exact HI0.out | apply IsS77.alloc | apply IsS77.drewN | apply IsS77.drew | apply IsS77.set_1 | apply IsS77.set_2 | refine IsS77.far ?_ NB0_122.out _ | refine IsS77.far ?_ NB0_123.out _ | refine IsS77.far ?_ NB0_127.out _) | exact HI0.out)) hb); have n4_ := kb_ BK122 hb; have n5_ := kb_ BK123 hb; have n6_ := kb_ BK127 hb; have n7_ := as_ (Kept.below (S := (fun k_ => (P1_0_ k_) ∨ k_ = g)) (by repeat (first | (with_reducible first | exact HK.out | apply Kept.alloc | apply Kept.drewN | apply Kept.drew | refine Kept.setCell ?_ (.inl (.inr rfl)) _ | refine Kept.setCell ?_ (.inr GW122.out) _ | refine Kept.setCell ?_ (.inr GW123.out) _ | refine Kept.setCell ?_ (.inr GW127.out) _) | exact HK.out)) hb); have n8_ := as_ (below_step (b4_ HB ⟨IsS77.ge HI0.out⟩ GE122 GE123 GE127) hb); clear HO1_0 HO126; clear HI0 BK122; clear BK123 BK127; clear HK HB; have HO1_0 := n0_; have HO126 := n1_; have HO137 := n2_
        have HI0 := n3_
        have BK122 := n4_
        have BK123 := n5_
        have BK127 := n6_
        have HK := n7_
        have HB := n8_
        clear n0_ n1_ n2_ n3_ n4_ n5_ n6_ n7_ n8_
        clear hb ho46
        refine hK.out _ _ (tz1_ BK127 (tz_ BK122 0)) (fun hHeld => ?_)
        clear hK K
        refine nm_ 22 ?_
        refine on_ 5 (some 20) HT_ fun K hK => ?_
        refine gR_ Try.func63 #[.pointer (some ⟨g, 0, none⟩), .int .i64 t131] ?_
        with_reducible refine (spec_l01Next.calls g s0_0 t129 t130 t131 t132 t133 t134 w0 _ ?side1 ?side2 A24.out).mono ?_
        (case side1 => repeat (first | (with_reducible first | exact HI0.out | apply IsS77.alloc | apply IsS77.drewN | apply IsS77.drew | apply IsS77.set_1 | apply IsS77.set_2 | refine IsS77.far ?_ NB0_122.out _ | refine IsS77.far ?_ NB0_123.out _ | refine IsS77.far ?_ NB0_127.out _) | exact HI0.out))
        (case side2 => repeat (first | (with_reducible first | exact HB.out | apply below_alloc | apply pw_below_drewN | apply below_drew1 | refine below_set ?_ (IsS77.ge HI0.out) | refine below_set ?_ GE122.out | refine below_set ?_ GE123.out | refine below_set ?_ GE127.out) | exact HB.out))
        rintro e w47 ⟨rfl, hi, hb, hk⟩
        refine ⟨_, rfl, ?_⟩
        have n0_ := as_ (Kd.R_mono (Kd.R_keep (IsS77.apart (show IsS77 w0 _ g s0_0 t129 t130 from by repeat (first | (with_reducible first | exact HI0.out | apply IsS77.alloc | apply IsS77.drewN | apply IsS77.drew | apply IsS77.set_1 | apply IsS77.set_2 | refine IsS77.far ?_ NB0_122.out _ | refine IsS77.far ?_ NB0_123.out _ | refine IsS77.far ?_ NB0_127.out _) | exact HI0.out)) (bR_ HO1_0) (by decide)) hk (fun _ h => h.2)) (fun _ h => h.1)); have n1_ := as_ (KeepBut.blk hk (g' := gb122) (o := .cells #[.slice Ao29 l1_0.length co29] 26 (0, 0)) (bk_ BK122) NB122_0.out (by simp)); have n2_ := as_ (KeepBut.blk hk (g' := gb123) (o := .cells #[.slice none 0 0] 26 (0, 0)) (bk_ BK123) NB123_0.out (by simp)); have n3_ := as_ (Kd.R_mono (Kd.R_keep (IsS77.apart (show IsS77 w0 _ g s0_0 t129 t130 from by repeat (first | (with_reducible first | exact HI0.out | apply IsS77.alloc | apply IsS77.drewN | apply IsS77.drew | apply IsS77.set_1 | apply IsS77.set_2 | refine IsS77.far ?_ NB0_122.out _ | refine IsS77.far ?_ NB0_123.out _ | refine IsS77.far ?_ NB0_127.out _) | exact HI0.out)) (bR_ HO126) (by decide)) hk (fun _ h => h.2)) (fun _ h => h.1)); have n4_ := as_ (KeepBut.blk hk (g' := gb127) (o := .cells #[.slice Ao37 t124.length co37] 26 (0, 0)) (bk_ BK127) NB127_0.out (by simp)); have n5_ := as_ (Kd.R_mono (Kd.R_keep (IsS77.apart (show IsS77 w0 _ g s0_0 t129 t130 from by repeat (first | (with_reducible first | exact HI0.out | apply IsS77.alloc | apply IsS77.drewN | apply IsS77.drew | apply IsS77.set_1 | apply IsS77.set_2 | refine IsS77.far ?_ NB0_122.out _ | refine IsS77.far ?_ NB0_123.out _ | refine IsS77.far ?_ NB0_127.out _) | exact HI0.out)) (bR_ HO137) (by decide)) hk (fun _ h => h.2)) (fun _ h => h.1)); have n6_ := as_ (Kept.of_keep (S := (fun k_ => (P1_0_ k_) ∨ k_ = g)) (by repeat (first | (with_reducible first | exact HK.out | apply Kept.alloc | apply Kept.drewN | apply Kept.drew | refine Kept.setCell ?_ (.inl (.inr rfl)) _ | refine Kept.setCell ?_ (.inr GW122.out) _ | refine Kept.setCell ?_ (.inr GW123.out) _ | refine Kept.setCell ?_ (.inr GW127.out) _) | exact HK.out)) hk (.inl (.inr rfl))); have n7_ := as_ (hb); have n8_ := as_ (hi); clear HO1_0 BK122; clear BK123 HO126; clear BK127 HO137; clear HK HB; clear HI0; have HO1_0 := n0_; have BK122 := n1_; have BK123 := n2_; have HO126 := n3_; have BK127 := n4_; have HO137 := n5_; have HK := n6_; have HB := n7_
        have HI0 := n8_
        clear n0_ n1_ n2_ n3_ n4_ n5_ n6_ n7_ n8_
        clear hb hk hi
        refine hK.out _ _ (tz1_ BK127 (tz_ BK122 0)) (fun hHeld => ?_)
        clear hK K
        refine nm_ 20 ?_
        exact norm_ (by simp only [putAll, Act.put, List.setIfInBounds_toArray, List.set_cons_zero, List.set_cons_succ]) (hCont (v136) _ ⟨hHeld, (mR_ HO126), (mR_ HO137), (mR_ HO1_0), (bk_ BK122), (bk_ BK123), (bk_ BK127), (by repeat (first | (with_reducible first | exact HI0.out | apply IsS77.alloc | apply IsS77.drewN | apply IsS77.drew | apply IsS77.set_1 | apply IsS77.set_2 | refine IsS77.far ?_ NB0_122.out _ | refine IsS77.far ?_ NB0_123.out _ | refine IsS77.far ?_ NB0_127.out _) | exact HI0.out)), (by repeat (first | (with_reducible first | exact HK.out | apply Kept.alloc | apply Kept.drewN | apply Kept.drew | refine Kept.setCell ?_ (.inl (.inr rfl)) _ | refine Kept.setCell ?_ (.inr GW122.out) _ | refine Kept.setCell ?_ (.inr GW123.out) _ | refine Kept.setCell ?_ (.inr GW127.out) _) | exact HK.out)), (b4_ HB ⟨IsS77.ge HI0.out⟩ GE122 GE123 GE127)⟩)
    · skip
      refine Kd.R_lit_step (Kd.int .i64) _ 2 ?hg (N := 22) ?hd (xs := ([(-1), 0, 1, 2, 25] : List Int)) (inner := [.int .i64 (-1), .int .i64 0, .int .i64 1, .int .i64 2, .int .i64 25]) (ok := fun _ => True) (okp := fun _ => True) ?hr ?hp (fun _ hk => hk) trivial (Below.refl _ _) (Nat.le_refl _) (by simp) ?_; (case hd => rfl); (case hg => rfl); (case hr => first | (go_simp; done) | (go_simp; rfl)); (case hp => exact (Reps.one (show Kd.M (Kd.int .i64) _ _ _ (-1) [.int .i64 (-1)] from rfl) (Reps.one (show Kd.M (Kd.int .i64) _ _ _ 0 [.int .i64 0] from rfl) (Reps.one (show Kd.M (Kd.int .i64) _ _ _ 1 [.int .i64 1] from rfl) (Reps.one (show Kd.M (Kd.int .i64) _ _ _ 2 [.int .i64 2] from rfl) (Reps.one (show Kd.M (Kd.int .i64) _ _ _ 25 [.int .i64 25] from rfl) (Reps.none _ _)))))))
      intro v136 w44 ho45 hb hg_ hnew_
      clear hg_ hnew_
      (first | rw [← Ny135.out] at ho45 | (simp only [Int.reduceToNat] at ho45; rw [← Ny135.out] at ho45))
      have n0_ := eR_ HO1_0 (Kd.R_base ho45) hb; have n1_ := eR_ HO126 (Kd.R_base ho45) hb; have n2_ := as_ (Kd.R_lower (nRR_ (nRR_ (Kd.R_newM (M := fun k_ => (P1_0_ k_ ∨ w.heap.size ≤ k_)) ho45 (by first | exact HK.out.1 | exact (show Kept w _ (fun k_ => (P1_0_ k_) ∨ k_ = g) from by repeat (first | (with_reducible first | exact HK.out | apply Kept.alloc | apply Kept.drewN | apply Kept.drew | refine Kept.setCell ?_ (.inl (.inr rfl)) _ | refine Kept.setCell ?_ (.inr GW122.out) _ | refine Kept.setCell ?_ (.inr GW123.out) _ | refine Kept.setCell ?_ (.inr GW127.out) _) | exact HK.out)).1) (fun k_ h_ => .inr h_)) HO1_0) HO126) (below_size (b4_ HB ⟨IsS77.ge HI0.out⟩ GE122 GE123 GE127))); have n3_ := as_ (IsS77.below (by repeat (first | (with_reducible first | exact HI0.out | apply IsS77.alloc | apply IsS77.drewN | apply IsS77.drew | apply IsS77.set_1 | apply IsS77.set_2 | refine IsS77.far ?_ NB0_122.out _ | refine IsS77.far ?_ NB0_123.out _ | refine IsS77.far ?_ NB0_127.out _) | exact HI0.out)) hb); have n4_ := kb_ BK122 hb; have n5_ := kb_ BK123 hb; have n6_ := kb_ BK127 hb; have n7_ := as_ (Kept.below (S := (fun k_ => (P1_0_ k_) ∨ k_ = g)) (by repeat (first | (with_reducible first | exact HK.out | apply Kept.alloc | apply Kept.drewN | apply Kept.drew | refine Kept.setCell ?_ (.inl (.inr rfl)) _ | refine Kept.setCell ?_ (.inr GW122.out) _ | refine Kept.setCell ?_ (.inr GW123.out) _ | refine Kept.setCell ?_ (.inr GW127.out) _) | exact HK.out)) hb); have n8_ := as_ (below_step (b4_ HB ⟨IsS77.ge HI0.out⟩ GE122 GE123 GE127) hb); clear HO1_0 HO126; clear HI0 BK122; clear BK123 BK127; clear HK HB; have HO1_0 := n0_; have HO126 := n1_; have HO137 := n2_
      have HI0 := n3_
      have BK122 := n4_
      have BK123 := n5_
      have BK127 := n6_
      have HK := n7_
      have HB := n8_
      clear n0_ n1_ n2_ n3_ n4_ n5_ n6_ n7_ n8_
      clear hb ho45
      refine hK.out _ _ (tz1_ BK127 (tz_ BK122 0)) (fun hHeld => ?_)
      clear hK K
      refine nm_ 22 ?_
      refine on_ 4 (some 19) HT_ fun K hK => ?_
      refine gR_ Try.func76 #[.agg #[.slice Ao29 l1_0.length co29]] ?_
      with_reducible refine (spec_l01N.calls _ _ l1_0 t131 _ ?side1 ?side2 A23.out).mono ?_
      (case side1 => exact cC_ (Kd.R_reads' HO1_0.out).2.2)
      (case side2 => exact (Kd.R_reads' HO1_0.out).2.1)
      rintro e w46 ⟨rfl, hb⟩
      refine ⟨_, rfl, ?_⟩
      have n0_ := rb_ HO1_0 hb; have n1_ := rb_ HO126 hb; have n2_ := rb_ HO137 hb; have n3_ := as_ (IsS77.below (by repeat (first | (with_reducible first | exact HI0.out | apply IsS77.alloc | apply IsS77.drewN | apply IsS77.drew | apply IsS77.set_1 | apply IsS77.set_2 | refine IsS77.far ?_ NB0_122.out _ | refine IsS77.far ?_ NB0_123.out _ | refine IsS77.far ?_ NB0_127.out _) | exact HI0.out)) hb); have n4_ := kb_ BK122 hb; have n5_ := kb_ BK123 hb; have n6_ := kb_ BK127 hb; have n7_ := as_ (Kept.below (S := (fun k_ => (P1_0_ k_) ∨ k_ = g)) (by repeat (first | (with_reducible first | exact HK.out | apply Kept.alloc | apply Kept.drewN | apply Kept.drew | refine Kept.setCell ?_ (.inl (.inr rfl)) _ | refine Kept.setCell ?_ (.inr GW122.out) _ | refine Kept.setCell ?_ (.inr GW123.out) _ | refine Kept.setCell ?_ (.inr GW127.out) _) | exact HK.out)) hb); have n8_ := as_ (below_step (b4_ HB ⟨IsS77.ge HI0.out⟩ GE122 GE123 GE127) hb); clear HO1_0 HO126; clear HO137 HI0; clear BK122 BK123; clear BK127 HK; clear HB; have HO1_0 := n0_; have HO126 := n1_; have HO137 := n2_
      have HI0 := n3_
      have BK122 := n4_
      have BK123 := n5_
      have BK127 := n6_
      have HK := n7_
      have HB := n8_
      clear n0_ n1_ n2_ n3_ n4_ n5_ n6_ n7_ n8_
      clear hb
      refine hK.out _ _ (tz1_ BK127 (tz_ BK122 0)) (fun hHeld => ?_)
      clear hK K
      refine nm_ 19 ?_
      refine on_ 5 (some 20) HT_ fun K hK => ?_
      refine gR_ Try.func63 #[.pointer (some ⟨g, 0, none⟩), .int .i64 t131] ?_
      with_reducible refine (spec_l01Next.calls g s0_0 t129 t130 t131 t132 t133 t134 w0 _ ?side1 ?side2 A24.out).mono ?_
      (case side1 => repeat (first | (with_reducible first | exact HI0.out | apply IsS77.alloc | apply IsS77.drewN | apply IsS77.drew | apply IsS77.set_1 | apply IsS77.set_2 | refine IsS77.far ?_ NB0_122.out _ | refine IsS77.far ?_ NB0_123.out _ | refine IsS77.far ?_ NB0_127.out _) | exact HI0.out))
      (case side2 => repeat (first | (with_reducible first | exact HB.out | apply below_alloc | apply pw_below_drewN | apply below_drew1 | refine below_set ?_ (IsS77.ge HI0.out) | refine below_set ?_ GE122.out | refine below_set ?_ GE123.out | refine below_set ?_ GE127.out) | exact HB.out))
      rintro e w47 ⟨rfl, hi, hb, hk⟩
      refine ⟨_, rfl, ?_⟩
      have n0_ := as_ (Kd.R_mono (Kd.R_keep (IsS77.apart (show IsS77 w0 _ g s0_0 t129 t130 from by repeat (first | (with_reducible first | exact HI0.out | apply IsS77.alloc | apply IsS77.drewN | apply IsS77.drew | apply IsS77.set_1 | apply IsS77.set_2 | refine IsS77.far ?_ NB0_122.out _ | refine IsS77.far ?_ NB0_123.out _ | refine IsS77.far ?_ NB0_127.out _) | exact HI0.out)) (bR_ HO1_0) (by decide)) hk (fun _ h => h.2)) (fun _ h => h.1)); have n1_ := as_ (KeepBut.blk hk (g' := gb122) (o := .cells #[.slice Ao29 l1_0.length co29] 26 (0, 0)) (bk_ BK122) NB122_0.out (by simp)); have n2_ := as_ (KeepBut.blk hk (g' := gb123) (o := .cells #[.slice none 0 0] 26 (0, 0)) (bk_ BK123) NB123_0.out (by simp)); have n3_ := as_ (Kd.R_mono (Kd.R_keep (IsS77.apart (show IsS77 w0 _ g s0_0 t129 t130 from by repeat (first | (with_reducible first | exact HI0.out | apply IsS77.alloc | apply IsS77.drewN | apply IsS77.drew | apply IsS77.set_1 | apply IsS77.set_2 | refine IsS77.far ?_ NB0_122.out _ | refine IsS77.far ?_ NB0_123.out _ | refine IsS77.far ?_ NB0_127.out _) | exact HI0.out)) (bR_ HO126) (by decide)) hk (fun _ h => h.2)) (fun _ h => h.1)); have n4_ := as_ (KeepBut.blk hk (g' := gb127) (o := .cells #[.slice Ao37 t124.length co37] 26 (0, 0)) (bk_ BK127) NB127_0.out (by simp)); have n5_ := as_ (Kd.R_mono (Kd.R_keep (IsS77.apart (show IsS77 w0 _ g s0_0 t129 t130 from by repeat (first | (with_reducible first | exact HI0.out | apply IsS77.alloc | apply IsS77.drewN | apply IsS77.drew | apply IsS77.set_1 | apply IsS77.set_2 | refine IsS77.far ?_ NB0_122.out _ | refine IsS77.far ?_ NB0_123.out _ | refine IsS77.far ?_ NB0_127.out _) | exact HI0.out)) (bR_ HO137) (by decide)) hk (fun _ h => h.2)) (fun _ h => h.1)); have n6_ := as_ (Kept.of_keep (S := (fun k_ => (P1_0_ k_) ∨ k_ = g)) (by repeat (first | (with_reducible first | exact HK.out | apply Kept.alloc | apply Kept.drewN | apply Kept.drew | refine Kept.setCell ?_ (.inl (.inr rfl)) _ | refine Kept.setCell ?_ (.inr GW122.out) _ | refine Kept.setCell ?_ (.inr GW123.out) _ | refine Kept.setCell ?_ (.inr GW127.out) _) | exact HK.out)) hk (.inl (.inr rfl))); have n7_ := as_ (hb); have n8_ := as_ (hi); clear HO1_0 BK122; clear BK123 HO126; clear BK127 HO137; clear HK HB; clear HI0; have HO1_0 := n0_; have BK122 := n1_; have BK123 := n2_; have HO126 := n3_; have BK127 := n4_; have HO137 := n5_; have HK := n6_; have HB := n7_
      have HI0 := n8_
      clear n0_ n1_ n2_ n3_ n4_ n5_ n6_ n7_ n8_
      clear hb hk hi
      refine hK.out _ _ (tz1_ BK127 (tz_ BK122 0)) (fun hHeld => ?_)
      clear hK K
      refine nm_ 20 ?_
      exact norm_ (by simp only [putAll, Act.put, List.setIfInBounds_toArray, List.set_cons_zero, List.set_cons_succ]) (hCont (v136) _ ⟨hHeld, (mR_ HO126), (mR_ HO137), (mR_ HO1_0), (bk_ BK122), (bk_ BK123), (bk_ BK127), (by repeat (first | (with_reducible first | exact HI0.out | apply IsS77.alloc | apply IsS77.drewN | apply IsS77.drew | apply IsS77.set_1 | apply IsS77.set_2 | refine IsS77.far ?_ NB0_122.out _ | refine IsS77.far ?_ NB0_123.out _ | refine IsS77.far ?_ NB0_127.out _) | exact HI0.out)), (by repeat (first | (with_reducible first | exact HK.out | apply Kept.alloc | apply Kept.drewN | apply Kept.drew | refine Kept.setCell ?_ (.inl (.inr rfl)) _ | refine Kept.setCell ?_ (.inr GW122.out) _ | refine Kept.setCell ?_ (.inr GW123.out) _ | refine Kept.setCell ?_ (.inr GW127.out) _) | exact HK.out)), (b4_ HB ⟨IsS77.ge HI0.out⟩ GE122 GE123 GE127)⟩)
  rintro v136 w48 ⟨hS_, h0_, h1_, h2_, h3_, h4_, h5_, h6_, h7_, h8_⟩
  have n0_ : Aside0 (Kd.R (Kd.int .i64) 2 w48 w0.heap.size (fun k_ => (P1_0_ k_ ∨ w.heap.size ≤ k_) ∧ some k_ ≠ (v136 : Value).ownBlock ∧ some k_ ≠ (.slice Ao29 l1_0.length co29 : Value).ownBlock) (.slice Ao37 t124.length co37) t124) := ⟨h0_⟩; have n1_ : Aside0 (Kd.R (Kd.int .i64) 2 w48 w0.heap.size (fun k_ => (P1_0_ k_ ∨ w.heap.size ≤ k_) ∧ some k_ ≠ (.slice Ao37 t124.length co37 : Value).ownBlock ∧ some k_ ≠ (.slice Ao29 l1_0.length co29 : Value).ownBlock) v136 y135) := ⟨h1_⟩; have n2_ : Aside0 (Kd.R (Kd.int .i64) 2 w48 w0.heap.size (fun k_ => (P1_0_ k_ ∨ w.heap.size ≤ k_) ∧ some k_ ≠ (.slice Ao37 t124.length co37 : Value).ownBlock ∧ some k_ ≠ (v136 : Value).ownBlock) (.slice Ao29 l1_0.length co29) l1_0) := ⟨h2_⟩; have n3_ : Aside0 (w48.heap[gb122]? = some (.cells #[.slice Ao29 l1_0.length co29] 26 (0, 0))) := ⟨h3_⟩; have n4_ : Aside0 (w48.heap[gb123]? = some (.cells #[.slice none 0 0] 26 (0, 0))) := ⟨h4_⟩; have n5_ : Aside0 (w48.heap[gb127]? = some (.cells #[.slice Ao37 t124.length co37] 26 (0, 0))) := ⟨h5_⟩; have n6_ : Aside0 (IsS77 w0 w48 g s0_0 t133 t134) := ⟨h6_⟩; have n7_ : Aside0 (Kept w w48 (fun k_ => (P1_0_ k_) ∨ k_ = g)) := ⟨h7_⟩; have n8_ : Aside0 (Below w0.heap.size w0 w48) := ⟨h8_⟩; clear HO1_0 HO126; clear BK122 BK123; clear BK127 HI0; clear HK HB; clear h0_ h1_ h2_ h3_ h4_ h5_ h6_ h7_ h8_; have HO126 := n0_; have HO137 := n1_; have HO1_0 := n2_; have BK122 := n3_; have BK123 := n4_; have BK127 := n5_
  have HI0 := n6_
  have HK := n7_
  have HB := n8_
  clear n0_ n1_ n2_ n3_ n4_ n5_ n6_ n7_ n8_
  have hHeld : w48.cell? ⟨gb127, 0, none⟩ = some (.slice Ao37 t124.length co37) ∧ w48.cell? ⟨gb122, 0, none⟩ = some (.slice Ao29 l1_0.length co29) := hS_
  obtain ⟨Ao49, co49, eo49⟩ := Kd.R_slice HO137.out
  (first | subst eo49 | (injection eo49 with f1_ f2_ f3_; have f4_ := f1_.symm; have f5_ := f3_.symm; clear f1_ f2_ f3_; subst f4_; subst f5_))
  refine norm_ (a' := ?_) ?_ ?_
  rotate_left
  · simp only [putAll, Act.put, List.setIfInBounds_toArray, List.set_cons_zero, List.set_cons_succ]
    rfl
  refine on_ 8 (some 23) HT_ fun K hK => ?_
  refine gR_ Try.func64 #[.pointer (some ⟨g, 0, none⟩), .slice Ao49 y135.length co49] ?_
  with_reducible refine (spec_l01Pick.calls g s0_0 t133 t134 _ _ y135 t138 t139 t140 w0 _ ?side1 ?side2 ?side3 ?side4 ?side5 A25.out).mono ?_
  (case side1 => repeat (first | (with_reducible first | exact HI0.out | apply IsS77.alloc | apply IsS77.drewN | apply IsS77.drew | apply IsS77.set_1 | apply IsS77.set_2 | refine IsS77.far ?_ NB0_122.out _ | refine IsS77.far ?_ NB0_123.out _ | refine IsS77.far ?_ NB0_127.out _) | exact HI0.out))
  (case side2 => repeat (first | (with_reducible first | exact HB.out | apply below_alloc | apply pw_below_drewN | apply below_drew1 | refine below_set ?_ (IsS77.ge HI0.out) | refine below_set ?_ GE122.out | refine below_set ?_ GE123.out | refine below_set ?_ GE127.out) | exact HB.out))
  (case side3 => exact cC_ (Kd.R_reads' HO137.out).2.2)
  (case side4 => exact (Kd.R_reads' HO137.out).2.1)
  (case side5 => exact far_slice (IsS77.own_ne HI0.out HO137.out (by decide)))
  rintro e w50 ⟨rfl, hi, hb, hk⟩
  refine ⟨_, rfl, ?_⟩
  have n0_ := as_ (Kd.R_mono (Kd.R_keep (IsS77.apart (show IsS77 w0 _ g s0_0 t133 t134 from by repeat (first | (with_reducible first | exact HI0.out | apply IsS77.alloc | apply IsS77.drewN | apply IsS77.drew | apply IsS77.set_1 | apply IsS77.set_2 | refine IsS77.far ?_ NB0_122.out _ | refine IsS77.far ?_ NB0_123.out _ | refine IsS77.far ?_ NB0_127.out _) | exact HI0.out)) (bR_ HO1_0) (by decide)) hk (fun _ h => h.2)) (fun _ h => h.1)); have n1_ := as_ (KeepBut.blk hk (g' := gb122) (o := .cells #[.slice Ao29 l1_0.length co29] 26 (0, 0)) (bk_ BK122) NB122_0.out (by simp)); have n2_ := as_ (KeepBut.blk hk (g' := gb123) (o := .cells #[.slice none 0 0] 26 (0, 0)) (bk_ BK123) NB123_0.out (by simp)); have n3_ := as_ (Kd.R_mono (Kd.R_keep (IsS77.apart (show IsS77 w0 _ g s0_0 t133 t134 from by repeat (first | (with_reducible first | exact HI0.out | apply IsS77.alloc | apply IsS77.drewN | apply IsS77.drew | apply IsS77.set_1 | apply IsS77.set_2 | refine IsS77.far ?_ NB0_122.out _ | refine IsS77.far ?_ NB0_123.out _ | refine IsS77.far ?_ NB0_127.out _) | exact HI0.out)) (bR_ HO126) (by decide)) hk (fun _ h => h.2)) (fun _ h => h.1)); have n4_ := as_ (KeepBut.blk hk (g' := gb127) (o := .cells #[.slice Ao37 t124.length co37] 26 (0, 0)) (bk_ BK127) NB127_0.out (by simp)); have n5_ := as_ (Kd.R_mono (Kd.R_keep (IsS77.apart (show IsS77 w0 _ g s0_0 t133 t134 from by repeat (first | (with_reducible first | exact HI0.out | apply IsS77.alloc | apply IsS77.drewN | apply IsS77.drew | apply IsS77.set_1 | apply IsS77.set_2 | refine IsS77.far ?_ NB0_122.out _ | refine IsS77.far ?_ NB0_123.out _ | refine IsS77.far ?_ NB0_127.out _) | exact HI0.out)) (bR_ HO137) (by decide)) hk (fun _ h => h.2)) (fun _ h => h.1)); have n6_ := as_ (Kept.of_keep (S := (fun k_ => (P1_0_ k_) ∨ k_ = g)) (by repeat (first | (with_reducible first | exact HK.out | apply Kept.alloc | apply Kept.drewN | apply Kept.drew | refine Kept.setCell ?_ (.inl (.inr rfl)) _ | refine Kept.setCell ?_ (.inr GW122.out) _ | refine Kept.setCell ?_ (.inr GW123.out) _ | refine Kept.setCell ?_ (.inr GW127.out) _) | exact HK.out)) hk (.inl (.inr rfl))); have n7_ := as_ (hb); have n8_ := as_ (hi); clear HO1_0 BK122; clear BK123 HO126; clear BK127 HO137; clear HK HB; clear HI0; have HO1_0 := n0_; have BK122 := n1_; have BK123 := n2_; have HO126 := n3_; have BK127 := n4_; have HO137 := n5_; have HK := n6_; have HB := n7_
  have HI0 := n8_
  clear n0_ n1_ n2_ n3_ n4_ n5_ n6_ n7_ n8_
  clear hb hk hi
  have p28 : 0 ≤ (t132 : Int) := od_
  have q28 : (t132 : Int) < ((t124.length : Int) : Int) := od_
  obtain ⟨go28, co28, eo28, gb28, gl28, cl28, HG28⟩ := Kd.R_form HO126.out (by omega)
  (first | cases eo28 | (injection eo28 with ea_ en_ ec_; (first | subst ea_ | (injection ea_ with ea_; subst ea_)); subst ec_; clear en_))
  have GB28 := as_ gb28
  have GG28 := as_ HG28
  clear gb28 gl28 HG28
  have HMgo28 := as_ (show (P1_0_ go28 ∨ w.heap.size ≤ go28) from (HO126.out.1 _ rfl).1)
  obtain ⟨hx28_0, hf28_0⟩ := Kd.R_celln 0 HO126.out (t132 : Int) p28 q28
  replace p28 := eq_true p28
  replace q28 := eq_true q28
  have HN0_go28 := as_ (show g ≠ go28 from by have h_ := IsS77.own_ne HI0.out HO126.out (by decide); intro e_; exact h_ (by rw [e_]; rfl))
  have HP51 := Kd.R_putn HO126.out (t132 : Int) t138
  rw [← Ny141.out] at HP51
  have HQ51 := as_ HP51
  clear HP51
  refine hK.out _ _ (tz1_ BK127 (tz_ BK122 0)) (fun hHeld => ?_)
  clear hK K
  refine nm_ 23 ?_
  refine pu_ 9 24 HT_ ?_
  refine last_ (i := 10) (N := none) #[true, true, true, true, true, true, true, true, true, true, true] rfl rfl (one_of HT_.out (by kernel_rfl)) (by decide) (fun K hK => ?_)
  refine skip_ (w1 := ?_) (by rfl) rfl ?_ ?_
  rotate_left
  · go_simp
    rfl
  refine hK.out _ _ ?_
  clear hK K
  refine dn_ HT_ ?_
  have n0_ : Aside0 (Kd.R (Kd.int .i64) 2 (w50.setCell ⟨go28, (t132 : Int).toNat, none⟩ (.int .i64 t138)) w0.heap.size (fun k_ => (P1_0_ k_ ∨ w.heap.size ≤ k_) ∧ some k_ ≠ (.slice (some ⟨go28, 0, none⟩) t124.length co37 : Value).ownBlock ∧ some k_ ≠ (.slice Ao49 y135.length co49 : Value).ownBlock) (.slice Ao29 l1_0.length co29) l1_0) := ⟨by (with_reducible repeat (first | apply Kd.R_alloc | apply Kd.R_drewN | apply Kd.R_drew)); exact Kd.R_mono (Kd.R_far (p := ⟨go28, (t132 : Int).toNat, none⟩) (Kd.R_mono HO1_0.out (fun k_ hk => (⟨hk, fun e_ => hk.2.1 (by rw [e_]; rfl)⟩ : _ ∧ k_ ≠ go28))) (fun _ hk => hk.2) (.int .i64 t138)) (fun _ hk => ⟨hk.1.1, ⟨hk.1.2.1, hk.1.2.2⟩⟩)⟩; have n1_ : Aside0 (Kd.R (Kd.int .i64) 2 (w50.setCell ⟨go28, (t132 : Int).toNat, none⟩ (.int .i64 t138)) w0.heap.size (fun k_ => (P1_0_ k_ ∨ w.heap.size ≤ k_) ∧ some k_ ≠ (.slice Ao29 l1_0.length co29 : Value).ownBlock ∧ some k_ ≠ (.slice Ao49 y135.length co49 : Value).ownBlock) (.slice (some ⟨go28, 0, none⟩) t124.length co37) y141) := ⟨mR_ HQ51⟩; have n2_ : Aside0 (Kd.R (Kd.int .i64) 2 (w50.setCell ⟨go28, (t132 : Int).toNat, none⟩ (.int .i64 t138)) w0.heap.size (fun k_ => (P1_0_ k_ ∨ w.heap.size ≤ k_) ∧ some k_ ≠ (.slice Ao29 l1_0.length co29 : Value).ownBlock ∧ some k_ ≠ (.slice (some ⟨go28, 0, none⟩) t124.length co37 : Value).ownBlock) (.slice Ao49 y135.length co49) y135) := ⟨by (with_reducible repeat (first | apply Kd.R_alloc | apply Kd.R_drewN | apply Kd.R_drew)); exact Kd.R_mono (Kd.R_far (p := ⟨go28, (t132 : Int).toNat, none⟩) (Kd.R_mono HO137.out (fun k_ hk => (⟨hk, fun e_ => hk.2.1 (by rw [e_]; rfl)⟩ : _ ∧ k_ ≠ go28))) (fun _ hk => hk.2) (.int .i64 t138)) (fun _ hk => ⟨hk.1.1, ⟨hk.1.2.2, hk.1.2.1⟩⟩)⟩; have n3_ : Aside0 ((w50.setCell ⟨go28, (t132 : Int).toNat, none⟩ (.int .i64 t138)).heap[gb122]? = some (.cells #[.slice Ao29 l1_0.length co29] 26 (0, 0))) := ⟨by (with_reducible repeat (first | refine blk_drewN ?_ _ | refine blk_drew ?_ | refine blk_alloc ?_ _)); refine blk_far ?_ (by have h_ := Kd.R_ne HO126.out BK122.out (by decide); intro e_; exact h_ (by rw [e_]; rfl)) _; (with_reducible repeat (first | refine blk_drewN ?_ _ | refine blk_drew ?_ | refine blk_alloc ?_ _)); exact BK122.out⟩; have n4_ : Aside0 ((w50.setCell ⟨go28, (t132 : Int).toNat, none⟩ (.int .i64 t138)).heap[gb123]? = some (.cells #[.slice none 0 0] 26 (0, 0))) := ⟨by (with_reducible repeat (first | refine blk_drewN ?_ _ | refine blk_drew ?_ | refine blk_alloc ?_ _)); refine blk_far ?_ (by have h_ := Kd.R_ne HO126.out BK123.out (by decide); intro e_; exact h_ (by rw [e_]; rfl)) _; (with_reducible repeat (first | refine blk_drewN ?_ _ | refine blk_drew ?_ | refine blk_alloc ?_ _)); exact BK123.out⟩; have n5_ : Aside0 ((w50.setCell ⟨go28, (t132 : Int).toNat, none⟩ (.int .i64 t138)).heap[gb127]? = some (.cells #[.slice (some ⟨go28, 0, none⟩) t124.length co37] 26 (0, 0))) := ⟨by (with_reducible repeat (first | refine blk_drewN ?_ _ | refine blk_drew ?_ | refine blk_alloc ?_ _)); refine blk_far ?_ (by have h_ := Kd.R_ne HO126.out BK127.out (by decide); intro e_; exact h_ (by rw [e_]; rfl)) _; (with_reducible repeat (first | refine blk_drewN ?_ _ | refine blk_drew ?_ | refine blk_alloc ?_ _)); exact BK127.out⟩; have n6_ : Aside0 (IsS77 w0 (w50.setCell ⟨go28, (t132 : Int).toNat, none⟩ (.int .i64 t138)) g s0_0 t139 t140) := ⟨by repeat (first | (with_reducible first | exact HI0.out | apply IsS77.alloc | apply IsS77.drewN | apply IsS77.drew | apply IsS77.set_1 | apply IsS77.set_2 | refine IsS77.far ?_ HN0_go28.out _ | refine IsS77.far ?_ NB0_122.out _ | refine IsS77.far ?_ NB0_123.out _ | refine IsS77.far ?_ NB0_127.out _) | exact HI0.out)⟩; have n7_ : Aside0 (Kept w (w50.setCell ⟨go28, (t132 : Int).toNat, none⟩ (.int .i64 t138)) (fun k_ => (P1_0_ k_) ∨ k_ = g)) := ⟨by repeat (first | (with_reducible first | exact HK.out | apply Kept.alloc | apply Kept.drewN | apply Kept.drew | refine Kept.setCell ?_ (Or.imp_left Or.inl HMgo28.out) _ | refine Kept.setCell ?_ (.inl (.inr rfl)) _ | refine Kept.setCell ?_ (.inr GW122.out) _ | refine Kept.setCell ?_ (.inr GW123.out) _ | refine Kept.setCell ?_ (.inr GW127.out) _) | exact HK.out)⟩; have n8_ : Aside0 (Below w0.heap.size w0 (w50.setCell ⟨go28, (t132 : Int).toNat, none⟩ (.int .i64 t138))) := ⟨b5_ HB GB28 ⟨IsS77.ge HI0.out⟩ GE122 GE123 GE127⟩
  (try clear HO1_0)
  (try clear HO126)
  (try clear HO137)
  (try clear BK122)
  (try clear BK123)
  (try clear BK127)
  (try clear HI0)
  (try clear HK)
  (try clear HB)
  generalize (w50.setCell ⟨go28, (t132 : Int).toNat, none⟩ (.int .i64 t138)) = w52 at n0_ n1_ n2_ n3_ n4_ n5_ n6_ n7_ n8_ ⊢
  have HO1_0 := n0_
  have HO126 := n1_
  have HO137 := n2_
  have BK122 := n3_
  have BK123 := n4_
  have BK127 := n5_
  have HI0 := n6_
  have HK := n7_
  have HB := n8_
  clear n0_ n1_ n2_ n3_ n4_ n5_ n6_ n7_ n8_
  obtain ⟨hcz53_0, hfz53_0⟩ := tc1_ BK127
  have hnb54 := NB123_0.out
  have hnc54 := NB0_123.out
  obtain ⟨hcz55_0, hfz55_0⟩ := tc1_ BK123
  try go_wp2
  refine bodyPost_ret (results_cell_row rfl _ _ gb123 26 #[.slice (some ⟨go28, 0, none⟩) t124.length co37] (0, 0) _ rfl (bp_ BK123) Try.underlying26 rfl (by kernel_rfl)) rfl ?_
  exact ⟨_, re_, fR1_ HO126 BK123, by repeat (first | (with_reducible first | exact HI0.out | apply IsS77.alloc | apply IsS77.drewN | apply IsS77.drew | apply IsS77.set_1 | apply IsS77.set_2 | refine IsS77.far ?_ NB0_122.out _ | refine IsS77.far ?_ NB0_123.out _ | refine IsS77.far ?_ NB0_127.out _) | exact HI0.out), b4_ HB ⟨IsS77.ge HI0.out⟩ GE122 GE123 GE127, by repeat (first | (with_reducible first | exact HK.out | apply Kept.alloc | apply Kept.drewN | apply Kept.drew | refine Kept.setCell ?_ (.inl (.inr rfl)) _ | refine Kept.setCell ?_ (.inr GW122.out) _ | refine Kept.setCell ?_ (.inr GW123.out) _ | refine Kept.setCell ?_ (.inr GW127.out) _) | exact HK.out)⟩

end Go.Proofs.Ythbdbgoeaichcaa.E
