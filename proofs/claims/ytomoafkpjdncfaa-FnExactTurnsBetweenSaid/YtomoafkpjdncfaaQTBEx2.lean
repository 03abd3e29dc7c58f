/- The row of the law FnExactTurnsBetween, out of its pure statement. -/
import Derived.Test.YtomoafkpjdncfaaQTBEx0
import Derived.Test.YtomoafkpjdncfaaQTBEx1
-- Written by wip/ext.py of this claim (contracts by the form of the kit's print; hand-written ones among them).
namespace Go.Proofs.Ytomoafkpjdncfaa.E
open Go.RowKit Go.Proofs.YtomoafkpjdncfaaW.PrintWords Go.Proofs.YtomoafkpjdncfaaW.PrintLast Go.Proofs.YtomoafkpjdncfaaW.PrintMore
attribute [local go_sem] max2_int min2_int max_two min_two max_three min_three max_four min_four   -- for this text's walks alone
set_option linter.unusedVariables false
set_option linter.unusedSimpArgs false

abbrev Far := List (ByteArray × Int)
def farGet : Far → ByteArray → Int
  | [], _ => 0
  | p :: x, s => if p.1 = s then p.2 else farGet x s
def farHas : Far → ByteArray → Bool
  | [], _ => false
  | p :: x, s => if p.1 = s then true else farHas x s
def farPut (x : Far) (s : ByteArray) (v : Int) : Far := (s, v) :: x
def MB (w : World) (g : Nat) (x : Far) : Prop := ∃ D : DataW Unit, w.ownsMap Try.prog 9 (plainElem Try.prog 2) g x.length D ∧ ∀ s : ByteArray, s.size ≤ maxLen → D.atKey (.string s.data.toList) (.lit (.int .i64 0)) = .lit (.int .i64 (farGet x s)) ∧ Maps.has D (.string s.data.toList) = farHas x s
section
variable {w w1 : World} {g : Nat} {x : Far}
theorem mb_map (h : MB w g x) : ∃ es clock, w.heap[g]? = some (.map es clock) := by
  obtain ⟨D, ⟨es, clock, hb, _⟩, _⟩ := h
  exact ⟨es, clock, hb⟩
theorem mb_lt (h : MB w g x) : g < w.heap.size := by
  obtain ⟨es, clock, hb⟩ := mb_map h
  exact blk_lt hb
theorem mb_block (h : MB w g x) (hb : w1.heap[g]? = w.heap[g]?) : MB w1 g x := by
  obtain ⟨D, ⟨es, clock, h1, h2⟩, h3⟩ := h
  exact ⟨D, ⟨es, clock, hb.trans h1, h2⟩, h3⟩
theorem mb_alloc (h : MB w g x) (o : Obj) : MB (w.alloc o) g x := mb_block h (Below.heap_alloc w o g (mb_lt h))
theorem mb_drew (h : MB w g x) : MB w.drew g x := mb_block h rfl
theorem mb_drewN (h : MB w g x) (n : Nat) : MB (w.drewN n) g x := mb_block h rfl
theorem mb_below (h : MB w g x) (hb : Below w.heap.size w w1) : MB w1 g x := mb_block h (hb.block g (mb_lt h))
theorem mb_grown (h : MB w g x) {row : Option Nat} (hg : w.grownBy w1 row) (hne : some g ≠ row) : MB w1 g x := mb_block h (hg.block g (mb_lt h) hne)
variable {α : Type} {d : Kd α} {e base : Nat} {ok : Nat → Prop} {v : Value} {xs : List α}
theorem mb_far (h : d.R e w base ok v xs) (hm : MB w g x) : d.R e w base (fun k => ok k ∧ k ≠ g) v xs :=
  Kd.R_mono (Kd.R_bound h) (fun k hk => ⟨hk.1, by
    obtain ⟨_, _, _, q, _, cells', hc⟩ := hk
    rintro rfl
    obtain ⟨es, clock, hb⟩ := mb_map hm
    rw [hc] at hb
    simp at hb⟩)
theorem mb_ne (h : d.R e w base ok v xs) (hm : MB w g x) : some g ≠ v.ownBlock := fun e_ => ((mb_far h hm).1 g e_.symm).2 rfl
theorem mb_row (h : d.R e w base ok v xs) (hm : MB w g x) (hg : w.grownBy w1 (some g)) : d.R e w1 base ok v xs :=
  Kd.R_mono (Kd.R_grown (mb_far h hm) hg (fun k hk e_ => hk.2 (by injection e_))) (fun k hk => hk.1)
end
theorem far_some {p : Prop} [Decidable p] {α : Type} {x : Option α} {r : α} (h : (if p then x else none) = some r) : p ∧ x = some r := by
  by_cases hp : p
  · rw [if_pos hp] at h; exact ⟨hp, h⟩
  · rw [if_neg hp] at h; cases h
section
variable {ops : Array Oper} {rest : List Oper} {o : Oper} {a : Act} {Q : Exit → Act → World → Prop} {W : World}
theorem mb_make (t : TypeId) (hgd : o.guard = none) (ho : o.op = .makeMap t none) (h : ∀ g, W.heap.size ≤ g → ∀ w1, MB w1 g [] → Below W.heap.size W w1 → wpList Try.prog ops Q rest (a.put o.dst (.map (some g))) w1) : wpList Try.prog ops Q (o :: rest) a W := by
  refine Kd.event_run (w1 := W.alloc (.map #[] 0)) (v := .map (some W.heap.size)) hgd ?_ (h _ (Nat.le_refl _) _ ?_ (below_alloc (Below.refl _ _) _))
  · simp [execOp, ho, run_makeMap]
  · exact ⟨.map [], World.ownsMap_made W _ _ _, fun s _ => ⟨rfl, rfl⟩⟩
theorem mb_look (t : TypeId) (m k : Operand) {g : Nat} {x : Far} {s : ByteArray} (ht : Try.prog.underlying t = some (.map 9 2)) (hgd : o.guard = none) (ho : o.op = .lookup t m k true) (hm : a.eval m = .map (some g)) (hk : a.eval k = .string s) (hB : MB W g x) (hs : s.size ≤ maxLen)
    (h : wpList Try.prog ops Q rest (a.put o.dst (.tuple #[.int .i64 (farGet x s), .bool (farHas x s)])) W) : wpList Try.prog ops Q (o :: rest) a W := by
  obtain ⟨D, h1, h2⟩ := hB
  refine wpList_lookup_own_ok_int W hgd m k t ho 9 2 .i64 (Maps.string_keyed Try.underlying9) ht Try.underlying2 (by rfl) g _ D hm h1 _ _ hk (WideMaps.keyOf_string_mk Try.underlying9 hs) ?_
  intro c hc _
  rw [(h2 s hs).1] at hc
  rw [(h2 s hs).2]
  injection hc with hc
  injection hc with _ hc
  rw [← hc]
  exact h
theorem mb_get (t : TypeId) (m k : Operand) {g : Nat} {x : Far} {s : ByteArray} (ht : Try.prog.underlying t = some (.map 9 2)) (hgd : o.guard = none) (ho : o.op = .lookup t m k false) (hm : a.eval m = .map (some g)) (hk : a.eval k = .string s) (hB : MB W g x) (hs : s.size ≤ maxLen)
    (h : wpList Try.prog ops Q rest (a.put o.dst (.int .i64 (farGet x s))) W) : wpList Try.prog ops Q (o :: rest) a W := by
  obtain ⟨D, h1, h2⟩ := hB
  refine wpList_lookup_own_int W hgd m k t ho 9 2 .i64 (Maps.string_keyed Try.underlying9) ht Try.underlying2 (by rfl) g _ D hm h1 _ _ hk (WideMaps.keyOf_string_mk Try.underlying9 hs) ?_
  intro c hc _
  rw [(h2 s hs).1] at hc
  injection hc with hc
  injection hc with _ hc
  rw [← hc]
  exact h
theorem mb_put_run (t : TypeId) {g : Nat} {x : Far} {s : ByteArray} {c : Int} (ht : Try.prog.underlying t = some (.map 9 2)) (hB : MB W g x) (hs : s.size ≤ maxLen) (hc : (Lit.int .i64 c).wf = true) (hl : x.length < maxLen) :
    ∃ w1, (Instr.mapUpdate t (.map (some g)) (.string s) (.int .i64 c)).run Try.prog W = .ok () w1 ∧ MB w1 g (farPut x s c) ∧ W.grownBy w1 (some g) := by
  obtain ⟨D, h1, h2⟩ := hB
  obtain ⟨w1, r1, r2, r3⟩ := h1.update (Maps.string_keyed Try.underlying9) ht hl (WideMaps.keyOf_string_mk Try.underlying9 hs) (plainElem_int Try.underlying2 hc)
  refine ⟨w1, r1, ⟨_, r2, fun u hu => ?_⟩, r3⟩
  have hM : Maps.IsMap D := h1.isMap
  by_cases hus : s = u
  · subst hus
    have hk : WideAt.IsKeyLit (Lit.string s.data.toList) := trivial
    rw [Maps.atKey_put_same hM hk, Maps.has_put_same hM hk]
    simp [farPut, farGet, farHas]
  · have hne : (Lit.string u.data.toList) ≠ .string s.data.toList := fun e_ => hus (by
      injection e_ with e_
      exact ByteArray.ext (Array.toList_inj.1 e_.symm))
    rw [Maps.atKey_put_other hne, Maps.has_put_other hne]
    simp only [farPut, farGet, farHas, if_neg hus]
    exact h2 u hu
theorem mb_put (t : TypeId) (m k x : Operand) {g : Nat} {F : Far} {s : ByteArray} {c : Int} (ht : Try.prog.underlying t = some (.map 9 2)) (hgd : o.guard = none) (ho : o.op = .mapUpdate t m k x ∨ o.op = .insert t m k x) (hm : a.eval m = .map (some g)) (hk : a.eval k = .string s) (hx : a.eval x = .int .i64 c) (hB : MB W g F) (hs : s.size ≤ maxLen) (hc : (Lit.int .i64 c).wf = true) (hl : F.length < maxLen)
    (h : ∀ w1, MB w1 g (farPut F s c) → W.grownBy w1 (some g) → wpList Try.prog ops Q rest (a.put o.dst undef) w1) : wpList Try.prog ops Q (o :: rest) a W := by
  obtain ⟨w1, r1, r2, r3⟩ := mb_put_run t ht hB hs hc hl
  refine wpList_plain hgd fun K' hK' => ?_
  unfold Oper.wp
  rcases ho with ho | ho
  all_goals
    simp [execOp, ho, hm, hk, hx, r1, Result.andThen]
    exact hK' _ _ (h w1 r2 r3)
end
mutual
def impl_TurnsBetween.l0 : Nat → ByteArray × ByteArray → List ByteArray → Int → Far → Option (Int × Int)
  | 0, _, _, _, _ => none
  | k + 1, x0, x8, x9, x161000 => if x9 < (x8.length : Int) then ((impl_nodesOf.f x0.1).bind fun t164 => (impl_TurnsBetween.l1 k x0 x8 x9 t164 0 x161000)) else (some (farGet x161000 x0.2, 0))
def impl_TurnsBetween.l1 : Nat → ByteArray × ByteArray → List ByteArray → Int → Int → Int → Far → Option (Int × Int)
  | 0, _, _, _, _, _, _ => none
  | k + 1, x0, x8, x9, x38, x39, x161000 => if x39 < x38 then ((some (([true, false] : List Bool) : List Bool)).bind fun y165 => (impl_TurnsBetween.l2 k x0 x8 x9 x39 x38 x39 y165 (y165.length : Int) 0 x161000)) else (impl_TurnsBetween.l0 k x0 x8 (wrap64 (x9 + 1)) x161000)
def impl_TurnsBetween.l2 : Nat → ByteArray × ByteArray → List ByteArray → Int → Int → Int → Int → List Bool → Int → Int → Far → Option (Int × Int)
  | 0, _, _, _, _, _, _, _, _, _, _ => none
  | k + 1, x0, x8, x9, x10, x38, x39, x42, x43, x44, x161000 => if x44 < x43 then (if 0 ≤ x44 then (if x44 < (x42.length : Int) then (if 0 ≤ x9 then (if x9 < (x8.length : Int) then ((impl_rotated.f k (rdOf ByteArray.empty x8 x9) x10 (rdOf false x42 x44)).bind fun bt170 => (if bt170.1.size ≤ maxLen then (if bt170.2 = true then (if farHas x161000 bt170.1 = true then (impl_TurnsBetween.l2 k x0 x8 x9 x10 x38 x39 x42 x43 (wrap64 (x44 + 1)) x161000) else (if (x8.length < 8796093022208 ∧ x161000.length < maxLen ∧ (rdOf ByteArray.empty x8 x9).size ≤ maxLen) then (impl_TurnsBetween.l2 k x0 (x8 ++ [bt170.1]) x9 x10 x38 x39 x42 x43 (wrap64 (x44 + 1)) (farPut x161000 bt170.1 (wrap64 (farGet x161000 (rdOf ByteArray.empty x8 x9) + 1)))) else (none))) else (impl_TurnsBetween.l2 k x0 x8 x9 x10 x38 x39 x42 x43 (wrap64 (x44 + 1)) x161000)) else (none))) else (none)) else (none)) else (none)) else (none)) else (impl_TurnsBetween.l1 k x0 x8 x9 x38 (wrap64 (x39 + 1)) x161000)
end
def impl_TurnsBetween.f (k : Nat) (a0 : ByteArray) (a1 : ByteArray) : Option (Int × Int) := (impl_twoCode.f k a0 a1).bind fun t158 => (if t158 = 0 then ((impl_nodesOf.f a0).bind fun t159 => (if t159 > 7 then (some (0, 3)) else (if a0.size ≤ maxLen ∧ a1.size ≤ maxLen then (impl_TurnsBetween.l0 k (a0, a1) (([a0] : List ByteArray)) 0 (farPut [] a0 0)) else (none)))) else (some (0, t158)))
set_option maxHeartbeats 8000000 in
set_option maxRecDepth 100000 in
theorem impl_TurnsBetween.calls (k : Nat) (a0 : ByteArray) (a1 : ByteArray) (r1 : Int) (r2 : Int) (w : World) (h : impl_TurnsBetween.f k a0 a1 = some (r1, r2)) :
    Calls Try.prog 5 #[.string a0, .string a1] w fun e w' => e = .returned (.tuple #[.int .i64 r1, .int .i64 r2]) ∧ Below w.heap.size w w' := by
  have hu31 := Try.underlying31
  have HB := Aside0.mk (Below.refl w.heap.size w)
  have H : ((impl_twoCode.f k a0 a1).bind fun t158 => (if t158 = 0 then ((impl_nodesOf.f a0).bind fun t159 => (if t159 > 7 then (some (0, 3)) else (if a0.size ≤ maxLen ∧ a1.size ≤ maxLen then (impl_TurnsBetween.l0 k (a0, a1) (([a0] : List ByteArray)) 0 (farPut [] a0 0)) else (none)))) else (some (0, t158)))) = some (r1, r2) := h
  clear h
  replace H := Option.bind_eq_some_iff.mp H
  obtain ⟨t158, A30, H⟩ := H
  replace H : (if t158 = 0 then ((impl_nodesOf.f a0).bind fun t159 => (if t159 > 7 then (some (0, 3)) else (if a0.size ≤ maxLen ∧ a1.size ≤ maxLen then (impl_TurnsBetween.l0 k (a0, a1) (([a0] : List ByteArray)) 0 (farPut [] a0 0)) else (none)))) else (some (0, t158))) = some (r1, r2) := H
  have A3 := Aside0.mk A30
  clear A30
  by_cases c4 : t158 = 0
  · rw [if_pos c4] at H
    have c4b0 : (t158 == 0) = true := beq_iff_eq.mpr c4
    have c4b1 : (t158 != 0) = false := bne_eq_false_iff_eq.mpr c4
    clear c4
    replace H := Option.bind_eq_some_iff.mp H
    obtain ⟨t159, A50, H⟩ := H
    replace H : (if t159 > 7 then (some (0, 3)) else (if a0.size ≤ maxLen ∧ a1.size ≤ maxLen then (impl_TurnsBetween.l0 k (a0, a1) (([a0] : List ByteArray)) 0 (farPut [] a0 0)) else (none))) = some (r1, r2) := H
    have A5 := Aside0.mk A50
    clear A50
    by_cases c6 : t159 > 7
    · rw [if_pos c6] at H
      have c6b0 : decide (7 < t159) = true := decide_eq_true c6
      clear c6
      simp only [Option.some.injEq, Prod.mk.injEq] at H
      obtain ⟨rfl, rfl⟩ := H
      go_enter Try.func5, Try.ntmps5
      go_wp2_with (first | ((with_reducible refine gate_callee (f := 9) rfl ?_); refine goesL_ (some 19) rfl rfl Try.func9 (by kernel_rfl) rfl #[.string a0, .string a1] rfl (by (try simp only [List.map_toArray, List.map_cons, List.map_nil]); first | done | rfl | (simp only [List.length_drop, List.length_take]; rfl)) ?_; (with_reducible refine (impl_twoCode.calls k a0 a1 t158 _ A3.out).mono ?_); rintro e w7 ⟨rfl, hb⟩; refine ⟨_, rfl, ?_⟩; have n0_ := Aside0.mk (below_step (by repeat (first | (with_reducible first | exact HB.out | apply below_alloc | apply pw_below_drewN | apply below_drew1) | exact HB.out)) hb); clear HB; have HB := n0_; clear n0_; (try clear hb); (try clear hb2); (try clear hk); (try clear hi)) | ((with_reducible refine gate_callee (f := 10) rfl ?_); refine goesL_ (some 24) rfl rfl Try.func10 (by kernel_rfl) rfl #[.string a0] rfl (by (try simp only [List.map_toArray, List.map_cons, List.map_nil]); first | done | rfl | (simp only [List.length_drop, List.length_take]; rfl)) ?_; (with_reducible refine (impl_nodesOf.calls a0 t159 _ A5.out).mono ?_); rintro e w' ⟨rfl, ⟨nd, rfl⟩⟩; refine ⟨_, rfl, ?_⟩))
      go_ret2
      exact ⟨by first | rfl | (simp [errW_none, errW_some] <;> rfl) | (simp [*, errW_none, errW_some] <;> rfl), by repeat (first | (with_reducible first | exact HB.out | apply below_alloc | apply pw_below_drewN | apply below_drew1) | exact HB.out)⟩
    · rw [if_neg c6] at H
      have c6b0 : decide (7 < t159) = false := decide_eq_false c6
      clear c6
      obtain ⟨cS0, H⟩ := far_some H
      obtain ⟨y161, hy161⟩ : ∃ y_ : List ByteArray, y_ = (([a0] : List ByteArray)) := ⟨_, rfl⟩
      replace H : (impl_TurnsBetween.l0 k (a0, a1) y161 0 (farPut [] a0 0)) = some (r1, r2) := by first | (rw [hy161]; with_reducible exact H) | (have H2_ := (Option.bind_some _ _).symm.trans H; rw [hy161]; with_reducible exact H2_) | (have H2_ := (Option.bind_some _ _).symm.trans H; with_reducible exact H2_) | with_reducible exact H | (rw [hy161]; exact H) | exact H
      have Ny161 := Aside0.mk hy161
      clear hy161
      have H' := Aside0.mk H
      clear H
      go_enter Try.func5, Try.ntmps5
      go_wp2_with (first | ((with_reducible refine gate_callee (f := 9) rfl ?_); refine goesL_ (some 19) rfl rfl Try.func9 (by kernel_rfl) rfl #[.string a0, .string a1] rfl (by (try simp only [List.map_toArray, List.map_cons, List.map_nil]); first | done | rfl | (simp only [List.length_drop, List.length_take]; rfl)) ?_; (with_reducible refine (impl_twoCode.calls k a0 a1 t158 _ A3.out).mono ?_); rintro e w8 ⟨rfl, hb⟩; refine ⟨_, rfl, ?_⟩; have n0_ := Aside0.mk (below_step (by repeat (first | (with_reducible first | exact HB.out | apply below_alloc | apply pw_below_drewN | apply below_drew1) | exact HB.out)) hb); clear HB; have HB := n0_; clear n0_; (try clear hb); (try clear hb2); (try clear hk); (try clear hi)) | ((with_reducible refine gate_callee (f := 10) rfl ?_); refine goesL_ (some 24) rfl rfl Try.func10 (by kernel_rfl) rfl #[.string a0] rfl (by (try simp only [List.map_toArray, List.map_cons, List.map_nil]); first | done | rfl | (simp only [List.length_drop, List.length_take]; rfl)) ?_; (with_reducible refine (impl_nodesOf.calls a0 t159 _ A5.out).mono ?_); rintro e w' ⟨rfl, ⟨nd, rfl⟩⟩; refine ⟨_, rfl, ?_⟩) | ((with_reducible refine gate_dst (N := 26) rfl ?_); refine mb_make 31 rfl rfl ?_; intro gb160 hge w9 hbox hb; have n0_ := Aside0.mk (below_step (by repeat (first | (with_reducible first | exact HB.out | apply below_alloc | apply pw_below_drewN | apply below_drew1) | exact HB.out)) hb); have BK160 := Aside0.mk hbox; have GE160 := Aside0.mk (Nat.le_trans (below_size (by repeat (first | (with_reducible first | exact HB.out | apply below_alloc | apply pw_below_drewN | apply below_drew1) | exact HB.out))) hge); clear HB; have HB := n0_; clear n0_ hb hbox hge) | ((with_reducible refine gate_ (.insert 31 (.tmp 26) (.tmp 27) (.const (.int .i64 0))) rfl ?_); refine mb_put 31 (.tmp 26) (.tmp 27) (.const (.int .i64 0)) (g := gb160) (F := []) (s := a0) (c := 0) hu31 rfl (.inr rfl) ?hm ?hk ?hx ?hB cS0.1 (by decide) (by decide) ?_; (case hm => first | rfl | (go_simp; done) | (go_simp; rfl)); (case hk => first | rfl | (go_simp; done) | (go_simp; rfl)); (case hx => first | rfl | (go_simp; done) | (go_simp; rfl)); (case hB => (with_reducible repeat (first | refine mb_drewN ?_ _ | refine mb_drew ?_ | refine mb_alloc ?_ _)); exact BK160.out); intro w_ hB_ hg_; have n0_ := Aside0.mk (Below.grown (by repeat (first | (with_reducible first | exact HB.out | apply below_alloc | apply pw_below_drewN | apply below_drew1 | refine below_set ?_ GE160.out) | exact HB.out)) hg_ (below_size (by repeat (first | (with_reducible first | exact HB.out | apply below_alloc | apply pw_below_drewN | apply below_drew1 | refine below_set ?_ GE160.out) | exact HB.out))) (fun k_ e_ => by injection e_ with e_; subst e_; exact GE160.out)); have n1_ := Aside0.mk hB_; clear HB BK160; have HB := n0_; have BK160 := n1_; clear n0_ n1_ hB_ hg_) | ((with_reducible refine gate_dst (N := 30) rfl ?_); refine Kd.R_lit Kd.string _ 9 ?hg (N := 30) ?hd (xs := ([a0] : List ByteArray)) (inner := [.string a0]) (ok := fun _ => True) (okp := fun _ => True) ?hr ?hp (fun _ hk => hk) trivial (Below.refl _ _) (Nat.le_refl _) (by simp) ?_; (case hd => rfl); (case hg => rfl); (case hr => first | (go_simp; done) | (go_simp; rfl)); (case hp => exact (Reps.one (show Kd.M Kd.string _ _ _ a0 [.string a0] from rfl) (Reps.none _ _))); intro v162 w10 ho11 hb hg_ hnew_; clear hg_ hnew_; (first | rw [← Ny161.out] at ho11 | (simp only [Int.reduceToNat] at ho11; rw [← Ny161.out] at ho11)); have n0_ := Aside0.mk (Kd.R_lower ho11 (below_size (by repeat (first | (with_reducible first | exact HB.out | apply below_alloc | apply pw_below_drewN | apply below_drew1 | refine below_set ?_ GE160.out) | exact HB.out)))); have n1_ := Aside0.mk (mb_below (by (with_reducible repeat (first | refine mb_drewN ?_ _ | refine mb_drew ?_ | refine mb_alloc ?_ _)); exact BK160.out) hb); have n2_ := Aside0.mk (below_step (by repeat (first | (with_reducible first | exact HB.out | apply below_alloc | apply pw_below_drewN | apply below_drew1 | refine below_set ?_ GE160.out) | exact HB.out)) hb); clear BK160; clear HB; have HO163 := n0_; have BK160 := n1_; have HB := n2_; clear n0_ n1_ n2_; clear hb ho11))
      go_loopg [8, 9] k (fun kq v8 v9 w' => ∃ (x8_1 : List ByteArray) (x9_1 : Int) (x161000_1 : Far), v9 = .int .i64 x9_1 ∧ Aside0 (impl_TurnsBetween.l0 kq (a0, a1) x8_1 x9_1 x161000_1 = some (r1, r2)) ∧ Aside0 (kq ≤ k) ∧ Aside0 (Kd.R Kd.string 9 w' w.heap.size (fun _ => True) v8 x8_1) ∧ Aside0 (MB w' gb160 (x161000_1)) ∧ Aside0 (Below w.heap.size w w'))
      case atStart => exact ⟨(y161), (0), (farPut [] a0 0), (by first | rfl | (simp; done) | (simp [*]; done)), H', ⟨Nat.le_refl _⟩, ⟨by (with_reducible repeat (first | apply Kd.R_alloc | apply Kd.R_drewN | apply Kd.R_drew)); exact HO163.out⟩, ⟨by (with_reducible repeat (first | refine mb_drewN ?_ _ | refine mb_drew ?_ | refine mb_alloc ?_ _)); exact BK160.out⟩, ⟨by repeat (first | (with_reducible first | exact HB.out | apply below_alloc | apply pw_below_drewN | apply below_drew1 | refine below_set ?_ GE160.out) | exact HB.out)⟩⟩
      case round =>
        clear H'
        try clear c1
        try clear p2
        try clear c4
        try clear c4b0
        try clear c4b1
        try clear c5
        try clear c6
        try clear c6b0
        try clear c9
        try clear c10
        obtain ⟨x8_1, x9_1, x161000_1, rfl, HA, HK1, HO_8, BK160, HB⟩ := hrel
        cases gk with
        | zero => exact absurd HA.out (by simp [impl_TurnsBetween.l0])
        | succ k1 =>
          have H := HA.out
          clear HA
          simp only [impl_TurnsBetween.l0] at H
          by_cases c12 : x9_1 < (x8_1.length : Int)
          · rw [if_pos c12] at H
            have c12b0 : decide (x9_1 < (x8_1.length : Int)) = true := decide_eq_true c12
            clear c12
            replace H := Option.bind_eq_some_iff.mp H
            obtain ⟨t164, A130, H⟩ := H
            replace H : (impl_TurnsBetween.l1 k1 (a0, a1) x8_1 x9_1 t164 0 x161000_1) = some (r1, r2) := H
            have A13 := Aside0.mk A130
            clear A130
            have H' := Aside0.mk H
            clear H
            obtain ⟨Ao14, co14, eo14⟩ := Kd.R_slice HO_8.out
            subst eo14
            go_wp2_with (first | ((with_reducible refine gate_callee (f := 10) rfl ?_); refine goesL_ (some 38) rfl rfl Try.func10 (by kernel_rfl) rfl #[.string a0] rfl (by (try simp only [List.map_toArray, List.map_cons, List.map_nil]); first | done | rfl | (simp only [List.length_drop, List.length_take]; rfl)) ?_; (with_reducible refine (impl_nodesOf.calls a0 t164 _ A13.out).mono ?_); rintro e w' ⟨rfl, ⟨nd, rfl⟩⟩; refine ⟨_, rfl, ?_⟩))
            go_loopg [8, 39] k1 (fun kq v8 v39 w' => ∃ (x8_2 : List ByteArray) (x39_2 : Int) (x161000_2 : Far), v39 = .int .i64 x39_2 ∧ Aside0 (impl_TurnsBetween.l1 kq (a0, a1) x8_2 x9_1 t164 x39_2 x161000_2 = some (r1, r2)) ∧ Aside0 (kq ≤ k1) ∧ Aside0 (Kd.R Kd.string 9 w' w.heap.size (fun _ => True) v8 x8_2) ∧ Aside0 (MB w' gb160 (x161000_2)) ∧ Aside0 (Below w.heap.size w w'))
            case atStart => exact ⟨(x8_1), (0), (x161000_1), (by first | rfl | (simp; done) | (simp [*]; done)), H', ⟨Nat.le_refl _⟩, ⟨by (with_reducible repeat (first | apply Kd.R_alloc | apply Kd.R_drewN | apply Kd.R_drew)); exact HO_8.out⟩, ⟨by (with_reducible repeat (first | refine mb_drewN ?_ _ | refine mb_drew ?_ | refine mb_alloc ?_ _)); exact BK160.out⟩, ⟨by repeat (first | (with_reducible first | exact HB.out | apply below_alloc | apply pw_below_drewN | apply below_drew1 | refine below_set ?_ GE160.out) | exact HB.out)⟩⟩
            case round =>
              clear H'
              try clear c1
              try clear p2
              try clear c4
              try clear c4b0
              try clear c4b1
              try clear c5
              try clear c6
              try clear c6b0
              try clear c9
              try clear c10
              try clear c12
              try clear c12b0
              try clear p2
              obtain ⟨x8_2, x39_2, x161000_2, rfl, HA, HK2, HO_8, BK160, HB⟩ := hrel
              cases gk with
              | zero => exact absurd HA.out (by simp [impl_TurnsBetween.l1])
              | succ k2 =>
                have H := HA.out
                clear HA
                simp only [impl_TurnsBetween.l1] at H
                by_cases c15 : x39_2 < t164
                · rw [if_pos c15] at H
                  have c15b0 : decide (x39_2 < t164) = true := decide_eq_true c15
                  clear c15
                  obtain ⟨y165, hy165⟩ : ∃ y_ : List Bool, y_ = (([true, false] : List Bool)) := ⟨_, rfl⟩
                  replace H : (impl_TurnsBetween.l2 k2 (a0, a1) x8_2 x9_1 x39_2 t164 x39_2 y165 (y165.length : Int) 0 x161000_2) = some (r1, r2) := by first | (rw [hy165]; with_reducible exact H) | (have H2_ := (Option.bind_some _ _).symm.trans H; rw [hy165]; with_reducible exact H2_) | (have H2_ := (Option.bind_some _ _).symm.trans H; with_reducible exact H2_) | with_reducible exact H | (rw [hy165]; exact H) | exact H
                  have Ny165 := Aside0.mk hy165
                  clear hy165
                  have H' := Aside0.mk H
                  clear H
                  go_wp2_with (first | ((with_reducible refine gate_dst (N := 42) rfl ?_); refine Kd.R_lit Kd.bool _ 4 ?hg (N := 42) ?hd (xs := ([true, false] : List Bool)) (inner := [.bool true, .bool false]) (ok := fun _ => True) (okp := fun _ => True) ?hr ?hp (fun _ hk => hk) trivial (Below.refl _ _) (Nat.le_refl _) (by simp) ?_; (case hd => rfl); (case hg => rfl); (case hr => first | (go_simp; done) | (go_simp; rfl)); (case hp => exact (Reps.one (show Kd.M Kd.bool _ _ _ true [.bool true] from rfl) (Reps.one (show Kd.M Kd.bool _ _ _ false [.bool false] from rfl) (Reps.none _ _)))); intro v166 w16 ho17 hb hg_ hnew_; clear hg_ hnew_; (first | rw [← Ny165.out] at ho17 | (simp only [Int.reduceToNat] at ho17; rw [← Ny165.out] at ho17)); have n0_ := Aside0.mk (Kd.R_below (by (with_reducible repeat (first | apply Kd.R_alloc | apply Kd.R_drewN | apply Kd.R_drew)); exact HO_8.out) hb); have n1_ := Aside0.mk (Kd.R_lower ho17 (below_size (by repeat (first | (with_reducible first | exact HB.out | apply below_alloc | apply pw_below_drewN | apply below_drew1 | refine below_set ?_ GE160.out) | exact HB.out)))); have n2_ := Aside0.mk (mb_below (by (with_reducible repeat (first | refine mb_drewN ?_ _ | refine mb_drew ?_ | refine mb_alloc ?_ _)); exact BK160.out) hb); have n3_ := Aside0.mk (below_step (by repeat (first | (with_reducible first | exact HB.out | apply below_alloc | apply pw_below_drewN | apply below_drew1 | refine below_set ?_ GE160.out) | exact HB.out)) hb); clear HO_8; clear BK160; clear HB; have HO_8 := n0_; have HO167 := n1_; have BK160 := n2_; have HB := n3_; clear n0_ n1_ n2_ n3_; clear hb ho17; obtain ⟨Ao18, co18, eo18⟩ := Kd.R_slice HO167.out; subst eo18))
                  go_loopg [8, 44] k2 (fun kq v8 v44 w' => ∃ (x8_3 : List ByteArray) (x44_3 : Int) (x161000_3 : Far), v44 = .int .i64 x44_3 ∧ Aside0 (impl_TurnsBetween.l2 kq (a0, a1) x8_3 x9_1 x39_2 t164 x39_2 y165 (y165.length : Int) x44_3 x161000_3 = some (r1, r2)) ∧ Aside0 (kq ≤ k2) ∧ Aside0 (Kd.R Kd.string 9 w' w.heap.size (fun _ => True) v8 x8_3) ∧ Aside0 (Kd.R Kd.bool 4 w' w.heap.size (fun _ => True) (.slice Ao18 y165.length co18) y165) ∧ Aside0 (MB w' gb160 (x161000_3)) ∧ Aside0 (Below w.heap.size w w'))
                  case atStart => exact ⟨(x8_2), (0), (x161000_2), (by first | rfl | (simp; done) | (simp [*]; done)), H', ⟨Nat.le_refl _⟩, ⟨by (with_reducible repeat (first | apply Kd.R_alloc | apply Kd.R_drewN | apply Kd.R_drew)); exact HO_8.out⟩, ⟨by (with_reducible repeat (first | apply Kd.R_alloc | apply Kd.R_drewN | apply Kd.R_drew)); exact HO167.out⟩, ⟨by (with_reducible repeat (first | refine mb_drewN ?_ _ | refine mb_drew ?_ | refine mb_alloc ?_ _)); exact BK160.out⟩, ⟨by repeat (first | (with_reducible first | exact HB.out | apply below_alloc | apply pw_below_drewN | apply below_drew1 | refine below_set ?_ GE160.out) | exact HB.out)⟩⟩
                  case round =>
                    clear H'
                    try clear c1
                    try clear p2
                    try clear c4
                    try clear c4b0
                    try clear c4b1
                    try clear c5
                    try clear c6
                    try clear c6b0
                    try clear c9
                    try clear c10
                    try clear c12
                    try clear c12b0
                    try clear c15
                    try clear c15b0
                    try clear p2
                    obtain ⟨x8_3, x44_3, x161000_3, rfl, HA, HK3, HO_8, HO_42, BK160, HB⟩ := hrel
                    cases gk with
                    | zero => exact absurd HA.out (by simp [impl_TurnsBetween.l2])
                    | succ k3 =>
                      have H := HA.out
                      clear HA
                      simp only [impl_TurnsBetween.l2] at H
                      by_cases c19 : x44_3 < (y165.length : Int)
                      · rw [if_pos c19] at H
                        have c19b0 : decide (x44_3 < (y165.length : Int)) = true := decide_eq_true c19
                        clear c19
                        by_cases c20 : 0 ≤ x44_3
                        · rw [if_pos c20] at H
                          have c20b0 : decide (0 ≤ x44_3) = true := decide_eq_true c20
                          clear c20
                          by_cases c21 : x44_3 < (y165.length : Int)
                          · rw [if_pos c21] at H
                            have c21b0 : decide (x44_3 < (y165.length : Int)) = true := decide_eq_true c21
                            clear c21
                            by_cases c22 : 0 ≤ x9_1
                            · rw [if_pos c22] at H
                              have c22b0 : decide (0 ≤ x9_1) = true := decide_eq_true c22
                              clear c22
                              by_cases c23 : x9_1 < (x8_3.length : Int)
                              · rw [if_pos c23] at H
                                have c23b0 : decide (x9_1 < (x8_3.length : Int)) = true := decide_eq_true c23
                                clear c23
                                replace H := Option.bind_eq_some_iff.mp H
                                obtain ⟨⟨t170, t171⟩, A240, H⟩ := H
                                replace H : (if t170.size ≤ maxLen then (if t171 = true then (if farHas x161000_3 t170 = true then (impl_TurnsBetween.l2 k3 (a0, a1) x8_3 x9_1 x39_2 t164 x39_2 y165 (y165.length : Int) (wrap64 (x44_3 + 1)) x161000_3) else (if (x8_3.length < 8796093022208 ∧ x161000_3.length < maxLen ∧ (rdOf ByteArray.empty x8_3 x9_1).size ≤ maxLen) then (impl_TurnsBetween.l2 k3 (a0, a1) (x8_3 ++ [t170]) x9_1 x39_2 t164 x39_2 y165 (y165.length : Int) (wrap64 (x44_3 + 1)) (farPut x161000_3 t170 (wrap64 (farGet x161000_3 (rdOf ByteArray.empty x8_3 x9_1) + 1)))) else (none))) else (impl_TurnsBetween.l2 k3 (a0, a1) x8_3 x9_1 x39_2 t164 x39_2 y165 (y165.length : Int) (wrap64 (x44_3 + 1)) x161000_3)) else (none)) = some (r1, r2) := H
                                obtain ⟨cS, H⟩ := far_some H
                                have A24 := Aside0.mk A240
                                clear A240
                                by_cases c25 : t171 = true
                                · subst c25
                                  have H1 : (if farHas x161000_3 t170 = true then (impl_TurnsBetween.l2 k3 (a0, a1) x8_3 x9_1 x39_2 t164 x39_2 y165 (y165.length : Int) (wrap64 (x44_3 + 1)) x161000_3) else (if (x8_3.length < 8796093022208 ∧ x161000_3.length < maxLen ∧ (rdOf ByteArray.empty x8_3 x9_1).size ≤ maxLen) then (impl_TurnsBetween.l2 k3 (a0, a1) (x8_3 ++ [t170]) x9_1 x39_2 t164 x39_2 y165 (y165.length : Int) (wrap64 (x44_3 + 1)) (farPut x161000_3 t170 (wrap64 (farGet x161000_3 (rdOf ByteArray.empty x8_3 x9_1) + 1)))) else (none))) = some (r1, r2) := by rw [if_pos rfl] at H; exact H
                                  clear H
                                  have H := H1
                                  clear H1
                                  by_cases c26 : farHas x161000_3 t170 = true
                                  · rw [if_pos c26] at H
                                    have c26b0 : farHas x161000_3 t170 = true := c26
                                    clear c26
                                    have H' := Aside0.mk H
                                    clear H
                                    have p168 : 0 ≤ (x44_3 : Int) := of_decide_eq_true (by first | (with_reducible assumption) | assumption)
                                    have q168 : x44_3 < (y165.length : Int) := of_decide_eq_true (by first | (with_reducible assumption) | assumption)
                                    obtain ⟨ad168, e168, hx168_0⟩ := Kd.at_bool (Kd.R_reads' HO_42.out).2.2 x44_3 p168 q168
                                    cases e168
                                    replace p168 := eq_true p168
                                    replace q168 := eq_true q168
                                    obtain ⟨Ao27, co27, eo27⟩ := Kd.R_slice HO_8.out
                                    subst eo27
                                    have p169 : 0 ≤ (x9_1 : Int) := of_decide_eq_true (by first | (with_reducible assumption) | assumption)
                                    have q169 : x9_1 < (x8_3.length : Int) := of_decide_eq_true (by first | (with_reducible assumption) | assumption)
                                    obtain ⟨ad169, e169, hx169_0⟩ := Kd.at_string (Kd.R_reads' HO_8.out).2.2 x9_1 p169 q169
                                    cases e169
                                    replace p169 := eq_true p169
                                    replace q169 := eq_true q169
                                    go_wp2_with (first | ((with_reducible refine gate_callee (f := 11) rfl ?_); refine goesL_ (some 55) rfl rfl Try.func11 (by kernel_rfl) rfl #[.string (rdOf ByteArray.empty x8_3 x9_1), .int .i64 x39_2, .bool (rdOf false y165 x44_3)] rfl (by (try simp only [List.map_toArray, List.map_cons, List.map_nil]); first | done | rfl | (simp only [List.length_drop, List.length_take]; rfl)) ?_; (with_reducible refine (impl_rotated.calls k3 (rdOf ByteArray.empty x8_3 x9_1) x39_2 (rdOf false y165 x44_3) t170 true _ A24.out).mono ?_); rintro e w' ⟨rfl, ⟨nd, rfl⟩⟩; refine ⟨_, rfl, ?_⟩) | ((with_reducible refine gate_dst (N := 61) rfl ?_); refine mb_look 31 (.tmp 59) (.tmp 60) (g := gb160) (x := x161000_3) (s := t170) hu31 rfl rfl ?hm ?hk ?hB cS ?_; (case hm => first | rfl | (go_simp; done) | (go_simp; rfl)); (case hk => first | rfl | (go_simp; done) | (go_simp; rfl)); (case hB => (with_reducible repeat (first | refine mb_drewN ?_ _ | refine mb_drew ?_ | refine mb_alloc ?_ _)); exact BK160.out)))
                                    go_roundg k3
                                    case measure => have := HK1.out; have := HK2.out; have := HK3.out; omega
                                    case rel => exact ⟨(x8_3), (wrap64 (x44_3 + 1)), (x161000_3), (by first | rfl | (simp; done) | (simp [*]; done)), H', ⟨by have := HK1.out; have := HK2.out; have := HK3.out; omega⟩, ⟨by (with_reducible repeat (first | apply Kd.R_alloc | apply Kd.R_drewN | apply Kd.R_drew)); exact HO_8.out⟩, ⟨by (with_reducible repeat (first | apply Kd.R_alloc | apply Kd.R_drewN | apply Kd.R_drew)); exact HO_42.out⟩, ⟨by (with_reducible repeat (first | refine mb_drewN ?_ _ | refine mb_drew ?_ | refine mb_alloc ?_ _)); exact BK160.out⟩, ⟨by repeat (first | (with_reducible first | exact HB.out | apply below_alloc | apply pw_below_drewN | apply below_drew1 | refine below_set ?_ GE160.out) | exact HB.out)⟩⟩
                                  · rw [if_neg c26] at H
                                    have c26b0 : farHas x161000_3 t170 = false := Bool.eq_false_iff.mpr c26
                                    by_cases c29 : (x8_3.length < 8796093022208 ∧ x161000_3.length < maxLen ∧ (rdOf ByteArray.empty x8_3 x9_1).size ≤ maxLen)
                                    · rw [if_pos c29] at H
                                      have LMc29 := Aside0.mk c29.1
                                      have LMl := c29.2.1
                                      have LMs := c29.2.2
                                      clear c29
                                      obtain ⟨y173, hy173⟩ : ∃ y_ : List ByteArray, y_ = (x8_3 ++ [t170]) := ⟨_, rfl⟩
                                      replace H : (impl_TurnsBetween.l2 k3 (a0, a1) y173 x9_1 x39_2 t164 x39_2 y165 (y165.length : Int) (wrap64 (x44_3 + 1)) (farPut x161000_3 t170 (wrap64 (farGet x161000_3 (rdOf ByteArray.empty x8_3 x9_1) + 1)))) = some (r1, r2) := by first | (rw [hy173]; with_reducible exact H) | (have H2_ := (Option.bind_some _ _).symm.trans H; rw [hy173]; with_reducible exact H2_) | (have H2_ := (Option.bind_some _ _).symm.trans H; with_reducible exact H2_) | with_reducible exact H | (rw [hy173]; exact H) | exact H
                                      have Ny173 := Aside0.mk hy173
                                      clear hy173
                                      have H' := Aside0.mk H
                                      clear H
                                      have p168 : 0 ≤ (x44_3 : Int) := of_decide_eq_true (by first | (with_reducible assumption) | assumption)
                                      have q168 : x44_3 < (y165.length : Int) := of_decide_eq_true (by first | (with_reducible assumption) | assumption)
                                      obtain ⟨ad168, e168, hx168_0⟩ := Kd.at_bool (Kd.R_reads' HO_42.out).2.2 x44_3 p168 q168
                                      cases e168
                                      replace p168 := eq_true p168
                                      replace q168 := eq_true q168
                                      obtain ⟨Ao30, co30, eo30⟩ := Kd.R_slice HO_8.out
                                      subst eo30
                                      have p169 : 0 ≤ (x9_1 : Int) := of_decide_eq_true (by first | (with_reducible assumption) | assumption)
                                      have q169 : x9_1 < (x8_3.length : Int) := of_decide_eq_true (by first | (with_reducible assumption) | assumption)
                                      obtain ⟨ad169, e169, hx169_0⟩ := Kd.at_string (Kd.R_reads' HO_8.out).2.2 x9_1 p169 q169
                                      cases e169
                                      replace p169 := eq_true p169
                                      replace q169 := eq_true q169
                                      go_wp2_with (first | ((with_reducible refine gate_callee (f := 11) rfl ?_); refine goesL_ (some 55) rfl rfl Try.func11 (by kernel_rfl) rfl #[.string (rdOf ByteArray.empty x8_3 x9_1), .int .i64 x39_2, .bool (rdOf false y165 x44_3)] rfl (by (try simp only [List.map_toArray, List.map_cons, List.map_nil]); first | done | rfl | (simp only [List.length_drop, List.length_take]; rfl)) ?_; (with_reducible refine (impl_rotated.calls k3 (rdOf ByteArray.empty x8_3 x9_1) x39_2 (rdOf false y165 x44_3) t170 true _ A24.out).mono ?_); rintro e w' ⟨rfl, ⟨nd, rfl⟩⟩; refine ⟨_, rfl, ?_⟩; (try (rw [drewN_self wr]; generalize hq_ : World.drewN wr _ = wr; have n0_ : Aside0 (Kd.R Kd.bool 4 wr w.heap.size (fun _ => True) (.slice (some ad168) y165.length co18) y165) := ⟨by rw [← hq_]; exact (by (with_reducible repeat (first | apply Kd.R_alloc | apply Kd.R_drewN | apply Kd.R_drew)); exact HO_42.out)⟩; have n1_ : Aside0 (Kd.R Kd.string 9 wr w.heap.size (fun _ => True) (.slice (some ad169) x8_3.length co30) x8_3) := ⟨by rw [← hq_]; exact (by (with_reducible repeat (first | apply Kd.R_alloc | apply Kd.R_drewN | apply Kd.R_drew)); exact HO_8.out)⟩; have n2_ : Aside0 (MB wr gb160 (x161000_3)) := ⟨by rw [← hq_]; exact (by (with_reducible repeat (first | refine mb_drewN ?_ _ | refine mb_drew ?_ | refine mb_alloc ?_ _)); exact BK160.out)⟩; have n3_ : Aside0 (Below w.heap.size w wr) := ⟨by rw [← hq_]; exact (by repeat (first | (with_reducible first | exact HB.out | apply below_alloc | apply pw_below_drewN | apply below_drew1 | refine below_set ?_ GE160.out) | exact HB.out))⟩; clear HO_42 HO_8 BK160 HB hq_; have HO_42 := n0_; have HO_8 := n1_; have BK160 := n2_; have HB := n3_; clear n0_ n1_ n2_ n3_)); have p172 : 0 ≤ (x9_1 : Int) := of_decide_eq_true (by first | (with_reducible assumption) | assumption); have q172 : x9_1 < (x8_3.length : Int) := of_decide_eq_true (by first | (with_reducible assumption) | assumption); obtain ⟨ad172, e172, hx172_0⟩ := Kd.at_string (Kd.R_reads' HO_8.out).2.2 x9_1 p172 q172; obtain rfl : ad169 = ad172 := (by injection e172); replace p172 := eq_true p172; replace q172 := eq_true q172) | ((with_reducible refine gate_builtin (b := .append) (xs := #[.tmp 78, .tmp 80]) rfl ?_); at_builtin; refine Kd.R_append Kd.string (w0 := w) w.heap.size rfl (.tmp 78) (.tmp 80) 27 9 (.string ⟨#[]⟩) 16 rfl Try.underlying27 info9 rfl (by decide) (by omega) (.slice (some ad169) x8_3.length co30) x8_3 t170 [.string t170] (fun _ => True) (fun _ => False) rfl (by first | (go_simp; done) | (go_simp; rfl)) ?aP (fun _ hk => hk.elim) ?aF ?aO ?aB ?aS ?aL ?_; (case aP => exact rfl); (case aB => exact (by repeat (first | (with_reducible first | exact HB.out | apply below_alloc | apply pw_below_drewN | apply below_drew1 | refine below_set ?_ GE160.out) | exact HB.out))); (case aF => exact (fun _ _ => trivial)); (case aO => exact (by (with_reducible repeat (first | apply Kd.R_alloc | apply Kd.R_drewN | apply Kd.R_drew)); exact HO_8.out)); (case aS => exact (below_size (by repeat (first | (with_reducible first | exact HB.out | apply below_alloc | apply pw_below_drewN | apply below_drew1 | refine below_set ?_ GE160.out) | exact HB.out)))); (case aL => have := LMc29.out; omega); intro v174 w32 ho hb hg hat; rw [← Ny173.out] at ho; have n0_ := Aside0.mk (Kd.R_over' (by (with_reducible repeat (first | apply Kd.R_alloc | apply Kd.R_drewN | apply Kd.R_drew)); exact HO_42.out) (Kd.R_typed (by (with_reducible repeat (first | apply Kd.R_alloc | apply Kd.R_drewN | apply Kd.R_drew)); exact HO_8.out)) (by decide) hg); have n1_ := Aside0.mk (mb_grown (by (with_reducible repeat (first | refine mb_drewN ?_ _ | refine mb_drew ?_ | refine mb_alloc ?_ _)); exact BK160.out) hg (mb_ne HO_8.out BK160.out)); have n2_ := Aside0.mk (hb); have n3_ := Aside0.mk (ho); clear HO_42; clear BK160; clear HB; clear HO_8; have HO_42 := n0_; have BK160 := n1_; have HB := n2_; have HO175 := n3_; clear n0_ n1_ n2_ n3_; clear ho hb hg hat) | ((with_reducible refine gate_dst (N := 61) rfl ?_); refine mb_look 31 (.tmp 59) (.tmp 60) (g := gb160) (x := x161000_3) (s := t170) hu31 rfl rfl ?hm ?hk ?hB cS ?_; (case hm => first | rfl | (go_simp; done) | (go_simp; rfl)); (case hk => first | rfl | (go_simp; done) | (go_simp; rfl)); (case hB => (with_reducible repeat (first | refine mb_drewN ?_ _ | refine mb_drew ?_ | refine mb_alloc ?_ _)); exact BK160.out)) | ((with_reducible refine gate_dst (N := 76) rfl ?_); refine mb_get 31 (.tmp 71) (.tmp 75) (g := gb160) (x := x161000_3) (s := rdOf ByteArray.empty x8_3 x9_1) hu31 rfl rfl ?hm ?hk ?hB LMs ?_; (case hm => first | rfl | (go_simp; done) | (go_simp; rfl)); (case hk => first | rfl | (go_simp; done) | (go_simp; rfl)); (case hB => (with_reducible repeat (first | refine mb_drewN ?_ _ | refine mb_drew ?_ | refine mb_alloc ?_ _)); exact BK160.out)) | ((with_reducible refine gate_ (.mapUpdate 31 (.tmp 69) (.tmp 70) (.tmp 77)) rfl ?_); refine mb_put 31 (.tmp 69) (.tmp 70) (.tmp 77) (g := gb160) (F := x161000_3) (s := t170) (c := wrap64 (farGet x161000_3 (rdOf ByteArray.empty x8_3 x9_1) + 1)) hu31 rfl (.inl rfl) ?hm ?hk ?hx ?hB cS (wrap64_wf _) LMl ?_; (case hm => first | rfl | (go_simp; done) | (go_simp; rfl)); (case hk => first | rfl | (go_simp; done) | (go_simp; rfl)); (case hx => first | rfl | (go_simp; done) | (go_simp; rfl)); (case hB => (with_reducible repeat (first | refine mb_drewN ?_ _ | refine mb_drew ?_ | refine mb_alloc ?_ _)); exact BK160.out); intro w_ hB_ hg_; have n0_ := Aside0.mk (Below.grown (by repeat (first | (with_reducible first | exact HB.out | apply below_alloc | apply pw_below_drewN | apply below_drew1 | refine below_set ?_ GE160.out) | exact HB.out)) hg_ (below_size (by repeat (first | (with_reducible first | exact HB.out | apply below_alloc | apply pw_below_drewN | apply below_drew1 | refine below_set ?_ GE160.out) | exact HB.out))) (fun k_ e_ => by injection e_ with e_; subst e_; exact GE160.out)); have n1_ := Aside0.mk hB_; have n2_ := Aside0.mk (mb_row (by (with_reducible repeat (first | apply Kd.R_alloc | apply Kd.R_drewN | apply Kd.R_drew)); exact HO_42.out) (by (with_reducible repeat (first | refine mb_drewN ?_ _ | refine mb_drew ?_ | refine mb_alloc ?_ _)); exact BK160.out) hg_); have n3_ := Aside0.mk (mb_row (by (with_reducible repeat (first | apply Kd.R_alloc | apply Kd.R_drewN | apply Kd.R_drew)); exact HO_8.out) (by (with_reducible repeat (first | refine mb_drewN ?_ _ | refine mb_drew ?_ | refine mb_alloc ?_ _)); exact BK160.out) hg_); clear HB BK160 HO_42 HO_8; have HB := n0_; have BK160 := n1_; have HO_42 := n2_; have HO_8 := n3_; clear n0_ n1_ n2_ n3_ hB_ hg_))
                                      go_roundg k3
                                      case measure => have := HK1.out; have := HK2.out; have := HK3.out; omega
                                      case rel => exact ⟨(y173), (wrap64 (x44_3 + 1)), (farPut x161000_3 t170 (wrap64 (farGet x161000_3 (rdOf ByteArray.empty x8_3 x9_1) + 1))), (by first | rfl | (simp; done) | (simp [*]; done)), H', ⟨by have := HK1.out; have := HK2.out; have := HK3.out; omega⟩, ⟨by (with_reducible repeat (first | apply Kd.R_alloc | apply Kd.R_drewN | apply Kd.R_drew)); exact HO175.out⟩, ⟨by (with_reducible repeat (first | apply Kd.R_alloc | apply Kd.R_drewN | apply Kd.R_drew)); exact HO_42.out⟩, ⟨by (with_reducible repeat (first | refine mb_drewN ?_ _ | refine mb_drew ?_ | refine mb_alloc ?_ _)); exact BK160.out⟩, ⟨by repeat (first | (with_reducible first | exact HB.out | apply below_alloc | apply pw_below_drewN | apply below_drew1 | refine below_set ?_ GE160.out) | exact HB.out)⟩⟩
                                    · rw [if_neg c29] at H
                                      exact absurd H (by simp)
                                · replace c25 := Bool.eq_false_iff.mpr c25
                                  subst c25
                                  have H1 : (impl_TurnsBetween.l2 k3 (a0, a1) x8_3 x9_1 x39_2 t164 x39_2 y165 (y165.length : Int) (wrap64 (x44_3 + 1)) x161000_3) = some (r1, r2) := by rw [if_neg (show ¬ (false = true) by decide)] at H; exact H
                                  clear H
                                  have H := H1
                                  clear H1
                                  have H' := Aside0.mk H
                                  clear H
                                  have p168 : 0 ≤ (x44_3 : Int) := of_decide_eq_true (by first | (with_reducible assumption) | assumption)
                                  have q168 : x44_3 < (y165.length : Int) := of_decide_eq_true (by first | (with_reducible assumption) | assumption)
                                  obtain ⟨ad168, e168, hx168_0⟩ := Kd.at_bool (Kd.R_reads' HO_42.out).2.2 x44_3 p168 q168
                                  cases e168
                                  replace p168 := eq_true p168
                                  replace q168 := eq_true q168
                                  obtain ⟨Ao33, co33, eo33⟩ := Kd.R_slice HO_8.out
                                  subst eo33
                                  have p169 : 0 ≤ (x9_1 : Int) := of_decide_eq_true (by first | (with_reducible assumption) | assumption)
                                  have q169 : x9_1 < (x8_3.length : Int) := of_decide_eq_true (by first | (with_reducible assumption) | assumption)
                                  obtain ⟨ad169, e169, hx169_0⟩ := Kd.at_string (Kd.R_reads' HO_8.out).2.2 x9_1 p169 q169
                                  cases e169
                                  replace p169 := eq_true p169
                                  replace q169 := eq_true q169
                                  go_wp2_with (first | ((with_reducible refine gate_callee (f := 11) rfl ?_); refine goesL_ (some 55) rfl rfl Try.func11 (by kernel_rfl) rfl #[.string (rdOf ByteArray.empty x8_3 x9_1), .int .i64 x39_2, .bool (rdOf false y165 x44_3)] rfl (by (try simp only [List.map_toArray, List.map_cons, List.map_nil]); first | done | rfl | (simp only [List.length_drop, List.length_take]; rfl)) ?_; (with_reducible refine (impl_rotated.calls k3 (rdOf ByteArray.empty x8_3 x9_1) x39_2 (rdOf false y165 x44_3) t170 false _ A24.out).mono ?_); rintro e w' ⟨rfl, ⟨nd, rfl⟩⟩; refine ⟨_, rfl, ?_⟩) | ((with_reducible refine gate_dst (N := 61) rfl ?_); refine mb_look 31 (.tmp 59) (.tmp 60) (g := gb160) (x := x161000_3) (s := t170) hu31 rfl rfl ?hm ?hk ?hB cS ?_; (case hm => first | rfl | (go_simp; done) | (go_simp; rfl)); (case hk => first | rfl | (go_simp; done) | (go_simp; rfl)); (case hB => (with_reducible repeat (first | refine mb_drewN ?_ _ | refine mb_drew ?_ | refine mb_alloc ?_ _)); exact BK160.out)))
                                  go_roundg k3
                                  case measure => have := HK1.out; have := HK2.out; have := HK3.out; omega
                                  case rel => exact ⟨(x8_3), (wrap64 (x44_3 + 1)), (x161000_3), (by first | rfl | (simp; done) | (simp [*]; done)), H', ⟨by have := HK1.out; have := HK2.out; have := HK3.out; omega⟩, ⟨by (with_reducible repeat (first | apply Kd.R_alloc | apply Kd.R_drewN | apply Kd.R_drew)); exact HO_8.out⟩, ⟨by (with_reducible repeat (first | apply Kd.R_alloc | apply Kd.R_drewN | apply Kd.R_drew)); exact HO_42.out⟩, ⟨by (with_reducible repeat (first | refine mb_drewN ?_ _ | refine mb_drew ?_ | refine mb_alloc ?_ _)); exact BK160.out⟩, ⟨by repeat (first | (with_reducible first | exact HB.out | apply below_alloc | apply pw_below_drewN | apply below_drew1 | refine below_set ?_ GE160.out) | exact HB.out)⟩⟩
                              · rw [if_neg c23] at H
                                exact absurd H (by simp)
                            · rw [if_neg c22] at H
                              exact absurd H (by simp)
                          · rw [if_neg c21] at H
                            exact absurd H (by simp)
                        · rw [if_neg c20] at H
                          exact absurd H (by simp)
                      · rw [if_neg c19] at H
                        have c19b0 : decide (x44_3 < (y165.length : Int)) = false := decide_eq_false c19
                        clear c19
                        have H' := Aside0.mk H
                        clear H
                        go_wp2
                        go_roundg k3
                        case measure => have := HK1.out; have := HK2.out; have := HK3.out; omega
                        case rel => exact ⟨(x8_3), (wrap64 (x39_2 + 1)), (x161000_3), (by first | rfl | (simp; done) | (simp [*]; done)), H', ⟨by have := HK1.out; have := HK2.out; have := HK3.out; omega⟩, ⟨by (with_reducible repeat (first | apply Kd.R_alloc | apply Kd.R_drewN | apply Kd.R_drew)); exact HO_8.out⟩, ⟨by (with_reducible repeat (first | refine mb_drewN ?_ _ | refine mb_drew ?_ | refine mb_alloc ?_ _)); exact BK160.out⟩, ⟨by repeat (first | (with_reducible first | exact HB.out | apply below_alloc | apply pw_below_drewN | apply below_drew1 | refine below_set ?_ GE160.out) | exact HB.out)⟩⟩
                · rw [if_neg c15] at H
                  have c15b0 : decide (x39_2 < t164) = false := decide_eq_false c15
                  clear c15
                  have H' := Aside0.mk H
                  clear H
                  go_wp2
                  go_roundg k2
                  case measure => have := HK1.out; have := HK2.out; omega
                  case rel => exact ⟨(x8_2), (wrap64 (x9_1 + 1)), (x161000_2), (by first | rfl | (simp; done) | (simp [*]; done)), H', ⟨by have := HK1.out; have := HK2.out; omega⟩, ⟨by (with_reducible repeat (first | apply Kd.R_alloc | apply Kd.R_drewN | apply Kd.R_drew)); exact HO_8.out⟩, ⟨by (with_reducible repeat (first | refine mb_drewN ?_ _ | refine mb_drew ?_ | refine mb_alloc ?_ _)); exact BK160.out⟩, ⟨by repeat (first | (with_reducible first | exact HB.out | apply below_alloc | apply pw_below_drewN | apply below_drew1 | refine below_set ?_ GE160.out) | exact HB.out)⟩⟩
          · rw [if_neg c12] at H
            have c12b0 : decide (x9_1 < (x8_1.length : Int)) = false := decide_eq_false c12
            clear c12
            simp only [Option.some.injEq, Prod.mk.injEq] at H
            obtain ⟨rfl, rfl⟩ := H
            obtain ⟨Ao35, co35, eo35⟩ := Kd.R_slice HO_8.out
            subst eo35
            go_wp2_with (first | ((with_reducible refine gate_dst (N := 86) rfl ?_); refine mb_get 31 (.tmp 84) (.tmp 85) (g := gb160) (x := x161000_1) (s := a1) hu31 rfl rfl ?hm ?hk ?hB cS0.2 ?_; (case hm => first | rfl | (go_simp; done) | (go_simp; rfl)); (case hk => first | rfl | (go_simp; done) | (go_simp; rfl)); (case hB => (with_reducible repeat (first | refine mb_drewN ?_ _ | refine mb_drew ?_ | refine mb_alloc ?_ _)); exact BK160.out)))
            go_ret2
            exact ⟨by first | rfl | (simp [errW_none, errW_some] <;> rfl) | (simp [*, errW_none, errW_some] <;> rfl), by repeat (first | (with_reducible first | exact HB.out | apply below_alloc | apply pw_below_drewN | apply below_drew1 | refine below_set ?_ GE160.out) | exact HB.out)⟩
  · rw [if_neg c4] at H
    have c4b0 : (t158 == 0) = false := beq_eq_false_iff_ne.mpr c4
    have c4b1 : (t158 != 0) = true := bne_iff_ne.mpr c4
    simp only [Option.some.injEq, Prod.mk.injEq] at H
    obtain ⟨rfl, rfl⟩ := H
    go_enter Try.func5, Try.ntmps5
    go_wp2_with (first | ((with_reducible refine gate_callee (f := 9) rfl ?_); refine goesL_ (some 19) rfl rfl Try.func9 (by kernel_rfl) rfl #[.string a0, .string a1] rfl (by (try simp only [List.map_toArray, List.map_cons, List.map_nil]); first | done | rfl | (simp only [List.length_drop, List.length_take]; rfl)) ?_; (with_reducible refine (impl_twoCode.calls k a0 a1 t158 _ A3.out).mono ?_); rintro e w37 ⟨rfl, hb⟩; refine ⟨_, rfl, ?_⟩; have n0_ := Aside0.mk (below_step (by repeat (first | (with_reducible first | exact HB.out | apply below_alloc | apply pw_below_drewN | apply below_drew1) | exact HB.out)) hb); clear HB; have HB := n0_; clear n0_; (try clear hb); (try clear hb2); (try clear hk); (try clear hi)))
    go_ret2
    exact ⟨by first | rfl | (simp [errW_none, errW_some] <;> rfl) | (simp [*, errW_none, errW_some] <;> rfl), by repeat (first | (with_reducible first | exact HB.out | apply below_alloc | apply pw_below_drewN | apply below_drew1) | exact HB.out)⟩

def laws_FnExactTurnsBetween.f (k : Nat) (a0 : ByteArray) (a1 : ByteArray) : Option (Bool) := if (a0.size : Int) > 1048576 then (some true) else (if (a1.size : Int) > 1048576 then (some true) else ((spec_TurnsBetween.f k a0 a1).bind fun bt176 => ((impl_TurnsBetween.f k a0 a1).bind fun bt178 => (if bt178.1 = bt176.1 then (if bt178.2 = bt176.2 then (some true) else (some false)) else (some false)))))
set_option maxHeartbeats 8000000 in
set_option maxRecDepth 100000 in
theorem laws_FnExactTurnsBetween.calls (k : Nat) (a0 : ByteArray) (a1 : ByteArray) (r : Bool) (w : World) (h : laws_FnExactTurnsBetween.f k a0 a1 = some r) :
    Calls Try.prog 3 #[.string a0, .string a1] w fun e w' => e = .returned (.bool r) ∧ Below w.heap.size w w' := by
  have HB := Aside0.mk (Below.refl w.heap.size w)
  have H : (if (a0.size : Int) > 1048576 then (some true) else (if (a1.size : Int) > 1048576 then (some true) else ((spec_TurnsBetween.f k a0 a1).bind fun bt176 => ((impl_TurnsBetween.f k a0 a1).bind fun bt178 => (if bt178.1 = bt176.1 then (if bt178.2 = bt176.2 then (some true) else (some false)) else (some false)))))) = some r := h
  clear h
  by_cases c3 : (a0.size : Int) > 1048576
  · rw [if_pos c3] at H
    have c3b0 : decide (1048576 < (a0.size : Int)) = true := decide_eq_true c3
    have c3b1 : decide (1048576 < a0.size) = true := decide_eq_true (by omega)
    clear c3
    obtain rfl := Option.some.inj H
    go_enter Try.func3, Try.ntmps3
    go_wp2
    go_ret
    exact ⟨by first | rfl | (simp [errW_none, errW_some] <;> rfl) | (simp [*, errW_none, errW_some] <;> rfl), by repeat (first | (with_reducible first | exact HB.out | apply below_alloc | apply pw_below_drewN | apply below_drew1) | exact HB.out)⟩
  · rw [if_neg c3] at H
    have c3b0 : decide (1048576 < (a0.size : Int)) = false := decide_eq_false c3
    have c3b1 : decide (1048576 < a0.size) = false := decide_eq_false (by omega)
    clear c3
    by_cases c4 : (a1.size : Int) > 1048576
    · rw [if_pos c4] at H
      have c4b0 : decide (1048576 < (a1.size : Int)) = true := decide_eq_true c4
      have c4b1 : decide (1048576 < a1.size) = true := decide_eq_true (by omega)
      clear c4
      obtain rfl := Option.some.inj H
      go_enter Try.func3, Try.ntmps3
      go_wp2
      go_ret
      exact ⟨by first | rfl | (simp [errW_none, errW_some] <;> rfl) | (simp [*, errW_none, errW_some] <;> rfl), by repeat (first | (with_reducible first | exact HB.out | apply below_alloc | apply pw_below_drewN | apply below_drew1) | exact HB.out)⟩
    · rw [if_neg c4] at H
      have c4b0 : decide (1048576 < (a1.size : Int)) = false := decide_eq_false c4
      have c4b1 : decide (1048576 < a1.size) = false := decide_eq_false (by omega)
      clear c4
      replace H := Option.bind_eq_some_iff.mp H
      obtain ⟨⟨t176, t177⟩, A50, H⟩ := H
      replace H : ((impl_TurnsBetween.f k a0 a1).bind fun bt178 => (if bt178.1 = t176 then (if bt178.2 = t177 then (some true) else (some false)) else (some false))) = some r := H
      have A5 := Aside0.mk A50
      clear A50
      replace H := Option.bind_eq_some_iff.mp H
      obtain ⟨⟨t178, t179⟩, A60, H⟩ := H
      replace H : (if t178 = t176 then (if t179 = t177 then (some true) else (some false)) else (some false)) = some r := H
      have A6 := Aside0.mk A60
      clear A60
      by_cases c7 : t178 = t176
      · rw [if_pos c7] at H
        have c7b0 : (t178 == t176) = true := beq_iff_eq.mpr c7
        have c7b1 : (t178 != t176) = false := bne_eq_false_iff_eq.mpr c7
        clear c7
        by_cases c8 : t179 = t177
        · rw [if_pos c8] at H
          have c8b0 : (t179 == t177) = true := beq_iff_eq.mpr c8
          have c8b1 : (t179 != t177) = false := bne_eq_false_iff_eq.mpr c8
          clear c8
          obtain rfl := Option.some.inj H
          go_enter Try.func3, Try.ntmps3
          go_wp2_with (first | ((with_reducible refine gate_callee (f := 4) rfl ?_); refine goesL_ (some 18) rfl rfl Try.func4 (by kernel_rfl) rfl #[.string a0, .string a1] rfl (by (try simp only [List.map_toArray, List.map_cons, List.map_nil]); first | done | rfl | (simp only [List.length_drop, List.length_take]; rfl)) ?_; (with_reducible refine (spec_TurnsBetween.calls k a0 a1 t176 t177 _ A5.out).mono ?_); rintro e w9 ⟨rfl, hb⟩; refine ⟨_, rfl, ?_⟩; have n0_ := Aside0.mk (below_step (by repeat (first | (with_reducible first | exact HB.out | apply below_alloc | apply pw_below_drewN | apply below_drew1) | exact HB.out)) hb); clear HB; have HB := n0_; clear n0_; (try clear hb); (try clear hb2); (try clear hk); (try clear hi)) | ((with_reducible refine gate_callee (f := 5) rfl ?_); refine goesL_ (some 24) rfl rfl Try.func5 (by kernel_rfl) rfl #[.string a0, .string a1] rfl (by (try simp only [List.map_toArray, List.map_cons, List.map_nil]); first | done | rfl | (simp only [List.length_drop, List.length_take]; rfl)) ?_; (with_reducible refine (impl_TurnsBetween.calls k a0 a1 t178 t179 _ A6.out).mono ?_); rintro e w10 ⟨rfl, hb⟩; refine ⟨_, rfl, ?_⟩; have n0_ := Aside0.mk (below_step (by repeat (first | (with_reducible first | exact HB.out | apply below_alloc | apply pw_below_drewN | apply below_drew1) | exact HB.out)) hb); clear HB; have HB := n0_; clear n0_; (try clear hb); (try clear hb2); (try clear hk); (try clear hi)))
          go_ret
          exact ⟨by first | rfl | (simp [errW_none, errW_some] <;> rfl) | (simp [*, errW_none, errW_some] <;> rfl), by repeat (first | (with_reducible first | exact HB.out | apply below_alloc | apply pw_below_drewN | apply below_drew1) | exact HB.out)⟩
        · rw [if_neg c8] at H
          have c8b0 : (t179 == t177) = false := beq_eq_false_iff_ne.mpr c8
          have c8b1 : (t179 != t177) = true := bne_iff_ne.mpr c8
          obtain rfl := Option.some.inj H
          go_enter Try.func3, Try.ntmps3
          go_wp2_with (first | ((with_reducible refine gate_callee (f := 4) rfl ?_); refine goesL_ (some 18) rfl rfl Try.func4 (by kernel_rfl) rfl #[.string a0, .string a1] rfl (by (try simp only [List.map_toArray, List.map_cons, List.map_nil]); first | done | rfl | (simp only [List.length_drop, List.length_take]; rfl)) ?_; (with_reducible refine (spec_TurnsBetween.calls k a0 a1 t176 t177 _ A5.out).mono ?_); rintro e w11 ⟨rfl, hb⟩; refine ⟨_, rfl, ?_⟩; have n0_ := Aside0.mk (below_step (by repeat (first | (with_reducible first | exact HB.out | apply below_alloc | apply pw_below_drewN | apply below_drew1) | exact HB.out)) hb); clear HB; have HB := n0_; clear n0_; (try clear hb); (try clear hb2); (try clear hk); (try clear hi)) | ((with_reducible refine gate_callee (f := 5) rfl ?_); refine goesL_ (some 24) rfl rfl Try.func5 (by kernel_rfl) rfl #[.string a0, .string a1] rfl (by (try simp only [List.map_toArray, List.map_cons, List.map_nil]); first | done | rfl | (simp only [List.length_drop, List.length_take]; rfl)) ?_; (with_reducible refine (impl_TurnsBetween.calls k a0 a1 t178 t179 _ A6.out).mono ?_); rintro e w12 ⟨rfl, hb⟩; refine ⟨_, rfl, ?_⟩; have n0_ := Aside0.mk (below_step (by repeat (first | (with_reducible first | exact HB.out | apply below_alloc | apply pw_below_drewN | apply below_drew1) | exact HB.out)) hb); clear HB; have HB := n0_; clear n0_; (try clear hb); (try clear hb2); (try clear hk); (try clear hi)))
          go_ret
          exact ⟨by first | rfl | (simp [errW_none, errW_some] <;> rfl) | (simp [*, errW_none, errW_some] <;> rfl), by repeat (first | (with_reducible first | exact HB.out | apply below_alloc | apply pw_below_drewN | apply below_drew1) | exact HB.out)⟩
      · rw [if_neg c7] at H
        have c7b0 : (t178 == t176) = false := beq_eq_false_iff_ne.mpr c7
        have c7b1 : (t178 != t176) = true := bne_iff_ne.mpr c7
        obtain rfl := Option.some.inj H
        go_enter Try.func3, Try.ntmps3
        go_wp2_with (first | ((with_reducible refine gate_callee (f := 4) rfl ?_); refine goesL_ (some 18) rfl rfl Try.func4 (by kernel_rfl) rfl #[.string a0, .string a1] rfl (by (try simp only [List.map_toArray, List.map_cons, List.map_nil]); first | done | rfl | (simp only [List.length_drop, List.length_take]; rfl)) ?_; (with_reducible refine (spec_TurnsBetween.calls k a0 a1 t176 t177 _ A5.out).mono ?_); rintro e w13 ⟨rfl, hb⟩; refine ⟨_, rfl, ?_⟩; have n0_ := Aside0.mk (below_step (by repeat (first | (with_reducible first | exact HB.out | apply below_alloc | apply pw_below_drewN | apply below_drew1) | exact HB.out)) hb); clear HB; have HB := n0_; clear n0_; (try clear hb); (try clear hb2); (try clear hk); (try clear hi)) | ((with_reducible refine gate_callee (f := 5) rfl ?_); refine goesL_ (some 24) rfl rfl Try.func5 (by kernel_rfl) rfl #[.string a0, .string a1] rfl (by (try simp only [List.map_toArray, List.map_cons, List.map_nil]); first | done | rfl | (simp only [List.length_drop, List.length_take]; rfl)) ?_; (with_reducible refine (impl_TurnsBetween.calls k a0 a1 t178 t179 _ A6.out).mono ?_); rintro e w14 ⟨rfl, hb⟩; refine ⟨_, rfl, ?_⟩; have n0_ := Aside0.mk (below_step (by repeat (first | (with_reducible first | exact HB.out | apply below_alloc | apply pw_below_drewN | apply below_drew1) | exact HB.out)) hb); clear HB; have HB := n0_; clear n0_; (try clear hb); (try clear hb2); (try clear hk); (try clear hi)))
        go_ret
        exact ⟨by first | rfl | (simp [errW_none, errW_some] <;> rfl) | (simp [*, errW_none, errW_some] <;> rfl), by repeat (first | (with_reducible first | exact HB.out | apply below_alloc | apply pw_below_drewN | apply below_drew1) | exact HB.out)⟩

end Go.Proofs.Ytomoafkpjdncfaa.E
