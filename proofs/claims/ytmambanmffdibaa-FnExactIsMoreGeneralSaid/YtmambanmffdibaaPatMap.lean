/- A map from letters to pointers in memory, and what stays readable when it is written. -/
import Derived.Test.YtmambanmffdibaaPatIs
import Derived.MapKept
import Derived.WideMake
namespace Go.Proofs.Ytmambanmffdibaa.P
set_option linter.unusedVariables false
set_option linter.unusedSectionVars false
open Go.RowKit Go.Proofs.YtmambanmffdibaaW.PrintWords Go.Proofs.YtmambanmffdibaaW.PrintLast Go.Proofs.YtmambanmffdibaaW.PrintMore
/-- All cells stay readable. -/
def Still (w w1 : World) : Prop := ∀ a v, w.cell? a = some v → w1.cell? a = some v
theorem Still.refl (w : World) : Still w w := fun _ _ h => h
theorem Still.trans {a b c : World} (h : Still a b) (k : Still b c) : Still a c := fun x v e => k x v (h x v e)
theorem still_below {w w1 : World} (h : Below w.heap.size w w1) : Still w w1 := fun _ _ hc => pw_cell_below h hc
theorem row_still {α : Type} {R R1 : α → List Value → Prop} {sz : Nat} {w w1 : World} {A : Option Addr} {n : Nat} {ps : List α} (hR : ∀ x c, R x c → R1 x c) (hs : Still w w1) (h : ReadsRow R sz w A n ps) : ReadsRow R1 sz w1 A n ps :=
  ⟨h.1, h.2.1, fun hn => by
    obtain ⟨ad, e, hc⟩ := h.2.2 hn
    refine ⟨ad, e, fun j p hp => ?_⟩
    obtain ⟨c, h1, h2, h3⟩ := hc j p hp
    exact ⟨c, h1, hR _ _ h2, fun i u hu => hs _ _ (h3 i u hu)⟩⟩
theorem KP_still : ∀ (n : Nat) {w w1 : World} {p : Pat} {cs : List Value}, Still w w1 → KP n w p cs → KP n w1 p cs
  | 0, _, _, _, _, _, h => h.elim
  | n + 1, w, w1, p, cs, hs, ⟨g, A, c, e, h0, h1, hl, hr⟩ => ⟨g, A, c, e, hs _ _ h0, hs _ _ h1, hl, row_still (fun _ _ h => KP_still n hs h) hs hr⟩
theorem K_still {n : Nat} {w w1 : World} {p : Pat} {cs : List Value} (h : (kP n).K w p cs) (hs : Still w w1) : (kP n).K w1 p cs := KP_still n hs h
theorem C_still {n : Nat} {w w1 : World} {A : Option Addr} {m : Nat} {l : List Pat} (h : (kP n).C w A m l) (hs : Still w w1) : (kP n).C w1 A m l := row_still (fun _ _ h => KP_still n hs h) hs h
/-! The entries -/
def keyN : Value → Int
  | .int _ n => n
  | _ => -1
def keyed (es : List MapEntry) : Prop := ∀ e ∈ es, ∃ b, e.key = .int .u8 b
def findL (b : Int) : List MapEntry → Nat → Option (Nat × Value)
  | [], _ => none
  | e :: es, i => if keyN e.key = b then some (i, e.val) else findL b es (i + 1)
def look (es : List MapEntry) (b : Int) : Option Value := (findL b es 0).map (·.2)
theorem findNow_eq (b : Int) : ∀ (es : List MapEntry) (i : Nat), keyed es → Instr.findNow (.int .u8) (.int .u8 b) es i = some (findL b es i)
  | [], _, _ => rfl
  | e :: es, i, h => by
    obtain ⟨c, hc⟩ := h e List.mem_cons_self
    rw [Instr.findNow, findL, hc]
    by_cases e1 : c = b
    · subst e1
      simp [Instr.sameNow, keyN]
    · have e2 : (b == c) = false := beq_eq_false_iff_ne.2 (fun h => e1 h.symm)
      have e3 : Instr.sameNow (.int .u8) (.int .u8 b) (.int .u8 c) = some false := by simp [Instr.sameNow, e2]
      rw [e3, if_neg (show keyN (.int .u8 c) ≠ b from e1)]
      exact findNow_eq b es (i + 1) (fun x hx => h x (List.mem_cons_of_mem _ hx))
theorem findL_shift (b : Int) : ∀ (es : List MapEntry) (i : Nat), findL b es i = (findL b es 0).map fun x => (i + x.1, x.2)
  | [], _ => rfl
  | e :: es, i => by
    rw [findL, findL]
    split
    · rfl
    · rw [findL_shift b es (i + 1), findL_shift b es (0 + 1), Option.map_map]
      congr 1
      funext x
      show (i + 1 + x.1, x.2) = (i + (0 + 1 + x.1), x.2)
      congr 1
      omega
theorem look_cons (e : MapEntry) (es : List MapEntry) (b : Int) : look (e :: es) b = if keyN e.key = b then some e.val else look es b := by
  rw [look, findL]
  split
  · rfl
  · rw [findL_shift, Option.map_map, look]
    rfl
theorem look_push (v : Value) (b : Int) (t : Nat) : ∀ es : List MapEntry, look es b = none → ∀ c, look (es ++ [⟨.int .u8 b, v, t⟩]) c = if c = b then some v else look es c
  | [], _, c => by
    rw [List.nil_append, look_cons]
    by_cases h : c = b
    · rw [if_pos h, if_pos (show keyN (Value.int .u8 b) = c from h.symm)]
    · rw [if_neg h, if_neg (show keyN (Value.int .u8 b) ≠ c from fun e => h e.symm)]
  | e :: es, h, c => by
    rw [look_cons] at h
    split at h
    · cases h
    · rename_i hk
      rw [List.cons_append, look_cons, look_cons, look_push v b t es h c]
      by_cases h1 : keyN e.key = c
      · rw [if_pos h1, if_pos h1, if_neg (fun e2 => hk (h1.trans e2))]
      · rw [if_neg h1, if_neg h1]
theorem look_modify (v : Value) (b : Int) : ∀ (es : List MapEntry) (i : Nat) (x : Value), keyed es → findL b es 0 = some (i, x) → (∃ e, es[i]? = some e ∧ e.key = .int .u8 b) ∧ ∀ c, look (es.modify i fun e => { e with key := .int .u8 b, val := v }) c = if c = b then some v else look es c
  | [], i, x, _, h => by cases h
  | e :: es, i, x, hkd, h => by
    rw [findL] at h
    split at h
    · rename_i hk
      obtain ⟨rfl, rfl⟩ := Prod.mk.injEq _ _ _ _ ▸ Option.some.inj h
      obtain ⟨b2, hb2⟩ := hkd e List.mem_cons_self
      have e2 : b2 = b := by rw [hb2] at hk; exact hk
      refine ⟨⟨e, rfl, by rw [hb2, e2]⟩, fun c => ?_⟩
      rw [List.modify_zero_cons, look_cons, look_cons]
      by_cases h1 : c = b
      · rw [if_pos h1, if_pos (show keyN (Value.int .u8 b) = c from h1.symm)]
      · rw [if_neg h1, if_neg (show keyN (Value.int .u8 b) ≠ c from fun e => h1 e.symm), if_neg (fun e3 => h1 (e3.symm.trans hk))]
    · rename_i hk
      rw [findL_shift] at h
      obtain ⟨⟨j, y⟩, h1, h2⟩ := Option.map_eq_some_iff.1 h
      obtain ⟨rfl, rfl⟩ : 0 + 1 + j = i ∧ y = x := by simpa using h2
      obtain ⟨⟨e4, h5, h6⟩, h7⟩ := look_modify v b es j y (fun z hz => hkd z (List.mem_cons_of_mem _ hz)) h1
      have e5 : 0 + 1 + j = j + 1 := by omega
      rw [e5]
      refine ⟨⟨e4, by simpa using h5, h6⟩, fun c => ?_⟩
      rw [List.modify_succ_cons, look_cons, look_cons, h7 c]
      by_cases h8 : keyN e.key = c
      · rw [if_pos h8, if_pos h8, if_neg (fun e2 => hk (h8.trans e2))]
      · rw [if_neg h8, if_neg h8]
/-- Block g is a map that holds f. -/
def MapB (w : World) (g : Nat) (f : Int → Option Value) : Prop := ∃ es clock, w.heap[g]? = some (.map es clock) ∧ keyed es.toList ∧ ∀ c, look es.toList c = f c
theorem map_lt {w : World} {g : Nat} {f : Int → Option Value} (h : MapB w g f) : g < w.heap.size := by
  obtain ⟨es, clock, hb, _⟩ := h
  rcases Nat.lt_or_ge g w.heap.size with h1 | h1
  · exact h1
  · rw [Array.getElem?_eq_none h1] at hb; cases hb
theorem map_block {w w1 : World} {g : Nat} {f : Int → Option Value} (h : MapB w g f) (hb : w1.heap[g]? = w.heap[g]?) : MapB w1 g f := by
  obtain ⟨es, clock, h1, h2⟩ := h
  exact ⟨es, clock, hb.trans h1, h2⟩
theorem map_drew {w : World} {g : Nat} {f : Int → Option Value} (h : MapB w g f) : MapB w.drew g f := map_block h rfl
theorem map_drewN {w : World} {g : Nat} {f : Int → Option Value} (h : MapB w g f) (n : Nat) : MapB (w.drewN n) g f := map_block h rfl
theorem map_below {w w1 : World} {g : Nat} {f : Int → Option Value} (h : MapB w g f) (hb : Below w.heap.size w w1) : MapB w1 g f := map_block h (hb.block g (map_lt h))
/-- Where only the map is written, all cells stay. -/
theorem still_map {w w1 : World} {g : Nat} {f : Int → Option Value} (h : MapB w g f) (hg : w.grownBy w1 (some g)) : Still w w1 := by
  obtain ⟨es, clock, hb, _⟩ := h
  intro a v hc
  have hne : a.block ≠ g := by
    rintro rfl
    unfold World.cell? at hc
    rw [hb] at hc
    cases hc
  exact (World.cell?_of_block (hg.block _ (World.block_lt_of_cell? _ _ hc) (fun e => hne (by injection e)))).trans hc
theorem run_put {w : World} {g : Nat} {f : Int → Option Value} (b : Int) (v : Value) (hB : MapB w g f) :
    ∃ w1, (Instr.mapUpdate 61 (.map (some g)) (.int .u8 b) v).run Try.prog w = .ok () w1 ∧ MapB w1 g (fun c => if c = b then some v else f c) ∧ w.grownBy w1 (some g) := by
  have hlt := map_lt hB
  obtain ⟨es, clock, hb, hk, hl⟩ := hB
  have hc : (Instr.checkKey false 10000 5 (.int .u8 b)).run Try.prog w = .ok () w := MapKept.run_checkKey (k := .int .u8 b) Try.underlying5 (by simp [MapKept.IsKey]) false 9999
  have hf := MapKept.run_findKey (P := Try.prog) (w := w) (kt := 5) Try.underlying5 (findNow_eq b es.toList 0 hk)
  have grown : ∀ o, w.grownBy { w with heap := w.heap.setIfInBounds g o } (some g) := fun o => ⟨rfl, rfl, rfl, by simp, fun k hk hne => by
    show (w.heap.setIfInBounds g o)[k]? = _
    rw [Array.getElem?_setIfInBounds_ne (fun e => hne (by rw [e]))]⟩
  have here : ∀ o, (w.heap.setIfInBounds g o)[g]? = some o := fun o => by rw [Array.getElem?_setIfInBounds_self_of_lt hlt]
  cases hx : findL b es.toList 0 with
  | none =>
    rw [hx] at hf
    refine ⟨{ w with heap := w.heap.setIfInBounds g (.map (es.push { key := .int .u8 b, val := v, born := clock }) (clock + 1)) }, ?_, ⟨_, _, here _, ?_, ?_⟩, grown _⟩
    · simp [Instr.mapUpdate, run_underlying Try.underlying61, MapKept.run_getObj_map hb, hc, hf, MapKept.run_setObj_map _ hb, Result.andThen]
    · intro e he
      rw [Array.toList_push] at he
      rcases List.mem_append.1 he with he | he
      · exact hk e he
      · rw [List.mem_singleton.1 he]; exact ⟨b, rfl⟩
    · intro c
      rw [Array.toList_push, look_push v b clock es.toList (by rw [look, hx]; rfl) c, hl c]
  | some y =>
    obtain ⟨i, x⟩ := y
    rw [hx] at hf
    obtain ⟨⟨e, he1, he2⟩, hm⟩ := look_modify v b es.toList i x hk hx
    have he3 : es[i]? = some e := by rw [← Array.getElem?_toList]; exact he1
    have hs : (Instr.keyThatStays (.int .u8 b) (.int .u8 b)).run Try.prog w = .ok (.int .u8 b) w := by
      simp [Instr.keyThatStays, Instr.sameBits]
    refine ⟨{ w with heap := w.heap.setIfInBounds g (.map (es.modify i fun e => { e with key := .int .u8 b, val := v }) clock) }, ?_, ⟨_, _, here _, ?_, ?_⟩, grown _⟩
    · simp [Instr.mapUpdate, run_underlying Try.underlying61, MapKept.run_getObj_map hb, hc, hf, MapKept.run_setObj_map _ hb, Result.andThen, he3, he2, hs]
    · intro e5 he5
      rw [Array.toList_modify] at he5
      obtain ⟨j, hj⟩ := List.mem_iff_getElem?.1 he5
      rw [List.getElem?_modify] at hj
      obtain ⟨e6, h6, h7⟩ := Option.map_eq_some_iff.1 hj
      split at h7
      · rw [← h7]; exact ⟨b, rfl⟩
      · rw [← h7]; exact hk _ (List.mem_iff_getElem?.2 ⟨j, h6⟩)
    · intro c
      rw [Array.toList_modify, hm c, hl c]
theorem run_get {w : World} {g : Nat} {f : Int → Option Value} (b : Int) {v : Value} (hB : MapB w g f) (hv : f b = some v) :
    (Instr.lookup 61 (.map (some g)) (.int .u8 b) false).run Try.prog w = .ok v w := by
  obtain ⟨es, clock, hb, hk, hl⟩ := hB
  have hc : ∀ t, (Instr.checkKey t 10000 5 (.int .u8 b)).run Try.prog w = .ok () w := fun t => MapKept.run_checkKey (k := .int .u8 b) Try.underlying5 (by simp [MapKept.IsKey]) t 9999
  have hf := MapKept.run_findKey (P := Try.prog) (w := w) (kt := 5) Try.underlying5 (findNow_eq b es.toList 0 hk)
  have h1 := hl b
  rw [hv, look] at h1
  obtain ⟨⟨i, x⟩, h2, h3⟩ := Option.map_eq_some_iff.1 h1
  rw [h2] at hf
  have h3 : x = v := h3
  subst h3
  simp [Instr.lookup, run_underlying Try.underlying61, MapKept.run_getObj_map hb, hc, hf, Result.andThen]
section
variable {ops : Array Oper} {rest : List Oper} {o : Oper} {a : Act} {Q : Exit → Act → World → Prop} {W : World}
theorem mp_make (hgd : o.guard = none) (ho : o.op = .makeMap 61 none) (h : ∀ g, g = W.heap.size → ∀ w1, MapB w1 g (fun _ => none) → Below W.heap.size W w1 → wpList Try.prog ops Q rest (a.put o.dst (.map (some g))) w1) : wpList Try.prog ops Q (o :: rest) a W := by
  refine Kd.event_run (w1 := W.alloc (.map #[] 0)) (v := .map (some W.heap.size)) hgd ?_ (h _ rfl _ ?_ (below_alloc (Below.refl _ _) _))
  · simp [execOp, ho, run_makeMap]
  · exact ⟨#[], 0, heap_alloc_new W _, fun e he => by simp at he, fun c => rfl⟩
theorem mp_put (m k x : Operand) {g : Nat} {f : Int → Option Value} {b : Int} {v : Value} (hgd : o.guard = none) (ho : o.op = .mapUpdate 61 m k x ∨ o.op = .insert 61 m k x) (hm : a.eval m = .map (some g)) (hk : a.eval k = .int .u8 b) (hx : a.eval x = v) (hB : MapB W g f)
    (h : ∀ w1, MapB w1 g (fun c => if c = b then some v else f c) → W.grownBy w1 (some g) → wpList Try.prog ops Q rest (a.put o.dst undef) w1) : wpList Try.prog ops Q (o :: rest) a W := by
  obtain ⟨w1, r1, r2, r3⟩ := run_put b v hB
  refine wpList_plain hgd fun K' hK' => ?_
  unfold Oper.wp
  rcases ho with ho | ho
  all_goals
    simp [execOp, ho, hm, hk, hx, r1, Result.andThen]
    exact hK' _ _ (h w1 r2 r3)
theorem mp_get (m k : Operand) {g : Nat} {f : Int → Option Value} {b : Int} {v : Value} (hgd : o.guard = none) (ho : o.op = .lookup 61 m k false) (hm : a.eval m = .map (some g)) (hk : a.eval k = .int .u8 b) (hB : MapB W g f) (hv : f b = some v)
    (h : wpList Try.prog ops Q rest (a.put o.dst v) W) : wpList Try.prog ops Q (o :: rest) a W := by
  have r1 := run_get b hB hv
  refine wpList_plain hgd fun K' hK' => ?_
  unfold Oper.wp
  simp [execOp, ho, hm, hk, r1, Result.andThen]
  exact hK' _ _ h
end
end Go.Proofs.Ytmambanmffdibaa.P
