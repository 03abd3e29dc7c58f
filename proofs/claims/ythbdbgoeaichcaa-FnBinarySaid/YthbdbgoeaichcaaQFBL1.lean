/- The row of the law FnBinary, out of its pure statement. -/
import Derived.Test.YthbdbgoeaichcaaQFBEx1
import Derived.Test.YthbdbgoeaichcaaQFBEx2
import Derived.Test.YthbdbgoeaichcaaQFBEx3
import Derived.Test.YthbdbgoeaichcaaQFBEx4
import Derived.Test.YthbdbgoeaichcaaQFBEx5
import Derived.Test.YthbdbgoeaichcaaQFBEx6
import Derived.Test.YthbdbgoeaichcaaQFBEx7
import Derived.Test.YthbdbgoeaichcaaQFBW
import Derived.Deep.Slices
import Derived.Laws.Bits64
import Derived.Laws.BitsLemmas
import Derived.Lib.SmallJoins
import Derived.OpenShut
import Derived.WalkKit
namespace Go.Proofs.Ythbdbgoeaichcaa.Base
set_option linter.unusedVariables false
set_option linter.unusedSectionVars false
open Go.RowKit Go.Proofs.YthbdbgoeaichcaaW.PrintWords

theorem ev_pos {α : Type} {c : Prop} [Decidable c] {f g : Nat → Option α} {r : α} (h : c) (k : Ev f r) : Ev (fun n => if c then f n else g n) r := by
  simpa [h] using k
theorem ev_neg {α : Type} {c : Prop} [Decidable c] {f g : Nat → Option α} {r : α} (h : ¬ c) (k : Ev g r) : Ev (fun n => if c then f n else g n) r := by
  simpa [h] using k
theorem ev_ite {α : Type} {c : Prop} [Decidable c] {f g : Nat → Option α} {r : α} (h : c → Ev f r) (k : ¬ c → Ev g r) : Ev (fun n => if c then f n else g n) r := by
  by_cases hc : c
  · exact ev_pos hc (h hc)
  · exact ev_neg hc (k hc)
theorem ev_now {α : Type} {a r : α} (h : a = r) : Ev (fun _ => some a) r := h ▸ Ev.now a
theorem ev_some {α β : Type} {f : Nat → α → Option β} {a : α} {r : β} (k : Ev (fun n => f n a) r) : Ev (fun n => (some a).bind (f n)) r := by
  simpa using k
theorem w64 {x : Int} (h1 : -9223372036854775808 ≤ x) (h2 : x ≤ 9223372036854775807) : wrap64 x = x := by unfold wrap64; omega
theorem w64s {i : Nat} (h : i < 9223372036854775807) : wrap64 ((i : Int) + 1) = ((i + 1 : Nat) : Int) := by unfold wrap64; omega
theorem w64p {i : Nat} (h : i < 9223372036854775807) : wrap64 (((i + 1 : Nat) : Int) - 1) = (i : Int) := by unfold wrap64; omega

theorem rd_nat (l : List Int) (i : Nat) : rd l (i : Int) = l.getD i 0 := rfl
theorem rd_lt {l : List Int} {i : Nat} (h : i < l.length) : rd l (i : Int) = l[i] := by
  rw [rd_nat, List.getD_eq_getElem?_getD, List.getElem?_eq_getElem h]; rfl
theorem get_set_ne {l : List Int} {i j : Nat} {v : Int} (h : i ≠ j) : (l.set i v).getD j 0 = l.getD j 0 := by
  rw [List.getD_eq_getElem?_getD, List.getElem?_set_ne h, ← List.getD_eq_getElem?_getD]
theorem get_set_eq {l : List Int} {i : Nat} {v : Int} (h : i < l.length) : (l.set i v).getD i 0 = v := by
  rw [List.getD_eq_getElem?_getD, List.getElem?_set_self h]; rfl
end Go.Proofs.Ythbdbgoeaichcaa.Base
namespace Go.Proofs.Ythbdbgoeaichcaa.Bin
set_option linter.unusedVariables false
set_option linter.unusedSectionVars false
open Go.RowKit Go.Proofs.YthbdbgoeaichcaaW.PrintWords Go.Proofs.Ythbdbgoeaichcaa.Base

def B (l : List UInt8) : ByteArray := ⟨l.toArray⟩
theorem B_all (w : ByteArray) : ∃ l, w = B l := ⟨w.data.toList, by cases w; simp [B]⟩
theorem B_size (l : List UInt8) : (B l).size = l.length := by simp [B, ByteArray.size]
theorem B_append (l m : List UInt8) : B l ++ B m = B (l ++ m) := by
  apply ByteArray.ext
  simp [B, ByteArray.data_append]
theorem B_extract (l : List UInt8) (a b : Nat) : (B l).extract a b = B ((l.drop a).take (b - a)) := by
  apply ByteArray.ext
  simp [B, ByteArray.data_extract, List.extract_toArray]
theorem bt_B {l : List UInt8} {i : Nat} (h : i < l.length) : bt (B l) (i : Int) = (l[i].toNat : Int) := by
  unfold bt
  rw [dif_pos (by rw [B_size]; exact h)]
  rfl
theorem bt_at_app {p s : List UInt8} {b : UInt8} {i : Nat} (h : i = p.length) : bt (B (p ++ b :: s)) (i : Int) = (b.toNat : Int) := by
  subst h
  rw [bt_B (by simp)]
  simp

inductive BT where
  | leaf : BT
  | node : BT → BT → BT
def enc : BT → List UInt8
  | .leaf => [48]
  | .node l r => 49 :: (enc l ++ enc r)
def nodes : BT → Nat
  | .leaf => 0
  | .node l r => nodes l + nodes r + 1
theorem enc_length : ∀ t, (enc t).length = 2 * nodes t + 1
  | .leaf => rfl
  | .node l r => by simp [enc, nodes, enc_length l, enc_length r]; omega
def flat : List BT → List UInt8
  | [] => []
  | t :: ts => enc t ++ flat ts
def scan : List UInt8 → Nat → Option (List UInt8)
  | l, 0 => some l
  | [], _ + 1 => none
  | b :: l, n + 1 => if b = 49 then scan l (n + 2) else if b = 48 then scan l n else none
theorem scan_enc : ∀ (t : BT) (s : List UInt8) (n : Nat), scan (enc t ++ s) (n + 1) = scan s n
  | .leaf, s, n => by simp [enc, scan]
  | .node l r, s, n => by
    simp only [enc, List.cons_append, scan, if_pos, List.append_assoc]
    rw [scan_enc l, scan_enc r]
theorem scan_one (t : BT) (s : List UInt8) : scan (enc t ++ s) 1 = some s := by
  rw [scan_enc t s 0]
  cases s <;> rfl
theorem scan_sound : ∀ (l : List UInt8) (n : Nat) (s : List UInt8), scan l n = some s → ∃ ts, ts.length = n ∧ l = flat ts ++ s
  | l, 0, s, h => by
    have e : l = s := by cases l <;> simpa [scan] using h
    exact ⟨[], rfl, by simp [flat, e]⟩
  | [], n + 1, s, h => by simp [scan] at h
  | b :: l, n + 1, s, h => by
    simp only [scan] at h
    split at h
    · rename_i hb
      obtain ⟨ts, h1, h2⟩ := scan_sound l (n + 2) s h
      match ts, h1 with
      | a :: c :: ts, h1 =>
        refine ⟨.node a c :: ts, by simpa using h1, ?_⟩
        rw [h2, hb]
        simp [flat, enc]
    · split at h
      · rename_i hb
        obtain ⟨ts, h1, h2⟩ := scan_sound l n s h
        refine ⟨.leaf :: ts, by simpa using h1, ?_⟩
        rw [h2, hb]
        simp [flat, enc]
      · cases h
theorem scan_len : ∀ (l : List UInt8) (n : Nat) (s : List UInt8), scan l n = some s → s.length ≤ l.length
  | l, n, s, h => by
    obtain ⟨ts, _, h2⟩ := scan_sound l n s h
    rw [h2]; simp
def isBin (l : List UInt8) : Bool := if 47 < l.length then false else match scan l 1 with
  | some [] => true
  | _ => false
theorem isBin_sound {l : List UInt8} (h : isBin l = true) : ∃ t, l = enc t ∧ nodes t ≤ 23 := by
  unfold isBin at h
  split at h
  · cases h
  · rename_i hl
    split at h
    · rename_i hs
      obtain ⟨ts, h1, h2⟩ := scan_sound l 1 [] hs
      match ts, h1 with
      | [t], _ =>
        have e : l = enc t := by simpa [flat] using h2
        refine ⟨t, e, ?_⟩
        have := enc_length t
        rw [e] at hl
        omega
    · cases h
theorem isBin_enc {t : BT} (h : nodes t ≤ 23) : isBin (enc t) = true := by
  have := scan_one t []
  rw [List.append_nil] at this
  unfold isBin
  rw [if_neg (by rw [enc_length]; omega), this]
def ones : List UInt8 → Nat
  | [] => 0
  | b :: l => (if b = 49 then 1 else 0) + ones l
def turn (right : Bool) (l r : BT) : Option BT :=
  if right then match l with
    | .leaf => none
    | .node x y => some (.node x (.node y r))
  else match r with
    | .leaf => none
    | .node x y => some (.node (.node l x) y)
theorem turn_nodes {right : Bool} {l r u : BT} (h : turn right l r = some u) : nodes u = nodes l + nodes r + 1 := by
  unfold turn at h
  split at h <;> split at h
  · cases h
  · obtain rfl := Option.some.inj h; simp [nodes]; omega
  · cases h
  · obtain rfl := Option.some.inj h; simp [nodes]; omega
def forest : BT → Int × List Int
  | .leaf => (0, [])
  | .node l r => ((forest r).1 + 1, (forest l).1 :: ((forest l).2 ++ (forest r).2))
theorem forest_length : ∀ t, (forest t).2.length = nodes t
  | .leaf => rfl
  | .node l r => by simp [forest, nodes, forest_length l, forest_length r]
theorem forest_count : ∀ t, 0 ≤ (forest t).1 ∧ (forest t).1 ≤ nodes t
  | .leaf => by simp [forest, nodes]
  | .node l r => by have := forest_count r; simp only [forest, nodes]; omega
def vec : BT → List Int
  | .leaf => []
  | .node l r => vec l ++ (nodes r : Int) :: vec r
theorem vec_length : ∀ t, (vec t).length = nodes t
  | .leaf => rfl
  | .node l r => by simp [vec, nodes, vec_length l, vec_length r]; omega
def firstR (l : List Int) : Nat → Nat → Option Nat
  | 0, _ => none
  | m + 1, i => if l.getD i 0 = (l.length : Int) - 1 - i then some i else firstR l m (i + 1)
theorem firstR_spec (l : List Int) : ∀ (m i j : Nat), i + m = l.length → firstR l m i = some j → i ≤ j ∧ j < l.length
  | 0, i, j, _, h => by simp [firstR] at h
  | m + 1, i, j, hm, h => by
    simp only [firstR] at h
    split at h
    · obtain rfl := Option.some.inj h; omega
    · have := firstR_spec l m (i + 1) j (by omega) h; omega
def ofV : Nat → List Int → List UInt8 × Bool
  | 0, _ => ([48], true)
  | f + 1, l => if l.length = 0 then ([48], true) else match firstR l l.length 0 with
    | none => ([], false)
    | some i => (49 :: ((ofV f (l.take i)).1 ++ (ofV f (l.drop (i + 1))).1), (ofV f (l.take i)).2 && (ofV f (l.drop (i + 1))).2)
theorem ofV_length : ∀ (f : Nat) (l : List Int), l.length ≤ f → (ofV f l).1.length ≤ 2 * l.length + 1
  | 0, l, h => by simp [ofV]
  | f + 1, l, h => by
    simp only [ofV]
    split
    · simp
    · split
      · simp
      · rename_i i hi
        have hj := firstR_spec l l.length 0 i (by omega) hi
        have h1 := ofV_length f (l.take i) (by simp; omega)
        have h2 := ofV_length f (l.drop (i + 1)) (by simp; omega)
        simp only [List.length_take, List.length_drop] at h1 h2
        simp only [List.length_cons, List.length_append]
        omega
end Go.Proofs.Ythbdbgoeaichcaa.Bin
namespace Go.Proofs.Ythbdbgoeaichcaa.E
set_option linter.unusedVariables false
set_option linter.unusedSectionVars false
open Go.RowKit Go.Proofs.YthbdbgoeaichcaaW.PrintWords Go.Proofs.Ythbdbgoeaichcaa.Base Go.Proofs.Ythbdbgoeaichcaa.Bin

theorem toList_loop (bs : ByteArray) : ∀ (n i : Nat) (r : List UInt8), i + n = bs.size → ByteArray.toList.loop bs i r = r.reverse ++ bs.data.toList.drop i
  | 0, i, r, h => by
    unfold ByteArray.toList.loop
    have hs : bs.size = bs.data.toList.length := by rw [Array.length_toList]; rfl
    rw [if_neg (by omega), List.drop_of_length_le (by omega), List.append_nil]
  | n + 1, i, r, h => by
    unfold ByteArray.toList.loop
    have hs : bs.size = bs.data.toList.length := by rw [Array.length_toList]; rfl
    have hi : i < bs.data.toList.length := by omega
    rw [if_pos (by omega), toList_loop bs n (i + 1) _ (by omega), List.drop_eq_getElem_cons hi]
    have e : bs.get! i = bs.data.toList[i] := by
      cases bs with
      | mk d =>
        have hi' : i < d.size := by simpa using hi
        simp [ByteArray.get!, hi']
    rw [e]
    simp
theorem toList_B (l : List UInt8) : (B l).toList = l := by
  unfold ByteArray.toList
  rw [toList_loop (B l) (B l).size 0 [] (by omega)]
  simp [B]
theorem B_drop (l : List UInt8) (a : Nat) : (B l).extract a (B l).size = B (l.drop a) := by
  rw [B_extract, B_size, List.take_of_length_le (by simp)]
theorem B_take (l : List UInt8) (b : Nat) : (B l).extract 0 b = B (l.take b) := by
  rw [B_extract]; simp
theorem bt_zero (b : UInt8) (l : List UInt8) : bt (B (b :: l)) 0 = (b.toNat : Int) := by
  have := bt_at_app (p := []) (s := l) (b := b) (i := 0) rfl
  simpa using this
theorem u49 {b : UInt8} : ((b.toNat : Int) = 49) ↔ b = 49 := by
  rw [← UInt8.toNat_inj]
  show ((b.toNat : Int) = 49) ↔ b.toNat = 49
  omega
theorem u48 {b : UInt8} : ((b.toNat : Int) = 48) ↔ b = 48 := by
  rw [← UInt8.toNat_inj]
  show ((b.toNat : Int) = 48) ↔ b.toNat = 48
  omega
def outB : Option (List UInt8) → ByteArray × Bool
  | some s => (B s, true)
  | none => (B [], false)
theorem impl_endBinary_loop : ∀ (l : List UInt8) (n : Nat), l.length + n < 4611686018427387904 → Ev (fun k => impl_endBinary.l0 k (B l) (n : Int)) (outB (scan l n))
  | l, 0, _ => by
    refine Ev.step (fun k => by rw [impl_endBinary.l0]) ?_
    refine ev_neg (by omega) ?_
    cases l <;> exact Ev.now _
  | [], n + 1, _ => by
    refine Ev.step (fun k => by rw [impl_endBinary.l0]) ?_
    refine ev_pos (by omega) (ev_pos (by rw [toList_B]) ?_)
    refine Ev.step (fun k => by rw [impl_endBinary.j1]) ?_
    exact ev_pos rfl (Ev.now _)
  | b :: l, n + 1, h => by
    have hs : (B (b :: l)).size = l.length + 1 := by rw [B_size]; rfl
    simp only [List.length_cons] at h
    refine Ev.step (fun k => by rw [impl_endBinary.l0]) ?_
    refine ev_pos (by omega) (ev_neg (by rw [toList_B]; simp) (ev_pos (by omega) ?_))
    rw [bt_zero]
    have hd : (B (b :: l)).extract 1 (B (b :: l)).size = B l := by rw [B_drop]; rfl
    refine ev_ite (fun hb => ?_) (fun hb => ?_)
    · have e := u48.1 hb
      subst e
      refine Ev.step (fun k => by rw [impl_endBinary.j1]) ?_
      rw [bt_zero, hd]
      refine ev_neg (by decide) (ev_pos (by omega) (ev_neg (by decide) (ev_pos (by omega) ?_)))
      rw [w64p (by omega)]
      have := impl_endBinary_loop l n (by omega)
      simpa [scan] using this
    · have e : ¬ b = 48 := fun e => hb (u48.2 e)
      by_cases e2 : b = 49
      · subst e2
        refine Ev.step (fun k => by rw [impl_endBinary.j1]) ?_
        rw [bt_zero, hd]
        refine ev_neg (by decide) (ev_pos (by omega) (ev_pos (by decide) (ev_pos (by omega) ?_)))
        rw [w64s (by omega)]
        have := impl_endBinary_loop l (n + 2) (by omega)
        rw [show scan (49 :: l) (n + 1) = scan l (n + 2) by simp [scan]]
        exact this
      · refine Ev.step (fun k => by rw [impl_endBinary.j1]) ?_
        refine ev_pos ?_ (ev_now ?_)
        · rw [bne_iff_ne]
          exact fun h => e2 (u49.1 h)
        · simp only [scan]
          rw [if_neg e2, if_neg e]; rfl
theorem impl_endBinary_ev (l : List UInt8) (h : l.length ≤ 1048576) : Ev (fun k => impl_endBinary.f k (B l)) (outB (scan l 1)) := by
  unfold impl_endBinary.f
  exact impl_endBinary_loop l 1 (by omega)
def outN (n : Nat) : Option (List UInt8) → Int
  | some s => ((n - s.length : Nat) : Int)
  | none => -1
theorem spec_l03End_loop (w : List UInt8) (hw : w.length ≤ 1048576) : ∀ (l : List UInt8) (n i : Nat), l.length + n < 4611686018427387904 → w.drop i = l → i ≤ w.length → Ev (fun k => spec_l03End.l0 k (B w) (i : Int) (n : Int)) (outN w.length (scan l n))
  | l, 0, i, _, hd, hi => by
    refine Ev.step (fun k => by rw [spec_l03End.l0]) ?_
    refine ev_neg (by omega) ?_
    have e : scan l 0 = some l := by cases l <;> rfl
    rw [e]
    refine ev_now ?_
    have := congrArg List.length hd
    rw [List.length_drop] at this
    simp only [outN]; omega
  | [], n + 1, i, _, hd, hi => by
    have hl := congrArg List.length hd
    simp only [List.length_drop, List.length_nil] at hl
    refine Ev.step (fun k => by rw [spec_l03End.l0]) ?_
    refine ev_pos (by omega) (ev_pos (by rw [B_size]; omega) ?_)
    refine Ev.step (fun k => by rw [spec_l03End.j1]) ?_
    exact ev_pos rfl (Ev.now _)
  | b :: l, n + 1, i, h, hd, hi => by
    have hl := congrArg List.length hd
    simp only [List.length_drop, List.length_cons] at hl h
    have hlt : i < w.length := by omega
    rw [List.drop_eq_getElem_cons hlt] at hd
    obtain ⟨hb, hd2⟩ := List.cons.inj hd
    have hg : bt (B w) (i : Int) = (b.toNat : Int) := by rw [bt_B hlt, hb]
    have hs : (B w).size = w.length := B_size w
    refine Ev.step (fun k => by rw [spec_l03End.l0]) ?_
    refine ev_pos (by omega) (ev_neg (by omega) (ev_pos (by omega) (ev_pos (by omega) ?_)))
    rw [hg]
    refine ev_ite (fun hx => ?_) (fun hx => ?_)
    · have e := u48.1 hx
      subst e
      refine Ev.step (fun k => by rw [spec_l03End.j1]) ?_
      rw [hg]
      refine ev_neg (by decide) (ev_pos (by omega) (ev_pos (by omega) (ev_neg (by decide) ?_)))
      rw [w64p (by omega), w64s (by omega)]
      have := spec_l03End_loop w hw l n (i + 1) (by omega) hd2 (by omega)
      simpa [scan] using this
    · have e : ¬ b = 48 := fun e => hx (u48.2 e)
      by_cases e2 : b = 49
      · subst e2
        refine Ev.step (fun k => by rw [spec_l03End.j1]) ?_
        rw [hg]
        refine ev_neg (by decide) (ev_pos (by omega) (ev_pos (by omega) (ev_pos (by decide) ?_)))
        rw [w64s (by omega), w64s (by omega)]
        have := spec_l03End_loop w hw l (n + 2) (i + 1) (by omega) hd2 (by omega)
        rw [show scan (49 :: l) (n + 1) = scan l (n + 2) by simp [scan]]
        exact this
      · refine Ev.step (fun k => by rw [spec_l03End.j1]) ?_
        refine ev_pos ?_ (ev_now ?_)
        · rw [bne_iff_ne]
          exact fun h => e2 (u49.1 h)
        · simp only [scan]
          rw [if_neg e2, if_neg e]; rfl
theorem spec_l03End_ev (w : List UInt8) (hw : w.length ≤ 1048576) (i : Nat) (hi : i ≤ w.length) : Ev (fun k => spec_l03End.f k (B w) (i : Int)) (outN w.length (scan (w.drop i) 1)) := by
  unfold spec_l03End.f
  exact spec_l03End_loop w hw (w.drop i) 1 i (by simp; omega) rfl hi
theorem impl_IsBinary_ev (l : List UInt8) : Ev (fun k => impl_IsBinary.f k (B l)) (isBin l) := by
  unfold impl_IsBinary.f isBin
  rw [B_size]
  refine ev_ite (fun h => ?_) (fun h => ?_)
  · rw [if_pos (by omega)]; exact Ev.now _
  · rw [if_neg (by omega)]
    refine Ev.bind (impl_endBinary_ev l (by omega)) ?_
    cases hs : scan l 1 with
    | none => exact ev_neg (by simp [outB]) (Ev.now _)
    | some s =>
      refine ev_pos rfl (ev_now ?_)
      simp only [outB, toList_B]
      cases s <;> rfl
theorem spec_l03Is_ev (l : List UInt8) : Ev (fun k => spec_l03Is.f k (B l)) (isBin l) := by
  unfold spec_l03Is.f isBin
  rw [B_size]
  refine ev_ite (fun h => ?_) (fun h => ?_)
  · rw [if_neg (by omega)]
    refine Ev.bind (spec_l03End_ev l (by omega) 0 (by omega)) (ev_now ?_)
    rw [List.drop_zero]
    cases hs : scan l 1 with
    | none => simp only [outN]; rw [beq_eq_false_iff_ne]; omega
    | some s =>
      have hl := scan_len l 1 s hs
      simp only [outN]
      cases s with
      | nil => simp
      | cons x s =>
        simp only [List.length_cons] at hl ⊢
        rw [beq_eq_false_iff_ne]; omega
  · rw [if_pos (by omega)]; exact Ev.now _
theorem nodesOf_ev (t : BT) (h : nodes t ≤ 1000) : impl_nodesOf.f (B (enc t)) = some (nodes t : Int) := by
  unfold impl_nodesOf.f
  rw [B_size, enc_length, w64 (by omega) (by omega)]
  congr 1
  omega
theorem l03N_ev (t : BT) (h : nodes t ≤ 1000) : spec_l03N.f (B (enc t)) = some (nodes t : Int) := nodesOf_ev t h
theorem impl_sides_ev (l r : BT) (h : nodes l + nodes r ≤ 1000) : Ev (fun k => impl_sides.f k (B (enc (.node l r)))) (B (enc l), B (enc r)) := by
  have hs : (B (enc (.node l r))).size = 2 * nodes l + 2 * nodes r + 3 := by rw [B_size, enc_length]; simp only [nodes]; omega
  have hd : (B (enc (.node l r))).extract 1 (B (enc (.node l r))).size = B (enc l ++ enc r) := by rw [B_drop]; rfl
  have hl := enc_length l
  have hr := enc_length r
  have hw : (enc (.node l r)).length = 2 * nodes l + 2 * nodes r + 3 := by rw [enc_length]; simp only [nodes]; omega
  unfold impl_sides.f
  rw [hd]
  refine ev_pos (by omega) (Ev.bind (impl_endBinary_ev _ (by simp; omega)) ?_)
  rw [scan_one l (enc r)]
  simp only [outB, B_size, hr, hw]
  rw [w64 (by omega) (by omega)]
  refine ev_pos (by omega) (ev_pos (by omega) (ev_now ?_))
  rw [B_extract, show (((2 * nodes l + 2 * nodes r + 3 : Nat) : Int) - ((2 * nodes r + 1 : Nat) : Int)).toNat - 1 = (enc l).length by omega]
  congr 2
  show (enc l ++ enc r).take (enc l).length = enc l
  simp
theorem spec_l03Sides_ev (l r : BT) (h : nodes l + nodes r ≤ 1000) : Ev (fun k => spec_l03Sides.f k (B (enc (.node l r)))) (B (enc l), B (enc r)) := by
  have hw : (enc (.node l r)).length = 2 * nodes l + 2 * nodes r + 3 := by rw [enc_length]; simp only [nodes]; omega
  have hl := enc_length l
  have hr := enc_length r
  unfold spec_l03Sides.f
  have hE := spec_l03End_ev (enc (.node l r)) (by omega) 1 (by omega)
  have hd : (enc (.node l r)).drop 1 = enc l ++ enc r := rfl
  rw [hd, scan_one l (enc r)] at hE
  have e : outN (enc (.node l r)).length (some (enc r)) = ((2 * nodes l + 2 : Nat) : Int) := by simp only [outN]; rw [hw, hr]; omega
  rw [e] at hE
  refine Ev.bind hE (ev_pos (by omega) (ev_pos (by rw [B_size]; omega) (ev_pos (by omega) (ev_now ?_))))
  rw [B_drop, B_extract, hd, show (((2 * nodes l + 2 : Nat) : Int)).toNat = (enc l).length + 1 by omega]
  rw [show (enc (.node l r)).drop ((enc l).length + 1) = (enc l ++ enc r).drop (enc l).length by rfl]
  simp
end Go.Proofs.Ythbdbgoeaichcaa.E
namespace Go.Proofs.Ythbdbgoeaichcaa.Tree
set_option linter.unusedVariables false
set_option linter.unusedSectionVars false

def nd (d : List Int) : Nat → Int
  | 0 => 1
  | i + 1 => nd d i + d.getD i 0 - 1

structure IsT (d : List Int) : Prop where
  pos : ∀ i, i < d.length → 0 < nd d i
  deg : ∀ i, i < d.length → 0 ≤ d.getD i 0
  fin : nd d d.length = 0

def skip (d : List Int) : Nat → Int → Nat → Nat
  | 0, _, v => v
  | f + 1, need, v => if need > 0 then skip d f (need + (d.getD v 0 - 1)) (v + 1) else v
def endM (d : List Int) (v : Nat) : Nat := skip d (d.length - v) 1 v

theorem IsT.len {d : List Int} (h : IsT d) : 0 < d.length := by
  rcases Nat.eq_zero_or_pos d.length with h0 | h0
  · have := h.fin
    rw [h0] at this
    simp [nd] at this
  · exact h0

theorem skip_spec {d : List Int} (h : IsT d) {v : Nat} (hv : v < d.length) : ∀ (f u : Nat), u + f = d.length → v ≤ u → (∀ j, v < j → j < u → nd d v ≤ nd d j) →
    (u = v ∨ nd d v - 1 ≤ nd d u) →
    v < skip d f (1 + nd d u - nd d v) u ∧ skip d f (1 + nd d u - nd d v) u ≤ d.length ∧ nd d (skip d f (1 + nd d u - nd d v) u) = nd d v - 1 ∧ ∀ j, v < j → j < skip d f (1 + nd d u - nd d v) u → nd d v ≤ nd d j := by
  intro f
  induction f with
  | zero =>
    intro u hf hvu hj hu
    have hn : u = d.length := by omega
    have h1 := h.fin
    have h2 := h.pos v hv
    subst hn
    simp only [skip]
    refine ⟨hv, Nat.le_refl _, ?_, hj⟩
    rcases hu with hu | hu
    · omega
    · omega
  | succ f ih =>
    intro u hf hvu hj hu
    have hlt : u < d.length := by omega
    simp only [skip]
    by_cases hn : 1 + nd d u - nd d v > 0
    · rw [if_pos hn]
      have e : 1 + nd d u - nd d v + (d.getD u 0 - 1) = 1 + nd d (u + 1) - nd d v := by simp only [nd]; omega
      rw [e]
      refine ih (u + 1) (by omega) (by omega) (fun j h1 h2 => ?_) (.inr ?_)
      · by_cases hju : j = u
        · subst hju; omega
        · exact hj j h1 (by omega)
      · have := h.deg u hlt
        simp only [nd]; omega
    · rw [if_neg hn]
      rcases hu with hu | hu
      · subst hu; omega
      · have hne : v ≠ u := by intro e; subst e; omega
        exact ⟨by omega, by omega, by omega, hj⟩

section
variable {d : List Int} (h : IsT d)
include h
theorem end_spec {v : Nat} (hv : v < d.length) : v < endM d v ∧ endM d v ≤ d.length ∧ nd d (endM d v) = nd d v - 1 ∧ ∀ j, v < j → j < endM d v → nd d v ≤ nd d j := by
  have := skip_spec h hv (d.length - v) v (by omega) (Nat.le_refl _) (fun j h1 h2 => by omega) (.inl rfl)
  have e : 1 + nd d v - nd d v = 1 := by omega
  rw [e] at this
  exact this
theorem end_gt {v : Nat} (hv : v < d.length) : v < endM d v := (end_spec h hv).1
theorem end_le {v : Nat} (hv : v < d.length) : endM d v ≤ d.length := (end_spec h hv).2.1
theorem end_unique {v e : Nat} (hv : v < d.length) (h1 : v < e) (h2 : nd d e < nd d v) (h3 : ∀ j, v < j → j < e → nd d v ≤ nd d j) : e = endM d v := by
  have ⟨a, b, c, k⟩ := end_spec h hv
  rcases Nat.lt_trichotomy e (endM d v) with hl | hl | hl
  · have := k e h1 hl; omega
  · exact hl
  · have := h3 _ a hl; omega
theorem end_root : endM d 0 = d.length := by
  refine (end_unique h h.len h.len ?_ (fun j h1 h2 => ?_)).symm
  · rw [h.fin]; simp [nd]
  · have := h.pos j h2; simp only [nd]; omega
theorem nd_le {i : Nat} (hi : i ≤ d.length) : nd d i ≤ d.length - i := by
  obtain ⟨k, hk⟩ : ∃ k, i + k = d.length := ⟨d.length - i, by omega⟩
  induction k generalizing i with
  | zero => have := h.fin; have e : i = d.length := by omega
            subst e; omega
  | succ k ih =>
    have := ih (i := i + 1) (by omega) (by omega)
    have h1 := h.deg i (by omega)
    simp only [nd] at this
    omega
theorem nd_nonneg {i : Nat} (hi : i ≤ d.length) : 0 ≤ nd d i := by
  rcases Nat.lt_or_ge i d.length with hl | hl
  · have := h.pos i hl; omega
  · have e : i = d.length := by omega
    have := h.fin
    subst e; omega
theorem deg_le {v : Nat} (hv : v < d.length) : d.getD v 0 < d.length - v := by
  have h1 := nd_le h (i := v + 1) (by omega)
  have h2 := h.pos v hv
  simp only [nd] at h1
  omega
end

def kidsFrom (d : List Int) : Nat → Nat → List Nat
  | 0, _ => []
  | m + 1, c => c :: kidsFrom d m (endM d c)
def kidsM (d : List Int) (v : Nat) : List Nat := kidsFrom d (d.getD v 0).toNat (v + 1)
inductive Run (d : List Int) : Nat → Nat → Nat → Prop
  | nil (c : Nat) : Run d 0 c c
  | cons {m c e : Nat} : c < d.length → Run d m (endM d c) e → Run d (m + 1) c e

section
variable {d : List Int} (h : IsT d)
include h
theorem run_of {v : Nat} (hv : v < d.length) : ∀ (m c : Nat), v < c → c ≤ d.length → nd d c = nd d v - 1 + m → (∀ j, v < j → j < c → nd d v ≤ nd d j) → Run d m c (endM d v)
  | 0, c, h1, h2, h3, h4 => by
    have e := end_unique h hv h1 (by omega) h4
    rw [← e]
    exact .nil c
  | m + 1, c, h1, h2, h3, h4 => by
    have hc : c < d.length := by
      rcases Nat.lt_or_ge c d.length with hl | hl
      · exact hl
      · have e : c = d.length := by omega
        have := h.fin
        have h0 := h.pos v hv
        subst e; omega
    have a := end_spec h hc
    refine .cons hc (run_of hv m _ (by omega) a.2.1 (by omega) (fun j hj1 hj2 => ?_))
    rcases Nat.lt_trichotomy j c with hl | hl | hl
    · exact h4 j hj1 hl
    · subst hl; omega
    · have := a.2.2.2 j hl hj2; omega
theorem run_kids {v : Nat} (hv : v < d.length) : Run d (d.getD v 0).toNat (v + 1) (endM d v) := by
  have h0 := h.deg v hv
  refine run_of h hv _ _ (by omega) (by omega) ?_ (fun j h1 h2 => by omega)
  simp only [nd]; omega
theorem run_bd {m c e : Nat} (r : Run d m c e) : c ≤ e := by
  induction r with
  | nil c => exact Nat.le_refl _
  | cons hc _ ih => have := end_gt h hc; omega
end
section
variable {d : List Int} (h : IsT d)
include h
end

def parUp (d : List Int) (c : Nat) : Nat → Nat
  | 0 => 0
  | v + 1 => if c < endM d v then v else parUp d c v
def par (d : List Int) (c : Nat) : Nat := parUp d c c
section
variable {d : List Int} (h : IsT d)
include h
end

def below (d : List Int) (v w : Nat) : Prop := w ≤ v ∧ v < endM d w
instance (d : List Int) (v w : Nat) : Decidable (below d v w) := inferInstanceAs (Decidable (_ ∧ _))
section
variable {d : List Int} (h : IsT d)
include h
end
end Go.Proofs.Ythbdbgoeaichcaa.Tree
namespace Go.Proofs.Ythbdbgoeaichcaa.E
set_option linter.unusedVariables false
set_option linter.unusedSectionVars false
open Go.RowKit Go.Proofs.YthbdbgoeaichcaaW.PrintWords Go.Proofs.Ythbdbgoeaichcaa.Base Go.Proofs.Ythbdbgoeaichcaa.Tree

theorem l01In_ev (a b c : Int) : spec_l01In.f a b c = some (decide (b ≤ a) && decide (a ≤ c)) := by
  unfold spec_l01In.f
  by_cases h : a ≥ b
  · rw [if_pos h]; simp [show b ≤ a from h]
  · rw [if_neg h]; simp [show ¬ b ≤ a from h]
theorem l01N_ev (d : List Int) : spec_l01N.f d = some (d.length : Int) := rfl

def treeGo (d : List Int) (top : Int) : Nat → Nat → Int → Bool
  | 0, _, need => need == 0
  | m + 1, i, need => if need = 0 then false else if d.getD i 0 < 0 ∨ top < d.getD i 0 then false else treeGo d top m (i + 1) (need + d.getD i 0 - 1)
def isTreeM (d : List Int) : Bool := if d.length < 1 ∨ 24 < d.length then false else treeGo d 23 d.length 0 1
theorem treeGo_far (d : List Int) (top : Int) : ∀ (m i : Nat) (need : Int), (m : Int) < need → treeGo d top m i need = false
  | 0, i, need, h => by
    have hne : need ≠ 0 := by omega
    simp [treeGo, hne]
  | m + 1, i, need, h => by
    simp only [treeGo]
    rw [if_neg (by omega)]
    split
    · rfl
    · exact treeGo_far d top m (i + 1) _ (by omega)
theorem treeGo_top (d : List Int) : ∀ (m i : Nat) (need : Int), m ≤ 24 → 0 ≤ need → treeGo d 24 m i need = treeGo d 23 m i need
  | 0, i, need, _, _ => rfl
  | m + 1, i, need, h, h0 => by
    simp only [treeGo]
    by_cases hn : need = 0
    · rw [if_pos hn, if_pos hn]
    · rw [if_neg hn, if_neg hn]
      by_cases h1 : d.getD i 0 < 0 ∨ 24 < d.getD i 0
      · rw [if_pos h1, if_pos (by omega)]
      · rw [if_neg h1]
        by_cases h2 : d.getD i 0 = 24
        · rw [if_pos (by omega)]
          exact treeGo_far d 24 m (i + 1) _ (by omega)
        · rw [if_neg (by omega)]
          exact treeGo_top d m (i + 1) _ (by omega) (by omega)
theorem treeGo_sound (d : List Int) (top : Int) : ∀ (m i : Nat), i + m = d.length → 0 ≤ nd d i → treeGo d top m i (nd d i) = true → (∀ j, i ≤ j → j < d.length → 0 < nd d j ∧ 0 ≤ d.getD j 0) ∧ nd d d.length = 0
  | 0, i, h, h0, ht => by
    simp only [treeGo, beq_iff_eq] at ht
    have e : i = d.length := by omega
    subst e
    exact ⟨fun j h1 h2 => by omega, ht⟩
  | m + 1, i, h, h0, ht => by
    simp only [treeGo] at ht
    split at ht
    · cases ht
    · split at ht
      · cases ht
      · have e : nd d i + d.getD i 0 - 1 = nd d (i + 1) := rfl
        rw [e] at ht
        have ih := treeGo_sound d top m (i + 1) (by omega) (by rw [← e]; omega) ht
        refine ⟨fun j h1 h2 => ?_, ih.2⟩
        by_cases hj : j = i
        · subst hj; exact ⟨by omega, by omega⟩
        · exact ih.1 j (by omega) h2
theorem isTreeM_sound {d : List Int} (h : isTreeM d = true) : IsT d ∧ d.length ≤ 24 := by
  unfold isTreeM at h
  split at h
  · cases h
  · have := treeGo_sound d 23 d.length 0 (by omega) (by simp [nd]) (by simpa [nd] using h)
    exact ⟨⟨fun i hi => (this.1 i (Nat.zero_le _) hi).1, fun i hi => (this.1 i (Nat.zero_le _) hi).2, this.2⟩, by omega⟩
theorem impl_isTree_loop (d : List Int) (hn : d.length ≤ 24) : ∀ (m i : Nat) (need : Int), i + m = d.length → 0 ≤ need → need ≤ 1 + 24 * i → Ev (fun k => impl_isTree.l0 k need d (d.length : Int) (i : Int)) (treeGo d 23 m i need)
  | 0, i, need, h, h0, h1 => by
    refine Ev.step (fun k => by rw [impl_isTree.l0]) ?_
    exact ev_neg (by omega) (Ev.now _)
  | m + 1, i, need, h, h0, h1 => by
    refine Ev.step (fun k => by rw [impl_isTree.l0]) ?_
    refine ev_pos (by omega) (ev_pos (by omega) (ev_pos (by omega) ?_))
    simp only [treeGo, rd_nat]
    refine ev_ite (fun hx => ?_) (fun hx => ?_)
    · rw [if_pos hx]; exact Ev.now _
    · rw [if_neg hx]
      refine ev_ite (fun hy => ?_) (fun hy => ?_)
      · rw [if_pos (.inl hy)]; exact Ev.now _
      · refine ev_ite (fun hz => ?_) (fun hz => ?_)
        · rw [if_pos (.inr (by omega))]; exact Ev.now _
        · rw [if_neg (by omega), w64s (by omega), w64 (x := d.getD i 0 - 1) (by omega) (by omega), w64 (by omega) (by omega), show need + (d.getD i 0 - 1) = need + d.getD i 0 - 1 by omega]
          exact impl_isTree_loop d hn m (i + 1) _ (by omega) (by omega) (by omega)
theorem impl_isTree_ev (d : List Int) : Ev (fun k => impl_isTree.f k d) (isTreeM d) := by
  unfold impl_isTree.f isTreeM
  refine ev_ite (fun h => ?_) (fun h => ?_)
  · rw [if_pos (.inl (by omega))]
    refine Ev.step (fun k => by rw [impl_isTree.j0]) ?_
    exact ev_pos rfl (Ev.now _)
  · by_cases h2 : 24 < d.length
    · rw [if_pos (.inr h2), decide_eq_true (by omega)]
      refine Ev.step (fun k => by rw [impl_isTree.j0]) ?_
      exact ev_pos rfl (Ev.now _)
    · rw [if_neg (by omega), decide_eq_false (by omega)]
      refine Ev.step (fun k => by rw [impl_isTree.j0]) ?_
      exact ev_neg (by decide) (impl_isTree_loop d (by omega) d.length 0 1 (by omega) (by omega) (by omega))
theorem impl_IsTree_ev (d : List Int) : Ev (fun k => impl_IsTree.f k d) (isTreeM d) := by
  unfold impl_IsTree.f
  exact Ev.bind (impl_isTree_ev d) (Ev.now _)
theorem spec_l01Is_loop (d : List Int) (hn : d.length ≤ 24) : ∀ (m i : Nat) (need : Int), i + m = d.length → 0 ≤ need → need ≤ 1 + 24 * i → Ev (fun k => spec_l01Is.l0 k need (i : Int) d) (treeGo d 24 m i need)
  | 0, i, need, h, h0, h1 => by
    refine Ev.step (fun k => by rw [spec_l01Is.l0]) ?_
    exact ev_neg (by omega) (Ev.now _)
  | m + 1, i, need, h, h0, h1 => by
    refine Ev.step (fun k => by rw [spec_l01Is.l0]) ?_
    refine ev_pos (by omega) ?_
    simp only [treeGo, rd_nat, l01In_ev]
    refine ev_ite (fun hx => ?_) (fun hx => ?_)
    · rw [if_pos hx]; exact Ev.now _
    · rw [if_neg hx]
      refine ev_pos (by omega) (ev_some ?_)
      refine ev_ite (fun hy => ?_) (fun hy => ?_)
      · rw [Bool.and_eq_true, decide_eq_true_eq, decide_eq_true_eq] at hy
        rw [if_neg (by omega), w64s (by omega), w64 (x := need - 1) (by omega) (by omega), w64 (by omega) (by omega), show need - 1 + d.getD i 0 = need + d.getD i 0 - 1 by omega]
        exact spec_l01Is_loop d hn m (i + 1) _ (by omega) (by omega) (by omega)
      · rw [Bool.and_eq_true, decide_eq_true_eq, decide_eq_true_eq] at hy
        rw [if_pos (by omega)]; exact Ev.now _
theorem spec_l01Is_ev (d : List Int) (hd : d.length ≤ 1048576) : Ev (fun k => spec_l01Is.f k d) (isTreeM d) := by
  unfold spec_l01Is.f isTreeM
  simp only [l01N_ev, l01In_ev]
  refine ev_some (ev_some ?_)
  refine ev_ite (fun h => ?_) (fun h => ?_)
  · rw [Bool.and_eq_true, decide_eq_true_eq, decide_eq_true_eq] at h
    rw [if_neg (by omega), ← treeGo_top d d.length 0 1 (by omega) (by omega)]
    exact spec_l01Is_loop d (by omega) d.length 0 1 (by omega) (by omega) (by omega)
  · rw [Bool.and_eq_true, decide_eq_true_eq, decide_eq_true_eq] at h
    rw [if_pos (by omega)]; exact Ev.now _

section
variable {d : List Int} (h : IsT d) (hn : d.length ≤ 1000)
include h hn
theorem impl_endOf_loop {v : Nat} (hv : v < d.length) : ∀ (f u : Nat), u + f = d.length → v ≤ u → Ev (fun k => impl_endOf.l0 k d (u : Int) (1 + nd d u - nd d v)) (skip d f (1 + nd d u - nd d v) u : Int) := by
  have b : ∀ u, u ≤ d.length → 0 ≤ nd d u ∧ nd d u ≤ 1000 := fun u hu => ⟨nd_nonneg h hu, by have := nd_le h hu; omega⟩
  intro f
  induction f with
  | zero =>
    intro u hf hu
    have e : u = d.length := by omega
    have h1 := h.fin
    have h2 := h.pos v hv
    refine Ev.step (fun k => by rw [impl_endOf.l0]) ?_
    refine ev_neg (by subst e; omega) (ev_now ?_)
    simp [skip]
  | succ f ih =>
    intro u hf hu
    have b1 := b u (by omega)
    have b2 := b v (by omega)
    have b3 := b (u + 1) (by omega)
    have e : 1 + nd d u - nd d v + (d.getD u 0 - 1) = 1 + nd d (u + 1) - nd d v := by simp only [nd]; omega
    have e2 : nd d (u + 1) = nd d u + d.getD u 0 - 1 := rfl
    refine Ev.step (fun k => by rw [impl_endOf.l0]) ?_
    simp only [skip, rd_nat]
    refine ev_ite (fun hx => ?_) (fun hx => ?_)
    · rw [if_pos hx]
      refine ev_pos (by omega) (ev_pos (by omega) ?_)
      rw [w64s (by omega), w64 (x := d.getD u 0 - 1) (by omega) (by omega), w64 (by omega) (by omega), e]
      exact ih (u + 1) (by omega) (by omega)
    · rw [if_neg hx]; exact Ev.now _
theorem impl_endOf_ev {v : Nat} (hv : v < d.length) : Ev (fun k => impl_endOf.f k d (v : Int)) (endM d v : Int) := by
  have := impl_endOf_loop h hn hv (d.length - v) v (by omega) (Nat.le_refl _)
  rw [show 1 + nd d v - nd d v = 1 by omega] at this
  exact this
theorem spec_l01End_loop {v : Nat} (hv : v < d.length) : ∀ (f u : Nat), u + f = d.length → v ≤ u → Ev (fun k => spec_l01End.l0 k (u : Int) (1 + nd d u - nd d v) d) (skip d f (1 + nd d u - nd d v) u : Int) := by
  have b : ∀ u, u ≤ d.length → 0 ≤ nd d u ∧ nd d u ≤ 1000 := fun u hu => ⟨nd_nonneg h hu, by have := nd_le h hu; omega⟩
  intro f
  induction f with
  | zero =>
    intro u hf hu
    have e : u = d.length := by omega
    have h1 := h.fin
    have h2 := h.pos v hv
    refine Ev.step (fun k => by rw [spec_l01End.l0]) ?_
    refine ev_neg (by subst e; omega) (ev_now ?_)
    simp [skip]
  | succ f ih =>
    intro u hf hu
    have b1 := b u (by omega)
    have b2 := b v (by omega)
    have b3 := b (u + 1) (by omega)
    have e : 1 + nd d u - nd d v - 1 + d.getD u 0 = 1 + nd d (u + 1) - nd d v := by simp only [nd]; omega
    have e1 : 1 + nd d u - nd d v + (d.getD u 0 - 1) = 1 + nd d (u + 1) - nd d v := by simp only [nd]; omega
    have e2 : nd d (u + 1) = nd d u + d.getD u 0 - 1 := rfl
    refine Ev.step (fun k => by rw [spec_l01End.l0]) ?_
    simp only [skip, rd_nat]
    refine ev_ite (fun hx => ?_) (fun hx => ?_)
    · rw [if_pos hx]
      refine ev_pos (by omega) (ev_pos (by omega) ?_)
      rw [w64s (by omega), w64 (x := 1 + nd d u - nd d v - 1) (by omega) (by omega), w64 (by omega) (by omega), e, e1]
      exact ih (u + 1) (by omega) (by omega)
    · rw [if_neg hx]; exact Ev.now _
theorem spec_l01End_ev {v : Nat} (hv : v < d.length) : Ev (fun k => spec_l01End.f k d (v : Int)) (endM d v : Int) := by
  have := spec_l01End_loop h hn hv (d.length - v) v (by omega) (Nat.le_refl _)
  rw [show 1 + nd d v - nd d v = 1 by omega] at this
  exact this
end
def castL (l : List Nat) : List Int := List.map (fun x : Nat => ((x : Nat) : Int)) l
section
variable {d : List Int} (h : IsT d) (hn : d.length ≤ 1000)
include h hn
theorem impl_kidsOf_loop {n m c e : Nat} (r : Run d m c e) (hc : c < 9223372036854775807) : ∀ (acc : List Int) (j : Nat), j + m = n → n ≤ 1000 → acc.length + m ≤ 1000 → Ev (fun k => impl_kidsOf.l0 k d acc (c : Int) (n : Int) (j : Int)) (acc ++ castL (kidsFrom d m c)) := by
  induction r with
  | nil c =>
    intro acc j h1 h2 h3
    refine Ev.step (fun k => by rw [impl_kidsOf.l0]) ?_
    exact ev_neg (by omega) (ev_now (by simp [kidsFrom, castL]))
  | @cons m c e hlt r ih =>
    intro acc j h1 h2 h3
    refine Ev.step (fun k => by rw [impl_kidsOf.l0]) ?_
    refine ev_pos (by omega) (ev_pos (by omega) (Ev.bind (impl_endOf_ev h hn hlt) ?_))
    rw [w64s (by omega)]
    have hle := end_le h hlt
    have := ih (by omega) (acc ++ [(c : Int)]) (j + 1) (by omega) h2 (by simp; omega)
    simpa [kidsFrom, castL] using this
theorem impl_kidsOf_ev {v : Nat} (hv : v < d.length) : Ev (fun k => impl_kidsOf.f k d (v : Int)) (castL (kidsM d v)) := by
  have h0 := h.deg v hv
  have h1 := deg_le h hv
  unfold impl_kidsOf.f
  refine ev_pos (by omega) (ev_pos (by omega) ?_)
  rw [w64s (by omega), rd_nat]
  have := impl_kidsOf_loop h hn (n := (d.getD v 0).toNat) (run_kids h hv) (by omega) [] 0 (by omega) (by omega) (by simp only [List.length_nil]; omega)
  rw [show (((d.getD v 0).toNat : Nat) : Int) = d.getD v 0 by omega] at this
  simpa [kidsM] using this
theorem spec_l01Children_loop {m c e : Nat} (r : Run d m c e) (hc : c < 9223372036854775807) : ∀ (acc : List Int), m ≤ 1000 → acc.length + m ≤ 1000 → Ev (fun k => spec_l01Children.l0 k acc (c : Int) (m : Int) d) (acc ++ castL (kidsFrom d m c)) := by
  induction r with
  | nil c =>
    intro acc h2 h3
    refine Ev.step (fun k => by rw [spec_l01Children.l0]) ?_
    exact ev_neg (by omega) (ev_now (by simp [kidsFrom, castL]))
  | @cons m c e hlt r ih =>
    intro acc h2 h3
    refine Ev.step (fun k => by rw [spec_l01Children.l0]) ?_
    refine ev_pos (by omega) (ev_pos (by omega) (Ev.bind (spec_l01End_ev h hn hlt) ?_))
    rw [w64p (by omega)]
    have hle := end_le h hlt
    have := ih (by omega) (acc ++ [(c : Int)]) (by omega) (by simp; omega)
    simpa [kidsFrom, castL] using this
theorem spec_l01Children_ev {v : Nat} (hv : v < d.length) : Ev (fun k => spec_l01Children.f k d (v : Int)) (castL (kidsM d v)) := by
  have h0 := h.deg v hv
  have h1 := deg_le h hv
  unfold spec_l01Children.f
  refine ev_pos (by omega) (ev_pos (by omega) ?_)
  rw [w64s (by omega), rd_nat]
  have := spec_l01Children_loop h hn (run_kids h hv) (by omega) [] (by omega) (by simp only [List.length_nil]; omega)
  rw [show (((d.getD v 0).toNat : Nat) : Int) = d.getD v 0 by omega] at this
  simpa [kidsM] using this
end
end Go.Proofs.Ythbdbgoeaichcaa.E
namespace Go.Proofs.Ythbdbgoeaichcaa.E
set_option linter.unusedVariables false
set_option linter.unusedSectionVars false
open Go.RowKit Go.Proofs.YthbdbgoeaichcaaW.PrintWords Go.Proofs.Ythbdbgoeaichcaa.Base

def lenTo (xs : List (List Int)) : Nat → Nat
  | 0 => 0
  | v + 1 => lenTo xs v + (xs.getD v []).length
theorem lenTo_mono (xs : List (List Int)) : ∀ {v w : Nat}, v ≤ w → lenTo xs v ≤ lenTo xs w
  | v, 0, h => by
    have e : v = 0 := by omega
    subst e; exact Nat.le_refl _
  | v, w + 1, h => by
    by_cases e : v = w + 1
    · subst e; exact Nat.le_refl _
    · have := lenTo_mono xs (v := v) (w := w) (by omega)
      simp only [lenTo]; omega
theorem take_flat (xs : List (List Int)) (v : Nat) (hv : v < xs.length) : (xs.take (v + 1)).flatten = (xs.take v).flatten ++ xs.getD v [] := by
  rw [← List.take_append_getElem hv, List.flatten_append, List.getD_eq_getElem?_getD, List.getElem?_eq_getElem hv]
  simp
theorem lenTo_flat (xs : List (List Int)) : ∀ v : Nat, v ≤ xs.length → (xs.take v).flatten.length = lenTo xs v
  | 0, _ => by simp [lenTo]
  | v + 1, h => by
    rw [take_flat xs v (by omega), List.length_append, lenTo_flat xs v (by omega)]; rfl
theorem slices_Concat_loop1 (xs : List (List Int)) (hx : xs.length ≤ 1048576) (hn : lenTo xs xs.length ≤ 1048576) : ∀ (m v : Nat), v + m = xs.length → Ev (fun k => slices_Concat_int64_int64.l1 k (xs.take v).flatten xs (xs.length : Int) (v : Int)) xs.flatten
  | 0, v, h => by
    refine Ev.step (fun k => by rw [slices_Concat_int64_int64.l1]) ?_
    refine ev_neg (by omega) (ev_now ?_)
    rw [List.take_of_length_le (by omega)]
  | m + 1, v, h => by
    have ih := slices_Concat_loop1 xs hx hn m (v + 1) (by omega)
    rw [take_flat xs v (by omega)] at ih
    have h1 := lenTo_mono xs (v := v + 1) (w := xs.length) (by omega)
    have h2 := lenTo_flat xs v (by omega)
    have e : rd_L2 xs (v : Int) = xs.getD v [] := rfl
    simp only [lenTo] at h1
    refine Ev.step (fun k => by rw [slices_Concat_int64_int64.l1]) ?_
    rw [e]
    refine ev_pos (by omega) (ev_pos (by omega) (ev_pos (by omega) (ev_pos (by omega) ?_)))
    rw [w64s (by omega)]
    exact ih
theorem slices_Concat_loop0 (xs : List (List Int)) (hx : xs.length ≤ 1048576) (hn : lenTo xs xs.length ≤ 1048576) : ∀ (m v : Nat), v + m = xs.length → Ev (fun k => slices_Concat_int64_int64.l0 k xs (lenTo xs v : Int) xs (xs.length : Int) (v : Int)) xs.flatten
  | 0, v, h => by
    have e : v = xs.length := by omega
    subst e
    refine Ev.step (fun k => by rw [slices_Concat_int64_int64.l0]) ?_
    refine ev_neg (by omega) ?_
    have hg : slices_Grow_int64_int64.f (lenTo xs xs.length : Int) = some [] := by
      unfold slices_Grow_int64_int64.f
      rw [if_pos ⟨by omega, by omega⟩]
    rw [hg]
    refine ev_some ?_
    exact slices_Concat_loop1 xs hx hn xs.length 0 (by omega)
  | m + 1, v, h => by
    have h1 := lenTo_mono xs (v := v + 1) (w := xs.length) (by omega)
    have e : rd_L2 xs (v : Int) = xs.getD v [] := rfl
    have ih := slices_Concat_loop0 xs hx hn m (v + 1) (by omega)
    have e2 : (lenTo xs v : Int) + ((xs.getD v []).length : Int) = (lenTo xs (v + 1) : Int) := by simp only [lenTo]; omega
    refine Ev.step (fun k => by rw [slices_Concat_int64_int64.l0]) ?_
    rw [e, e2, w64 (by omega) (by omega), w64s (by omega)]
    exact ev_pos (by omega) (ev_pos (by omega) (ev_pos (by omega) (ev_neg (by omega) ih)))
theorem slices_Concat_ev (xs : List (List Int)) (hx : xs.length ≤ 1048576) (hn : xs.flatten.length ≤ 1048576) : Ev (fun k => slices_Concat_int64_int64.f k xs) xs.flatten := by
  unfold slices_Concat_int64_int64.f
  have h := lenTo_flat xs xs.length (Nat.le_refl _)
  rw [List.take_of_length_le (Nat.le_refl _)] at h
  exact slices_Concat_loop0 xs hx (by omega) xs.length 0 (by omega)
end Go.Proofs.Ythbdbgoeaichcaa.E
namespace Go.Proofs.Ythbdbgoeaichcaa.E
set_option linter.unusedVariables false
set_option linter.unusedSectionVars false
open Go.RowKit Go.Proofs.YthbdbgoeaichcaaW.PrintWords Go.Proofs.Ythbdbgoeaichcaa.Base Go.Proofs.Ythbdbgoeaichcaa.Bin

theorem leaf_text : (B (enc .leaf)).toList = ([48] : List UInt8) := by rw [toList_B]; rfl
theorem node_text (l r : BT) : ¬ (B (enc (.node l r))).toList = ([48] : List UInt8) := by rw [toList_B]; simp [enc]
theorem spec_forest_ev : ∀ t : BT, nodes t ≤ 1000 → Ev (fun k => spec_l03Forest.f k (B (enc t))) ((forest t).2, (forest t).1)
  | .leaf, _ => by
    refine Ev.step (fun k => by rw [spec_l03Forest.f]) ?_
    exact ev_pos leaf_text (Ev.now _)
  | .node l r, h => by
    simp only [nodes] at h
    have h1 := forest_length l
    have h2 := forest_length r
    have h3 := forest_count r
    refine Ev.step (fun k => by rw [spec_l03Forest.f]) ?_
    refine ev_neg (node_text l r) (Ev.bind (spec_l03Sides_ev l r (by omega)) (Ev.bind (spec_forest_ev l (by omega)) (Ev.bind (spec_forest_ev r (by omega)) (ev_some (ev_pos (by simp; omega) (ev_some (ev_pos (by simp; omega) (ev_now ?_))))))))
    rw [w64 (by omega) (by omega)]
    simp [forest]
theorem impl_listOf_ev : ∀ t : BT, nodes t ≤ 1000 → Ev (fun k => impl_listOf.f k (B (enc t))) (forest t)
  | .leaf, _ => by
    refine Ev.step (fun k => by rw [impl_listOf.f]) ?_
    exact ev_pos leaf_text (Ev.now _)
  | .node l r, h => by
    simp only [nodes] at h
    have h1 := forest_length l
    have h2 := forest_length r
    have h3 := forest_count r
    refine Ev.step (fun k => by rw [impl_listOf.f]) ?_
    refine ev_neg (node_text l r) (Ev.bind (impl_sides_ev l r (by omega)) (Ev.bind (impl_listOf_ev l (by omega)) (Ev.bind (impl_listOf_ev r (by omega)) (Ev.bind (slices_Concat_ev _ (by simp) (by simp; omega)) (ev_now ?_)))))
    rw [w64 (by omega) (by omega)]
    simp [forest]
theorem both_TreeOfBinary (w : List UInt8) : ∃ r : List Int × Int, r.1.length ≤ 1048576 ∧ Ev (fun k => spec_TreeOfBinary.f k (B w)) r ∧ Ev (fun k => impl_TreeOfBinary.f k (B w)) r := by
  by_cases hw : isBin w = true
  · obtain ⟨t, rfl, ht⟩ := isBin_sound hw
    have h1 := forest_length t
    refine ⟨((forest t).1 :: (forest t).2, 0), by simp; omega, ?_, ?_⟩
    · unfold spec_TreeOfBinary.f
      exact Ev.bind (spec_l03Is_ev _) (ev_pos hw (Ev.bind (spec_forest_ev t (by omega)) (ev_some (ev_pos (by simp; omega) (Ev.now _)))))
    · unfold impl_TreeOfBinary.f
      exact Ev.bind (impl_IsBinary_ev _) (ev_pos hw (Ev.bind (impl_listOf_ev t (by omega)) (ev_some (ev_pos (by simp; omega) (Ev.now _)))))
  · refine ⟨([], 1), by simp, ?_, ?_⟩
    · unfold spec_TreeOfBinary.f
      exact Ev.bind (spec_l03Is_ev _) (ev_neg hw (Ev.now _))
    · unfold impl_TreeOfBinary.f
      exact Ev.bind (impl_IsBinary_ev _) (ev_neg hw (Ev.now _))
end Go.Proofs.Ythbdbgoeaichcaa.E
namespace Go.Proofs.Ythbdbgoeaichcaa.E
set_option linter.unusedVariables false
set_option linter.unusedSectionVars false
open Go.RowKit Go.Proofs.YthbdbgoeaichcaaW.PrintWords Go.Proofs.YthbdbgoeaichcaaW.PrintMore Go.Proofs.Ythbdbgoeaichcaa.Base Go.Proofs.Ythbdbgoeaichcaa.Bin

theorem leaf_textM : (B (enc .leaf)).toList = ([48] : List UInt8) := by rw [toList_B]; rfl
theorem node_textM (l r : BT) : ¬ (B (enc (.node l r))).toList = ([48] : List UInt8) := by rw [toList_B]; simp [enc]
theorem spec_vector_ev : ∀ t : BT, nodes t ≤ 1000 → Ev (fun k => spec_l03Vector.f k (B (enc t))) (vec t)
  | .leaf, _ => by
    refine Ev.step (fun k => by rw [spec_l03Vector.f]) ?_
    exact ev_pos leaf_textM (Ev.now _)
  | .node l r, h => by
    simp only [nodes] at h
    have h1 := vec_length l
    have h2 := vec_length r
    refine Ev.step (fun k => by rw [spec_l03Vector.f]) ?_
    refine ev_neg (node_textM l r) (Ev.bind (spec_l03Sides_ev l r (by omega)) (Ev.bind (spec_vector_ev l (by omega)) ?_))
    simp only [l03N_ev r (by omega)]
    refine ev_some (ev_pos (by omega) (ev_some (Ev.bind (spec_vector_ev r (by omega)) (ev_pos (by simp; omega) (ev_now ?_)))))
    simp [vec]
theorem impl_vector_ev : ∀ t : BT, nodes t ≤ 1000 → Ev (fun k => impl_vector.f k (B (enc t))) (vec t)
  | .leaf, _ => by
    refine Ev.step (fun k => by rw [impl_vector.f]) ?_
    exact ev_pos leaf_textM (Ev.now _)
  | .node l r, h => by
    simp only [nodes] at h
    have h1 := vec_length l
    have h2 := vec_length r
    refine Ev.step (fun k => by rw [impl_vector.f]) ?_
    refine ev_neg (node_textM l r) (Ev.bind (impl_sides_ev l r (by omega)) (Ev.bind (impl_vector_ev l (by omega)) ?_))
    simp only [nodesOf_ev r (by omega)]
    refine ev_some (Ev.bind (impl_vector_ev r (by omega)) (Ev.bind (slices_Concat_ev _ (by simp) (by simp; omega)) (ev_now ?_)))
    simp [vec]
theorem B_litM (l : List UInt8) : (⟨#[49]⟩ : ByteArray) ++ B l = B (49 :: l) := B_append [49] l
def bOf (x : List UInt8 × Bool) : ByteArray × Bool := (B x.1, x.2)
theorem spec_of_loop {l : List Int} {f : Nat} (hl : l.length ≤ 1000) (hf : l.length ≤ f + 1) (ih : ∀ x : List Int, x.length ≤ f → x.length ≤ 1000 → Ev (fun k => spec_l03Of.f k x) (bOf (ofV f x))) :
    ∀ (m i : Nat), i + m = l.length → Ev (fun k => spec_l03Of.l0 k l (i : Int)) (bOf (match firstR l m i with
      | none => ([], false)
      | some i => (49 :: ((ofV f (l.take i)).1 ++ (ofV f (l.drop (i + 1))).1), (ofV f (l.take i)).2 && (ofV f (l.drop (i + 1))).2)))
  | 0, i, hi => by
    refine Ev.step (fun k => by rw [spec_l03Of.l0]) ?_
    exact ev_neg (by omega) (Ev.now _)
  | m + 1, i, hi => by
    have h1 := ofV_length f (l.take i) (by simp; omega)
    have h2 := ofV_length f (l.drop (i + 1)) (by simp; omega)
    simp only [List.length_take, List.length_drop] at h1 h2
    refine Ev.step (fun k => by rw [spec_l03Of.l0]) ?_
    rw [w64 (x := (l.length : Int) - 1) (by omega) (by omega), w64 (x := (l.length : Int) - 1 - i) (by omega) (by omega), w64s (by omega), rd_nat]
    simp only [firstR]
    refine ev_pos (by omega) (ev_pos (by omega) (ev_ite (fun hx => ?_) (fun hx => ?_)))
    · rw [if_pos hx]
      refine ev_pos (by omega) (Ev.bind (ih (l.take i) (by simp; omega) (by simp; omega)) (ev_pos (by omega) (ev_pos (by omega) (Ev.bind (ih (l.drop (i + 1)) (by simp; omega) (by simp; omega)) ?_))))
      simp only [bOf, B_litM, B_append, B_size]
      refine ev_pos (by omega) (ev_pos (by simp only [List.length_cons]; omega) ?_)
      cases (ofV f (l.take i)).2 with
      | true => exact ev_pos rfl (ev_now (by simp))
      | false => exact ev_neg (by decide) (ev_now (by simp))
    · rw [if_neg hx]
      exact spec_of_loop hl hf ih m (i + 1) (by omega)
theorem spec_l03Of_ev : ∀ (f : Nat) (l : List Int), l.length ≤ f → l.length ≤ 1000 → Ev (fun k => spec_l03Of.f k l) (bOf (ofV f l))
  | 0, l, hf, hl => by
    refine Ev.step (fun k => by rw [spec_l03Of.f]) ?_
    exact ev_pos (by omega) (Ev.now _)
  | f + 1, l, hf, hl => by
    refine Ev.step (fun k => by rw [spec_l03Of.f]) ?_
    simp only [ofV]
    refine ev_ite (fun hx => ?_) (fun hx => ?_)
    · rw [if_pos (by omega)]; exact Ev.now _
    · rw [if_neg (by omega)]
      exact spec_of_loop hl hf (fun x h1 h2 => spec_l03Of_ev f x h1 h2) l.length 0 (by omega)
theorem impl_of_loop {l : List Int} {f : Nat} (hl : l.length ≤ 1000) (hf : l.length ≤ f + 1) (ih : ∀ x : List Int, x.length ≤ f → x.length ≤ 1000 → Ev (fun k => impl_binaryOfVector.f k x) (bOf (ofV f x))) :
    ∀ (m i : Nat), i + m = l.length → Ev (fun k => impl_binaryOfVector.l0 k l l (l.length : Int) (i : Int)) (bOf (match firstR l m i with
      | none => ([], false)
      | some i => (49 :: ((ofV f (l.take i)).1 ++ (ofV f (l.drop (i + 1))).1), (ofV f (l.take i)).2 && (ofV f (l.drop (i + 1))).2)))
  | 0, i, hi => by
    refine Ev.step (fun k => by rw [impl_binaryOfVector.l0]) ?_
    exact ev_neg (by omega) (Ev.now _)
  | m + 1, i, hi => by
    have h1 := ofV_length f (l.take i) (by simp; omega)
    have h2 := ofV_length f (l.drop (i + 1)) (by simp; omega)
    simp only [List.length_take, List.length_drop] at h1 h2
    refine Ev.step (fun k => by rw [impl_binaryOfVector.l0]) ?_
    rw [w64 (x := (l.length : Int) - 1) (by omega) (by omega), w64 (x := (l.length : Int) - 1 - i) (by omega) (by omega), w64s (by omega), rd_nat]
    simp only [firstR]
    refine ev_pos (by omega) (ev_pos (by omega) (ev_pos (by omega) (ev_ite (fun hx => ?_) (fun hx => ?_))))
    · rw [if_pos hx]
      refine ev_pos (by omega) (Ev.bind (ih (l.take i) (by simp; omega) (by simp; omega)) (ev_pos (by omega) (ev_pos (by omega) (Ev.bind (ih (l.drop (i + 1)) (by simp; omega) (by simp; omega)) ?_))))
      simp only [bOf, B_litM, B_append, B_size]
      refine ev_pos (by omega) (ev_pos (by simp only [List.length_cons]; omega) ?_)
      cases (ofV f (l.take i)).2 with
      | true => exact ev_pos rfl (ev_now (by simp))
      | false => exact ev_neg (by decide) (ev_now (by simp))
    · rw [if_neg hx]
      exact impl_of_loop hl hf ih m (i + 1) (by omega)
theorem impl_of_ev : ∀ (f : Nat) (l : List Int), l.length ≤ f → l.length ≤ 1000 → Ev (fun k => impl_binaryOfVector.f k l) (bOf (ofV f l))
  | 0, l, hf, hl => by
    refine Ev.step (fun k => by rw [impl_binaryOfVector.f]) ?_
    exact ev_pos (by omega) (Ev.now _)
  | f + 1, l, hf, hl => by
    refine Ev.step (fun k => by rw [impl_binaryOfVector.f]) ?_
    simp only [ofV]
    refine ev_ite (fun hx => ?_) (fun hx => ?_)
    · rw [if_pos (by omega)]; exact Ev.now _
    · rw [if_neg (by omega)]
      exact impl_of_loop hl hf (fun x h1 h2 => impl_of_ev f x h1 h2) l.length 0 (by omega)
end Go.Proofs.Ythbdbgoeaichcaa.E
namespace Go.Proofs.Ythbdbgoeaichcaa.E
set_option linter.unusedVariables false
set_option linter.unusedSectionVars false
open Go.RowKit Go.Proofs.YthbdbgoeaichcaaW.PrintWords Go.Proofs.Ythbdbgoeaichcaa.Base Go.Proofs.Ythbdbgoeaichcaa.Tree Go.Proofs.Ythbdbgoeaichcaa.Bin
theorem lit1 : (⟨#[49]⟩ : ByteArray) = B [49] := rfl
theorem bin_run {d : List Int} (h : IsT d) (hn : d.length ≤ 100) : ∀ (N m c e : Nat), e - c ≤ N → c ≤ e → e ≤ d.length → Run d m c e → ∃ t, nodes t = e - c ∧ forest t = ((m : Int), (d.drop c).take (e - c)) ∧
    Ev (fun k => spec_l03Binary.f k d (castL (kidsFrom d m c))) (B (enc t)) ∧ Ev (fun k => impl_binaryOf.f k d (castL (kidsFrom d m c))) (B (enc t)) := by
  intro N
  induction N with
  | zero =>
    intro m c e hN hce hel r
    cases r with
    | nil =>
      refine ⟨.leaf, by simp [nodes], by simp [forest], ?_, ?_⟩
      · refine Ev.step (fun k => by rw [spec_l03Binary.f]) ?_
        exact ev_pos (by simp [kidsFrom, castL]) (Ev.now _)
      · refine Ev.step (fun k => by rw [impl_binaryOf.f]) ?_
        exact ev_pos (by simp [kidsFrom, castL]) (Ev.now _)
    | cons hc r =>
      have := end_gt h hc
      have := run_bd h r
      omega
  | succ N ih =>
    intro m c e hN hce hel r
    cases r with
    | nil =>
      refine ⟨.leaf, by simp [nodes], by simp [forest], ?_, ?_⟩
      · refine Ev.step (fun k => by rw [spec_l03Binary.f]) ?_
        exact ev_pos (by simp [kidsFrom, castL]) (Ev.now _)
      · refine Ev.step (fun k => by rw [impl_binaryOf.f]) ?_
        exact ev_pos (by simp [kidsFrom, castL]) (Ev.now _)
    | @cons m _ _ hc r =>
      have h1 := end_gt h hc
      have h2 := run_bd h r
      have h3 := end_le h hc
      have h0 := h.deg c hc
      obtain ⟨t1, n1, f1, e1, g1⟩ := ih (d.getD c 0).toNat (c + 1) (endM d c) (by omega) (by omega) h3 (run_kids h hc)
      obtain ⟨t2, n2, f2, e2, g2⟩ := ih m (endM d c) e (by omega) h2 hel r
      have l1 := enc_length t1
      have l2 := enc_length t2
      have ek : castL (kidsFrom d (m + 1) c) = (c : Int) :: castL (kidsFrom d m (endM d c)) := rfl
      refine ⟨.node t1 t2, by simp only [nodes]; omega, ?_, ?_, ?_⟩
      · simp only [forest, f1, f2]
        have es : e - c = (endM d c - (c + 1) + (e - endM d c)) + 1 := by omega
        rw [List.drop_eq_getElem_cons hc, es, List.take_succ_cons, List.take_add, List.drop_drop, show c + 1 + (endM d c - (c + 1)) = endM d c by omega]
        have ed : d.getD c 0 = d[c] := by rw [List.getD_eq_getElem?_getD, List.getElem?_eq_getElem hc]; rfl
        rw [ed] at h0 ⊢
        rw [show ((d[c].toNat : Nat) : Int) = d[c] by omega]
        exact Prod.ext (by simp only; omega) rfl
      · refine Ev.step (fun k => by rw [spec_l03Binary.f]) ?_
        rw [ek, show rd ((c : Int) :: castL (kidsFrom d m (endM d c))) 0 = (c : Int) from rfl]
        refine ev_neg (by simp only [List.length_cons]; omega) (ev_pos (by simp only [List.length_cons]; omega) (Ev.bind (spec_l01Children_ev h (by omega) hc) (Ev.bind e1 (ev_pos (by rw [B_size]; omega) (ev_pos (by simp only [List.length_cons]; omega) ?_)))))
        rw [show ((c : Int) :: castL (kidsFrom d m (endM d c))).drop 1 = castL (kidsFrom d m (endM d c)) from rfl]
        refine Ev.bind e2 ?_
        simp only [lit1, B_append, B_size, List.length_append, List.length_cons, List.length_nil]
        exact ev_pos (by omega) (ev_now (by simp [enc]))
      · refine Ev.step (fun k => by rw [impl_binaryOf.f]) ?_
        rw [ek, show rd ((c : Int) :: castL (kidsFrom d m (endM d c))) 0 = (c : Int) from rfl]
        refine ev_neg (by simp only [List.length_cons]; omega) (ev_pos (by simp only [List.length_cons]; omega) (Ev.bind (impl_kidsOf_ev h (by omega) hc) (Ev.bind g1 (ev_pos (by rw [B_size]; omega) (ev_pos (by simp only [List.length_cons]; omega) ?_)))))
        rw [show ((c : Int) :: castL (kidsFrom d m (endM d c))).drop 1 = castL (kidsFrom d m (endM d c)) from rfl]
        refine Ev.bind g2 ?_
        simp only [lit1, B_append, B_size, List.length_append, List.length_cons, List.length_nil]
        exact ev_pos (by omega) (ev_now (by simp [enc]))
theorem binaryOf_tree {d : List Int} (h : IsT d) (hn : d.length ≤ 24) : ∃ t, nodes t + 1 = d.length ∧ (forest t).1 :: (forest t).2 = d ∧ Ev (fun k => spec_l03Binary.f k d (castL (kidsM d 0))) (B (enc t)) ∧ Ev (fun k => impl_binaryOf.f k d (castL (kidsM d 0))) (B (enc t)) := by
  have h0 := h.len
  have hd := h.deg 0 h0
  obtain ⟨t, n1, f1, e1, g1⟩ := bin_run h (by omega) d.length (d.getD 0 0).toNat 1 (endM d 0) (by have := end_root h; omega) (by have := end_root h; omega) (by have := end_root h; omega) (run_kids h h0)
  rw [end_root h] at n1 f1
  refine ⟨t, by omega, ?_, e1, g1⟩
  rw [f1]
  have ed : d.getD 0 0 = d[0] := by rw [List.getD_eq_getElem?_getD, List.getElem?_eq_getElem h0]; rfl
  rw [ed] at hd ⊢
  have : (d.drop 1).take (d.length - 1) = d.drop 1 := List.take_of_length_le (by simp)
  simp only [this]
  rw [show ((d[0].toNat : Nat) : Int) = d[0] by omega]
  conv => rhs; rw [← List.drop_zero (l := d), List.drop_eq_getElem_cons h0]
def mirrorT : BT → BT
  | .leaf => .leaf
  | .node l r => .node (mirrorT r) (mirrorT l)
theorem mirrorT_nodes : ∀ t, nodes (mirrorT t) = nodes t
  | .leaf => rfl
  | .node l r => by simp only [mirrorT, nodes, mirrorT_nodes l, mirrorT_nodes r]; omega
theorem mirror_twice : ∀ t, mirrorT (mirrorT t) = t
  | .leaf => rfl
  | .node l r => by simp only [mirrorT, mirror_twice l, mirror_twice r]
theorem spec_mirror_ev : ∀ t : BT, nodes t ≤ 400 → Ev (fun k => spec_l03Mirror.f k (B (enc t))) (B (enc (mirrorT t)))
  | .leaf, _ => by
    refine Ev.step (fun k => by rw [spec_l03Mirror.f]) ?_
    exact ev_pos (by rw [toList_B]; rfl) (Ev.now _)
  | .node l r, h => by
    simp only [nodes] at h
    have h1 := enc_length (mirrorT l)
    have h2 := enc_length (mirrorT r)
    rw [mirrorT_nodes] at h1 h2
    refine Ev.step (fun k => by rw [spec_l03Mirror.f]) ?_
    refine ev_neg (by rw [toList_B]; simp [enc]) (Ev.bind (spec_l03Sides_ev l r (by omega)) (Ev.bind (spec_mirror_ev r (by omega)) (ev_pos (by rw [B_size]; omega) (Ev.bind (spec_mirror_ev l (by omega)) ?_))))
    simp only [lit1, B_append, B_size, List.length_append, List.length_cons, List.length_nil]
    exact ev_pos (by omega) (ev_now (by simp [mirrorT, enc]))
theorem impl_mirror_ev : ∀ t : BT, nodes t ≤ 400 → Ev (fun k => impl_mirrorBinary.f k (B (enc t))) (B (enc (mirrorT t)))
  | .leaf, _ => by
    refine Ev.step (fun k => by rw [impl_mirrorBinary.f]) ?_
    exact ev_pos (by rw [toList_B]; rfl) (Ev.now _)
  | .node l r, h => by
    simp only [nodes] at h
    have h1 := enc_length (mirrorT l)
    have h2 := enc_length (mirrorT r)
    rw [mirrorT_nodes] at h1 h2
    refine Ev.step (fun k => by rw [impl_mirrorBinary.f]) ?_
    refine ev_neg (by rw [toList_B]; simp [enc]) (Ev.bind (impl_sides_ev l r (by omega)) (Ev.bind (impl_mirror_ev r (by omega)) (ev_pos (by rw [B_size]; omega) (Ev.bind (impl_mirror_ev l (by omega)) ?_))))
    simp only [lit1, B_append, B_size, List.length_append, List.length_cons, List.length_nil]
    exact ev_pos (by omega) (ev_now (by simp [mirrorT, enc]))
def inn : Nat → BT → List Int
  | _, .leaf => []
  | f, .node l r => inn (f + 1) l ++ (f : Int) :: inn (f + 1 + nodes l) r
theorem inn_length : ∀ (t : BT) (f : Nat), (inn f t).length = nodes t
  | .leaf, _ => rfl
  | .node l r, f => by simp [inn, nodes, inn_length l, inn_length r]; omega
theorem spec_inn_ev : ∀ (t : BT) (f : Nat), nodes t ≤ 400 → f + 2 * nodes t ≤ 100000 → Ev (fun k => spec_l03Inner.f k (B (enc t)) (f : Int)) (inn f t)
  | .leaf, f, _, _ => by
    refine Ev.step (fun k => by rw [spec_l03Inner.f]) ?_
    exact ev_pos leaf_text (Ev.now _)
  | .node l r, f, h, hf => by
    simp only [nodes] at h hf
    have h1 := inn_length l (f + 1)
    have h2 := inn_length r (f + 1 + nodes l)
    have i1 := spec_inn_ev l (f + 1) (by omega) (by omega)
    have i2 := spec_inn_ev r (f + 1 + nodes l) (by omega) (by omega)
    refine Ev.step (fun k => by rw [spec_l03Inner.f]) ?_
    rw [w64s (by omega)]
    refine ev_neg (node_text l r) (Ev.bind (spec_l03Sides_ev l r (by omega)) (Ev.bind i1 (ev_pos (by omega) (ev_some ?_))))
    simp only [l03N_ev l (by omega), Option.bind_some]
    rw [show wrap64 (((f + 1 : Nat) : Int) + (nodes l : Int)) = ((f + 1 + nodes l : Nat) : Int) by rw [w64 (by omega) (by omega)]; omega]
    exact Ev.bind i2 (ev_pos (by simp; omega) (ev_now (by simp [inn])))
theorem impl_inn_ev : ∀ (t : BT) (f : Nat), nodes t ≤ 400 → f + 2 * nodes t ≤ 100000 → Ev (fun k => impl_inner.f k (B (enc t)) (f : Int)) (inn f t)
  | .leaf, f, _, _ => by
    refine Ev.step (fun k => by rw [impl_inner.f]) ?_
    exact ev_pos leaf_text (Ev.now _)
  | .node l r, f, h, hf => by
    simp only [nodes] at h hf
    have h1 := inn_length l (f + 1)
    have h2 := inn_length r (f + 1 + nodes l)
    have i1 := impl_inn_ev l (f + 1) (by omega) (by omega)
    have i2 := impl_inn_ev r (f + 1 + nodes l) (by omega) (by omega)
    refine Ev.step (fun k => by rw [impl_inner.f]) ?_
    rw [w64s (by omega)]
    refine ev_neg (node_text l r) (Ev.bind (impl_sides_ev l r (by omega)) (Ev.bind i1 ?_))
    simp only [nodesOf_ev l (by omega), Option.bind_some]
    rw [show wrap64 (((f + 1 : Nat) : Int) + (nodes l : Int)) = ((f + 1 + nodes l : Nat) : Int) by rw [w64 (by omega) (by omega)]; omega]
    exact Ev.bind i2 (Ev.bind (slices_Concat_ev _ (by simp) (by simp; omega)) (ev_now (by simp [inn])))
theorem vector_ok {t : BT} (ht : nodes t ≤ 23) : Ev (fun k => impl_VectorOf.f k (B (enc t))) (vec t, 0) ∧ Ev (fun k => spec_VectorOf.f k (B (enc t))) (vec t, 0) := by
  constructor
  · unfold impl_VectorOf.f
    exact Ev.bind (impl_IsBinary_ev _) (ev_pos (isBin_enc ht) (Ev.bind (impl_vector_ev t (by omega)) (Ev.now _)))
  · unfold spec_VectorOf.f
    exact Ev.bind (spec_l03Is_ev _) (ev_pos (isBin_enc ht) (Ev.bind (spec_vector_ev t (by omega)) (Ev.now _)))
theorem vector_no {w : List UInt8} (hw : ¬ isBin w = true) : Ev (fun k => impl_VectorOf.f k (B w)) ([], 1) ∧ Ev (fun k => spec_VectorOf.f k (B w)) ([], 1) := by
  constructor
  · unfold impl_VectorOf.f
    exact Ev.bind (impl_IsBinary_ev _) (ev_neg hw (Ev.now _))
  · unfold spec_VectorOf.f
    exact Ev.bind (spec_l03Is_ev _) (ev_neg hw (Ev.now _))
theorem mirror_ok {t : BT} (ht : nodes t ≤ 23) : Ev (fun k => impl_MirrorBinary.f k (B (enc t))) (B (enc (mirrorT t)), 0) ∧ Ev (fun k => spec_MirrorBinary.f k (B (enc t))) (B (enc (mirrorT t)), 0) := by
  constructor
  · unfold impl_MirrorBinary.f
    exact Ev.bind (impl_IsBinary_ev _) (ev_pos (isBin_enc ht) (Ev.bind (impl_mirror_ev t (by omega)) (Ev.now _)))
  · unfold spec_MirrorBinary.f
    exact Ev.bind (spec_l03Is_ev _) (ev_pos (isBin_enc ht) (Ev.bind (spec_mirror_ev t (by omega)) (Ev.now _)))
theorem mirror_no {w : List UInt8} (hw : ¬ isBin w = true) : Ev (fun k => impl_MirrorBinary.f k (B w)) (⟨#[]⟩, 1) ∧ Ev (fun k => spec_MirrorBinary.f k (B w)) (⟨#[]⟩, 1) := by
  constructor
  · unfold impl_MirrorBinary.f
    exact Ev.bind (impl_IsBinary_ev _) (ev_neg hw (Ev.now _))
  · unfold spec_MirrorBinary.f
    exact Ev.bind (spec_l03Is_ev _) (ev_neg hw (Ev.now _))
theorem inner_ok {t : BT} (ht : nodes t ≤ 23) : Ev (fun k => impl_InnerOrder.f k (B (enc t))) (inn 0 t, 0) ∧ Ev (fun k => spec_InnerOrder.f k (B (enc t))) (inn 0 t, 0) := by
  constructor
  · unfold impl_InnerOrder.f
    exact Ev.bind (impl_IsBinary_ev _) (ev_pos (isBin_enc ht) (Ev.bind (impl_inn_ev t 0 (by omega) (by omega)) (Ev.now _)))
  · unfold spec_InnerOrder.f
    exact Ev.bind (spec_l03Is_ev _) (ev_pos (isBin_enc ht) (Ev.bind (spec_inn_ev t 0 (by omega) (by omega)) (Ev.now _)))
theorem inner_no {w : List UInt8} (hw : ¬ isBin w = true) : Ev (fun k => impl_InnerOrder.f k (B w)) ([], 1) ∧ Ev (fun k => spec_InnerOrder.f k (B w)) ([], 1) := by
  constructor
  · unfold impl_InnerOrder.f
    exact Ev.bind (impl_IsBinary_ev _) (ev_neg hw (Ev.now _))
  · unfold spec_InnerOrder.f
    exact Ev.bind (spec_l03Is_ev _) (ev_neg hw (Ev.now _))
theorem sides_node {l r : BT} (ht : nodes (.node l r) ≤ 23) : Ev (fun k => impl_SidesOf.f k (B (enc (.node l r)))) (B (enc l), B (enc r), 0) ∧ Ev (fun k => spec_SidesOf.f k (B (enc (.node l r)))) (B (enc l), B (enc r), 0) := by
  have h2 : nodes l + nodes r ≤ 1000 := by simp only [nodes] at ht; omega
  constructor
  · unfold impl_SidesOf.f
    exact Ev.bind (impl_IsBinary_ev _) (ev_pos (isBin_enc ht) (ev_neg (node_text l r) (Ev.bind (impl_sides_ev l r h2) (Ev.now _))))
  · unfold spec_SidesOf.f
    exact Ev.bind (spec_l03Is_ev _) (ev_pos (isBin_enc ht) (ev_neg (node_text l r) (Ev.bind (spec_l03Sides_ev l r h2) (Ev.now _))))
theorem sides_leaf : Ev (fun k => impl_SidesOf.f k (B (enc .leaf))) (⟨#[]⟩, ⟨#[]⟩, 5) ∧ Ev (fun k => spec_SidesOf.f k (B (enc .leaf))) (⟨#[]⟩, ⟨#[]⟩, 5) := by
  constructor
  · unfold impl_SidesOf.f
    exact Ev.bind (impl_IsBinary_ev _) (ev_pos (isBin_enc (by decide)) (ev_pos leaf_text (Ev.now _)))
  · unfold spec_SidesOf.f
    exact Ev.bind (spec_l03Is_ev _) (ev_pos (isBin_enc (by decide)) (ev_pos leaf_text (Ev.now _)))
theorem sides_both (w : List UInt8) : ∃ r, Ev (fun k => impl_SidesOf.f k (B w)) r ∧ Ev (fun k => spec_SidesOf.f k (B w)) r := by
  by_cases hw : isBin w = true
  · obtain ⟨t, rfl, ht⟩ := isBin_sound hw
    cases t with
    | leaf => exact ⟨_, sides_leaf⟩
    | node l r => exact ⟨_, sides_node ht⟩
  · refine ⟨(⟨#[]⟩, ⟨#[]⟩, 1), ?_, ?_⟩
    · unfold impl_SidesOf.f
      exact Ev.bind (impl_IsBinary_ev _) (ev_neg hw (Ev.now _))
    · unfold spec_SidesOf.f
      exact Ev.bind (spec_l03Is_ev _) (ev_neg hw (Ev.now _))
theorem rdB0 (x y : ByteArray) : rdOf ByteArray.empty [x, y] 0 = x := rfl
theorem rdB1 (x y : ByteArray) : rdOf ByteArray.empty [x, y] 1 = y := rfl
theorem areBinary_ev (w u : List UInt8) : Ev (fun k => impl_areBinary.f k ([B w, B u] : List ByteArray)) (isBin w && isBin u) := by
  unfold impl_areBinary.f
  refine Ev.step (fun k => by rw [impl_areBinary.l0]) ?_
  rw [rdB0]
  refine ev_pos (by simp) (ev_pos (by omega) (ev_pos (by simp) (Ev.bind (impl_IsBinary_ev _) (ev_ite (fun h1 => ?_) (fun h1 => ?_)))))
  · rw [h1, Bool.true_and, show wrap64 (0 + 1) = 1 by rw [w64 (by omega) (by omega)]; rfl]
    refine Ev.step (fun k => by rw [impl_areBinary.l0]) ?_
    rw [rdB1]
    refine ev_pos (by simp) (ev_pos (by omega) (ev_pos (by simp) (Ev.bind (impl_IsBinary_ev _) (ev_ite (fun h2 => ?_) (fun h2 => ?_)))))
    · rw [h2, show wrap64 (1 + 1) = 2 by rw [w64 (by omega) (by omega)]; rfl]
      refine Ev.step (fun k => by rw [impl_areBinary.l0]) ?_
      exact ev_neg (by simp) (Ev.now _)
    · rw [show isBin u = false by simpa using h2]; exact Ev.now _
  · rw [show isBin w = false by simpa using h1, Bool.false_and]; exact Ev.now _
theorem join_ok {l r : BT} (h : nodes l + nodes r + 1 ≤ 23) : Ev (fun k => impl_JoinSides.f k (B (enc l)) (B (enc r))) (B (enc (.node l r)), 0) ∧ Ev (fun k => spec_JoinSides.f k (B (enc l)) (B (enc r))) (B (enc (.node l r)), 0) := by
  have h1 := enc_length l
  have h2 := enc_length r
  have e1 := isBin_enc (t := l) (by omega)
  have e2 := isBin_enc (t := r) (by omega)
  constructor
  · unfold impl_JoinSides.f
    refine Ev.bind (areBinary_ev _ _) (ev_pos (by rw [e1, e2]; rfl) ?_)
    rw [nodesOf_ev l (by omega), nodesOf_ev r (by omega)]
    refine ev_some (ev_some ?_)
    rw [w64 (x := (nodes l : Int) + nodes r) (by omega) (by omega), w64 (by omega) (by omega)]
    simp only [lit1, B_append, B_size, List.length_append, List.length_cons, List.length_nil]
    exact ev_neg (by omega) (ev_pos (by omega) (ev_pos (by omega) (ev_now (by simp [enc]))))
  · unfold spec_JoinSides.f
    refine Ev.bind (spec_l03Is_ev _) (ev_pos e1 (Ev.bind (spec_l03Is_ev _) ?_))
    refine Ev.step (fun k => by rw [spec_JoinSides.j0]) ?_
    rw [l03N_ev l (by omega), l03N_ev r (by omega)]
    refine ev_neg (by rw [e2]; decide) (ev_some (ev_some ?_))
    rw [w64 (x := (nodes l : Int) + nodes r) (by omega) (by omega)]
    simp only [lit1, B_append, B_size, List.length_append, List.length_cons, List.length_nil]
    exact ev_neg (by omega) (ev_pos (by omega) (ev_pos (by omega) (ev_now (by simp [enc]))))
theorem join_both (w u : List UInt8) : ∃ r, Ev (fun k => impl_JoinSides.f k (B w) (B u)) r ∧ Ev (fun k => spec_JoinSides.f k (B w) (B u)) r := by
  by_cases hw : isBin w = true ∧ isBin u = true
  · obtain ⟨l, rfl, hl⟩ := isBin_sound hw.1
    obtain ⟨r, rfl, hr⟩ := isBin_sound hw.2
    by_cases hs : nodes l + nodes r + 1 ≤ 23
    · exact ⟨_, join_ok hs⟩
    · refine ⟨(⟨#[]⟩, 3), ?_, ?_⟩
      · unfold impl_JoinSides.f
        refine Ev.bind (areBinary_ev _ _) (ev_pos (by rw [hw.1, hw.2]; rfl) ?_)
        rw [nodesOf_ev l (by omega), nodesOf_ev r (by omega)]
        refine ev_some (ev_some ?_)
        rw [w64 (x := (nodes l : Int) + nodes r) (by omega) (by omega), w64 (by omega) (by omega)]
        exact ev_pos (by omega) (Ev.now _)
      · unfold spec_JoinSides.f
        refine Ev.bind (spec_l03Is_ev _) (ev_pos hw.1 (Ev.bind (spec_l03Is_ev _) ?_))
        refine Ev.step (fun k => by rw [spec_JoinSides.j0]) ?_
        rw [l03N_ev l (by omega), l03N_ev r (by omega)]
        refine ev_neg (by rw [hw.2]; decide) (ev_some (ev_some ?_))
        rw [w64 (x := (nodes l : Int) + nodes r) (by omega) (by omega)]
        exact ev_pos (by omega) (Ev.now _)
  · refine ⟨(⟨#[]⟩, 1), ?_, ?_⟩
    · unfold impl_JoinSides.f
      exact Ev.bind (areBinary_ev _ _) (ev_neg (by rw [Bool.and_eq_true]; exact hw) (Ev.now _))
    · unfold spec_JoinSides.f
      refine Ev.bind (spec_l03Is_ev _) (ev_ite (fun h1 => Ev.bind (spec_l03Is_ev _) ?_) (fun h1 => ?_))
      · refine Ev.step (fun k => by rw [spec_JoinSides.j0]) ?_
        exact ev_pos (by simpa using fun h2 => hw ⟨h1, h2⟩) (Ev.now _)
      · refine Ev.step (fun k => by rw [spec_JoinSides.j0]) ?_
        exact ev_pos rfl (Ev.now _)
end Go.Proofs.Ythbdbgoeaichcaa.E
namespace Go.Proofs.Ythbdbgoeaichcaa.E
set_option linter.unusedVariables false
set_option linter.unusedSectionVars false
open Go.RowKit Go.Proofs.YthbdbgoeaichcaaW.PrintWords Go.Proofs.Ythbdbgoeaichcaa.Base Go.Proofs.Ythbdbgoeaichcaa.Bin
def brk : Nat → BT → List UInt8
  | f, .leaf => [UInt8.ofNat (97 + f)]
  | f, .node l r => 40 :: (brk f l ++ (brk (f + nodes l + 1) r ++ [41]))
theorem brk_length : ∀ (t : BT) (f : Nat), (brk f t).length = 3 * nodes t + 1
  | .leaf, _ => rfl
  | .node l r, f => by simp [brk, nodes, brk_length l, brk_length r]; omega
theorem lit40 : (⟨#[40]⟩ : ByteArray) = B [40] := rfl
theorem lit41 : (⟨#[41]⟩ : ByteArray) = B [41] := rfl
theorem rune_text (f : Nat) (h : f ≤ 30) : Go.Utf8.encode (wrap32 (wrap64 (97 + (f : Int)))) = B [UInt8.ofNat (97 + f)] := by
  have e : wrap32 (wrap64 (97 + (f : Int))) = ((97 + f : Nat) : Int) := by rw [w64 (by omega) (by omega)]; unfold wrap32; omega
  rw [e]
  have all : ∀ n, n ≤ 30 → Go.Utf8.encode ((97 + n : Nat) : Int) = B [UInt8.ofNat (97 + n)] := by decide
  exact all f h
theorem byte_text (f : Nat) (h : f ≤ 30) : strOfNums [(wrap64 (97 + (f : Int))) % 256] = B [UInt8.ofNat (97 + f)] := by
  have e : wrap64 (97 + (f : Int)) % 256 = ((97 + f : Nat) : Int) := by rw [w64 (by omega) (by omega)]; omega
  rw [e]
  have all : ∀ n, n ≤ 30 → strOfNums [((97 + n : Nat) : Int)] = B [UInt8.ofNat (97 + n)] := by decide
  exact all f h
theorem impl_brk_ev : ∀ (t : BT) (f : Nat), f + nodes t ≤ 30 → Ev (fun k => impl_brackets.f k (B (enc t)) (f : Int)) (B (brk f t))
  | .leaf, f, hf => by
    simp only [nodes] at hf
    refine Ev.step (fun k => by rw [impl_brackets.f]) ?_
    rw [rune_text f (by omega)]
    exact ev_pos leaf_text (Ev.now _)
  | .node l r, f, hf => by
    simp only [nodes] at hf
    have h1 := brk_length l f
    have h2 := brk_length r (f + nodes l + 1)
    have i1 := impl_brk_ev l f (by omega)
    have i2 := impl_brk_ev r (f + nodes l + 1) (by omega)
    refine Ev.step (fun k => by rw [impl_brackets.f]) ?_
    rw [lit40, lit41]
    refine ev_neg (node_text l r) (Ev.bind (impl_sides_ev l r (by omega)) (Ev.bind i1 (ev_pos (by rw [B_size]; omega) ?_)))
    simp only [nodesOf_ev l (by omega)]
    refine ev_some ?_
    rw [show wrap64 (wrap64 ((f : Int) + (nodes l : Int)) + 1) = ((f + nodes l + 1 : Nat) : Int) by rw [w64 (x := (f : Int) + nodes l) (by omega) (by omega), w64 (by omega) (by omega)]; omega]
    refine Ev.bind i2 ?_
    simp only [B_append, B_size, List.length_append, List.length_cons, List.length_nil]
    exact ev_pos (by omega) (ev_pos (by omega) (ev_now (by simp [brk])))
theorem spec_brk_ev : ∀ (t : BT) (f : Nat), f + nodes t ≤ 30 → Ev (fun k => spec_l03Brackets.f k (B (enc t)) (f : Int)) (B (brk f t))
  | .leaf, f, hf => by
    simp only [nodes] at hf
    refine Ev.step (fun k => by rw [spec_l03Brackets.f]) ?_
    rw [byte_text f (by omega)]
    exact ev_pos leaf_text (Ev.now _)
  | .node l r, f, hf => by
    simp only [nodes] at hf
    have h1 := brk_length l f
    have h2 := brk_length r (f + nodes l + 1)
    have i1 := spec_brk_ev l f (by omega)
    have i2 := spec_brk_ev r (f + nodes l + 1) (by omega)
    refine Ev.step (fun k => by rw [spec_l03Brackets.f]) ?_
    rw [lit40, lit41]
    refine ev_neg (node_text l r) (Ev.bind (spec_l03Sides_ev l r (by omega)) (Ev.bind i1 (ev_pos (by rw [B_size]; omega) ?_)))
    simp only [l03N_ev l (by omega)]
    refine ev_some ?_
    rw [show wrap64 (wrap64 ((f : Int) + (nodes l : Int)) + 1) = ((f + nodes l + 1 : Nat) : Int) by rw [w64 (x := (f : Int) + nodes l) (by omega) (by omega), w64 (by omega) (by omega)]; omega]
    refine Ev.bind i2 ?_
    simp only [B_append, B_size, List.length_append, List.length_cons, List.length_nil]
    exact ev_pos (by omega) (ev_pos (by omega) (ev_now (by simp [brk])))
theorem brackets_ok {t : BT} (ht : nodes t ≤ 23) : Ev (fun k => impl_BracketsOf.f k (B (enc t))) (B (brk 0 t), 0) ∧ Ev (fun k => spec_BracketsOf.f k (B (enc t))) (B (brk 0 t), 0) := by
  constructor
  · unfold impl_BracketsOf.f
    exact Ev.bind (impl_IsBinary_ev _) (ev_pos (isBin_enc ht) (Ev.bind (impl_brk_ev t 0 (by omega)) (Ev.now _)))
  · unfold spec_BracketsOf.f
    exact Ev.bind (spec_l03Is_ev _) (ev_pos (isBin_enc ht) (Ev.bind (spec_brk_ev t 0 (by omega)) (Ev.now _)))
theorem brackets_no {w : List UInt8} (hw : ¬ isBin w = true) : Ev (fun k => impl_BracketsOf.f k (B w)) (⟨#[]⟩, 1) ∧ Ev (fun k => spec_BracketsOf.f k (B w)) (⟨#[]⟩, 1) := by
  constructor
  · unfold impl_BracketsOf.f
    exact Ev.bind (impl_IsBinary_ev _) (ev_neg hw (Ev.now _))
  · unfold spec_BracketsOf.f
    exact Ev.bind (spec_l03Is_ev _) (ev_neg hw (Ev.now _))
theorem letter {f : Nat} (h : f ≤ 25) : UInt8.ofNat (97 + f) ≠ 40 ∧ 97 ≤ (UInt8.ofNat (97 + f)).toNat ∧ (UInt8.ofNat (97 + f)).toNat ≤ 122 := by
  have all : ∀ n, n ≤ 25 → UInt8.ofNat (97 + n) ≠ 40 ∧ 97 ≤ (UInt8.ofNat (97 + n)).toNat ∧ (UInt8.ofNat (97 + n)).toNat ≤ 122 := by decide
  exact all f h
def outU : Option (BT × List UInt8) → ByteArray × ByteArray × Bool
  | none => (⟨#[]⟩, ⟨#[]⟩, false)
  | some (t, s) => (B (enc t), B s, true)
theorem prefix_ev (s : List UInt8) (hs : s.length ≤ 1000000) : strings_HasPrefix.f (B s) (⟨#[41]⟩ : ByteArray) = some (s.head? == some 41) := by
  unfold strings_HasPrefix.f stringslite_HasPrefix.f
  rw [lit41]
  cases s with
  | nil => rfl
  | cons b s =>
    have e1 : ((B (b :: s)).size : Int) ≥ ((B [41]).size : Int) := by simp only [B_size, List.length_cons, List.length_nil]; omega
    rw [if_pos e1, if_pos (by omega), if_pos e1]
    rw [Option.bind_some]
    congr 1
    rw [show (((B [41]).size : Int)).toNat = 1 by simp [B_size], B_take, toList_B, toList_B]
    by_cases hb : b = 41
    · subst hb; rfl
    · simp [hb]
theorem unb_ev : ∀ (n : Nat) (s : List UInt8), s.length ≤ n → s.length ≤ 1000 → ∃ r : Option (BT × List UInt8), Ev (fun k => impl_unbracket.f k (B s)) (outU r) ∧ (∀ t q, r = some (t, q) → q.length < s.length ∧ nodes t + q.length ≤ s.length) ∧
    ∀ (f : Nat) (t : BT) (q : List UInt8), f + nodes t ≤ 25 → s = brk f t ++ q → r = some (t, q) := by
  intro n
  induction n with
  | zero =>
    intro s hs _
    have e : s = [] := List.eq_nil_of_length_eq_zero (by omega)
    subst e
    refine ⟨none, ?_, fun t q h => (by cases h), fun f t q _ h => ?_⟩
    · refine Ev.step (fun k => by rw [impl_unbracket.f]) ?_
      exact ev_pos (by rw [toList_B]) (Ev.now _)
    · have := congrArg List.length h
      simp [brk_length] at this
      omega
  | succ n ih =>
    intro s hs hl
    cases s with
    | nil =>
      refine ⟨none, ?_, fun t q h => (by cases h), fun f t q _ h => ?_⟩
      · refine Ev.step (fun k => by rw [impl_unbracket.f]) ?_
        exact ev_pos (by rw [toList_B]) (Ev.now _)
      · have := congrArg List.length h
        simp [brk_length] at this
        omega
    | cons b s =>
      simp only [List.length_cons] at hs hl
      have hsz : (B (b :: s)).size = s.length + 1 := by rw [B_size]; rfl
      have hd : (B (b :: s)).extract 1 (B (b :: s)).size = B s := by rw [B_drop]; rfl
      have open_ : ∀ (q : ByteArray × ByteArray × Bool), b ≠ 40 → q = (B [48], B s, true) → Ev (fun k => impl_unbracket.f k (B (b :: s))) q := fun q hb hq => by
        subst hq
        refine Ev.step (fun k => by rw [impl_unbracket.f]) ?_
        rw [bt_zero, hd]
        refine ev_neg (by rw [toList_B]; simp) (ev_pos (by omega) (ev_neg (fun h => hb ?_) (ev_pos (by omega) (Ev.now _))))
        exact UInt8.toNat_inj.1 (by rw [show (40 : UInt8).toNat = 40 from rfl]; omega)
      by_cases hb : b = 40
      · subst hb
        obtain ⟨r1, e1, l1, c1⟩ := ih s (by omega) (by omega)
        have go : ∀ q : ByteArray × ByteArray × Bool, Ev (fun k => (impl_unbracket.f k (B s)).bind fun bt571 => (if bt571.2.2 = true then ((impl_unbracket.f k bt571.2.1).bind fun bt574 => (if bt574.2.2 = true then ((strings_HasPrefix.f bt574.2.1 (⟨#[41]⟩ : ByteArray)).bind fun t577 => (if t577 = true then (if 1 + bt571.1.size ≤ 9223372036854775807 then (if ((⟨#[49]⟩ : ByteArray) ++ bt571.1).size + bt574.1.size ≤ 9223372036854775807 then (if 1 ≤ (bt574.2.1.size : Int) then (some (((⟨#[49]⟩ : ByteArray) ++ bt571.1) ++ bt574.1, bt574.2.1.extract 1 bt574.2.1.size, true)) else (none)) else (none)) else (none)) else (some ((⟨#[]⟩ : ByteArray), (⟨#[]⟩ : ByteArray), false)))) else (some ((⟨#[]⟩ : ByteArray), (⟨#[]⟩ : ByteArray), false)))) else (some ((⟨#[]⟩ : ByteArray), (⟨#[]⟩ : ByteArray), false)))) q → Ev (fun k => impl_unbracket.f k (B (40 :: s))) q := fun q hq => by
          refine Ev.step (fun k => by rw [impl_unbracket.f]) ?_
          rw [bt_zero, hd]
          exact ev_neg (by rw [toList_B]; simp) (ev_pos (by omega) (ev_pos (by decide) (ev_pos (by omega) hq)))
        cases r1 with
        | none =>
          refine ⟨none, go _ (Ev.bind e1 (ev_neg (by simp [outU]) (Ev.now _))), fun t q h => (by cases h), fun f t q hf h => ?_⟩
          cases t with
          | leaf =>
            simp only [brk, List.cons_append, List.nil_append, List.cons.injEq] at h
            exact absurd h.1.symm (letter (by simp only [nodes] at hf; omega)).1
          | node l r =>
            simp only [nodes] at hf
            simp only [brk, List.cons_append, List.append_assoc, List.cons.injEq, true_and] at h
            cases c1 f l _ (by omega) h
        | some p1 =>
          obtain ⟨t1, s1⟩ := p1
          obtain ⟨m1, k1⟩ := l1 t1 s1 rfl
          obtain ⟨r2, e2, l2, c2⟩ := ih s1 (by omega) (by omega)
          cases r2 with
          | none =>
            refine ⟨none, go _ (Ev.bind e1 (ev_pos rfl (Ev.bind e2 (ev_neg (by simp [outU]) (Ev.now _))))), fun t q h => (by cases h), fun f t q hf h => ?_⟩
            cases t with
            | leaf =>
              simp only [brk, List.cons_append, List.nil_append, List.cons.injEq] at h
              exact absurd h.1.symm (letter (by simp only [nodes] at hf; omega)).1
            | node l r =>
              simp only [nodes] at hf
              simp only [brk, List.cons_append, List.append_assoc, List.cons.injEq, true_and] at h
              have h1 := c1 f l _ (by omega) h
              simp only [Option.some.injEq, Prod.mk.injEq] at h1
              cases c2 (f + nodes l + 1) r _ (by omega) h1.2
          | some p2 =>
            obtain ⟨t2, s2⟩ := p2
            obtain ⟨m2, k2⟩ := l2 t2 s2 rfl
            have z1 := enc_length t1
            have z2 := enc_length t2
            by_cases hp : s2.head? = some 41
            · obtain ⟨s3, rfl⟩ : ∃ s3, s2 = 41 :: s3 := by
                cases s2 with
                | nil => cases hp
                | cons x y => simp only [List.head?_cons, Option.some.injEq] at hp; exact ⟨y, by rw [hp]⟩
              simp only [List.length_cons] at m2 k2
              refine ⟨some (.node t1 t2, s3), go _ (Ev.bind e1 (ev_pos rfl (Ev.bind e2 (ev_pos rfl ?_)))), fun t q h => ?_, fun f t q hf h => ?_⟩
              · simp only [outU]
                rw [prefix_ev _ (by simp; omega), show (B (41 :: s3)).extract 1 (B (41 :: s3)).size = B s3 by rw [B_drop]; rfl]
                simp only [lit1, B_append, B_size, List.length_append, List.length_cons, List.length_nil]
                exact ev_some (ev_pos rfl (ev_pos (by omega) (ev_pos (by omega) (ev_pos (by omega) (ev_now (by simp [enc]))))))
              · simp only [Option.some.injEq, Prod.mk.injEq] at h
                obtain ⟨rfl, rfl⟩ := h
                simp only [nodes, List.length_cons]
                omega
              · cases t with
                | leaf =>
                  simp only [brk, List.cons_append, List.nil_append, List.cons.injEq] at h
                  exact absurd h.1.symm (letter (by simp only [nodes] at hf; omega)).1
                | node l r =>
                  simp only [nodes] at hf
                  simp only [brk, List.cons_append, List.append_assoc, List.cons.injEq, true_and] at h
                  have h1 := c1 f l _ (by omega) h
                  simp only [Option.some.injEq, Prod.mk.injEq] at h1
                  have h2 := c2 (f + nodes l + 1) r _ (by omega) h1.2
                  simp only [Option.some.injEq, Prod.mk.injEq, List.nil_append, List.cons.injEq, true_and] at h2
                  rw [h1.1, h2.1, h2.2]
            · refine ⟨none, go _ (Ev.bind e1 (ev_pos rfl (Ev.bind e2 (ev_pos rfl ?_)))), fun t q h => (by cases h), fun f t q hf h => ?_⟩
              · simp only [outU]
                rw [prefix_ev _ (by omega)]
                exact ev_some (ev_neg (by simpa using hp) (Ev.now _))
              · cases t with
                | leaf =>
                  simp only [brk, List.cons_append, List.nil_append, List.cons.injEq] at h
                  exact absurd h.1.symm (letter (by simp only [nodes] at hf; omega)).1
                | node l r =>
                  simp only [nodes] at hf
                  simp only [brk, List.cons_append, List.append_assoc, List.cons.injEq, true_and] at h
                  have h1 := c1 f l _ (by omega) h
                  simp only [Option.some.injEq, Prod.mk.injEq] at h1
                  have h2 := c2 (f + nodes l + 1) r _ (by omega) h1.2
                  simp only [Option.some.injEq, Prod.mk.injEq] at h2
                  rw [h2.2] at hp
                  exact absurd rfl hp
      · refine ⟨some (.leaf, s), open_ _ hb rfl, fun t q h => ?_, fun f t q hf h => ?_⟩
        · simp only [Option.some.injEq, Prod.mk.injEq] at h
          obtain ⟨rfl, rfl⟩ := h
          simp [nodes]
        · cases t with
          | leaf =>
            simp only [brk, List.cons_append, List.nil_append, List.cons.injEq] at h
            rw [h.2]
          | node l r =>
            simp only [brk, List.cons_append, List.cons.injEq] at h
            exact absurd h.1 hb
def flt : List UInt8 → List UInt8
  | [] => []
  | b :: s => if b = 40 then 49 :: flt s else if 97 ≤ b.toNat ∧ b.toNat ≤ 122 then 48 :: flt s else flt s
theorem flt_app : ∀ (a b : List UInt8), flt (a ++ b) = flt a ++ flt b
  | [], b => rfl
  | x :: a, b => by
    simp only [List.cons_append, flt, flt_app a b]
    split
    · rfl
    · split <;> rfl
theorem flt_brk : ∀ (t : BT) (f : Nat), f + nodes t ≤ 25 → flt (brk f t) = enc t
  | .leaf, f, h => by
    simp only [nodes] at h
    have := letter (f := f) (by omega)
    simp only [brk, flt, if_neg this.1, if_pos this.2, enc]
  | .node l r, f, h => by
    simp only [nodes] at h
    simp only [brk, enc, flt, if_pos, flt_app, flt_brk l f (by omega), flt_brk r (f + nodes l + 1) (by omega)]
    rw [if_neg (show ¬ (41 : UInt8) = 40 by decide), if_neg (show ¬ (97 ≤ (41 : UInt8).toNat ∧ (41 : UInt8).toNat ≤ 122) by decide), List.append_nil]
theorem flt_len : ∀ s : List UInt8, (flt s).length ≤ s.length
  | [] => by simp [flt]
  | b :: s => by
    have := flt_len s
    simp only [flt]
    split
    · simp; omega
    · split
      · simp; omega
      · simp; omega
theorem spec_parse_loop (x : List UInt8) (hx : x.length ≤ 4611686018427387000) (q : ByteArray × Int) (H : Ev (fun k => (spec_l03Is.f k (B (flt x))).bind fun t734 => (if t734 = true then ((spec_l03Brackets.f k (B (flt x)) 0).bind fun t735 => (if t735.toList = (B x).toList then (some (B (flt x), 0)) else (some ((⟨#[]⟩ : ByteArray), 6)))) else (some ((⟨#[]⟩ : ByteArray), 6)))) q) :
    ∀ (s p : List UInt8), x = p ++ s → Ev (fun k => spec_ParseBrackets.l0 k (B x) (B (flt p)) (p.length : Int)) q
  | [], p, e => by
    have ep : p = x := by rw [e]; simp
    subst ep
    refine Ev.step (fun k => by rw [spec_ParseBrackets.l0]) ?_
    exact ev_neg (by rw [B_size]; omega) H
  | b :: s, p, e => by
    have hl : x.length = p.length + s.length + 1 := by rw [e]; simp; omega
    have fl := flt_len p
    have ih := spec_parse_loop x hx q H s (p ++ [b]) (by rw [e]; simp)
    rw [flt_app] at ih
    have hb : bt (B x) (p.length : Int) = (b.toNat : Int) := by rw [e]; exact bt_at_app rfl
    simp only [List.length_append, List.length_singleton] at ih
    refine Ev.step (fun k => by rw [spec_ParseBrackets.l0]) ?_
    rw [hb, B_size, w64s (by omega), lit1, show (⟨#[48]⟩ : ByteArray) = B [48] from rfl]
    simp only [B_append, B_size]
    refine ev_pos (by omega) (ev_pos (by omega) (ev_ite (fun h40 => ?_) (fun h40 => ?_)))
    · have e40 : b = 40 := UInt8.toNat_inj.1 (by rw [show (40 : UInt8).toNat = 40 from rfl]; omega)
      subst e40
      exact ev_pos (by omega) ih
    · have n40 : ¬ b = 40 := fun h => h40 (by rw [h]; rfl)
      simp only [flt, if_neg n40] at ih
      refine ev_ite (fun h1 => ?_) (fun h1 => ?_)
      · refine ev_ite (fun h2 => ?_) (fun h2 => ?_)
        · rw [if_pos (by omega)] at ih
          exact ev_pos (by omega) ih
        · rw [if_neg (by omega), List.append_nil] at ih
          exact ih
      · rw [if_neg (by omega), List.append_nil] at ih
        exact ih
theorem parse_ok {t : BT} (ht : nodes t ≤ 23) : Ev (fun k => impl_ParseBrackets.f k (B (brk 0 t))) (B (enc t), 0) ∧ Ev (fun k => spec_ParseBrackets.f k (B (brk 0 t))) (B (enc t), 0) := by
  have hl := brk_length t 0
  constructor
  · obtain ⟨r, e1, _, c1⟩ := unb_ev _ (brk 0 t) (Nat.le_refl _) (by omega)
    have hr := c1 0 t [] (by omega) (by simp)
    subst hr
    unfold impl_ParseBrackets.f
    refine ev_neg (by rw [B_size]; omega) (Ev.bind e1 (ev_pos rfl (ev_pos (by simp only [outU]; rw [toList_B]) (Ev.bind (impl_IsBinary_ev _) (ev_pos (isBin_enc ht) (Ev.bind (impl_brk_ev t 0 (by omega)) (ev_pos rfl (Ev.now _))))))))
  · have := spec_parse_loop (brk 0 t) (by omega) (B (enc t), 0) (by
      rw [flt_brk t 0 (by omega)]
      exact Ev.bind (spec_l03Is_ev _) (ev_pos (isBin_enc ht) (Ev.bind (spec_brk_ev t 0 (by omega)) (ev_pos rfl (Ev.now _))))) (brk 0 t) [] rfl
    unfold spec_ParseBrackets.f
    exact this
theorem parse_both (x : List UInt8) (hx : x.length ≤ 4611686018427387000) : ∃ r, Ev (fun k => impl_ParseBrackets.f k (B x)) r ∧ Ev (fun k => spec_ParseBrackets.f k (B x)) r := by
  by_cases h : ∃ t, nodes t ≤ 23 ∧ x = brk 0 t
  · obtain ⟨t, ht, rfl⟩ := h
    exact ⟨_, parse_ok ht⟩
  · refine ⟨(⟨#[]⟩, 6), ?_, ?_⟩
    · unfold impl_ParseBrackets.f
      refine ev_ite (fun _ => Ev.now _) (fun hs => ?_)
      rw [B_size] at hs
      obtain ⟨r, e1, _, _⟩ := unb_ev _ x (Nat.le_refl _) (by omega)
      refine Ev.bind e1 ?_
      cases r with
      | none => exact ev_neg (by simp [outU]) (Ev.now _)
      | some p =>
        obtain ⟨t, s⟩ := p
        refine ev_pos rfl (ev_ite (fun _ => Ev.bind (impl_IsBinary_ev _) (ev_ite (fun hb => ?_) (fun _ => Ev.now _))) (fun _ => Ev.now _))
        obtain ⟨u, e, hu⟩ := isBin_sound hb
        show Ev (fun k => (impl_brackets.f k (B (enc t)) 0).bind _) _
        rw [e]
        refine Ev.bind (impl_brk_ev u 0 (by omega)) (ev_neg (fun he => h ⟨u, hu, ?_⟩) (Ev.now _))
        rw [toList_B, toList_B] at he
        exact he.symm
    · have := spec_parse_loop x hx (⟨#[]⟩, 6) (by
        refine Ev.bind (spec_l03Is_ev _) (ev_ite (fun hb => ?_) (fun _ => Ev.now _))
        obtain ⟨u, e, hu⟩ := isBin_sound hb
        rw [e]
        refine Ev.bind (spec_brk_ev u 0 (by omega)) (ev_neg (fun he => h ⟨u, hu, ?_⟩) (Ev.now _))
        rw [toList_B, toList_B] at he
        exact he.symm) x [] rfl
      unfold spec_ParseBrackets.f
      exact this
end Go.Proofs.Ythbdbgoeaichcaa.E
namespace Go.Proofs.Ythbdbgoeaichcaa.Bin
set_option linter.unusedVariables false
set_option linter.unusedSectionVars false
open Go.RowKit Go.Proofs.YthbdbgoeaichcaaW.PrintWords Go.Proofs.Ythbdbgoeaichcaa.Base

def rotAt : BT → Nat → Bool → Option BT
  | .leaf, _, _ => none
  | .node l r, 0, b => turn b l r
  | .node l r, i + 1, b => if i < nodes l then (rotAt l i b).map (fun x => .node x r) else (rotAt r (i - nodes l) b).map (fun x => .node l x)
theorem rotAt_nodes : ∀ (t : BT) (i : Nat) (b : Bool) (u : BT), rotAt t i b = some u → nodes u = nodes t
  | .leaf, _, _, _, h => by simp [rotAt] at h
  | .node l r, 0, b, u, h => by rw [turn_nodes h]; rfl
  | .node l r, i + 1, b, u, h => by
    simp only [rotAt] at h
    split at h
    · obtain ⟨x, hx, rfl⟩ := Option.map_eq_some_iff.1 h
      have := rotAt_nodes l i b x hx
      simp only [nodes]; omega
    · obtain ⟨x, hx, rfl⟩ := Option.map_eq_some_iff.1 h
      have := rotAt_nodes r (i - nodes l) b x hx
      simp only [nodes]; omega
abbrev KS := List (BT × Int)
def keys (P : KS) : List (List UInt8) := P.map fun p => enc p.1
def addK (P : KS) (d : Int) : Option BT → KS
  | none => P
  | some z => if enc z ∈ keys P then P else P ++ [(z, d)]
def innK (t : BT) (d : Int) : Nat → Nat → KS → KS
  | 0, _, P => P
  | m + 1, i, P => innK t d m (i + 1) (addK (addK P d (rotAt t i true)) d (rotAt t i false))
def outK (n : Nat) : Nat → Nat → KS → KS
  | 0, _, P => P
  | m + 1, i, P => match P[i]? with
    | none => P
    | some x => outK n m (i + 1) (innK x.1 (x.2 + 1) n 0 P)
structure KG (n : Nat) (P : KS) : Prop where
  nd : (keys P).Nodup
  nn : ∀ x ∈ P, nodes x.1 = n
  vv : ∀ x ∈ P, 0 ≤ x.2 ∧ x.2 ≤ P.length
theorem addK_pre (P : KS) (d : Int) (z : Option BT) : ∃ Q, addK P d z = P ++ Q := by
  cases z with
  | none => exact ⟨[], by simp [addK]⟩
  | some z =>
    simp only [addK]
    split
    · exact ⟨[], by simp⟩
    · exact ⟨[(z, d)], rfl⟩
theorem KG.add {n : Nat} {P : KS} (h : KG n P) {d : Int} (h0 : 0 ≤ d) (h1 : d ≤ P.length + 1) {z : Option BT} (hz : ∀ u, z = some u → nodes u = n) : KG n (addK P d z) := by
  cases z with
  | none => exact h
  | some z =>
    simp only [addK]
    split
    · exact h
    · rename_i hn
      refine ⟨?_, fun x hx => ?_, fun x hx => ?_⟩
      · unfold keys
        rw [List.map_append]
        refine List.nodup_append.2 ⟨h.nd, by simp, fun x hx y hy => ?_⟩
        simp only [List.map_cons, List.map_nil, List.mem_singleton] at hy
        subst hy
        exact fun e => hn (e ▸ hx)
      · rcases List.mem_append.1 hx with hx | hx
        · exact h.nn x hx
        · rw [List.mem_singleton] at hx
          subst hx
          exact hz z rfl
      · rw [List.length_append, List.length_singleton]
        rcases List.mem_append.1 hx with hx | hx
        · have := h.vv x hx; omega
        · rw [List.mem_singleton] at hx
          subst hx
          constructor
          · exact h0
          · simp only; omega
theorem KG.inn {n : Nat} {t : BT} (ht : nodes t = n) {d : Int} (h0 : 0 ≤ d) : ∀ (m i : Nat) (P : KS), KG n P → d ≤ P.length + 1 → KG n (innK t d m i P)
  | 0, _, _, h, _ => h
  | m + 1, i, P, h, h1 => by
    have hz : ∀ b u, rotAt t i b = some u → nodes u = n := fun b u e => (rotAt_nodes t i b u e).trans ht
    obtain ⟨Q1, e1⟩ := addK_pre P d (rotAt t i true)
    obtain ⟨Q2, e2⟩ := addK_pre (addK P d (rotAt t i true)) d (rotAt t i false)
    have l1 : P.length ≤ (addK P d (rotAt t i true)).length := by rw [e1]; simp
    have l2 : (addK P d (rotAt t i true)).length ≤ (addK (addK P d (rotAt t i true)) d (rotAt t i false)).length := by rw [e2]; simp
    exact KG.inn ht h0 m (i + 1) _ ((h.add h0 h1 (hz true)).add h0 (by omega) (hz false)) (by omega)
theorem few_nodup : ∀ (m : Nat) (l : List Int), l.Nodup → (∀ x ∈ l, 0 ≤ x ∧ x < m) → l.length ≤ m
  | 0, l, _, h => by
    cases l with
    | nil => simp
    | cons a l => have := h a (by simp); omega
  | m + 1, l, hn, h => by
    by_cases hm : (m : Int) ∈ l
    · have h1 := few_nodup m (l.erase (m : Int)) (hn.erase _) (fun x hx => by
        have h2 := (hn.mem_erase_iff).1 hx
        have := h x h2.2
        omega)
      rw [List.length_erase_of_mem hm] at h1
      omega
    · have := few_nodup m l hn (fun x hx => by
        have h2 := h x hx
        have : x ≠ m := fun e => hm (e ▸ hx)
        omega)
      omega
theorem enc_bytes : ∀ (t : BT), ∀ b ∈ enc t, b = 48 ∨ b = 49
  | .leaf, b, h => by simp [enc] at h; exact .inl h
  | .node l r, b, h => by
    simp only [enc, List.mem_cons, List.mem_append] at h
    rcases h with h | h | h
    · exact .inr h
    · exact enc_bytes l b h
    · exact enc_bytes r b h
def val : List UInt8 → Int
  | [] => 0
  | b :: l => (if b = 49 then 1 else 0) + 2 * val l
theorem val_rng : ∀ l : List UInt8, 0 ≤ val l ∧ val l < 2 ^ l.length
  | [] => by simp [val]
  | b :: l => by
    have := val_rng l
    simp only [val, List.length_cons]
    have e : (2 : Int) ^ (l.length + 1) = 2 * 2 ^ l.length := by rw [Int.pow_succ]; omega
    rw [e]
    split <;> omega
theorem val_inj : ∀ (l m : List UInt8), l.length = m.length → (∀ b ∈ l, b = 48 ∨ b = 49) → (∀ b ∈ m, b = 48 ∨ b = 49) → val l = val m → l = m
  | [], [], _, _, _, _ => rfl
  | [], _ :: _, h, _, _, _ => by simp at h
  | _ :: _, [], h, _, _, _ => by simp at h
  | b :: l, c :: m, h, h1, h2, h3 => by
    simp only [val] at h3
    have hb := h1 b (by simp)
    have hc := h2 c (by simp)
    have ne : ¬ (48 : UInt8) = 49 := by decide
    have key : b = c ∧ val l = val m := by
      rcases hb with rfl | rfl <;> rcases hc with rfl | rfl
      · exact ⟨rfl, by omega⟩
      · rw [if_neg ne, if_pos rfl] at h3; omega
      · rw [if_neg ne, if_pos rfl] at h3; omega
      · exact ⟨rfl, by omega⟩
    rw [key.1, val_inj l m (by simpa using h) (fun x hx => h1 x (by simp [hx])) (fun x hx => h2 x (by simp [hx])) key.2]
theorem KG.few {n : Nat} {P : KS} (h : KG n P) (hn : n ≤ 7) : P.length ≤ 32768 := by
  have hl : ∀ x ∈ P, (enc x.1).length = 2 * n + 1 := fun x hx => by rw [enc_length, h.nn x hx]
  have h1 : ((keys P).map val).Nodup := by
    unfold List.Nodup
    rw [List.pairwise_map]
    refine h.nd.imp_of_mem (fun {x y} hx hy hne e => hne ?_)
    obtain ⟨a, ha, rfl⟩ := List.mem_map.1 hx
    obtain ⟨b, hb, rfl⟩ := List.mem_map.1 hy
    exact val_inj _ _ (by rw [hl a ha, hl b hb]) (enc_bytes _) (enc_bytes _) e
  have := few_nodup 32768 _ h1 (fun z hz => by
    obtain ⟨x, hx, rfl⟩ := List.mem_map.1 hz
    obtain ⟨a, ha, rfl⟩ := List.mem_map.1 hx
    have h2 := val_rng (enc a.1)
    have h3 : (2 : Int) ^ (enc a.1).length ≤ 2 ^ 15 := by
      rw [hl a ha]
      exact_mod_cast Nat.pow_le_pow_right (by omega) (by omega)
    have : (2 : Int) ^ 15 = 32768 := by decide
    omega)
  simpa [keys] using this
theorem KG.out {n : Nat} : ∀ (m i : Nat) (P : KS), KG n P → KG n (outK n m i P)
  | 0, _, _, h => h
  | m + 1, i, P, h => by
    simp only [outK]
    split
    · exact h
    · rename_i x hx
      have hm : x ∈ P := List.mem_of_getElem? hx
      have := h.vv x hm
      exact KG.out m (i + 1) _ (KG.inn (h.nn x hm) (by omega) n 0 P h (by omega))
end Go.Proofs.Ythbdbgoeaichcaa.Bin
namespace Go.Proofs.Ythbdbgoeaichcaa.Bin
set_option linter.unusedVariables false
set_option linter.unusedSectionVars false
open Go.RowKit Go.Proofs.YthbdbgoeaichcaaW.PrintWords Go.Proofs.YthbdbgoeaichcaaW.PrintMore Go.Proofs.Ythbdbgoeaichcaa.Base

theorem gl (l m : List Int) (i : Nat) (h : i < l.length) : (l ++ m).getD i 0 = l.getD i 0 := by
  rw [List.getD_eq_getElem?_getD, List.getElem?_append_left h, ← List.getD_eq_getElem?_getD]
theorem gm (l m : List Int) (x : Int) : (l ++ x :: m).getD l.length 0 = x := by
  rw [List.getD_eq_getElem?_getD, List.getElem?_append_right (Nat.le_refl _), Nat.sub_self]; rfl
theorem gR (l m : List Int) (x : Int) (j : Nat) : (l ++ x :: m).getD (l.length + 1 + j) 0 = m.getD j 0 := by
  rw [List.getD_eq_getElem?_getD, List.getElem?_append_right (by omega), show l.length + 1 + j - l.length = j + 1 by omega, List.getElem?_cons_succ, ← List.getD_eq_getElem?_getD]
structure NC (l : List Int) : Prop where
  bd : ∀ i, i < l.length → 0 ≤ l.getD i 0 ∧ l.getD i 0 ≤ (l.length : Int) - 1 - i
  inn : ∀ i j, i < l.length → j < l.length → i < j → (j : Int) ≤ i + l.getD i 0 → j + l.getD j 0 ≤ i + l.getD i 0
theorem vec_NC : ∀ t, NC (vec t)
  | .leaf => ⟨fun i hi => by simp [vec] at hi, fun i j hi => by simp [vec] at hi⟩
  | .node l r => by
    have hl := vec_NC l
    have hr := vec_NC r
    have l1 := vec_length l
    have l2 := vec_length r
    have key : ∀ i, i < (vec (.node l r)).length → (i < nodes l ∧ (vec (.node l r)).getD i 0 = (vec l).getD i 0) ∨ (i = nodes l ∧ (vec (.node l r)).getD i 0 = nodes r) ∨ (∃ j, i = nodes l + 1 + j ∧ j < nodes r ∧ (vec (.node l r)).getD i 0 = (vec r).getD j 0) := by
      intro i hi
      simp only [vec, List.length_append, List.length_cons] at hi ⊢
      rcases Nat.lt_trichotomy i (nodes l) with h | h | h
      · exact .inl ⟨h, gl _ _ _ (by omega)⟩
      · refine .inr (.inl ⟨h, ?_⟩)
        subst h
        rw [← l1]; exact gm _ _ _
      · refine .inr (.inr ⟨i - nodes l - 1, by omega, by omega, ?_⟩)
        have := gR (vec l) (vec r) (nodes r : Int) (i - nodes l - 1)
        rw [l1, show nodes l + 1 + (i - nodes l - 1) = i by omega] at this
        exact this
    have hlen : (vec (.node l r)).length = nodes l + nodes r + 1 := by simp only [vec, List.length_append, List.length_cons]; omega
    refine ⟨fun i hi => ?_, fun i j hi hj hij hjv => ?_⟩
    · rcases key i hi with ⟨h1, h2⟩ | ⟨h1, h2⟩ | ⟨k, h1, h3, h2⟩
      · have := hl.bd i (by omega); rw [h2, hlen]; omega
      · rw [h2, hlen]; omega
      · have := hr.bd k (by omega); rw [h2, hlen]; omega
    · rcases key i hi with ⟨h1, h2⟩ | ⟨h1, h2⟩ | ⟨k, h1, h3, h2⟩
      · have b := hl.bd i (by omega)
        rw [h2] at hjv ⊢
        rcases key j hj with ⟨g1, g2⟩ | ⟨g1, g2⟩ | ⟨m, g1, g3, g2⟩
        · rw [g2]; exact hl.inn i j (by omega) (by omega) hij hjv
        · omega
        · omega
      · rw [h2] at hjv ⊢
        rcases key j hj with ⟨g1, g2⟩ | ⟨g1, g2⟩ | ⟨m, g1, g3, g2⟩
        · omega
        · omega
        · have := hr.bd m (by omega); rw [g2]; omega
      · rw [h2] at hjv ⊢
        rcases key j hj with ⟨g1, g2⟩ | ⟨g1, g2⟩ | ⟨m, g1, g3, g2⟩
        · omega
        · omega
        · have := hr.inn k m (by omega) (by omega) (by omega) (by omega); rw [g2]; omega
theorem first_spec (l : List Int) : ∀ (m i j : Nat), i + m = l.length → i ≤ j → j < l.length → l.getD j 0 = (l.length : Int) - 1 - j → (∀ k, i ≤ k → k < j → l.getD k 0 ≠ (l.length : Int) - 1 - k) → firstR l m i = some j
  | 0, i, j, hm, h1, h2, _, _ => by omega
  | m + 1, i, j, hm, h1, h2, h3, h4 => by
    simp only [firstR]
    by_cases e : i = j
    · subst e
      rw [if_pos h3]
    · rw [if_neg (h4 i (Nat.le_refl _) (by omega))]
      exact first_spec l m (i + 1) j (by omega) (by omega) h2 h3 (fun k hk => h4 k (by omega))
theorem ofV_vec : ∀ (f : Nat) (t : BT), nodes t ≤ f → ofV f (vec t) = (enc t, true)
  | 0, t, h => by
    cases t with
    | leaf => rfl
    | node l r => simp [nodes] at h
  | f + 1, .leaf, _ => by simp [ofV, vec, enc]
  | f + 1, .node l r, h => by
    simp only [nodes] at h
    have l1 := vec_length l
    have l2 := vec_length r
    have hlen : (vec (.node l r)).length = nodes l + nodes r + 1 := by simp only [vec, List.length_append, List.length_cons]; omega
    have hf : firstR (vec (.node l r)) (vec (.node l r)).length 0 = some (nodes l) := by
      refine first_spec _ _ 0 (nodes l) (by omega) (by omega) (by omega) ?_ (fun k _ hk => ?_)
      · have := gm (vec l) (vec r) (nodes r : Int)
        rw [l1] at this
        rw [hlen]
        simp only [vec]
        rw [this]; omega
      · have := gl (vec l) ((nodes r : Int) :: vec r) k (by omega)
        have b := (vec_NC l).bd k (by omega)
        rw [hlen]
        simp only [vec]
        rw [this]; omega
    have e1 : (vec (.node l r)).take (nodes l) = vec l := by
      simp only [vec]
      rw [← l1, List.take_left]
    have e2 : (vec (.node l r)).drop (nodes l + 1) = vec r := by
      simp only [vec]
      rw [show vec l ++ (nodes r : Int) :: vec r = (vec l ++ [(nodes r : Int)]) ++ vec r by simp, show nodes l + 1 = (vec l ++ [(nodes r : Int)]).length by simp [l1], List.drop_left]
    simp only [ofV]
    rw [if_neg (by omega), hf]
    simp only [e1, e2, ofV_vec f l (by omega), ofV_vec f r (by omega)]
    rfl
end Go.Proofs.Ythbdbgoeaichcaa.Bin
namespace Go.Proofs.Ythbdbgoeaichcaa.E
set_option linter.unusedVariables false
set_option linter.unusedSectionVars false
open Go.RowKit Go.Proofs.YthbdbgoeaichcaaW.PrintWords Go.Proofs.Ythbdbgoeaichcaa.Base

structure Src (c : List Int) : Prop where
  few : c.length ≤ 1000000
  byte : ∀ x ∈ c, 0 ≤ x ∧ x ≤ 255
def At (c : List Int) (a : Int) : Prop := 0 ≤ a ∧ a ≤ c.length
theorem Src.get {c : List Int} (h : Src c) (i : Int) : 0 ≤ rd c i ∧ rd c i ≤ 255 := by
  unfold rd
  rw [List.getD_eq_getElem?_getD]
  cases e : c[i.toNat]? with
  | none => simp
  | some x => exact h.byte x (List.mem_of_getElem? e)
theorem mask24 (x : Int) (h0 : 0 ≤ x) (h1 : x < 18446744073709551616) : bits .and .u64 x 16777215 = x % 16777216 :=
  bits_mask .u64 64 (by decide) (fun n h0 h1 => by rw [IntKind.wrap_u64]; omega) 24 (by decide) x h0 h1
theorem next_ok {c : List Int} (hc : Src c) {a : Int} (ha : At c a) (h n : Int) : ∃ x a' h', spec_l01Next.f c a h n = some (x, a', h') ∧ 0 ≤ x ∧ (1 ≤ n → x < n) ∧ (n < 1 → x = 0) ∧ At c a' := by
  unfold spec_l01Next.f
  have hf := hc.few
  obtain ⟨a0, a1⟩ := ha
  by_cases h1 : n < 1
  · rw [if_pos h1]
    exact ⟨0, a, h, rfl, by omega, by omega, fun _ => rfl, a0, a1⟩
  · rw [if_neg h1]
    obtain ⟨H, eH⟩ : ∃ H, H = IntKind.u64.wrap ((IntKind.u64.wrap (h * 6364136223846793005)) + 1442695040888963407) := ⟨_, rfl⟩
    rw [← eH]
    have hH : 0 ≤ H ∧ H < 18446744073709551616 := by rw [eH, IntKind.wrap_u64]; omega
    rw [mask24 (H / 8589934592) (by omega) (by omega)]
    obtain ⟨m, em⟩ : ∃ m, m = H / 8589934592 % 16777216 := ⟨_, rfl⟩
    rw [← em]
    have hm : 0 ≤ m ∧ m < 16777216 := by omega
    by_cases h2 : a < (c.length : Int)
    · have hg := hc.get a
      rw [if_pos h2, if_pos a0, if_neg (by omega), w64 (x := m) (by omega) (by omega), w64 (x := rd c a) (by omega) (by omega), w64 (x := m + rd c a) (by omega) (by omega), w64 (x := a + 1) (by omega) (by omega)]
      refine ⟨_, _, _, rfl, ?_, fun _ => ?_, fun h => absurd h h1, by omega, by omega⟩
      · exact Int.tmod_nonneg _ (by omega)
      · exact Int.tmod_lt_of_pos _ (by omega)
    · rw [if_neg h2, if_neg (by omega), w64 (x := m) (by omega) (by omega)]
      refine ⟨_, _, _, rfl, ?_, fun _ => ?_, fun h => absurd h h1, a0, a1⟩
      · exact Int.tmod_nonneg _ (by omega)
      · exact Int.tmod_lt_of_pos _ (by omega)
theorem pick_ok {c : List Int} (hc : Src c) {a : Int} (ha : At c a) (h : Int) (l : List Int) (hl : 0 < l.length) : ∃ x a' h', spec_l01Pick.f c a h l = some (x, a', h') ∧ x ∈ l ∧ At c a' := by
  obtain ⟨x, a', h', h1, h2, h3, _, h5⟩ := next_ok hc ha h (l.length : Int)
  have h4 := h3 (by omega)
  unfold spec_l01Pick.f
  rw [h1, Option.bind_some, if_pos h2, if_pos h4]
  refine ⟨_, _, _, rfl, ?_, h5⟩
  have hx : x.toNat < l.length := by omega
  unfold rd
  rw [List.getD_eq_getElem?_getD, List.getElem?_eq_getElem hx]
  exact List.getElem_mem hx
theorem from_loop {c : List Int} (hc : Src c) (y0 : List Int) (y1 : Int) : ∀ (m i : Nat) (h : Int), i + m = c.length → ∃ h', Ev (fun k => spec_l01From.l0 k c (i : Int) y0 y1 h) (y0, y1, h')
  | 0, i, h, hi => by
    refine ⟨h, ?_⟩
    refine Ev.step (fun k => by rw [spec_l01From.l0]) ?_
    exact ev_neg (by omega) (Ev.now _)
  | m + 1, i, h, hi => by
    have hf := hc.few
    by_cases hx : (i : Int) < 4096
    · obtain ⟨h', ih⟩ := from_loop hc y0 y1 m (i + 1) (IntKind.u64.wrap ((IntKind.u64.wrap ((IntKind.u64.wrap (h * 1099511628211)) + (IntKind.u64.wrap (rd c (i : Int))))) + 233)) (by omega)
      refine ⟨h', ?_⟩
      refine Ev.step (fun k => by rw [spec_l01From.l0]) ?_
      rw [w64s (by omega)]
      exact ev_pos (by omega) (ev_pos hx (ev_pos (by omega) ih))
    · refine ⟨h, ?_⟩
      refine Ev.step (fun k => by rw [spec_l01From.l0]) ?_
      exact ev_pos (by omega) (ev_neg hx (Ev.now _))
theorem from_ev {c : List Int} (hc : Src c) : ∃ h, Ev (fun k => spec_l01From.f k c) (c, 0, h) := by
  obtain ⟨h, h1⟩ := from_loop hc c 0 c.length 0 (IntKind.u64.wrap (13911 + (IntKind.u64.wrap ((c.length : Int))))) (by omega)
  exact ⟨h, by unfold spec_l01From.f; exact h1⟩
theorem At.zero (c : List Int) : At c 0 := ⟨by omega, by omega⟩
theorem own_eq (l : List Int) (h : l.length < 17592186044416) : spec_l01Own.f l = some l := by
  unfold spec_l01Own.f
  rw [Option.bind_some, if_pos (by simpa using h)]
  rfl
end Go.Proofs.Ythbdbgoeaichcaa.E
namespace Go.Proofs.Ythbdbgoeaichcaa.E
set_option linter.unusedVariables false
set_option linter.unusedSectionVars false
open Go.RowKit Go.Proofs.YthbdbgoeaichcaaW.PrintWords Go.Proofs.Ythbdbgoeaichcaa.Base Go.Proofs.Ythbdbgoeaichcaa.Tree

theorem nd_ext {d e : List Int} : ∀ (j : Nat), (∀ i, i < j → d.getD i 0 = e.getD i 0) → nd d j = nd e j
  | 0, _ => rfl
  | j + 1, h => by
    simp only [nd]
    rw [nd_ext j (fun i hi => h i (by omega)), h j (by omega)]
theorem nd_plus (d : List Int) (p : Nat) (hp : p < d.length) : ∀ j, nd (d.set p (d.getD p 0 + 1)) j = nd d j + if p < j then 1 else 0
  | 0 => by simp [nd]
  | j + 1 => by
    simp only [nd]
    rw [nd_plus d p hp j]
    by_cases e : p = j
    · subst e
      rw [get_set_eq hp, if_neg (by omega), if_pos (by omega)]
      omega
    · rw [get_set_ne e]
      by_cases hl : p < j
      · rw [if_pos hl, if_pos (by omega)]; omega
      · rw [if_neg hl, if_neg (by omega)]; omega
theorem IsT.grow {d : List Int} (h : IsT d) {p : Nat} (hp : p < d.length) : IsT (d.set p (d.getD p 0 + 1) ++ [0]) := by
  obtain ⟨D, eD⟩ : ∃ D, D = d.set p (d.getD p 0 + 1) := ⟨_, rfl⟩
  have hl : D.length = d.length := by rw [eD]; simp
  have hg : ∀ i, i < d.length → (D ++ [0]).getD i 0 = D.getD i 0 := fun i hi => by
    rw [List.getD_eq_getElem?_getD, List.getElem?_append_left (by omega), ← List.getD_eq_getElem?_getD]
  have hn : ∀ j, j ≤ d.length → nd (D ++ [0]) j = nd d j + if p < j then 1 else 0 := fun j hj => by
    rw [nd_ext j (fun i hi => hg i (by omega)), eD]
    exact nd_plus d p hp j
  have hlast : (D ++ [0]).getD d.length 0 = 0 := by
    rw [List.getD_eq_getElem?_getD, List.getElem?_append_right (by omega), hl, Nat.sub_self]; rfl
  rw [← eD]
  refine ⟨fun i hi => ?_, fun i hi => ?_, ?_⟩
  · rw [List.length_append, hl, List.length_singleton] at hi
    rw [hn i (by omega)]
    by_cases e : i = d.length
    · subst e
      rw [h.fin, if_pos hp]; omega
    · have := h.pos i (by omega)
      split <;> omega
  · rw [List.length_append, hl, List.length_singleton] at hi
    by_cases e : i = d.length
    · subst e; rw [hlast]; omega
    · rw [hg i (by omega), eD]
      have := h.deg i (by omega)
      by_cases e2 : p = i
      · subst e2; rw [get_set_eq hp]; omega
      · rw [get_set_ne e2]; exact this
  · rw [List.length_append, hl, List.length_singleton]
    simp only [nd]
    rw [hn d.length (Nat.le_refl _), h.fin, if_pos hp, hlast]
    omega
theorem IsT.one : IsT [0] := ⟨fun i hi => by
    have : i = 0 := by simpa using hi
    subst this; simp [nd], fun i hi => by
    have : i = 0 := by simpa using hi
    subst this; simp, by simp [nd]⟩
structure WayIn (d way : List Int) : Prop where
  some : 0 < way.length
  few : way.length ≤ d.length
  rg : ∀ x ∈ way, 0 ≤ x ∧ x < d.length
theorem WayIn.get {d way : List Int} (h : WayIn d way) {i : Nat} (hi : i < way.length) : 0 ≤ rd way (i : Int) ∧ rd way (i : Int) < d.length := by
  rw [rd_lt hi]
  exact h.rg _ (List.getElem_mem hi)
section
variable {c : List Int} (hc : Src c)
include hc
theorem draw_up {n deep : Int} {d way : List Int} (hd : IsT d) (hs : d.length ≤ 100) (hw : WayIn d way) {P : List Int → Prop}
    (H : ∀ a h d2 way2, At c a → IsT d2 → d2.length = d.length + 1 → WayIn d2 way2 → ∃ r a' h', Ev (fun k => spec_l01DrawOf.l0 k n d2 way2 deep (wrap64 ((d.length : Int) + 1)) c a h) (r, a', h') ∧ P r ∧ At c a') :
    ∀ (j : Nat) (a h : Int), j < way.length → At c a → ∃ r a' h', Ev (fun k => spec_l01DrawOf.l1 k n d way deep (d.length : Int) (j : Int) c a h) (r, a', h') ∧ P r ∧ At c a'
  | 0, a, h, hj, ha => by
    have hg := hw.get hj
    have hp : (rd way ((0 : Nat) : Int)).toNat < d.length := by omega
    have hwf := hw.few
    have hway : WayIn (d.set (rd way ((0 : Nat) : Int)).toNat (d.getD (rd way ((0 : Nat) : Int)).toNat 0 + 1) ++ [0]) (way.take 1 ++ [(d.length : Int)]) := ⟨by simp, by simp only [List.length_append, List.length_take, List.length_singleton, List.length_set]; omega, fun x hx => by
      simp only [List.length_append, List.length_singleton, List.length_set]
      rcases List.mem_append.1 hx with hx | hx
      · have := hw.rg x (List.mem_of_mem_take hx); omega
      · rw [List.mem_singleton] at hx; omega⟩
    obtain ⟨r, a', h', h1, h2, h3⟩ := H a h _ _ ha (IsT.grow hd hp) (by simp) hway
    refine ⟨r, a', h', ?_, h2, h3⟩
    have h0 := hd.deg _ hp
    have h4 := deg_le hd hp
    refine Ev.step (fun k => by rw [spec_l01DrawOf.l1]) ?_
    obtain ⟨p, ep⟩ : ∃ p : Nat, rd way ((0 : Nat) : Int) = (p : Int) := ⟨(rd way ((0 : Nat) : Int)).toNat, by omega⟩
    rw [ep] at hg hp h0 h4 h1 ⊢
    rw [show ((p : Int)).toNat = p from rfl] at hp h0 h4 h1 ⊢
    rw [w64s (by omega), rd_nat d p, w64 (x := d.getD p 0 + 1) (by omega) (by omega)]
    refine ev_neg (by omega) (ev_pos (by omega) (ev_pos (by omega) (ev_pos (by omega) (ev_pos (by omega) (ev_some (ev_pos (by omega) (ev_pos (by omega) ?_)))))))
    rw [show (((0 + 1 : Nat) : Int)).toNat = 1 from rfl, own_eq _ (by simp; omega)]
    exact ev_some (ev_pos (by simp; omega) (ev_pos (by simp; omega) h1))
  | j + 1, a, h, hj, ha => by
    obtain ⟨x, a1, h1, e1, _, _, _, ha1⟩ := next_ok hc ha h deep
    by_cases hx : x = 0
    · obtain ⟨r, a', h', ih, i2, i3⟩ := draw_up hd hs hw H j a1 h1 (by omega) ha1
      refine ⟨r, a', h', ?_, i2, i3⟩
      have hwf := hw.few
      refine Ev.step (fun k => by rw [spec_l01DrawOf.l1]) ?_
      rw [e1, w64p (by omega)]
      exact ev_pos (by omega) (ev_some (ev_pos hx ih))
    · have hg := hw.get hj
      have hp : (rd way ((j + 1 : Nat) : Int)).toNat < d.length := by omega
      have hwf := hw.few
      have hway : WayIn (d.set (rd way ((j + 1 : Nat) : Int)).toNat (d.getD (rd way ((j + 1 : Nat) : Int)).toNat 0 + 1) ++ [0]) (way.take (j + 1 + 1) ++ [(d.length : Int)]) := ⟨by simp, by simp only [List.length_append, List.length_take, List.length_singleton, List.length_set]; omega, fun x hx => by
        simp only [List.length_append, List.length_singleton, List.length_set]
        rcases List.mem_append.1 hx with hx | hx
        · have := hw.rg x (List.mem_of_mem_take hx); omega
        · rw [List.mem_singleton] at hx; omega⟩
      obtain ⟨r, a', h', g1, g2, g3⟩ := H a1 h1 _ _ ha1 (IsT.grow hd hp) (by simp) hway
      refine ⟨r, a', h', ?_, g2, g3⟩
      have h0 := hd.deg _ hp
      have h4 := deg_le hd hp
      refine Ev.step (fun k => by rw [spec_l01DrawOf.l1]) ?_
      rw [e1]
      refine ev_pos (by omega) (ev_some (ev_neg hx ?_))
      obtain ⟨p, ep⟩ : ∃ p : Nat, rd way ((j + 1 : Nat) : Int) = (p : Int) := ⟨(rd way ((j + 1 : Nat) : Int)).toNat, by omega⟩
      rw [ep] at hg hp h0 h4 g1 ⊢
      rw [show ((p : Int)).toNat = p from rfl] at hp h0 h4 g1 ⊢
      rw [w64s (by omega), rd_nat d p, w64 (x := d.getD p 0 + 1) (by omega) (by omega)]
      refine ev_pos (by omega) (ev_pos (by omega) (ev_pos (by omega) (ev_pos (by omega) (ev_some (ev_pos (by omega) (ev_pos (by omega) ?_))))))
      rw [show (((j + 1 + 1 : Nat) : Int)).toNat = j + 1 + 1 from rfl, own_eq _ (by simp; omega)]
      exact ev_some (ev_pos (by simp; omega) (ev_pos (by simp; omega) g1))
theorem draw_loop {n : Nat} (hn : n ≤ 100) {deep : Int} : ∀ (m : Nat) (a h : Int) (d way : List Int), d.length + m = n → At c a → IsT d → WayIn d way →
    ∃ r a' h', Ev (fun k => spec_l01DrawOf.l0 k (n : Int) d way deep (d.length : Int) c a h) (r, a', h') ∧ (IsT r ∧ r.length = n) ∧ At c a'
  | 0, a, h, d, way, hm, ha, hd, hw => by
    refine ⟨d, a, h, ?_, ⟨hd, by omega⟩, ha⟩
    refine Ev.step (fun k => by rw [spec_l01DrawOf.l0]) ?_
    exact ev_neg (by omega) (Ev.now _)
  | m + 1, a, h, d, way, hm, ha, hd, hw => by
    have hs := hw.some
    have hf := hw.few
    obtain ⟨r, a', h', h1, h2, h3⟩ := draw_up hc (n := (n : Int)) (deep := deep) hd (by omega) hw (P := fun r => IsT r ∧ r.length = n) (fun a h d2 way2 ha hd2 hl hw2 => by
      have := draw_loop hn (deep := deep) m a h d2 way2 (by omega) ha hd2 hw2
      rw [w64s (by omega), ← hl]
      exact this) (way.length - 1) a h (by omega) ha
    refine ⟨r, a', h', ?_, h2, h3⟩
    refine Ev.step (fun k => by rw [spec_l01DrawOf.l0]) ?_
    rw [w64 (x := (way.length : Int) - 1) (by omega) (by omega), show (way.length : Int) - 1 = ((way.length - 1 : Nat) : Int) by omega]
    exact ev_pos (by omega) h1
theorem draw_ev {n : Nat} (h1 : 1 ≤ n) (hn : n ≤ 100) {a : Int} (ha : At c a) (h : Int) : ∃ r a' h', Ev (fun k => spec_l01DrawOf.f k c a h (n : Int)) (r, a', h') ∧ (IsT r ∧ r.length = n) ∧ At c a' := by
  obtain ⟨x, a1, h2, e1, _, ha1⟩ := pick_ok hc ha h [1, 2, 4, 30] (by simp)
  obtain ⟨r, a', h', g1, g2, g3⟩ := draw_loop hc (n := n) hn (deep := x) (n - 1) a1 h2 [0] [0] (by simp; omega) ha1 IsT.one ⟨by simp, by simp, fun x hx => by rw [List.mem_singleton] at hx; subst hx; simp⟩
  refine ⟨r, a', h', ?_, g2, g3⟩
  unfold spec_l01DrawOf.f
  rw [e1]
  exact ev_some g1
end
end Go.Proofs.Ythbdbgoeaichcaa.E
namespace Go.Proofs.Ythbdbgoeaichcaa.Lcg
set_option linter.unusedVariables false
set_option linter.unusedSectionVars false
def it (a c : Int) : Nat → Int → Int
  | 0, x => x
  | n + 1, x => it a c n (a * x + c)
theorem it_add (a c : Int) : ∀ (m n : Nat) (x : Int), it a c (m + n) x = it a c n (it a c m x)
  | 0, n, x => by rw [Nat.zero_add]; rfl
  | m + 1, n, x => by rw [Nat.add_right_comm]; exact it_add a c m n _
theorem jump {a c : Int} (ha : a % 4 = 1) (hc : c % 2 = 1) : ∀ m : Nat, ∃ p q : Int, p % 4 = 1 ∧ (∀ x, it a c (2 ^ m) x = p * x + q) ∧ ∀ x, ∃ r, (p - 1) * x + q = 2 ^ m * (2 * r + 1)
  | 0 => by
    refine ⟨a, c, ha, fun x => rfl, fun x => ?_⟩
    obtain ⟨k, hk⟩ : ∃ k, a = 4 * k + 1 := ⟨a / 4, by omega⟩
    refine ⟨2 * (k * x) + c / 2, ?_⟩
    have e : (a - 1) * x = 4 * (k * x) := by rw [hk, Int.add_sub_cancel, Int.mul_assoc]
    rw [e, Int.pow_zero, Int.one_mul]
    omega
  | m + 1 => by
    obtain ⟨p, q, hp, h1, h2⟩ := jump ha hc m
    obtain ⟨k, hk⟩ : ∃ k, p = 4 * k + 1 := ⟨p / 4, by omega⟩
    refine ⟨p * p, p * q + q, ?_, fun x => ?_, fun x => ?_⟩
    · rw [Int.mul_emod, hp]; rfl
    · rw [Nat.pow_succ, Nat.mul_two, it_add, h1, h1]
      grind
    · obtain ⟨r, hr⟩ := h2 x
      refine ⟨2 * k * r + k + r, ?_⟩
      have e : (p * p - 1) * x + (p * q + q) = (p + 1) * ((p - 1) * x + q) := by grind
      rw [e, hr, hk]
      rw [Int.pow_succ]
      grind
theorem reach {a c : Int} (ha : a % 4 = 1) (hc : c % 2 = 1) (x y : Int) : ∀ m : Nat, ∃ n, n < 2 ^ m ∧ ∃ r, it a c n x = y + 2 ^ m * r
  | 0 => ⟨0, by decide, x - y, by rw [Int.pow_zero]; simp only [it]; omega⟩
  | m + 1 => by
    obtain ⟨n, hn, r, hr⟩ := reach ha hc x y m
    obtain ⟨k, hk | hk⟩ : ∃ k, r = 2 * k ∨ r = 2 * k + 1 := ⟨r / 2, by omega⟩
    · refine ⟨n, by rw [Nat.pow_succ]; omega, k, ?_⟩
      rw [hr, hk, Int.pow_succ]; grind
    · obtain ⟨p, q, _, h1, h2⟩ := jump ha hc m
      obtain ⟨s, hs⟩ := h2 (it a c n x)
      refine ⟨n + 2 ^ m, by rw [Nat.pow_succ]; omega, k + s + 1, ?_⟩
      rw [it_add, h1]
      have e : p * it a c n x + q = it a c n x + ((p - 1) * it a c n x + q) := by grind
      rw [e, hs, hr, hk, Int.pow_succ]
      grind
theorem it_par {a c : Int} (ha : a % 4 = 1) (hc : c % 2 = 1) : ∀ (n : Nat) (x : Int), (it a c n x) % 2 = (x + n) % 2
  | 0, x => by simp [it]
  | n + 1, x => by
    obtain ⟨k, hk⟩ : ∃ k, a = 4 * k + 1 := ⟨a / 4, by omega⟩
    have e : a * x = 4 * (k * x) + x := by rw [hk, Int.add_mul, Int.mul_assoc, Int.one_mul]
    have := it_par ha hc n (a * x + c)
    simp only [it]
    rw [this, e]
    omega
def stp (h : Int) : Int := (h * 6364136223846793005 + 1442695040888963407) % 18446744073709551616
def drw (h : Int) : Int := stp h / 8589934592 % 16777216
theorem stp_bd (h : Int) : 0 ≤ stp h ∧ stp h < 18446744073709551616 := by unfold stp; omega
def stN : Nat → Int → Int
  | 0, h => h
  | n + 1, h => stN n (stp h)
theorem stN_add : ∀ (m n : Nat) (x : Int), stN (m + n) x = stN n (stN m x)
  | 0, n, x => by rw [Nat.zero_add]; rfl
  | m + 1, n, x => by rw [Nat.add_right_comm]; exact stN_add m n _
theorem stp_mod {x y : Int} (h : x % 144115188075855872 = y % 144115188075855872) : stp x % 144115188075855872 = stp y % 144115188075855872 := by unfold stp; omega
theorem drw_mod {x y : Int} (h : x % 144115188075855872 = y % 144115188075855872) : drw x = drw y := by
  have := stp_mod h
  unfold drw
  omega
theorem stN_it : ∀ (n : Nat) (x y : Int), x % 144115188075855872 = y % 144115188075855872 → stN n x % 144115188075855872 = it 6364136223846793005 1442695040888963407 n y % 144115188075855872
  | 0, x, y, h => h
  | n + 1, x, y, h => stN_it n _ _ (by unfold stp; omega)
theorem two_far (h : Int) : ∃ n : Nat, n % 2 = 0 ∧ n < 144115188075855872 ∧ drw (stN n h) % 3 ≠ 0 ∧ drw (stN (n + 2) h) % 3 ≠ 0 := by
  have go : ∀ w : Int, w % 2 = h % 2 → drw w % 3 ≠ 0 → drw (stN 2 w) % 3 ≠ 0 → ∃ n : Nat, n % 2 = 0 ∧ n < 144115188075855872 ∧ drw (stN n h) % 3 ≠ 0 ∧ drw (stN (n + 2) h) % 3 ≠ 0 := by
    intro w hp h1 h2
    obtain ⟨n, hn, r, hr⟩ := reach (a := 6364136223846793005) (c := 1442695040888963407) (by decide) (by decide) h w 57
    have par := it_par (a := 6364136223846793005) (c := 1442695040888963407) (by decide) (by decide) n h
    have e57 : (2 : Int) ^ 57 = 144115188075855872 := by decide
    have e57n : (2 : Nat) ^ 57 = 144115188075855872 := by decide
    rw [e57] at hr
    rw [e57n] at hn
    have em : stN n h % 144115188075855872 = w % 144115188075855872 := by rw [stN_it n h h rfl, hr]; omega
    refine ⟨n, by omega, hn, by rw [drw_mod em]; exact h1, ?_⟩
    rw [stN_add]
    have : stN 2 (stN n h) % 144115188075855872 = stN 2 w % 144115188075855872 := stp_mod (stp_mod em)
    rw [drw_mod this]
    exact h2
  rcases (by omega : h % 2 = 0 ∨ h % 2 = 1) with hp | hp
  · exact go 0 (by rw [hp]; rfl) (by decide) (by decide)
  · exact go 1 (by rw [hp]; rfl) (by decide) (by decide)
end Go.Proofs.Ythbdbgoeaichcaa.Lcg
namespace Go.Proofs.Ythbdbgoeaichcaa.E
set_option linter.unusedVariables false
set_option linter.unusedSectionVars false
open Go.RowKit Go.Proofs.YthbdbgoeaichcaaW.PrintWords Go.Proofs.Ythbdbgoeaichcaa.Base Go.Proofs.Ythbdbgoeaichcaa.Tree Go.Proofs.Ythbdbgoeaichcaa.Bin
theorem vec_mem : ∀ (t : BT) (x : Int), x ∈ vec t → 0 ≤ x ∧ x ≤ nodes t
  | .leaf, x, h => by cases h
  | .node l r, x, h => by
    simp only [vec, List.mem_append, List.mem_cons] at h
    simp only [nodes]
    rcases h with h | rfl | h
    · have := vec_mem l x h; omega
    · omega
    · have := vec_mem r x h; omega
def ofL (l : List Int) : ByteArray × Int := if (ofV l.length l).2 = true then (B (ofV l.length l).1, 0) else (⟨#[]⟩, 4)
def badL : List Int → Bool
  | [] => false
  | x :: l => if 0 ≤ x ∧ x ≤ 23 then badL l else true
theorem badL_drop (l : List Int) (i : Nat) (h : i < l.length) : badL (l.drop i) = if 0 ≤ l.getD i 0 ∧ l.getD i 0 ≤ 23 then badL (l.drop (i + 1)) else true := by
  rw [List.drop_eq_getElem_cons h, List.getD_eq_getElem?_getD, List.getElem?_eq_getElem h]; rfl
theorem spec_vec_loop (l : List Int) (hl : l.length ≤ 1000) : ∀ (m i : Nat), i + m = l.length → Ev (fun k => spec_BinaryOfVector.l0 k l (i : Int)) (if badL (l.drop i) = true then (⟨#[]⟩, 2) else ofL l)
  | 0, i, hi => by
    rw [List.drop_of_length_le (by omega)]
    refine Ev.step (fun k => by rw [spec_BinaryOfVector.l0]) ?_
    refine ev_neg (by omega) (Ev.bind (spec_l03Of_ev l.length l (Nat.le_refl _) hl) ?_)
    rw [show (if badL [] = true then ((⟨#[]⟩ : ByteArray), (2 : Int)) else ofL l) = ofL l from rfl]
    simp only [bOf, ofL]
    refine ev_ite (fun h => ?_) (fun h => ?_)
    · rw [if_pos h]; exact Ev.now _
    · rw [if_neg h]; exact Ev.now _
  | m + 1, i, hi => by
    have ih := spec_vec_loop l hl m (i + 1) (by omega)
    refine Ev.step (fun k => by rw [spec_BinaryOfVector.l0]) ?_
    rw [l01In_ev, rd_nat, w64s (by omega), badL_drop l i (by omega)]
    refine ev_pos (by omega) (ev_pos (by omega) (ev_some (ev_ite (fun h => ?_) (fun h => ?_))))
    · rw [Bool.and_eq_true, decide_eq_true_eq, decide_eq_true_eq] at h
      rw [if_pos h]; exact ih
    · rw [Bool.and_eq_true, decide_eq_true_eq, decide_eq_true_eq] at h
      rw [if_neg h, if_pos rfl]; exact Ev.now _
theorem impl_vec_loop (l : List Int) (hl : l.length ≤ 1000) : ∀ (m i : Nat), i + m = l.length → Ev (fun k => impl_BinaryOfVector.l0 k l l (l.length : Int) (i : Int)) (if badL (l.drop i) = true then (⟨#[]⟩, 2) else ofL l)
  | 0, i, hi => by
    rw [List.drop_of_length_le (by omega)]
    refine Ev.step (fun k => by rw [impl_BinaryOfVector.l0]) ?_
    refine ev_neg (by omega) (Ev.bind (impl_of_ev l.length l (Nat.le_refl _) hl) ?_)
    rw [show (if badL [] = true then ((⟨#[]⟩ : ByteArray), (2 : Int)) else ofL l) = ofL l from rfl]
    simp only [bOf, ofL]
    refine ev_ite (fun h => ?_) (fun h => ?_)
    · rw [if_pos h]; exact Ev.now _
    · rw [if_neg h]; exact Ev.now _
  | m + 1, i, hi => by
    have ih := impl_vec_loop l hl m (i + 1) (by omega)
    refine Ev.step (fun k => by rw [impl_BinaryOfVector.l0]) ?_
    rw [rd_nat, w64s (by omega), badL_drop l i (by omega)]
    refine ev_pos (by omega) (ev_pos (by omega) (ev_pos (by omega) (ev_ite (fun h => ?_) (fun h => ev_ite (fun h2 => ?_) (fun h2 => ?_)))))
    · rw [if_neg (show ¬ (0 ≤ l.getD i 0 ∧ l.getD i 0 ≤ 23) by omega), if_pos rfl]; exact Ev.now _
    · rw [if_neg (show ¬ (0 ≤ l.getD i 0 ∧ l.getD i 0 ≤ 23) by omega), if_pos rfl]; exact Ev.now _
    · rw [if_pos (show 0 ≤ l.getD i 0 ∧ l.getD i 0 ≤ 23 by omega)]; exact ih
theorem ofvec_both (l : List Int) (hl : l.length ≤ 1000) : ∃ r, Ev (fun k => impl_BinaryOfVector.f k l) r ∧ Ev (fun k => spec_BinaryOfVector.f k l) r ∧ (∀ t, l = vec t → nodes t ≤ 23 → r = (B (enc t), 0)) := by
  by_cases h : 23 < l.length
  · refine ⟨(⟨#[]⟩, 2), ?_, ?_, fun t e ht => ?_⟩
    · unfold impl_BinaryOfVector.f
      exact ev_pos (by omega) (Ev.now _)
    · unfold spec_BinaryOfVector.f
      exact ev_pos (by omega) (Ev.now _)
    · have := vec_length t
      rw [e] at h
      omega
  · refine ⟨if badL (l.drop 0) = true then (⟨#[]⟩, 2) else ofL l, ?_, ?_, fun t e ht => ?_⟩
    · unfold impl_BinaryOfVector.f
      exact ev_neg (by omega) (impl_vec_loop l hl l.length 0 (by omega))
    · unfold spec_BinaryOfVector.f
      exact ev_neg (by omega) (spec_vec_loop l hl l.length 0 (by omega))
    · have good : ∀ m : List Int, (∀ x ∈ m, 0 ≤ x ∧ x ≤ 23) → badL m = false := fun m hm => by
        induction m with
        | nil => rfl
        | cons x m ih => simp only [badL, if_pos (hm x (by simp)), ih (fun y hy => hm y (by simp [hy]))]
      rw [List.drop_zero, e, good _ (fun x hx => by have := vec_mem t x hx; omega), if_neg (by decide), ofL, ofV_vec _ t (by rw [vec_length]; omega), if_pos rfl]
end Go.Proofs.Ythbdbgoeaichcaa.E
namespace Go.Proofs.Ythbdbgoeaichcaa.E
set_option linter.unusedVariables false
set_option linter.unusedSectionVars false
open Go.RowKit Go.Proofs.YthbdbgoeaichcaaW.PrintWords Go.Proofs.Ythbdbgoeaichcaa.Base Go.Proofs.Ythbdbgoeaichcaa.Tree Go.Proofs.Ythbdbgoeaichcaa.Bin Go.Proofs.Ythbdbgoeaichcaa.Lcg
section
variable {c : List Int} (hc : Src c)
theorem rdT_mem {xs : List S26} {i : Nat} (h : i < xs.length) : rd_T26 xs (i : Int) ∈ xs := by
  unfold rd_T26
  rw [show ((i : Int)).toNat = i from rfl, List.getD_eq_getElem?_getD, List.getElem?_eq_getElem h]
  exact List.getElem_mem h
theorem join_loop {xs : List S26} (hx : xs.length ≤ 100) (hm : ∀ x ∈ xs, x.f0.length ≤ 100) : ∀ (m i : Nat) (y : List Int), i + m = xs.length → 1 ≤ y.length → y.length ≤ 24 → ∃ r, Ev (fun k => spec_l01Join.l0 k xs y (i : Int)) r ∧ (r.2 = true → 1 ≤ r.1.length ∧ r.1.length ≤ 24)
  | 0, i, y, hi, h1, h2 => by
    refine ⟨(y, true), ?_, fun _ => ⟨h1, h2⟩⟩
    refine Ev.step (fun k => by rw [spec_l01Join.l0]) ?_
    exact ev_neg (by omega) (Ev.now _)
  | m + 1, i, y, hi, h1, h2 => by
    have hq := hm _ (rdT_mem (xs := xs) (i := i) (by omega))
    by_cases hl : 24 < (y ++ (rd_T26 xs (i : Int)).f0).length
    · refine ⟨([], false), ?_, fun h => by cases h⟩
      refine Ev.step (fun k => by rw [spec_l01Join.l0]) ?_
      exact ev_pos (by omega) (ev_pos (by omega) (ev_pos (by omega) (ev_some (ev_pos (by omega) (Ev.now _)))))
    · obtain ⟨r, e, hr⟩ := join_loop hx hm m (i + 1) (y ++ (rd_T26 xs (i : Int)).f0) (by omega) (by simp; omega) (by omega)
      refine ⟨r, ?_, hr⟩
      refine Ev.step (fun k => by rw [spec_l01Join.l0]) ?_
      rw [w64s (by omega)]
      exact ev_pos (by omega) (ev_pos (by omega) (ev_pos (by omega) (ev_some (ev_neg (by omega) e))))
theorem join_ev {xs : List S26} (hx : xs.length ≤ 100) (hm : ∀ x ∈ xs, x.f0.length ≤ 100) : ∃ r, Ev (fun k => spec_l01Join.f k xs) r ∧ (r.2 = true → 1 ≤ r.1.length ∧ r.1.length ≤ 24) := by
  unfold spec_l01Join.f
  exact join_loop hx hm xs.length 0 [(xs.length : Int)] (by omega) (by simp) (by simp)
include hc
theorem drawN_ev {p : Int} (hp : 1 ≤ p ∧ p ≤ 24) {a : Int} (ha : At c a) (h : Int) : ∃ r a' h', Ev (fun k => (spec_l01Next.f c a h p).bind fun bt => ((spec_l01DrawOf.f k c bt.2.1 bt.2.2 (wrap64 (1 + bt.1))).bind fun b2 => (some (b2.1, b2.2.1, b2.2.2)))) (r, a', h') ∧ (1 ≤ r.length ∧ r.length ≤ 24) ∧ At c a' := by
  obtain ⟨x, a1, h1, e1, x0, x1, _, ha1⟩ := next_ok hc ha h p
  have x2 := x1 hp.1
  obtain ⟨r, a2, h2, e2, ⟨_, hl⟩, ha2⟩ := draw_ev hc (n := 1 + x.toNat) (by omega) (by omega) ha1 h1
  refine ⟨r, a2, h2, ?_, by omega, ha2⟩
  rw [e1]
  refine ev_some ?_
  rw [show wrap64 (1 + x) = ((1 + x.toNat : Nat) : Int) by rw [w64 (by omega) (by omega)]; omega]
  exact Ev.bind e2 (Ev.now _)
theorem pickN_ev {a : Int} (ha : At c a) (h : Int) : ∃ r a' h', Ev (fun k => (spec_l01Pick.f c a h (([8, 12, 24] : List Int))).bind fun bt262 => ((spec_l01Next.f c bt262.2.1 bt262.2.2 bt262.1).bind fun bt265 => ((spec_l01DrawOf.f k c bt265.2.1 bt265.2.2 (wrap64 (1 + bt265.1))).bind fun bt268 => (some (bt268.1, bt268.2.1, bt268.2.2))))) (r, a', h') ∧ (1 ≤ r.length ∧ r.length ≤ 24) ∧ At c a' := by
  obtain ⟨p, a1, h1, e1, hp, ha1⟩ := pick_ok hc ha h [8, 12, 24] (by simp)
  have hp2 : 1 ≤ p ∧ p ≤ 24 := by simp at hp; omega
  obtain ⟨r, a2, h2, e2, hr, ha2⟩ := drawN_ev hc hp2 ha1 h1
  refine ⟨r, a2, h2, ?_, hr, ha2⟩
  rw [e1]
  exact ev_some e2
theorem many_ev (u : List Int) (hu : u.length ≤ 100) : ∀ (m : Nat) (xs : List S26) (a h : Int), xs.length + m ≤ 100 → (∀ x ∈ xs, x.f0.length ≤ 100) → At c a → ∃ r a' h', Ev (fun k => spec_l01Draw.l0 k xs (m : Int) c a h u) (r, a', h') ∧ (1 ≤ r.length ∧ r.length ≤ 24) ∧ At c a'
  | 0, xs, a, h, hl, hm, ha => by
    obtain ⟨⟨y, ok⟩, e, hr⟩ := join_ev (xs := xs) (by omega) hm
    cases ok with
    | true =>
      refine ⟨y, a, h, ?_, hr rfl, ha⟩
      refine Ev.step (fun k => by rw [spec_l01Draw.l0]) ?_
      exact ev_neg (by omega) (Ev.bind e (ev_pos rfl (Ev.now _)))
    | false =>
      obtain ⟨r, a2, h2, e2, hr2, ha2⟩ := pickN_ev hc ha h
      refine ⟨r, a2, h2, ?_, hr2, ha2⟩
      refine Ev.step (fun k => by rw [spec_l01Draw.l0]) ?_
      exact ev_neg (by omega) (Ev.bind e (ev_neg (by simp) e2))
  | m + 1, xs, a, h, hl, hm, ha => by
    obtain ⟨r, a2, h2, e2, hr2, ha2⟩ := many_ev u hu m (xs ++ [(⟨u⟩ : S26)]) a h (by simp; omega) (fun x hx => by
      rcases List.mem_append.1 hx with hx | hx
      · exact hm x hx
      · rw [List.mem_singleton] at hx; rw [hx]; exact hu) ha
    refine ⟨r, a2, h2, ?_, hr2, ha2⟩
    refine Ev.step (fun k => by rw [spec_l01Draw.l0]) ?_
    rw [w64p (by omega)]
    exact ev_pos (by omega) (ev_pos (by omega) e2)
theorem draw1_ev {a : Int} (ha : At c a) (h : Int) : ∃ r a' h', Ev (fun k => spec_l01Draw.f k c a h) (r, a', h') ∧ (1 ≤ r.length ∧ r.length ≤ 24) ∧ At c a' := by
  obtain ⟨x, a1, h1, e1, _, _, _, ha1⟩ := next_ok hc ha h 5
  by_cases h0 : x = 0
  · obtain ⟨r, a2, h2, e2, hr, ha2⟩ := drawN_ev hc (p := 6) (by omega) ha1 h1
    refine ⟨r, a2, h2, ?_, hr, ha2⟩
    unfold spec_l01Draw.f spec_l01Small.f
    rw [e1]
    exact ev_some (ev_pos h0 (Ev.bind e2 (Ev.now _)))
  · by_cases h5 : x = 1
    · obtain ⟨y, a2, h2, e2, y0, y1, _, ha2⟩ := next_ok hc ha1 h1 5
      have y2 := y1 (by omega)
      obtain ⟨u, a3, h3, e3, ⟨_, hul⟩, ha3⟩ := draw_ev hc (n := 1 + y.toNat) (by omega) (by omega) ha2 h2
      obtain ⟨z, a4, h4, e4, z0, z1, _, ha4⟩ := next_ok hc ha3 h3 5
      have z2 := z1 (by omega)
      obtain ⟨r, a6, h6, e6, hr, ha6⟩ := many_ev hc u (by omega) z.toNat [] a4 h4 (by simp; omega) (fun x hx => by cases hx) ha4
      refine ⟨r, a6, h6, ?_, hr, ha6⟩
      unfold spec_l01Draw.f
      rw [e1]
      refine ev_some (ev_neg h0 (ev_pos h5 ?_))
      simp only [e2]
      refine ev_some ?_
      rw [show wrap64 (1 + y) = ((1 + y.toNat : Nat) : Int) by rw [w64 (by omega) (by omega)]; omega]
      refine Ev.bind e3 ?_
      simp only [e4]
      refine ev_some ?_
      rw [show z = ((z.toNat : Nat) : Int) by omega]
      exact e6
    · obtain ⟨r, a2, h2, e2, hr, ha2⟩ := pickN_ev hc ha1 h1
      refine ⟨r, a2, h2, ?_, hr, ha2⟩
      unfold spec_l01Draw.f
      rw [e1]
      exact ev_some (ev_neg h0 (ev_neg h5 e2))
theorem bad1_ok {a : Int} (ha : At c a) (h : Int) (l : List Int) (hl : 1 ≤ l.length ∧ l.length ≤ 24) : ∃ d a' h', spec_l01Bad.f c a h l = some (d, a', h') ∧ d.length ≤ 25 ∧ At c a' := by
  have ec : spec_l01Copy.f l = some l := by
    unfold spec_l01Copy.f spec_l01Make.f
    rw [own_eq l (by omega)]; rfl
  obtain ⟨x, a1, h1, e1, _, _, _, ha1⟩ := next_ok hc ha h 50
  obtain ⟨y, a2, h2, e2, y0, y1, _, ha2⟩ := next_ok hc ha1 h1 (l.length : Int)
  have y2 := y1 (by omega)
  obtain ⟨p, a3, h3, e3, _, ha3⟩ := pick_ok hc ha2 h2 [(-1), 0, 1, 2, 25] (by simp)
  unfold spec_l01Bad.f
  rw [ec, Option.bind_some, e1, Option.bind_some]
  by_cases h0 : x = 0
  · rw [if_pos h0]; exact ⟨_, _, _, rfl, by simp, ha1⟩
  · rw [if_neg h0]
    by_cases q1 : x = 1
    · rw [if_pos q1, show spec_l01N.f l = some (l.length : Int) from rfl, Option.bind_some, e2, Option.bind_some, e3, Option.bind_some, if_pos y0, if_pos y2]
      exact ⟨_, _, _, rfl, by simp; omega, ha3⟩
    · rw [if_neg q1]
      by_cases q2 : x = 2
      · rw [if_pos q2, if_pos (by omega)]; exact ⟨_, _, _, rfl, by simp; omega, ha1⟩
      · rw [if_neg q2]; exact ⟨_, _, _, rfl, by omega, ha1⟩
theorem drawBinaryOf_ev : ∃ d, d.length ≤ 25 ∧ Ev (fun k => spec_DrawBinaryOf.f k c) d := by
  obtain ⟨h0, e0⟩ := from_ev hc
  obtain ⟨r, a1, h1, e1, hr, ha1⟩ := draw1_ev hc (At.zero c) h0
  obtain ⟨d, a2, h2, e2, hd, _⟩ := bad1_ok hc ha1 h1 r hr
  refine ⟨d, hd, ?_⟩
  have key : Ev (fun k => spec_l01Spoil.f k c 0 h0) (d, a2, h2) := by
    unfold spec_l01Spoil.f
    refine Ev.bind e1 ?_
    simp only [e2]
    exact ev_some (Ev.now _)
  unfold spec_DrawBinaryOf.f
  exact Ev.bind e0 (Ev.bind key (Ev.now _))
theorem drawOf_ev {n : Nat} (hn : n ≤ 50) {a : Int} (ha : At c a) (h : Int) : ∃ t a' h', Ev (fun k => spec_l03DrawOf.f k c a h (n : Int)) (B (enc t), a', h') ∧ nodes t = n ∧ At c a' := by
  obtain ⟨r, a1, h1, e1, ⟨hr, hl⟩, ha1⟩ := draw_ev hc (n := n + 1) (by omega) (by omega) ha h
  have hr0 := hr.len
  obtain ⟨t, ht, _, et, _⟩ := bin_run hr (by omega) r.length _ 1 (endM r 0) (by have := end_root hr; omega) (by have := end_root hr; omega) (by have := end_root hr; omega) (run_kids hr hr0)
  rw [end_root hr] at ht
  obtain ⟨x, a2, h2, e2, _, _, _, ha2⟩ := next_ok hc ha1 h1 2
  have key : Ev (fun k => spec_l03DrawOf.f k c a h (n : Int)) (if x = 0 then (B (enc (mirrorT t)), a2, h2) else (B (enc t), a2, h2)) := by
    unfold spec_l03DrawOf.f
    rw [w64s (by omega)]
    refine Ev.bind e1 (Ev.bind (spec_l01Children_ev hr (by omega) hr0) (Ev.bind et ?_))
    rw [e2]
    refine ev_some (ev_ite (fun hx => ?_) (fun hx => ?_))
    · rw [if_pos hx]; exact Ev.bind (spec_mirror_ev t (by omega)) (Ev.now _)
    · rw [if_neg hx]; exact Ev.now _
  by_cases hx : x = 0
  · rw [if_pos hx] at key
    exact ⟨_, _, _, key, by rw [mirrorT_nodes]; omega, ha2⟩
  · rw [if_neg hx] at key
    exact ⟨_, _, _, key, by omega, ha2⟩
theorem bad_ok {a : Int} (ha : At c a) (h : Int) (t : BT) (ht : nodes t ≤ 100) : ∃ x a' h', spec_l03Bad.f c a h (B (enc t)) = some (x, a', h') ∧ At c a' := by
  obtain ⟨x, a1, h1, e1, _, _, _, ha1⟩ := next_ok hc ha h 40
  have hl := enc_length t
  unfold spec_l03Bad.f
  rw [e1, Option.bind_some, B_size]
  by_cases h0 : x = 0
  · rw [if_pos h0, if_pos (by omega)]; exact ⟨_, _, _, rfl, ha1⟩
  · rw [if_neg h0]
    by_cases h1 : x = 1
    · rw [if_pos h1, if_pos (by omega)]; exact ⟨_, _, _, rfl, ha1⟩
    · rw [if_neg h1]
      by_cases h2 : x = 2
      · rw [if_pos h2]; exact ⟨_, _, _, rfl, ha1⟩
      · rw [if_neg h2]
        by_cases h3 : x = 3
        · rw [if_pos h3, if_pos (by omega)]; exact ⟨_, _, _, rfl, ha1⟩
        · rw [if_neg h3]; exact ⟨_, _, _, rfl, ha1⟩
theorem draw3_ev {a : Int} (ha : At c a) (h : Int) : ∃ t a' h', Ev (fun k => spec_l03Draw.f k c a h) (B (enc t), a', h') ∧ nodes t ≤ 23 ∧ At c a' := by
  obtain ⟨p, a1, h1, e1, hp, ha1⟩ := pick_ok hc ha h [5, 9, 24] (by simp)
  obtain ⟨x, a2, h2, e2, hx0, hx1, hx2, ha2⟩ := next_ok hc ha1 h1 p
  have hp2 : 1 ≤ p ∧ p ≤ 24 := by simp at hp; omega
  have hx3 := hx1 hp2.1
  obtain ⟨t, a3, h3, e3, ht, ha3⟩ := drawOf_ev hc (n := x.toNat) (by omega) ha2 h2
  refine ⟨t, a3, h3, ?_, by omega, ha3⟩
  unfold spec_l03Draw.f
  simp only [e1, Option.bind_some, e2]
  rw [show x = ((x.toNat : Nat) : Int) by omega]
  exact Ev.bind e3 (Ev.now _)
theorem spoil3_ev : ∃ x, Ev (fun k => spec_l03Spoil.f k c) x := by
  obtain ⟨h0, e0⟩ := from_ev hc
  obtain ⟨t, a1, h1, e1, ht, ha1⟩ := draw3_ev hc (At.zero c) h0
  obtain ⟨x, a2, h2, e2, _⟩ := bad_ok hc ha1 h1 t (by omega)
  refine ⟨x, ?_⟩
  unfold spec_l03Spoil.f
  refine Ev.bind e0 (Ev.bind e1 ?_)
  simp only [e2]
  exact ev_some (Ev.now x)
theorem drawVec_ev : ∃ w, Ev (fun k => spec_DrawVectorOf.f k c) (B w) := by
  obtain ⟨x, e⟩ := spoil3_ev hc
  obtain ⟨w, rfl⟩ := B_all x
  exact ⟨w, by unfold spec_DrawVectorOf.f; exact Ev.bind e (Ev.now _)⟩
theorem drawTOB_ev : ∃ w, Ev (fun k => spec_DrawTreeOfBinary.f k c) (B w) := by
  obtain ⟨x, e⟩ := spoil3_ev hc
  obtain ⟨w, rfl⟩ := B_all x
  exact ⟨w, by unfold spec_DrawTreeOfBinary.f; exact Ev.bind e (Ev.now _)⟩
theorem drawSides_ev : ∃ w, Ev (fun k => spec_DrawSidesOf.f k c) (B w) := by
  obtain ⟨x, e⟩ := spoil3_ev hc
  obtain ⟨w, rfl⟩ := B_all x
  exact ⟨w, by unfold spec_DrawSidesOf.f; exact Ev.bind e (Ev.now _)⟩
theorem drawJoin_ev : ∃ w u, Ev (fun k => spec_DrawJoinSides.f k c) (B w, B u) := by
  obtain ⟨h0, e0⟩ := from_ev hc
  obtain ⟨p, a1, h1, e1, hp, ha1⟩ := pick_ok hc (At.zero c) h0 [5, 14] (by simp)
  have hp2 : 1 ≤ p ∧ p ≤ 14 := by simp at hp; omega
  obtain ⟨x, a2, h2, e2, hx0, hx1, _, ha2⟩ := next_ok hc ha1 h1 p
  have hx3 := hx1 hp2.1
  obtain ⟨t, a3, h3, e3, ht, ha3⟩ := drawOf_ev hc (n := x.toNat) (by omega) ha2 h2
  obtain ⟨y, a4, h4, e4, ha4⟩ := bad_ok hc ha3 h3 t (by omega)
  obtain ⟨q, a5, h5, e5, hq, ha5⟩ := pick_ok hc ha4 h4 [5, 14] (by simp)
  have hq2 : 1 ≤ q ∧ q ≤ 14 := by simp at hq; omega
  obtain ⟨z, a6, h6, e6, hz0, hz1, _, ha6⟩ := next_ok hc ha5 h5 q
  have hz3 := hz1 hq2.1
  obtain ⟨s, a7, h7, e7, hs, ha7⟩ := drawOf_ev hc (n := z.toNat) (by omega) ha6 h6
  obtain ⟨v, a8, h8, e8, _⟩ := bad_ok hc ha7 h7 s (by omega)
  obtain ⟨w, rfl⟩ := B_all y
  obtain ⟨u, rfl⟩ := B_all v
  refine ⟨w, u, ?_⟩
  unfold spec_DrawJoinSides.f
  refine Ev.bind e0 ?_
  simp only [e1, Option.bind_some, e2]
  rw [show x = ((x.toNat : Nat) : Int) by omega]
  refine Ev.bind e3 ?_
  simp only [e4, Option.bind_some, e5, e6]
  rw [show z = ((z.toNat : Nat) : Int) by omega]
  refine Ev.bind e7 ?_
  simp only [e8]
  exact ev_some (Ev.now _)
theorem drawOfVec_ev : ∃ l, l.length ≤ 1000 ∧ Ev (fun k => spec_DrawBinaryOfVector.f k c) l := by
  obtain ⟨h0, e0⟩ := from_ev hc
  obtain ⟨t, a1, h1, e1, ht, ha1⟩ := draw3_ev hc (At.zero c) h0
  have hv := vec_length t
  by_cases hp : ((vec t).length : Int) > 0
  · obtain ⟨x, a2, h2, e2, _, _, _, ha2⟩ := next_ok hc ha1 h1 8
    obtain ⟨y, a3, h3, e3, y0, y1, _, ha3⟩ := next_ok hc ha2 h2 ((vec t).length : Int)
    have y2 := y1 (by omega)
    obtain ⟨p, a4, h4, e4, _, _⟩ := pick_ok hc ha3 h3 [0, 1, 2, (-1), 24] (by simp)
    refine ⟨if x = 0 then (vec t).set y.toNat p else if x = 1 then vec t ++ [0] else if x = 2 then (vec t).drop 1 else vec t, ?_, ?_⟩
    · split
      · simp; omega
      · split
        · simp; omega
        · split
          · simp; omega
          · omega
    · unfold spec_DrawBinaryOfVector.f
      refine Ev.bind e0 (Ev.bind e1 (Ev.bind (spec_vector_ev t (by omega)) (ev_pos hp ?_)))
      simp only [e2]
      refine ev_some (ev_ite (fun q => ?_) (fun q => ?_))
      · rw [if_pos q]
        simp only [e3, Option.bind_some, e4]
        exact ev_pos y0 (ev_pos y2 (Ev.now _))
      · rw [if_neg q]
        refine ev_ite (fun q1 => ?_) (fun q1 => ?_)
        · rw [if_pos q1]; exact ev_pos (by omega) (Ev.now _)
        · rw [if_neg q1]
          refine ev_ite (fun q2 => ?_) (fun q2 => ?_)
          · rw [if_pos q2]; exact ev_pos (by omega) (Ev.now _)
          · rw [if_neg q2]; exact Ev.now _
  · refine ⟨vec t, by omega, ?_⟩
    unfold spec_DrawBinaryOfVector.f
    exact Ev.bind e0 (Ev.bind e1 (Ev.bind (spec_vector_ev t (by omega)) (ev_neg hp (Ev.now _))))
end
end Go.Proofs.Ythbdbgoeaichcaa.E
namespace Go.Proofs.Ythbdbgoeaichcaa.E
set_option linter.unusedVariables false
set_option linter.unusedSectionVars false
open Go.RowKit Go.Proofs.YthbdbgoeaichcaaW.PrintWords Go.Proofs.Ythbdbgoeaichcaa.Base Go.Proofs.Ythbdbgoeaichcaa.Tree Go.Proofs.Ythbdbgoeaichcaa.Bin Go.Proofs.Ythbdbgoeaichcaa.Lcg
theorem next_all {c : List Int} (hc : Src c) {a : Int} (ha : At c a) (h : Int) {n : Int} (hn : 1 ≤ n) : ∃ x a', spec_l01Next.f c a h n = some (x, a', stp h) ∧ (0 ≤ x ∧ x < n) ∧ At c a' ∧ (a < c.length → a' = a + 1) ∧ (a = c.length → a' = c.length ∧ x = drw h % n) := by
  unfold spec_l01Next.f
  have hf := hc.few
  obtain ⟨a0, a1⟩ := ha
  have eH : IntKind.u64.wrap ((IntKind.u64.wrap (h * 6364136223846793005)) + 1442695040888963407) = stp h := by
    rw [IntKind.wrap_u64, IntKind.wrap_u64]; unfold stp; omega
  have hH := stp_bd h
  have em : stp h / 8589934592 % 16777216 = drw h := rfl
  have hm : 0 ≤ drw h ∧ drw h < 16777216 := by unfold drw; omega
  rw [if_neg (by omega), eH, mask24 (stp h / 8589934592) (by omega) (by omega), em]
  by_cases h2 : a < (c.length : Int)
  · have hg := hc.get a
    rw [if_pos h2, if_pos a0, if_neg (by omega), w64 (x := drw h) (by omega) (by omega), w64 (x := rd c a) (by omega) (by omega), w64 (x := drw h + rd c a) (by omega) (by omega), w64 (x := a + 1) (by omega) (by omega)]
    exact ⟨_, _, rfl, ⟨Int.tmod_nonneg _ (by omega), Int.tmod_lt_of_pos _ (by omega)⟩, ⟨by omega, by omega⟩, fun _ => rfl, fun h => by omega⟩
  · rw [if_neg h2, if_neg (by omega), w64 (x := drw h) (by omega) (by omega)]
    exact ⟨_, _, rfl, ⟨Int.tmod_nonneg _ (by omega), Int.tmod_lt_of_pos _ (by omega)⟩, ⟨a0, a1⟩, fun h => absurd h h2, fun h => ⟨h, Int.tmod_eq_emod_of_nonneg hm.1⟩⟩
def SG : List ByteArray := [(⟨#[40]⟩ : ByteArray), (⟨#[41]⟩ : ByteArray), (⟨#[40]⟩ : ByteArray), (⟨#[41]⟩ : ByteArray), (⟨#[40, 41]⟩ : ByteArray), (⟨#[48]⟩ : ByteArray), (⟨#[44]⟩ : ByteArray), (⟨#[32]⟩ : ByteArray), (⟨#[120]⟩ : ByteArray), (⟨#[10]⟩ : ByteArray)]
theorem SG_get (x : Int) (h : 0 ≤ x ∧ x < 10) : ∃ z : List UInt8, rdOf ByteArray.empty SG x = B z ∧ z.length ≤ 2 := by
  rcases (by omega : x = 0 ∨ x = 1 ∨ x = 2 ∨ x = 3 ∨ x = 4 ∨ x = 5 ∨ x = 6 ∨ x = 7 ∨ x = 8 ∨ x = 9) with rfl | rfl | rfl | rfl | rfl | rfl | rfl | rfl | rfl | rfl
  · exact ⟨[40], rfl, by simp⟩
  · exact ⟨[41], rfl, by simp⟩
  · exact ⟨[40], rfl, by simp⟩
  · exact ⟨[41], rfl, by simp⟩
  · exact ⟨[40, 41], rfl, by simp⟩
  · exact ⟨[48], rfl, by simp⟩
  · exact ⟨[44], rfl, by simp⟩
  · exact ⟨[32], rfl, by simp⟩
  · exact ⟨[120], rfl, by simp⟩
  · exact ⟨[10], rfl, by simp⟩
theorem damage_ok {c : List Int} (hc : Src c) {a : Int} (ha : At c a) (h : Int) (s : List UInt8) (hs : s.length ≤ 4611686018427387000) :
    ∃ y a' h', spec_l01Damage.f c a h (B s) = some (B y, a', h') ∧ y.length ≤ s.length + 2 ∧ At c a' ∧ a ≤ a' ∧ (a = c.length → a' = c.length ∧ h' = if s.length = 0 then stp h else stN 3 h) := by
  obtain ⟨x, a1, e1, x0, ha1, m1, n1⟩ := next_all hc ha h (n := 10) (by omega)
  obtain ⟨z, ez, lz⟩ := SG_get x x0
  have hle1 : a ≤ a1 := by
    rcases (by have := ha.2; omega : a < c.length ∨ a = c.length) with q | q
    · have := m1 q; omega
    · have := (n1 q).1; omega
  unfold spec_l01Damage.f
  rw [show ([(⟨#[40]⟩ : ByteArray), (⟨#[41]⟩ : ByteArray), (⟨#[40]⟩ : ByteArray), (⟨#[41]⟩ : ByteArray), (⟨#[40, 41]⟩ : ByteArray), (⟨#[48]⟩ : ByteArray), (⟨#[44]⟩ : ByteArray), (⟨#[32]⟩ : ByteArray), (⟨#[120]⟩ : ByteArray), (⟨#[10]⟩ : ByteArray)] : List ByteArray) = SG from rfl, Option.bind_some, show ((SG.length : Nat) : Int) = 10 from rfl, e1, Option.bind_some, if_pos x0.1, if_pos x0.2, ez, B_size]
  by_cases h0 : s.length = 0
  · rw [if_pos (by omega)]
    refine ⟨z, a1, stp h, rfl, by omega, ha1, hle1, fun q => ⟨(n1 q).1, by rw [if_pos h0]⟩⟩
  · obtain ⟨k, a2, e2, k0, ha2, m2, n2⟩ := next_all hc ha1 (stp h) (n := (s.length : Int)) (by omega)
    obtain ⟨v, a3, e3, v0, ha3, m3, n3⟩ := next_all hc ha2 (stp (stp h)) (n := 3) (by omega)
    have hle2 : a1 ≤ a2 := by
      rcases (by have := ha1.2; omega : a1 < c.length ∨ a1 = c.length) with q | q
      · have := m2 q; omega
      · have := (n2 q).1; omega
    have hle3 : a2 ≤ a3 := by
      rcases (by have := ha2.2; omega : a2 < c.length ∨ a2 = c.length) with q | q
      · have := m3 q; omega
      · have := (n3 q).1; omega
    have fin : a = c.length → a3 = c.length ∧ stp (stp (stp h)) = if s.length = 0 then stp h else stN 3 h := fun q => by
      have q1 := (n1 q).1
      have q2 := (n2 q1).1
      exact ⟨(n3 q2).1, by rw [if_neg h0]; rfl⟩
    have ek : (s.length : Nat) = (B s).size := (B_size s).symm
    have hk : wrap64 (k + 1) = k + 1 := w64 (by omega) (by omega)
    have t1 : (B s).extract 0 k.toNat = B (s.take k.toNat) := B_take s _
    have t2 : (B s).extract (k + 1).toNat s.length = B (s.drop (k + 1).toNat) := by rw [ek]; exact B_drop s _
    have t3 : (B s).extract k.toNat s.length = B (s.drop k.toNat) := by rw [ek]; exact B_drop s _
    have l1 : (s.take k.toNat).length = k.toNat := by rw [List.length_take]; omega
    have l2 : (s.drop (k + 1).toNat).length = s.length - (k + 1).toNat := List.length_drop
    have l3 : (s.drop k.toNat).length = s.length - k.toNat := List.length_drop
    rw [if_neg (by omega), e2, Option.bind_some, e3, Option.bind_some]
    simp only [hk, t1, t2, t3, B_append, B_size, List.length_append]
    by_cases v1 : v = 0
    · rw [if_pos v1, if_pos (by omega), if_pos (by omega), if_pos (by omega), if_pos (by omega), if_pos (by omega), if_pos (by omega)]
      exact ⟨_, _, _, rfl, by simp only [List.length_append]; omega, ha3, by omega, fin⟩
    · rw [if_neg v1]
      by_cases v2 : v = 1
      · rw [if_pos v2, if_pos (by omega), if_pos (by omega), if_pos (by omega), if_pos (by omega), if_pos (by omega)]
        exact ⟨_, _, _, rfl, by simp only [List.length_append]; omega, ha3, by omega, fin⟩
      · rw [if_neg v2, if_pos (by omega), if_pos (by omega), if_pos (by omega), if_pos (by omega)]
        exact ⟨_, _, _, rfl, by simp only [List.length_append]; omega, ha3, by omega, fin⟩
section
variable {c : List Int} (hc : Src c)
include hc
theorem stop_ev {h : Int} (hv : drw h % 3 ≠ 0) (s : List UInt8) : Ev (fun k => spec_DrawParseBrackets.l0 k (B s) c (c.length : Int) h) (B s) := by
  obtain ⟨x, a1, e1, x0, _, _, n1⟩ := next_all hc (a := c.length) ⟨by omega, by omega⟩ h (n := 3) (by omega)
  have := (n1 rfl).2
  refine Ev.step (fun k => by rw [spec_DrawParseBrackets.l0]) ?_
  rw [e1]
  exact ev_some (ev_neg (by simp only; omega) (Ev.now _))
theorem end_loop : ∀ (N n : Nat) (h : Int) (s : List UInt8), n ≤ N → n % 2 = 0 → drw (stN n h) % 3 ≠ 0 → drw (stN (n + 2) h) % 3 ≠ 0 → s.length + n ≤ 1000000000000000000 →
    ∃ x : List UInt8, Ev (fun k => spec_DrawParseBrackets.l0 k (B s) c (c.length : Int) h) (B x) ∧ x.length ≤ s.length + n + 4 := by
  intro N
  induction N with
  | zero =>
    intro n h s hN hp v1 v2 hs
    have : n = 0 := by omega
    subst this
    exact ⟨s, stop_ev hc v1 s, by omega⟩
  | succ N ih =>
    intro n h s hN hp v1 v2 hs
    by_cases hv : drw h % 3 = 0
    · have hn : n ≠ 0 := fun e => by subst e; exact v1 hv
      obtain ⟨m, rfl⟩ : ∃ m, n = m + 2 := ⟨n - 2, by omega⟩
      obtain ⟨x, a1, e1, x0, _, _, n1⟩ := next_all hc (a := c.length) ⟨by omega, by omega⟩ h (n := 3) (by omega)
      obtain ⟨q1, q2⟩ := n1 rfl
      subst q1
      obtain ⟨y, a', h', e2, ly, _, _, f2⟩ := damage_ok hc (a := c.length) ⟨by omega, by omega⟩ (stp h) s (by omega)
      obtain ⟨r1, r2⟩ := f2 rfl
      subst r1
      have step : ∀ r, Ev (fun k => spec_DrawParseBrackets.l0 k (B y) c (c.length : Int) h') r → Ev (fun k => spec_DrawParseBrackets.l0 k (B s) c (c.length : Int) h) r := fun r hr => by
        refine Ev.step (fun k => by rw [spec_DrawParseBrackets.l0]) ?_
        rw [e1]
        refine ev_some (ev_pos (by simp only; omega) ?_)
        simp only [e2]
        exact ev_some hr
      by_cases h0 : s.length = 0
      · rw [if_pos h0] at r2
        have e : stN 2 h = h' := by rw [r2]; rfl
        rw [show m + 2 = 2 + m by omega, stN_add, e] at v1
        rw [show m + 2 + 2 = 2 + (m + 2) by omega, stN_add, e] at v2
        obtain ⟨z, ez, lz⟩ := ih m h' y (by omega) (by omega) v1 v2 (by omega)
        exact ⟨z, step _ ez, by omega⟩
      · rw [if_neg h0] at r2
        have e : stN 4 h = h' := by rw [r2]; rfl
        by_cases m0 : m = 0
        · subst m0
          rw [show 0 + 2 + 2 = 4 from rfl, e] at v2
          exact ⟨y, step _ (stop_ev hc v2 y), by omega⟩
        · obtain ⟨p, rfl⟩ : ∃ p, m = p + 2 := ⟨m - 2, by omega⟩
          rw [show p + 2 + 2 = 4 + p by omega, stN_add, e] at v1
          rw [show p + 2 + 2 + 2 = 4 + (p + 2) by omega, stN_add, e] at v2
          obtain ⟨z, ez, lz⟩ := ih p h' y (by omega) (by omega) v1 v2 (by omega)
          exact ⟨z, step _ ez, by omega⟩
    · exact ⟨s, stop_ev hc hv s, by omega⟩
theorem all_loop : ∀ (m : Nat) (a h : Int) (s : List UInt8), At c a → (c.length : Int) - a ≤ m → s.length + 2 * m ≤ 1000000000 → ∃ x : List UInt8, Ev (fun k => spec_DrawParseBrackets.l0 k (B s) c a h) (B x) ∧ x.length ≤ 500000000000000000
  | 0, a, h, s, ha, hm, hs => by
    have : a = c.length := by have := ha.2; omega
    subst this
    obtain ⟨n, n1, n2, v1, v2⟩ := two_far h
    obtain ⟨x, e, l⟩ := end_loop hc n n h s (Nat.le_refl _) n1 v1 v2 (by omega)
    exact ⟨x, e, by omega⟩
  | m + 1, a, h, s, ha, hm, hs => by
    by_cases hl : a < c.length
    · obtain ⟨x, a1, e1, x0, ha1, m1, _⟩ := next_all hc ha h (n := 3) (by omega)
      have q1 := m1 hl
      by_cases hx : x = 0
      · obtain ⟨y, a', h', e2, ly, ha', le', _⟩ := damage_ok hc ha1 (stp h) s (by omega)
        obtain ⟨z, ez, lz⟩ := all_loop m a' h' y ha' (by omega) (by omega)
        refine ⟨z, ?_, lz⟩
        refine Ev.step (fun k => by rw [spec_DrawParseBrackets.l0]) ?_
        rw [e1]
        refine ev_some (ev_pos hx ?_)
        simp only [e2]
        exact ev_some ez
      · refine ⟨s, ?_, by omega⟩
        refine Ev.step (fun k => by rw [spec_DrawParseBrackets.l0]) ?_
        rw [e1]
        exact ev_some (ev_neg hx (Ev.now _))
    · exact all_loop m a h s ha (by omega) (by omega)
theorem drawParse_ev : ∃ x : List UInt8, Ev (fun k => spec_DrawParseBrackets.f k c) (B x) ∧ x.length ≤ 4611686018427387000 := by
  have hf := hc.few
  obtain ⟨h0, e0⟩ := from_ev hc
  obtain ⟨t, a1, h1, e1, ht, ha1⟩ := draw3_ev hc (At.zero c) h0
  have hb := brk_length t 0
  obtain ⟨x, e2, l⟩ := all_loop hc c.length a1 h1 (brk 0 t) ha1 (by have := ha1.1; omega) (by omega)
  refine ⟨x, ?_, by omega⟩
  unfold spec_DrawParseBrackets.f
  exact Ev.bind e0 (Ev.bind e1 (Ev.bind (spec_brk_ev t 0 (by omega)) e2))
end
end Go.Proofs.Ythbdbgoeaichcaa.E
namespace Go.Proofs.Ythbdbgoeaichcaa.E
set_option linter.unusedVariables false
set_option linter.unusedSectionVars false
open Go.RowKit Go.Proofs.YthbdbgoeaichcaaW.PrintWords Go.Proofs.Ythbdbgoeaichcaa.Base Go.Proofs.Ythbdbgoeaichcaa.Tree Go.Proofs.Ythbdbgoeaichcaa.Bin
theorem like_loop (l : List Int) (hl : l.length ≤ 1048576) : ∀ (m i : Nat), i + m = l.length → Ev (fun k => laws_likeInts.l0 k l l (i : Int)) true
  | 0, i, hi => by
    refine Ev.step (fun k => by rw [laws_likeInts.l0]) ?_
    exact ev_neg (by omega) (Ev.now _)
  | m + 1, i, hi => by
    have ih := like_loop l hl m (i + 1) (by omega)
    refine Ev.step (fun k => by rw [laws_likeInts.l0]) ?_
    rw [w64s (by omega)]
    exact ev_pos (by omega) (ev_pos (by omega) (ev_pos (by omega) (ev_pos rfl ih)))
theorem like_ev (l : List Int) (hl : l.length ≤ 1048576) : Ev (fun k => laws_likeInts.f k l l) true := by
  unfold laws_likeInts.f
  exact ev_pos rfl (like_loop l hl l.length 0 (by omega))
theorem trees5_ev (l : List Int) (hl : l.length ≤ 1048576) : Ev (fun k => laws_trees5.f k l l) true := by
  unfold laws_trees5.f
  exact Ev.bind (like_ev l hl) (Ev.now _)
theorem treeOf_ok {t : BT} (ht : nodes t ≤ 23) : Ev (fun k => impl_TreeOfBinary.f k (B (enc t))) ((forest t).1 :: (forest t).2, 0) := by
  have h1 := forest_length t
  unfold impl_TreeOfBinary.f
  exact Ev.bind (impl_IsBinary_ev _) (ev_pos (isBin_enc ht) (Ev.bind (impl_listOf_ev t (by omega)) (ev_some (ev_pos (by simp; omega) (Ev.now _)))))
theorem binaryOf_both (d : List Int) (hd : d.length ≤ 1000) : ∃ r : ByteArray × Int, Ev (fun k => impl_BinaryOf.f k d) r ∧ Ev (fun k => spec_BinaryOf.f k d) r ∧ (r.2 = 0 → ∃ t, r.1 = B (enc t) ∧ nodes t + 1 = d.length ∧ nodes t ≤ 23 ∧ (forest t).1 :: (forest t).2 = d) := by
  by_cases h : isTreeM d = true
  · obtain ⟨hT, hl⟩ := isTreeM_sound h
    obtain ⟨t, n1, f1, e1, g1⟩ := binaryOf_tree hT hl
    refine ⟨(B (enc t), 0), ?_, ?_, fun _ => ⟨t, rfl, n1, by omega, f1⟩⟩
    · unfold impl_BinaryOf.f
      exact Ev.bind (impl_IsTree_ev d) (ev_pos h (Ev.bind (impl_kidsOf_ev hT (by omega) (v := 0) hT.len) (Ev.bind g1 (Ev.now _))))
    · unfold spec_BinaryOf.f
      exact Ev.bind (spec_l01Is_ev d (by omega)) (ev_pos h (Ev.bind (spec_l01Children_ev hT (by omega) (v := 0) hT.len) (Ev.bind e1 (Ev.now _))))
  · refine ⟨(⟨#[]⟩, 1), ?_, ?_, fun h => by simp at h⟩
    · unfold impl_BinaryOf.f
      exact Ev.bind (impl_IsTree_ev d) (ev_neg h (Ev.now _))
    · unfold spec_BinaryOf.f
      exact Ev.bind (spec_l01Is_ev d (by omega)) (ev_neg h (Ev.now _))
theorem spec_IsBinary_ev (l : List UInt8) : Ev (fun k => spec_IsBinary.f k (B l)) (isBin l) := by
  unfold spec_IsBinary.f
  exact Ev.bind (spec_l03Is_ev l) (Ev.now _)
section
variable {c : List Int} (hc : Src c)
include hc
theorem law_j4 : Ev (fun k => laws_FnBinary.j4 k c) true := by
  obtain ⟨w1, w2, d1⟩ := drawJoin_ev hc
  obtain ⟨r1, i1, s1⟩ := join_both w1 w2
  obtain ⟨w3, d2⟩ := drawTOB_ev hc
  obtain ⟨r2, l2, s2, i2⟩ := both_TreeOfBinary w3
  obtain ⟨l, hl, d3⟩ := drawOfVec_ev hc
  obtain ⟨r3, i3, s3, _⟩ := ofvec_both l hl
  obtain ⟨x, d4, hx⟩ := drawParse_ev hc
  obtain ⟨r4, i4, s4⟩ := parse_both x hx
  obtain ⟨w5, d5⟩ := drawSides_ev hc
  obtain ⟨r5, i5, s5⟩ := sides_both w5
  refine Ev.step (fun k => by rw [laws_FnBinary.j4]) ?_
  refine Ev.bind d1 (Ev.bind i1 (Ev.bind s1 (Ev.bind d2 (Ev.bind i2 (Ev.bind s2 (Ev.bind d3 (Ev.bind i3 (Ev.bind s3 (Ev.bind d4 (Ev.bind i4 (Ev.bind s4 (Ev.bind d5 (Ev.bind i5 (Ev.bind s5 ?_))))))))))))))
  exact ev_pos rfl (ev_pos rfl (ev_pos rfl (Ev.bind (trees5_ev _ l2) (ev_pos rfl (ev_pos rfl (ev_pos rfl (ev_pos rfl (ev_pos rfl (ev_pos rfl (ev_pos rfl (ev_now (by simp))))))))))))
theorem law_j3 {t : BT} (ht : nodes t ≤ 23) : Ev (fun k => laws_FnBinary.j3 k c (B (enc t)) false) true := by
  refine Ev.step (fun k => by rw [laws_FnBinary.j3]) ?_
  refine ev_neg (by decide) ?_
  cases t with
  | leaf => exact Ev.bind sides_leaf.1 (ev_neg (by rw [leaf_text]; decide) (ev_neg (by simp) (law_j4 hc)))
  | node l r =>
    have hn : (B (enc (.node l r))).toList != ([48] : List UInt8) := by simpa using node_text l r
    exact Ev.bind (sides_node ht).1 (ev_neg (by simp only; rw [hn]; decide) (ev_pos rfl (Ev.bind (join_ok (by simpa only [nodes] using ht)).1 (ev_pos rfl (ev_pos rfl (law_j4 hc))))))
theorem law_j2 {t : BT} (ht : nodes t ≤ 23) : Ev (fun k => laws_FnBinary.j2 k c (B (enc t)) (vec t) 0 (B (enc (mirrorT t))) (inn 0 t) (B (brk 0 t)) false) true := by
  have hv := vec_length t
  obtain ⟨r, i1, _, g⟩ := ofvec_both (vec t) (by omega)
  rw [g t rfl ht] at i1
  have hm := (mirror_ok (t := mirrorT t) (by rw [mirrorT_nodes]; exact ht)).1
  rw [mirror_twice] at hm
  have hl : (((inn 0 t).length : Int) != ((vec t).length : Int)) = false := by rw [inn_length, hv]; simp
  refine Ev.step (fun k => by rw [laws_FnBinary.j2]) ?_
  refine ev_neg (by decide) (ev_pos rfl (Ev.bind i1 (Ev.bind (parse_ok ht).1 (Ev.bind hm (ev_pos rfl (ev_pos rfl (ev_pos rfl (ev_pos rfl (ev_pos rfl (ev_pos rfl ?_))))))))))
  rw [hl]
  exact law_j3 hc ht
theorem law_j2no (w : ByteArray) (a : List Int) (b : ByteArray) (i : List Int) (s : ByteArray) : Ev (fun k => laws_FnBinary.j2 k c w a 1 b i s false) true := by
  refine Ev.step (fun k => by rw [laws_FnBinary.j2]) ?_
  exact ev_neg (by decide) (ev_neg (by decide) (law_j4 hc))
theorem law_j1 : Ev (fun k => laws_FnBinary.j1 k c) true := by
  obtain ⟨w, d1⟩ := drawVec_ev hc
  refine Ev.step (fun k => by rw [laws_FnBinary.j1]) ?_
  refine Ev.bind d1 ?_
  by_cases h : isBin w = true
  · obtain ⟨t, rfl, ht⟩ := isBin_sound h
    have hv := vec_length t
    have hi := inn_length t 0
    refine Ev.bind (vector_ok ht).1 (Ev.bind (vector_ok ht).2 (Ev.bind (mirror_ok ht).1 (Ev.bind (mirror_ok ht).2 (Ev.bind (inner_ok ht).1 (Ev.bind (inner_ok ht).2 (Ev.bind (brackets_ok ht).1 (Ev.bind (brackets_ok ht).2 ?_)))))))
    refine ev_pos rfl (Ev.bind (like_ev _ (by simp only; omega)) (ev_pos rfl (ev_pos rfl (ev_pos rfl (ev_pos rfl (Ev.bind (like_ev _ (by simp only; omega)) (ev_pos rfl (ev_pos rfl (ev_pos rfl ?_)))))))))
    refine Ev.bind (impl_IsBinary_ev _) (Ev.bind (spec_IsBinary_ev _) (ev_neg (by simp) (Ev.bind (impl_IsBinary_ev _) ?_)))
    rw [h]
    exact law_j2 hc ht
  · refine Ev.bind (vector_no h).1 (Ev.bind (vector_no h).2 (Ev.bind (mirror_no h).1 (Ev.bind (mirror_no h).2 (Ev.bind (inner_no h).1 (Ev.bind (inner_no h).2 (Ev.bind (brackets_no h).1 (Ev.bind (brackets_no h).2 ?_)))))))
    refine ev_pos rfl (Ev.bind (like_ev _ (by simp)) (ev_pos rfl (ev_pos rfl (ev_pos rfl (ev_pos rfl (Ev.bind (like_ev _ (by simp)) (ev_pos rfl (ev_pos rfl (ev_pos rfl ?_)))))))))
    refine Ev.bind (impl_IsBinary_ev _) (Ev.bind (spec_IsBinary_ev _) (ev_neg (by simp) (Ev.bind (impl_IsBinary_ev _) ?_)))
    rw [show isBin w = false by simpa using h]
    exact law_j2no hc _ _ _ _ _
theorem law_bin (hl : c.length ≤ 4096) : Ev (fun k => laws_FnBinary.f k c) true := by
  obtain ⟨d, hd, d1⟩ := drawBinaryOf_ev hc
  obtain ⟨r, i1, s1, g⟩ := binaryOf_both d (by omega)
  unfold laws_FnBinary.f laws_big.f
  refine ev_some (ev_neg (by rw [decide_eq_true_eq]; omega) (Ev.bind d1 (Ev.bind i1 (Ev.bind s1 (ev_pos rfl ?_)))))
  rw [show (r.1.toList != r.1.toList) = false by simp]
  refine Ev.step (fun k => by rw [laws_FnBinary.j0]) ?_
  refine ev_neg (by decide) (ev_ite (fun h0 => ?_) (fun _ => law_j1 hc))
  obtain ⟨t, e, n1, n2, f1⟩ := g h0
  have ht := treeOf_ok n2
  have he := enc_length t
  rw [f1] at ht
  rw [e]
  refine Ev.bind ht (ev_pos rfl (Ev.bind (trees5_ev d (by omega)) (ev_pos rfl (ev_pos ?_ (Ev.bind (impl_IsBinary_ev _) (ev_pos (isBin_enc n2) (law_j1 hc)))))))
  rw [B_size, w64 (x := 2 * (d.length : Int)) (by omega) (by omega), w64 (by omega) (by omega)]
  omega
end
end Go.Proofs.Ythbdbgoeaichcaa.E
namespace Go.Proofs.Ythbdbgoeaichcaa.Pure
open Go.RowKit Go.Proofs.YthbdbgoeaichcaaW.PrintWords Go.Proofs.Ythbdbgoeaichcaa.Base Go.Proofs.Ythbdbgoeaichcaa.E
theorem FnBinary : ∀ (l0 : List Int), l0.length ≤ maxLen → (∀ x ∈ l0, (Lit.int .u8 x).wf = true) → ∃ k, laws_FnBinary.f k l0 = some true := by
  intro l0 _ hb
  apply Ev.rounds
  by_cases h : l0.length ≤ 4096
  · exact law_bin ⟨by omega, fun x hx => by
      have := hb x hx
      simp only [Lit.wf, Bool.and_eq_true, decide_eq_true_eq] at this
      have h1 : IntKind.u8.min = 0 := by decide
      have h2 : IntKind.u8.max = 255 := by decide
      rw [h1, h2] at this
      exact this⟩ h
  · unfold laws_FnBinary.f laws_big.f
    exact ev_some (ev_pos (by rw [decide_eq_true_eq]; omega) (Ev.now _))
end Go.Proofs.Ythbdbgoeaichcaa.Pure
namespace Go.Proofs.Ythbdbgoeaichcaa.Open
set_option linter.unusedVariables false
set_option linter.unusedSectionVars false
open Go.RowKit Go.ChangeShapes Go.WideShapes Go.ChangeAt Go.Deep Go.Proofs.YthbdbgoeaichcaaW.PrintWords
section
variable {H : Type} {enc : TypeId × Value → H} {P : Program} {w : World} {base : Nat} {held : Bool}

def Opens {α : Type} (d : Kd α) (Q : α → Prop) (enc : TypeId × Value → H) (P : Program) (w : World) (base : Nat) (held : Bool) (t : TypeId) : Prop :=
  ∀ (fuel : Nat) (cs : List Value) (x : DataW H × List MemPlace), DataW.trod enc P w base (fun _ => true) held fuel t cs = some x → ∃ a, d.K w a cs ∧ Q a
theorem opens_int {t : TypeId} {k : IntKind} (ht : P.underlying t = some (.int k)) : Opens (Kd.int k) (fun n => (Lit.int k n).wf = true) enc P w base held t := by
  intro fuel cs x h
  obtain ⟨n, rfl, _, hw⟩ := DataW.trod_int ht h
  exact ⟨n, rfl, hw⟩
theorem opens_slice {α : Type} [Inhabited α] {d : Kd α} {Q : α → Prop} {t e : TypeId} (ht : P.underlying t = some (.slice e)) (hc : P.cellsOf e = d.sz) (he : Opens d Q enc P w base held e) :
    Opens (Kd.slice e d) (fun xs => xs.length ≤ maxLen ∧ ∀ y ∈ xs, Q y) enc P w base held t := by
  intro fuel cs x h
  rcases open_slice ht h with ⟨rfl, _⟩ | ⟨a, len, cap, m, n, D, Pl, rfl, _, hl, hm, hmm, _, each⟩
  · exact ⟨[], ⟨none, 0, rfl, Nat.le_refl _, rfl, by simp, fun h0 => by simp at h0⟩, by simp, by simp⟩
  · simp only [if_true] at hmm
    have hx : ∀ i, i < len → ∃ y : α, Q y ∧ ∃ cs', w.cells? base (a.add (i * P.cellsOf e)) (P.cellsOf e) = some cs' ∧ d.K w y cs' := by
      intro i hi
      obtain ⟨cs', h1, h2⟩ := each i (by omega)
      obtain ⟨y, hk, hq⟩ := he _ _ _ h2
      exact ⟨y, hq, cs', h1, hk⟩
    obtain ⟨f, hf⟩ := choose_lt hx
    refine ⟨(List.range len).map f, ⟨some a, cap, by simp, by simpa using hl, by simp, by unfold maxLen at hm; simp; omega, fun _ => ⟨a, rfl, fun j p hj => ?_⟩⟩, by simp; omega, fun y hy => ?_⟩
    · rw [List.getElem?_map] at hj
      have hjl : j < len := by
        rcases Nat.lt_or_ge j len with h | h
        · exact h
        · rw [List.getElem?_eq_none (by simpa using h)] at hj
          cases hj
      rw [List.getElem?_range hjl] at hj
      obtain rfl := Option.some.inj hj
      obtain ⟨_, cs', h1, h2⟩ := hf j hjl
      obtain ⟨_, h3, h4⟩ := World.cells?_some h1
      refine ⟨cs', d.K_len h2, h2, fun i u hu => ?_⟩
      have hi : i < P.cellsOf e := by
        rw [← h3]
        exact (List.getElem?_eq_some_iff.1 hu).1
      have h5 := h4 i hi
      rw [hu] at h5
      rw [Go.Deep.add_add] at h5
      rw [← hc]
      exact h5
    · obtain ⟨i, hi, rfl⟩ := List.mem_map.1 hy
      exact (hf i (List.mem_range.1 hi)).1
theorem slice_in {α : Type} [Inhabited α] {d : Kd α} {Q : α → Prop} {t e : TypeId} {v : Value} {fuel : Nat} {x : DataW H × List MemPlace} (ht : P.underlying t = some (.slice e)) (hc : P.cellsOf e = d.sz) (he : Opens d Q enc P w base held e)
    (h : DataW.trod enc P w base (fun _ => true) held fuel t [v] = some x) : ∃ (A : Option Addr) (c : Nat) (xs : List α), v = .slice A xs.length c ∧ xs.length ≤ c ∧ xs.length ≤ maxLen ∧ d.C w A xs.length xs ∧ ∀ y ∈ xs, Q y := by
  obtain ⟨xs, ⟨A, c, hv, hl, hC⟩, hm, hq⟩ := opens_slice ht hc he _ _ _ h
  obtain rfl : v = .slice A xs.length c := by simpa using hv
  exact ⟨A, c, xs, rfl, hl, hm, hC, hq⟩
end
end Go.Proofs.Ythbdbgoeaichcaa.Open
