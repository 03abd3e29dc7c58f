/- The row of the law FnExactTurnsBetween, out of its pure statement. -/
import Derived.Test.YtomoafkpjdncfaaQTBEx1
import Derived.Test.YtomoafkpjdncfaaQTBEx2
import Derived.Test.YtomoafkpjdncfaaQTBW
import Derived.Deep.Slices
import Derived.Lib.SmallJoins
import Derived.OpenShut
import Derived.WalkKit
namespace Go.Proofs.Ytomoafkpjdncfaa.Base
set_option linter.unusedVariables false
set_option linter.unusedSectionVars false
open Go.RowKit Go.Proofs.YtomoafkpjdncfaaW.PrintWords

theorem ev_pos {α : Type} {c : Prop} [Decidable c] {f g : Nat → Option α} {r : α} (h : c) (k : Ev f r) : Ev (fun n => if c then f n else g n) r := by
  simpa [h] using k
theorem ev_neg {α : Type} {c : Prop} [Decidable c] {f g : Nat → Option α} {r : α} (h : ¬ c) (k : Ev g r) : Ev (fun n => if c then f n else g n) r := by
  simpa [h] using k
theorem ev_ite {α : Type} {c : Prop} [Decidable c] {f g : Nat → Option α} {r : α} (h : c → Ev f r) (k : ¬ c → Ev g r) : Ev (fun n => if c then f n else g n) r := by
  by_cases hc : c
  · exact ev_pos hc (h hc)
  · exact ev_neg hc (k hc)
theorem ev_now {α : Type} {a r : α} (h : a = r) : Ev (fun _ => some a) r := h ▸ Ev.now a
theorem ev_some {α β : Type} {f : Nat → α → Option β} {a : α} {r : β} (k : Ev (fun n => f n a) r) : Ev (fun n => (some a).bind (f n)) r := by
  simpa using k
theorem w64 {x : Int} (h1 : -9223372036854775808 ≤ x) (h2 : x ≤ 9223372036854775807) : wrap64 x = x := by unfold wrap64; omega
theorem w64s {i : Nat} (h : i < 9223372036854775807) : wrap64 ((i : Int) + 1) = ((i + 1 : Nat) : Int) := by unfold wrap64; omega
theorem w64p {i : Nat} (h : i < 9223372036854775807) : wrap64 (((i + 1 : Nat) : Int) - 1) = (i : Int) := by unfold wrap64; omega

theorem rd_nat (l : List Int) (i : Nat) : rd l (i : Int) = l.getD i 0 := rfl
end Go.Proofs.Ytomoafkpjdncfaa.Base
namespace Go.Proofs.Ytomoafkpjdncfaa.Bin
set_option linter.unusedVariables false
set_option linter.unusedSectionVars false
open Go.RowKit Go.Proofs.YtomoafkpjdncfaaW.PrintWords Go.Proofs.Ytomoafkpjdncfaa.Base

def B (l : List UInt8) : ByteArray := ⟨l.toArray⟩
theorem B_all (w : ByteArray) : ∃ l, w = B l := ⟨w.data.toList, by cases w; simp [B]⟩
theorem B_size (l : List UInt8) : (B l).size = l.length := by simp [B, ByteArray.size]
theorem B_inj {l m : List UInt8} : B l = B m ↔ l = m := by
  constructor
  · intro h
    have := congrArg (fun b : ByteArray => b.data.toList) h
    simpa [B] using this
  · intro h; rw [h]
theorem B_append (l m : List UInt8) : B l ++ B m = B (l ++ m) := by
  apply ByteArray.ext
  simp [B, ByteArray.data_append]
theorem B_extract (l : List UInt8) (a b : Nat) : (B l).extract a b = B ((l.drop a).take (b - a)) := by
  apply ByteArray.ext
  simp [B, ByteArray.data_extract, List.extract_toArray]
theorem bt_B {l : List UInt8} {i : Nat} (h : i < l.length) : bt (B l) (i : Int) = (l[i].toNat : Int) := by
  unfold bt
  rw [dif_pos (by rw [B_size]; exact h)]
  rfl
theorem bt_at_app {p s : List UInt8} {b : UInt8} {i : Nat} (h : i = p.length) : bt (B (p ++ b :: s)) (i : Int) = (b.toNat : Int) := by
  subst h
  rw [bt_B (by simp)]
  simp

inductive BT where
  | leaf : BT
  | node : BT → BT → BT
def enc : BT → List UInt8
  | .leaf => [48]
  | .node l r => 49 :: (enc l ++ enc r)
def nodes : BT → Nat
  | .leaf => 0
  | .node l r => nodes l + nodes r + 1
theorem enc_length : ∀ t, (enc t).length = 2 * nodes t + 1
  | .leaf => rfl
  | .node l r => by simp [enc, nodes, enc_length l, enc_length r]; omega
def flat : List BT → List UInt8
  | [] => []
  | t :: ts => enc t ++ flat ts
def scan : List UInt8 → Nat → Option (List UInt8)
  | l, 0 => some l
  | [], _ + 1 => none
  | b :: l, n + 1 => if b = 49 then scan l (n + 2) else if b = 48 then scan l n else none
theorem scan_enc : ∀ (t : BT) (s : List UInt8) (n : Nat), scan (enc t ++ s) (n + 1) = scan s n
  | .leaf, s, n => by simp [enc, scan]
  | .node l r, s, n => by
    simp only [enc, List.cons_append, scan, if_pos, List.append_assoc]
    rw [scan_enc l, scan_enc r]
theorem scan_one (t : BT) (s : List UInt8) : scan (enc t ++ s) 1 = some s := by
  rw [scan_enc t s 0]
  cases s <;> rfl
theorem scan_sound : ∀ (l : List UInt8) (n : Nat) (s : List UInt8), scan l n = some s → ∃ ts, ts.length = n ∧ l = flat ts ++ s
  | l, 0, s, h => by
    have e : l = s := by cases l <;> simpa [scan] using h
    exact ⟨[], rfl, by simp [flat, e]⟩
  | [], n + 1, s, h => by simp [scan] at h
  | b :: l, n + 1, s, h => by
    simp only [scan] at h
    split at h
    · rename_i hb
      obtain ⟨ts, h1, h2⟩ := scan_sound l (n + 2) s h
      match ts, h1 with
      | a :: c :: ts, h1 =>
        refine ⟨.node a c :: ts, by simpa using h1, ?_⟩
        rw [h2, hb]
        simp [flat, enc]
    · split at h
      · rename_i hb
        obtain ⟨ts, h1, h2⟩ := scan_sound l n s h
        refine ⟨.leaf :: ts, by simpa using h1, ?_⟩
        rw [h2, hb]
        simp [flat, enc]
      · cases h
theorem scan_len : ∀ (l : List UInt8) (n : Nat) (s : List UInt8), scan l n = some s → s.length ≤ l.length
  | l, n, s, h => by
    obtain ⟨ts, _, h2⟩ := scan_sound l n s h
    rw [h2]; simp
def isBin (l : List UInt8) : Bool := if 47 < l.length then false else match scan l 1 with
  | some [] => true
  | _ => false
theorem isBin_sound {l : List UInt8} (h : isBin l = true) : ∃ t, l = enc t ∧ nodes t ≤ 23 := by
  unfold isBin at h
  split at h
  · cases h
  · rename_i hl
    split at h
    · rename_i hs
      obtain ⟨ts, h1, h2⟩ := scan_sound l 1 [] hs
      match ts, h1 with
      | [t], _ =>
        have e : l = enc t := by simpa [flat] using h2
        refine ⟨t, e, ?_⟩
        have := enc_length t
        rw [e] at hl
        omega
    · cases h
def ones : List UInt8 → Nat
  | [] => 0
  | b :: l => (if b = 49 then 1 else 0) + ones l
theorem ones_append : ∀ (a b : List UInt8), ones (a ++ b) = ones a + ones b
  | [], b => by simp [ones]
  | x :: a, b => by simp [ones, ones_append a b]; omega
theorem ones_enc : ∀ t, ones (enc t) = nodes t
  | .leaf => rfl
  | .node l r => by simp [enc, ones, ones_append, ones_enc l, ones_enc r, nodes]; omega
def turn (right : Bool) (l r : BT) : Option BT :=
  if right then match l with
    | .leaf => none
    | .node x y => some (.node x (.node y r))
  else match r with
    | .leaf => none
    | .node x y => some (.node (.node l x) y)
theorem turn_nodes {right : Bool} {l r u : BT} (h : turn right l r = some u) : nodes u = nodes l + nodes r + 1 := by
  unfold turn at h
  split at h <;> split at h
  · cases h
  · obtain rfl := Option.some.inj h; simp [nodes]; omega
  · cases h
  · obtain rfl := Option.some.inj h; simp [nodes]; omega
end Go.Proofs.Ytomoafkpjdncfaa.Bin
namespace Go.Proofs.Ytomoafkpjdncfaa.Bin
set_option linter.unusedVariables false
set_option linter.unusedSectionVars false
open Go.RowKit Go.Proofs.YtomoafkpjdncfaaW.PrintWords Go.Proofs.Ytomoafkpjdncfaa.Base

def rotAt : BT → Nat → Bool → Option BT
  | .leaf, _, _ => none
  | .node l r, 0, b => turn b l r
  | .node l r, i + 1, b => if i < nodes l then (rotAt l i b).map (fun x => .node x r) else (rotAt r (i - nodes l) b).map (fun x => .node l x)
theorem rotAt_nodes : ∀ (t : BT) (i : Nat) (b : Bool) (u : BT), rotAt t i b = some u → nodes u = nodes t
  | .leaf, _, _, _, h => by simp [rotAt] at h
  | .node l r, 0, b, u, h => by rw [turn_nodes h]; rfl
  | .node l r, i + 1, b, u, h => by
    simp only [rotAt] at h
    split at h
    · obtain ⟨x, hx, rfl⟩ := Option.map_eq_some_iff.1 h
      have := rotAt_nodes l i b x hx
      simp only [nodes]; omega
    · obtain ⟨x, hx, rfl⟩ := Option.map_eq_some_iff.1 h
      have := rotAt_nodes r (i - nodes l) b x hx
      simp only [nodes]; omega
theorem at_rot : ∀ (t : BT) (i : Nat), i < nodes t → ∃ p l r s, enc t = p ++ (enc (.node l r) ++ s) ∧ ones p = i ∧ ∀ b, (turn b l r).map (fun u => p ++ (enc u ++ s)) = (rotAt t i b).map enc
  | .leaf, i, h => by simp [nodes] at h
  | .node l r, 0, _ => ⟨[], l, r, [], by simp, rfl, fun b => by
      simp only [rotAt]
      cases turn b l r <;> simp⟩
  | .node l r, i + 1, h => by
    simp only [nodes] at h
    by_cases hl : i < nodes l
    · obtain ⟨p, a, b, s, h1, h2, h3⟩ := at_rot l i hl
      refine ⟨49 :: p, a, b, s ++ enc r, ?_, by simp [ones, h2]; omega, fun q => ?_⟩
      · simp only [enc] at h1 ⊢
        rw [h1]; simp
      · have h4 := h3 q
        simp only [rotAt, if_pos hl]
        cases ht : turn q a b with
        | none => rw [ht] at h4; cases hr : rotAt l i q with
          | none => rfl
          | some x => rw [hr] at h4; simp at h4
        | some x => rw [ht] at h4; cases hr : rotAt l i q with
          | none => rw [hr] at h4; simp at h4
          | some y =>
            rw [hr] at h4
            simp only [Option.map_some, Option.some.injEq] at h4 ⊢
            simp only [enc, List.cons_append, ← h4, List.append_assoc]
    · obtain ⟨p, a, b, s, h1, h2, h3⟩ := at_rot r (i - nodes l) (by omega)
      refine ⟨49 :: (enc l ++ p), a, b, s, ?_, ?_, fun q => ?_⟩
      · simp only [enc] at h1 ⊢
        rw [h1]; simp
      · simp only [ones, if_pos, ones_append, ones_enc, h2]; omega
      · have h4 := h3 q
        simp only [rotAt, if_neg hl]
        cases ht : turn q a b with
        | none => rw [ht] at h4; cases hr : rotAt r (i - nodes l) q with
          | none => rfl
          | some x => rw [hr] at h4; simp at h4
        | some x => rw [ht] at h4; cases hr : rotAt r (i - nodes l) q with
          | none => rw [hr] at h4; simp at h4
          | some y =>
            rw [hr] at h4
            simp only [Option.map_some, Option.some.injEq] at h4 ⊢
            simp only [enc, List.cons_append, ← h4, List.append_assoc]
abbrev KS := List (BT × Int)
def keys (P : KS) : List (List UInt8) := P.map fun p => enc p.1
def addK (P : KS) (d : Int) : Option BT → KS
  | none => P
  | some z => if enc z ∈ keys P then P else P ++ [(z, d)]
def innK (t : BT) (d : Int) : Nat → Nat → KS → KS
  | 0, _, P => P
  | m + 1, i, P => innK t d m (i + 1) (addK (addK P d (rotAt t i true)) d (rotAt t i false))
def outK (n : Nat) : Nat → Nat → KS → KS
  | 0, _, P => P
  | m + 1, i, P => match P[i]? with
    | none => P
    | some x => outK n m (i + 1) (innK x.1 (x.2 + 1) n 0 P)
def resK (u : BT) (n : Nat) : Nat → Nat → KS → Int
  | 0, _, _ => 0
  | m + 1, i, P => match P[i]? with
    | none => 0
    | some x => if enc x.1 = enc u then x.2 else resK u n m (i + 1) (innK x.1 (x.2 + 1) n 0 P)
structure KG (n : Nat) (P : KS) : Prop where
  nd : (keys P).Nodup
  nn : ∀ x ∈ P, nodes x.1 = n
  vv : ∀ x ∈ P, 0 ≤ x.2 ∧ x.2 ≤ P.length
theorem addK_pre (P : KS) (d : Int) (z : Option BT) : ∃ Q, addK P d z = P ++ Q := by
  cases z with
  | none => exact ⟨[], by simp [addK]⟩
  | some z =>
    simp only [addK]
    split
    · exact ⟨[], by simp⟩
    · exact ⟨[(z, d)], rfl⟩
theorem innK_pre (t : BT) (d : Int) : ∀ (m i : Nat) (P : KS), ∃ Q, innK t d m i P = P ++ Q
  | 0, _, P => ⟨[], by simp [innK]⟩
  | m + 1, i, P => by
    obtain ⟨Q1, e1⟩ := addK_pre P d (rotAt t i true)
    obtain ⟨Q2, e2⟩ := addK_pre (addK P d (rotAt t i true)) d (rotAt t i false)
    obtain ⟨Q3, e3⟩ := innK_pre t d m (i + 1) (addK (addK P d (rotAt t i true)) d (rotAt t i false))
    exact ⟨Q1 ++ Q2 ++ Q3, by simp only [innK]; rw [e3, e2, e1]; simp⟩
theorem outK_pre (n : Nat) : ∀ (m i : Nat) (P : KS), ∃ Q, outK n m i P = P ++ Q
  | 0, _, P => ⟨[], by simp [outK]⟩
  | m + 1, i, P => by
    simp only [outK]
    split
    · exact ⟨[], by simp⟩
    · rename_i x _
      obtain ⟨Q1, e1⟩ := innK_pre x.1 (x.2 + 1) n 0 P
      obtain ⟨Q2, e2⟩ := outK_pre n m (i + 1) (innK x.1 (x.2 + 1) n 0 P)
      exact ⟨Q1 ++ Q2, by rw [e2, e1]; simp⟩
theorem KG.add {n : Nat} {P : KS} (h : KG n P) {d : Int} (h0 : 0 ≤ d) (h1 : d ≤ P.length + 1) {z : Option BT} (hz : ∀ u, z = some u → nodes u = n) : KG n (addK P d z) := by
  cases z with
  | none => exact h
  | some z =>
    simp only [addK]
    split
    · exact h
    · rename_i hn
      refine ⟨?_, fun x hx => ?_, fun x hx => ?_⟩
      · unfold keys
        rw [List.map_append]
        refine List.nodup_append.2 ⟨h.nd, by simp, fun x hx y hy => ?_⟩
        simp only [List.map_cons, List.map_nil, List.mem_singleton] at hy
        subst hy
        exact fun e => hn (e ▸ hx)
      · rcases List.mem_append.1 hx with hx | hx
        · exact h.nn x hx
        · rw [List.mem_singleton] at hx
          subst hx
          exact hz z rfl
      · rw [List.length_append, List.length_singleton]
        rcases List.mem_append.1 hx with hx | hx
        · have := h.vv x hx; omega
        · rw [List.mem_singleton] at hx
          subst hx
          constructor
          · exact h0
          · simp only; omega
theorem KG.inn {n : Nat} {t : BT} (ht : nodes t = n) {d : Int} (h0 : 0 ≤ d) : ∀ (m i : Nat) (P : KS), KG n P → d ≤ P.length + 1 → KG n (innK t d m i P)
  | 0, _, _, h, _ => h
  | m + 1, i, P, h, h1 => by
    have hz : ∀ b u, rotAt t i b = some u → nodes u = n := fun b u e => (rotAt_nodes t i b u e).trans ht
    obtain ⟨Q1, e1⟩ := addK_pre P d (rotAt t i true)
    obtain ⟨Q2, e2⟩ := addK_pre (addK P d (rotAt t i true)) d (rotAt t i false)
    have l1 : P.length ≤ (addK P d (rotAt t i true)).length := by rw [e1]; simp
    have l2 : (addK P d (rotAt t i true)).length ≤ (addK (addK P d (rotAt t i true)) d (rotAt t i false)).length := by rw [e2]; simp
    exact KG.inn ht h0 m (i + 1) _ ((h.add h0 h1 (hz true)).add h0 (by omega) (hz false)) (by omega)
theorem few_nodup : ∀ (m : Nat) (l : List Int), l.Nodup → (∀ x ∈ l, 0 ≤ x ∧ x < m) → l.length ≤ m
  | 0, l, _, h => by
    cases l with
    | nil => simp
    | cons a l => have := h a (by simp); omega
  | m + 1, l, hn, h => by
    by_cases hm : (m : Int) ∈ l
    · have h1 := few_nodup m (l.erase (m : Int)) (hn.erase _) (fun x hx => by
        have h2 := (hn.mem_erase_iff).1 hx
        have := h x h2.2
        omega)
      rw [List.length_erase_of_mem hm] at h1
      omega
    · have := few_nodup m l hn (fun x hx => by
        have h2 := h x hx
        have : x ≠ m := fun e => hm (e ▸ hx)
        omega)
      omega
theorem enc_bytes : ∀ (t : BT), ∀ b ∈ enc t, b = 48 ∨ b = 49
  | .leaf, b, h => by simp [enc] at h; exact .inl h
  | .node l r, b, h => by
    simp only [enc, List.mem_cons, List.mem_append] at h
    rcases h with h | h | h
    · exact .inr h
    · exact enc_bytes l b h
    · exact enc_bytes r b h
def val : List UInt8 → Int
  | [] => 0
  | b :: l => (if b = 49 then 1 else 0) + 2 * val l
theorem val_rng : ∀ l : List UInt8, 0 ≤ val l ∧ val l < 2 ^ l.length
  | [] => by simp [val]
  | b :: l => by
    have := val_rng l
    simp only [val, List.length_cons]
    have e : (2 : Int) ^ (l.length + 1) = 2 * 2 ^ l.length := by rw [Int.pow_succ]; omega
    rw [e]
    split <;> omega
theorem val_inj : ∀ (l m : List UInt8), l.length = m.length → (∀ b ∈ l, b = 48 ∨ b = 49) → (∀ b ∈ m, b = 48 ∨ b = 49) → val l = val m → l = m
  | [], [], _, _, _, _ => rfl
  | [], _ :: _, h, _, _, _ => by simp at h
  | _ :: _, [], h, _, _, _ => by simp at h
  | b :: l, c :: m, h, h1, h2, h3 => by
    simp only [val] at h3
    have hb := h1 b (by simp)
    have hc := h2 c (by simp)
    have ne : ¬ (48 : UInt8) = 49 := by decide
    have key : b = c ∧ val l = val m := by
      rcases hb with rfl | rfl <;> rcases hc with rfl | rfl
      · exact ⟨rfl, by omega⟩
      · rw [if_neg ne, if_pos rfl] at h3; omega
      · rw [if_neg ne, if_pos rfl] at h3; omega
      · exact ⟨rfl, by omega⟩
    rw [key.1, val_inj l m (by simpa using h) (fun x hx => h1 x (by simp [hx])) (fun x hx => h2 x (by simp [hx])) key.2]
theorem KG.few {n : Nat} {P : KS} (h : KG n P) (hn : n ≤ 7) : P.length ≤ 32768 := by
  have hl : ∀ x ∈ P, (enc x.1).length = 2 * n + 1 := fun x hx => by rw [enc_length, h.nn x hx]
  have h1 : ((keys P).map val).Nodup := by
    unfold List.Nodup
    rw [List.pairwise_map]
    refine h.nd.imp_of_mem (fun {x y} hx hy hne e => hne ?_)
    obtain ⟨a, ha, rfl⟩ := List.mem_map.1 hx
    obtain ⟨b, hb, rfl⟩ := List.mem_map.1 hy
    exact val_inj _ _ (by rw [hl a ha, hl b hb]) (enc_bytes _) (enc_bytes _) e
  have := few_nodup 32768 _ h1 (fun z hz => by
    obtain ⟨x, hx, rfl⟩ := List.mem_map.1 hz
    obtain ⟨a, ha, rfl⟩ := List.mem_map.1 hx
    have h2 := val_rng (enc a.1)
    have h3 : (2 : Int) ^ (enc a.1).length ≤ 2 ^ 15 := by
      rw [hl a ha]
      exact_mod_cast Nat.pow_le_pow_right (by omega) (by omega)
    have : (2 : Int) ^ 15 = 32768 := by decide
    omega)
  simpa [keys] using this
theorem KG.out {n : Nat} : ∀ (m i : Nat) (P : KS), KG n P → KG n (outK n m i P)
  | 0, _, _, h => h
  | m + 1, i, P, h => by
    simp only [outK]
    split
    · exact h
    · rename_i x hx
      have hm : x ∈ P := List.mem_of_getElem? hx
      have := h.vv x hm
      exact KG.out m (i + 1) _ (KG.inn (h.nn x hm) (by omega) n 0 P h (by omega))
theorem res_out {n : Nat} (hn : n ≤ 7) (u : BT) : ∀ (m i : Nat) (P : KS), i + m = 32769 → KG n P → (∀ j x, j < i → P[j]? = some x → enc x.1 ≠ enc u) →
    (∃ x ∈ outK n m i P, enc x.1 = enc u ∧ x.2 = resK u n m i P) ∨ ((∀ x ∈ outK n m i P, enc x.1 ≠ enc u) ∧ resK u n m i P = 0)
  | 0, i, P, hi, h, hu => by
    have hf := h.few hn
    refine .inr ⟨fun x hx => ?_, rfl⟩
    obtain ⟨j, hj⟩ := List.mem_iff_getElem?.1 hx
    have : j < P.length := (List.getElem?_eq_some_iff.1 hj).1
    exact hu j x (by omega) hj
  | m + 1, i, P, hi, h, hu => by
    simp only [outK, resK]
    cases hx : P[i]? with
    | none =>
      refine .inr ⟨fun x hx2 => ?_, rfl⟩
      obtain ⟨j, hj⟩ := List.mem_iff_getElem?.1 hx2
      have h1 : j < P.length := (List.getElem?_eq_some_iff.1 hj).1
      have h2 : P.length ≤ i := List.getElem?_eq_none_iff.1 hx
      exact hu j x (by omega) hj
    | some x =>
      have hm : x ∈ P := List.mem_of_getElem? hx
      have hv := h.vv x hm
      obtain ⟨Q1, e1⟩ := innK_pre x.1 (x.2 + 1) n 0 P
      obtain ⟨Q2, e2⟩ := outK_pre n m (i + 1) (innK x.1 (x.2 + 1) n 0 P)
      simp only
      by_cases hxu : enc x.1 = enc u
      · rw [if_pos hxu]
        exact .inl ⟨x, by rw [e2, e1]; simp [hm], hxu, rfl⟩
      · rw [if_neg hxu]
        refine res_out hn u m (i + 1) _ (by omega) (KG.inn (h.nn x hm) (by omega) n 0 P h (by omega)) (fun j y hj hy => ?_)
        have hil : i < P.length := (List.getElem?_eq_some_iff.1 hx).1
        rw [e1, List.getElem?_append_left (by omega)] at hy
        by_cases hji : j = i
        · subst hji
          rw [hx] at hy
          obtain rfl := Option.some.inj hy
          exact hxu
        · exact hu j y (by omega) hy
end Go.Proofs.Ytomoafkpjdncfaa.Bin
namespace Go.Proofs.Ytomoafkpjdncfaa.E
set_option linter.unusedVariables false
set_option linter.unusedSectionVars false
open Go.RowKit Go.Proofs.YtomoafkpjdncfaaW.PrintWords Go.Proofs.Ytomoafkpjdncfaa.Base Go.Proofs.Ytomoafkpjdncfaa.Bin

theorem toList_loop (bs : ByteArray) : ∀ (n i : Nat) (r : List UInt8), i + n = bs.size → ByteArray.toList.loop bs i r = r.reverse ++ bs.data.toList.drop i
  | 0, i, r, h => by
    unfold ByteArray.toList.loop
    have hs : bs.size = bs.data.toList.length := by rw [Array.length_toList]; rfl
    rw [if_neg (by omega), List.drop_of_length_le (by omega), List.append_nil]
  | n + 1, i, r, h => by
    unfold ByteArray.toList.loop
    have hs : bs.size = bs.data.toList.length := by rw [Array.length_toList]; rfl
    have hi : i < bs.data.toList.length := by omega
    rw [if_pos (by omega), toList_loop bs n (i + 1) _ (by omega), List.drop_eq_getElem_cons hi]
    have e : bs.get! i = bs.data.toList[i] := by
      cases bs with
      | mk d =>
        have hi' : i < d.size := by simpa using hi
        simp [ByteArray.get!, hi']
    rw [e]
    simp
theorem toList_B (l : List UInt8) : (B l).toList = l := by
  unfold ByteArray.toList
  rw [toList_loop (B l) (B l).size 0 [] (by omega)]
  simp [B]
theorem B_drop (l : List UInt8) (a : Nat) : (B l).extract a (B l).size = B (l.drop a) := by
  rw [B_extract, B_size, List.take_of_length_le (by simp)]
theorem B_take (l : List UInt8) (b : Nat) : (B l).extract 0 b = B (l.take b) := by
  rw [B_extract]; simp
theorem bt_zero (b : UInt8) (l : List UInt8) : bt (B (b :: l)) 0 = (b.toNat : Int) := by
  have := bt_at_app (p := []) (s := l) (b := b) (i := 0) rfl
  simpa using this
theorem u49 {b : UInt8} : ((b.toNat : Int) = 49) ↔ b = 49 := by
  rw [← UInt8.toNat_inj]
  show ((b.toNat : Int) = 49) ↔ b.toNat = 49
  omega
theorem u48 {b : UInt8} : ((b.toNat : Int) = 48) ↔ b = 48 := by
  rw [← UInt8.toNat_inj]
  show ((b.toNat : Int) = 48) ↔ b.toNat = 48
  omega
def outB : Option (List UInt8) → ByteArray × Bool
  | some s => (B s, true)
  | none => (B [], false)
theorem impl_endBinary_loop : ∀ (l : List UInt8) (n : Nat), l.length + n < 4611686018427387904 → Ev (fun k => impl_endBinary.l0 k (B l) (n : Int)) (outB (scan l n))
  | l, 0, _ => by
    refine Ev.step (fun k => by rw [impl_endBinary.l0]) ?_
    refine ev_neg (by omega) ?_
    cases l <;> exact Ev.now _
  | [], n + 1, _ => by
    refine Ev.step (fun k => by rw [impl_endBinary.l0]) ?_
    refine ev_pos (by omega) (ev_pos (by rw [toList_B]) ?_)
    refine Ev.step (fun k => by rw [impl_endBinary.j1]) ?_
    exact ev_pos rfl (Ev.now _)
  | b :: l, n + 1, h => by
    have hs : (B (b :: l)).size = l.length + 1 := by rw [B_size]; rfl
    simp only [List.length_cons] at h
    refine Ev.step (fun k => by rw [impl_endBinary.l0]) ?_
    refine ev_pos (by omega) (ev_neg (by rw [toList_B]; simp) (ev_pos (by omega) ?_))
    rw [bt_zero]
    have hd : (B (b :: l)).extract 1 (B (b :: l)).size = B l := by rw [B_drop]; rfl
    refine ev_ite (fun hb => ?_) (fun hb => ?_)
    · have e := u48.1 hb
      subst e
      refine Ev.step (fun k => by rw [impl_endBinary.j1]) ?_
      rw [bt_zero, hd]
      refine ev_neg (by decide) (ev_pos (by omega) (ev_neg (by decide) (ev_pos (by omega) ?_)))
      rw [w64p (by omega)]
      have := impl_endBinary_loop l n (by omega)
      simpa [scan] using this
    · have e : ¬ b = 48 := fun e => hb (u48.2 e)
      by_cases e2 : b = 49
      · subst e2
        refine Ev.step (fun k => by rw [impl_endBinary.j1]) ?_
        rw [bt_zero, hd]
        refine ev_neg (by decide) (ev_pos (by omega) (ev_pos (by decide) (ev_pos (by omega) ?_)))
        rw [w64s (by omega)]
        have := impl_endBinary_loop l (n + 2) (by omega)
        rw [show scan (49 :: l) (n + 1) = scan l (n + 2) by simp [scan]]
        exact this
      · refine Ev.step (fun k => by rw [impl_endBinary.j1]) ?_
        refine ev_pos ?_ (ev_now ?_)
        · rw [bne_iff_ne]
          exact fun h => e2 (u49.1 h)
        · simp only [scan]
          rw [if_neg e2, if_neg e]; rfl
theorem impl_endBinary_ev (l : List UInt8) (h : l.length ≤ 1048576) : Ev (fun k => impl_endBinary.f k (B l)) (outB (scan l 1)) := by
  unfold impl_endBinary.f
  exact impl_endBinary_loop l 1 (by omega)
def outN (n : Nat) : Option (List UInt8) → Int
  | some s => ((n - s.length : Nat) : Int)
  | none => -1
theorem spec_l03End_loop (w : List UInt8) (hw : w.length ≤ 1048576) : ∀ (l : List UInt8) (n i : Nat), l.length + n < 4611686018427387904 → w.drop i = l → i ≤ w.length → Ev (fun k => spec_l03End.l0 k (B w) (i : Int) (n : Int)) (outN w.length (scan l n))
  | l, 0, i, _, hd, hi => by
    refine Ev.step (fun k => by rw [spec_l03End.l0]) ?_
    refine ev_neg (by omega) ?_
    have e : scan l 0 = some l := by cases l <;> rfl
    rw [e]
    refine ev_now ?_
    have := congrArg List.length hd
    rw [List.length_drop] at this
    simp only [outN]; omega
  | [], n + 1, i, _, hd, hi => by
    have hl := congrArg List.length hd
    simp only [List.length_drop, List.length_nil] at hl
    refine Ev.step (fun k => by rw [spec_l03End.l0]) ?_
    refine ev_pos (by omega) (ev_pos (by rw [B_size]; omega) ?_)
    refine Ev.step (fun k => by rw [spec_l03End.j1]) ?_
    exact ev_pos rfl (Ev.now _)
  | b :: l, n + 1, i, h, hd, hi => by
    have hl := congrArg List.length hd
    simp only [List.length_drop, List.length_cons] at hl h
    have hlt : i < w.length := by omega
    rw [List.drop_eq_getElem_cons hlt] at hd
    obtain ⟨hb, hd2⟩ := List.cons.inj hd
    have hg : bt (B w) (i : Int) = (b.toNat : Int) := by rw [bt_B hlt, hb]
    have hs : (B w).size = w.length := B_size w
    refine Ev.step (fun k => by rw [spec_l03End.l0]) ?_
    refine ev_pos (by omega) (ev_neg (by omega) (ev_pos (by omega) (ev_pos (by omega) ?_)))
    rw [hg]
    refine ev_ite (fun hx => ?_) (fun hx => ?_)
    · have e := u48.1 hx
      subst e
      refine Ev.step (fun k => by rw [spec_l03End.j1]) ?_
      rw [hg]
      refine ev_neg (by decide) (ev_pos (by omega) (ev_pos (by omega) (ev_neg (by decide) ?_)))
      rw [w64p (by omega), w64s (by omega)]
      have := spec_l03End_loop w hw l n (i + 1) (by omega) hd2 (by omega)
      simpa [scan] using this
    · have e : ¬ b = 48 := fun e => hx (u48.2 e)
      by_cases e2 : b = 49
      · subst e2
        refine Ev.step (fun k => by rw [spec_l03End.j1]) ?_
        rw [hg]
        refine ev_neg (by decide) (ev_pos (by omega) (ev_pos (by omega) (ev_pos (by decide) ?_)))
        rw [w64s (by omega), w64s (by omega)]
        have := spec_l03End_loop w hw l (n + 2) (i + 1) (by omega) hd2 (by omega)
        rw [show scan (49 :: l) (n + 1) = scan l (n + 2) by simp [scan]]
        exact this
      · refine Ev.step (fun k => by rw [spec_l03End.j1]) ?_
        refine ev_pos ?_ (ev_now ?_)
        · rw [bne_iff_ne]
          exact fun h => e2 (u49.1 h)
        · simp only [scan]
          rw [if_neg e2, if_neg e]; rfl
theorem spec_l03End_ev (w : List UInt8) (hw : w.length ≤ 1048576) (i : Nat) (hi : i ≤ w.length) : Ev (fun k => spec_l03End.f k (B w) (i : Int)) (outN w.length (scan (w.drop i) 1)) := by
  unfold spec_l03End.f
  exact spec_l03End_loop w hw (w.drop i) 1 i (by simp; omega) rfl hi
theorem impl_IsBinary_ev (l : List UInt8) : Ev (fun k => impl_IsBinary.f k (B l)) (isBin l) := by
  unfold impl_IsBinary.f isBin
  rw [B_size]
  refine ev_ite (fun h => ?_) (fun h => ?_)
  · rw [if_pos (by omega)]; exact Ev.now _
  · rw [if_neg (by omega)]
    refine Ev.bind (impl_endBinary_ev l (by omega)) ?_
    cases hs : scan l 1 with
    | none => exact ev_neg (by simp [outB]) (Ev.now _)
    | some s =>
      refine ev_pos rfl (ev_now ?_)
      simp only [outB, toList_B]
      cases s <;> rfl
theorem spec_l03Is_ev (l : List UInt8) : Ev (fun k => spec_l03Is.f k (B l)) (isBin l) := by
  unfold spec_l03Is.f isBin
  rw [B_size]
  refine ev_ite (fun h => ?_) (fun h => ?_)
  · rw [if_neg (by omega)]
    refine Ev.bind (spec_l03End_ev l (by omega) 0 (by omega)) (ev_now ?_)
    rw [List.drop_zero]
    cases hs : scan l 1 with
    | none => simp only [outN]; rw [beq_eq_false_iff_ne]; omega
    | some s =>
      have hl := scan_len l 1 s hs
      simp only [outN]
      cases s with
      | nil => simp
      | cons x s =>
        simp only [List.length_cons] at hl ⊢
        rw [beq_eq_false_iff_ne]; omega
  · rw [if_pos (by omega)]; exact Ev.now _
theorem nodesOf_ev (t : BT) (h : nodes t ≤ 1000) : impl_nodesOf.f (B (enc t)) = some (nodes t : Int) := by
  unfold impl_nodesOf.f
  rw [B_size, enc_length, w64 (by omega) (by omega)]
  congr 1
  omega
theorem l03N_ev (t : BT) (h : nodes t ≤ 1000) : spec_l03N.f (B (enc t)) = some (nodes t : Int) := nodesOf_ev t h
theorem impl_sides_ev (l r : BT) (h : nodes l + nodes r ≤ 1000) : Ev (fun k => impl_sides.f k (B (enc (.node l r)))) (B (enc l), B (enc r)) := by
  have hs : (B (enc (.node l r))).size = 2 * nodes l + 2 * nodes r + 3 := by rw [B_size, enc_length]; simp only [nodes]; omega
  have hd : (B (enc (.node l r))).extract 1 (B (enc (.node l r))).size = B (enc l ++ enc r) := by rw [B_drop]; rfl
  have hl := enc_length l
  have hr := enc_length r
  have hw : (enc (.node l r)).length = 2 * nodes l + 2 * nodes r + 3 := by rw [enc_length]; simp only [nodes]; omega
  unfold impl_sides.f
  rw [hd]
  refine ev_pos (by omega) (Ev.bind (impl_endBinary_ev _ (by simp; omega)) ?_)
  rw [scan_one l (enc r)]
  simp only [outB, B_size, hr, hw]
  rw [w64 (by omega) (by omega)]
  refine ev_pos (by omega) (ev_pos (by omega) (ev_now ?_))
  rw [B_extract, show (((2 * nodes l + 2 * nodes r + 3 : Nat) : Int) - ((2 * nodes r + 1 : Nat) : Int)).toNat - 1 = (enc l).length by omega]
  congr 2
  show (enc l ++ enc r).take (enc l).length = enc l
  simp
theorem spec_l03Sides_ev (l r : BT) (h : nodes l + nodes r ≤ 1000) : Ev (fun k => spec_l03Sides.f k (B (enc (.node l r)))) (B (enc l), B (enc r)) := by
  have hw : (enc (.node l r)).length = 2 * nodes l + 2 * nodes r + 3 := by rw [enc_length]; simp only [nodes]; omega
  have hl := enc_length l
  have hr := enc_length r
  unfold spec_l03Sides.f
  have hE := spec_l03End_ev (enc (.node l r)) (by omega) 1 (by omega)
  have hd : (enc (.node l r)).drop 1 = enc l ++ enc r := rfl
  rw [hd, scan_one l (enc r)] at hE
  have e : outN (enc (.node l r)).length (some (enc r)) = ((2 * nodes l + 2 : Nat) : Int) := by simp only [outN]; rw [hw, hr]; omega
  rw [e] at hE
  refine Ev.bind hE (ev_pos (by omega) (ev_pos (by rw [B_size]; omega) (ev_pos (by omega) (ev_now ?_))))
  rw [B_drop, B_extract, hd, show (((2 * nodes l + 2 : Nat) : Int)).toNat = (enc l).length + 1 by omega]
  rw [show (enc (.node l r)).drop ((enc l).length + 1) = (enc l ++ enc r).drop (enc l).length by rfl]
  simp
end Go.Proofs.Ytomoafkpjdncfaa.E
namespace Go.Proofs.Ytomoafkpjdncfaa.E
set_option linter.unusedVariables false
set_option linter.unusedSectionVars false
open Go.RowKit Go.Proofs.YtomoafkpjdncfaaW.PrintWords Go.Proofs.YtomoafkpjdncfaaW.PrintMore Go.Proofs.Ytomoafkpjdncfaa.Base Go.Proofs.Ytomoafkpjdncfaa.Bin

def twoM (w u : List UInt8) : Int := if isBin w = true ∧ isBin u = true then (if w.length = u.length then 0 else 2) else 1
theorem spec_both_ev (w u : List UInt8) : Ev (fun k => spec_l03Both.f k (B w) (B u)) (twoM w u) := by
  unfold spec_l03Both.f twoM
  refine Ev.bind (spec_l03Is_ev w) (ev_ite (fun hw => Ev.bind (spec_l03Is_ev u) ?_) (fun hw => ?_))
  · refine Ev.step (fun k => by rw [spec_l03Both.j0]) ?_
    cases hu : isBin u with
    | true =>
      rw [if_pos (show isBin w = true ∧ true = true from ⟨hw, rfl⟩)]
      simp only [B_size]
      refine ev_neg (by decide) (ev_ite (fun hx => ?_) (fun hx => ?_))
      · rw [if_pos (by omega)]; exact Ev.now _
      · rw [if_neg (by omega)]; exact Ev.now _
    | false =>
      rw [if_neg (show ¬ (isBin w = true ∧ false = true) by simp)]
      exact ev_pos rfl (Ev.now _)
  · refine Ev.step (fun k => by rw [spec_l03Both.j0]) ?_
    rw [if_neg (show ¬ (isBin w = true ∧ isBin u = true) from fun h => hw h.1)]
    exact ev_pos rfl (Ev.now _)
theorem impl_two_ev (w u : List UInt8) : Ev (fun k => impl_twoCode.f k (B w) (B u)) (twoM w u) := by
  have ha : Ev (fun k => impl_areBinary.f k [B w, B u]) (isBin w && isBin u) := by
    have e1 : wrap64 ((0 : Int) + 1) = 1 := by unfold wrap64; decide
    have e2 : wrap64 ((1 : Int) + 1) = 2 := by unfold wrap64; decide
    unfold impl_areBinary.f
    refine Ev.step (fun k => by rw [impl_areBinary.l0]) ?_
    rw [e1]
    refine ev_pos (by simp) (ev_pos (by decide) (ev_pos (by simp) (Ev.bind (impl_IsBinary_ev w) (ev_ite (fun hw => ?_) (fun hw => ?_)))))
    · rw [hw, Bool.true_and]
      refine Ev.step (fun k => by rw [impl_areBinary.l0]) ?_
      rw [e2]
      refine ev_pos (by simp) (ev_pos (by decide) (ev_pos (by simp) (Ev.bind (impl_IsBinary_ev u) (ev_ite (fun hu => ?_) (fun hu => ?_)))))
      · rw [hu]
        refine Ev.step (fun k => by rw [impl_areBinary.l0]) ?_
        exact ev_neg (by simp) (Ev.now _)
      · rw [(by simpa using hu : isBin u = false)]; exact Ev.now _
    · rw [(by simpa using hw : isBin w = false)]; exact Ev.now _
  unfold impl_twoCode.f twoM
  refine Ev.bind ha (ev_ite (fun hx => ?_) (fun hx => ?_))
  · rw [if_pos (show isBin w = true ∧ isBin u = true by simpa using hx)]
    simp only [B_size]
    refine ev_ite (fun hx => ?_) (fun hx => ?_)
    · rw [if_pos (by omega)]; exact Ev.now _
    · rw [if_neg (by omega)]; exact Ev.now _
  · rw [if_neg (show ¬ (isBin w = true ∧ isBin u = true) by simpa using hx)]; exact Ev.now _
end Go.Proofs.Ytomoafkpjdncfaa.E
namespace Go.Proofs.Ytomoafkpjdncfaa.E
set_option linter.unusedVariables false
set_option linter.unusedSectionVars false
open Go.RowKit Go.Proofs.YtomoafkpjdncfaaW.PrintWords Go.Proofs.Ytomoafkpjdncfaa.Base Go.Proofs.Ytomoafkpjdncfaa.Bin

structure AtNode (w : List UInt8) (i : Nat) (p : List UInt8) (l r : BT) (s : List UInt8) : Prop where
  eq : w = p ++ (enc (.node l r) ++ s)
  ones : ones p = i
  few : w.length ≤ 1000
theorem AtNode.small {w p s : List UInt8} {i : Nat} {l r : BT} (h : AtNode w i p l r s) : p.length + (2 * nodes l + 2 * nodes r + 3) + s.length = w.length := by
  have := h.eq
  rw [this]
  simp only [List.length_append, enc_length, nodes]
  omega
theorem ones_le : ∀ (l : List UInt8), ones l ≤ l.length
  | [] => Nat.le_refl _
  | b :: l => by have := ones_le l; simp only [ones, List.length_cons]; split <;> omega
theorem ahead_byte {w p s : List UInt8} {i : Nat} {l r : BT} (h : AtNode w i p l r s) {j : Nat} (hj : j < p.length) : bt (B w) (j : Int) = (p[j].toNat : Int) := by
  have := h.small
  rw [bt_B (by omega)]
  have e := h.eq
  congr 2
  subst e
  rw [List.getElem_append_left hj]
theorem node_byte {w p s : List UInt8} {i : Nat} {l r : BT} (h : AtNode w i p l r s) : bt (B w) (p.length : Int) = 49 := by
  have e := h.eq
  subst e
  simp only [enc, List.cons_append]
  rw [bt_at_app rfl]
  rfl
theorem ones_step {p : List UInt8} {j : Nat} (hj : j < p.length) : ones (p.drop j) = (if p[j] = 49 then 1 else 0) + ones (p.drop (j + 1)) := by
  rw [List.drop_eq_getElem_cons hj]; rfl
section
variable {w p s : List UInt8} {i : Nat} {l r : BT} (h : AtNode w i p l r s)
include h
theorem spec_place_loop : ∀ (m j : Nat), j + m = p.length → Ev (fun k => spec_l03Place.l0 k (B w) (ones (p.drop j) : Int) (j : Int)) (p.length : Int)
  | 0, j, hj => by
    have hs := h.small
    have hf := h.few
    have e : j = p.length := by omega
    subst e
    refine Ev.step (fun k => by rw [spec_l03Place.l0]) ?_
    rw [node_byte h, List.drop_length]
    exact ev_pos (by omega) (ev_pos (by rw [B_size]; omega) (ev_pos rfl (ev_pos rfl (Ev.now _))))
  | m + 1, j, hj => by
    have hs := h.small
    have hf := h.few
    have hl : j < p.length := by omega
    have ih := spec_place_loop m (j + 1) (by omega)
    have ho := ones_step hl
    have hle := ones_le (p.drop j)
    rw [List.length_drop] at hle
    refine Ev.step (fun k => by rw [spec_l03Place.l0]) ?_
    rw [ahead_byte h hl, w64s (by omega)]
    refine ev_pos (by omega) (ev_pos (by rw [B_size]; omega) (ev_ite (fun hb => ?_) (fun hb => ?_)))
    · rw [if_pos (u49.1 hb)] at ho
      refine ev_neg (by omega) ?_
      rw [w64 (by omega) (by omega), show (ones (p.drop j) : Int) - 1 = (ones (p.drop (j + 1)) : Int) by omega]
      exact ih
    · rw [if_neg (fun e => hb (u49.2 e))] at ho
      rw [show ones (p.drop j) = ones (p.drop (j + 1)) by omega]
      exact ih
theorem spec_place_ev : Ev (fun k => spec_l03Place.f k (B w) (i : Int)) (p.length : Int) := by
  unfold spec_l03Place.f
  have := spec_place_loop h p.length 0 (by omega)
  rw [List.drop_zero, h.ones] at this
  exact this
theorem scan_at : scan (w.drop p.length) 1 = some s := by
  have e := h.eq
  rw [e, List.drop_left]
  exact scan_one _ _
theorem part_at : (w.drop p.length).take (2 * nodes l + 2 * nodes r + 3) = enc (.node l r) := by
  have e := h.eq
  rw [e, List.drop_left, show 2 * nodes l + 2 * nodes r + 3 = (enc (.node l r)).length by rw [enc_length]; simp only [nodes]; omega]
  simp
theorem behind_at : w.drop (p.length + (2 * nodes l + 2 * nodes r + 3)) = s := by
  have e := h.eq
  rw [e, ← List.append_assoc, show p.length + (2 * nodes l + 2 * nodes r + 3) = (p ++ enc (.node l r)).length by rw [List.length_append, enc_length]; simp only [nodes]; omega]
  exact List.drop_left
theorem ahead_at : w.take p.length = p := by
  have e := h.eq
  rw [e, List.take_left]
theorem impl_part_loop : ∀ (m j : Nat), j + m = p.length → Ev (fun k => impl_partAt.l0 k (B w) (i : Int) (j : Int) (ones (p.take j) - 1 : Int)) (B p, B (enc (.node l r)), B s)
  | 0, j, hj => by
    have hs := h.small
    have hf := h.few
    have e : j = p.length := by omega
    subst e
    have ho := h.ones
    have hle := ones_le p
    refine Ev.step (fun k => by rw [impl_partAt.l0]) ?_
    rw [node_byte h, List.take_length, ho, w64 (by omega) (by omega), B_drop, B_size]
    refine ev_pos (by omega) (ev_pos (by omega) (ev_pos rfl (ev_pos (by omega) (ev_pos (by omega) (Ev.bind (impl_endBinary_ev _ (by simp; omega)) ?_)))))
    rw [show (((p.length : Nat) : Int)).toNat = p.length from rfl, scan_at h]
    simp only [outB, B_size]
    rw [w64 (by omega) (by omega)]
    refine ev_pos (by omega) (ev_pos (by omega) (ev_now ?_))
    rw [B_take, B_extract, show ((w.length : Int) - (s.length : Int)).toNat - p.length = 2 * nodes l + 2 * nodes r + 3 by omega, part_at h, ahead_at h]
  | m + 1, j, hj => by
    have hs := h.small
    have hf := h.few
    have hl : j < p.length := by omega
    have ih := impl_part_loop m (j + 1) (by omega)
    have ho := h.ones
    have hsum := ones_append (p.take j) (p.drop j)
    rw [List.take_append_drop, ones_step hl] at hsum
    have hsum2 := ones_append (p.take (j + 1)) (p.drop (j + 1))
    rw [List.take_append_drop] at hsum2
    have hle := ones_le p
    refine Ev.step (fun k => by rw [impl_partAt.l0]) ?_
    rw [ahead_byte h hl, w64s (by omega)]
    refine ev_pos (by omega) (ev_pos (by rw [B_size]; omega) (ev_ite (fun hb => ?_) (fun hb => ?_)))
    · rw [if_pos (u49.1 hb)] at hsum
      rw [w64 (by omega) (by omega)]
      refine ev_neg (by omega) ?_
      rw [show (ones (p.take j) : Int) - 1 + 1 = (ones (p.take (j + 1)) : Int) - 1 by omega]
      exact ih
    · rw [if_neg (fun e => hb (u49.2 e))] at hsum
      rw [show (ones (p.take j) : Int) - 1 = (ones (p.take (j + 1)) : Int) - 1 by omega]
      exact ev_neg (by omega) ih
theorem impl_partAt_ev : Ev (fun k => impl_partAt.f k (B w) (i : Int)) (B p, B (enc (.node l r)), B s) := by
  unfold impl_partAt.f
  have := impl_part_loop h p.length 0 (by omega)
  simpa [ones] using this
end
theorem lit1 : (⟨#[49]⟩ : ByteArray) = B [49] := rfl
theorem lit2 : (⟨#[49, 49]⟩ : ByteArray) = B [49, 49] := rfl
def outR (p s : List UInt8) : Option BT → ByteArray × Bool
  | some u => (B (p ++ (enc u ++ s)), true)
  | none => (B [], false)
section
variable {w p s : List UInt8} {i : Nat} {l r : BT} (h : AtNode w i p l r s)
include h
theorem spec_turn_ev (right : Bool) : Ev (fun k => spec_l03Turn.f k (B w) (i : Int) right) (outR p s (turn right l r)) := by
  have hs := h.small
  have hf := h.few
  have hE := spec_l03End_ev w (by omega) p.length (by omega)
  rw [scan_at h] at hE
  have e : outN w.length (some s) = ((p.length + (2 * nodes l + 2 * nodes r + 3) : Nat) : Int) := by simp only [outN]; omega
  rw [e] at hE
  have hx : (B w).extract (((p.length : Nat) : Int)).toNat (((p.length + (2 * nodes l + 2 * nodes r + 3) : Nat) : Int)).toNat = B (enc (.node l r)) := by
    rw [B_extract, show (((p.length + (2 * nodes l + 2 * nodes r + 3) : Nat) : Int)).toNat - (((p.length : Nat) : Int)).toNat = 2 * nodes l + 2 * nodes r + 3 by omega]
    rw [show (((p.length : Nat) : Int)).toNat = p.length from rfl, part_at h]
  have ha : (B w).extract 0 (((p.length : Nat) : Int)).toNat = B p := by
    rw [B_take, show (((p.length : Nat) : Int)).toNat = p.length from rfl, ahead_at h]
  have hb : (B w).extract (((p.length + (2 * nodes l + 2 * nodes r + 3) : Nat) : Int)).toNat (B w).size = B s := by
    rw [B_drop, show (((p.length + (2 * nodes l + 2 * nodes r + 3) : Nat) : Int)).toNat = p.length + (2 * nodes l + 2 * nodes r + 3) from rfl, behind_at h]
  have hl := enc_length l
  have hr := enc_length r
  unfold spec_l03Turn.f
  refine Ev.bind (spec_place_ev h) (Ev.bind hE ?_)
  simp only [hx, ha, hb]
  refine ev_pos (by omega) (ev_pos (by omega) (ev_pos (by rw [B_size]; omega) (Ev.bind (spec_l03Sides_ev l r (by omega)) ?_)))
  cases right with
  | true =>
    refine ev_pos rfl ?_
    cases l with
    | leaf => exact ev_pos (by rw [toList_B]; rfl) (Ev.now _)
    | node x y =>
      have hx := enc_length x
      have hy := enc_length y
      simp only [nodes] at hs hl
      refine ev_neg (by rw [toList_B]; simp [enc]) (Ev.bind (spec_l03Sides_ev x y (by omega)) ?_)
      simp only [lit1, B_append, B_size, List.length_append, List.length_cons, List.length_nil]
      refine ev_pos (by omega) (ev_pos (by omega) (ev_pos (by omega) (ev_pos (by omega) (ev_pos (by omega) (ev_pos (by omega) (ev_pos (by omega) (ev_pos (by omega) (ev_now ?_))))))))
      simp [outR, turn, enc]
  | false =>
    refine ev_neg (by decide) ?_
    cases r with
    | leaf => exact ev_pos (by rw [toList_B]; rfl) (Ev.now _)
    | node x y =>
      have hx := enc_length x
      have hy := enc_length y
      simp only [nodes] at hs hr
      refine ev_neg (by rw [toList_B]; simp [enc]) (Ev.bind (spec_l03Sides_ev x y (by omega)) ?_)
      simp only [lit2, B_append, B_size, List.length_append, List.length_cons, List.length_nil]
      refine ev_pos (by omega) (ev_pos (by omega) (ev_pos (by omega) (ev_pos (by omega) (ev_pos (by omega) (ev_pos (by omega) (ev_pos (by omega) (ev_now ?_)))))))
      simp [outR, turn, enc]
theorem impl_rotated_ev (right : Bool) : Ev (fun k => impl_rotated.f k (B w) (i : Int) right) (outR p s (turn right l r)) := by
  have hs := h.small
  have hf := h.few
  have hl := enc_length l
  have hr := enc_length r
  unfold impl_rotated.f
  refine Ev.bind (impl_partAt_ev h) (Ev.bind (impl_sides_ev l r (by omega)) ?_)
  cases right with
  | true =>
    refine ev_pos rfl ?_
    cases l with
    | leaf => exact ev_pos (by rw [toList_B]; rfl) (Ev.now _)
    | node x y =>
      have hx := enc_length x
      have hy := enc_length y
      simp only [nodes] at hs hl
      refine ev_neg (by rw [toList_B]; simp [enc]) (Ev.bind (impl_sides_ev x y (by omega)) ?_)
      simp only [lit1, B_append, B_size, List.length_append, List.length_cons, List.length_nil]
      refine ev_pos (by omega) (ev_pos (by omega) (ev_pos (by omega) (ev_pos (by omega) (ev_pos (by omega) (ev_pos (by omega) (ev_now ?_))))))
      simp [outR, turn, enc]
  | false =>
    refine ev_neg (by decide) ?_
    cases r with
    | leaf => exact ev_pos (by rw [toList_B]; rfl) (Ev.now _)
    | node x y =>
      have hx := enc_length x
      have hy := enc_length y
      simp only [nodes] at hs hr
      refine ev_neg (by rw [toList_B]; simp [enc]) (Ev.bind (impl_sides_ev x y (by omega)) ?_)
      simp only [lit2, B_append, B_size, List.length_append, List.length_cons, List.length_nil]
      refine ev_pos (by omega) (ev_pos (by omega) (ev_pos (by omega) (ev_pos (by omega) (ev_pos (by omega) (ev_now ?_)))))
      simp [outR, turn, enc]
end
end Go.Proofs.Ytomoafkpjdncfaa.E
namespace Go.Proofs.Ytomoafkpjdncfaa.E
set_option linter.unusedVariables false
set_option linter.unusedSectionVars false
open Go.RowKit Go.Proofs.YtomoafkpjdncfaaW.PrintWords Go.Proofs.Ytomoafkpjdncfaa.Base Go.Proofs.Ytomoafkpjdncfaa.Bin

def outQ : Option BT → ByteArray × Bool
  | some u => (B (enc u), true)
  | none => (B [], false)
theorem outR_rot {t l r : BT} {p s : List UInt8} {i : Nat} {b : Bool} (h : (turn b l r).map (fun u => p ++ (enc u ++ s)) = (rotAt t i b).map enc) : outR p s (turn b l r) = outQ (rotAt t i b) := by
  cases ht : turn b l r with
  | none =>
    rw [ht] at h
    cases hr : rotAt t i b with
    | none => rfl
    | some y => rw [hr] at h; simp at h
  | some x =>
    rw [ht] at h
    cases hr : rotAt t i b with
    | none => rw [hr] at h; simp at h
    | some y =>
      rw [hr] at h
      simp only [Option.map_some, Option.some.injEq] at h
      simp only [outR, outQ, h]
theorem spec_rot_ev {t : BT} {i : Nat} (hi : i < nodes t) (ht : nodes t ≤ 400) (b : Bool) : Ev (fun k => spec_l03Turn.f k (B (enc t)) (i : Int) b) (outQ (rotAt t i b)) := by
  obtain ⟨p, l, r, s, h1, h2, h3⟩ := at_rot t i hi
  have := spec_turn_ev (w := enc t) ⟨h1, h2, by rw [enc_length]; omega⟩ b
  rwa [outR_rot (h3 b)] at this
theorem impl_rot_ev {t : BT} {i : Nat} (hi : i < nodes t) (ht : nodes t ≤ 400) (b : Bool) : Ev (fun k => impl_rotated.f k (B (enc t)) (i : Int) b) (outQ (rotAt t i b)) := by
  obtain ⟨p, l, r, s, h1, h2, h3⟩ := at_rot t i hi
  have := impl_rotated_ev (w := enc t) ⟨h1, h2, by rw [enc_length]; omega⟩ b
  rwa [outR_rot (h3 b)] at this
def kl (P : KS) : List ByteArray := P.map fun p => B (enc p.1)
def sn (P : KS) : List Int := P.map fun p => p.2
theorem kl_len (P : KS) : (kl P).length = P.length := by simp [kl]
theorem sn_len (P : KS) : (sn P).length = P.length := by simp [sn]
theorem kl_get {P : KS} {i : Nat} {x : BT × Int} (h : P[i]? = some x) : rdOf ByteArray.empty (kl P) (i : Int) = B (enc x.1) := by
  unfold rdOf kl
  rw [show ((i : Int)).toNat = i from rfl, List.getD_eq_getElem?_getD, List.getElem?_map, h]; rfl
theorem sn_get {P : KS} {i : Nat} {x : BT × Int} (h : P[i]? = some x) : rd (sn P) (i : Int) = x.2 := by
  rw [rd_nat]
  unfold sn
  rw [List.getD_eq_getElem?_getD, List.getElem?_map, h]; rfl
theorem get_lt {P : KS} {i : Nat} {x : BT × Int} (h : P[i]? = some x) : i < P.length := (List.getElem?_eq_some_iff.1 h).1
theorem add_get {P : KS} {i : Nat} {x : BT × Int} {d : Int} {z : Option BT} (h : P[i]? = some x) : (addK P d z)[i]? = some x := by
  obtain ⟨Q, e⟩ := addK_pre P d z
  rw [e, List.getElem?_append_left (get_lt h)]; exact h
theorem keys_get {P : KS} {i : Nat} {x : BT × Int} (h : P[i]? = some x) : (keys P)[i]? = some (enc x.1) := by
  unfold keys
  rw [List.getElem?_map, h]; rfl
theorem keys_len (P : KS) : (keys P).length = P.length := by simp [keys]
section
variable {w u : BT} {P : KS} {at_ : Nat} {x : BT × Int} (hx : P[at_]? = some x) (hP : P.length ≤ 40000) (hd : 0 ≤ x.2 ∧ x.2 ≤ 40000)
include hx hP hd
theorem spec_skip {i x11 : Int} {z : ByteArray} {q : Int × Int} (j : Int) (H : Ev (fun k => spec_TurnsBetween.l2 k (B (enc w)) (B (enc u)) (kl P) (sn P) (at_ : Int) i (wrap64 (x11 + 1))) q) :
    Ev (fun k => spec_TurnsBetween.l3 k (B (enc w)) (B (enc u)) (kl P) (sn P) (at_ : Int) i x11 z false j) q := by
  refine Ev.step (fun k => by rw [spec_TurnsBetween.l3]) ?_
  exact ev_ite (fun _ => ev_neg (by decide) H) (fun _ => ev_neg (by decide) H)
theorem spec_search {i x11 : Int} (z : BT) {q : Int × Int} (H : Ev (fun k => spec_TurnsBetween.l2 k (B (enc w)) (B (enc u)) (kl (addK P (x.2 + 1) (some z))) (sn (addK P (x.2 + 1) (some z))) (at_ : Int) i (wrap64 (x11 + 1))) q) :
    ∀ (m j : Nat), j + m = P.length → (enc z ∈ keys P → enc z ∈ (keys P).drop j) → Ev (fun k => spec_TurnsBetween.l3 k (B (enc w)) (B (enc u)) (kl P) (sn P) (at_ : Int) i x11 (B (enc z)) true (j : Int)) q
  | 0, j, hj, hz => by
    have hl := get_lt hx
    rw [List.drop_of_length_le (by rw [keys_len]; omega)] at hz
    have hn : ¬ enc z ∈ keys P := fun h => by cases hz h
    simp only [addK, if_neg hn] at H
    refine Ev.step (fun k => by rw [spec_TurnsBetween.l3]) ?_
    rw [kl_len, sn_len, sn_get hx, w64 (x := x.2 + 1) (by omega) (by omega)]
    refine ev_neg (by omega) (ev_pos rfl (ev_pos (by omega) (ev_pos (by omega) (ev_pos (by omega) (ev_pos (by omega) ?_)))))
    have e1 : kl (P ++ [(z, x.2 + 1)]) = kl P ++ [B (enc z)] := by simp [kl]
    have e2 : sn (P ++ [(z, x.2 + 1)]) = sn P ++ [x.2 + 1] := by simp [sn]
    rw [e1, e2] at H
    exact H
  | m + 1, j, hj, hz => by
    have hjl : j < P.length := by omega
    have hy : P[j]? = some P[j] := List.getElem?_eq_getElem hjl
    have hky := keys_get hy
    refine Ev.step (fun k => by rw [spec_TurnsBetween.l3]) ?_
    rw [kl_len, kl_get hy, toList_B, toList_B, w64s (by omega)]
    refine ev_pos (by omega) (ev_pos rfl (ev_pos (by omega) ?_))
    by_cases he : enc P[j].1 = enc z
    · have hm : enc z ∈ keys P := by rw [← he]; exact List.mem_of_getElem? hky
      simp only [addK, if_pos hm] at H
      rw [he, show (enc z != enc z) = false by simp]
      exact spec_skip hx hP hd _ H
    · rw [show (enc P[j].1 != enc z) = true by simpa using he]
      refine spec_search z H m (j + 1) (by omega) (fun h => ?_)
      have h2 := hz h
      have hjk : j < (keys P).length := by rw [keys_len]; exact hjl
      rw [List.drop_eq_getElem_cons hjk] at h2
      rcases List.mem_cons.1 h2 with h2 | h2
      · rw [List.getElem?_eq_getElem hjk] at hky
        exact absurd ((Option.some.inj hky).symm.trans h2.symm) he
      · exact h2
theorem spec_one {i : Nat} (hi : i < nodes x.1) (hn : nodes x.1 ≤ 7) (b : Bool) (x11 : Int) (hb : (x11 == 0) = b) (h2 : x11 < 2) {q : Int × Int}
    (H : Ev (fun k => spec_TurnsBetween.l2 k (B (enc w)) (B (enc u)) (kl (addK P (x.2 + 1) (rotAt x.1 i b))) (sn (addK P (x.2 + 1) (rotAt x.1 i b))) (at_ : Int) (i : Int) (wrap64 (x11 + 1))) q) :
    Ev (fun k => spec_TurnsBetween.l2 k (B (enc w)) (B (enc u)) (kl P) (sn P) (at_ : Int) (i : Int) x11) q := by
  have hl := get_lt hx
  have ht := spec_rot_ev hi (by omega) b
  refine Ev.step (fun k => by rw [spec_TurnsBetween.l2]) ?_
  rw [kl_len, kl_get hx, hb]
  refine ev_pos h2 (ev_pos (by omega) (ev_pos (by omega) (Ev.bind ht ?_)))
  cases hr : rotAt x.1 i b with
  | none =>
    rw [hr] at H
    exact spec_skip hx hP hd _ H
  | some z =>
    rw [hr] at H
    exact spec_search hx hP hd z H P.length 0 (by omega) (fun h => by simpa using h)
end
theorem spec_nodes {w u : BT} {n : Nat} (hw : nodes w = n) (hn : n ≤ 7) {at_ : Nat} {x : BT × Int} (hxn : nodes x.1 = n) {q : Int × Int} : ∀ (m i : Nat) (P : KS), i + m = n → KG n P → P[at_]? = some x →
    Ev (fun k => spec_TurnsBetween.l0 k (B (enc w)) (B (enc u)) (kl (innK x.1 (x.2 + 1) m i P)) (sn (innK x.1 (x.2 + 1) m i P)) (wrap64 ((at_ : Int) + 1))) q →
    Ev (fun k => spec_TurnsBetween.l1 k (B (enc w)) (B (enc u)) (kl P) (sn P) (at_ : Int) (i : Int)) q
  | 0, i, P, hi, hP, hx, H => by
    refine Ev.step (fun k => by rw [spec_TurnsBetween.l1]) ?_
    rw [l03N_ev w (by omega)]
    exact ev_some (ev_neg (by omega) H)
  | m + 1, i, P, hi, hP, hx, H => by
    have hf := hP.few hn
    have hv := hP.vv x (List.mem_of_getElem? hx)
    have hz : ∀ b v, rotAt x.1 i b = some v → nodes v = n := fun b v e => (rotAt_nodes x.1 i b v e).trans hxn
    have hP1 := hP.add (d := x.2 + 1) (by omega) (by omega) (hz true)
    have hx1 : (addK P (x.2 + 1) (rotAt x.1 i true))[at_]? = some x := add_get hx
    have hf1 := hP1.few hn
    have hv1 := hP1.vv x (List.mem_of_getElem? hx1)
    have hP2 := hP1.add (d := x.2 + 1) (by omega) (by omega) (hz false)
    have hx2 : (addK (addK P (x.2 + 1) (rotAt x.1 i true)) (x.2 + 1) (rotAt x.1 i false))[at_]? = some x := add_get hx1
    refine Ev.step (fun k => by rw [spec_TurnsBetween.l1]) ?_
    rw [l03N_ev w (by omega)]
    refine ev_some (ev_pos (by omega) ?_)
    refine spec_one hx (by omega) (by omega) (by omega) (by omega) true 0 rfl (by decide) ?_
    rw [show wrap64 ((0 : Int) + 1) = 1 by unfold wrap64; decide]
    refine spec_one hx1 (by omega) (by omega) (by omega) (by omega) false 1 rfl (by decide) ?_
    rw [show wrap64 ((1 : Int) + 1) = 2 by unfold wrap64; decide]
    refine Ev.step (fun k => by rw [spec_TurnsBetween.l2]) ?_
    rw [w64s (by omega)]
    exact ev_neg (by decide) (spec_nodes hw hn hxn m (i + 1) _ (by omega) hP2 hx2 H)
theorem spec_levels {w u : BT} {n : Nat} (hw : nodes w = n) (hn : n ≤ 7) : ∀ (m at_ : Nat) (P : KS), at_ + m = 32769 → KG n P →
    Ev (fun k => spec_TurnsBetween.l0 k (B (enc w)) (B (enc u)) (kl P) (sn P) (at_ : Int)) (resK u n m at_ P, 0)
  | 0, at_, P, hi, hP => by
    have hf := hP.few hn
    refine Ev.step (fun k => by rw [spec_TurnsBetween.l0]) ?_
    rw [kl_len]
    exact ev_neg (by omega) (Ev.now _)
  | m + 1, at_, P, hi, hP => by
    have hf := hP.few hn
    simp only [resK]
    cases hx : P[at_]? with
    | none =>
      have : P.length ≤ at_ := List.getElem?_eq_none_iff.1 hx
      refine Ev.step (fun k => by rw [spec_TurnsBetween.l0]) ?_
      rw [kl_len]
      exact ev_neg (by omega) (Ev.now _)
    | some x =>
      have hl := get_lt hx
      have hm : x ∈ P := List.mem_of_getElem? hx
      have hv := hP.vv x hm
      refine Ev.step (fun k => by rw [spec_TurnsBetween.l0]) ?_
      rw [kl_len, sn_len, kl_get hx, sn_get hx, toList_B, toList_B]
      refine ev_pos (by omega) (ev_pos (by omega) (ev_ite (fun he => ?_) (fun he => ?_)))
      · simp only [if_pos he]
        exact ev_pos (by omega) (Ev.now _)
      · simp only [if_neg he]
        refine spec_nodes hw hn (hP.nn x hm) n 0 P (by omega) hP hx ?_
        rw [w64s (by omega)]
        exact spec_levels hw hn m (at_ + 1) _ (by omega) (KG.inn (hP.nn x hm) (by omega) n 0 P hP (by omega))
def farOf (P : KS) : Far := (P.map fun p => (B (enc p.1), p.2)).reverse
theorem farOf_len (P : KS) : (farOf P).length = P.length := by simp [farOf]
theorem farHas_iff (s : List UInt8) : ∀ L : KS, farHas (L.map fun p => (B (enc p.1), p.2)) (B s) = decide (s ∈ keys L)
  | [] => by simp [farHas, keys]
  | p :: L => by
    simp only [List.map_cons, farHas]
    by_cases h : enc p.1 = s
    · rw [if_pos (by rw [h])]
      exact (decide_eq_true (by unfold keys; rw [List.map_cons, h]; exact List.mem_cons_self)).symm
    · rw [if_neg (fun e => h (B_inj.1 e)), farHas_iff s L]
      refine decide_eq_decide.mpr ⟨fun hm => ?_, fun hm => ?_⟩
      · unfold keys
        rw [List.map_cons]
        exact List.mem_cons_of_mem _ hm
      · unfold keys at hm
        rw [List.map_cons] at hm
        rcases List.mem_cons.1 hm with hm | hm
        · exact absurd hm.symm h
        · exact hm
theorem farGet_none {s : List UInt8} : ∀ L : KS, (∀ x ∈ L, enc x.1 ≠ s) → farGet (L.map fun p => (B (enc p.1), p.2)) (B s) = 0
  | [], _ => rfl
  | p :: L, h => by
    simp only [List.map_cons, farGet]
    rw [if_neg (fun e => h p (by simp) (B_inj.1 e)), farGet_none L (fun x hx => h x (by simp [hx]))]
theorem farGet_mem {x : BT × Int} : ∀ L : KS, (keys L).Nodup → x ∈ L → farGet (L.map fun p => (B (enc p.1), p.2)) (B (enc x.1)) = x.2
  | [], _, h => by cases h
  | p :: L, hn, h => by
    simp only [keys, List.map_cons, List.nodup_cons] at hn
    simp only [List.map_cons, farGet]
    rcases List.mem_cons.1 h with rfl | h
    · rw [if_pos rfl]
    · have : ¬ enc p.1 = enc x.1 := fun e => hn.1 (by rw [e]; exact List.mem_map.2 ⟨x, h, rfl⟩)
      rw [if_neg (fun e => this (B_inj.1 e)), farGet_mem L hn.2 h]
theorem farOf_has (P : KS) (s : List UInt8) : farHas (farOf P) (B s) = decide (s ∈ keys P) := by
  unfold farOf
  rw [← List.map_reverse, farHas_iff]
  refine decide_eq_decide.mpr ?_
  unfold keys
  rw [List.map_reverse, List.mem_reverse]
theorem farOf_get {n : Nat} {P : KS} (h : KG n P) {x : BT × Int} (hx : x ∈ P) : farGet (farOf P) (B (enc x.1)) = x.2 := by
  unfold farOf
  rw [← List.map_reverse]
  refine farGet_mem _ ?_ (by simpa using hx)
  unfold keys
  rw [List.map_reverse]
  exact (List.reverse_perm _).nodup_iff.2 h.nd
theorem farOf_none {P : KS} {s : List UInt8} (h : ∀ x ∈ P, enc x.1 ≠ s) : farGet (farOf P) (B s) = 0 := by
  unfold farOf
  rw [← List.map_reverse]
  exact farGet_none _ (fun x hx => h x (by simpa using hx))
theorem impl_one {c : ByteArray × ByteArray} {n : Nat} (hn : n ≤ 7) {P : KS} (hP : KG n P) {at_ : Nat} {x : BT × Int} (hx : P[at_]? = some x) {i : Nat} (hi : i < nodes x.1) (b : Bool) (j : Int) (h0 : 0 ≤ j) (h2 : j < 2) (hb : rdOf false [true, false] j = b) {n2 : Int} {q : Int × Int}
    (H : Ev (fun k => impl_TurnsBetween.l2 k c (kl (addK P (x.2 + 1) (rotAt x.1 i b))) (at_ : Int) (i : Int) n2 (i : Int) [true, false] 2 (wrap64 (j + 1)) (farOf (addK P (x.2 + 1) (rotAt x.1 i b)))) q) :
    Ev (fun k => impl_TurnsBetween.l2 k c (kl P) (at_ : Int) (i : Int) n2 (i : Int) [true, false] 2 j (farOf P)) q := by
  have hl := get_lt hx
  have hf := hP.few hn
  have hm : x ∈ P := List.mem_of_getElem? hx
  have hv := hP.vv x hm
  have hxn := hP.nn x hm
  have ht := impl_rot_ev hi (by omega) b
  refine Ev.step (fun k => by rw [impl_TurnsBetween.l2]) ?_
  rw [kl_len, kl_get hx, hb]
  refine ev_pos h2 (ev_pos h0 (ev_pos (by simpa using h2) (ev_pos (by omega) (ev_pos (by omega) (Ev.bind ht ?_)))))
  cases hr : rotAt x.1 i b with
  | none =>
    rw [hr] at H
    simp only [outQ]
    refine ev_pos (by rw [B_size]; simp [maxLen]) (ev_neg (by decide) H)
  | some z =>
    rw [hr] at H
    have hzn := rotAt_nodes x.1 i b z hr
    simp only [outQ, farOf_has, B_size, enc_length, farOf_len, farOf_get hP hm]
    refine ev_pos (by simp only [maxLen]; omega) (ev_pos trivial (ev_ite (fun he => ?_) (fun he => ?_)))
    · simp only [addK, if_pos (of_decide_eq_true he)] at H
      exact H
    · have he2 : ¬ enc z ∈ keys P := by simpa using he
      simp only [addK, if_neg he2] at H
      refine ev_pos ⟨by omega, by simp only [maxLen]; omega, by simp only [maxLen]; omega⟩ ?_
      rw [w64 (x := x.2 + 1) (by omega) (by omega)]
      have e1 : kl (P ++ [(z, x.2 + 1)]) = kl P ++ [B (enc z)] := by simp [kl]
      have e2 : farOf (P ++ [(z, x.2 + 1)]) = farPut (farOf P) (B (enc z)) (x.2 + 1) := by simp [farOf, farPut]
      rw [e1, e2] at H
      exact H
theorem impl_nodes {c : ByteArray × ByteArray} {n : Nat} (hn : n ≤ 7) {at_ : Nat} {x : BT × Int} (hxn : nodes x.1 = n) {q : Int × Int} : ∀ (m i : Nat) (P : KS), i + m = n → KG n P → P[at_]? = some x →
    Ev (fun k => impl_TurnsBetween.l0 k c (kl (innK x.1 (x.2 + 1) m i P)) (wrap64 ((at_ : Int) + 1)) (farOf (innK x.1 (x.2 + 1) m i P))) q →
    Ev (fun k => impl_TurnsBetween.l1 k c (kl P) (at_ : Int) (n : Int) (i : Int) (farOf P)) q
  | 0, i, P, hi, hP, hx, H => by
    refine Ev.step (fun k => by rw [impl_TurnsBetween.l1]) ?_
    exact ev_neg (by omega) H
  | m + 1, i, P, hi, hP, hx, H => by
    have hv := hP.vv x (List.mem_of_getElem? hx)
    have hz : ∀ b v, rotAt x.1 i b = some v → nodes v = n := fun b v e => (rotAt_nodes x.1 i b v e).trans hxn
    have hP1 := hP.add (d := x.2 + 1) (by omega) (by omega) (hz true)
    have hx1 : (addK P (x.2 + 1) (rotAt x.1 i true))[at_]? = some x := add_get hx
    have hv1 := hP1.vv x (List.mem_of_getElem? hx1)
    have hP2 := hP1.add (d := x.2 + 1) (by omega) (by omega) (hz false)
    have hx2 : (addK (addK P (x.2 + 1) (rotAt x.1 i true)) (x.2 + 1) (rotAt x.1 i false))[at_]? = some x := add_get hx1
    refine Ev.step (fun k => by rw [impl_TurnsBetween.l1]) ?_
    refine ev_pos (by omega) (ev_some ?_)
    refine impl_one hn hP hx (by omega) true 0 (by decide) (by decide) rfl ?_
    rw [show wrap64 ((0 : Int) + 1) = 1 by unfold wrap64; decide]
    refine impl_one hn hP1 hx1 (by omega) false 1 (by decide) (by decide) rfl ?_
    rw [show wrap64 ((1 : Int) + 1) = 2 by unfold wrap64; decide]
    refine Ev.step (fun k => by rw [impl_TurnsBetween.l2]) ?_
    rw [w64s (by omega)]
    exact ev_neg (by decide) (impl_nodes hn hxn m (i + 1) _ (by omega) hP2 hx2 H)
theorem impl_levels {w : BT} {v : ByteArray} {n : Nat} (hw : nodes w = n) (hn : n ≤ 7) : ∀ (m at_ : Nat) (P : KS), at_ + m = 32769 → KG n P →
    Ev (fun k => impl_TurnsBetween.l0 k (B (enc w), v) (kl P) (at_ : Int) (farOf P)) (farGet (farOf (outK n m at_ P)) v, 0)
  | 0, at_, P, hi, hP => by
    have hf := hP.few hn
    refine Ev.step (fun k => by rw [impl_TurnsBetween.l0]) ?_
    rw [kl_len]
    exact ev_neg (by omega) (Ev.now _)
  | m + 1, at_, P, hi, hP => by
    have hf := hP.few hn
    simp only [outK]
    cases hx : P[at_]? with
    | none =>
      have : P.length ≤ at_ := List.getElem?_eq_none_iff.1 hx
      refine Ev.step (fun k => by rw [impl_TurnsBetween.l0]) ?_
      rw [kl_len]
      exact ev_neg (by omega) (Ev.now _)
    | some x =>
      have hl := get_lt hx
      have hm : x ∈ P := List.mem_of_getElem? hx
      have hv := hP.vv x hm
      refine Ev.step (fun k => by rw [impl_TurnsBetween.l0]) ?_
      rw [kl_len, nodesOf_ev w (by omega), hw]
      refine ev_pos (by omega) (ev_some ?_)
      refine impl_nodes hn (hP.nn x hm) n 0 P (by omega) hP hx ?_
      rw [w64s (by omega)]
      exact impl_levels hw hn m (at_ + 1) _ (by omega) (KG.inn (hP.nn x hm) (by omega) n 0 P hP (by omega))
theorem start_KG (w : BT) : KG (nodes w) [(w, 0)] := ⟨by simp [keys], fun x hx => by rw [List.mem_singleton] at hx; rw [hx], fun x hx => by rw [List.mem_singleton] at hx; rw [hx]; simp⟩
theorem both_TurnsBetween (a b : List UInt8) : ∃ r : Int × Int, Ev (fun k => spec_TurnsBetween.f k (B a) (B b)) r ∧ Ev (fun k => impl_TurnsBetween.f k (B a) (B b)) r := by
  by_cases hc : twoM a b = 0
  · have h3 : isBin a = true ∧ isBin b = true := by
      unfold twoM at hc
      split at hc
      · assumption
      · cases hc
    obtain ⟨t, rfl, ht⟩ := isBin_sound h3.1
    obtain ⟨u, rfl, hu⟩ := isBin_sound h3.2
    by_cases h7 : nodes t ≤ 7
    · refine ⟨(resK u (nodes t) 32769 0 [(t, 0)], 0), ?_, ?_⟩
      · unfold spec_TurnsBetween.f
        refine Ev.bind (spec_both_ev _ _) (ev_pos hc ?_)
        rw [l03N_ev t (by omega)]
        refine ev_some (ev_neg (by omega) ?_)
        exact spec_levels rfl h7 32769 0 [(t, 0)] (by omega) (start_KG t)
      · unfold impl_TurnsBetween.f
        refine Ev.bind (impl_two_ev _ _) (ev_pos hc ?_)
        rw [nodesOf_ev t (by omega)]
        refine ev_some (ev_neg (by omega) (ev_pos ⟨by rw [B_size, enc_length]; simp only [maxLen]; omega, by rw [B_size, enc_length]; simp only [maxLen]; omega⟩ ?_))
        have h1 := impl_levels (v := B (enc u)) (w := t) rfl h7 32769 0 [(t, 0)] (by omega) (start_KG t)
        have e : farGet (farOf (outK (nodes t) 32769 0 [(t, 0)])) (B (enc u)) = resK u (nodes t) 32769 0 [(t, 0)] := by
          rcases res_out h7 u 32769 0 [(t, 0)] (by omega) (start_KG t) (fun j x hj => by omega) with ⟨x, hx, h2, h3⟩ | ⟨h2, h3⟩
          · rw [← h3, ← h2]
            exact farOf_get (KG.out _ _ _ (start_KG t)) hx
          · rw [h3]; exact farOf_none h2
        rw [e] at h1
        exact h1
    · refine ⟨(0, 3), ?_, ?_⟩
      · unfold spec_TurnsBetween.f
        refine Ev.bind (spec_both_ev _ _) (ev_pos hc ?_)
        rw [l03N_ev t (by omega)]
        exact ev_some (ev_pos (by omega) (Ev.now _))
      · unfold impl_TurnsBetween.f
        refine Ev.bind (impl_two_ev _ _) (ev_pos hc ?_)
        rw [nodesOf_ev t (by omega)]
        exact ev_some (ev_pos (by omega) (Ev.now _))
  · refine ⟨(0, twoM a b), ?_, ?_⟩
    · unfold spec_TurnsBetween.f
      exact Ev.bind (spec_both_ev _ _) (ev_neg hc (Ev.now _))
    · unfold impl_TurnsBetween.f
      exact Ev.bind (impl_two_ev _ _) (ev_neg hc (Ev.now _))
end Go.Proofs.Ytomoafkpjdncfaa.E
namespace Go.Proofs.Ytomoafkpjdncfaa.Pure
set_option linter.unusedVariables false
set_option linter.unusedSectionVars false
open Go.RowKit Go.Proofs.YtomoafkpjdncfaaW.PrintWords Go.Proofs.Ytomoafkpjdncfaa.Base Go.Proofs.Ytomoafkpjdncfaa.Bin Go.Proofs.Ytomoafkpjdncfaa.E
theorem FnExactTurnsBetween : ∀ (a0 a1 : ByteArray), a0.size ≤ maxLen → a1.size ≤ maxLen → ∃ k, laws_FnExactTurnsBetween.f k a0 a1 = some true := by
  intro a0 a1 _ _
  obtain ⟨w, rfl⟩ := B_all a0
  obtain ⟨u, rfl⟩ := B_all a1
  obtain ⟨r, h1, h2⟩ := both_TurnsBetween w u
  apply Ev.rounds
  unfold laws_FnExactTurnsBetween.f
  refine ev_ite (fun _ => Ev.now _) (fun _ => ev_ite (fun _ => Ev.now _) (fun _ => ?_))
  exact Ev.bind h1 (Ev.bind h2 (ev_pos rfl (ev_pos rfl (Ev.now _))))
end Go.Proofs.Ytomoafkpjdncfaa.Pure
namespace Go.Proofs.Ytomoafkpjdncfaa.Open
set_option linter.unusedVariables false
set_option linter.unusedSectionVars false
open Go.RowKit Go.ChangeShapes Go.WideShapes Go.ChangeAt Go.Deep Go.Proofs.YtomoafkpjdncfaaW.PrintWords
section
variable {H : Type} {enc : TypeId × Value → H} {P : Program} {w : World} {base : Nat} {held : Bool}

end
end Go.Proofs.Ytomoafkpjdncfaa.Open
