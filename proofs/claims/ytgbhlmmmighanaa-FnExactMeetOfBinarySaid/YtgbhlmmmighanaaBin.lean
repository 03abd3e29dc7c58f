/- Texts of binary trees as lists of bytes. No program in sight. -/
import Derived.Test.YtgbhlmmmighanaaBase
namespace Go.Proofs.Ytgbhlmmmighanaa.Bin
set_option linter.unusedVariables false
set_option linter.unusedSectionVars false
open Go.RowKit Go.Proofs.YtgbhlmmmighanaaW.PrintWords Go.Proofs.Ytgbhlmmmighanaa.Base

/-- The text with the bytes of a list. -/
def B (l : List UInt8) : ByteArray := ⟨l.toArray⟩
theorem B_all (w : ByteArray) : ∃ l, w = B l := ⟨w.data.toList, by cases w; simp [B]⟩
theorem B_size (l : List UInt8) : (B l).size = l.length := by simp [B, ByteArray.size]
theorem B_inj {l m : List UInt8} : B l = B m ↔ l = m := by
  constructor
  · intro h
    have := congrArg (fun b : ByteArray => b.data.toList) h
    simpa [B] using this
  · intro h; rw [h]
theorem B_append (l m : List UInt8) : B l ++ B m = B (l ++ m) := by
  apply ByteArray.ext
  simp [B, ByteArray.data_append]
theorem B_extract (l : List UInt8) (a b : Nat) : (B l).extract a b = B ((l.drop a).take (b - a)) := by
  apply ByteArray.ext
  simp [B, ByteArray.data_extract, List.extract_toArray]
theorem bt_B {l : List UInt8} {i : Nat} (h : i < l.length) : bt (B l) (i : Int) = (l[i].toNat : Int) := by
  unfold bt
  rw [dif_pos (by rw [B_size]; exact h)]
  rfl
theorem bt_at_app {p s : List UInt8} {b : UInt8} {i : Nat} (h : i = p.length) : bt (B (p ++ b :: s)) (i : Int) = (b.toNat : Int) := by
  subst h
  rw [bt_B (by simp)]
  simp

inductive BT where
  | leaf : BT
  | node : BT → BT → BT
def enc : BT → List UInt8
  | .leaf => [48]
  | .node l r => 49 :: (enc l ++ enc r)
def nodes : BT → Nat
  | .leaf => 0
  | .node l r => nodes l + nodes r + 1
theorem enc_length : ∀ t, (enc t).length = 2 * nodes t + 1
  | .leaf => rfl
  | .node l r => by simp [enc, nodes, enc_length l, enc_length r]; omega
theorem enc_leaf (t : BT) : enc t = [48] ↔ t = .leaf := by
  cases t with
  | leaf => simp [enc]
  | node l r => simp [enc]
def flat : List BT → List UInt8
  | [] => []
  | t :: ts => enc t ++ flat ts
/-- What is behind n texts of binary trees at the head of a list. -/
def scan : List UInt8 → Nat → Option (List UInt8)
  | l, 0 => some l
  | [], _ + 1 => none
  | b :: l, n + 1 => if b = 49 then scan l (n + 2) else if b = 48 then scan l n else none
theorem scan_enc : ∀ (t : BT) (s : List UInt8) (n : Nat), scan (enc t ++ s) (n + 1) = scan s n
  | .leaf, s, n => by simp [enc, scan]
  | .node l r, s, n => by
    simp only [enc, List.cons_append, scan, if_pos, List.append_assoc]
    rw [scan_enc l, scan_enc r]
theorem scan_one (t : BT) (s : List UInt8) : scan (enc t ++ s) 1 = some s := by
  rw [scan_enc t s 0]
  cases s <;> rfl
theorem scan_sound : ∀ (l : List UInt8) (n : Nat) (s : List UInt8), scan l n = some s → ∃ ts, ts.length = n ∧ l = flat ts ++ s
  | l, 0, s, h => by
    have e : l = s := by cases l <;> simpa [scan] using h
    exact ⟨[], rfl, by simp [flat, e]⟩
  | [], n + 1, s, h => by simp [scan] at h
  | b :: l, n + 1, s, h => by
    simp only [scan] at h
    split at h
    · rename_i hb
      obtain ⟨ts, h1, h2⟩ := scan_sound l (n + 2) s h
      match ts, h1 with
      | a :: c :: ts, h1 =>
        refine ⟨.node a c :: ts, by simpa using h1, ?_⟩
        rw [h2, hb]
        simp [flat, enc]
    · split at h
      · rename_i hb
        obtain ⟨ts, h1, h2⟩ := scan_sound l n s h
        refine ⟨.leaf :: ts, by simpa using h1, ?_⟩
        rw [h2, hb]
        simp [flat, enc]
      · cases h
theorem scan_len : ∀ (l : List UInt8) (n : Nat) (s : List UInt8), scan l n = some s → s.length ≤ l.length
  | l, n, s, h => by
    obtain ⟨ts, _, h2⟩ := scan_sound l n s h
    rw [h2]; simp
/-- Is it the text of a binary tree of at most 23 nodes? -/
def isBin (l : List UInt8) : Bool := if 47 < l.length then false else match scan l 1 with
  | some [] => true
  | _ => false
theorem isBin_sound {l : List UInt8} (h : isBin l = true) : ∃ t, l = enc t ∧ nodes t ≤ 23 := by
  unfold isBin at h
  split at h
  · cases h
  · rename_i hl
    split at h
    · rename_i hs
      obtain ⟨ts, h1, h2⟩ := scan_sound l 1 [] hs
      match ts, h1 with
      | [t], _ =>
        have e : l = enc t := by simpa [flat] using h2
        refine ⟨t, e, ?_⟩
        have := enc_length t
        rw [e] at hl
        omega
    · cases h
theorem isBin_enc {t : BT} (h : nodes t ≤ 23) : isBin (enc t) = true := by
  have := scan_one t []
  rw [List.append_nil] at this
  unfold isBin
  rw [if_neg (by rw [enc_length]; omega), this]
/-- How many bytes are 49. -/
def ones : List UInt8 → Nat
  | [] => 0
  | b :: l => (if b = 49 then 1 else 0) + ones l
theorem ones_append : ∀ (a b : List UInt8), ones (a ++ b) = ones a + ones b
  | [], b => by simp [ones]
  | x :: a, b => by simp [ones, ones_append a b]; omega
theorem ones_enc : ∀ t, ones (enc t) = nodes t
  | .leaf => rfl
  | .node l r => by simp [enc, ones, ones_append, ones_enc l, ones_enc r, nodes]; omega
theorem at_node : ∀ (t : BT) (i : Nat), i < nodes t → ∃ p l r s, enc t = p ++ (enc (.node l r) ++ s) ∧ ones p = i
  | .leaf, i, h => by simp [nodes] at h
  | .node l r, i, h => by
    match i, h with
    | 0, _ => exact ⟨[], l, r, [], by simp, rfl⟩
    | i + 1, h =>
      simp only [nodes] at h
      by_cases hl : i < nodes l
      · obtain ⟨p, a, b, s, h1, h2⟩ := at_node l i hl
        refine ⟨49 :: p, a, b, s ++ enc r, ?_, by simp [ones, h2]; omega⟩
        simp only [enc] at h1 ⊢
        rw [h1]; simp
      · obtain ⟨p, a, b, s, h1, h2⟩ := at_node r (i - nodes l) (by omega)
        refine ⟨49 :: (enc l ++ p), a, b, s, ?_, ?_⟩
        · simp only [enc] at h1 ⊢
          rw [h1]; simp
        · simp only [ones, if_pos, ones_append, ones_enc, h2]; omega
/-- What a rotation makes of a node with its parts. -/
def turn (right : Bool) (l r : BT) : Option BT :=
  if right then match l with
    | .leaf => none
    | .node x y => some (.node x (.node y r))
  else match r with
    | .leaf => none
    | .node x y => some (.node (.node l x) y)
theorem turn_nodes {right : Bool} {l r u : BT} (h : turn right l r = some u) : nodes u = nodes l + nodes r + 1 := by
  unfold turn at h
  split at h <;> split at h
  · cases h
  · obtain rfl := Option.some.inj h; simp [nodes]; omega
  · cases h
  · obtain rfl := Option.some.inj h; simp [nodes]; omega
/-- How many trees, and their degrees. -/
def forest : BT → Int × List Int
  | .leaf => (0, [])
  | .node l r => ((forest r).1 + 1, (forest l).1 :: ((forest l).2 ++ (forest r).2))
theorem forest_length : ∀ t, (forest t).2.length = nodes t
  | .leaf => rfl
  | .node l r => by simp [forest, nodes, forest_length l, forest_length r]
theorem forest_count : ∀ t, 0 ≤ (forest t).1 ∧ (forest t).1 ≤ nodes t
  | .leaf => by simp [forest, nodes]
  | .node l r => by have := forest_count r; simp only [forest, nodes]; omega
def vec : BT → List Int
  | .leaf => []
  | .node l r => vec l ++ (nodes r : Int) :: vec r
theorem vec_length : ∀ t, (vec t).length = nodes t
  | .leaf => rfl
  | .node l r => by simp [vec, nodes, vec_length l, vec_length r]; omega
/-- The first place from i on at which the number is that of the places behind it. -/
def firstR (l : List Int) : Nat → Nat → Option Nat
  | 0, _ => none
  | m + 1, i => if l.getD i 0 = (l.length : Int) - 1 - i then some i else firstR l m (i + 1)
theorem firstR_spec (l : List Int) : ∀ (m i j : Nat), i + m = l.length → firstR l m i = some j → i ≤ j ∧ j < l.length
  | 0, i, j, _, h => by simp [firstR] at h
  | m + 1, i, j, hm, h => by
    simp only [firstR] at h
    split at h
    · obtain rfl := Option.some.inj h; omega
    · have := firstR_spec l m (i + 1) j (by omega) h; omega
/-- The text of the binary tree with a vector, and whether there is one. -/
def ofV : Nat → List Int → List UInt8 × Bool
  | 0, _ => ([48], true)
  | f + 1, l => if l.length = 0 then ([48], true) else match firstR l l.length 0 with
    | none => ([], false)
    | some i => (49 :: ((ofV f (l.take i)).1 ++ (ofV f (l.drop (i + 1))).1), (ofV f (l.take i)).2 && (ofV f (l.drop (i + 1))).2)
theorem ofV_length : ∀ (f : Nat) (l : List Int), l.length ≤ f → (ofV f l).1.length ≤ 2 * l.length + 1
  | 0, l, h => by simp [ofV]
  | f + 1, l, h => by
    simp only [ofV]
    split
    · simp
    · split
      · simp
      · rename_i i hi
        have hj := firstR_spec l l.length 0 i (by omega) hi
        have h1 := ofV_length f (l.take i) (by simp; omega)
        have h2 := ofV_length f (l.drop (i + 1)) (by simp; omega)
        simp only [List.length_take, List.length_drop] at h1 h2
        simp only [List.length_cons, List.length_append]
        omega
end Go.Proofs.Ytgbhlmmmighanaa.Bin
