/- Patterns in plain words: marks of letters, and what the reference's l04End answers. No program in sight but the printed reference. -/

import Derived.Test.YtmambanmffdibaaBase
import Derived.Test.YtmambanmffdibaaPatIs
namespace Go.Proofs.Ytmambanmffdibaa.PT
set_option linter.unusedVariables false
set_option linter.unusedSectionVars false
open Go.RowKit Go.Proofs.YtmambanmffdibaaW.PrintWords Go.Proofs.Ytmambanmffdibaa.Base Go.Proofs.Ytmambanmffdibaa.P
/-! Letters and marks -/
def mark1 (u : List Bool) (c : Int) : Option (List Bool) := if u.getD (c - 97).toNat false = true then none else some (u.set (c - 97).toNat true)
def marks (u : List Bool) : List Int → Option (List Bool)
  | [] => some u
  | c :: l => (mark1 u c).bind fun v => marks v l
theorem marks_append : ∀ (a b : List Int) (u : List Bool), marks u (a ++ b) = (marks u a).bind fun v => marks v b
  | [], b, u => rfl
  | c :: a, b, u => by
    rw [List.cons_append, marks, marks, Option.bind_assoc]
    congr 1
    funext v
    exact marks_append a b v
theorem marks_length : ∀ (l : List Int) (u v : List Bool), marks u l = some v → v.length = u.length
  | [], u, v, h => by obtain rfl := Option.some.inj h; rfl
  | c :: l, u, v, h => by
    obtain ⟨u1, h1, h2⟩ := Option.bind_eq_some_iff.1 h
    rw [marks_length l _ _ h2]
    rw [mark1] at h1
    split at h1
    · cases h1
    · obtain rfl := Option.some.inj h1; exact List.length_set
theorem marks_some : ∀ (l : List Int) (u : List Bool), u.length = 8 → (∀ c ∈ l, 97 ≤ c ∧ c ≤ 104) → ((marks u l).isSome = true ↔ l.Nodup ∧ ∀ c ∈ l, u.getD (c - 97).toNat false = false)
  | [], u, _, _ => by simp [marks]
  | c :: l, u, hu, hl => by
    have hc := hl c List.mem_cons_self
    rw [marks, mark1]
    by_cases h : u.getD (c - 97).toNat false = true
    · rw [if_pos h, Option.bind_none]
      constructor
      · intro h1; cases h1
      · rintro ⟨_, h2⟩
        rw [h2 c List.mem_cons_self] at h; cases h
    · rw [if_neg h, Option.bind_some, marks_some l _ (by rw [List.length_set]; exact hu) (fun x hx => hl x (List.mem_cons_of_mem _ hx))]
      have hset : ∀ x ∈ l, (u.set (c - 97).toNat true).getD (x - 97).toNat false = if x = c then true else u.getD (x - 97).toNat false := by
        intro x hx
        have hx2 := hl x (List.mem_cons_of_mem _ hx)
        rw [List.getD_eq_getElem?_getD, List.getElem?_set]
        by_cases e : x = c
        · subst e
          rw [if_pos rfl, if_pos (by omega), if_pos rfl]; rfl
        · rw [if_neg (by omega), if_neg e, List.getD_eq_getElem?_getD]
      constructor
      · rintro ⟨h1, h2⟩
        have hn : c ∉ l := fun hm => by
          have := h2 c hm
          rw [hset c hm, if_pos rfl] at this; cases this
        refine ⟨List.nodup_cons.2 ⟨hn, h1⟩, fun x hx => ?_⟩
        rcases List.mem_cons.1 hx with rfl | hx
        · simpa using h
        · have := h2 x hx
          rwa [hset x hx, if_neg (fun (e : x = c) => hn (by rw [← e]; exact hx))] at this
      · rintro ⟨h1, h2⟩
        obtain ⟨hn, h1⟩ := List.nodup_cons.1 h1
        refine ⟨h1, fun x hx => ?_⟩
        rw [hset x hx, if_neg (fun (e : x = c) => hn (by rw [← e]; exact hx))]
        exact h2 x (List.mem_cons_of_mem _ hx)
theorem bytesL_append (a b : ByteArray) : bytesL (a ++ b) = bytesL a ++ bytesL b := by
  simp [bytesL, ByteArray.data_append]
theorem bytesL_letter {b : Int} (h : 97 ≤ b ∧ b ≤ 104) : bytesL ⟨#[UInt8.ofNat b.toNat]⟩ = [b] := by
  have : b = 97 ∨ b = 98 ∨ b = 99 ∨ b = 100 ∨ b = 101 ∨ b = 102 ∨ b = 103 ∨ b = 104 := by omega
  rcases this with rfl | rfl | rfl | rfl | rfl | rfl | rfl | rfl <;> rfl
/-- The letters as numbers. -/
def letL : Nat → Pat → List Int
  | 0, _ => []
  | n + 1, p => if p.letter = 0 then p.kids.flatMap (letL n) else [p.letter]
theorem bytesL_fold (f : Pat → ByteArray) (g : Pat → List Int) : ∀ (l : List Pat) (acc : ByteArray), (∀ k ∈ l, bytesL (f k) = g k) → bytesL (l.foldl (fun a k => a ++ f k) acc) = bytesL acc ++ l.flatMap g
  | [], acc, _ => by simp
  | k :: l, acc, h => by
    rw [List.foldl_cons, bytesL_fold f g l _ (fun x hx => h x (List.mem_cons_of_mem _ hx)), bytesL_append, h k List.mem_cons_self, List.flatMap_cons, List.append_assoc]
theorem letters_eq : ∀ (n : Nat) (p : Pat), goodP n p → bytesL (lettersN n p) = letL n p
  | 0, p, h => h.elim
  | n + 1, p, h => by
    rw [lettersN, letL]
    split
    · rw [bytesL_fold _ (letL n) _ _ (fun k hk => letters_eq n k (h.2 k hk))]; rfl
    · rename_i hz
      rcases h.1 with h1 | h1
      · exact absurd h1 hz
      · exact bytesL_letter ⟨h1.1, h1.2.1⟩
theorem letL_range : ∀ (n : Nat) (p : Pat), goodP n p → ∀ c ∈ letL n p, 97 ≤ c ∧ c ≤ 104
  | 0, p, h, _, _ => h.elim
  | n + 1, p, h, c, hc => by
    rw [letL] at hc
    split at hc
    · obtain ⟨k, hk, hc⟩ := List.mem_flatMap.1 hc
      exact letL_range n k (h.2 k hk) c hc
    · rename_i hz
      rw [List.mem_singleton] at hc
      subst hc
      rcases h.1 with h1 | h1
      · exact absurd h1 hz
      · exact ⟨h1.1, h1.2.1⟩
/-! Texts from a place on -/
/-- A text from a place on. -/
def from_ (p : ByteArray) (at_ : Nat) : ByteArray := p.extract at_ p.size
theorem from_size (p : ByteArray) (a : Nat) : (from_ p a).size = p.size - a := by rw [from_, ByteArray.size_extract]; omega
theorem from_zero (p : ByteArray) : from_ p 0 = p := by rw [from_, ByteArray.extract_zero_size]
theorem from_from (p : ByteArray) (a b : Nat) : (from_ p a).extract b (from_ p a).size = from_ p (a + b) := by
  rw [from_size, from_, from_, ByteArray.extract_extract]
  congr 1
  · omega
theorem bt_from (p : ByteArray) (a : Nat) (h : a < p.size) : bt (from_ p a) 0 = bt p a := by
  have h1 : (0 : Int).toNat < (from_ p a).size := by rw [from_size]; show 0 < _; omega
  have h2 : (a : Int).toNat < p.size := by rw [Int.toNat_natCast]; exact h
  rw [← bt_at _ _ h1, ← bt_at _ _ h2]
  congr 2
  have h3 : 0 < (p.extract a p.size).size := by rw [← from_]; exact h1
  have e : (p.extract a p.size)[0]'h3 = p[a]'h := by rw [ByteArray.getElem_extract]; rfl
  exact e
/-! Kids, with nothing read ahead -/
theorem kidsP_acc (f : ByteArray → Option (Pat × ByteArray)) : ∀ (m : Nat) (s : ByteArray) (acc : List Pat), kidsP f m s acc = (kidsP f m s []).map fun x => (acc ++ x.1, x.2)
  | 0, s, acc => rfl
  | m + 1, s, acc => by
    rw [kidsP, kidsP]
    split
    · simp
    · cases f s with
      | none => rfl
      | some y =>
        rw [Option.bind_some, Option.bind_some, kidsP_acc f m y.2 (acc ++ [y.1]), kidsP_acc f m y.2 ([] ++ [y.1]), Option.map_map]
        congr 1
        funext x
        simp
theorem kidsP_cons {f : ByteArray → Option (Pat × ByteArray)} {m : Nat} {s : ByteArray} (h : ¬ (s.size = 0 ∨ bt s 0 = 41)) : kidsP f (m + 1) s [] = (f s).bind fun y => (kidsP f m y.2 []).map fun x => (y.1 :: x.1, x.2) := by
  rw [kidsP_go h]
  congr 1
  funext y
  rw [kidsP_acc]
  rfl
/-- What is left is the text from some place on. -/
theorem parse_from (p : ByteArray) : ∀ (n : Nat) (a : Nat) (x : Pat × ByteArray), a ≤ p.size → parse n (from_ p a) = some x → ∃ b, x.2 = from_ p b ∧ a < b ∧ b ≤ p.size
  | 0, a, x, _, h => by simp [parse] at h
  | n + 1, a, x, ha, h => by
    have kids : ∀ (m a : Nat) (x : List Pat × ByteArray), a ≤ p.size → kidsP (parse n) m (from_ p a) [] = some x → ∃ b, x.2 = from_ p b ∧ a ≤ b ∧ b ≤ p.size := by
      intro m
      induction m with
      | zero => intro a x _ h; simp [kidsP] at h
      | succ m ih =>
        intro a x ha h
        by_cases hst : (from_ p a).size = 0 ∨ bt (from_ p a) 0 = 41
        · rw [kidsP_stop hst] at h
          obtain rfl := Option.some.inj h
          exact ⟨a, rfl, Nat.le_refl _, ha⟩
        · rw [kidsP_cons hst] at h
          obtain ⟨y, h1, h2⟩ := Option.bind_eq_some_iff.1 h
          obtain ⟨z, h3, rfl⟩ := Option.map_eq_some_iff.1 h2
          obtain ⟨b, e, hb1, hb2⟩ := parse_from p n a y ha h1
          rw [e] at h3
          obtain ⟨c, e2, hc1, hc2⟩ := ih b z hb2 h3
          exact ⟨c, e2, by omega, hc2⟩
    rw [parse] at h
    split at h
    · cases h
    · rename_i h0
      rw [from_size] at h0
      split at h
      · obtain rfl := Option.some.inj h
        exact ⟨a + 1, from_from p a 1, by omega, by omega⟩
      · split at h
        · cases h
        · obtain ⟨y, h1, h2⟩ := Option.bind_eq_some_iff.1 h
          rw [from_from] at h1
          obtain ⟨b, e, hb1, hb2⟩ := kids _ _ _ (by omega) h1
          split at h2
          · cases h2
          · rename_i hs
            obtain rfl := Option.some.inj h2
            rw [e, from_size] at hs
            exact ⟨b + 1, by show y.2.extract 1 y.2.size = _; rw [e, from_from], by omega, by omega⟩
end Go.Proofs.Ytmambanmffdibaa.PT
