/- The row of the law FnExactFirstAvoiding, out of its pure statement. -/
import Derived.Test.YtjdhjapbggnhkaaQFAEx0
import Derived.Test.YtjdhjapbggnhkaaQFAEx1
import Derived.Test.YtjdhjapbggnhkaaQFAEx5
import Derived.Test.YtjdhjapbggnhkaaQFAEx6
import Derived.Test.YtjdhjapbggnhkaaQFAL
import Derived.Test.YtjdhjapbggnhkaaQFAL1
import Derived.Test.YtjdhjapbggnhkaaQFAL2
import Derived.Test.YtjdhjapbggnhkaaQFAW
import Derived.Deep.Slices
import Derived.Lib.SmallJoins
import Derived.OpenShut
import Derived.WalkKit
namespace Go.Proofs.Ytjdhjapbggnhkaa.Tree
set_option linter.unusedVariables false
set_option linter.unusedSectionVars false
open Go.Proofs.Ytjdhjapbggnhkaa.Base
def sub (d : List Int) (v : Nat) : List Int := (d.take (endM d v)).drop v
section
variable {d : List Int} (h : IsT d) {v : Nat} (hv : v < d.length)
include h hv
theorem sub_length : (sub d v).length = endM d v - v := by
  have := end_le h hv
  rw [sub, List.length_drop, List.length_take]; omega
theorem sub_get {i : Nat} (hi : i < endM d v - v) : (sub d v).getD i 0 = d.getD (v + i) 0 := by
  rw [sub, List.getD_eq_getElem?_getD, List.getElem?_drop, List.getElem?_take_of_lt (by omega), ← List.getD_eq_getElem?_getD]
theorem sub_nd : ∀ i, i ≤ endM d v - v → nd (sub d v) i = nd d (v + i) - nd d v + 1
  | 0, _ => by simp [nd]
  | i + 1, hi => by
    rw [nd, sub_nd i (by omega), sub_get h hv (by omega), show v + (i + 1) = (v + i) + 1 by omega, nd]
    omega
theorem sub_tree : IsT (sub d v) := by
  have hl := sub_length h hv
  have hg := end_gt h hv
  refine ⟨fun i hi => ?_, fun i hi => ?_, ?_⟩
  · rw [sub_nd h hv i (by omega)]
    rcases Nat.eq_zero_or_pos i with h0 | h0
    · subst h0
      rw [Nat.add_zero]; omega
    · have := end_in h hv (j := v + i) (by omega) (by omega)
      omega
  · rw [sub_get h hv (by omega)]
    have := end_le h hv
    exact h.deg _ (by omega)
  · rw [hl, sub_nd h hv _ (Nat.le_refl _), show v + (endM d v - v) = endM d v by omega, end_nd h hv]
    omega
theorem sub_end {i : Nat} (hi : i < endM d v - v) : endM (sub d v) i = endM d (v + i) - v := by
  have hl := sub_length h hv
  have hle := end_le h hv
  have hvi : v + i < d.length := by omega
  have hm := end_mono h hv (u := v + i) (by omega) (by omega)
  have hg := end_gt h hvi
  refine (end_unique (sub_tree h hv) (by omega) (by omega) ?_ (fun j h1 h2 => ?_)).symm
  · rw [sub_nd h hv _ (by omega), sub_nd h hv _ (by omega), show v + (endM d (v + i) - v) = endM d (v + i) by omega, end_nd h hvi]
    omega
  · rw [sub_nd h hv _ (by omega), sub_nd h hv _ (by omega)]
    have := end_in h hvi (j := v + j) (by omega) (by omega)
    omega
theorem sub_kidsFrom {m c e : Nat} (r : Run d m (v + c) e) (he : e ≤ endM d v) : kidsFrom (sub d v) m c = (kidsFrom d m (v + c)).map fun x => x - v := by
  induction m generalizing c with
  | zero => rfl
  | succ m ih =>
    cases r with
    | cons hc r =>
      have h1 := end_gt h hc
      have h2 := run_bd h r
      rw [kidsFrom, kidsFrom, List.map_cons, show v + c - v = c by omega]
      congr 1
      rw [sub_end h hv (by omega)]
      have e2 : v + (endM d (v + c) - v) = endM d (v + c) := by omega
      have := ih (c := endM d (v + c) - v) (by rw [e2]; exact r)
      rw [this, e2]
theorem sub_kids {i : Nat} (hi : i < endM d v - v) : kidsM (sub d v) i = (kidsM d (v + i)).map fun x => x - v := by
  have hle := end_le h hv
  have hvi : v + i < d.length := by omega
  rw [kidsM, kidsM, sub_get h hv hi]
  have := sub_kidsFrom h hv (m := (d.getD (v + i) 0).toNat) (c := i + 1) (e := endM d (v + i)) (by have := run_kids h hvi; rwa [show v + i + 1 = v + (i + 1) by omega] at this) (end_mono h hv (by omega) (by omega))
  rw [this, show v + (i + 1) = v + i + 1 by omega]
theorem sub_sub {i : Nat} (hi : i < endM d v - v) : sub (sub d v) i = sub d (v + i) := by
  have hle := end_le h hv
  have hvi : v + i < d.length := by omega
  have hm := end_mono h hv (u := v + i) (by omega) (by omega)
  have hg := end_gt h hvi
  rw [sub, sub_end h hv hi]
  show ((((d.take (endM d v)).drop v).take (endM d (v + i) - v)).drop i) = (d.take (endM d (v + i))).drop (v + i)
  rw [List.take_drop, List.take_take, List.drop_drop, show min (v + (endM d (v + i) - v)) (endM d v) = endM d (v + i) by omega]
end
theorem run_sum {d : List Int} (h : IsT d) {m c e : Nat} (r : Run d m c e) : ((kidsFrom d m c).map fun x => 2 * (endM d x - x)).sum = 2 * (e - c) := by
  induction r with
  | nil c => simp [kidsFrom]
  | cons hc r ih =>
    have h1 := end_gt h hc
    have h2 := run_bd h r
    rw [kidsFrom, List.map_cons, List.sum_cons, ih]
    omega
end Go.Proofs.Ytjdhjapbggnhkaa.Tree

namespace Go.Proofs.Ytjdhjapbggnhkaa.PT
set_option linter.unusedVariables false
set_option linter.unusedSectionVars false
open Go.RowKit Go.Proofs.YtjdhjapbggnhkaaW.PrintWords Go.Proofs.Ytjdhjapbggnhkaa.Base Go.Proofs.Ytjdhjapbggnhkaa.P
def mark1 (u : List Bool) (c : Int) : Option (List Bool) := if u.getD (c - 97).toNat false = true then none else some (u.set (c - 97).toNat true)
def marks (u : List Bool) : List Int → Option (List Bool)
  | [] => some u
  | c :: l => (mark1 u c).bind fun v => marks v l
theorem marks_append : ∀ (a b : List Int) (u : List Bool), marks u (a ++ b) = (marks u a).bind fun v => marks v b
  | [], b, u => rfl
  | c :: a, b, u => by
    rw [List.cons_append, marks, marks, Option.bind_assoc]
    congr 1
    funext v
    exact marks_append a b v
theorem marks_length : ∀ (l : List Int) (u v : List Bool), marks u l = some v → v.length = u.length
  | [], u, v, h => by obtain rfl := Option.some.inj h; rfl
  | c :: l, u, v, h => by
    obtain ⟨u1, h1, h2⟩ := Option.bind_eq_some_iff.1 h
    rw [marks_length l _ _ h2]
    rw [mark1] at h1
    split at h1
    · cases h1
    · obtain rfl := Option.some.inj h1; exact List.length_set
theorem marks_some : ∀ (l : List Int) (u : List Bool), u.length = 8 → (∀ c ∈ l, 97 ≤ c ∧ c ≤ 104) → ((marks u l).isSome = true ↔ l.Nodup ∧ ∀ c ∈ l, u.getD (c - 97).toNat false = false)
  | [], u, _, _ => by simp [marks]
  | c :: l, u, hu, hl => by
    have hc := hl c List.mem_cons_self
    rw [marks, mark1]
    by_cases h : u.getD (c - 97).toNat false = true
    · rw [if_pos h, Option.bind_none]
      constructor
      · intro h1; cases h1
      · rintro ⟨_, h2⟩
        rw [h2 c List.mem_cons_self] at h; cases h
    · rw [if_neg h, Option.bind_some, marks_some l _ (by rw [List.length_set]; exact hu) (fun x hx => hl x (List.mem_cons_of_mem _ hx))]
      have hset : ∀ x ∈ l, (u.set (c - 97).toNat true).getD (x - 97).toNat false = if x = c then true else u.getD (x - 97).toNat false := by
        intro x hx
        have hx2 := hl x (List.mem_cons_of_mem _ hx)
        rw [List.getD_eq_getElem?_getD, List.getElem?_set]
        by_cases e : x = c
        · subst e
          rw [if_pos rfl, if_pos (by omega), if_pos rfl]; rfl
        · rw [if_neg (by omega), if_neg e, List.getD_eq_getElem?_getD]
      constructor
      · rintro ⟨h1, h2⟩
        have hn : c ∉ l := fun hm => by
          have := h2 c hm
          rw [hset c hm, if_pos rfl] at this; cases this
        refine ⟨List.nodup_cons.2 ⟨hn, h1⟩, fun x hx => ?_⟩
        rcases List.mem_cons.1 hx with rfl | hx
        · simpa using h
        · have := h2 x hx
          rwa [hset x hx, if_neg (fun (e : x = c) => hn (by rw [← e]; exact hx))] at this
      · rintro ⟨h1, h2⟩
        obtain ⟨hn, h1⟩ := List.nodup_cons.1 h1
        refine ⟨h1, fun x hx => ?_⟩
        rw [hset x hx, if_neg (fun (e : x = c) => hn (by rw [← e]; exact hx))]
        exact h2 x (List.mem_cons_of_mem _ hx)
theorem bytesL_append (a b : ByteArray) : bytesL (a ++ b) = bytesL a ++ bytesL b := by
  simp [bytesL, ByteArray.data_append]
theorem bytesL_letter {b : Int} (h : 97 ≤ b ∧ b ≤ 104) : bytesL ⟨#[UInt8.ofNat b.toNat]⟩ = [b] := by
  have : b = 97 ∨ b = 98 ∨ b = 99 ∨ b = 100 ∨ b = 101 ∨ b = 102 ∨ b = 103 ∨ b = 104 := by omega
  rcases this with rfl | rfl | rfl | rfl | rfl | rfl | rfl | rfl <;> rfl
def letL : Nat → Pat → List Int
  | 0, _ => []
  | n + 1, p => if p.letter = 0 then p.kids.flatMap (letL n) else [p.letter]
theorem bytesL_fold (f : Pat → ByteArray) (g : Pat → List Int) : ∀ (l : List Pat) (acc : ByteArray), (∀ k ∈ l, bytesL (f k) = g k) → bytesL (l.foldl (fun a k => a ++ f k) acc) = bytesL acc ++ l.flatMap g
  | [], acc, _ => by simp
  | k :: l, acc, h => by
    rw [List.foldl_cons, bytesL_fold f g l _ (fun x hx => h x (List.mem_cons_of_mem _ hx)), bytesL_append, h k List.mem_cons_self, List.flatMap_cons, List.append_assoc]
theorem letters_eq : ∀ (n : Nat) (p : Pat), goodP n p → bytesL (lettersN n p) = letL n p
  | 0, p, h => h.elim
  | n + 1, p, h => by
    rw [lettersN, letL]
    split
    · rw [bytesL_fold _ (letL n) _ _ (fun k hk => letters_eq n k (h.2 k hk))]; rfl
    · rename_i hz
      rcases h.1 with h1 | h1
      · exact absurd h1 hz
      · exact bytesL_letter ⟨h1.1, h1.2.1⟩
theorem letL_range : ∀ (n : Nat) (p : Pat), goodP n p → ∀ c ∈ letL n p, 97 ≤ c ∧ c ≤ 104
  | 0, p, h, _, _ => h.elim
  | n + 1, p, h, c, hc => by
    rw [letL] at hc
    split at hc
    · obtain ⟨k, hk, hc⟩ := List.mem_flatMap.1 hc
      exact letL_range n k (h.2 k hk) c hc
    · rename_i hz
      rw [List.mem_singleton] at hc
      subst hc
      rcases h.1 with h1 | h1
      · exact absurd h1 hz
      · exact ⟨h1.1, h1.2.1⟩
def from_ (p : ByteArray) (at_ : Nat) : ByteArray := p.extract at_ p.size
theorem from_size (p : ByteArray) (a : Nat) : (from_ p a).size = p.size - a := by rw [from_, ByteArray.size_extract]; omega
theorem from_zero (p : ByteArray) : from_ p 0 = p := by rw [from_, ByteArray.extract_zero_size]
theorem from_from (p : ByteArray) (a b : Nat) : (from_ p a).extract b (from_ p a).size = from_ p (a + b) := by
  rw [from_size, from_, from_, ByteArray.extract_extract]
  congr 1
  · omega
theorem bt_from (p : ByteArray) (a : Nat) (h : a < p.size) : bt (from_ p a) 0 = bt p a := by
  have h1 : (0 : Int).toNat < (from_ p a).size := by rw [from_size]; show 0 < _; omega
  have h2 : (a : Int).toNat < p.size := by rw [Int.toNat_natCast]; exact h
  rw [← bt_at _ _ h1, ← bt_at _ _ h2]
  congr 2
  have h3 : 0 < (p.extract a p.size).size := by rw [← from_]; exact h1
  have e : (p.extract a p.size)[0]'h3 = p[a]'h := by rw [ByteArray.getElem_extract]; rfl
  exact e
theorem kidsP_acc (f : ByteArray → Option (Pat × ByteArray)) : ∀ (m : Nat) (s : ByteArray) (acc : List Pat), kidsP f m s acc = (kidsP f m s []).map fun x => (acc ++ x.1, x.2)
  | 0, s, acc => rfl
  | m + 1, s, acc => by
    rw [kidsP, kidsP]
    split
    · simp
    · cases f s with
      | none => rfl
      | some y =>
        rw [Option.bind_some, Option.bind_some, kidsP_acc f m y.2 (acc ++ [y.1]), kidsP_acc f m y.2 ([] ++ [y.1]), Option.map_map]
        congr 1
        funext x
        simp
theorem kidsP_cons {f : ByteArray → Option (Pat × ByteArray)} {m : Nat} {s : ByteArray} (h : ¬ (s.size = 0 ∨ bt s 0 = 41)) : kidsP f (m + 1) s [] = (f s).bind fun y => (kidsP f m y.2 []).map fun x => (y.1 :: x.1, x.2) := by
  rw [kidsP_go h]
  congr 1
  funext y
  rw [kidsP_acc]
  rfl
theorem parse_from (p : ByteArray) : ∀ (n : Nat) (a : Nat) (x : Pat × ByteArray), a ≤ p.size → parse n (from_ p a) = some x → ∃ b, x.2 = from_ p b ∧ a < b ∧ b ≤ p.size
  | 0, a, x, _, h => by simp [parse] at h
  | n + 1, a, x, ha, h => by
    have kids : ∀ (m a : Nat) (x : List Pat × ByteArray), a ≤ p.size → kidsP (parse n) m (from_ p a) [] = some x → ∃ b, x.2 = from_ p b ∧ a ≤ b ∧ b ≤ p.size := by
      intro m
      induction m with
      | zero => intro a x _ h; simp [kidsP] at h
      | succ m ih =>
        intro a x ha h
        by_cases hst : (from_ p a).size = 0 ∨ bt (from_ p a) 0 = 41
        · rw [kidsP_stop hst] at h
          obtain rfl := Option.some.inj h
          exact ⟨a, rfl, Nat.le_refl _, ha⟩
        · rw [kidsP_cons hst] at h
          obtain ⟨y, h1, h2⟩ := Option.bind_eq_some_iff.1 h
          obtain ⟨z, h3, rfl⟩ := Option.map_eq_some_iff.1 h2
          obtain ⟨b, e, hb1, hb2⟩ := parse_from p n a y ha h1
          rw [e] at h3
          obtain ⟨c, e2, hc1, hc2⟩ := ih b z hb2 h3
          exact ⟨c, e2, by omega, hc2⟩
    rw [parse] at h
    split at h
    · cases h
    · rename_i h0
      rw [from_size] at h0
      split at h
      · obtain rfl := Option.some.inj h
        exact ⟨a + 1, from_from p a 1, by omega, by omega⟩
      · split at h
        · cases h
        · obtain ⟨y, h1, h2⟩ := Option.bind_eq_some_iff.1 h
          rw [from_from] at h1
          obtain ⟨b, e, hb1, hb2⟩ := kids _ _ _ (by omega) h1
          split at h2
          · cases h2
          · rename_i hs
            obtain rfl := Option.some.inj h2
            rw [e, from_size] at hs
            exact ⟨b + 1, by show y.2.extract 1 y.2.size = _; rw [e, from_from], by omega, by omega⟩
end Go.Proofs.Ytjdhjapbggnhkaa.PT
namespace Go.Proofs.Ytjdhjapbggnhkaa.PT
set_option linter.unusedVariables false
set_option linter.unusedSectionVars false
open Go.RowKit Go.Proofs.YtjdhjapbggnhkaaW.PrintWords Go.Proofs.Ytjdhjapbggnhkaa.Base Go.Proofs.Ytjdhjapbggnhkaa.P Go.Proofs.Ytjdhjapbggnhkaa.E
def endO (p : ByteArray) (n a : Nat) (u : List Bool) : Option (Int × List Bool) := (parse n (from_ p a)).bind fun x => (marks u (letL n x.1)).map fun v => ((p.size : Int) - x.2.size, v)
def loopO (p : ByteArray) (n m a : Nat) (u : List Bool) : Option (Int × List Bool) := (kidsP (parse n) m (from_ p a) []).bind fun x => (marks u (x.1.flatMap (letL n))).bind fun v => if x.2.size = 0 then none else some ((p.size : Int) - x.2.size + 1, v)
theorem endO_end {p : ByteArray} {n a : Nat} {u : List Bool} (h : p.size ≤ a) : endO p (n + 1) a u = none := by
  rw [endO, parse, if_pos (by rw [from_size]; omega)]; rfl
theorem endO_letter {p : ByteArray} {n a : Nat} {u : List Bool} (h : a < p.size) (hb : 97 ≤ bt p a ∧ bt p a ≤ 104) : endO p (n + 1) a u = (mark1 u (bt p a)).map fun v => ((a : Int) + 1, v) := by
  rw [endO, parse, if_neg (by rw [from_size]; omega), bt_from p a h, if_pos hb, Option.bind_some]
  have e : letL (n + 1) (Pat.mk (bt p a) []) = [bt p a] := by rw [letL, if_neg (by show bt p a ≠ 0; omega)]; rfl
  rw [e, marks]
  have e2 : ((from_ p a).extract 1 (from_ p a).size).size = p.size - (a + 1) := by rw [from_from, from_size]
  simp only [e2]
  cases mark1 u (bt p a) with
  | none => rfl
  | some v =>
    show some _ = some _
    rw [show (p.size : Int) - ((p.size - (a + 1) : Nat) : Int) = (a : Int) + 1 by omega]
theorem endO_bad {p : ByteArray} {n a : Nat} {u : List Bool} (h : a < p.size) (hb : ¬ (97 ≤ bt p a ∧ bt p a ≤ 104)) (h40 : bt p a ≠ 40) : endO p (n + 1) a u = none := by
  rw [endO, parse, if_neg (by rw [from_size]; omega), bt_from p a h, if_neg hb, if_pos h40]; rfl
theorem endO_node {p : ByteArray} {n a : Nat} {u : List Bool} (h : a < p.size) (h40 : bt p a = 40) : endO p (n + 1) a u = loopO p n (n + 1) (a + 1) u := by
  rw [endO, parse, if_neg (by rw [from_size]; omega), bt_from p a h, if_neg (by omega), if_neg (by omega), from_from, loopO]
  cases hk : kidsP (parse n) (n + 1) (from_ p (a + 1)) [] with
  | none => rfl
  | some x =>
    rw [Option.bind_some, Option.bind_some]
    by_cases h0 : x.2.size = 0
    · rw [if_pos h0, Option.bind_none]
      cases marks u (x.1.flatMap (letL n)) with
      | none => rfl
      | some v => rw [Option.bind_some, if_pos h0]
    · rw [if_neg h0, Option.bind_some]
      have e : letL (n + 1) (Pat.mk 0 x.1) = x.1.flatMap (letL n) := by rw [letL, if_pos (show (Pat.mk 0 x.1).letter = 0 from rfl)]; rfl
      have e2 : (x.2.extract 1 x.2.size).size = x.2.size - 1 := by rw [ByteArray.size_extract]; omega
      rw [e]
      simp only [e2]
      cases marks u (x.1.flatMap (letL n)) with
      | none => rfl
      | some v =>
        rw [Option.bind_some, if_neg h0, Option.map_some]
        rw [show (p.size : Int) - ((x.2.size - 1 : Nat) : Int) = (p.size : Int) - x.2.size + 1 by omega]
theorem loopO_end {p : ByteArray} {n m a : Nat} {u : List Bool} (h : p.size ≤ a) : loopO p n (m + 1) a u = none := by
  rw [loopO, kidsP_stop (.inl (by rw [from_size]; omega)), Option.bind_some]
  show (marks u []).bind _ = _
  rw [marks, Option.bind_some, if_pos (by rw [from_size]; omega)]
theorem loopO_close {p : ByteArray} {n m a : Nat} {u : List Bool} (h : a < p.size) (hb : bt p a = 41) : loopO p n (m + 1) a u = some ((a : Int) + 1, u) := by
  rw [loopO, kidsP_stop (.inr (by rw [bt_from p a h]; exact hb)), Option.bind_some]
  show (marks u []).bind _ = _
  rw [marks, Option.bind_some, if_neg (by rw [from_size]; omega)]
  show some ((p.size : Int) - (from_ p a).size + 1, u) = _
  rw [from_size, show (p.size : Int) - ((p.size - a : Nat) : Int) + 1 = (a : Int) + 1 by omega]
theorem loopO_kid {p : ByteArray} {n m a : Nat} {u : List Bool} (h : a < p.size) (hb : bt p a ≠ 41) : loopO p n (m + 1) a u = (endO p n a u).bind fun y => loopO p n m y.1.toNat y.2 := by
  rw [loopO, kidsP_cons (by rw [from_size, bt_from p a h]; omega), endO]
  cases hx : parse n (from_ p a) with
  | none => rfl
  | some x =>
    obtain ⟨b, e, hb1, hb2⟩ := parse_from p n a x (by omega) hx
    rw [Option.bind_some, Option.bind_some]
    cases hm : marks u (letL n x.1) with
    | none =>
      rw [Option.map_none, Option.bind_none]
      cases kidsP (parse n) m x.2 [] with
      | none => rfl
      | some z =>
        rw [Option.map_some, Option.bind_some]
        show (marks u ((x.1 :: z.1).flatMap (letL n))).bind _ = _
        rw [List.flatMap_cons, marks_append, hm]; rfl
    | some v =>
      rw [Option.map_some, Option.bind_some]
      show _ = loopO p n m ((p.size : Int) - x.2.size).toNat v
      rw [e, from_size, show ((p.size : Int) - ((p.size - b : Nat) : Int)).toNat = b by omega, loopO]
      cases kidsP (parse n) m (from_ p b) [] with
      | none => rfl
      | some z =>
        rw [Option.map_some, Option.bind_some, Option.bind_some]
        show (marks u ((x.1 :: z.1).flatMap (letL n))).bind _ = _
        rw [List.flatMap_cons, marks_append, hm, Option.bind_some]
def Out (o : Option (Int × List Bool)) (r : Int × List Bool) : Prop := ∀ y, (o = some y → r = y) ∧ (o = none → r.1 = -1)
theorem Out.none_ {u : List Bool} : Out none (-1, u) := fun y => ⟨fun h => (by cases h), fun _ => rfl⟩
theorem Out.some_ {y : Int × List Bool} : Out (some y) y := fun z => ⟨fun h => (by obtain rfl := Option.some.inj h; rfl), fun h => (by cases h)⟩
theorem Out.get {y r : Int × List Bool} {o : Option (Int × List Bool)} (h : Out o r) (e : o = some y) : r = y := (h y).1 e
theorem Out.neg {r : Int × List Bool} {o : Option (Int × List Bool)} (h : Out o r) (e : o = none) : r.1 = -1 := (h r).2 e
theorem endO_some {p : ByteArray} {n a : Nat} {u : List Bool} {y : Int × List Bool} (ha : a ≤ p.size) (hu : u.length = 8) (h : endO p n a u = some y) : (a : Int) < y.1 ∧ y.1 ≤ p.size ∧ y.2.length = 8 := by
  obtain ⟨x, h1, h2⟩ := Option.bind_eq_some_iff.1 h
  obtain ⟨v, h3, rfl⟩ := Option.map_eq_some_iff.1 h2
  obtain ⟨b, e, hb1, hb2⟩ := parse_from p n a x ha h1
  refine ⟨?_, ?_, by rw [marks_length _ _ _ h3]; exact hu⟩
  · show (a : Int) < (p.size : Int) - x.2.size
    rw [e, from_size]; omega
  · show (p.size : Int) - x.2.size ≤ _
    omega
theorem end_ev (p : ByteArray) (hp : p.size ≤ 1048576) : ∀ (n a : Nat) (u : List Bool), u.length = 8 → a ≤ p.size → p.size - a < n → ∃ r, Ev (fun k => spec_l04End.f k p (a : Int) u) r ∧ Out (endO p n a u) r
  | 0, a, u, _, _, h => by omega
  | n + 1, a, u, hu, ha, hn => by
    have loop : ∀ (m a : Nat) (u : List Bool), u.length = 8 → a ≤ p.size → p.size - a < m → p.size - a < n → ∃ r, Ev (fun k => spec_l04End.l0 k p (a : Int) u) r ∧ Out (loopO p n m a u) r := by
      intro m
      induction m with
      | zero => intro a u _ _ h; omega
      | succ m ih =>
        intro a u hu ha hm hn
        by_cases h0 : p.size ≤ a
        · refine ⟨(-1, u), ?_, by rw [loopO_end h0]; exact Out.none_⟩
          refine Ev.step (fun k => by first | rw [spec_l04End.f] | rw [spec_l04End.l0] | rw [spec_l04End.j0] | rw [spec_l04End.j2]) (ev_neg (by omega) ?_)
          refine Ev.step (fun k => by first | rw [spec_l04End.f] | rw [spec_l04End.l0] | rw [spec_l04End.j0] | rw [spec_l04End.j2]) (ev_neg (by decide) (ev_pos (by omega) (ev_now rfl)))
        · by_cases hb : bt p a = 41
          · refine ⟨((a : Int) + 1, u), ?_, by rw [loopO_close (by omega) hb]; exact Out.some_⟩
            refine Ev.step (fun k => by first | rw [spec_l04End.f] | rw [spec_l04End.l0] | rw [spec_l04End.j0] | rw [spec_l04End.j2]) (ev_pos (by omega) (ev_pos (by omega) ?_))
            have hq : (bt p a != 41) = false := bne_eq_false_iff_eq.2 hb
            rw [hq]
            refine Ev.step (fun k => by first | rw [spec_l04End.f] | rw [spec_l04End.l0] | rw [spec_l04End.j0] | rw [spec_l04End.j2]) (ev_neg (by decide) (ev_neg (by omega) (ev_now ?_)))
            rw [w64 (by omega) (by omega)]
          · obtain ⟨r, h1, h2⟩ := end_ev p hp n a u hu ha hn
            have hq : (bt p a != 41) = true := bne_iff_ne.2 hb
            cases hx : endO p n a u with
            | none =>
              have hr := h2.neg hx
              refine ⟨(-1, r.2), ?_, by rw [loopO_kid (by omega) hb, hx]; exact Out.none_⟩
              refine Ev.step (fun k => by first | rw [spec_l04End.f] | rw [spec_l04End.l0] | rw [spec_l04End.j0] | rw [spec_l04End.j2]) (ev_pos (by omega) (ev_pos (by omega) ?_))
              rw [hq]
              exact Ev.step (fun k => by first | rw [spec_l04End.f] | rw [spec_l04End.l0] | rw [spec_l04End.j0] | rw [spec_l04End.j2]) (ev_pos rfl (Ev.bind h1 (ev_pos (show r.1 < 0 by omega) (ev_now rfl))))
            | some y =>
              obtain rfl := h2.get hx
              obtain ⟨hy1, hy2, hy3⟩ := endO_some ha hu hx
              obtain ⟨r2, h3, h4⟩ := ih r.1.toNat r.2 hy3 (by omega) (by omega) (by omega)
              refine ⟨r2, ?_, by rw [loopO_kid (by omega) hb, hx]; exact h4⟩
              refine Ev.step (fun k => by first | rw [spec_l04End.f] | rw [spec_l04End.l0] | rw [spec_l04End.j0] | rw [spec_l04End.j2]) (ev_pos (by omega) (ev_pos (by omega) ?_))
              rw [hq]
              refine Ev.step (fun k => by first | rw [spec_l04End.f] | rw [spec_l04End.l0] | rw [spec_l04End.j0] | rw [spec_l04End.j2]) (ev_pos rfl (Ev.bind h1 (ev_neg (show ¬ r.1 < 0 by omega) ?_)))
              rw [show ((r.1.toNat : Nat) : Int) = r.1 by omega] at h3
              exact h3
    by_cases h0 : p.size ≤ a
    · exact ⟨(-1, u), Ev.step (fun k => by first | rw [spec_l04End.f] | rw [spec_l04End.l0] | rw [spec_l04End.j0] | rw [spec_l04End.j2]) (ev_pos (by omega) (ev_now rfl)), by rw [endO_end h0]; exact Out.none_⟩
    · by_cases hb : 97 ≤ bt p a ∧ bt p a ≤ 104
      · have hd : decide (bt p a ≤ 104) = true := decide_eq_true hb.2
        have hi : (bt p a - 97) % 256 = bt p a - 97 := by omega
        by_cases hm : u.getD (bt p a - 97).toNat false = true
        · refine ⟨(-1, u), ?_, by rw [endO_letter (by omega) hb, mark1, if_pos hm]; exact Out.none_⟩
          refine Ev.step (fun k => by first | rw [spec_l04End.f] | rw [spec_l04End.l0] | rw [spec_l04End.j0] | rw [spec_l04End.j2]) (ev_neg (by omega) (ev_pos (by omega) (ev_pos (by omega) (ev_pos (by omega) ?_))))
          rw [hd]
          refine Ev.step (fun k => by first | rw [spec_l04End.f] | rw [spec_l04End.l0] | rw [spec_l04End.j0] | rw [spec_l04End.j2]) (ev_pos rfl ?_)
          rw [hi]
          exact ev_pos (by omega) (ev_pos (by omega) (ev_pos hm (ev_now rfl)))
        · refine ⟨((a : Int) + 1, u.set (bt p a - 97).toNat true), ?_, by rw [endO_letter (by omega) hb, mark1, if_neg hm]; exact Out.some_⟩
          refine Ev.step (fun k => by first | rw [spec_l04End.f] | rw [spec_l04End.l0] | rw [spec_l04End.j0] | rw [spec_l04End.j2]) (ev_neg (by omega) (ev_pos (by omega) (ev_pos (by omega) (ev_pos (by omega) ?_))))
          rw [hd]
          refine Ev.step (fun k => by first | rw [spec_l04End.f] | rw [spec_l04End.l0] | rw [spec_l04End.j0] | rw [spec_l04End.j2]) (ev_pos rfl ?_)
          rw [hi]
          refine ev_pos (by omega) (ev_pos (by omega) (ev_neg hm (ev_now ?_)))
          rw [w64 (by omega) (by omega)]
      · have go : ∃ r, Ev (fun k => spec_l04End.j0 k p (a : Int) u (bt p a) false) r ∧ Out (endO p (n + 1) a u) r := by
          by_cases h40 : bt p a = 40
          · obtain ⟨r, h1, h2⟩ := loop (n + 1) (a + 1) u hu (by omega) (by omega) (by omega)
            refine ⟨r, ?_, by rw [endO_node (by omega) h40]; exact h2⟩
            refine Ev.step (fun k => by first | rw [spec_l04End.f] | rw [spec_l04End.l0] | rw [spec_l04End.j0] | rw [spec_l04End.j2]) (ev_neg (by decide) (ev_pos (by omega) (ev_pos (by omega) (ev_pos h40 ?_))))
            rw [w64 (by omega) (by omega)]
            exact h1
          · exact ⟨(-1, u), Ev.step (fun k => by first | rw [spec_l04End.f] | rw [spec_l04End.l0] | rw [spec_l04End.j0] | rw [spec_l04End.j2]) (ev_neg (by decide) (ev_pos (by omega) (ev_pos (by omega) (ev_neg h40 (ev_now rfl))))), by rw [endO_bad (by omega) hb h40]; exact Out.none_⟩
        obtain ⟨r, h1, h2⟩ := go
        refine ⟨r, ?_, h2⟩
        refine Ev.step (fun k => by first | rw [spec_l04End.f] | rw [spec_l04End.l0] | rw [spec_l04End.j0] | rw [spec_l04End.j2]) (ev_neg (by omega) (ev_pos (by omega) (ev_pos (by omega) ?_)))
        by_cases h97 : bt p a ≥ 97
        · refine ev_pos h97 ?_
          rw [decide_eq_false (fun h => hb ⟨h97, h⟩)]
          exact h1
        · exact ev_neg h97 h1
theorem endO_whole {p : ByteArray} (hp : p.size ≤ 60) (h0 : 0 < p.size) : (∃ y, endO p 61 0 (List.replicate 8 false) = some y ∧ y.1 = p.size) ↔ isP p = true := by
  rw [isP, toP, whole, if_neg (by omega), endO, from_zero]
  cases hx : parse 61 p with
  | none => simp
  | some x =>
    rw [Option.bind_some, Option.bind_some]
    have hg := (parse_good 61 p x hx).1
    have hm := marks_some (letL 61 x.1) (List.replicate 8 false) rfl (letL_range 61 x.1 hg)
    have hrep : ∀ i, (List.replicate 8 false).getD i false = false := by
      intro i; rw [List.getD_eq_getElem?_getD, List.getElem?_replicate]; split <;> rfl
    by_cases hs : x.2.size = 0
    · rw [if_pos hs, Option.bind_some, letters_eq 61 x.1 hg]
      by_cases hN : (letL 61 x.1).Nodup
      · rw [if_pos hN]
        have := hm.2 ⟨hN, fun c _ => hrep _⟩
        obtain ⟨v, hv⟩ := Option.isSome_iff_exists.1 this
        refine ⟨fun _ => rfl, fun _ => ⟨_, by rw [hv]; rfl, ?_⟩⟩
        show (p.size : Int) - x.2.size = _
        omega
      · rw [if_neg hN]
        refine ⟨?_, fun h => by cases h⟩
        rintro ⟨y, h1, _⟩
        obtain ⟨v, hv, _⟩ := Option.map_eq_some_iff.1 h1
        exact absurd (hm.1 (by rw [hv]; rfl)).1 hN
    · rw [if_neg hs, Option.bind_none]
      refine ⟨?_, fun h => by cases h⟩
      rintro ⟨y, h1, h2⟩
      obtain ⟨v, hv, rfl⟩ := Option.map_eq_some_iff.1 h1
      have h2 : (p.size : Int) - x.2.size = p.size := h2
      omega
theorem l04Is_ev (p : ByteArray) (hp : p.size ≤ 1048576) : Ev (fun k => spec_l04Is.f k p) (isP p) := by
  by_cases h0 : p.size = 0
  · have : isP p = false := by
      rw [isP, toP, whole, if_neg (by omega), parse, if_pos h0]; rfl
    rw [this]
    exact ev_neg (by omega) (ev_now rfl)
  · by_cases h60 : p.size ≤ 60
    · obtain ⟨r, h1, h2⟩ := end_ev p hp 61 0 (List.replicate 8 false) rfl (by omega) (by omega)
      refine ev_pos (by omega) (ev_pos (by omega) (ev_pos (by decide) (Ev.bind h1 (ev_now ?_))))
      have hw := endO_whole h60 (by omega)
      cases hx : endO p 61 0 (List.replicate 8 false) with
      | none =>
        have hr := h2.neg hx
        have : isP p = false := by
          rw [← Bool.not_eq_true, ← hw]
          rintro ⟨y, h, _⟩; rw [hx] at h; cases h
        rw [this]
        exact beq_eq_false_iff_ne.2 (by omega)
      | some y =>
        obtain rfl := h2.get hx
        by_cases hr : r.1 = p.size
        · rw [hw.1 ⟨r, hx, hr⟩, hr]; simp
        · have : isP p = false := by
            rw [← Bool.not_eq_true, ← hw]
            rintro ⟨y, h, hy⟩; rw [hx] at h; obtain rfl := Option.some.inj h; exact hr hy
          rw [this]
          exact beq_eq_false_iff_ne.2 hr
    · have : isP p = false := by
        rw [isP, toP, whole, if_pos (by omega)]; rfl
      rw [this]
      exact ev_pos (by omega) (ev_neg (by omega) (ev_now rfl))
end Go.Proofs.Ytjdhjapbggnhkaa.PT
namespace Go.Proofs.Ytjdhjapbggnhkaa.PT
set_option linter.unusedVariables false
set_option linter.unusedSectionVars false
open Go.RowKit Go.Proofs.YtjdhjapbggnhkaaW.PrintWords Go.Proofs.Ytjdhjapbggnhkaa.Base Go.Proofs.Ytjdhjapbggnhkaa.P Go.Proofs.Ytjdhjapbggnhkaa.E
def tx : Nat → Pat → List Int
  | 0, _ => []
  | n + 1, p => if p.letter = 0 then 40 :: (p.kids.flatMap (tx n) ++ [41]) else [p.letter]
def ofL (l : List Int) : ByteArray := ⟨(l.map fun c => UInt8.ofNat c.toNat).toArray⟩
theorem ofL_bytesL (s : ByteArray) : ofL (bytesL s) = s := by
  apply ByteArray.ext
  apply Array.toList_inj.1
  simp only [ofL, bytesL, List.map_map]
  have e : ((fun c : Int => UInt8.ofNat c.toNat) ∘ fun b : UInt8 => (b.toNat : Int)) = id := by funext b; simp
  rw [e, List.map_id]
theorem bytesL_extract (s : ByteArray) (a b : Nat) : bytesL (s.extract a b) = ((bytesL s).drop a).take (b - a) := by
  simp [bytesL, ByteArray.data_extract, List.map_drop, List.map_take]
theorem bt_list {s : ByteArray} {pre : List Int} {c : Int} {post : List Int} (h : bytesL s = pre ++ c :: post) : bt s (pre.length : Int) = c := by
  have hl : pre.length < s.size := by rw [← bytesL_length, h]; simp
  have h2 : ((pre.length : Nat) : Int).toNat < s.size := by rw [Int.toNat_natCast]; exact hl
  rw [← bt_at _ _ h2]
  have h3 : (bytesL s)[pre.length]? = some c := by rw [h]; simp
  have h4 : (bytesL s)[pre.length]? = some ((s[pre.length]'hl).toNat : Int) := by
    rw [bytesL, List.getElem?_map, Array.getElem?_toList, Array.getElem?_eq_getElem (show pre.length < s.data.size from hl)]
    rfl
  rw [h3] at h4
  exact (Option.some.inj h4).symm
theorem size_list {s : ByteArray} {l : List Int} (h : bytesL s = l) : s.size = l.length := by rw [← h, bytesL_length]
theorem bytesL_cons {s : ByteArray} (h : 0 < s.size) : bytesL s = bt s 0 :: bytesL (s.extract 1 s.size) := by
  have h1 : (0 : Int).toNat < s.size := h
  rw [bytesL_extract, ← bt_at _ _ h1]
  have h2 : 0 < (bytesL s).length := by rw [bytesL_length]; exact h
  have e : (bytesL s)[0] = ((s[(0 : Int).toNat]'h1).toNat : Int) := by
    simp only [bytesL, List.getElem_map, Array.getElem_toList]
    rfl
  rw [← e, List.take_of_length_le (by rw [List.length_drop, bytesL_length]; omega), ← List.drop_eq_getElem_cons h2]
  rfl
theorem kidsP_text {n : Nat} (hf : ∀ s x, parse n s = some x → bytesL s = tx n x.1 ++ bytesL x.2) : ∀ (m : Nat) (s : ByteArray) (x : List Pat × ByteArray), kidsP (parse n) m s [] = some x → bytesL s = x.1.flatMap (tx n) ++ bytesL x.2 ∧ (x.2.size = 0 ∨ bt x.2 0 = 41)
  | 0, s, x, h => by simp [kidsP] at h
  | m + 1, s, x, h => by
    by_cases hst : s.size = 0 ∨ bt s 0 = 41
    · rw [kidsP_stop hst] at h
      obtain rfl := Option.some.inj h
      exact ⟨rfl, hst⟩
    · rw [kidsP_cons hst] at h
      obtain ⟨y, h1, h2⟩ := Option.bind_eq_some_iff.1 h
      obtain ⟨z, h3, rfl⟩ := Option.map_eq_some_iff.1 h2
      obtain ⟨h4, h5⟩ := kidsP_text hf m _ _ h3
      refine ⟨?_, h5⟩
      show _ = (y.1 :: z.1).flatMap (tx n) ++ _
      rw [hf _ _ h1, h4, List.flatMap_cons, List.append_assoc]
theorem parse_text : ∀ (n : Nat) (s : ByteArray) (x : Pat × ByteArray), parse n s = some x → bytesL s = tx n x.1 ++ bytesL x.2
  | 0, s, x, h => by simp [parse] at h
  | n + 1, s, x, h => by
    rw [parse] at h
    split at h
    · cases h
    · rename_i h0
      split at h
      · rename_i hb
        obtain rfl := Option.some.inj h
        rw [bytesL_cons (by omega), tx, if_neg (by show bt s 0 ≠ 0; omega)]
        rfl
      · split at h
        · cases h
        · rename_i hb h40
          obtain ⟨y, h1, h2⟩ := Option.bind_eq_some_iff.1 h
          obtain ⟨h3, h4⟩ := kidsP_text (parse_text n) _ _ _ h1
          split at h2
          · cases h2
          · rename_i hs
            obtain rfl := Option.some.inj h2
            have h5 : bt y.2 0 = 41 := h4.resolve_left hs
            rw [bytesL_cons (by omega), h3, bytesL_cons (s := y.2) (by omega), h5, tx, if_pos (show (Pat.mk 0 y.1).letter = 0 from rfl)]
            have h6 : bt s 0 = 40 := by simpa using h40
            rw [h6]
            show _ = (40 :: (y.1.flatMap (tx n) ++ [41])) ++ _
            simp
theorem toP_text {s : ByteArray} {p : Pat} (h : toP s = some p) : bytesL s = tx 61 p ∧ goodP 61 p := by
  obtain ⟨q, h1, h2⟩ := Option.bind_eq_some_iff.1 h
  split at h2
  · obtain rfl := Option.some.inj h2
    refine ⟨?_, (whole_good h1).1⟩
    rw [whole] at h1
    split at h1
    · cases h1
    · obtain ⟨y, h3, h4⟩ := Option.bind_eq_some_iff.1 h1
      split at h4
      · rename_i hs
        obtain rfl := Option.some.inj h4
        rw [parse_text _ _ _ h3]
        have : bytesL y.2 = [] := List.eq_nil_of_length_eq_zero (by rw [bytesL_length]; exact hs)
        rw [this, List.append_nil]
      · cases h4
  · cases h2
theorem tx_pos {n : Nat} {p : Pat} (h : goodP n p) : ∃ c l, tx n p = c :: l ∧ c ≠ 41 ∧ (p.letter = 0 → c = 40) := by
  cases n with
  | zero => exact h.elim
  | succ n =>
    rw [tx]
    by_cases hz : p.letter = 0
    · rw [if_pos hz]; exact ⟨_, _, rfl, by decide, fun _ => rfl⟩
    · rw [if_neg hz]
      rcases h.1 with h1 | h1
      · exact absurd h1 hz
      · exact ⟨_, _, rfl, by omega, fun h => absurd h hz⟩
theorem behind_go (T : ByteArray) (hT : T.size ≤ 1048576) : ∀ (n : Nat) (q : Pat) (pre post : List Int) (d : Nat) (r : Int), goodP n q → bytesL T = pre ++ (tx n q ++ post) → d ≤ 1048576 + pre.length →
    (d = 0 → Ev (fun k => spec_l04Behind.l0 k T (pre.length : Int) (d : Int)) ((pre.length : Int) + (tx n q).length)) ∧
    (0 < d → Ev (fun k => spec_l04Behind.l0 k T ((pre ++ tx n q).length : Int) (d : Int)) r → Ev (fun k => spec_l04Behind.l0 k T (pre.length : Int) (d : Int)) r)
  | 0, q, pre, post, d, r, h, _, _ => h.elim
  | n + 1, q, pre, post, d, r, hg, hb, hd => by
    have hsz := size_list hb
    rw [tx] at hb hsz ⊢
    by_cases hz : q.letter = 0
    · rw [if_pos hz] at hb hsz ⊢
      have kids : ∀ (l : List Pat) (pre2 post2 : List Int) (d2 : Nat), (∀ k ∈ l, goodP n k) → bytesL T = pre2 ++ (l.flatMap (tx n) ++ post2) → 0 < d2 → d2 ≤ 1048576 + pre2.length → ∀ r, Ev (fun k => spec_l04Behind.l0 k T ((pre2 ++ l.flatMap (tx n)).length : Int) (d2 : Int)) r → Ev (fun k => spec_l04Behind.l0 k T (pre2.length : Int) (d2 : Int)) r := by
        intro l
        induction l with
        | nil => intro pre2 post2 d2 _ _ _ _ r h; simpa using h
        | cons k l ih =>
          intro pre2 post2 d2 hl hb2 h0 hd2 r h
          rw [List.flatMap_cons, List.append_assoc] at hb2
          refine (behind_go T hT n k pre2 _ d2 r (hl k List.mem_cons_self) hb2 hd2).2 h0 ?_
          refine ih (pre2 ++ tx n k) post2 d2 (fun x hx => hl x (List.mem_cons_of_mem _ hx)) (by rw [hb2]; simp) h0 (by rw [List.length_append]; omega) r ?_
          rw [List.flatMap_cons, ← List.append_assoc] at h
          exact h
      have hb40 : bt T (pre.length : Int) = 40 := bt_list (post := q.kids.flatMap (tx n) ++ [41] ++ post) (by rw [hb]; simp)
      have hb41 : bt T ((pre ++ 40 :: q.kids.flatMap (tx n)).length : Int) = 41 := bt_list (post := post) (by rw [hb]; simp)
      have hlen : pre.length + (1 + ((q.kids.flatMap (tx n)).length + 1)) + post.length = T.size := by rw [hsz]; simp [-List.length_flatMap]; omega
      have e1 : (((pre ++ [40]).length : Nat) : Int) = (pre.length : Int) + 1 := by simp
      have go : ∀ r, Ev (fun k => spec_l04Behind.l0 k T ((pre ++ 40 :: q.kids.flatMap (tx n)).length : Int) ((d + 1 : Nat) : Int)) r → Ev (fun k => spec_l04Behind.l0 k T (pre.length : Int) (d : Int)) r := by
        intro r h
        refine Ev.step (fun k => by rw [spec_l04Behind.l0]) ?_
        refine ev_pos (by omega) (ev_pos (by omega) (ev_pos hb40 ?_))
        rw [w64 (x := (d : Int) + 1) (by omega) (by omega), w64 (x := (pre.length : Int) + 1) (by omega) (by omega)]
        refine ev_neg (by omega) ?_
        have h2 := kids q.kids (pre ++ [40]) ([41] ++ post) (d + 1) hg.2 (by rw [hb]; simp) (by omega) (by simp [-List.length_flatMap]; omega) r (by simpa using h)
        rw [e1] at h2
        exact h2
      have hlast : (((pre ++ 40 :: q.kids.flatMap (tx n)).length : Nat) : Int) + 1 = ((pre ++ (40 :: (q.kids.flatMap (tx n) ++ [41]))).length : Int) := by simp [-List.length_flatMap]; omega
      constructor
      · rintro rfl
        refine go _ ?_
        refine Ev.step (fun k => by rw [spec_l04Behind.l0]) ?_
        refine ev_pos (by omega) (ev_pos (by simp [-List.length_flatMap]; omega) (ev_neg (by omega) (ev_pos hb41 ?_)))
        rw [w64 (x := ((0 + 1 : Nat) : Int) - 1) (by omega) (by omega), w64 (x := ((pre ++ 40 :: q.kids.flatMap (tx n)).length : Int) + 1) (by omega) (by simp [-List.length_flatMap]; omega)]
        refine ev_pos (by omega) (ev_now ?_)
        simp [-List.length_flatMap]; omega
      · intro h0 h
        refine go _ ?_
        refine Ev.step (fun k => by rw [spec_l04Behind.l0]) ?_
        refine ev_pos (by omega) (ev_pos (by simp [-List.length_flatMap]; omega) (ev_neg (by omega) (ev_pos hb41 ?_)))
        rw [w64 (x := ((d + 1 : Nat) : Int) - 1) (by omega) (by omega), w64 (x := ((pre ++ 40 :: q.kids.flatMap (tx n)).length : Int) + 1) (by omega) (by simp [-List.length_flatMap]; omega)]
        refine ev_neg (by omega) ?_
        rw [hlast, show ((d + 1 : Nat) : Int) - 1 = (d : Int) by omega]
        exact h
    · rw [if_neg hz] at hb hsz ⊢
      have hr : 97 ≤ q.letter ∧ q.letter ≤ 104 := by
        rcases hg.1 with h1 | h1
        · exact absurd h1 hz
        · exact ⟨h1.1, h1.2.1⟩
      have hbc : bt T (pre.length : Int) = q.letter := bt_list (post := post) (by rw [hb]; simp)
      have hlen : pre.length + 1 + post.length = T.size := by rw [hsz]; simp [-List.length_flatMap]; omega
      constructor
      · rintro rfl
        refine Ev.step (fun k => by rw [spec_l04Behind.l0]) ?_
        refine ev_pos (by omega) (ev_pos (by omega) (ev_neg (by omega) (ev_neg (by omega) (ev_pos rfl (ev_now ?_)))))
        rw [w64 (by omega) (by omega)]; simp
      · intro h0 h
        refine Ev.step (fun k => by rw [spec_l04Behind.l0]) ?_
        refine ev_pos (by omega) (ev_pos (by omega) (ev_neg (by omega) (ev_neg (by omega) (ev_neg (by omega) ?_))))
        rw [w64 (by omega) (by omega)]
        simpa using h
def matchSL (f : Pat → Pat → Option (List ByteArray)) : List Pat → List Pat → Option (List ByteArray)
  | [], [] => some []
  | k :: ks, j :: js => (f k j).bind fun a => (matchSL f ks js).map fun b => a ++ b
  | _, _ => none
def matchS : Nat → Nat → Pat → Pat → Option (List ByteArray)
  | 0, _, _, _ => none
  | _, 0, _, _ => none
  | n + 1, nq + 1, p, q => if p.letter ≠ 0 then some [ofL (tx (nq + 1) q)] else if q.letter ≠ 0 then none else matchSL (matchS n nq) p.kids q.kids
theorem matchSL_len {f : Pat → Pat → Option (List ByteArray)} {g : Pat → List Int} (hf : ∀ k j a, f k j = some a → a.length ≤ (g k).length) : ∀ (ks js : List Pat) (a : List ByteArray), matchSL f ks js = some a → a.length ≤ (ks.flatMap g).length
  | [], [], a, h => by obtain rfl := Option.some.inj h; simp
  | [], _ :: _, a, h => by cases h
  | _ :: _, [], a, h => by cases h
  | k :: ks, j :: js, a, h => by
    rw [matchSL] at h
    obtain ⟨x, h1, h2⟩ := Option.bind_eq_some_iff.1 h
    obtain ⟨y, h3, rfl⟩ := Option.map_eq_some_iff.1 h2
    have h4 := hf _ _ _ h1
    have h5 := matchSL_len hf ks js y h3
    rw [List.flatMap_cons, List.length_append, List.length_append]
    omega
theorem matchS_len : ∀ (n nq : Nat) (p q : Pat) (a : List ByteArray), matchS n nq p q = some a → a.length ≤ (tx n p).length
  | 0, nq, p, q, a, h => by cases nq <;> cases h
  | n + 1, 0, p, q, a, h => by cases h
  | n + 1, nq + 1, p, q, a, h => by
    rw [matchS] at h
    rw [tx]
    by_cases hz : p.letter = 0
    · rw [if_neg (fun h => h hz)] at h
      rw [if_pos hz]
      split at h
      · cases h
      · have := matchSL_len (g := tx n) (fun k j a h => matchS_len n nq k j a h) _ _ _ h
        simp only [List.length_cons, List.length_append]
        omega
    · rw [if_pos hz] at h
      obtain rfl := Option.some.inj h
      rw [if_neg hz]
      simp
def MatchGo (P T : ByteArray) (o : Option (List ByteArray)) (out : List ByteArray) (a i a2 i2 : Nat) : Prop :=
  (o = none → Ev (fun k => spec_l04Match.l0 k P T out (a : Int) (i : Int)) ([], false)) ∧
  ∀ subs, o = some subs → ∀ res, Ev (fun k => spec_l04Match.l0 k P T (out ++ subs) (a2 : Int) (i2 : Int)) res → Ev (fun k => spec_l04Match.l0 k P T out (a : Int) (i : Int)) res
section
variable {P T : ByteArray} (hP : P.size ≤ 1048576) (hT : T.size ≤ 1048576)
include hP hT
theorem match_same {out : List ByteArray} {a i : Nat} {c : Int} {res : List ByteArray × Bool} (ha : a < T.size) (hi : i < P.size) (hc : c = 40 ∨ c = 41) (h1 : bt P i = c) (h2 : bt T a = c) (h : Ev (fun k => spec_l04Match.l0 k P T out ((a + 1 : Nat) : Int) ((i + 1 : Nat) : Int)) res) : Ev (fun k => spec_l04Match.l0 k P T out (a : Int) (i : Int)) res := by
  refine Ev.step (fun k => by rw [spec_l04Match.l0]) ?_
  refine ev_pos (by omega) (ev_neg (by omega) (ev_pos (by omega) ?_))
  have key : Ev (fun k => spec_l04Match.j1 k P T out (a : Int) (i : Int) false) res := by
    refine Ev.step (fun k => by rw [spec_l04Match.j1]) ?_
    refine ev_neg (by decide) (ev_pos (by omega) (ev_pos (by omega) (ev_pos (by omega) (ev_pos (by omega) (ev_pos (by rw [h1, h2]) ?_)))))
    rw [w64 (by omega) (by omega), w64 (by omega) (by omega)]
    exact h
  rcases hc with rfl | rfl
  · exact ev_pos h1 key
  · refine ev_neg (by omega) ?_
    rw [bne_eq_false_iff_eq.2 h1]
    exact key
theorem match_differ {out : List ByteArray} {a i : Nat} (ha : a < T.size) (hi : i < P.size) (hc : bt P i = 40 ∨ bt P i = 41) (h : bt P i ≠ bt T a) : Ev (fun k => spec_l04Match.l0 k P T out (a : Int) (i : Int)) ([], false) := by
  refine Ev.step (fun k => by rw [spec_l04Match.l0]) ?_
  refine ev_pos (by omega) (ev_neg (by omega) (ev_pos (by omega) ?_))
  have key : Ev (fun k => spec_l04Match.j1 k P T out (a : Int) (i : Int) false) ([], false) := by
    refine Ev.step (fun k => by rw [spec_l04Match.j1]) ?_
    exact ev_neg (by decide) (ev_pos (by omega) (ev_pos (by omega) (ev_pos (by omega) (ev_pos (by omega) (ev_neg h (ev_now rfl))))))
  rcases hc with h1 | h1
  · exact ev_pos h1 key
  · refine ev_neg (by omega) ?_
    rw [bne_eq_false_iff_eq.2 h1]
    exact key
theorem match_closed {out : List ByteArray} {a i : Nat} (ha : a < T.size) (hi : i < P.size) (h40 : bt P i ≠ 40) (h41 : bt P i ≠ 41) (h : bt T a = 41) : Ev (fun k => spec_l04Match.l0 k P T out (a : Int) (i : Int)) ([], false) := by
  refine Ev.step (fun k => by rw [spec_l04Match.l0]) ?_
  refine ev_pos (by omega) (ev_neg (by omega) (ev_pos (by omega) (ev_neg h40 ?_)))
  rw [bne_iff_ne.2 h41]
  refine Ev.step (fun k => by rw [spec_l04Match.j1]) ?_
  exact ev_pos rfl (ev_pos (by omega) (ev_pos (by omega) (ev_pos h (ev_now rfl))))
end
theorem extract_mid {T : ByteArray} {pre l post : List Int} (h : bytesL T = pre ++ (l ++ post)) : T.extract pre.length (pre.length + l.length) = ofL l := by
  have h2 : bytesL (T.extract pre.length (pre.length + l.length)) = l := by
    rw [bytesL_extract, h, List.drop_left, show pre.length + l.length - pre.length = l.length by omega, List.take_left]
  rw [← ofL_bytesL (T.extract pre.length (pre.length + l.length)), h2]
theorem match_go {P T : ByteArray} (hP : P.size ≤ 1048576) (hT : T.size ≤ 1048576) : ∀ (n nq : Nat) (p q : Pat) (pre post pre2 post2 : List Int) (out : List ByteArray), goodP n p → goodP nq q → bytesL P = pre ++ (tx n p ++ post) → bytesL T = pre2 ++ (tx nq q ++ post2) → out.length ≤ pre.length →
    MatchGo P T (matchS n nq p q) out pre2.length pre.length (pre2.length + (tx nq q).length) (pre.length + (tx n p).length)
  | 0, nq, p, q, pre, post, pre2, post2, out, h, _, _, _, _ => h.elim
  | n + 1, 0, p, q, pre, post, pre2, post2, out, _, h, _, _, _ => h.elim
  | n + 1, nq + 1, p, q, pre, post, pre2, post2, out, hp, hq, hb, hb2, hout => by
    have hsz := size_list hb
    have hsz2 := size_list hb2
    rw [matchS]
    by_cases hz : p.letter = 0
    · rw [if_neg (fun h => h hz)]
      have htx : tx (n + 1) p = 40 :: (p.kids.flatMap (tx n) ++ [41]) := by rw [tx, if_pos hz]
      rw [htx] at hb hsz ⊢
      have hb40 : bt P (pre.length : Int) = 40 := bt_list (post := p.kids.flatMap (tx n) ++ [41] ++ post) (by rw [hb]; simp)
      have hi : pre.length < P.size := by rw [hsz]; simp
      have ha : pre2.length < T.size := by
        obtain ⟨c, l, e, _⟩ := tx_pos hq
        rw [hsz2, e]; simp
      by_cases hzq : q.letter = 0
      · rw [if_neg (fun h => h hzq)]
        have htx2 : tx (nq + 1) q = 40 :: (q.kids.flatMap (tx nq) ++ [41]) := by rw [tx, if_pos hzq]
        rw [htx2] at hb2 hsz2 ⊢
        have hb240 : bt T (pre2.length : Int) = 40 := bt_list (post := q.kids.flatMap (tx nq) ++ [41] ++ post2) (by rw [hb2]; simp)
        have kids : ∀ (ks js : List Pat) (pr pr2 : List Int) (out : List ByteArray), (∀ k ∈ ks, goodP n k) → (∀ k ∈ js, goodP nq k) → bytesL P = pr ++ (ks.flatMap (tx n) ++ (41 :: post)) → bytesL T = pr2 ++ (js.flatMap (tx nq) ++ (41 :: post2)) → out.length ≤ pr.length →
            MatchGo P T (matchSL (matchS n nq) ks js) out pr2.length pr.length (pr2.length + (js.flatMap (tx nq)).length + 1) (pr.length + (ks.flatMap (tx n)).length + 1) := by
          intro ks
          induction ks with
          | nil =>
            intro js pr pr2 out hks hjs hbp hbt hol
            have e41 : bt P (pr.length : Int) = 41 := bt_list (post := post) (by rw [hbp]; simp)
            have hi2 : pr.length < P.size := by rw [size_list hbp]; simp
            cases js with
            | nil =>
              have f41 : bt T (pr2.length : Int) = 41 := bt_list (post := post2) (by rw [hbt]; simp)
              have ha2 : pr2.length < T.size := by rw [size_list hbt]; simp
              refine ⟨fun h => (by cases h), fun subs h res hev => ?_⟩
              obtain rfl := Option.some.inj h
              refine match_same hP hT ha2 hi2 (.inr rfl) e41 f41 ?_
              simpa using hev
            | cons j js =>
              obtain ⟨c, l, e, hc, _⟩ := tx_pos (hjs j List.mem_cons_self)
              have ec : bt T (pr2.length : Int) = c := bt_list (post := l ++ (js.flatMap (tx nq) ++ (41 :: post2))) (by rw [hbt, List.flatMap_cons, e]; simp)
              have ha2 : pr2.length < T.size := by rw [size_list hbt, List.flatMap_cons, e]; simp
              refine ⟨fun _ => match_differ hP hT ha2 hi2 (.inr e41) (by rw [e41, ec]; exact fun h => hc h.symm), fun subs h => by cases h⟩
          | cons k ks ih =>
            intro js pr pr2 out hks hjs hbp hbt hol
            obtain ⟨c, l, e, hc, hc40⟩ := tx_pos (hks k List.mem_cons_self)
            have ec : bt P (pr.length : Int) = c := bt_list (post := l ++ (ks.flatMap (tx n) ++ (41 :: post))) (by rw [hbp, List.flatMap_cons, e]; simp)
            have hi2 : pr.length < P.size := by rw [size_list hbp, List.flatMap_cons, e]; simp
            cases js with
            | nil =>
              have f41 : bt T (pr2.length : Int) = 41 := bt_list (post := post2) (by rw [hbt]; simp)
              have ha2 : pr2.length < T.size := by rw [size_list hbt]; simp
              refine ⟨fun _ => ?_, fun subs h => by cases h⟩
              by_cases h40 : c = 40
              · exact match_differ hP hT ha2 hi2 (.inl (ec.trans h40)) (by omega)
              · exact match_closed hP hT ha2 hi2 (by omega) (by omega) f41
            | cons j js =>
              rw [List.flatMap_cons, List.append_assoc] at hbp hbt
              have h1 := match_go hP hT n nq k j pr _ pr2 _ out (hks k List.mem_cons_self) (hjs j List.mem_cons_self) hbp hbt hol
              rw [matchSL]
              cases hm : matchS n nq k j with
              | none => exact ⟨fun _ => h1.1 hm, fun subs h => by cases h⟩
              | some x =>
                have hxl := matchS_len _ _ _ _ _ hm
                have h2 := ih js (pr ++ tx n k) (pr2 ++ tx nq j) (out ++ x) (fun z hz => hks z (List.mem_cons_of_mem _ hz)) (fun z hz => hjs z (List.mem_cons_of_mem _ hz)) (by rw [hbp]; simp) (by rw [hbt]; simp) (by rw [List.length_append, List.length_append]; omega)
                rw [List.length_append, List.length_append] at h2
                rw [Option.bind_some, List.flatMap_cons, List.flatMap_cons, List.length_append, List.length_append]
                cases hm2 : matchSL (matchS n nq) ks js with
                | none => exact ⟨fun _ => h1.2 x hm _ (h2.1 hm2), fun subs h => by cases h⟩
                | some y =>
                  refine ⟨fun h => (by cases h), fun subs h res hev => ?_⟩
                  obtain rfl := Option.some.inj h
                  refine h1.2 x hm _ (h2.2 y hm2 _ ?_)
                  rw [List.append_assoc, show pr2.length + (tx nq j).length + (js.flatMap (tx nq)).length + 1 = pr2.length + ((tx nq j).length + (js.flatMap (tx nq)).length) + 1 by omega, show pr.length + (tx n k).length + (ks.flatMap (tx n)).length + 1 = pr.length + ((tx n k).length + (ks.flatMap (tx n)).length) + 1 by omega]
                  exact hev
        have h3 := kids p.kids q.kids (pre ++ [40]) (pre2 ++ [40]) out hp.2 hq.2 (by rw [hb]; simp) (by rw [hb2]; simp) (by simp [-List.length_flatMap]; omega)
        rw [List.length_append, List.length_append] at h3
        refine ⟨fun h => match_same hP hT ha hi (.inl rfl) hb40 hb240 (h3.1 h), fun subs h res hev => match_same hP hT ha hi (.inl rfl) hb40 hb240 (h3.2 subs h res ?_)⟩
        simp only [List.length_cons, List.length_append, List.length_nil] at hev ⊢
        rw [show pre2.length + (0 + 1) + (q.kids.flatMap (tx nq)).length + 1 = pre2.length + ((q.kids.flatMap (tx nq)).length + (0 + 1) + 1) by omega, show pre.length + (0 + 1) + (p.kids.flatMap (tx n)).length + 1 = pre.length + ((p.kids.flatMap (tx n)).length + (0 + 1) + 1) by omega]
        exact hev
      · rw [if_pos hzq]
        have htx2 : tx (nq + 1) q = [q.letter] := by rw [tx, if_neg hzq]
        have hc2 : bt T (pre2.length : Int) = q.letter := bt_list (post := post2) (by rw [hb2, htx2]; simp)
        have hr : 97 ≤ q.letter ∧ q.letter ≤ 104 := by
          rcases hq.1 with h1 | h1
          · exact absurd h1 hzq
          · exact ⟨h1.1, h1.2.1⟩
        exact ⟨fun _ => match_differ hP hT ha hi (.inl hb40) (by omega), fun subs h => by cases h⟩
    · rw [if_pos hz]
      have htx : tx (n + 1) p = [p.letter] := by rw [tx, if_neg hz]
      have hr : 97 ≤ p.letter ∧ p.letter ≤ 104 := by
        rcases hp.1 with h1 | h1
        · exact absurd h1 hz
        · exact ⟨h1.1, h1.2.1⟩
      have hc : bt P (pre.length : Int) = p.letter := bt_list (post := post) (by rw [hb, htx]; simp)
      have hi : pre.length < P.size := by rw [hsz, htx]; simp
      obtain ⟨c, l, e, hc41, _⟩ := tx_pos hq
      have hc2 : bt T (pre2.length : Int) = c := bt_list (post := l ++ post2) (by rw [hb2, e]; simp)
      have hlq : pre2.length + (tx (nq + 1) q).length ≤ T.size := by rw [hsz2]; simp
      have ha : pre2.length < T.size := by rw [e] at hlq; simp at hlq; omega
      have hbe := (behind_go T hT (nq + 1) q pre2 post2 0 0 hq hb2 (by omega)).1 rfl
      refine ⟨fun h => (by cases h), fun subs h res hev => ?_⟩
      obtain rfl := Option.some.inj h
      refine Ev.step (fun k => by rw [spec_l04Match.l0]) ?_
      refine ev_pos (by omega) (ev_neg (by omega) (ev_pos (by omega) (ev_neg (by omega) ?_)))
      rw [bne_iff_ne.2 (show bt P (pre.length : Int) ≠ 41 by omega)]
      refine Ev.step (fun k => by rw [spec_l04Match.j1]) ?_
      refine ev_pos rfl (ev_pos (by omega) (ev_pos (by omega) (ev_neg (by omega) (Ev.bind hbe (ev_pos (by omega) (ev_pos (by omega) (ev_pos (by omega) ?_)))))))
      rw [w64 (x := (pre.length : Int) + 1) (by omega) (by omega), Int.toNat_natCast, show ((pre2.length : Int) + (tx (nq + 1) q).length).toNat = pre2.length + (tx (nq + 1) q).length by omega, extract_mid hb2]
      rw [htx] at hev
      exact hev
theorem match_ev {P T : ByteArray} (hP : P.size ≤ 1048576) (hT : T.size ≤ 1048576) {n nq : Nat} {p q : Pat} (hp : goodP n p) (hq : goodP nq q) (hb : bytesL P = tx n p) (hb2 : bytesL T = tx nq q) : Ev (fun k => spec_l04Match.f k P T) (match matchS n nq p q with | none => ([], false) | some l => (l, true)) := by
  have h := match_go hP hT n nq p q [] [] [] [] [] hp hq (by simpa using hb) (by simpa using hb2) (Nat.le_refl _)
  have e1 := size_list hb
  have e2 := size_list hb2
  cases hm : matchS n nq p q with
  | none => exact h.1 hm
  | some l =>
    refine h.2 l hm _ ?_
    simp only [List.length_nil, Nat.zero_add, List.nil_append]
    rw [← e1, ← e2]
    refine Ev.step (fun k => by rw [spec_l04Match.l0]) ?_
    refine ev_neg (by omega) (ev_now ?_)
    simp
theorem matchL_isSome {n nq : Nat} : ∀ (ks js : List Pat) (F : Fill), (∀ k ∈ ks, ∀ j ∈ js, ∀ F, (matchP n k j F).1 = (matchS n nq k j).isSome) → ks.length = js.length → (matchL (matchP n) ks js F).1 = (matchSL (matchS n nq) ks js).isSome
  | [], [], F, _, _ => rfl
  | [], _ :: _, F, _, h => by cases h
  | _ :: _, [], F, _, h => by cases h
  | k :: ks, j :: js, F, hf, h => by
    have h1 := hf k List.mem_cons_self j List.mem_cons_self F
    rw [matchL, matchSL]
    cases hm : matchS n nq k j with
    | none =>
      rw [hm] at h1
      rw [if_neg (by rw [h1]; decide)]; rfl
    | some x =>
      rw [hm] at h1
      rw [if_pos (show (matchP n k j F).1 = true from h1), Option.bind_some, matchL_isSome ks js _ (fun a ha b hb => hf a (List.mem_cons_of_mem _ ha) b (List.mem_cons_of_mem _ hb)) (by simpa using h)]
      cases matchSL (matchS n nq) ks js <;> rfl
theorem matchSL_ne {f : Pat → Pat → Option (List ByteArray)} : ∀ (ks js : List Pat), ks.length ≠ js.length → matchSL f ks js = none
  | [], [], h => (h rfl).elim
  | [], _ :: _, _ => rfl
  | _ :: _, [], _ => rfl
  | k :: ks, j :: js, h => by
    rw [matchSL, matchSL_ne ks js (fun e => h (by simp [e]))]
    cases f k j <;> rfl
theorem match_isSome : ∀ (n nq : Nat) (p q : Pat) (F : Fill), goodP n p → goodP nq q → (matchP n p q F).1 = (matchS n nq p q).isSome
  | 0, nq, p, q, F, h, _ => h.elim
  | n + 1, 0, p, q, F, _, h => h.elim
  | n + 1, nq + 1, p, q, F, hp, hq => by
    rw [matchP, matchS]
    by_cases hz : p.letter = 0
    · have g1 : ¬ p.letter ≠ 0 := fun h => h hz
      rw [if_neg g1, if_neg g1]
      by_cases hzq : q.letter = 0
      · have g2 : ¬ q.letter ≠ 0 := fun h => h hzq
        rw [if_neg g2]
        by_cases hl : p.kids.length = q.kids.length
        · have g3 : ¬ (q.letter ≠ 0 ∨ p.kids.length ≠ q.kids.length) := fun h => h.elim g2 (fun h => h hl)
          rw [if_neg g3]
          exact matchL_isSome p.kids q.kids F (fun k hk j hj F => match_isSome n nq k j F (hp.2 k hk) (hq.2 j hj)) hl
        · have g3 : q.letter ≠ 0 ∨ p.kids.length ≠ q.kids.length := .inr hl
          rw [if_pos g3, matchSL_ne _ _ hl]; rfl
      · have g3 : q.letter ≠ 0 ∨ p.kids.length ≠ q.kids.length := .inl hzq
        have g4 : q.letter ≠ 0 := hzq
        rw [if_pos g3, if_pos g4]; rfl
    · have g1 : p.letter ≠ 0 := hz
      rw [if_pos g1, if_pos g1]; rfl
end Go.Proofs.Ytjdhjapbggnhkaa.PT
namespace Go.Proofs.Ytjdhjapbggnhkaa.PT
set_option linter.unusedVariables false
set_option linter.unusedSectionVars false
open Go.RowKit Go.Proofs.YtjdhjapbggnhkaaW.PrintWords Go.Proofs.Ytjdhjapbggnhkaa.Base Go.Proofs.Ytjdhjapbggnhkaa.Tree Go.Proofs.Ytjdhjapbggnhkaa.P Go.Proofs.Ytjdhjapbggnhkaa.E
theorem kfM_nat (d : List Int) (v : Nat) : kfM d (v : Int) = castL (kidsM d v) := by rw [kfM, Int.toNat_natCast]
theorem ofL_append (a b : List Int) : ofL (a ++ b) = ofL a ++ ofL b := by
  apply ByteArray.ext
  simp [ofL, ByteArray.data_append]
theorem ofL_size (a : List Int) : (ofL a).size = a.length := by simp [ofL, ByteArray.size]
theorem bytesL_ofL {l : List Int} (h : ∀ c ∈ l, 0 ≤ c ∧ c < 256) : bytesL (ofL l) = l := by
  simp only [bytesL, ofL, List.map_map]
  conv => rhs; rw [← List.map_id l]
  apply List.map_congr_left
  intro c hc
  have := h c hc
  simp only [Function.comp, id, UInt8.toNat_ofNat']
  omega
theorem tx_range : ∀ (n : Nat) (p : Pat), goodP n p → ∀ c ∈ tx n p, 0 ≤ c ∧ c < 256
  | 0, p, h, _, _ => h.elim
  | n + 1, p, h, c, hc => by
    rw [tx] at hc
    split at hc
    · rcases List.mem_cons.1 hc with rfl | hc
      · omega
      · rcases List.mem_append.1 hc with hc | hc
        · obtain ⟨k, hk, hc⟩ := List.mem_flatMap.1 hc
          exact tx_range n k (h.2 k hk) c hc
        · rw [List.mem_singleton.1 hc]; omega
    · rename_i hz
      rw [List.mem_singleton.1 hc]
      rcases h.1 with h1 | h1
      · exact absurd h1 hz
      · omega
section
variable {d : List Int} (h : IsT d)
include h
theorem good_tree : ∀ (n v : Nat), v < d.length → d.length - v ≤ n → goodP n (ofT (kfM d) n (v : Int))
  | 0, v, hv, hn => by omega
  | n + 1, v, hv, hn => by
    refine ⟨.inl rfl, fun k hk => ?_⟩
    rw [ofT, kfM_nat] at hk
    obtain ⟨c, hc, rfl⟩ := List.mem_map.1 hk
    obtain ⟨x, hx, rfl⟩ := List.mem_map.1 hc
    have := kid_mem h hv hx
    exact good_tree n x this.2.1 (by omega)
theorem tx_tree (n v : Nat) : tx (n + 1) (ofT (kfM d) (n + 1) (v : Int)) = 40 :: ((kidsM d v).flatMap (fun c => tx n (ofT (kfM d) n ((c : Nat) : Int))) ++ [41]) := by
  rw [tx, if_pos (show (ofT (kfM d) (n + 1) (v : Int)).letter = 0 from rfl)]
  show 40 :: (((kfM d (v : Int)).map (ofT (kfM d) n)).flatMap (tx n) ++ [41]) = _
  rw [kfM_nat, castL, List.map_map, List.flatMap_map]
  rfl
theorem tx_tree_len : ∀ (n v : Nat), v < d.length → d.length - v ≤ n → (tx n (ofT (kfM d) n (v : Int))).length = 2 * (endM d v - v)
  | 0, v, hv, hn => by omega
  | n + 1, v, hv, hn => by
    rw [tx_tree h, List.length_cons, List.length_append, List.length_flatMap]
    have e : (kidsM d v).map (fun c => (tx n (ofT (kfM d) n ((c : Nat) : Int))).length) = (kidsM d v).map fun x => 2 * (endM d x - x) := by
      apply List.map_congr_left
      intro c hc
      have := kid_mem h hv hc
      exact tx_tree_len n c this.2.1 (by omega)
    rw [e, kidsM, run_sum h (run_kids h hv)]
    have := run_bd h (run_kids h hv)
    have := end_gt h hv
    simp only [List.length_cons, List.length_nil]
    omega
end
theorem flat_take_le {α β : Type} (f : α → List β) (l : List α) (j : Nat) (hj : j < l.length) : ((l.take j).flatMap f).length + (f l[j]).length ≤ (l.flatMap f).length := by
  have h1 := List.take_append_drop (j + 1) l
  have h2 : l.flatMap f = (l.take (j + 1)).flatMap f ++ (l.drop (j + 1)).flatMap f := by rw [← List.flatMap_append, h1]
  rw [h2, List.take_add_one, List.getElem?_eq_getElem hj, List.flatMap_append, List.length_append, List.length_append]
  show _ ≤ _ + ([l[j]].flatMap f).length + _
  rw [List.flatMap_cons, List.flatMap_nil, List.append_nil]
  omega
section
variable {d : List Int} (h : IsT d) (hn : d.length ≤ 24)
include h hn
theorem subtree_ev {v : Nat} (hv : v < d.length) : Ev (fun k => spec_l01Subtree.f k d (v : Int)) (sub d v) := by
  have h1 := end_gt h hv
  have h2 := end_le h hv
  unfold spec_l01Subtree.f
  refine Ev.bind (spec_l01End_ev h (by omega) hv) (ev_pos (by omega) (ev_pos (by omega) (ev_pos (by omega) ?_)))
  rw [Int.toNat_natCast, Int.toNat_natCast]
  have e : spec_l01Make.f ((d.take (endM d v)).drop v) = some (sub d v) := by
    unfold spec_l01Make.f spec_l01Own.f
    have hl := sub_length h hv
    rw [sub] at hl
    simp only [Option.bind_some, List.nil_append, List.length_nil]
    rw [if_pos (by omega)]
    rfl
  rw [e]
  exact ev_now rfl
theorem text_ev : ∀ (n v : Nat), v < d.length → d.length - v ≤ n → Ev (fun k => spec_l01Text.f k (sub d v)) (ofL (tx n (ofT (kfM d) n (v : Int))))
  | 0, v, hv, hm => by omega
  | n + 1, v, hv, hm => by
    have hg := end_gt h hv
    have hle := end_le h hv
    have hsl := sub_length h hv
    have hs := sub_tree h hv
    have hsk := sub_kids h hv (i := 0) (by omega)
    rw [Nat.add_zero] at hsk
    have htl := tx_tree_len h (n + 1) v hv hm
    rw [tx_tree h, List.length_cons, List.length_append] at htl
    rw [tx_tree h]
    have hc0 : Ev (fun k => spec_l01Children.f k (sub d v) 0) (castL (kidsM (sub d v) 0)) := spec_l01Children_ev hs (by omega) (v := 0) (by omega)
    refine Ev.step (fun k => by rw [spec_l01Text.f]) (Ev.bind hc0 ?_)
    have loop : ∀ (m j : Nat), j + m = (kidsM d v).length → Ev (fun k => spec_l01Text.l0 k (ofL (40 :: ((kidsM d v).take j).flatMap fun c => tx n (ofT (kfM d) n ((c : Nat) : Int)))) (castL (kidsM (sub d v) 0)) (j : Int) (sub d v)) (ofL (40 :: ((kidsM d v).flatMap (fun c => tx n (ofT (kfM d) n ((c : Nat) : Int))) ++ [41]))) := by
      have hcl : (castL (kidsM (sub d v) 0)).length = (kidsM d v).length := by rw [castL_length, hsk, List.length_map]
      have hkf := kids_few h hv
      intro m
      induction m with
      | zero =>
        intro j hj
        refine Ev.step (fun k => by rw [spec_l01Text.l0]) (ev_neg (by omega) (ev_pos ?_ (ev_now ?_)))
        · rw [ofL_size, List.length_cons, List.take_of_length_le (by omega)]; omega
        · rw [List.take_of_length_le (by omega), ← List.cons_append, ofL_append]; rfl
      | succ m ih =>
        intro j hj
        have hjl : j < (kidsM d v).length := by omega
        have hkm := kid_mem h hv (List.getElem_mem hjl)
        have hrd : rd (castL (kidsM (sub d v) 0)) (j : Int) = (((kidsM d v)[j] - v : Nat) : Int) := by
          rw [rd_nat, castL_getD _ _ (by rw [hsk, List.length_map]; exact hjl)]
          simp only [hsk, List.getElem_map]
        have hss : sub (sub d v) ((kidsM d v)[j] - v) = sub d (kidsM d v)[j] := by
          rw [sub_sub h hv (by omega), show v + ((kidsM d v)[j] - v) = (kidsM d v)[j] by omega]
        have hsub : Ev (fun k => spec_l01Subtree.f k (sub d v) (((kidsM d v)[j] - v : Nat) : Int)) (sub d (kidsM d v)[j]) := by
          have h1 := end_gt hs (v := (kidsM d v)[j] - v) (by omega)
          have h2 := end_le hs (v := (kidsM d v)[j] - v) (by omega)
          unfold spec_l01Subtree.f
          refine Ev.bind (spec_l01End_ev hs (by omega) (v := (kidsM d v)[j] - v) (by omega)) (ev_pos (by omega) (ev_pos (by omega) (ev_pos (by omega) ?_)))
          rw [Int.toNat_natCast, Int.toNat_natCast]
          have e : spec_l01Make.f (((sub d v).take (endM (sub d v) ((kidsM d v)[j] - v))).drop ((kidsM d v)[j] - v)) = some (sub d (kidsM d v)[j]) := by
            rw [← hss]
            unfold spec_l01Make.f spec_l01Own.f
            simp only [Option.bind_some, List.nil_append, List.length_nil]
            rw [if_pos (by rw [List.length_drop, List.length_take]; omega)]
            rfl
          rw [e]
          exact ev_now rfl
        have hfl := flat_take_le (fun c => tx n (ofT (kfM d) n ((c : Nat) : Int))) (kidsM d v) j hjl
        refine Ev.step (fun k => by rw [spec_l01Text.l0]) (ev_pos (by omega) (ev_pos (by omega) ?_))
        rw [hrd]
        refine Ev.bind hsub (Ev.bind (text_ev n (kidsM d v)[j] hkm.2.1 (by omega)) (ev_pos ?_ ?_))
        · rw [ofL_size, ofL_size, List.length_cons]; omega
        · rw [← ofL_append, w64s (by omega)]
          have := ih (j + 1) (by omega)
          rw [List.take_add_one, List.getElem?_eq_getElem hjl, List.flatMap_append] at this
          simpa using this
    have := loop (kidsM d v).length 0 (by omega)
    have e : ofL (40 :: ((kidsM d v).take 0).flatMap fun c => tx n (ofT (kfM d) n ((c : Nat) : Int))) = ⟨#[40]⟩ := rfl
    rw [e] at this
    exact this
def textM (d : List Int) (v : Nat) : ByteArray := ofL (tx 24 (treeP d (v : Int)))
theorem text_at {v : Nat} (hv : v < d.length) : Ev (fun k => spec_l01Text.f k (sub d v)) (textM d v) := text_ev h hn 24 v hv (by omega)
theorem text_match {s : ByteArray} {p : Pat} (hs : s.size ≤ 1048576) (hp : toP s = some p) {v : Nat} (hv : v < d.length) : Ev (fun k => spec_l04Match.f k s (textM d v)) (match matchS 61 24 p (treeP d (v : Int)) with | none => ([], false) | some l => (l, true)) := by
  obtain ⟨t0, g0⟩ := toP_text hp
  have hg := good_tree h 24 v hv (by omega)
  have hl := tx_tree_len h 24 v hv (by omega)
  have hle := end_le h hv
  exact match_ev hs (by rw [textM, ofL_size]; show (tx 24 (ofT (kfM d) 24 (v : Int))).length ≤ _; omega) g0 hg t0 (bytesL_ofL (tx_range 24 _ hg))
theorem hit_eq {s : ByteArray} {p : Pat} (hp : toP s = some p) {v : Nat} (hv : v < d.length) : hitM d p (v : Int) = (matchS 61 24 p (treeP d (v : Int))).isSome :=
  match_isSome 61 24 p _ _ (toP_text hp).2 (good_tree h 24 v hv (by omega))
end
theorem isSome_some (l : List ByteArray) : (some l).isSome = true := rfl
theorem spec_l04Nodes_ev {d : List Int} (hT : IsT d) (hn : d.length ≤ 24) {s : ByteArray} {p : Pat} (hs : s.size ≤ 1048576) (hp : toP s = some p) : Ev (fun k => spec_l04Nodes.f k d s) (hitsM d p d.length) := by
  have loop : ∀ (m i : Nat), i + m = d.length → Ev (fun k => spec_l04Nodes.l0 k s (hitsM d p i) (i : Int) d) (hitsM d p d.length) := by
    intro m
    induction m with
    | zero =>
      intro i hi
      refine Ev.step (fun k => by rw [spec_l04Nodes.l0]) ?_
      simp only [l01N_ev]
      exact ev_some (ev_neg (by omega) (ev_now (by rw [show i = d.length by omega])))
    | succ m ih =>
      intro i hi
      have hil : i < d.length := by omega
      refine Ev.step (fun k => by rw [spec_l04Nodes.l0]) ?_
      simp only [l01N_ev]
      refine ev_some (ev_pos (by omega) (Ev.bind (subtree_ev hT hn hil) (Ev.bind (text_at hT hn hil) (Ev.bind (text_match hT hn hs hp hil) ?_))))
      have hst := hits_step d p i
      rw [hit_eq hT hn hp hil] at hst
      have ihn := ih (i + 1) (by omega)
      have hll := hits_le d p i
      rw [w64s (by omega)]
      cases hm : matchS 61 24 p (treeP d (i : Int)) with
      | none =>
        rw [hm, if_neg (by decide)] at hst
        rw [hst] at ihn
        exact ev_neg (by decide) ihn
      | some l =>
        rw [hm, if_pos (isSome_some l)] at hst
        rw [hst] at ihn
        exact ev_pos rfl (ev_pos (by omega) ihn)
  unfold spec_l04Nodes.f
  exact loop d.length 0 (by omega)
end Go.Proofs.Ytjdhjapbggnhkaa.PT
namespace Go.Proofs.Ytjdhjapbggnhkaa.PT
set_option linter.unusedVariables false
set_option linter.unusedSectionVars false
open Go.RowKit Go.Proofs.YtjdhjapbggnhkaaW.PrintWords Go.Proofs.Ytjdhjapbggnhkaa.Base Go.Proofs.Ytjdhjapbggnhkaa.Tree Go.Proofs.Ytjdhjapbggnhkaa.E Go.Proofs.Ytjdhjapbggnhkaa.P
theorem l01In_eq (n : Int) : spec_l01In.f n 1 8 = some (decide (1 ≤ n ∧ n ≤ 8)) := by
  unfold spec_l01In.f
  by_cases h1 : n ≥ 1
  · rw [if_pos h1]
    congr 1
    by_cases h2 : n ≤ 8
    · rw [decide_eq_true h2, decide_eq_true ⟨h1, h2⟩]
    · rw [decide_eq_false h2, decide_eq_false (fun h => h2 h.2)]
  · rw [if_neg h1, decide_eq_false (fun h => h1 h.1)]
theorem few_none (n : Int) {s : ByteArray} (hs : s.size ≤ 1048576) (hp : toP s = none) : Ev (fun k => spec_l04Few.f k n s) 6 := by
  unfold spec_l04Few.f
  exact Ev.bind (l04Is_ev s hs) (ev_neg (by rw [isP, hp]; decide) (Ev.now _))
theorem few_some {n : Int} {s : ByteArray} {p : Pat} (hs : s.size ≤ 1048576) (hp : toP s = some p) : Ev (fun k => spec_l04Few.f k n s) (if 1 ≤ n ∧ n ≤ 8 then 0 else 2) := by
  unfold spec_l04Few.f
  refine Ev.bind (l04Is_ev s hs) (ev_pos (by rw [isP, hp]; rfl) ?_)
  simp only [l01In_eq]
  refine ev_some ?_
  by_cases h : 1 ≤ n ∧ n ≤ 8
  · rw [if_pos h]
    exact ev_pos (decide_eq_true h) (Ev.now _)
  · rw [if_neg h]
    exact ev_neg (by rw [decide_eq_false h]; decide) (Ev.now _)
theorem avoid_ev {m : Nat} (h1 : 1 ≤ m) (h8 : m ≤ 8) {s : ByteArray} {p : Pat} (hs : s.size ≤ 1048576) (hp : toP s = some p) : Ev (fun k => spec_l04Avoiding.f k (m : Int) s) ((treesM m).filter (keepT p)) := by
  have hl := treesM_len h8
  have hT := treesM_all h8
  unfold spec_l04Avoiding.f
  refine Ev.bind (spec_l01All_ev h1 h8) ?_
  obtain ⟨ts, hts⟩ : ∃ ts, ts = treesM m := ⟨_, rfl⟩
  rw [← hts] at hl hT ⊢
  have e : (gT m 1).map (fun s => (⟨s⟩ : S27)) = ts := hts.symm
  rw [e]
  have loop : ∀ (j i : Nat), i + j = ts.length → Ev (fun k => spec_l04Avoiding.l0 k s ts ((ts.take i).filter (keepT p)) (i : Int)) (ts.filter (keepT p)) := by
    intro j
    induction j with
    | zero =>
      intro i hi
      refine Ev.step (fun k => by rw [spec_l04Avoiding.l0]) ?_
      exact ev_neg (by omega) (ev_now (by rw [List.take_of_length_le (by omega)]))
    | succ j ih =>
      intro i hi
      have hil : i < ts.length := by omega
      have ihn := ih (i + 1) (by omega)
      rw [keep_step p hil] at ihn
      have hll : ((ts.take i).filter (keepT p)).length ≤ i := by
        have h1 := List.length_filter_le (keepT p) (ts.take i)
        have h2 := List.length_take_le i ts
        omega
      refine Ev.step (fun k => by rw [spec_l04Avoiding.l0]) ?_
      refine ev_pos (by omega) (ev_pos (by omega) ?_)
      obtain ⟨ht, hn⟩ := allT_rd hT hil
      refine Ev.bind (spec_l04Nodes_ev ht hn hs hp) ?_
      rw [w64s (by omega)]
      by_cases h0 : ((hitsM (rd_T27 ts (i : Int)).f0 p (rd_T27 ts (i : Int)).f0.length).length : Int) = 0
      · rw [if_neg (by rw [hitT, decide_eq_false (by omega)]; decide)] at ihn
        exact ev_pos h0 (ev_pos (by omega) ihn)
      · rw [if_pos (by rw [hitT, decide_eq_true (by omega)])] at ihn
        exact ev_neg h0 ihn
  exact loop ts.length 0 (by omega)
theorem first_few (n : Int) (s : ByteArray) : (firstM n s).1.length ≤ 1048576 := by
  rw [firstM]
  split
  · cases hp : toP s with
    | none => rw [avM_none hp]; simp
    | some p =>
      by_cases hn : 1 ≤ n ∧ n ≤ 8
      · rw [avM_some hp hn]
        cases hf : (treesM n.toNat).filter (keepT p) with
        | nil => simp
        | cons x xs =>
          have hx : x ∈ (treesM n.toNat).filter (keepT p) := by rw [hf]; exact List.mem_cons_self
          have := (treesM_all (n := n.toNat) (by omega) x ((List.mem_filter.1 hx).1)).2
          show x.f0.length ≤ 1048576
          omega
      · rw [avM_far hp hn]; simp
  · simp
theorem spec_FirstAvoiding_ev (n : Int) (s : ByteArray) (hs : s.size ≤ 1048576) : Ev (fun k => spec_FirstAvoiding.f k n s) (firstM n s) := by
  unfold spec_FirstAvoiding.f
  rw [firstM]
  cases hp : toP s with
  | none =>
    rw [avM_none hp]
    exact Ev.bind (few_none n hs hp) (ev_neg (by decide) (Ev.now _))
  | some p =>
    refine Ev.bind (few_some hs hp) ?_
    by_cases hn : 1 ≤ n ∧ n ≤ 8
    · rw [avM_some hp hn, if_pos hn]
      obtain ⟨m, rfl⟩ := Int.eq_ofNat_of_zero_le (show 0 ≤ n by omega)
      refine ev_pos rfl (Ev.bind (avoid_ev (by omega) (by omega) hs hp) ?_)
      rw [Int.toNat_natCast]
      cases (treesM m).filter (keepT p) with
      | nil => exact ev_pos rfl (Ev.now _)
      | cons x xs => exact ev_neg (by rw [List.length_cons]; omega) (ev_pos (by rw [List.length_cons]; omega) (Ev.now _))
    · rw [avM_far hp hn, if_neg hn]
      exact ev_neg (by decide) (Ev.now _)
end Go.Proofs.Ytjdhjapbggnhkaa.PT
namespace Go.Proofs.Ytjdhjapbggnhkaa.Pure
set_option linter.unusedVariables false
set_option linter.unusedSectionVars false
open Go.RowKit Go.Proofs.YtjdhjapbggnhkaaW.PrintWords Go.Proofs.Ytjdhjapbggnhkaa.Base Go.Proofs.Ytjdhjapbggnhkaa.PT Go.Proofs.Ytjdhjapbggnhkaa.E
theorem FnExactFirstAvoiding (a0 : Int) (a1 : ByteArray) (_ : (Lit.int .i64 a0).wf = true) (_ : a1.size ≤ maxLen) : ∃ k, laws_FnExactFirstAvoiding.f k a0 a1 = some true := by
  apply Ev.rounds
  unfold laws_FnExactFirstAvoiding.f
  by_cases h : (a1.size : Int) > 1048576
  · exact ev_pos h (ev_now rfl)
  · have hr := first_few a0 a1
    refine ev_neg h (Ev.bind (spec_FirstAvoiding_ev a0 a1 (by omega)) (ev_some (Ev.bind (eqTree_ev _ hr) (ev_pos rfl ?_))))
    refine Ev.step (fun k => by rw [laws_FnExactFirstAvoiding.j0]) ?_
    refine ev_neg (by simp) ?_
    refine Ev.bind (markTree_ev _ 1 (by decide) (by decide) hr) (Ev.bind (heldTree_ev _ 1 (by decide) (by decide) hr) (ev_neg (by omega) (ev_pos rfl (ev_some (Ev.bind (eqTree_ev _ hr) (ev_pos rfl ?_))))))
    refine Ev.step (fun k => by rw [laws_FnExactFirstAvoiding.j1]) ?_
    refine ev_neg (by simp) ?_
    exact Ev.bind (heldTree_ev _ 1 (by decide) (by decide) hr) (ev_neg (by omega) (ev_pos rfl (Ev.now _)))
end Go.Proofs.Ytjdhjapbggnhkaa.Pure
namespace Go.Proofs.Ytjdhjapbggnhkaa.Open
set_option linter.unusedVariables false
set_option linter.unusedSectionVars false
open Go.RowKit Go.ChangeShapes Go.WideShapes Go.ChangeAt Go.Deep Go.Proofs.YtjdhjapbggnhkaaW.PrintWords
section
variable {H : Type} {enc : TypeId × Value → H} {P : Program} {w : World} {base : Nat} {held : Bool}

end
end Go.Proofs.Ytjdhjapbggnhkaa.Open
