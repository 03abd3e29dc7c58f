/- The row of the law FnExactFillPattern, out of its pure statement. -/
import Derived.Test.YtmambanmffdibaaQFPEx0
import Derived.Test.YtmambanmffdibaaQFPEx14
import Derived.Test.YtmambanmffdibaaQFPL
import Derived.Test.YtmambanmffdibaaQFPL1
import Derived.Test.YtmambanmffdibaaQFPL2

namespace Go.Proofs.Ytmambanmffdibaa.PT
set_option linter.unusedVariables false
set_option linter.unusedSectionVars false
open Go.RowKit Go.Proofs.YtmambanmffdibaaW.PrintWords Go.Proofs.Ytmambanmffdibaa.Base Go.Proofs.Ytmambanmffdibaa.P
def mark1 (u : List Bool) (c : Int) : Option (List Bool) := if u.getD (c - 97).toNat false = true then none else some (u.set (c - 97).toNat true)
def marks (u : List Bool) : List Int → Option (List Bool)
  | [] => some u
  | c :: l => (mark1 u c).bind fun v => marks v l
theorem marks_append : ∀ (a b : List Int) (u : List Bool), marks u (a ++ b) = (marks u a).bind fun v => marks v b
  | [], b, u => rfl
  | c :: a, b, u => by
    rw [List.cons_append, marks, marks, Option.bind_assoc]
    congr 1
    funext v
    exact marks_append a b v
theorem marks_length : ∀ (l : List Int) (u v : List Bool), marks u l = some v → v.length = u.length
  | [], u, v, h => by obtain rfl := Option.some.inj h; rfl
  | c :: l, u, v, h => by
    obtain ⟨u1, h1, h2⟩ := Option.bind_eq_some_iff.1 h
    rw [marks_length l _ _ h2]
    rw [mark1] at h1
    split at h1
    · cases h1
    · obtain rfl := Option.some.inj h1; exact List.length_set
theorem marks_some : ∀ (l : List Int) (u : List Bool), u.length = 8 → (∀ c ∈ l, 97 ≤ c ∧ c ≤ 104) → ((marks u l).isSome = true ↔ l.Nodup ∧ ∀ c ∈ l, u.getD (c - 97).toNat false = false)
  | [], u, _, _ => by simp [marks]
  | c :: l, u, hu, hl => by
    have hc := hl c List.mem_cons_self
    rw [marks, mark1]
    by_cases h : u.getD (c - 97).toNat false = true
    · rw [if_pos h, Option.bind_none]
      constructor
      · intro h1; cases h1
      · rintro ⟨_, h2⟩
        rw [h2 c List.mem_cons_self] at h; cases h
    · rw [if_neg h, Option.bind_some, marks_some l _ (by rw [List.length_set]; exact hu) (fun x hx => hl x (List.mem_cons_of_mem _ hx))]
      have hset : ∀ x ∈ l, (u.set (c - 97).toNat true).getD (x - 97).toNat false = if x = c then true else u.getD (x - 97).toNat false := by
        intro x hx
        have hx2 := hl x (List.mem_cons_of_mem _ hx)
        rw [List.getD_eq_getElem?_getD, List.getElem?_set]
        by_cases e : x = c
        · subst e
          rw [if_pos rfl, if_pos (by omega), if_pos rfl]; rfl
        · rw [if_neg (by omega), if_neg e, List.getD_eq_getElem?_getD]
      constructor
      · rintro ⟨h1, h2⟩
        have hn : c ∉ l := fun hm => by
          have := h2 c hm
          rw [hset c hm, if_pos rfl] at this; cases this
        refine ⟨List.nodup_cons.2 ⟨hn, h1⟩, fun x hx => ?_⟩
        rcases List.mem_cons.1 hx with rfl | hx
        · simpa using h
        · have := h2 x hx
          rwa [hset x hx, if_neg (fun (e : x = c) => hn (by rw [← e]; exact hx))] at this
      · rintro ⟨h1, h2⟩
        obtain ⟨hn, h1⟩ := List.nodup_cons.1 h1
        refine ⟨h1, fun x hx => ?_⟩
        rw [hset x hx, if_neg (fun (e : x = c) => hn (by rw [← e]; exact hx))]
        exact h2 x (List.mem_cons_of_mem _ hx)
theorem bytesL_append (a b : ByteArray) : bytesL (a ++ b) = bytesL a ++ bytesL b := by
  simp [bytesL, ByteArray.data_append]
theorem bytesL_letter {b : Int} (h : 97 ≤ b ∧ b ≤ 104) : bytesL ⟨#[UInt8.ofNat b.toNat]⟩ = [b] := by
  have : b = 97 ∨ b = 98 ∨ b = 99 ∨ b = 100 ∨ b = 101 ∨ b = 102 ∨ b = 103 ∨ b = 104 := by omega
  rcases this with rfl | rfl | rfl | rfl | rfl | rfl | rfl | rfl <;> rfl
def letL : Nat → Pat → List Int
  | 0, _ => []
  | n + 1, p => if p.letter = 0 then p.kids.flatMap (letL n) else [p.letter]
theorem bytesL_fold (f : Pat → ByteArray) (g : Pat → List Int) : ∀ (l : List Pat) (acc : ByteArray), (∀ k ∈ l, bytesL (f k) = g k) → bytesL (l.foldl (fun a k => a ++ f k) acc) = bytesL acc ++ l.flatMap g
  | [], acc, _ => by simp
  | k :: l, acc, h => by
    rw [List.foldl_cons, bytesL_fold f g l _ (fun x hx => h x (List.mem_cons_of_mem _ hx)), bytesL_append, h k List.mem_cons_self, List.flatMap_cons, List.append_assoc]
theorem letters_eq : ∀ (n : Nat) (p : Pat), goodP n p → bytesL (lettersN n p) = letL n p
  | 0, p, h => h.elim
  | n + 1, p, h => by
    rw [lettersN, letL]
    split
    · rw [bytesL_fold _ (letL n) _ _ (fun k hk => letters_eq n k (h.2 k hk))]; rfl
    · rename_i hz
      rcases h.1 with h1 | h1
      · exact absurd h1 hz
      · exact bytesL_letter ⟨h1.1, h1.2.1⟩
theorem letL_range : ∀ (n : Nat) (p : Pat), goodP n p → ∀ c ∈ letL n p, 97 ≤ c ∧ c ≤ 104
  | 0, p, h, _, _ => h.elim
  | n + 1, p, h, c, hc => by
    rw [letL] at hc
    split at hc
    · obtain ⟨k, hk, hc⟩ := List.mem_flatMap.1 hc
      exact letL_range n k (h.2 k hk) c hc
    · rename_i hz
      rw [List.mem_singleton] at hc
      subst hc
      rcases h.1 with h1 | h1
      · exact absurd h1 hz
      · exact ⟨h1.1, h1.2.1⟩
def from_ (p : ByteArray) (at_ : Nat) : ByteArray := p.extract at_ p.size
theorem from_size (p : ByteArray) (a : Nat) : (from_ p a).size = p.size - a := by rw [from_, ByteArray.size_extract]; omega
theorem from_zero (p : ByteArray) : from_ p 0 = p := by rw [from_, ByteArray.extract_zero_size]
theorem from_from (p : ByteArray) (a b : Nat) : (from_ p a).extract b (from_ p a).size = from_ p (a + b) := by
  rw [from_size, from_, from_, ByteArray.extract_extract]
  congr 1
  · omega
theorem bt_from (p : ByteArray) (a : Nat) (h : a < p.size) : bt (from_ p a) 0 = bt p a := by
  have h1 : (0 : Int).toNat < (from_ p a).size := by rw [from_size]; show 0 < _; omega
  have h2 : (a : Int).toNat < p.size := by rw [Int.toNat_natCast]; exact h
  rw [← bt_at _ _ h1, ← bt_at _ _ h2]
  congr 2
  have h3 : 0 < (p.extract a p.size).size := by rw [← from_]; exact h1
  have e : (p.extract a p.size)[0]'h3 = p[a]'h := by rw [ByteArray.getElem_extract]; rfl
  exact e
theorem kidsP_acc (f : ByteArray → Option (Pat × ByteArray)) : ∀ (m : Nat) (s : ByteArray) (acc : List Pat), kidsP f m s acc = (kidsP f m s []).map fun x => (acc ++ x.1, x.2)
  | 0, s, acc => rfl
  | m + 1, s, acc => by
    rw [kidsP, kidsP]
    split
    · simp
    · cases f s with
      | none => rfl
      | some y =>
        rw [Option.bind_some, Option.bind_some, kidsP_acc f m y.2 (acc ++ [y.1]), kidsP_acc f m y.2 ([] ++ [y.1]), Option.map_map]
        congr 1
        funext x
        simp
theorem kidsP_cons {f : ByteArray → Option (Pat × ByteArray)} {m : Nat} {s : ByteArray} (h : ¬ (s.size = 0 ∨ bt s 0 = 41)) : kidsP f (m + 1) s [] = (f s).bind fun y => (kidsP f m y.2 []).map fun x => (y.1 :: x.1, x.2) := by
  rw [kidsP_go h]
  congr 1
  funext y
  rw [kidsP_acc]
  rfl
theorem parse_from (p : ByteArray) : ∀ (n : Nat) (a : Nat) (x : Pat × ByteArray), a ≤ p.size → parse n (from_ p a) = some x → ∃ b, x.2 = from_ p b ∧ a < b ∧ b ≤ p.size
  | 0, a, x, _, h => by simp [parse] at h
  | n + 1, a, x, ha, h => by
    have kids : ∀ (m a : Nat) (x : List Pat × ByteArray), a ≤ p.size → kidsP (parse n) m (from_ p a) [] = some x → ∃ b, x.2 = from_ p b ∧ a ≤ b ∧ b ≤ p.size := by
      intro m
      induction m with
      | zero => intro a x _ h; simp [kidsP] at h
      | succ m ih =>
        intro a x ha h
        by_cases hst : (from_ p a).size = 0 ∨ bt (from_ p a) 0 = 41
        · rw [kidsP_stop hst] at h
          obtain rfl := Option.some.inj h
          exact ⟨a, rfl, Nat.le_refl _, ha⟩
        · rw [kidsP_cons hst] at h
          obtain ⟨y, h1, h2⟩ := Option.bind_eq_some_iff.1 h
          obtain ⟨z, h3, rfl⟩ := Option.map_eq_some_iff.1 h2
          obtain ⟨b, e, hb1, hb2⟩ := parse_from p n a y ha h1
          rw [e] at h3
          obtain ⟨c, e2, hc1, hc2⟩ := ih b z hb2 h3
          exact ⟨c, e2, by omega, hc2⟩
    rw [parse] at h
    split at h
    · cases h
    · rename_i h0
      rw [from_size] at h0
      split at h
      · obtain rfl := Option.some.inj h
        exact ⟨a + 1, from_from p a 1, by omega, by omega⟩
      · split at h
        · cases h
        · obtain ⟨y, h1, h2⟩ := Option.bind_eq_some_iff.1 h
          rw [from_from] at h1
          obtain ⟨b, e, hb1, hb2⟩ := kids _ _ _ (by omega) h1
          split at h2
          · cases h2
          · rename_i hs
            obtain rfl := Option.some.inj h2
            rw [e, from_size] at hs
            exact ⟨b + 1, by show y.2.extract 1 y.2.size = _; rw [e, from_from], by omega, by omega⟩
end Go.Proofs.Ytmambanmffdibaa.PT
namespace Go.Proofs.Ytmambanmffdibaa.PT
set_option linter.unusedVariables false
set_option linter.unusedSectionVars false
open Go.RowKit Go.Proofs.YtmambanmffdibaaW.PrintWords Go.Proofs.Ytmambanmffdibaa.Base Go.Proofs.Ytmambanmffdibaa.P Go.Proofs.Ytmambanmffdibaa.E
def tx : Nat → Pat → List Int
  | 0, _ => []
  | n + 1, p => if p.letter = 0 then 40 :: (p.kids.flatMap (tx n) ++ [41]) else [p.letter]
def ofL (l : List Int) : ByteArray := ⟨(l.map fun c => UInt8.ofNat c.toNat).toArray⟩
theorem ofL_bytesL (s : ByteArray) : ofL (bytesL s) = s := by
  apply ByteArray.ext
  apply Array.toList_inj.1
  simp only [ofL, bytesL, List.map_map]
  have e : ((fun c : Int => UInt8.ofNat c.toNat) ∘ fun b : UInt8 => (b.toNat : Int)) = id := by funext b; simp
  rw [e, List.map_id]
theorem bytesL_extract (s : ByteArray) (a b : Nat) : bytesL (s.extract a b) = ((bytesL s).drop a).take (b - a) := by
  simp [bytesL, ByteArray.data_extract, List.map_drop, List.map_take]
theorem bt_list {s : ByteArray} {pre : List Int} {c : Int} {post : List Int} (h : bytesL s = pre ++ c :: post) : bt s (pre.length : Int) = c := by
  have hl : pre.length < s.size := by rw [← bytesL_length, h]; simp
  have h2 : ((pre.length : Nat) : Int).toNat < s.size := by rw [Int.toNat_natCast]; exact hl
  rw [← bt_at _ _ h2]
  have h3 : (bytesL s)[pre.length]? = some c := by rw [h]; simp
  have h4 : (bytesL s)[pre.length]? = some ((s[pre.length]'hl).toNat : Int) := by
    rw [bytesL, List.getElem?_map, Array.getElem?_toList, Array.getElem?_eq_getElem (show pre.length < s.data.size from hl)]
    rfl
  rw [h3] at h4
  exact (Option.some.inj h4).symm
theorem size_list {s : ByteArray} {l : List Int} (h : bytesL s = l) : s.size = l.length := by rw [← h, bytesL_length]
theorem bytesL_cons {s : ByteArray} (h : 0 < s.size) : bytesL s = bt s 0 :: bytesL (s.extract 1 s.size) := by
  have h1 : (0 : Int).toNat < s.size := h
  rw [bytesL_extract, ← bt_at _ _ h1]
  have h2 : 0 < (bytesL s).length := by rw [bytesL_length]; exact h
  have e : (bytesL s)[0] = ((s[(0 : Int).toNat]'h1).toNat : Int) := by
    simp only [bytesL, List.getElem_map, Array.getElem_toList]
    rfl
  rw [← e, List.take_of_length_le (by rw [List.length_drop, bytesL_length]; omega), ← List.drop_eq_getElem_cons h2]
  rfl
theorem kidsP_text {n : Nat} (hf : ∀ s x, parse n s = some x → bytesL s = tx n x.1 ++ bytesL x.2) : ∀ (m : Nat) (s : ByteArray) (x : List Pat × ByteArray), kidsP (parse n) m s [] = some x → bytesL s = x.1.flatMap (tx n) ++ bytesL x.2 ∧ (x.2.size = 0 ∨ bt x.2 0 = 41)
  | 0, s, x, h => by simp [kidsP] at h
  | m + 1, s, x, h => by
    by_cases hst : s.size = 0 ∨ bt s 0 = 41
    · rw [kidsP_stop hst] at h
      obtain rfl := Option.some.inj h
      exact ⟨rfl, hst⟩
    · rw [kidsP_cons hst] at h
      obtain ⟨y, h1, h2⟩ := Option.bind_eq_some_iff.1 h
      obtain ⟨z, h3, rfl⟩ := Option.map_eq_some_iff.1 h2
      obtain ⟨h4, h5⟩ := kidsP_text hf m _ _ h3
      refine ⟨?_, h5⟩
      show _ = (y.1 :: z.1).flatMap (tx n) ++ _
      rw [hf _ _ h1, h4, List.flatMap_cons, List.append_assoc]
theorem parse_text : ∀ (n : Nat) (s : ByteArray) (x : Pat × ByteArray), parse n s = some x → bytesL s = tx n x.1 ++ bytesL x.2
  | 0, s, x, h => by simp [parse] at h
  | n + 1, s, x, h => by
    rw [parse] at h
    split at h
    · cases h
    · rename_i h0
      split at h
      · rename_i hb
        obtain rfl := Option.some.inj h
        rw [bytesL_cons (by omega), tx, if_neg (by show bt s 0 ≠ 0; omega)]
        rfl
      · split at h
        · cases h
        · rename_i hb h40
          obtain ⟨y, h1, h2⟩ := Option.bind_eq_some_iff.1 h
          obtain ⟨h3, h4⟩ := kidsP_text (parse_text n) _ _ _ h1
          split at h2
          · cases h2
          · rename_i hs
            obtain rfl := Option.some.inj h2
            have h5 : bt y.2 0 = 41 := h4.resolve_left hs
            rw [bytesL_cons (by omega), h3, bytesL_cons (s := y.2) (by omega), h5, tx, if_pos (show (Pat.mk 0 y.1).letter = 0 from rfl)]
            have h6 : bt s 0 = 40 := by simpa using h40
            rw [h6]
            show _ = (40 :: (y.1.flatMap (tx n) ++ [41])) ++ _
            simp
theorem toP_text {s : ByteArray} {p : Pat} (h : toP s = some p) : bytesL s = tx 61 p ∧ goodP 61 p := by
  obtain ⟨q, h1, h2⟩ := Option.bind_eq_some_iff.1 h
  split at h2
  · obtain rfl := Option.some.inj h2
    refine ⟨?_, (whole_good h1).1⟩
    rw [whole] at h1
    split at h1
    · cases h1
    · obtain ⟨y, h3, h4⟩ := Option.bind_eq_some_iff.1 h1
      split at h4
      · rename_i hs
        obtain rfl := Option.some.inj h4
        rw [parse_text _ _ _ h3]
        have : bytesL y.2 = [] := List.eq_nil_of_length_eq_zero (by rw [bytesL_length]; exact hs)
        rw [this, List.append_nil]
      · cases h4
  · cases h2
theorem tx_pos {n : Nat} {p : Pat} (h : goodP n p) : ∃ c l, tx n p = c :: l ∧ c ≠ 41 ∧ (p.letter = 0 → c = 40) := by
  cases n with
  | zero => exact h.elim
  | succ n =>
    rw [tx]
    by_cases hz : p.letter = 0
    · rw [if_pos hz]; exact ⟨_, _, rfl, by decide, fun _ => rfl⟩
    · rw [if_neg hz]
      rcases h.1 with h1 | h1
      · exact absurd h1 hz
      · exact ⟨_, _, rfl, by omega, fun h => absurd h hz⟩
section
variable {P T : ByteArray} (hP : P.size ≤ 1048576) (hT : T.size ≤ 1048576)
include hP hT
end
end Go.Proofs.Ytmambanmffdibaa.PT
namespace Go.Proofs.Ytmambanmffdibaa.P
set_option linter.unusedVariables false
set_option linter.unusedSectionVars false
open Go.RowKit Go.Proofs.YtmambanmffdibaaW.PrintWords Go.Proofs.YtmambanmffdibaaW.PrintLast Go.Proofs.YtmambanmffdibaaW.PrintMore Go.Proofs.Ytmambanmffdibaa.Base Go.Proofs.Ytmambanmffdibaa.Tree Go.Proofs.Ytmambanmffdibaa.E Go.Proofs.Ytmambanmffdibaa.PT
theorem toP_size {s : ByteArray} {p : Pat} (h : toP s = some p) : s.size ≤ 60 := by
  obtain ⟨q, h1, _⟩ := Option.bind_eq_some_iff.1 h
  rw [whole] at h1
  split at h1
  · cases h1
  · omega
theorem areTrees_ev (ts : List S31) (hl : ts.length ≤ 1048576) : Ev (fun k => impl_areTrees.f k ts) (ts.all fun x => isTreeM x.f0) := by
  have loop : ∀ (m i : Nat), i + m = ts.length → Ev (fun k => impl_areTrees.l0 k ts (ts.length : Int) (i : Int)) ((ts.drop i).all fun x => isTreeM x.f0) := by
    intro m
    induction m with
    | zero =>
      intro i hi
      rw [List.drop_eq_nil_of_le (by omega)]
      refine Ev.step (fun k => by rw [impl_areTrees.l0]) ?_
      exact ev_neg (by omega) (ev_now rfl)
    | succ m ih =>
      intro i hi
      have hil : i < ts.length := by omega
      have he : rd_T31 ts (i : Int) = ts[i] := by
        show ts.getD (i : Int).toNat z31 = _
        rw [Int.toNat_natCast, List.getD_eq_getElem?_getD, List.getElem?_eq_getElem hil]; rfl
      rw [List.drop_eq_getElem_cons hil, List.all_cons]
      refine Ev.step (fun k => by rw [impl_areTrees.l0]) (ev_pos (by omega) (ev_pos (by omega) (ev_pos (by omega) ?_)))
      rw [he]
      refine Ev.bind (impl_IsTree_ev ts[i].f0) ?_
      by_cases ht : isTreeM ts[i].f0 = true
      · refine ev_pos ht ?_
        rw [ht, Bool.true_and, w64s (by omega)]
        exact ih (i + 1) (by omega)
      · exact ev_neg ht (ev_now (by simp [ht]))
  have := loop ts.length 0 (by omega)
  unfold impl_areTrees.f
  simpa using this
def fillF (L : List Int) (ts : List S31) : Nat → (Int → Option Pat)
  | 0 => fun _ => none
  | i + 1 => fun c => if c = L.getD i 0 then some (treeP (ts.getD i z31).f0 0) else fillF L ts i c
theorem fillF_told (L : List Int) (ts : List S31) : ∀ (m i : Nat), i < m → (fillF L ts m (L.getD i 0)).isSome = true
  | 0, i, h => by omega
  | m + 1, i, h => by
    show (if L.getD i 0 = L.getD m 0 then some (treeP (ts.getD m z31).f0 0) else fillF L ts m (L.getD i 0)).isSome = true
    by_cases e : L.getD i 0 = L.getD m 0
    · rw [if_pos e]; rfl
    · rw [if_neg e]
      exact fillF_told L ts m i (by rcases Nat.lt_succ_iff_lt_or_eq.1 h with h | h; exact h; exact absurd (by rw [h]) e)
theorem told_all : ∀ (n : Nat) (p : Pat) (F : Int → Option Pat), goodP n p → (tx n p).length ≤ 1048576 → (∀ c ∈ letL n p, (F c).isSome = true) → toldP n F p
  | 0, p, F, h, _, _ => h.elim
  | n + 1, p, F, h, hs, hF => by
    refine ⟨fun hz => hF _ (by rw [letL, if_neg hz]; exact List.mem_singleton.2 rfl), ?_⟩
    by_cases hz : p.letter = 0
    · rw [tx, if_pos hz, List.length_cons, List.length_append] at hs
      rw [letL, if_pos hz] at hF
      have hk : ∀ k ∈ p.kids, (tx n k).length ≤ (p.kids.flatMap (tx n)).length := by
        intro k hk
        obtain ⟨i, hi, e⟩ := List.getElem_of_mem hk
        have := deg_take_le (tx n) p.kids (i + 1)
        rw [deg_take (tx n) p.kids i hi, List.length_append, List.getD_eq_getElem?_getD, List.getElem?_eq_getElem hi] at this
        have e2 : (some p.kids[i]).getD default = k := e
        rw [e2] at this
        omega
      refine ⟨fun k hk2 => told_all n k F (h.2 k hk2) (by have := hk k hk2; omega) (fun c hc => hF c (List.mem_flatMap.2 ⟨k, hk2, hc⟩)), ?_⟩
      have hone : ∀ l : List Pat, (∀ k ∈ l, goodP n k) → l.length ≤ (l.flatMap (tx n)).length := by
        intro l
        induction l with
        | nil => intro _; simp
        | cons a l ih =>
          intro hg
          obtain ⟨c, l2, e, _⟩ := tx_pos (hg a List.mem_cons_self)
          have := ih (fun k hk => hg k (List.mem_cons_of_mem _ hk))
          rw [List.flatMap_cons, List.length_append, List.length_cons, e, List.length_cons]
          omega
      have := hone p.kids h.2
      omega
    · rcases h.1 with h1 | h1
      · exact absurd h1 hz
      · rw [h1.2.2]
        exact ⟨fun k hk => (by cases hk), by simp⟩
theorem trM_put {w0 w w1 : World} {s0 gm : Nat} {f : Int → Option Value} {F : Int → Option Pat} {q : Pat} {v : Value} (c : Int) (hT : TrM w0 w s0 24 f F) (hm : MapB w gm f) (hg : w.grownBy w1 (some gm)) (hs : s0 ≤ w1.heap.size) (hM : (kP 24).M w w0.heap.size (fun _ => True) q [v]) :
    TrM w0 w1 w1.heap.size 24 (fun x => if x = c then some v else f x) (fun x => if x = c then some q else F x) := by
  obtain ⟨es, clock, hb, _⟩ := hm
  have key : ∀ {ok : Nat → Prop} {q : Pat} {v : Value}, (kP 24).M w w0.heap.size ok q [v] → (kP 24).M w1 w0.heap.size (fun k => k < w1.heap.size) q [v] := by
    intro ok q v h
    have h2 := (kP 24).M_mono (ok' := fun k => k ≠ gm ∧ k < w.heap.size) (fun k hk => ⟨by
      obtain ⟨_, _, _, e, _, cells, hc⟩ := hk
      rintro rfl
      rw [hc] at hb
      exact absurd hb (by simp), hk.2.2.1⟩) ((kP 24).M_bound h)
    exact (kP 24).M_mono (fun k hk => Nat.lt_of_lt_of_le hk.2 hg.size) (Kd.M_grown h2 hg (fun k hk e => hk.1 (by injection e)))
  intro x q2 hq
  by_cases e : x = c
  · simp only [if_pos e] at hq ⊢
    obtain rfl := Option.some.inj hq
    exact ⟨v, rfl, key hM⟩
  · simp only [if_neg e] at hq ⊢
    obtain ⟨v2, h1, h2⟩ := hT x q2 hq
    exact ⟨v2, h1, key h2⟩
def limM (D : List Int) : List Int × Int := if D.length > 24 then ([], 3) else (D, 0)
def fillM (s : ByteArray) (ts : List S31) : List Int × Int := if (ts.all fun x => isTreeM x.f0) = true then (match toP s with
  | none => ([], 6)
  | some p => if (letL 61 p).length = ts.length then limM (degN 85 (fillN 61 24 (fillF (letL 61 p) ts ts.length) p)) else ([], 2)) else ([], 1)
set_option maxHeartbeats 4000000 in
set_option maxRecDepth 100000 in
theorem fillPattern_calls (s : ByteArray) (ts : List S31) (hts : ts.length ≤ 1048576) (hfew : ∀ p, toP s = some p → (ts.all fun x => isTreeM x.f0) = true → (letL 61 p).length = ts.length → (degN 85 (fillN 61 24 (fillF (letL 61 p) ts ts.length) p)).length ≤ 1048576) {A1 : Option Addr} {c1 : Nat} (hc1 : ts.length ≤ c1) (w : World) (hr : Kd.C k31 w A1 ts.length ts) :
    Calls Try.prog 27 #[.string s, .slice A1 ts.length c1] w fun e w' => ∃ v0, e = .returned (.tuple #[.agg #[v0], .int .i64 (fillM s ts).2]) ∧ Kd.R (Kd.int .i64) 2 w' w.heap.size (fun _ => True) v0 (fillM s ts).1 ∧ Below w.heap.size w w' := by
  have huT := Try.underlying31
  obtain ⟨k1, hk1⟩ := (areTrees_ev ts hts).rounds
  have C52 := Aside0.mk (fun w hr => impl_areTrees.calls k1 A1 c1 ts _ w hr hc1 hk1)
  have C35 := Aside0.mk (toPattern_calls s)
  have HR := Aside0.mk hr
  obtain ⟨r, hrr⟩ : ∃ r, r = fillM s ts := ⟨_, rfl⟩
  rw [← hrr]
  rw [fillM] at hrr
  by_cases ht : (ts.all fun x => isTreeM x.f0) = true
  · rw [if_pos ht] at hrr
    rw [ht] at C52
    cases hp : toP s with
    | none =>
      rw [hp] at hrr
      obtain rfl : r = ([], 6) := hrr
      have HP : Aside0 ((toP s).isSome = false) := ⟨by rw [hp]; rfl⟩
      clear hp ht hr hk1 hts hc1 hfew
      go_enter Try.func27, Try.ntmps27
      go_wp2_with (first | ((with_reducible refine gate_dst (N := 4) rfl ?_); refine box_event ?hg (N := 4) ?hd (cs := #[.slice none 0 0]) (t := 31) ?hr ?_; (case hd => rfl); (case hg => rfl); (case hr => first | (go_simp; done) | (go_simp; rfl)); intro gb hg w3 hbox hb; have BX3 := Aside0.mk hbox; have HB3 := Aside0.mk hb; have GE := Aside0.mk (show w.heap.size ≤ gb by rw [hg]; exact Nat.le_refl _); clear hbox hb hg) | (go_at_call 52; refine (C52.out _ (Kd.C_below HR.out HB3.out)).mono ?_; rintro e w4 ⟨rfl, hb⟩; have HB4 := Aside0.mk (below_step HB3.out hb); have BX4 := Aside0.mk (blk_below BX3.out hb); have hcz4 := (blk_cell BX4.out 0).trans rfl; have hfz4 := blk_frozen BX4.out 0; clear hb) | (go_at_call 35; refine (C35.out _).mono ?_; rintro e w6 ⟨hb, v6, he, hM⟩; rw [HP.out] at he; subst he; have HB6 := Aside0.mk (below_step HB4.out hb); have BX6 := Aside0.mk (blk_below BX4.out hb); have hcz6 := (blk_cell BX6.out 0).trans rfl; have hfz6 := blk_frozen BX6.out 0; clear hb hM hcz4 hfz4))
      refine bodyPost_ret (results_ct rfl _ _ gb 31 #[.slice none 0 0] (0, 0) _ rfl (blk_put (cs := #[.slice none 0 0]) BX6.out 0 _ rfl) Try.underlying31 rfl (by kernel_rfl)) rfl ?_
      exact ⟨_, rfl, Kd.R_nil _ _ _ _ _, below_set HB6.out GE.out⟩
    | some p =>
      obtain ⟨L, hL⟩ : ∃ L, L = letL 61 p := ⟨_, rfl⟩
      have hgood := (toP_text hp).2
      have htx := (toP_text hp).1
      have HP : Aside0 ((toP s).isSome = true) := ⟨by rw [hp]; rfl⟩
      rw [hp] at hrr C35
      rw [hp] at HP
      simp only [← hL] at hrr
      obtain ⟨Ls, hLs⟩ : ∃ Ls, lettersN 61 p = Ls := ⟨_, rfl⟩
      have hbl : bytesL Ls = L := by rw [← hLs, letters_eq 61 p hgood, hL]
      have hll : Ls.size = L.length := by rw [← bytesL_length, hbl]
      have hwg : (lettersN 61 p).size ≤ 60 := by
        obtain ⟨q, hq1, hq2⟩ := Option.bind_eq_some_iff.1 hp
        split at hq2
        · obtain rfl := Option.some.inj hq2
          exact (whole_good hq1).2
        · cases hq2
      have C53 := Aside0.mk (fun v w h => lettersOf_calls 61 p v w h hgood (by omega))
      rw [hLs] at C53 hwg
      by_cases hlen : L.length = ts.length
      · have h85 := hfew p hp ht (by rw [← hL]; exact hlen)
        rw [← hL] at h85
        rw [if_pos hlen] at hrr
        have hne : ((ts.length : Int) != (Ls.size : Int)) = false := bne_eq_false_iff_eq.2 (by omega)
        have TOLD : Aside0 (toldP 61 (fillF L ts ts.length) p) := ⟨by
          refine told_all 61 p _ hgood (by rw [← htx, bytesL_length]; have := toP_size hp; omega) ?_
          rw [← hL]
          intro c hc
          obtain ⟨i, hi, rfl⟩ := List.getElem_of_mem hc
          have := fillF_told L ts ts.length i (by omega)
          rwa [List.getD_eq_getElem?_getD, List.getElem?_eq_getElem hi] at this⟩
        have CT : Aside0 (∀ i, i < ts.length → isTreeM (rd_T31 ts ((i : Nat) : Int)).f0 = true) := ⟨fun i hi => by
          have := List.all_eq_true.1 ht ts[i] (List.getElem_mem hi)
          show isTreeM (ts.getD (i : Int).toNat z31).f0 = true
          rw [Int.toNat_natCast, List.getD_eq_getElem?_getD, List.getElem?_eq_getElem hi]
          exact this⟩
        obtain ⟨D, hD⟩ : ∃ D, D = degN 85 (fillN 61 24 (fillF L ts ts.length) p) := ⟨_, rfl⟩
        rw [← hD] at hrr h85
        have HD := Aside0.mk hD
        have H85 := Aside0.mk h85
        have HRR := Aside0.mk hrr
        have HBL := Aside0.mk hbl
        have HLL := Aside0.mk hll
        have HLN := Aside0.mk hlen
        have HWG := Aside0.mk hwg
        clear hD h85 hrr hbl hll hlen hwg hp ht hr hk1 hts hc1 hfew hL hgood htx hLs
        go_enter Try.func27, Try.ntmps27
        go_wp2_with (first | ((with_reducible refine gate_dst (N := 4) rfl ?_); refine box_event ?hg (N := 4) ?hd (cs := #[.slice none 0 0]) (t := 31) ?hr ?_; (case hd => rfl); (case hg => rfl); (case hr => first | (go_simp; done) | (go_simp; rfl)); intro gb hg w3 hbox hb; have BX3 := Aside0.mk hbox; have HB3 := Aside0.mk hb; have GE := Aside0.mk (show w.heap.size ≤ gb by rw [hg]; exact Nat.le_refl _); clear hbox hb hg) | (go_at_call 52; refine (C52.out _ (Kd.C_below HR.out HB3.out)).mono ?_; rintro e w4 ⟨rfl, hb⟩; have HB4 := Aside0.mk (below_step HB3.out hb); have BX4 := Aside0.mk (blk_below BX3.out hb); have hcz4 := (blk_cell BX4.out 0).trans rfl; have hfz4 := blk_frozen BX4.out 0; clear hb) | (go_at_call 35; refine (C35.out _).mono ?_; rintro e w6 ⟨hb, v6, he, hM⟩; rw [HP.out] at he; subst he; have HK6 := Aside0.mk ((kP 61).K_of_M (hM p rfl)); have HB6 := Aside0.mk (below_step HB4.out hb); have BX6 := Aside0.mk (blk_below BX4.out hb); have hcz6 := (blk_cell BX6.out 0).trans rfl; have hfz6 := blk_frozen BX6.out 0; clear hb hM hcz4 hfz4) | (go_at_call 53; refine (C53.out _ _ HK6.out).mono ?_; rintro e w9 ⟨hb, rfl⟩; have HK9 := Aside0.mk (K_still HK6.out (still_below hb)); have HB9 := Aside0.mk (below_step HB6.out hb); have BX9 := Aside0.mk (blk_below BX6.out hb); have hcz9 := (blk_cell BX9.out 0).trans rfl; have hfz9 := blk_frozen BX9.out 0; clear hb hcz6 hfz6) | (refine mp_make rfl rfl ?_; intro gm hgm w10 hm10 hb10; have HM10 := Aside0.mk hm10; have HB10 := Aside0.mk (below_step HB9.out hb10); have BX10 := Aside0.mk (blk_below BX9.out hb10); have HK10 := Aside0.mk (K_still HK9.out (still_below hb10)); have GM := Aside0.mk (show w.heap.size ≤ gm by rw [hgm]; exact HB9.out.size); clear hm10 hb10 hgm hcz9 hfz9))
        go_loopg [35] (ts.length + 1) (fun kq v35 w' => ∃ (i : Nat) (f : Int → Option Value), v35 = .int .i64 (i : Int) ∧ i + kq = ts.length + 1 ∧ i ≤ ts.length ∧ Aside0 (MapB w' gm f) ∧ Aside0 (TrM w w' w'.heap.size 24 f (fillF L ts i)) ∧ Aside0 (Below w.heap.size w w') ∧ Aside0 (w'.heap[gb]? = some (.cells #[.slice none 0 0] 31 (0, 0))) ∧ Aside0 ((kP 61).K w' p [v6]))
        case atStart => exact ⟨0, fun _ => none, rfl, by omega, by omega, ⟨HM10.out⟩, ⟨fun b q h => by cases h⟩, ⟨HB10.out⟩, ⟨BX10.out⟩, ⟨HK10.out⟩⟩
        case round =>
          clear HM10 HB10 BX10 HK10 BX9 HB9 HK9 HK6 HB6 BX6 BX4 HB4 BX3 HB3
          obtain ⟨i, f, rfl, hk, hil, HM, HT, HB, BX, HK⟩ := hrel
          cases gk with
          | zero =>
            exfalso
            omega
          | succ gk =>
            by_cases hi : i < ts.length
            · have hb1 : decide ((i : Int) < (ts.length : Int)) = true := decide_eq_true (by omega)
              obtain ⟨ad, A0, c0, rfl, hx, hlc, hCi⟩ := at_T31 (Kd.C_below HR.out HB.out) (i : Int) (by omega) (by omega)
              rw [Int.toNat_natCast] at hx
              obtain ⟨hT1, hn1⟩ := isTreeM_sound (CT.out i hi)
              obtain ⟨k54, hk54⟩ := kfM_ok hT1 hn1
              have h0l := hT1.len
              have C54 := Aside0.mk (fun w hd => ofTree_calls (rd_T31 ts (i : Int)).f0 (kfM (rd_T31 ts (i : Int)).f0) k54 hk54 A0 c0 hlc 24 0 w (by omega) (by omega) (by omega) hd)
              have HCi := Aside0.mk hCi
              obtain ⟨b, hb⟩ : ∃ b, b = bt Ls (i : Int) := ⟨_, rfl⟩
              have hbL : b = L.getD i 0 := by
                have h1 : i < L.length := by rw [HLN.out]; exact hi
                have h2 : bytesL Ls = L.take i ++ L[i] :: L.drop (i + 1) := by rw [HBL.out, ← List.drop_eq_getElem_cons h1, List.take_append_drop]
                have h3 := bt_list h2
                rw [List.length_take, Nat.min_eq_left (by omega)] at h3
                rw [hb, h3, List.getD_eq_getElem?_getD, List.getElem?_eq_getElem h1]; rfl
              have hlt : i < Ls.size := by have := HLL.out; have := HLN.out; omega
              have hbe : ((Ls[i]'hlt).toNat : Int) = b := (bt_at Ls (i : Int) hlt).trans hb.symm
              have p1 : (0 ≤ (i : Int)) = True := eq_true (by omega)
              have p2 : ((i : Int) < (Ls.size : Int)) = True := eq_true (by have := HLL.out; have := HLN.out; omega)
              have p3 : ((i : Int) < (ts.length : Int)) = True := eq_true (by omega)
              have p4 : (i < Ls.size) = True := eq_true (by have := HLL.out; have := HLN.out; omega)
              have p5 : (i < ts.length) = True := eq_true hi
              have FF : Aside0 (fillF L ts (i + 1) = fun c => if c = b then some (treeP (rd_T31 ts (i : Int)).f0 0) else fillF L ts i c) := ⟨by rw [fillF, hbL]; rfl⟩
              have hw : wrap64 ((i : Int) + 1) = ((i + 1 : Nat) : Int) := by have := HWG.out; have := HLL.out; have := HLN.out; unfold wrap64; omega
              clear hb hbL hT1 hn1 hk54 h0l hCi hlc
              go_wp2_with (first | ((with_reducible refine gate_dst (N := 11) rfl ?_); refine box_event ?hg (N := 11) ?hd (cs := #[.slice none 0 0]) (t := 31) ?hr ?_; (case hd => rfl); (case hg => rfl); (case hr => first | (go_simp; done) | (go_simp; rfl)); intro gt hg w5 hbox hb; have BT := Aside0.mk hbox; have HBw := Aside0.mk hb; have GT := Aside0.mk (show wr.heap.size ≤ gt by rw [hg]; exact Nat.le_refl _); have hczt := (blk_cell hbox 0).trans rfl; have hfzt := blk_frozen hbox 0; clear hbox hb hg))
              have HW6 : Aside0 (Below wr.heap.size wr (w5.setCell ⟨gt, 0, none⟩ (.slice A0 (rd_T31 ts (i : Int)).f0.length c0)).drew) := ⟨below_drew1 (below_set HBw.out GT.out)⟩
              have BTd : Aside0 ((w5.setCell ⟨gt, 0, none⟩ (.slice A0 (rd_T31 ts (i : Int)).f0.length c0)).drew.heap[gt]? = some (.cells #[.slice A0 (rd_T31 ts (i : Int)).f0.length c0] 31 (0, 0))) := ⟨blk_drew (blk_put BT.out 0 _ rfl)⟩
              refine start_ (n := 8) (S := fun w' => w'.cell? ⟨gt, 0, none⟩ = some (.slice A0 (rd_T31 ts (i : Int)).f0.length c0)) (ds := [7]) #[false, false, false, false, false, false, false, false] (by kernel_rfl) rfl rfl ((blk_cell BTd.out 0).trans rfl) (fun hHeld => ?_)
              generalize (w5.setCell ⟨gt, 0, none⟩ (.slice A0 (rd_T31 ts (i : Int)).f0.length c0)).drew = wx at BTd HW6 hHeld ⊢
              have HB5d := Aside0.mk (below_step HB.out HW6.out)
              have HM5d := Aside0.mk (map_below HM.out HW6.out)
              have HT5d := Aside0.mk (trM_below HT.out HW6.out)
              have HK5d := Aside0.mk (K_still HK.out (still_below HW6.out))
              have BX5d := Aside0.mk (blk_below BX.out HW6.out)
              have HC5d := Aside0.mk (Kd.C_below HCi.out HW6.out)
              have SZ5d := Aside0.mk HW6.out.size
              refine pure_ (i := 0) (N := some 40) (v := ?_) (a' := ?_) #[true, false, false, false, false, false, false, false] rfl rfl (by kernel_rfl) (fun _ _ _ h => h) (Or.inl ⟨by rfl, ?_⟩) ?_ ?_
              rotate_left
              · intro w'
                go_simp
                with_reducible rfl
              rotate_left
              · simp only [Act.put, List.setIfInBounds_toArray, List.set_cons_zero, List.set_cons_succ]
                rfl
              refine pure_ (i := 1) (N := some 41) (v := ?_) (a' := ?_) #[true, true, false, false, false, false, false, false] rfl rfl (by kernel_rfl) (fun _ _ _ h => h) (Or.inl ⟨by rfl, ?_⟩) ?_ ?_
              rotate_left
              · intro w'
                go_simp
                with_reducible rfl
              rotate_left
              · simp only [Act.put, List.setIfInBounds_toArray, List.set_cons_zero, List.set_cons_succ]
                rfl
              refine pure_ (i := 2) (N := some 42) (v := ?_) (a' := ?_) #[true, true, true, false, false, false, false, false] rfl rfl (by kernel_rfl) (fun _ _ _ h => h) (Or.inl ⟨by rfl, ?_⟩) ?_ ?_
              rotate_left
              · intro w'
                go_simp
                with_reducible rfl
              rotate_left
              · simp only [Act.put, List.setIfInBounds_toArray, List.set_cons_zero, List.set_cons_succ]
                rfl
              refine pure_ (i := 3) (N := some 43) (v := ?_) (a' := ?_) #[true, true, true, true, false, false, false, false] rfl rfl (by kernel_rfl) (fun _ _ _ h => h) (Or.inl ⟨by rfl, ?_⟩) ?_ ?_
              rotate_left
              · intro w'
                go_simp
                with_reducible rfl
              rotate_left
              · simp only [Act.put, List.setIfInBounds_toArray, List.set_cons_zero, List.set_cons_succ]
                rfl
              refine pure_ (i := 4) (N := some 44) (v := ?_) (a' := ?_) #[true, true, true, true, true, false, false, false] rfl rfl (by kernel_rfl) (fun _ _ _ h => h) (Or.inl ⟨by rfl, ?_⟩) ?_ ?_
              rotate_left
              · intro w'
                go_simp
                with_reducible rfl
              rotate_left
              · simp only [Act.put, List.setIfInBounds_toArray, List.set_cons_zero, List.set_cons_succ]
                rfl
              refine take_ (i := 5) (N := some 45) (v := ?_) (a' := ?_) #[true, true, true, true, true, true, false, false] rfl rfl (by kernel_rfl) (fun _ _ _ h => h) (Or.inl ⟨by rfl, ?_⟩) hHeld ?_ ?_
              rotate_left
              · rintro w' s0
                go_simp
                with_reducible rfl
              rotate_left
              · simp only [Act.put, List.setIfInBounds_toArray, List.set_cons_zero, List.set_cons_succ]
                rfl
              refine one_ (i := 6) (N := some 46) #[true, true, true, true, true, true, true, false] rfl rfl (by kernel_rfl) (by decide) (fun K hK => ?_)
              refine goes_ Try.func54 (by kernel_rfl) rfl #[.slice A0 (rd_T31 ts (i : Int)).f0.length c0, .int .i64 0] (by rfl) rfl rfl (by (try simp only [List.map_toArray, List.map_cons, List.map_nil]); first | done | rfl) ?_
              refine (C54.out wx HC5d.out).mono ?_
              rintro e w7 ⟨hb, u7, rfl, hM⟩
              have HM7 := Aside0.mk hM
              have HB7 := Aside0.mk hb
              clear hb hM
              refine ⟨_, rfl, ?_⟩
              refine hK.out _ _ ((blk_cell (blk_below BTd.out HB7.out) 0).trans rfl) (fun hHeld => ?_)
              clear hK K
              refine norm_ (a' := ?_) ?_ ?_
              rotate_left
              · show Act.put _ (some 46) _ = _
                simp only [Act.put, List.setIfInBounds_toArray, List.set_cons_zero, List.set_cons_succ]
                rfl
              refine last_ (i := 7) (N := none) #[true, true, true, true, true, true, true, true] rfl rfl (by kernel_rfl) (by decide) (fun K hK => ?_)
              obtain ⟨w8, r8, hm8, hg8⟩ := run_put b u7 (map_below HM5d.out HB7.out)
              refine skip_ (w1 := w8) (by rfl) rfl (by first | (go_simp; done) | (go_simp; rfl)) ?_
              refine hK.out _ _ ?_
              clear hK K
              have HM8 := Aside0.mk hm8
              have HG8 := Aside0.mk hg8
              clear hm8 hg8 r8
              refine done_ (by kernel_rfl) ?_
              go_wp2
              go_roundg gk
              case measure => omega
              case rel =>
                have hb7 := Aside0.mk (below_step HB5d.out HB7.out)
                have hT7 := trM_below HT5d.out HB7.out
                have hM7 := (kP 24).M_lower (below_size HB5d.out) HM7.out
                have hput := trM_put b hT7 (map_below HM5d.out HB7.out) HG8.out (Nat.le_trans (Nat.le_trans SZ5d.out HB7.out.size) HG8.out.size) hM7
                exact ⟨i + 1, _, by first | (rw [hw]; done) | rfl | (congr 1; omega), by omega, by omega, ⟨HM8.out⟩, ⟨by rw [FF.out]; exact hput⟩, ⟨hb7.out.grown HG8.out hb7.out.size (fun k hk => by injection hk with hk; rw [← hk]; exact GM.out)⟩, ⟨blk_grown (blk_below BX5d.out HB7.out) HG8.out (fun e => by
                  injection e with e
                  have h1 := map_below HM5d.out HB7.out
                  obtain ⟨es, cl, h2, _⟩ := h1
                  rw [← e, blk_below BX5d.out HB7.out] at h2
                  cases h2)⟩, ⟨K_still (K_still HK5d.out (still_below HB7.out)) (still_map (map_below HM5d.out HB7.out) HG8.out)⟩⟩
            · have hb1 : decide ((i : Int) < (ts.length : Int)) = false := decide_eq_false (by omega)
              have hid : i = ts.length := by omega
              subst hid
              have C56 := Aside0.mk (fill_calls w wr.heap.size 24 gm f (fillF L ts ts.length) 61 p v6 wr TOLD.out HK.out HB.out (Nat.le_refl _) HM.out HT.out)
              have C57 := Aside0.mk (fun v w h => degrees_calls 85 (fillN 61 24 (fillF L ts ts.length) p) v w h (by rw [← HD.out]; exact H85.out))
              rw [← HD.out] at C57
              have hlim : impl_limited.f D = some (r.1, r.2) := by
                rw [HRR.out, impl_limited.f, limM]
                by_cases h24 : D.length > 24
                · rw [if_pos (by omega), if_pos h24]
                · rw [if_neg (by omega), if_neg h24]
              have HLIM := Aside0.mk hlim
              clear hlim
              go_wp2_with (first | (go_at_call 56; refine C56.out.mono ?_; rintro e w11 ⟨u11, rfl, hM, hb⟩; have HM11 := Aside0.mk hM; have HB11 := Aside0.mk hb; have BX11 := Aside0.mk (blk_below BX.out hb); clear hb hM) | (go_at_call 57; refine (C57.out _ _ ((kP 85).K_of_M HM11.out)).mono ?_; rintro e w12 ⟨v12, rfl, hR, hb⟩; have HR12 := Aside0.mk hR; have HB12 := Aside0.mk hb; clear hb hR) | (go_at_call 55; refine (impl_limited.calls (fun _ => True) v12 D r.1 r.2 w11 w12 HB12.out HR12.out HLIM.out).mono ?_; rintro e w13 ⟨v13, rfl, hR, hb, _⟩; have HR13 := Aside0.mk hR; have HB13 := Aside0.mk hb; have BX13 := Aside0.mk (blk_below BX11.out hb); have hcz13 := (blk_cell BX13.out 0).trans rfl; have hfz13 := blk_frozen BX13.out 0; clear hb hR; obtain ⟨A13, c13, e13⟩ := Kd.R_slice HR13.out; subst e13))
              refine bodyPost_ret (results_ct rfl _ _ gb 31 #[.slice A13 r.1.length c13] (0, 0) _ rfl (blk_put (cs := #[.slice none 0 0]) BX13.out 0 _ rfl) Try.underlying31 rfl (by kernel_rfl)) rfl ?_
              have hgb := blk_lt BX11.out
              have h1 := Kd.R_mono (ok' := fun k => k ≠ gb) (Kd.R_bound HR13.out) (fun k hk => by have := hk.2.1; omega)
              have hb13 := below_step (below_step HB.out HB11.out) HB13.out
              exact ⟨_, rfl, Kd.R_mono (Kd.R_lower (Kd.R_far (p := ⟨gb, 0, none⟩) h1 (fun k hk => hk) _) (Nat.le_trans HB.out.size HB11.out.size)) (fun _ _ => trivial), below_set hb13 GE.out⟩
      · rw [if_neg hlen] at hrr
        subst hrr
        have hne : ((ts.length : Int) != (Ls.size : Int)) = true := bne_iff_ne.2 (by omega)
        clear hlen hp ht hr hk1 hts hc1 hfew hL hgood htx hLs hbl hll hwg
        go_enter Try.func27, Try.ntmps27
        go_wp2_with (first | ((with_reducible refine gate_dst (N := 4) rfl ?_); refine box_event ?hg (N := 4) ?hd (cs := #[.slice none 0 0]) (t := 31) ?hr ?_; (case hd => rfl); (case hg => rfl); (case hr => first | (go_simp; done) | (go_simp; rfl)); intro gb hg w3 hbox hb; have BX3 := Aside0.mk hbox; have HB3 := Aside0.mk hb; have GE := Aside0.mk (show w.heap.size ≤ gb by rw [hg]; exact Nat.le_refl _); clear hbox hb hg) | (go_at_call 52; refine (C52.out _ (Kd.C_below HR.out HB3.out)).mono ?_; rintro e w4 ⟨rfl, hb⟩; have HB4 := Aside0.mk (below_step HB3.out hb); have BX4 := Aside0.mk (blk_below BX3.out hb); have hcz4 := (blk_cell BX4.out 0).trans rfl; have hfz4 := blk_frozen BX4.out 0; clear hb) | (go_at_call 35; refine (C35.out _).mono ?_; rintro e w6 ⟨hb, v6, he, hM⟩; rw [HP.out] at he; subst he; have HK6 := Aside0.mk ((kP 61).K_of_M (hM p rfl)); have HB6 := Aside0.mk (below_step HB4.out hb); have BX6 := Aside0.mk (blk_below BX4.out hb); have hcz6 := (blk_cell BX6.out 0).trans rfl; have hfz6 := blk_frozen BX6.out 0; clear hb hM hcz4 hfz4) | (go_at_call 53; refine (C53.out _ _ HK6.out).mono ?_; rintro e w9 ⟨hb, rfl⟩; have HK9 := Aside0.mk (K_still HK6.out (still_below hb)); have HB9 := Aside0.mk (below_step HB6.out hb); have BX9 := Aside0.mk (blk_below BX6.out hb); have hcz9 := (blk_cell BX9.out 0).trans rfl; have hfz9 := blk_frozen BX9.out 0; clear hb hcz6 hfz6))
        refine bodyPost_ret (results_ct rfl _ _ gb 31 #[.slice none 0 0] (0, 0) _ rfl (blk_put (cs := #[.slice none 0 0]) BX9.out 0 _ rfl) Try.underlying31 rfl (by kernel_rfl)) rfl ?_
        exact ⟨_, rfl, Kd.R_nil _ _ _ _ _, below_set HB9.out GE.out⟩
  · rw [if_neg ht] at hrr
    subst hrr
    rw [Bool.not_eq_true] at ht
    rw [ht] at C52
    clear ht hr hk1 hts hc1 hfew C35
    go_enter Try.func27, Try.ntmps27
    go_wp2_with (first | ((with_reducible refine gate_dst (N := 4) rfl ?_); refine box_event ?hg (N := 4) ?hd (cs := #[.slice none 0 0]) (t := 31) ?hr ?_; (case hd => rfl); (case hg => rfl); (case hr => first | (go_simp; done) | (go_simp; rfl)); intro gb hg w3 hbox hb; have BX3 := Aside0.mk hbox; have HB3 := Aside0.mk hb; have GE := Aside0.mk (show w.heap.size ≤ gb by rw [hg]; exact Nat.le_refl _); clear hbox hb hg) | (go_at_call 52; refine (C52.out _ (Kd.C_below HR.out HB3.out)).mono ?_; rintro e w4 ⟨rfl, hb⟩; have HB4 := Aside0.mk (below_step HB3.out hb); have BX4 := Aside0.mk (blk_below BX3.out hb); have hcz4 := (blk_cell BX4.out 0).trans rfl; have hfz4 := blk_frozen BX4.out 0; clear hb))
    refine bodyPost_ret (results_ct rfl _ _ gb 31 #[.slice none 0 0] (0, 0) _ rfl (blk_put (cs := #[.slice none 0 0]) BX4.out 0 _ rfl) Try.underlying31 rfl (by kernel_rfl)) rfl ?_
    exact ⟨_, rfl, Kd.R_nil _ _ _ _ _, below_set HB4.out GE.out⟩
end Go.Proofs.Ytmambanmffdibaa.P
namespace Go.Proofs.Ytmambanmffdibaa.Tree
set_option linter.unusedVariables false
set_option linter.unusedSectionVars false
open Go.Proofs.Ytmambanmffdibaa.Base
def sub (d : List Int) (v : Nat) : List Int := (d.take (endM d v)).drop v
section
variable {d : List Int} (h : IsT d) {v : Nat} (hv : v < d.length)
include h hv
theorem sub_length : (sub d v).length = endM d v - v := by
  have := end_le h hv
  rw [sub, List.length_drop, List.length_take]; omega
theorem sub_get {i : Nat} (hi : i < endM d v - v) : (sub d v).getD i 0 = d.getD (v + i) 0 := by
  rw [sub, List.getD_eq_getElem?_getD, List.getElem?_drop, List.getElem?_take_of_lt (by omega), ← List.getD_eq_getElem?_getD]
theorem sub_nd : ∀ i, i ≤ endM d v - v → nd (sub d v) i = nd d (v + i) - nd d v + 1
  | 0, _ => by simp [nd]
  | i + 1, hi => by
    rw [nd, sub_nd i (by omega), sub_get h hv (by omega), show v + (i + 1) = (v + i) + 1 by omega, nd]
    omega
theorem sub_tree : IsT (sub d v) := by
  have hl := sub_length h hv
  have hg := end_gt h hv
  refine ⟨fun i hi => ?_, fun i hi => ?_, ?_⟩
  · rw [sub_nd h hv i (by omega)]
    rcases Nat.eq_zero_or_pos i with h0 | h0
    · subst h0
      rw [Nat.add_zero]; omega
    · have := end_in h hv (j := v + i) (by omega) (by omega)
      omega
  · rw [sub_get h hv (by omega)]
    have := end_le h hv
    exact h.deg _ (by omega)
  · rw [hl, sub_nd h hv _ (Nat.le_refl _), show v + (endM d v - v) = endM d v by omega, end_nd h hv]
    omega
theorem sub_end {i : Nat} (hi : i < endM d v - v) : endM (sub d v) i = endM d (v + i) - v := by
  have hl := sub_length h hv
  have hle := end_le h hv
  have hvi : v + i < d.length := by omega
  have hm := end_mono h hv (u := v + i) (by omega) (by omega)
  have hg := end_gt h hvi
  refine (end_unique (sub_tree h hv) (by omega) (by omega) ?_ (fun j h1 h2 => ?_)).symm
  · rw [sub_nd h hv _ (by omega), sub_nd h hv _ (by omega), show v + (endM d (v + i) - v) = endM d (v + i) by omega, end_nd h hvi]
    omega
  · rw [sub_nd h hv _ (by omega), sub_nd h hv _ (by omega)]
    have := end_in h hvi (j := v + j) (by omega) (by omega)
    omega
theorem sub_kidsFrom {m c e : Nat} (r : Run d m (v + c) e) (he : e ≤ endM d v) : kidsFrom (sub d v) m c = (kidsFrom d m (v + c)).map fun x => x - v := by
  induction m generalizing c with
  | zero => rfl
  | succ m ih =>
    cases r with
    | cons hc r =>
      have h1 := end_gt h hc
      have h2 := run_bd h r
      rw [kidsFrom, kidsFrom, List.map_cons, show v + c - v = c by omega]
      congr 1
      rw [sub_end h hv (by omega)]
      have e2 : v + (endM d (v + c) - v) = endM d (v + c) := by omega
      have := ih (c := endM d (v + c) - v) (by rw [e2]; exact r)
      rw [this, e2]
theorem sub_kids {i : Nat} (hi : i < endM d v - v) : kidsM (sub d v) i = (kidsM d (v + i)).map fun x => x - v := by
  have hle := end_le h hv
  have hvi : v + i < d.length := by omega
  rw [kidsM, kidsM, sub_get h hv hi]
  have := sub_kidsFrom h hv (m := (d.getD (v + i) 0).toNat) (c := i + 1) (e := endM d (v + i)) (by have := run_kids h hvi; rwa [show v + i + 1 = v + (i + 1) by omega] at this) (end_mono h hv (by omega) (by omega))
  rw [this, show v + (i + 1) = v + i + 1 by omega]
theorem sub_sub {i : Nat} (hi : i < endM d v - v) : sub (sub d v) i = sub d (v + i) := by
  have hle := end_le h hv
  have hvi : v + i < d.length := by omega
  have hm := end_mono h hv (u := v + i) (by omega) (by omega)
  have hg := end_gt h hvi
  rw [sub, sub_end h hv hi]
  show ((((d.take (endM d v)).drop v).take (endM d (v + i) - v)).drop i) = (d.take (endM d (v + i))).drop (v + i)
  rw [List.take_drop, List.take_take, List.drop_drop, show min (v + (endM d (v + i) - v)) (endM d v) = endM d (v + i) by omega]
end
theorem run_sum {d : List Int} (h : IsT d) {m c e : Nat} (r : Run d m c e) : ((kidsFrom d m c).map fun x => 2 * (endM d x - x)).sum = 2 * (e - c) := by
  induction r with
  | nil c => simp [kidsFrom]
  | cons hc r ih =>
    have h1 := end_gt h hc
    have h2 := run_bd h r
    rw [kidsFrom, List.map_cons, List.sum_cons, ih]
    omega
end Go.Proofs.Ytmambanmffdibaa.Tree
namespace Go.Proofs.Ytmambanmffdibaa.P
set_option linter.unusedVariables false
set_option linter.unusedSectionVars false
open Go.RowKit Go.Proofs.YtmambanmffdibaaW.PrintWords Go.Proofs.Ytmambanmffdibaa.Base Go.Proofs.Ytmambanmffdibaa.Tree Go.Proofs.Ytmambanmffdibaa.E Go.Proofs.Ytmambanmffdibaa.PT
theorem flat_eq {α β : Type} {f g : α → List β} : ∀ l : List α, (∀ c ∈ l, f c = g c) → l.flatMap f = l.flatMap g
  | [], _ => rfl
  | c :: l, h => by rw [List.flatMap_cons, List.flatMap_cons, h c List.mem_cons_self, flat_eq l (fun x hx => h x (List.mem_cons_of_mem _ hx))]
theorem sub_cons {d : List Int} (h : IsT d) {v : Nat} (hv : v < d.length) : sub d v = d.getD v 0 :: (d.take (endM d v)).drop (v + 1) := by
  have hg := end_gt h hv
  have hl : v < (d.take (endM d v)).length := by rw [List.length_take]; omega
  rw [sub, List.drop_eq_getElem_cons hl, List.getElem_take, List.getD_eq_getElem?_getD, List.getElem?_eq_getElem hv]
  rfl
theorem run_flat {d : List Int} (h : IsT d) {m c e : Nat} (r : Run d m c e) (he : e ≤ d.length) : (kidsFrom d m c).flatMap (sub d) = (d.take e).drop c := by
  induction r with
  | nil c => rw [kidsFrom, List.flatMap_nil, List.drop_eq_nil_of_le (by rw [List.length_take]; omega)]
  | @cons m c e hc r ih =>
    have h1 := end_gt h hc
    have h2 := run_bd h r
    rw [kidsFrom, List.flatMap_cons, ih he, sub]
    have e1 : (d.take e).drop c = ((d.take e).drop c).take (endM d c - c) ++ ((d.take e).drop c).drop (endM d c - c) := (List.take_append_drop _ _).symm
    rw [e1, List.drop_drop, show c + (endM d c - c) = endM d c by omega]
    congr 1
    rw [List.take_drop, List.take_take, show min (c + (endM d c - c)) e = endM d c by omega]
theorem deg_tree {d : List Int} (h : IsT d) : ∀ (n m v : Nat), v < d.length → d.length - v ≤ n → n ≤ m → degN m (ofT (kfM d) n (v : Int)) = sub d v
  | 0, m, v, hv, hn, _ => by omega
  | n + 1, 0, v, hv, hn, hm => by omega
  | n + 1, m + 1, v, hv, hn, hm => by
    have hd := h.deg v hv
    have e1 : (ofT (kfM d) (n + 1) (v : Int)).kids = (kidsM d v).map fun c => ofT (kfM d) n ((c : Nat) : Int) := by
      show (kfM d (v : Int)).map (ofT (kfM d) n) = _
      rw [kfM, Int.toNat_natCast, castL, List.map_map]; rfl
    rw [degN, e1, List.length_map, sub_cons h hv, List.flatMap_map]
    have e2 : (kidsM d v).flatMap (fun c => degN m (ofT (kfM d) n ((c : Nat) : Int))) = (kidsM d v).flatMap (sub d) := by
      apply flat_eq
      intro c hc
      have := kid_mem h hv hc
      exact deg_tree h n m c this.2.1 (by omega) (by omega)
    rw [e2, kidsM, run_flat h (run_kids h hv) (end_le h hv), kidsFrom_length]
    congr 1
    omega
theorem deg_few {F : Int → Option Pat} (hF : ∀ c q, F c = some q → ∀ m, 24 ≤ m → (degN m q).length ≤ 24) : ∀ (n : Nat) (p : Pat), goodP n p → (degN (n + 24) (fillN n 24 F p)).length ≤ 24 * (tx n p).length
  | 0, p, h => h.elim
  | n + 1, p, h => by
    rw [fillN, tx]
    by_cases hz : p.letter = 0
    · rw [if_pos hz, if_pos hz, show n + 1 + 24 = (n + 24) + 1 by omega, degN]
      have key : ∀ l : List Pat, (∀ k ∈ l, goodP n k) → ((l.map (fillN n 24 F)).flatMap (degN (n + 24))).length ≤ 24 * (l.flatMap (tx n)).length := by
        intro l
        induction l with
        | nil => intro _; simp
        | cons k l ih =>
          intro hg
          have h1 := deg_few hF n k (hg k List.mem_cons_self)
          have h2 := ih (fun x hx => hg x (List.mem_cons_of_mem _ hx))
          rw [List.map_cons, List.flatMap_cons, List.flatMap_cons, List.length_append, List.length_append]
          omega
      have h3 := key p.kids h.2
      have e : (Pat.mk 0 (p.kids.map (fillN n 24 F))).kids = p.kids.map (fillN n 24 F) := rfl
      rw [e, List.length_cons, List.length_cons, List.length_append]
      omega
    · rw [if_neg hz, if_neg hz]
      cases hc : F p.letter with
      | none =>
        show (degN (n + 1 + 24) (Pat.mk 0 [])).length ≤ _
        rw [show n + 1 + 24 = (n + 24) + 1 by omega, degN]
        show (((0 : Nat) : Int) :: ([] : List Pat).flatMap (degN (n + 24))).length ≤ _
        simp
      | some q =>
        have := hF _ _ hc (n + 1 + 24) (by omega)
        show (degN (n + 1 + 24) q).length ≤ _
        simp only [List.length_cons, List.length_nil]
        omega
theorem fillF_few {L : List Int} {ts : List S31} (ht : (ts.all fun x => isTreeM x.f0) = true) : ∀ (i : Nat), i ≤ ts.length → ∀ c q, fillF L ts i c = some q → ∃ t ∈ ts, q = treeP t.f0 0
  | 0, _, c, q, h => by cases h
  | i + 1, hi, c, q, h => by
    change (if c = L.getD i 0 then some (treeP (ts.getD i z31).f0 0) else fillF L ts i c) = some q at h
    by_cases e : c = L.getD i 0
    · rw [if_pos e] at h
      refine ⟨ts[i], List.getElem_mem (by omega), ?_⟩
      rw [← Option.some.inj h, List.getD_eq_getElem?_getD, List.getElem?_eq_getElem (by omega)]
      rfl
    · rw [if_neg e] at h
      exact fillF_few ht i (by omega) c q h
theorem deg_treeP {d : List Int} (h : isTreeM d = true) {m : Nat} (hm : 24 ≤ m) : degN m (treeP d 0) = d := by
  obtain ⟨hT, hn⟩ := isTreeM_sound h
  have := deg_tree hT 24 m 0 hT.len (by omega) hm
  have e : sub d 0 = d := by rw [sub, end_root hT, List.take_length, List.drop_zero]
  rw [e] at this
  exact this
theorem fill_few (s : ByteArray) (ts : List S31) : ∀ p, toP s = some p → (ts.all fun x => isTreeM x.f0) = true → (letL 61 p).length = ts.length → (degN 85 (fillN 61 24 (fillF (letL 61 p) ts ts.length) p)).length ≤ 1048576 := by
  intro p hp ht _
  have h1 : (degN 85 (fillN 61 24 (fillF (letL 61 p) ts ts.length) p)).length ≤ 24 * (tx 61 p).length := deg_few (F := fillF (letL 61 p) ts ts.length) (fun c q hq m hm => by
    obtain ⟨t, h1, rfl⟩ := fillF_few ht _ (Nat.le_refl _) c q hq
    have h2 : isTreeM t.f0 = true := List.all_eq_true.1 ht t h1
    rw [deg_treeP h2 hm]
    exact (isTreeM_sound h2).2) 61 p (toP_text hp).2
  have h2 := toP_size hp
  rw [← (toP_text hp).1, bytesL_length] at h1
  omega
end Go.Proofs.Ytmambanmffdibaa.P
