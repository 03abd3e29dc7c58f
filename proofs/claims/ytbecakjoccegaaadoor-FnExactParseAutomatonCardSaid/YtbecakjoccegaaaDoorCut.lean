/- A text cut at a letter by the reference, and by the library's own function; numbers read from digits. -/
import Derived.Test.YtbecakjoccegaaaDoorBase
import Derived.Lib.SplitLaws
import Derived.Test.YtbecakjoccegaaaDoorEx1
import Derived.Test.YtbecakjoccegaaaDoorEx2
namespace Go.Proofs.YtbecakjoccegaaaDoor.E
set_option linter.unusedVariables false
set_option linter.unusedSectionVars false
open Go.RowKit Go.Proofs.YtbecakjoccegaaaDoorW.PrintWords Go.Proofs.YtbecakjoccegaaaDoor.Base

theorem index_none (c : UInt8) : ∀ (l : List UInt8), (∀ (j : Nat) (b : UInt8), l[j]? = some b → b ≠ c) → Lib.index l [c] = -1
  | [], _ => by unfold Lib.index; rfl
  | b :: l, h => by
    have hb : b ≠ c := h 0 b rfl
    have ih := index_none c l (fun j x hx => h (j + 1) x (by simpa using hx))
    have hp : ([c] : List UInt8).isPrefixOf (b :: l) = false := by simp [List.isPrefixOf, Ne.symm hb]
    unfold Lib.index
    rw [hp, ih]; rfl
theorem index_at (c : UInt8) : ∀ (l : List UInt8) (i : Nat), l[i]? = some c → (∀ (j : Nat) (b : UInt8), j < i → l[j]? = some b → b ≠ c) → Lib.index l [c] = (i : Int)
  | [], i, h, _ => by simp at h
  | b :: l, 0, h, _ => by
    obtain rfl : b = c := by simpa using h
    unfold Lib.index
    rw [if_pos (by simp [List.isPrefixOf])]; rfl
  | b :: l, i + 1, h, hk => by
    have hb : b ≠ c := hk 0 b (by omega) rfl
    have ih := index_at c l i (by simpa using h) (fun j x hj hx => hk (j + 1) x (by omega) (by simpa using hx))
    have hp : ([c] : List UInt8).isPrefixOf (b :: l) = false := by simp [List.isPrefixOf, Ne.symm hb]
    unfold Lib.index
    rw [hp, ih]
    have hne : ((i : Int) == -1) = false := by rw [beq_eq_false_iff_ne]; omega
    simp [hne]
/-- The letter c as a text. -/
def one (c : UInt8) : ByteArray := ⟨#[c]⟩
theorem one_size (c : UInt8) : (one c).size = 1 := rfl
/-- A text cut at c. -/
def cut (c : UInt8) (s : ByteArray) : List ByteArray := Lib.splitB (one c) 0 (Lib.countB s (one c)) s
theorem bt_get {s : ByteArray} {i : Nat} (h : i < s.size) : bt s (i : Int) = ((s.data.toList[i]'(by rw [← Lib.size_eq]; exact h)).toNat : Int) := by
  unfold bt
  rw [dif_pos (by simpa using h)]
  rfl
theorem bt_eq {s : ByteArray} {i : Nat} {c : UInt8} (h : i < s.size) : bt s (i : Int) = (c.toNat : Int) ↔ s.data.toList[i]? = some c := by
  rw [bt_get h, List.getElem?_eq_getElem (by rw [← Lib.size_eq]; exact h)]
  constructor
  · intro e
    have e' : (s.data.toList[i]'(by rw [← Lib.size_eq]; exact h)).toNat = c.toNat := by exact_mod_cast e
    rw [UInt8.toNat_inj.1 e']
  · intro e
    rw [Option.some.inj e]
theorem ext_data {a b : ByteArray} (h : a.data.toList = b.data.toList) : a = b := by
  cases a; cases b
  congr
  exact Array.toList_inj.1 h
section
variable {s : ByteArray} {c : UInt8}
theorem tail_list (a : Nat) : (s.extract a s.size).data.toList = s.data.toList.drop a := Lib.extract_to_end s a
theorem cut_none {a : Nat} (hk : ∀ j, a ≤ j → j < s.size → bt s (j : Int) ≠ (c.toNat : Int)) : cut c (s.extract a s.size) = [s.extract a s.size] := by
  have hi : Lib.indexB (s.extract a s.size) (one c) = -1 := by
    show Lib.index _ [c] = -1
    rw [tail_list]
    refine index_none c _ (fun j b hb e => ?_)
    subst e
    rw [List.getElem?_drop] at hb
    have hl : a + j < s.size := by
      rw [Lib.size_eq]
      rcases Nat.lt_or_ge (a + j) s.data.toList.length with h | h
      · exact h
      · rw [List.getElem?_eq_none h] at hb; cases hb
    exact hk (a + j) (by omega) hl ((bt_eq hl).2 hb)
  unfold cut
  rw [Lib.countB_miss _ _ hi, Lib.splitB_zero]
theorem cut_at {a i : Nat} (ha : a ≤ i) (hi : i < s.size) (hc : bt s (i : Int) = (c.toNat : Int)) (hk : ∀ j, a ≤ j → j < i → bt s (j : Int) ≠ (c.toNat : Int)) :
    cut c (s.extract a s.size) = s.extract a i :: cut c (s.extract (i + 1) s.size) := by
  have hix : Lib.indexB (s.extract a s.size) (one c) = ((i - a : Nat) : Int) := by
    show Lib.index _ [c] = _
    rw [tail_list]
    refine index_at c _ (i - a) ?_ (fun j b hj hb e => ?_)
    · rw [List.getElem?_drop, show a + (i - a) = i by omega]
      exact (bt_eq hi).1 hc
    · subst e
      rw [List.getElem?_drop] at hb
      exact hk (a + j) (by omega) (by omega) ((bt_eq (by omega)).2 hb)
  have e1 : (s.extract a s.size).extract 0 (i - a + 0) = s.extract a i := by
    apply ext_data
    rw [Lib.extract_data, tail_list, Lib.extract_data]
    simp
  have e2 : (s.extract a s.size).extract (i - a + (one c).size) (s.extract a s.size).size = s.extract (i + 1) s.size := by
    apply ext_data
    rw [Lib.extract_to_end, Lib.extract_to_end, tail_list, List.drop_drop, one_size]
    congr 1
    omega
  unfold cut
  rw [Lib.countB_hit _ _ (i - a) (by rw [one_size]; exact Nat.le_refl 1) hix, Nat.add_comm 1, Lib.splitB_hit _ _ _ _ (i - a) hix, e1, e2]
theorem split_loop (hn : s.size ≤ 1048576) : ∀ (m i a : Nat) (out : List ByteArray), i + m = s.size → a ≤ i → out.length ≤ i → (∀ j, a ≤ j → j < i → bt s (j : Int) ≠ (c.toNat : Int)) →
    Ev (fun k => spec_l01Split.l0 k s (c.toNat : Int) out (a : Int) (i : Int)) (out ++ cut c (s.extract a s.size))
  | 0, i, a, out, hi, ha, ho, hk => by
    refine Ev.step (fun k => by rw [spec_l01Split.l0]) ?_
    rw [cut_none (fun j h1 h2 => hk j h1 (by omega))]
    exact ev_neg (by omega) (ev_pos (by omega) (ev_pos (by omega) (ev_pos (by omega) (Ev.now _))))
  | m + 1, i, a, out, hi, ha, ho, hk => by
    refine Ev.step (fun k => by rw [spec_l01Split.l0]) ?_
    refine ev_pos (by omega) (ev_pos (by omega) (ev_ite (fun hc => ?_) (fun hc => ?_)))
    · rw [cut_at ha (by omega) hc hk, w64s (by omega)]
      refine ev_pos (by omega) (ev_pos (by omega) (ev_pos (by omega) (ev_pos (by omega) ?_)))
      have ih := split_loop hn m (i + 1) (i + 1) (out ++ [s.extract a i]) (by omega) (by omega) (by simp; omega) (fun j h1 h2 => by omega)
      simpa using ih
    · rw [w64s (by omega)]
      refine split_loop hn m (i + 1) a out (by omega) (by omega) (by omega) (fun j h1 h2 => ?_)
      rcases Nat.lt_or_ge j i with h | h
      · exact hk j h1 h
      · obtain rfl : j = i := by omega
        exact hc
end
theorem extract_all (s : ByteArray) : s.extract 0 s.size = s := by
  apply ext_data
  rw [Lib.extract_to_end, List.drop_zero]
theorem l01Split_ev (s : ByteArray) (c : UInt8) (hn : s.size ≤ 1048576) : Ev (fun k => spec_l01Split.f k s (c.toNat : Int)) (cut c s) := by
  unfold spec_l01Split.f
  have h := split_loop (c := c) hn s.size 0 0 [] (by omega) (by omega) (by simp) (fun j h1 h2 => by omega)
  rw [extract_all] at h
  exact h
theorem strings_Split_eq (s : ByteArray) (c : UInt8) (hn : s.size ≤ 1048576) : strings_Split.f s (one c) = some (cut c s) := by
  unfold strings_Split.f cut
  rw [if_pos ⟨by omega, by rw [one_size]; exact Nat.le_refl 1⟩]
/-- The sizes of the pieces, together. -/
def sumB : List ByteArray → Nat
  | [] => 0
  | x :: l => x.size + sumB l
theorem sum_split (c : UInt8) : ∀ (k : Nat) (s : ByteArray), Lib.countB s (one c) = k → sumB (Lib.splitB (one c) 0 k s) + k = s.size
  | 0, s, _ => by simp [Lib.splitB_zero, sumB]
  | k + 1, s, hk => by
    rcases Lib.indexB_cases s (one c) with hix | ⟨i, hix, hr⟩
    · rw [Lib.countB_miss _ _ hix] at hk; omega
    · have hr' : i + 1 ≤ s.size := hr
      have h1 := Lib.countB_hit s (one c) i (by rw [one_size]; exact Nat.le_refl 1) hix
      have ih := sum_split c k (s.extract (i + (one c).size) s.size) (by omega)
      rw [Lib.splitB_hit _ _ _ _ i hix]
      simp only [sumB]
      have e1 : (s.extract 0 (i + 0)).size = i := by rw [ByteArray.size_extract]; omega
      have e2 : (s.extract (i + (one c).size) s.size).size = s.size - (i + 1) := by rw [ByteArray.size_extract, one_size]; omega
      omega
theorem cut_sizes (c : UInt8) (s : ByteArray) : sumB (cut c s) + (cut c s).length = s.size + 1 := by
  have h1 := sum_split c _ s rfl
  have h2 := Lib.splitB_all (one c) (by rw [one_size]; exact Nat.le_refl 1) 0 _ s rfl
  unfold cut
  omega
/-! Digits -/
def digit (b : Int) : Int := if 48 ≤ b ∧ b ≤ 57 then (b - 48) % 256 else -1
def isDig (b : Int) : Bool := decide (48 ≤ b) && decide (b ≤ 57)
def digs (s : ByteArray) : List Int := (List.range' 0 s.size).map (fun (j : Nat) => digit (bt s (j : Int)))
def allD (s : ByteArray) : Bool := (List.range' 0 s.size).all (fun (j : Nat) => isDig (bt s (j : Int)))
theorem digs_length (s : ByteArray) : (digs s).length = s.size := by simp [digs]
theorem digs_getD (s : ByteArray) {i : Nat} (h : i < s.size) : (digs s).getD i 0 = digit (bt s (i : Int)) := by
  unfold digs
  rw [List.getD_eq_getElem?_getD, List.getElem?_map, List.getElem?_range' h]
  simp
theorem digit_nn {b : Int} : 0 ≤ digit b ↔ isDig b = true := by
  unfold digit isDig
  rw [Bool.and_eq_true, decide_eq_true_eq, decide_eq_true_eq]
  split <;> omega
theorem allD_of (s : ByteArray) (h : ∀ i, i < s.size → 0 ≤ (digs s).getD i 0) : allD s = true := by
  unfold allD
  rw [List.all_eq_true]
  intro j hj
  have hj' : j < s.size := by simpa using hj
  have := h j hj'
  rw [digs_getD s hj'] at this
  exact digit_nn.1 this
theorem digitsOf_loop (s : ByteArray) (hn : s.size ≤ 1048576) : ∀ (m i : Nat) (out : List Int), i + m = s.size → out.length = i →
    Ev (fun k => impl_digitsOf.l0 k s out (s.size : Int) (i : Int)) (out ++ (List.range' i m).map (fun (j : Nat) => digit (bt s (j : Int))))
  | 0, i, out, hi, ho => by
    refine Ev.step (fun k => by rw [impl_digitsOf.l0]) ?_
    exact ev_neg (by omega) (ev_now (by simp))
  | m + 1, i, out, hi, ho => by
    have ih := digitsOf_loop s hn m (i + 1) (out ++ [digit (bt s (i : Int))]) (by omega) (by simp; omega)
    rw [List.append_assoc, List.singleton_append] at ih
    rw [List.range'_succ, List.map_cons]
    refine Ev.step (fun k => by rw [impl_digitsOf.l0]) ?_
    rw [w64s (by omega)]
    refine ev_pos (by omega) (ev_pos (by omega) (ev_pos (by omega) (ev_ite (fun h1 => ?_) (fun h1 => ?_))))
    · refine ev_ite (fun h2 => ?_) (fun h2 => ?_)
      · have e : digit (bt s (i : Int)) = (bt s (i : Int) - 48) % 256 := by unfold digit; rw [if_pos ⟨h1, h2⟩]
        rw [e] at ih ⊢
        exact ev_pos (by omega) ih
      · have e : digit (bt s (i : Int)) = -1 := by unfold digit; rw [if_neg (fun h => h2 h.2)]
        rw [e] at ih ⊢
        exact ev_pos (by omega) ih
    · have e : digit (bt s (i : Int)) = -1 := by unfold digit; rw [if_neg (fun h => h1 h.1)]
      rw [e] at ih ⊢
      exact ev_pos (by omega) ih
theorem digitsOf_ev (s : ByteArray) (hn : s.size ≤ 1048576) : Ev (fun k => impl_digitsOf.f k s) (digs s) := by
  unfold impl_digitsOf.f
  have h := digitsOf_loop s hn s.size 0 [] (by omega) rfl
  exact h
theorem l06Read_loop (s : ByteArray) (hn : s.size ≤ 1048576) : ∀ (m i : Nat) (out : List Int), i + m = s.size → out.length = i →
    Ev (fun k => spec_l06Read.l0 k s out (i : Int)) (if (List.range' i m).all (fun (j : Nat) => isDig (bt s (j : Int))) = true then (out ++ (List.range' i m).map (fun (j : Nat) => digit (bt s (j : Int))), true) else ([], false))
  | 0, i, out, hi, ho => by
    refine Ev.step (fun k => by rw [spec_l06Read.l0]) ?_
    exact ev_neg (by omega) (ev_now (by simp))
  | m + 1, i, out, hi, ho => by
    have ih := l06Read_loop s hn m (i + 1) (out ++ [digit (bt s (i : Int))]) (by omega) (by simp; omega)
    rw [List.append_assoc, List.singleton_append] at ih
    rw [List.range'_succ, List.map_cons, List.all_cons]
    refine Ev.step (fun k => by rw [spec_l06Read.l0]) ?_
    rw [w64s (by omega)]
    refine ev_pos (by omega) (ev_pos (by omega) (ev_ite (fun h1 => ?_) (fun h1 => ?_)))
    · have e : isDig (bt s (i : Int)) = false := by unfold isDig; rw [decide_eq_false (by omega)]; rfl
      rw [e, Bool.false_and, if_neg (by decide)]
      exact Ev.now _
    · refine ev_ite (fun h2 => ?_) (fun h2 => ?_)
      · have e : isDig (bt s (i : Int)) = false := by unfold isDig; rw [decide_eq_false (p := bt s (i : Int) ≤ 57) (by omega), Bool.and_false]
        rw [e, Bool.false_and, if_neg (by decide)]
        exact Ev.now _
      · have e : isDig (bt s (i : Int)) = true := by unfold isDig; rw [decide_eq_true (by omega), decide_eq_true (by omega)]; rfl
        have e2 : digit (bt s (i : Int)) = (bt s (i : Int) - 48) % 256 := by unfold digit; rw [if_pos (by omega)]
        rw [e, Bool.true_and]
        rw [e2] at ih ⊢
        exact ev_pos (by omega) ih
theorem l06Read_ev (s : ByteArray) (hn : s.size ≤ 1048576) : Ev (fun k => spec_l06Read.f k s) (if allD s = true then (digs s, true) else ([], false)) := by
  unfold spec_l06Read.f
  have h := l06Read_loop s hn s.size 0 [] (by omega) rfl
  exact h
end Go.Proofs.YtbecakjoccegaaaDoor.E
