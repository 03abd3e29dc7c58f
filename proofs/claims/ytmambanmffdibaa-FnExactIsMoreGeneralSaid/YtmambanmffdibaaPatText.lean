/- Texts of patterns, and what the reference's l04Behind and l04Match answer on them. -/
import Derived.Test.YtmambanmffdibaaEx2
import Derived.Test.YtmambanmffdibaaPatTh
import Derived.Test.YtmambanmffdibaaPatMatch
namespace Go.Proofs.Ytmambanmffdibaa.PT
set_option linter.unusedVariables false
set_option linter.unusedSectionVars false
open Go.RowKit Go.Proofs.YtmambanmffdibaaW.PrintWords Go.Proofs.Ytmambanmffdibaa.Base Go.Proofs.Ytmambanmffdibaa.P Go.Proofs.Ytmambanmffdibaa.E
/-- The text of a pattern of depth n, as numbers. -/
def tx : Nat → Pat → List Int
  | 0, _ => []
  | n + 1, p => if p.letter = 0 then 40 :: (p.kids.flatMap (tx n) ++ [41]) else [p.letter]
/-- A text out of numbers. -/
def ofL (l : List Int) : ByteArray := ⟨(l.map fun c => UInt8.ofNat c.toNat).toArray⟩
theorem ofL_bytesL (s : ByteArray) : ofL (bytesL s) = s := by
  apply ByteArray.ext
  apply Array.toList_inj.1
  simp only [ofL, bytesL, List.map_map]
  have e : ((fun c : Int => UInt8.ofNat c.toNat) ∘ fun b : UInt8 => (b.toNat : Int)) = id := by funext b; simp
  rw [e, List.map_id]
theorem bytesL_inj {a b : ByteArray} (h : bytesL a = bytesL b) : a = b := by rw [← ofL_bytesL a, h, ofL_bytesL]
theorem bytesL_extract (s : ByteArray) (a b : Nat) : bytesL (s.extract a b) = ((bytesL s).drop a).take (b - a) := by
  simp [bytesL, ByteArray.data_extract, List.map_drop, List.map_take]
theorem bt_list {s : ByteArray} {pre : List Int} {c : Int} {post : List Int} (h : bytesL s = pre ++ c :: post) : bt s (pre.length : Int) = c := by
  have hl : pre.length < s.size := by rw [← bytesL_length, h]; simp
  have h2 : ((pre.length : Nat) : Int).toNat < s.size := by rw [Int.toNat_natCast]; exact hl
  rw [← bt_at _ _ h2]
  have h3 : (bytesL s)[pre.length]? = some c := by rw [h]; simp
  have h4 : (bytesL s)[pre.length]? = some ((s[pre.length]'hl).toNat : Int) := by
    rw [bytesL, List.getElem?_map, Array.getElem?_toList, Array.getElem?_eq_getElem (show pre.length < s.data.size from hl)]
    rfl
  rw [h3] at h4
  exact (Option.some.inj h4).symm
theorem size_list {s : ByteArray} {l : List Int} (h : bytesL s = l) : s.size = l.length := by rw [← h, bytesL_length]
theorem bytesL_cons {s : ByteArray} (h : 0 < s.size) : bytesL s = bt s 0 :: bytesL (s.extract 1 s.size) := by
  have h1 : (0 : Int).toNat < s.size := h
  rw [bytesL_extract, ← bt_at _ _ h1]
  have h2 : 0 < (bytesL s).length := by rw [bytesL_length]; exact h
  have e : (bytesL s)[0] = ((s[(0 : Int).toNat]'h1).toNat : Int) := by
    simp only [bytesL, List.getElem_map, Array.getElem_toList]
    rfl
  rw [← e, List.take_of_length_le (by rw [List.length_drop, bytesL_length]; omega), ← List.drop_eq_getElem_cons h2]
  rfl
theorem kidsP_text {n : Nat} (hf : ∀ s x, parse n s = some x → bytesL s = tx n x.1 ++ bytesL x.2) : ∀ (m : Nat) (s : ByteArray) (x : List Pat × ByteArray), kidsP (parse n) m s [] = some x → bytesL s = x.1.flatMap (tx n) ++ bytesL x.2 ∧ (x.2.size = 0 ∨ bt x.2 0 = 41)
  | 0, s, x, h => by simp [kidsP] at h
  | m + 1, s, x, h => by
    by_cases hst : s.size = 0 ∨ bt s 0 = 41
    · rw [kidsP_stop hst] at h
      obtain rfl := Option.some.inj h
      exact ⟨rfl, hst⟩
    · rw [kidsP_cons hst] at h
      obtain ⟨y, h1, h2⟩ := Option.bind_eq_some_iff.1 h
      obtain ⟨z, h3, rfl⟩ := Option.map_eq_some_iff.1 h2
      obtain ⟨h4, h5⟩ := kidsP_text hf m _ _ h3
      refine ⟨?_, h5⟩
      show _ = (y.1 :: z.1).flatMap (tx n) ++ _
      rw [hf _ _ h1, h4, List.flatMap_cons, List.append_assoc]
theorem parse_text : ∀ (n : Nat) (s : ByteArray) (x : Pat × ByteArray), parse n s = some x → bytesL s = tx n x.1 ++ bytesL x.2
  | 0, s, x, h => by simp [parse] at h
  | n + 1, s, x, h => by
    rw [parse] at h
    split at h
    · cases h
    · rename_i h0
      split at h
      · rename_i hb
        obtain rfl := Option.some.inj h
        rw [bytesL_cons (by omega), tx, if_neg (by show bt s 0 ≠ 0; omega)]
        rfl
      · split at h
        · cases h
        · rename_i hb h40
          obtain ⟨y, h1, h2⟩ := Option.bind_eq_some_iff.1 h
          obtain ⟨h3, h4⟩ := kidsP_text (parse_text n) _ _ _ h1
          split at h2
          · cases h2
          · rename_i hs
            obtain rfl := Option.some.inj h2
            have h5 : bt y.2 0 = 41 := h4.resolve_left hs
            rw [bytesL_cons (by omega), h3, bytesL_cons (s := y.2) (by omega), h5, tx, if_pos (show (Pat.mk 0 y.1).letter = 0 from rfl)]
            have h6 : bt s 0 = 40 := by simpa using h40
            rw [h6]
            show _ = (40 :: (y.1.flatMap (tx n) ++ [41])) ++ _
            simp
theorem toP_text {s : ByteArray} {p : Pat} (h : toP s = some p) : bytesL s = tx 61 p ∧ goodP 61 p := by
  obtain ⟨q, h1, h2⟩ := Option.bind_eq_some_iff.1 h
  split at h2
  · obtain rfl := Option.some.inj h2
    refine ⟨?_, (whole_good h1).1⟩
    rw [whole] at h1
    split at h1
    · cases h1
    · obtain ⟨y, h3, h4⟩ := Option.bind_eq_some_iff.1 h1
      split at h4
      · rename_i hs
        obtain rfl := Option.some.inj h4
        rw [parse_text _ _ _ h3]
        have : bytesL y.2 = [] := List.eq_nil_of_length_eq_zero (by rw [bytesL_length]; exact hs)
        rw [this, List.append_nil]
      · cases h4
  · cases h2
theorem tx_pos {n : Nat} {p : Pat} (h : goodP n p) : ∃ c l, tx n p = c :: l ∧ c ≠ 41 ∧ (p.letter = 0 → c = 40) := by
  cases n with
  | zero => exact h.elim
  | succ n =>
    rw [tx]
    by_cases hz : p.letter = 0
    · rw [if_pos hz]; exact ⟨_, _, rfl, by decide, fun _ => rfl⟩
    · rw [if_neg hz]
      rcases h.1 with h1 | h1
      · exact absurd h1 hz
      · exact ⟨_, _, rfl, by omega, fun h => absurd h hz⟩
/-! l04Behind -/
theorem behind_go (T : ByteArray) (hT : T.size ≤ 1048576) : ∀ (n : Nat) (q : Pat) (pre post : List Int) (d : Nat) (r : Int), goodP n q → bytesL T = pre ++ (tx n q ++ post) → d ≤ 1048576 + pre.length →
    (d = 0 → Ev (fun k => spec_l04Behind.l0 k T (pre.length : Int) (d : Int)) ((pre.length : Int) + (tx n q).length)) ∧
    (0 < d → Ev (fun k => spec_l04Behind.l0 k T ((pre ++ tx n q).length : Int) (d : Int)) r → Ev (fun k => spec_l04Behind.l0 k T (pre.length : Int) (d : Int)) r)
  | 0, q, pre, post, d, r, h, _, _ => h.elim
  | n + 1, q, pre, post, d, r, hg, hb, hd => by
    have hsz := size_list hb
    rw [tx] at hb hsz ⊢
    by_cases hz : q.letter = 0
    · rw [if_pos hz] at hb hsz ⊢
      have kids : ∀ (l : List Pat) (pre2 post2 : List Int) (d2 : Nat), (∀ k ∈ l, goodP n k) → bytesL T = pre2 ++ (l.flatMap (tx n) ++ post2) → 0 < d2 → d2 ≤ 1048576 + pre2.length → ∀ r, Ev (fun k => spec_l04Behind.l0 k T ((pre2 ++ l.flatMap (tx n)).length : Int) (d2 : Int)) r → Ev (fun k => spec_l04Behind.l0 k T (pre2.length : Int) (d2 : Int)) r := by
        intro l
        induction l with
        | nil => intro pre2 post2 d2 _ _ _ _ r h; simpa using h
        | cons k l ih =>
          intro pre2 post2 d2 hl hb2 h0 hd2 r h
          rw [List.flatMap_cons, List.append_assoc] at hb2
          refine (behind_go T hT n k pre2 _ d2 r (hl k List.mem_cons_self) hb2 hd2).2 h0 ?_
          refine ih (pre2 ++ tx n k) post2 d2 (fun x hx => hl x (List.mem_cons_of_mem _ hx)) (by rw [hb2]; simp) h0 (by rw [List.length_append]; omega) r ?_
          rw [List.flatMap_cons, ← List.append_assoc] at h
          exact h
      have hb40 : bt T (pre.length : Int) = 40 := bt_list (post := q.kids.flatMap (tx n) ++ [41] ++ post) (by rw [hb]; simp)
      have hb41 : bt T ((pre ++ 40 :: q.kids.flatMap (tx n)).length : Int) = 41 := bt_list (post := post) (by rw [hb]; simp)
      have hlen : pre.length + (1 + ((q.kids.flatMap (tx n)).length + 1)) + post.length = T.size := by rw [hsz]; simp [-List.length_flatMap]; omega
      have e1 : (((pre ++ [40]).length : Nat) : Int) = (pre.length : Int) + 1 := by simp
      have go : ∀ r, Ev (fun k => spec_l04Behind.l0 k T ((pre ++ 40 :: q.kids.flatMap (tx n)).length : Int) ((d + 1 : Nat) : Int)) r → Ev (fun k => spec_l04Behind.l0 k T (pre.length : Int) (d : Int)) r := by
        intro r h
        refine Ev.step (fun k => by rw [spec_l04Behind.l0]) ?_
        refine ev_pos (by omega) (ev_pos (by omega) (ev_pos hb40 ?_))
        rw [w64 (x := (d : Int) + 1) (by omega) (by omega), w64 (x := (pre.length : Int) + 1) (by omega) (by omega)]
        refine ev_neg (by omega) ?_
        have h2 := kids q.kids (pre ++ [40]) ([41] ++ post) (d + 1) hg.2 (by rw [hb]; simp) (by omega) (by simp [-List.length_flatMap]; omega) r (by simpa using h)
        rw [e1] at h2
        exact h2
      have hlast : (((pre ++ 40 :: q.kids.flatMap (tx n)).length : Nat) : Int) + 1 = ((pre ++ (40 :: (q.kids.flatMap (tx n) ++ [41]))).length : Int) := by simp [-List.length_flatMap]; omega
      constructor
      · rintro rfl
        refine go _ ?_
        refine Ev.step (fun k => by rw [spec_l04Behind.l0]) ?_
        refine ev_pos (by omega) (ev_pos (by simp [-List.length_flatMap]; omega) (ev_neg (by omega) (ev_pos hb41 ?_)))
        rw [w64 (x := ((0 + 1 : Nat) : Int) - 1) (by omega) (by omega), w64 (x := ((pre ++ 40 :: q.kids.flatMap (tx n)).length : Int) + 1) (by omega) (by simp [-List.length_flatMap]; omega)]
        refine ev_pos (by omega) (ev_now ?_)
        simp [-List.length_flatMap]; omega
      · intro h0 h
        refine go _ ?_
        refine Ev.step (fun k => by rw [spec_l04Behind.l0]) ?_
        refine ev_pos (by omega) (ev_pos (by simp [-List.length_flatMap]; omega) (ev_neg (by omega) (ev_pos hb41 ?_)))
        rw [w64 (x := ((d + 1 : Nat) : Int) - 1) (by omega) (by omega), w64 (x := ((pre ++ 40 :: q.kids.flatMap (tx n)).length : Int) + 1) (by omega) (by simp [-List.length_flatMap]; omega)]
        refine ev_neg (by omega) ?_
        rw [hlast, show ((d + 1 : Nat) : Int) - 1 = (d : Int) by omega]
        exact h
    · rw [if_neg hz] at hb hsz ⊢
      have hr : 97 ≤ q.letter ∧ q.letter ≤ 104 := by
        rcases hg.1 with h1 | h1
        · exact absurd h1 hz
        · exact ⟨h1.1, h1.2.1⟩
      have hbc : bt T (pre.length : Int) = q.letter := bt_list (post := post) (by rw [hb]; simp)
      have hlen : pre.length + 1 + post.length = T.size := by rw [hsz]; simp [-List.length_flatMap]; omega
      constructor
      · rintro rfl
        refine Ev.step (fun k => by rw [spec_l04Behind.l0]) ?_
        refine ev_pos (by omega) (ev_pos (by omega) (ev_neg (by omega) (ev_neg (by omega) (ev_pos rfl (ev_now ?_)))))
        rw [w64 (by omega) (by omega)]; simp
      · intro h0 h
        refine Ev.step (fun k => by rw [spec_l04Behind.l0]) ?_
        refine ev_pos (by omega) (ev_pos (by omega) (ev_neg (by omega) (ev_neg (by omega) (ev_neg (by omega) ?_))))
        rw [w64 (by omega) (by omega)]
        simpa using h
/-! l04Match -/
def matchSL (f : Pat → Pat → Option (List ByteArray)) : List Pat → List Pat → Option (List ByteArray)
  | [], [] => some []
  | k :: ks, j :: js => (f k j).bind fun a => (matchSL f ks js).map fun b => a ++ b
  | _, _ => none
/-- The texts at the open places. -/
def matchS : Nat → Nat → Pat → Pat → Option (List ByteArray)
  | 0, _, _, _ => none
  | _, 0, _, _ => none
  | n + 1, nq + 1, p, q => if p.letter ≠ 0 then some [ofL (tx (nq + 1) q)] else if q.letter ≠ 0 then none else matchSL (matchS n nq) p.kids q.kids
theorem matchSL_len {f : Pat → Pat → Option (List ByteArray)} {g : Pat → List Int} (hf : ∀ k j a, f k j = some a → a.length ≤ (g k).length) : ∀ (ks js : List Pat) (a : List ByteArray), matchSL f ks js = some a → a.length ≤ (ks.flatMap g).length
  | [], [], a, h => by obtain rfl := Option.some.inj h; simp
  | [], _ :: _, a, h => by cases h
  | _ :: _, [], a, h => by cases h
  | k :: ks, j :: js, a, h => by
    rw [matchSL] at h
    obtain ⟨x, h1, h2⟩ := Option.bind_eq_some_iff.1 h
    obtain ⟨y, h3, rfl⟩ := Option.map_eq_some_iff.1 h2
    have h4 := hf _ _ _ h1
    have h5 := matchSL_len hf ks js y h3
    rw [List.flatMap_cons, List.length_append, List.length_append]
    omega
theorem matchS_len : ∀ (n nq : Nat) (p q : Pat) (a : List ByteArray), matchS n nq p q = some a → a.length ≤ (tx n p).length
  | 0, nq, p, q, a, h => by cases nq <;> cases h
  | n + 1, 0, p, q, a, h => by cases h
  | n + 1, nq + 1, p, q, a, h => by
    rw [matchS] at h
    rw [tx]
    by_cases hz : p.letter = 0
    · rw [if_neg (fun h => h hz)] at h
      rw [if_pos hz]
      split at h
      · cases h
      · have := matchSL_len (g := tx n) (fun k j a h => matchS_len n nq k j a h) _ _ _ h
        simp only [List.length_cons, List.length_append]
        omega
    · rw [if_pos hz] at h
      obtain rfl := Option.some.inj h
      rw [if_neg hz]
      simp
/-- What the reference's walk does at one pattern. -/
def MatchGo (P T : ByteArray) (o : Option (List ByteArray)) (out : List ByteArray) (a i a2 i2 : Nat) : Prop :=
  (o = none → Ev (fun k => spec_l04Match.l0 k P T out (a : Int) (i : Int)) ([], false)) ∧
  ∀ subs, o = some subs → ∀ res, Ev (fun k => spec_l04Match.l0 k P T (out ++ subs) (a2 : Int) (i2 : Int)) res → Ev (fun k => spec_l04Match.l0 k P T out (a : Int) (i : Int)) res
section
variable {P T : ByteArray} (hP : P.size ≤ 1048576) (hT : T.size ≤ 1048576)
include hP hT
/-- The same bracket on both sides. -/
theorem match_same {out : List ByteArray} {a i : Nat} {c : Int} {res : List ByteArray × Bool} (ha : a < T.size) (hi : i < P.size) (hc : c = 40 ∨ c = 41) (h1 : bt P i = c) (h2 : bt T a = c) (h : Ev (fun k => spec_l04Match.l0 k P T out ((a + 1 : Nat) : Int) ((i + 1 : Nat) : Int)) res) : Ev (fun k => spec_l04Match.l0 k P T out (a : Int) (i : Int)) res := by
  refine Ev.step (fun k => by rw [spec_l04Match.l0]) ?_
  refine ev_pos (by omega) (ev_neg (by omega) (ev_pos (by omega) ?_))
  have key : Ev (fun k => spec_l04Match.j1 k P T out (a : Int) (i : Int) false) res := by
    refine Ev.step (fun k => by rw [spec_l04Match.j1]) ?_
    refine ev_neg (by decide) (ev_pos (by omega) (ev_pos (by omega) (ev_pos (by omega) (ev_pos (by omega) (ev_pos (by rw [h1, h2]) ?_)))))
    rw [w64 (by omega) (by omega), w64 (by omega) (by omega)]
    exact h
  rcases hc with rfl | rfl
  · exact ev_pos h1 key
  · refine ev_neg (by omega) ?_
    rw [bne_eq_false_iff_eq.2 h1]
    exact key
/-- A bracket, and something else. -/
theorem match_differ {out : List ByteArray} {a i : Nat} (ha : a < T.size) (hi : i < P.size) (hc : bt P i = 40 ∨ bt P i = 41) (h : bt P i ≠ bt T a) : Ev (fun k => spec_l04Match.l0 k P T out (a : Int) (i : Int)) ([], false) := by
  refine Ev.step (fun k => by rw [spec_l04Match.l0]) ?_
  refine ev_pos (by omega) (ev_neg (by omega) (ev_pos (by omega) ?_))
  have key : Ev (fun k => spec_l04Match.j1 k P T out (a : Int) (i : Int) false) ([], false) := by
    refine Ev.step (fun k => by rw [spec_l04Match.j1]) ?_
    exact ev_neg (by decide) (ev_pos (by omega) (ev_pos (by omega) (ev_pos (by omega) (ev_pos (by omega) (ev_neg h (ev_now rfl))))))
  rcases hc with h1 | h1
  · exact ev_pos h1 key
  · refine ev_neg (by omega) ?_
    rw [bne_eq_false_iff_eq.2 h1]
    exact key
/-- A letter where the other text closes. -/
theorem match_closed {out : List ByteArray} {a i : Nat} (ha : a < T.size) (hi : i < P.size) (h40 : bt P i ≠ 40) (h41 : bt P i ≠ 41) (h : bt T a = 41) : Ev (fun k => spec_l04Match.l0 k P T out (a : Int) (i : Int)) ([], false) := by
  refine Ev.step (fun k => by rw [spec_l04Match.l0]) ?_
  refine ev_pos (by omega) (ev_neg (by omega) (ev_pos (by omega) (ev_neg h40 ?_)))
  rw [bne_iff_ne.2 h41]
  refine Ev.step (fun k => by rw [spec_l04Match.j1]) ?_
  exact ev_pos rfl (ev_pos (by omega) (ev_pos (by omega) (ev_pos h (ev_now rfl))))
end
theorem extract_mid {T : ByteArray} {pre l post : List Int} (h : bytesL T = pre ++ (l ++ post)) : T.extract pre.length (pre.length + l.length) = ofL l := by
  have h2 : bytesL (T.extract pre.length (pre.length + l.length)) = l := by
    rw [bytesL_extract, h, List.drop_left, show pre.length + l.length - pre.length = l.length by omega, List.take_left]
  rw [← ofL_bytesL (T.extract pre.length (pre.length + l.length)), h2]
theorem match_go {P T : ByteArray} (hP : P.size ≤ 1048576) (hT : T.size ≤ 1048576) : ∀ (n nq : Nat) (p q : Pat) (pre post pre2 post2 : List Int) (out : List ByteArray), goodP n p → goodP nq q → bytesL P = pre ++ (tx n p ++ post) → bytesL T = pre2 ++ (tx nq q ++ post2) → out.length ≤ pre.length →
    MatchGo P T (matchS n nq p q) out pre2.length pre.length (pre2.length + (tx nq q).length) (pre.length + (tx n p).length)
  | 0, nq, p, q, pre, post, pre2, post2, out, h, _, _, _, _ => h.elim
  | n + 1, 0, p, q, pre, post, pre2, post2, out, _, h, _, _, _ => h.elim
  | n + 1, nq + 1, p, q, pre, post, pre2, post2, out, hp, hq, hb, hb2, hout => by
    have hsz := size_list hb
    have hsz2 := size_list hb2
    rw [matchS]
    by_cases hz : p.letter = 0
    · rw [if_neg (fun h => h hz)]
      have htx : tx (n + 1) p = 40 :: (p.kids.flatMap (tx n) ++ [41]) := by rw [tx, if_pos hz]
      rw [htx] at hb hsz ⊢
      have hb40 : bt P (pre.length : Int) = 40 := bt_list (post := p.kids.flatMap (tx n) ++ [41] ++ post) (by rw [hb]; simp)
      have hi : pre.length < P.size := by rw [hsz]; simp
      have ha : pre2.length < T.size := by
        obtain ⟨c, l, e, _⟩ := tx_pos hq
        rw [hsz2, e]; simp
      by_cases hzq : q.letter = 0
      · rw [if_neg (fun h => h hzq)]
        have htx2 : tx (nq + 1) q = 40 :: (q.kids.flatMap (tx nq) ++ [41]) := by rw [tx, if_pos hzq]
        rw [htx2] at hb2 hsz2 ⊢
        have hb240 : bt T (pre2.length : Int) = 40 := bt_list (post := q.kids.flatMap (tx nq) ++ [41] ++ post2) (by rw [hb2]; simp)
        have kids : ∀ (ks js : List Pat) (pr pr2 : List Int) (out : List ByteArray), (∀ k ∈ ks, goodP n k) → (∀ k ∈ js, goodP nq k) → bytesL P = pr ++ (ks.flatMap (tx n) ++ (41 :: post)) → bytesL T = pr2 ++ (js.flatMap (tx nq) ++ (41 :: post2)) → out.length ≤ pr.length →
            MatchGo P T (matchSL (matchS n nq) ks js) out pr2.length pr.length (pr2.length + (js.flatMap (tx nq)).length + 1) (pr.length + (ks.flatMap (tx n)).length + 1) := by
          intro ks
          induction ks with
          | nil =>
            intro js pr pr2 out hks hjs hbp hbt hol
            have e41 : bt P (pr.length : Int) = 41 := bt_list (post := post) (by rw [hbp]; simp)
            have hi2 : pr.length < P.size := by rw [size_list hbp]; simp
            cases js with
            | nil =>
              have f41 : bt T (pr2.length : Int) = 41 := bt_list (post := post2) (by rw [hbt]; simp)
              have ha2 : pr2.length < T.size := by rw [size_list hbt]; simp
              refine ⟨fun h => (by cases h), fun subs h res hev => ?_⟩
              obtain rfl := Option.some.inj h
              refine match_same hP hT ha2 hi2 (.inr rfl) e41 f41 ?_
              simpa using hev
            | cons j js =>
              obtain ⟨c, l, e, hc, _⟩ := tx_pos (hjs j List.mem_cons_self)
              have ec : bt T (pr2.length : Int) = c := bt_list (post := l ++ (js.flatMap (tx nq) ++ (41 :: post2))) (by rw [hbt, List.flatMap_cons, e]; simp)
              have ha2 : pr2.length < T.size := by rw [size_list hbt, List.flatMap_cons, e]; simp
              refine ⟨fun _ => match_differ hP hT ha2 hi2 (.inr e41) (by rw [e41, ec]; exact fun h => hc h.symm), fun subs h => by cases h⟩
          | cons k ks ih =>
            intro js pr pr2 out hks hjs hbp hbt hol
            obtain ⟨c, l, e, hc, hc40⟩ := tx_pos (hks k List.mem_cons_self)
            have ec : bt P (pr.length : Int) = c := bt_list (post := l ++ (ks.flatMap (tx n) ++ (41 :: post))) (by rw [hbp, List.flatMap_cons, e]; simp)
            have hi2 : pr.length < P.size := by rw [size_list hbp, List.flatMap_cons, e]; simp
            cases js with
            | nil =>
              have f41 : bt T (pr2.length : Int) = 41 := bt_list (post := post2) (by rw [hbt]; simp)
              have ha2 : pr2.length < T.size := by rw [size_list hbt]; simp
              refine ⟨fun _ => ?_, fun subs h => by cases h⟩
              by_cases h40 : c = 40
              · exact match_differ hP hT ha2 hi2 (.inl (ec.trans h40)) (by omega)
              · exact match_closed hP hT ha2 hi2 (by omega) (by omega) f41
            | cons j js =>
              rw [List.flatMap_cons, List.append_assoc] at hbp hbt
              have h1 := match_go hP hT n nq k j pr _ pr2 _ out (hks k List.mem_cons_self) (hjs j List.mem_cons_self) hbp hbt hol
              rw [matchSL]
              cases hm : matchS n nq k j with
              | none => exact ⟨fun _ => h1.1 hm, fun subs h => by cases h⟩
              | some x =>
                have hxl := matchS_len _ _ _ _ _ hm
                have h2 := ih js (pr ++ tx n k) (pr2 ++ tx nq j) (out ++ x) (fun z hz => hks z (List.mem_cons_of_mem _ hz)) (fun z hz => hjs z (List.mem_cons_of_mem _ hz)) (by rw [hbp]; simp) (by rw [hbt]; simp) (by rw [List.length_append, List.length_append]; omega)
                rw [List.length_append, List.length_append] at h2
                rw [Option.bind_some, List.flatMap_cons, List.flatMap_cons, List.length_append, List.length_append]
                cases hm2 : matchSL (matchS n nq) ks js with
                | none => exact ⟨fun _ => h1.2 x hm _ (h2.1 hm2), fun subs h => by cases h⟩
                | some y =>
                  refine ⟨fun h => (by cases h), fun subs h res hev => ?_⟩
                  obtain rfl := Option.some.inj h
                  refine h1.2 x hm _ (h2.2 y hm2 _ ?_)
                  rw [List.append_assoc, show pr2.length + (tx nq j).length + (js.flatMap (tx nq)).length + 1 = pr2.length + ((tx nq j).length + (js.flatMap (tx nq)).length) + 1 by omega, show pr.length + (tx n k).length + (ks.flatMap (tx n)).length + 1 = pr.length + ((tx n k).length + (ks.flatMap (tx n)).length) + 1 by omega]
                  exact hev
        have h3 := kids p.kids q.kids (pre ++ [40]) (pre2 ++ [40]) out hp.2 hq.2 (by rw [hb]; simp) (by rw [hb2]; simp) (by simp [-List.length_flatMap]; omega)
        rw [List.length_append, List.length_append] at h3
        refine ⟨fun h => match_same hP hT ha hi (.inl rfl) hb40 hb240 (h3.1 h), fun subs h res hev => match_same hP hT ha hi (.inl rfl) hb40 hb240 (h3.2 subs h res ?_)⟩
        simp only [List.length_cons, List.length_append, List.length_nil] at hev ⊢
        rw [show pre2.length + (0 + 1) + (q.kids.flatMap (tx nq)).length + 1 = pre2.length + ((q.kids.flatMap (tx nq)).length + (0 + 1) + 1) by omega, show pre.length + (0 + 1) + (p.kids.flatMap (tx n)).length + 1 = pre.length + ((p.kids.flatMap (tx n)).length + (0 + 1) + 1) by omega]
        exact hev
      · rw [if_pos hzq]
        have htx2 : tx (nq + 1) q = [q.letter] := by rw [tx, if_neg hzq]
        have hc2 : bt T (pre2.length : Int) = q.letter := bt_list (post := post2) (by rw [hb2, htx2]; simp)
        have hr : 97 ≤ q.letter ∧ q.letter ≤ 104 := by
          rcases hq.1 with h1 | h1
          · exact absurd h1 hzq
          · exact ⟨h1.1, h1.2.1⟩
        exact ⟨fun _ => match_differ hP hT ha hi (.inl hb40) (by omega), fun subs h => by cases h⟩
    · rw [if_pos hz]
      have htx : tx (n + 1) p = [p.letter] := by rw [tx, if_neg hz]
      have hr : 97 ≤ p.letter ∧ p.letter ≤ 104 := by
        rcases hp.1 with h1 | h1
        · exact absurd h1 hz
        · exact ⟨h1.1, h1.2.1⟩
      have hc : bt P (pre.length : Int) = p.letter := bt_list (post := post) (by rw [hb, htx]; simp)
      have hi : pre.length < P.size := by rw [hsz, htx]; simp
      obtain ⟨c, l, e, hc41, _⟩ := tx_pos hq
      have hc2 : bt T (pre2.length : Int) = c := bt_list (post := l ++ post2) (by rw [hb2, e]; simp)
      have hlq : pre2.length + (tx (nq + 1) q).length ≤ T.size := by rw [hsz2]; simp
      have ha : pre2.length < T.size := by rw [e] at hlq; simp at hlq; omega
      have hbe := (behind_go T hT (nq + 1) q pre2 post2 0 0 hq hb2 (by omega)).1 rfl
      refine ⟨fun h => (by cases h), fun subs h res hev => ?_⟩
      obtain rfl := Option.some.inj h
      refine Ev.step (fun k => by rw [spec_l04Match.l0]) ?_
      refine ev_pos (by omega) (ev_neg (by omega) (ev_pos (by omega) (ev_neg (by omega) ?_)))
      rw [bne_iff_ne.2 (show bt P (pre.length : Int) ≠ 41 by omega)]
      refine Ev.step (fun k => by rw [spec_l04Match.j1]) ?_
      refine ev_pos rfl (ev_pos (by omega) (ev_pos (by omega) (ev_neg (by omega) (Ev.bind hbe (ev_pos (by omega) (ev_pos (by omega) (ev_pos (by omega) ?_)))))))
      rw [w64 (x := (pre.length : Int) + 1) (by omega) (by omega), Int.toNat_natCast, show ((pre2.length : Int) + (tx (nq + 1) q).length).toNat = pre2.length + (tx (nq + 1) q).length by omega, extract_mid hb2]
      rw [htx] at hev
      exact hev
/-- The reference's l04Match at the texts of a pattern and of another one. -/
theorem match_ev {P T : ByteArray} (hP : P.size ≤ 1048576) (hT : T.size ≤ 1048576) {n nq : Nat} {p q : Pat} (hp : goodP n p) (hq : goodP nq q) (hb : bytesL P = tx n p) (hb2 : bytesL T = tx nq q) : Ev (fun k => spec_l04Match.f k P T) (match matchS n nq p q with | none => ([], false) | some l => (l, true)) := by
  have h := match_go hP hT n nq p q [] [] [] [] [] hp hq (by simpa using hb) (by simpa using hb2) (Nat.le_refl _)
  have e1 := size_list hb
  have e2 := size_list hb2
  cases hm : matchS n nq p q with
  | none => exact h.1 hm
  | some l =>
    refine h.2 l hm _ ?_
    simp only [List.length_nil, Nat.zero_add, List.nil_append]
    rw [← e1, ← e2]
    refine Ev.step (fun k => by rw [spec_l04Match.l0]) ?_
    refine ev_neg (by omega) (ev_now ?_)
    simp
/-- The program's match answers alike. -/
theorem matchL_isSome {n nq : Nat} : ∀ (ks js : List Pat) (F : Fill), (∀ k ∈ ks, ∀ j ∈ js, ∀ F, (matchP n k j F).1 = (matchS n nq k j).isSome) → ks.length = js.length → (matchL (matchP n) ks js F).1 = (matchSL (matchS n nq) ks js).isSome
  | [], [], F, _, _ => rfl
  | [], _ :: _, F, _, h => by cases h
  | _ :: _, [], F, _, h => by cases h
  | k :: ks, j :: js, F, hf, h => by
    have h1 := hf k List.mem_cons_self j List.mem_cons_self F
    rw [matchL, matchSL]
    cases hm : matchS n nq k j with
    | none =>
      rw [hm] at h1
      rw [if_neg (by rw [h1]; decide)]; rfl
    | some x =>
      rw [hm] at h1
      rw [if_pos (show (matchP n k j F).1 = true from h1), Option.bind_some, matchL_isSome ks js _ (fun a ha b hb => hf a (List.mem_cons_of_mem _ ha) b (List.mem_cons_of_mem _ hb)) (by simpa using h)]
      cases matchSL (matchS n nq) ks js <;> rfl
theorem matchSL_ne {f : Pat → Pat → Option (List ByteArray)} : ∀ (ks js : List Pat), ks.length ≠ js.length → matchSL f ks js = none
  | [], [], h => (h rfl).elim
  | [], _ :: _, _ => rfl
  | _ :: _, [], _ => rfl
  | k :: ks, j :: js, h => by
    rw [matchSL, matchSL_ne ks js (fun e => h (by simp [e]))]
    cases f k j <;> rfl
theorem match_isSome : ∀ (n nq : Nat) (p q : Pat) (F : Fill), goodP n p → goodP nq q → (matchP n p q F).1 = (matchS n nq p q).isSome
  | 0, nq, p, q, F, h, _ => h.elim
  | n + 1, 0, p, q, F, _, h => h.elim
  | n + 1, nq + 1, p, q, F, hp, hq => by
    rw [matchP, matchS]
    by_cases hz : p.letter = 0
    · have g1 : ¬ p.letter ≠ 0 := fun h => h hz
      rw [if_neg g1, if_neg g1]
      by_cases hzq : q.letter = 0
      · have g2 : ¬ q.letter ≠ 0 := fun h => h hzq
        rw [if_neg g2]
        by_cases hl : p.kids.length = q.kids.length
        · have g3 : ¬ (q.letter ≠ 0 ∨ p.kids.length ≠ q.kids.length) := fun h => h.elim g2 (fun h => h hl)
          rw [if_neg g3]
          exact matchL_isSome p.kids q.kids F (fun k hk j hj F => match_isSome n nq k j F (hp.2 k hk) (hq.2 j hj)) hl
        · have g3 : q.letter ≠ 0 ∨ p.kids.length ≠ q.kids.length := .inr hl
          rw [if_pos g3, matchSL_ne _ _ hl]; rfl
      · have g3 : q.letter ≠ 0 ∨ p.kids.length ≠ q.kids.length := .inl hzq
        have g4 : q.letter ≠ 0 := hzq
        rw [if_pos g3, if_pos g4]; rfl
    · have g1 : p.letter ≠ 0 := hz
      rw [if_pos g1, if_pos g1]; rfl
end Go.Proofs.Ytmambanmffdibaa.PT
