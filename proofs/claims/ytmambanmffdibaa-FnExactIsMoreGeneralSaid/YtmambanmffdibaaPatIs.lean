/- impl.readWhole, impl.toPattern and impl.IsPattern: what they read. -/
import Derived.Test.YtmambanmffdibaaPatLet
import Derived.Test.YtmambanmffdibaaPatSort
namespace Go.Proofs.Ytmambanmffdibaa.P
set_option linter.unusedVariables false
set_option linter.unusedSectionVars false
open Go.RowKit Go.Proofs.YtmambanmffdibaaW.PrintWords Go.Proofs.YtmambanmffdibaaW.PrintLast Go.Proofs.YtmambanmffdibaaW.PrintMore
/-- The pattern that is a whole text; letters can stand again. -/
def whole (s : ByteArray) : Option Pat := if 60 < s.size then none else (parse 61 s).bind fun x => if x.2.size = 0 then some x.1 else none
/-- What readWhole and toPattern hand back. -/
def WholeR (base : Nat) (o : Option Pat) (e : Ending) (w : World) : Prop :=
  ∃ v, e = .returned (.tuple #[v, .bool o.isSome]) ∧ ∀ p, o = some p → (kP 61).M w base (fun _ => True) p [v]
set_option maxHeartbeats 4000000 in
set_option maxRecDepth 100000 in
theorem readWhole_calls (s : ByteArray) (w : World) : Calls Try.prog 59 #[.string s] w fun e w' => Below w.heap.size w w' ∧ WholeR w.heap.size (whole s) e w' := by
  by_cases h60 : 60 < s.size
  · have hd : decide ((60 : Int) < (s.size : Int)) = true := decide_eq_true (by omega)
    have hw : whole s = none := by rw [whole, if_pos h60]
    rw [hw]
    clear h60
    go_enter Try.func59, Try.ntmps59
    go_wp2
    refine bodyPost_ret (results_tmp2 rfl _ _ _) rfl ?_
    exact ⟨Below.refl _ _, _, rfl, fun p h => by cases h⟩
  · have hd : decide ((60 : Int) < (s.size : Int)) = false := decide_eq_false (by omega)
    have hw : whole s = (parse 61 s).bind fun x => if x.2.size = 0 then some x.1 else none := by rw [whole, if_neg h60]
    have C73 := Aside0.mk (readPattern_calls 61 s w (by omega) (by omega))
    rw [hw]
    clear h60 hw
    cases hp : parse 61 s with
    | none =>
      go_enter Try.func59, Try.ntmps59
      go_wp2_with (first | (go_at_call 73; refine C73.out.mono ?_; rintro e w5 ⟨hb, hr⟩; rw [hp] at hr; have hr' := hr; unfold ReadR at hr'; subst hr'; clear hr; have HB2 := Aside0.mk hb; clear hb))
      refine bodyPost_ret (results_tmp2 rfl _ _ _) rfl ?_
      exact ⟨HB2.out, _, rfl, fun p h => by cases h⟩
    | some x =>
      have hE := isEmpty_eq x.2
      by_cases h0 : x.2.size = 0
      · rw [decide_eq_true h0] at hE
        have e0 : ((some x).bind fun x => if x.2.size = 0 then some x.1 else none) = some x.1 := by rw [Option.bind_some, if_pos h0]
        rw [e0]
        clear h0
        go_enter Try.func59, Try.ntmps59
        go_wp2_with (first | (go_at_call 73; refine C73.out.mono ?_; rintro e w5 ⟨hb, hr⟩; rw [hp] at hr; obtain ⟨v5, rfl, hM⟩ := hr; have HM := Aside0.mk hM; have HB2 := Aside0.mk hb; clear hb hM))
        refine bodyPost_ret (results_tmp2 rfl _ _ _) rfl ?_
        exact ⟨HB2.out, _, rfl, fun p h => by cases h; exact HM.out⟩
      · rw [decide_eq_false h0] at hE
        have e0 : ((some x).bind fun x => if x.2.size = 0 then some x.1 else none) = none := by rw [Option.bind_some, if_neg h0]
        rw [e0]
        clear h0
        go_enter Try.func59, Try.ntmps59
        go_wp2_with (first | (go_at_call 73; refine C73.out.mono ?_; rintro e w5 ⟨hb, hr⟩; rw [hp] at hr; obtain ⟨v5, rfl, hM⟩ := hr; have HM := Aside0.mk hM; have HB2 := Aside0.mk hb; clear hb hM))
        refine bodyPost_ret (results_tmp2 rfl _ _ _) rfl ?_
        exact ⟨HB2.out, _, rfl, fun p h => by cases h⟩
theorem kidsP_good {n : Nat} (hf : ∀ s x, parse n s = some x → goodP n x.1 ∧ (lettersN n x.1).size + x.2.size ≤ s.size) : ∀ (m : Nat) (s : ByteArray) (acc : List Pat) (x : List Pat × ByteArray), (∀ k ∈ acc, goodP n k) → kidsP (parse n) m s acc = some x →
    (∀ k ∈ x.1, goodP n k) ∧ (x.1.foldl (fun a k => a ++ lettersN n k) ByteArray.empty).size + x.2.size ≤ (acc.foldl (fun a k => a ++ lettersN n k) ByteArray.empty).size + s.size
  | 0, s, acc, x, _, h => by simp [kidsP] at h
  | m + 1, s, acc, x, ha, h => by
    rw [kidsP] at h
    split at h
    · obtain rfl := Option.some.inj h
      exact ⟨ha, Nat.le_refl _⟩
    · obtain ⟨y, h1, h2⟩ := Option.bind_eq_some_iff.1 h
      have h3 := hf _ _ h1
      obtain ⟨h4, h5⟩ := kidsP_good hf m _ _ _ (fun k hk => by
        rcases List.mem_append.1 hk with h6 | h6
        · exact ha k h6
        · rw [List.mem_singleton.1 h6]; exact h3.1) h2
      refine ⟨h4, ?_⟩
      rw [List.foldl_append, List.foldl_cons, List.foldl_nil, ByteArray.size_append] at h5
      have := h3.2
      omega
theorem parse_good : ∀ (n : Nat) (s : ByteArray) (x : Pat × ByteArray), parse n s = some x → goodP n x.1 ∧ (lettersN n x.1).size + x.2.size ≤ s.size
  | 0, s, x, h => by simp [parse] at h
  | n + 1, s, x, h => by
    rw [parse] at h
    have e : ∀ r : ByteArray, (r.extract 1 r.size).size = r.size - 1 := fun r => by rw [ByteArray.size_extract]; omega
    split at h
    · cases h
    · split at h
      · rename_i hb
        obtain rfl := Option.some.inj h
        refine ⟨⟨.inr ⟨hb.1, hb.2, rfl⟩, fun k hk => by cases hk⟩, ?_⟩
        have : lettersN (n + 1) (Pat.mk (bt s 0) []) = ⟨#[UInt8.ofNat (bt s 0).toNat]⟩ := by rw [lettersN, if_neg (by show bt s 0 ≠ 0; omega)]; rfl
        rw [this]
        show 1 + (s.extract 1 s.size).size ≤ _
        rw [e]; omega
      · split at h
        · cases h
        · obtain ⟨y, h1, h2⟩ := Option.bind_eq_some_iff.1 h
          obtain ⟨h3, h4⟩ := kidsP_good (parse_good n) _ _ _ _ (fun k hk => by cases hk) h1
          rw [e] at h4
          split at h2
          · cases h2
          · obtain rfl := Option.some.inj h2
            refine ⟨⟨.inl rfl, h3⟩, ?_⟩
            have : lettersN (n + 1) (Pat.mk 0 y.1) = y.1.foldl (fun a k => a ++ lettersN n k) ByteArray.empty := by rw [lettersN, if_pos (show (Pat.mk 0 y.1).letter = 0 from rfl)]; rfl
            rw [this]
            show _ + (y.2.extract 1 y.2.size).size ≤ _
            rw [e]
            simp at h4
            omega
theorem whole_good {s : ByteArray} {p : Pat} (h : whole s = some p) : goodP 61 p ∧ (lettersN 61 p).size ≤ 60 := by
  rw [whole] at h
  split at h
  · cases h
  · obtain ⟨y, h1, h2⟩ := Option.bind_eq_some_iff.1 h
    have h3 := parse_good _ _ _ h1
    split at h2
    · obtain rfl := Option.some.inj h2
      exact ⟨h3.1, by omega⟩
    · cases h2
theorem rd_get (l : List Int) (i : Nat) (h : i < l.length) : rd l (i : Int) = l[i] := by
  show l.getD (i : Int).toNat 0 = _
  rw [Int.toNat_natCast, List.getD_eq_getElem?_getD, List.getElem?_eq_getElem h]
  rfl
theorem noRep_sort (l : List Int) : NoRep (sortL l) ↔ l.Nodup := by
  have hp : (sortL l).Perm l := List.mergeSort_perm _ _
  have hs : (sortL l).Pairwise fun a b => decide (a ≤ b) = true := List.pairwise_mergeSort (fun a b c h1 h2 => by simp at *; omega) (fun a b => by simp; omega) l
  rw [← hp.nodup_iff]
  generalize sortL l = m at hs
  clear hp
  rw [List.pairwise_iff_getElem] at hs
  constructor
  · intro h
    have key : ∀ k i (hi : i + 1 + k < m.length), m[i] < m[i + 1 + k] := by
      intro k
      induction k with
      | zero =>
        intro i hi
        have h1 := hs i (i + 1) (by omega) hi (by omega)
        have h2 := h ((i + 1 : Nat) : Int) (by omega) (by omega)
        rw [rd_get m (i + 1) hi, show ((i + 1 : Nat) : Int) - 1 = (i : Int) by omega, rd_get m i (by omega)] at h2
        simp at h1
        show m[i] < m[i + 1]
        omega
      | succ k ih =>
        intro i hi
        have h1 := ih i (by omega)
        have h2 := hs (i + 1 + k) (i + 1 + (k + 1)) (by omega) hi (by omega)
        simp at h2
        show m[i] < m[i + 1 + (k + 1)]
        omega
    rw [List.nodup_iff_pairwise_ne, List.pairwise_iff_getElem]
    intro i j hi hj hij
    have := key (j - i - 1) i (by omega)
    have e : i + 1 + (j - i - 1) = j := by omega
    simp only [e] at this
    omega
  · intro h i h1 h2
    rw [List.nodup_iff_pairwise_ne, List.pairwise_iff_getElem] at h
    obtain ⟨j, rfl⟩ := Int.eq_ofNat_of_zero_le (show 0 ≤ i - 1 by omega) |>.imp fun j e => (show i = ((j + 1 : Nat) : Int) by omega)
    rw [rd_get m (j + 1) (by omega), show ((j + 1 : Nat) : Int) - 1 = (j : Int) by omega, rd_get m j (by omega)]
    exact (h j (j + 1) (by omega) (by omega) (by omega)).symm
/-- The pattern of a text: no letter twice. -/
def toP (s : ByteArray) : Option Pat := (whole s).bind fun p => if (bytesL (lettersN 61 p)).Nodup then some p else none
set_option maxHeartbeats 4000000 in
set_option maxRecDepth 100000 in
theorem toPattern_calls (s : ByteArray) (w : World) : Calls Try.prog 35 #[.string s] w fun e w' => Below w.heap.size w w' ∧ WholeR w.heap.size (toP s) e w' := by
  have C59 := Aside0.mk (readWhole_calls s w)
  cases hw : whole s with
  | none =>
    have e0 : toP s = none := by rw [toP, hw]; rfl
    rw [e0]
    go_enter Try.func35, Try.ntmps35
    go_wp2_with (first | (go_at_call 59; refine C59.out.mono ?_; rintro e w5 ⟨hb, hr⟩; rw [hw] at hr; obtain ⟨v5, rfl, hM⟩ := hr; have HB2 := Aside0.mk hb; clear hb hM))
    refine bodyPost_ret (results_tmp2 rfl _ _ _) rfl ?_
    exact ⟨HB2.out, _, rfl, fun p h => by cases h⟩
  | some p =>
    obtain ⟨hgd, hsz⟩ := whole_good hw
    have HGD := Aside0.mk hgd
    obtain ⟨L, hL⟩ : ∃ L, lettersN 61 p = L := ⟨_, rfl⟩
    rw [hL] at hsz
    have HS := Aside0.mk hsz
    have hl := bytesL_length L
    have hl2 := sortL_length (bytesL L)
    have HNR := Aside0.mk (noRep_sort (bytesL L))
    have e0 : toP s = if (bytesL L).Nodup then some p else none := by rw [toP, hw, Option.bind_some, hL]
    have hc0 : cloneB.f (sortL (bytesL L)) = some (sortL (bytesL L)) := by rw [cloneB.f, if_pos (by rw [hl2, hl]; omega)]
    have C62 := Aside0.mk (fun A c w hr hc => cloneB.calls A c (sortL (bytesL L)) _ w hr hc hc0)
    have C61 := Aside0.mk (fun v w0 w hB ho => compactB (sortL (bytesL L)) v w0 w hB ho (by rw [hl2, hl]; omega))
    have C60 := Aside0.mk (fun blk cap w hH hb => sortB (bytesL L) blk cap w hH hb (by rw [hl]; omega))
    rw [hl2, hl] at C62
    rw [hl2, hl] at C61
    rw [hl] at C60
    have C53 := Aside0.mk (fun v w h => lettersOf_calls 61 p v w h hgd (by rw [hL]; omega))
    rw [hL] at C53
    have econv := fun w => conv_bytes w L
    have HE := Aside0.mk e0
    have HLE := Aside0.mk hL
    clear e0 hc0 hsz hL hl hl2 hgd
    go_enter Try.func35, Try.ntmps35
    go_wp2_with (first | (go_at_call 59; refine C59.out.mono ?_; rintro e w5 ⟨hb, hr⟩; rw [hw] at hr; obtain ⟨v5, rfl, hM⟩ := hr; obtain ⟨g5, rfl⟩ := M_ptr (hM _ rfl); have HM := Aside0.mk (hM _ rfl); have HB2 := Aside0.mk hb; clear hb hM) | (go_at_call 53; refine (C53.out _ _ ((kP 61).K_of_M HM.out)).mono ?_; rintro e w6 ⟨hb, rfl⟩; have HB6 := Aside0.mk hb; clear hb) | (go_at_call 60; refine (C60.out _ _ _ (holds_bytes _ _ _) (by rw [Lib.bytesWorld_size]; omega)).mono ?_; rintro e w8 ⟨rfl, hC, hb⟩; have HC8 := Aside0.mk hC; have HB8 := Aside0.mk (below_step HB6.out ((below_bytes _ _ _).trans hb)); clear hb hC) | (go_at_call 62; refine (C62.out _ _ _ HC8.out (grownCap_ge _ _ _ _)).mono ?_; rintro e w9 ⟨v9, rfl, hR, hb⟩; have HR9 := Aside0.mk hR; have HB9 := Aside0.mk hb; clear hR hb) | (go_at_call 61; refine (C61.out _ _ _ HB9.out HR9.out).mono ?_; rintro e w10 ⟨A10, m10, c10, rfl, hm, hb⟩; have HM10 := Aside0.mk hm; have HB10 := Aside0.mk hb; clear hm hb))
    refine bodyPost_ret (results_tmp2 rfl _ _ _) rfl ?_
    have HBE : Below w5.heap.size w5 w10 := below_step HB8.out HB10.out
    have hb : (toP s).isSome = ((m10 : Int) == (L.size : Int)) := by
      rw [HE.out]
      by_cases hN : (bytesL L).Nodup
      · rw [if_pos hN, HM10.out.2 (HNR.out.2 hN)]; simp
      · have h1 := mt HM10.out.1 (mt HNR.out.1 hN)
        rw [if_neg hN, Option.isSome_none]
        symm
        exact beq_eq_false_iff_ne.2 (by omega)
    refine ⟨below_step HB2.out HBE, .pointer (some ⟨g5, 0, none⟩), by rw [hb]; rfl, ?_⟩
    intro p2 h
    have e2 : p2 = p := by
      rw [HE.out] at h
      split at h
      · exact (Option.some.inj h).symm
      · cases h
    subst e2
    exact (kP 61).M_mono (fun _ _ => trivial) ((kP 61).M_move (fun k hk => HBE.block k hk.2.2.1) ((kP 61).M_bound HM.out))
/-- IsPattern. -/
def isP (s : ByteArray) : Bool := (toP s).isSome
set_option maxHeartbeats 4000000 in
set_option maxRecDepth 100000 in
theorem isPattern_calls (s : ByteArray) (w : World) : Calls Try.prog 10 #[.string s] w fun e w' => e = .returned (.bool (isP s)) ∧ Below w.heap.size w w' := by
  have C35 := Aside0.mk (toPattern_calls s w)
  go_enter Try.func10, Try.ntmps10
  go_wp2_with (first | (go_at_call 35; refine C35.out.mono ?_; rintro e w5 ⟨hb, v5, rfl, hM⟩; have HB2 := Aside0.mk hb; clear hb hM))
  go_ret
  exact ⟨rfl, HB2.out⟩
end Go.Proofs.Ytmambanmffdibaa.P
