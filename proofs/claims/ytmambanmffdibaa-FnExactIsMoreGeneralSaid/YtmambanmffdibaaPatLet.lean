/- The letters of a pattern: lettersOf. -/
import Derived.Test.YtmambanmffdibaaPatRead
namespace Go.Proofs.Ytmambanmffdibaa.P
set_option linter.unusedVariables false
set_option linter.unusedSectionVars false
open Go.RowKit Go.Proofs.YtmambanmffdibaaW.PrintWords Go.Proofs.YtmambanmffdibaaW.PrintLast Go.Proofs.YtmambanmffdibaaW.PrintMore
/-- The letters of a pattern of depth n, in order. -/
def lettersN : Nat → Pat → ByteArray
  | 0, _ => ByteArray.empty
  | n + 1, p => if p.letter = 0 then p.kids.foldl (fun acc k => acc ++ lettersN n k) ByteArray.empty else ⟨#[UInt8.ofNat p.letter.toNat]⟩
/-- Letters stand at ends alone, and are a to h. -/
def goodP : Nat → Pat → Prop
  | 0, _ => False
  | n + 1, p => (p.letter = 0 ∨ (97 ≤ p.letter ∧ p.letter ≤ 104 ∧ p.kids = [])) ∧ ∀ k ∈ p.kids, goodP n k
theorem fold_le (f : Pat → ByteArray) : ∀ (l : List Pat) (acc : ByteArray), acc.size ≤ (l.foldl (fun acc k => acc ++ f k) acc).size
  | [], acc => Nat.le_refl _
  | k :: l, acc => by
    have h := fold_le f l (acc ++ f k)
    rw [ByteArray.size_append] at h
    simp only [List.foldl_cons]
    omega
theorem fold_take (f : Pat → ByteArray) (l : List Pat) (i : Nat) (h : i < l.length) : (l.take (i + 1)).foldl (fun acc k => acc ++ f k) ByteArray.empty = (l.take i).foldl (fun acc k => acc ++ f k) ByteArray.empty ++ f (l.getD i default) := by
  rw [List.take_add_one, List.getElem?_eq_getElem h, List.foldl_append, List.getD_eq_getElem?_getD, List.getElem?_eq_getElem h]
  rfl
theorem fold_take_le (f : Pat → ByteArray) (l : List Pat) (i : Nat) : ((l.take i).foldl (fun acc k => acc ++ f k) ByteArray.empty).size ≤ (l.foldl (fun acc k => acc ++ f k) ByteArray.empty).size := by
  have h := fold_le f (l.drop i) ((l.take i).foldl (fun acc k => acc ++ f k) ByteArray.empty)
  rwa [← List.foldl_append, List.take_append_drop] at h
theorem enc_letter {b : Int} (h : 97 ≤ b ∧ b ≤ 104) : Utf8.encode b = ⟨#[UInt8.ofNat b.toNat]⟩ := by
  have : b = 97 ∨ b = 98 ∨ b = 99 ∨ b = 100 ∨ b = 101 ∨ b = 102 ∨ b = 103 ∨ b = 104 := by omega
  rcases this with rfl | rfl | rfl | rfl | rfl | rfl | rfl | rfl <;> rfl
set_option maxHeartbeats 4000000 in
set_option maxRecDepth 100000 in
theorem lettersOf_calls : ∀ (n : Nat) (p : Pat) (v : Value) (w : World), (kP n).K w p [v] → goodP n p → (lettersN n p).size ≤ 1048576 →
    Calls Try.prog 53 #[v] w fun e w' => Below w.heap.size w w' ∧ e = .returned (.string (lettersN n p))
  | 0, p, v, w, h, _, _ => h.elim
  | n + 1, p, v, w, h, hgood, hs => by
    have ih := lettersOf_calls n
    obtain ⟨m, g, A, c, hm, rfl, h0, h1, hl, hC⟩ := K_open h
    obtain rfl : m = n := by omega
    by_cases hz : p.letter = 0
    · have e : lettersN (m + 1) p = p.kids.foldl (fun acc k => acc ++ lettersN m k) ByteArray.empty := by rw [lettersN, if_pos hz]
      rw [hz] at h0
      rw [e] at hs
      rw [e]
      clear e
      have HC := Aside0.mk hC
      have HK := Aside0.mk h
      have HS := Aside0.mk hs
      clear h hC hs
      go_enter Try.func53, Try.ntmps53
      go_wp2
      go_loopg [3, 22] (p.kids.length + 1) (fun kq v3 v22 w' => ∃ (i : Nat) (out : ByteArray), v22 = .int .i64 (i : Int) ∧ v3 = .string out ∧ i + kq = p.kids.length + 1 ∧ i ≤ p.kids.length ∧ Aside0 (out = (p.kids.take i).foldl (fun acc k => acc ++ lettersN m k) ByteArray.empty) ∧ Aside0 (Below w.heap.size w w'))
      case atStart => exact ⟨0, ByteArray.empty, rfl, rfl, by omega, by omega, ⟨rfl⟩, ⟨Below.refl _ _⟩⟩
      case round =>
        obtain ⟨i, out, rfl, rfl, hk, hil, hout, HB⟩ := hrel
        cases gk with
        | zero =>
          exfalso
          omega
        | succ gk =>
          by_cases hi : i < p.kids.length
          · have hb1 : decide ((i : Int) < (p.kids.length : Int)) = true := decide_eq_true (by omega)
            obtain ⟨ad, u, rfl, hx, hK⟩ := at_P (Kd.C_below HC.out HB.out) i hi
            obtain ⟨m1, g1, A1, c1, hm1, rfl, _⟩ := K_open hK
            have hgk : goodP m (p.kids.getD i default) := hgood.2 _ (by rw [List.getD_eq_getElem?_getD, List.getElem?_eq_getElem hi]; exact List.getElem_mem hi)
            have hf := fold_take (lettersN m) p.kids i hi
            have hs := HS.out
            have hle := fold_take_le (lettersN m) p.kids (i + 1)
            rw [hf, ByteArray.size_append, ← hout.out] at hle
            have IH := Aside0.mk (fun w h => ih (p.kids.getD i default) (.pointer (some ⟨g1, 0, none⟩)) w h hgk (by omega))
            have HKd := Aside0.mk hK
            obtain ⟨L, hL⟩ : ∃ L, L = lettersN m (p.kids.getD i default) := ⟨_, rfl⟩
            rw [← hL] at hle hf
            rw [← hL] at IH
            clear hK hL
            have hmx := HC.out.2.1
            have hw : wrap64 ((i : Int) + 1) = ((i + 1 : Nat) : Int) := by unfold wrap64; omega
            have hf2 := hf
            clear hf
            have hf2 := Aside0.mk hf2
            have hi2 : (i < p.kids.length) = True := eq_true hi
            have hs1 : decide (out.size + L.size ≤ 9223372036854775807) = true := decide_eq_true (by omega)
            have hs2 : (9223372036854775807 < out.size + L.size) = False := eq_false (by omega)
            have HMX := Aside0.mk hmx
            have HLE := Aside0.mk hle
            clear hmx hle hs
            go_wp2_with (first | (go_at_call 53; refine (IH.out _ HKd.out).mono ?_; rintro e w5 ⟨hb, rfl⟩; have HB2 := Aside0.mk (below_step HB.out hb); clear hb))
            go_roundg gk
            case measure => omega
            case rel => exact ⟨i + 1, out ++ L, by first | (rw [hw]; done) | rfl | (congr 1; omega), rfl, by omega, by omega, ⟨by rw [hf2.out, ← hout.out]⟩, ⟨HB2.out⟩⟩
          · have hb1 : decide ((i : Int) < (p.kids.length : Int)) = false := decide_eq_false (by omega)
            have ho := hout.out
            rw [List.take_of_length_le (by omega)] at ho
            have HO := Aside0.mk ho
            clear ho hout
            go_wp2
            go_ret
            exact ⟨HB.out, by show Ending.returned (Value.string out) = _; rw [HO.out]⟩
    · have e : lettersN (m + 1) p = ⟨#[UInt8.ofNat p.letter.toNat]⟩ := by rw [lettersN, if_neg hz]
      rw [e]
      have hr : 97 ≤ p.letter ∧ p.letter ≤ 104 := by
        rcases hgood.1 with h | h
        · exact absurd h hz
        · exact ⟨h.1, h.2.1⟩
      clear e hs hgood h hC
      obtain ⟨b, hb⟩ : ∃ b, p.letter = b := ⟨_, rfl⟩
      rw [hb] at hz h0 hr ⊢
      clear hb
      have hz2 : (b != 0) = true := bne_iff_ne.2 hz
      go_enter Try.func53, Try.ntmps53
      go_wp2
      go_ret
      exact ⟨Below.refl _ _, by show Ending.returned (Value.string (Utf8.encode b)) = _; rw [enc_letter hr]⟩
end Go.Proofs.Ytmambanmffdibaa.P
