/- slices.Clone and slices.Compact at bytes: the copy, and whether something falls away. -/
import Derived.Test.YtmambanmffdibaaPatBase
namespace Go.Proofs.Ytmambanmffdibaa.P
set_option linter.unusedVariables false
set_option linter.unusedSectionVars false
open Go.RowKit Go.Proofs.YtmambanmffdibaaW.PrintWords Go.Proofs.YtmambanmffdibaaW.PrintLast Go.Proofs.YtmambanmffdibaaW.PrintMore
theorem info5 : (Try.prog.info? 5).map (fun i => (i.zero, i.size, i.bytes)) = some (some (.int .u8 0), 1, 1) := by kernel_rfl
def cloneB.f (l0 : List Int) : Option (List Int) := if l0.length < 17592186044416 then some l0 else none
set_option maxHeartbeats 8000000 in
set_option maxRecDepth 100000 in
theorem cloneB.calls (A0 : Option Addr) (c0 : Nat) (l0 : List Int) (r : List Int) (w : World) (hr0 : Kd.C (Kd.int .u8) w A0 l0.length l0) (hc0 : l0.length ≤ c0) (h : cloneB.f l0 = some r) :
    Calls Try.prog 62 #[.slice A0 l0.length c0] w fun e w' => ∃ v0_ : Value, e = .returned (v0_) ∧ Kd.R (Kd.int .u8) 5 w' w.heap.size (fun _ => True) v0_ r ∧ Below w.heap.size w w' := by
  unfold cloneB.f at h
  by_cases c2 : l0.length < 17592186044416
  · rw [if_pos c2] at h
    obtain rfl := Option.some.inj h
    rcases A0 with _ | ad
    · have hl : l0.length = 0 := by
        rcases Nat.eq_zero_or_pos l0.length with h0 | h0
        · exact h0
        · obtain ⟨_, h1, _⟩ := hr0.2.2 h0
          cases h1
      have hl0 : l0 = [] := List.eq_nil_of_length_eq_zero hl
      subst hl0
      have e0 := fun w : World => Lib.run_eql_slice_nil (P := Try.prog) w 84 5 none 0 c0 0 0 Try.underlying84
      show Calls Try.prog 62 #[.slice none 0 c0] w _
      go_enter Try.func62, Try.ntmps62
      go_wp2
      go_ret
      exact ⟨_, rfl, Kd.R_nil _ _ _ _ _, Below.refl _ _⟩
    · have HR0 := Aside0.mk hr0
      have HC0 := Aside0.mk hc0
      clear hr0 hc0 h
      have LMc2 := Aside0.mk c2
      clear c2
      have HB := Aside0.mk (Below.refl w.heap.size w)
      have e0 := fun w : World => Lib.run_eql_slice_nil (P := Try.prog) w 84 5 (some ad) l0.length c0 0 0 Try.underlying84
      go_enter Try.func62, Try.ntmps62
      go_wp2_with (first | ((with_reducible refine gate_dst (N := 5) rfl ?_); refine Kd.R_lit (Kd.int .u8) _ 5 ?hg (N := 5) ?hd (xs := ([] : List Int)) (inner := []) (ok := fun _ => True) (okp := fun _ => True) ?hr ?hp (fun _ hk => hk) trivial (Below.refl _ _) (Nat.le_refl _) (by simp) ?_; (case hd => rfl); (case hg => rfl); (case hr => first | (go_simp; done) | (go_simp; rfl)); (case hp => exact (Reps.none _ _)); intro v149 w3 ho4 hb hg_ hnew_; clear hg_ hnew_; have n0_ := Aside0.mk (Kd.R_lower ho4 (below_size (by repeat (first | (with_reducible first | exact HB.out | apply below_alloc | apply pw_below_drewN | apply below_drew1) | exact HB.out)))); have n1_ := Aside0.mk (below_step (by repeat (first | (with_reducible first | exact HB.out | apply below_alloc | apply pw_below_drewN | apply below_drew1) | exact HB.out)) hb); clear HB; have HO150 := n0_; have HB := n1_; clear n0_ n1_; clear hb ho4) | ((with_reducible refine gate_builtin (b := .append) (xs := #[.tmp 5, .tmp 6]) rfl ?_); at_builtin; refine Kd.R_append_rows (Kd.int .u8) (w0 := w) w.heap.size rfl (.tmp 5) (.tmp 6) 84 5 (.int .u8 0) 1 rfl Try.underlying84 info5 rfl (by decide) (by omega) v149 ([] : List Int) l0 _ _ _ (fun _ => True) (fun _ => False) rfl rfl ?aO ?aR (fun _ _ h => h) (fun _ h => h.elim) ?aF ?aB ?aS ?aL ?_; (case aR => repeat (first | exact (Kd.C_below HR0.out HB.out) | (with_reducible refine Kd.C_alloc ?_ _) | (with_reducible refine Kd.C_drewN ?_ _) | (with_reducible refine Kd.C_drew ?_))); (case aB => exact (by repeat (first | (with_reducible first | exact HB.out | apply below_alloc | apply pw_below_drewN | apply below_drew1) | exact HB.out))); (case aF => exact (fun _ _ => trivial)); (case aO => exact (by (with_reducible repeat (first | apply Kd.R_alloc | apply Kd.R_drewN | apply Kd.R_drew)); exact HO150.out)); (case aS => exact (below_size (by repeat (first | (with_reducible first | exact HB.out | apply below_alloc | apply pw_below_drewN | apply below_drew1) | exact HB.out)))); (case aL => have := LMc2.out; simp; omega); intro v152 w5 ho hb hg hat; have n0_ := Aside0.mk (hb); have n1_ := Aside0.mk (ho); clear HB; clear HO150; have HB := n0_; have HO153 := n1_; clear n0_ n1_; clear ho hb hg hat))
      go_ret
      exact ⟨_, rfl, by (with_reducible repeat (first | apply Kd.R_alloc | apply Kd.R_drewN | apply Kd.R_drew)); exact HO153.out, by repeat (first | (with_reducible first | exact HB.out | apply below_alloc | apply pw_below_drewN | apply below_drew1) | exact HB.out)⟩
  · rw [if_neg c2] at h
    cases h
theorem zerosB {e : Nat} {base g n cap : Nat} {ok : Nat → Prop} : ∀ (m o : Nat) (W : World) (xs : List Int), Kd.R (Kd.int .u8) e W base ok (.slice (some ⟨g, 0, none⟩) n cap) xs →
    W.grownBy (W.setCells g o (List.replicate m (.int .u8 0))) (some g)
  | 0, o, W, xs, h => World.grownBy.refl _ _
  | m + 1, o, W, xs, h => by
    obtain ⟨h1, h2⟩ := Kd.R_putg h (o : Int) 0
    exact h2.trans (zerosB m (o + 1) _ _ h1)
/-- No two neighbours are alike. -/
def NoRep (l : List Int) : Prop := ∀ i : Int, 1 ≤ i → i < (l.length : Int) → rd l i ≠ rd l (i - 1)
set_option maxHeartbeats 4000000 in
set_option maxRecDepth 100000 in
theorem compactB (l : List Int) (v : Value) (w0 w : World) (hB : Below w0.heap.size w0 w) (ho : Kd.R (Kd.int .u8) 5 w w0.heap.size (fun _ => True) v l) (hn : l.length ≤ 1048576) :
    Calls Try.prog 61 #[v] w fun e w' => ∃ A m c, e = .returned (.slice A m c) ∧ (m = l.length ↔ NoRep l) ∧ Below w0.heap.size w0 w' := by
  have HB := Aside0.mk hB
  have HO := Aside0.mk ho
  clear hB ho
  by_cases h2 : l.length < 2
  · obtain ⟨A, c, e⟩ := Kd.R_slice HO.out
    subst e
    have hd : decide ((l.length : Int) < 2) = true := decide_eq_true (by omega)
    have H2 := Aside0.mk h2
    have HN := Aside0.mk hn
    clear h2 hn
    go_enter Try.func61, Try.ntmps61
    go_wp2
    go_ret
    exact ⟨_, _, _, rfl, ⟨fun _ i h1 h3 => by have := H2.out; omega, fun _ => rfl⟩, HB.out⟩
  · obtain ⟨g, c, e, hg, hl, _⟩ := Kd.R_form HO.out (by omega)
    subst e
    have hlc : l.length ≤ c := (Kd.R_reads' HO.out).2.1
    have hd : decide ((l.length : Int) < 2) = false := decide_eq_false (by omega)
    obtain ⟨n, hnl⟩ : ∃ n, n = l.length := ⟨_, rfl⟩
    rw [← hnl] at h2 hn HO hd hlc ⊢
    replace hnl := Aside0.mk hnl.symm
    have H2 := Aside0.mk h2
    have HN := Aside0.mk hn
    have LC := Aside0.mk hlc
    clear h2 hn hlc
    have GB := Aside0.mk hg
    clear hl
    go_enter Try.func61, Try.ntmps61
    go_wp2
    go_loopg [3] n (fun kq v3 w' => ∃ x3 : Int, v3 = .int .i64 x3 ∧ 1 ≤ x3 ∧ x3 + kq = n + 1 ∧ Aside0 (∀ i : Int, 1 ≤ i → i < x3 → rd l i ≠ rd l (i - 1)) ∧ Aside0 (Kd.R (Kd.int .u8) 5 w' w0.heap.size (fun _ => True) (.slice (some ⟨g, 0, none⟩) n c) l) ∧ Aside0 (Below w0.heap.size w0 w'))
    case atStart => exact ⟨1, rfl, by omega, by have := H2.out; omega, ⟨fun i h1 h3 => by omega⟩, ⟨HO.out⟩, ⟨HB.out⟩⟩
    case round =>
      clear HO HB
      obtain ⟨x3, rfl, h1, hk, HR, HO, HB⟩ := hrel
      have hn := HN.out
      have h2 := H2.out
      have enl := hnl.out
      cases gk with
      | zero =>
        have hd3 : decide (x3 < (n : Int)) = false := decide_eq_false (by omega)
        go_wp2
        go_ret
        first | exact ⟨_, _, _, rfl, ⟨fun _ i h4 h5 => HR.out i h4 (by omega), fun _ => rfl⟩, HB.out⟩ | exact ⟨_, _, ⟨_, rfl⟩, ⟨fun _ i h4 h5 => HR.out i h4 (by omega), fun _ => rfl⟩, HB.out⟩
      | succ gk =>
        by_cases hlt : x3 < (n : Int)
        · have hd3 : decide (x3 < (n : Int)) = true := decide_eq_true hlt
          obtain ⟨hx1, hf1⟩ := Kd.R_celln 0 HO.out x3 (by omega) hlt
          obtain ⟨hx2, hf2⟩ := Kd.R_celln 0 HO.out (x3 - 1) (by omega) (by omega)
          replace hx1 : wr.cell? ⟨g, x3.toNat, none⟩ = some (.int .u8 (rd l x3)) := hx1
          replace hx2 : wr.cell? ⟨g, (x3 - 1).toNat, none⟩ = some (.int .u8 (rd l (x3 - 1))) := hx2
          obtain ⟨x2, e2⟩ : ∃ x2, x3 - 1 = x2 := ⟨_, rfl⟩
          have hw : IntKind.i64.wrap (x3 - 1) = x2 := (i64_w _).trans (by unfold wrap64; omega)
          rw [e2] at hx2
          have p1 : (0 ≤ x3) = True := eq_true (by omega)
          have p2 : (x3 < (n : Int)) = True := eq_true hlt
          have p3 : (0 ≤ x2) = True := eq_true (by omega)
          have p4 : (x2 < (n : Int)) = True := eq_true (by omega)
          have E2 := Aside0.mk e2
          by_cases he : rd l x3 = rd l x2
          · have hb : (rd l x3 == rd l x2) = true := beq_iff_eq.mpr he
            obtain ⟨k0, rfl⟩ := Int.eq_ofNat_of_zero_le (show 0 ≤ x3 by omega)
            rw [Int.toNat_natCast] at hx1 hf1
            have NR : Aside0 (¬ NoRep l) := ⟨fun h => h (k0 : Int) h1 (by rw [enl]; exact hlt) (by rw [e2]; exact he)⟩
            have hlc := LC.out
            have q1 : (c = k0) = False := eq_false (by omega)
            have q2 : ((k0 : Int) ≤ (c : Int)) = True := eq_true (by omega)
            have q3 : ((k0 : Int) ≤ (n : Int)) = True := eq_true (by omega)
            have GE := Aside0.mk (show w0.heap.size ≤ g from GB.out)
            have HO2 := HO
            have KL := Aside0.mk hlt
            have K1 := Aside0.mk h1
            clear e2 hlc enl h2 hn hlt hk h1 HR
            go_wp2
            go_region
            all_goals go_wp2
            all_goals (go_loopg [3, 5] (n - k0 - 1) (fun kq v3 v5 w' => ∃ (y3 y5 : Int) (xs : List Int), v3 = .int .i64 y3 ∧ v5 = .int .i64 y5 ∧ 1 ≤ y3 ∧ 1 ≤ y5 ∧ y5 + kq + k0 = n ∧ y3 < k0 + y5 ∧ Aside0 (Kd.R (Kd.int .u8) 5 w' w0.heap.size (fun _ => True) (.slice (some ⟨g, 0, none⟩) n c) xs) ∧ Aside0 (Below w0.heap.size w0 w')))
            case atStart => exact ⟨k0, 1, l, rfl, rfl, K1.out, by omega, by have := KL.out; omega, by omega, ⟨by (with_reducible repeat (first | apply Kd.R_alloc | apply Kd.R_drewN | apply Kd.R_drew)); exact HO.out⟩, ⟨by repeat (first | (with_reducible first | exact HB.out | apply below_alloc | apply pw_below_drewN | apply below_drew1) | exact HB.out)⟩⟩
            case round =>
              clear HO HB hf1 hx1 hf2 hx2 HO2
              obtain ⟨y3, y5, xs, rfl, rfl, h3, h5, hk5, h35, HO, HB⟩ := hrel
              have hn := HN.out
              have hkn := KL.out
              have hlc := LC.out
              cases gk with
              | zero =>
                have hd5 : decide (y5 < ((n - k0 : Nat) : Int)) = false := decide_eq_false (by omega)
                obtain ⟨m, rfl⟩ := Int.eq_ofNat_of_zero_le (show 0 ≤ y3 by omega)
                have hml : m < n := by omega
                have hcl : ∀ ty, (Builtin.clear_ #[84] ty #[.slice (some ⟨g, m, none⟩) (n - m) (c - m)]).run Try.prog wr = .ok (.tuple #[]) (wr.setCells g m (List.replicate (n - m) (.int .u8 0))) :=
                  fun ty => Lib.run_clear_slice wr _ _ ty _ Try.underlying84 (fun w => by kernel_rfl) rfl rfl g m _ _ (by omega)
                    (fun j hj => by
                      obtain ⟨hx, hf⟩ := Kd.R_celln 0 HO.out ((m + j : Nat) : Int) (by omega) (by omega)
                      have hx' : wr.cell? ⟨g, m + j, none⟩ = some (.int .u8 (rd xs ((m + j : Nat) : Int))) := hx
                      rw [hx']; rfl)
                    (fun j hj => (Kd.R_celln 0 HO.out ((m + j : Nat) : Int) (by omega) (by omega)).2)
                have HG := Aside0.mk (zerosB (n - m) m wr xs HO.out)
                have G5 : Aside0 (∀ k_, some g = some k_ → w0.heap.size ≤ k_) := ⟨fun k_ e_ => by injection e_ with e_; rw [← e_]; exact GE.out⟩
                have hcm : (c = m) = False := eq_false (by omega)
                have p5 := eq_true (show 0 ≤ (m : Int) by omega)
                have p6 := eq_true (show (m : Int) ≤ (c : Int) by omega)
                have p7 := eq_true (show (m : Int) ≤ (n : Int) by omega)
                have HM := Aside0.mk (show m ≠ n by omega)
                clear h3 h5 hk5 h35 hn hkn hlc hml
                go_wp2
                go_ret
                first | exact ⟨_, _, _, rfl, ⟨fun h => absurd h HM.out, fun h => absurd h NR.out⟩, HB.out.grown HG.out (below_size HB.out) G5.out⟩ | exact ⟨_, _, ⟨_, rfl⟩, ⟨fun h => absurd h HM.out, fun h => absurd h NR.out⟩, HB.out.grown HG.out (below_size HB.out) G5.out⟩
              | succ gk =>
                have hd5 : decide (y5 < ((n - k0 : Nat) : Int)) = true := decide_eq_true (by omega)
                obtain ⟨y4, e4⟩ : ∃ y4, y5 - 1 = y4 := ⟨_, rfl⟩
                have hw4 : IntKind.i64.wrap (y5 - 1) = y4 := (i64_w _).trans (by unfold wrap64; omega)
                have hw5 : IntKind.i64.wrap (y5 + 1) = y5 + 1 := (i64_w _).trans (by unfold wrap64; omega)
                have hw6 : IntKind.i64.wrap (y3 + 1) = y3 + 1 := (i64_w _).trans (by unfold wrap64; omega)
                obtain ⟨b5, hb5⟩ : ∃ b, rdOf 0 xs (k0 + y5) = b := ⟨_, rfl⟩
                obtain ⟨b4, hb4⟩ : ∃ b, rdOf 0 xs (k0 + y4) = b := ⟨_, rfl⟩
                have hx5 : wr.cell? ⟨g, k0 + y5.toNat, none⟩ = some (.int .u8 b5) := by
                  have h := (Kd.R_celln 0 HO.out (k0 + y5) (by omega) (by omega)).1
                  rw [hb5] at h
                  rw [← h]; congr 2; omega
                have hx4 : wr.cell? ⟨g, k0 + y4.toNat, none⟩ = some (.int .u8 b4) := by
                  have h := (Kd.R_celln 0 HO.out (k0 + y4) (by omega) (by omega)).1
                  rw [hb4] at h
                  rw [← h]; congr 2; omega
                have p5 : (0 ≤ y5) = True := eq_true (by omega)
                have p6 : (y5 < ((n - k0 : Nat) : Int)) = True := eq_true (by omega)
                have p7 : (0 ≤ y4) = True := eq_true (by omega)
                have p8 : (y4 < ((n - k0 : Nat) : Int)) = True := eq_true (by omega)
                have p9 : (0 ≤ y3) = True := eq_true (by omega)
                have p10 : (y3 < (n : Int)) = True := eq_true (by omega)
                have hf6 := (Kd.R_celln 0 HO.out y3 (by omega) (by omega)).2
                have hx6 := (Kd.R_celln 0 HO.out y3 (by omega) (by omega)).1
                have HP := Kd.R_putg HO.out y3 b5
                clear hlc
                by_cases hc : b5 = b4
                · have hcb : (b5 != b4) = false := bne_eq_false_iff_eq.mpr hc
                  go_wp2
                  go_region
                  all_goals go_wp2
                  all_goals (go_roundg gk; (case measure => omega); (case rel => exact ⟨y3, y5 + 1, xs, rfl, by first | (rw [hw5]; done) | rfl, by omega, by omega, by omega, by omega, ⟨by (with_reducible repeat (first | apply Kd.R_alloc | apply Kd.R_drewN | apply Kd.R_drew)); exact HO.out⟩, ⟨by repeat (first | (with_reducible first | exact HB.out | apply below_alloc | apply pw_below_drewN | apply below_drew1) | exact HB.out)⟩⟩))
                · have hcb : (b5 != b4) = true := bne_iff_ne.mpr hc
                  go_wp2
                  go_region
                  all_goals go_wp2_with (first | ((with_reducible refine gate_store (t := 5) (p := 51) rfl ?_); refine store_event (t := 5) (p := 51) (v := ?vo_w8) (w1 := (wr.drew.setCell ⟨g, y3.toNat, none⟩ (.int .u8 b5))) ?hg ?ho ?hn ?hr ?_; (case ho => rfl); (case hg => rfl); (case hn => rfl); (case hr => first | (go_simp; done) | (go_simp; rfl)); intro w8 hw; have n0_ := Aside0.mk ((by rw [hw]; exact (Kd.R_putg (by (with_reducible repeat (first | apply Kd.R_alloc | apply Kd.R_drewN | apply Kd.R_drew)); exact HO.out) y3 b5).1) : Kd.R (Kd.int .u8) 5 w8 w0.heap.size (fun _ => True) (.slice (some ⟨g, 0, none⟩) n c) (xs.set y3.toNat b5)); have n1_ := Aside0.mk ((by rw [hw]; exact below_set (by repeat (first | (with_reducible first | exact HB.out | apply below_alloc | apply pw_below_drewN | apply below_drew1) | exact HB.out)) GE.out : Below w0.heap.size w0 w8)); clear HO HB; have HO := n0_; have HB := n1_; clear n0_ n1_ hw) | go_in)
                  all_goals (go_roundg gk; (case measure => omega); (case rel => exact ⟨y3 + 1, y5 + 1, _, by first | (rw [hw6]; done) | rfl, by first | (rw [hw5]; done) | rfl, by omega, by omega, by omega, by omega, ⟨by (with_reducible repeat (first | apply Kd.R_alloc | apply Kd.R_drewN | apply Kd.R_drew)); exact HO.out⟩, ⟨by repeat (first | (with_reducible first | exact HB.out | apply below_alloc | apply pw_below_drewN | apply below_drew1) | exact HB.out)⟩⟩))
          · have hb : (rd l x3 == rd l x2) = false := beq_eq_false_iff_ne.mpr he
            have hw3 : IntKind.i64.wrap (x3 + 1) = x3 + 1 := (i64_w _).trans (by unfold wrap64; omega)
            have HS : Aside0 (∀ i : Int, 1 ≤ i → i < x3 + 1 → rd l i ≠ rd l (i - 1)) := ⟨fun i h4 h5 => by
              rcases Int.lt_or_eq_of_le (show i ≤ x3 by omega) with h6 | h6
              · exact HR.out i h4 h6
              · rw [h6, e2]; exact he⟩
            clear e2
            go_wp2
            go_region
            all_goals go_wp2
            all_goals (go_roundg gk; (case measure => omega); (case rel => exact ⟨x3 + 1, by first | (rw [hw3]; done) | rfl, by omega, by omega, ⟨HS.out⟩, ⟨by (with_reducible repeat (first | apply Kd.R_alloc | apply Kd.R_drewN | apply Kd.R_drew)); exact HO.out⟩, ⟨by repeat (first | (with_reducible first | exact HB.out | apply below_alloc | apply pw_below_drewN | apply below_drew1) | exact HB.out)⟩⟩))
        · have hd3 : decide (x3 < (n : Int)) = false := decide_eq_false hlt
          go_wp2
          go_ret
          first | exact ⟨_, _, _, rfl, ⟨fun _ i h4 h5 => HR.out i h4 (by omega), fun _ => rfl⟩, HB.out⟩ | exact ⟨_, _, ⟨_, rfl⟩, ⟨fun _ i h4 h5 => HR.out i h4 (by omega), fun _ => rfl⟩, HB.out⟩
end Go.Proofs.Ytmambanmffdibaa.P
