/- impl.readPattern and impl.readWhole: what they read. -/
import Derived.Test.YtmambanmffdibaaPatKd
import Derived.Test.YtmambanmffdibaaPatBase
namespace Go.Proofs.Ytmambanmffdibaa.P
set_option linter.unusedVariables false
set_option linter.unusedSectionVars false
open Go.RowKit Go.Proofs.YtmambanmffdibaaW.PrintWords Go.Proofs.YtmambanmffdibaaW.PrintLast Go.Proofs.YtmambanmffdibaaW.PrintMore
/-- The kids of a node: patterns up to a closing bracket, or the end. -/
def kidsP (f : ByteArray → Option (Pat × ByteArray)) : Nat → ByteArray → List Pat → Option (List Pat × ByteArray)
  | 0, _, _ => none
  | m + 1, s, acc => if s.size = 0 ∨ bt s 0 = 41 then some (acc, s) else (f s).bind fun x => kidsP f m x.2 (acc ++ [x.1])
/-- The pattern at the head of a text, and what is left. -/
def parse : Nat → ByteArray → Option (Pat × ByteArray)
  | 0, _ => none
  | n + 1, s => if s.size = 0 then none else if 97 ≤ bt s 0 ∧ bt s 0 ≤ 104 then some (.mk (bt s 0) [], s.extract 1 s.size) else if bt s 0 ≠ 40 then none else
      (kidsP (parse n) (n + 1) (s.extract 1 s.size) []).bind fun x => if x.2.size = 0 then none else some (.mk 0 x.1, x.2.extract 1 x.2.size)
/-- What readPattern hands back. -/
def ReadR (n base : Nat) : Option (Pat × ByteArray) → Ending → World → Prop
  | none, e, _ => e = .returned (.tuple #[.pointer none, .string ⟨#[]⟩, .bool false])
  | some x, e, w => ∃ v, e = .returned (.tuple #[v, .string x.2, .bool true]) ∧ (kP n).M w base (fun _ => True) x.1 [v]
theorem kidsP_stop {f : ByteArray → Option (Pat × ByteArray)} {m : Nat} {s : ByteArray} {acc : List Pat} (h : s.size = 0 ∨ bt s 0 = 41) : kidsP f (m + 1) s acc = some (acc, s) := by rw [kidsP, if_pos h]
theorem kidsP_go {f : ByteArray → Option (Pat × ByteArray)} {m : Nat} {s : ByteArray} {acc : List Pat} (h : ¬ (s.size = 0 ∨ bt s 0 = 41)) : kidsP f (m + 1) s acc = (f s).bind fun x => kidsP f m x.2 (acc ++ [x.1]) := by rw [kidsP, if_neg h]
theorem kidsP_size {f : ByteArray → Option (Pat × ByteArray)} (hf : ∀ s x, f s = some x → x.2.size < s.size) : ∀ (m : Nat) (s : ByteArray) (acc : List Pat) (x : List Pat × ByteArray), kidsP f m s acc = some x → x.2.size ≤ s.size
  | 0, s, acc, x, h => by simp [kidsP] at h
  | m + 1, s, acc, x, h => by
    rw [kidsP] at h
    split at h
    · obtain rfl := Option.some.inj h
      exact Nat.le_refl _
    · obtain ⟨y, h1, h2⟩ := Option.bind_eq_some_iff.1 h
      have h3 := hf _ _ h1
      have h4 := kidsP_size hf m _ _ _ h2
      omega
theorem parse_size : ∀ (n : Nat) (s : ByteArray) (x : Pat × ByteArray), parse n s = some x → x.2.size < s.size
  | 0, s, x, h => by simp [parse] at h
  | n + 1, s, x, h => by
    rw [parse] at h
    split at h
    · cases h
    · have e : ∀ r : ByteArray, (r.extract 1 r.size).size = r.size - 1 := fun r => by rw [ByteArray.size_extract]; omega
      split at h
      · obtain rfl := Option.some.inj h
        show (s.extract 1 s.size).size < _
        rw [e]; omega
      · split at h
        · cases h
        · obtain ⟨y, h1, h2⟩ := Option.bind_eq_some_iff.1 h
          have h3 := kidsP_size (parse_size n) _ _ _ _ h1
          rw [e] at h3
          split at h2
          · cases h2
          · obtain rfl := Option.some.inj h2
            show (y.2.extract 1 y.2.size).size < _
            rw [e]; omega
theorem infoP : (Try.prog.info? 52).map (fun i => (i.zero, i.size, i.bytes)) = some (some (.pointer none), 1, 8) := by kernel_rfl
theorem isEmpty_eq (s : ByteArray) : s.toList.isEmpty = decide (s.size = 0) := by
  rw [Lib.toList_data, Lib.size_eq]
  cases s.data.toList <;> simp
set_option maxHeartbeats 4000000 in
set_option maxRecDepth 100000 in
theorem readPattern_calls : ∀ (n : Nat) (s : ByteArray) (w : World), s.size < n → s.size ≤ 1048576 →
    Calls Try.prog 73 #[.string s] w fun e w' => Below w.heap.size w w' ∧ ReadR n w.heap.size (parse n s) e w'
  | 0, s, w, h, _ => by omega
  | n + 1, s, w, h, hs => by
    have ih := readPattern_calls n
    by_cases h0 : s.size = 0
    · have hE : s.toList.isEmpty = true := by rw [isEmpty_eq, decide_eq_true h0]
      have hp : parse (n + 1) s = none := by rw [parse, if_pos h0]
      rw [hp]
      go_enter Try.func73, Try.ntmps73
      go_wp2
      refine bodyPost_ret (results_tmp3 rfl _ _ _) rfl ?_
      exact ⟨Below.refl _ _, rfl⟩
    · have hE : s.toList.isEmpty = false := by rw [isEmpty_eq, decide_eq_false h0]
      have hz : 0 < s.size := by omega
      obtain ⟨b, hb⟩ : ∃ b : Int, b = (s[0].toNat : Int) := ⟨_, rfl⟩
      have hbt : bt s 0 = b := by rw [hb]; exact (bt_at s 0 hz).symm
      have hz1 : (0 < s.size) = True := eq_true hz
      have hz2 : (1 ≤ s.size) = True := eq_true hz
      have hb2 := hb.symm
      clear hb
      by_cases hl : 97 ≤ b ∧ b ≤ 104
      · have h97 : decide (97 ≤ b) = true := decide_eq_true hl.1
        have h104 : decide (b ≤ 104) = true := decide_eq_true hl.2
        have hp : parse (n + 1) s = some (.mk b [], s.extract 1 s.size) := by rw [parse, if_neg h0, hbt, if_pos hl]
        rw [hp]
        go_enter Try.func73, Try.ntmps73
        go_wp2
        go_region
        all_goals go_wp2
        refine bodyPost_ret (results_tmp3 rfl _ _ _) rfl ?_
        exact ⟨below_drew (below_alloc (Below.refl _ _) _), _, rfl, M_leaf trivial (Nat.le_refl _) (blk_drew (blk_new _ _))⟩
      · by_cases h40 : b = 40
        · subst h40
          have hp : parse (n + 1) s = (kidsP (parse n) (n + 1) (s.extract 1 s.size) []).bind fun x => if x.2.size = 0 then none else some (.mk 0 x.1, x.2.extract 1 x.2.size) := by
            rw [parse, if_neg h0, hbt, if_neg hl, if_neg (by decide)]
          obtain ⟨R, hR⟩ : ∃ R, R = kidsP (parse n) (n + 1) (s.extract 1 s.size) [] := ⟨_, rfl⟩
          rw [hp, ← hR]
          clear hp
          have hs1 : (s.extract 1 s.size).size = s.size - 1 := by rw [ByteArray.size_extract]; omega
          obtain ⟨s1, e1⟩ : ∃ s1, s1 = s.extract 1 s.size := ⟨_, rfl⟩
          rw [← e1] at hR hs1
          have e1' := e1.symm
          clear e1
          have HR := Aside0.mk hR
          clear hR
          go_enter Try.func73, Try.ntmps73
          go_wp2_with (first | ((with_reducible refine gate_dst (N := 32) rfl ?_); (try (refine gate_guard (by rfl) ?_; dsimp only)); refine box_event ?hg (N := 32) ?hd (cs := #[.int .u8 0, .slice none 0 0]) (t := 92) ?hr ?_; (case hd => rfl); (case hg => rfl); (case hr => first | (go_simp; done) | (go_simp; rfl)); intro g hg w4 hbox hb; have BK := Aside0.mk hbox; have HB := Aside0.mk hb; have GE := Aside0.mk (show w.heap.size ≤ g by rw [hg]; exact Nat.le_refl _); clear hbox hb hg))
          go_loopg [0] (n + 1) (fun kq v0 w' => ∃ (t : ByteArray) (acc : List Pat) (v : Value), v0 = .string t ∧ t.size < kq ∧ t.size ≤ s1.size ∧ Aside0 (kidsP (parse n) kq t acc = R) ∧ acc.length + t.size ≤ s1.size ∧ Aside0 (w'.heap[g]? = some (.cells #[.int .u8 0, v] 92 (0, 0))) ∧ Aside0 ((kP n).R 52 w' w.heap.size (fun k => True ∧ k ≠ g) v acc) ∧ Aside0 (Below w.heap.size w w'))
          case atStart => exact ⟨s1, [], .slice none 0 0, rfl, by omega, Nat.le_refl _, ⟨HR.out.symm⟩, by simp, ⟨BK.out⟩, ⟨Kd.R_nil _ _ _ _ _⟩, ⟨HB.out⟩⟩
          case round =>
            clear BK HB HR
            obtain ⟨t, acc, v, rfl, hk1, hk2, HR, hk3, BK, HO, HB⟩ := hrel
            cases gk with
            | zero => omega
            | succ gk =>
              by_cases hst : t.size = 0 ∨ bt t 0 = 41
              · have hR := HR.out
                rw [kidsP_stop hst] at hR
                subst hR
                by_cases ht0 : t.size = 0
                · have hE2 : t.toList.isEmpty = true := by rw [isEmpty_eq, decide_eq_true ht0]
                  go_wp2
                  refine bodyPost_ret (results_tmp3 rfl _ _ _) rfl ?_
                  exact ⟨HB.out, by rw [Option.bind_some, if_pos ht0]; rfl⟩
                · have hE2 : t.toList.isEmpty = false := by rw [isEmpty_eq, decide_eq_false ht0]
                  have hz3 : 0 < t.size := by omega
                  have hb3 : (t[0].toNat : Int) = 41 := (bt_at t 0 hz3).trans (by omega)
                  have hz4 : (0 < t.size) = True := eq_true hz3
                  have hz5 : (1 ≤ t.size) = True := eq_true hz3
                  go_wp2
                  go_region
                  all_goals go_wp2
                  all_goals (refine bodyPost_ret (results_tmp3 rfl _ _ _) rfl ?_)
                  all_goals exact ⟨below_drew HB.out, by rw [Option.bind_some, if_neg ht0]; exact ⟨_, rfl, M_node trivial GE.out (blk_drew BK.out) (Kd.R_drew HO.out)⟩⟩
              · have hR := HR.out
                rw [kidsP_go hst] at hR
                have ht0 : ¬ t.size = 0 := fun e => hst (.inl e)
                have hE2 : t.toList.isEmpty = false := by rw [isEmpty_eq, decide_eq_false ht0]
                have hz3 : 0 < t.size := by omega
                obtain ⟨b2, hb3⟩ : ∃ b : Int, b = (t[0].toNat : Int) := ⟨_, rfl⟩
                have hb4 : bt t 0 = b2 := by rw [hb3]; exact (bt_at t 0 hz3).symm
                have hb5 := hb3.symm
                clear hb3
                have h41 : (b2 != 41) = true := by rw [bne_iff_ne]; exact fun e => hst (.inr (hb4.trans e))
                have hz4 : (0 < t.size) = True := eq_true hz3
                have IH := Aside0.mk (fun w => ih t w (by omega) (by omega))
                have hgl := Aside0.mk (blk_lt BK.out)
                have hvl := Aside0.mk (Kd.R_lt HO.out)
                cases hpk : parse n t with
                | none =>
                  rw [hpk] at hR
                  subst hR
                  go_wp2_with (first | (go_at_call 73; refine (IH.out _).mono ?_; rintro e w5 ⟨hb, hr⟩; rw [hpk] at hr; have hr' := hr; unfold ReadR at hr'; subst hr'; clear hr; have HB2 := Aside0.mk (below_step HB.out hb); clear hb))
                  refine bodyPost_ret (results_tmp3 rfl _ _ _) rfl ?_
                  exact ⟨HB2.out, rfl⟩
                | some x =>
                  rw [hpk] at hR
                  have HR2 := Aside0.mk hR
                  clear HR hR
                  have hsz := parse_size n t x hpk
                  obtain ⟨y, hy⟩ : ∃ y, y = acc ++ [x.1] := ⟨_, rfl⟩
                  have Ny := Aside0.mk hy
                  clear hy
                  go_wp2_with (first | (go_at_call 73; refine (IH.out _).mono ?_; rintro e w5 ⟨hb, hr⟩; rw [hpk] at hr; obtain ⟨v5, rfl, hM⟩ := hr; obtain ⟨g5, rfl⟩ := M_ptr hM; have HM := Aside0.mk hM; have HB2 := Aside0.mk hb; have BK2 := Aside0.mk (blk_below BK.out hb); have HO2 := Aside0.mk (Kd.R_below HO.out hb); have hc1 : w5.cell? ⟨g, 1, none⟩ = some v := (blk_cell BK2.out 1).trans rfl; have hf1 := blk_frozen BK2.out 1; clear hb hM) | ((with_reducible refine gate_builtin (b := .append) (xs := #[.tmp 54, .tmp 56]) rfl ?_); (try (refine gate_guard (by rfl) ?_; dsimp only)); at_builtin; refine Kd.R_append (kP n) (w0 := w) w.heap.size rfl (.tmp 54) (.tmp 56) 90 52 (.pointer none) 8 rfl Try.underlying90 infoP rfl (show 0 < (kP n).sz from Nat.one_pos) (by omega) v acc x.1 [.pointer (some ⟨g5, 0, none⟩)] (fun k => True ∧ k ≠ g) (fun k => wr.heap.size ≤ k) rfl rfl ?aP ?aK ?aF ?aO ?aB ?aS ?aL ?_; (case aP => exact (kP n).M_mono (fun k hk => hk.2.1) ((kP n).M_lower (below_size HB.out) ((kP n).M_bound HM.out))); (case aK => exact fun k hk => ⟨⟨trivial, by have := hgl.out; omega⟩, fun e => by have := hvl.out k e.symm; omega⟩); (case aF => exact fun k hk => ⟨trivial, by have := blk_lt BK2.out; have hk' : w5.heap.size ≤ k := hk; omega⟩); (case aO => exact HO2.out); (case aB => exact below_step HB.out HB2.out); (case aS => exact below_size (below_step HB.out HB2.out)); (case aL => omega); intro v6 w6 ho hb hg hat; rw [← Ny.out] at ho; have BK3 := Aside0.mk (blk_grown BK2.out hg (Kd.R_ne HO2.out BK2.out (by decide))); have HO3 := Aside0.mk ho; have HB3 := Aside0.mk hb; have hc2 : w6.cell? ⟨g, 1, none⟩ = some v := (blk_cell BK3.out 1).trans rfl; have hf2 := blk_frozen BK3.out 1; clear ho hb hg hat hc1 hf1; obtain ⟨A6, c6, e6⟩ := Kd.R_slice HO3.out; subst e6))
                  go_roundg gk
                  case measure => omega
                  case rel => exact ⟨x.2, y, _, rfl, by omega, by omega, ⟨by rw [Ny.out]; exact HR2.out⟩, by rw [Ny.out, List.length_append, List.length_singleton]; omega, ⟨blk_put BK3.out 1 _ rfl⟩, ⟨Kd.R_far HO3.out (fun k hk => hk.2) _⟩, ⟨below_set HB3.out GE.out⟩⟩
        · have h40' : (b != 40) = true := by rw [bne_iff_ne]; exact h40
          have hp : parse (n + 1) s = none := by rw [parse, if_neg h0, hbt, if_neg hl, if_pos h40]
          rw [hp]
          have hl' : (decide (97 ≤ b) && decide (b ≤ 104)) = false := by rw [← Bool.not_eq_true, Bool.and_eq_true, decide_eq_true_eq, decide_eq_true_eq]; exact hl
          go_enter Try.func73, Try.ntmps73
          go_wp2
          all_goals (refine bodyPost_ret (results_tmp3 rfl _ _ _) rfl ?_)
          all_goals exact ⟨Below.refl _ _, rfl⟩
end Go.Proofs.Ytmambanmffdibaa.P
