/- The row of the law FnExactFillPattern, out of its pure statement. -/
import Derived.Test.YtmambanmffdibaaQFPL
namespace Go.Proofs.Ytmambanmffdibaa.P
set_option linter.unusedVariables false
set_option linter.unusedSectionVars false
open Go.RowKit Go.Proofs.YtmambanmffdibaaW.PrintWords Go.Proofs.YtmambanmffdibaaW.PrintLast Go.Proofs.YtmambanmffdibaaW.PrintMore
theorem MP_up : ∀ (n : Nat) {w : World} {base : Nat} {ok : Nat → Prop} {p : Pat} {cs : List Value}, MP n w base ok p cs → MP (n + 1) w base ok p cs
  | 0, _, _, _, _, _, h => h.elim
  | n + 1, w, base, ok, p, cs, ⟨g, v, e, h1, h2, hg, hv, hr⟩ => ⟨g, v, e, h1, h2, hg, hv, hr.imp_ (fun _ _ h => MP_up n h)⟩
theorem M_up {n : Nat} (k : Nat) {w : World} {base : Nat} {ok : Nat → Prop} {p : Pat} {cs : List Value} (h : (kP n).M w base ok p cs) : (kP (n + k)).M w base ok p cs := by
  induction k with
  | zero => exact h
  | succ k ih => exact MP_up _ ih
def fillN : Nat → Nat → (Int → Option Pat) → Pat → Pat
  | 0, _, _, _ => default
  | n + 1, d, F, p => if p.letter = 0 then .mk 0 (p.kids.map (fillN n d F)) else (F p.letter).getD default
def toldP : Nat → (Int → Option Pat) → Pat → Prop
  | 0, _, _ => False
  | n + 1, F, p => (p.letter ≠ 0 → (F p.letter).isSome = true) ∧ (∀ k ∈ p.kids, toldP n F k) ∧ p.kids.length ≤ 1048576
def TrM (w0 w : World) (s0 d : Nat) (f : Int → Option Value) (F : Int → Option Pat) : Prop := ∀ b q, F b = some q → ∃ v, f b = some v ∧ (kP d).M w w0.heap.size (fun k => k < s0) q [v]
theorem trM_below {w0 w w1 : World} {s0 d : Nat} {f : Int → Option Value} {F : Int → Option Pat} (h : TrM w0 w s0 d f F) (hb : Below w.heap.size w w1) : TrM w0 w1 s0 d f F := fun b q hq => by
  obtain ⟨v, h1, h2⟩ := h b q hq
  exact ⟨v, h1, Kd.M_below h2 hb⟩
set_option maxHeartbeats 4000000 in
set_option maxRecDepth 100000 in
theorem fill_calls (w0 : World) (s0 d gm : Nat) (f : Int → Option Value) (F : Int → Option Pat) : ∀ (n : Nat) (p : Pat) (v : Value) (w : World), toldP n F p → (kP n).K w p [v] → Below w0.heap.size w0 w → s0 ≤ w.heap.size → MapB w gm f → TrM w0 w s0 d f F →
    Calls Try.prog 56 #[.map (some gm), v] w fun e w' => ∃ u, e = .returned u ∧ (kP (n + d)).M w' w0.heap.size (fun k => k < s0 ∨ w.heap.size ≤ k) (fillN n d F p) [u] ∧ Below w.heap.size w w'
  | 0, p, v, w, h, _, _, _, _, _ => h.elim
  | n + 1, p, v, w, ht, hp, hW, hs0, hB, hT => by
    obtain ⟨m, gp, A, c, hm, rfl, h0, h1, hl, hC⟩ := K_open hp
    obtain rfl : m = n := by omega
    have hmx : p.kids.length ≤ 9223372036854775807 := hC.2.1
    by_cases hz : p.letter = 0
    · have e : fillN (m + 1) d F p = .mk 0 (p.kids.map (fillN m d F)) := by rw [fillN, if_pos hz]
      rw [e]
      rw [hz] at h0
      have IH0 := Aside0.mk (fun k hk u wx (hb : Below w.heap.size w wx) hK => fill_calls w0 s0 d gm f F m k u wx (ht.2.1 k hk) hK (below_weaken hW (below_size hW) hb) (Nat.le_trans hs0 hb.size) (map_below hB hb) (trM_below hT hb))
      have LK := Aside0.mk ht.2.2
      have HC := Aside0.mk hC
      have HW := Aside0.mk hW
      have S0 := Aside0.mk hs0
      clear e hz hl hmx hB hT hW hp ht hs0 hC
      go_enter Try.func56, Try.ntmps56
      go_wp2_with (first | ((with_reducible refine gate_dst (N := 20) rfl ?_); (try (refine gate_guard (by rfl) ?_; dsimp only)); refine box_event ?hg (N := 20) ?hd (cs := #[.int .u8 0, .slice none 0 0]) (t := 92) ?hr ?_; (case hd => rfl); (case hg => rfl); (case hr => first | (go_simp; done) | (go_simp; rfl)); intro g hg w4 hbox hb; have BK4 := Aside0.mk hbox; have HB4 := Aside0.mk hb; have GE := Aside0.mk (show w.heap.size ≤ g by rw [hg]; exact Nat.le_refl _); have h14 := pw_cell_below hb h1; clear hbox hb hg))
      go_loopg [26] (p.kids.length + 1) (fun kq v26 w' => ∃ (i : Nat) (vk : Value) (acc : List Pat), v26 = .int .i64 (i : Int) ∧ i + kq = p.kids.length + 1 ∧ i ≤ p.kids.length ∧ Aside0 (acc = (p.kids.take i).map (fillN m d F)) ∧ Aside0 (w'.heap[g]? = some (.cells #[.int .u8 0, vk] 92 (0, 0))) ∧ Aside0 ((kP (m + d)).R 52 w' w0.heap.size (fun k => (k < s0 ∨ w.heap.size ≤ k) ∧ k ≠ g) vk acc) ∧ Aside0 (Below w.heap.size w w') ∧ Aside0 (∀ k, vk.ownBlock = some k → w.heap.size ≤ k))
      case atStart => exact ⟨0, .slice none 0 0, [], rfl, by omega, by omega, ⟨rfl⟩, ⟨BK4.out⟩, ⟨Kd.R_nil _ _ _ _ _⟩, ⟨HB4.out⟩, ⟨fun k hk => by simp [Value.ownBlock] at hk⟩⟩
      case round =>
        clear BK4 HB4 h14
        obtain ⟨i, vk, acc, rfl, hk, hil, HA, BK, HO, HB, HV⟩ := hrel
        cases gk with
        | zero =>
          exfalso
          omega
        | succ gk =>
          by_cases hi : i < p.kids.length
          · have hb1 : decide ((i : Int) < (p.kids.length : Int)) = true := decide_eq_true (by omega)
            obtain ⟨ad, u, rfl, hx0, hKi⟩ := at_P HC.out i hi
            have hx := pw_cell_below HB.out hx0
            have hmem : p.kids.getD i default ∈ p.kids := by
              rw [List.getD_eq_getElem?_getD, List.getElem?_eq_getElem hi]
              exact List.getElem_mem hi
            have hat : (p.kids.take (i + 1)).map (fillN m d F) = acc ++ [fillN m d F (p.kids.getD i default)] := by
              rw [HA.out, List.take_add_one, List.getElem?_eq_getElem hi, List.map_append, List.getD_eq_getElem?_getD, List.getElem?_eq_getElem hi]; rfl
            have hal : acc.length = i := by rw [HA.out, List.length_map, List.length_take]; omega
            have IH := Aside0.mk (IH0.out _ hmem u)
            have HKd := Aside0.mk hKi
            obtain ⟨q, hq⟩ : ∃ q, q = fillN m d F (p.kids.getD i default) := ⟨_, rfl⟩
            rw [← hq] at IH hat
            obtain ⟨y, hy⟩ : ∃ y, y = acc ++ [q] := ⟨_, rfl⟩
            rw [← hy] at hat
            have Ny := Aside0.mk hy
            have AT := Aside0.mk hat
            have LA : Aside0 (acc.length < 1048576) := ⟨by have := LK.out; omega⟩
            have hw : wrap64 ((i : Int) + 1) = ((i + 1 : Nat) : Int) := by have := LK.out; unfold wrap64; omega
            have hi2 : (i < p.kids.length) = True := eq_true hi
            have BKd : Aside0 (wr.drew.heap[g]? = some (.cells #[.int .u8 0, vk] 92 (0, 0))) := ⟨blk_drew BK.out⟩
            have HOd := Aside0.mk (Kd.R_drew HO.out)
            have HBd := Aside0.mk (below_drew1 HB.out)
            have HVd := HV
            clear hq hx0 hKi hmem hat hal hy BK HO HB HV HA
            go_wp2
            refine start_ (n := 13) (S := fun w' => w'.cell? ⟨g, 1, none⟩ = some vk) (ds := [12]) #[false, false, false, false, false, false, false, false, false, false, false, false, false] (by kernel_rfl) rfl rfl ((blk_cell BKd.out 1).trans rfl) (fun hHeld => ?_)
            generalize wr.drew = wx at BKd HOd HBd HVd hHeld ⊢
            refine pure_ (i := 0) (N := some 30) (v := ?_) (a' := ?_) #[true, false, false, false, false, false, false, false, false, false, false, false, false] rfl rfl (by kernel_rfl) (fun _ _ _ h => h) (Or.inl ⟨by rfl, ?_⟩) ?_ ?_
            rotate_left
            · intro w'
              go_simp
              with_reducible rfl
            rotate_left
            · simp only [Act.put, List.setIfInBounds_toArray, List.set_cons_zero, List.set_cons_succ]
              rfl
            refine pure_ (i := 1) (N := some 31) (v := ?_) (a' := ?_) #[true, true, false, false, false, false, false, false, false, false, false, false, false] rfl rfl (by kernel_rfl) (fun _ _ _ h => h) (Or.inl ⟨by rfl, ?_⟩) ?_ ?_
            rotate_left
            · intro w'
              go_simp
              with_reducible rfl
            rotate_left
            · simp only [Act.put, List.setIfInBounds_toArray, List.set_cons_zero, List.set_cons_succ]
              rfl
            refine pure_ (i := 2) (N := some 32) (v := ?_) (a' := ?_) #[true, true, true, false, false, false, false, false, false, false, false, false, false] rfl rfl (by kernel_rfl) (fun _ _ _ h => h) (Or.inl ⟨by rfl, ?_⟩) ?_ ?_
            rotate_left
            · intro w'
              go_simp
              with_reducible rfl
            rotate_left
            · simp only [Act.put, List.setIfInBounds_toArray, List.set_cons_zero, List.set_cons_succ]
              rfl
            refine pure_ (i := 3) (N := some 33) (v := ?_) (a' := ?_) #[true, true, true, true, false, false, false, false, false, false, false, false, false] rfl rfl (by kernel_rfl) (fun _ _ _ h => h) (Or.inl ⟨by rfl, ?_⟩) ?_ ?_
            rotate_left
            · intro w'
              go_simp
              with_reducible rfl
            rotate_left
            · simp only [Act.put, List.setIfInBounds_toArray, List.set_cons_zero, List.set_cons_succ]
              rfl
            refine take_ (i := 4) (N := some 34) (v := ?_) (a' := ?_) #[true, true, true, true, true, false, false, false, false, false, false, false, false] rfl rfl (by kernel_rfl) (fun _ _ _ h => h) (Or.inl ⟨by rfl, ?_⟩) hHeld ?_ ?_
            rotate_left
            · rintro w' s0
              go_simp
              with_reducible rfl
            rotate_left
            · simp only [Act.put, List.setIfInBounds_toArray, List.set_cons_zero, List.set_cons_succ]
              rfl
            refine pure_ (i := 5) (N := some 35) (v := ?_) (a' := ?_) #[true, true, true, true, true, true, false, false, false, false, false, false, false] rfl rfl (by kernel_rfl) (fun _ _ _ h => h) (Or.inl ⟨by rfl, ?_⟩) ?_ ?_
            rotate_left
            · intro w'
              go_simp
              with_reducible rfl
            rotate_left
            · simp only [Act.put, List.setIfInBounds_toArray, List.set_cons_zero, List.set_cons_succ]
              rfl
            refine pure_ (i := 6) (N := some 36) (v := ?_) (a' := ?_) #[true, true, true, true, true, true, true, false, false, false, false, false, false] rfl rfl (by kernel_rfl) (fun _ _ _ h => h) (Or.inl ⟨by rfl, ?_⟩) ?_ ?_
            rotate_left
            · intro w'
              go_simp
              with_reducible rfl
            rotate_left
            · simp only [Act.put, List.setIfInBounds_toArray, List.set_cons_zero, List.set_cons_succ]
              rfl
            refine one_ (i := 7) (N := some 37) #[true, true, true, true, true, true, true, true, false, false, false, false, false] rfl rfl (by kernel_rfl) (by decide) (fun K hK => ?_)
            refine goes_ Try.func56 (by kernel_rfl) rfl #[.map (some gm), u] (by rfl) rfl rfl (by (try simp only [List.map_toArray, List.map_cons, List.map_nil]); first | done | rfl) ?_
            refine (IH.out wx HBd.out (K_still HKd.out (still_below HBd.out))).mono ?_
            rintro e w7 ⟨u7, rfl, hM, hb⟩
            obtain ⟨g7, rfl⟩ := M_ptr hM
            have HM7 := Aside0.mk hM
            have HB7 := Aside0.mk hb
            clear hb hM
            refine ⟨_, rfl, ?_⟩
            refine hK.out _ _ ((blk_cell (blk_below BKd.out HB7.out) 1).trans rfl) (fun hHeld => ?_)
            clear hK K
            refine norm_ (a' := ?_) ?_ ?_
            rotate_left
            · show Act.put _ (some 37) _ = _
              simp only [Act.put, List.setIfInBounds_toArray, List.set_cons_zero, List.set_cons_succ]
              rfl
            refine one_ (i := 8) (N := some 38) #[true, true, true, true, true, true, true, true, true, false, false, false, false] rfl rfl (by kernel_rfl) (by decide) (fun K hK => ?_)
            refine event_step (w1 := w7.alloc (.cells #[.pointer (some ⟨g7, 0, none⟩)] 52)) (v := .slice (some ⟨w7.heap.size, 0, none⟩) 1 1) (by rfl) (by first | (go_simp; done) | (go_simp; rfl)) ?_
            refine hK.out _ _ ((blk_cell (blk_alloc (blk_below BKd.out HB7.out) _) 1).trans rfl) (fun hHeld => ?_)
            clear hK K
            refine norm_ (a' := ?_) ?_ ?_
            rotate_left
            · show Act.put _ (some 38) _ = _
              simp only [Act.put, List.setIfInBounds_toArray, List.set_cons_zero, List.set_cons_succ]
              rfl
            refine one_ (i := 9) (N := some 39) #[true, true, true, true, true, true, true, true, true, true, false, false, false] rfl rfl (by kernel_rfl) (by decide) (fun K hK => ?_)
            refine Kd.R_append_step (kP (m + d)) (w0 := w0) w0.heap.size (by rfl) (.tmp 34) (.tmp 38) 90 52 (.pointer none) 8 rfl Try.underlying90 infoP rfl (show 0 < (kP (m + d)).sz from Nat.one_pos) (by omega) vk acc q [.pointer (some ⟨g7, 0, none⟩)] (fun k => (k < s0 ∨ w.heap.size ≤ k) ∧ k ≠ g) (fun k => k < s0 ∨ wx.heap.size ≤ k) rfl rfl ?aP ?aK ?aF ?aO ?aB ?aS ?aL ?_
            (case aP => exact HM7.out)
            (case aK => exact fun k hk => ⟨by have hk' : k < s0 ∨ wx.heap.size ≤ k := hk; have h3 := blk_lt BKd.out; have h4 := GE.out; have h5 := S0.out; have h6 := HBd.out.size; constructor <;> omega, fun e => by have h1 := Kd.R_lt HOd.out k e.symm; have h2 := HVd.out k e.symm; have h5 := S0.out; have hk' : k < s0 ∨ wx.heap.size ≤ k := hk; omega⟩)
            (case aF => exact fun k hk => ⟨.inr (by have := HBd.out.size; have := HB7.out.size; omega), by have := blk_lt BKd.out; have := HB7.out.size; omega⟩)
            (case aO => exact Kd.R_below HOd.out HB7.out)
            (case aB => exact below_weaken HW.out (below_size HW.out) (below_step HBd.out HB7.out))
            (case aS => exact Nat.le_trans (below_size HW.out) (below_size (below_step HBd.out HB7.out)))
            (case aL => have := LA.out; omega)
            intro v8 w8 ho hb hg hat
            rw [← Ny.out] at ho
            have BK8 := Aside0.mk (blk_grown (blk_below BKd.out HB7.out) hg (Kd.R_ne (Kd.R_below HOd.out HB7.out) (blk_below BKd.out HB7.out) (by decide)))
            have HO8 := Aside0.mk ho
            have HB8 : Aside0 (Below w.heap.size w w8) := ⟨(below_step HBd.out HB7.out).grown hg (below_size (below_step HBd.out HB7.out)) (fun k hk => HVd.out k hk)⟩
            have HV8 : Aside0 (∀ k, v8.ownBlock = some k → w.heap.size ≤ k) := ⟨fun k hk => by
              rcases hat with hat | ⟨b, hb1, hb2⟩
              · rw [hat] at hk; exact HVd.out k hk
              · rw [hb1] at hk; injection hk with hk; have := HBd.out.size; have := HB7.out.size; omega⟩
            clear ho hb hg hat
            obtain ⟨A8, c8, e8⟩ := Kd.R_slice HO8.out
            subst e8
            refine hK.out _ _ ((blk_cell BK8.out 1).trans rfl) (fun hHeld => ?_)
            clear hK K
            refine norm_ (a' := ?_) ?_ ?_
            rotate_left
            · show Act.put _ (some 39) _ = _
              simp only [Act.put, List.setIfInBounds_toArray, List.set_cons_zero, List.set_cons_succ]
              rfl
            refine pure_ (i := 10) (N := some 40) (v := ?_) (a' := ?_) #[true, true, true, true, true, true, true, true, true, true, true, false, false] rfl rfl (by kernel_rfl) (fun _ _ _ h => h) (Or.inl ⟨by rfl, ?_⟩) ?_ ?_
            rotate_left
            · intro w'
              go_simp
              with_reducible rfl
            rotate_left
            · simp only [Act.put, List.setIfInBounds_toArray, List.set_cons_zero, List.set_cons_succ]
              rfl
            refine pure_ (i := 11) (N := some 41) (v := ?_) (a' := ?_) #[true, true, true, true, true, true, true, true, true, true, true, true, false] rfl rfl (by kernel_rfl) (fun _ _ _ h => h) (Or.inl ⟨by rfl, ?_⟩) ?_ ?_
            rotate_left
            · intro w'
              go_simp
              with_reducible rfl
            rotate_left
            · simp only [Act.put, List.setIfInBounds_toArray, List.set_cons_zero, List.set_cons_succ]
              rfl
            refine last_ (i := 12) (N := none) #[true, true, true, true, true, true, true, true, true, true, true, true, true] rfl rfl (by kernel_rfl) (by decide) (fun K hK => ?_)
            have hs8 : w8.cell? ⟨g, 1, none⟩ = some vk := (blk_cell BK8.out 1).trans rfl
            have hf8 := blk_frozen BK8.out 1
            refine skip_ (w1 := ?_) (by rfl) rfl ?_ ?_
            rotate_left
            · go_simp
              rfl
            refine hK.out _ _ ?_
            clear hK K
            refine done_ (by kernel_rfl) ?_
            go_wp2
            go_roundg gk
            case measure => omega
            case rel => exact ⟨i + 1, .slice A8 y.length c8, y, by first | (rw [hw]; done) | rfl | (congr 1; omega), by omega, by omega, ⟨AT.out.symm⟩, ⟨blk_put BK8.out 1 _ rfl⟩, ⟨Kd.R_far HO8.out (fun k hk => hk.2) _⟩, ⟨below_set HB8.out GE.out⟩, ⟨HV8.out⟩⟩
          · have hb1 : decide ((i : Int) < (p.kids.length : Int)) = false := decide_eq_false (by omega)
            have hA : acc = p.kids.map (fillN m d F) := by rw [HA.out, List.take_of_length_le (by omega)]
            go_wp2
            go_ret
            refine ⟨_, rfl, ?_, HB.out⟩
            have hd : m + 1 + d = (m + d) + 1 := by omega
            rw [hd]
            exact M_node (.inr GE.out) (Nat.le_trans (below_size HW.out) GE.out) BK.out (by rw [← hA]; exact HO.out)
    · obtain ⟨q, hq⟩ := Option.isSome_iff_exists.1 (ht.1 hz)
      have e : fillN (m + 1) d F p = q := by rw [fillN, if_neg hz, hq]; rfl
      rw [e]
      obtain ⟨v, hv, hM⟩ := hT _ _ hq
      obtain ⟨b, hb⟩ : ∃ b, p.letter = b := ⟨_, rfl⟩
      rw [hb] at h0 hz hv
      have hz2 : (b != 0) = true := bne_iff_ne.2 hz
      have HB := Aside0.mk hB
      have HV := Aside0.mk hv
      have HM := Aside0.mk hM
      clear e hb hz hC hl hmx hB hv hM hT hW hp ht hq
      go_enter Try.func56, Try.ntmps56
      go_wp2_with (first | (refine mp_get _ _ rfl rfl rfl rfl HB.out HV.out ?_))
      go_ret
      exact ⟨_, rfl, (kP (m + 1 + d)).M_mono (fun k hk => .inl hk) (by have h := M_up (m + 1) HM.out; rwa [Nat.add_comm] at h), Below.refl _ _⟩
end Go.Proofs.Ytmambanmffdibaa.P
namespace Go.Proofs.Ytmambanmffdibaa.P
set_option linter.unusedVariables false
set_option linter.unusedSectionVars false
open Go.RowKit Go.Proofs.YtmambanmffdibaaW.PrintWords Go.Proofs.YtmambanmffdibaaW.PrintLast Go.Proofs.YtmambanmffdibaaW.PrintMore
def degN : Nat → Pat → List Int
  | 0, _ => []
  | n + 1, p => (p.kids.length : Int) :: p.kids.flatMap (degN n)
theorem deg_take (f : Pat → List Int) (l : List Pat) (i : Nat) (h : i < l.length) : (l.take (i + 1)).flatMap f = (l.take i).flatMap f ++ f (l.getD i default) := by
  rw [List.take_add_one, List.getElem?_eq_getElem h, List.flatMap_append, List.getD_eq_getElem?_getD, List.getElem?_eq_getElem h]
  show _ ++ [l[i]].flatMap f = _ ++ f l[i]
  rw [List.flatMap_cons, List.flatMap_nil, List.append_nil]
theorem deg_take_le (f : Pat → List Int) (l : List Pat) (i : Nat) : ((l.take i).flatMap f).length ≤ (l.flatMap f).length := by
  have h : l.flatMap f = (l.take i).flatMap f ++ (l.drop i).flatMap f := by rw [← List.flatMap_append, List.take_append_drop]
  rw [h, List.length_append]; omega
theorem infoI : (Try.prog.info? 2).map (fun i => (i.zero, i.size, i.bytes)) = some (some (.int .i64 0), 1, 8) := by kernel_rfl
set_option maxHeartbeats 4000000 in
set_option maxRecDepth 100000 in
theorem degrees_calls : ∀ (n : Nat) (p : Pat) (v : Value) (w : World), (kP n).K w p [v] → (degN n p).length ≤ 1048576 →
    Calls Try.prog 57 #[v] w fun e w' => ∃ v0, e = .returned v0 ∧ Kd.R (Kd.int .i64) 2 w' w.heap.size (fun _ => True) v0 (degN n p) ∧ Below w.heap.size w w'
  | 0, p, v, w, h, _ => h.elim
  | n + 1, p, v, w, h, hs => by
    have ih := degrees_calls n
    obtain ⟨m, g, A, c, hm, rfl, h0, h1, hl, hC⟩ := K_open h
    obtain rfl : m = n := by omega
    have hdeg : degN (m + 1) p = (p.kids.length : Int) :: p.kids.flatMap (degN m) := rfl
    rw [hdeg] at hs
    rw [hdeg]
    have HC := Aside0.mk hC
    have HS := Aside0.mk hs
    have IH0 := Aside0.mk ih
    clear h hC hs hdeg h0 hl ih
    go_enter Try.func57, Try.ntmps57
    go_wp2_with (first | ((with_reducible refine gate_dst (N := 11) rfl ?_); refine Kd.R_lit (Kd.int .i64) _ 2 ?hg (N := 11) ?hd (xs := ([(p.kids.length : Int)] : List Int)) (inner := [.int .i64 (p.kids.length : Int)]) (ok := fun _ => True) (okp := fun _ => True) ?hr ?hp (fun _ hk => hk) trivial (Below.refl _ _) (Nat.le_refl _) (by simp) ?_; (case hd => rfl); (case hg => rfl); (case hr => first | (go_simp; done) | (go_simp; rfl)); (case hp => exact (Reps.one (show Kd.M (Kd.int .i64) _ _ _ (p.kids.length : Int) [.int .i64 (p.kids.length : Int)] from rfl) (Reps.none _ _))); intro v5 w5 ho hb hg_ hnew_; have HO5 := Aside0.mk ho; have HB5 := Aside0.mk hb; have h15 := pw_cell_below hb h1; clear hb hg_ hnew_ ho))
    go_loopg [17, 3] (p.kids.length + 1) (fun kq v17 v3 w' => ∃ (i : Nat) (out : List Int), v17 = .int .i64 (i : Int) ∧ i + kq = p.kids.length + 1 ∧ i ≤ p.kids.length ∧ Aside0 (out = (p.kids.length : Int) :: (p.kids.take i).flatMap (degN m)) ∧ Aside0 (Kd.R (Kd.int .i64) 2 w' w.heap.size (fun _ => True) v3 out) ∧ Aside0 (Below w.heap.size w w'))
    case atStart => exact ⟨0, [(p.kids.length : Int)], rfl, by omega, by omega, ⟨rfl⟩, ⟨HO5.out⟩, ⟨HB5.out⟩⟩
    case round =>
      clear HO5 HB5 h15
      obtain ⟨i, out, rfl, hk, hil, HI, HO, HB⟩ := hrel
      cases gk with
      | zero =>
        exfalso
        omega
      | succ gk =>
        by_cases hi : i < p.kids.length
        · have hb1 : decide ((i : Int) < (p.kids.length : Int)) = true := decide_eq_true (by omega)
          obtain ⟨ad, u, rfl, hx, hK⟩ := at_P (Kd.C_below HC.out HB.out) i hi
          have hf := deg_take (degN m) p.kids i hi
          have hle := deg_take_le (degN m) p.kids (i + 1)
          have hs := HS.out
          rw [List.length_cons] at hs
          have hle2 := hle
          rw [hf, List.length_append] at hle2
          have IH := Aside0.mk (IH0.out (p.kids.getD i default) u wr hK (by omega))
          obtain ⟨L, hL⟩ : ∃ L, L = degN m (p.kids.getD i default) := ⟨_, rfl⟩
          rw [← hL] at IH hf hle2
          have HLN : Aside0 (out.length + L.length ≤ 1048576) := ⟨by rw [HI.out, List.length_cons]; omega⟩
          have HI2 : Aside0 ((p.kids.length : Int) :: (p.kids.take (i + 1)).flatMap (degN m) = out ++ L) := ⟨by rw [HI.out, hf]; rfl⟩
          have hmx := HC.out.2.1
          have hw : wrap64 ((i : Int) + 1) = ((i + 1 : Nat) : Int) := by unfold wrap64; omega
          have hi2 : (i < p.kids.length) = True := eq_true hi
          have HMX := Aside0.mk hmx
          clear hL hf hle hle2 hs hK hmx
          go_wp2_with (first | (go_at_call 57; refine IH.out.mono ?_; rintro e w6 ⟨v6, rfl, hR, hb⟩; have HR6 := Aside0.mk hR; have HO6 := Aside0.mk (Kd.R_below HO.out hb); have HB6 := Aside0.mk (below_step HB.out hb); clear hb hR; obtain ⟨A6, c6, e6⟩ := Kd.R_slice HR6.out; subst e6) | ((with_reducible refine gate_builtin (b := .append) (xs := #[.tmp 21, .tmp 23]) rfl ?_); at_builtin; refine Kd.R_append_rows (Kd.int .i64) (w0 := w) w.heap.size rfl (.tmp 21) (.tmp 23) 26 2 (.int .i64 0) 8 rfl Try.underlying26 infoI rfl (by decide) (by omega) _ out L _ _ _ (fun _ => True) (fun _ => False) rfl rfl ?aO ?aR (fun _ _ h => h) (fun _ h => h.elim) ?aF ?aB ?aS ?aL ?_; (case aR => exact (Kd.R_reads' HR6.out).2.2); (case aB => exact HB6.out); (case aF => exact fun _ _ => trivial); (case aO => exact HO6.out); (case aS => exact below_size HB6.out); (case aL => have := HLN.out; omega); intro v7 w7 ho hb hg hat; have HO7 := Aside0.mk ho; have HB7 := Aside0.mk hb; clear ho hb hg hat))
          go_roundg gk
          case measure => omega
          case rel => exact ⟨i + 1, out ++ L, by first | (rw [hw]; done) | rfl | (congr 1; omega), by omega, by omega, ⟨HI2.out.symm⟩, ⟨HO7.out⟩, ⟨HB7.out⟩⟩
        · have hb1 : decide ((i : Int) < (p.kids.length : Int)) = false := decide_eq_false (by omega)
          have HI2 : Aside0 (out = (p.kids.length : Int) :: p.kids.flatMap (degN m)) := ⟨by rw [HI.out, List.take_of_length_le (by omega)]⟩
          go_wp2
          go_ret
          exact ⟨_, rfl, by rw [← HI2.out]; exact HO.out, HB.out⟩
end Go.Proofs.Ytmambanmffdibaa.P
