/- The row of the law FnExactFirstAvoiding, out of its pure statement. -/
import Derived.Test.YtjdhjapbggnhkaaQFAEx0
-- Written by wip/ext.py of this claim (contracts by the form of the kit's print; hand-written ones among them).
namespace Go.Proofs.Ytjdhjapbggnhkaa.E
open Go.RowKit Go.Proofs.YtjdhjapbggnhkaaW.PrintWords Go.Proofs.YtjdhjapbggnhkaaW.PrintLast Go.Proofs.YtjdhjapbggnhkaaW.PrintMore
attribute [local go_sem] max2_int min2_int max_two min_two max_three min_three max_four min_four   -- for this text's walks alone
set_option linter.unusedVariables false
set_option linter.unusedSimpArgs false

def cfP (R : Nat → Int) (b : Nat) : Nat → Int
  | 0 => 0
  | d + 1 => wrap64 (cfP R b d + R (b + d))
def cfF : Nat → Nat → Int
  | 0 => fun k => if k = 0 then 1 else 0
  | n + 1 => fun k => if 1 ≤ k ∧ k ≤ n + 1 then cfP (cfF n) (k - 1) (n + 2 - k) else 0
def cfS (n k d p : Nat) : Int := if p / 32 < n then cfF (p / 32) (p % 32) else if p / 32 = n then (if p % 32 < k then cfF n (p % 32) else if p % 32 = k then cfP (cfF (n - 1)) (k - 1) d else 0) else 0
def cfC (n k d : Nat) : Array Value := ((List.range 992).map fun p => Value.int .i64 (cfS n k d p)).toArray
theorem cfC_get {n k d p : Nat} (hp : p < 992) : (cfC n k d)[p]? = some (.int .i64 (cfS n k d p)) := by
  unfold cfC
  rw [List.getElem?_toArray, List.getElem?_map, List.getElem?_range hp]
  rfl
theorem cfC_ext {n k d n' k' d' : Nat} (h : ∀ p, p < 992 → cfS n k d p = cfS n' k' d' p) : cfC n k d = cfC n' k' d' := by
  exact congrArg List.toArray (List.map_congr_left (fun p hp => by rw [h p (List.mem_range.1 hp)]))
theorem cfC_set' (N : Nat) {n k d : Nat} (hN : n * 32 + k < N) (hk : k ≤ 31) : ((List.range N).map fun p => Value.int .i64 (cfS n k d p)).set (n * 32 + k) (.int .i64 (cfP (cfF (n - 1)) (k - 1) (d + 1))) = (List.range N).map fun p => Value.int .i64 (cfS n k (d + 1) p) := by
  apply List.ext_getElem?
  intro p
  rw [List.getElem?_set]
  by_cases e : n * 32 + k = p
  · subst e
    rw [if_pos rfl, if_pos (by simpa using hN), List.getElem?_map, List.getElem?_range hN]
    simp only [Option.map_some, cfS]
    rw [show (n * 32 + k) / 32 = n by omega, show (n * 32 + k) % 32 = k by omega, if_neg (by omega), if_pos rfl, if_neg (by omega), if_pos rfl]
  · rw [if_neg e, List.getElem?_map, List.getElem?_map]
    cases hr : (List.range N)[p]? with
    | none => rfl
    | some q =>
      have hq : q = p := by
        by_cases hp : p < N
        · rw [List.getElem?_range hp] at hr
          injection hr with hr; exact hr.symm
        · rw [List.getElem?_eq_none (by simpa using hp)] at hr; cases hr
      subst hq
      simp only [Option.map_some, cfS]
      congr 2
      by_cases h1 : q / 32 = n
      · have : q % 32 ≠ k := by omega
        simp only [this, if_false]
      · simp only [h1, if_false]
theorem cfC_set {n k d : Nat} (hn : n ≤ 30) (hk : k ≤ 31) : (cfC n k d).setIfInBounds (n * 32 + k) (.int .i64 (cfP (cfF (n - 1)) (k - 1) (d + 1))) = cfC n k (d + 1) := by
  show (List.toArray _).setIfInBounds _ _ = List.toArray _
  rw [List.setIfInBounds_toArray]
  exact congrArg List.toArray (cfC_set' 992 (by omega) hk)
theorem cfS_at {n k d : Nat} (hk : k ≤ 31) : cfS n k d (n * 32 + k) = cfP (cfF (n - 1)) (k - 1) d := by
  unfold cfS
  rw [show (n * 32 + k) / 32 = n by omega, show (n * 32 + k) % 32 = k by omega, if_neg (by omega), if_pos rfl, if_neg (by omega), if_pos rfl]
theorem cfS_up {n k d a b : Nat} (ha : a < n) (hb : b ≤ 31) : cfS n k d (a * 32 + b) = cfF a b := by
  unfold cfS
  rw [show (a * 32 + b) / 32 = a by omega, show (a * 32 + b) % 32 = b by omega, if_pos ha]
theorem cfF_out {n k : Nat} (h : k = 0 ∨ n < k) (hn : 1 ≤ n) : cfF n k = 0 := by
  obtain ⟨m, rfl⟩ : ∃ m, n = m + 1 := ⟨n - 1, by omega⟩
  simp only [cfF]
  rw [if_neg (by omega)]
theorem cfC_k {n k : Nat} (hn : 1 ≤ n) (h1 : 1 ≤ k) (hk : k ≤ n) : cfC n k (n + 1 - k) = cfC n (k + 1) 0 := by
  refine cfC_ext (fun p hp => ?_)
  unfold cfS
  split
  · rfl
  · split
    · by_cases e : p % 32 = k
      · rw [if_neg (by omega), if_pos e, if_pos (by omega), e]
        obtain ⟨m, rfl⟩ : ∃ m, n = m + 1 := ⟨n - 1, by omega⟩
        simp only [cfF]
        rw [if_pos ⟨h1, hk⟩, show m + 1 + 1 - k = m + 2 - k by omega]
        rfl
      · by_cases e2 : p % 32 < k
        · rw [if_pos e2, if_pos (by omega)]
        · rw [if_neg e2, if_neg e, if_neg (by omega)]
          split <;> rfl
    · rfl
theorem cfC_n {n : Nat} (hn : 1 ≤ n) (hn2 : n ≤ 30) : cfC n (n + 1) 0 = cfC (n + 1) 1 0 := by
  refine cfC_ext (fun p hp => ?_)
  unfold cfS
  by_cases h1 : p / 32 < n
  · rw [if_pos h1, if_pos (by omega)]
  · rw [if_neg h1]
    by_cases h2 : p / 32 = n
    · rw [if_pos h2, if_pos (show p / 32 < n + 1 by omega), h2]
      by_cases h3 : p % 32 < n + 1
      · rw [if_pos h3]
      · rw [if_neg h3, cfF_out (.inr (by omega)) hn]
        split <;> rfl
    · rw [if_neg h2, if_neg (by omega)]
      split
      · by_cases h3 : p % 32 < 1
        · rw [if_pos h3, cfF_out (.inl (by omega)) (by omega)]
        · rw [if_neg h3]
          split <;> rfl
      · rfl
theorem cfC_0 : Try.zeroCells101.setIfInBounds 0 (Value.int IntKind.i64 1) = cfC 1 1 0 := by kernel_rfl
set_option maxHeartbeats 8000000 in
set_option maxRecDepth 100000 in
theorem cf_calls (w : World) : Calls Try.prog 49 #[] w fun e w' => ∃ gb : Nat, e = .returned (.pointer (some ⟨gb, 0, none⟩)) ∧ w'.heap[gb]? = some (.cells (cfC 31 1 0) 101 (0, 0)) ∧ w.heap.size ≤ gb ∧ Below w.heap.size w w' := by
  have c0 := Aside0.mk cfC_0
  go_enter Try.func49, Try.ntmps49
  go_wp2
  rw [c0.out]
  have BK := Aside0.mk (blk_new w (.cells (cfC 1 1 0) 101 (0, 0)))
  have HB := Aside0.mk (below_alloc (Below.refl w.heap.size w) (.cells (cfC 1 1 0) 101 (0, 0)))
  obtain ⟨gb, hgb⟩ : ∃ g, g = w.heap.size := ⟨_, rfl⟩
  have BK' := BK.out
  rw [← hgb] at BK' ⊢
  have HG := Aside0.mk hgb
  have BK := Aside0.mk BK'
  clear BK' hgb c0
  go_loopw [2] (fun x wr => ∃ n : Nat, 1 ≤ n ∧ n ≤ 31 ∧ x = .int .i64 n ∧ Aside0 (wr.heap[gb]? = some (.cells (cfC n 1 0) 101 (0, 0))) ∧ Aside0 (Below w.heap.size w wr)) (fun x _ => 31 - (intOf x).toNat)
  case atStart => exact ⟨1, by omega, by omega, rfl, BK, HB⟩
  case round =>
    clear BK HB
    obtain ⟨n, hn1, hn2, rfl, BK, HB⟩ := hrel
    by_cases c1 : n ≤ 30
    · have d1 : decide ((n : Int) ≤ 30) = true := decide_eq_true (by omega)
      go_wp2
      obtain ⟨wo, rfl⟩ : ∃ wo : World, wo = wr := ⟨_, rfl⟩
      go_loopw [3] (fun x wr => ∃ k : Nat, 1 ≤ k ∧ k ≤ n + 1 ∧ x = .int .i64 k ∧ Aside0 (wr.heap[gb]? = some (.cells (cfC n k 0) 101 (0, 0))) ∧ Aside0 (Below w.heap.size w wr)) (fun x _ => n + 1 - (intOf x).toNat)
      case atStart => exact ⟨1, by omega, by omega, rfl, BK, HB⟩
      case round =>
        clear BK HB d1
        obtain ⟨k, hk1, hk2, rfl, BK, HB⟩ := hrel
        by_cases c2 : k ≤ n
        · have d2 : decide (k ≤ n) = true := decide_eq_true c2
          go_wp2
          obtain ⟨wo2, rfl⟩ : ∃ wo2 : World, wo2 = wr := ⟨_, rfl⟩
          go_loopw [4] (fun x wr => ∃ d : Nat, d ≤ n + 1 - k ∧ x = .int .i64 d ∧ Aside0 (wr.heap[gb]? = some (.cells (cfC n k d) 101 (0, 0))) ∧ Aside0 (Below w.heap.size w wr)) (fun x _ => n + 1 - k - (intOf x).toNat)
          case atStart => exact ⟨0, by omega, rfl, BK, HB⟩
          case round =>
            clear BK HB d2
            obtain ⟨d, hd, rfl, BK, HB⟩ := hrel
            by_cases c3 : d < n + 1 - k
            · have e1 : wrap64 ((k : Int) - 1) = ((k - 1 : Nat) : Int) := by unfold wrap64; omega
              have d3 : decide (((k : Int) - 1) + (d : Int) ≤ (n : Int) - 1) = true := decide_eq_true (by omega)
              go_wp2
              have pn1 : ((n : Int) < 31) = True := eq_true (by omega)
              have pn2 : (n < 31) = True := eq_true (by omega)
              have pk1 : ((k : Int) < 32) = True := eq_true (by omega)
              have pk2 : (k < 32) = True := eq_true (by omega)
              have pm1 : (n - 1 < 31) = True := eq_true (by omega)
              have pm2 : (((n - 1 : Nat) : Int) < 31) = True := eq_true (by omega)
              have pq1 : (k - 1 + d < 32) = True := eq_true (by omega)
              have pq2 : (((k - 1 + d : Nat) : Int) < 32) = True := eq_true (by omega)
              have pq3 : (((k - 1 : Nat) : Int) + (d : Int) < 32) = True := eq_true (by omega)
              have pq4 : (0 ≤ ((k - 1 : Nat) : Int) + (d : Int)) = True := eq_true (by omega)
              have tq : (((k - 1 : Nat) : Int) + (d : Int)).toNat = k - 1 + d := by omega
              have w4 : IntKind.i64.wrap (cfP (cfF (n - 1)) (k - 1) d + cfF (n - 1) (k - 1 + d)) = cfP (cfF (n - 1)) (k - 1) (d + 1) := by rw [i64_w]; rfl
              have w1 : IntKind.i64.wrap ((n : Int) - 1) = ((n - 1 : Nat) : Int) := by rw [show (n : Int) - 1 = ((n - 1 : Nat) : Int) by omega]; exact IntWalk.i64_in _ (by omega)
              have w2 : IntKind.i64.wrap ((k : Int) - 1) = ((k - 1 : Nat) : Int) := by rw [show (k : Int) - 1 = ((k - 1 : Nat) : Int) by omega]; exact IntWalk.i64_in _ (by omega)
              have w3 : IntKind.i64.wrap (((k - 1 : Nat) : Int) + (d : Int)) = ((k - 1 + d : Nat) : Int) := by rw [show ((k - 1 : Nat) : Int) + (d : Int) = ((k - 1 + d : Nat) : Int) by omega]; exact IntWalk.i64_in _ (by omega)
              have hx1 : wr.drew.cell? ⟨gb, n * 32 + k, none⟩ = some (.int .i64 (cfP (cfF (n - 1)) (k - 1) d)) := (blk_cell (blk_drew BK.out) _).trans (by rw [cfC_get (by omega), cfS_at (by omega)])
              have hx2 : wr.drew.cell? ⟨gb, (n - 1) * 32 + (k - 1 + d), none⟩ = some (.int .i64 (cfF (n - 1) (k - 1 + d))) := (blk_cell (blk_drew BK.out) _).trans (by rw [cfC_get (by omega), cfS_up (by omega) (by omega)])
              go_still_tail 22, (by kernel_rfl)
              have BK2 : Aside0 (wr.drew.heap[gb]? = some (.cells (cfC n k d) 101 (0, 0))) := ⟨BK.out⟩
              have HB2 : Aside0 (Below w.heap.size w wr.drew) := ⟨below_drew1 HB.out⟩
              clear BK HB
              change wpList _ _ _ _ _ wr.drew
              generalize wr.drew = w2 at BK2 HB2 ⊢
              clear hx1 hx2
              have hx3 : w2.cell? ⟨gb, n * 32 + k, none⟩ = some (.int .i64 (cfP (cfF (n - 1)) (k - 1) d)) := (blk_cell BK2.out _).trans (by rw [cfC_get (by omega), cfS_at (by omega)])
              have hf3 := blk_frozen BK2.out (n * 32 + k)
              go_wp2
              go_roundw
              case rel => exact ⟨d + 1, by omega, by go_num, ⟨blk_put BK2.out _ _ (cfC_set (by omega) (by omega))⟩, ⟨below_set HB2.out (by rw [HG.out]; exact Nat.le_refl _)⟩⟩
              case measure => simp [intOf]; omega
            · have d3 : decide (((k : Int) - 1) + (d : Int) ≤ (n : Int) - 1) = false := decide_eq_false (by omega)
              have hdk : d = n + 1 - k := by omega
              subst hdk
              go_wp2
              go_roundw
              case rel => exact ⟨k + 1, by omega, by omega, by go_num, ⟨by rw [← cfC_k hn1 hk1 c2]; exact BK.out⟩, HB⟩
              case measure => simp [intOf]; omega
        · have d2 : decide (k ≤ n) = false := decide_eq_false c2
          obtain rfl : k = n + 1 := by omega
          go_wp2
          go_roundw
          case rel => exact ⟨n + 1, by omega, by omega, by go_num, ⟨by rw [← cfC_n hn1 c1]; exact BK.out⟩, HB⟩
          case measure => simp [intOf]; omega
    · obtain rfl : n = 31 := by omega
      go_wp2
      go_ret
      exact ⟨gb, rfl, BK.out, by rw [HG.out]; exact Nat.le_refl _, HB.out⟩
mutual
def impl_treeOfRank.l0 : Nat → List Int → Int → Int → Int → Option (List Int × Bool)
  | 0, _, _, _, _ => none
  | k + 1, d, need, left, r => if 0 ≤ left then impl_treeOfRank.l1 k d need left r 0 else some (d, true)
def impl_treeOfRank.l1 : Nat → List Int → Int → Int → Int → Int → Option (List Int × Bool)
  | 0, _, _, _, _, _ => none
  | k + 1, d, need, left, r, kk => if left < 31 ∧ 0 ≤ left ∧ 0 ≤ wrap64 (wrap64 (need - 1) + kk) ∧ wrap64 (wrap64 (need - 1) + kk) < 32 then (if r ≥ cfF left.toNat (wrap64 (wrap64 (need - 1) + kk)).toNat then impl_treeOfRank.l1 k d need left (wrap64 (r - cfF left.toNat (wrap64 (wrap64 (need - 1) + kk)).toNat)) (wrap64 (kk + 1)) else (if d.length < 17592186044416 then impl_treeOfRank.l0 k (d ++ [kk]) (wrap64 (need + wrap64 (kk - 1))) (wrap64 (left - 1)) r else none)) else none
end
def impl_treeOfRank.f (k : Nat) (n r : Int) : Option (List Int × Bool) := if 0 ≤ n ∧ n < 31 then (if r ≥ cfF n.toNat 1 then some ([], false) else impl_treeOfRank.l0 k [] 1 (wrap64 (n - 1)) r) else none
theorem cf_cell {w : World} {g : Nat} (h : w.heap[g]? = some (.cells (cfC 31 1 0) 101 (0, 0))) (a b : Int) (a0 : 0 ≤ a) (a1 : a < 31) (b0 : 0 ≤ b) (b1 : b < 32) : w.cell? ⟨g, a.toNat * 32 + b.toNat, none⟩ = some (.int .i64 (cfF a.toNat b.toNat)) :=
  (blk_cell h _).trans (by rw [cfC_get (by omega), cfS_up (by omega) (by omega)])
set_option maxHeartbeats 8000000 in
set_option maxRecDepth 100000 in
theorem impl_treeOfRank.calls (k : Nat) (n r : Int) (q1 : List Int) (q2 : Bool) (w : World) (h : impl_treeOfRank.f k n r = some (q1, q2)) :
    Calls Try.prog 39 #[.int .i64 n, .int .i64 r] w fun e w' => ∃ v0_ : Value, e = .returned (.tuple #[.agg #[v0_], .bool q2]) ∧ Kd.R (Kd.int .i64) 2 w' w.heap.size (fun _ => True) v0_ q1 ∧ Below w.heap.size w w' := by
  have hu27 := Try.underlying27
  unfold impl_treeOfRank.f at h
  by_cases c1 : 0 ≤ n ∧ n < 31
  · rw [if_pos c1] at h
    obtain ⟨c1, c2⟩ := c1
    have C1 := Aside0.mk c1
    have C2 := Aside0.mk c2
    have p1 := eq_true c1
    have p2 := eq_true c2
    have HB := Aside0.mk (Below.refl w.heap.size w)
    clear c1 c2
    by_cases c3 : r ≥ cfF n.toNat 1
    · rw [if_pos c3] at h
      simp only [Option.some.injEq, Prod.mk.injEq] at h
      obtain ⟨rfl, rfl⟩ := h
      have d3 : decide (cfF n.toNat 1 ≤ r) = true := decide_eq_true c3
      clear c3
      go_enter Try.func39, Try.ntmps39
      go_wp2_with (first | ((with_reducible refine gate_dst (N := 4) rfl ?_); refine box_event ?hg (N := 4) ?hd (cs := #[.slice none 0 0]) (t := 27) ?hr ?_; (case hd => rfl); (case hg => rfl); (case hr => first | (go_simp; done) | (go_simp; rfl)); intro gb4 hg w5 hbox hb; have n0_ := Aside0.mk (below_step (by repeat (first | (with_reducible first | exact HB.out | apply below_alloc | apply pw_below_drewN | apply below_drew1) | exact HB.out)) hb); have n1_ := Aside0.mk hbox; have n2_ := Aside0.mk (show w.heap.size ≤ gb4 by rw [hg]; exact below_size (by repeat (first | (with_reducible first | exact HB.out | apply below_alloc | apply pw_below_drewN | apply below_drew1) | exact HB.out))); clear HB hg hbox hb; have HB := n0_; have BK4 := n1_; have G4 := n2_; clear n0_ n1_ n2_) | (go_at_call 49; refine (cf_calls _).mono ?_; rintro e w6 ⟨gbf, rfl, hbf, hgf, hb⟩; have n0_ := Aside0.mk (below_step HB.out hb); have n1_ := Aside0.mk (blk_below BK4.out hb); clear HB BK4 hb hgf; have HB := n0_; have BK4 := n1_; clear n0_ n1_; have hx1 : w6.cell? ⟨gbf, n.toNat * 32 + 1, none⟩ = some (.int .i64 (cfF n.toNat 1)) := cf_cell hbf n 1 C1.out C2.out (by decide) (by decide); have hcz4 : w6.cell? ⟨gb4, 0, none⟩ = some (.slice none 0 0) := (blk_cell BK4.out 0).trans rfl; have hfz4 := blk_frozen BK4.out 0; clear hbf))
      refine bodyPost_ret (results_ct rfl _ _ gb4 27 #[.slice none 0 0] (0, 0) _ rfl (by (with_reducible repeat (first | refine blk_drewN ?_ _ | refine blk_drew ?_ | refine blk_alloc ?_ _)); refine blk_put (cs := #[.slice none 0 0]) ?_ 0 _ rfl; (with_reducible repeat (first | refine blk_drewN ?_ _ | refine blk_drew ?_ | refine blk_alloc ?_ _)); exact BK4.out) Try.underlying27 rfl (by kernel_rfl)) rfl ?_
      exact ⟨_, rfl, Kd.R_nil _ _ _ _ _, below_set HB.out G4.out⟩
    · rw [if_neg c3] at h
      have d3 : decide (cfF n.toNat 1 ≤ r) = false := decide_eq_false c3
      have H' := Aside0.mk h
      clear c3 h
      go_enter Try.func39, Try.ntmps39
      go_wp2_with (first | ((with_reducible refine gate_dst (N := 4) rfl ?_); refine box_event ?hg (N := 4) ?hd (cs := #[.slice none 0 0]) (t := 27) ?hr ?_; (case hd => rfl); (case hg => rfl); (case hr => first | (go_simp; done) | (go_simp; rfl)); intro gb4 hg w5 hbox hb; have n0_ := Aside0.mk (below_step (by repeat (first | (with_reducible first | exact HB.out | apply below_alloc | apply pw_below_drewN | apply below_drew1) | exact HB.out)) hb); have n1_ := Aside0.mk hbox; have n2_ := Aside0.mk (show w.heap.size ≤ gb4 by rw [hg]; exact below_size (by repeat (first | (with_reducible first | exact HB.out | apply below_alloc | apply pw_below_drewN | apply below_drew1) | exact HB.out))); clear HB hg hbox hb; have HB := n0_; have BK4 := n1_; have G4 := n2_; clear n0_ n1_ n2_) | (go_at_call 49; refine (cf_calls _).mono ?_; rintro e w6 ⟨gbf, rfl, hbf, hgf, hb⟩; have n0_ := Aside0.mk (below_step HB.out hb); have n1_ := Aside0.mk (blk_below BK4.out hb); clear HB BK4 hb; have HB := n0_; have BK4 := n1_; clear n0_ n1_; have hx1 : w6.cell? ⟨gbf, n.toNat * 32 + 1, none⟩ = some (.int .i64 (cfF n.toNat 1)) := cf_cell hbf n 1 C1.out C2.out (by decide) (by decide); have hcz4 : w6.cell? ⟨gb4, 0, none⟩ = some (.slice none 0 0) := (blk_cell BK4.out 0).trans rfl; have hfz4 := blk_frozen BK4.out 0; have BKF := Aside0.mk hbf; clear hbf) | ((with_reducible refine gate_dst (N := 21) rfl ?_); refine Kd.R_lit (Kd.int .i64) _ 2 ?hg (N := 21) ?hd (xs := ([] : List Int)) (inner := []) (ok := fun _ => True) (okp := fun _ => True) ?hr ?hp (fun _ hk => hk) trivial (Below.refl _ _) (Nat.le_refl _) (by simp) ?_; (case hd => rfl); (case hg => rfl); (case hr => first | (go_simp; done) | (go_simp; rfl)); (case hp => exact (Reps.none _ _)); intro v7 w7 ho hb hg_ hnew_; clear hg_ hnew_; obtain ⟨A7, c7, e7_⟩ := Kd.R_slice ho; subst e7_; have n0_ := Aside0.mk (Kd.R_lower ho (below_size (by repeat (first | (with_reducible first | exact HB.out | apply below_alloc | apply pw_below_drewN | apply below_drew1) | exact HB.out)))); have n1_ := Aside0.mk (below_step (by repeat (first | (with_reducible first | exact HB.out | apply below_alloc | apply pw_below_drewN | apply below_drew1) | exact HB.out)) hb); have n2_ := Aside0.mk (blk_below BK4.out hb); have n3_ := Aside0.mk (blk_below BKF.out hb); clear HB BK4 BKF ho hb hcz4 hfz4 hx1; have HO := n0_; have HB := n1_; have BK4 := n2_; have BKF := n3_; clear n0_ n1_ n2_ n3_))
      go_loopg [1, 7, 8, 9] k (fun kq v1 v7 v8 v9 w' => ∃ (r_ : Int) (d_ : List Int) (need left : Int), v1 = .int .i64 r_ ∧ v8 = .int .i64 need ∧ v9 = .int .i64 left ∧ Aside0 (impl_treeOfRank.l0 kq d_ need left r_ = some (q1, q2)) ∧ Aside0 (kq ≤ k) ∧ Aside0 (w'.heap[gb4]? = some (.cells #[.slice none 0 0] 27 (0, 0))) ∧ Aside0 (w'.heap[gbf]? = some (.cells (cfC 31 1 0) 101 (0, 0))) ∧ Aside0 (Kd.R (Kd.int .i64) 2 w' w.heap.size (fun _ => True) v7 d_) ∧ Aside0 (Below w.heap.size w w'))
      case atStart => exact ⟨r, [], 1, wrap64 (n - 1), rfl, rfl, (by first | rfl | (simp; done) | (simp [*]; done)), H', ⟨Nat.le_refl _⟩, BK4, BKF, HO, HB⟩
      case round =>
        clear H' HB HO BK4 BKF d3 p1 p2
        obtain ⟨r_, d_, need, left, rfl, rfl, rfl, HA, HK1, BK4, BKF, HO, HB⟩ := hrel
        cases gk with
        | zero => exact absurd HA.out (by simp [impl_treeOfRank.l0])
        | succ k1 =>
          have H := HA.out
          clear HA
          simp only [impl_treeOfRank.l0] at H
          by_cases c4 : 0 ≤ left
          · rw [if_pos c4] at H
            have d4 : decide (0 ≤ left) = true := decide_eq_true c4
            have H' := Aside0.mk H
            clear H c4
            go_wp2
            go_loopg [1, 10] k1 (fun kq v1 v10 w' => ∃ (r2 kk : Int), v1 = .int .i64 r2 ∧ v10 = .int .i64 kk ∧ Aside0 (impl_treeOfRank.l1 kq d_ need left r2 kk = some (q1, q2)) ∧ Aside0 (kq ≤ k1) ∧ Aside0 (w'.heap[gb4]? = some (.cells #[.slice none 0 0] 27 (0, 0))) ∧ Aside0 (w'.heap[gbf]? = some (.cells (cfC 31 1 0) 101 (0, 0))) ∧ Aside0 (Kd.R (Kd.int .i64) 2 w' w.heap.size (fun _ => True) u7 d_) ∧ Aside0 (Below w.heap.size w w'))
            case atStart => exact ⟨r_, 0, rfl, rfl, H', ⟨Nat.le_refl _⟩, BK4, BKF, HO, HB⟩
            case round =>
              clear H' HB HO BK4 BKF d4
              obtain ⟨r2, kk, rfl, rfl, HA, HK2, BK4, BKF, HO, HB⟩ := hrel
              cases gk with
              | zero => exact absurd HA.out (by simp [impl_treeOfRank.l1])
              | succ k2 =>
                have H := HA.out
                clear HA
                simp only [impl_treeOfRank.l1] at H
                by_cases c5 : left < 31 ∧ 0 ≤ left ∧ 0 ≤ wrap64 (wrap64 (need - 1) + kk) ∧ wrap64 (wrap64 (need - 1) + kk) < 32
                · rw [if_pos c5] at H
                  obtain ⟨x2, x1, x3, x4⟩ := c5
                  have hx := cf_cell BKF.out left (wrap64 (wrap64 (need - 1) + kk)) x1 x2 x3 x4
                  replace x1 := eq_true x1
                  replace x2 := eq_true x2
                  replace x3 := eq_true x3
                  replace x4 := eq_true x4
                  by_cases c6 : r2 ≥ cfF left.toNat (wrap64 (wrap64 (need - 1) + kk)).toNat
                  · rw [if_pos c6] at H
                    have d6 : decide (cfF left.toNat (wrap64 (wrap64 (need - 1) + kk)).toNat ≤ r2) = true := decide_eq_true c6
                    have H' := Aside0.mk H
                    clear H c6
                    go_wp2
                    go_roundg k2
                    case measure => have := HK1.out; have := HK2.out; omega
                    case rel => exact ⟨_, _, (by first | rfl | (simp; done) | (simp [*]; done)), (by first | rfl | (simp; done) | (simp [*]; done)), H', ⟨by have := HK1.out; have := HK2.out; omega⟩, BK4, BKF, HO, HB⟩
                  · rw [if_neg c6] at H
                    have d6 : decide (cfF left.toNat (wrap64 (wrap64 (need - 1) + kk)).toNat ≤ r2) = false := decide_eq_false c6
                    by_cases c7 : d_.length < 17592186044416
                    · rw [if_pos c7] at H
                      have LM := Aside0.mk c7
                      have H' := Aside0.mk H
                      clear H c6 c7
                      obtain ⟨A7, c7, e7_⟩ := Kd.R_slice HO.out
                      subst e7_
                      obtain ⟨l2, hl2⟩ : ∃ l2, l2 = d_ ++ [kk] := ⟨_, rfl⟩
                      have NL := Aside0.mk hl2.symm
                      have H'' := H'.out
                      rw [← hl2] at H''
                      have H' := Aside0.mk H''
                      clear H'' hl2
                      go_wp2_with (first | ((with_reducible refine gate_builtin (b := .append) (xs := #[.tmp 54, .tmp 56]) rfl ?_); at_builtin; refine Kd.R_append (Kd.int .i64) (w0 := w) w.heap.size rfl (.tmp 54) (.tmp 56) 25 2 (.int .i64 0) 8 rfl Try.underlying25 info2 rfl (by decide) (by omega) (.slice A7 d_.length c7) d_ kk [.int .i64 kk] (fun _ => True) (fun _ => False) rfl rfl ?aP (fun _ hk => hk.elim) ?aF ?aO ?aB ?aS ?aL ?_; (case aP => exact rfl); (case aB => exact (by repeat (first | (with_reducible first | exact HB.out | apply below_alloc | apply pw_below_drewN | apply below_drew1) | exact HB.out))); (case aF => exact (fun _ _ => trivial)); (case aO => exact (by (with_reducible repeat (first | apply Kd.R_alloc | apply Kd.R_drewN | apply Kd.R_drew)); exact HO.out)); (case aS => exact (below_size (by repeat (first | (with_reducible first | exact HB.out | apply below_alloc | apply pw_below_drewN | apply below_drew1) | exact HB.out)))); (case aL => have := LM.out; omega); intro v1 w10 ho hb hg hat; rw [NL.out] at ho; obtain ⟨A2, cp2, e2_⟩ := Kd.R_slice ho; subst e2_; have n0_ := Aside0.mk hb; have n1_ := Aside0.mk ho; have n2_ := Aside0.mk (blk_grown (by (with_reducible repeat (first | refine blk_drewN ?_ _ | refine blk_drew ?_ | refine blk_alloc ?_ _)); exact BK4.out) hg (Kd.R_ne HO.out BK4.out (by decide))); have n3_ := Aside0.mk (blk_grown (by (with_reducible repeat (first | refine blk_drewN ?_ _ | refine blk_drew ?_ | refine blk_alloc ?_ _)); exact BKF.out) hg (Kd.R_ne HO.out BKF.out (by decide))); clear HB HO BK4 BKF ho hb hg hat; have HB := n0_; have HO := n1_; have BK4 := n2_; have BKF := n3_; clear n0_ n1_ n2_ n3_))
                      go_roundg k2
                      case measure => have := HK1.out; have := HK2.out; omega
                      case rel => exact ⟨_, l2, _, _, (by first | rfl | (simp; done) | (simp [*]; done)), (by first | rfl | (simp; done) | (simp [*]; done)), (by first | rfl | (simp; done) | (simp [*]; done)), H', ⟨by have := HK1.out; have := HK2.out; omega⟩, BK4, BKF, HO, HB⟩
                    · rw [if_neg c7] at H
                      cases H
                · rw [if_neg c5] at H
                  cases H
          · rw [if_neg c4] at H
            have d4 : decide (0 ≤ left) = false := decide_eq_false c4
            simp only [Option.some.injEq, Prod.mk.injEq] at H
            obtain ⟨rfl, rfl⟩ := H
            obtain ⟨A7, c7, e7_⟩ := Kd.R_slice HO.out
            subst e7_
            clear c4
            have hcz4 : wr.cell? ⟨gb4, 0, none⟩ = some (.slice none 0 0) := (blk_cell BK4.out 0).trans rfl
            have hfz4 := blk_frozen BK4.out 0
            go_wp2
            refine bodyPost_ret (results_ct rfl _ _ gb4 27 #[.slice A7 d_.length c7] (0, 0) _ rfl (by (with_reducible repeat (first | refine blk_drewN ?_ _ | refine blk_drew ?_ | refine blk_alloc ?_ _)); refine blk_put (cs := #[.slice none 0 0]) ?_ 0 _ rfl; (with_reducible repeat (first | refine blk_drewN ?_ _ | refine blk_drew ?_ | refine blk_alloc ?_ _)); exact BK4.out) Try.underlying27 rfl (by kernel_rfl)) rfl ?_
            exact ⟨_, rfl, Kd.R_set HO.out BK4.out (by decide) 0 _, below_set HB.out G4.out⟩
  · rw [if_neg c1] at h
    cases h

def impl_treesOf.l0 : Nat → Int → List (S27) → Int → Option ((List (S27)))
  | 0, _, _, _ => none
  | k + 1, x0, x3, x4 => (impl_treeOfRank.f k x0 x4).bind fun bt235 => (if bt235.2 = true then (if x3.length < 5864062014805 then (impl_treesOf.l0 k x0 (x3 ++ [(⟨bt235.1⟩ : S27)]) (wrap64 (x4 + 1))) else (none)) else (some x3))
def impl_treesOf.f (k : Nat) (a0 : Int) : Option ((List (S27))) := impl_treesOf.l0 k a0 (([] : List (S27))) 0
set_option maxHeartbeats 8000000 in
set_option maxRecDepth 100000 in
theorem impl_treesOf.calls (k : Nat) (a0 : Int) (r : List (S27)) (w : World) (h : impl_treesOf.f k a0 = some r) :
    Calls Try.prog 24 #[.int .i64 a0] w fun e w' => ∃ v0_ : Value, e = .returned (v0_) ∧ Kd.S k27 27 w' w.heap.size (fun _ => True) v0_ r ∧ Below w.heap.size w w' := by
  have hu27 := Try.underlying27
  have HB := Aside0.mk (Below.refl w.heap.size w)
  have H : (impl_treesOf.l0 k a0 (([] : List (S27))) 0) = some r := h
  clear h
  obtain ⟨y232, hy232⟩ : ∃ y_ : List (S27), y_ = (([] : List (S27))) := ⟨_, rfl⟩
  replace H : (impl_treesOf.l0 k a0 y232 0) = some r := by first | (rw [hy232]; with_reducible exact H) | (have H2_ := (Option.bind_some _ _).symm.trans H; rw [hy232]; with_reducible exact H2_) | (have H2_ := (Option.bind_some _ _).symm.trans H; with_reducible exact H2_) | with_reducible exact H | (rw [hy232]; exact H) | exact H
  have Ny232 := Aside0.mk hy232
  clear hy232
  have H' := Aside0.mk H
  clear H
  go_enter Try.func24, Try.ntmps24
  go_wp2_with (first | ((with_reducible refine gate_dst (N := 7) rfl ?_); refine Kd.S_lit k27 _ 27 ?hg (N := 7) ?hd (xs := ([] : List (S27))) (inner := []) (ok := fun _ => True) (okp := fun _ => True) ?hr ?hp (fun _ hk => hk) trivial (Below.refl _ _) (Nat.le_refl _) (by simp) ?_; (case hd => rfl); (case hg => rfl); (case hr => first | (go_simp; done) | (go_simp; rfl)); (case hp => exact (Reps.none _ _)); intro v233 w2 ho3 hb hg_ hnew_; clear hg_ hnew_; (first | rw [← Ny232.out] at ho3 | (simp only [Int.reduceToNat] at ho3; rw [← Ny232.out] at ho3)); have n0_ := Aside0.mk (Kd.S_lower ho3 (below_size (by repeat (first | (with_reducible first | exact HB.out | apply below_alloc | apply pw_below_drewN | apply below_drew1) | exact HB.out)))); have n1_ := Aside0.mk (below_step (by repeat (first | (with_reducible first | exact HB.out | apply below_alloc | apply pw_below_drewN | apply below_drew1) | exact HB.out)) hb); clear HB; have HO234 := n0_; have HB := n1_; clear n0_ n1_; clear hb ho3))
  go_loopg [3, 4] k (fun kq v3 v4 w' => ∃ (x3_1 : List (S27)) (x4_1 : Int), v4 = .int .i64 x4_1 ∧ Aside0 (impl_treesOf.l0 kq a0 x3_1 x4_1 = some r) ∧ Aside0 (kq ≤ k) ∧ Aside0 (Kd.S k27 27 w' w.heap.size (fun _ => True) v3 x3_1) ∧ Aside0 (Below w.heap.size w w'))
  case atStart => exact ⟨(y232), (0), (by first | rfl | (simp; done) | (simp [*]; done)), H', ⟨Nat.le_refl _⟩, ⟨by (with_reducible repeat (first | apply Kd.S_alloc | apply Kd.S_drewN | apply Kd.S_drew)); exact HO234.out⟩, ⟨by repeat (first | (with_reducible first | exact HB.out | apply below_alloc | apply pw_below_drewN | apply below_drew1) | exact HB.out)⟩⟩
  case round =>
    clear H'
    try clear c2
    try clear p2
    obtain ⟨x3_1, x4_1, rfl, HA, HK1, HO_3, HB⟩ := hrel
    cases gk with
    | zero => exact absurd HA.out (by simp [impl_treesOf.l0])
    | succ k1 =>
      have H := HA.out
      clear HA
      simp only [impl_treesOf.l0] at H
      replace H := Option.bind_eq_some_iff.mp H
      obtain ⟨⟨t235, t238⟩, A40, H⟩ := H
      replace H : (if t238 = true then (if x3_1.length < 5864062014805 then (impl_treesOf.l0 k1 a0 (x3_1 ++ [(⟨t235⟩ : S27)]) (wrap64 (x4_1 + 1))) else (none)) else (some x3_1)) = some r := H
      have A4 := Aside0.mk A40
      clear A40
      by_cases c5 : t238 = true
      · subst c5
        have H1 : (if x3_1.length < 5864062014805 then (impl_treesOf.l0 k1 a0 (x3_1 ++ [(⟨t235⟩ : S27)]) (wrap64 (x4_1 + 1))) else (none)) = some r := by rw [if_pos rfl] at H; exact H
        clear H
        have H := H1
        clear H1
        by_cases c6 : x3_1.length < 5864062014805
        · rw [if_pos c6] at H
          have LMc6 := Aside0.mk c6
          clear c6
          obtain ⟨y240, hy240⟩ : ∃ y_ : List (S27), y_ = (x3_1 ++ [(⟨t235⟩ : S27)]) := ⟨_, rfl⟩
          replace H : (impl_treesOf.l0 k1 a0 y240 (wrap64 (x4_1 + 1))) = some r := by first | (rw [hy240]; with_reducible exact H) | (have H2_ := (Option.bind_some _ _).symm.trans H; rw [hy240]; with_reducible exact H2_) | (have H2_ := (Option.bind_some _ _).symm.trans H; with_reducible exact H2_) | with_reducible exact H | (rw [hy240]; exact H) | exact H
          have Ny240 := Aside0.mk hy240
          clear hy240
          have H' := Aside0.mk H
          clear H
          go_wp2_with (first | ((with_reducible refine gate_callee (f := 39) rfl ?_); refine goesL_ (some 13) rfl rfl Try.func39 (by kernel_rfl) rfl #[.int .i64 a0, .int .i64 x4_1] rfl (by (try simp only [List.map_toArray, List.map_cons, List.map_nil]); first | done | rfl | (simp only [List.length_drop, List.length_take]; rfl)) ?_; (with_reducible refine (impl_treeOfRank.calls k1 a0 x4_1 t235 true _ A4.out).mono ?_); rintro e w7 ⟨v236, rfl, ho0, hb⟩; refine ⟨_, rfl, ?_⟩; have n0_ := Aside0.mk (Kd.S_elder' (by (with_reducible repeat (first | apply Kd.S_alloc | apply Kd.S_drewN | apply Kd.S_drew)); exact HO_3.out) (Kd.R_base ho0) hb); have n1_ := Aside0.mk (Kd.R_lower ho0 (below_size (by repeat (first | (with_reducible first | exact HB.out | apply below_alloc | apply pw_below_drewN | apply below_drew1) | exact HB.out)))); have n2_ := Aside0.mk (below_step (by repeat (first | (with_reducible first | exact HB.out | apply below_alloc | apply pw_below_drewN | apply below_drew1) | exact HB.out)) hb); clear HO_3; clear HB; have HO_3 := n0_; have HO237 := n1_; have HB := n2_; clear n0_ n1_ n2_; (try clear hb); (try clear hb2); (try clear hk); (try clear hi); (try clear ho0)) | ((with_reducible refine gate_dst (N := 5) rfl ?_); refine box_event ?hg (N := 5) ?hd (cs := #[.slice none 0 0]) (t := 27) ?hr ?_; (case hd => rfl); (case hg => rfl); (case hr => first | (go_simp; done) | (go_simp; rfl)); intro gb239 hg w8 hbox hb; have n0_ := Aside0.mk (Kd.S_below (Kd.S_elderB (by (with_reducible repeat (first | apply Kd.S_alloc | apply Kd.S_drewN | apply Kd.S_drew)); exact HO_3.out) gb239 (Nat.le_of_eq hg.symm)) hb); have n1_ := Aside0.mk (Kd.R_below (by (with_reducible repeat (first | apply Kd.R_alloc | apply Kd.R_drewN | apply Kd.R_drew)); exact HO237.out) hb); have n2_ := Aside0.mk (below_step (by repeat (first | (with_reducible first | exact HB.out | apply below_alloc | apply pw_below_drewN | apply below_drew1) | exact HB.out)) hb); have n3_ := Aside0.mk (hbox); have n4_ := Aside0.mk ((by rw [hg]; exact (below_size (by repeat (first | (with_reducible first | exact HB.out | apply below_alloc | apply pw_below_drewN | apply below_drew1) | exact HB.out))) : w.heap.size ≤ gb239)); have n5_ := Aside0.mk ((by rw [hg]; exact (below_size (by repeat (first | (with_reducible first | exact HB.out | apply below_alloc | apply pw_below_drewN | apply below_drew1) | exact HB.out))) : w.heap.size ≤ gb239)); clear HO_3; clear HO237; clear HB; have HO_3 := n0_; have HO237 := n1_; have HB := n2_; have BK239 := n3_; have GW239 := n4_; have GE239 := n5_; clear n0_ n1_ n2_ n3_ n4_ n5_; clear hb hbox hg; obtain ⟨Ao9, co9, eo9⟩ := Kd.R_slice HO237.out; subst eo9; have hcz10_0 : w8.cell? ⟨gb239, 0, none⟩ = some (.slice none 0 0) := (blk_cell BK239.out 0).trans rfl; have hfz10_0 := blk_frozen BK239.out 0) | ((with_reducible refine gate_store (t := 27) (p := 5) rfl ?_); refine store_event (t := 27) (p := 5) (v := ?vo_w11) (w1 := (w8.setCell ⟨gb239, 0, none⟩ (.slice Ao9 t235.length co9))) ?hg ?ho ?hn ?hr ?_; (case ho => rfl); (case hg => rfl); (case hn => rfl); (case hr => first | (go_simp; done) | (go_simp; rfl)); intro w11 hw; have n0_ : Aside0 (Kd.S k27 27 w11 w.heap.size (fun k_ => some k_ ≠ (.slice Ao9 t235.length co9 : Value).ownBlock ∧ k_ ≠ gb239) u3 x3_1) := ⟨(by rw [hw]; exact (by (with_reducible repeat (first | apply Kd.S_alloc | apply Kd.S_drewN | apply Kd.S_drew)); exact Kd.S_mono (Kd.S_far (p := ⟨gb239, 0, none⟩) (Kd.S_mono HO_3.out (fun k_ hk => (⟨hk, hk.2⟩ : _ ∧ k_ ≠ gb239))) (fun _ hk => hk.2) (.slice Ao9 t235.length co9)) (fun _ hk => ⟨hk.1.1.2, hk.1.2⟩)))⟩; have n1_ : Aside0 (Kd.R (Kd.int .i64) 2 w11 w.heap.size (fun _ => True) (.slice Ao9 t235.length co9) t235) := ⟨(by rw [hw]; exact (by (with_reducible repeat (first | apply Kd.R_alloc | apply Kd.R_drewN | apply Kd.R_drew)); exact Kd.R_mono (Kd.R_far (p := ⟨gb239, 0, none⟩) (Kd.R_types HO237.out BK239.out (by decide)) (fun _ hk => hk.2) (.slice Ao9 t235.length co9)) (fun _ hk => trivial)))⟩; have n2_ : Aside0 (w11.heap[gb239]? = some (.cells #[.slice Ao9 t235.length co9] 27 (0, 0))) := ⟨(by rw [hw]; exact (by (with_reducible repeat (first | refine blk_drewN ?_ _ | refine blk_drew ?_ | refine blk_alloc ?_ _)); refine blk_put (cs := #[.slice none 0 0]) ?_ 0 _ rfl; (with_reducible repeat (first | refine blk_drewN ?_ _ | refine blk_drew ?_ | refine blk_alloc ?_ _)); exact BK239.out))⟩; have n3_ : Aside0 (Below w.heap.size w w11) := ⟨(by rw [hw]; exact (by repeat (first | (with_reducible first | exact HB.out | apply below_alloc | apply pw_below_drewN | apply below_drew1 | refine below_set ?_ GE239.out) | exact HB.out)))⟩; clear hw; clear HO_3; clear HO237; clear BK239; clear HB; have HO_3 := n0_; have HO237 := n1_; have BK239 := n2_; have HB := n3_; clear n0_ n1_ n2_ n3_; have hcz12_0 : w11.cell? ⟨gb239, 0, none⟩ = some (.slice Ao9 t235.length co9) := (blk_cell BK239.out 0).trans rfl; have hfz12_0 := blk_frozen BK239.out 0) | ((with_reducible refine gate_builtin (b := .append) (xs := #[.tmp 19, .tmp 21]) rfl ?_); at_builtin; refine Kd.S_append k27 (w0 := w) w.heap.size rfl (.tmp 19) (.tmp 21) 33 27 (.agg #[(.slice none 0 0)]) 24 rfl Try.underlying33 info27 rfl (by decide) (by omega) u3 x3_1 (⟨t235⟩ : S27) [.slice Ao9 t235.length co9] (fun k_ => k_ ≠ gb239) (fun k_ => some k_ = (.slice Ao9 t235.length co9 : Value).ownBlock) rfl rfl ?aP (fun k_ hk_ => ((Kd.R_mono (ok' := fun k_ => ((fun k_ => k_ ≠ gb239)) k_ ∧ some k_ ≠ (u3 : Value).ownBlock) (Kd.R_types (Kd.R_apart' (HO237.out) (Kd.S_typed HO_3.out) (by decide)) BK239.out (by decide)) (fun k_ hk => ⟨hk.2, hk.1.2⟩))).1 k_ hk_.symm) ?aF ?aO ?aB ?aS ?aL ?_; (case aP => exact k27_mkM _ _ _ (⟨t235⟩ : S27) (Kd.R_mono (Kd.R_tight rfl (Kd.R_mono (ok' := fun k_ => ((fun k_ => k_ ≠ gb239)) k_ ∧ some k_ ≠ (u3 : Value).ownBlock) (Kd.R_types (Kd.R_apart' (HO237.out) (Kd.S_typed HO_3.out) (by decide)) BK239.out (by decide)) (fun k_ hk => ⟨hk.2, hk.1.2⟩))) (fun _ h_ => h_))); (case aB => exact (by repeat (first | (with_reducible first | exact HB.out | apply below_alloc | apply pw_below_drewN | apply below_drew1 | refine below_set ?_ GE239.out) | exact HB.out))); (case aF => exact (fun k_ hk => Kd.freshB (g := gb239) (o := .cells #[.slice Ao9 t235.length co9] 27 (0, 0)) (by (with_reducible repeat (first | refine blk_drewN ?_ _ | refine blk_drew ?_ | refine blk_alloc ?_ _)); exact BK239.out) k_ hk)); (case aO => exact (by (with_reducible repeat (first | apply Kd.S_alloc | apply Kd.S_drewN | apply Kd.S_drew)); exact Kd.S_mono HO_3.out (fun k_ hk => ⟨hk.2, fun e_ => hk.1 e_⟩))); (case aS => exact (below_size (by repeat (first | (with_reducible first | exact HB.out | apply below_alloc | apply pw_below_drewN | apply below_drew1 | refine below_set ?_ GE239.out) | exact HB.out)))); (case aL => have := LMc6.out; omega); intro v241 w13 ho hb hg hat; rw [← Ny240.out] at ho; have n0_ := Aside0.mk (blk_grown (g := gb239) (o := .cells #[.slice Ao9 t235.length co9] 27 (0, 0)) (by (with_reducible repeat (first | refine blk_drewN ?_ _ | refine blk_drew ?_ | refine blk_alloc ?_ _)); exact BK239.out) hg (Kd.S_away HO_3.out (fun _ hk => hk.2))); have n1_ := Aside0.mk (hb); have n2_ := Aside0.mk (ho); clear BK239; clear HB; clear HO_3; clear HO237; have BK239 := n0_; have HB := n1_; have HO242 := n2_; clear n0_ n1_ n2_; clear ho hb hg hat))
          go_roundg k1
          case measure => have := HK1.out; omega
          case rel => exact ⟨(y240), (wrap64 (x4_1 + 1)), (by first | rfl | (simp; done) | (simp [*]; done)), H', ⟨by have := HK1.out; omega⟩, ⟨by (with_reducible repeat (first | apply Kd.S_alloc | apply Kd.S_drewN | apply Kd.S_drew)); exact Kd.S_mono HO242.out (fun _ hk => trivial)⟩, ⟨by repeat (first | (with_reducible first | exact HB.out | apply below_alloc | apply pw_below_drewN | apply below_drew1 | refine below_set ?_ GE239.out) | exact HB.out)⟩⟩
        · rw [if_neg c6] at H
          exact absurd H (by simp)
      · replace c5 := Bool.eq_false_iff.mpr c5
        subst c5
        have H1 : (some x3_1) = some r := by rw [if_neg (show ¬ (false = true) by decide)] at H; exact H
        clear H
        have H := H1
        clear H1
        obtain rfl := Option.some.inj H
        go_wp2_with (first | ((with_reducible refine gate_callee (f := 39) rfl ?_); refine goesL_ (some 13) rfl rfl Try.func39 (by kernel_rfl) rfl #[.int .i64 a0, .int .i64 x4_1] rfl (by (try simp only [List.map_toArray, List.map_cons, List.map_nil]); first | done | rfl | (simp only [List.length_drop, List.length_take]; rfl)) ?_; (with_reducible refine (impl_treeOfRank.calls k1 a0 x4_1 t235 false _ A4.out).mono ?_); rintro e w14 ⟨v236, rfl, ho0, hb⟩; refine ⟨_, rfl, ?_⟩; have n0_ := Aside0.mk (Kd.S_elder' (by (with_reducible repeat (first | apply Kd.S_alloc | apply Kd.S_drewN | apply Kd.S_drew)); exact HO_3.out) (Kd.R_base ho0) hb); have n1_ := Aside0.mk (Kd.R_lower ho0 (below_size (by repeat (first | (with_reducible first | exact HB.out | apply below_alloc | apply pw_below_drewN | apply below_drew1) | exact HB.out)))); have n2_ := Aside0.mk (below_step (by repeat (first | (with_reducible first | exact HB.out | apply below_alloc | apply pw_below_drewN | apply below_drew1) | exact HB.out)) hb); clear HO_3; clear HB; have HO_3 := n0_; have HO237 := n1_; have HB := n2_; clear n0_ n1_ n2_; (try clear hb); (try clear hb2); (try clear hk); (try clear hi); (try clear ho0)) | ((with_reducible refine gate_dst (N := 5) rfl ?_); refine box_event ?hg (N := 5) ?hd (cs := #[.slice none 0 0]) (t := 27) ?hr ?_; (case hd => rfl); (case hg => rfl); (case hr => first | (go_simp; done) | (go_simp; rfl)); intro gb239 hg w15 hbox hb; have n0_ := Aside0.mk (Kd.S_below (Kd.S_elderB (by (with_reducible repeat (first | apply Kd.S_alloc | apply Kd.S_drewN | apply Kd.S_drew)); exact HO_3.out) gb239 (Nat.le_of_eq hg.symm)) hb); have n1_ := Aside0.mk (Kd.R_below (by (with_reducible repeat (first | apply Kd.R_alloc | apply Kd.R_drewN | apply Kd.R_drew)); exact HO237.out) hb); have n2_ := Aside0.mk (below_step (by repeat (first | (with_reducible first | exact HB.out | apply below_alloc | apply pw_below_drewN | apply below_drew1) | exact HB.out)) hb); have n3_ := Aside0.mk (hbox); have n4_ := Aside0.mk ((by rw [hg]; exact (below_size (by repeat (first | (with_reducible first | exact HB.out | apply below_alloc | apply pw_below_drewN | apply below_drew1) | exact HB.out))) : w.heap.size ≤ gb239)); have n5_ := Aside0.mk ((by rw [hg]; exact (below_size (by repeat (first | (with_reducible first | exact HB.out | apply below_alloc | apply pw_below_drewN | apply below_drew1) | exact HB.out))) : w.heap.size ≤ gb239)); clear HO_3; clear HO237; clear HB; have HO_3 := n0_; have HO237 := n1_; have HB := n2_; have BK239 := n3_; have GW239 := n4_; have GE239 := n5_; clear n0_ n1_ n2_ n3_ n4_ n5_; clear hb hbox hg; obtain ⟨Ao16, co16, eo16⟩ := Kd.R_slice HO237.out; subst eo16; have hcz17_0 : w15.cell? ⟨gb239, 0, none⟩ = some (.slice none 0 0) := (blk_cell BK239.out 0).trans rfl; have hfz17_0 := blk_frozen BK239.out 0))
        go_ret
        exact ⟨_, by first | rfl | (simp [errW_none, errW_some] <;> rfl) | (simp [*, errW_none, errW_some] <;> rfl), by (with_reducible repeat (first | apply Kd.S_alloc | apply Kd.S_drewN | apply Kd.S_drew)); exact Kd.S_mono (Kd.S_far (p := ⟨gb239, 0, none⟩) (Kd.S_mono HO_3.out (fun k_ hk => (⟨hk, hk.2⟩ : _ ∧ k_ ≠ gb239))) (fun _ hk => hk.2) (.slice Ao16 t235.length co16)) (fun _ hk => trivial), by repeat (first | (with_reducible first | exact HB.out | apply below_alloc | apply pw_below_drewN | apply below_drew1 | refine below_set ?_ GE239.out) | exact HB.out)⟩

-- NOT PRINTED: function 50 (impl_filled_match)

def impl_endOf.l0 : Nat → List Int → Int → Int → Option (Int)
  | 0, _, _, _ => none
  | k + 1, x0, x1, x5 => if x5 > 0 then (if 0 ≤ x1 then (if x1 < (x0.length : Int) then (impl_endOf.l0 k x0 (wrap64 (x1 + 1)) (wrap64 (x5 + (wrap64 ((rd x0 x1) - 1))))) else (none)) else (none)) else (some x1)
def impl_endOf.f (k : Nat) (l0 : List Int) (a1 : Int) : Option (Int) := impl_endOf.l0 k l0 a1 1
set_option maxHeartbeats 8000000 in
set_option maxRecDepth 100000 in
theorem impl_endOf.calls (k : Nat) (A0 : Option Addr) (c0 : Nat) (l0 : List Int) (a1 : Int) (r : Int) (w : World) (hr0 : Kd.C (Kd.int .i64) w A0 l0.length l0) (hc0 : l0.length ≤ c0) (h : impl_endOf.f k l0 a1 = some r) :
    Calls Try.prog 70 #[.slice A0 l0.length c0, .int .i64 a1] w fun e w' => e = .returned (.int .i64 r) ∧ Drawn0 w w' := by
  have HR0 := Aside0.mk hr0
  have HC0 := Aside0.mk hc0
  clear hr0 hc0
  have H : (impl_endOf.l0 k l0 a1 1) = some r := h
  clear h
  have H' := Aside0.mk H
  clear H
  go_enter Try.func70, Try.ntmps70
  go_wp2
  go_loopg [1, 5] k (fun kq v1 v5 w' => ∃ (x1_1 : Int) (x5_1 : Int), v1 = .int .i64 x1_1 ∧ v5 = .int .i64 x5_1 ∧ Aside0 (impl_endOf.l0 kq l0 x1_1 x5_1 = some r) ∧ Aside0 (kq ≤ k) ∧ Drawn0 w w')
  case atStart => exact ⟨(a1), (1), (by first | rfl | (simp; done) | (simp [*]; done)), (by first | rfl | (simp; done) | (simp [*]; done)), H', ⟨Nat.le_refl _⟩, by repeat (first | exact Drawn0.refl _ | apply Drawn0.step)⟩
  case round =>
    clear H'
    try clear p2
    obtain ⟨x1_1, x5_1, rfl, rfl, HA, HK1, ⟨m1, rfl⟩⟩ := hrel
    cases gk with
    | zero => exact absurd HA.out (by simp [impl_endOf.l0])
    | succ k1 =>
      have H := HA.out
      clear HA
      simp only [impl_endOf.l0] at H
      by_cases c3 : x5_1 > 0
      · rw [if_pos c3] at H
        have c3b0 : decide (0 < x5_1) = true := decide_eq_true c3
        clear c3
        by_cases c4 : 0 ≤ x1_1
        · rw [if_pos c4] at H
          have c4b0 : decide (0 ≤ x1_1) = true := decide_eq_true c4
          clear c4
          by_cases c5 : x1_1 < (l0.length : Int)
          · rw [if_pos c5] at H
            have c5b0 : decide (x1_1 < (l0.length : Int)) = true := decide_eq_true c5
            clear c5
            have H' := Aside0.mk H
            clear H
            have p243 : 0 ≤ (x1_1 : Int) := of_decide_eq_true (by first | (with_reducible assumption) | assumption)
            have q243 : x1_1 < (l0.length : Int) := of_decide_eq_true (by first | (with_reducible assumption) | assumption)
            obtain ⟨ad243, e243, hx243_0⟩ := Kd.at_int HR0.out x1_1 p243 q243
            cases e243
            replace p243 := eq_true p243
            replace q243 := eq_true q243
            go_wp2
            go_roundg k1
            case measure => have := HK1.out; omega
            case rel => exact ⟨(wrap64 (x1_1 + 1)), (wrap64 (x5_1 + (wrap64 ((rd l0 x1_1) - 1)))), (by first | rfl | (simp; done) | (simp [*]; done)), (by first | rfl | (simp; done) | (simp [*]; done)), H', ⟨by have := HK1.out; omega⟩, by repeat (first | exact Drawn0.refl _ | apply Drawn0.step)⟩
          · rw [if_neg c5] at H
            exact absurd H (by simp)
        · rw [if_neg c4] at H
          exact absurd H (by simp)
      · rw [if_neg c3] at H
        have c3b0 : decide (0 < x5_1) = false := decide_eq_false c3
        clear c3
        obtain rfl := Option.some.inj H
        go_wp2
        go_ret
        exact ⟨by first | rfl | (simp; done) | (simp [*]; done), by repeat (first | exact Drawn0.refl _ | apply Drawn0.step)⟩

def impl_kidsOf.l0 : Nat → List Int → List Int → Int → Int → Int → Option (List Int)
  | 0, _, _, _, _, _ => none
  | k + 1, x0, x5, x6, x13, x14 => if x14 < x13 then (if x5.length < 17592186044416 then ((impl_endOf.f k x0 x6).bind fun t251 => (impl_kidsOf.l0 k x0 (x5 ++ [x6]) t251 x13 (wrap64 (x14 + 1)))) else (none)) else (some x5)
def impl_kidsOf.f (k : Nat) (l0 : List Int) (a1 : Int) : Option (List Int) := if 0 ≤ a1 then (if a1 < (l0.length : Int) then (impl_kidsOf.l0 k l0 (([] : List Int)) (wrap64 (a1 + 1)) (rd l0 a1) 0) else (none)) else (none)
set_option maxHeartbeats 8000000 in
set_option maxRecDepth 100000 in
theorem impl_kidsOf.calls (k : Nat) (A0 : Option Addr) (c0 : Nat) (l0 : List Int) (a1 : Int) (r : List Int) (w : World) (hr0 : Kd.C (Kd.int .i64) w A0 l0.length l0) (hc0 : l0.length ≤ c0) (h : impl_kidsOf.f k l0 a1 = some r) :
    Calls Try.prog 63 #[.slice A0 l0.length c0, .int .i64 a1] w fun e w' => ∃ v0_ : Value, e = .returned (v0_) ∧ Kd.R (Kd.int .i64) 2 w' w.heap.size (fun _ => True) v0_ r ∧ Below w.heap.size w w' := by
  have HR0 := Aside0.mk hr0
  have HC0 := Aside0.mk hc0
  clear hr0 hc0
  have HB := Aside0.mk (Below.refl w.heap.size w)
  have H : (if 0 ≤ a1 then (if a1 < (l0.length : Int) then (impl_kidsOf.l0 k l0 (([] : List Int)) (wrap64 (a1 + 1)) (rd l0 a1) 0) else (none)) else (none)) = some r := h
  clear h
  obtain ⟨y244, hy244⟩ : ∃ y_ : List Int, y_ = (([] : List Int)) := ⟨_, rfl⟩
  replace H : (if 0 ≤ a1 then (if a1 < (l0.length : Int) then (impl_kidsOf.l0 k l0 y244 (wrap64 (a1 + 1)) (rd l0 a1) 0) else (none)) else (none)) = some r := by first | (rw [hy244]; with_reducible exact H) | (have H2_ := (Option.bind_some _ _).symm.trans H; rw [hy244]; with_reducible exact H2_) | (have H2_ := (Option.bind_some _ _).symm.trans H; with_reducible exact H2_) | with_reducible exact H | (rw [hy244]; exact H) | exact H
  have Ny244 := Aside0.mk hy244
  clear hy244
  by_cases c3 : 0 ≤ a1
  · rw [if_pos c3] at H
    have c3b0 : decide (0 ≤ a1) = true := decide_eq_true c3
    clear c3
    by_cases c4 : a1 < (l0.length : Int)
    · rw [if_pos c4] at H
      have c4b0 : decide (a1 < (l0.length : Int)) = true := decide_eq_true c4
      clear c4
      have H' := Aside0.mk H
      clear H
      go_enter Try.func63, Try.ntmps63
      go_wp2_with (first | ((with_reducible refine gate_dst (N := 7) rfl ?_); refine Kd.R_lit (Kd.int .i64) _ 2 ?hg (N := 7) ?hd (xs := ([] : List Int)) (inner := []) (ok := fun _ => True) (okp := fun _ => True) ?hr ?hp (fun _ hk => hk) trivial (Below.refl _ _) (Nat.le_refl _) (by simp) ?_; (case hd => rfl); (case hg => rfl); (case hr => first | (go_simp; done) | (go_simp; rfl)); (case hp => exact (Reps.none _ _)); intro v245 w5 ho6 hb hg_ hnew_; clear hg_ hnew_; (first | rw [← Ny244.out] at ho6 | (simp only [Int.reduceToNat] at ho6; rw [← Ny244.out] at ho6)); have n0_ := Aside0.mk (Kd.R_lower ho6 (below_size (by repeat (first | (with_reducible first | exact HB.out | apply below_alloc | apply pw_below_drewN | apply below_drew1) | exact HB.out)))); have n1_ := Aside0.mk (below_step (by repeat (first | (with_reducible first | exact HB.out | apply below_alloc | apply pw_below_drewN | apply below_drew1) | exact HB.out)) hb); clear HB; have HO246 := n0_; have HB := n1_; clear n0_ n1_; clear hb ho6; have p247 : 0 ≤ (a1 : Int) := of_decide_eq_true (by first | (with_reducible assumption) | assumption); have q247 : a1 < (l0.length : Int) := of_decide_eq_true (by first | (with_reducible assumption) | assumption); obtain ⟨ad247, e247, hx247_0⟩ := Kd.at_int HR0.out a1 p247 q247; cases e247; replace hx247_0 := (HB.out.cell (World.block_lt_of_cell? w _ hx247_0)).trans hx247_0; replace p247 := eq_true p247; replace q247 := eq_true q247))
      go_loopg [5, 6, 14] k (fun kq v5 v6 v14 w' => ∃ (x5_1 : List Int) (x6_1 : Int) (x14_1 : Int), v6 = .int .i64 x6_1 ∧ v14 = .int .i64 x14_1 ∧ Aside0 (impl_kidsOf.l0 kq l0 x5_1 x6_1 (rd l0 a1) x14_1 = some r) ∧ Aside0 (kq ≤ k) ∧ Aside0 (Kd.R (Kd.int .i64) 2 w' w.heap.size (fun _ => True) v5 x5_1) ∧ Aside0 (Below w.heap.size w w'))
      case atStart => exact ⟨(y244), (wrap64 (a1 + 1)), (0), (by first | rfl | (simp; done) | (simp [*]; done)), (by first | rfl | (simp; done) | (simp [*]; done)), H', ⟨Nat.le_refl _⟩, ⟨by (with_reducible repeat (first | apply Kd.R_alloc | apply Kd.R_drewN | apply Kd.R_drew)); exact HO246.out⟩, ⟨by repeat (first | (with_reducible first | exact HB.out | apply below_alloc | apply pw_below_drewN | apply below_drew1) | exact HB.out)⟩⟩
      case round =>
        clear H'
        try clear p2
        try clear q2
        try clear hx2
        try clear c3
        try clear c3b0
        try clear c4
        try clear c4b0
        try clear c6
        try clear p6
        try clear hx247_0
        try clear p247
        try clear q247
        obtain ⟨x5_1, x6_1, x14_1, rfl, rfl, HA, HK1, HO_5, HB⟩ := hrel
        cases gk with
        | zero => exact absurd HA.out (by simp [impl_kidsOf.l0])
        | succ k1 =>
          have H := HA.out
          clear HA
          simp only [impl_kidsOf.l0] at H
          by_cases c7 : x14_1 < (rd l0 a1)
          · rw [if_pos c7] at H
            have c7b0 : decide (x14_1 < (rd l0 a1)) = true := decide_eq_true c7
            clear c7
            by_cases c8 : x5_1.length < 17592186044416
            · rw [if_pos c8] at H
              have LMc8 := Aside0.mk c8
              clear c8
              obtain ⟨y248, hy248⟩ : ∃ y_ : List Int, y_ = (x5_1 ++ [x6_1]) := ⟨_, rfl⟩
              replace H : ((impl_endOf.f k1 l0 x6_1).bind fun t251 => (impl_kidsOf.l0 k1 l0 y248 t251 (rd l0 a1) (wrap64 (x14_1 + 1)))) = some r := by first | (rw [hy248]; with_reducible exact H) | (have H2_ := (Option.bind_some _ _).symm.trans H; rw [hy248]; with_reducible exact H2_) | (have H2_ := (Option.bind_some _ _).symm.trans H; with_reducible exact H2_) | with_reducible exact H | (rw [hy248]; exact H) | exact H
              have Ny248 := Aside0.mk hy248
              clear hy248
              replace H := Option.bind_eq_some_iff.mp H
              obtain ⟨t251, A90, H⟩ := H
              replace H : (impl_kidsOf.l0 k1 l0 y248 t251 (rd l0 a1) (wrap64 (x14_1 + 1))) = some r := H
              have A9 := Aside0.mk A90
              clear A90
              have H' := Aside0.mk H
              clear H
              go_wp2_with (first | ((with_reducible refine gate_builtin (b := .append) (xs := #[.tmp 16, .tmp 18]) rfl ?_); at_builtin; refine Kd.R_append (Kd.int .i64) (w0 := w) w.heap.size rfl (.tmp 16) (.tmp 18) 25 2 (.int .i64 0) 8 rfl Try.underlying25 info2 rfl (by decide) (by omega) u5 x5_1 x6_1 [.int .i64 x6_1] (fun _ => True) (fun _ => False) rfl rfl ?aP (fun _ hk => hk.elim) ?aF ?aO ?aB ?aS ?aL ?_; (case aP => exact rfl); (case aB => exact (by repeat (first | (with_reducible first | exact HB.out | apply below_alloc | apply pw_below_drewN | apply below_drew1) | exact HB.out))); (case aF => exact (fun _ _ => trivial)); (case aO => exact (by (with_reducible repeat (first | apply Kd.R_alloc | apply Kd.R_drewN | apply Kd.R_drew)); exact HO_5.out)); (case aS => exact (below_size (by repeat (first | (with_reducible first | exact HB.out | apply below_alloc | apply pw_below_drewN | apply below_drew1) | exact HB.out)))); (case aL => have := LMc8.out; omega); intro v249 w10 ho hb hg hat; rw [← Ny248.out] at ho; have n0_ := Aside0.mk (hb); have n1_ := Aside0.mk (ho); clear HB; clear HO_5; have HB := n0_; have HO250 := n1_; clear n0_ n1_; clear ho hb hg hat) | ((with_reducible refine gate_callee (f := 70) rfl ?_); refine goesL_ (some 22) rfl rfl Try.func70 (by kernel_rfl) rfl #[.slice (some ad247) l0.length c0, .int .i64 x6_1] rfl (by (try simp only [List.map_toArray, List.map_cons, List.map_nil]); first | done | rfl | (simp only [List.length_drop, List.length_take]; rfl)) ?_; (with_reducible refine (impl_endOf.calls k1 _ _ l0 x6_1 t251 _ ?side1 ?side2 A9.out).mono ?_); (case side1 => repeat (first | exact (Kd.C_below HR0.out HB.out) | (with_reducible refine Kd.C_alloc ?_ _) | (with_reducible refine Kd.C_drewN ?_ _) | (with_reducible refine Kd.C_drew ?_))); (case side2 => exact HC0.out); rintro e w' ⟨rfl, ⟨nd, rfl⟩⟩; refine ⟨_, rfl, ?_⟩))
              go_roundg k1
              case measure => have := HK1.out; omega
              case rel => exact ⟨(y248), (t251), (wrap64 (x14_1 + 1)), (by first | rfl | (simp; done) | (simp [*]; done)), (by first | rfl | (simp; done) | (simp [*]; done)), H', ⟨by have := HK1.out; omega⟩, ⟨by (with_reducible repeat (first | apply Kd.R_alloc | apply Kd.R_drewN | apply Kd.R_drew)); exact HO250.out⟩, ⟨by repeat (first | (with_reducible first | exact HB.out | apply below_alloc | apply pw_below_drewN | apply below_drew1) | exact HB.out)⟩⟩
            · rw [if_neg c8] at H
              exact absurd H (by simp)
          · rw [if_neg c7] at H
            have c7b0 : decide (x14_1 < (rd l0 a1)) = false := decide_eq_false c7
            clear c7
            obtain rfl := Option.some.inj H
            go_wp2
            go_ret
            exact ⟨_, by first | rfl | (simp [errW_none, errW_some] <;> rfl) | (simp [*, errW_none, errW_some] <;> rfl), by (with_reducible repeat (first | apply Kd.R_alloc | apply Kd.R_drewN | apply Kd.R_drew)); exact HO_5.out, by repeat (first | (with_reducible first | exact HB.out | apply below_alloc | apply pw_below_drewN | apply below_drew1) | exact HB.out)⟩
    · rw [if_neg c4] at H
      exact absurd H (by simp)
  · rw [if_neg c3] at H
    exact absurd H (by simp)

-- NOT PRINTED: function 51 (impl_ofTree)

-- NOT PRINTED: function 40 (impl_pattern_matchesAt)

-- NOT PRINTED: function 26 (impl_matched)

-- NOT PRINTED: function 14 (impl_avoiding)

end Go.Proofs.Ytjdhjapbggnhkaa.E
