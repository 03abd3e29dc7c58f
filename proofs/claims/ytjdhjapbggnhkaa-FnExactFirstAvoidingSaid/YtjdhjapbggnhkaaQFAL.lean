/- The row of the law FnExactFirstAvoiding, out of its pure statement. -/
import Derived.Test.YtjdhjapbggnhkaaProg
import Derived.Test.YtjdhjapbggnhkaaQFASortC
import Derived.Test.YtjdhjapbggnhkaaQFAW
import Derived.ArgAppend
import Derived.Below
import Derived.BigQuiet
import Derived.Carry
import Derived.Deep.AppendLies
import Derived.Deep.CutBlock
import Derived.Deep.DeepCutAuto
import Derived.Deep.Draws
import Derived.Deep.LoopGhost
import Derived.Deep.OwnRows
import Derived.Deep.QuietTactic
import Derived.Deep.RegionHeld3
import Derived.Deep.RegionLaw
import Derived.IntWalk
import Derived.KernelRfl
import Derived.Laws.AppendOwn
import Derived.Laws.BitsLemmas
import Derived.Laws.BytesArg
import Derived.Laws.CopyOwn
import Derived.Laws.EntriesVeiled
import Derived.Laws.IdiomCopy
import Derived.Laws.MakeOwn
import Derived.Laws.OwnMore
import Derived.Laws.Rows
import Derived.Laws.Slices
import Derived.Laws.Tables
import Derived.Lib.AppendStr
import Derived.Lib.ConvBytes
import Derived.Lib.SliceRun
import Derived.Lib.SplitLaws
import Derived.MapKept
import Derived.Maps.AppendAt
import Derived.Maps.OwnOps
import Derived.Maps.OwnSet
import Derived.OrdersHeld
import Derived.OwnWalk
import Derived.RowKit
import Derived.RowKit3
import Derived.StillTailTactics
import Derived.StringKeys
import Derived.Tactics
import Derived.WalkKit
import Derived.WalkSpells
import Derived.WideLaws
import Derived.WideMake
namespace Go.Proofs.Ytjdhjapbggnhkaa.P
set_option linter.unusedVariables false
set_option linter.unusedSectionVars false
open Go.RowKit Go.Proofs.YtjdhjapbggnhkaaW.PrintWords
inductive Pat where
  | mk (letter : Int) (kids : List Pat)
def Pat.letter : Pat → Int
  | .mk c _ => c
def Pat.kids : Pat → List Pat
  | .mk _ l => l
instance : Inhabited Pat := ⟨.mk 0 []⟩
def KP : Nat → World → Pat → List Value → Prop
  | 0, _, _, _ => False
  | n + 1, w, p, cs => ∃ g A c, cs = [.pointer (some ⟨g, 0, none⟩)] ∧ w.cell? ⟨g, 0, none⟩ = some (.int .u8 p.letter) ∧ w.cell? ⟨g, 1, none⟩ = some (.slice A p.kids.length c) ∧ p.kids.length ≤ c ∧ ReadsRow (KP n w) 1 w A p.kids.length p.kids
def MP : Nat → World → Nat → (Nat → Prop) → Pat → List Value → Prop
  | 0, _, _, _, _, _ => False
  | n + 1, w, base, ok, p, cs => ∃ g v, cs = [.pointer (some ⟨g, 0, none⟩)] ∧ ok g ∧ base ≤ g ∧ w.heap[g]? = some (.cells #[.int .u8 p.letter, v] 78 (0, 0)) ∧
      (∀ k, v.ownBlock = some k → ok k ∧ k ≠ g) ∧ OwnRow (MP n w base (fun k => (ok k ∧ k ≠ g) ∧ some k ≠ v.ownBlock)) 43 1 w base v p.kids
structure Props (K : World → Pat → List Value → Prop) (M : World → Nat → (Nat → Prop) → Pat → List Value → Prop) : Prop where
  K_len : ∀ {w x cs}, K w x cs → cs.length = 1
  K_one : ∀ {w x cs}, K w x cs → ∀ u ∈ cs, u.oneCell' = true
  K_below : ∀ {w w1 : World} {x cs}, Below w.heap.size w w1 → K w x cs → K w1 x cs
  K_of_M : ∀ {w base ok x cs}, M w base ok x cs → K w x cs
  M_mono : ∀ {w base ok ok' x cs}, (∀ k, ok k → ok' k) → M w base ok x cs → M w base ok' x cs
  M_bound : ∀ {w : World} {base ok x cs}, M w base ok x cs → M w base (fun k => ok k ∧ base ≤ k ∧ k < w.heap.size ∧ ∃ q, q ∈ [78, 43] ∧ ∃ cells, w.heap[k]? = some (.cells cells q (0, 0))) x cs
  M_move : ∀ {w w1 : World} {base ok x cs}, (∀ k, ok k → w1.heap[k]? = w.heap[k]?) → M w base ok x cs → M w1 base ok x cs
  M_lower : ∀ {w base base' ok x cs}, base' ≤ base → M w base ok x cs → M w base' ok x cs
def Props.kd {K : World → Pat → List Value → Prop} {M : World → Nat → (Nat → Prop) → Pat → List Value → Prop} (h : Props K M) : Kd Pat :=
  { sz := 1, E := [78, 43], K := K, M := M, K_len := h.K_len, K_one := h.K_one, K_below := h.K_below, K_of_M := h.K_of_M, M_mono := h.M_mono, M_bound := h.M_bound, M_move := h.M_move, M_lower := h.M_lower }
theorem props : ∀ n, Props (KP n) (MP n)
  | 0 => ⟨fun h => h.elim, fun h => h.elim, fun _ h => h.elim, fun h => h.elim, fun _ h => h.elim, fun h => h.elim, fun _ h => h.elim, fun _ h => h.elim⟩
  | n + 1 => by
    have ih := props n
    refine ⟨?_, ?_, ?_, ?_, ?_, ?_, ?_, ?_⟩
    · rintro w x cs ⟨g, A, c, rfl, _⟩; rfl
    · rintro w x cs ⟨g, A, c, rfl, _⟩ u hu
      rw [List.mem_singleton.1 hu]; rfl
    · rintro w w1 x cs hb ⟨g, A, c, rfl, h0, h1, hl, hr⟩
      exact ⟨g, A, c, rfl, (hb.cell (World.block_lt_of_cell? _ _ h0)).trans h0, (hb.cell (World.block_lt_of_cell? _ _ h1)).trans h1, hl, Kd.C_below (d := ih.kd) hr hb⟩
    · rintro w base ok x cs ⟨g, v, rfl, _, _, hg, hv, hr⟩
      have hR : ih.kd.R 43 w base (fun k => ok k ∧ k ≠ g) v x.kids := ⟨hv, hr⟩
      obtain ⟨A, c, rfl, hl, hC⟩ := Kd.R_reads hR
      exact ⟨g, A, c, rfl, (blk_cell hg 0).trans rfl, (blk_cell hg 1).trans rfl, hl, hC⟩
    · rintro w base ok ok' x cs hok ⟨g, v, rfl, h1, h2, hg, hv, hr⟩
      have hR : ih.kd.R 43 w base (fun k => ok k ∧ k ≠ g) v x.kids := ⟨hv, hr⟩
      obtain ⟨h3, h4⟩ := Kd.R_mono (ok' := fun k => ok' k ∧ k ≠ g) hR (fun k hk => ⟨hok k hk.1, hk.2⟩)
      exact ⟨g, v, rfl, hok g h1, h2, hg, h3, h4⟩
    · rintro w base ok x cs ⟨g, v, rfl, h1, h2, hg, hv, hr⟩
      have hR : ih.kd.R 43 w base (fun k => ok k ∧ k ≠ g) v x.kids := ⟨hv, hr⟩
      obtain ⟨h3, h4⟩ := Kd.R_mono (ok' := fun k => (ok k ∧ base ≤ k ∧ k < w.heap.size ∧ ∃ q, q ∈ [78, 43] ∧ ∃ cells, w.heap[k]? = some (.cells cells q (0, 0))) ∧ k ≠ g) (Kd.R_bound hR) (fun k hk => by
        obtain ⟨⟨a, b⟩, c, d, q, hq, e⟩ := hk
        refine ⟨⟨a, c, d, q, ?_, e⟩, b⟩
        rcases List.mem_cons.1 hq with rfl | hq
        · exact List.mem_cons_of_mem _ List.mem_cons_self
        · exact hq)
      exact ⟨g, v, rfl, ⟨h1, h2, blk_lt hg, 78, List.mem_cons_self, _, hg⟩, h2, hg, h3, h4⟩
    · rintro w w1 base ok x cs hm ⟨g, v, rfl, h1, h2, hg, hv, hr⟩
      have hR : ih.kd.R 43 w base (fun k => ok k ∧ k ≠ g) v x.kids := ⟨hv, hr⟩
      obtain ⟨h3, h4⟩ := Kd.R_move (w1 := w1) hR (fun k hk => hm k hk.1)
      exact ⟨g, v, rfl, h1, h2, (hm g h1).trans hg, h3, h4⟩
    · rintro w base base' ok x cs hb ⟨g, v, rfl, h1, h2, hg, hv, hr⟩
      have hR : ih.kd.R 43 w base (fun k => ok k ∧ k ≠ g) v x.kids := ⟨hv, hr⟩
      obtain ⟨h3, h4⟩ := Kd.R_lower hR hb
      exact ⟨g, v, rfl, h1, Nat.le_trans hb h2, hg, h3, h4⟩
def kP (n : Nat) : Kd Pat := (props n).kd
theorem kP_sz (n : Nat) : (kP n).sz = 1 := rfl
theorem M_leaf {n : Nat} {w : World} {base g : Nat} {ok : Nat → Prop} {c : Int} (h1 : ok g) (h2 : base ≤ g) (hg : w.heap[g]? = some (.cells #[.int .u8 c, .slice none 0 0] 78 (0, 0))) : (kP (n + 1)).M w base ok (.mk c []) [.pointer (some ⟨g, 0, none⟩)] :=
  ⟨g, _, rfl, h1, h2, hg, fun k hk => by simp [Value.ownBlock] at hk, OwnRow.none_ _ _ _ _ _⟩
theorem M_node {n : Nat} {w : World} {base g : Nat} {ok : Nat → Prop} {c : Int} {v : Value} {l : List Pat} (h1 : ok g) (h2 : base ≤ g) (hg : w.heap[g]? = some (.cells #[.int .u8 c, v] 78 (0, 0))) (hR : (kP n).R 43 w base (fun k => ok k ∧ k ≠ g) v l) :
    (kP (n + 1)).M w base ok (.mk c l) [.pointer (some ⟨g, 0, none⟩)] :=
  ⟨g, v, rfl, h1, h2, hg, hR.1, hR.2⟩
theorem M_ptr {n : Nat} {w : World} {base : Nat} {ok : Nat → Prop} {p : Pat} {v : Value} (h : (kP n).M w base ok p [v]) : ∃ g, v = .pointer (some ⟨g, 0, none⟩) := by
  cases n with
  | zero => exact h.elim
  | succ m =>
    obtain ⟨g, _, e, _⟩ := h
    exact ⟨g, by simpa using e⟩
theorem K_open {n : Nat} {w : World} {p : Pat} {v : Value} (h : (kP n).K w p [v]) : ∃ m g A c, n = m + 1 ∧ v = .pointer (some ⟨g, 0, none⟩) ∧ w.cell? ⟨g, 0, none⟩ = some (.int .u8 p.letter) ∧ w.cell? ⟨g, 1, none⟩ = some (.slice A p.kids.length c) ∧ p.kids.length ≤ c ∧ (kP m).C w A p.kids.length p.kids := by
  cases n with
  | zero => exact h.elim
  | succ m =>
    obtain ⟨g, A, c, e, h0, h1, hl, hr⟩ := h
    exact ⟨m, g, A, c, rfl, by simpa using e, h0, h1, hl, hr⟩
theorem at_P {n : Nat} {w : World} {A : Option Addr} {m : Nat} {xs : List Pat} (h : (kP n).C w A m xs) (i : Nat) (hi : i < xs.length) : ∃ ad v, A = some ad ∧ w.cell? (ad.add i) = some v ∧ (kP n).K w (xs.getD i default) [v] := by
  obtain ⟨h1, h2, h3⟩ := h
  obtain ⟨ad, rfl, h4⟩ := h3 (by omega)
  obtain ⟨c, hl, hR, hc⟩ := h4 i _ (List.getElem?_eq_getElem hi)
  match c, hl with
  | [v], _ =>
    refine ⟨ad, v, rfl, by have h5 := hc 0 v rfl; rw [kP_sz, Nat.mul_one, Nat.add_zero] at h5; exact h5, ?_⟩
    rw [List.getD_eq_getElem?_getD, List.getElem?_eq_getElem hi]
    exact hR
end Go.Proofs.Ytjdhjapbggnhkaa.P
namespace Go.Proofs.Ytjdhjapbggnhkaa.P
set_option linter.unusedVariables false
set_option linter.unusedSectionVars false
open Go.RowKit Go.Proofs.YtjdhjapbggnhkaaW.PrintWords Go.Proofs.YtjdhjapbggnhkaaW.PrintLast Go.Proofs.YtjdhjapbggnhkaaW.PrintMore
def kidsP (f : ByteArray → Option (Pat × ByteArray)) : Nat → ByteArray → List Pat → Option (List Pat × ByteArray)
  | 0, _, _ => none
  | m + 1, s, acc => if s.size = 0 ∨ bt s 0 = 41 then some (acc, s) else (f s).bind fun x => kidsP f m x.2 (acc ++ [x.1])
def parse : Nat → ByteArray → Option (Pat × ByteArray)
  | 0, _ => none
  | n + 1, s => if s.size = 0 then none else if 97 ≤ bt s 0 ∧ bt s 0 ≤ 104 then some (.mk (bt s 0) [], s.extract 1 s.size) else if bt s 0 ≠ 40 then none else
      (kidsP (parse n) (n + 1) (s.extract 1 s.size) []).bind fun x => if x.2.size = 0 then none else some (.mk 0 x.1, x.2.extract 1 x.2.size)
def ReadR (n base : Nat) : Option (Pat × ByteArray) → Ending → World → Prop
  | none, e, _ => e = .returned (.tuple #[.pointer none, .string ⟨#[]⟩, .bool false])
  | some x, e, w => ∃ v, e = .returned (.tuple #[v, .string x.2, .bool true]) ∧ (kP n).M w base (fun _ => True) x.1 [v]
theorem kidsP_stop {f : ByteArray → Option (Pat × ByteArray)} {m : Nat} {s : ByteArray} {acc : List Pat} (h : s.size = 0 ∨ bt s 0 = 41) : kidsP f (m + 1) s acc = some (acc, s) := by rw [kidsP, if_pos h]
theorem kidsP_go {f : ByteArray → Option (Pat × ByteArray)} {m : Nat} {s : ByteArray} {acc : List Pat} (h : ¬ (s.size = 0 ∨ bt s 0 = 41)) : kidsP f (m + 1) s acc = (f s).bind fun x => kidsP f m x.2 (acc ++ [x.1]) := by rw [kidsP, if_neg h]
theorem kidsP_size {f : ByteArray → Option (Pat × ByteArray)} (hf : ∀ s x, f s = some x → x.2.size < s.size) : ∀ (m : Nat) (s : ByteArray) (acc : List Pat) (x : List Pat × ByteArray), kidsP f m s acc = some x → x.2.size ≤ s.size
  | 0, s, acc, x, h => by simp [kidsP] at h
  | m + 1, s, acc, x, h => by
    rw [kidsP] at h
    split at h
    · obtain rfl := Option.some.inj h
      exact Nat.le_refl _
    · obtain ⟨y, h1, h2⟩ := Option.bind_eq_some_iff.1 h
      have h3 := hf _ _ h1
      have h4 := kidsP_size hf m _ _ _ h2
      omega
theorem parse_size : ∀ (n : Nat) (s : ByteArray) (x : Pat × ByteArray), parse n s = some x → x.2.size < s.size
  | 0, s, x, h => by simp [parse] at h
  | n + 1, s, x, h => by
    rw [parse] at h
    split at h
    · cases h
    · have e : ∀ r : ByteArray, (r.extract 1 r.size).size = r.size - 1 := fun r => by rw [ByteArray.size_extract]; omega
      split at h
      · obtain rfl := Option.some.inj h
        show (s.extract 1 s.size).size < _
        rw [e]; omega
      · split at h
        · cases h
        · obtain ⟨y, h1, h2⟩ := Option.bind_eq_some_iff.1 h
          have h3 := kidsP_size (parse_size n) _ _ _ _ h1
          rw [e] at h3
          split at h2
          · cases h2
          · obtain rfl := Option.some.inj h2
            show (y.2.extract 1 y.2.size).size < _
            rw [e]; omega
theorem infoP : (Try.prog.info? 43).map (fun i => (i.zero, i.size, i.bytes)) = some (some (.pointer none), 1, 8) := by kernel_rfl
theorem isEmpty_eq (s : ByteArray) : s.toList.isEmpty = decide (s.size = 0) := by
  rw [Lib.toList_data, Lib.size_eq]
  cases s.data.toList <;> simp
set_option maxHeartbeats 4000000 in
set_option maxRecDepth 100000 in
theorem readPattern_calls : ∀ (n : Nat) (s : ByteArray) (w : World), s.size < n → s.size ≤ 1048576 →
    Calls Try.prog 46 #[.string s] w fun e w' => Below w.heap.size w w' ∧ ReadR n w.heap.size (parse n s) e w'
  | 0, s, w, h, _ => by omega
  | n + 1, s, w, h, hs => by
    have ih := readPattern_calls n
    by_cases h0 : s.size = 0
    · have hE : s.toList.isEmpty = true := by rw [isEmpty_eq, decide_eq_true h0]
      have hp : parse (n + 1) s = none := by rw [parse, if_pos h0]
      rw [hp]
      go_enter Try.func46, Try.ntmps46
      go_wp2
      refine bodyPost_ret (results_tmp3 rfl _ _ _) rfl ?_
      exact ⟨Below.refl _ _, rfl⟩
    · have hE : s.toList.isEmpty = false := by rw [isEmpty_eq, decide_eq_false h0]
      have hz : 0 < s.size := by omega
      obtain ⟨b, hb⟩ : ∃ b : Int, b = (s[0].toNat : Int) := ⟨_, rfl⟩
      have hbt : bt s 0 = b := by rw [hb]; exact (bt_at s 0 hz).symm
      have hz1 : (0 < s.size) = True := eq_true hz
      have hz2 : (1 ≤ s.size) = True := eq_true hz
      have hb2 := hb.symm
      clear hb
      by_cases hl : 97 ≤ b ∧ b ≤ 104
      · have h97 : decide (97 ≤ b) = true := decide_eq_true hl.1
        have h104 : decide (b ≤ 104) = true := decide_eq_true hl.2
        have hp : parse (n + 1) s = some (.mk b [], s.extract 1 s.size) := by rw [parse, if_neg h0, hbt, if_pos hl]
        rw [hp]
        go_enter Try.func46, Try.ntmps46
        go_wp2
        go_region
        all_goals go_wp2
        refine bodyPost_ret (results_tmp3 rfl _ _ _) rfl ?_
        exact ⟨below_drew (below_alloc (Below.refl _ _) _), _, rfl, M_leaf trivial (Nat.le_refl _) (blk_drew (blk_new _ _))⟩
      · by_cases h40 : b = 40
        · subst h40
          have hp : parse (n + 1) s = (kidsP (parse n) (n + 1) (s.extract 1 s.size) []).bind fun x => if x.2.size = 0 then none else some (.mk 0 x.1, x.2.extract 1 x.2.size) := by
            rw [parse, if_neg h0, hbt, if_neg hl, if_neg (by decide)]
          obtain ⟨R, hR⟩ : ∃ R, R = kidsP (parse n) (n + 1) (s.extract 1 s.size) [] := ⟨_, rfl⟩
          rw [hp, ← hR]
          clear hp
          have hs1 : (s.extract 1 s.size).size = s.size - 1 := by rw [ByteArray.size_extract]; omega
          obtain ⟨s1, e1⟩ : ∃ s1, s1 = s.extract 1 s.size := ⟨_, rfl⟩
          rw [← e1] at hR hs1
          have e1' := e1.symm
          clear e1
          have HR := Aside0.mk hR
          clear hR
          go_enter Try.func46, Try.ntmps46
          go_wp2_with (first | ((with_reducible refine gate_dst (N := 32) rfl ?_); (try (refine gate_guard (by rfl) ?_; dsimp only)); refine box_event ?hg (N := 32) ?hd (cs := #[.int .u8 0, .slice none 0 0]) (t := 78) ?hr ?_; (case hd => rfl); (case hg => rfl); (case hr => first | (go_simp; done) | (go_simp; rfl)); intro g hg w4 hbox hb; have BK := Aside0.mk hbox; have HB := Aside0.mk hb; have GE := Aside0.mk (show w.heap.size ≤ g by rw [hg]; exact Nat.le_refl _); clear hbox hb hg))
          go_loopg [0] (n + 1) (fun kq v0 w' => ∃ (t : ByteArray) (acc : List Pat) (v : Value), v0 = .string t ∧ t.size < kq ∧ t.size ≤ s1.size ∧ Aside0 (kidsP (parse n) kq t acc = R) ∧ acc.length + t.size ≤ s1.size ∧ Aside0 (w'.heap[g]? = some (.cells #[.int .u8 0, v] 78 (0, 0))) ∧ Aside0 ((kP n).R 43 w' w.heap.size (fun k => True ∧ k ≠ g) v acc) ∧ Aside0 (Below w.heap.size w w'))
          case atStart => exact ⟨s1, [], .slice none 0 0, rfl, by omega, Nat.le_refl _, ⟨HR.out.symm⟩, by simp, ⟨BK.out⟩, ⟨Kd.R_nil _ _ _ _ _⟩, ⟨HB.out⟩⟩
          case round =>
            clear BK HB HR
            obtain ⟨t, acc, v, rfl, hk1, hk2, HR, hk3, BK, HO, HB⟩ := hrel
            cases gk with
            | zero => omega
            | succ gk =>
              by_cases hst : t.size = 0 ∨ bt t 0 = 41
              · have hR := HR.out
                rw [kidsP_stop hst] at hR
                subst hR
                by_cases ht0 : t.size = 0
                · have hE2 : t.toList.isEmpty = true := by rw [isEmpty_eq, decide_eq_true ht0]
                  go_wp2
                  refine bodyPost_ret (results_tmp3 rfl _ _ _) rfl ?_
                  exact ⟨HB.out, by rw [Option.bind_some, if_pos ht0]; rfl⟩
                · have hE2 : t.toList.isEmpty = false := by rw [isEmpty_eq, decide_eq_false ht0]
                  have hz3 : 0 < t.size := by omega
                  have hb3 : (t[0].toNat : Int) = 41 := (bt_at t 0 hz3).trans (by omega)
                  have hz4 : (0 < t.size) = True := eq_true hz3
                  have hz5 : (1 ≤ t.size) = True := eq_true hz3
                  go_wp2
                  go_region
                  all_goals go_wp2
                  all_goals (refine bodyPost_ret (results_tmp3 rfl _ _ _) rfl ?_)
                  all_goals exact ⟨below_drew HB.out, by rw [Option.bind_some, if_neg ht0]; exact ⟨_, rfl, M_node trivial GE.out (blk_drew BK.out) (Kd.R_drew HO.out)⟩⟩
              · have hR := HR.out
                rw [kidsP_go hst] at hR
                have ht0 : ¬ t.size = 0 := fun e => hst (.inl e)
                have hE2 : t.toList.isEmpty = false := by rw [isEmpty_eq, decide_eq_false ht0]
                have hz3 : 0 < t.size := by omega
                obtain ⟨b2, hb3⟩ : ∃ b : Int, b = (t[0].toNat : Int) := ⟨_, rfl⟩
                have hb4 : bt t 0 = b2 := by rw [hb3]; exact (bt_at t 0 hz3).symm
                have hb5 := hb3.symm
                clear hb3
                have h41 : (b2 != 41) = true := by rw [bne_iff_ne]; exact fun e => hst (.inr (hb4.trans e))
                have hz4 : (0 < t.size) = True := eq_true hz3
                have IH := Aside0.mk (fun w => ih t w (by omega) (by omega))
                have hgl := Aside0.mk (blk_lt BK.out)
                have hvl := Aside0.mk (Kd.R_lt HO.out)
                cases hpk : parse n t with
                | none =>
                  rw [hpk] at hR
                  subst hR
                  go_wp2_with (first | (go_at_call 46; refine (IH.out _).mono ?_; rintro e w5 ⟨hb, hr⟩; rw [hpk] at hr; have hr' := hr; unfold ReadR at hr'; subst hr'; clear hr; have HB2 := Aside0.mk (below_step HB.out hb); clear hb))
                  refine bodyPost_ret (results_tmp3 rfl _ _ _) rfl ?_
                  exact ⟨HB2.out, rfl⟩
                | some x =>
                  rw [hpk] at hR
                  have HR2 := Aside0.mk hR
                  clear HR hR
                  have hsz := parse_size n t x hpk
                  obtain ⟨y, hy⟩ : ∃ y, y = acc ++ [x.1] := ⟨_, rfl⟩
                  have Ny := Aside0.mk hy
                  clear hy
                  go_wp2_with (first | (go_at_call 46; refine (IH.out _).mono ?_; rintro e w5 ⟨hb, hr⟩; rw [hpk] at hr; obtain ⟨v5, rfl, hM⟩ := hr; obtain ⟨g5, rfl⟩ := M_ptr hM; have HM := Aside0.mk hM; have HB2 := Aside0.mk hb; have BK2 := Aside0.mk (blk_below BK.out hb); have HO2 := Aside0.mk (Kd.R_below HO.out hb); have hc1 : w5.cell? ⟨g, 1, none⟩ = some v := (blk_cell BK2.out 1).trans rfl; have hf1 := blk_frozen BK2.out 1; clear hb hM) | ((with_reducible refine gate_builtin (b := .append) (xs := #[.tmp 54, .tmp 56]) rfl ?_); (try (refine gate_guard (by rfl) ?_; dsimp only)); at_builtin; refine Kd.R_append (kP n) (w0 := w) w.heap.size rfl (.tmp 54) (.tmp 56) 76 43 (.pointer none) 8 rfl Try.underlying76 infoP rfl (show 0 < (kP n).sz from Nat.one_pos) (by omega) v acc x.1 [.pointer (some ⟨g5, 0, none⟩)] (fun k => True ∧ k ≠ g) (fun k => wr.heap.size ≤ k) rfl rfl ?aP ?aK ?aF ?aO ?aB ?aS ?aL ?_; (case aP => exact (kP n).M_mono (fun k hk => hk.2.1) ((kP n).M_lower (below_size HB.out) ((kP n).M_bound HM.out))); (case aK => exact fun k hk => ⟨⟨trivial, by have := hgl.out; omega⟩, fun e => by have := hvl.out k e.symm; omega⟩); (case aF => exact fun k hk => ⟨trivial, by have := blk_lt BK2.out; have hk' : w5.heap.size ≤ k := hk; omega⟩); (case aO => exact HO2.out); (case aB => exact below_step HB.out HB2.out); (case aS => exact below_size (below_step HB.out HB2.out)); (case aL => omega); intro v6 w6 ho hb hg hat; rw [← Ny.out] at ho; have BK3 := Aside0.mk (blk_grown BK2.out hg (Kd.R_ne HO2.out BK2.out (by decide))); have HO3 := Aside0.mk ho; have HB3 := Aside0.mk hb; have hc2 : w6.cell? ⟨g, 1, none⟩ = some v := (blk_cell BK3.out 1).trans rfl; have hf2 := blk_frozen BK3.out 1; clear ho hb hg hat hc1 hf1; obtain ⟨A6, c6, e6⟩ := Kd.R_slice HO3.out; subst e6))
                  go_roundg gk
                  case measure => omega
                  case rel => exact ⟨x.2, y, _, rfl, by omega, by omega, ⟨by rw [Ny.out]; exact HR2.out⟩, by rw [Ny.out, List.length_append, List.length_singleton]; omega, ⟨blk_put BK3.out 1 _ rfl⟩, ⟨Kd.R_far HO3.out (fun k hk => hk.2) _⟩, ⟨below_set HB3.out GE.out⟩⟩
        · have h40' : (b != 40) = true := by rw [bne_iff_ne]; exact h40
          have hp : parse (n + 1) s = none := by rw [parse, if_neg h0, hbt, if_neg hl, if_pos h40]
          rw [hp]
          have hl' : (decide (97 ≤ b) && decide (b ≤ 104)) = false := by rw [← Bool.not_eq_true, Bool.and_eq_true, decide_eq_true_eq, decide_eq_true_eq]; exact hl
          go_enter Try.func46, Try.ntmps46
          go_wp2
          all_goals (refine bodyPost_ret (results_tmp3 rfl _ _ _) rfl ?_)
          all_goals exact ⟨Below.refl _ _, rfl⟩
end Go.Proofs.Ytjdhjapbggnhkaa.P
namespace Go.Proofs.Ytjdhjapbggnhkaa.P
set_option linter.unusedVariables false
set_option linter.unusedSectionVars false
open Go.RowKit Go.Proofs.YtjdhjapbggnhkaaW.PrintWords Go.Proofs.YtjdhjapbggnhkaaW.PrintLast Go.Proofs.YtjdhjapbggnhkaaW.PrintMore
def lettersN : Nat → Pat → ByteArray
  | 0, _ => ByteArray.empty
  | n + 1, p => if p.letter = 0 then p.kids.foldl (fun acc k => acc ++ lettersN n k) ByteArray.empty else ⟨#[UInt8.ofNat p.letter.toNat]⟩
def goodP : Nat → Pat → Prop
  | 0, _ => False
  | n + 1, p => (p.letter = 0 ∨ (97 ≤ p.letter ∧ p.letter ≤ 104 ∧ p.kids = [])) ∧ ∀ k ∈ p.kids, goodP n k
theorem fold_le (f : Pat → ByteArray) : ∀ (l : List Pat) (acc : ByteArray), acc.size ≤ (l.foldl (fun acc k => acc ++ f k) acc).size
  | [], acc => Nat.le_refl _
  | k :: l, acc => by
    have h := fold_le f l (acc ++ f k)
    rw [ByteArray.size_append] at h
    simp only [List.foldl_cons]
    omega
theorem fold_take (f : Pat → ByteArray) (l : List Pat) (i : Nat) (h : i < l.length) : (l.take (i + 1)).foldl (fun acc k => acc ++ f k) ByteArray.empty = (l.take i).foldl (fun acc k => acc ++ f k) ByteArray.empty ++ f (l.getD i default) := by
  rw [List.take_add_one, List.getElem?_eq_getElem h, List.foldl_append, List.getD_eq_getElem?_getD, List.getElem?_eq_getElem h]
  rfl
theorem fold_take_le (f : Pat → ByteArray) (l : List Pat) (i : Nat) : ((l.take i).foldl (fun acc k => acc ++ f k) ByteArray.empty).size ≤ (l.foldl (fun acc k => acc ++ f k) ByteArray.empty).size := by
  have h := fold_le f (l.drop i) ((l.take i).foldl (fun acc k => acc ++ f k) ByteArray.empty)
  rwa [← List.foldl_append, List.take_append_drop] at h
theorem enc_letter {b : Int} (h : 97 ≤ b ∧ b ≤ 104) : Utf8.encode b = ⟨#[UInt8.ofNat b.toNat]⟩ := by
  have : b = 97 ∨ b = 98 ∨ b = 99 ∨ b = 100 ∨ b = 101 ∨ b = 102 ∨ b = 103 ∨ b = 104 := by omega
  rcases this with rfl | rfl | rfl | rfl | rfl | rfl | rfl | rfl <;> rfl
set_option maxHeartbeats 4000000 in
set_option maxRecDepth 100000 in
theorem lettersOf_calls : ∀ (n : Nat) (p : Pat) (v : Value) (w : World), (kP n).K w p [v] → goodP n p → (lettersN n p).size ≤ 1048576 →
    Calls Try.prog 34 #[v] w fun e w' => Below w.heap.size w w' ∧ e = .returned (.string (lettersN n p))
  | 0, p, v, w, h, _, _ => h.elim
  | n + 1, p, v, w, h, hgood, hs => by
    have ih := lettersOf_calls n
    obtain ⟨m, g, A, c, hm, rfl, h0, h1, hl, hC⟩ := K_open h
    obtain rfl : m = n := by omega
    by_cases hz : p.letter = 0
    · have e : lettersN (m + 1) p = p.kids.foldl (fun acc k => acc ++ lettersN m k) ByteArray.empty := by rw [lettersN, if_pos hz]
      rw [hz] at h0
      rw [e] at hs
      rw [e]
      clear e
      have HC := Aside0.mk hC
      have HK := Aside0.mk h
      have HS := Aside0.mk hs
      clear h hC hs
      go_enter Try.func34, Try.ntmps34
      go_wp2
      go_loopg [3, 22] (p.kids.length + 1) (fun kq v3 v22 w' => ∃ (i : Nat) (out : ByteArray), v22 = .int .i64 (i : Int) ∧ v3 = .string out ∧ i + kq = p.kids.length + 1 ∧ i ≤ p.kids.length ∧ Aside0 (out = (p.kids.take i).foldl (fun acc k => acc ++ lettersN m k) ByteArray.empty) ∧ Aside0 (Below w.heap.size w w'))
      case atStart => exact ⟨0, ByteArray.empty, rfl, rfl, by omega, by omega, ⟨rfl⟩, ⟨Below.refl _ _⟩⟩
      case round =>
        obtain ⟨i, out, rfl, rfl, hk, hil, hout, HB⟩ := hrel
        cases gk with
        | zero =>
          exfalso
          omega
        | succ gk =>
          by_cases hi : i < p.kids.length
          · have hb1 : decide ((i : Int) < (p.kids.length : Int)) = true := decide_eq_true (by omega)
            obtain ⟨ad, u, rfl, hx, hK⟩ := at_P (Kd.C_below HC.out HB.out) i hi
            obtain ⟨m1, g1, A1, c1, hm1, rfl, _⟩ := K_open hK
            have hgk : goodP m (p.kids.getD i default) := hgood.2 _ (by rw [List.getD_eq_getElem?_getD, List.getElem?_eq_getElem hi]; exact List.getElem_mem hi)
            have hf := fold_take (lettersN m) p.kids i hi
            have hs := HS.out
            have hle := fold_take_le (lettersN m) p.kids (i + 1)
            rw [hf, ByteArray.size_append, ← hout.out] at hle
            have IH := Aside0.mk (fun w h => ih (p.kids.getD i default) (.pointer (some ⟨g1, 0, none⟩)) w h hgk (by omega))
            have HKd := Aside0.mk hK
            obtain ⟨L, hL⟩ : ∃ L, L = lettersN m (p.kids.getD i default) := ⟨_, rfl⟩
            rw [← hL] at hle hf
            rw [← hL] at IH
            clear hK hL
            have hmx := HC.out.2.1
            have hw : wrap64 ((i : Int) + 1) = ((i + 1 : Nat) : Int) := by unfold wrap64; omega
            have hf2 := hf
            clear hf
            have hf2 := Aside0.mk hf2
            have hi2 : (i < p.kids.length) = True := eq_true hi
            have hs1 : decide (out.size + L.size ≤ 9223372036854775807) = true := decide_eq_true (by omega)
            have hs2 : (9223372036854775807 < out.size + L.size) = False := eq_false (by omega)
            have HMX := Aside0.mk hmx
            have HLE := Aside0.mk hle
            clear hmx hle hs
            go_wp2_with (first | (go_at_call 34; refine (IH.out _ HKd.out).mono ?_; rintro e w5 ⟨hb, rfl⟩; have HB2 := Aside0.mk (below_step HB.out hb); clear hb))
            go_roundg gk
            case measure => omega
            case rel => exact ⟨i + 1, out ++ L, by first | (rw [hw]; done) | rfl | (congr 1; omega), rfl, by omega, by omega, ⟨by rw [hf2.out, ← hout.out]⟩, ⟨HB2.out⟩⟩
          · have hb1 : decide ((i : Int) < (p.kids.length : Int)) = false := decide_eq_false (by omega)
            have ho := hout.out
            rw [List.take_of_length_le (by omega)] at ho
            have HO := Aside0.mk ho
            clear ho hout
            go_wp2
            go_ret
            exact ⟨HB.out, by show Ending.returned (Value.string out) = _; rw [HO.out]⟩
    · have e : lettersN (m + 1) p = ⟨#[UInt8.ofNat p.letter.toNat]⟩ := by rw [lettersN, if_neg hz]
      rw [e]
      have hr : 97 ≤ p.letter ∧ p.letter ≤ 104 := by
        rcases hgood.1 with h | h
        · exact absurd h hz
        · exact ⟨h.1, h.2.1⟩
      clear e hs hgood h hC
      obtain ⟨b, hb⟩ : ∃ b, p.letter = b := ⟨_, rfl⟩
      rw [hb] at hz h0 hr ⊢
      clear hb
      have hz2 : (b != 0) = true := bne_iff_ne.2 hz
      go_enter Try.func34, Try.ntmps34
      go_wp2
      go_ret
      exact ⟨Below.refl _ _, by show Ending.returned (Value.string (Utf8.encode b)) = _; rw [enc_letter hr]⟩
end Go.Proofs.Ytjdhjapbggnhkaa.P
namespace Go.Proofs.Ytjdhjapbggnhkaa.P
set_option linter.unusedVariables false
set_option linter.unusedSectionVars false
open Go.RowKit Go.Proofs.YtjdhjapbggnhkaaW.PrintWords Go.Proofs.YtjdhjapbggnhkaaW.PrintLast Go.Proofs.YtjdhjapbggnhkaaW.PrintMore
theorem info5 : (Try.prog.info? 5).map (fun i => (i.zero, i.size, i.bytes)) = some (some (.int .u8 0), 1, 1) := by kernel_rfl
def cloneB.f (l0 : List Int) : Option (List Int) := if l0.length < 17592186044416 then some l0 else none
set_option maxHeartbeats 8000000 in
set_option maxRecDepth 100000 in
theorem cloneB.calls (A0 : Option Addr) (c0 : Nat) (l0 : List Int) (r : List Int) (w : World) (hr0 : Kd.C (Kd.int .u8) w A0 l0.length l0) (hc0 : l0.length ≤ c0) (h : cloneB.f l0 = some r) :
    Calls Try.prog 37 #[.slice A0 l0.length c0] w fun e w' => ∃ v0_ : Value, e = .returned (v0_) ∧ Kd.R (Kd.int .u8) 5 w' w.heap.size (fun _ => True) v0_ r ∧ Below w.heap.size w w' := by
  unfold cloneB.f at h
  by_cases c2 : l0.length < 17592186044416
  · rw [if_pos c2] at h
    obtain rfl := Option.some.inj h
    rcases A0 with _ | ad
    · have hl : l0.length = 0 := by
        rcases Nat.eq_zero_or_pos l0.length with h0 | h0
        · exact h0
        · obtain ⟨_, h1, _⟩ := hr0.2.2 h0
          cases h1
      have hl0 : l0 = [] := List.eq_nil_of_length_eq_zero hl
      subst hl0
      have e0 := fun w : World => Lib.run_eql_slice_nil (P := Try.prog) w 58 5 none 0 c0 0 0 Try.underlying58
      show Calls Try.prog 37 #[.slice none 0 c0] w _
      go_enter Try.func37, Try.ntmps37
      go_wp2
      go_ret
      exact ⟨_, rfl, Kd.R_nil _ _ _ _ _, Below.refl _ _⟩
    · have HR0 := Aside0.mk hr0
      have HC0 := Aside0.mk hc0
      clear hr0 hc0 h
      have LMc2 := Aside0.mk c2
      clear c2
      have HB := Aside0.mk (Below.refl w.heap.size w)
      have e0 := fun w : World => Lib.run_eql_slice_nil (P := Try.prog) w 58 5 (some ad) l0.length c0 0 0 Try.underlying58
      go_enter Try.func37, Try.ntmps37
      go_wp2_with (first | ((with_reducible refine gate_dst (N := 5) rfl ?_); refine Kd.R_lit (Kd.int .u8) _ 5 ?hg (N := 5) ?hd (xs := ([] : List Int)) (inner := []) (ok := fun _ => True) (okp := fun _ => True) ?hr ?hp (fun _ hk => hk) trivial (Below.refl _ _) (Nat.le_refl _) (by simp) ?_; (case hd => rfl); (case hg => rfl); (case hr => first | (go_simp; done) | (go_simp; rfl)); (case hp => exact (Reps.none _ _)); intro v149 w3 ho4 hb hg_ hnew_; clear hg_ hnew_; have n0_ := Aside0.mk (Kd.R_lower ho4 (below_size (by repeat (first | (with_reducible first | exact HB.out | apply below_alloc | apply pw_below_drewN | apply below_drew1) | exact HB.out)))); have n1_ := Aside0.mk (below_step (by repeat (first | (with_reducible first | exact HB.out | apply below_alloc | apply pw_below_drewN | apply below_drew1) | exact HB.out)) hb); clear HB; have HO150 := n0_; have HB := n1_; clear n0_ n1_; clear hb ho4) | ((with_reducible refine gate_builtin (b := .append) (xs := #[.tmp 5, .tmp 6]) rfl ?_); at_builtin; refine Kd.R_append_rows (Kd.int .u8) (w0 := w) w.heap.size rfl (.tmp 5) (.tmp 6) 58 5 (.int .u8 0) 1 rfl Try.underlying58 info5 rfl (by decide) (by omega) v149 ([] : List Int) l0 _ _ _ (fun _ => True) (fun _ => False) rfl rfl ?aO ?aR (fun _ _ h => h) (fun _ h => h.elim) ?aF ?aB ?aS ?aL ?_; (case aR => repeat (first | exact (Kd.C_below HR0.out HB.out) | (with_reducible refine Kd.C_alloc ?_ _) | (with_reducible refine Kd.C_drewN ?_ _) | (with_reducible refine Kd.C_drew ?_))); (case aB => exact (by repeat (first | (with_reducible first | exact HB.out | apply below_alloc | apply pw_below_drewN | apply below_drew1) | exact HB.out))); (case aF => exact (fun _ _ => trivial)); (case aO => exact (by (with_reducible repeat (first | apply Kd.R_alloc | apply Kd.R_drewN | apply Kd.R_drew)); exact HO150.out)); (case aS => exact (below_size (by repeat (first | (with_reducible first | exact HB.out | apply below_alloc | apply pw_below_drewN | apply below_drew1) | exact HB.out)))); (case aL => have := LMc2.out; simp; omega); intro v152 w5 ho hb hg hat; have n0_ := Aside0.mk (hb); have n1_ := Aside0.mk (ho); clear HB; clear HO150; have HB := n0_; have HO153 := n1_; clear n0_ n1_; clear ho hb hg hat))
      go_ret
      exact ⟨_, rfl, by (with_reducible repeat (first | apply Kd.R_alloc | apply Kd.R_drewN | apply Kd.R_drew)); exact HO153.out, by repeat (first | (with_reducible first | exact HB.out | apply below_alloc | apply pw_below_drewN | apply below_drew1) | exact HB.out)⟩
  · rw [if_neg c2] at h
    cases h
theorem zerosB {e : Nat} {base g n cap : Nat} {ok : Nat → Prop} : ∀ (m o : Nat) (W : World) (xs : List Int), Kd.R (Kd.int .u8) e W base ok (.slice (some ⟨g, 0, none⟩) n cap) xs →
    W.grownBy (W.setCells g o (List.replicate m (.int .u8 0))) (some g)
  | 0, o, W, xs, h => World.grownBy.refl _ _
  | m + 1, o, W, xs, h => by
    obtain ⟨h1, h2⟩ := Kd.R_putg h (o : Int) 0
    exact h2.trans (zerosB m (o + 1) _ _ h1)
def NoRep (l : List Int) : Prop := ∀ i : Int, 1 ≤ i → i < (l.length : Int) → rd l i ≠ rd l (i - 1)
set_option maxHeartbeats 4000000 in
set_option maxRecDepth 100000 in
theorem compactB (l : List Int) (v : Value) (w0 w : World) (hB : Below w0.heap.size w0 w) (ho : Kd.R (Kd.int .u8) 5 w w0.heap.size (fun _ => True) v l) (hn : l.length ≤ 1048576) :
    Calls Try.prog 36 #[v] w fun e w' => ∃ A m c, e = .returned (.slice A m c) ∧ (m = l.length ↔ NoRep l) ∧ Below w0.heap.size w0 w' := by
  have HB := Aside0.mk hB
  have HO := Aside0.mk ho
  clear hB ho
  by_cases h2 : l.length < 2
  · obtain ⟨A, c, e⟩ := Kd.R_slice HO.out
    subst e
    have hd : decide ((l.length : Int) < 2) = true := decide_eq_true (by omega)
    have H2 := Aside0.mk h2
    have HN := Aside0.mk hn
    clear h2 hn
    go_enter Try.func36, Try.ntmps36
    go_wp2
    go_ret
    exact ⟨_, _, _, rfl, ⟨fun _ i h1 h3 => by have := H2.out; omega, fun _ => rfl⟩, HB.out⟩
  · obtain ⟨g, c, e, hg, hl, _⟩ := Kd.R_form HO.out (by omega)
    subst e
    have hlc : l.length ≤ c := (Kd.R_reads' HO.out).2.1
    have hd : decide ((l.length : Int) < 2) = false := decide_eq_false (by omega)
    obtain ⟨n, hnl⟩ : ∃ n, n = l.length := ⟨_, rfl⟩
    rw [← hnl] at h2 hn HO hd hlc ⊢
    replace hnl := Aside0.mk hnl.symm
    have H2 := Aside0.mk h2
    have HN := Aside0.mk hn
    have LC := Aside0.mk hlc
    clear h2 hn hlc
    have GB := Aside0.mk hg
    clear hl
    go_enter Try.func36, Try.ntmps36
    go_wp2
    go_loopg [3] n (fun kq v3 w' => ∃ x3 : Int, v3 = .int .i64 x3 ∧ 1 ≤ x3 ∧ x3 + kq = n + 1 ∧ Aside0 (∀ i : Int, 1 ≤ i → i < x3 → rd l i ≠ rd l (i - 1)) ∧ Aside0 (Kd.R (Kd.int .u8) 5 w' w0.heap.size (fun _ => True) (.slice (some ⟨g, 0, none⟩) n c) l) ∧ Aside0 (Below w0.heap.size w0 w'))
    case atStart => exact ⟨1, rfl, by omega, by have := H2.out; omega, ⟨fun i h1 h3 => by omega⟩, ⟨HO.out⟩, ⟨HB.out⟩⟩
    case round =>
      clear HO HB
      obtain ⟨x3, rfl, h1, hk, HR, HO, HB⟩ := hrel
      have hn := HN.out
      have h2 := H2.out
      have enl := hnl.out
      cases gk with
      | zero =>
        have hd3 : decide (x3 < (n : Int)) = false := decide_eq_false (by omega)
        go_wp2
        go_ret
        first | exact ⟨_, _, _, rfl, ⟨fun _ i h4 h5 => HR.out i h4 (by omega), fun _ => rfl⟩, HB.out⟩ | exact ⟨_, _, ⟨_, rfl⟩, ⟨fun _ i h4 h5 => HR.out i h4 (by omega), fun _ => rfl⟩, HB.out⟩
      | succ gk =>
        by_cases hlt : x3 < (n : Int)
        · have hd3 : decide (x3 < (n : Int)) = true := decide_eq_true hlt
          obtain ⟨hx1, hf1⟩ := Kd.R_celln 0 HO.out x3 (by omega) hlt
          obtain ⟨hx2, hf2⟩ := Kd.R_celln 0 HO.out (x3 - 1) (by omega) (by omega)
          replace hx1 : wr.cell? ⟨g, x3.toNat, none⟩ = some (.int .u8 (rd l x3)) := hx1
          replace hx2 : wr.cell? ⟨g, (x3 - 1).toNat, none⟩ = some (.int .u8 (rd l (x3 - 1))) := hx2
          obtain ⟨x2, e2⟩ : ∃ x2, x3 - 1 = x2 := ⟨_, rfl⟩
          have hw : IntKind.i64.wrap (x3 - 1) = x2 := (i64_w _).trans (by unfold wrap64; omega)
          rw [e2] at hx2
          have p1 : (0 ≤ x3) = True := eq_true (by omega)
          have p2 : (x3 < (n : Int)) = True := eq_true hlt
          have p3 : (0 ≤ x2) = True := eq_true (by omega)
          have p4 : (x2 < (n : Int)) = True := eq_true (by omega)
          have E2 := Aside0.mk e2
          by_cases he : rd l x3 = rd l x2
          · have hb : (rd l x3 == rd l x2) = true := beq_iff_eq.mpr he
            obtain ⟨k0, rfl⟩ := Int.eq_ofNat_of_zero_le (show 0 ≤ x3 by omega)
            rw [Int.toNat_natCast] at hx1 hf1
            have NR : Aside0 (¬ NoRep l) := ⟨fun h => h (k0 : Int) h1 (by rw [enl]; exact hlt) (by rw [e2]; exact he)⟩
            have hlc := LC.out
            have q1 : (c = k0) = False := eq_false (by omega)
            have q2 : ((k0 : Int) ≤ (c : Int)) = True := eq_true (by omega)
            have q3 : ((k0 : Int) ≤ (n : Int)) = True := eq_true (by omega)
            have GE := Aside0.mk (show w0.heap.size ≤ g from GB.out)
            have HO2 := HO
            have KL := Aside0.mk hlt
            have K1 := Aside0.mk h1
            clear e2 hlc enl h2 hn hlt hk h1 HR
            go_wp2
            go_region
            all_goals go_wp2
            all_goals (go_loopg [3, 5] (n - k0 - 1) (fun kq v3 v5 w' => ∃ (y3 y5 : Int) (xs : List Int), v3 = .int .i64 y3 ∧ v5 = .int .i64 y5 ∧ 1 ≤ y3 ∧ 1 ≤ y5 ∧ y5 + kq + k0 = n ∧ y3 < k0 + y5 ∧ Aside0 (Kd.R (Kd.int .u8) 5 w' w0.heap.size (fun _ => True) (.slice (some ⟨g, 0, none⟩) n c) xs) ∧ Aside0 (Below w0.heap.size w0 w')))
            case atStart => exact ⟨k0, 1, l, rfl, rfl, K1.out, by omega, by have := KL.out; omega, by omega, ⟨by (with_reducible repeat (first | apply Kd.R_alloc | apply Kd.R_drewN | apply Kd.R_drew)); exact HO.out⟩, ⟨by repeat (first | (with_reducible first | exact HB.out | apply below_alloc | apply pw_below_drewN | apply below_drew1) | exact HB.out)⟩⟩
            case round =>
              clear HO HB hf1 hx1 hf2 hx2 HO2
              obtain ⟨y3, y5, xs, rfl, rfl, h3, h5, hk5, h35, HO, HB⟩ := hrel
              have hn := HN.out
              have hkn := KL.out
              have hlc := LC.out
              cases gk with
              | zero =>
                have hd5 : decide (y5 < ((n - k0 : Nat) : Int)) = false := decide_eq_false (by omega)
                obtain ⟨m, rfl⟩ := Int.eq_ofNat_of_zero_le (show 0 ≤ y3 by omega)
                have hml : m < n := by omega
                have hcl : ∀ ty, (Builtin.clear_ #[58] ty #[.slice (some ⟨g, m, none⟩) (n - m) (c - m)]).run Try.prog wr = .ok (.tuple #[]) (wr.setCells g m (List.replicate (n - m) (.int .u8 0))) :=
                  fun ty => Lib.run_clear_slice wr _ _ ty _ Try.underlying58 (fun w => by kernel_rfl) rfl rfl g m _ _ (by omega)
                    (fun j hj => by
                      obtain ⟨hx, hf⟩ := Kd.R_celln 0 HO.out ((m + j : Nat) : Int) (by omega) (by omega)
                      have hx' : wr.cell? ⟨g, m + j, none⟩ = some (.int .u8 (rd xs ((m + j : Nat) : Int))) := hx
                      rw [hx']; rfl)
                    (fun j hj => (Kd.R_celln 0 HO.out ((m + j : Nat) : Int) (by omega) (by omega)).2)
                have HG := Aside0.mk (zerosB (n - m) m wr xs HO.out)
                have G5 : Aside0 (∀ k_, some g = some k_ → w0.heap.size ≤ k_) := ⟨fun k_ e_ => by injection e_ with e_; rw [← e_]; exact GE.out⟩
                have hcm : (c = m) = False := eq_false (by omega)
                have p5 := eq_true (show 0 ≤ (m : Int) by omega)
                have p6 := eq_true (show (m : Int) ≤ (c : Int) by omega)
                have p7 := eq_true (show (m : Int) ≤ (n : Int) by omega)
                have HM := Aside0.mk (show m ≠ n by omega)
                clear h3 h5 hk5 h35 hn hkn hlc hml
                go_wp2
                go_ret
                first | exact ⟨_, _, _, rfl, ⟨fun h => absurd h HM.out, fun h => absurd h NR.out⟩, HB.out.grown HG.out (below_size HB.out) G5.out⟩ | exact ⟨_, _, ⟨_, rfl⟩, ⟨fun h => absurd h HM.out, fun h => absurd h NR.out⟩, HB.out.grown HG.out (below_size HB.out) G5.out⟩
              | succ gk =>
                have hd5 : decide (y5 < ((n - k0 : Nat) : Int)) = true := decide_eq_true (by omega)
                obtain ⟨y4, e4⟩ : ∃ y4, y5 - 1 = y4 := ⟨_, rfl⟩
                have hw4 : IntKind.i64.wrap (y5 - 1) = y4 := (i64_w _).trans (by unfold wrap64; omega)
                have hw5 : IntKind.i64.wrap (y5 + 1) = y5 + 1 := (i64_w _).trans (by unfold wrap64; omega)
                have hw6 : IntKind.i64.wrap (y3 + 1) = y3 + 1 := (i64_w _).trans (by unfold wrap64; omega)
                obtain ⟨b5, hb5⟩ : ∃ b, rdOf 0 xs (k0 + y5) = b := ⟨_, rfl⟩
                obtain ⟨b4, hb4⟩ : ∃ b, rdOf 0 xs (k0 + y4) = b := ⟨_, rfl⟩
                have hx5 : wr.cell? ⟨g, k0 + y5.toNat, none⟩ = some (.int .u8 b5) := by
                  have h := (Kd.R_celln 0 HO.out (k0 + y5) (by omega) (by omega)).1
                  rw [hb5] at h
                  rw [← h]; congr 2; omega
                have hx4 : wr.cell? ⟨g, k0 + y4.toNat, none⟩ = some (.int .u8 b4) := by
                  have h := (Kd.R_celln 0 HO.out (k0 + y4) (by omega) (by omega)).1
                  rw [hb4] at h
                  rw [← h]; congr 2; omega
                have p5 : (0 ≤ y5) = True := eq_true (by omega)
                have p6 : (y5 < ((n - k0 : Nat) : Int)) = True := eq_true (by omega)
                have p7 : (0 ≤ y4) = True := eq_true (by omega)
                have p8 : (y4 < ((n - k0 : Nat) : Int)) = True := eq_true (by omega)
                have p9 : (0 ≤ y3) = True := eq_true (by omega)
                have p10 : (y3 < (n : Int)) = True := eq_true (by omega)
                have hf6 := (Kd.R_celln 0 HO.out y3 (by omega) (by omega)).2
                have hx6 := (Kd.R_celln 0 HO.out y3 (by omega) (by omega)).1
                have HP := Kd.R_putg HO.out y3 b5
                clear hlc
                by_cases hc : b5 = b4
                · have hcb : (b5 != b4) = false := bne_eq_false_iff_eq.mpr hc
                  go_wp2
                  go_region
                  all_goals go_wp2
                  all_goals (go_roundg gk; (case measure => omega); (case rel => exact ⟨y3, y5 + 1, xs, rfl, by first | (rw [hw5]; done) | rfl, by omega, by omega, by omega, by omega, ⟨by (with_reducible repeat (first | apply Kd.R_alloc | apply Kd.R_drewN | apply Kd.R_drew)); exact HO.out⟩, ⟨by repeat (first | (with_reducible first | exact HB.out | apply below_alloc | apply pw_below_drewN | apply below_drew1) | exact HB.out)⟩⟩))
                · have hcb : (b5 != b4) = true := bne_iff_ne.mpr hc
                  go_wp2
                  go_region
                  all_goals go_wp2_with (first | ((with_reducible refine gate_store (t := 5) (p := 51) rfl ?_); refine store_event (t := 5) (p := 51) (v := ?vo_w8) (w1 := (wr.drew.setCell ⟨g, y3.toNat, none⟩ (.int .u8 b5))) ?hg ?ho ?hn ?hr ?_; (case ho => rfl); (case hg => rfl); (case hn => rfl); (case hr => first | (go_simp; done) | (go_simp; rfl)); intro w8 hw; have n0_ := Aside0.mk ((by rw [hw]; exact (Kd.R_putg (by (with_reducible repeat (first | apply Kd.R_alloc | apply Kd.R_drewN | apply Kd.R_drew)); exact HO.out) y3 b5).1) : Kd.R (Kd.int .u8) 5 w8 w0.heap.size (fun _ => True) (.slice (some ⟨g, 0, none⟩) n c) (xs.set y3.toNat b5)); have n1_ := Aside0.mk ((by rw [hw]; exact below_set (by repeat (first | (with_reducible first | exact HB.out | apply below_alloc | apply pw_below_drewN | apply below_drew1) | exact HB.out)) GE.out : Below w0.heap.size w0 w8)); clear HO HB; have HO := n0_; have HB := n1_; clear n0_ n1_ hw) | go_in)
                  all_goals (go_roundg gk; (case measure => omega); (case rel => exact ⟨y3 + 1, y5 + 1, _, by first | (rw [hw6]; done) | rfl, by first | (rw [hw5]; done) | rfl, by omega, by omega, by omega, by omega, ⟨by (with_reducible repeat (first | apply Kd.R_alloc | apply Kd.R_drewN | apply Kd.R_drew)); exact HO.out⟩, ⟨by repeat (first | (with_reducible first | exact HB.out | apply below_alloc | apply pw_below_drewN | apply below_drew1) | exact HB.out)⟩⟩))
          · have hb : (rd l x3 == rd l x2) = false := beq_eq_false_iff_ne.mpr he
            have hw3 : IntKind.i64.wrap (x3 + 1) = x3 + 1 := (i64_w _).trans (by unfold wrap64; omega)
            have HS : Aside0 (∀ i : Int, 1 ≤ i → i < x3 + 1 → rd l i ≠ rd l (i - 1)) := ⟨fun i h4 h5 => by
              rcases Int.lt_or_eq_of_le (show i ≤ x3 by omega) with h6 | h6
              · exact HR.out i h4 h6
              · rw [h6, e2]; exact he⟩
            clear e2
            go_wp2
            go_region
            all_goals go_wp2
            all_goals (go_roundg gk; (case measure => omega); (case rel => exact ⟨x3 + 1, by first | (rw [hw3]; done) | rfl, by omega, by omega, ⟨HS.out⟩, ⟨by (with_reducible repeat (first | apply Kd.R_alloc | apply Kd.R_drewN | apply Kd.R_drew)); exact HO.out⟩, ⟨by repeat (first | (with_reducible first | exact HB.out | apply below_alloc | apply pw_below_drewN | apply below_drew1) | exact HB.out)⟩⟩))
        · have hd3 : decide (x3 < (n : Int)) = false := decide_eq_false hlt
          go_wp2
          go_ret
          first | exact ⟨_, _, _, rfl, ⟨fun _ i h4 h5 => HR.out i h4 (by omega), fun _ => rfl⟩, HB.out⟩ | exact ⟨_, _, ⟨_, rfl⟩, ⟨fun _ i h4 h5 => HR.out i h4 (by omega), fun _ => rfl⟩, HB.out⟩
end Go.Proofs.Ytjdhjapbggnhkaa.P
namespace Go.Proofs.Ytjdhjapbggnhkaa.P
set_option linter.unusedVariables false
set_option linter.unusedSectionVars false
open Go.RowKit Go.Proofs.YtjdhjapbggnhkaaW.PrintWords Go.Proofs.YtjdhjapbggnhkaaW.PrintLast Go.Proofs.YtjdhjapbggnhkaaW.PrintMore
def bytesL (s : ByteArray) : List Int := s.data.toList.map fun b => (b.toNat : Int)
theorem bytesL_length (s : ByteArray) : (bytesL s).length = s.size := by
  rw [bytesL, List.length_map, Array.length_toList]; rfl
def sortL (l : List Int) : List Int := l.mergeSort fun x y => decide (x ≤ y)
theorem sortL_length (l : List Int) : (sortL l).length = l.length := List.length_mergeSort _
theorem holds_bytes (w : World) (e : TypeId) (s : ByteArray) : Go.Sort.Holds (Value.int .u8) (Lib.bytesWorld w e s) w.heap.size 0 (bytesL s).toArray := by
  intro j hj
  have hj' : j < s.size := by simpa [bytesL_length] using hj
  have hl : j < s.data.toList.length := by rw [Array.length_toList]; exact hj'
  rw [Nat.zero_add]
  refine ⟨?_, ?_⟩
  · rw [Lib.bytesWorld_cell w e s j hj']
    have e2 : (bytesL s).toArray[j]! = ((s.data.toList.getD j 0).toNat : Int) := by
      rw [getElem!_pos (bytesL s).toArray j hj, List.getElem_toArray]
      simp only [bytesL, List.getElem_map]
      rw [List.getD_eq_getElem?_getD, List.getElem?_eq_getElem hl]
      rfl
    rw [e2]
  · have hc : (Lib.bytesCells w e s).size = s.size + (grownCap w s.size 0 e - s.size) := by
      simp [Lib.bytesCells]
    unfold World.frozen?
    rw [Lib.bytesWorld_at_new]
    simp [hc]
    omega
theorem below_bytes (w : World) (e : TypeId) (s : ByteArray) : Below w.heap.size w (Lib.bytesWorld w e s) :=
  ⟨rfl, rfl, rfl, by rw [Lib.bytesWorld_size]; omega, fun k hk => Lib.bytesWorld_at_old w e s k hk⟩
theorem heap_putRow (enc : Int → Value) (w : World) (blk off : Nat) (d : Array Int) (k : Nat) (h : k ≠ blk) : (Go.Sort.putRow enc w blk off d).heap[k]? = w.heap[k]? := by
  simp [Go.Sort.putRow, Go.Sort.mapBlock, Array.getElem?_modify, Ne.symm h]
theorem conv_bytes (w : World) (s : ByteArray) : (convert 9 58 (.string s)).run Try.prog w = .ok (.slice (some ⟨w.heap.size, 0, none⟩) s.size (grownCap w s.size 0 5)) (Lib.bytesWorld w 5 s) :=
  Lib.run_convert_string_bytes w 9 58 5 s Try.underlying9 Try.underlying58 Try.underlying5
theorem sortB (zs : List Int) (blk cap : Nat) (w : World) (hH : Go.Sort.Holds (Value.int .u8) w blk 0 zs.toArray) (hb : blk < w.heap.size) (hz : zs.length ≤ 1048576) :
    Calls Try.prog 35 #[.slice (some ⟨blk, 0, none⟩) zs.length cap] w fun e w' => e = .returned (.tuple #[]) ∧ Kd.C (Kd.int .u8) w' (some ⟨blk, 0, none⟩) zs.length (sortL zs) ∧ Below blk w w' := by
  refine (S.slices_Sort blk 0 cap zs w hH hb (by omega)).mono ?_
  rintro e w' ⟨rfl, n, os, rfl⟩
  have hs : (sortL zs).toArray.size = zs.toArray.size := by simp [sortL_length]
  have hR : Go.Sort.Holds (Value.int .u8) (Go.Sort.grow (Go.Sort.putRow (Value.int .u8) (Go.Sort.ahead w n) blk 0 (sortL zs).toArray) os) blk 0 (sortL zs).toArray :=
    Go.Sort.holds_grow _ _ _ _ _ _ (by simpa using hb) (Go.Sort.holds_putRow _ _ _ _ zs.toArray _ hH hs)
  refine ⟨rfl, ⟨sortL_length zs, by omega, fun _ => ⟨_, rfl, ?_⟩⟩, ⟨rfl, rfl, rfl, by simp, ?_⟩⟩
  · intro j p hp
    obtain ⟨hj, hp⟩ := List.getElem?_eq_some_iff.1 hp
    refine ⟨[.int .u8 p], rfl, rfl, ?_⟩
    intro i u hu
    cases i with
    | zero =>
      obtain rfl : Value.int .u8 p = u := by simpa using hu
      have h := (hR j (by simpa using hj)).1
      have e2 : (sortL zs).toArray[j]! = p := by
        rw [getElem!_pos (sortL zs).toArray j (by simpa using hj), List.getElem_toArray]; exact hp
      rw [e2] at h
      have e3 : j * (Kd.int .u8).sz + 0 = 0 + j := by show j * 1 + 0 = _; omega
      rw [e3]
      have e4 : (⟨blk, 0, none⟩ : Addr).add (0 + j) = ⟨blk, 0 + j, none⟩ := by simp only [Addr.add, Nat.zero_add]; split <;> simp_all
      rw [e4]
      exact h
    | succ i => simp at hu
  · intro k hk
    rw [Go.Sort.heap_grow_old _ _ (by simp; omega), heap_putRow _ _ _ _ _ _ (by omega)]
    rfl
end Go.Proofs.Ytjdhjapbggnhkaa.P
namespace Go.Proofs.Ytjdhjapbggnhkaa.P
set_option linter.unusedVariables false
set_option linter.unusedSectionVars false
open Go.RowKit Go.Proofs.YtjdhjapbggnhkaaW.PrintWords Go.Proofs.YtjdhjapbggnhkaaW.PrintLast Go.Proofs.YtjdhjapbggnhkaaW.PrintMore
def whole (s : ByteArray) : Option Pat := if 60 < s.size then none else (parse 61 s).bind fun x => if x.2.size = 0 then some x.1 else none
def WholeR (base : Nat) (o : Option Pat) (e : Ending) (w : World) : Prop :=
  ∃ v, e = .returned (.tuple #[v, .bool o.isSome]) ∧ ∀ p, o = some p → (kP 61).M w base (fun _ => True) p [v]
def PtrE (e : Ending) : Prop := ∃ G b, e = .returned (.tuple #[.pointer G, b])
set_option maxHeartbeats 4000000 in
set_option maxRecDepth 100000 in
theorem readWhole_calls (s : ByteArray) (w : World) : Calls Try.prog 33 #[.string s] w fun e w' => (Below w.heap.size w w' ∧ WholeR w.heap.size (whole s) e w') ∧ PtrE e := by
  by_cases h60 : 60 < s.size
  · have hd : decide ((60 : Int) < (s.size : Int)) = true := decide_eq_true (by omega)
    have hw : whole s = none := by rw [whole, if_pos h60]
    rw [hw]
    clear h60
    go_enter Try.func33, Try.ntmps33
    go_wp2
    refine bodyPost_ret (results_tmp2 rfl _ _ _) rfl ?_
    exact ⟨⟨Below.refl _ _, _, rfl, fun p h => by cases h⟩, _, _, rfl⟩
  · have hd : decide ((60 : Int) < (s.size : Int)) = false := decide_eq_false (by omega)
    have hw : whole s = (parse 61 s).bind fun x => if x.2.size = 0 then some x.1 else none := by rw [whole, if_neg h60]
    have C73 := Aside0.mk (readPattern_calls 61 s w (by omega) (by omega))
    rw [hw]
    clear h60 hw
    cases hp : parse 61 s with
    | none =>
      go_enter Try.func33, Try.ntmps33
      go_wp2_with (first | (go_at_call 46; refine C73.out.mono ?_; rintro e w5 ⟨hb, hr⟩; rw [hp] at hr; have hr' := hr; unfold ReadR at hr'; subst hr'; clear hr; have HB2 := Aside0.mk hb; clear hb))
      refine bodyPost_ret (results_tmp2 rfl _ _ _) rfl ?_
      exact ⟨⟨HB2.out, _, rfl, fun p h => by cases h⟩, _, _, rfl⟩
    | some x =>
      have hE := isEmpty_eq x.2
      by_cases h0 : x.2.size = 0
      · rw [decide_eq_true h0] at hE
        have e0 : ((some x).bind fun x => if x.2.size = 0 then some x.1 else none) = some x.1 := by rw [Option.bind_some, if_pos h0]
        rw [e0]
        clear h0
        go_enter Try.func33, Try.ntmps33
        go_wp2_with (first | (go_at_call 46; refine C73.out.mono ?_; rintro e w5 ⟨hb, hr⟩; rw [hp] at hr; obtain ⟨v5, rfl, hM⟩ := hr; obtain ⟨g5, rfl⟩ := M_ptr hM; have HM := Aside0.mk hM; have HB2 := Aside0.mk hb; clear hb hM))
        refine bodyPost_ret (results_tmp2 rfl _ _ _) rfl ?_
        exact ⟨⟨HB2.out, _, rfl, fun p h => by cases h; exact HM.out⟩, _, _, rfl⟩
      · rw [decide_eq_false h0] at hE
        have e0 : ((some x).bind fun x => if x.2.size = 0 then some x.1 else none) = none := by rw [Option.bind_some, if_neg h0]
        rw [e0]
        clear h0
        go_enter Try.func33, Try.ntmps33
        go_wp2_with (first | (go_at_call 46; refine C73.out.mono ?_; rintro e w5 ⟨hb, hr⟩; rw [hp] at hr; obtain ⟨v5, rfl, hM⟩ := hr; obtain ⟨g5, rfl⟩ := M_ptr hM; have HM := Aside0.mk hM; have HB2 := Aside0.mk hb; clear hb hM))
        refine bodyPost_ret (results_tmp2 rfl _ _ _) rfl ?_
        exact ⟨⟨HB2.out, _, rfl, fun p h => by cases h⟩, _, _, rfl⟩
theorem kidsP_good {n : Nat} (hf : ∀ s x, parse n s = some x → goodP n x.1 ∧ (lettersN n x.1).size + x.2.size ≤ s.size) : ∀ (m : Nat) (s : ByteArray) (acc : List Pat) (x : List Pat × ByteArray), (∀ k ∈ acc, goodP n k) → kidsP (parse n) m s acc = some x →
    (∀ k ∈ x.1, goodP n k) ∧ (x.1.foldl (fun a k => a ++ lettersN n k) ByteArray.empty).size + x.2.size ≤ (acc.foldl (fun a k => a ++ lettersN n k) ByteArray.empty).size + s.size
  | 0, s, acc, x, _, h => by simp [kidsP] at h
  | m + 1, s, acc, x, ha, h => by
    rw [kidsP] at h
    split at h
    · obtain rfl := Option.some.inj h
      exact ⟨ha, Nat.le_refl _⟩
    · obtain ⟨y, h1, h2⟩ := Option.bind_eq_some_iff.1 h
      have h3 := hf _ _ h1
      obtain ⟨h4, h5⟩ := kidsP_good hf m _ _ _ (fun k hk => by
        rcases List.mem_append.1 hk with h6 | h6
        · exact ha k h6
        · rw [List.mem_singleton.1 h6]; exact h3.1) h2
      refine ⟨h4, ?_⟩
      rw [List.foldl_append, List.foldl_cons, List.foldl_nil, ByteArray.size_append] at h5
      have := h3.2
      omega
theorem parse_good : ∀ (n : Nat) (s : ByteArray) (x : Pat × ByteArray), parse n s = some x → goodP n x.1 ∧ (lettersN n x.1).size + x.2.size ≤ s.size
  | 0, s, x, h => by simp [parse] at h
  | n + 1, s, x, h => by
    rw [parse] at h
    have e : ∀ r : ByteArray, (r.extract 1 r.size).size = r.size - 1 := fun r => by rw [ByteArray.size_extract]; omega
    split at h
    · cases h
    · split at h
      · rename_i hb
        obtain rfl := Option.some.inj h
        refine ⟨⟨.inr ⟨hb.1, hb.2, rfl⟩, fun k hk => by cases hk⟩, ?_⟩
        have : lettersN (n + 1) (Pat.mk (bt s 0) []) = ⟨#[UInt8.ofNat (bt s 0).toNat]⟩ := by rw [lettersN, if_neg (by show bt s 0 ≠ 0; omega)]; rfl
        rw [this]
        show 1 + (s.extract 1 s.size).size ≤ _
        rw [e]; omega
      · split at h
        · cases h
        · obtain ⟨y, h1, h2⟩ := Option.bind_eq_some_iff.1 h
          obtain ⟨h3, h4⟩ := kidsP_good (parse_good n) _ _ _ _ (fun k hk => by cases hk) h1
          rw [e] at h4
          split at h2
          · cases h2
          · obtain rfl := Option.some.inj h2
            refine ⟨⟨.inl rfl, h3⟩, ?_⟩
            have : lettersN (n + 1) (Pat.mk 0 y.1) = y.1.foldl (fun a k => a ++ lettersN n k) ByteArray.empty := by rw [lettersN, if_pos (show (Pat.mk 0 y.1).letter = 0 from rfl)]; rfl
            rw [this]
            show _ + (y.2.extract 1 y.2.size).size ≤ _
            rw [e]
            simp at h4
            omega
theorem whole_good {s : ByteArray} {p : Pat} (h : whole s = some p) : goodP 61 p ∧ (lettersN 61 p).size ≤ 60 := by
  rw [whole] at h
  split at h
  · cases h
  · obtain ⟨y, h1, h2⟩ := Option.bind_eq_some_iff.1 h
    have h3 := parse_good _ _ _ h1
    split at h2
    · obtain rfl := Option.some.inj h2
      exact ⟨h3.1, by omega⟩
    · cases h2
theorem rd_get (l : List Int) (i : Nat) (h : i < l.length) : rd l (i : Int) = l[i] := by
  show l.getD (i : Int).toNat 0 = _
  rw [Int.toNat_natCast, List.getD_eq_getElem?_getD, List.getElem?_eq_getElem h]
  rfl
theorem noRep_sort (l : List Int) : NoRep (sortL l) ↔ l.Nodup := by
  have hp : (sortL l).Perm l := List.mergeSort_perm _ _
  have hs : (sortL l).Pairwise fun a b => decide (a ≤ b) = true := List.pairwise_mergeSort (fun a b c h1 h2 => by simp at *; omega) (fun a b => by simp; omega) l
  rw [← hp.nodup_iff]
  generalize sortL l = m at hs
  clear hp
  rw [List.pairwise_iff_getElem] at hs
  constructor
  · intro h
    have key : ∀ k i (hi : i + 1 + k < m.length), m[i] < m[i + 1 + k] := by
      intro k
      induction k with
      | zero =>
        intro i hi
        have h1 := hs i (i + 1) (by omega) hi (by omega)
        have h2 := h ((i + 1 : Nat) : Int) (by omega) (by omega)
        rw [rd_get m (i + 1) hi, show ((i + 1 : Nat) : Int) - 1 = (i : Int) by omega, rd_get m i (by omega)] at h2
        simp at h1
        show m[i] < m[i + 1]
        omega
      | succ k ih =>
        intro i hi
        have h1 := ih i (by omega)
        have h2 := hs (i + 1 + k) (i + 1 + (k + 1)) (by omega) hi (by omega)
        simp at h2
        show m[i] < m[i + 1 + (k + 1)]
        omega
    rw [List.nodup_iff_pairwise_ne, List.pairwise_iff_getElem]
    intro i j hi hj hij
    have := key (j - i - 1) i (by omega)
    have e : i + 1 + (j - i - 1) = j := by omega
    simp only [e] at this
    omega
  · intro h i h1 h2
    rw [List.nodup_iff_pairwise_ne, List.pairwise_iff_getElem] at h
    obtain ⟨j, rfl⟩ := Int.eq_ofNat_of_zero_le (show 0 ≤ i - 1 by omega) |>.imp fun j e => (show i = ((j + 1 : Nat) : Int) by omega)
    rw [rd_get m (j + 1) (by omega), show ((j + 1 : Nat) : Int) - 1 = (j : Int) by omega, rd_get m j (by omega)]
    exact (h j (j + 1) (by omega) (by omega) (by omega)).symm
def toP (s : ByteArray) : Option Pat := (whole s).bind fun p => if (bytesL (lettersN 61 p)).Nodup then some p else none
set_option maxHeartbeats 4000000 in
set_option maxRecDepth 100000 in
theorem toPattern_ptr (s : ByteArray) (w : World) : Calls Try.prog 22 #[.string s] w fun e w' => (Below w.heap.size w w' ∧ WholeR w.heap.size (toP s) e w') ∧ PtrE e := by
  have C59 := Aside0.mk (readWhole_calls s w)
  cases hw : whole s with
  | none =>
    have e0 : toP s = none := by rw [toP, hw]; rfl
    rw [e0]
    go_enter Try.func22, Try.ntmps22
    go_wp2_with (first | (go_at_call 33; refine C59.out.mono ?_; rintro e w5 ⟨⟨hb, hr⟩, G5, b5, hG⟩; rw [hw] at hr; obtain ⟨v5, he, hM⟩ := hr; subst he; have HG5 := Aside0.mk hG; have HB2 := Aside0.mk hb; clear hb hM hG))
    refine bodyPost_ret (results_tmp2 rfl _ _ _) rfl ?_
    exact ⟨⟨HB2.out, _, rfl, fun p h => by cases h⟩, by first | exact ⟨_, _, rfl⟩ | (have hG := HG5.out; simp at hG; exact ⟨G5, _, by rw [hG.1]; rfl⟩)⟩
  | some p =>
    obtain ⟨hgd, hsz⟩ := whole_good hw
    have HGD := Aside0.mk hgd
    obtain ⟨L, hL⟩ : ∃ L, lettersN 61 p = L := ⟨_, rfl⟩
    rw [hL] at hsz
    have HS := Aside0.mk hsz
    have hl := bytesL_length L
    have hl2 := sortL_length (bytesL L)
    have HNR := Aside0.mk (noRep_sort (bytesL L))
    have e0 : toP s = if (bytesL L).Nodup then some p else none := by rw [toP, hw, Option.bind_some, hL]
    have hc0 : cloneB.f (sortL (bytesL L)) = some (sortL (bytesL L)) := by rw [cloneB.f, if_pos (by rw [hl2, hl]; omega)]
    have C62 := Aside0.mk (fun A c w hr hc => cloneB.calls A c (sortL (bytesL L)) _ w hr hc hc0)
    have C61 := Aside0.mk (fun v w0 w hB ho => compactB (sortL (bytesL L)) v w0 w hB ho (by rw [hl2, hl]; omega))
    have C60 := Aside0.mk (fun blk cap w hH hb => sortB (bytesL L) blk cap w hH hb (by rw [hl]; omega))
    rw [hl2, hl] at C62
    rw [hl2, hl] at C61
    rw [hl] at C60
    have C53 := Aside0.mk (fun v w h => lettersOf_calls 61 p v w h hgd (by rw [hL]; omega))
    rw [hL] at C53
    have econv := fun w => conv_bytes w L
    have HE := Aside0.mk e0
    have HLE := Aside0.mk hL
    clear e0 hc0 hsz hL hl hl2 hgd
    go_enter Try.func22, Try.ntmps22
    go_wp2_with (first | (go_at_call 33; refine C59.out.mono ?_; rintro e w5 ⟨⟨hb, hr⟩, _⟩; rw [hw] at hr; obtain ⟨v5, rfl, hM⟩ := hr; obtain ⟨g5, rfl⟩ := M_ptr (hM _ rfl); have HM := Aside0.mk (hM _ rfl); have HB2 := Aside0.mk hb; clear hb hM) | (go_at_call 34; refine (C53.out _ _ ((kP 61).K_of_M HM.out)).mono ?_; rintro e w6 ⟨hb, rfl⟩; have HB6 := Aside0.mk hb; clear hb) | (go_at_call 35; refine (C60.out _ _ _ (holds_bytes _ _ _) (by rw [Lib.bytesWorld_size]; omega)).mono ?_; rintro e w8 ⟨rfl, hC, hb⟩; have HC8 := Aside0.mk hC; have HB8 := Aside0.mk (below_step HB6.out ((below_bytes _ _ _).trans hb)); clear hb hC) | (go_at_call 37; refine (C62.out _ _ _ HC8.out (grownCap_ge _ _ _ _)).mono ?_; rintro e w9 ⟨v9, rfl, hR, hb⟩; have HR9 := Aside0.mk hR; have HB9 := Aside0.mk hb; clear hR hb) | (go_at_call 36; refine (C61.out _ _ _ HB9.out HR9.out).mono ?_; rintro e w10 ⟨A10, m10, c10, rfl, hm, hb⟩; have HM10 := Aside0.mk hm; have HB10 := Aside0.mk hb; clear hm hb))
    refine bodyPost_ret (results_tmp2 rfl _ _ _) rfl ?_
    have HBE : Below w5.heap.size w5 w10 := below_step HB8.out HB10.out
    have hb : (toP s).isSome = ((m10 : Int) == (L.size : Int)) := by
      rw [HE.out]
      by_cases hN : (bytesL L).Nodup
      · rw [if_pos hN, HM10.out.2 (HNR.out.2 hN)]; simp
      · have h1 := mt HM10.out.1 (mt HNR.out.1 hN)
        rw [if_neg hN, Option.isSome_none]
        symm
        exact beq_eq_false_iff_ne.2 (by omega)
    refine ⟨⟨below_step HB2.out HBE, .pointer (some ⟨g5, 0, none⟩), by rw [hb]; rfl, ?_⟩, _, _, rfl⟩
    intro p2 h
    have e2 : p2 = p := by
      rw [HE.out] at h
      split at h
      · exact (Option.some.inj h).symm
      · cases h
    subst e2
    exact (kP 61).M_mono (fun _ _ => trivial) ((kP 61).M_move (fun k hk => HBE.block k hk.2.2.1) ((kP 61).M_bound HM.out))
def isP (s : ByteArray) : Bool := (toP s).isSome
end Go.Proofs.Ytjdhjapbggnhkaa.P
namespace Go.Proofs.Ytjdhjapbggnhkaa.P
set_option linter.unusedVariables false
set_option linter.unusedSectionVars false
open Go.RowKit Go.Proofs.YtjdhjapbggnhkaaW.PrintWords Go.Proofs.YtjdhjapbggnhkaaW.PrintLast Go.Proofs.YtjdhjapbggnhkaaW.PrintMore
def Still (w w1 : World) : Prop := ∀ a v, w.cell? a = some v → w1.cell? a = some v
theorem Still.refl (w : World) : Still w w := fun _ _ h => h
theorem Still.trans {a b c : World} (h : Still a b) (k : Still b c) : Still a c := fun x v e => k x v (h x v e)
theorem still_below {w w1 : World} (h : Below w.heap.size w w1) : Still w w1 := fun _ _ hc => pw_cell_below h hc
theorem row_still {α : Type} {R R1 : α → List Value → Prop} {sz : Nat} {w w1 : World} {A : Option Addr} {n : Nat} {ps : List α} (hR : ∀ x c, R x c → R1 x c) (hs : Still w w1) (h : ReadsRow R sz w A n ps) : ReadsRow R1 sz w1 A n ps :=
  ⟨h.1, h.2.1, fun hn => by
    obtain ⟨ad, e, hc⟩ := h.2.2 hn
    refine ⟨ad, e, fun j p hp => ?_⟩
    obtain ⟨c, h1, h2, h3⟩ := hc j p hp
    exact ⟨c, h1, hR _ _ h2, fun i u hu => hs _ _ (h3 i u hu)⟩⟩
theorem KP_still : ∀ (n : Nat) {w w1 : World} {p : Pat} {cs : List Value}, Still w w1 → KP n w p cs → KP n w1 p cs
  | 0, _, _, _, _, _, h => h.elim
  | n + 1, w, w1, p, cs, hs, ⟨g, A, c, e, h0, h1, hl, hr⟩ => ⟨g, A, c, e, hs _ _ h0, hs _ _ h1, hl, row_still (fun _ _ h => KP_still n hs h) hs hr⟩
theorem K_still {n : Nat} {w w1 : World} {p : Pat} {cs : List Value} (h : (kP n).K w p cs) (hs : Still w w1) : (kP n).K w1 p cs := KP_still n hs h
theorem C_still {n : Nat} {w w1 : World} {A : Option Addr} {m : Nat} {l : List Pat} (h : (kP n).C w A m l) (hs : Still w w1) : (kP n).C w1 A m l := row_still (fun _ _ h => KP_still n hs h) hs h
def keyN : Value → Int
  | .int _ n => n
  | _ => -1
def keyed (es : List MapEntry) : Prop := ∀ e ∈ es, ∃ b, e.key = .int .u8 b
def findL (b : Int) : List MapEntry → Nat → Option (Nat × Value)
  | [], _ => none
  | e :: es, i => if keyN e.key = b then some (i, e.val) else findL b es (i + 1)
def look (es : List MapEntry) (b : Int) : Option Value := (findL b es 0).map (·.2)
theorem findNow_eq (b : Int) : ∀ (es : List MapEntry) (i : Nat), keyed es → Instr.findNow (.int .u8) (.int .u8 b) es i = some (findL b es i)
  | [], _, _ => rfl
  | e :: es, i, h => by
    obtain ⟨c, hc⟩ := h e List.mem_cons_self
    rw [Instr.findNow, findL, hc]
    by_cases e1 : c = b
    · subst e1
      simp [Instr.sameNow, keyN]
    · have e2 : (b == c) = false := beq_eq_false_iff_ne.2 (fun h => e1 h.symm)
      have e3 : Instr.sameNow (.int .u8) (.int .u8 b) (.int .u8 c) = some false := by simp [Instr.sameNow, e2]
      rw [e3, if_neg (show keyN (.int .u8 c) ≠ b from e1)]
      exact findNow_eq b es (i + 1) (fun x hx => h x (List.mem_cons_of_mem _ hx))
theorem findL_shift (b : Int) : ∀ (es : List MapEntry) (i : Nat), findL b es i = (findL b es 0).map fun x => (i + x.1, x.2)
  | [], _ => rfl
  | e :: es, i => by
    rw [findL, findL]
    split
    · rfl
    · rw [findL_shift b es (i + 1), findL_shift b es (0 + 1), Option.map_map]
      congr 1
      funext x
      show (i + 1 + x.1, x.2) = (i + (0 + 1 + x.1), x.2)
      congr 1
      omega
theorem look_cons (e : MapEntry) (es : List MapEntry) (b : Int) : look (e :: es) b = if keyN e.key = b then some e.val else look es b := by
  rw [look, findL]
  split
  · rfl
  · rw [findL_shift, Option.map_map, look]
    rfl
theorem look_push (v : Value) (b : Int) (t : Nat) : ∀ es : List MapEntry, look es b = none → ∀ c, look (es ++ [⟨.int .u8 b, v, t⟩]) c = if c = b then some v else look es c
  | [], _, c => by
    rw [List.nil_append, look_cons]
    by_cases h : c = b
    · rw [if_pos h, if_pos (show keyN (Value.int .u8 b) = c from h.symm)]
    · rw [if_neg h, if_neg (show keyN (Value.int .u8 b) ≠ c from fun e => h e.symm)]
  | e :: es, h, c => by
    rw [look_cons] at h
    split at h
    · cases h
    · rename_i hk
      rw [List.cons_append, look_cons, look_cons, look_push v b t es h c]
      by_cases h1 : keyN e.key = c
      · rw [if_pos h1, if_pos h1, if_neg (fun e2 => hk (h1.trans e2))]
      · rw [if_neg h1, if_neg h1]
theorem look_modify (v : Value) (b : Int) : ∀ (es : List MapEntry) (i : Nat) (x : Value), keyed es → findL b es 0 = some (i, x) → (∃ e, es[i]? = some e ∧ e.key = .int .u8 b) ∧ ∀ c, look (es.modify i fun e => { e with key := .int .u8 b, val := v }) c = if c = b then some v else look es c
  | [], i, x, _, h => by cases h
  | e :: es, i, x, hkd, h => by
    rw [findL] at h
    split at h
    · rename_i hk
      obtain ⟨rfl, rfl⟩ := Prod.mk.injEq _ _ _ _ ▸ Option.some.inj h
      obtain ⟨b2, hb2⟩ := hkd e List.mem_cons_self
      have e2 : b2 = b := by rw [hb2] at hk; exact hk
      refine ⟨⟨e, rfl, by rw [hb2, e2]⟩, fun c => ?_⟩
      rw [List.modify_zero_cons, look_cons, look_cons]
      by_cases h1 : c = b
      · rw [if_pos h1, if_pos (show keyN (Value.int .u8 b) = c from h1.symm)]
      · rw [if_neg h1, if_neg (show keyN (Value.int .u8 b) ≠ c from fun e => h1 e.symm), if_neg (fun e3 => h1 (e3.symm.trans hk))]
    · rename_i hk
      rw [findL_shift] at h
      obtain ⟨⟨j, y⟩, h1, h2⟩ := Option.map_eq_some_iff.1 h
      obtain ⟨rfl, rfl⟩ : 0 + 1 + j = i ∧ y = x := by simpa using h2
      obtain ⟨⟨e4, h5, h6⟩, h7⟩ := look_modify v b es j y (fun z hz => hkd z (List.mem_cons_of_mem _ hz)) h1
      have e5 : 0 + 1 + j = j + 1 := by omega
      rw [e5]
      refine ⟨⟨e4, by simpa using h5, h6⟩, fun c => ?_⟩
      rw [List.modify_succ_cons, look_cons, look_cons, h7 c]
      by_cases h8 : keyN e.key = c
      · rw [if_pos h8, if_pos h8, if_neg (fun e2 => hk (h8.trans e2))]
      · rw [if_neg h8, if_neg h8]
def MapB (w : World) (g : Nat) (f : Int → Option Value) : Prop := ∃ es clock, w.heap[g]? = some (.map es clock) ∧ keyed es.toList ∧ ∀ c, look es.toList c = f c
theorem map_lt {w : World} {g : Nat} {f : Int → Option Value} (h : MapB w g f) : g < w.heap.size := by
  obtain ⟨es, clock, hb, _⟩ := h
  rcases Nat.lt_or_ge g w.heap.size with h1 | h1
  · exact h1
  · rw [Array.getElem?_eq_none h1] at hb; cases hb
theorem map_block {w w1 : World} {g : Nat} {f : Int → Option Value} (h : MapB w g f) (hb : w1.heap[g]? = w.heap[g]?) : MapB w1 g f := by
  obtain ⟨es, clock, h1, h2⟩ := h
  exact ⟨es, clock, hb.trans h1, h2⟩
theorem map_drew {w : World} {g : Nat} {f : Int → Option Value} (h : MapB w g f) : MapB w.drew g f := map_block h rfl
theorem map_drewN {w : World} {g : Nat} {f : Int → Option Value} (h : MapB w g f) (n : Nat) : MapB (w.drewN n) g f := map_block h rfl
theorem map_below {w w1 : World} {g : Nat} {f : Int → Option Value} (h : MapB w g f) (hb : Below w.heap.size w w1) : MapB w1 g f := map_block h (hb.block g (map_lt h))
theorem still_map {w w1 : World} {g : Nat} {f : Int → Option Value} (h : MapB w g f) (hg : w.grownBy w1 (some g)) : Still w w1 := by
  obtain ⟨es, clock, hb, _⟩ := h
  intro a v hc
  have hne : a.block ≠ g := by
    rintro rfl
    unfold World.cell? at hc
    rw [hb] at hc
    cases hc
  exact (World.cell?_of_block (hg.block _ (World.block_lt_of_cell? _ _ hc) (fun e => hne (by injection e)))).trans hc
theorem run_put {w : World} {g : Nat} {f : Int → Option Value} (b : Int) (v : Value) (hB : MapB w g f) :
    ∃ w1, (Instr.mapUpdate 66 (.map (some g)) (.int .u8 b) v).run Try.prog w = .ok () w1 ∧ MapB w1 g (fun c => if c = b then some v else f c) ∧ w.grownBy w1 (some g) := by
  have hlt := map_lt hB
  obtain ⟨es, clock, hb, hk, hl⟩ := hB
  have hc : (Instr.checkKey false 10000 5 (.int .u8 b)).run Try.prog w = .ok () w := MapKept.run_checkKey (k := .int .u8 b) Try.underlying5 (by simp [MapKept.IsKey]) false 9999
  have hf := MapKept.run_findKey (P := Try.prog) (w := w) (kt := 5) Try.underlying5 (findNow_eq b es.toList 0 hk)
  have grown : ∀ o, w.grownBy { w with heap := w.heap.setIfInBounds g o } (some g) := fun o => ⟨rfl, rfl, rfl, by simp, fun k hk hne => by
    show (w.heap.setIfInBounds g o)[k]? = _
    rw [Array.getElem?_setIfInBounds_ne (fun e => hne (by rw [e]))]⟩
  have here : ∀ o, (w.heap.setIfInBounds g o)[g]? = some o := fun o => by rw [Array.getElem?_setIfInBounds_self_of_lt hlt]
  cases hx : findL b es.toList 0 with
  | none =>
    rw [hx] at hf
    refine ⟨{ w with heap := w.heap.setIfInBounds g (.map (es.push { key := .int .u8 b, val := v, born := clock }) (clock + 1)) }, ?_, ⟨_, _, here _, ?_, ?_⟩, grown _⟩
    · simp [Instr.mapUpdate, run_underlying Try.underlying66, MapKept.run_getObj_map hb, hc, hf, MapKept.run_setObj_map _ hb, Result.andThen]
    · intro e he
      rw [Array.toList_push] at he
      rcases List.mem_append.1 he with he | he
      · exact hk e he
      · rw [List.mem_singleton.1 he]; exact ⟨b, rfl⟩
    · intro c
      rw [Array.toList_push, look_push v b clock es.toList (by rw [look, hx]; rfl) c, hl c]
  | some y =>
    obtain ⟨i, x⟩ := y
    rw [hx] at hf
    obtain ⟨⟨e, he1, he2⟩, hm⟩ := look_modify v b es.toList i x hk hx
    have he3 : es[i]? = some e := by rw [← Array.getElem?_toList]; exact he1
    have hs : (Instr.keyThatStays (.int .u8 b) (.int .u8 b)).run Try.prog w = .ok (.int .u8 b) w := by
      simp [Instr.keyThatStays, Instr.sameBits]
    refine ⟨{ w with heap := w.heap.setIfInBounds g (.map (es.modify i fun e => { e with key := .int .u8 b, val := v }) clock) }, ?_, ⟨_, _, here _, ?_, ?_⟩, grown _⟩
    · simp [Instr.mapUpdate, run_underlying Try.underlying66, MapKept.run_getObj_map hb, hc, hf, MapKept.run_setObj_map _ hb, Result.andThen, he3, he2, hs]
    · intro e5 he5
      rw [Array.toList_modify] at he5
      obtain ⟨j, hj⟩ := List.mem_iff_getElem?.1 he5
      rw [List.getElem?_modify] at hj
      obtain ⟨e6, h6, h7⟩ := Option.map_eq_some_iff.1 hj
      split at h7
      · rw [← h7]; exact ⟨b, rfl⟩
      · rw [← h7]; exact hk _ (List.mem_iff_getElem?.2 ⟨j, h6⟩)
    · intro c
      rw [Array.toList_modify, hm c, hl c]
section
variable {ops : Array Oper} {rest : List Oper} {o : Oper} {a : Act} {Q : Exit → Act → World → Prop} {W : World}
theorem mp_make (hgd : o.guard = none) (ho : o.op = .makeMap 66 none) (h : ∀ g, g = W.heap.size → ∀ w1, MapB w1 g (fun _ => none) → Below W.heap.size W w1 → wpList Try.prog ops Q rest (a.put o.dst (.map (some g))) w1) : wpList Try.prog ops Q (o :: rest) a W := by
  refine Kd.event_run (w1 := W.alloc (.map #[] 0)) (v := .map (some W.heap.size)) hgd ?_ (h _ rfl _ ?_ (below_alloc (Below.refl _ _) _))
  · simp [execOp, ho, run_makeMap]
  · exact ⟨#[], 0, heap_alloc_new W _, fun e he => by simp at he, fun c => rfl⟩
theorem mp_put (m k x : Operand) {g : Nat} {f : Int → Option Value} {b : Int} {v : Value} (hgd : o.guard = none) (ho : o.op = .mapUpdate 66 m k x ∨ o.op = .insert 66 m k x) (hm : a.eval m = .map (some g)) (hk : a.eval k = .int .u8 b) (hx : a.eval x = v) (hB : MapB W g f)
    (h : ∀ w1, MapB w1 g (fun c => if c = b then some v else f c) → W.grownBy w1 (some g) → wpList Try.prog ops Q rest (a.put o.dst undef) w1) : wpList Try.prog ops Q (o :: rest) a W := by
  obtain ⟨w1, r1, r2, r3⟩ := run_put b v hB
  refine wpList_plain hgd fun K' hK' => ?_
  unfold Oper.wp
  rcases ho with ho | ho
  all_goals
    simp [execOp, ho, hm, hk, hx, r1, Result.andThen]
    exact hK' _ _ (h w1 r2 r3)
end
end Go.Proofs.Ytjdhjapbggnhkaa.P
namespace Go.Proofs.Ytjdhjapbggnhkaa.P
set_option linter.unusedVariables false
set_option linter.unusedSectionVars false
open Go.RowKit Go.Proofs.YtjdhjapbggnhkaaW.PrintWords Go.Proofs.YtjdhjapbggnhkaaW.PrintLast Go.Proofs.YtjdhjapbggnhkaaW.PrintMore
abbrev Fill := Int → Option Pat
def matchL (f : Pat → Pat → Fill → Bool × Fill) : List Pat → List Pat → Fill → Bool × Fill
  | k :: ks, j :: js, F => if (f k j F).1 = true then matchL f ks js (f k j F).2 else (false, (f k j F).2)
  | _, _, F => (true, F)
def matchP : Nat → Pat → Pat → Fill → Bool × Fill
  | 0, _, _, F => (false, F)
  | n + 1, p, q, F => if p.letter ≠ 0 then (true, fun c => if c = p.letter then some q else F c) else if q.letter ≠ 0 ∨ p.kids.length ≠ q.kids.length then (false, F) else matchL (matchP n) p.kids q.kids F
def Tr (w : World) (f : Int → Option Value) (F : Fill) : Prop := ∀ b, (F b = none → f b = none) ∧ ∀ q, F b = some q → ∃ d v, f b = some v ∧ (kP d).K w q [v]
theorem tr_still {w w1 : World} {f : Int → Option Value} {F : Fill} (h : Tr w f F) (hs : Still w w1) : Tr w1 f F := fun b => ⟨(h b).1, fun q hq => by
  obtain ⟨d, v, h1, h2⟩ := (h b).2 q hq
  exact ⟨d, v, h1, K_still h2 hs⟩⟩
theorem matchL_step (f : Pat → Pat → Fill → Bool × Fill) (ks js : List Pat) (F : Fill) (i : Nat) (hi : i < ks.length) (hj : i < js.length) : matchL f (ks.drop i) (js.drop i) F = if (f (ks.getD i default) (js.getD i default) F).1 = true then matchL f (ks.drop (i + 1)) (js.drop (i + 1)) (f (ks.getD i default) (js.getD i default) F).2 else (false, (f (ks.getD i default) (js.getD i default) F).2) := by
  rw [List.drop_eq_getElem_cons hi, List.drop_eq_getElem_cons hj, matchL, List.getD_eq_getElem?_getD, List.getElem?_eq_getElem hi, List.getD_eq_getElem?_getD, List.getElem?_eq_getElem hj]
  rfl
theorem matchL_end (f : Pat → Pat → Fill → Bool × Fill) (ks js : List Pat) (F : Fill) (i : Nat) (hi : ks.length ≤ i) : matchL f (ks.drop i) (js.drop i) F = (true, F) := by
  rw [List.drop_eq_nil_of_le hi]
  cases js.drop i <;> rfl
def MatchR (w : World) (g : Nat) (r : Bool × Fill) (e : Ending) (w' : World) : Prop := e = .returned (.bool r.1) ∧ w.grownBy w' (some g) ∧ ∃ f, MapB w' g f ∧ Tr w' f r.2
theorem matchR_same {w w' : World} {g : Nat} {b : Bool} {f : Int → Option Value} {F : Fill} (hb : Below w.heap.size w w') (hB : MapB w g f) (hT : Tr w f F) : MatchR w g (b, F) (.returned (.bool b)) w' :=
  ⟨rfl, grown_of_below hb _, f, map_below hB hb, tr_still hT (still_below hb)⟩
theorem grown_then {a b c : World} {row : Option Nat} (h : a.grownBy b row) (k : b.grownBy c row) : a.grownBy c row := h.trans k
set_option maxHeartbeats 4000000 in
set_option maxRecDepth 100000 in
theorem match_calls : ∀ (n : Nat) (p q : Pat) (nq : Nat) (vp vq : Value) (g : Nat) (f : Int → Option Value) (F : Fill) (w : World), (kP n).K w p [vp] → (kP nq).K w q [vq] → MapB w g f → Tr w f F →
    Calls Try.prog 50 #[.map (some g), vp, vq] w (MatchR w g (matchP n p q F))
  | 0, p, q, nq, vp, vq, g, f, F, w, h, _, _, _ => h.elim
  | n + 1, p, q, nq, vp, vq, g, f, F, w, hp, hq, hB, hT => by
    have ih := match_calls n
    have hp' := hp
    have hq' := hq
    obtain ⟨m, gp, A, c, hm, rfl, h0, h1, hl, hC⟩ := K_open hp'
    obtain rfl : m = n := by omega
    obtain ⟨mq, gq, B, cq, hmq, rfl, k0, k1, hlq, hCq⟩ := K_open hq'
    have HB := Aside0.mk hB
    have HT := Aside0.mk hT
    have HQ := Aside0.mk hq
    clear hp' hq' hp hq hB hT
    by_cases hz : p.letter = 0
    · by_cases hzq : q.letter = 0
      · by_cases hlen : p.kids.length = q.kids.length
        · have e : matchP (m + 1) p q F = matchL (matchP m) p.kids q.kids F := by
            rw [matchP, if_neg (fun h => h hz), if_neg (fun h => h.elim (fun h => h hzq) (fun h => h hlen))]
          obtain ⟨R, hR⟩ : ∃ R, R = matchL (matchP m) p.kids q.kids F := ⟨_, rfl⟩
          rw [e, ← hR]
          rw [hz] at h0
          rw [hzq] at k0
          have HC := Aside0.mk hC
          have HCq := Aside0.mk hCq
          have HR := Aside0.mk hR.symm
          have HL := Aside0.mk hlen
          have hne : ((p.kids.length : Int) != (q.kids.length : Int)) = false := bne_eq_false_iff_eq.2 (by omega)
          clear e hR hC hCq hl hlq hz hzq hlen
          go_enter Try.func50, Try.ntmps50
          go_wp2
          go_region
          all_goals go_wp2
          all_goals (go_loopg [43] (p.kids.length + 1) (fun kq v43 w' => ∃ (i : Nat) (f2 : Int → Option Value) (F2 : Fill), v43 = .int .i64 (i : Int) ∧ i + kq = p.kids.length + 1 ∧ i ≤ p.kids.length ∧ Aside0 (matchL (matchP m) (p.kids.drop i) (q.kids.drop i) F2 = R) ∧ Aside0 (MapB w' g f2) ∧ Aside0 (Tr w' f2 F2) ∧ Aside0 (w.grownBy w' (some g))))
          case atStart => exact ⟨0, f, F, rfl, by omega, by omega, ⟨by rw [List.drop_zero, List.drop_zero]; exact HR.out⟩, ⟨by repeat (first | exact HB.out | apply map_drewN | apply map_drew)⟩, ⟨tr_still HT.out (still_below (by repeat (first | exact Below.refl _ _ | apply pw_below_drewN | apply below_drew1)))⟩, ⟨grown_of_below (by repeat (first | exact Below.refl _ _ | apply pw_below_drewN | apply below_drew1)) _⟩⟩
          case round =>
            obtain ⟨i, f2, F2, rfl, hk, hil, HR2, HB2, HT2, HG2⟩ := hrel
            have st := still_map HB.out HG2.out
            cases gk with
            | zero =>
              exfalso
              omega
            | succ gk =>
              by_cases hi : i < p.kids.length
              · have hb1 : decide ((i : Int) < (p.kids.length : Int)) = true := decide_eq_true (by omega)
                obtain ⟨ad, u, rfl, hx, hK⟩ := at_P (C_still HC.out st) i hi
                obtain ⟨ad2, u2', rfl, hx2, hK2⟩ := at_P (C_still HCq.out st) i (by have := HL.out; omega)
                have hr := HR2.out
                rw [matchL_step _ _ _ _ i hi (by have := HL.out; omega)] at hr
                have IH := Aside0.mk (ih _ _ _ _ _ _ _ _ _ hK hK2 HB2.out HT2.out)
                obtain ⟨r, hre⟩ : ∃ r, r = matchP m (p.kids.getD i default) (q.kids.getD i default) F2 := ⟨_, rfl⟩
                rw [← hre] at IH hr
                have hq1 := st _ _ k1
                have hw : wrap64 ((i : Int) + 1) = ((i + 1 : Nat) : Int) := by have := (C_still HC.out st).2.1; unfold wrap64; omega
                have hi2 : (i < p.kids.length) = True := eq_true hi
                have hi3 : (i < q.kids.length) = True := eq_true (by have := HL.out; omega)
                clear hre hK hK2 k0 k1 h0 h1
                cases hb : r.1 with
                | true =>
                  rw [if_pos hb] at hr
                  have HR3 := Aside0.mk hr
                  clear hr
                  go_wp2_with (first | (go_at_call 50; refine IH.out.mono ?_; rintro e w5 ⟨he, hg, f3, hm3, ht3⟩; rw [hb] at he; subst he; have HG3 := Aside0.mk (grown_then HG2.out hg); have HB3 := Aside0.mk hm3; have HT3 := Aside0.mk ht3; clear hg hm3 ht3))
                  go_roundg gk
                  case measure => omega
                  case rel => exact ⟨i + 1, f3, r.2, by first | (rw [hw]; done) | rfl | (congr 1; omega), by omega, by omega, ⟨HR3.out⟩, ⟨HB3.out⟩, ⟨HT3.out⟩, ⟨HG3.out⟩⟩
                | false =>
                  rw [if_neg (by rw [hb]; decide)] at hr
                  have HR3 := Aside0.mk hr
                  clear hr
                  go_wp2_with (first | (go_at_call 50; refine IH.out.mono ?_; rintro e w5 ⟨he, hg, f3, hm3, ht3⟩; rw [hb] at he; subst he; have HG3 := Aside0.mk (grown_then HG2.out hg); have HB3 := Aside0.mk hm3; have HT3 := Aside0.mk ht3; clear hg hm3 ht3))
                  go_ret
                  rw [← HR3.out]
                  exact ⟨rfl, HG3.out, f3, HB3.out, HT3.out⟩
              · have hb1 : decide ((i : Int) < (p.kids.length : Int)) = false := decide_eq_false (by omega)
                have hr := HR2.out
                rw [matchL_end _ _ _ _ i (by omega)] at hr
                have HR3 := Aside0.mk hr
                clear hr
                go_wp2
                go_ret
                rw [← HR3.out]
                exact ⟨rfl, HG2.out, f2, HB2.out, HT2.out⟩
        · have e : matchP (m + 1) p q F = (false, F) := by
            rw [matchP, if_neg (fun h => h hz), if_pos (.inr hlen)]
          rw [e]
          rw [hz] at h0
          rw [hzq] at k0
          have hne : ((p.kids.length : Int) != (q.kids.length : Int)) = true := bne_iff_ne.2 (by omega)
          clear e hC hCq hl hlq hz hzq hlen
          go_enter Try.func50, Try.ntmps50
          go_wp2
          go_region
          all_goals go_wp2
          all_goals go_ret
          all_goals exact matchR_same (by repeat (first | exact Below.refl _ _ | apply pw_below_drewN | apply below_drew1)) HB.out HT.out
      · have e : matchP (m + 1) p q F = (false, F) := by
          rw [matchP, if_neg (fun h => h hz), if_pos (.inl hzq)]
        rw [e]
        rw [hz] at h0
        obtain ⟨b, hb⟩ : ∃ b, q.letter = b := ⟨_, rfl⟩
        rw [hb] at k0 hzq
        have hz2 : (b != 0) = true := bne_iff_ne.2 hzq
        clear e hC hCq hl hlq hz hzq hb
        go_enter Try.func50, Try.ntmps50
        go_wp2
        go_region
        all_goals go_wp2
        all_goals go_ret
        all_goals exact matchR_same (by repeat (first | exact Below.refl _ _ | apply pw_below_drewN | apply below_drew1)) HB.out HT.out
    · have e : matchP (m + 1) p q F = (true, fun c => if c = p.letter then some q else F c) := by rw [matchP, if_pos hz]
      rw [e]
      obtain ⟨b, hb⟩ : ∃ b, p.letter = b := ⟨_, rfl⟩
      rw [hb] at h0 hz ⊢
      have hz2 : (b != 0) = true := bne_iff_ne.2 hz
      clear e hb hz
      go_enter Try.func50, Try.ntmps50
      go_wp2_with (first | (refine mp_put _ _ _ rfl (.inl rfl) rfl rfl rfl HB.out ?_; intro w1 hm1 hg1; have HM1 := Aside0.mk hm1; have HG1 := Aside0.mk hg1; clear hm1 hg1))
      go_ret
      refine ⟨rfl, HG1.out, _, HM1.out, fun c => ?_⟩
      have hT2 := tr_still HT.out (still_map HB.out HG1.out)
      by_cases hc : c = b
      · rw [if_pos hc]
        refine ⟨fun h => ?_, fun q2 h2 => ⟨nq, .pointer (some ⟨gq, 0, none⟩), rfl, ?_⟩⟩
        · simp only [if_pos hc] at h; cases h
        · simp only [if_pos hc] at h2
          obtain rfl := Option.some.inj h2
          exact K_still HQ.out (still_map HB.out HG1.out)
      · simp only [if_neg hc]
        exact hT2 c
end Go.Proofs.Ytjdhjapbggnhkaa.P
