/- Patterns in memory: a pointer to a letter and a row of pointers, by depth; in the form of the print's kinds. No program in sight. -/
import Derived.Test.YtmambanmffdibaaWMore
namespace Go.Proofs.Ytmambanmffdibaa.P
set_option linter.unusedVariables false
set_option linter.unusedSectionVars false
open Go.RowKit Go.Proofs.YtmambanmffdibaaW.PrintWords
/-- A pattern: its letter (0 where it is a node), and its kids. -/
inductive Pat where
  | mk (letter : Int) (kids : List Pat)
def Pat.letter : Pat → Int
  | .mk c _ => c
def Pat.kids : Pat → List Pat
  | .mk _ l => l
instance : Inhabited Pat := ⟨.mk 0 []⟩
/-- What is read at a pattern of depth n. -/
def KP : Nat → World → Pat → List Value → Prop
  | 0, _, _, _ => False
  | n + 1, w, p, cs => ∃ g A c, cs = [.pointer (some ⟨g, 0, none⟩)] ∧ w.cell? ⟨g, 0, none⟩ = some (.int .u8 p.letter) ∧ w.cell? ⟨g, 1, none⟩ = some (.slice A p.kids.length c) ∧ p.kids.length ≤ c ∧ ReadsRow (KP n w) 1 w A p.kids.length p.kids
/-- What a call has made at a pattern of depth n: blocks from base on, all ok. -/
def MP : Nat → World → Nat → (Nat → Prop) → Pat → List Value → Prop
  | 0, _, _, _, _, _ => False
  | n + 1, w, base, ok, p, cs => ∃ g v, cs = [.pointer (some ⟨g, 0, none⟩)] ∧ ok g ∧ base ≤ g ∧ w.heap[g]? = some (.cells #[.int .u8 p.letter, v] 92 (0, 0)) ∧
      (∀ k, v.ownBlock = some k → ok k ∧ k ≠ g) ∧ OwnRow (MP n w base (fun k => (ok k ∧ k ≠ g) ∧ some k ≠ v.ownBlock)) 52 1 w base v p.kids
structure Props (K : World → Pat → List Value → Prop) (M : World → Nat → (Nat → Prop) → Pat → List Value → Prop) : Prop where
  K_len : ∀ {w x cs}, K w x cs → cs.length = 1
  K_one : ∀ {w x cs}, K w x cs → ∀ u ∈ cs, u.oneCell' = true
  K_below : ∀ {w w1 : World} {x cs}, Below w.heap.size w w1 → K w x cs → K w1 x cs
  K_of_M : ∀ {w base ok x cs}, M w base ok x cs → K w x cs
  M_mono : ∀ {w base ok ok' x cs}, (∀ k, ok k → ok' k) → M w base ok x cs → M w base ok' x cs
  M_bound : ∀ {w : World} {base ok x cs}, M w base ok x cs → M w base (fun k => ok k ∧ base ≤ k ∧ k < w.heap.size ∧ ∃ q, q ∈ [92, 52] ∧ ∃ cells, w.heap[k]? = some (.cells cells q (0, 0))) x cs
  M_move : ∀ {w w1 : World} {base ok x cs}, (∀ k, ok k → w1.heap[k]? = w.heap[k]?) → M w base ok x cs → M w1 base ok x cs
  M_lower : ∀ {w base base' ok x cs}, base' ≤ base → M w base ok x cs → M w base' ok x cs
def Props.kd {K : World → Pat → List Value → Prop} {M : World → Nat → (Nat → Prop) → Pat → List Value → Prop} (h : Props K M) : Kd Pat :=
  { sz := 1, E := [92, 52], K := K, M := M, K_len := h.K_len, K_one := h.K_one, K_below := h.K_below, K_of_M := h.K_of_M, M_mono := h.M_mono, M_bound := h.M_bound, M_move := h.M_move, M_lower := h.M_lower }
theorem props : ∀ n, Props (KP n) (MP n)
  | 0 => ⟨fun h => h.elim, fun h => h.elim, fun _ h => h.elim, fun h => h.elim, fun _ h => h.elim, fun h => h.elim, fun _ h => h.elim, fun _ h => h.elim⟩
  | n + 1 => by
    have ih := props n
    refine ⟨?_, ?_, ?_, ?_, ?_, ?_, ?_, ?_⟩
    · rintro w x cs ⟨g, A, c, rfl, _⟩; rfl
    · rintro w x cs ⟨g, A, c, rfl, _⟩ u hu
      rw [List.mem_singleton.1 hu]; rfl
    · rintro w w1 x cs hb ⟨g, A, c, rfl, h0, h1, hl, hr⟩
      exact ⟨g, A, c, rfl, (hb.cell (World.block_lt_of_cell? _ _ h0)).trans h0, (hb.cell (World.block_lt_of_cell? _ _ h1)).trans h1, hl, Kd.C_below (d := ih.kd) hr hb⟩
    · rintro w base ok x cs ⟨g, v, rfl, _, _, hg, hv, hr⟩
      have hR : ih.kd.R 52 w base (fun k => ok k ∧ k ≠ g) v x.kids := ⟨hv, hr⟩
      obtain ⟨A, c, rfl, hl, hC⟩ := Kd.R_reads hR
      exact ⟨g, A, c, rfl, (blk_cell hg 0).trans rfl, (blk_cell hg 1).trans rfl, hl, hC⟩
    · rintro w base ok ok' x cs hok ⟨g, v, rfl, h1, h2, hg, hv, hr⟩
      have hR : ih.kd.R 52 w base (fun k => ok k ∧ k ≠ g) v x.kids := ⟨hv, hr⟩
      obtain ⟨h3, h4⟩ := Kd.R_mono (ok' := fun k => ok' k ∧ k ≠ g) hR (fun k hk => ⟨hok k hk.1, hk.2⟩)
      exact ⟨g, v, rfl, hok g h1, h2, hg, h3, h4⟩
    · rintro w base ok x cs ⟨g, v, rfl, h1, h2, hg, hv, hr⟩
      have hR : ih.kd.R 52 w base (fun k => ok k ∧ k ≠ g) v x.kids := ⟨hv, hr⟩
      obtain ⟨h3, h4⟩ := Kd.R_mono (ok' := fun k => (ok k ∧ base ≤ k ∧ k < w.heap.size ∧ ∃ q, q ∈ [92, 52] ∧ ∃ cells, w.heap[k]? = some (.cells cells q (0, 0))) ∧ k ≠ g) (Kd.R_bound hR) (fun k hk => by
        obtain ⟨⟨a, b⟩, c, d, q, hq, e⟩ := hk
        refine ⟨⟨a, c, d, q, ?_, e⟩, b⟩
        rcases List.mem_cons.1 hq with rfl | hq
        · exact List.mem_cons_of_mem _ List.mem_cons_self
        · exact hq)
      exact ⟨g, v, rfl, ⟨h1, h2, blk_lt hg, 92, List.mem_cons_self, _, hg⟩, h2, hg, h3, h4⟩
    · rintro w w1 base ok x cs hm ⟨g, v, rfl, h1, h2, hg, hv, hr⟩
      have hR : ih.kd.R 52 w base (fun k => ok k ∧ k ≠ g) v x.kids := ⟨hv, hr⟩
      obtain ⟨h3, h4⟩ := Kd.R_move (w1 := w1) hR (fun k hk => hm k hk.1)
      exact ⟨g, v, rfl, h1, h2, (hm g h1).trans hg, h3, h4⟩
    · rintro w base base' ok x cs hb ⟨g, v, rfl, h1, h2, hg, hv, hr⟩
      have hR : ih.kd.R 52 w base (fun k => ok k ∧ k ≠ g) v x.kids := ⟨hv, hr⟩
      obtain ⟨h3, h4⟩ := Kd.R_lower hR hb
      exact ⟨g, v, rfl, h1, Nat.le_trans hb h2, hg, h3, h4⟩
/-- The kind of patterns of depth n. -/
def kP (n : Nat) : Kd Pat := (props n).kd
theorem kP_sz (n : Nat) : (kP n).sz = 1 := rfl
theorem M_leaf {n : Nat} {w : World} {base g : Nat} {ok : Nat → Prop} {c : Int} (h1 : ok g) (h2 : base ≤ g) (hg : w.heap[g]? = some (.cells #[.int .u8 c, .slice none 0 0] 92 (0, 0))) : (kP (n + 1)).M w base ok (.mk c []) [.pointer (some ⟨g, 0, none⟩)] :=
  ⟨g, _, rfl, h1, h2, hg, fun k hk => by simp [Value.ownBlock] at hk, OwnRow.none_ _ _ _ _ _⟩
theorem M_node {n : Nat} {w : World} {base g : Nat} {ok : Nat → Prop} {c : Int} {v : Value} {l : List Pat} (h1 : ok g) (h2 : base ≤ g) (hg : w.heap[g]? = some (.cells #[.int .u8 c, v] 92 (0, 0))) (hR : (kP n).R 52 w base (fun k => ok k ∧ k ≠ g) v l) :
    (kP (n + 1)).M w base ok (.mk c l) [.pointer (some ⟨g, 0, none⟩)] :=
  ⟨g, v, rfl, h1, h2, hg, hR.1, hR.2⟩
theorem M_ptr {n : Nat} {w : World} {base : Nat} {ok : Nat → Prop} {p : Pat} {v : Value} (h : (kP n).M w base ok p [v]) : ∃ g, v = .pointer (some ⟨g, 0, none⟩) := by
  cases n with
  | zero => exact h.elim
  | succ m =>
    obtain ⟨g, _, e, _⟩ := h
    exact ⟨g, by simpa using e⟩
theorem K_open {n : Nat} {w : World} {p : Pat} {v : Value} (h : (kP n).K w p [v]) : ∃ m g A c, n = m + 1 ∧ v = .pointer (some ⟨g, 0, none⟩) ∧ w.cell? ⟨g, 0, none⟩ = some (.int .u8 p.letter) ∧ w.cell? ⟨g, 1, none⟩ = some (.slice A p.kids.length c) ∧ p.kids.length ≤ c ∧ (kP m).C w A p.kids.length p.kids := by
  cases n with
  | zero => exact h.elim
  | succ m =>
    obtain ⟨g, A, c, e, h0, h1, hl, hr⟩ := h
    exact ⟨m, g, A, c, rfl, by simpa using e, h0, h1, hl, hr⟩
theorem at_P {n : Nat} {w : World} {A : Option Addr} {m : Nat} {xs : List Pat} (h : (kP n).C w A m xs) (i : Nat) (hi : i < xs.length) : ∃ ad v, A = some ad ∧ w.cell? (ad.add i) = some v ∧ (kP n).K w (xs.getD i default) [v] := by
  obtain ⟨h1, h2, h3⟩ := h
  obtain ⟨ad, rfl, h4⟩ := h3 (by omega)
  obtain ⟨c, hl, hR, hc⟩ := h4 i _ (List.getElem?_eq_getElem hi)
  match c, hl with
  | [v], _ =>
    refine ⟨ad, v, rfl, by have h5 := hc 0 v rfl; rw [kP_sz, Nat.mul_one, Nat.add_zero] at h5; exact h5, ?_⟩
    rw [List.getD_eq_getElem?_getD, List.getElem?_eq_getElem hi]
    exact hR
end Go.Proofs.Ytmambanmffdibaa.P
