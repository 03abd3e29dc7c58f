/- The row of the law FnExactOpenTrees, out of its pure statement. -/
import Derived.Test.YtmambanmffdibaaQOPEx0
import Derived.Test.YtmambanmffdibaaQOPEx1
import Derived.Test.YtmambanmffdibaaQOPEx3
import Derived.Test.YtmambanmffdibaaQOPEx6
import Derived.Test.YtmambanmffdibaaQOPL
import Derived.Test.YtmambanmffdibaaQOPL1
namespace Go.Proofs.Ytmambanmffdibaa.P
set_option linter.unusedVariables false
set_option linter.unusedSectionVars false
open Go.RowKit Go.Proofs.YtmambanmffdibaaW.PrintWords Go.Proofs.YtmambanmffdibaaW.PrintLast Go.Proofs.YtmambanmffdibaaW.PrintMore
end Go.Proofs.Ytmambanmffdibaa.P
namespace Go.Proofs.Ytmambanmffdibaa.P
set_option linter.unusedVariables false
set_option linter.unusedSectionVars false
open Go.RowKit Go.Proofs.YtmambanmffdibaaW.PrintWords Go.Proofs.YtmambanmffdibaaW.PrintLast Go.Proofs.YtmambanmffdibaaW.PrintMore Go.Proofs.Ytmambanmffdibaa.Base Go.Proofs.Ytmambanmffdibaa.Tree Go.Proofs.Ytmambanmffdibaa.E Go.Proofs.Ytmambanmffdibaa.PT
end Go.Proofs.Ytmambanmffdibaa.P
namespace Go.Proofs.Ytmambanmffdibaa.Tree
set_option linter.unusedVariables false
set_option linter.unusedSectionVars false
open Go.Proofs.Ytmambanmffdibaa.Base
def sub (d : List Int) (v : Nat) : List Int := (d.take (endM d v)).drop v
section
variable {d : List Int} (h : IsT d) {v : Nat} (hv : v < d.length)
include h hv
theorem sub_length : (sub d v).length = endM d v - v := by
  have := end_le h hv
  rw [sub, List.length_drop, List.length_take]; omega
theorem sub_get {i : Nat} (hi : i < endM d v - v) : (sub d v).getD i 0 = d.getD (v + i) 0 := by
  rw [sub, List.getD_eq_getElem?_getD, List.getElem?_drop, List.getElem?_take_of_lt (by omega), ← List.getD_eq_getElem?_getD]
theorem sub_nd : ∀ i, i ≤ endM d v - v → nd (sub d v) i = nd d (v + i) - nd d v + 1
  | 0, _ => by simp [nd]
  | i + 1, hi => by
    rw [nd, sub_nd i (by omega), sub_get h hv (by omega), show v + (i + 1) = (v + i) + 1 by omega, nd]
    omega
theorem sub_tree : IsT (sub d v) := by
  have hl := sub_length h hv
  have hg := end_gt h hv
  refine ⟨fun i hi => ?_, fun i hi => ?_, ?_⟩
  · rw [sub_nd h hv i (by omega)]
    rcases Nat.eq_zero_or_pos i with h0 | h0
    · subst h0
      rw [Nat.add_zero]; omega
    · have := end_in h hv (j := v + i) (by omega) (by omega)
      omega
  · rw [sub_get h hv (by omega)]
    have := end_le h hv
    exact h.deg _ (by omega)
  · rw [hl, sub_nd h hv _ (Nat.le_refl _), show v + (endM d v - v) = endM d v by omega, end_nd h hv]
    omega
theorem sub_end {i : Nat} (hi : i < endM d v - v) : endM (sub d v) i = endM d (v + i) - v := by
  have hl := sub_length h hv
  have hle := end_le h hv
  have hvi : v + i < d.length := by omega
  have hm := end_mono h hv (u := v + i) (by omega) (by omega)
  have hg := end_gt h hvi
  refine (end_unique (sub_tree h hv) (by omega) (by omega) ?_ (fun j h1 h2 => ?_)).symm
  · rw [sub_nd h hv _ (by omega), sub_nd h hv _ (by omega), show v + (endM d (v + i) - v) = endM d (v + i) by omega, end_nd h hvi]
    omega
  · rw [sub_nd h hv _ (by omega), sub_nd h hv _ (by omega)]
    have := end_in h hvi (j := v + j) (by omega) (by omega)
    omega
theorem sub_kidsFrom {m c e : Nat} (r : Run d m (v + c) e) (he : e ≤ endM d v) : kidsFrom (sub d v) m c = (kidsFrom d m (v + c)).map fun x => x - v := by
  induction m generalizing c with
  | zero => rfl
  | succ m ih =>
    cases r with
    | cons hc r =>
      have h1 := end_gt h hc
      have h2 := run_bd h r
      rw [kidsFrom, kidsFrom, List.map_cons, show v + c - v = c by omega]
      congr 1
      rw [sub_end h hv (by omega)]
      have e2 : v + (endM d (v + c) - v) = endM d (v + c) := by omega
      have := ih (c := endM d (v + c) - v) (by rw [e2]; exact r)
      rw [this, e2]
theorem sub_kids {i : Nat} (hi : i < endM d v - v) : kidsM (sub d v) i = (kidsM d (v + i)).map fun x => x - v := by
  have hle := end_le h hv
  have hvi : v + i < d.length := by omega
  rw [kidsM, kidsM, sub_get h hv hi]
  have := sub_kidsFrom h hv (m := (d.getD (v + i) 0).toNat) (c := i + 1) (e := endM d (v + i)) (by have := run_kids h hvi; rwa [show v + i + 1 = v + (i + 1) by omega] at this) (end_mono h hv (by omega) (by omega))
  rw [this, show v + (i + 1) = v + i + 1 by omega]
theorem sub_sub {i : Nat} (hi : i < endM d v - v) : sub (sub d v) i = sub d (v + i) := by
  have hle := end_le h hv
  have hvi : v + i < d.length := by omega
  have hm := end_mono h hv (u := v + i) (by omega) (by omega)
  have hg := end_gt h hvi
  rw [sub, sub_end h hv hi]
  show ((((d.take (endM d v)).drop v).take (endM d (v + i) - v)).drop i) = (d.take (endM d (v + i))).drop (v + i)
  rw [List.take_drop, List.take_take, List.drop_drop, show min (v + (endM d (v + i) - v)) (endM d v) = endM d (v + i) by omega]
end
theorem run_sum {d : List Int} (h : IsT d) {m c e : Nat} (r : Run d m c e) : ((kidsFrom d m c).map fun x => 2 * (endM d x - x)).sum = 2 * (e - c) := by
  induction r with
  | nil c => simp [kidsFrom]
  | cons hc r ih =>
    have h1 := end_gt h hc
    have h2 := run_bd h r
    rw [kidsFrom, List.map_cons, List.sum_cons, ih]
    omega
end Go.Proofs.Ytmambanmffdibaa.Tree
namespace Go.Proofs.Ytmambanmffdibaa.P
set_option linter.unusedVariables false
set_option linter.unusedSectionVars false
open Go.RowKit Go.Proofs.YtmambanmffdibaaW.PrintWords Go.Proofs.Ytmambanmffdibaa.Base Go.Proofs.Ytmambanmffdibaa.Tree Go.Proofs.Ytmambanmffdibaa.E Go.Proofs.Ytmambanmffdibaa.PT
theorem flat_eq {α β : Type} {f g : α → List β} : ∀ l : List α, (∀ c ∈ l, f c = g c) → l.flatMap f = l.flatMap g
  | [], _ => rfl
  | c :: l, h => by rw [List.flatMap_cons, List.flatMap_cons, h c List.mem_cons_self, flat_eq l (fun x hx => h x (List.mem_cons_of_mem _ hx))]
theorem sub_cons {d : List Int} (h : IsT d) {v : Nat} (hv : v < d.length) : sub d v = d.getD v 0 :: (d.take (endM d v)).drop (v + 1) := by
  have hg := end_gt h hv
  have hl : v < (d.take (endM d v)).length := by rw [List.length_take]; omega
  rw [sub, List.drop_eq_getElem_cons hl, List.getElem_take, List.getD_eq_getElem?_getD, List.getElem?_eq_getElem hv]
  rfl
theorem run_flat {d : List Int} (h : IsT d) {m c e : Nat} (r : Run d m c e) (he : e ≤ d.length) : (kidsFrom d m c).flatMap (sub d) = (d.take e).drop c := by
  induction r with
  | nil c => rw [kidsFrom, List.flatMap_nil, List.drop_eq_nil_of_le (by rw [List.length_take]; omega)]
  | @cons m c e hc r ih =>
    have h1 := end_gt h hc
    have h2 := run_bd h r
    rw [kidsFrom, List.flatMap_cons, ih he, sub]
    have e1 : (d.take e).drop c = ((d.take e).drop c).take (endM d c - c) ++ ((d.take e).drop c).drop (endM d c - c) := (List.take_append_drop _ _).symm
    rw [e1, List.drop_drop, show c + (endM d c - c) = endM d c by omega]
    congr 1
    rw [List.take_drop, List.take_take, show min (c + (endM d c - c)) e = endM d c by omega]
theorem deg_tree {d : List Int} (h : IsT d) : ∀ (n m v : Nat), v < d.length → d.length - v ≤ n → n ≤ m → degN m (ofT (kfM d) n (v : Int)) = sub d v
  | 0, m, v, hv, hn, _ => by omega
  | n + 1, 0, v, hv, hn, hm => by omega
  | n + 1, m + 1, v, hv, hn, hm => by
    have hd := h.deg v hv
    have e1 : (ofT (kfM d) (n + 1) (v : Int)).kids = (kidsM d v).map fun c => ofT (kfM d) n ((c : Nat) : Int) := by
      show (kfM d (v : Int)).map (ofT (kfM d) n) = _
      rw [kfM, Int.toNat_natCast, castL, List.map_map]; rfl
    rw [degN, e1, List.length_map, sub_cons h hv, List.flatMap_map]
    have e2 : (kidsM d v).flatMap (fun c => degN m (ofT (kfM d) n ((c : Nat) : Int))) = (kidsM d v).flatMap (sub d) := by
      apply flat_eq
      intro c hc
      have := kid_mem h hv hc
      exact deg_tree h n m c this.2.1 (by omega) (by omega)
    rw [e2, kidsM, run_flat h (run_kids h hv) (end_le h hv), kidsFrom_length]
    congr 1
    omega
end Go.Proofs.Ytmambanmffdibaa.P

namespace Go.Proofs.Ytmambanmffdibaa.P
set_option linter.unusedVariables false
set_option linter.unusedSectionVars false
open Go.RowKit Go.Proofs.YtmambanmffdibaaW.PrintWords Go.Proofs.YtmambanmffdibaaW.PrintLast Go.Proofs.YtmambanmffdibaaW.PrintMore Go.Proofs.Ytmambanmffdibaa.Base Go.Proofs.Ytmambanmffdibaa.Tree Go.Proofs.Ytmambanmffdibaa.E Go.Proofs.Ytmambanmffdibaa.PT
def Fine (n : Nat) (q : Pat) : Prop := noL n q ∧ (degN n q).length ≤ 24
theorem fine_kid {n : Nat} {q k : Pat} (h : Fine (n + 1) q) (hk : k ∈ q.kids) : Fine n k := by
  refine ⟨h.1.2 k hk, ?_⟩
  obtain ⟨i, hi, e⟩ := List.getElem_of_mem hk
  have h2 := h.2
  rw [degN, List.length_cons] at h2
  have := deg_take_le (degN n) q.kids (i + 1)
  rw [deg_take (degN n) q.kids i hi, List.length_append, List.getD_eq_getElem?_getD, List.getElem?_eq_getElem hi] at this
  have e2 : (some q.kids[i]).getD default = k := e
  rw [e2] at this
  omega
theorem fine_up {n : Nat} {q : Pat} (h : Fine n q) (hn : n ≤ 24) : Fine 24 q := ⟨noL_up n 24 q hn h.1, by rw [degN_up n 24 q hn h.1]; exact h.2⟩
def FineF (F : Fill) : Prop := ∀ c q, F c = some q → Fine 24 q
theorem match_fine : ∀ (n nq : Nat) (p q : Pat) (F : Fill), goodP n p → Fine nq q → nq ≤ 24 → FineF F → FineF (matchP n p q F).2 ∧ ((matchP n p q F).1 = true → (∀ c, (F c).isSome = true → ((matchP n p q F).2 c).isSome = true) ∧ ∀ c ∈ letL n p, ((matchP n p q F).2 c).isSome = true)
  | 0, nq, p, q, F, h, _, _, _ => h.elim
  | n + 1, 0, p, q, F, _, h, _, _ => h.1.elim
  | n + 1, nq + 1, p, q, F, hp, hq, hn, hF => by
    rw [matchP, letL]
    by_cases hz : p.letter = 0
    · have g1 : ¬ p.letter ≠ 0 := fun h => h hz
      rw [if_neg g1, if_pos hz]
      by_cases hl : p.kids.length = q.kids.length
      · have g3 : ¬ (q.letter ≠ 0 ∨ p.kids.length ≠ q.kids.length) := fun h => h.elim (fun h => h hq.1.1) (fun h => h hl)
        rw [if_neg g3]
        have key : ∀ (ks js : List Pat) (F : Fill), ks.length = js.length → (∀ k ∈ ks, goodP n k) → (∀ j ∈ js, Fine nq j) → FineF F → FineF (matchL (matchP n) ks js F).2 ∧ ((matchL (matchP n) ks js F).1 = true → (∀ c, (F c).isSome = true → ((matchL (matchP n) ks js F).2 c).isSome = true) ∧ ∀ c ∈ ks.flatMap (letL n), ((matchL (matchP n) ks js F).2 c).isSome = true) := by
          intro ks
          induction ks with
          | nil => intro js F h1 h2 h3 hF; cases js with
            | nil => exact ⟨hF, fun _ => ⟨fun c h => h, fun c hc => by cases hc⟩⟩
            | cons => cases h1
          | cons k ks ih =>
            intro js F h1 h2 h3 hF
            cases js with
            | nil => cases h1
            | cons j js =>
              obtain ⟨i1, i2⟩ := match_fine n nq k j F (h2 k List.mem_cons_self) (h3 j List.mem_cons_self) (by omega) hF
              rw [matchL]
              by_cases hb : (matchP n k j F).1 = true
              · rw [if_pos hb]
                obtain ⟨i3, i4⟩ := i2 hb
                obtain ⟨i5, i6⟩ := ih js (matchP n k j F).2 (by simpa using h1) (fun x hx => h2 x (List.mem_cons_of_mem _ hx)) (fun x hx => h3 x (List.mem_cons_of_mem _ hx)) i1
                refine ⟨i5, fun h => ?_⟩
                obtain ⟨i7, i8⟩ := i6 h
                refine ⟨fun c hc => i7 c (i3 c hc), fun c hc => ?_⟩
                rw [List.flatMap_cons] at hc
                rcases List.mem_append.1 hc with hc | hc
                · exact i7 c (i4 c hc)
                · exact i8 c hc
              · rw [if_neg hb]
                exact ⟨i1, fun h => by cases h⟩
        exact key p.kids q.kids F hl hp.2 (fun j hj => fine_kid hq hj) hF
      · have g3 : q.letter ≠ 0 ∨ p.kids.length ≠ q.kids.length := .inr hl
        rw [if_pos g3]
        exact ⟨hF, fun h => by cases h⟩
    · have g1 : p.letter ≠ 0 := hz
      rw [if_pos g1, if_neg hz]
      refine ⟨fun c q2 h => ?_, fun _ => ⟨fun c h => ?_, fun c hc => ?_⟩⟩
      · change (if c = p.letter then some q else F c) = some q2 at h
        split at h
        · obtain rfl := Option.some.inj h
          exact fine_up hq hn
        · exact hF c q2 h
      · show (if c = p.letter then some q else F c).isSome = true
        split
        · rfl
        · exact h
      · rw [List.mem_singleton.1 hc]
        show (if p.letter = p.letter then some q else F p.letter).isSome = true
        rw [if_pos rfl]; rfl
theorem K_noL : ∀ (n m : Nat) {w : World} {q : Pat} {v : Value}, (kP n).K w q [v] → noL m q → noL n q
  | 0, m, w, q, v, h, _ => h.elim
  | n + 1, 0, w, q, v, _, h => h.elim
  | n + 1, m + 1, w, q, v, h, hl => by
    obtain ⟨n', g, A, c, hm, rfl, h0, h1, hle, hC⟩ := K_open h
    obtain rfl : n' = n := by omega
    refine ⟨hl.1, fun k hk => ?_⟩
    obtain ⟨i, hi, e⟩ := List.getElem_of_mem hk
    obtain ⟨ad, u, _, _, hK⟩ := at_P hC i hi
    rw [List.getD_eq_getElem?_getD, List.getElem?_eq_getElem hi] at hK
    have e2 : (some q.kids[i]).getD default = k := e
    rw [e2] at hK
    exact K_noL n' m hK (hl.2 k hk)
theorem deg_any {n : Nat} {w : World} {q : Pat} {v : Value} (h : (kP n).K w q [v]) (hq : Fine 24 q) : degN n q = degN 24 q := by
  have h1 := K_noL n 24 h hq.1
  rcases Nat.le_total n 24 with h2 | h2
  · exact (degN_up n 24 q h2 h1).symm
  · exact degN_up 24 n q h2 hq.1
def opensM (L : List Int) (F : Fill) : List S31 := L.map fun c => (⟨degN 24 ((F c).getD default)⟩ : S31)
def openM (d : List Int) (v : Int) (s : ByteArray) : List S31 × Int := if codeM d s [v] = 0 then (if hitM d ((toP s).getD default) v = true then (opensM (letL 61 ((toP s).getD default)) (matchP 61 ((toP s).getD default) (treeP d v) fun _ => none).2, 0) else ([], 4)) else ([], codeM d s [v])
theorem treeP_fine {d : List Int} (hT : IsT d) (hn : d.length ≤ 24) {u : Nat} (hu : u < d.length) : Fine 24 (treeP d (u : Int)) := by
  have key : ∀ (n v : Nat), v < d.length → d.length - v ≤ n → noL n (ofT (kfM d) n (v : Int)) := by
    intro n
    induction n with
    | zero => intro v hv hm; omega
    | succ n ih =>
      intro v hv hm
      refine ⟨rfl, fun k hk => ?_⟩
      have hk2 : k ∈ (kfM d (v : Int)).map (ofT (kfM d) n) := hk
      rw [kfM, Int.toNat_natCast] at hk2
      obtain ⟨c, hc, rfl⟩ := List.mem_map.1 hk2
      obtain ⟨x, hx, rfl⟩ := List.mem_map.1 hc
      have := kid_mem hT hv hx
      exact ih x this.2.1 (by omega)
  refine ⟨key 24 u hu (by omega), ?_⟩
  have := deg_tree hT 24 24 u hu (by omega) (Nat.le_refl _)
  show (degN 24 (ofT (kfM d) 24 (u : Int))).length ≤ 24
  rw [this, sub_length hT hu]
  have := end_le hT hu
  omega
theorem blk_lt' {w : World} {g : Nat} {o : Obj} (h : w.heap[g]? = some o) : g < w.heap.size := by
  rcases Nat.lt_or_ge g w.heap.size with h1 | h1
  · exact h1
  · rw [Array.getElem?_eq_none h1] at h; cases h
theorem ne_bytes {w : World} {base : Nat} {ok : Nat → Prop} {v : Value} {xs : List S31} {blk n : Nat} {C : Array Value} (h : Kd.S k31 31 w base ok v xs) (hb : w.heap[blk]? = some (.cells C 5 (n, n + 1))) : some blk ≠ v.ownBlock := by
  intro e
  obtain ⟨_, _, _, q, _, cells, hc⟩ := (Kd.S_R (Kd.S_bound h)).1 blk e.symm
  rw [hb] at hc
  simp at hc
set_option maxHeartbeats 8000000 in
set_option maxRecDepth 100000 in
theorem openTrees_calls (d : List Int) (v : Int) (s : ByteArray) {Ad : Option Addr} {cd : Nat} (hcd : d.length ≤ cd) (w : World) (hd : Kd.C (Kd.int .i64) w Ad d.length d) :
    Calls Try.prog 32 #[.agg #[.slice Ad d.length cd], .int .i64 v, .string s] w fun e w' => ∃ v0, e = .returned (.tuple #[v0, .int .i64 (openM d v s).2]) ∧ Kd.S k31 31 w' w.heap.size (fun _ => True) v0 (openM d v s).1 ∧ Below w.heap.size w w' := by
  have huT := Try.underlying31
  have HD := Aside0.mk hd
  have C44 := Aside0.mk (fun (An : Option Addr) (cn : Nat) (hcn : 1 ≤ cn) w hd hn => matchCode_calls (d := d) (s := s) (l := [v]) (by simp) (Ad := Ad) (An := An) (cd := cd) (cn := cn) hcd hcn w hd hn)
  obtain ⟨c, hc⟩ : ∃ c, c = codeM d s [v] := ⟨_, rfl⟩
  obtain ⟨r, hr⟩ : ∃ r, r = openM d v s := ⟨_, rfl⟩
  rw [← hr]
  rw [openM, ← hc] at hr
  rw [← hc] at C44
  by_cases h0 : c = 0
  · rw [if_pos h0] at hr
    obtain ⟨ht, ⟨p, hp⟩, hl⟩ := codeM_zero (hc.symm.trans h0)
    obtain ⟨_, u, hv, hu⟩ := codeL_one hl
    obtain ⟨hT, hn⟩ := isTreeM_sound ht
    rw [hp] at hr
    have hr2 : r = if hitM d p v = true then (opensM (letL 61 p) (matchP 61 p (treeP d v) fun _ => none).2, 0) else ([], 4) := hr
    subst h0
    have HP := Aside0.mk hp
    have hgood := (toP_text hp).2
    have C45 := Aside0.mk (fun vp w hp hd => matchesAt_calls hT hn (n := 61) (p := p) (vp := vp) (Ad := Ad) hcd (v := v) (by omega) (by omega) w hp hd)
    have hfine := match_fine 61 24 p (treeP d v) (fun _ => none) hgood (by rw [hv]; exact treeP_fine hT hn hu) (Nat.le_refl _) (fun c q h => by cases h)
    have hwg : (lettersN 61 p).size ≤ 60 := by
      obtain ⟨q, hq1, hq2⟩ := Option.bind_eq_some_iff.1 hp
      split at hq2
      · obtain rfl := Option.some.inj hq2
        exact (whole_good hq1).2
      · cases hq2
    have hbl := letters_eq 61 p hgood
    have C53 := Aside0.mk (fun v w h => lettersOf_calls 61 p v w h hgood (by omega))
    obtain ⟨Ls, hLs⟩ : ∃ Ls, lettersN 61 p = Ls := ⟨_, rfl⟩
    rw [hLs] at C53 hwg hbl
    have hhit : hitM d p v = (matchP 61 p (treeP d v) fun _ => none).1 := rfl
    rw [hhit] at hr2
    obtain ⟨R, hR⟩ : ∃ R, R = matchP 61 p (treeP d v) fun _ => none := ⟨_, rfl⟩
    rw [← hR] at hr2 hfine
    have HRR := Aside0.mk hR
    obtain ⟨L, hL⟩ : ∃ L, L = letL 61 p := ⟨_, rfl⟩
    rw [← hL] at hr2 hfine hbl
    have hll : Ls.size = L.length := by rw [← bytesL_length, hbl]
    have FI := Aside0.mk hfine
    have HBL := Aside0.mk hbl
    have HLL := Aside0.mk hll
    have HWG := Aside0.mk hwg
    have HRE := Aside0.mk hr2
    clear hc hr hr2 hp hl hu hv hT hn ht hd hcd hgood hfine hwg hbl hLs hhit hR hL hll
    obtain ⟨b, F⟩ := R
    cases b with
    | false =>
      obtain rfl : r = ([], 4) := HRE.out
      go_enter Try.func32, Try.ntmps32
      go_wp2_with (first | ((with_reducible refine gate_dst (N := 3) rfl ?_); refine box_event ?hg (N := 3) ?hd (cs := #[.slice Ad d.length cd]) (t := 31) ?hr ?_; (case hd => rfl); (case hg => rfl); (case hr => first | (go_simp; done) | (go_simp; rfl)); intro gb hg w3 hbox hb; have BX3 := Aside0.mk hbox; have HB3 := Aside0.mk hb; have hcz := (blk_cell hbox 0).trans rfl; clear hbox hb hg) | ((with_reducible refine gate_dst (N := 19) rfl ?_); refine Kd.R_lit (Kd.int .i64) _ 2 ?hg (N := 19) ?hd (xs := ([v] : List Int)) (inner := [.int .i64 v]) (ok := fun _ => True) (okp := fun _ => True) ?hr ?hp (fun _ hk => hk) trivial (Below.refl _ _) (Nat.le_refl _) (by simp) ?_; (case hd => rfl); (case hg => rfl); (case hr => first | (go_simp; done) | (go_simp; rfl)); (case hp => exact (Reps.one (show Kd.M (Kd.int .i64) _ _ _ v [.int .i64 v] from rfl) (Reps.none _ _))); intro v5 w5 ho hb hg_ hnew_; have HO5 := Aside0.mk ho; have HB5 := Aside0.mk (below_step HB3.out hb); have BX5 := Aside0.mk (blk_below BX3.out hb); clear hb hg_ hnew_ ho; obtain ⟨A5, c5, e5⟩ := Kd.R_slice HO5.out; subst e5) | (go_at_call 44; refine (C44.out A5 c5 (Kd.R_reads' HO5.out).2.1 _ (Kd.C_below HD.out HB5.out) (Kd.R_reads' HO5.out).2.2).mono ?_; rintro e w6 ⟨hb, v6, rfl, hK⟩; have HK6 := Aside0.mk (hK rfl p HP.out); have HB6 := Aside0.mk (below_step HB5.out hb); have BX6 := Aside0.mk (blk_below BX5.out hb); have hcz6 := (blk_cell BX6.out 0).trans rfl; clear hb hK) | (go_at_call 45; refine (C45.out _ _ HK6.out (Kd.C_below HD.out HB6.out)).mono ?_; rintro e w7 ⟨hb, g7, f7, he, _, hm, htr⟩; rw [← HRR.out] at he htr; subst he; have HK7 := Aside0.mk (K_still HK6.out (still_below hb)); have HM7 := Aside0.mk hm; have HT7 := Aside0.mk htr; have HB7 := Aside0.mk (below_step HB6.out hb); clear hb hm htr))
      refine bodyPost_ret (results_tmp2 rfl _ _ _) rfl ?_
      exact ⟨_, rfl, Kd.S_nil _ _ _ _ _, HB7.out⟩
    | true =>
      have econv := fun w => conv_bytes w Ls
      go_enter Try.func32, Try.ntmps32
      go_wp2_with (first | ((with_reducible refine gate_dst (N := 3) rfl ?_); refine box_event ?hg (N := 3) ?hd (cs := #[.slice Ad d.length cd]) (t := 31) ?hr ?_; (case hd => rfl); (case hg => rfl); (case hr => first | (go_simp; done) | (go_simp; rfl)); intro gb hg w3 hbox hb; have BX3 := Aside0.mk hbox; have HB3 := Aside0.mk hb; have hcz := (blk_cell hbox 0).trans rfl; clear hbox hb hg) | ((with_reducible refine gate_dst (N := 19) rfl ?_); refine Kd.R_lit (Kd.int .i64) _ 2 ?hg (N := 19) ?hd (xs := ([v] : List Int)) (inner := [.int .i64 v]) (ok := fun _ => True) (okp := fun _ => True) ?hr ?hp (fun _ hk => hk) trivial (Below.refl _ _) (Nat.le_refl _) (by simp) ?_; (case hd => rfl); (case hg => rfl); (case hr => first | (go_simp; done) | (go_simp; rfl)); (case hp => exact (Reps.one (show Kd.M (Kd.int .i64) _ _ _ v [.int .i64 v] from rfl) (Reps.none _ _))); intro v5 w5 ho hb hg_ hnew_; have HO5 := Aside0.mk ho; have HB5 := Aside0.mk (below_step HB3.out hb); have BX5 := Aside0.mk (blk_below BX3.out hb); clear hb hg_ hnew_ ho; obtain ⟨A5, c5, e5⟩ := Kd.R_slice HO5.out; subst e5) | (go_at_call 44; refine (C44.out A5 c5 (Kd.R_reads' HO5.out).2.1 _ (Kd.C_below HD.out HB5.out) (Kd.R_reads' HO5.out).2.2).mono ?_; rintro e w6 ⟨hb, v6, rfl, hK⟩; have HK6 := Aside0.mk (hK rfl p HP.out); have HB6 := Aside0.mk (below_step HB5.out hb); have BX6 := Aside0.mk (blk_below BX5.out hb); have hcz6 := (blk_cell BX6.out 0).trans rfl; clear hb hK) | (go_at_call 45; refine (C45.out _ _ HK6.out (Kd.C_below HD.out HB6.out)).mono ?_; rintro e w7 ⟨hb, g7, f7, he, _, hm, htr⟩; rw [← HRR.out] at he htr; subst he; have HK7 := Aside0.mk (K_still HK6.out (still_below hb)); have HM7 := Aside0.mk hm; have HT7 := Aside0.mk htr; have HB7 := Aside0.mk (below_step HB6.out hb); clear hb hm htr) | ((with_reducible refine gate_dst (N := 36) rfl ?_); refine Kd.S_lit k31 _ 31 ?hg (N := 36) ?hd (xs := ([] : List S31)) (inner := []) (ok := fun _ => True) (okp := fun _ => True) ?hr ?hp (fun _ hk => hk) trivial (Below.refl _ _) (Nat.le_refl _) (by simp) ?_; (case hd => rfl); (case hg => rfl); (case hr => first | (go_simp; done) | (go_simp; rfl)); (case hp => exact (Reps.none _ _)); intro v8 w8 ho hb hg_ hnew_; have HO8 := Aside0.mk ho; have HB8 := Aside0.mk hb; clear hg_ hnew_ hb ho) | (go_at_call 53; refine (C53.out _ _ (K_still HK7.out (still_below HB8.out))).mono ?_; rintro e w9 ⟨hb, rfl⟩; have HB9 := Aside0.mk (below_step HB8.out hb); have HO9 := Aside0.mk (Kd.S_below HO8.out hb); clear hb))
      have hb10 := below_bytes w9 5 Ls
      have hat := Lib.bytesWorld_at_new w9 5 Ls
      have hcell := fun j hj => Lib.bytesWorld_cell w9 5 Ls j hj
      obtain ⟨Wb, hWb⟩ : ∃ Wb, Wb = Lib.bytesWorld w9 5 Ls := ⟨_, rfl⟩
      rw [← hWb] at hb10 hat hcell ⊢
      have HO10 := Aside0.mk (Kd.S_below HO9.out hb10)
      have HB10 := Aside0.mk (below_step HB9.out hb10)
      have HCELL := Aside0.mk hcell
      obtain ⟨blk, hblk⟩ : ∃ blk, blk = w9.heap.size := ⟨_, rfl⟩
      rw [← hblk] at hat hcell ⊢
      obtain ⟨C, hC⟩ : ∃ C, C = Lib.bytesCells w9 5 Ls := ⟨_, rfl⟩
      rw [← hC] at hat
      have HCB := Aside0.mk hcell
      have HAT := Aside0.mk hat
      obtain ⟨cap, hcap⟩ : ∃ cap, cap = grownCap w9 Ls.size 0 5 := ⟨_, rfl⟩
      rw [← hcap]
      clear hWb hb10 hat hcell hblk hC hcap econv HCELL
      go_loopg [41, 12] (L.length + 1) (fun kq v41 v12 w' => ∃ (i : Nat) (out : List S31), v41 = .int .i64 (i : Int) ∧ i + kq = L.length + 1 ∧ i ≤ L.length ∧ Aside0 (out = (opensM L F).take i) ∧ Aside0 (Kd.S k31 31 w' w7.heap.size (fun _ => True) v12 out) ∧ Aside0 (w'.heap[blk]? = some (.cells C 5 (C.size, C.size + 1))) ∧ Aside0 (Below w7.heap.size w7 w'))
      case atStart => exact ⟨0, [], rfl, by omega, by omega, ⟨rfl⟩, ⟨HO10.out⟩, ⟨HAT.out⟩, ⟨HB10.out⟩⟩
      case round =>
        clear HO8 HO9 HO10 HB8 HB9 HB10
        obtain ⟨i, out, rfl, hk, hil, HI, HO, HA2, HB⟩ := hrel
        cases gk with
        | zero =>
          exfalso
          omega
        | succ gk =>
          by_cases hi : i < L.length
          · have hil2 : i < Ls.size := by have := HLL.out; omega
            have hb1 : decide ((i : Int) < (Ls.size : Int)) = true := decide_eq_true (by omega)
            have hx0 := (World.cell?_of_block (a := ⟨blk, i, none⟩) (show wr.heap[blk]? = Wb.heap[blk]? from HA2.out.trans HAT.out.symm)).trans (HCB.out i hil2)
            have hbv : ((Ls.data.toList.getD i 0).toNat : Int) = L.getD i 0 := by
              have h1 : (bytesL Ls)[i]? = some ((Ls.data.toList.getD i 0).toNat : Int) := by
                have hl : i < Ls.data.toList.length := by rw [Array.length_toList]; exact hil2
                rw [bytesL, List.getElem?_map, List.getElem?_eq_getElem hl, List.getD_eq_getElem?_getD, List.getElem?_eq_getElem hl]; rfl
              rw [HBL.out] at h1
              rw [List.getD_eq_getElem?_getD (l := L), h1]; rfl
            rw [hbv] at hx0
            obtain ⟨b, hb⟩ : ∃ b, b = L.getD i 0 := ⟨_, rfl⟩
            rw [← hb] at hx0
            have hbm : b ∈ L := by rw [hb, List.getD_eq_getElem?_getD, List.getElem?_eq_getElem hi]; exact List.getElem_mem hi
            obtain ⟨q, hq⟩ := Option.isSome_iff_exists.1 ((FI.out.2 (by first | rfl | trivial)).2 b hbm)
            have hfq := FI.out.1 b q hq
            obtain ⟨dq, uq, hfu, hKq⟩ := (HT7.out b).2 q hq
            have hdg := deg_any hKq hfq
            have C57 := Aside0.mk (fun w h => degrees_calls dq q uq w h (by rw [hdg]; have := hfq.2; omega))
            rw [hdg] at C57
            have HFU := Aside0.mk hfu
            have HKQ := Aside0.mk hKq
            obtain ⟨D, hD⟩ : ∃ D, D = degN 24 q := ⟨_, rfl⟩
            rw [← hD] at C57
            have hst : (opensM L F).take (i + 1) = out ++ [(⟨D⟩ : S31)] := by
              have h1 : i < (opensM L F).length := by rw [opensM, List.length_map]; exact hi
              rw [HI.out, List.take_add_one, List.getElem?_eq_getElem h1]
              congr 1
              show [(opensM L F)[i]] = _
              have h2 : L[i] = b := by rw [hb, List.getD_eq_getElem?_getD, List.getElem?_eq_getElem hi]; rfl
              simp only [opensM, List.getElem_map, h2]
              have h3 : F b = some q := hq
              rw [h3, hD]; rfl
            obtain ⟨y, hy⟩ : ∃ y, y = out ++ [(⟨D⟩ : S31)] := ⟨_, rfl⟩
            rw [← hy] at hst
            have Ny := Aside0.mk hy
            have HST := Aside0.mk hst
            have LN : Aside0 (out.length < 1000) := ⟨by have h1 := HLL.out; have h2 := HWG.out; rw [HI.out, List.length_take]; omega⟩
            have p1 : (0 ≤ (i : Int)) = True := eq_true (by omega)
            have p2 : ((i : Int) < (Ls.size : Int)) = True := eq_true (by omega)
            have p3 : (i < Ls.size) = True := eq_true hil2
            have hw : wrap64 ((i : Int) + 1) = ((i + 1 : Nat) : Int) := by have := HLL.out; have := HWG.out; unfold wrap64; omega
            clear hbv hb hbm hq hfq hfu hKq hdg hD hst hy hil2
            go_wp2_with (first | (refine mp_get _ _ rfl rfl rfl rfl (map_below HM7.out HB.out) HFU.out ?_) | (go_at_call 57; refine (C57.out _ (K_still HKQ.out (still_below HB.out))).mono ?_; rintro e w11 ⟨v11, rfl, hR, hb⟩; have HR11 := Aside0.mk hR; have HO11 := Aside0.mk (Kd.S_mono (Kd.S_below (Kd.S_bound HO.out) hb) (ok' := fun k => True ∧ ¬ wr.heap.size ≤ k) (fun k hk => ⟨trivial, by have := hk.2.2.1; omega⟩)); have HV11 := Aside0.mk (Kd.R_lt (Kd.S_R HO.out)); have HB11 := Aside0.mk (below_step HB.out hb); have HA11 := Aside0.mk (show w11.heap[blk]? = some (.cells C 5 (C.size, C.size + 1)) from (hb.block blk (blk_lt' HA2.out)).trans HA2.out); have SZ11 := Aside0.mk hb.size; clear hb hR; obtain ⟨A11, c11, e11⟩ := Kd.R_slice HR11.out; subst e11) | ((with_reducible refine gate_builtin (b := .append) (xs := #[.tmp 45, .tmp 51]) rfl ?_); (try (refine gate_guard (by rfl) ?_; dsimp only)); at_builtin; refine Kd.S_append k31 (w0 := w7) w7.heap.size rfl (.tmp 45) (.tmp 51) 45 31 (.agg #[.slice none 0 0]) 24 rfl Try.underlying45 info31 rfl (by decide) (by omega) _ out (⟨D⟩ : S31) [.slice A11 D.length c11] (fun _ => True) (fun k => wr.heap.size ≤ k) rfl rfl ?aP ?aK ?aF ?aO ?aB ?aS ?aL ?_; (case aP => exact k31_mkM _ _ _ (⟨D⟩ : S31) (Kd.R_lower (Kd.R_mono (Kd.R_bound HR11.out) (fun k hk => hk.2.1)) (below_size HB.out))); (case aK => exact fun k hk => ⟨trivial, fun e => by have := HV11.out k e.symm; have hk' : wr.heap.size ≤ k := hk; omega⟩); (case aF => exact fun _ _ => trivial); (case aO => exact HO11.out); (case aB => exact HB11.out); (case aS => exact below_size HB11.out); (case aL => have := LN.out; omega); intro v12 w12 ho hb hg hat; rw [← Ny.out] at ho; have HO12 := Aside0.mk ho; have HB12 := Aside0.mk hb; have HA12 := Aside0.mk (show w12.heap[blk]? = some (.cells C 5 (C.size, C.size + 1)) from (hg.block blk (blk_lt' HA11.out) (ne_bytes HO11.out HA11.out)).trans HA11.out); clear ho hb hg hat))
            go_roundg gk
            case measure => omega
            case rel => exact ⟨i + 1, y, by first | (rw [hw]; done) | rfl | (congr 1; omega), by omega, by omega, ⟨HST.out.symm⟩, ⟨HO12.out⟩, ⟨HA12.out⟩, ⟨HB12.out⟩⟩
          · have hb1 : decide ((i : Int) < (Ls.size : Int)) = false := decide_eq_false (by have := HLL.out; omega)
            have hb2 : (i < Ls.size) = False := eq_false (by have := HLL.out; omega)
            have hI2 : out = opensM L F := by rw [HI.out, List.take_of_length_le (by rw [opensM, List.length_map]; omega)]
            have HI2 := Aside0.mk hI2
            have hre : r = (opensM L F, 0) := HRE.out
            subst hre
            clear hI2
            go_wp2
            refine bodyPost_ret (results_tmp2 rfl _ _ _) rfl ?_
            exact ⟨_, rfl, Kd.S_lower (by rw [← HI2.out]; exact HO.out) (below_size HB7.out), below_step HB7.out HB.out⟩
  · rw [if_neg h0] at hr
    subst hr
    have hne : (c != 0) = true := bne_iff_ne.2 h0
    clear hc h0 hd hcd
    go_enter Try.func32, Try.ntmps32
    go_wp2_with (first | ((with_reducible refine gate_dst (N := 3) rfl ?_); refine box_event ?hg (N := 3) ?hd (cs := #[.slice Ad d.length cd]) (t := 31) ?hr ?_; (case hd => rfl); (case hg => rfl); (case hr => first | (go_simp; done) | (go_simp; rfl)); intro gb hg w3 hbox hb; have BX3 := Aside0.mk hbox; have HB3 := Aside0.mk hb; have hcz := (blk_cell hbox 0).trans rfl; clear hbox hb hg) | ((with_reducible refine gate_dst (N := 19) rfl ?_); refine Kd.R_lit (Kd.int .i64) _ 2 ?hg (N := 19) ?hd (xs := ([v] : List Int)) (inner := [.int .i64 v]) (ok := fun _ => True) (okp := fun _ => True) ?hr ?hp (fun _ hk => hk) trivial (Below.refl _ _) (Nat.le_refl _) (by simp) ?_; (case hd => rfl); (case hg => rfl); (case hr => first | (go_simp; done) | (go_simp; rfl)); (case hp => exact (Reps.one (show Kd.M (Kd.int .i64) _ _ _ v [.int .i64 v] from rfl) (Reps.none _ _))); intro v5 w5 ho hb hg_ hnew_; have HO5 := Aside0.mk ho; have HB5 := Aside0.mk (below_step HB3.out hb); have BX5 := Aside0.mk (blk_below BX3.out hb); clear hb hg_ hnew_ ho; obtain ⟨A5, c5, e5⟩ := Kd.R_slice HO5.out; subst e5) | (go_at_call 44; refine (C44.out A5 c5 (Kd.R_reads' HO5.out).2.1 _ (Kd.C_below HD.out HB5.out) (Kd.R_reads' HO5.out).2.2).mono ?_; rintro e w6 ⟨hb, v6, rfl, hK⟩; have HB6 := Aside0.mk (below_step HB5.out hb); have BX6 := Aside0.mk (blk_below BX5.out hb); have hcz6 := (blk_cell BX6.out 0).trans rfl; clear hb hK))
    refine bodyPost_ret (results_tmp2 rfl _ _ _) rfl ?_
    exact ⟨_, rfl, Kd.S_nil _ _ _ _ _, HB6.out⟩
end Go.Proofs.Ytmambanmffdibaa.P
