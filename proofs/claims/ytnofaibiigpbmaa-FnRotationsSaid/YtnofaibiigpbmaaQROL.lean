/- The row of the law FnRotations, out of its pure statement. -/
import Derived.Test.YtnofaibiigpbmaaQROEx1
import Derived.Test.YtnofaibiigpbmaaQROEx2
import Derived.Test.YtnofaibiigpbmaaQROEx3
import Derived.Test.YtnofaibiigpbmaaQROEx4
import Derived.Test.YtnofaibiigpbmaaQROEx5
import Derived.Test.YtnofaibiigpbmaaQROW
import Derived.Deep.Slices
import Derived.Laws.Bits64
import Derived.Laws.BitsLemmas
import Derived.Lib.SmallJoins
import Derived.OpenShut
import Derived.WalkKit
namespace Go.Proofs.Ytnofaibiigpbmaa.Base
set_option linter.unusedVariables false
set_option linter.unusedSectionVars false
open Go.RowKit Go.Proofs.YtnofaibiigpbmaaW.PrintWords

theorem ev_pos {α : Type} {c : Prop} [Decidable c] {f g : Nat → Option α} {r : α} (h : c) (k : Ev f r) : Ev (fun n => if c then f n else g n) r := by
  simpa [h] using k
theorem ev_neg {α : Type} {c : Prop} [Decidable c] {f g : Nat → Option α} {r : α} (h : ¬ c) (k : Ev g r) : Ev (fun n => if c then f n else g n) r := by
  simpa [h] using k
theorem ev_ite {α : Type} {c : Prop} [Decidable c] {f g : Nat → Option α} {r : α} (h : c → Ev f r) (k : ¬ c → Ev g r) : Ev (fun n => if c then f n else g n) r := by
  by_cases hc : c
  · exact ev_pos hc (h hc)
  · exact ev_neg hc (k hc)
theorem ev_now {α : Type} {a r : α} (h : a = r) : Ev (fun _ => some a) r := h ▸ Ev.now a
theorem ev_some {α β : Type} {f : Nat → α → Option β} {a : α} {r : β} (k : Ev (fun n => f n a) r) : Ev (fun n => (some a).bind (f n)) r := by
  simpa using k
theorem w64 {x : Int} (h1 : -9223372036854775808 ≤ x) (h2 : x ≤ 9223372036854775807) : wrap64 x = x := by unfold wrap64; omega
theorem w64s {i : Nat} (h : i < 9223372036854775807) : wrap64 ((i : Int) + 1) = ((i + 1 : Nat) : Int) := by unfold wrap64; omega
theorem w64p {i : Nat} (h : i < 9223372036854775807) : wrap64 (((i + 1 : Nat) : Int) - 1) = (i : Int) := by unfold wrap64; omega

theorem rd_nat (l : List Int) (i : Nat) : rd l (i : Int) = l.getD i 0 := rfl
theorem rd_lt {l : List Int} {i : Nat} (h : i < l.length) : rd l (i : Int) = l[i] := by
  rw [rd_nat, List.getD_eq_getElem?_getD, List.getElem?_eq_getElem h]; rfl
theorem ext_getD {l m : List Int} (hl : m.length = l.length) (h : ∀ j, j < l.length → m.getD j 0 = l.getD j 0) : m = l := by
  apply List.ext_getElem hl
  intro j h1 h2
  have := h j h2
  rwa [List.getD_eq_getElem?_getD, List.getD_eq_getElem?_getD, List.getElem?_eq_getElem h1, List.getElem?_eq_getElem h2] at this
theorem get_set_ne {l : List Int} {i j : Nat} {v : Int} (h : i ≠ j) : (l.set i v).getD j 0 = l.getD j 0 := by
  rw [List.getD_eq_getElem?_getD, List.getElem?_set_ne h, ← List.getD_eq_getElem?_getD]
theorem get_set_eq {l : List Int} {i : Nat} {v : Int} (h : i < l.length) : (l.set i v).getD i 0 = v := by
  rw [List.getD_eq_getElem?_getD, List.getElem?_set_self h]; rfl
end Go.Proofs.Ytnofaibiigpbmaa.Base
namespace Go.Proofs.Ytnofaibiigpbmaa.E
set_option linter.unusedVariables false
set_option linter.unusedSectionVars false
open Go.RowKit Go.Proofs.YtnofaibiigpbmaaW.PrintWords Go.Proofs.Ytnofaibiigpbmaa.Base

structure Src (c : List Int) : Prop where
  few : c.length ≤ 1000000
  byte : ∀ x ∈ c, 0 ≤ x ∧ x ≤ 255
def At (c : List Int) (a : Int) : Prop := 0 ≤ a ∧ a ≤ c.length
theorem Src.get {c : List Int} (h : Src c) (i : Int) : 0 ≤ rd c i ∧ rd c i ≤ 255 := by
  unfold rd
  rw [List.getD_eq_getElem?_getD]
  cases e : c[i.toNat]? with
  | none => simp
  | some x => exact h.byte x (List.mem_of_getElem? e)
theorem mask24 (x : Int) (h0 : 0 ≤ x) (h1 : x < 18446744073709551616) : bits .and .u64 x 16777215 = x % 16777216 :=
  bits_mask .u64 64 (by decide) (fun n h0 h1 => by rw [IntKind.wrap_u64]; omega) 24 (by decide) x h0 h1
theorem next_ok {c : List Int} (hc : Src c) {a : Int} (ha : At c a) (h n : Int) : ∃ x a' h', spec_l01Next.f c a h n = some (x, a', h') ∧ 0 ≤ x ∧ (1 ≤ n → x < n) ∧ (n < 1 → x = 0) ∧ At c a' := by
  unfold spec_l01Next.f
  have hf := hc.few
  obtain ⟨a0, a1⟩ := ha
  by_cases h1 : n < 1
  · rw [if_pos h1]
    exact ⟨0, a, h, rfl, by omega, by omega, fun _ => rfl, a0, a1⟩
  · rw [if_neg h1]
    obtain ⟨H, eH⟩ : ∃ H, H = IntKind.u64.wrap ((IntKind.u64.wrap (h * 6364136223846793005)) + 1442695040888963407) := ⟨_, rfl⟩
    rw [← eH]
    have hH : 0 ≤ H ∧ H < 18446744073709551616 := by rw [eH, IntKind.wrap_u64]; omega
    rw [mask24 (H / 8589934592) (by omega) (by omega)]
    obtain ⟨m, em⟩ : ∃ m, m = H / 8589934592 % 16777216 := ⟨_, rfl⟩
    rw [← em]
    have hm : 0 ≤ m ∧ m < 16777216 := by omega
    by_cases h2 : a < (c.length : Int)
    · have hg := hc.get a
      rw [if_pos h2, if_pos a0, if_neg (by omega), w64 (x := m) (by omega) (by omega), w64 (x := rd c a) (by omega) (by omega), w64 (x := m + rd c a) (by omega) (by omega), w64 (x := a + 1) (by omega) (by omega)]
      refine ⟨_, _, _, rfl, ?_, fun _ => ?_, fun h => absurd h h1, by omega, by omega⟩
      · exact Int.tmod_nonneg _ (by omega)
      · exact Int.tmod_lt_of_pos _ (by omega)
    · rw [if_neg h2, if_neg (by omega), w64 (x := m) (by omega) (by omega)]
      refine ⟨_, _, _, rfl, ?_, fun _ => ?_, fun h => absurd h h1, a0, a1⟩
      · exact Int.tmod_nonneg _ (by omega)
      · exact Int.tmod_lt_of_pos _ (by omega)
theorem pick_ok {c : List Int} (hc : Src c) {a : Int} (ha : At c a) (h : Int) (l : List Int) (hl : 0 < l.length) : ∃ x a' h', spec_l01Pick.f c a h l = some (x, a', h') ∧ x ∈ l ∧ At c a' := by
  obtain ⟨x, a', h', h1, h2, h3, _, h5⟩ := next_ok hc ha h (l.length : Int)
  have h4 := h3 (by omega)
  unfold spec_l01Pick.f
  rw [h1, Option.bind_some, if_pos h2, if_pos h4]
  refine ⟨_, _, _, rfl, ?_, h5⟩
  have hx : x.toNat < l.length := by omega
  unfold rd
  rw [List.getD_eq_getElem?_getD, List.getElem?_eq_getElem hx]
  exact List.getElem_mem hx
theorem from_loop {c : List Int} (hc : Src c) (y0 : List Int) (y1 : Int) : ∀ (m i : Nat) (h : Int), i + m = c.length → ∃ h', Ev (fun k => spec_l01From.l0 k c (i : Int) y0 y1 h) (y0, y1, h')
  | 0, i, h, hi => by
    refine ⟨h, ?_⟩
    refine Ev.step (fun k => by rw [spec_l01From.l0]) ?_
    exact ev_neg (by omega) (Ev.now _)
  | m + 1, i, h, hi => by
    have hf := hc.few
    by_cases hx : (i : Int) < 4096
    · obtain ⟨h', ih⟩ := from_loop hc y0 y1 m (i + 1) (IntKind.u64.wrap ((IntKind.u64.wrap ((IntKind.u64.wrap (h * 1099511628211)) + (IntKind.u64.wrap (rd c (i : Int))))) + 233)) (by omega)
      refine ⟨h', ?_⟩
      refine Ev.step (fun k => by rw [spec_l01From.l0]) ?_
      rw [w64s (by omega)]
      exact ev_pos (by omega) (ev_pos hx (ev_pos (by omega) ih))
    · refine ⟨h, ?_⟩
      refine Ev.step (fun k => by rw [spec_l01From.l0]) ?_
      exact ev_pos (by omega) (ev_neg hx (Ev.now _))
theorem from_ev {c : List Int} (hc : Src c) : ∃ h, Ev (fun k => spec_l01From.f k c) (c, 0, h) := by
  obtain ⟨h, h1⟩ := from_loop hc c 0 c.length 0 (IntKind.u64.wrap (13911 + (IntKind.u64.wrap ((c.length : Int))))) (by omega)
  exact ⟨h, by unfold spec_l01From.f; exact h1⟩
theorem At.zero (c : List Int) : At c 0 := ⟨by omega, by omega⟩
theorem near_ok {c : List Int} (hc : Src c) {a : Int} (ha : At c a) (h n : Int) (hn : -1000000 ≤ n ∧ n ≤ 1000000) : ∃ x a' h', spec_l01Near.f c a h n = some (x, a', h') ∧ At c a' := by
  obtain ⟨x, a1, h1, e1, _, _, _, ha1⟩ := next_ok hc ha h 14
  unfold spec_l01Near.f
  rw [e1, Option.bind_some]
  by_cases hx : x = 0
  · obtain ⟨y, a2, h2, e2, _, ha2⟩ := pick_ok hc ha1 h1 [(-1), wrap64 (n + 1), 1099511627776, (-4611686018427387904)] (by simp)
    rw [if_pos hx, e2]
    exact ⟨_, _, _, rfl, ha2⟩
  · obtain ⟨y, a2, h2, e2, _, _, _, ha2⟩ := next_ok hc ha1 h1 (wrap64 (n + 1))
    rw [if_neg hx, e2]
    exact ⟨_, _, _, rfl, ha2⟩
theorem own_eq (l : List Int) (h : l.length < 17592186044416) : spec_l01Own.f l = some l := by
  unfold spec_l01Own.f
  rw [Option.bind_some, if_pos (by simpa using h)]
  rfl
end Go.Proofs.Ytnofaibiigpbmaa.E
namespace Go.Proofs.Ytnofaibiigpbmaa.Tree
set_option linter.unusedVariables false
set_option linter.unusedSectionVars false

def nd (d : List Int) : Nat → Int
  | 0 => 1
  | i + 1 => nd d i + d.getD i 0 - 1

structure IsT (d : List Int) : Prop where
  pos : ∀ i, i < d.length → 0 < nd d i
  deg : ∀ i, i < d.length → 0 ≤ d.getD i 0
  fin : nd d d.length = 0

def skip (d : List Int) : Nat → Int → Nat → Nat
  | 0, _, v => v
  | f + 1, need, v => if need > 0 then skip d f (need + (d.getD v 0 - 1)) (v + 1) else v
def endM (d : List Int) (v : Nat) : Nat := skip d (d.length - v) 1 v

theorem IsT.len {d : List Int} (h : IsT d) : 0 < d.length := by
  rcases Nat.eq_zero_or_pos d.length with h0 | h0
  · have := h.fin
    rw [h0] at this
    simp [nd] at this
  · exact h0

theorem skip_spec {d : List Int} (h : IsT d) {v : Nat} (hv : v < d.length) : ∀ (f u : Nat), u + f = d.length → v ≤ u → (∀ j, v < j → j < u → nd d v ≤ nd d j) →
    (u = v ∨ nd d v - 1 ≤ nd d u) →
    v < skip d f (1 + nd d u - nd d v) u ∧ skip d f (1 + nd d u - nd d v) u ≤ d.length ∧ nd d (skip d f (1 + nd d u - nd d v) u) = nd d v - 1 ∧ ∀ j, v < j → j < skip d f (1 + nd d u - nd d v) u → nd d v ≤ nd d j := by
  intro f
  induction f with
  | zero =>
    intro u hf hvu hj hu
    have hn : u = d.length := by omega
    have h1 := h.fin
    have h2 := h.pos v hv
    subst hn
    simp only [skip]
    refine ⟨hv, Nat.le_refl _, ?_, hj⟩
    rcases hu with hu | hu
    · omega
    · omega
  | succ f ih =>
    intro u hf hvu hj hu
    have hlt : u < d.length := by omega
    simp only [skip]
    by_cases hn : 1 + nd d u - nd d v > 0
    · rw [if_pos hn]
      have e : 1 + nd d u - nd d v + (d.getD u 0 - 1) = 1 + nd d (u + 1) - nd d v := by simp only [nd]; omega
      rw [e]
      refine ih (u + 1) (by omega) (by omega) (fun j h1 h2 => ?_) (.inr ?_)
      · by_cases hju : j = u
        · subst hju; omega
        · exact hj j h1 (by omega)
      · have := h.deg u hlt
        simp only [nd]; omega
    · rw [if_neg hn]
      rcases hu with hu | hu
      · subst hu; omega
      · have hne : v ≠ u := by intro e; subst e; omega
        exact ⟨by omega, by omega, by omega, hj⟩

section
variable {d : List Int} (h : IsT d)
include h
theorem end_spec {v : Nat} (hv : v < d.length) : v < endM d v ∧ endM d v ≤ d.length ∧ nd d (endM d v) = nd d v - 1 ∧ ∀ j, v < j → j < endM d v → nd d v ≤ nd d j := by
  have := skip_spec h hv (d.length - v) v (by omega) (Nat.le_refl _) (fun j h1 h2 => by omega) (.inl rfl)
  have e : 1 + nd d v - nd d v = 1 := by omega
  rw [e] at this
  exact this
theorem end_gt {v : Nat} (hv : v < d.length) : v < endM d v := (end_spec h hv).1
theorem end_le {v : Nat} (hv : v < d.length) : endM d v ≤ d.length := (end_spec h hv).2.1
theorem end_unique {v e : Nat} (hv : v < d.length) (h1 : v < e) (h2 : nd d e < nd d v) (h3 : ∀ j, v < j → j < e → nd d v ≤ nd d j) : e = endM d v := by
  have ⟨a, b, c, k⟩ := end_spec h hv
  rcases Nat.lt_trichotomy e (endM d v) with hl | hl | hl
  · have := k e h1 hl; omega
  · exact hl
  · have := h3 _ a hl; omega
theorem end_root : endM d 0 = d.length := by
  refine (end_unique h h.len h.len ?_ (fun j h1 h2 => ?_)).symm
  · rw [h.fin]; simp [nd]
  · have := h.pos j h2; simp only [nd]; omega
theorem nd_le {i : Nat} (hi : i ≤ d.length) : nd d i ≤ d.length - i := by
  obtain ⟨k, hk⟩ : ∃ k, i + k = d.length := ⟨d.length - i, by omega⟩
  induction k generalizing i with
  | zero => have := h.fin; have e : i = d.length := by omega
            subst e; omega
  | succ k ih =>
    have := ih (i := i + 1) (by omega) (by omega)
    have h1 := h.deg i (by omega)
    simp only [nd] at this
    omega
theorem nd_nonneg {i : Nat} (hi : i ≤ d.length) : 0 ≤ nd d i := by
  rcases Nat.lt_or_ge i d.length with hl | hl
  · have := h.pos i hl; omega
  · have e : i = d.length := by omega
    have := h.fin
    subst e; omega
theorem deg_le {v : Nat} (hv : v < d.length) : d.getD v 0 < d.length - v := by
  have h1 := nd_le h (i := v + 1) (by omega)
  have h2 := h.pos v hv
  simp only [nd] at h1
  omega
end

def kidsFrom (d : List Int) : Nat → Nat → List Nat
  | 0, _ => []
  | m + 1, c => c :: kidsFrom d m (endM d c)
def kidsM (d : List Int) (v : Nat) : List Nat := kidsFrom d (d.getD v 0).toNat (v + 1)
inductive Run (d : List Int) : Nat → Nat → Nat → Prop
  | nil (c : Nat) : Run d 0 c c
  | cons {m c e : Nat} : c < d.length → Run d m (endM d c) e → Run d (m + 1) c e

section
variable {d : List Int} (h : IsT d)
include h
theorem run_of {v : Nat} (hv : v < d.length) : ∀ (m c : Nat), v < c → c ≤ d.length → nd d c = nd d v - 1 + m → (∀ j, v < j → j < c → nd d v ≤ nd d j) → Run d m c (endM d v)
  | 0, c, h1, h2, h3, h4 => by
    have e := end_unique h hv h1 (by omega) h4
    rw [← e]
    exact .nil c
  | m + 1, c, h1, h2, h3, h4 => by
    have hc : c < d.length := by
      rcases Nat.lt_or_ge c d.length with hl | hl
      · exact hl
      · have e : c = d.length := by omega
        have := h.fin
        have h0 := h.pos v hv
        subst e; omega
    have a := end_spec h hc
    refine .cons hc (run_of hv m _ (by omega) a.2.1 (by omega) (fun j hj1 hj2 => ?_))
    rcases Nat.lt_trichotomy j c with hl | hl | hl
    · exact h4 j hj1 hl
    · subst hl; omega
    · have := a.2.2.2 j hl hj2; omega
theorem run_kids {v : Nat} (hv : v < d.length) : Run d (d.getD v 0).toNat (v + 1) (endM d v) := by
  have h0 := h.deg v hv
  refine run_of h hv _ _ (by omega) (by omega) ?_ (fun j h1 h2 => by omega)
  simp only [nd]; omega
theorem run_bd {m c e : Nat} (r : Run d m c e) : c ≤ e := by
  induction r with
  | nil c => exact Nat.le_refl _
  | cons hc _ ih => have := end_gt h hc; omega
end
section
variable {d : List Int} (h : IsT d)
include h
end

section
variable {d : List Int} (h : IsT d)
include h
end

def below (d : List Int) (v w : Nat) : Prop := w ≤ v ∧ v < endM d w
instance (d : List Int) (v w : Nat) : Decidable (below d v w) := inferInstanceAs (Decidable (_ ∧ _))
section
variable {d : List Int} (h : IsT d)
include h
end
end Go.Proofs.Ytnofaibiigpbmaa.Tree
namespace Go.Proofs.Ytnofaibiigpbmaa.E
set_option linter.unusedVariables false
set_option linter.unusedSectionVars false
open Go.RowKit Go.Proofs.YtnofaibiigpbmaaW.PrintWords Go.Proofs.Ytnofaibiigpbmaa.Base Go.Proofs.Ytnofaibiigpbmaa.Tree

section
variable {d : List Int} (h : IsT d) (hn : d.length ≤ 1000)
include h hn
theorem spec_l01End_loop {v : Nat} (hv : v < d.length) : ∀ (f u : Nat), u + f = d.length → v ≤ u → Ev (fun k => spec_l01End.l0 k (u : Int) (1 + nd d u - nd d v) d) (skip d f (1 + nd d u - nd d v) u : Int) := by
  have b : ∀ u, u ≤ d.length → 0 ≤ nd d u ∧ nd d u ≤ 1000 := fun u hu => ⟨nd_nonneg h hu, by have := nd_le h hu; omega⟩
  intro f
  induction f with
  | zero =>
    intro u hf hu
    have e : u = d.length := by omega
    have h1 := h.fin
    have h2 := h.pos v hv
    refine Ev.step (fun k => by rw [spec_l01End.l0]) ?_
    refine ev_neg (by subst e; omega) (ev_now ?_)
    simp [skip]
  | succ f ih =>
    intro u hf hu
    have b1 := b u (by omega)
    have b2 := b v (by omega)
    have b3 := b (u + 1) (by omega)
    have e : 1 + nd d u - nd d v - 1 + d.getD u 0 = 1 + nd d (u + 1) - nd d v := by simp only [nd]; omega
    have e1 : 1 + nd d u - nd d v + (d.getD u 0 - 1) = 1 + nd d (u + 1) - nd d v := by simp only [nd]; omega
    have e2 : nd d (u + 1) = nd d u + d.getD u 0 - 1 := rfl
    refine Ev.step (fun k => by rw [spec_l01End.l0]) ?_
    simp only [skip, rd_nat]
    refine ev_ite (fun hx => ?_) (fun hx => ?_)
    · rw [if_pos hx]
      refine ev_pos (by omega) (ev_pos (by omega) ?_)
      rw [w64s (by omega), w64 (x := 1 + nd d u - nd d v - 1) (by omega) (by omega), w64 (by omega) (by omega), e, e1]
      exact ih (u + 1) (by omega) (by omega)
    · rw [if_neg hx]; exact Ev.now _
theorem spec_l01End_ev {v : Nat} (hv : v < d.length) : Ev (fun k => spec_l01End.f k d (v : Int)) (endM d v : Int) := by
  have := spec_l01End_loop h hn hv (d.length - v) v (by omega) (Nat.le_refl _)
  rw [show 1 + nd d v - nd d v = 1 by omega] at this
  exact this
end
def castL (l : List Nat) : List Int := List.map (fun x : Nat => ((x : Nat) : Int)) l
section
variable {d : List Int} (h : IsT d) (hn : d.length ≤ 1000)
include h hn
theorem spec_l01Children_loop {m c e : Nat} (r : Run d m c e) (hc : c < 9223372036854775807) : ∀ (acc : List Int), m ≤ 1000 → acc.length + m ≤ 1000 → Ev (fun k => spec_l01Children.l0 k acc (c : Int) (m : Int) d) (acc ++ castL (kidsFrom d m c)) := by
  induction r with
  | nil c =>
    intro acc h2 h3
    refine Ev.step (fun k => by rw [spec_l01Children.l0]) ?_
    exact ev_neg (by omega) (ev_now (by simp [kidsFrom, castL]))
  | @cons m c e hlt r ih =>
    intro acc h2 h3
    refine Ev.step (fun k => by rw [spec_l01Children.l0]) ?_
    refine ev_pos (by omega) (ev_pos (by omega) (Ev.bind (spec_l01End_ev h hn hlt) ?_))
    rw [w64p (by omega)]
    have hle := end_le h hlt
    have := ih (by omega) (acc ++ [(c : Int)]) (by omega) (by simp; omega)
    simpa [kidsFrom, castL] using this
theorem spec_l01Children_ev {v : Nat} (hv : v < d.length) : Ev (fun k => spec_l01Children.f k d (v : Int)) (castL (kidsM d v)) := by
  have h0 := h.deg v hv
  have h1 := deg_le h hv
  unfold spec_l01Children.f
  refine ev_pos (by omega) (ev_pos (by omega) ?_)
  rw [w64s (by omega), rd_nat]
  have := spec_l01Children_loop h hn (run_kids h hv) (by omega) [] (by omega) (by simp only [List.length_nil]; omega)
  rw [show (((d.getD v 0).toNat : Nat) : Int) = d.getD v 0 by omega] at this
  simpa [kidsM] using this
end
end Go.Proofs.Ytnofaibiigpbmaa.E
namespace Go.Proofs.Ytnofaibiigpbmaa.E
set_option linter.unusedVariables false
set_option linter.unusedSectionVars false
open Go.RowKit Go.Proofs.YtnofaibiigpbmaaW.PrintWords Go.Proofs.Ytnofaibiigpbmaa.Base Go.Proofs.Ytnofaibiigpbmaa.Tree

theorem nd_ext {d e : List Int} : ∀ (j : Nat), (∀ i, i < j → d.getD i 0 = e.getD i 0) → nd d j = nd e j
  | 0, _ => rfl
  | j + 1, h => by
    simp only [nd]
    rw [nd_ext j (fun i hi => h i (by omega)), h j (by omega)]
theorem nd_plus (d : List Int) (p : Nat) (hp : p < d.length) : ∀ j, nd (d.set p (d.getD p 0 + 1)) j = nd d j + if p < j then 1 else 0
  | 0 => by simp [nd]
  | j + 1 => by
    simp only [nd]
    rw [nd_plus d p hp j]
    by_cases e : p = j
    · subst e
      rw [get_set_eq hp, if_neg (by omega), if_pos (by omega)]
      omega
    · rw [get_set_ne e]
      by_cases hl : p < j
      · rw [if_pos hl, if_pos (by omega)]; omega
      · rw [if_neg hl, if_neg (by omega)]; omega
theorem IsT.grow {d : List Int} (h : IsT d) {p : Nat} (hp : p < d.length) : IsT (d.set p (d.getD p 0 + 1) ++ [0]) := by
  obtain ⟨D, eD⟩ : ∃ D, D = d.set p (d.getD p 0 + 1) := ⟨_, rfl⟩
  have hl : D.length = d.length := by rw [eD]; simp
  have hg : ∀ i, i < d.length → (D ++ [0]).getD i 0 = D.getD i 0 := fun i hi => by
    rw [List.getD_eq_getElem?_getD, List.getElem?_append_left (by omega), ← List.getD_eq_getElem?_getD]
  have hn : ∀ j, j ≤ d.length → nd (D ++ [0]) j = nd d j + if p < j then 1 else 0 := fun j hj => by
    rw [nd_ext j (fun i hi => hg i (by omega)), eD]
    exact nd_plus d p hp j
  have hlast : (D ++ [0]).getD d.length 0 = 0 := by
    rw [List.getD_eq_getElem?_getD, List.getElem?_append_right (by omega), hl, Nat.sub_self]; rfl
  rw [← eD]
  refine ⟨fun i hi => ?_, fun i hi => ?_, ?_⟩
  · rw [List.length_append, hl, List.length_singleton] at hi
    rw [hn i (by omega)]
    by_cases e : i = d.length
    · subst e
      rw [h.fin, if_pos hp]; omega
    · have := h.pos i (by omega)
      split <;> omega
  · rw [List.length_append, hl, List.length_singleton] at hi
    by_cases e : i = d.length
    · subst e; rw [hlast]; omega
    · rw [hg i (by omega), eD]
      have := h.deg i (by omega)
      by_cases e2 : p = i
      · subst e2; rw [get_set_eq hp]; omega
      · rw [get_set_ne e2]; exact this
  · rw [List.length_append, hl, List.length_singleton]
    simp only [nd]
    rw [hn d.length (Nat.le_refl _), h.fin, if_pos hp, hlast]
    omega
theorem IsT.one : IsT [0] := ⟨fun i hi => by
    have : i = 0 := by simpa using hi
    subst this; simp [nd], fun i hi => by
    have : i = 0 := by simpa using hi
    subst this; simp, by simp [nd]⟩
structure WayIn (d way : List Int) : Prop where
  some : 0 < way.length
  few : way.length ≤ d.length
  rg : ∀ x ∈ way, 0 ≤ x ∧ x < d.length
theorem WayIn.get {d way : List Int} (h : WayIn d way) {i : Nat} (hi : i < way.length) : 0 ≤ rd way (i : Int) ∧ rd way (i : Int) < d.length := by
  rw [rd_lt hi]
  exact h.rg _ (List.getElem_mem hi)
section
variable {c : List Int} (hc : Src c)
include hc
theorem draw_up {n deep : Int} {d way : List Int} (hd : IsT d) (hs : d.length ≤ 100) (hw : WayIn d way) {P : List Int → Prop}
    (H : ∀ a h d2 way2, At c a → IsT d2 → d2.length = d.length + 1 → WayIn d2 way2 → ∃ r a' h', Ev (fun k => spec_l01DrawOf.l0 k n d2 way2 deep (wrap64 ((d.length : Int) + 1)) c a h) (r, a', h') ∧ P r ∧ At c a') :
    ∀ (j : Nat) (a h : Int), j < way.length → At c a → ∃ r a' h', Ev (fun k => spec_l01DrawOf.l1 k n d way deep (d.length : Int) (j : Int) c a h) (r, a', h') ∧ P r ∧ At c a'
  | 0, a, h, hj, ha => by
    have hg := hw.get hj
    have hp : (rd way ((0 : Nat) : Int)).toNat < d.length := by omega
    have hwf := hw.few
    have hway : WayIn (d.set (rd way ((0 : Nat) : Int)).toNat (d.getD (rd way ((0 : Nat) : Int)).toNat 0 + 1) ++ [0]) (way.take 1 ++ [(d.length : Int)]) := ⟨by simp, by simp only [List.length_append, List.length_take, List.length_singleton, List.length_set]; omega, fun x hx => by
      simp only [List.length_append, List.length_singleton, List.length_set]
      rcases List.mem_append.1 hx with hx | hx
      · have := hw.rg x (List.mem_of_mem_take hx); omega
      · rw [List.mem_singleton] at hx; omega⟩
    obtain ⟨r, a', h', h1, h2, h3⟩ := H a h _ _ ha (IsT.grow hd hp) (by simp) hway
    refine ⟨r, a', h', ?_, h2, h3⟩
    have h0 := hd.deg _ hp
    have h4 := deg_le hd hp
    refine Ev.step (fun k => by rw [spec_l01DrawOf.l1]) ?_
    obtain ⟨p, ep⟩ : ∃ p : Nat, rd way ((0 : Nat) : Int) = (p : Int) := ⟨(rd way ((0 : Nat) : Int)).toNat, by omega⟩
    rw [ep] at hg hp h0 h4 h1 ⊢
    rw [show ((p : Int)).toNat = p from rfl] at hp h0 h4 h1 ⊢
    rw [w64s (by omega), rd_nat d p, w64 (x := d.getD p 0 + 1) (by omega) (by omega)]
    refine ev_neg (by omega) (ev_pos (by omega) (ev_pos (by omega) (ev_pos (by omega) (ev_pos (by omega) (ev_some (ev_pos (by omega) (ev_pos (by omega) ?_)))))))
    rw [show (((0 + 1 : Nat) : Int)).toNat = 1 from rfl, own_eq _ (by simp; omega)]
    exact ev_some (ev_pos (by simp; omega) (ev_pos (by simp; omega) h1))
  | j + 1, a, h, hj, ha => by
    obtain ⟨x, a1, h1, e1, _, _, _, ha1⟩ := next_ok hc ha h deep
    by_cases hx : x = 0
    · obtain ⟨r, a', h', ih, i2, i3⟩ := draw_up hd hs hw H j a1 h1 (by omega) ha1
      refine ⟨r, a', h', ?_, i2, i3⟩
      have hwf := hw.few
      refine Ev.step (fun k => by rw [spec_l01DrawOf.l1]) ?_
      rw [e1, w64p (by omega)]
      exact ev_pos (by omega) (ev_some (ev_pos hx ih))
    · have hg := hw.get hj
      have hp : (rd way ((j + 1 : Nat) : Int)).toNat < d.length := by omega
      have hwf := hw.few
      have hway : WayIn (d.set (rd way ((j + 1 : Nat) : Int)).toNat (d.getD (rd way ((j + 1 : Nat) : Int)).toNat 0 + 1) ++ [0]) (way.take (j + 1 + 1) ++ [(d.length : Int)]) := ⟨by simp, by simp only [List.length_append, List.length_take, List.length_singleton, List.length_set]; omega, fun x hx => by
        simp only [List.length_append, List.length_singleton, List.length_set]
        rcases List.mem_append.1 hx with hx | hx
        · have := hw.rg x (List.mem_of_mem_take hx); omega
        · rw [List.mem_singleton] at hx; omega⟩
      obtain ⟨r, a', h', g1, g2, g3⟩ := H a1 h1 _ _ ha1 (IsT.grow hd hp) (by simp) hway
      refine ⟨r, a', h', ?_, g2, g3⟩
      have h0 := hd.deg _ hp
      have h4 := deg_le hd hp
      refine Ev.step (fun k => by rw [spec_l01DrawOf.l1]) ?_
      rw [e1]
      refine ev_pos (by omega) (ev_some (ev_neg hx ?_))
      obtain ⟨p, ep⟩ : ∃ p : Nat, rd way ((j + 1 : Nat) : Int) = (p : Int) := ⟨(rd way ((j + 1 : Nat) : Int)).toNat, by omega⟩
      rw [ep] at hg hp h0 h4 g1 ⊢
      rw [show ((p : Int)).toNat = p from rfl] at hp h0 h4 g1 ⊢
      rw [w64s (by omega), rd_nat d p, w64 (x := d.getD p 0 + 1) (by omega) (by omega)]
      refine ev_pos (by omega) (ev_pos (by omega) (ev_pos (by omega) (ev_pos (by omega) (ev_some (ev_pos (by omega) (ev_pos (by omega) ?_))))))
      rw [show (((j + 1 + 1 : Nat) : Int)).toNat = j + 1 + 1 from rfl, own_eq _ (by simp; omega)]
      exact ev_some (ev_pos (by simp; omega) (ev_pos (by simp; omega) g1))
theorem draw_loop {n : Nat} (hn : n ≤ 100) {deep : Int} : ∀ (m : Nat) (a h : Int) (d way : List Int), d.length + m = n → At c a → IsT d → WayIn d way →
    ∃ r a' h', Ev (fun k => spec_l01DrawOf.l0 k (n : Int) d way deep (d.length : Int) c a h) (r, a', h') ∧ (IsT r ∧ r.length = n) ∧ At c a'
  | 0, a, h, d, way, hm, ha, hd, hw => by
    refine ⟨d, a, h, ?_, ⟨hd, by omega⟩, ha⟩
    refine Ev.step (fun k => by rw [spec_l01DrawOf.l0]) ?_
    exact ev_neg (by omega) (Ev.now _)
  | m + 1, a, h, d, way, hm, ha, hd, hw => by
    have hs := hw.some
    have hf := hw.few
    obtain ⟨r, a', h', h1, h2, h3⟩ := draw_up hc (n := (n : Int)) (deep := deep) hd (by omega) hw (P := fun r => IsT r ∧ r.length = n) (fun a h d2 way2 ha hd2 hl hw2 => by
      have := draw_loop hn (deep := deep) m a h d2 way2 (by omega) ha hd2 hw2
      rw [w64s (by omega), ← hl]
      exact this) (way.length - 1) a h (by omega) ha
    refine ⟨r, a', h', ?_, h2, h3⟩
    refine Ev.step (fun k => by rw [spec_l01DrawOf.l0]) ?_
    rw [w64 (x := (way.length : Int) - 1) (by omega) (by omega), show (way.length : Int) - 1 = ((way.length - 1 : Nat) : Int) by omega]
    exact ev_pos (by omega) h1
theorem draw_ev {n : Nat} (h1 : 1 ≤ n) (hn : n ≤ 100) {a : Int} (ha : At c a) (h : Int) : ∃ r a' h', Ev (fun k => spec_l01DrawOf.f k c a h (n : Int)) (r, a', h') ∧ (IsT r ∧ r.length = n) ∧ At c a' := by
  obtain ⟨x, a1, h2, e1, _, ha1⟩ := pick_ok hc ha h [1, 2, 4, 30] (by simp)
  obtain ⟨r, a', h', g1, g2, g3⟩ := draw_loop hc (n := n) hn (deep := x) (n - 1) a1 h2 [0] [0] (by simp; omega) ha1 IsT.one ⟨by simp, by simp, fun x hx => by rw [List.mem_singleton] at hx; subst hx; simp⟩
  refine ⟨r, a', h', ?_, g2, g3⟩
  unfold spec_l01DrawOf.f
  rw [e1]
  exact ev_some g1
end
end Go.Proofs.Ytnofaibiigpbmaa.E
namespace Go.Proofs.Ytnofaibiigpbmaa.Bin
set_option linter.unusedVariables false
set_option linter.unusedSectionVars false
open Go.RowKit Go.Proofs.YtnofaibiigpbmaaW.PrintWords Go.Proofs.Ytnofaibiigpbmaa.Base

def B (l : List UInt8) : ByteArray := ⟨l.toArray⟩
theorem B_all (w : ByteArray) : ∃ l, w = B l := ⟨w.data.toList, by cases w; simp [B]⟩
theorem B_size (l : List UInt8) : (B l).size = l.length := by simp [B, ByteArray.size]
theorem B_inj {l m : List UInt8} : B l = B m ↔ l = m := by
  constructor
  · intro h
    have := congrArg (fun b : ByteArray => b.data.toList) h
    simpa [B] using this
  · intro h; rw [h]
theorem B_append (l m : List UInt8) : B l ++ B m = B (l ++ m) := by
  apply ByteArray.ext
  simp [B, ByteArray.data_append]
theorem B_extract (l : List UInt8) (a b : Nat) : (B l).extract a b = B ((l.drop a).take (b - a)) := by
  apply ByteArray.ext
  simp [B, ByteArray.data_extract, List.extract_toArray]
theorem bt_B {l : List UInt8} {i : Nat} (h : i < l.length) : bt (B l) (i : Int) = (l[i].toNat : Int) := by
  unfold bt
  rw [dif_pos (by rw [B_size]; exact h)]
  rfl
theorem bt_at_app {p s : List UInt8} {b : UInt8} {i : Nat} (h : i = p.length) : bt (B (p ++ b :: s)) (i : Int) = (b.toNat : Int) := by
  subst h
  rw [bt_B (by simp)]
  simp

inductive BT where
  | leaf : BT
  | node : BT → BT → BT
def enc : BT → List UInt8
  | .leaf => [48]
  | .node l r => 49 :: (enc l ++ enc r)
def nodes : BT → Nat
  | .leaf => 0
  | .node l r => nodes l + nodes r + 1
theorem enc_length : ∀ t, (enc t).length = 2 * nodes t + 1
  | .leaf => rfl
  | .node l r => by simp [enc, nodes, enc_length l, enc_length r]; omega
def flat : List BT → List UInt8
  | [] => []
  | t :: ts => enc t ++ flat ts
def scan : List UInt8 → Nat → Option (List UInt8)
  | l, 0 => some l
  | [], _ + 1 => none
  | b :: l, n + 1 => if b = 49 then scan l (n + 2) else if b = 48 then scan l n else none
theorem scan_enc : ∀ (t : BT) (s : List UInt8) (n : Nat), scan (enc t ++ s) (n + 1) = scan s n
  | .leaf, s, n => by simp [enc, scan]
  | .node l r, s, n => by
    simp only [enc, List.cons_append, scan, if_pos, List.append_assoc]
    rw [scan_enc l, scan_enc r]
theorem scan_one (t : BT) (s : List UInt8) : scan (enc t ++ s) 1 = some s := by
  rw [scan_enc t s 0]
  cases s <;> rfl
theorem scan_sound : ∀ (l : List UInt8) (n : Nat) (s : List UInt8), scan l n = some s → ∃ ts, ts.length = n ∧ l = flat ts ++ s
  | l, 0, s, h => by
    have e : l = s := by cases l <;> simpa [scan] using h
    exact ⟨[], rfl, by simp [flat, e]⟩
  | [], n + 1, s, h => by simp [scan] at h
  | b :: l, n + 1, s, h => by
    simp only [scan] at h
    split at h
    · rename_i hb
      obtain ⟨ts, h1, h2⟩ := scan_sound l (n + 2) s h
      match ts, h1 with
      | a :: c :: ts, h1 =>
        refine ⟨.node a c :: ts, by simpa using h1, ?_⟩
        rw [h2, hb]
        simp [flat, enc]
    · split at h
      · rename_i hb
        obtain ⟨ts, h1, h2⟩ := scan_sound l n s h
        refine ⟨.leaf :: ts, by simpa using h1, ?_⟩
        rw [h2, hb]
        simp [flat, enc]
      · cases h
theorem scan_len : ∀ (l : List UInt8) (n : Nat) (s : List UInt8), scan l n = some s → s.length ≤ l.length
  | l, n, s, h => by
    obtain ⟨ts, _, h2⟩ := scan_sound l n s h
    rw [h2]; simp
def isBin (l : List UInt8) : Bool := if 47 < l.length then false else match scan l 1 with
  | some [] => true
  | _ => false
theorem isBin_sound {l : List UInt8} (h : isBin l = true) : ∃ t, l = enc t ∧ nodes t ≤ 23 := by
  unfold isBin at h
  split at h
  · cases h
  · rename_i hl
    split at h
    · rename_i hs
      obtain ⟨ts, h1, h2⟩ := scan_sound l 1 [] hs
      match ts, h1 with
      | [t], _ =>
        have e : l = enc t := by simpa [flat] using h2
        refine ⟨t, e, ?_⟩
        have := enc_length t
        rw [e] at hl
        omega
    · cases h
theorem isBin_enc {t : BT} (h : nodes t ≤ 23) : isBin (enc t) = true := by
  have := scan_one t []
  rw [List.append_nil] at this
  unfold isBin
  rw [if_neg (by rw [enc_length]; omega), this]
def ones : List UInt8 → Nat
  | [] => 0
  | b :: l => (if b = 49 then 1 else 0) + ones l
theorem ones_append : ∀ (a b : List UInt8), ones (a ++ b) = ones a + ones b
  | [], b => by simp [ones]
  | x :: a, b => by simp [ones, ones_append a b]; omega
theorem ones_enc : ∀ t, ones (enc t) = nodes t
  | .leaf => rfl
  | .node l r => by simp [enc, ones, ones_append, ones_enc l, ones_enc r, nodes]; omega
theorem at_node : ∀ (t : BT) (i : Nat), i < nodes t → ∃ p l r s, enc t = p ++ (enc (.node l r) ++ s) ∧ ones p = i
  | .leaf, i, h => by simp [nodes] at h
  | .node l r, i, h => by
    match i, h with
    | 0, _ => exact ⟨[], l, r, [], by simp, rfl⟩
    | i + 1, h =>
      simp only [nodes] at h
      by_cases hl : i < nodes l
      · obtain ⟨p, a, b, s, h1, h2⟩ := at_node l i hl
        refine ⟨49 :: p, a, b, s ++ enc r, ?_, by simp [ones, h2]; omega⟩
        simp only [enc] at h1 ⊢
        rw [h1]; simp
      · obtain ⟨p, a, b, s, h1, h2⟩ := at_node r (i - nodes l) (by omega)
        refine ⟨49 :: (enc l ++ p), a, b, s, ?_, ?_⟩
        · simp only [enc] at h1 ⊢
          rw [h1]; simp
        · simp only [ones, if_pos, ones_append, ones_enc, h2]; omega
def turn (right : Bool) (l r : BT) : Option BT :=
  if right then match l with
    | .leaf => none
    | .node x y => some (.node x (.node y r))
  else match r with
    | .leaf => none
    | .node x y => some (.node (.node l x) y)
theorem turn_nodes {right : Bool} {l r u : BT} (h : turn right l r = some u) : nodes u = nodes l + nodes r + 1 := by
  unfold turn at h
  split at h <;> split at h
  · cases h
  · obtain rfl := Option.some.inj h; simp [nodes]; omega
  · cases h
  · obtain rfl := Option.some.inj h; simp [nodes]; omega
def vec : BT → List Int
  | .leaf => []
  | .node l r => vec l ++ (nodes r : Int) :: vec r
theorem vec_length : ∀ t, (vec t).length = nodes t
  | .leaf => rfl
  | .node l r => by simp [vec, nodes, vec_length l, vec_length r]; omega
def firstR (l : List Int) : Nat → Nat → Option Nat
  | 0, _ => none
  | m + 1, i => if l.getD i 0 = (l.length : Int) - 1 - i then some i else firstR l m (i + 1)
theorem firstR_spec (l : List Int) : ∀ (m i j : Nat), i + m = l.length → firstR l m i = some j → i ≤ j ∧ j < l.length
  | 0, i, j, _, h => by simp [firstR] at h
  | m + 1, i, j, hm, h => by
    simp only [firstR] at h
    split at h
    · obtain rfl := Option.some.inj h; omega
    · have := firstR_spec l m (i + 1) j (by omega) h; omega
def ofV : Nat → List Int → List UInt8 × Bool
  | 0, _ => ([48], true)
  | f + 1, l => if l.length = 0 then ([48], true) else match firstR l l.length 0 with
    | none => ([], false)
    | some i => (49 :: ((ofV f (l.take i)).1 ++ (ofV f (l.drop (i + 1))).1), (ofV f (l.take i)).2 && (ofV f (l.drop (i + 1))).2)
theorem ofV_length : ∀ (f : Nat) (l : List Int), l.length ≤ f → (ofV f l).1.length ≤ 2 * l.length + 1
  | 0, l, h => by simp [ofV]
  | f + 1, l, h => by
    simp only [ofV]
    split
    · simp
    · split
      · simp
      · rename_i i hi
        have hj := firstR_spec l l.length 0 i (by omega) hi
        have h1 := ofV_length f (l.take i) (by simp; omega)
        have h2 := ofV_length f (l.drop (i + 1)) (by simp; omega)
        simp only [List.length_take, List.length_drop] at h1 h2
        simp only [List.length_cons, List.length_append]
        omega
end Go.Proofs.Ytnofaibiigpbmaa.Bin
namespace Go.Proofs.Ytnofaibiigpbmaa.Bin
set_option linter.unusedVariables false
set_option linter.unusedSectionVars false
open Go.RowKit Go.Proofs.YtnofaibiigpbmaaW.PrintWords Go.Proofs.Ytnofaibiigpbmaa.Base

theorem enc_app : ∀ (t u : BT) (s s' : List UInt8), enc t ++ s = enc u ++ s' → t = u ∧ s = s'
  | .leaf, .leaf, s, s', h => by simpa [enc] using h
  | .leaf, .node a b, s, s', h => by simp [enc] at h
  | .node a b, .leaf, s, s', h => by simp [enc] at h
  | .node a b, .node c d, s, s', h => by
    simp only [enc, List.cons_append, List.append_assoc, List.cons.injEq, true_and] at h
    obtain ⟨h1, h2⟩ := enc_app a c _ _ h
    obtain ⟨h3, h4⟩ := enc_app b d _ _ h2
    exact ⟨by rw [h1, h3], h4⟩
theorem enc_inj {t u : BT} (h : enc t = enc u) : t = u := (enc_app t u [] [] (by rw [h])).1
def rotAt : BT → Nat → Bool → Option BT
  | .leaf, _, _ => none
  | .node l r, 0, b => turn b l r
  | .node l r, i + 1, b => if i < nodes l then (rotAt l i b).map (fun x => .node x r) else (rotAt r (i - nodes l) b).map (fun x => .node l x)
theorem rotAt_nodes : ∀ (t : BT) (i : Nat) (b : Bool) (u : BT), rotAt t i b = some u → nodes u = nodes t
  | .leaf, _, _, _, h => by simp [rotAt] at h
  | .node l r, 0, b, u, h => by rw [turn_nodes h]; rfl
  | .node l r, i + 1, b, u, h => by
    simp only [rotAt] at h
    split at h
    · obtain ⟨x, hx, rfl⟩ := Option.map_eq_some_iff.1 h
      have := rotAt_nodes l i b x hx
      simp only [nodes]; omega
    · obtain ⟨x, hx, rfl⟩ := Option.map_eq_some_iff.1 h
      have := rotAt_nodes r (i - nodes l) b x hx
      simp only [nodes]; omega
theorem at_rot : ∀ (t : BT) (i : Nat), i < nodes t → ∃ p l r s, enc t = p ++ (enc (.node l r) ++ s) ∧ ones p = i ∧ ∀ b, (turn b l r).map (fun u => p ++ (enc u ++ s)) = (rotAt t i b).map enc
  | .leaf, i, h => by simp [nodes] at h
  | .node l r, 0, _ => ⟨[], l, r, [], by simp, rfl, fun b => by
      simp only [rotAt]
      cases turn b l r <;> simp⟩
  | .node l r, i + 1, h => by
    simp only [nodes] at h
    by_cases hl : i < nodes l
    · obtain ⟨p, a, b, s, h1, h2, h3⟩ := at_rot l i hl
      refine ⟨49 :: p, a, b, s ++ enc r, ?_, by simp [ones, h2]; omega, fun q => ?_⟩
      · simp only [enc] at h1 ⊢
        rw [h1]; simp
      · have h4 := h3 q
        simp only [rotAt, if_pos hl]
        cases ht : turn q a b with
        | none => rw [ht] at h4; cases hr : rotAt l i q with
          | none => rfl
          | some x => rw [hr] at h4; simp at h4
        | some x => rw [ht] at h4; cases hr : rotAt l i q with
          | none => rw [hr] at h4; simp at h4
          | some y =>
            rw [hr] at h4
            simp only [Option.map_some, Option.some.injEq] at h4 ⊢
            simp only [enc, List.cons_append, ← h4, List.append_assoc]
    · obtain ⟨p, a, b, s, h1, h2, h3⟩ := at_rot r (i - nodes l) (by omega)
      refine ⟨49 :: (enc l ++ p), a, b, s, ?_, ?_, fun q => ?_⟩
      · simp only [enc] at h1 ⊢
        rw [h1]; simp
      · simp only [ones, if_pos, ones_append, ones_enc, h2]; omega
      · have h4 := h3 q
        simp only [rotAt, if_neg hl]
        cases ht : turn q a b with
        | none => rw [ht] at h4; cases hr : rotAt r (i - nodes l) q with
          | none => rfl
          | some x => rw [hr] at h4; simp at h4
        | some x => rw [ht] at h4; cases hr : rotAt r (i - nodes l) q with
          | none => rw [hr] at h4; simp at h4
          | some y =>
            rw [hr] at h4
            simp only [Option.map_some, Option.some.injEq] at h4 ⊢
            simp only [enc, List.cons_append, ← h4, List.append_assoc]
abbrev KS := List (BT × Int)
def keys (P : KS) : List (List UInt8) := P.map fun p => enc p.1
def addK (P : KS) (d : Int) : Option BT → KS
  | none => P
  | some z => if enc z ∈ keys P then P else P ++ [(z, d)]
def innK (t : BT) (d : Int) : Nat → Nat → KS → KS
  | 0, _, P => P
  | m + 1, i, P => innK t d m (i + 1) (addK (addK P d (rotAt t i true)) d (rotAt t i false))
def outK (n : Nat) : Nat → Nat → KS → KS
  | 0, _, P => P
  | m + 1, i, P => match P[i]? with
    | none => P
    | some x => outK n m (i + 1) (innK x.1 (x.2 + 1) n 0 P)
def resK (u : BT) (n : Nat) : Nat → Nat → KS → Int
  | 0, _, _ => 0
  | m + 1, i, P => match P[i]? with
    | none => 0
    | some x => if enc x.1 = enc u then x.2 else resK u n m (i + 1) (innK x.1 (x.2 + 1) n 0 P)
structure KG (n : Nat) (P : KS) : Prop where
  nd : (keys P).Nodup
  nn : ∀ x ∈ P, nodes x.1 = n
  vv : ∀ x ∈ P, 0 ≤ x.2 ∧ x.2 ≤ P.length
theorem addK_pre (P : KS) (d : Int) (z : Option BT) : ∃ Q, addK P d z = P ++ Q := by
  cases z with
  | none => exact ⟨[], by simp [addK]⟩
  | some z =>
    simp only [addK]
    split
    · exact ⟨[], by simp⟩
    · exact ⟨[(z, d)], rfl⟩
theorem innK_pre (t : BT) (d : Int) : ∀ (m i : Nat) (P : KS), ∃ Q, innK t d m i P = P ++ Q
  | 0, _, P => ⟨[], by simp [innK]⟩
  | m + 1, i, P => by
    obtain ⟨Q1, e1⟩ := addK_pre P d (rotAt t i true)
    obtain ⟨Q2, e2⟩ := addK_pre (addK P d (rotAt t i true)) d (rotAt t i false)
    obtain ⟨Q3, e3⟩ := innK_pre t d m (i + 1) (addK (addK P d (rotAt t i true)) d (rotAt t i false))
    exact ⟨Q1 ++ Q2 ++ Q3, by simp only [innK]; rw [e3, e2, e1]; simp⟩
theorem outK_pre (n : Nat) : ∀ (m i : Nat) (P : KS), ∃ Q, outK n m i P = P ++ Q
  | 0, _, P => ⟨[], by simp [outK]⟩
  | m + 1, i, P => by
    simp only [outK]
    split
    · exact ⟨[], by simp⟩
    · rename_i x _
      obtain ⟨Q1, e1⟩ := innK_pre x.1 (x.2 + 1) n 0 P
      obtain ⟨Q2, e2⟩ := outK_pre n m (i + 1) (innK x.1 (x.2 + 1) n 0 P)
      exact ⟨Q1 ++ Q2, by rw [e2, e1]; simp⟩
theorem KG.add {n : Nat} {P : KS} (h : KG n P) {d : Int} (h0 : 0 ≤ d) (h1 : d ≤ P.length + 1) {z : Option BT} (hz : ∀ u, z = some u → nodes u = n) : KG n (addK P d z) := by
  cases z with
  | none => exact h
  | some z =>
    simp only [addK]
    split
    · exact h
    · rename_i hn
      refine ⟨?_, fun x hx => ?_, fun x hx => ?_⟩
      · unfold keys
        rw [List.map_append]
        refine List.nodup_append.2 ⟨h.nd, by simp, fun x hx y hy => ?_⟩
        simp only [List.map_cons, List.map_nil, List.mem_singleton] at hy
        subst hy
        exact fun e => hn (e ▸ hx)
      · rcases List.mem_append.1 hx with hx | hx
        · exact h.nn x hx
        · rw [List.mem_singleton] at hx
          subst hx
          exact hz z rfl
      · rw [List.length_append, List.length_singleton]
        rcases List.mem_append.1 hx with hx | hx
        · have := h.vv x hx; omega
        · rw [List.mem_singleton] at hx
          subst hx
          constructor
          · exact h0
          · simp only; omega
theorem KG.inn {n : Nat} {t : BT} (ht : nodes t = n) {d : Int} (h0 : 0 ≤ d) : ∀ (m i : Nat) (P : KS), KG n P → d ≤ P.length + 1 → KG n (innK t d m i P)
  | 0, _, _, h, _ => h
  | m + 1, i, P, h, h1 => by
    have hz : ∀ b u, rotAt t i b = some u → nodes u = n := fun b u e => (rotAt_nodes t i b u e).trans ht
    obtain ⟨Q1, e1⟩ := addK_pre P d (rotAt t i true)
    obtain ⟨Q2, e2⟩ := addK_pre (addK P d (rotAt t i true)) d (rotAt t i false)
    have l1 : P.length ≤ (addK P d (rotAt t i true)).length := by rw [e1]; simp
    have l2 : (addK P d (rotAt t i true)).length ≤ (addK (addK P d (rotAt t i true)) d (rotAt t i false)).length := by rw [e2]; simp
    exact KG.inn ht h0 m (i + 1) _ ((h.add h0 h1 (hz true)).add h0 (by omega) (hz false)) (by omega)
theorem few_nodup : ∀ (m : Nat) (l : List Int), l.Nodup → (∀ x ∈ l, 0 ≤ x ∧ x < m) → l.length ≤ m
  | 0, l, _, h => by
    cases l with
    | nil => simp
    | cons a l => have := h a (by simp); omega
  | m + 1, l, hn, h => by
    by_cases hm : (m : Int) ∈ l
    · have h1 := few_nodup m (l.erase (m : Int)) (hn.erase _) (fun x hx => by
        have h2 := (hn.mem_erase_iff).1 hx
        have := h x h2.2
        omega)
      rw [List.length_erase_of_mem hm] at h1
      omega
    · have := few_nodup m l hn (fun x hx => by
        have h2 := h x hx
        have : x ≠ m := fun e => hm (e ▸ hx)
        omega)
      omega
theorem enc_bytes : ∀ (t : BT), ∀ b ∈ enc t, b = 48 ∨ b = 49
  | .leaf, b, h => by simp [enc] at h; exact .inl h
  | .node l r, b, h => by
    simp only [enc, List.mem_cons, List.mem_append] at h
    rcases h with h | h | h
    · exact .inr h
    · exact enc_bytes l b h
    · exact enc_bytes r b h
def val : List UInt8 → Int
  | [] => 0
  | b :: l => (if b = 49 then 1 else 0) + 2 * val l
theorem val_rng : ∀ l : List UInt8, 0 ≤ val l ∧ val l < 2 ^ l.length
  | [] => by simp [val]
  | b :: l => by
    have := val_rng l
    simp only [val, List.length_cons]
    have e : (2 : Int) ^ (l.length + 1) = 2 * 2 ^ l.length := by rw [Int.pow_succ]; omega
    rw [e]
    split <;> omega
theorem val_inj : ∀ (l m : List UInt8), l.length = m.length → (∀ b ∈ l, b = 48 ∨ b = 49) → (∀ b ∈ m, b = 48 ∨ b = 49) → val l = val m → l = m
  | [], [], _, _, _, _ => rfl
  | [], _ :: _, h, _, _, _ => by simp at h
  | _ :: _, [], h, _, _, _ => by simp at h
  | b :: l, c :: m, h, h1, h2, h3 => by
    simp only [val] at h3
    have hb := h1 b (by simp)
    have hc := h2 c (by simp)
    have ne : ¬ (48 : UInt8) = 49 := by decide
    have key : b = c ∧ val l = val m := by
      rcases hb with rfl | rfl <;> rcases hc with rfl | rfl
      · exact ⟨rfl, by omega⟩
      · rw [if_neg ne, if_pos rfl] at h3; omega
      · rw [if_neg ne, if_pos rfl] at h3; omega
      · exact ⟨rfl, by omega⟩
    rw [key.1, val_inj l m (by simpa using h) (fun x hx => h1 x (by simp [hx])) (fun x hx => h2 x (by simp [hx])) key.2]
theorem KG.few {n : Nat} {P : KS} (h : KG n P) (hn : n ≤ 7) : P.length ≤ 32768 := by
  have hl : ∀ x ∈ P, (enc x.1).length = 2 * n + 1 := fun x hx => by rw [enc_length, h.nn x hx]
  have h1 : ((keys P).map val).Nodup := by
    unfold List.Nodup
    rw [List.pairwise_map]
    refine h.nd.imp_of_mem (fun {x y} hx hy hne e => hne ?_)
    obtain ⟨a, ha, rfl⟩ := List.mem_map.1 hx
    obtain ⟨b, hb, rfl⟩ := List.mem_map.1 hy
    exact val_inj _ _ (by rw [hl a ha, hl b hb]) (enc_bytes _) (enc_bytes _) e
  have := few_nodup 32768 _ h1 (fun z hz => by
    obtain ⟨x, hx, rfl⟩ := List.mem_map.1 hz
    obtain ⟨a, ha, rfl⟩ := List.mem_map.1 hx
    have h2 := val_rng (enc a.1)
    have h3 : (2 : Int) ^ (enc a.1).length ≤ 2 ^ 15 := by
      rw [hl a ha]
      exact_mod_cast Nat.pow_le_pow_right (by omega) (by omega)
    have : (2 : Int) ^ 15 = 32768 := by decide
    omega)
  simpa [keys] using this
theorem KG.out {n : Nat} : ∀ (m i : Nat) (P : KS), KG n P → KG n (outK n m i P)
  | 0, _, _, h => h
  | m + 1, i, P, h => by
    simp only [outK]
    split
    · exact h
    · rename_i x hx
      have hm : x ∈ P := List.mem_of_getElem? hx
      have := h.vv x hm
      exact KG.out m (i + 1) _ (KG.inn (h.nn x hm) (by omega) n 0 P h (by omega))
theorem res_out {n : Nat} (hn : n ≤ 7) (u : BT) : ∀ (m i : Nat) (P : KS), i + m = 32769 → KG n P → (∀ j x, j < i → P[j]? = some x → enc x.1 ≠ enc u) →
    (∃ x ∈ outK n m i P, enc x.1 = enc u ∧ x.2 = resK u n m i P) ∨ ((∀ x ∈ outK n m i P, enc x.1 ≠ enc u) ∧ resK u n m i P = 0)
  | 0, i, P, hi, h, hu => by
    have hf := h.few hn
    refine .inr ⟨fun x hx => ?_, rfl⟩
    obtain ⟨j, hj⟩ := List.mem_iff_getElem?.1 hx
    have : j < P.length := (List.getElem?_eq_some_iff.1 hj).1
    exact hu j x (by omega) hj
  | m + 1, i, P, hi, h, hu => by
    simp only [outK, resK]
    cases hx : P[i]? with
    | none =>
      refine .inr ⟨fun x hx2 => ?_, rfl⟩
      obtain ⟨j, hj⟩ := List.mem_iff_getElem?.1 hx2
      have h1 : j < P.length := (List.getElem?_eq_some_iff.1 hj).1
      have h2 : P.length ≤ i := List.getElem?_eq_none_iff.1 hx
      exact hu j x (by omega) hj
    | some x =>
      have hm : x ∈ P := List.mem_of_getElem? hx
      have hv := h.vv x hm
      obtain ⟨Q1, e1⟩ := innK_pre x.1 (x.2 + 1) n 0 P
      obtain ⟨Q2, e2⟩ := outK_pre n m (i + 1) (innK x.1 (x.2 + 1) n 0 P)
      simp only
      by_cases hxu : enc x.1 = enc u
      · rw [if_pos hxu]
        exact .inl ⟨x, by rw [e2, e1]; simp [hm], hxu, rfl⟩
      · rw [if_neg hxu]
        refine res_out hn u m (i + 1) _ (by omega) (KG.inn (h.nn x hm) (by omega) n 0 P h (by omega)) (fun j y hj hy => ?_)
        have hil : i < P.length := (List.getElem?_eq_some_iff.1 hx).1
        rw [e1, List.getElem?_append_left (by omega)] at hy
        by_cases hji : j = i
        · subst hji
          rw [hx] at hy
          obtain rfl := Option.some.inj hy
          exact hxu
        · exact hu j y (by omega) hy
end Go.Proofs.Ytnofaibiigpbmaa.Bin
namespace Go.Proofs.Ytnofaibiigpbmaa.E
set_option linter.unusedVariables false
set_option linter.unusedSectionVars false
open Go.RowKit Go.Proofs.YtnofaibiigpbmaaW.PrintWords Go.Proofs.Ytnofaibiigpbmaa.Base Go.Proofs.Ytnofaibiigpbmaa.Bin

theorem toList_loop (bs : ByteArray) : ∀ (n i : Nat) (r : List UInt8), i + n = bs.size → ByteArray.toList.loop bs i r = r.reverse ++ bs.data.toList.drop i
  | 0, i, r, h => by
    unfold ByteArray.toList.loop
    have hs : bs.size = bs.data.toList.length := by rw [Array.length_toList]; rfl
    rw [if_neg (by omega), List.drop_of_length_le (by omega), List.append_nil]
  | n + 1, i, r, h => by
    unfold ByteArray.toList.loop
    have hs : bs.size = bs.data.toList.length := by rw [Array.length_toList]; rfl
    have hi : i < bs.data.toList.length := by omega
    rw [if_pos (by omega), toList_loop bs n (i + 1) _ (by omega), List.drop_eq_getElem_cons hi]
    have e : bs.get! i = bs.data.toList[i] := by
      cases bs with
      | mk d =>
        have hi' : i < d.size := by simpa using hi
        simp [ByteArray.get!, hi']
    rw [e]
    simp
theorem toList_B (l : List UInt8) : (B l).toList = l := by
  unfold ByteArray.toList
  rw [toList_loop (B l) (B l).size 0 [] (by omega)]
  simp [B]
theorem B_drop (l : List UInt8) (a : Nat) : (B l).extract a (B l).size = B (l.drop a) := by
  rw [B_extract, B_size, List.take_of_length_le (by simp)]
theorem B_take (l : List UInt8) (b : Nat) : (B l).extract 0 b = B (l.take b) := by
  rw [B_extract]; simp
theorem bt_zero (b : UInt8) (l : List UInt8) : bt (B (b :: l)) 0 = (b.toNat : Int) := by
  have := bt_at_app (p := []) (s := l) (b := b) (i := 0) rfl
  simpa using this
theorem u49 {b : UInt8} : ((b.toNat : Int) = 49) ↔ b = 49 := by
  rw [← UInt8.toNat_inj]
  show ((b.toNat : Int) = 49) ↔ b.toNat = 49
  omega
theorem u48 {b : UInt8} : ((b.toNat : Int) = 48) ↔ b = 48 := by
  rw [← UInt8.toNat_inj]
  show ((b.toNat : Int) = 48) ↔ b.toNat = 48
  omega
def outB : Option (List UInt8) → ByteArray × Bool
  | some s => (B s, true)
  | none => (B [], false)
theorem impl_endBinary_loop : ∀ (l : List UInt8) (n : Nat), l.length + n < 4611686018427387904 → Ev (fun k => impl_endBinary.l0 k (B l) (n : Int)) (outB (scan l n))
  | l, 0, _ => by
    refine Ev.step (fun k => by rw [impl_endBinary.l0]) ?_
    refine ev_neg (by omega) ?_
    cases l <;> exact Ev.now _
  | [], n + 1, _ => by
    refine Ev.step (fun k => by rw [impl_endBinary.l0]) ?_
    refine ev_pos (by omega) (ev_pos (by rw [toList_B]) ?_)
    refine Ev.step (fun k => by rw [impl_endBinary.j1]) ?_
    exact ev_pos rfl (Ev.now _)
  | b :: l, n + 1, h => by
    have hs : (B (b :: l)).size = l.length + 1 := by rw [B_size]; rfl
    simp only [List.length_cons] at h
    refine Ev.step (fun k => by rw [impl_endBinary.l0]) ?_
    refine ev_pos (by omega) (ev_neg (by rw [toList_B]; simp) (ev_pos (by omega) ?_))
    rw [bt_zero]
    have hd : (B (b :: l)).extract 1 (B (b :: l)).size = B l := by rw [B_drop]; rfl
    refine ev_ite (fun hb => ?_) (fun hb => ?_)
    · have e := u48.1 hb
      subst e
      refine Ev.step (fun k => by rw [impl_endBinary.j1]) ?_
      rw [bt_zero, hd]
      refine ev_neg (by decide) (ev_pos (by omega) (ev_neg (by decide) (ev_pos (by omega) ?_)))
      rw [w64p (by omega)]
      have := impl_endBinary_loop l n (by omega)
      simpa [scan] using this
    · have e : ¬ b = 48 := fun e => hb (u48.2 e)
      by_cases e2 : b = 49
      · subst e2
        refine Ev.step (fun k => by rw [impl_endBinary.j1]) ?_
        rw [bt_zero, hd]
        refine ev_neg (by decide) (ev_pos (by omega) (ev_pos (by decide) (ev_pos (by omega) ?_)))
        rw [w64s (by omega)]
        have := impl_endBinary_loop l (n + 2) (by omega)
        rw [show scan (49 :: l) (n + 1) = scan l (n + 2) by simp [scan]]
        exact this
      · refine Ev.step (fun k => by rw [impl_endBinary.j1]) ?_
        refine ev_pos ?_ (ev_now ?_)
        · rw [bne_iff_ne]
          exact fun h => e2 (u49.1 h)
        · simp only [scan]
          rw [if_neg e2, if_neg e]; rfl
theorem impl_endBinary_ev (l : List UInt8) (h : l.length ≤ 1048576) : Ev (fun k => impl_endBinary.f k (B l)) (outB (scan l 1)) := by
  unfold impl_endBinary.f
  exact impl_endBinary_loop l 1 (by omega)
def outN (n : Nat) : Option (List UInt8) → Int
  | some s => ((n - s.length : Nat) : Int)
  | none => -1
theorem spec_l03End_loop (w : List UInt8) (hw : w.length ≤ 1048576) : ∀ (l : List UInt8) (n i : Nat), l.length + n < 4611686018427387904 → w.drop i = l → i ≤ w.length → Ev (fun k => spec_l03End.l0 k (B w) (i : Int) (n : Int)) (outN w.length (scan l n))
  | l, 0, i, _, hd, hi => by
    refine Ev.step (fun k => by rw [spec_l03End.l0]) ?_
    refine ev_neg (by omega) ?_
    have e : scan l 0 = some l := by cases l <;> rfl
    rw [e]
    refine ev_now ?_
    have := congrArg List.length hd
    rw [List.length_drop] at this
    simp only [outN]; omega
  | [], n + 1, i, _, hd, hi => by
    have hl := congrArg List.length hd
    simp only [List.length_drop, List.length_nil] at hl
    refine Ev.step (fun k => by rw [spec_l03End.l0]) ?_
    refine ev_pos (by omega) (ev_pos (by rw [B_size]; omega) ?_)
    refine Ev.step (fun k => by rw [spec_l03End.j1]) ?_
    exact ev_pos rfl (Ev.now _)
  | b :: l, n + 1, i, h, hd, hi => by
    have hl := congrArg List.length hd
    simp only [List.length_drop, List.length_cons] at hl h
    have hlt : i < w.length := by omega
    rw [List.drop_eq_getElem_cons hlt] at hd
    obtain ⟨hb, hd2⟩ := List.cons.inj hd
    have hg : bt (B w) (i : Int) = (b.toNat : Int) := by rw [bt_B hlt, hb]
    have hs : (B w).size = w.length := B_size w
    refine Ev.step (fun k => by rw [spec_l03End.l0]) ?_
    refine ev_pos (by omega) (ev_neg (by omega) (ev_pos (by omega) (ev_pos (by omega) ?_)))
    rw [hg]
    refine ev_ite (fun hx => ?_) (fun hx => ?_)
    · have e := u48.1 hx
      subst e
      refine Ev.step (fun k => by rw [spec_l03End.j1]) ?_
      rw [hg]
      refine ev_neg (by decide) (ev_pos (by omega) (ev_pos (by omega) (ev_neg (by decide) ?_)))
      rw [w64p (by omega), w64s (by omega)]
      have := spec_l03End_loop w hw l n (i + 1) (by omega) hd2 (by omega)
      simpa [scan] using this
    · have e : ¬ b = 48 := fun e => hx (u48.2 e)
      by_cases e2 : b = 49
      · subst e2
        refine Ev.step (fun k => by rw [spec_l03End.j1]) ?_
        rw [hg]
        refine ev_neg (by decide) (ev_pos (by omega) (ev_pos (by omega) (ev_pos (by decide) ?_)))
        rw [w64s (by omega), w64s (by omega)]
        have := spec_l03End_loop w hw l (n + 2) (i + 1) (by omega) hd2 (by omega)
        rw [show scan (49 :: l) (n + 1) = scan l (n + 2) by simp [scan]]
        exact this
      · refine Ev.step (fun k => by rw [spec_l03End.j1]) ?_
        refine ev_pos ?_ (ev_now ?_)
        · rw [bne_iff_ne]
          exact fun h => e2 (u49.1 h)
        · simp only [scan]
          rw [if_neg e2, if_neg e]; rfl
theorem spec_l03End_ev (w : List UInt8) (hw : w.length ≤ 1048576) (i : Nat) (hi : i ≤ w.length) : Ev (fun k => spec_l03End.f k (B w) (i : Int)) (outN w.length (scan (w.drop i) 1)) := by
  unfold spec_l03End.f
  exact spec_l03End_loop w hw (w.drop i) 1 i (by simp; omega) rfl hi
theorem impl_IsBinary_ev (l : List UInt8) : Ev (fun k => impl_IsBinary.f k (B l)) (isBin l) := by
  unfold impl_IsBinary.f isBin
  rw [B_size]
  refine ev_ite (fun h => ?_) (fun h => ?_)
  · rw [if_pos (by omega)]; exact Ev.now _
  · rw [if_neg (by omega)]
    refine Ev.bind (impl_endBinary_ev l (by omega)) ?_
    cases hs : scan l 1 with
    | none => exact ev_neg (by simp [outB]) (Ev.now _)
    | some s =>
      refine ev_pos rfl (ev_now ?_)
      simp only [outB, toList_B]
      cases s <;> rfl
theorem spec_l03Is_ev (l : List UInt8) : Ev (fun k => spec_l03Is.f k (B l)) (isBin l) := by
  unfold spec_l03Is.f isBin
  rw [B_size]
  refine ev_ite (fun h => ?_) (fun h => ?_)
  · rw [if_neg (by omega)]
    refine Ev.bind (spec_l03End_ev l (by omega) 0 (by omega)) (ev_now ?_)
    rw [List.drop_zero]
    cases hs : scan l 1 with
    | none => simp only [outN]; rw [beq_eq_false_iff_ne]; omega
    | some s =>
      have hl := scan_len l 1 s hs
      simp only [outN]
      cases s with
      | nil => simp
      | cons x s =>
        simp only [List.length_cons] at hl ⊢
        rw [beq_eq_false_iff_ne]; omega
  · rw [if_pos (by omega)]; exact Ev.now _
theorem nodesOf_ev (t : BT) (h : nodes t ≤ 1000) : impl_nodesOf.f (B (enc t)) = some (nodes t : Int) := by
  unfold impl_nodesOf.f
  rw [B_size, enc_length, w64 (by omega) (by omega)]
  congr 1
  omega
theorem l03N_ev (t : BT) (h : nodes t ≤ 1000) : spec_l03N.f (B (enc t)) = some (nodes t : Int) := nodesOf_ev t h
theorem impl_sides_ev (l r : BT) (h : nodes l + nodes r ≤ 1000) : Ev (fun k => impl_sides.f k (B (enc (.node l r)))) (B (enc l), B (enc r)) := by
  have hs : (B (enc (.node l r))).size = 2 * nodes l + 2 * nodes r + 3 := by rw [B_size, enc_length]; simp only [nodes]; omega
  have hd : (B (enc (.node l r))).extract 1 (B (enc (.node l r))).size = B (enc l ++ enc r) := by rw [B_drop]; rfl
  have hl := enc_length l
  have hr := enc_length r
  have hw : (enc (.node l r)).length = 2 * nodes l + 2 * nodes r + 3 := by rw [enc_length]; simp only [nodes]; omega
  unfold impl_sides.f
  rw [hd]
  refine ev_pos (by omega) (Ev.bind (impl_endBinary_ev _ (by simp; omega)) ?_)
  rw [scan_one l (enc r)]
  simp only [outB, B_size, hr, hw]
  rw [w64 (by omega) (by omega)]
  refine ev_pos (by omega) (ev_pos (by omega) (ev_now ?_))
  rw [B_extract, show (((2 * nodes l + 2 * nodes r + 3 : Nat) : Int) - ((2 * nodes r + 1 : Nat) : Int)).toNat - 1 = (enc l).length by omega]
  congr 2
  show (enc l ++ enc r).take (enc l).length = enc l
  simp
theorem spec_l03Sides_ev (l r : BT) (h : nodes l + nodes r ≤ 1000) : Ev (fun k => spec_l03Sides.f k (B (enc (.node l r)))) (B (enc l), B (enc r)) := by
  have hw : (enc (.node l r)).length = 2 * nodes l + 2 * nodes r + 3 := by rw [enc_length]; simp only [nodes]; omega
  have hl := enc_length l
  have hr := enc_length r
  unfold spec_l03Sides.f
  have hE := spec_l03End_ev (enc (.node l r)) (by omega) 1 (by omega)
  have hd : (enc (.node l r)).drop 1 = enc l ++ enc r := rfl
  rw [hd, scan_one l (enc r)] at hE
  have e : outN (enc (.node l r)).length (some (enc r)) = ((2 * nodes l + 2 : Nat) : Int) := by simp only [outN]; rw [hw, hr]; omega
  rw [e] at hE
  refine Ev.bind hE (ev_pos (by omega) (ev_pos (by rw [B_size]; omega) (ev_pos (by omega) (ev_now ?_))))
  rw [B_drop, B_extract, hd, show (((2 * nodes l + 2 : Nat) : Int)).toNat = (enc l).length + 1 by omega]
  rw [show (enc (.node l r)).drop ((enc l).length + 1) = (enc l ++ enc r).drop (enc l).length by rfl]
  simp
end Go.Proofs.Ytnofaibiigpbmaa.E
namespace Go.Proofs.Ytnofaibiigpbmaa.E
set_option linter.unusedVariables false
set_option linter.unusedSectionVars false
open Go.RowKit Go.Proofs.YtnofaibiigpbmaaW.PrintWords Go.Proofs.YtnofaibiigpbmaaW.PrintMore Go.Proofs.Ytnofaibiigpbmaa.Base Go.Proofs.Ytnofaibiigpbmaa.Bin

def twoM (w u : List UInt8) : Int := if isBin w = true ∧ isBin u = true then (if w.length = u.length then 0 else 2) else 1
theorem spec_both_ev (w u : List UInt8) : Ev (fun k => spec_l03Both.f k (B w) (B u)) (twoM w u) := by
  unfold spec_l03Both.f twoM
  refine Ev.bind (spec_l03Is_ev w) (ev_ite (fun hw => Ev.bind (spec_l03Is_ev u) ?_) (fun hw => ?_))
  · refine Ev.step (fun k => by rw [spec_l03Both.j0]) ?_
    cases hu : isBin u with
    | true =>
      rw [if_pos (show isBin w = true ∧ true = true from ⟨hw, rfl⟩)]
      simp only [B_size]
      refine ev_neg (by decide) (ev_ite (fun hx => ?_) (fun hx => ?_))
      · rw [if_pos (by omega)]; exact Ev.now _
      · rw [if_neg (by omega)]; exact Ev.now _
    | false =>
      rw [if_neg (show ¬ (isBin w = true ∧ false = true) by simp)]
      exact ev_pos rfl (Ev.now _)
  · refine Ev.step (fun k => by rw [spec_l03Both.j0]) ?_
    rw [if_neg (show ¬ (isBin w = true ∧ isBin u = true) from fun h => hw h.1)]
    exact ev_pos rfl (Ev.now _)
theorem impl_two_ev (w u : List UInt8) : Ev (fun k => impl_twoCode.f k (B w) (B u)) (twoM w u) := by
  have ha : Ev (fun k => impl_areBinary.f k [B w, B u]) (isBin w && isBin u) := by
    have e1 : wrap64 ((0 : Int) + 1) = 1 := by unfold wrap64; decide
    have e2 : wrap64 ((1 : Int) + 1) = 2 := by unfold wrap64; decide
    unfold impl_areBinary.f
    refine Ev.step (fun k => by rw [impl_areBinary.l0]) ?_
    rw [e1]
    refine ev_pos (by simp) (ev_pos (by decide) (ev_pos (by simp) (Ev.bind (impl_IsBinary_ev w) (ev_ite (fun hw => ?_) (fun hw => ?_)))))
    · rw [hw, Bool.true_and]
      refine Ev.step (fun k => by rw [impl_areBinary.l0]) ?_
      rw [e2]
      refine ev_pos (by simp) (ev_pos (by decide) (ev_pos (by simp) (Ev.bind (impl_IsBinary_ev u) (ev_ite (fun hu => ?_) (fun hu => ?_)))))
      · rw [hu]
        refine Ev.step (fun k => by rw [impl_areBinary.l0]) ?_
        exact ev_neg (by simp) (Ev.now _)
      · rw [(by simpa using hu : isBin u = false)]; exact Ev.now _
    · rw [(by simpa using hw : isBin w = false)]; exact Ev.now _
  unfold impl_twoCode.f twoM
  refine Ev.bind ha (ev_ite (fun hx => ?_) (fun hx => ?_))
  · rw [if_pos (show isBin w = true ∧ isBin u = true by simpa using hx)]
    simp only [B_size]
    refine ev_ite (fun hx => ?_) (fun hx => ?_)
    · rw [if_pos (by omega)]; exact Ev.now _
    · rw [if_neg (by omega)]; exact Ev.now _
  · rw [if_neg (show ¬ (isBin w = true ∧ isBin u = true) by simpa using hx)]; exact Ev.now _
end Go.Proofs.Ytnofaibiigpbmaa.E
namespace Go.Proofs.Ytnofaibiigpbmaa.E
set_option linter.unusedVariables false
set_option linter.unusedSectionVars false
open Go.RowKit Go.Proofs.YtnofaibiigpbmaaW.PrintWords Go.Proofs.Ytnofaibiigpbmaa.Base Go.Proofs.Ytnofaibiigpbmaa.Bin

structure AtNode (w : List UInt8) (i : Nat) (p : List UInt8) (l r : BT) (s : List UInt8) : Prop where
  eq : w = p ++ (enc (.node l r) ++ s)
  ones : ones p = i
  few : w.length ≤ 1000
theorem AtNode.small {w p s : List UInt8} {i : Nat} {l r : BT} (h : AtNode w i p l r s) : p.length + (2 * nodes l + 2 * nodes r + 3) + s.length = w.length := by
  have := h.eq
  rw [this]
  simp only [List.length_append, enc_length, nodes]
  omega
theorem ones_le : ∀ (l : List UInt8), ones l ≤ l.length
  | [] => Nat.le_refl _
  | b :: l => by have := ones_le l; simp only [ones, List.length_cons]; split <;> omega
theorem ahead_byte {w p s : List UInt8} {i : Nat} {l r : BT} (h : AtNode w i p l r s) {j : Nat} (hj : j < p.length) : bt (B w) (j : Int) = (p[j].toNat : Int) := by
  have := h.small
  rw [bt_B (by omega)]
  have e := h.eq
  congr 2
  subst e
  rw [List.getElem_append_left hj]
theorem node_byte {w p s : List UInt8} {i : Nat} {l r : BT} (h : AtNode w i p l r s) : bt (B w) (p.length : Int) = 49 := by
  have e := h.eq
  subst e
  simp only [enc, List.cons_append]
  rw [bt_at_app rfl]
  rfl
theorem ones_step {p : List UInt8} {j : Nat} (hj : j < p.length) : ones (p.drop j) = (if p[j] = 49 then 1 else 0) + ones (p.drop (j + 1)) := by
  rw [List.drop_eq_getElem_cons hj]; rfl
section
variable {w p s : List UInt8} {i : Nat} {l r : BT} (h : AtNode w i p l r s)
include h
theorem spec_place_loop : ∀ (m j : Nat), j + m = p.length → Ev (fun k => spec_l03Place.l0 k (B w) (ones (p.drop j) : Int) (j : Int)) (p.length : Int)
  | 0, j, hj => by
    have hs := h.small
    have hf := h.few
    have e : j = p.length := by omega
    subst e
    refine Ev.step (fun k => by rw [spec_l03Place.l0]) ?_
    rw [node_byte h, List.drop_length]
    exact ev_pos (by omega) (ev_pos (by rw [B_size]; omega) (ev_pos rfl (ev_pos rfl (Ev.now _))))
  | m + 1, j, hj => by
    have hs := h.small
    have hf := h.few
    have hl : j < p.length := by omega
    have ih := spec_place_loop m (j + 1) (by omega)
    have ho := ones_step hl
    have hle := ones_le (p.drop j)
    rw [List.length_drop] at hle
    refine Ev.step (fun k => by rw [spec_l03Place.l0]) ?_
    rw [ahead_byte h hl, w64s (by omega)]
    refine ev_pos (by omega) (ev_pos (by rw [B_size]; omega) (ev_ite (fun hb => ?_) (fun hb => ?_)))
    · rw [if_pos (u49.1 hb)] at ho
      refine ev_neg (by omega) ?_
      rw [w64 (by omega) (by omega), show (ones (p.drop j) : Int) - 1 = (ones (p.drop (j + 1)) : Int) by omega]
      exact ih
    · rw [if_neg (fun e => hb (u49.2 e))] at ho
      rw [show ones (p.drop j) = ones (p.drop (j + 1)) by omega]
      exact ih
theorem spec_place_ev : Ev (fun k => spec_l03Place.f k (B w) (i : Int)) (p.length : Int) := by
  unfold spec_l03Place.f
  have := spec_place_loop h p.length 0 (by omega)
  rw [List.drop_zero, h.ones] at this
  exact this
theorem scan_at : scan (w.drop p.length) 1 = some s := by
  have e := h.eq
  rw [e, List.drop_left]
  exact scan_one _ _
theorem part_at : (w.drop p.length).take (2 * nodes l + 2 * nodes r + 3) = enc (.node l r) := by
  have e := h.eq
  rw [e, List.drop_left, show 2 * nodes l + 2 * nodes r + 3 = (enc (.node l r)).length by rw [enc_length]; simp only [nodes]; omega]
  simp
theorem behind_at : w.drop (p.length + (2 * nodes l + 2 * nodes r + 3)) = s := by
  have e := h.eq
  rw [e, ← List.append_assoc, show p.length + (2 * nodes l + 2 * nodes r + 3) = (p ++ enc (.node l r)).length by rw [List.length_append, enc_length]; simp only [nodes]; omega]
  exact List.drop_left
theorem ahead_at : w.take p.length = p := by
  have e := h.eq
  rw [e, List.take_left]
theorem impl_part_loop : ∀ (m j : Nat), j + m = p.length → Ev (fun k => impl_partAt.l0 k (B w) (i : Int) (j : Int) (ones (p.take j) - 1 : Int)) (B p, B (enc (.node l r)), B s)
  | 0, j, hj => by
    have hs := h.small
    have hf := h.few
    have e : j = p.length := by omega
    subst e
    have ho := h.ones
    have hle := ones_le p
    refine Ev.step (fun k => by rw [impl_partAt.l0]) ?_
    rw [node_byte h, List.take_length, ho, w64 (by omega) (by omega), B_drop, B_size]
    refine ev_pos (by omega) (ev_pos (by omega) (ev_pos rfl (ev_pos (by omega) (ev_pos (by omega) (Ev.bind (impl_endBinary_ev _ (by simp; omega)) ?_)))))
    rw [show (((p.length : Nat) : Int)).toNat = p.length from rfl, scan_at h]
    simp only [outB, B_size]
    rw [w64 (by omega) (by omega)]
    refine ev_pos (by omega) (ev_pos (by omega) (ev_now ?_))
    rw [B_take, B_extract, show ((w.length : Int) - (s.length : Int)).toNat - p.length = 2 * nodes l + 2 * nodes r + 3 by omega, part_at h, ahead_at h]
  | m + 1, j, hj => by
    have hs := h.small
    have hf := h.few
    have hl : j < p.length := by omega
    have ih := impl_part_loop m (j + 1) (by omega)
    have ho := h.ones
    have hsum := ones_append (p.take j) (p.drop j)
    rw [List.take_append_drop, ones_step hl] at hsum
    have hsum2 := ones_append (p.take (j + 1)) (p.drop (j + 1))
    rw [List.take_append_drop] at hsum2
    have hle := ones_le p
    refine Ev.step (fun k => by rw [impl_partAt.l0]) ?_
    rw [ahead_byte h hl, w64s (by omega)]
    refine ev_pos (by omega) (ev_pos (by rw [B_size]; omega) (ev_ite (fun hb => ?_) (fun hb => ?_)))
    · rw [if_pos (u49.1 hb)] at hsum
      rw [w64 (by omega) (by omega)]
      refine ev_neg (by omega) ?_
      rw [show (ones (p.take j) : Int) - 1 + 1 = (ones (p.take (j + 1)) : Int) - 1 by omega]
      exact ih
    · rw [if_neg (fun e => hb (u49.2 e))] at hsum
      rw [show (ones (p.take j) : Int) - 1 = (ones (p.take (j + 1)) : Int) - 1 by omega]
      exact ev_neg (by omega) ih
theorem impl_partAt_ev : Ev (fun k => impl_partAt.f k (B w) (i : Int)) (B p, B (enc (.node l r)), B s) := by
  unfold impl_partAt.f
  have := impl_part_loop h p.length 0 (by omega)
  simpa [ones] using this
end
theorem lit1 : (⟨#[49]⟩ : ByteArray) = B [49] := rfl
theorem lit2 : (⟨#[49, 49]⟩ : ByteArray) = B [49, 49] := rfl
def outR (p s : List UInt8) : Option BT → ByteArray × Bool
  | some u => (B (p ++ (enc u ++ s)), true)
  | none => (B [], false)
section
variable {w p s : List UInt8} {i : Nat} {l r : BT} (h : AtNode w i p l r s)
include h
theorem spec_turn_ev (right : Bool) : Ev (fun k => spec_l03Turn.f k (B w) (i : Int) right) (outR p s (turn right l r)) := by
  have hs := h.small
  have hf := h.few
  have hE := spec_l03End_ev w (by omega) p.length (by omega)
  rw [scan_at h] at hE
  have e : outN w.length (some s) = ((p.length + (2 * nodes l + 2 * nodes r + 3) : Nat) : Int) := by simp only [outN]; omega
  rw [e] at hE
  have hx : (B w).extract (((p.length : Nat) : Int)).toNat (((p.length + (2 * nodes l + 2 * nodes r + 3) : Nat) : Int)).toNat = B (enc (.node l r)) := by
    rw [B_extract, show (((p.length + (2 * nodes l + 2 * nodes r + 3) : Nat) : Int)).toNat - (((p.length : Nat) : Int)).toNat = 2 * nodes l + 2 * nodes r + 3 by omega]
    rw [show (((p.length : Nat) : Int)).toNat = p.length from rfl, part_at h]
  have ha : (B w).extract 0 (((p.length : Nat) : Int)).toNat = B p := by
    rw [B_take, show (((p.length : Nat) : Int)).toNat = p.length from rfl, ahead_at h]
  have hb : (B w).extract (((p.length + (2 * nodes l + 2 * nodes r + 3) : Nat) : Int)).toNat (B w).size = B s := by
    rw [B_drop, show (((p.length + (2 * nodes l + 2 * nodes r + 3) : Nat) : Int)).toNat = p.length + (2 * nodes l + 2 * nodes r + 3) from rfl, behind_at h]
  have hl := enc_length l
  have hr := enc_length r
  unfold spec_l03Turn.f
  refine Ev.bind (spec_place_ev h) (Ev.bind hE ?_)
  simp only [hx, ha, hb]
  refine ev_pos (by omega) (ev_pos (by omega) (ev_pos (by rw [B_size]; omega) (Ev.bind (spec_l03Sides_ev l r (by omega)) ?_)))
  cases right with
  | true =>
    refine ev_pos rfl ?_
    cases l with
    | leaf => exact ev_pos (by rw [toList_B]; rfl) (Ev.now _)
    | node x y =>
      have hx := enc_length x
      have hy := enc_length y
      simp only [nodes] at hs hl
      refine ev_neg (by rw [toList_B]; simp [enc]) (Ev.bind (spec_l03Sides_ev x y (by omega)) ?_)
      simp only [lit1, B_append, B_size, List.length_append, List.length_cons, List.length_nil]
      refine ev_pos (by omega) (ev_pos (by omega) (ev_pos (by omega) (ev_pos (by omega) (ev_pos (by omega) (ev_pos (by omega) (ev_pos (by omega) (ev_pos (by omega) (ev_now ?_))))))))
      simp [outR, turn, enc]
  | false =>
    refine ev_neg (by decide) ?_
    cases r with
    | leaf => exact ev_pos (by rw [toList_B]; rfl) (Ev.now _)
    | node x y =>
      have hx := enc_length x
      have hy := enc_length y
      simp only [nodes] at hs hr
      refine ev_neg (by rw [toList_B]; simp [enc]) (Ev.bind (spec_l03Sides_ev x y (by omega)) ?_)
      simp only [lit2, B_append, B_size, List.length_append, List.length_cons, List.length_nil]
      refine ev_pos (by omega) (ev_pos (by omega) (ev_pos (by omega) (ev_pos (by omega) (ev_pos (by omega) (ev_pos (by omega) (ev_pos (by omega) (ev_now ?_)))))))
      simp [outR, turn, enc]
theorem impl_rotated_ev (right : Bool) : Ev (fun k => impl_rotated.f k (B w) (i : Int) right) (outR p s (turn right l r)) := by
  have hs := h.small
  have hf := h.few
  have hl := enc_length l
  have hr := enc_length r
  unfold impl_rotated.f
  refine Ev.bind (impl_partAt_ev h) (Ev.bind (impl_sides_ev l r (by omega)) ?_)
  cases right with
  | true =>
    refine ev_pos rfl ?_
    cases l with
    | leaf => exact ev_pos (by rw [toList_B]; rfl) (Ev.now _)
    | node x y =>
      have hx := enc_length x
      have hy := enc_length y
      simp only [nodes] at hs hl
      refine ev_neg (by rw [toList_B]; simp [enc]) (Ev.bind (impl_sides_ev x y (by omega)) ?_)
      simp only [lit1, B_append, B_size, List.length_append, List.length_cons, List.length_nil]
      refine ev_pos (by omega) (ev_pos (by omega) (ev_pos (by omega) (ev_pos (by omega) (ev_pos (by omega) (ev_pos (by omega) (ev_now ?_))))))
      simp [outR, turn, enc]
  | false =>
    refine ev_neg (by decide) ?_
    cases r with
    | leaf => exact ev_pos (by rw [toList_B]; rfl) (Ev.now _)
    | node x y =>
      have hx := enc_length x
      have hy := enc_length y
      simp only [nodes] at hs hr
      refine ev_neg (by rw [toList_B]; simp [enc]) (Ev.bind (impl_sides_ev x y (by omega)) ?_)
      simp only [lit2, B_append, B_size, List.length_append, List.length_cons, List.length_nil]
      refine ev_pos (by omega) (ev_pos (by omega) (ev_pos (by omega) (ev_pos (by omega) (ev_pos (by omega) (ev_now ?_)))))
      simp [outR, turn, enc]
end
def nodeM (w : List UInt8) (i : Int) : Int := if isBin w = true then (if 0 ≤ i ∧ i < ((w.length / 2 : Nat) : Int) then 0 else 2) else 1
theorem nodeM_at {w : List UInt8} {i : Int} (hc : nodeM w i = 0) : isBin w = true ∧ ∃ (j : Nat) (p : List UInt8) (l r : BT) (s : List UInt8), i = j ∧ AtNode w j p l r s := by
  unfold nodeM at hc
  split at hc
  · rename_i hw
    refine ⟨hw, ?_⟩
    split at hc
    · rename_i hi
      obtain ⟨t, e, ht⟩ := isBin_sound hw
      have hl := enc_length t
      subst e
      obtain ⟨p, l, r, s, h1, h2⟩ := at_node t i.toNat (by omega)
      exact ⟨i.toNat, p, l, r, s, by omega, h1, h2, by omega⟩
    · cases hc
  · cases hc
theorem spec_node_ev (w : List UInt8) (i : Int) : Ev (fun k => spec_l03Node.f k (B w) i) (nodeM w i) := by
  unfold spec_l03Node.f nodeM
  refine Ev.bind (spec_l03Is_ev w) ?_
  refine ev_ite (fun hw => ?_) (fun hw => ?_)
  · have hl : w.length ≤ 47 := by obtain ⟨t, e, ht⟩ := isBin_sound hw; rw [e, enc_length]; omega
    rw [if_pos hw]
    unfold spec_l03N.f spec_l01In.f
    rw [B_size, w64 (x := (w.length : Int) / 2) (by omega) (by omega), Option.bind_some, w64 (by omega) (by omega)]
    by_cases h0 : i ≥ 0
    · rw [if_pos h0, Option.bind_some]
      refine ev_ite (fun hx => ?_) (fun hx => ?_)
      · rw [decide_eq_true_eq] at hx; rw [if_pos (by omega)]; exact Ev.now _
      · rw [decide_eq_true_eq] at hx; rw [if_neg (by omega)]; exact Ev.now _
    · rw [if_neg h0, Option.bind_some, if_neg (show ¬ (0 ≤ i ∧ i < ((w.length / 2 : Nat) : Int)) by omega)]
      exact ev_neg (by decide) (Ev.now _)
  · rw [if_neg hw]; exact Ev.now _
theorem impl_rotate_ev (w : List UInt8) (i : Int) (right : Bool) {r : ByteArray × Int}
    (h0 : nodeM w i = 0 → Ev (fun k => (impl_rotated.f k (B w) i right).bind fun b => if b.2 = true then some (b.1, 0) else some (B [], 5)) r) (h1 : nodeM w i ≠ 0 → r = (B [], nodeM w i)) : Ev (fun k => impl_rotate.f k (B w) i right) r := by
  unfold impl_rotate.f
  unfold nodeM at h0 h1
  refine Ev.bind (impl_IsBinary_ev w) ?_
  refine ev_ite (fun hw => ?_) (fun hw => ?_)
  · have hl : w.length ≤ 47 := by obtain ⟨t, e, ht⟩ := isBin_sound hw; rw [e, enc_length]; omega
    rw [if_pos hw] at h0 h1
    refine ev_ite (fun hi => ?_) (fun hi => ?_)
    · refine Ev.step (fun k => by rw [impl_rotate.j0]) ?_
      refine ev_pos rfl (ev_now ?_)
      rw [if_neg (by omega)] at h1
      exact (h1 (by decide)).symm
    · unfold impl_nodesOf.f
      rw [B_size, w64 (x := (w.length : Int) / 2) (by omega) (by omega)]
      refine ev_some ?_
      refine Ev.step (fun k => by rw [impl_rotate.j0]) ?_
      refine ev_ite (fun hx => ?_) (fun hx => ?_)
      · rw [decide_eq_true_eq] at hx
        rw [if_neg (by omega)] at h1
        exact ev_now (h1 (by decide)).symm
      · rw [decide_eq_true_eq] at hx
        rw [if_pos (by omega)] at h0
        exact h0 rfl
  · rw [if_neg hw] at h1
    exact ev_now (h1 (by decide)).symm
theorem both_RotateLeft (w : List UInt8) (i : Int) : ∃ r : ByteArray × Int, Ev (fun k => spec_RotateLeft.f k (B w) i) r ∧ Ev (fun k => impl_RotateLeft.f k (B w) i) r := by
  by_cases hc : nodeM w i = 0
  · obtain ⟨hw, j, p, l, r, s, rfl, h⟩ := nodeM_at hc
    refine ⟨match outR p s (turn false l r) with | (u, true) => (u, 0) | (_, false) => (B [], 5), ?_, ?_⟩
    · unfold spec_RotateLeft.f
      refine Ev.bind (spec_node_ev w _) (ev_pos hc (Ev.bind (spec_turn_ev h false) ?_))
      cases turn false l r with
      | none => exact ev_neg (by simp [outR]) (Ev.now _)
      | some u => exact ev_pos rfl (Ev.now _)
    · unfold impl_RotateLeft.f
      refine Ev.bind (impl_rotate_ev w _ false (fun _ => Ev.bind (impl_rotated_ev h false) ?_) (fun hn => absurd hc hn)) (ev_now rfl)
      cases turn false l r with
      | none => exact ev_neg (by simp [outR]) (Ev.now _)
      | some u => exact ev_pos rfl (Ev.now _)
  · refine ⟨(B [], nodeM w i), ?_, ?_⟩
    · unfold spec_RotateLeft.f
      exact Ev.bind (spec_node_ev w _) (ev_neg hc (Ev.now _))
    · unfold impl_RotateLeft.f
      exact Ev.bind (impl_rotate_ev w _ false (fun h => absurd h hc) (fun _ => rfl)) (ev_now rfl)
end Go.Proofs.Ytnofaibiigpbmaa.E
namespace Go.Proofs.Ytnofaibiigpbmaa.E
set_option linter.unusedVariables false
set_option linter.unusedSectionVars false
open Go.RowKit Go.Proofs.YtnofaibiigpbmaaW.PrintWords Go.Proofs.Ytnofaibiigpbmaa.Base Go.Proofs.Ytnofaibiigpbmaa.Bin

def outQ : Option BT → ByteArray × Bool
  | some u => (B (enc u), true)
  | none => (B [], false)
theorem outR_rot {t l r : BT} {p s : List UInt8} {i : Nat} {b : Bool} (h : (turn b l r).map (fun u => p ++ (enc u ++ s)) = (rotAt t i b).map enc) : outR p s (turn b l r) = outQ (rotAt t i b) := by
  cases ht : turn b l r with
  | none =>
    rw [ht] at h
    cases hr : rotAt t i b with
    | none => rfl
    | some y => rw [hr] at h; simp at h
  | some x =>
    rw [ht] at h
    cases hr : rotAt t i b with
    | none => rw [hr] at h; simp at h
    | some y =>
      rw [hr] at h
      simp only [Option.map_some, Option.some.injEq] at h
      simp only [outR, outQ, h]
theorem spec_rot_ev {t : BT} {i : Nat} (hi : i < nodes t) (ht : nodes t ≤ 400) (b : Bool) : Ev (fun k => spec_l03Turn.f k (B (enc t)) (i : Int) b) (outQ (rotAt t i b)) := by
  obtain ⟨p, l, r, s, h1, h2, h3⟩ := at_rot t i hi
  have := spec_turn_ev (w := enc t) ⟨h1, h2, by rw [enc_length]; omega⟩ b
  rwa [outR_rot (h3 b)] at this
theorem impl_rot_ev {t : BT} {i : Nat} (hi : i < nodes t) (ht : nodes t ≤ 400) (b : Bool) : Ev (fun k => impl_rotated.f k (B (enc t)) (i : Int) b) (outQ (rotAt t i b)) := by
  obtain ⟨p, l, r, s, h1, h2, h3⟩ := at_rot t i hi
  have := impl_rotated_ev (w := enc t) ⟨h1, h2, by rw [enc_length]; omega⟩ b
  rwa [outR_rot (h3 b)] at this
def kl (P : KS) : List ByteArray := P.map fun p => B (enc p.1)
def sn (P : KS) : List Int := P.map fun p => p.2
theorem kl_len (P : KS) : (kl P).length = P.length := by simp [kl]
theorem sn_len (P : KS) : (sn P).length = P.length := by simp [sn]
theorem kl_get {P : KS} {i : Nat} {x : BT × Int} (h : P[i]? = some x) : rdOf ByteArray.empty (kl P) (i : Int) = B (enc x.1) := by
  unfold rdOf kl
  rw [show ((i : Int)).toNat = i from rfl, List.getD_eq_getElem?_getD, List.getElem?_map, h]; rfl
theorem sn_get {P : KS} {i : Nat} {x : BT × Int} (h : P[i]? = some x) : rd (sn P) (i : Int) = x.2 := by
  rw [rd_nat]
  unfold sn
  rw [List.getD_eq_getElem?_getD, List.getElem?_map, h]; rfl
theorem get_lt {P : KS} {i : Nat} {x : BT × Int} (h : P[i]? = some x) : i < P.length := (List.getElem?_eq_some_iff.1 h).1
theorem add_get {P : KS} {i : Nat} {x : BT × Int} {d : Int} {z : Option BT} (h : P[i]? = some x) : (addK P d z)[i]? = some x := by
  obtain ⟨Q, e⟩ := addK_pre P d z
  rw [e, List.getElem?_append_left (get_lt h)]; exact h
theorem keys_get {P : KS} {i : Nat} {x : BT × Int} (h : P[i]? = some x) : (keys P)[i]? = some (enc x.1) := by
  unfold keys
  rw [List.getElem?_map, h]; rfl
theorem keys_len (P : KS) : (keys P).length = P.length := by simp [keys]
section
variable {w u : BT} {P : KS} {at_ : Nat} {x : BT × Int} (hx : P[at_]? = some x) (hP : P.length ≤ 40000) (hd : 0 ≤ x.2 ∧ x.2 ≤ 40000)
include hx hP hd
theorem spec_skip {i x11 : Int} {z : ByteArray} {q : Int × Int} (j : Int) (H : Ev (fun k => spec_TurnsBetween.l2 k (B (enc w)) (B (enc u)) (kl P) (sn P) (at_ : Int) i (wrap64 (x11 + 1))) q) :
    Ev (fun k => spec_TurnsBetween.l3 k (B (enc w)) (B (enc u)) (kl P) (sn P) (at_ : Int) i x11 z false j) q := by
  refine Ev.step (fun k => by rw [spec_TurnsBetween.l3]) ?_
  exact ev_ite (fun _ => ev_neg (by decide) H) (fun _ => ev_neg (by decide) H)
theorem spec_search {i x11 : Int} (z : BT) {q : Int × Int} (H : Ev (fun k => spec_TurnsBetween.l2 k (B (enc w)) (B (enc u)) (kl (addK P (x.2 + 1) (some z))) (sn (addK P (x.2 + 1) (some z))) (at_ : Int) i (wrap64 (x11 + 1))) q) :
    ∀ (m j : Nat), j + m = P.length → (enc z ∈ keys P → enc z ∈ (keys P).drop j) → Ev (fun k => spec_TurnsBetween.l3 k (B (enc w)) (B (enc u)) (kl P) (sn P) (at_ : Int) i x11 (B (enc z)) true (j : Int)) q
  | 0, j, hj, hz => by
    have hl := get_lt hx
    rw [List.drop_of_length_le (by rw [keys_len]; omega)] at hz
    have hn : ¬ enc z ∈ keys P := fun h => by cases hz h
    simp only [addK, if_neg hn] at H
    refine Ev.step (fun k => by rw [spec_TurnsBetween.l3]) ?_
    rw [kl_len, sn_len, sn_get hx, w64 (x := x.2 + 1) (by omega) (by omega)]
    refine ev_neg (by omega) (ev_pos rfl (ev_pos (by omega) (ev_pos (by omega) (ev_pos (by omega) (ev_pos (by omega) ?_)))))
    have e1 : kl (P ++ [(z, x.2 + 1)]) = kl P ++ [B (enc z)] := by simp [kl]
    have e2 : sn (P ++ [(z, x.2 + 1)]) = sn P ++ [x.2 + 1] := by simp [sn]
    rw [e1, e2] at H
    exact H
  | m + 1, j, hj, hz => by
    have hjl : j < P.length := by omega
    have hy : P[j]? = some P[j] := List.getElem?_eq_getElem hjl
    have hky := keys_get hy
    refine Ev.step (fun k => by rw [spec_TurnsBetween.l3]) ?_
    rw [kl_len, kl_get hy, toList_B, toList_B, w64s (by omega)]
    refine ev_pos (by omega) (ev_pos rfl (ev_pos (by omega) ?_))
    by_cases he : enc P[j].1 = enc z
    · have hm : enc z ∈ keys P := by rw [← he]; exact List.mem_of_getElem? hky
      simp only [addK, if_pos hm] at H
      rw [he, show (enc z != enc z) = false by simp]
      exact spec_skip hx hP hd _ H
    · rw [show (enc P[j].1 != enc z) = true by simpa using he]
      refine spec_search z H m (j + 1) (by omega) (fun h => ?_)
      have h2 := hz h
      have hjk : j < (keys P).length := by rw [keys_len]; exact hjl
      rw [List.drop_eq_getElem_cons hjk] at h2
      rcases List.mem_cons.1 h2 with h2 | h2
      · rw [List.getElem?_eq_getElem hjk] at hky
        exact absurd ((Option.some.inj hky).symm.trans h2.symm) he
      · exact h2
theorem spec_one {i : Nat} (hi : i < nodes x.1) (hn : nodes x.1 ≤ 7) (b : Bool) (x11 : Int) (hb : (x11 == 0) = b) (h2 : x11 < 2) {q : Int × Int}
    (H : Ev (fun k => spec_TurnsBetween.l2 k (B (enc w)) (B (enc u)) (kl (addK P (x.2 + 1) (rotAt x.1 i b))) (sn (addK P (x.2 + 1) (rotAt x.1 i b))) (at_ : Int) (i : Int) (wrap64 (x11 + 1))) q) :
    Ev (fun k => spec_TurnsBetween.l2 k (B (enc w)) (B (enc u)) (kl P) (sn P) (at_ : Int) (i : Int) x11) q := by
  have hl := get_lt hx
  have ht := spec_rot_ev hi (by omega) b
  refine Ev.step (fun k => by rw [spec_TurnsBetween.l2]) ?_
  rw [kl_len, kl_get hx, hb]
  refine ev_pos h2 (ev_pos (by omega) (ev_pos (by omega) (Ev.bind ht ?_)))
  cases hr : rotAt x.1 i b with
  | none =>
    rw [hr] at H
    exact spec_skip hx hP hd _ H
  | some z =>
    rw [hr] at H
    exact spec_search hx hP hd z H P.length 0 (by omega) (fun h => by simpa using h)
end
theorem spec_nodes {w u : BT} {n : Nat} (hw : nodes w = n) (hn : n ≤ 7) {at_ : Nat} {x : BT × Int} (hxn : nodes x.1 = n) {q : Int × Int} : ∀ (m i : Nat) (P : KS), i + m = n → KG n P → P[at_]? = some x →
    Ev (fun k => spec_TurnsBetween.l0 k (B (enc w)) (B (enc u)) (kl (innK x.1 (x.2 + 1) m i P)) (sn (innK x.1 (x.2 + 1) m i P)) (wrap64 ((at_ : Int) + 1))) q →
    Ev (fun k => spec_TurnsBetween.l1 k (B (enc w)) (B (enc u)) (kl P) (sn P) (at_ : Int) (i : Int)) q
  | 0, i, P, hi, hP, hx, H => by
    refine Ev.step (fun k => by rw [spec_TurnsBetween.l1]) ?_
    rw [l03N_ev w (by omega)]
    exact ev_some (ev_neg (by omega) H)
  | m + 1, i, P, hi, hP, hx, H => by
    have hf := hP.few hn
    have hv := hP.vv x (List.mem_of_getElem? hx)
    have hz : ∀ b v, rotAt x.1 i b = some v → nodes v = n := fun b v e => (rotAt_nodes x.1 i b v e).trans hxn
    have hP1 := hP.add (d := x.2 + 1) (by omega) (by omega) (hz true)
    have hx1 : (addK P (x.2 + 1) (rotAt x.1 i true))[at_]? = some x := add_get hx
    have hf1 := hP1.few hn
    have hv1 := hP1.vv x (List.mem_of_getElem? hx1)
    have hP2 := hP1.add (d := x.2 + 1) (by omega) (by omega) (hz false)
    have hx2 : (addK (addK P (x.2 + 1) (rotAt x.1 i true)) (x.2 + 1) (rotAt x.1 i false))[at_]? = some x := add_get hx1
    refine Ev.step (fun k => by rw [spec_TurnsBetween.l1]) ?_
    rw [l03N_ev w (by omega)]
    refine ev_some (ev_pos (by omega) ?_)
    refine spec_one hx (by omega) (by omega) (by omega) (by omega) true 0 rfl (by decide) ?_
    rw [show wrap64 ((0 : Int) + 1) = 1 by unfold wrap64; decide]
    refine spec_one hx1 (by omega) (by omega) (by omega) (by omega) false 1 rfl (by decide) ?_
    rw [show wrap64 ((1 : Int) + 1) = 2 by unfold wrap64; decide]
    refine Ev.step (fun k => by rw [spec_TurnsBetween.l2]) ?_
    rw [w64s (by omega)]
    exact ev_neg (by decide) (spec_nodes hw hn hxn m (i + 1) _ (by omega) hP2 hx2 H)
theorem spec_levels {w u : BT} {n : Nat} (hw : nodes w = n) (hn : n ≤ 7) : ∀ (m at_ : Nat) (P : KS), at_ + m = 32769 → KG n P →
    Ev (fun k => spec_TurnsBetween.l0 k (B (enc w)) (B (enc u)) (kl P) (sn P) (at_ : Int)) (resK u n m at_ P, 0)
  | 0, at_, P, hi, hP => by
    have hf := hP.few hn
    refine Ev.step (fun k => by rw [spec_TurnsBetween.l0]) ?_
    rw [kl_len]
    exact ev_neg (by omega) (Ev.now _)
  | m + 1, at_, P, hi, hP => by
    have hf := hP.few hn
    simp only [resK]
    cases hx : P[at_]? with
    | none =>
      have : P.length ≤ at_ := List.getElem?_eq_none_iff.1 hx
      refine Ev.step (fun k => by rw [spec_TurnsBetween.l0]) ?_
      rw [kl_len]
      exact ev_neg (by omega) (Ev.now _)
    | some x =>
      have hl := get_lt hx
      have hm : x ∈ P := List.mem_of_getElem? hx
      have hv := hP.vv x hm
      refine Ev.step (fun k => by rw [spec_TurnsBetween.l0]) ?_
      rw [kl_len, sn_len, kl_get hx, sn_get hx, toList_B, toList_B]
      refine ev_pos (by omega) (ev_pos (by omega) (ev_ite (fun he => ?_) (fun he => ?_)))
      · simp only [if_pos he]
        exact ev_pos (by omega) (Ev.now _)
      · simp only [if_neg he]
        refine spec_nodes hw hn (hP.nn x hm) n 0 P (by omega) hP hx ?_
        rw [w64s (by omega)]
        exact spec_levels hw hn m (at_ + 1) _ (by omega) (KG.inn (hP.nn x hm) (by omega) n 0 P hP (by omega))
def farOf (P : KS) : Far := (P.map fun p => (B (enc p.1), p.2)).reverse
theorem farOf_len (P : KS) : (farOf P).length = P.length := by simp [farOf]
theorem farHas_iff (s : List UInt8) : ∀ L : KS, farHas (L.map fun p => (B (enc p.1), p.2)) (B s) = decide (s ∈ keys L)
  | [] => by simp [farHas, keys]
  | p :: L => by
    simp only [List.map_cons, farHas]
    by_cases h : enc p.1 = s
    · rw [if_pos (by rw [h])]
      exact (decide_eq_true (by unfold keys; rw [List.map_cons, h]; exact List.mem_cons_self)).symm
    · rw [if_neg (fun e => h (B_inj.1 e)), farHas_iff s L]
      refine decide_eq_decide.mpr ⟨fun hm => ?_, fun hm => ?_⟩
      · unfold keys
        rw [List.map_cons]
        exact List.mem_cons_of_mem _ hm
      · unfold keys at hm
        rw [List.map_cons] at hm
        rcases List.mem_cons.1 hm with hm | hm
        · exact absurd hm.symm h
        · exact hm
theorem farGet_none {s : List UInt8} : ∀ L : KS, (∀ x ∈ L, enc x.1 ≠ s) → farGet (L.map fun p => (B (enc p.1), p.2)) (B s) = 0
  | [], _ => rfl
  | p :: L, h => by
    simp only [List.map_cons, farGet]
    rw [if_neg (fun e => h p (by simp) (B_inj.1 e)), farGet_none L (fun x hx => h x (by simp [hx]))]
theorem farGet_mem {x : BT × Int} : ∀ L : KS, (keys L).Nodup → x ∈ L → farGet (L.map fun p => (B (enc p.1), p.2)) (B (enc x.1)) = x.2
  | [], _, h => by cases h
  | p :: L, hn, h => by
    simp only [keys, List.map_cons, List.nodup_cons] at hn
    simp only [List.map_cons, farGet]
    rcases List.mem_cons.1 h with rfl | h
    · rw [if_pos rfl]
    · have : ¬ enc p.1 = enc x.1 := fun e => hn.1 (by rw [e]; exact List.mem_map.2 ⟨x, h, rfl⟩)
      rw [if_neg (fun e => this (B_inj.1 e)), farGet_mem L hn.2 h]
theorem farOf_has (P : KS) (s : List UInt8) : farHas (farOf P) (B s) = decide (s ∈ keys P) := by
  unfold farOf
  rw [← List.map_reverse, farHas_iff]
  refine decide_eq_decide.mpr ?_
  unfold keys
  rw [List.map_reverse, List.mem_reverse]
theorem farOf_get {n : Nat} {P : KS} (h : KG n P) {x : BT × Int} (hx : x ∈ P) : farGet (farOf P) (B (enc x.1)) = x.2 := by
  unfold farOf
  rw [← List.map_reverse]
  refine farGet_mem _ ?_ (by simpa using hx)
  unfold keys
  rw [List.map_reverse]
  exact (List.reverse_perm _).nodup_iff.2 h.nd
theorem farOf_none {P : KS} {s : List UInt8} (h : ∀ x ∈ P, enc x.1 ≠ s) : farGet (farOf P) (B s) = 0 := by
  unfold farOf
  rw [← List.map_reverse]
  exact farGet_none _ (fun x hx => h x (by simpa using hx))
theorem impl_one {c : ByteArray × ByteArray} {n : Nat} (hn : n ≤ 7) {P : KS} (hP : KG n P) {at_ : Nat} {x : BT × Int} (hx : P[at_]? = some x) {i : Nat} (hi : i < nodes x.1) (b : Bool) (j : Int) (h0 : 0 ≤ j) (h2 : j < 2) (hb : rdOf false [true, false] j = b) {n2 : Int} {q : Int × Int}
    (H : Ev (fun k => impl_TurnsBetween.l2 k c (kl (addK P (x.2 + 1) (rotAt x.1 i b))) (at_ : Int) (i : Int) n2 (i : Int) [true, false] 2 (wrap64 (j + 1)) (farOf (addK P (x.2 + 1) (rotAt x.1 i b)))) q) :
    Ev (fun k => impl_TurnsBetween.l2 k c (kl P) (at_ : Int) (i : Int) n2 (i : Int) [true, false] 2 j (farOf P)) q := by
  have hl := get_lt hx
  have hf := hP.few hn
  have hm : x ∈ P := List.mem_of_getElem? hx
  have hv := hP.vv x hm
  have hxn := hP.nn x hm
  have ht := impl_rot_ev hi (by omega) b
  refine Ev.step (fun k => by rw [impl_TurnsBetween.l2]) ?_
  rw [kl_len, kl_get hx, hb]
  refine ev_pos h2 (ev_pos h0 (ev_pos (by simpa using h2) (ev_pos (by omega) (ev_pos (by omega) (Ev.bind ht ?_)))))
  cases hr : rotAt x.1 i b with
  | none =>
    rw [hr] at H
    simp only [outQ]
    refine ev_pos (by rw [B_size]; simp [maxLen]) (ev_neg (by decide) H)
  | some z =>
    rw [hr] at H
    have hzn := rotAt_nodes x.1 i b z hr
    simp only [outQ, farOf_has, B_size, enc_length, farOf_len, farOf_get hP hm]
    refine ev_pos (by simp only [maxLen]; omega) (ev_pos trivial (ev_ite (fun he => ?_) (fun he => ?_)))
    · simp only [addK, if_pos (of_decide_eq_true he)] at H
      exact H
    · have he2 : ¬ enc z ∈ keys P := by simpa using he
      simp only [addK, if_neg he2] at H
      refine ev_pos ⟨by omega, by simp only [maxLen]; omega, by simp only [maxLen]; omega⟩ ?_
      rw [w64 (x := x.2 + 1) (by omega) (by omega)]
      have e1 : kl (P ++ [(z, x.2 + 1)]) = kl P ++ [B (enc z)] := by simp [kl]
      have e2 : farOf (P ++ [(z, x.2 + 1)]) = farPut (farOf P) (B (enc z)) (x.2 + 1) := by simp [farOf, farPut]
      rw [e1, e2] at H
      exact H
theorem impl_nodes {c : ByteArray × ByteArray} {n : Nat} (hn : n ≤ 7) {at_ : Nat} {x : BT × Int} (hxn : nodes x.1 = n) {q : Int × Int} : ∀ (m i : Nat) (P : KS), i + m = n → KG n P → P[at_]? = some x →
    Ev (fun k => impl_TurnsBetween.l0 k c (kl (innK x.1 (x.2 + 1) m i P)) (wrap64 ((at_ : Int) + 1)) (farOf (innK x.1 (x.2 + 1) m i P))) q →
    Ev (fun k => impl_TurnsBetween.l1 k c (kl P) (at_ : Int) (n : Int) (i : Int) (farOf P)) q
  | 0, i, P, hi, hP, hx, H => by
    refine Ev.step (fun k => by rw [impl_TurnsBetween.l1]) ?_
    exact ev_neg (by omega) H
  | m + 1, i, P, hi, hP, hx, H => by
    have hv := hP.vv x (List.mem_of_getElem? hx)
    have hz : ∀ b v, rotAt x.1 i b = some v → nodes v = n := fun b v e => (rotAt_nodes x.1 i b v e).trans hxn
    have hP1 := hP.add (d := x.2 + 1) (by omega) (by omega) (hz true)
    have hx1 : (addK P (x.2 + 1) (rotAt x.1 i true))[at_]? = some x := add_get hx
    have hv1 := hP1.vv x (List.mem_of_getElem? hx1)
    have hP2 := hP1.add (d := x.2 + 1) (by omega) (by omega) (hz false)
    have hx2 : (addK (addK P (x.2 + 1) (rotAt x.1 i true)) (x.2 + 1) (rotAt x.1 i false))[at_]? = some x := add_get hx1
    refine Ev.step (fun k => by rw [impl_TurnsBetween.l1]) ?_
    refine ev_pos (by omega) (ev_some ?_)
    refine impl_one hn hP hx (by omega) true 0 (by decide) (by decide) rfl ?_
    rw [show wrap64 ((0 : Int) + 1) = 1 by unfold wrap64; decide]
    refine impl_one hn hP1 hx1 (by omega) false 1 (by decide) (by decide) rfl ?_
    rw [show wrap64 ((1 : Int) + 1) = 2 by unfold wrap64; decide]
    refine Ev.step (fun k => by rw [impl_TurnsBetween.l2]) ?_
    rw [w64s (by omega)]
    exact ev_neg (by decide) (impl_nodes hn hxn m (i + 1) _ (by omega) hP2 hx2 H)
theorem impl_levels {w : BT} {v : ByteArray} {n : Nat} (hw : nodes w = n) (hn : n ≤ 7) : ∀ (m at_ : Nat) (P : KS), at_ + m = 32769 → KG n P →
    Ev (fun k => impl_TurnsBetween.l0 k (B (enc w), v) (kl P) (at_ : Int) (farOf P)) (farGet (farOf (outK n m at_ P)) v, 0)
  | 0, at_, P, hi, hP => by
    have hf := hP.few hn
    refine Ev.step (fun k => by rw [impl_TurnsBetween.l0]) ?_
    rw [kl_len]
    exact ev_neg (by omega) (Ev.now _)
  | m + 1, at_, P, hi, hP => by
    have hf := hP.few hn
    simp only [outK]
    cases hx : P[at_]? with
    | none =>
      have : P.length ≤ at_ := List.getElem?_eq_none_iff.1 hx
      refine Ev.step (fun k => by rw [impl_TurnsBetween.l0]) ?_
      rw [kl_len]
      exact ev_neg (by omega) (Ev.now _)
    | some x =>
      have hl := get_lt hx
      have hm : x ∈ P := List.mem_of_getElem? hx
      have hv := hP.vv x hm
      refine Ev.step (fun k => by rw [impl_TurnsBetween.l0]) ?_
      rw [kl_len, nodesOf_ev w (by omega), hw]
      refine ev_pos (by omega) (ev_some ?_)
      refine impl_nodes hn (hP.nn x hm) n 0 P (by omega) hP hx ?_
      rw [w64s (by omega)]
      exact impl_levels hw hn m (at_ + 1) _ (by omega) (KG.inn (hP.nn x hm) (by omega) n 0 P hP (by omega))
theorem start_KG (w : BT) : KG (nodes w) [(w, 0)] := ⟨by simp [keys], fun x hx => by rw [List.mem_singleton] at hx; rw [hx], fun x hx => by rw [List.mem_singleton] at hx; rw [hx]; simp⟩
end Go.Proofs.Ytnofaibiigpbmaa.E
namespace Go.Proofs.Ytnofaibiigpbmaa.E
set_option linter.unusedVariables false
set_option linter.unusedSectionVars false
open Go.RowKit Go.Proofs.YtnofaibiigpbmaaW.PrintWords Go.Proofs.Ytnofaibiigpbmaa.Base Go.Proofs.Ytnofaibiigpbmaa.Tree Go.Proofs.Ytnofaibiigpbmaa.Bin

theorem binary_ev {d : List Int} (h : IsT d) (hn : d.length ≤ 100) : ∀ (N m c e : Nat), e - c ≤ N → c ≤ e → e ≤ d.length → Run d m c e → ∃ t, nodes t = e - c ∧ Ev (fun k => spec_l03Binary.f k d (castL (kidsFrom d m c))) (B (enc t)) := by
  intro N
  induction N with
  | zero =>
    intro m c e hN hce hel r
    cases r with
    | nil =>
      refine ⟨.leaf, by simp [nodes], ?_⟩
      refine Ev.step (fun k => by rw [spec_l03Binary.f]) ?_
      exact ev_pos (by simp [kidsFrom, castL]) (Ev.now _)
    | cons hc r =>
      have := end_gt h hc
      have := run_bd h r
      omega
  | succ N ih =>
    intro m c e hN hce hel r
    cases r with
    | nil =>
      refine ⟨.leaf, by simp [nodes], ?_⟩
      refine Ev.step (fun k => by rw [spec_l03Binary.f]) ?_
      exact ev_pos (by simp [kidsFrom, castL]) (Ev.now _)
    | @cons m _ _ hc r =>
      have h1 := end_gt h hc
      have h2 := run_bd h r
      have h3 := end_le h hc
      obtain ⟨t1, n1, e1⟩ := ih (d.getD c 0).toNat (c + 1) (endM d c) (by omega) (by omega) h3 (run_kids h hc)
      obtain ⟨t2, n2, e2⟩ := ih m (endM d c) e (by omega) h2 hel r
      have l1 := enc_length t1
      have l2 := enc_length t2
      refine ⟨.node t1 t2, by simp only [nodes]; omega, ?_⟩
      have ek : castL (kidsFrom d (m + 1) c) = (c : Int) :: castL (kidsFrom d m (endM d c)) := rfl
      refine Ev.step (fun k => by rw [spec_l03Binary.f]) ?_
      rw [ek, show rd ((c : Int) :: castL (kidsFrom d m (endM d c))) 0 = (c : Int) from rfl]
      refine ev_neg (by simp only [List.length_cons]; omega) (ev_pos (by simp only [List.length_cons]; omega) (Ev.bind (spec_l01Children_ev h (by omega) hc) (Ev.bind e1 (ev_pos (by rw [B_size]; omega) (ev_pos (by simp only [List.length_cons]; omega) ?_)))))
      rw [show ((c : Int) :: castL (kidsFrom d m (endM d c))).drop 1 = castL (kidsFrom d m (endM d c)) from rfl]
      refine Ev.bind e2 ?_
      simp only [lit1, B_append, B_size, List.length_append, List.length_cons, List.length_nil]
      exact ev_pos (by omega) (ev_now (by simp [enc]))
def mirrorT : BT → BT
  | .leaf => .leaf
  | .node l r => .node (mirrorT r) (mirrorT l)
theorem mirrorT_nodes : ∀ t, nodes (mirrorT t) = nodes t
  | .leaf => rfl
  | .node l r => by simp only [mirrorT, nodes, mirrorT_nodes l, mirrorT_nodes r]; omega
theorem spec_mirror_ev : ∀ t : BT, nodes t ≤ 400 → Ev (fun k => spec_l03Mirror.f k (B (enc t))) (B (enc (mirrorT t)))
  | .leaf, _ => by
    refine Ev.step (fun k => by rw [spec_l03Mirror.f]) ?_
    exact ev_pos (by rw [toList_B]; rfl) (Ev.now _)
  | .node l r, h => by
    simp only [nodes] at h
    have h1 := enc_length (mirrorT l)
    have h2 := enc_length (mirrorT r)
    rw [mirrorT_nodes] at h1 h2
    refine Ev.step (fun k => by rw [spec_l03Mirror.f]) ?_
    refine ev_neg (by rw [toList_B]; simp [enc]) (Ev.bind (spec_l03Sides_ev l r (by omega)) (Ev.bind (spec_mirror_ev r (by omega)) (ev_pos (by rw [B_size]; omega) (Ev.bind (spec_mirror_ev l (by omega)) ?_))))
    simp only [lit1, B_append, B_size, List.length_append, List.length_cons, List.length_nil]
    exact ev_pos (by omega) (ev_now (by simp [mirrorT, enc]))
section
variable {c : List Int} (hc : Src c)
include hc
theorem drawOf_ev {n : Nat} (hn : n ≤ 50) {a : Int} (ha : At c a) (h : Int) : ∃ t a' h', Ev (fun k => spec_l03DrawOf.f k c a h (n : Int)) (B (enc t), a', h') ∧ nodes t = n ∧ At c a' := by
  obtain ⟨r, a1, h1, e1, ⟨hr, hl⟩, ha1⟩ := draw_ev hc (n := n + 1) (by omega) (by omega) ha h
  have hr0 := hr.len
  obtain ⟨t, ht, et⟩ := binary_ev hr (by omega) r.length _ 1 (endM r 0) (by have := end_root hr; omega) (by have := end_root hr; omega) (by have := end_root hr; omega) (run_kids hr hr0)
  rw [end_root hr] at ht
  obtain ⟨x, a2, h2, e2, _, _, _, ha2⟩ := next_ok hc ha1 h1 2
  have key : Ev (fun k => spec_l03DrawOf.f k c a h (n : Int)) (if x = 0 then (B (enc (mirrorT t)), a2, h2) else (B (enc t), a2, h2)) := by
    unfold spec_l03DrawOf.f
    rw [w64s (by omega)]
    refine Ev.bind e1 (Ev.bind (spec_l01Children_ev hr (by omega) hr0) (Ev.bind et ?_))
    rw [e2]
    refine ev_some (ev_ite (fun hx => ?_) (fun hx => ?_))
    · rw [if_pos hx]; exact Ev.bind (spec_mirror_ev t (by omega)) (Ev.now _)
    · rw [if_neg hx]; exact Ev.now _
  by_cases hx : x = 0
  · rw [if_pos hx] at key
    exact ⟨_, _, _, key, by rw [mirrorT_nodes]; omega, ha2⟩
  · rw [if_neg hx] at key
    exact ⟨_, _, _, key, by omega, ha2⟩
theorem bad_ok {a : Int} (ha : At c a) (h : Int) (t : BT) (ht : nodes t ≤ 100) : ∃ x a' h', spec_l03Bad.f c a h (B (enc t)) = some (x, a', h') ∧ At c a' := by
  obtain ⟨x, a1, h1, e1, _, _, _, ha1⟩ := next_ok hc ha h 40
  have hl := enc_length t
  unfold spec_l03Bad.f
  rw [e1, Option.bind_some, B_size]
  by_cases h0 : x = 0
  · rw [if_pos h0, if_pos (by omega)]; exact ⟨_, _, _, rfl, ha1⟩
  · rw [if_neg h0]
    by_cases h1 : x = 1
    · rw [if_pos h1, if_pos (by omega)]; exact ⟨_, _, _, rfl, ha1⟩
    · rw [if_neg h1]
      by_cases h2 : x = 2
      · rw [if_pos h2]; exact ⟨_, _, _, rfl, ha1⟩
      · rw [if_neg h2]
        by_cases h3 : x = 3
        · rw [if_pos h3, if_pos (by omega)]; exact ⟨_, _, _, rfl, ha1⟩
        · rw [if_neg h3]; exact ⟨_, _, _, rfl, ha1⟩
theorem with_ev : ∃ r : ByteArray × Int, Ev (fun k => spec_l03With.f k c) r := by
  obtain ⟨h0, e0⟩ := from_ev hc
  obtain ⟨p, a1, h1, e1, hp, ha1⟩ := pick_ok hc (At.zero c) h0 [5, 9, 23] (by simp)
  obtain ⟨x, a2, h2, e2, hx0, hx1, hx2, ha2⟩ := next_ok hc ha1 h1 p
  have hp2 : 1 ≤ p ∧ p ≤ 23 := by simp at hp; omega
  have hx3 := hx1 hp2.1
  obtain ⟨t, a3, h3, e3, ht, ha3⟩ := drawOf_ev hc (n := 1 + x.toNat) (by omega) ha2 h2
  obtain ⟨i, a4, h4, e4, ha4⟩ := near_ok hc ha3 h3 (wrap64 ((nodes t : Int) - 1)) (by rw [w64 (by omega) (by omega)]; omega)
  obtain ⟨y, a5, h5, e5, _, _, _, ha5⟩ := next_ok hc ha4 h4 3
  obtain ⟨w, a6, h6, e6, _⟩ := bad_ok hc ha5 h5 t (by omega)
  have key : Ev (fun k => spec_l03With.f k c) (if y = 0 then (w, 0) else (w, i)) := by
    unfold spec_l03With.f
    refine Ev.bind e0 ?_
    simp only [e1, Option.bind_some, e2]
    rw [show wrap64 (1 + x) = ((1 + x.toNat : Nat) : Int) by rw [w64 (by omega) (by omega)]; omega]
    refine Ev.bind e3 ?_
    simp only [l03N_ev t (by omega), Option.bind_some, e4, e5, e6]
    refine ev_ite (fun hy => ?_) (fun hy => ?_)
    · rw [if_pos hy]; exact Ev.now _
    · rw [if_neg hy]; exact Ev.now _
  exact ⟨_, key⟩
theorem draw3_ev {a : Int} (ha : At c a) (h : Int) : ∃ t a' h', Ev (fun k => spec_l03Draw.f k c a h) (B (enc t), a', h') ∧ nodes t ≤ 30 ∧ At c a' := by
  obtain ⟨p, a1, h1, e1, hp, ha1⟩ := pick_ok hc ha h [5, 9, 24] (by simp)
  obtain ⟨x, a2, h2, e2, hx0, hx1, hx2, ha2⟩ := next_ok hc ha1 h1 p
  have hp2 : 1 ≤ p ∧ p ≤ 24 := by simp at hp; omega
  have hx3 := hx1 hp2.1
  obtain ⟨t, a3, h3, e3, ht, ha3⟩ := drawOf_ev hc (n := x.toNat) (by omega) ha2 h2
  refine ⟨t, a3, h3, ?_, by omega, ha3⟩
  unfold spec_l03Draw.f
  simp only [e1, Option.bind_some, e2]
  rw [show x = ((x.toNat : Nat) : Int) by omega]
  exact Ev.bind e3 (Ev.now _)
theorem two_end {a : Int} (ha : At c a) (h x9 : Int) (w u : BT) (hw : nodes w ≤ 50) (hu : nodes u ≤ 50) : ∃ r : ByteArray × ByteArray, Ev (fun k => spec_l03Two.j1 k (B (enc w)) (B (enc u)) x9 false c a h) r := by
  obtain ⟨y, a1, h1, e1, ha1⟩ := bad_ok hc ha h w (by omega)
  obtain ⟨z, a2, h2, e2, ha2⟩ := bad_ok hc ha1 h1 u (by omega)
  refine ⟨(y, z), ?_⟩
  refine Ev.step (fun k => by rw [spec_l03Two.j1]) ?_
  refine ev_neg (by decide) ?_
  rw [e1]
  refine ev_some ?_
  rw [e2]
  exact ev_some (Ev.now _)
theorem two_loop (w : BT) (hw : nodes w ≤ 50) : ∀ (m : Nat) (a h : Int) (u : BT), m ≤ 100 → At c a → nodes u ≤ 50 → ∃ r : ByteArray × ByteArray, Ev (fun k => spec_l03Two.l0 k (B (enc w)) (B (enc u)) (m : Int) c a h) r
  | 0, a, h, u, hm, ha, hu => by
    obtain ⟨r, hr⟩ := two_end hc ha h ((0 : Nat) : Int) w u hw hu
    refine ⟨r, ?_⟩
    refine Ev.step (fun k => by rw [spec_l03Two.l0]) ?_
    exact ev_neg (by omega) hr
  | m + 1, a, h, u, hm, ha, hu => by
    by_cases hz : nodes u = 0
    · obtain ⟨r, hr⟩ := two_end hc ha h ((m + 1 : Nat) : Int) w u hw hu
      refine ⟨r, ?_⟩
      refine Ev.step (fun k => by rw [spec_l03Two.l0]) ?_
      rw [l03N_ev u (by omega)]
      refine ev_pos (by omega) (ev_some ?_)
      rw [show decide ((nodes u : Int) > 0) = false by rw [decide_eq_false_iff_not]; omega]
      exact hr
    · obtain ⟨x, a1, h1, e1, hx0, hx1, _, ha1⟩ := next_ok hc ha h (nodes u : Int)
      have hx2 := hx1 (by omega)
      obtain ⟨i, rfl⟩ : ∃ i : Nat, x = i := ⟨x.toNat, by omega⟩
      have hrot := spec_rot_ev (t := u) (i := i) (by omega) (by omega) true
      obtain ⟨v, hv, hvn⟩ : ∃ v, (match rotAt u i true with | some v => v | none => u) = v ∧ nodes v = nodes u := by
        cases hr : rotAt u i true with
        | none => exact ⟨u, rfl, rfl⟩
        | some v => exact ⟨v, rfl, rotAt_nodes u i true v hr⟩
      obtain ⟨r, hr⟩ := two_loop w hw m a1 h1 v (by omega) ha1 (by omega)
      refine ⟨r, ?_⟩
      refine Ev.step (fun k => by rw [spec_l03Two.l0]) ?_
      rw [l03N_ev u (by omega)]
      refine ev_pos (by omega) (ev_some ?_)
      rw [show decide ((nodes u : Int) > 0) = true by rw [decide_eq_true_eq]; omega]
      refine Ev.step (fun k => by rw [spec_l03Two.j1]) ?_
      rw [l03N_ev u (by omega), w64p (by omega)]
      refine ev_pos rfl (ev_some ?_)
      rw [e1]
      refine ev_some (Ev.bind hrot ?_)
      cases hq : rotAt u i true with
      | none =>
        rw [hq] at hv
        simp only at hv
        subst hv
        exact ev_neg (by simp [outQ]) hr
      | some z =>
        rw [hq] at hv
        simp only at hv
        subst hv
        exact ev_pos rfl hr
theorem two_ev {n : Nat} (hn : n ≤ 30) : ∃ r : ByteArray × ByteArray, Ev (fun k => spec_l03Two.f k c (n : Int)) r := by
  obtain ⟨h0, e0⟩ := from_ev hc
  obtain ⟨x, a1, h1, e1, hx0, hx1, _, ha1⟩ := next_ok hc (At.zero c) h0 ((n + 1 : Nat) : Int)
  have hx2 := hx1 (by omega)
  obtain ⟨i, rfl⟩ : ∃ i : Nat, x = i := ⟨x.toNat, by omega⟩
  obtain ⟨w, a2, h2, e2, hw, ha2⟩ := drawOf_ev hc (n := i) (by omega) ha1 h1
  obtain ⟨u, a3, h3, e3, hu, ha3⟩ := drawOf_ev hc (n := nodes w) (by omega) ha2 h2
  obtain ⟨y, a4, h4, e4, hy0, hy1, _, ha4⟩ := next_ok hc ha3 h3 4
  have body : ∃ r : ByteArray × ByteArray, Ev (fun k => if y = 0 then ((spec_l01Next.f c a4 h4 5).bind fun bt374 => (spec_l03Two.l0 k (B (enc w)) (B (enc w)) bt374.1 c bt374.2.1 bt374.2.2)) else (if y = 1 then ((spec_l01Next.f c a4 h4 4).bind fun bt390 => (if bt390.1 = 0 then ((spec_l03Draw.f k c bt390.2.1 bt390.2.2).bind fun bt393 => ((spec_l03Bad.f c bt393.2.1 bt393.2.2 (B (enc w))).bind fun bt396 => ((spec_l03Bad.f c bt396.2.1 bt396.2.2 bt393.1).bind fun bt399 => (some (bt396.1, bt399.1))))) else ((spec_l03Bad.f c bt390.2.1 bt390.2.2 (B (enc w))).bind fun bt402 => ((spec_l03Bad.f c bt402.2.1 bt402.2.2 (B (enc u))).bind fun bt405 => (some (bt402.1, bt405.1)))))) else ((spec_l03Bad.f c a4 h4 (B (enc w))).bind fun bt408 => ((spec_l03Bad.f c bt408.2.1 bt408.2.2 (B (enc u))).bind fun bt411 => (some (bt408.1, bt411.1)))))) r := by
    by_cases h0 : y = 0
    · obtain ⟨z, a5, h5, e5, hz0, hz1, _, ha5⟩ := next_ok hc ha4 h4 5
      have hz2 := hz1 (by omega)
      obtain ⟨m, rfl⟩ : ∃ m : Nat, z = m := ⟨z.toNat, by omega⟩
      obtain ⟨r, hr⟩ := two_loop hc w (by omega) m a5 h5 w (by omega) ha5 (by omega)
      refine ⟨r, ev_pos h0 ?_⟩
      rw [e5]
      exact ev_some hr
    · by_cases h1 : y = 1
      · obtain ⟨z, a5, h5, e5, hz0, hz1, _, ha5⟩ := next_ok hc ha4 h4 4
        by_cases hz : z = 0
        · obtain ⟨v, a6, h6, e6, hv, ha6⟩ := draw3_ev hc ha5 h5
          obtain ⟨p, a7, h7, e7, ha7⟩ := bad_ok hc ha6 h6 w (by omega)
          obtain ⟨q, a8, h8, e8, ha8⟩ := bad_ok hc ha7 h7 v (by omega)
          refine ⟨(p, q), ev_neg h0 (ev_pos h1 ?_)⟩
          rw [e5]
          refine ev_some (ev_pos hz (Ev.bind e6 ?_))
          simp only [e7, Option.bind_some, e8]
          exact Ev.now _
        · obtain ⟨p, a7, h7, e7, ha7⟩ := bad_ok hc ha5 h5 w (by omega)
          obtain ⟨q, a8, h8, e8, ha8⟩ := bad_ok hc ha7 h7 u (by omega)
          refine ⟨(p, q), ev_neg h0 (ev_pos h1 ?_)⟩
          rw [e5]
          refine ev_some (ev_neg hz ?_)
          simp only [e7, Option.bind_some, e8]
          exact Ev.now _
      · obtain ⟨p, a7, h7, e7, ha7⟩ := bad_ok hc ha4 h4 w (by omega)
        obtain ⟨q, a8, h8, e8, ha8⟩ := bad_ok hc ha7 h7 u (by omega)
        refine ⟨(p, q), ev_neg h0 (ev_neg h1 ?_)⟩
        simp only [e7, Option.bind_some, e8]
        exact Ev.now _
  obtain ⟨r, hr⟩ := body
  refine ⟨r, ?_⟩
  unfold spec_l03Two.f
  refine Ev.bind e0 ?_
  simp only [w64s (show n < 9223372036854775807 by omega), e1, Option.bind_some]
  refine Ev.bind e2 ?_
  simp only [l03N_ev w (by omega), Option.bind_some]
  refine Ev.bind e3 ?_
  simp only [e4, Option.bind_some]
  exact hr
theorem picked_two (l : List Int) (hl : 0 < l.length) (hb : ∀ x ∈ l, 0 ≤ x ∧ x ≤ 30) {F : Nat → List Int → Option (ByteArray × ByteArray)} (hF : ∀ k, F k c = (spec_l01From.f k c).bind fun b => ((spec_l01Pick.f b.1 b.2.1 b.2.2 l).bind fun x => ((spec_l03Two.f k c x.1).bind fun y => (some (y.1, y.2))))) : ∃ r : ByteArray × ByteArray, Ev (fun k => F k c) r := by
  obtain ⟨h0, e0⟩ := from_ev hc
  obtain ⟨x, a1, h1, e1, hx, ha1⟩ := pick_ok hc (At.zero c) h0 l hl
  have hx2 := hb x hx
  obtain ⟨n, rfl⟩ : ∃ n : Nat, x = n := ⟨x.toNat, by omega⟩
  obtain ⟨r, hr⟩ := two_ev hc (n := n) (by omega)
  refine ⟨r, ?_⟩
  simp only [hF]
  refine Ev.bind e0 ?_
  simp only [e1, Option.bind_some]
  exact Ev.bind hr (Ev.now _)
theorem drawMeet_ev : ∃ r : ByteArray × ByteArray, Ev (fun k => spec_DrawMeetOfBinary.f k c) r := picked_two hc [4, 8, 23] (by simp) (by simp) (fun _ => rfl)
theorem drawTurns_ev : ∃ r : ByteArray × ByteArray, Ev (fun k => spec_DrawTurnsBetween.f k c) r := picked_two hc [3, 4, 5, 5, 6, 7, 9] (by simp) (by simp) (fun _ => rfl)
theorem drawAtMost_ev : ∃ r : ByteArray × ByteArray, Ev (fun k => spec_DrawIsAtMost.f k c) r := picked_two hc [4, 8, 23] (by simp) (by simp) (fun _ => rfl)
theorem drawRight_ev : ∃ r : ByteArray × Int, Ev (fun k => spec_DrawRotateRight.f k c) r := by
  obtain ⟨r, hr⟩ := with_ev hc
  refine ⟨r, ?_⟩
  unfold spec_DrawRotateRight.f
  exact Ev.bind hr (Ev.now _)
theorem drawLeft_ev : ∃ r : ByteArray × Int, Ev (fun k => spec_DrawRotateLeft.f k c) r := by
  obtain ⟨r, hr⟩ := with_ev hc
  refine ⟨r, ?_⟩
  unfold spec_DrawRotateLeft.f
  exact Ev.bind hr (Ev.now _)
end
end Go.Proofs.Ytnofaibiigpbmaa.E
namespace Go.Proofs.Ytnofaibiigpbmaa.Bin
set_option linter.unusedVariables false
set_option linter.unusedSectionVars false
open Go.RowKit Go.Proofs.YtnofaibiigpbmaaW.PrintWords Go.Proofs.Ytnofaibiigpbmaa.Base

theorem turn_back {b : Bool} {l r u : BT} (h : turn b l r = some u) : ∃ l2 r2, u = .node l2 r2 ∧ turn (!b) l2 r2 = some (.node l r) := by
  unfold turn at h
  cases b with
  | true =>
    rw [if_pos rfl] at h
    cases l with
    | leaf => cases h
    | node x y =>
      obtain rfl := Option.some.inj h
      exact ⟨_, _, rfl, rfl⟩
  | false =>
    rw [if_neg (by decide)] at h
    cases r with
    | leaf => cases h
    | node x y =>
      obtain rfl := Option.some.inj h
      exact ⟨_, _, rfl, rfl⟩
theorem rot_back : ∀ (t : BT) (i : Nat) (b : Bool) (u : BT), rotAt t i b = some u → rotAt u i (!b) = some t
  | .leaf, _, _, _, h => by simp [rotAt] at h
  | .node l r, 0, b, u, h => by
    obtain ⟨l2, r2, rfl, h2⟩ := turn_back (show turn b l r = some u from h)
    exact h2
  | .node l r, i + 1, b, u, h => by
    simp only [rotAt] at h
    by_cases hl : i < nodes l
    · rw [if_pos hl] at h
      obtain ⟨x, hx, rfl⟩ := Option.map_eq_some_iff.1 h
      have h1 := rot_back l i b x hx
      have h2 := rotAt_nodes l i b x hx
      simp only [rotAt]
      rw [if_pos (by omega), h1]; rfl
    · rw [if_neg hl] at h
      obtain ⟨x, hx, rfl⟩ := Option.map_eq_some_iff.1 h
      have h1 := rot_back r (i - nodes l) b x hx
      simp only [rotAt]
      rw [if_neg hl, h1]; rfl
inductive Pth : BT → BT → Nat → Prop
  | nil (t : BT) : Pth t t 0
  | snoc {t u v : BT} {n i : Nat} {b : Bool} : Pth t u n → rotAt u i b = some v → Pth t v (n + 1)
theorem Pth.cons {t u v : BT} {n i : Nat} {b : Bool} (h : rotAt t i b = some u) (p : Pth u v n) : Pth t v (n + 1) := by
  induction p with
  | nil => exact .snoc (.nil t) h
  | snoc _ h2 ih => exact .snoc ih h2
theorem Pth.rev {t u : BT} {n : Nat} (p : Pth t u n) : Pth u t n := by
  induction p with
  | nil => exact .nil _
  | snoc _ h2 ih => exact Pth.cons (rot_back _ _ _ _ h2) ih
theorem Pth.trans {t u v : BT} {n m : Nat} (p : Pth t u n) (q : Pth u v m) : Pth t v (n + m) := by
  induction q with
  | nil => exact p
  | snoc _ h2 ih => exact .snoc ih h2
theorem Pth.zero {t u : BT} (p : Pth t u 0) : t = u := by cases p; rfl
theorem Pth.right {l r u : BT} {n : Nat} (p : Pth r u n) : Pth (.node l r) (.node l u) n := by
  induction p with
  | nil => exact .nil _
  | @snoc u v n i b _ h2 ih =>
    refine .snoc (i := nodes l + i + 1) (b := b) ih ?_
    simp only [rotAt]
    rw [if_neg (by omega), show nodes l + i - nodes l = i by omega, h2]; rfl
def comb : Nat → BT
  | 0 => .leaf
  | n + 1 => .node .leaf (comb n)
theorem to_comb : ∀ (m k : Nat) (t : BT), nodes t ≤ m → (∀ l r, t = .node l r → nodes l ≤ k) → ∃ e, Pth t (comb (nodes t)) e
  | _, _, .leaf, _, _ => ⟨0, .nil _⟩
  | 0, _, .node l r, h, _ => by simp [nodes] at h
  | m + 1, k, .node .leaf r, h, _ => by
    simp only [nodes] at h
    obtain ⟨e, he⟩ := to_comb m m r (by omega) (fun l r2 e => by subst e; simp only [nodes] at h; omega)
    refine ⟨e, ?_⟩
    have := Pth.right (l := .leaf) he
    simpa [nodes, comb] using this
  | m + 1, 0, .node (.node x y) r, h, hk => by
    have := hk _ _ rfl
    simp [nodes] at this
  | m + 1, k + 1, .node (.node x y) r, h, hk => by
    have h1 := hk _ _ rfl
    simp only [nodes] at h h1
    obtain ⟨e, he⟩ := to_comb (m + 1) k (.node x (.node y r)) (by simp only [nodes]; omega) (fun l r2 e => by
      injection e with e1 e2
      subst e1
      omega)
    refine ⟨e + 1, ?_⟩
    have hr : rotAt (.node (.node x y) r) 0 true = some (.node x (.node y r)) := rfl
    have := Pth.cons hr he
    rw [show nodes (.node (.node x y) r) = nodes (.node x (.node y r)) by simp only [nodes]; omega]
    exact this
theorem joined {t u : BT} (h : nodes t = nodes u) : ∃ e, Pth t u e := by
  obtain ⟨e1, h1⟩ := to_comb (nodes t) (nodes t) t (by omega) (fun l r e => by subst e; simp only [nodes]; omega)
  obtain ⟨e2, h2⟩ := to_comb (nodes u) (nodes u) u (by omega) (fun l r e => by subst e; simp only [nodes]; omega)
  rw [h] at h1
  exact ⟨_, h1.trans h2.rev⟩
structure BF (w : BT) (n i : Nat) (P : KS) : Prop where
  kg : KG n P
  hd : (w, (0 : Int)) ∈ P
  pth : ∀ x ∈ P, ∃ e : Nat, x.2 = e ∧ Pth w x.1 e
  asc : P.Pairwise fun a b => a.2 ≤ b.2
  top : ∀ x, P[i]? = some x → ∀ y ∈ P, y.2 ≤ x.2 + 1
  nb : ∀ j x, j < i → P[j]? = some x → ∀ k b v, rotAt x.1 k b = some v → ∃ y ∈ P, y.1 = v ∧ y.2 ≤ x.2 + 1
structure BI (w : BT) (n : Nat) (P0 P : KS) (d : Int) : Prop where
  kg : KG n P
  pre : ∃ Q, P = P0 ++ Q
  pth : ∀ x ∈ P, ∃ e : Nat, x.2 = e ∧ Pth w x.1 e
  asc : P.Pairwise fun a b => a.2 ≤ b.2
  top : ∀ y ∈ P, y.2 ≤ d
theorem BI.add {w : BT} {n : Nat} {P0 P : KS} {d : Int} (h : BI w n P0 P d) (h0 : 0 ≤ d) (h1 : d ≤ P.length + 1) {z : Option BT} (hz : ∀ u, z = some u → nodes u = n ∧ ∃ e : Nat, d = e ∧ Pth w u e) :
    BI w n P0 (addK P d z) d ∧ ∀ u, z = some u → ∃ y ∈ addK P d z, y.1 = u ∧ y.2 ≤ d := by
  have hk := h.kg.add h0 h1 (fun u e => (hz u e).1)
  cases z with
  | none => exact ⟨h, fun u e => by cases e⟩
  | some z =>
    obtain ⟨Q, eQ⟩ := h.pre
    simp only [addK] at hk ⊢
    by_cases hm : enc z ∈ keys P
    · rw [if_pos hm] at hk ⊢
      refine ⟨h, fun u e => ?_⟩
      obtain rfl := Option.some.inj e
      obtain ⟨y, hy, ey⟩ := List.mem_map.1 hm
      exact ⟨y, hy, enc_inj ey, h.top y hy⟩
    · rw [if_neg hm] at hk ⊢
      refine ⟨⟨hk, ⟨Q ++ [(z, d)], by rw [eQ]; simp⟩, fun x hx => ?_, ?_, fun y hy => ?_⟩, fun u e => ?_⟩
      · rcases List.mem_append.1 hx with hx | hx
        · exact h.pth x hx
        · rw [List.mem_singleton] at hx
          subst hx
          exact (hz z rfl).2
      · refine List.pairwise_append.2 ⟨h.asc, by simp, fun a ha b hb => ?_⟩
        rw [List.mem_singleton] at hb
        subst hb
        exact h.top a ha
      · rcases List.mem_append.1 hy with hy | hy
        · exact h.top y hy
        · rw [List.mem_singleton] at hy
          subst hy
          exact Int.le_refl _
      · obtain rfl := Option.some.inj e
        exact ⟨(z, d), by simp, rfl, Int.le_refl _⟩
theorem BI.inn {w : BT} {n : Nat} {P0 : KS} {x : BT × Int} (hxn : nodes x.1 = n) {e : Nat} (hxe : x.2 = e) (hxp : Pth w x.1 e) : ∀ (m i : Nat) (P : KS), BI w n P0 P (x.2 + 1) → x.2 + 1 ≤ P.length + 1 →
    BI w n P0 (innK x.1 (x.2 + 1) m i P) (x.2 + 1) ∧ ∀ k b v, i ≤ k → k < i + m → rotAt x.1 k b = some v → ∃ y ∈ innK x.1 (x.2 + 1) m i P, y.1 = v ∧ y.2 ≤ x.2 + 1
  | 0, i, P, h, _ => ⟨h, fun k b v h1 h2 _ => by omega⟩
  | m + 1, i, P, h, h1 => by
    have hz : ∀ b u, rotAt x.1 i b = some u → nodes u = n ∧ ∃ e : Nat, x.2 + 1 = e ∧ Pth w u e := fun b u hu => ⟨(rotAt_nodes x.1 i b u hu).trans hxn, e + 1, by omega, .snoc hxp hu⟩
    obtain ⟨a1, a2⟩ := h.add (by omega) h1 (hz true)
    obtain ⟨Q1, e1⟩ := addK_pre P (x.2 + 1) (rotAt x.1 i true)
    obtain ⟨Q2, e2⟩ := addK_pre (addK P (x.2 + 1) (rotAt x.1 i true)) (x.2 + 1) (rotAt x.1 i false)
    have l1 : P.length ≤ (addK P (x.2 + 1) (rotAt x.1 i true)).length := by rw [e1]; simp
    have l2 : (addK P (x.2 + 1) (rotAt x.1 i true)).length ≤ (addK (addK P (x.2 + 1) (rotAt x.1 i true)) (x.2 + 1) (rotAt x.1 i false)).length := by rw [e2]; simp
    obtain ⟨b1, b2⟩ := a1.add (by omega) (by omega) (hz false)
    obtain ⟨c1, c2⟩ := BI.inn hxn hxe hxp m (i + 1) _ b1 (by omega)
    obtain ⟨Q3, e3⟩ := innK_pre x.1 (x.2 + 1) m (i + 1) (addK (addK P (x.2 + 1) (rotAt x.1 i true)) (x.2 + 1) (rotAt x.1 i false))
    refine ⟨c1, fun k b v hk1 hk2 hv => ?_⟩
    simp only [innK]
    by_cases hk : k = i
    · subst hk
      cases b with
      | true =>
        obtain ⟨y, hy, hy2⟩ := a2 v hv
        exact ⟨y, by rw [e3, e2]; simp [hy], hy2⟩
      | false =>
        obtain ⟨y, hy, hy2⟩ := b2 v hv
        exact ⟨y, by rw [e3]; simp [hy], hy2⟩
    · exact c2 k b v (by omega) (by omega) hv
theorem rot_lt : ∀ (t : BT) (i : Nat) (b : Bool) (u : BT), rotAt t i b = some u → i < nodes t
  | .leaf, _, _, _, h => by simp [rotAt] at h
  | .node l r, 0, _, _, _ => by simp only [nodes]; omega
  | .node l r, i + 1, b, u, h => by
    simp only [rotAt] at h
    simp only [nodes]
    split at h
    · omega
    · obtain ⟨x, hx, _⟩ := Option.map_eq_some_iff.1 h
      have := rot_lt r (i - nodes l) b x hx
      omega
theorem BF.step {w : BT} {n i : Nat} {P : KS} (h : BF w n i P) {x : BT × Int} (hx : P[i]? = some x) : BF w n (i + 1) (innK x.1 (x.2 + 1) n 0 P) := by
  have hm : x ∈ P := List.mem_of_getElem? hx
  have hil : i < P.length := (List.getElem?_eq_some_iff.1 hx).1
  obtain ⟨e, he, hp⟩ := h.pth x hm
  have hv := h.kg.vv x hm
  obtain ⟨a1, a2⟩ := BI.inn (P0 := P) (h.kg.nn x hm) he hp n 0 P ⟨h.kg, ⟨[], by simp⟩, h.pth, h.asc, h.top x hx⟩ (by omega)
  obtain ⟨Q, eQ⟩ := innK_pre x.1 (x.2 + 1) n 0 P
  have hgi : (innK x.1 (x.2 + 1) n 0 P)[i]? = some x := by rw [eQ, List.getElem?_append_left hil]; exact hx
  refine ⟨a1.kg, by rw [eQ]; simp [h.hd], a1.pth, a1.asc, fun y hy z hz => ?_, fun j y hj hy k b v hv => ?_⟩
  · have h1 := a1.top z hz
    have h2 : x.2 ≤ y.2 := by
      obtain ⟨g1, g2⟩ := List.getElem?_eq_some_iff.1 hgi
      obtain ⟨g3, g4⟩ := List.getElem?_eq_some_iff.1 hy
      have := List.pairwise_iff_getElem.1 a1.asc i (i + 1) g1 g3 (by omega)
      rw [g2, g4] at this
      exact this
    omega
  · by_cases hji : j = i
    · subst hji
      rw [hgi] at hy
      obtain rfl := Option.some.inj hy
      have h2 := rot_lt _ _ _ _ hv
      rw [h.kg.nn _ hm] at h2
      exact a2 k b v (by omega) (by omega) hv
    · rw [eQ, List.getElem?_append_left (by omega)] at hy
      obtain ⟨z, hz, h3⟩ := h.nb j y (by omega) hy k b v hv
      exact ⟨z, by rw [eQ]; simp [hz], h3⟩
theorem BF.out {w : BT} {n : Nat} (hn : n ≤ 7) : ∀ (m i : Nat) (P : KS), i + m = 32769 → BF w n i P → ∃ i2, BF w n i2 (outK n m i P) ∧ (outK n m i P).length ≤ i2
  | 0, i, P, hi, h => ⟨i, h, by have := h.kg.few hn; simp only [outK]; omega⟩
  | m + 1, i, P, hi, h => by
    simp only [outK]
    cases hx : P[i]? with
    | none => exact ⟨i, h, List.getElem?_eq_none_iff.1 hx⟩
    | some x => exact BF.out hn m (i + 1) _ (by omega) (h.step hx)
theorem BF.start (w : BT) : BF w (nodes w) 0 [(w, 0)] :=
  ⟨⟨by simp [keys], fun x hx => by rw [List.mem_singleton] at hx; rw [hx], fun x hx => by rw [List.mem_singleton] at hx; rw [hx]; simp⟩, by simp, fun x hx => by rw [List.mem_singleton] at hx; subst hx; exact ⟨0, rfl, .nil _⟩, by simp, fun x hx y hy => by
    rw [List.mem_singleton] at hy
    subst hy
    have : x = (w, 0) := by simpa using hx.symm
    subst this
    simp only
    omega, fun j x hj => by omega⟩
def allK (w : BT) : KS := outK (nodes w) 32769 0 [(w, 0)]
def rots (w u : BT) : Int := resK u (nodes w) 32769 0 [(w, 0)]
theorem allK_pth {w : BT} (hn : nodes w ≤ 7) {x : BT × Int} (hx : x ∈ allK w) : ∃ e : Nat, x.2 = e ∧ Pth w x.1 e := by
  obtain ⟨i, h, _⟩ := BF.out hn 32769 0 _ (by omega) (BF.start w)
  exact h.pth x hx
theorem allK_min {w u : BT} (hn : nodes w ≤ 7) {e : Nat} (p : Pth w u e) : ∃ y ∈ allK w, y.1 = u ∧ y.2 ≤ e := by
  obtain ⟨i, h, hl⟩ := BF.out hn 32769 0 _ (by omega) (BF.start w)
  change BF w (nodes w) i (allK w) at h
  change (allK w).length ≤ i at hl
  induction p with
  | nil => exact ⟨_, h.hd, rfl, by simp⟩
  | @snoc u v n k b _ h2 ih =>
    obtain ⟨y, hy, rfl, hy2⟩ := ih
    obtain ⟨j, hj⟩ := List.mem_iff_getElem?.1 hy
    have hjl := (List.getElem?_eq_some_iff.1 hj).1
    obtain ⟨z, hz, h3, h4⟩ := h.nb j y (by omega) hj k b v h2
    exact ⟨z, hz, h3, by omega⟩
theorem rots_spec {w u : BT} (hn : nodes w ≤ 7) (hu : nodes u = nodes w) : ∃ e : Nat, rots w u = e ∧ Pth w u e ∧ ∀ e2, Pth w u e2 → e ≤ e2 := by
  obtain ⟨e0, p0⟩ := joined hu.symm
  rcases res_out hn u 32769 0 [(w, 0)] (by omega) (BF.start w).kg (fun j x hj => by omega) with ⟨x, hx, h2, h3⟩ | ⟨h2, _⟩
  · obtain ⟨e, he, hp⟩ := allK_pth hn (w := w) hx
    have hxu : x.1 = u := enc_inj h2
    refine ⟨e, by unfold rots; rw [← h3, he], hxu ▸ hp, fun e2 p2 => ?_⟩
    obtain ⟨y, hy, hy1, hy2⟩ := allK_min hn p2
    have hnd := (KG.out (n := nodes w) 32769 0 [(w, 0)] (BF.start w).kg).nd
    have hxy : x = y := by
      have key : ∀ L : KS, (keys L).Nodup → x ∈ L → y ∈ L → enc x.1 = enc y.1 → x = y := by
        intro L
        induction L with
        | nil => intro _ h; cases h
        | cons a L ih =>
          intro hn2 h1 h2 he2
          simp only [keys, List.map_cons, List.nodup_cons] at hn2
          rcases List.mem_cons.1 h1 with e1 | h3 <;> rcases List.mem_cons.1 h2 with e2 | h4
          · rw [e1, e2]
          · exact absurd (List.mem_map.2 ⟨y, h4, by rw [← he2, e1]⟩) hn2.1
          · exact absurd (List.mem_map.2 ⟨x, h3, by rw [he2, e2]⟩) hn2.1
          · exact ih hn2.2 h3 h4 he2
      exact key _ hnd hx hy (by rw [hxu, hy1])
    rw [← hxy, he] at hy2
    omega
  · obtain ⟨y, hy, hy1, _⟩ := allK_min hn p0
    exact absurd (by rw [hy1]) (h2 y hy)
theorem rots_sym {w u : BT} (hn : nodes w ≤ 7) (hu : nodes u = nodes w) : rots u w = rots w u := by
  obtain ⟨e1, a1, p1, m1⟩ := rots_spec hn hu
  obtain ⟨e2, a2, p2, m2⟩ := rots_spec (w := u) (u := w) (by omega) hu.symm
  have := m1 e2 p2.rev
  have := m2 e1 p1.rev
  rw [a1, a2]
  omega
theorem rots_zero {w u : BT} (hn : nodes w ≤ 7) (hu : nodes u = nodes w) : rots w u = 0 ↔ w = u := by
  obtain ⟨e1, a1, p1, m1⟩ := rots_spec hn hu
  constructor
  · intro h
    have : e1 = 0 := by omega
    subst this
    exact p1.zero
  · rintro rfl
    have := m1 0 (.nil _)
    omega
theorem rots_one {w u : BT} (hn : nodes w ≤ 7) {i : Nat} {b : Bool} (h : rotAt w i b = some u) (hne : w ≠ u) : rots w u = 1 := by
  have hu := rotAt_nodes w i b u h
  obtain ⟨e1, a1, p1, m1⟩ := rots_spec hn hu
  have h1 := m1 1 (.snoc (.nil w) h)
  have h2 : rots w u ≠ 0 := fun e => hne ((rots_zero hn hu).1 e)
  omega
end Go.Proofs.Ytnofaibiigpbmaa.Bin
namespace Go.Proofs.Ytnofaibiigpbmaa.Bin
set_option linter.unusedVariables false
set_option linter.unusedSectionVars false
open Go.RowKit Go.Proofs.YtnofaibiigpbmaaW.PrintWords Go.Proofs.YtnofaibiigpbmaaW.PrintMore Go.Proofs.Ytnofaibiigpbmaa.Base

theorem gl (l m : List Int) (i : Nat) (h : i < l.length) : (l ++ m).getD i 0 = l.getD i 0 := by
  rw [List.getD_eq_getElem?_getD, List.getElem?_append_left h, ← List.getD_eq_getElem?_getD]
theorem gm (l m : List Int) (x : Int) : (l ++ x :: m).getD l.length 0 = x := by
  rw [List.getD_eq_getElem?_getD, List.getElem?_append_right (Nat.le_refl _), Nat.sub_self]; rfl
theorem gR (l m : List Int) (x : Int) (j : Nat) : (l ++ x :: m).getD (l.length + 1 + j) 0 = m.getD j 0 := by
  rw [List.getD_eq_getElem?_getD, List.getElem?_append_right (by omega), show l.length + 1 + j - l.length = j + 1 by omega, List.getElem?_cons_succ, ← List.getD_eq_getElem?_getD]
def leV : List Int → List Int → Bool
  | a :: l, b :: m => decide (a ≤ b) && leV l m
  | _, _ => true
theorem leV_refl : ∀ l, leV l l = true
  | [] => rfl
  | a :: l => by simp [leV, leV_refl l]
theorem leV_one (c c' : Int) (Z : List Int) : ∀ A : List Int, leV (A ++ c :: Z) (A ++ c' :: Z) = decide (c ≤ c')
  | [] => by simp [leV, leV_refl]
  | a :: A => by simp [leV, leV_one c c' Z A]
theorem leV_iff : ∀ (a b : List Int), a.length = b.length → (leV a b = true ↔ ∀ i, i < a.length → a.getD i 0 ≤ b.getD i 0)
  | [], [], _ => by simp [leV]
  | [], _ :: _, h => by simp at h
  | _ :: _, [], h => by simp at h
  | x :: a, y :: b, h => by
    simp only [leV, Bool.and_eq_true, decide_eq_true_eq]
    rw [leV_iff a b (by simpa using h)]
    constructor
    · rintro ⟨h1, h2⟩ i hi
      cases i with
      | zero => simpa using h1
      | succ i => simpa using h2 i (by simpa using hi)
    · intro h1
      refine ⟨by simpa using h1 0 (by simp), fun i hi => by simpa using h1 (i + 1) (by simpa using hi)⟩
def Up (a b : List Int) : Prop := ∃ A c c' Z, a = A ++ c :: Z ∧ b = A ++ c' :: Z ∧ c < c'
theorem turn_up {l r u : BT} (h : turn true l r = some u) : Up (vec (.node l r)) (vec u) := by
  unfold turn at h
  rw [if_pos rfl] at h
  cases l with
  | leaf => cases h
  | node x y =>
    obtain rfl := Option.some.inj h
    refine ⟨vec x, nodes y, (nodes (.node y r) : Nat), vec y ++ (nodes r : Int) :: vec r, ?_, ?_, by simp only [nodes]; omega⟩
    · simp [vec]
    · simp [vec]
theorem rot_up : ∀ (t : BT) (i : Nat) (u : BT), rotAt t i true = some u → Up (vec t) (vec u)
  | .leaf, _, _, h => by simp [rotAt] at h
  | .node l r, 0, u, h => turn_up h
  | .node l r, i + 1, u, h => by
    simp only [rotAt] at h
    split at h
    · obtain ⟨x, hx, rfl⟩ := Option.map_eq_some_iff.1 h
      obtain ⟨A, c, c', Z, h1, h2, h3⟩ := rot_up l i x hx
      exact ⟨A, c, c', Z ++ (nodes r : Int) :: vec r, by simp [vec, h1], by simp [vec, h2], h3⟩
    · obtain ⟨x, hx, rfl⟩ := Option.map_eq_some_iff.1 h
      obtain ⟨A, c, c', Z, h1, h2, h3⟩ := rot_up r (i - nodes l) x hx
      have hn := rotAt_nodes r (i - nodes l) true x hx
      exact ⟨vec l ++ (nodes r : Int) :: A, c, c', Z, by simp [vec, h1], by simp [vec, h2, hn], h3⟩
theorem Up.le {a b : List Int} (h : Up a b) : leV a b = true ∧ leV b a = false := by
  obtain ⟨A, c, c', Z, rfl, rfl, h3⟩ := h
  rw [leV_one, leV_one]
  exact ⟨decide_eq_true (by omega), decide_eq_false (by omega)⟩
structure NC (l : List Int) : Prop where
  bd : ∀ i, i < l.length → 0 ≤ l.getD i 0 ∧ l.getD i 0 ≤ (l.length : Int) - 1 - i
  inn : ∀ i j, i < l.length → j < l.length → i < j → (j : Int) ≤ i + l.getD i 0 → j + l.getD j 0 ≤ i + l.getD i 0
theorem vec_NC : ∀ t, NC (vec t)
  | .leaf => ⟨fun i hi => by simp [vec] at hi, fun i j hi => by simp [vec] at hi⟩
  | .node l r => by
    have hl := vec_NC l
    have hr := vec_NC r
    have l1 := vec_length l
    have l2 := vec_length r
    have key : ∀ i, i < (vec (.node l r)).length → (i < nodes l ∧ (vec (.node l r)).getD i 0 = (vec l).getD i 0) ∨ (i = nodes l ∧ (vec (.node l r)).getD i 0 = nodes r) ∨ (∃ j, i = nodes l + 1 + j ∧ j < nodes r ∧ (vec (.node l r)).getD i 0 = (vec r).getD j 0) := by
      intro i hi
      simp only [vec, List.length_append, List.length_cons] at hi ⊢
      rcases Nat.lt_trichotomy i (nodes l) with h | h | h
      · exact .inl ⟨h, gl _ _ _ (by omega)⟩
      · refine .inr (.inl ⟨h, ?_⟩)
        subst h
        rw [← l1]; exact gm _ _ _
      · refine .inr (.inr ⟨i - nodes l - 1, by omega, by omega, ?_⟩)
        have := gR (vec l) (vec r) (nodes r : Int) (i - nodes l - 1)
        rw [l1, show nodes l + 1 + (i - nodes l - 1) = i by omega] at this
        exact this
    have hlen : (vec (.node l r)).length = nodes l + nodes r + 1 := by simp only [vec, List.length_append, List.length_cons]; omega
    refine ⟨fun i hi => ?_, fun i j hi hj hij hjv => ?_⟩
    · rcases key i hi with ⟨h1, h2⟩ | ⟨h1, h2⟩ | ⟨k, h1, h3, h2⟩
      · have := hl.bd i (by omega); rw [h2, hlen]; omega
      · rw [h2, hlen]; omega
      · have := hr.bd k (by omega); rw [h2, hlen]; omega
    · rcases key i hi with ⟨h1, h2⟩ | ⟨h1, h2⟩ | ⟨k, h1, h3, h2⟩
      · have b := hl.bd i (by omega)
        rw [h2] at hjv ⊢
        rcases key j hj with ⟨g1, g2⟩ | ⟨g1, g2⟩ | ⟨m, g1, g3, g2⟩
        · rw [g2]; exact hl.inn i j (by omega) (by omega) hij hjv
        · omega
        · omega
      · rw [h2] at hjv ⊢
        rcases key j hj with ⟨g1, g2⟩ | ⟨g1, g2⟩ | ⟨m, g1, g3, g2⟩
        · omega
        · omega
        · have := hr.bd m (by omega); rw [g2]; omega
      · rw [h2] at hjv ⊢
        rcases key j hj with ⟨g1, g2⟩ | ⟨g1, g2⟩ | ⟨m, g1, g3, g2⟩
        · omega
        · omega
        · have := hr.inn k m (by omega) (by omega) (by omega) (by omega); rw [g2]; omega
theorem first_spec (l : List Int) : ∀ (m i j : Nat), i + m = l.length → i ≤ j → j < l.length → l.getD j 0 = (l.length : Int) - 1 - j → (∀ k, i ≤ k → k < j → l.getD k 0 ≠ (l.length : Int) - 1 - k) → firstR l m i = some j
  | 0, i, j, hm, h1, h2, _, _ => by omega
  | m + 1, i, j, hm, h1, h2, h3, h4 => by
    simp only [firstR]
    by_cases e : i = j
    · subst e
      rw [if_pos h3]
    · rw [if_neg (h4 i (Nat.le_refl _) (by omega))]
      exact first_spec l m (i + 1) j (by omega) (by omega) h2 h3 (fun k hk => h4 k (by omega))
theorem ofV_vec : ∀ (f : Nat) (t : BT), nodes t ≤ f → ofV f (vec t) = (enc t, true)
  | 0, t, h => by
    cases t with
    | leaf => rfl
    | node l r => simp [nodes] at h
  | f + 1, .leaf, _ => by simp [ofV, vec, enc]
  | f + 1, .node l r, h => by
    simp only [nodes] at h
    have l1 := vec_length l
    have l2 := vec_length r
    have hlen : (vec (.node l r)).length = nodes l + nodes r + 1 := by simp only [vec, List.length_append, List.length_cons]; omega
    have hf : firstR (vec (.node l r)) (vec (.node l r)).length 0 = some (nodes l) := by
      refine first_spec _ _ 0 (nodes l) (by omega) (by omega) (by omega) ?_ (fun k _ hk => ?_)
      · have := gm (vec l) (vec r) (nodes r : Int)
        rw [l1] at this
        rw [hlen]
        simp only [vec]
        rw [this]; omega
      · have := gl (vec l) ((nodes r : Int) :: vec r) k (by omega)
        have b := (vec_NC l).bd k (by omega)
        rw [hlen]
        simp only [vec]
        rw [this]; omega
    have e1 : (vec (.node l r)).take (nodes l) = vec l := by
      simp only [vec]
      rw [← l1, List.take_left]
    have e2 : (vec (.node l r)).drop (nodes l + 1) = vec r := by
      simp only [vec]
      rw [show vec l ++ (nodes r : Int) :: vec r = (vec l ++ [(nodes r : Int)]) ++ vec r by simp, show nodes l + 1 = (vec l ++ [(nodes r : Int)]).length by simp [l1], List.drop_left]
    simp only [ofV]
    rw [if_neg (by omega), hf]
    simp only [e1, e2, ofV_vec f l (by omega), ofV_vec f r (by omega)]
    rfl
theorem vec_inj {t u : BT} (h : vec t = vec u) : t = u := by
  have h1 := ofV_vec (nodes t) t (Nat.le_refl _)
  have hn : nodes u = nodes t := by rw [← vec_length, ← vec_length, h]
  have h2 := ofV_vec (nodes t) u (by omega)
  rw [h, h2] at h1
  exact (enc_inj (congrArg Prod.fst h1)).symm
theorem NC_tree : ∀ (f : Nat) (l : List Int), l.length ≤ f → NC l → ∃ t, vec t = l
  | 0, l, h, _ => ⟨.leaf, by cases l with | nil => rfl | cons a l => simp at h⟩
  | f + 1, l, h, hc => by
    by_cases h0 : l.length = 0
    · exact ⟨.leaf, by cases l with | nil => rfl | cons a l => simp at h0⟩
    · have hex : ∃ i, i < l.length ∧ l.getD i 0 = (l.length : Int) - 1 - i ∧ ∀ k, k < i → l.getD k 0 ≠ (l.length : Int) - 1 - k := by
        have key : ∀ m i, i + m = l.length → (∀ k, k < i → l.getD k 0 ≠ (l.length : Int) - 1 - k) → i < l.length → ∃ i, i < l.length ∧ l.getD i 0 = (l.length : Int) - 1 - i ∧ ∀ k, k < i → l.getD k 0 ≠ (l.length : Int) - 1 - k := by
          intro m
          induction m with
          | zero => intro i h1 h2 h3; omega
          | succ m ih =>
            intro i h1 h2 h3
            by_cases e : l.getD i 0 = (l.length : Int) - 1 - i
            · exact ⟨i, h3, e, h2⟩
            · refine ih (i + 1) (by omega) (fun k hk => ?_) ?_
              · by_cases e2 : k = i
                · subst e2; exact e
                · exact h2 k (by omega)
              · have := hc.bd i h3
                omega
        exact key l.length 0 (by omega) (fun k hk => by omega) (by omega)
      obtain ⟨i, hi, hv, hfirst⟩ := hex
      have gT : ∀ k, k < i → (l.take i).getD k 0 = l.getD k 0 := fun k hk => by
        rw [List.getD_eq_getElem?_getD, List.getElem?_take_of_lt hk, ← List.getD_eq_getElem?_getD]
      have gD : ∀ k, (l.drop (i + 1)).getD k 0 = l.getD (i + 1 + k) 0 := fun k => by
        rw [List.getD_eq_getElem?_getD, List.getElem?_drop, ← List.getD_eq_getElem?_getD]
      have lT : (l.take i).length = i := by rw [List.length_take]; omega
      have lD : (l.drop (i + 1)).length = l.length - 1 - i := by rw [List.length_drop]; omega
      obtain ⟨t1, h1⟩ := NC_tree f (l.take i) (by omega) ⟨fun k hk => by
        rw [lT] at hk ⊢
        rw [gT k hk]
        have b := hc.bd k (by omega)
        refine ⟨b.1, ?_⟩
        rcases (show (i - 1 - k : Int) < l.getD k 0 ∨ l.getD k 0 ≤ (i - 1 - k : Int) by omega) with hx | hx
        · exfalso
          have := hc.inn k i (by omega) hi hk (by omega)
          exact hfirst k hk (by omega)
        · exact hx, fun k j hk hj hkj hjv => by
        rw [lT] at hk hj
        rw [gT k hk, gT j hj] at *
        exact hc.inn k j (by omega) (by omega) hkj hjv⟩
      obtain ⟨t2, h2⟩ := NC_tree f (l.drop (i + 1)) (by omega) ⟨fun k hk => by
        rw [lD] at hk ⊢
        rw [gD k]
        have b := hc.bd (i + 1 + k) (by omega)
        omega, fun k j hk hj hkj hjv => by
        rw [lD] at hk hj
        rw [gD k, gD j] at *
        have := hc.inn (i + 1 + k) (i + 1 + j) (by omega) (by omega) (by omega) (by omega)
        omega⟩
      refine ⟨.node t1 t2, ?_⟩
      have hn : (nodes t2 : Int) = l.getD i 0 := by
        rw [← vec_length, h2, lD, hv]; omega
      simp only [vec]
      rw [h1, h2, hn]
      have hi2 : l.getD i 0 = l[i] := by rw [List.getD_eq_getElem?_getD, List.getElem?_eq_getElem hi]; rfl
      rw [hi2, ← List.drop_eq_getElem_cons hi, List.take_append_drop]
end Go.Proofs.Ytnofaibiigpbmaa.Bin
namespace Go.Proofs.Ytnofaibiigpbmaa.E
set_option linter.unusedVariables false
set_option linter.unusedSectionVars false
open Go.RowKit Go.Proofs.YtnofaibiigpbmaaW.PrintWords Go.Proofs.Ytnofaibiigpbmaa.Base

def lenTo (xs : List (List Int)) : Nat → Nat
  | 0 => 0
  | v + 1 => lenTo xs v + (xs.getD v []).length
theorem lenTo_mono (xs : List (List Int)) : ∀ {v w : Nat}, v ≤ w → lenTo xs v ≤ lenTo xs w
  | v, 0, h => by
    have e : v = 0 := by omega
    subst e; exact Nat.le_refl _
  | v, w + 1, h => by
    by_cases e : v = w + 1
    · subst e; exact Nat.le_refl _
    · have := lenTo_mono xs (v := v) (w := w) (by omega)
      simp only [lenTo]; omega
theorem take_flat (xs : List (List Int)) (v : Nat) (hv : v < xs.length) : (xs.take (v + 1)).flatten = (xs.take v).flatten ++ xs.getD v [] := by
  rw [← List.take_append_getElem hv, List.flatten_append, List.getD_eq_getElem?_getD, List.getElem?_eq_getElem hv]
  simp
theorem lenTo_flat (xs : List (List Int)) : ∀ v : Nat, v ≤ xs.length → (xs.take v).flatten.length = lenTo xs v
  | 0, _ => by simp [lenTo]
  | v + 1, h => by
    rw [take_flat xs v (by omega), List.length_append, lenTo_flat xs v (by omega)]; rfl
theorem slices_Concat_loop1 (xs : List (List Int)) (hx : xs.length ≤ 1048576) (hn : lenTo xs xs.length ≤ 1048576) : ∀ (m v : Nat), v + m = xs.length → Ev (fun k => slices_Concat_int64_int64.l1 k (xs.take v).flatten xs (xs.length : Int) (v : Int)) xs.flatten
  | 0, v, h => by
    refine Ev.step (fun k => by rw [slices_Concat_int64_int64.l1]) ?_
    refine ev_neg (by omega) (ev_now ?_)
    rw [List.take_of_length_le (by omega)]
  | m + 1, v, h => by
    have ih := slices_Concat_loop1 xs hx hn m (v + 1) (by omega)
    rw [take_flat xs v (by omega)] at ih
    have h1 := lenTo_mono xs (v := v + 1) (w := xs.length) (by omega)
    have h2 := lenTo_flat xs v (by omega)
    have e : rd_L3 xs (v : Int) = xs.getD v [] := rfl
    simp only [lenTo] at h1
    refine Ev.step (fun k => by rw [slices_Concat_int64_int64.l1]) ?_
    rw [e]
    refine ev_pos (by omega) (ev_pos (by omega) (ev_pos (by omega) (ev_pos (by omega) ?_)))
    rw [w64s (by omega)]
    exact ih
theorem slices_Concat_loop0 (xs : List (List Int)) (hx : xs.length ≤ 1048576) (hn : lenTo xs xs.length ≤ 1048576) : ∀ (m v : Nat), v + m = xs.length → Ev (fun k => slices_Concat_int64_int64.l0 k xs (lenTo xs v : Int) xs (xs.length : Int) (v : Int)) xs.flatten
  | 0, v, h => by
    have e : v = xs.length := by omega
    subst e
    refine Ev.step (fun k => by rw [slices_Concat_int64_int64.l0]) ?_
    refine ev_neg (by omega) ?_
    have hg : slices_Grow_int64_int64.f (lenTo xs xs.length : Int) = some [] := by
      unfold slices_Grow_int64_int64.f
      rw [if_pos ⟨by omega, by omega⟩]
    rw [hg]
    refine ev_some ?_
    exact slices_Concat_loop1 xs hx hn xs.length 0 (by omega)
  | m + 1, v, h => by
    have h1 := lenTo_mono xs (v := v + 1) (w := xs.length) (by omega)
    have e : rd_L3 xs (v : Int) = xs.getD v [] := rfl
    have ih := slices_Concat_loop0 xs hx hn m (v + 1) (by omega)
    have e2 : (lenTo xs v : Int) + ((xs.getD v []).length : Int) = (lenTo xs (v + 1) : Int) := by simp only [lenTo]; omega
    refine Ev.step (fun k => by rw [slices_Concat_int64_int64.l0]) ?_
    rw [e, e2, w64 (by omega) (by omega), w64s (by omega)]
    exact ev_pos (by omega) (ev_pos (by omega) (ev_pos (by omega) (ev_neg (by omega) ih)))
theorem slices_Concat_ev (xs : List (List Int)) (hx : xs.length ≤ 1048576) (hn : xs.flatten.length ≤ 1048576) : Ev (fun k => slices_Concat_int64_int64.f k xs) xs.flatten := by
  unfold slices_Concat_int64_int64.f
  have h := lenTo_flat xs xs.length (Nat.le_refl _)
  rw [List.take_of_length_le (Nat.le_refl _)] at h
  exact slices_Concat_loop0 xs hx (by omega) xs.length 0 (by omega)
end Go.Proofs.Ytnofaibiigpbmaa.E
namespace Go.Proofs.Ytnofaibiigpbmaa.E
set_option linter.unusedVariables false
set_option linter.unusedSectionVars false
open Go.RowKit Go.Proofs.YtnofaibiigpbmaaW.PrintWords Go.Proofs.YtnofaibiigpbmaaW.PrintMore Go.Proofs.Ytnofaibiigpbmaa.Base Go.Proofs.Ytnofaibiigpbmaa.Bin

theorem leaf_textM : (B (enc .leaf)).toList = ([48] : List UInt8) := by rw [toList_B]; rfl
theorem node_textM (l r : BT) : ¬ (B (enc (.node l r))).toList = ([48] : List UInt8) := by rw [toList_B]; simp [enc]
theorem spec_vector_ev : ∀ t : BT, nodes t ≤ 1000 → Ev (fun k => spec_l03Vector.f k (B (enc t))) (vec t)
  | .leaf, _ => by
    refine Ev.step (fun k => by rw [spec_l03Vector.f]) ?_
    exact ev_pos leaf_textM (Ev.now _)
  | .node l r, h => by
    simp only [nodes] at h
    have h1 := vec_length l
    have h2 := vec_length r
    refine Ev.step (fun k => by rw [spec_l03Vector.f]) ?_
    refine ev_neg (node_textM l r) (Ev.bind (spec_l03Sides_ev l r (by omega)) (Ev.bind (spec_vector_ev l (by omega)) ?_))
    simp only [l03N_ev r (by omega)]
    refine ev_some (ev_pos (by omega) (ev_some (Ev.bind (spec_vector_ev r (by omega)) (ev_pos (by simp; omega) (ev_now ?_)))))
    simp [vec]
theorem impl_vector_ev : ∀ t : BT, nodes t ≤ 1000 → Ev (fun k => impl_vector.f k (B (enc t))) (vec t)
  | .leaf, _ => by
    refine Ev.step (fun k => by rw [impl_vector.f]) ?_
    exact ev_pos leaf_textM (Ev.now _)
  | .node l r, h => by
    simp only [nodes] at h
    have h1 := vec_length l
    have h2 := vec_length r
    refine Ev.step (fun k => by rw [impl_vector.f]) ?_
    refine ev_neg (node_textM l r) (Ev.bind (impl_sides_ev l r (by omega)) (Ev.bind (impl_vector_ev l (by omega)) ?_))
    simp only [nodesOf_ev r (by omega)]
    refine ev_some (Ev.bind (impl_vector_ev r (by omega)) (Ev.bind (slices_Concat_ev _ (by simp) (by simp; omega)) (ev_now ?_)))
    simp [vec]
theorem B_litM (l : List UInt8) : (⟨#[49]⟩ : ByteArray) ++ B l = B (49 :: l) := B_append [49] l
def bOf (x : List UInt8 × Bool) : ByteArray × Bool := (B x.1, x.2)
theorem spec_of_loop {l : List Int} {f : Nat} (hl : l.length ≤ 1000) (hf : l.length ≤ f + 1) (ih : ∀ x : List Int, x.length ≤ f → x.length ≤ 1000 → Ev (fun k => spec_l03Of.f k x) (bOf (ofV f x))) :
    ∀ (m i : Nat), i + m = l.length → Ev (fun k => spec_l03Of.l0 k l (i : Int)) (bOf (match firstR l m i with
      | none => ([], false)
      | some i => (49 :: ((ofV f (l.take i)).1 ++ (ofV f (l.drop (i + 1))).1), (ofV f (l.take i)).2 && (ofV f (l.drop (i + 1))).2)))
  | 0, i, hi => by
    refine Ev.step (fun k => by rw [spec_l03Of.l0]) ?_
    exact ev_neg (by omega) (Ev.now _)
  | m + 1, i, hi => by
    have h1 := ofV_length f (l.take i) (by simp; omega)
    have h2 := ofV_length f (l.drop (i + 1)) (by simp; omega)
    simp only [List.length_take, List.length_drop] at h1 h2
    refine Ev.step (fun k => by rw [spec_l03Of.l0]) ?_
    rw [w64 (x := (l.length : Int) - 1) (by omega) (by omega), w64 (x := (l.length : Int) - 1 - i) (by omega) (by omega), w64s (by omega), rd_nat]
    simp only [firstR]
    refine ev_pos (by omega) (ev_pos (by omega) (ev_ite (fun hx => ?_) (fun hx => ?_)))
    · rw [if_pos hx]
      refine ev_pos (by omega) (Ev.bind (ih (l.take i) (by simp; omega) (by simp; omega)) (ev_pos (by omega) (ev_pos (by omega) (Ev.bind (ih (l.drop (i + 1)) (by simp; omega) (by simp; omega)) ?_))))
      simp only [bOf, B_litM, B_append, B_size]
      refine ev_pos (by omega) (ev_pos (by simp only [List.length_cons]; omega) ?_)
      cases (ofV f (l.take i)).2 with
      | true => exact ev_pos rfl (ev_now (by simp))
      | false => exact ev_neg (by decide) (ev_now (by simp))
    · rw [if_neg hx]
      exact spec_of_loop hl hf ih m (i + 1) (by omega)
theorem spec_l03Of_ev : ∀ (f : Nat) (l : List Int), l.length ≤ f → l.length ≤ 1000 → Ev (fun k => spec_l03Of.f k l) (bOf (ofV f l))
  | 0, l, hf, hl => by
    refine Ev.step (fun k => by rw [spec_l03Of.f]) ?_
    exact ev_pos (by omega) (Ev.now _)
  | f + 1, l, hf, hl => by
    refine Ev.step (fun k => by rw [spec_l03Of.f]) ?_
    simp only [ofV]
    refine ev_ite (fun hx => ?_) (fun hx => ?_)
    · rw [if_pos (by omega)]; exact Ev.now _
    · rw [if_neg (by omega)]
      exact spec_of_loop hl hf (fun x h1 h2 => spec_l03Of_ev f x h1 h2) l.length 0 (by omega)
theorem impl_of_loop {l : List Int} {f : Nat} (hl : l.length ≤ 1000) (hf : l.length ≤ f + 1) (ih : ∀ x : List Int, x.length ≤ f → x.length ≤ 1000 → Ev (fun k => impl_binaryOfVector.f k x) (bOf (ofV f x))) :
    ∀ (m i : Nat), i + m = l.length → Ev (fun k => impl_binaryOfVector.l0 k l l (l.length : Int) (i : Int)) (bOf (match firstR l m i with
      | none => ([], false)
      | some i => (49 :: ((ofV f (l.take i)).1 ++ (ofV f (l.drop (i + 1))).1), (ofV f (l.take i)).2 && (ofV f (l.drop (i + 1))).2)))
  | 0, i, hi => by
    refine Ev.step (fun k => by rw [impl_binaryOfVector.l0]) ?_
    exact ev_neg (by omega) (Ev.now _)
  | m + 1, i, hi => by
    have h1 := ofV_length f (l.take i) (by simp; omega)
    have h2 := ofV_length f (l.drop (i + 1)) (by simp; omega)
    simp only [List.length_take, List.length_drop] at h1 h2
    refine Ev.step (fun k => by rw [impl_binaryOfVector.l0]) ?_
    rw [w64 (x := (l.length : Int) - 1) (by omega) (by omega), w64 (x := (l.length : Int) - 1 - i) (by omega) (by omega), w64s (by omega), rd_nat]
    simp only [firstR]
    refine ev_pos (by omega) (ev_pos (by omega) (ev_pos (by omega) (ev_ite (fun hx => ?_) (fun hx => ?_))))
    · rw [if_pos hx]
      refine ev_pos (by omega) (Ev.bind (ih (l.take i) (by simp; omega) (by simp; omega)) (ev_pos (by omega) (ev_pos (by omega) (Ev.bind (ih (l.drop (i + 1)) (by simp; omega) (by simp; omega)) ?_))))
      simp only [bOf, B_litM, B_append, B_size]
      refine ev_pos (by omega) (ev_pos (by simp only [List.length_cons]; omega) ?_)
      cases (ofV f (l.take i)).2 with
      | true => exact ev_pos rfl (ev_now (by simp))
      | false => exact ev_neg (by decide) (ev_now (by simp))
    · rw [if_neg hx]
      exact impl_of_loop hl hf ih m (i + 1) (by omega)
theorem impl_of_ev : ∀ (f : Nat) (l : List Int), l.length ≤ f → l.length ≤ 1000 → Ev (fun k => impl_binaryOfVector.f k l) (bOf (ofV f l))
  | 0, l, hf, hl => by
    refine Ev.step (fun k => by rw [impl_binaryOfVector.f]) ?_
    exact ev_pos (by omega) (Ev.now _)
  | f + 1, l, hf, hl => by
    refine Ev.step (fun k => by rw [impl_binaryOfVector.f]) ?_
    simp only [ofV]
    refine ev_ite (fun hx => ?_) (fun hx => ?_)
    · rw [if_pos (by omega)]; exact Ev.now _
    · rw [if_neg (by omega)]
      exact impl_of_loop hl hf (fun x h1 h2 => impl_of_ev f x h1 h2) l.length 0 (by omega)
def mnFrom (b : List Int) : Nat → Nat → List Int → List Int
  | 0, _, a => a
  | m + 1, i, a => mnFrom b m (i + 1) (a.set i (mn (a.getD i 0) (b.getD i 0)))
theorem mnFrom_length (b : List Int) : ∀ m i a, (mnFrom b m i a).length = a.length
  | 0, _, a => rfl
  | m + 1, i, a => by simp only [mnFrom]; rw [mnFrom_length b m (i + 1)]; simp
theorem spec_meet_in (b : List Int) (n : Nat) (hn : n ≤ 1000) (hb : b.length = n) : ∀ (m i : Nat) (a : List Int), i + m = n → a.length = n → Ev (fun k => spec_MeetOfBinary.l0 k a b (i : Int)) (B (ofV n (mnFrom b m i a)).1, 0)
  | 0, i, a, hi, ha => by
    refine Ev.step (fun k => by rw [spec_MeetOfBinary.l0]) ?_
    exact ev_neg (by omega) (Ev.bind (spec_l03Of_ev n a (by omega) (by omega)) (Ev.now _))
  | m + 1, i, a, hi, ha => by
    refine Ev.step (fun k => by rw [spec_MeetOfBinary.l0]) ?_
    refine ev_pos (by omega) (ev_pos (by omega) (ev_pos (by omega) ?_))
    rw [w64s (by omega)]
    exact spec_meet_in b n hn hb m (i + 1) _ (by omega) (by simpa using ha)
theorem impl_meet_in (b : List Int) (n : Nat) (hn : n ≤ 1000) (hb : b.length = n) : ∀ (m i : Nat) (a : List Int), i + m = n → a.length = n → Ev (fun k => impl_MeetOfBinary.l0 k a b (n : Int) (i : Int)) (B (ofV n (mnFrom b m i a)).1, 0)
  | 0, i, a, hi, ha => by
    refine Ev.step (fun k => by rw [impl_MeetOfBinary.l0]) ?_
    exact ev_neg (by omega) (Ev.bind (impl_of_ev n a (by omega) (by omega)) (Ev.now _))
  | m + 1, i, a, hi, ha => by
    refine Ev.step (fun k => by rw [impl_MeetOfBinary.l0]) ?_
    refine ev_pos (by omega) (ev_pos (by omega) (ev_pos (by omega) (ev_pos (by omega) ?_)))
    rw [w64s (by omega)]
    exact impl_meet_in b n hn hb m (i + 1) _ (by omega) (by simpa using ha)
end Go.Proofs.Ytnofaibiigpbmaa.E
namespace Go.Proofs.Ytnofaibiigpbmaa.E
set_option linter.unusedVariables false
set_option linter.unusedSectionVars false
open Go.RowKit Go.Proofs.YtnofaibiigpbmaaW.PrintWords Go.Proofs.YtnofaibiigpbmaaW.PrintMore Go.Proofs.Ytnofaibiigpbmaa.Base Go.Proofs.Ytnofaibiigpbmaa.Bin

theorem leV_drop {a b : List Int} {i : Nat} (ha : i < a.length) (hb : i < b.length) : leV (a.drop i) (b.drop i) = (decide (a.getD i 0 ≤ b.getD i 0) && leV (a.drop (i + 1)) (b.drop (i + 1))) := by
  rw [List.drop_eq_getElem_cons ha, List.drop_eq_getElem_cons hb]
  simp only [leV]
  rw [List.getD_eq_getElem?_getD, List.getElem?_eq_getElem ha, List.getD_eq_getElem?_getD, List.getElem?_eq_getElem hb]
  rfl
theorem impl_most_loop (a b : List Int) (hl : a.length = b.length) (hs : a.length ≤ 1000) : ∀ (m i : Nat), i + m = a.length → Ev (fun k => impl_IsAtMost.l0 k b a (a.length : Int) (i : Int)) (leV (a.drop i) (b.drop i), 0)
  | 0, i, hi => by
    rw [List.drop_of_length_le (by omega)]
    refine Ev.step (fun k => by rw [impl_IsAtMost.l0]) ?_
    exact ev_neg (by omega) (ev_now rfl)
  | m + 1, i, hi => by
    have ih := impl_most_loop a b hl hs m (i + 1) (by omega)
    rw [leV_drop (by omega) (by omega)]
    refine Ev.step (fun k => by rw [impl_IsAtMost.l0]) ?_
    rw [w64s (by omega), rd_nat, rd_nat]
    refine ev_pos (by omega) (ev_pos (by omega) (ev_pos (by omega) (ev_pos (by omega) (ev_ite (fun hx => ?_) (fun hx => ?_)))))
    · rw [decide_eq_false (by omega)]; exact Ev.now _
    · rw [decide_eq_true (by omega), Bool.true_and]; exact ih
theorem spec_most_loop (a b : List Int) (hl : a.length = b.length) (hs : a.length ≤ 1000) : ∀ (m i : Nat), i + m = a.length → Ev (fun k => spec_IsAtMost.l0 k a b (i : Int)) (leV (a.drop i) (b.drop i), 0)
  | 0, i, hi => by
    rw [List.drop_of_length_le (by omega)]
    refine Ev.step (fun k => by rw [spec_IsAtMost.l0]) ?_
    exact ev_neg (by omega) (ev_now rfl)
  | m + 1, i, hi => by
    have ih := spec_most_loop a b hl hs m (i + 1) (by omega)
    rw [leV_drop (by omega) (by omega)]
    refine Ev.step (fun k => by rw [spec_IsAtMost.l0]) ?_
    rw [w64s (by omega), rd_nat, rd_nat]
    refine ev_pos (by omega) (ev_pos (by omega) (ev_pos (by omega) (ev_ite (fun hx => ?_) (fun hx => ?_))))
    · rw [decide_eq_false (by omega)]; exact Ev.now _
    · rw [decide_eq_true (by omega), Bool.true_and]; exact ih
theorem twoM_trees {t u : BT} (ht : nodes t ≤ 23) (hu : nodes u ≤ 23) (h : nodes t = nodes u) : twoM (enc t) (enc u) = 0 := by
  unfold twoM
  rw [if_pos ⟨isBin_enc ht, isBin_enc hu⟩, if_pos (by rw [enc_length, enc_length, h])]
theorem twoM_sound {w u : List UInt8} (hc : twoM w u = 0) : ∃ t s, w = enc t ∧ u = enc s ∧ nodes t ≤ 23 ∧ nodes s = nodes t := by
  have h3 : (isBin w = true ∧ isBin u = true) ∧ w.length = u.length := by
    unfold twoM at hc
    split at hc
    · rename_i h; split at hc
      · rename_i h2; exact ⟨h, h2⟩
      · cases hc
    · cases hc
  obtain ⟨⟨hw, hu⟩, hl⟩ := h3
  obtain ⟨t, rfl, ht⟩ := isBin_sound hw
  obtain ⟨s, rfl, hs⟩ := isBin_sound hu
  rw [enc_length, enc_length] at hl
  exact ⟨t, s, rfl, rfl, ht, by omega⟩
theorem impl_most_ev {t u : BT} (ht : nodes t ≤ 23) (h : nodes u = nodes t) : Ev (fun k => impl_IsAtMost.f k (B (enc t)) (B (enc u))) (leV (vec t) (vec u), 0) := by
  have l1 := vec_length t
  have l2 := vec_length u
  unfold impl_IsAtMost.f
  refine Ev.bind (impl_two_ev _ _) (ev_pos (twoM_trees ht (by omega) h.symm) (Ev.bind (impl_vector_ev u (by omega)) (Ev.bind (impl_vector_ev t (by omega)) ?_)))
  have := impl_most_loop (vec t) (vec u) (by omega) (by omega) (vec t).length 0 (by omega)
  rwa [List.drop_zero, List.drop_zero] at this
theorem spec_most_ev {t u : BT} (ht : nodes t ≤ 23) (h : nodes u = nodes t) : Ev (fun k => spec_IsAtMost.f k (B (enc t)) (B (enc u))) (leV (vec t) (vec u), 0) := by
  have l1 := vec_length t
  have l2 := vec_length u
  unfold spec_IsAtMost.f
  refine Ev.bind (spec_both_ev _ _) (ev_pos (twoM_trees ht (by omega) h.symm) (Ev.bind (spec_vector_ev t (by omega)) (Ev.bind (spec_vector_ev u (by omega)) ?_)))
  have := spec_most_loop (vec t) (vec u) (by omega) (by omega) (vec t).length 0 (by omega)
  rwa [List.drop_zero, List.drop_zero] at this
theorem both_IsAtMost (w u : List UInt8) : ∃ r : Bool × Int, Ev (fun k => spec_IsAtMost.f k (B w) (B u)) r ∧ Ev (fun k => impl_IsAtMost.f k (B w) (B u)) r := by
  by_cases hc : twoM w u = 0
  · obtain ⟨t, s, rfl, rfl, ht, hs⟩ := twoM_sound hc
    exact ⟨_, spec_most_ev ht hs, impl_most_ev ht hs⟩
  · refine ⟨(false, twoM w u), ?_, ?_⟩
    · unfold spec_IsAtMost.f
      exact Ev.bind (spec_both_ev _ _) (ev_neg hc (Ev.now _))
    · unfold impl_IsAtMost.f
      exact Ev.bind (impl_two_ev _ _) (ev_neg hc (Ev.now _))
theorem mnFrom_get (b : List Int) : ∀ (m i : Nat) (a : List Int) (j : Nat), i + m = a.length → j < a.length → (mnFrom b m i a).getD j 0 = if i ≤ j then mn (a.getD j 0) (b.getD j 0) else a.getD j 0
  | 0, i, a, j, hi, hj => by simp only [mnFrom]; rw [if_neg (by omega)]
  | m + 1, i, a, j, hi, hj => by
    simp only [mnFrom]
    rw [mnFrom_get b m (i + 1) _ j (by rw [List.length_set]; omega) (by rw [List.length_set]; omega)]
    by_cases e : i = j
    · subst e
      rw [if_neg (by omega), if_pos (Nat.le_refl _), get_set_eq (by omega)]
    · rw [get_set_ne e]
      by_cases h : i + 1 ≤ j
      · rw [if_pos h, if_pos (by omega)]
      · rw [if_neg h, if_neg (by omega)]
def meetV (t s : BT) : List Int := mnFrom (vec s) (nodes t) 0 (vec t)
theorem meetV_length (t s : BT) : (meetV t s).length = nodes t := by unfold meetV; rw [mnFrom_length, vec_length]
theorem meetV_get {t s : BT} {j : Nat} (hj : j < nodes t) : (meetV t s).getD j 0 = mn ((vec t).getD j 0) ((vec s).getD j 0) := by
  unfold meetV
  rw [mnFrom_get _ _ _ _ _ (by rw [vec_length]; omega) (by rw [vec_length]; omega), if_pos (by omega)]
theorem meet_tree (t s : BT) (h : nodes s = nodes t) : ∃ p, vec p = meetV t s ∧ nodes p = nodes t := by
  have l1 := vec_length t
  have l2 := vec_length s
  have l3 := meetV_length t s
  have ct := vec_NC t
  have cs := vec_NC s
  obtain ⟨p, hp⟩ := NC_tree (nodes t) (meetV t s) (by omega) ⟨fun i hi => by
    rw [l3] at hi
    rw [meetV_get hi, l3]
    have b1 := ct.bd i (by omega)
    have b2 := cs.bd i (by omega)
    unfold mn
    split <;> omega, fun i j hi hj hij hjv => by
    rw [l3] at hi hj
    rw [meetV_get hi] at hjv ⊢
    rw [meetV_get hj]
    have b1 := ct.inn i j (by omega) (by omega) hij
    have b2 := cs.inn i j (by omega) (by omega) hij
    have b3 : ∀ x y : Int, mn x y ≤ x ∧ mn x y ≤ y ∧ (mn x y = x ∨ mn x y = y) := fun x y => by unfold mn; split <;> omega
    have c1 := b3 ((vec t).getD i 0) ((vec s).getD i 0)
    have c2 := b3 ((vec t).getD j 0) ((vec s).getD j 0)
    have d1 := b1 (by omega)
    have d2 := b2 (by omega)
    omega⟩
  exact ⟨p, hp, by rw [← vec_length, hp, l3]⟩
theorem meet_ev {t s : BT} (ht : nodes t ≤ 23) (h : nodes s = nodes t) : ∃ p, nodes p = nodes t ∧ Ev (fun k => impl_MeetOfBinary.f k (B (enc t)) (B (enc s))) (B (enc p), 0) ∧ Ev (fun k => spec_MeetOfBinary.f k (B (enc t)) (B (enc s))) (B (enc p), 0) ∧
    leV (vec p) (vec t) = true ∧ leV (vec p) (vec s) = true ∧ (leV (vec t) (vec s) = true ↔ p = t) := by
  have l1 := vec_length t
  have l2 := vec_length s
  have l3 := meetV_length t s
  obtain ⟨p, hp, hn⟩ := meet_tree t s h
  have hO : ofV (nodes t) (mnFrom (vec s) (nodes t) 0 (vec t)) = (enc p, true) := by
    have := ofV_vec (nodes t) p (by omega)
    rw [hp] at this
    exact this
  have hc := twoM_trees ht (show nodes s ≤ 23 by omega) h.symm
  have b3 : ∀ x y : Int, mn x y ≤ x ∧ mn x y ≤ y ∧ (x ≤ y → mn x y = x) ∧ (mn x y = x → x ≤ y) := fun x y => by unfold mn; split <;> omega
  refine ⟨p, hn, ?_, ?_, ?_, ?_, ?_⟩
  · unfold impl_MeetOfBinary.f
    refine Ev.bind (impl_two_ev _ _) (ev_pos hc (Ev.bind (impl_vector_ev t (by omega)) (Ev.bind (impl_vector_ev s (by omega)) ?_)))
    rw [l1]
    have := impl_meet_in (vec s) (nodes t) (by omega) (by omega) (nodes t) 0 (vec t) (by omega) l1
    rwa [hO] at this
  · unfold spec_MeetOfBinary.f
    have := spec_meet_in (vec s) (nodes t) (by omega) (by omega) (nodes t) 0 (vec t) (by omega) l1
    rw [hO] at this
    exact Ev.bind (spec_both_ev _ _) (ev_pos hc (Ev.bind (spec_vector_ev t (by omega)) (Ev.bind (spec_vector_ev s (by omega)) this)))
  · rw [hp, leV_iff _ _ (by omega)]
    intro i hi
    rw [l3] at hi
    rw [meetV_get hi]
    exact (b3 _ _).1
  · rw [hp, leV_iff _ _ (by omega)]
    intro i hi
    rw [l3] at hi
    rw [meetV_get hi]
    exact (b3 _ _).2.1
  · rw [leV_iff _ _ (by omega)]
    constructor
    · intro hle
      apply vec_inj
      rw [hp]
      refine ext_getD (by omega) (fun j hj => ?_)
      rw [meetV_get (by omega)]
      exact (b3 _ _).2.2.1 (hle j hj)
    · rintro rfl
      intro i hi
      have := meetV_get (t := p) (s := s) (j := i) (by omega)
      rw [← hp] at this
      exact (b3 _ _).2.2.2 this.symm
end Go.Proofs.Ytnofaibiigpbmaa.E
namespace Go.Proofs.Ytnofaibiigpbmaa.E
set_option linter.unusedVariables false
set_option linter.unusedSectionVars false
open Go.RowKit Go.Proofs.YtnofaibiigpbmaaW.PrintWords Go.Proofs.Ytnofaibiigpbmaa.Base Go.Proofs.Ytnofaibiigpbmaa.Bin

theorem nodeM_tree {w : List UInt8} {i : Int} (hc : nodeM w i = 0) : ∃ (t : BT) (j : Nat), w = enc t ∧ nodes t ≤ 23 ∧ i = j ∧ j < nodes t := by
  unfold nodeM at hc
  split at hc
  · rename_i hw
    obtain ⟨t, rfl, ht⟩ := isBin_sound hw
    split at hc
    · rename_i hi
      have hl := enc_length t
      exact ⟨t, i.toNat, rfl, ht, by omega, by omega⟩
    · cases hc
  · cases hc
theorem nodeM_of {t : BT} (ht : nodes t ≤ 23) {j : Nat} (hj : j < nodes t) : nodeM (enc t) (j : Int) = 0 := by
  have hl := enc_length t
  unfold nodeM
  rw [if_pos (isBin_enc ht), if_pos (by omega)]
def outN2 : Option BT → ByteArray × Int
  | some u => (B (enc u), 0)
  | none => (B [], 5)
theorem impl_right_ev {t : BT} (ht : nodes t ≤ 23) {j : Nat} (hj : j < nodes t) : Ev (fun k => impl_RotateRight.f k (B (enc t)) (j : Int)) (outN2 (rotAt t j true)) := by
  unfold impl_RotateRight.f
  refine Ev.bind (impl_rotate_ev (enc t) _ true (r := outN2 (rotAt t j true)) (fun _ => Ev.bind (impl_rot_ev hj (by omega) true) ?_) (fun hn => absurd (nodeM_of ht hj) hn)) (ev_now rfl)
  cases rotAt t j true with
  | none => exact ev_neg (by simp [outQ]) (Ev.now _)
  | some u => exact ev_pos rfl (Ev.now _)
theorem spec_right_ev {t : BT} (ht : nodes t ≤ 23) {j : Nat} (hj : j < nodes t) : Ev (fun k => spec_RotateRight.f k (B (enc t)) (j : Int)) (outN2 (rotAt t j true)) := by
  unfold spec_RotateRight.f
  refine Ev.bind (spec_node_ev (enc t) _) (ev_pos (nodeM_of ht hj) (Ev.bind (spec_rot_ev hj (by omega) true) ?_))
  cases rotAt t j true with
  | none => exact ev_neg (by simp [outQ]) (Ev.now _)
  | some u => exact ev_pos rfl (Ev.now _)
theorem impl_left_ev {t : BT} (ht : nodes t ≤ 23) {j : Nat} (hj : j < nodes t) : Ev (fun k => impl_RotateLeft.f k (B (enc t)) (j : Int)) (outN2 (rotAt t j false)) := by
  unfold impl_RotateLeft.f
  refine Ev.bind (impl_rotate_ev (enc t) _ false (r := outN2 (rotAt t j false)) (fun _ => Ev.bind (impl_rot_ev hj (by omega) false) ?_) (fun hn => absurd (nodeM_of ht hj) hn)) (ev_now rfl)
  cases rotAt t j false with
  | none => exact ev_neg (by simp [outQ]) (Ev.now _)
  | some u => exact ev_pos rfl (Ev.now _)
theorem right_all (a : List UInt8) (i : Int) : ∃ r : ByteArray × Int, Ev (fun k => spec_RotateRight.f k (B a) i) r ∧ Ev (fun k => impl_RotateRight.f k (B a) i) r ∧
    (r.2 = 0 → ∃ t j u, a = enc t ∧ nodes t ≤ 23 ∧ i = ((j : Nat) : Int) ∧ rotAt t j true = some u ∧ r.1 = B (enc u)) := by
  by_cases hc : nodeM a i = 0
  · obtain ⟨t, j, rfl, ht, rfl, hj⟩ := nodeM_tree hc
    refine ⟨outN2 (rotAt t j true), spec_right_ev ht hj, impl_right_ev ht hj, fun h0 => ?_⟩
    cases hr : rotAt t j true with
    | none => rw [hr] at h0; simp [outN2] at h0
    | some u => exact ⟨t, j, u, rfl, ht, rfl, hr, rfl⟩
  · refine ⟨(B [], nodeM a i), ?_, ?_, fun h => absurd h hc⟩
    · unfold spec_RotateRight.f
      exact Ev.bind (spec_node_ev a _) (ev_neg hc (Ev.now _))
    · unfold impl_RotateRight.f
      exact Ev.bind (impl_rotate_ev a _ true (fun h => absurd h hc) (fun _ => rfl)) (ev_now rfl)
theorem impl_turns_ev {t u : BT} (h7 : nodes t ≤ 7) (h : nodes u = nodes t) : Ev (fun k => impl_TurnsBetween.f k (B (enc t)) (B (enc u))) (rots t u, 0) := by
  unfold impl_TurnsBetween.f
  refine Ev.bind (impl_two_ev _ _) (ev_pos (twoM_trees (by omega) (by omega) h.symm) ?_)
  rw [nodesOf_ev t (by omega)]
  refine ev_some (ev_neg (by omega) (ev_pos ⟨by rw [B_size, enc_length]; simp only [maxLen]; omega, by rw [B_size, enc_length]; simp only [maxLen]; omega⟩ ?_))
  have h1 := impl_levels (v := B (enc u)) (w := t) rfl h7 32769 0 [(t, 0)] (by omega) (start_KG t)
  have e : farGet (farOf (outK (nodes t) 32769 0 [(t, 0)])) (B (enc u)) = rots t u := by
    unfold rots
    rcases res_out h7 u 32769 0 [(t, 0)] (by omega) (start_KG t) (fun j x hj => by omega) with ⟨x, hx, h2, h3⟩ | ⟨h2, h3⟩
    · rw [← h3, ← h2]
      exact farOf_get (KG.out _ _ _ (start_KG t)) hx
    · rw [h3]; exact farOf_none h2
  rw [e] at h1
  exact h1
theorem spec_turns_ev {t u : BT} (h7 : nodes t ≤ 7) (h : nodes u = nodes t) : Ev (fun k => spec_TurnsBetween.f k (B (enc t)) (B (enc u))) (rots t u, 0) := by
  unfold spec_TurnsBetween.f
  refine Ev.bind (spec_both_ev _ _) (ev_pos (twoM_trees (by omega) (by omega) h.symm) ?_)
  rw [l03N_ev t (by omega)]
  exact ev_some (ev_neg (by omega) (spec_levels rfl h7 32769 0 [(t, 0)] (by omega) (start_KG t)))
theorem impl_turns_far {t u : BT} (ht : nodes t ≤ 23) (h7 : ¬ nodes t ≤ 7) (h : nodes u = nodes t) : Ev (fun k => impl_TurnsBetween.f k (B (enc t)) (B (enc u))) (0, 3) := by
  unfold impl_TurnsBetween.f
  refine Ev.bind (impl_two_ev _ _) (ev_pos (twoM_trees (by omega) (by omega) h.symm) ?_)
  rw [nodesOf_ev t (by omega)]
  exact ev_some (ev_pos (by omega) (Ev.now _))
theorem turns_all (a b : List UInt8) : ∃ r : Int × Int, Ev (fun k => spec_TurnsBetween.f k (B a) (B b)) r ∧ Ev (fun k => impl_TurnsBetween.f k (B a) (B b)) r ∧
    (r.2 = 0 → ∃ t u, a = enc t ∧ b = enc u ∧ nodes t ≤ 7 ∧ nodes u = nodes t ∧ r.1 = rots t u) := by
  by_cases hc : twoM a b = 0
  · obtain ⟨t, u, rfl, rfl, ht, hu⟩ := twoM_sound hc
    by_cases h7 : nodes t ≤ 7
    · exact ⟨(rots t u, 0), spec_turns_ev h7 hu, impl_turns_ev h7 hu, fun _ => ⟨t, u, rfl, rfl, h7, hu, rfl⟩⟩
    · refine ⟨(0, 3), ?_, impl_turns_far ht h7 hu, fun h => by simp at h⟩
      unfold spec_TurnsBetween.f
      refine Ev.bind (spec_both_ev _ _) (ev_pos hc ?_)
      rw [l03N_ev t (by omega)]
      exact ev_some (ev_pos (by omega) (Ev.now _))
  · refine ⟨(0, twoM a b), ?_, ?_, fun h => absurd h hc⟩
    · unfold spec_TurnsBetween.f
      exact Ev.bind (spec_both_ev _ _) (ev_neg hc (Ev.now _))
    · unfold impl_TurnsBetween.f
      exact Ev.bind (impl_two_ev _ _) (ev_neg hc (Ev.now _))
section
variable {c : List Int} (hc : Src c)
include hc
theorem rot_j5 : Ev (fun k => laws_FnRotations.j5 k c) true := by
  obtain ⟨⟨w, i⟩, e1⟩ := drawLeft_ev hc
  obtain ⟨a, rfl⟩ := B_all w
  obtain ⟨r, r1, r2⟩ := both_RotateLeft a i
  obtain ⟨⟨x, y⟩, e2⟩ := drawAtMost_ev hc
  obtain ⟨b, rfl⟩ := B_all x
  obtain ⟨d, rfl⟩ := B_all y
  obtain ⟨s, s1, s2⟩ := both_IsAtMost b d
  refine Ev.step (fun k => by rw [laws_FnRotations.j5]) ?_
  exact Ev.bind e1 (Ev.bind r2 (Ev.bind r1 (Ev.bind e2 (Ev.bind s2 (Ev.bind s1 (ev_pos rfl (ev_pos rfl (ev_pos rfl (ev_now (by simp))))))))))
theorem rot_j3 : Ev (fun k => laws_FnRotations.j3 k c) true := by
  obtain ⟨⟨x, y⟩, e1⟩ := drawTurns_ev hc
  obtain ⟨a, rfl⟩ := B_all x
  obtain ⟨b, rfl⟩ := B_all y
  obtain ⟨r, r1, r2, r3⟩ := turns_all a b
  refine Ev.step (fun k => by rw [laws_FnRotations.j3]) ?_
  refine Ev.bind e1 (Ev.bind r2 (Ev.bind r1 (ev_pos rfl ?_)))
  refine Ev.step (fun k => by rw [laws_FnRotations.j4]) ?_
  refine ev_neg (by simp) (ev_ite (fun h0 => ?_) (fun _ => rot_j5 hc))
  obtain ⟨t, u, rfl, rfl, h7, hu, hr⟩ := r3 h0
  refine Ev.bind (impl_turns_ev (by omega) hu.symm) (ev_pos rfl ?_)
  rw [hr]
  refine ev_pos (rots_sym h7 hu) (ev_neg ?_ (rot_j5 hc))
  rw [toList_B, toList_B]
  by_cases e : t = u
  · have := (rots_zero h7 hu).2 e
    subst e
    rw [this]; simp
  · have h1 : ¬ rots t u = 0 := fun h => e ((rots_zero h7 hu).1 h)
    have h2 : ¬ enc t = enc u := fun h => e (enc_inj h)
    rw [show (rots t u == 0) = false by simpa using h1, show (enc t == enc u) = false by simpa using h2]
    simp
theorem rot_j1 : Ev (fun k => laws_FnRotations.j1 k c) true := by
  obtain ⟨⟨x, y⟩, e1⟩ := drawMeet_ev hc
  obtain ⟨a, rfl⟩ := B_all x
  obtain ⟨b, rfl⟩ := B_all y
  by_cases h2 : twoM a b = 0
  · obtain ⟨t, s, rfl, rfl, ht, hs⟩ := twoM_sound h2
    obtain ⟨p, hp, m1, m2, m3, m4, m5⟩ := meet_ev ht hs
    refine Ev.step (fun k => by rw [laws_FnRotations.j1]) ?_
    refine Ev.bind e1 (Ev.bind m1 (Ev.bind m2 (ev_pos rfl ?_)))
    refine Ev.step (fun k => by rw [laws_FnRotations.j2]) ?_
    refine ev_neg (by simp) (ev_pos rfl (Ev.bind (impl_most_ev (t := p) (u := t) (by omega) hp.symm) (Ev.bind (impl_most_ev (t := p) (u := s) (by omega) (by omega)) (Ev.bind (impl_most_ev (t := t) (u := s) ht hs) (ev_pos rfl (ev_pos rfl (ev_pos rfl (ev_pos m3 (ev_pos m4 (ev_neg ?_ (Ev.bind (impl_IsBinary_ev (enc p)) (ev_pos (isBin_enc (by omega)) (rot_j3 hc)))))))))))))
    rw [toList_B, toList_B]
    by_cases e : p = t
    · rw [m5.2 e, e]; simp
    · have h1 : ¬ leV (vec t) (vec s) = true := fun h => e (m5.1 h)
      have h3 : ¬ enc p = enc t := fun h => e (enc_inj h)
      rw [show leV (vec t) (vec s) = false by simpa using h1, show (enc p == enc t) = false by simpa using h3]
      simp
  · have m1 : Ev (fun k => impl_MeetOfBinary.f k (B a) (B b)) (B [], twoM a b) := by
      unfold impl_MeetOfBinary.f
      exact Ev.bind (impl_two_ev _ _) (ev_neg h2 (Ev.now _))
    have m2 : Ev (fun k => spec_MeetOfBinary.f k (B a) (B b)) (B [], twoM a b) := by
      unfold spec_MeetOfBinary.f
      exact Ev.bind (spec_both_ev _ _) (ev_neg h2 (Ev.now _))
    refine Ev.step (fun k => by rw [laws_FnRotations.j1]) ?_
    refine Ev.bind e1 (Ev.bind m1 (Ev.bind m2 (ev_pos rfl ?_)))
    refine Ev.step (fun k => by rw [laws_FnRotations.j2]) ?_
    exact ev_neg (by simp) (ev_neg h2 (rot_j3 hc))
theorem rot_law (h : c.length ≤ 4096) : Ev (fun k => laws_FnRotations.f k c) true := by
  obtain ⟨⟨w, i⟩, e1⟩ := drawRight_ev hc
  obtain ⟨a, rfl⟩ := B_all w
  obtain ⟨r, r1, r2, r3⟩ := right_all a i
  unfold laws_FnRotations.f laws_big.f
  refine ev_some (ev_neg (by rw [decide_eq_true_eq]; omega) (Ev.bind e1 (Ev.bind r2 (Ev.bind r1 (ev_pos rfl ?_)))))
  refine Ev.step (fun k => by rw [laws_FnRotations.j0]) ?_
  refine ev_neg (by simp) (ev_ite (fun h0 => ?_) (fun _ => rot_j1 hc))
  obtain ⟨t, j, u, rfl, ht, rfl, hr, hu⟩ := r3 h0
  have hn := rotAt_nodes t j true u hr
  have hj := rot_lt t j true u hr
  have hb := rot_back t j true u hr
  have hup := (rot_up t j u hr).le
  have hne : t ≠ u := fun e => by
    have := hup.2
    rw [e, leV_refl] at this
    cases this
  have hl := impl_left_ev (t := u) (by omega) (j := j) (by omega)
  rw [show (!true) = false from rfl] at hb
  rw [hb] at hl
  rw [hu]
  refine Ev.bind hl (Ev.bind (impl_most_ev ht hn) (Ev.bind (impl_most_ev (t := u) (u := t) (by omega) hn.symm) ?_))
  by_cases h7 : nodes t ≤ 7
  · refine Ev.bind (impl_turns_ev h7 hn) (ev_pos rfl (ev_pos rfl (ev_pos rfl (ev_pos rfl (ev_pos hup.1 (ev_neg (by rw [hup.2]; decide) (ev_pos rfl (ev_pos (rots_one h7 hr hne) (rot_j1 hc)))))))))
  · refine Ev.bind (impl_turns_far ht h7 hn) (ev_pos rfl (ev_pos rfl (ev_pos rfl (ev_pos rfl (ev_pos hup.1 (ev_neg (by rw [hup.2]; decide) (ev_neg (by decide) (rot_j1 hc))))))))
end
end Go.Proofs.Ytnofaibiigpbmaa.E
namespace Go.Proofs.Ytnofaibiigpbmaa.Pure
open Go.RowKit Go.Proofs.YtnofaibiigpbmaaW.PrintWords Go.Proofs.Ytnofaibiigpbmaa.Base Go.Proofs.Ytnofaibiigpbmaa.E
theorem FnRotations : ∀ (l0 : List Int), l0.length ≤ maxLen → (∀ x ∈ l0, (Lit.int .u8 x).wf = true) → ∃ k, laws_FnRotations.f k l0 = some true := by
  intro l0 _ hb
  apply Ev.rounds
  by_cases h : l0.length ≤ 4096
  · exact rot_law ⟨by omega, fun x hx => by
      have := hb x hx
      simp only [Lit.wf, Bool.and_eq_true, decide_eq_true_eq] at this
      have h1 : IntKind.u8.min = 0 := by decide
      have h2 : IntKind.u8.max = 255 := by decide
      rw [h1, h2] at this
      exact this⟩ h
  · unfold laws_FnRotations.f laws_big.f
    exact ev_some (ev_pos (by rw [decide_eq_true_eq]; omega) (Ev.now _))
end Go.Proofs.Ytnofaibiigpbmaa.Pure
namespace Go.Proofs.Ytnofaibiigpbmaa.Open
set_option linter.unusedVariables false
set_option linter.unusedSectionVars false
open Go.RowKit Go.ChangeShapes Go.WideShapes Go.ChangeAt Go.Deep Go.Proofs.YtnofaibiigpbmaaW.PrintWords
section
variable {H : Type} {enc : TypeId × Value → H} {P : Program} {w : World} {base : Nat} {held : Bool}

def Opens {α : Type} (d : Kd α) (Q : α → Prop) (enc : TypeId × Value → H) (P : Program) (w : World) (base : Nat) (held : Bool) (t : TypeId) : Prop :=
  ∀ (fuel : Nat) (cs : List Value) (x : DataW H × List MemPlace), DataW.trod enc P w base (fun _ => true) held fuel t cs = some x → ∃ a, d.K w a cs ∧ Q a
theorem opens_int {t : TypeId} {k : IntKind} (ht : P.underlying t = some (.int k)) : Opens (Kd.int k) (fun n => (Lit.int k n).wf = true) enc P w base held t := by
  intro fuel cs x h
  obtain ⟨n, rfl, _, hw⟩ := DataW.trod_int ht h
  exact ⟨n, rfl, hw⟩
theorem opens_slice {α : Type} [Inhabited α] {d : Kd α} {Q : α → Prop} {t e : TypeId} (ht : P.underlying t = some (.slice e)) (hc : P.cellsOf e = d.sz) (he : Opens d Q enc P w base held e) :
    Opens (Kd.slice e d) (fun xs => xs.length ≤ maxLen ∧ ∀ y ∈ xs, Q y) enc P w base held t := by
  intro fuel cs x h
  rcases open_slice ht h with ⟨rfl, _⟩ | ⟨a, len, cap, m, n, D, Pl, rfl, _, hl, hm, hmm, _, each⟩
  · exact ⟨[], ⟨none, 0, rfl, Nat.le_refl _, rfl, by simp, fun h0 => by simp at h0⟩, by simp, by simp⟩
  · simp only [if_true] at hmm
    have hx : ∀ i, i < len → ∃ y : α, Q y ∧ ∃ cs', w.cells? base (a.add (i * P.cellsOf e)) (P.cellsOf e) = some cs' ∧ d.K w y cs' := by
      intro i hi
      obtain ⟨cs', h1, h2⟩ := each i (by omega)
      obtain ⟨y, hk, hq⟩ := he _ _ _ h2
      exact ⟨y, hq, cs', h1, hk⟩
    obtain ⟨f, hf⟩ := choose_lt hx
    refine ⟨(List.range len).map f, ⟨some a, cap, by simp, by simpa using hl, by simp, by unfold maxLen at hm; simp; omega, fun _ => ⟨a, rfl, fun j p hj => ?_⟩⟩, by simp; omega, fun y hy => ?_⟩
    · rw [List.getElem?_map] at hj
      have hjl : j < len := by
        rcases Nat.lt_or_ge j len with h | h
        · exact h
        · rw [List.getElem?_eq_none (by simpa using h)] at hj
          cases hj
      rw [List.getElem?_range hjl] at hj
      obtain rfl := Option.some.inj hj
      obtain ⟨_, cs', h1, h2⟩ := hf j hjl
      obtain ⟨_, h3, h4⟩ := World.cells?_some h1
      refine ⟨cs', d.K_len h2, h2, fun i u hu => ?_⟩
      have hi : i < P.cellsOf e := by
        rw [← h3]
        exact (List.getElem?_eq_some_iff.1 hu).1
      have h5 := h4 i hi
      rw [hu] at h5
      rw [Go.Deep.add_add] at h5
      rw [← hc]
      exact h5
    · obtain ⟨i, hi, rfl⟩ := List.mem_map.1 hy
      exact (hf i (List.mem_range.1 hi)).1
theorem slice_in {α : Type} [Inhabited α] {d : Kd α} {Q : α → Prop} {t e : TypeId} {v : Value} {fuel : Nat} {x : DataW H × List MemPlace} (ht : P.underlying t = some (.slice e)) (hc : P.cellsOf e = d.sz) (he : Opens d Q enc P w base held e)
    (h : DataW.trod enc P w base (fun _ => true) held fuel t [v] = some x) : ∃ (A : Option Addr) (c : Nat) (xs : List α), v = .slice A xs.length c ∧ xs.length ≤ c ∧ xs.length ≤ maxLen ∧ d.C w A xs.length xs ∧ ∀ y ∈ xs, Q y := by
  obtain ⟨xs, ⟨A, c, hv, hl, hC⟩, hm, hq⟩ := opens_slice ht hc he _ _ _ h
  obtain rfl : v = .slice A xs.length c := by simpa using hv
  exact ⟨A, c, xs, rfl, hl, hm, hC, hq⟩
end
end Go.Proofs.Ytnofaibiigpbmaa.Open
