/- Plane trees told by the degrees of their nodes in preorder: ends of subtrees, children, parents, depths, meets. No program in sight. -/
import Derived.Test.YtgbhlmmmighanaaBase
namespace Go.Proofs.Ytgbhlmmmighanaa.Tree
set_option linter.unusedVariables false
set_option linter.unusedSectionVars false

/-- The nodes that are due ahead of node i. -/
def nd (d : List Int) : Nat → Int
  | 0 => 1
  | i + 1 => nd d i + d.getD i 0 - 1

/-- The list is that of a tree (of whatever size). -/
structure IsT (d : List Int) : Prop where
  pos : ∀ i, i < d.length → 0 < nd d i
  deg : ∀ i, i < d.length → 0 ≤ d.getD i 0
  fin : nd d d.length = 0

def skip (d : List Int) : Nat → Int → Nat → Nat
  | 0, _, v => v
  | f + 1, need, v => if need > 0 then skip d f (need + (d.getD v 0 - 1)) (v + 1) else v
/-- The node behind the subtree of v. -/
def endM (d : List Int) (v : Nat) : Nat := skip d (d.length - v) 1 v

theorem IsT.len {d : List Int} (h : IsT d) : 0 < d.length := by
  rcases Nat.eq_zero_or_pos d.length with h0 | h0
  · have := h.fin
    rw [h0] at this
    simp [nd] at this
  · exact h0

theorem skip_spec {d : List Int} (h : IsT d) {v : Nat} (hv : v < d.length) : ∀ (f u : Nat), u + f = d.length → v ≤ u → (∀ j, v < j → j < u → nd d v ≤ nd d j) →
    (u = v ∨ nd d v - 1 ≤ nd d u) →
    v < skip d f (1 + nd d u - nd d v) u ∧ skip d f (1 + nd d u - nd d v) u ≤ d.length ∧ nd d (skip d f (1 + nd d u - nd d v) u) = nd d v - 1 ∧ ∀ j, v < j → j < skip d f (1 + nd d u - nd d v) u → nd d v ≤ nd d j := by
  intro f
  induction f with
  | zero =>
    intro u hf hvu hj hu
    have hn : u = d.length := by omega
    have h1 := h.fin
    have h2 := h.pos v hv
    subst hn
    simp only [skip]
    refine ⟨hv, Nat.le_refl _, ?_, hj⟩
    rcases hu with hu | hu
    · omega
    · omega
  | succ f ih =>
    intro u hf hvu hj hu
    have hlt : u < d.length := by omega
    simp only [skip]
    by_cases hn : 1 + nd d u - nd d v > 0
    · rw [if_pos hn]
      have e : 1 + nd d u - nd d v + (d.getD u 0 - 1) = 1 + nd d (u + 1) - nd d v := by simp only [nd]; omega
      rw [e]
      refine ih (u + 1) (by omega) (by omega) (fun j h1 h2 => ?_) (.inr ?_)
      · by_cases hju : j = u
        · subst hju; omega
        · exact hj j h1 (by omega)
      · have := h.deg u hlt
        simp only [nd]; omega
    · rw [if_neg hn]
      rcases hu with hu | hu
      · subst hu; omega
      · have hne : v ≠ u := by intro e; subst e; omega
        exact ⟨by omega, by omega, by omega, hj⟩

section
variable {d : List Int} (h : IsT d)
include h
theorem end_spec {v : Nat} (hv : v < d.length) : v < endM d v ∧ endM d v ≤ d.length ∧ nd d (endM d v) = nd d v - 1 ∧ ∀ j, v < j → j < endM d v → nd d v ≤ nd d j := by
  have := skip_spec h hv (d.length - v) v (by omega) (Nat.le_refl _) (fun j h1 h2 => by omega) (.inl rfl)
  have e : 1 + nd d v - nd d v = 1 := by omega
  rw [e] at this
  exact this
theorem end_gt {v : Nat} (hv : v < d.length) : v < endM d v := (end_spec h hv).1
theorem end_le {v : Nat} (hv : v < d.length) : endM d v ≤ d.length := (end_spec h hv).2.1
theorem end_nd {v : Nat} (hv : v < d.length) : nd d (endM d v) = nd d v - 1 := (end_spec h hv).2.2.1
theorem end_in {v j : Nat} (hv : v < d.length) (h1 : v < j) (h2 : j < endM d v) : nd d v ≤ nd d j := (end_spec h hv).2.2.2 j h1 h2
theorem end_unique {v e : Nat} (hv : v < d.length) (h1 : v < e) (h2 : nd d e < nd d v) (h3 : ∀ j, v < j → j < e → nd d v ≤ nd d j) : e = endM d v := by
  have ⟨a, b, c, k⟩ := end_spec h hv
  rcases Nat.lt_trichotomy e (endM d v) with hl | hl | hl
  · have := k e h1 hl; omega
  · exact hl
  · have := h3 _ a hl; omega
theorem end_root : endM d 0 = d.length := by
  refine (end_unique h h.len h.len ?_ (fun j h1 h2 => ?_)).symm
  · rw [h.fin]; simp [nd]
  · have := h.pos j h2; simp only [nd]; omega
theorem nd_le {i : Nat} (hi : i ≤ d.length) : nd d i ≤ d.length - i := by
  obtain ⟨k, hk⟩ : ∃ k, i + k = d.length := ⟨d.length - i, by omega⟩
  induction k generalizing i with
  | zero => have := h.fin; have e : i = d.length := by omega
            subst e; omega
  | succ k ih =>
    have := ih (i := i + 1) (by omega) (by omega)
    have h1 := h.deg i (by omega)
    simp only [nd] at this
    omega
theorem nd_nonneg {i : Nat} (hi : i ≤ d.length) : 0 ≤ nd d i := by
  rcases Nat.lt_or_ge i d.length with hl | hl
  · have := h.pos i hl; omega
  · have e : i = d.length := by omega
    have := h.fin
    subst e; omega
theorem deg_le {v : Nat} (hv : v < d.length) : d.getD v 0 < d.length - v := by
  have h1 := nd_le h (i := v + 1) (by omega)
  have h2 := h.pos v hv
  simp only [nd] at h1
  omega
/-- Subtrees lie in each other or apart. -/
theorem end_mono {u v : Nat} (hv : v < d.length) (h1 : v ≤ u) (h2 : u < endM d v) : endM d u ≤ endM d v := by
  rcases Nat.eq_or_lt_of_le h1 with e | hl
  · subst e; exact Nat.le_refl _
  · have hu : u < d.length := by have := end_le h hv; omega
    rcases Nat.lt_or_ge (endM d v) (endM d u) with hx | hx
    · have a := end_in h hu h2 hx
      have b := end_in h hv hl h2
      have c := end_nd h hv
      omega
    · exact hx
end

/-! children -/
def kidsFrom (d : List Int) : Nat → Nat → List Nat
  | 0, _ => []
  | m + 1, c => c :: kidsFrom d m (endM d c)
def kidsM (d : List Int) (v : Nat) : List Nat := kidsFrom d (d.getD v 0).toNat (v + 1)
theorem kidsFrom_length (d : List Int) : ∀ (m c : Nat), (kidsFrom d m c).length = m
  | 0, _ => rfl
  | m + 1, c => by simp [kidsFrom, kidsFrom_length d m]

/-- A run of m subtrees from c on, up to e. -/
inductive Run (d : List Int) : Nat → Nat → Nat → Prop
  | nil (c : Nat) : Run d 0 c c
  | cons {m c e : Nat} : c < d.length → Run d m (endM d c) e → Run d (m + 1) c e

section
variable {d : List Int} (h : IsT d)
include h
theorem run_of {v : Nat} (hv : v < d.length) : ∀ (m c : Nat), v < c → c ≤ d.length → nd d c = nd d v - 1 + m → (∀ j, v < j → j < c → nd d v ≤ nd d j) → Run d m c (endM d v)
  | 0, c, h1, h2, h3, h4 => by
    have e := end_unique h hv h1 (by omega) h4
    rw [← e]
    exact .nil c
  | m + 1, c, h1, h2, h3, h4 => by
    have hc : c < d.length := by
      rcases Nat.lt_or_ge c d.length with hl | hl
      · exact hl
      · have e : c = d.length := by omega
        have := h.fin
        have h0 := h.pos v hv
        subst e; omega
    have a := end_spec h hc
    refine .cons hc (run_of hv m _ (by omega) a.2.1 (by omega) (fun j hj1 hj2 => ?_))
    rcases Nat.lt_trichotomy j c with hl | hl | hl
    · exact h4 j hj1 hl
    · subst hl; omega
    · have := a.2.2.2 j hl hj2; omega
theorem run_kids {v : Nat} (hv : v < d.length) : Run d (d.getD v 0).toNat (v + 1) (endM d v) := by
  have h0 := h.deg v hv
  refine run_of h hv _ _ (by omega) (by omega) ?_ (fun j h1 h2 => by omega)
  simp only [nd]; omega
theorem run_bd {m c e : Nat} (r : Run d m c e) : c ≤ e := by
  induction r with
  | nil c => exact Nat.le_refl _
  | cons hc _ ih => have := end_gt h hc; omega
/-- The nodes of a run: ascending, each the root of a subtree that ends where the next begins. -/
theorem run_mem {m c e : Nat} (r : Run d m c e) : ∀ x ∈ kidsFrom d m c, c ≤ x ∧ x < d.length ∧ x < e ∧ endM d x ≤ e := by
  induction r with
  | nil c => intro x hx; simp [kidsFrom] at hx
  | @cons m c e hc r ih =>
    intro x hx
    have h1 := run_bd h r
    have h2 := end_gt h hc
    simp only [kidsFrom, List.mem_cons] at hx
    rcases hx with rfl | hx
    · exact ⟨Nat.le_refl _, hc, by omega, h1⟩
    · have := ih x hx
      exact ⟨by omega, this.2.1, this.2.2.1, this.2.2.2⟩
end
/-- Each node of the run lies in one of its subtrees. -/
theorem run_cover {d : List Int} {m c e : Nat} (r : Run d m c e) : ∀ y, c ≤ y → y < e → ∃ x ∈ kidsFrom d m c, x ≤ y ∧ y < endM d x := by
  induction r with
  | nil c => intro y h1 h2; omega
  | @cons m c e hc r ih =>
    intro y h1 h2
    by_cases hy : y < endM d c
    · exact ⟨c, by simp [kidsFrom], h1, hy⟩
    · obtain ⟨x, hx, h3⟩ := ih y (by omega) h2
      exact ⟨x, by simp [kidsFrom, hx], h3⟩
section
variable {d : List Int} (h : IsT d)
include h
/-- Two nodes of a run: one subtree ends ahead of the other node. -/
theorem run_apart {m c e : Nat} (r : Run d m c e) : ∀ x ∈ kidsFrom d m c, ∀ y ∈ kidsFrom d m c, x < y → endM d x ≤ y := by
  induction r with
  | nil c => intro x hx; simp [kidsFrom] at hx
  | @cons m c e hc r ih =>
    intro x hx y hy hlt
    have hm := run_mem h r
    have hg := end_gt h hc
    simp only [kidsFrom, List.mem_cons] at hx hy
    rcases hx with rfl | hx
    · rcases hy with rfl | hy
      · omega
      · exact (hm y hy).1
    · rcases hy with rfl | hy
      · have := (hm x hx).1; omega
      · exact ih x hx y hy hlt
theorem kid_mem {v c : Nat} (hv : v < d.length) (hc : c ∈ kidsM d v) : v < c ∧ c < d.length ∧ c < endM d v ∧ endM d c ≤ endM d v := by
  have := run_mem h (run_kids h hv) c hc
  exact ⟨by omega, this.2.1, this.2.2.1, this.2.2.2⟩
end

/-! parents -/
def parUp (d : List Int) (c : Nat) : Nat → Nat
  | 0 => 0
  | v + 1 => if c < endM d v then v else parUp d c v
/-- The parent of a node (0 for the root). -/
def par (d : List Int) (c : Nat) : Nat := parUp d c c
theorem parUp_spec {d : List Int} {c : Nat} : ∀ (k : Nat), (∃ v, v < k ∧ c < endM d v) → parUp d c k < k ∧ c < endM d (parUp d c k) ∧ ∀ v, parUp d c k < v → v < k → endM d v ≤ c
  | 0, ⟨v, hv, _⟩ => by omega
  | k + 1, ⟨v, hv, hc⟩ => by
    simp only [parUp]
    by_cases hk : c < endM d k
    · rw [if_pos hk]
      exact ⟨by omega, hk, fun v h1 h2 => by omega⟩
    · rw [if_neg hk]
      have hvk : v < k := by
        rcases Nat.lt_or_ge v k with hl | hl
        · exact hl
        · have e : v = k := by omega
          subst e; omega
      have ih := parUp_spec k ⟨v, hvk, hc⟩
      refine ⟨by omega, ih.2.1, fun u h1 h2 => ?_⟩
      rcases Nat.lt_or_ge u k with hl | hl
      · exact ih.2.2 u h1 hl
      · have e : u = k := by omega
        subst e; omega
section
variable {d : List Int} (h : IsT d)
include h
theorem par_spec {c : Nat} (h0 : 0 < c) (hc : c < d.length) : par d c < c ∧ c < endM d (par d c) ∧ ∀ v, par d c < v → v < c → endM d v ≤ c :=
  parUp_spec c ⟨0, h0, by rw [end_root h]; exact hc⟩
theorem par_lt {c : Nat} (h0 : 0 < c) (hc : c < d.length) : par d c < c := (par_spec h h0 hc).1
theorem kid_par {v c : Nat} (hv : v < d.length) (hc : c ∈ kidsM d v) : par d c = v := by
  have hk := kid_mem h hv hc
  have hp := par_spec h (c := c) (by omega) hk.2.1
  rcases Nat.lt_trichotomy (par d c) v with hl | hl | hl
  · have := hp.2.2 v hl hk.1; omega
  · exact hl
  · exfalso
    have hpl : par d c < d.length := by omega
    obtain ⟨x, hx, h1, h2⟩ := run_cover (run_kids h hv) (par d c) (by omega) (by omega)
    have h3 : x < c := by omega
    have h4 := run_apart h (run_kids h hv) x hx c hc h3
    have hxm := kid_mem h hv hx
    have h5 := end_mono h hxm.2.1 h1 h2
    omega
theorem par_kid {c : Nat} (h0 : 0 < c) (hc : c < d.length) : c ∈ kidsM d (par d c) := by
  have hp := par_spec h h0 hc
  have hv : par d c < d.length := by omega
  obtain ⟨x, hx, h1, h2⟩ := run_cover (run_kids h hv) c (by omega) hp.2.1
  rcases Nat.eq_or_lt_of_le h1 with e | hl
  · subst e; exact hx
  · have hxm := kid_mem h hv hx
    have := hp.2.2 x hxm.1 hl
    omega
/-- Whoever lies below v, and is not v, has a parent there. -/
theorem par_below {v u : Nat} (hv : v < d.length) (h1 : v < u) (h2 : u < endM d v) : v ≤ par d u ∧ par d u < u := by
  have hu : u < d.length := by have := end_le h hv; omega
  have hp := par_spec h (c := u) (by omega) hu
  refine ⟨?_, hp.1⟩
  rcases Nat.lt_or_ge (par d u) v with hl | hl
  · have := hp.2.2 v hl h1; omega
  · exact hl
end

/-! depths, parents as a list, meets -/
def depthF (d : List Int) : Nat → Nat → Nat
  | 0, _ => 0
  | f + 1, c => if c = 0 then 0 else depthF d f (par d c) + 1
/-- How many steps lead up to the root. -/
def depth (d : List Int) (c : Nat) : Nat := depthF d c c
theorem depthF_stable {d : List Int} (h : IsT d) : ∀ (f g c : Nat), c < d.length → c ≤ f → c ≤ g → depthF d f c = depthF d g c
  | 0, g, c, hc, h1, h2 => by
    have e : c = 0 := by omega
    subst e
    cases g <;> simp [depthF]
  | f + 1, 0, c, hc, h1, h2 => by
    have e : c = 0 := by omega
    subst e
    simp [depthF]
  | f + 1, g + 1, c, hc, h1, h2 => by
    simp only [depthF]
    split
    · rfl
    · have := par_lt h (c := c) (by omega) hc
      rw [depthF_stable h f g (par d c) (by omega) (by omega) (by omega)]
theorem depth_zero (d : List Int) : depth d 0 = 0 := rfl
theorem depth_succ {d : List Int} (h : IsT d) {c : Nat} (h0 : 0 < c) (hc : c < d.length) : depth d c = depth d (par d c) + 1 := by
  have hp := par_lt h h0 hc
  obtain ⟨k, rfl⟩ : ∃ k, c = k + 1 := ⟨c - 1, by omega⟩
  unfold depth
  simp only [depthF]
  rw [if_neg (by omega), depthF_stable h k (par d (k + 1)) (par d (k + 1)) (by omega) (by omega) (Nat.le_refl _)]
theorem depth_le {d : List Int} (h : IsT d) : ∀ (n c : Nat), c ≤ n → c < d.length → depth d c ≤ c
  | n, c, hn, hc => by
    rcases Nat.eq_zero_or_pos c with h0 | h0
    · subst h0; simp [depth_zero]
    · have hp := par_lt h h0 hc
      cases n with
      | zero => omega
      | succ n =>
        have := depth_le h n (par d c) (by omega) (by omega)
        rw [depth_succ h h0 hc]; omega
/-- The list of parents, -1 for the root. -/
def parL (d : List Int) : List Int := (List.range d.length).map fun c => if c = 0 then -1 else (par d c : Int)
def depL (d : List Int) : List Int := (List.range d.length).map fun c => (depth d c : Int)
/-- v lies in the subtree of w. -/
def below (d : List Int) (v w : Nat) : Prop := w ≤ v ∧ v < endM d w
instance (d : List Int) (v w : Nat) : Decidable (below d v w) := inferInstanceAs (Decidable (_ ∧ _))
def meetF (d : List Int) (w : Nat) : Nat → Nat → Nat
  | 0, v => v
  | f + 1, v => if below d w v then v else meetF d w f (par d v)
/-- The deepest node whose subtree has both. -/
def meetM (d : List Int) (v w : Nat) : Nat := meetF d w v v
section
variable {d : List Int} (h : IsT d)
include h
theorem below_root {v : Nat} (hv : v < d.length) : below d v 0 := ⟨Nat.zero_le _, by rw [end_root h]; exact hv⟩
theorem below_self {v : Nat} (hv : v < d.length) : below d v v := ⟨Nat.le_refl _, end_gt h hv⟩
theorem below_trans {u v w : Nat} (hw : w < d.length) (h1 : below d u v) (h2 : below d v w) : below d u w :=
  ⟨Nat.le_trans h2.1 h1.1, Nat.lt_of_lt_of_le h1.2 (end_mono h hw h2.1 h2.2)⟩
theorem below_par {v : Nat} (h0 : 0 < v) (hv : v < d.length) : below d v (par d v) := by
  have := par_spec h h0 hv
  exact ⟨by omega, this.2.1⟩
/-- Below w and not w: the parent is below w, too. -/
theorem par_in {v w : Nat} (hw : w < d.length) (h1 : below d v w) (hne : v ≠ w) : below d (par d v) w := by
  have := par_below h hw (by have := h1.1; omega) h1.2
  exact ⟨this.1, by have := h1.2; omega⟩
theorem meetF_spec {w : Nat} (hw : w < d.length) : ∀ (f v : Nat), v ≤ f → v < d.length → below d w (meetF d w f v) ∧ below d v (meetF d w f v) ∧ meetF d w f v < d.length
  | 0, v, hf, hv => by
    have e : v = 0 := by omega
    subst e
    exact ⟨below_root h hw, below_root h hv, hv⟩
  | f + 1, v, hf, hv => by
    simp only [meetF]
    by_cases hb : below d w v
    · rw [if_pos hb]
      exact ⟨hb, below_self h hv, hv⟩
    · rw [if_neg hb]
      have h0 : 0 < v := by
        rcases Nat.eq_zero_or_pos v with e | e
        · subst e; exact absurd (below_root h hw) hb
        · exact e
      have hp := par_lt h h0 hv
      have ih := meetF_spec hw f (par d v) (by omega) (by omega)
      exact ⟨ih.1, below_trans h ih.2.2 (below_par h h0 hv) ih.2.1, ih.2.2⟩
theorem meet_spec {v w : Nat} (hv : v < d.length) (hw : w < d.length) : below d w (meetM d v w) ∧ below d v (meetM d v w) ∧ meetM d v w < d.length := meetF_spec h hw v v (Nat.le_refl _) hv
end
end Go.Proofs.Ytgbhlmmmighanaa.Tree
