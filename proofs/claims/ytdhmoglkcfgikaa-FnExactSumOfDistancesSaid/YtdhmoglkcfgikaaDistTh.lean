/- Distances in trees. No program in sight. -/
import Derived.Test.YtdhmoglkcfgikaaTree
namespace Go.Proofs.Ytdhmoglkcfgikaa.Tree
set_option linter.unusedVariables false
set_option linter.unusedSectionVars false

theorem below_antisymm {d : List Int} {a b : Nat} (h1 : below d a b) (h2 : below d b a) : a = b := Nat.le_antisymm h2.1 h1.1
section
variable {d : List Int} (h : IsT d)
include h
theorem meetF_deep {w m : Nat} (hw : w < d.length) (hm : m < d.length) (h2 : below d w m) : ∀ (f v : Nat), v ≤ f → v < d.length → below d v m → below d (meetF d w f v) m
  | 0, v, hf, hv, h1 => h1
  | f + 1, v, hf, hv, h1 => by
    simp only [meetF]
    by_cases hb : below d w v
    · rw [if_pos hb]; exact h1
    · rw [if_neg hb]
      have hne : v ≠ m := by intro e; subst e; exact hb h2
      have h0 : 0 < v := by
        rcases Nat.eq_zero_or_pos v with e | e
        · subst e; exact absurd (below_root h hw) hb
        · exact e
      have hp := par_lt h h0 hv
      exact meetF_deep hw hm h2 f (par d v) (by omega) (by omega) (par_in h hm h1 hne)
theorem meet_deep {v w m : Nat} (hv : v < d.length) (hw : w < d.length) (hm : m < d.length) (h1 : below d v m) (h2 : below d w m) : below d (meetM d v w) m :=
  meetF_deep h hw hm h2 v v (Nat.le_refl _) hv h1
theorem meet_comm {v w : Nat} (hv : v < d.length) (hw : w < d.length) : meetM d v w = meetM d w v := by
  have a := meet_spec h hv hw
  have b := meet_spec h hw hv
  exact below_antisymm (meet_deep h hv hw b.2.2 b.1 b.2.1) (meet_deep h hw hv a.2.2 a.1 a.2.1)
theorem meet_self {v : Nat} (hv : v < d.length) : meetM d v v = v := by
  unfold meetM
  rcases Nat.eq_zero_or_pos v with e | e
  · subst e; rfl
  · obtain ⟨u, rfl⟩ : ∃ u, v = u + 1 := ⟨v - 1, by omega⟩
    simp only [meetF]
    rw [if_pos (below_self h hv)]
end
/-- The distance of two nodes. -/
def dist (d : List Int) (v w : Nat) : Int := (depth d v : Int) + (depth d w : Int) - 2 * (depth d (meetM d v w) : Int)
def rowM (d : List Int) (v : Nat) : List Int := (List.range d.length).map fun w => dist d v w
def distL (d : List Int) : List (List Int) := (List.range d.length).map fun v => rowM d v
theorem rowM_length (d : List Int) (v : Nat) : (rowM d v).length = d.length := by simp [rowM]
theorem distL_length (d : List Int) : (distL d).length = d.length := by simp [distL]
theorem dist_comm {d : List Int} (h : IsT d) {v w : Nat} (hv : v < d.length) (hw : w < d.length) : dist d v w = dist d w v := by
  unfold dist
  rw [meet_comm h hv hw]; omega
theorem dist_self {d : List Int} (h : IsT d) {v : Nat} (hv : v < d.length) : dist d v v = 0 := by
  unfold dist
  rw [meet_self h hv]; omega
theorem dist_bd {d : List Int} (h : IsT d) (hn : d.length ≤ 1000) {v w : Nat} (hv : v < d.length) (hw : w < d.length) : -2000 ≤ dist d v w ∧ dist d v w ≤ 2000 := by
  have a := meet_spec h hv hw
  have b1 := depth_le h _ v (Nat.le_refl _) hv
  have b2 := depth_le h _ w (Nat.le_refl _) hw
  have b3 := depth_le h _ (meetM d v w) (Nat.le_refl _) a.2.2
  unfold dist
  omega
/-- f 0 + .. + f (n - 1). -/
def sumTo (f : Nat → Int) : Nat → Int
  | 0 => 0
  | n + 1 => sumTo f n + f n
theorem sumTo_congr {f g : Nat → Int} : ∀ {n : Nat}, (∀ i, i < n → f i = g i) → sumTo f n = sumTo g n
  | 0, _ => rfl
  | n + 1, h => by simp only [sumTo]; rw [sumTo_congr (fun i hi => h i (by omega)), h n (by omega)]
theorem sumTo_add (f g : Nat → Int) : ∀ n : Nat, sumTo (fun i => f i + g i) n = sumTo f n + sumTo g n
  | 0 => rfl
  | n + 1 => by simp only [sumTo]; rw [sumTo_add f g n]; omega
theorem sumTo_bd (f : Nat → Int) (B : Int) : ∀ n : Nat, (∀ i, i < n → -B ≤ f i ∧ f i ≤ B) → -(B * n) ≤ sumTo f n ∧ sumTo f n ≤ B * n
  | 0, _ => by simp [sumTo]
  | n + 1, h => by
    have ih := sumTo_bd f B n (fun i hi => h i (by omega))
    have hb := h n (by omega)
    have e : B * ((n + 1 : Nat) : Int) = B * n + B := by rw [Int.natCast_add, Int.mul_add]; simp
    simp only [sumTo]
    rw [e]
    omega
/-- A square of a symmetric table with zeros on its diagonal is twice its lower part. -/
theorem square_twice (D : Nat → Nat → Int) : ∀ n : Nat, (∀ i j, i < n → j < n → D i j = D j i) → (∀ i, i < n → D i i = 0) → sumTo (fun v => sumTo (fun w => D v w) n) n = 2 * sumTo (fun v => sumTo (fun w => D v w) v) n
  | 0, _, _ => rfl
  | n + 1, hs, hz => by
    have ih := square_twice D n (fun i j hi hj => hs i j (by omega) (by omega)) (fun i hi => hz i (by omega))
    have e1 : sumTo (fun v => sumTo (fun w => D v w) (n + 1)) (n + 1) = sumTo (fun v => sumTo (fun w => D v w) n + D v n) n + (sumTo (fun w => D n w) n + D n n) := rfl
    have e2 : sumTo (fun v => sumTo (fun w => D v w) v) (n + 1) = sumTo (fun v => sumTo (fun w => D v w) v) n + sumTo (fun w => D n w) n := rfl
    have e3 : sumTo (fun v => D v n) n = sumTo (fun w => D n w) n := sumTo_congr (fun i hi => hs i n (by omega) (by omega))
    rw [e1, e2, sumTo_add, e3, ih, hz n (by omega)]
    omega
end Go.Proofs.Ytdhmoglkcfgikaa.Tree
