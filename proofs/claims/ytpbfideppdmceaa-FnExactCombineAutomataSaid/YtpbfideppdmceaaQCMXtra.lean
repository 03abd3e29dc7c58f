/- The row of the law FnExactCombineAutomata, out of its pure statement. -/
import Derived.Test.YtpbfideppdmceaaQCMW
namespace Go.Proofs.YtpbfideppdmceaaW.PrintLast
set_option linter.unusedVariables false
set_option linter.unusedSectionVars false
open Go.RowKit
section
variable {P : Program} {ops : Array Oper} {Q : Exit → Act → World → Prop} {md : Region.Mode}
end
section
open Go.Proofs.YtpbfideppdmceaaW.PrintWords
variable {α : Type} {d : Kd α} {e : Nat} {W : World} {base : Nat} {ok P : Nat → Prop} {v : Value} {xs : List α}
theorem S_open (h : Kd.S d e W base ok v xs) : ∃ P : Nat → Prop, (∀ k, P k → ok k ∧ base ≤ k ∧ k < W.heap.size ∧ ∃ q, q ∈ e :: d.E ∧ ∃ cells, W.heap[k]? = some (.cells cells q (0, 0))) ∧ Kd.S d e W base P v xs := ⟨_, fun _ h => h, Kd.S_bound h⟩
theorem R_awayS (hE : d.E = []) (h : d.R e W base ok v xs) (hn : ∀ k, P k → some k ≠ v.ownBlock) : d.R e W base (fun k => ok k ∧ ¬ P k) v xs := Kd.R_mono (Kd.R_tight2 hE h) (fun k hk => ⟨hk.2, fun hp => hn k hp hk.1⟩)
def lt_ (n k : Nat) : Nat := if k < n then k + 1 else k
def ge_ (n k : Nat) : Nat := if n ≤ k then k + 1 else k
theorem lt_of {n k : Nat} (h : k < n) : k ≠ lt_ n k := by unfold lt_; rw [if_pos h]; omega
theorem ge_of {n k : Nat} (h : n ≤ k) : k ≠ ge_ n k := by unfold ge_; rw [if_pos h]; omega
theorem no_lap {n k : Nat} (h1 : k ≠ lt_ n k) (h2 : k ≠ ge_ n k) : False := by
  rcases Nat.lt_or_ge k n with h | h
  · exact h2 (by unfold ge_; rw [if_neg (by omega)])
  · exact h1 (by unfold lt_; rw [if_neg (by omega)])
theorem nat_of_below {w1 : World} (h : Below W.heap.size W w1) : ∃ N : Nat, N = W.heap.size := ⟨_, rfl⟩
theorem S_ltN {N : Nat} (h : Kd.S d e W base ok v xs) (hN : N = W.heap.size) : Kd.S d e W base (fun k => ok k ∧ k ≠ lt_ N k) v xs := Kd.S_mono (Kd.S_bound h) (fun k hk => ⟨hk.1, lt_of (by rw [hN]; exact hk.2.2.1)⟩)
theorem S_geN {N : Nat} (hN : N = base) (h : Kd.S d e W base ok v xs) : Kd.S d e W base (fun k => ok k ∧ k ≠ ge_ N k) v xs := Kd.S_mono (Kd.S_bound h) (fun k hk => ⟨hk.1, ge_of (by rw [hN]; exact hk.2.1)⟩)
theorem S_awayP (h : Kd.S d e W base ok v xs) (hn : ∀ k, ok k → P k → False) : Kd.S d e W base (fun k => ok k ∧ ¬ P k) v xs := Kd.S_mono h (fun k hk => ⟨hk, fun hp => hn k hk hp⟩)
theorem far_S {w : World} {k t : Nat} {L : List Nat} {cells : Array Value} (h : ∃ q, q ∈ L ∧ ∃ cells, w.heap[k]? = some (.cells cells q (0, 0))) (hb : w.heap[k]? = some (.cells cells t (0, 0))) (ht : ∀ q, q ∈ L → q ≠ t) : False := by
  obtain ⟨q, hq, c, hc⟩ := h
  rw [hc] at hb
  injection hb with hb
  injection hb with _ hb _
  exact ht q hq hb
end
end Go.Proofs.YtpbfideppdmceaaW.PrintLast
