/- The row of the law FnExactAreAlike, out of its pure statement. -/
import Derived.Test.YtpbfideppdmceaaQAAW
namespace Go.Proofs.YtpbfideppdmceaaW.PrintLast
set_option linter.unusedVariables false
set_option linter.unusedSectionVars false
open Go.RowKit
section
variable {P : Program} {ops : Array Oper} {Q : Exit → Act → World → Prop} {md : Region.Mode}
end
section
open Go.Proofs.YtpbfideppdmceaaW.PrintWords
variable {α : Type} {d : Kd α} {e : Nat} {W : World} {base : Nat} {ok P : Nat → Prop} {v : Value} {xs : List α}
def lt_ (n k : Nat) : Nat := if k < n then k + 1 else k
def ge_ (n k : Nat) : Nat := if n ≤ k then k + 1 else k
theorem lt_of {n k : Nat} (h : k < n) : k ≠ lt_ n k := by unfold lt_; rw [if_pos h]; omega
theorem ge_of {n k : Nat} (h : n ≤ k) : k ≠ ge_ n k := by unfold ge_; rw [if_pos h]; omega
theorem nat_of_below {w1 : World} (h : Below W.heap.size W w1) : ∃ N : Nat, N = W.heap.size := ⟨_, rfl⟩
theorem S_ltN {N : Nat} (h : Kd.S d e W base ok v xs) (hN : N = W.heap.size) : Kd.S d e W base (fun k => ok k ∧ k ≠ lt_ N k) v xs := Kd.S_mono (Kd.S_bound h) (fun k hk => ⟨hk.1, lt_of (by rw [hN]; exact hk.2.2.1)⟩)
theorem S_geN {N : Nat} (hN : N = base) (h : Kd.S d e W base ok v xs) : Kd.S d e W base (fun k => ok k ∧ k ≠ ge_ N k) v xs := Kd.S_mono (Kd.S_bound h) (fun k hk => ⟨hk.1, ge_of (by rw [hN]; exact hk.2.1)⟩)
end
end Go.Proofs.YtpbfideppdmceaaW.PrintLast
