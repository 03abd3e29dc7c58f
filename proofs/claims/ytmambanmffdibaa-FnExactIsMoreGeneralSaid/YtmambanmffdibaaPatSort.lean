/- slices.Sort at bytes and the conversion of a text to bytes, as the patterns' walks use them. -/
import Derived.Test.YtmambanmffdibaaPatSet
import Derived.Test.YtmambanmffdibaaSortC
import Derived.Lib.ConvBytes
namespace Go.Proofs.Ytmambanmffdibaa.P
set_option linter.unusedVariables false
set_option linter.unusedSectionVars false
open Go.RowKit Go.Proofs.YtmambanmffdibaaW.PrintWords Go.Proofs.YtmambanmffdibaaW.PrintLast Go.Proofs.YtmambanmffdibaaW.PrintMore
/-- A text's bytes as numbers. -/
def bytesL (s : ByteArray) : List Int := s.data.toList.map fun b => (b.toNat : Int)
theorem bytesL_length (s : ByteArray) : (bytesL s).length = s.size := by
  rw [bytesL, List.length_map, Array.length_toList]; rfl
/-- The sorted list of bytes. -/
def sortL (l : List Int) : List Int := l.mergeSort fun x y => decide (x ≤ y)
theorem sortL_length (l : List Int) : (sortL l).length = l.length := List.length_mergeSort _
theorem holds_bytes (w : World) (e : TypeId) (s : ByteArray) : Go.Sort.Holds (Value.int .u8) (Lib.bytesWorld w e s) w.heap.size 0 (bytesL s).toArray := by
  intro j hj
  have hj' : j < s.size := by simpa [bytesL_length] using hj
  have hl : j < s.data.toList.length := by rw [Array.length_toList]; exact hj'
  rw [Nat.zero_add]
  refine ⟨?_, ?_⟩
  · rw [Lib.bytesWorld_cell w e s j hj']
    have e2 : (bytesL s).toArray[j]! = ((s.data.toList.getD j 0).toNat : Int) := by
      rw [getElem!_pos (bytesL s).toArray j hj, List.getElem_toArray]
      simp only [bytesL, List.getElem_map]
      rw [List.getD_eq_getElem?_getD, List.getElem?_eq_getElem hl]
      rfl
    rw [e2]
  · have hc : (Lib.bytesCells w e s).size = s.size + (grownCap w s.size 0 e - s.size) := by
      simp [Lib.bytesCells]
    unfold World.frozen?
    rw [Lib.bytesWorld_at_new]
    simp [hc]
    omega
theorem below_bytes (w : World) (e : TypeId) (s : ByteArray) : Below w.heap.size w (Lib.bytesWorld w e s) :=
  ⟨rfl, rfl, rfl, by rw [Lib.bytesWorld_size]; omega, fun k hk => Lib.bytesWorld_at_old w e s k hk⟩
theorem heap_putRow (enc : Int → Value) (w : World) (blk off : Nat) (d : Array Int) (k : Nat) (h : k ≠ blk) : (Go.Sort.putRow enc w blk off d).heap[k]? = w.heap[k]? := by
  simp [Go.Sort.putRow, Go.Sort.mapBlock, Array.getElem?_modify, Ne.symm h]
theorem conv_bytes (w : World) (s : ByteArray) : (convert 9 84 (.string s)).run Try.prog w = .ok (.slice (some ⟨w.heap.size, 0, none⟩) s.size (grownCap w s.size 0 5)) (Lib.bytesWorld w 5 s) :=
  Lib.run_convert_string_bytes w 9 84 5 s Try.underlying9 Try.underlying84 Try.underlying5
theorem sortB (zs : List Int) (blk cap : Nat) (w : World) (hH : Go.Sort.Holds (Value.int .u8) w blk 0 zs.toArray) (hb : blk < w.heap.size) (hz : zs.length ≤ 1048576) :
    Calls Try.prog 60 #[.slice (some ⟨blk, 0, none⟩) zs.length cap] w fun e w' => e = .returned (.tuple #[]) ∧ Kd.C (Kd.int .u8) w' (some ⟨blk, 0, none⟩) zs.length (sortL zs) ∧ Below blk w w' := by
  refine (S.slices_Sort blk 0 cap zs w hH hb (by omega)).mono ?_
  rintro e w' ⟨rfl, n, os, rfl⟩
  have hs : (sortL zs).toArray.size = zs.toArray.size := by simp [sortL_length]
  have hR : Go.Sort.Holds (Value.int .u8) (Go.Sort.grow (Go.Sort.putRow (Value.int .u8) (Go.Sort.ahead w n) blk 0 (sortL zs).toArray) os) blk 0 (sortL zs).toArray :=
    Go.Sort.holds_grow _ _ _ _ _ _ (by simpa using hb) (Go.Sort.holds_putRow _ _ _ _ zs.toArray _ hH hs)
  refine ⟨rfl, ⟨sortL_length zs, by omega, fun _ => ⟨_, rfl, ?_⟩⟩, ⟨rfl, rfl, rfl, by simp, ?_⟩⟩
  · intro j p hp
    obtain ⟨hj, hp⟩ := List.getElem?_eq_some_iff.1 hp
    refine ⟨[.int .u8 p], rfl, rfl, ?_⟩
    intro i u hu
    cases i with
    | zero =>
      obtain rfl : Value.int .u8 p = u := by simpa using hu
      have h := (hR j (by simpa using hj)).1
      have e2 : (sortL zs).toArray[j]! = p := by
        rw [getElem!_pos (sortL zs).toArray j (by simpa using hj), List.getElem_toArray]; exact hp
      rw [e2] at h
      have e3 : j * (Kd.int .u8).sz + 0 = 0 + j := by show j * 1 + 0 = _; omega
      rw [e3]
      have e4 : (⟨blk, 0, none⟩ : Addr).add (0 + j) = ⟨blk, 0 + j, none⟩ := by simp only [Addr.add, Nat.zero_add]; split <;> simp_all
      rw [e4]
      exact h
    | succ i => simp at hu
  · intro k hk
    rw [Go.Sort.heap_grow_old _ _ (by simp; omega), heap_putRow _ _ _ _ _ _ (by omega)]
    rfl
end Go.Proofs.Ytmambanmffdibaa.P
