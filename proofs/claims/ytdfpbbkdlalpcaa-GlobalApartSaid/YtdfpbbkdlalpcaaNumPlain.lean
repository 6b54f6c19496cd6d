/- Plain laws on sets of eight places: who is in a set, all that are in it, rising. No program in sight. Conditions: a set is a number below 256. -/
import Derived.WalkKit
import Derived.Lib.Hide
namespace Go.Proofs.Ytdfpbbkdlalpcaa
open Go.RowKit

/-- Those in a set, rising. -/
def allN (s : Nat) : List Nat := (List.range 8).filter fun k => s.testBit k
def hasP (s : Int) (p : Int) : Bool := decide (0 ≤ p ∧ p ≤ 7) && s.toNat.testBit p.toNat

theorem and_bit (s k : Nat) (hs : s < 256) (hk : k < 8) : (bits .and .u8 (s : Int) (2 ^ k % 256) != 0) = s.testBit k := by
  have h : ∀ s : Fin 256, ∀ k : Fin 8, (bits .and .u8 (s.val : Int) ((2 ^ k.val % 256 : Nat) : Int) != 0) = s.val.testBit k.val := by decide +kernel
  have := h ⟨s, hs⟩ ⟨k, hk⟩
  simpa using this
theorem allN_upto_yes (s k : Nat) (h : s.testBit k = true) : ((List.range (k + 1)).filter fun k => s.testBit k) = ((List.range k).filter fun k => s.testBit k) ++ [k] := by
  rw [List.range_succ, List.filter_append]; simp [h]
theorem allN_upto_no (s k : Nat) (h : s.testBit k = false) : ((List.range (k + 1)).filter fun k => s.testBit k) = (List.range k).filter fun k => s.testBit k := by
  rw [List.range_succ, List.filter_append]; simp [h]
theorem allN_upto_len (s k : Nat) : ((List.range k).filter fun k => s.testBit k).length ≤ k := by
  have := List.length_filter_le (fun k => s.testBit k) (List.range k)
  simpa using this
theorem allN_prefix (s k : Nat) (hk : k ≤ 8) : ((List.range k).filter fun k => s.testBit k) <+: allN s := by
  have e : allN s = ((List.range k).filter fun k => s.testBit k) ++ ((List.range' k (8 - k)).filter fun k => s.testBit k) := by
    unfold allN
    rw [← List.filter_append]
    congr 1
    have h := List.range'_append_1 (s := 0) (m := k) (n := 8 - k)
    rw [Nat.zero_add, show k + (8 - k) = 8 from by omega] at h
    rw [List.range_eq_range', List.range_eq_range', h]
  rw [e]
  exact List.prefix_append _ _
theorem allN_len (s : Nat) : (allN s).length ≤ 8 := allN_upto_len s 8
end Go.Proofs.Ytdfpbbkdlalpcaa
