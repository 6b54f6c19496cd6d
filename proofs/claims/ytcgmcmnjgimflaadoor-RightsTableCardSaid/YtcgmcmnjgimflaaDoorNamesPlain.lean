/- The published table of the 22 calls, plainly: names, registers, demands; which number a name has. No program in sight. -/
import Derived.WalkKit
namespace Go.Proofs.YtcgmcmnjgimflaaDoor
def namesL : List (List UInt8) := [[], [121, 105, 101, 108, 100], [101, 120, 105, 116], [112, 97, 114, 107], [115, 108, 101, 101, 112], [115, 112, 97, 119, 110], [119, 97, 107, 101], [107, 105, 108, 108], [115, 117, 115, 112, 101, 110, 100], [114, 101, 115, 117, 109, 101], [97, 102, 102, 105, 110, 105, 116, 121], [98, 105, 110, 100], [109, 105, 110, 116], [99, 111, 112, 121], [109, 111, 118, 101], [100, 101, 108, 101, 116, 101], [114, 101, 118, 111, 107, 101], [103, 105, 118, 101], [115, 112, 108, 105, 116], [100, 111, 110, 97, 116, 101], [99, 97, 114, 118, 101], [109, 101, 114, 103, 101], [100, 114, 111, 112]]
def nm (k : Nat) : ByteArray := ⟨(namesL.getD k []).toArray⟩
def namesV : Array Value := ((List.range 23).map fun k => Value.string (nm k)).toArray
/-- The number of a name, or 0. -/
def ofN (s : ByteArray) : Nat := ((List.range 23).find? fun k => decide (0 < k) && decide (nm k = s)).getD 0

theorem nm_inj : ∀ j, j < 23 → ∀ k, k < 23 → nm j = nm k → j = k := by
  have h : ∀ j : Fin 23, ∀ k : Fin 23, namesL.getD j.val [] = namesL.getD k.val [] → j = k := by decide +kernel
  intro j hj k hk e
  have e2 : namesL.getD j [] = namesL.getD k [] := by
    have := congrArg (fun b : ByteArray => b.data.toList) e
    simpa [nm] using this
  have := h ⟨j, hj⟩ ⟨k, hk⟩ e2
  exact Fin.mk.inj this
theorem ofN_hit (k : Nat) (h0 : 0 < k) (hk : k < 23) : ofN (nm k) = k := by
  unfold ofN
  have : (List.range 23).find? (fun j => decide (0 < j) && decide (nm j = nm k)) = some k := by
    rw [List.find?_eq_some_iff_getElem]
    refine ⟨by simp [h0], k, by simpa using hk, by simp, fun j hj => ?_⟩
    simp only [List.getElem_range, Bool.not_eq_true', Bool.and_eq_false_iff, decide_eq_false_iff_not]
    refine .inr fun e => ?_
    have := nm_inj j (by omega) k hk e
    omega
  rw [this]
  rfl
theorem ofN_none (s : ByteArray) (h : ∀ j, 0 < j → j < 23 → nm j ≠ s) : ofN s = 0 := by
  unfold ofN
  have : (List.range 23).find? (fun j => decide (0 < j) && decide (nm j = s)) = none := by
    rw [List.find?_eq_none]
    intro j hj
    have hj' : j < 23 := List.mem_range.1 hj
    simp only [Bool.and_eq_true, decide_eq_true_eq, not_and]
    intro h0 e
    exact h j h0 hj' e
  rw [this]
  rfl
theorem ofN_lt (s : ByteArray) : ofN s < 23 := by
  unfold ofN
  cases h : (List.range 23).find? fun j => decide (0 < j) && decide (nm j = s) with
  | none => simp
  | some j => simpa using List.mem_range.1 (List.mem_of_find?_eq_some h)
/-- The row of a call: registers, and of the arguments 0 and 1 the kind and the rights. -/
def rowT : Nat → List Int
  | 1 => [0, -1, 0, -1, 0]
  | 2 => [0, -1, 0, -1, 0]
  | 3 => [0, -1, 0, -1, 0]
  | 4 => [1, -1, 0, -1, 0]
  | 5 => [4, 3, 1, 2, 32]
  | 6 => [1, 1, 2, -1, 0]
  | 7 => [1, 1, 4, -1, 0]
  | 8 => [1, 1, 8, -1, 0]
  | 9 => [1, 1, 8, -1, 0]
  | 10 => [2, 1, 16, -1, 0]
  | 11 => [2, 1, 32, 2, 32]
  | 12 => [3, 0, 64, -1, 0]
  | 13 => [2, 0, 64, -1, 0]
  | 14 => [2, 0, 0, -1, 0]
  | 15 => [1, 0, 0, -1, 0]
  | 16 => [1, 0, 128, -1, 0]
  | 17 => [3, 1, 32, 0, 64]
  | 18 => [3, 2, 32, -1, 0]
  | 19 => [3, 2, 32, 2, 32]
  | 20 => [5, 3, 1, -1, 0]
  | 21 => [1, 3, 128, -1, 0]
  | 22 => [1, 2, 128, -1, 0]
  | _ => [0, -1, 0, -1, 0]
/-- The row's value as Of of the reference hands it back. -/
def rowV (k : Nat) : Value := .agg (Value.string (nm k) :: (rowT k).map (Value.int .i64)).toArray
end Go.Proofs.YtcgmcmnjgimflaaDoor
