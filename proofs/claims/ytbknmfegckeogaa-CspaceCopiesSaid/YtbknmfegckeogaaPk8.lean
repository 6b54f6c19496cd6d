/- Of the following, one behind the other: What the functions on rights return, by walks: Bit, Among, Narrow, Meets. Conditions: rights are from 0 to 255. -/
import Derived.Test.YtbknmfegckeogaaRows
import Derived.Test.YtbknmfegckeogaaPk2
import Derived.WalkKit
import Derived.WalkSpells
import Derived.WalkLawsBesides
/- What the functions on rights return, by walks: Bit, Among, Narrow, Meets. Conditions: rights are from 0 to 255. -/
namespace Go.Proofs.Ytbknmfegckeogaa
open Go.RowKit
set_option linter.unusedVariables false

theorem ret_bool {a b : Bool} (h : a = b) : Ending.returned (.bool a) = .returned (.bool b) := by rw [h]
theorem ret_int {k : IntKind} {a b : Int} (h : a = b) : Ending.returned (.int k a) = .returned (.int k b) := by rw [h]

theorem bit_step (m : Int) (j : Nat) (h : 0 ≤ m) : m / 2 / 2 ^ j = m / 2 ^ (j + 1) := by
  rw [Int.ediv_ediv_of_nonneg (by decide), Int.pow_succ, Int.mul_comm]
theorem bit_cast (r : Int) (k : Nat) (h : 0 ≤ r) : (r / 2 ^ k % 2 == 1) = bitB r.toNat k := by
  obtain ⟨n, rfl⟩ := Int.eq_ofNat_of_zero_le h
  rw [Int.toNat_natCast, bitB]
  have e : ((n : Int) / 2 ^ k % 2) = ((n / 2 ^ k % 2 : Nat) : Int) := by simp
  rw [e]
  generalize n / 2 ^ k % 2 = x
  rw [Bool.eq_iff_iff, beq_iff_eq, beq_iff_eq]
  omega

theorem among_step (r o k : Nat) (h : ((List.range k).all fun k => !bitB r k || bitB o k) = true) (hk : (!bitB r k || bitB o k) = true) :
    ((List.range (k + 1)).all fun k => !bitB r k || bitB o k) = true := by
  rw [List.range_succ, List.all_append, h]; simp [hk]
theorem among_no (r o k : Nat) (hk : k < 8) (h1 : bitB r k = true) (h2 : bitB o k = false) : among r o = false := by
  cases h : among r o
  · rfl
  · have := List.all_eq_true.1 h k (List.mem_range.2 hk)
    simp [h1, h2] at this

set_option maxHeartbeats 400000 in
theorem narrow_yes (a b : Int) (w : World) (h1 : 0 ≤ a) (h2 : a ≤ 255) (h3 : 0 ≤ b) (h4 : b ≤ 255) (h : among b.toNat a.toNat = true) :
    Calls Try.prog 74 #[.int .u8 a, .int .u8 b] w fun e w' => e = .returned (.tuple #[.int .u8 b, .bool true]) ∧ w = w' := by
  have hn := narrow_ne a b h1 (by omega) h3 (by omega)
  rw [h] at hn
  go_enter Try.func74, Try.ntmps74
  go_wp2
  go_ret2
  exact ⟨rfl, rfl⟩
set_option maxHeartbeats 400000 in
theorem narrow_no (a b : Int) (w : World) (h1 : 0 ≤ a) (h2 : a ≤ 255) (h3 : 0 ≤ b) (h4 : b ≤ 255) (h : among b.toNat a.toNat = false) :
    Calls Try.prog 74 #[.int .u8 a, .int .u8 b] w fun e w' => e = .returned (.tuple #[.int .u8 0, .bool false]) ∧ w = w' := by
  have hn := narrow_ne a b h1 (by omega) h3 (by omega)
  rw [h] at hn
  go_enter Try.func74, Try.ntmps74
  go_wp2
  go_ret2
  exact ⟨rfl, rfl⟩
end Go.Proofs.Ytbknmfegckeogaa
