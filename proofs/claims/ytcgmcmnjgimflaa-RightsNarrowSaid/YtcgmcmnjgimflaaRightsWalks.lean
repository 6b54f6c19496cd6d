/- What the functions on rights return, by walks: Bit, Among, Narrow, Meets. Conditions: rights are from 0 to 255. -/
import Derived.Test.YtcgmcmnjgimflaaRows
import Derived.Test.YtcgmcmnjgimflaaRightsPlain
import Derived.WalkKit
import Derived.WalkSpells
import Derived.WalkLawsBesides
namespace Go.Proofs.Ytcgmcmnjgimflaa
open Go.RowKit
set_option linter.unusedVariables false

theorem ret_bool {a b : Bool} (h : a = b) : Ending.returned (.bool a) = .returned (.bool b) := by rw [h]
theorem ret_int {k : IntKind} {a b : Int} (h : a = b) : Ending.returned (.int k a) = .returned (.int k b) := by rw [h]

theorem bit_step (m : Int) (j : Nat) (h : 0 ≤ m) : m / 2 / 2 ^ j = m / 2 ^ (j + 1) := by
  rw [Int.ediv_ediv_of_nonneg (by decide), Int.pow_succ, Int.mul_comm]
theorem bit_cast (r : Int) (k : Nat) (h : 0 ≤ r) : (r / 2 ^ k % 2 == 1) = bitB r.toNat k := by
  obtain ⟨n, rfl⟩ := Int.eq_ofNat_of_zero_le h
  rw [Int.toNat_natCast, bitB]
  have e : ((n : Int) / 2 ^ k % 2) = ((n / 2 ^ k % 2 : Nat) : Int) := by simp
  rw [e]
  generalize n / 2 ^ k % 2 = x
  rw [Bool.eq_iff_iff, beq_iff_eq, beq_iff_eq]
  omega

set_option maxHeartbeats 400000 in
theorem bit_any (r i : Int) (w : World) (h1 : 0 ≤ r) (h2 : r ≤ 255) (h3 : 0 ≤ i) (h4 : i ≤ 8) :
    Calls Try.prog 16 #[.int .u8 r, .int .i64 i] w fun e w' => e = .returned (.bool (bitB r.toNat i.toNat)) ∧ w = w' := by
  rw [← bit_cast r _ h1]
  obtain ⟨k, rfl⟩ := Int.eq_ofNat_of_zero_le h3
  rw [Int.toNat_natCast]
  go_enter Try.func16, Try.ntmps16
  go_wp2
  go_loop [1, 5] (fun i n => ∃ (j : Nat) (m : Int), j ≤ k ∧ i = .int .i64 j ∧ n = .int .i64 m ∧ 0 ≤ m ∧ m ≤ 255 ∧ Hid (m / 2 ^ j = r / 2 ^ k)) (fun i _ => (intOf i).toNat)
  case atStart => exact ⟨k, r, Nat.le_refl _, rfl, rfl, h1, h2, rfl⟩
  case round =>
    obtain ⟨j, m, hj, rfl, rfl, hm, hm', he⟩ := hrel
    by_cases hpos : 0 < j
    · go_wp2
      go_round
      case rel => exact ⟨j - 1, m / 2, by omega, by have : ((j - 1 : Nat) : Int) = (j : Int) - 1 := by omega
                                                    rw [this], rfl, by omega, by omega, by
                                                      show _ = _
                                                      rw [bit_step m _ hm, show j - 1 + 1 = j from by omega]; exact he.out⟩
      case measure => simp [intOf]; omega
    · have h0 : j = 0 := by omega
      subst h0
      go_wp2
      go_ret
      refine ⟨ret_bool ?_, rfl⟩
      have := he.out
      rw [← this]
      simp

theorem among_step (r o k : Nat) (h : ((List.range k).all fun k => !bitB r k || bitB o k) = true) (hk : (!bitB r k || bitB o k) = true) :
    ((List.range (k + 1)).all fun k => !bitB r k || bitB o k) = true := by
  rw [List.range_succ, List.all_append, h]; simp [hk]
theorem among_no (r o k : Nat) (hk : k < 8) (h1 : bitB r k = true) (h2 : bitB o k = false) : among r o = false := by
  cases h : among r o
  · rfl
  · have := List.all_eq_true.1 h k (List.mem_range.2 hk)
    simp [h1, h2] at this

set_option maxHeartbeats 400000 in
theorem among_any (r o : Int) (w : World) (h1 : 0 ≤ r) (h2 : r ≤ 255) (h3 : 0 ≤ o) (h4 : o ≤ 255) :
    Calls Try.prog 8 #[.int .u8 r, .int .u8 o] w fun e w' => e = .returned (.bool (among r.toNat o.toNat)) ∧ w = w' := by
  go_enter Try.func8, Try.ntmps8
  go_wp2
  go_loop [5] (fun i => ∃ k : Nat, k ≤ 8 ∧ i = .int .i64 k ∧ Hid (((List.range k).all fun k => !bitB r.toNat k || bitB o.toNat k) = true)) (fun i => 8 - (intOf i).toNat)
  case atStart => exact ⟨0, by omega, rfl, rfl⟩
  case round =>
    obtain ⟨k, hk, rfl, he⟩ := hrel
    by_cases hlt : k < 8
    · cases ha : bitB r.toNat k
      · go_wp2_with (go_at_call 16; refine (bit_any _ _ _ (by omega) (by omega) (by omega) (by omega)).mono ?_; rintro e w' ⟨rfl, rfl⟩)
        go_round
        case rel => exact ⟨k + 1, by omega, by go_num, among_step _ _ _ he.out (by rw [ha]; rfl)⟩
        case measure => simp [intOf]; omega
      · cases hb : bitB o.toNat k
        · have hno : Hid (among r.toNat o.toNat = false) := among_no _ _ k hlt ha hb
          go_wp2_with (go_at_call 16; refine (bit_any _ _ _ (by omega) (by omega) (by omega) (by omega)).mono ?_; rintro e w' ⟨rfl, rfl⟩)
          go_ret
          exact ⟨ret_bool hno.out.symm, rfl⟩
        · go_wp2_with (go_at_call 16; refine (bit_any _ _ _ (by omega) (by omega) (by omega) (by omega)).mono ?_; rintro e w' ⟨rfl, rfl⟩)
          go_round
          case rel => exact ⟨k + 1, by omega, by go_num, among_step _ _ _ he.out (by rw [hb]; simp)⟩
          case measure => simp [intOf]; omega
    · have h8 : k = 8 := by omega
      subst h8
      go_wp2
      go_ret
      exact ⟨ret_bool he.out.symm, rfl⟩

set_option maxHeartbeats 400000 in
theorem narrow_yes (a b : Int) (w : World) (h1 : 0 ≤ a) (h2 : a ≤ 255) (h3 : 0 ≤ b) (h4 : b ≤ 255) (h : among b.toNat a.toNat = true) :
    Calls Try.prog 7 #[.int .u8 a, .int .u8 b] w fun e w' => e = .returned (.tuple #[.int .u8 b, .bool true]) ∧ w = w' := by
  have hn := narrow_ne a b h1 (by omega) h3 (by omega)
  rw [h] at hn
  go_enter Try.func7, Try.ntmps7
  go_wp2
  go_ret2
  exact ⟨rfl, rfl⟩
set_option maxHeartbeats 400000 in
theorem narrow_no (a b : Int) (w : World) (h1 : 0 ≤ a) (h2 : a ≤ 255) (h3 : 0 ≤ b) (h4 : b ≤ 255) (h : among b.toNat a.toNat = false) :
    Calls Try.prog 7 #[.int .u8 a, .int .u8 b] w fun e w' => e = .returned (.tuple #[.int .u8 0, .bool false]) ∧ w = w' := by
  have hn := narrow_ne a b h1 (by omega) h3 (by omega)
  rw [h] at hn
  go_enter Try.func7, Try.ntmps7
  go_wp2
  go_ret2
  exact ⟨rfl, rfl⟩
end Go.Proofs.Ytcgmcmnjgimflaa
