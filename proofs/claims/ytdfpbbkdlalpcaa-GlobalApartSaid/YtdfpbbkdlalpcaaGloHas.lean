/- Has of the program and of the reference: is a place in a set of eight? By walks. Condition: a set is from 0 to 255. -/
import Derived.WalkKit
import Derived.WalkSpells
import Derived.WalkLawsBesides
import Derived.LoopTactic
import Derived.Lib.Hide
import Derived.Test.YtdfpbbkdlalpcaaRows
import Derived.Test.YtdfpbbkdlalpcaaNumPlain
namespace Go.Proofs.Ytdfpbbkdlalpcaa
open Go.RowKit
set_option linter.unusedVariables false

theorem ret_bool {a b : Bool} (h : a = b) : Ending.returned (.bool a) = .returned (.bool b) := by rw [h]
theorem ret_int {k : IntKind} {a b : Int} (h : a = b) : Ending.returned (.int k a) = .returned (.int k b) := by rw [h]

set_option maxHeartbeats 400000 in
theorem bit_in (k : Nat) (w : World) (hk : k < 8) : Calls Try.prog 36 #[.int .i64 k] w fun e w' => e = .returned (.int .u8 (2 ^ k % 256)) ∧ w = w' := by
  go_enter Try.func36, Try.ntmps36
  go_wp2
  go_ret
  exact ⟨rfl, rfl⟩
set_option maxHeartbeats 400000 in
theorem bit_out (p : Int) (w : World) (hp : p < 0 ∨ 7 < p) : Calls Try.prog 36 #[.int .i64 p] w fun e w' => e = .returned (.int .u8 0) ∧ w = w' := by
  rcases hp with h | h
  all_goals
    go_enter Try.func36, Try.ntmps36
    go_wp2
    go_ret
    exact ⟨rfl, rfl⟩
theorem and_zero (s : Nat) (hs : s < 256) : (bits .and .u8 (s : Int) 0 != 0) = false := by
  have h : ∀ s : Fin 256, (bits .and .u8 (s.val : Int) 0 != 0) = false := by decide +kernel
  exact h ⟨s, hs⟩

set_option maxHeartbeats 400000 in
theorem has_any (s : Nat) (p : Int) (w : World) (hs : s < 256) : Calls Try.prog 33 #[.int .u8 s, .int .i64 p] w fun e w' => e = .returned (.bool (hasP s p)) ∧ w = w' := by
  by_cases hp : 0 ≤ p ∧ p ≤ 7
  · obtain ⟨k, rfl⟩ := Int.eq_ofNat_of_zero_le hp.1
    have hk : k < 8 := by omega
    have hb := and_bit s k hs hk
    have hh : Hid (hasP s k = s.testBit k) := by
      show _ = _
      unfold hasP
      rw [decide_eq_true hp]; simp
    generalize hasP s k = r at *
    clear hp
    go_enter Try.func33, Try.ntmps33
    go_wp2_with (go_at_call 36; refine (bit_in k _ hk).mono ?_; rintro e w' ⟨rfl, rfl⟩)
    go_ret
    exact ⟨ret_bool hh.out.symm, rfl⟩
  · have hb := and_zero s hs
    have hh : Hid (hasP s p = false) := by
      show _ = _
      unfold hasP
      rw [decide_eq_false hp]; rfl
    generalize hasP s p = r at *
    go_enter Try.func33, Try.ntmps33
    go_wp2_with (go_at_call 36; refine (bit_out p _ (by omega)).mono ?_; rintro e w' ⟨rfl, rfl⟩)
    go_ret
    exact ⟨ret_bool hh.out.symm, rfl⟩
theorem hasP_nat (s k : Nat) (hk : k < 8) : hasP s k = s.testBit k := by
  unfold hasP
  rw [decide_eq_true (by omega)]; simp

theorem div_cast (s k : Nat) : (((s : Int) / 2 ^ k % 2 == 1)) = s.testBit k := by
  rw [Nat.testBit_eq_decide_div_mod_eq]
  have e : ((s : Int) / 2 ^ k % 2) = ((s / 2 ^ k % 2 : Nat) : Int) := by simp
  rw [e]
  generalize s / 2 ^ k % 2 = x
  rw [Bool.eq_iff_iff, beq_iff_eq, decide_eq_true_iff]
  omega

set_option maxHeartbeats 400000 in
theorem refHas_any (s : Nat) (p : Int) (w : World) (hs : s < 256) : Calls Try.prog 25 #[.int .u8 s, .int .i64 p] w fun e w' => e = .returned (.bool (hasP s p)) ∧ w = w' := by
  by_cases hp : 0 ≤ p ∧ p ≤ 7
  · obtain ⟨k, rfl⟩ := Int.eq_ofNat_of_zero_le hp.1
    have hk : k < 8 := by omega
    have hh : Hid (hasP s k = ((s : Int) / 2 ^ k % 2 == 1)) := by
      show _ = _
      rw [hasP_nat s k hk, div_cast]
    generalize hasP s k = r at *
    clear hp
    go_enter Try.func25, Try.ntmps25
    go_wp2
    go_loop [0, 5] (fun v i => ∃ (j : Nat) (m : Int), j ≤ k ∧ i = .int .i64 j ∧ v = .int .u8 m ∧ 0 ≤ m ∧ m ≤ 255 ∧ Hid (m / 2 ^ (k - j) = (s : Int) / 2 ^ k)) (fun _ i => k - (intOf i).toNat)
    case atStart => exact ⟨0, s, Nat.zero_le _, rfl, rfl, by omega, by omega, rfl⟩
    case round =>
      obtain ⟨j, m, hj, rfl, rfl, hm, hm', he⟩ := hrel
      by_cases hlt : j < k
      · go_wp2
        go_round
        case rel => exact ⟨j + 1, m / 2, by omega, by go_num, rfl, by omega, by omega, by
                      show _ = _
                      rw [← he.out, Int.ediv_ediv_of_nonneg (by decide), show k - j = (k - (j + 1)) + 1 from by omega, Int.pow_succ, Int.mul_comm]⟩
        case measure => simp [intOf]; omega
      · have h0 : j = k := by omega
        subst h0
        go_wp2
        go_ret
        refine ⟨ret_bool ?_, rfl⟩
        rw [hh.out, ← he.out]
        simp
  · have hh : Hid (hasP s p = false) := by
      show _ = _
      unfold hasP
      rw [decide_eq_false hp]; rfl
    generalize hasP s p = r at *
    rcases (show p < 0 ∨ 7 < p from by omega) with hp | hp
    all_goals
      go_enter Try.func25, Try.ntmps25
      go_wp2
      go_ret
      exact ⟨ret_bool hh.out.symm, rfl⟩

end Go.Proofs.Ytdfpbbkdlalpcaa
