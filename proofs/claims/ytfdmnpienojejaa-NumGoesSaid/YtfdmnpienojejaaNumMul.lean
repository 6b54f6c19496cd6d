/- Products by both sides, and the saturated sums, differences, products, by walks. Conditions: each number is below 2 to the 64. -/
import Derived.Test.YtfdmnpienojejaaNumArith
namespace Go.Proofs.Ytfdmnpienojejaa
open Go.RowKit
set_option linter.unusedVariables false

set_option maxHeartbeats 400000 in
theorem mul_any (x y : Nat) (w : World) (hx : x < M64) (hy : y < M64) : Calls Try.prog 24 #[.int .u64 x, .int .u64 y] w fun e w' => e = .returned (mulR x y) ∧ w = w' := by
  have h0 := mul64_any x y hx hy w
  rcases mul_facts x y hx hy with ⟨h1, h2, h3⟩ | ⟨h1, h2⟩
  · rw [mulR_yes h1]
    rw [h2, h3] at h0
    have H0 := Lib.hid h0
    clear h1 h2 h3 hx hy h0
    generalize x * y = z at *
    go_enter Try.func24, Try.ntmps24
    go_wp2_with fail
    refine H0.out.mono ?_
    rintro e w' ⟨rfl, rfl⟩
    go_wp2_with fail
    refine (sat_any _ _ _ _).mono ?_
    rintro e w' ⟨rfl, rfl⟩
    go_wp2_with fail
    go_ret2
    exact ⟨rfl, rfl⟩
  · rw [mulR_no h1]
    have H0 := Lib.hid h0
    have hq : ((((x * y / M64 : Nat) : Int)) == 0) = false := by
      rw [beq_eq_false_iff_ne]
      omega
    clear h1 h2 hx hy h0
    generalize x * y % M64 = z at *
    generalize x * y / M64 = q at *
    go_enter Try.func24, Try.ntmps24
    go_wp2_with fail
    refine H0.out.mono ?_
    rintro e w' ⟨rfl, rfl⟩
    go_wp2_with fail
    refine (sat_any _ _ _ _).mono ?_
    rintro e w' ⟨rfl, rfl⟩
    go_wp2_with fail
    go_ret2
    exact ⟨rfl, rfl⟩

theorem div_le (x y : Nat) (hx : 0 < x) : ((y : Int) ≤ 18446744073709551615 / (x : Int)) ↔ x * y < 18446744073709551616 := by
  have e : (18446744073709551615 : Int) / (x : Int) = ((18446744073709551615 / x : Nat) : Int) := by simp
  rw [e]
  have := Nat.le_div_iff_mul_le (x := y) (y := 18446744073709551615) hx
  rw [Nat.mul_comm y x] at this
  constructor
  · intro h
    have := this.1 (by omega)
    omega
  · intro h
    have := this.2 (by omega)
    omega

set_option maxHeartbeats 400000 in
theorem refMul_any (x y : Nat) (w : World) (hx : x < M64) (hy : y < M64) : Calls Try.prog 25 #[.int .u64 x, .int .u64 y] w fun e w' => e = .returned (mulR x y) ∧ w = w' := by
  rcases Nat.eq_zero_or_pos x with rfl | hpos
  · rw [mulR_yes (by rw [Nat.zero_mul]; decide), Nat.zero_mul]
    clear hx
    have hb : (y : Int) ≤ 18446744073709551615 := by unfold M64 at hy; omega
    clear hy
    go_enter Try.func25, Try.ntmps25
    go_wp2
    go_ret2
    exact ⟨by simp, rfl⟩
  · have hd := div_le x y hpos
    have hb : (y : Int) ≤ 18446744073709551615 := by unfold M64 at hy; omega
    have hb2 : (x : Int) ≤ 18446744073709551615 := by unfold M64 at hx; omega
    have hp : (1 : Int) ≤ (x : Int) := by omega
    by_cases h1 : x * y < M64
    · rw [mulR_yes h1]
      have hq := hd.2 h1
      have he := Lib.hid (Int.natCast_mul x y)
      have hz : (x : Int) * (y : Int) ≤ 18446744073709551615 := by rw [← he.out]; unfold M64 at h1; omega
      have hz0 : 0 ≤ (x : Int) * (y : Int) := by rw [← he.out]; omega
      clear hx hy hd h1 hpos
      go_enter Try.func25, Try.ntmps25
      go_wp2
      go_ret2
      exact ⟨by rw [he.out]; rfl, rfl⟩
    · rw [mulR_no h1]
      have hq : 18446744073709551615 / (x : Int) < (y : Int) := Int.not_le.1 (fun h => h1 (hd.1 h))
      clear hx hy hd h1 hpos
      go_enter Try.func25, Try.ntmps25
      go_wp2
      go_ret2
      exact ⟨rfl, rfl⟩

/-- The saturated ones. -/
def addS (x y : Nat) : Nat := if x + y < M64 then x + y else 18446744073709551615
def subS (x y : Nat) : Nat := x - y
def mulS (x y : Nat) : Nat := if x * y < M64 then x * y else 18446744073709551615

set_option maxHeartbeats 400000 in
theorem addSat_any (x y : Nat) (w : World) (hx : x < M64) (hy : y < M64) : Calls Try.prog 26 #[.int .u64 x, .int .u64 y] w fun e w' => e = .returned (.int .u64 (addS x y : Nat)) ∧ w = w' := by
  have h0 := add_any x y w hx hy
  by_cases h : x + y < M64
  · rw [addR_yes h] at h0
    have hs : Hid (addS x y = x + y) := by show _ = _; unfold addS; rw [if_pos h]
    generalize addS x y = r at *
    generalize x + y = z at *
    have H0 := Lib.hid h0
    clear h0 h hx hy
    go_enter Try.func26, Try.ntmps26
    go_wp2_with fail
    refine H0.out.mono ?_
    rintro e w' ⟨rfl, rfl⟩
    go_wp2_with fail
    refine (sat_any _ _ _ _).mono ?_
    rintro e w' ⟨rfl, rfl⟩
    go_wp2_with fail
    go_ret
    exact ⟨by rw [hs.out]; rfl, rfl⟩
  · rw [addR_no h] at h0
    have hs : Hid (((addS x y : Nat) : Int) = 18446744073709551615) := by show _ = _; unfold addS; rw [if_neg h]; rfl
    generalize addS x y = r at *
    have H0 := Lib.hid h0
    clear h0 h hx hy
    go_enter Try.func26, Try.ntmps26
    go_wp2_with fail
    refine H0.out.mono ?_
    rintro e w' ⟨rfl, rfl⟩
    go_wp2_with fail
    refine (sat_any _ _ _ _).mono ?_
    rintro e w' ⟨rfl, rfl⟩
    go_wp2_with fail
    go_ret
    exact ⟨by rw [hs.out]; rfl, rfl⟩

set_option maxHeartbeats 400000 in
theorem subSat_any (x y : Nat) (w : World) (hx : x < M64) (hy : y < M64) : Calls Try.prog 27 #[.int .u64 x, .int .u64 y] w fun e w' => e = .returned (.int .u64 (subS x y : Nat)) ∧ w = w' := by
  have h0 := sub_any x y w hx hy
  by_cases h : y ≤ x
  · rw [subR_yes h] at h0
    have hs : Hid (subS x y = x - y) := by show _ = _; unfold subS; rfl
    generalize subS x y = r at *
    generalize x - y = z at *
    have H0 := Lib.hid h0
    clear h0 h hx hy
    go_enter Try.func27, Try.ntmps27
    go_wp2_with fail
    refine H0.out.mono ?_
    rintro e w' ⟨rfl, rfl⟩
    go_wp2_with fail
    refine (sat_any _ _ _ _).mono ?_
    rintro e w' ⟨rfl, rfl⟩
    go_wp2_with fail
    go_ret
    exact ⟨by rw [hs.out]; rfl, rfl⟩
  · rw [subR_no h] at h0
    have hs : Hid (((subS x y : Nat) : Int) = 0) := by show _ = _; unfold subS; omega
    generalize subS x y = r at *
    have H0 := Lib.hid h0
    clear h0 h hx hy
    go_enter Try.func27, Try.ntmps27
    go_wp2_with fail
    refine H0.out.mono ?_
    rintro e w' ⟨rfl, rfl⟩
    go_wp2_with fail
    refine (sat_any _ _ _ _).mono ?_
    rintro e w' ⟨rfl, rfl⟩
    go_wp2_with fail
    go_ret
    exact ⟨by rw [hs.out]; rfl, rfl⟩

set_option maxHeartbeats 400000 in
theorem mulSat_any (x y : Nat) (w : World) (hx : x < M64) (hy : y < M64) : Calls Try.prog 28 #[.int .u64 x, .int .u64 y] w fun e w' => e = .returned (.int .u64 (mulS x y : Nat)) ∧ w = w' := by
  have h0 := mul_any x y w hx hy
  by_cases h : x * y < M64
  · rw [mulR_yes h] at h0
    have hs : Hid (mulS x y = x * y) := by show _ = _; unfold mulS; rw [if_pos h]
    generalize mulS x y = r at *
    generalize x * y = z at *
    have H0 := Lib.hid h0
    clear h0 h hx hy
    go_enter Try.func28, Try.ntmps28
    go_wp2_with fail
    refine H0.out.mono ?_
    rintro e w' ⟨rfl, rfl⟩
    go_wp2_with fail
    refine (sat_any _ _ _ _).mono ?_
    rintro e w' ⟨rfl, rfl⟩
    go_wp2_with fail
    go_ret
    exact ⟨by rw [hs.out]; rfl, rfl⟩
  · rw [mulR_no h] at h0
    have hs : Hid (((mulS x y : Nat) : Int) = 18446744073709551615) := by show _ = _; unfold mulS; rw [if_neg h]; rfl
    generalize mulS x y = r at *
    have H0 := Lib.hid h0
    clear h0 h hx hy
    go_enter Try.func28, Try.ntmps28
    go_wp2_with fail
    refine H0.out.mono ?_
    rintro e w' ⟨rfl, rfl⟩
    go_wp2_with fail
    refine (sat_any _ _ _ _).mono ?_
    rintro e w' ⟨rfl, rfl⟩
    go_wp2_with fail
    go_ret
    exact ⟨by rw [hs.out]; rfl, rfl⟩
end Go.Proofs.Ytfdmnpienojejaa
