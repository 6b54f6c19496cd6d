/- The walks of the laws NumSums, NumSaturates, NumTurns: each returns true. Conditions: each number is below 2 to the 64. -/
import Derived.Test.YtfdmnpienojejaaNumNth
namespace Go.Proofs.Ytfdmnpienojejaa
open Go.RowKit
set_option linter.unusedVariables false

theorem addR_form (x y : Nat) : ∃ (v : Nat) (c : Bool), addR x y = .tuple #[.int .u64 (v : Nat), .bool c] := ⟨_, _, rfl⟩
theorem subR_form (x y : Nat) : ∃ (v : Nat) (c : Bool), subR x y = .tuple #[.int .u64 (v : Nat), .bool c] := ⟨_, _, rfl⟩
theorem mulR_form (x y : Nat) : ∃ (v : Nat) (c : Bool), mulR x y = .tuple #[.int .u64 (v : Nat), .bool c] := ⟨_, _, rfl⟩

set_option maxRecDepth 100000 in
set_option maxHeartbeats 400000 in
theorem numSums_walk (a b : Nat) (ha : a < M64) (hb : b < M64) (w : World) : Calls Try.prog 5 #[.int .u64 a, .int .u64 b] w fun e w' => e = .returned (.bool true) ∧ Below w.heap.size w w' := by
  have h1 := add_any a b w ha hb
  have h2 := refAdd_any a b w ha hb
  have h3 := sub_any a b w ha hb
  have h4 := refSub_any a b w ha hb
  have h5 := mul_any a b w ha hb
  have h6 := refMul_any a b w ha hb
  obtain ⟨v1, c1, e1⟩ := addR_form a b
  obtain ⟨v2, c2, e2⟩ := subR_form a b
  obtain ⟨v3, c3, e3⟩ := mulR_form a b
  rw [e1] at h1 h2
  rw [e2] at h3 h4
  rw [e3] at h5 h6
  have H1 := Lib.hid h1
  have H2 := Lib.hid h2
  have H3 := Lib.hid h3
  have H4 := Lib.hid h4
  have H5 := Lib.hid h5
  have H6 := Lib.hid h6
  clear h1 h2 h3 h4 h5 h6 e1 e2 e3 ha hb
  go_enter Try.func5, Try.ntmps5
  go_wp2_with fail
  refine H1.out.mono ?_
  rintro e w1 ⟨rfl, rfl⟩
  go_wp2_with fail
  refine H2.out.mono ?_
  rintro e w1 ⟨rfl, rfl⟩
  go_wp2_with fail
  refine H3.out.mono ?_
  rintro e w1 ⟨rfl, rfl⟩
  go_wp2_with fail
  refine H4.out.mono ?_
  rintro e w1 ⟨rfl, rfl⟩
  go_wp2_with fail
  refine H5.out.mono ?_
  rintro e w1 ⟨rfl, rfl⟩
  go_wp2_with fail
  refine H6.out.mono ?_
  rintro e w1 ⟨rfl, rfl⟩
  go_wp2_with fail
  refine (known_any _).mono ?_
  rintro e w1 ⟨rfl, hb⟩
  go_wp2_with fail
  go_ret
  exact ⟨rfl, hb⟩

theorem addS_of (a b : Nat) : (a + b < M64 ∧ addR a b = .tuple #[.int .u64 ((addS a b : Nat) : Int), .bool true]) ∨ (((addS a b : Nat) : Int) = 18446744073709551615 ∧ addR a b = .tuple #[.int .u64 0, .bool false]) := by
  by_cases h : a + b < M64
  · exact .inl ⟨h, by rw [addR_yes h, addS, if_pos h]⟩
  · exact .inr ⟨by rw [addS, if_neg h]; rfl, addR_no h⟩
theorem subS_of (a b : Nat) : subR a b = .tuple #[.int .u64 ((subS a b : Nat) : Int), .bool true] ∨ (((subS a b : Nat) : Int) = 0 ∧ subR a b = .tuple #[.int .u64 0, .bool false]) := by
  by_cases h : b ≤ a
  · exact .inl (by rw [subR_yes h]; rfl)
  · exact .inr ⟨by rw [subS]; omega, subR_no h⟩
theorem mulS_of (a b : Nat) : mulR a b = .tuple #[.int .u64 ((mulS a b : Nat) : Int), .bool true] ∨ (((mulS a b : Nat) : Int) = 18446744073709551615 ∧ mulR a b = .tuple #[.int .u64 0, .bool false]) := by
  by_cases h : a * b < M64
  · exact .inl (by rw [mulR_yes h, mulS, if_pos h])
  · exact .inr ⟨by rw [mulS, if_neg h]; rfl, mulR_no h⟩

set_option maxRecDepth 100000 in
set_option maxHeartbeats 1600000 in
theorem numSaturates_walk (a b : Nat) (ha : a < M64) (hb : b < M64) (w : World) : Calls Try.prog 7 #[.int .u64 a, .int .u64 b] w fun e w' => e = .returned (.bool true) ∧ Below w.heap.size w w' := by
  have h1 := refAdd_any a b w ha hb
  have h2 := refSub_any a b w ha hb
  have h3 := refMul_any a b w ha hb
  have h4 := addSat_any a b w ha hb
  have h5 := subSat_any a b w ha hb
  have h6 := mulSat_any a b w ha hb
  have q1 := addS_of a b
  have q2 := subS_of a b
  have q3 := mulS_of a b
  generalize addS a b = x1 at *
  generalize subS a b = x2 at *
  generalize mulS a b = x3 at *
  rcases q1 with ⟨_, q1⟩ | ⟨r1, q1⟩ <;> rcases q2 with q2 | ⟨r2, q2⟩ <;> rcases q3 with q3 | ⟨r3, q3⟩
  all_goals
    rw [q1] at h1
    rw [q2] at h2
    rw [q3] at h3
    try rw [r1] at h4
    try rw [r2] at h5
    try rw [r3] at h6
    have H1 := Lib.hid h1
    have H2 := Lib.hid h2
    have H3 := Lib.hid h3
    have H4 := Lib.hid h4
    have H5 := Lib.hid h5
    have H6 := Lib.hid h6
    clear h1 h2 h3 h4 h5 h6 q1 q2 q3 ha hb
    try clear r1
    try clear r2
    try clear r3
    go_enter Try.func7, Try.ntmps7
    go_wp2_with fail
    refine H1.out.mono ?_
    rintro e w1 ⟨rfl, rfl⟩
    go_wp2_with fail
    refine H2.out.mono ?_
    rintro e w1 ⟨rfl, rfl⟩
    go_wp2_with fail
    refine H3.out.mono ?_
    rintro e w1 ⟨rfl, rfl⟩
    go_wp2_with fail
    refine H4.out.mono ?_
    rintro e w1 ⟨rfl, rfl⟩
    go_wp2_with fail
    refine H5.out.mono ?_
    rintro e w1 ⟨rfl, rfl⟩
    go_wp2_with fail
    refine H6.out.mono ?_
    rintro e w1 ⟨rfl, rfl⟩
    go_wp2_with fail
    refine (known_any _).mono ?_
    rintro e w1 ⟨rfl, hb⟩
    go_wp2_with fail
    go_ret
    exact ⟨rfl, hb⟩
end Go.Proofs.Ytfdmnpienojejaa
