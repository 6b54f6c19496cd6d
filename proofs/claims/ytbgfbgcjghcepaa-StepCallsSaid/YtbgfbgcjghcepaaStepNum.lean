/- Sums, differences, products of 64-bit numbers by the program, by walks. Conditions: each number is below 2 to the 64. -/
import Derived.Test.YtbgfbgcjghcepaaRows
import Derived.WalkKit
import Derived.WalkSpells
import Derived.WalkLawsBesides
import Derived.LoopN
import Derived.Lib.Hide
import Derived.Shelf.Bits.Mul64
import Derived.Laws.Externs
namespace Go.Proofs.Ytbgfbgcjghcepaa
open Go.RowKit
set_option linter.unusedVariables false

def M64 : Nat := 18446744073709551616
def addV (x y : Nat) : Nat := if x + y < M64 then x + y else 0
def subV (x y : Nat) : Nat := if y ≤ x then x - y else 0
def mulV (x y : Nat) : Nat := if x * y < M64 then x * y else 0

set_option maxHeartbeats 400000 in
theorem sat_any (n b : Int) (f : Bool) (w : World) : Calls Try.prog 29 #[.int .u64 n, .bool f, .int .u64 b] w fun e w' => e = .returned (.int .u64 (if f then n else b)) ∧ w = w' := by
  cases f
  all_goals
    go_enter Try.func29, Try.ntmps29
    go_wp2
    go_ret
    exact ⟨rfl, rfl⟩

theorem run_add64_at (x y : Nat) (w : World) : (callFunc 28 #[.int .u64 x, .int .u64 y, .int .u64 0]).run Try.prog w = .ok (.value (.tuple #[.int .u64 (((x + y) % M64 : Nat) : Int), .int .u64 (((x + y) / M64 : Nat) : Int)])) w := by
  rw [run_callFunc_extern Try.func28 (by kernel_rfl) (by kernel_rfl) (by kernel_rfl) (e := add64Entry) (by kernel_rfl), run_add64 x y 0 (by omega) (by omega) (by omega) (by omega)]
  simp [Result.andThen, M64]

theorem add_facts (x y : Nat) (hx : x < M64) (hy : y < M64) :
    (x + y < M64 ∧ (x + y) / M64 = 0 ∧ (x + y) % M64 = x + y) ∨ (¬ x + y < M64 ∧ (x + y) / M64 = 1) := by
  unfold M64 at *
  omega
theorem ret_two {a b : Nat} {c d : Bool} (h : a = b) (h' : c = d) : Ending.returned (.tuple #[.int .u64 (a : Nat), .bool c]) = .returned (.tuple #[.int .u64 (b : Nat), .bool d]) := by rw [h, h']

/-- A sum, and whether it fits: what both sides hand back. -/
def addR (x y : Nat) : Value := .tuple #[.int .u64 (addV x y : Nat), .bool (decide (x + y < M64))]
def subR (x y : Nat) : Value := .tuple #[.int .u64 (subV x y : Nat), .bool (decide (y ≤ x))]
def mulR (x y : Nat) : Value := .tuple #[.int .u64 (mulV x y : Nat), .bool (decide (x * y < M64))]
theorem addR_yes {x y : Nat} (h : x + y < M64) : addR x y = .tuple #[.int .u64 ((x + y : Nat) : Int), .bool true] := by unfold addR addV; rw [if_pos h, decide_eq_true h]
theorem addR_no {x y : Nat} (h : ¬ x + y < M64) : addR x y = .tuple #[.int .u64 0, .bool false] := by unfold addR addV; rw [if_neg h, decide_eq_false h]; rfl
theorem subR_yes {x y : Nat} (h : y ≤ x) : subR x y = .tuple #[.int .u64 ((x - y : Nat) : Int), .bool true] := by unfold subR subV; rw [if_pos h, decide_eq_true h]
theorem subR_no {x y : Nat} (h : ¬ y ≤ x) : subR x y = .tuple #[.int .u64 0, .bool false] := by unfold subR subV; rw [if_neg h, decide_eq_false h]; rfl
theorem mulR_yes {x y : Nat} (h : x * y < M64) : mulR x y = .tuple #[.int .u64 ((x * y : Nat) : Int), .bool true] := by unfold mulR mulV; rw [if_pos h, decide_eq_true h]
theorem mulR_no {x y : Nat} (h : ¬ x * y < M64) : mulR x y = .tuple #[.int .u64 0, .bool false] := by unfold mulR mulV; rw [if_neg h, decide_eq_false h]; rfl

set_option maxHeartbeats 400000 in
theorem add_any (x y : Nat) (w : World) (hx : x < M64) (hy : y < M64) : Calls Try.prog 23 #[.int .u64 x, .int .u64 y] w fun e w' => e = .returned (addR x y) ∧ w = w' := by
  have h0 := run_add64_at x y
  rcases add_facts x y hx hy with ⟨h1, h2, h3⟩ | ⟨h1, h2⟩
  · rw [addR_yes h1]
    rw [h2, h3] at h0
    clear h1 h2 h3 hx hy
    generalize x + y = z at *
    go_enter Try.func23, Try.ntmps23
    go_wp2_with fail
    refine (sat_any _ _ _ _).mono ?_
    rintro e w' ⟨rfl, rfl⟩
    go_wp2_with fail
    go_ret2
    exact ⟨rfl, rfl⟩
  · rw [addR_no h1]
    rw [h2] at h0
    clear h1 h2 hx hy
    generalize (x + y) % M64 = z at *
    go_enter Try.func23, Try.ntmps23
    go_wp2_with fail
    refine (sat_any _ _ _ _).mono ?_
    rintro e w' ⟨rfl, rfl⟩
    go_wp2_with fail
    go_ret2
    exact ⟨rfl, rfl⟩

set_option maxHeartbeats 400000 in
theorem sub_any (x y : Nat) (w : World) (hx : x < M64) (hy : y < M64) : Calls Try.prog 24 #[.int .u64 x, .int .u64 y] w fun e w' => e = .returned (subR x y) ∧ w = w' := by
  by_cases h1 : y ≤ x
  · rw [subR_yes h1]
    unfold M64 at *
    have hb : (x : Int) ≤ 18446744073709551615 := by omega
    have hc : (y : Int) ≤ (x : Int) := by omega
    have he := Lib.hid (show ((x - y : Nat) : Int) = (x : Int) - (y : Int) from by omega)
    clear hx hy
    go_enter Try.func24, Try.ntmps24
    go_wp2_with fail
    refine (sat_any _ _ _ _).mono ?_
    rintro e w' ⟨rfl, rfl⟩
    go_wp2_with fail
    go_ret2
    exact ⟨by rw [he.out]; rfl, rfl⟩
  · rw [subR_no h1]
    unfold M64 at *
    have hb : (x : Int) ≤ 18446744073709551615 := by omega
    have hc : (x : Int) < (y : Int) := by omega
    clear hx hy
    go_enter Try.func24, Try.ntmps24
    go_wp2_with fail
    refine (sat_any _ _ _ _).mono ?_
    rintro e w' ⟨rfl, rfl⟩
    go_wp2_with fail
    go_ret2
    exact ⟨rfl, rfl⟩

theorem mul_facts (x y : Nat) (hx : x < M64) (hy : y < M64) :
    (x * y < M64 ∧ x * y / M64 = 0 ∧ x * y % M64 = x * y) ∨ (¬ x * y < M64 ∧ x * y / M64 ≠ 0) := by
  unfold M64 at *
  generalize x * y = z
  omega

set_option maxHeartbeats 1000000 in
theorem mul64_any (x y : Nat) (hx : x < M64) (hy : y < M64) (w : World) :
    Calls Try.prog 30 #[.int .u64 x, .int .u64 y] w fun e w' => e = .returned (.tuple #[.int .u64 ((x * y / M64 : Nat) : Int), .int .u64 ((x * y % M64 : Nat) : Int)]) ∧ w = w' := by
  unfold M64 at *
  obtain ⟨bd, bt, bw, hhi⟩ := Lib.mul64_hi x y hx hy
  have ba := Lib.half_mul_le (a := x / 4294967296) (b := y / 4294967296) (by omega) (by omega)
  have bb := Lib.half_mul_le (a := x / 4294967296) (b := y % 4294967296) (by omega) (by omega)
  have bc := Lib.half_mul_le (a := x % 4294967296) (b := y / 4294967296) (by omega) (by omega)
  have ba' : x / 4294967296 * (y / 4294967296) < 18446744073709551616 := by omega
  have bb' : x / 4294967296 * (y % 4294967296) < 18446744073709551616 := by omega
  have bc' : x % 4294967296 * (y / 4294967296) < 18446744073709551616 := by omega
  have bh1 : x / 4294967296 * (y / 4294967296) + (x / 4294967296 * (y % 4294967296) + x % 4294967296 * (y % 4294967296) / 4294967296) / 4294967296 < 18446744073709551616 := by omega
  have bh : x / 4294967296 * (y / 4294967296) + (x / 4294967296 * (y % 4294967296) + x % 4294967296 * (y % 4294967296) / 4294967296) / 4294967296 + ((x / 4294967296 * (y % 4294967296) + x % 4294967296 * (y % 4294967296) / 4294967296) % 4294967296 + x % 4294967296 * (y / 4294967296)) / 4294967296 < 18446744073709551616 := by omega
  go_enter Try.func30, Try.ntmps30
  go_wp2
  simp only [Mul64.maskN x hx, Mul64.maskN y hy, Mul64.divN, Mul64.mulN, Mul64.addN, Mul64.wrapN _ bd, Mul64.wrapN _ bb', Mul64.wrapN _ bt, Mul64.maskN _ bt, Mul64.wrapN _ bc', Mul64.wrapN _ bw, Mul64.wrapN _ ba', Mul64.wrapN _ bh1, Mul64.wrapN _ bh, Mul64.wrapM (x * y)]
  rw [hhi]
  go_ret2
  exact ⟨rfl, rfl⟩

set_option maxHeartbeats 400000 in
theorem mul_any (x y : Nat) (w : World) (hx : x < M64) (hy : y < M64) : Calls Try.prog 25 #[.int .u64 x, .int .u64 y] w fun e w' => e = .returned (mulR x y) ∧ w = w' := by
  have h0 := mul64_any x y hx hy w
  rcases mul_facts x y hx hy with ⟨h1, h2, h3⟩ | ⟨h1, h2⟩
  · rw [mulR_yes h1]
    rw [h2, h3] at h0
    have H0 := Lib.hid h0
    clear h1 h2 h3 hx hy h0
    generalize x * y = z at *
    go_enter Try.func25, Try.ntmps25
    go_wp2_with fail
    refine H0.out.mono ?_
    rintro e w' ⟨rfl, rfl⟩
    go_wp2_with fail
    refine (sat_any _ _ _ _).mono ?_
    rintro e w' ⟨rfl, rfl⟩
    go_wp2_with fail
    go_ret2
    exact ⟨rfl, rfl⟩
  · rw [mulR_no h1]
    have H0 := Lib.hid h0
    have hq : ((((x * y / M64 : Nat) : Int)) == 0) = false := by
      rw [beq_eq_false_iff_ne]
      omega
    clear h1 h2 hx hy h0
    generalize x * y % M64 = z at *
    generalize x * y / M64 = q at *
    go_enter Try.func25, Try.ntmps25
    go_wp2_with fail
    refine H0.out.mono ?_
    rintro e w' ⟨rfl, rfl⟩
    go_wp2_with fail
    refine (sat_any _ _ _ _).mono ?_
    rintro e w' ⟨rfl, rfl⟩
    go_wp2_with fail
    go_ret2
    exact ⟨rfl, rfl⟩

end Go.Proofs.Ytbgfbgcjghcepaa
