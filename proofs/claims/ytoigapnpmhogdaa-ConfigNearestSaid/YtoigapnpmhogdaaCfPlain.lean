/- A configuration as fifteen cells; the parts' names and bounds. No program in sight. -/
import Derived.WalkKit
import Derived.Lib.Hide
namespace Go.Proofs.Ytoigapnpmhogdaa
open Go.RowKit

def cnL : List (List UInt8) := [[80, 115], [82, 105, 110, 103], [71, 115], [67, 111, 110, 116, 101, 120, 116, 115], [68, 111, 109, 97, 105, 110, 115], [78, 111, 100, 101, 115], [83, 108, 111, 116, 115], [82, 101, 102, 105, 108, 108, 115], [65, 117, 100, 105, 116], [83, 108, 105, 99, 101], [67, 80, 85], [80, 101, 114, 105, 111, 100], [66, 117, 100, 103, 101, 116], [69, 97, 99, 104]]
def loL : List Int := [1, 2, 1, 1, 1, 3, 3, 2, 1, 1, 1, 1, 1, 1]
def hiL : List Int := [8, 32, 64, 32, 32, 512, 32, 16, 256, 64, 4294967296, 4294967296, 4294967296, 4294967296]
def cn (k : Nat) : ByteArray := ⟨(cnL.getD k []).toArray⟩
def lo (k : Nat) : Int := loL.getD k 0
def hi (k : Nat) : Int := hiL.getD k 0
/-- A part's cell. -/
def part' (k : Nat) (x : Int) : Value := if k < 10 then .int .i64 x else .int .u64 x
/-- Is a number in its part's range? -/
def okN (k : Nat) (x : Int) : Prop := if k < 10 then -9223372036854775808 ≤ x ∧ x ≤ 9223372036854775807 else 0 ≤ x ∧ x ≤ 18446744073709551615
def cfV (c : Nat → Int) (P : Value) : Array Value := #[.int .i64 (c 0), .int .i64 (c 1), .int .i64 (c 2), .int .i64 (c 3), .int .i64 (c 4), .int .i64 (c 5), .int .i64 (c 6), .int .i64 (c 7), .int .i64 (c 8), .int .i64 (c 9), .int .u64 (c 10), .int .u64 (c 11), .int .u64 (c 12), .int .u64 (c 13), P]
theorem cfV_get (c : Nat → Int) (P : Value) : ∀ k, k < 14 → (cfV c P)[k]? = some (part' k (c k))
  | 0, _ => rfl
  | 1, _ => rfl
  | 2, _ => rfl
  | 3, _ => rfl
  | 4, _ => rfl
  | 5, _ => rfl
  | 6, _ => rfl
  | 7, _ => rfl
  | 8, _ => rfl
  | 9, _ => rfl
  | 10, _ => rfl
  | 11, _ => rfl
  | 12, _ => rfl
  | 13, _ => rfl
  | k + 14, h => absurd h (by omega)
theorem cfV_last (c : Nat → Int) (P : Value) : (cfV c P)[14]? = some P := rfl
/-- Within its bounds? -/
def inB (k : Nat) (x : Int) : Bool := decide (lo k ≤ x) && decide (x ≤ hi k)
/-- Brought within them. -/
def cl (k : Nat) (x : Int) : Int := if x < lo k then lo k else if hi k < x then hi k else x
theorem cl_in {k : Nat} {x : Int} (h : inB k x = true) : cl k x = x := by
  unfold inB at h
  unfold cl
  simp only [Bool.and_eq_true, decide_eq_true_eq] at h
  rw [if_neg (by omega), if_neg (by omega)]
end Go.Proofs.Ytoigapnpmhogdaa
