/- strings.Cut at a blank, by walks: what is ahead of the first blank, and what is behind it. -/
import Derived.Test.YtnbkpminecoddaaDoorRows
import Derived.WalkKit
import Derived.WalkSpells
import Derived.WalkLawsBesides
import Derived.LoopN
import Derived.Lib.Hide
import Derived.Lib.Bytealg
import Derived.Lib.Strings
import Derived.Lib.Walk
import Derived.Laws.Externs
import Derived.Laws.Strings3
import Derived.Deep.QuietTactic
import Derived.BigQuiet
import Derived.IntWalk
namespace Go.Proofs.YtnbkpminecoddaaDoor
open Go.RowKit
set_option linter.unusedVariables false
set_option linter.unusedSimpArgs false

set_option maxRecDepth 100000 in
set_option maxHeartbeats 1000000 in
theorem ixb_is (s : ByteArray) (c : Int) (w : World) : Calls Tryd.prog 55 #[.string s, .int .u8 c] w fun e w' => e = .returned (.int .i64 (Lib.indexByte s.data.toList c.toNat.toUInt8)) ∧ w = w' := by
  go_enter Tryd.func55, Tryd.ntmps55
  go_wp2
  rw [run_callFunc_extern Tryd.func64 (by kernel_rfl) (by kernel_rfl) (by kernel_rfl) (e := Extern.BytealgIndexByte.indexByte) (by kernel_rfl), Lib.run_indexByteString]
  simp only [Result.andThen]
  rw [Oper.upon_value]
  go_wp2
  go_ret
  exact ⟨rfl, rfl⟩

set_option maxRecDepth 100000 in
set_option maxHeartbeats 1000000 in
theorem index_is (s : ByteArray) (hne : (([32] : List UInt8) == s.toList) = false) (w : World) : Calls Tryd.prog 59 #[.string s, .string ⟨#[32]⟩] w fun e w' => e = .returned (.int .i64 (Lib.indexByte s.data.toList 32)) ∧ w = w' := by
  go_enter Tryd.func59, Tryd.ntmps59
  go_wp2_with (go_at_call 55; refine (ixb_is s 32 w).mono ?_; rintro e w' ⟨rfl, rfl⟩)
  go_ret
  exact ⟨rfl, rfl⟩

set_option maxRecDepth 100000 in
set_option maxHeartbeats 1000000 in
theorem cutL_hit (s : ByteArray) (hne : (([32] : List UInt8) == s.toList) = false) (i : Nat) (hi : Lib.indexByte s.data.toList 32 = (i : Int)) (hs : i < s.size) (hb : s.size ≤ 1000) (w : World) : Calls Tryd.prog 49 #[.string s, .string ⟨#[32]⟩] w fun e w' => e = .returned (.tuple #[.string (s.extract 0 i), .string (s.extract (i + 1) s.size), .bool true]) ∧ ∃ m, w' = w.drewN m := by
  have CI := index_is s hne w
  rw [hi] at CI
  have c1 : (0 : Int) ≤ (i : Int) := by omega
  have c2 : (i : Int) ≤ (s.size : Int) := by omega
  have c3 : (0 : Int) ≤ (i : Int) + 1 := by omega
  have c4 : (i : Int) + 1 ≤ (s.size : Int) := by omega
  have c5 : IntKind.i64.wrap ((i : Int) + 1) = (i : Int) + 1 := IntWalk.i64_in _ (by omega)
  have c6 : ((i : Int) + 1).toNat = i + 1 := by omega
  clear hi hne
  go_enter Tryd.func49, Tryd.ntmps49
  go_wp2_with (go_at_call 59; refine CI.mono ?_; rintro e w' ⟨rfl, rfl⟩)
  go_quiet (fail)
  go_wp2
  go_ret3
  exact ⟨rfl, _, rfl⟩
set_option maxRecDepth 100000 in
set_option maxHeartbeats 1000000 in
theorem cutL_miss (s : ByteArray) (hne : (([32] : List UInt8) == s.toList) = false) (hi : Lib.indexByte s.data.toList 32 = -1) (w : World) : Calls Tryd.prog 49 #[.string s, .string ⟨#[32]⟩] w fun e w' => e = .returned (.tuple #[.string s, .string ⟨#[]⟩, .bool false]) ∧ ∃ m, w' = w.drewN m := by
  have CI := index_is s hne w
  rw [hi] at CI
  clear hi hne
  go_enter Tryd.func49, Tryd.ntmps49
  go_wp2_with (go_at_call 59; refine CI.mono ?_; rintro e w' ⟨rfl, rfl⟩)
  go_ret3
  exact ⟨rfl, 0, rfl⟩
set_option maxHeartbeats 1000000 in
theorem cut_of (s : ByteArray) (a b : Value) (f : Bool) (w : World) (h : Calls Tryd.prog 49 #[.string s, .string ⟨#[32]⟩] w fun e w' => e = .returned (.tuple #[a, b, .bool f]) ∧ ∃ m, w' = w.drewN m) : Calls Tryd.prog 36 #[.string s, .string ⟨#[32]⟩] w fun e w' => e = .returned (.tuple #[a, b, .bool f]) ∧ ∃ m, w' = w.drewN m := by
  go_enter Tryd.func36, Tryd.ntmps36
  go_wp2_with (go_at_call 49; refine h.mono ?_; rintro e w' ⟨rfl, m, rfl⟩)
  go_ret3
  exact ⟨rfl, _, rfl⟩
end Go.Proofs.YtnbkpminecoddaaDoor
