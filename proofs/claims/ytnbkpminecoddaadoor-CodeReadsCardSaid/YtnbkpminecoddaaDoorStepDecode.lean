/- code.Decode, by walk. -/
import Derived.Test.YtnbkpminecoddaaDoorStepShape
import Derived.Deep.QuietTactic
import Derived.Handy
import Derived.Laws.ResultCell
import Derived.BigQuiet
import Derived.Laws.RangeString
import Derived.Lib.OthersKept
namespace Go.Proofs.YtnbkpminecoddaaDoor
open Go.RowKit
set_option linter.unusedVariables false
set_option linter.unusedSimpArgs false

/-- An instruction as a value. -/
def insV (a b c d : Int) : Value := .agg #[.int .u8 a, .int .u8 b, .int .u8 c, .int .u8 d]

set_option maxRecDepth 100000 in
set_option maxHeartbeats 4000000 in
theorem decode_end (A : Option Addr) (n cap : Nat) (hn : n < 1000000000) (h4 : n % 4 = 0) (w : World) : Calls Tryd.prog 10 #[.slice A n cap, .int .i64 ((n / 4 : Nat) : Int)] w fun e w' => e = .returned (.tuple #[insV 0 0 0 0, .int .i64 4]) ∧ Below w.heap.size w w' := by
  go_enter Tryd.func10, Tryd.ntmps10
  go_wp2
  all_goals first
    | (go_returns; exact ⟨rfl, (Below.refl _ _).alloc (Nat.le_refl _) _⟩)
    | (exfalso; omega)
    | go_wall

set_option maxRecDepth 100000 in
set_option maxHeartbeats 4000000 in
theorem decode_out (A : Option Addr) (n cap : Nat) (pc : Int) (hn : n < 1000000000) (h4 : ¬ (n % 4 = 0 ∧ pc = ((n / 4 : Nat) : Int))) (hp : pc < 0 ∨ ((n / 4 : Nat) : Int) ≤ pc) (w : World) : Calls Tryd.prog 10 #[.slice A n cap, .int .i64 pc] w fun e w' => e = .returned (.tuple #[insV 0 0 0 0, .int .i64 7]) ∧ Below w.heap.size w w' := by
  go_enter Tryd.func10, Tryd.ntmps10
  go_wp2
  all_goals first
    | (go_returns; exact ⟨rfl, (Below.refl _ _).alloc (Nat.le_refl _) _⟩)
    | (exfalso; omega)
    | go_wall
end Go.Proofs.YtnbkpminecoddaaDoor
