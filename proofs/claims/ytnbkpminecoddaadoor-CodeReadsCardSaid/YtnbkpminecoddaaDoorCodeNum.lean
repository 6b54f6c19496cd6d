/- code.Len, code.Number, code.Jump, by walk. -/
import Derived.Test.YtnbkpminecoddaaDoorStepDecodeD
namespace Go.Proofs.YtnbkpminecoddaaDoor
open Go.RowKit
set_option linter.unusedVariables false
set_option linter.unusedSimpArgs false

set_option maxHeartbeats 1000000 in
theorem len_is (A : Option Addr) (n cap : Nat) (hn : n < 1000000000) (w : World) : Calls Tryd.prog 12 #[.slice A n cap] w fun e w' => e = .returned (.int .i64 ((n / 4 : Nat) : Int)) ∧ w' = w := by
  go_enter Tryd.func12, Tryd.ntmps12
  go_wp2
  go_ret
  exact ⟨rfl, rfl⟩

/-- The number in an instruction's last two bytes. -/
def numR (b c : Int) : Int := bits .or .i64 (wrap64 (wrap64 b * 256)) (wrap64 c)

set_option maxHeartbeats 1000000 in
theorem number_is (k a b c : Int) (w : World) : Calls Tryd.prog 14 #[insV k a b c] w fun e w' => e = .returned (.int .i64 (numR b c)) ∧ Below w.heap.size w w' := by
  unfold insV
  go_enter Tryd.func14, Tryd.ntmps14
  go_wp2
  go_ret
  exact ⟨rfl, (Below.refl _ _).alloc (Nat.le_refl _) _⟩
/-- How far a jump goes. -/
def jmpR (b c : Int) : Int := wrap64 (IntKind.i16.wrap (numR b c))

set_option maxHeartbeats 1000000 in
theorem jumpc_is (k a b c : Int) (w : World) : Calls Tryd.prog 16 #[insV k a b c] w fun e w' => e = .returned (.int .i64 (jmpR b c)) ∧ Below w.heap.size w w' := by
  have N := number_is k a b c
  unfold jmpR
  generalize numR b c = z at *
  unfold insV at *
  go_enter Tryd.func16, Tryd.ntmps16
  go_wp2_with (go_at_call 14; refine (N _).mono ?_; rintro e w2 ⟨rfl, hb⟩)
  go_ret
  exact ⟨rfl, ((Below.refl w.heap.size w).alloc (Nat.le_refl _) (.cells #[.int .u8 k, .int .u8 a, .int .u8 b, .int .u8 c] 26)).trans (hb.mono (by simp))⟩
end Go.Proofs.YtnbkpminecoddaaDoor
