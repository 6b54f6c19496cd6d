/- The comparison of two instructions: true just if all their cells are the same. -/
import Derived.Test.YtnbkpminecoddaaDoorStepDecodeD
import Derived.Laws.StructEq
import Derived.ChangeKeysEq
import Derived.WalkKit
namespace Go.Proofs.YtnbkpminecoddaaDoor
open Go.RowKit
set_option linter.unusedVariables false
set_option linter.unusedSimpArgs false

theorem partI {P : Program} {e : TypeId} {k : IntKind} {xs : Array Value} {off : Nat} {v : Value} (w : World) (hu : P.underlying e = some (.int k)) (hx : xs[off]? = some v) : (part e xs off).run P w = .ok v w := by
  simp [part, isAgg, run_underlying hu, hx]
theorem eqI {P : Program} {k k' : IntKind} {t : TypeId} (d : Nat) (hu : P.underlying t = some (.int k')) (w : World) (a b : Int) : (Op.equalIn (d + 1) t (.int k a) (.int k b)).run P w = .ok (a == b) w := run_equalIn_int w d t k k' a b hu
theorem uIns : Tryd.prog.underlying 26 = some (.struct (Tryd.prog.fieldsOf 26)) := by kernel_rfl
theorem sIns : Tryd.prog.stoodInHeld 26 = false := by kernel_rfl
theorem uOpc : Tryd.prog.underlying 24 = some (.int .u8) := by kernel_rfl
theorem uB8 : Tryd.prog.underlying 5 = some (.int .u8) := by kernel_rfl
theorem ftIns : (Tryd.prog.fieldsOf 26).toList = [⟨"Op", 24, 0, false, "", "", 0⟩, ⟨"A", 5, 1, false, "", "", 1⟩, ⟨"B", 5, 2, false, "", "", 2⟩, ⟨"C", 5, 3, false, "", "", 3⟩] := by kernel_rfl
theorem run_ins (d : Nat) (k a b c k' a' b' c' : Int) (w : World) :
    (Op.equalIn (d + 2) 26 (.agg #[.int .u8 k, .int .u8 a, .int .u8 b, .int .u8 c]) (.agg #[.int .u8 k', .int .u8 a', .int .u8 b', .int .u8 c'])).run Tryd.prog w = .ok (decide (k = k' ∧ a = a' ∧ b = b' ∧ c = c')) w := by
  rw [run_equalIn_agg w (d + 1) _ _ _ uIns sIns, ftIns]
  simp only [Op.eqFields, ne_eq, String.reduceEq, not_false_eq_true, if_true, Sem.run_bind, Sem.run_ite, Sem.run_pure, partI (P := Tryd.prog) w uOpc (xs := #[.int .u8 k, .int .u8 a, .int .u8 b, .int .u8 c]) (off := 0) (v := .int .u8 k) rfl, partI (P := Tryd.prog) w uB8 (xs := #[.int .u8 k, .int .u8 a, .int .u8 b, .int .u8 c]) (off := 1) (v := .int .u8 a) rfl, partI (P := Tryd.prog) w uB8 (xs := #[.int .u8 k, .int .u8 a, .int .u8 b, .int .u8 c]) (off := 2) (v := .int .u8 b) rfl, partI (P := Tryd.prog) w uB8 (xs := #[.int .u8 k, .int .u8 a, .int .u8 b, .int .u8 c]) (off := 3) (v := .int .u8 c) rfl, partI (P := Tryd.prog) w uOpc (xs := #[.int .u8 k', .int .u8 a', .int .u8 b', .int .u8 c']) (off := 0) (v := .int .u8 k') rfl, partI (P := Tryd.prog) w uB8 (xs := #[.int .u8 k', .int .u8 a', .int .u8 b', .int .u8 c']) (off := 1) (v := .int .u8 a') rfl, partI (P := Tryd.prog) w uB8 (xs := #[.int .u8 k', .int .u8 a', .int .u8 b', .int .u8 c']) (off := 2) (v := .int .u8 b') rfl, partI (P := Tryd.prog) w uB8 (xs := #[.int .u8 k', .int .u8 a', .int .u8 b', .int .u8 c']) (off := 3) (v := .int .u8 c') rfl, eqI (P := Tryd.prog) (k := .u8) d uOpc w, eqI (P := Tryd.prog) (k := .u8) d uB8 w, Result.andThen_ok]
  by_cases h1 : k = k' <;> simp [h1]
  by_cases h2 : a = a' <;> simp [h2]
  by_cases h3 : b = b' <;> simp [h3]
  by_cases h4 : c = c' <;> simp [h4]
theorem ins_neq (k a b c k' a' b' c' : Int) (w : World) : (binOp .neq 26 (.agg #[.int .u8 k, .int .u8 a, .int .u8 b, .int .u8 c]) (.agg #[.int .u8 k', .int .u8 a', .int .u8 b', .int .u8 c'])).run Tryd.prog w = .ok (.bool (!decide (k = k' ∧ a = a' ∧ b = b' ∧ c = c'))) w := by
  rw [run_neq_struct, run_ins 9998, Result.andThen_ok]
end Go.Proofs.YtnbkpminecoddaaDoor
