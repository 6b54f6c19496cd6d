/- A goroutine compared with itself, a call compared with itself: the same. -/
import Derived.Test.YtbgfbgcjghcepaaStepModel
import Derived.Laws.StructEq
import Derived.ChangeKeysEq
import Derived.WalkKit
namespace Go.Proofs.Ytbgfbgcjghcepaa
open Go.RowKit
set_option linter.unusedVariables false
set_option linter.unusedSimpArgs false

theorem part_int {P : Program} {e : TypeId} {k : IntKind} {xs : Array Value} {off : Nat} {v : Value} (w : World) (hu : P.underlying e = some (.int k)) (hx : xs[off]? = some v) : (part e xs off).run P w = .ok v w := by
  simp [part, isAgg, run_underlying hu, hx]
theorem part_bool {P : Program} {e : TypeId} {xs : Array Value} {off : Nat} {v : Value} (w : World) (hu : P.underlying e = some .bool) (hx : xs[off]? = some v) : (part e xs off).run P w = .ok v w := by
  simp [part, isAgg, run_underlying hu, hx]
theorem part_struct {P : Program} {e : TypeId} {xs : Array Value} {off : Nat} (w : World) {fs : Array Field} {i : TypeInfo} (hu : P.underlying e = some (.struct fs)) (hi : P.info? e = some i) : (part e xs off).run P w = .ok (.agg (xs.extract off (off + P.cellsOf e))) w := by
  simp [part, isAgg, run_underlying hu, run_sizeOf w hi]
theorem part_array {P : Program} {e : TypeId} {xs : Array Value} {off : Nat} (w : World) {n : Nat} {e' : TypeId} {i : TypeInfo} (hu : P.underlying e = some (.array n e')) (hi : P.info? e = some i) : (part e xs off).run P w = .ok (.agg (xs.extract off (off + P.cellsOf e))) w := by
  simp [part, isAgg, run_underlying hu, run_sizeOf w hi]
theorem some_info {P : Program} {e : TypeId} (h : (P.info? e).isSome = true) : ∃ i, P.info? e = some i := by
  cases hx : P.info? e with
  | none => rw [hx] at h; cases h
  | some i => exact ⟨i, rfl⟩

theorem ftG : (Try.prog.fieldsOf 30).toList = [⟨"State", 23, 0, false, "", "", 0⟩, ⟨"Suspended", 4, 1, false, "", "", 8⟩, ⟨"Domain", 26, 2, false, "", "", 16⟩, ⟨"Context", 26, 4, false, "", "", 32⟩, ⟨"Affinity", 5, 6, false, "", "", 48⟩, ⟨"Program", 3, 7, false, "", "", 56⟩, ⟨"PC", 3, 8, false, "", "", 64⟩, ⟨"Regs", 27, 9, false, "", "", 72⟩, ⟨"Code", 28, 17, false, "", "", 136⟩, ⟨"Until", 24, 18, false, "", "", 144⟩] := by kernel_rfl
theorem ftRef : (Try.prog.fieldsOf 26).toList = [⟨"Index", 3, 0, false, "", "", 0⟩, ⟨"Gen", 24, 1, false, "", "", 8⟩] := by kernel_rfl
theorem ftCall : (Try.prog.fieldsOf 36).toList = [⟨"Kind", 33, 0, false, "", "", 0⟩, ⟨"Args", 34, 1, false, "", "", 8⟩] := by kernel_rfl
theorem uG : Try.prog.underlying 30 = some (.struct (Try.prog.fieldsOf 30)) := by kernel_rfl
theorem uRef : Try.prog.underlying 26 = some (.struct (Try.prog.fieldsOf 26)) := by kernel_rfl
theorem uCall : Try.prog.underlying 36 = some (.struct (Try.prog.fieldsOf 36)) := by kernel_rfl
theorem uA5 : Try.prog.underlying 34 = some (.array 5 24) := by kernel_rfl
theorem uA8 : Try.prog.underlying 27 = some (.array 8 24) := by kernel_rfl
theorem uU64 : Try.prog.underlying 24 = some (.int .u64) := by kernel_rfl
theorem uU8 : Try.prog.underlying 5 = some (.int .u8) := by kernel_rfl
theorem uInt : Try.prog.underlying 3 = some (.int .i64) := by kernel_rfl
theorem uKind : Try.prog.underlying 33 = some (.int .i64) := by kernel_rfl
theorem uState : Try.prog.underlying 23 = some (.int .i64) := by kernel_rfl
theorem uErr : Try.prog.underlying 28 = some (.int .i64) := by kernel_rfl
theorem uBool : Try.prog.underlying 4 = some .bool := by kernel_rfl
theorem sG : Try.prog.stoodInHeld 30 = false := by kernel_rfl
theorem sRef : Try.prog.stoodInHeld 26 = false := by kernel_rfl
theorem sCall : Try.prog.stoodInHeld 36 = false := by kernel_rfl
theorem nRef : Try.prog.cellsOf 26 = 2 := by kernel_rfl
theorem nA5 : Try.prog.cellsOf 34 = 5 := by kernel_rfl
theorem nA8 : Try.prog.cellsOf 27 = 8 := by kernel_rfl
theorem nU64 : Try.prog.cellsOf 24 = 1 := by kernel_rfl

theorem eq_i {P : Program} {k k' : IntKind} {t : TypeId} (d : Nat) (hu : P.underlying t = some (.int k')) (w : World) (a : Int) : (Op.equalIn (d + 1) t (.int k a) (.int k a)).run P w = .ok true w := by
  rw [run_equalIn_int w d t k k' a a hu]
  simp
theorem eq_b {P : Program} {t : TypeId} (d : Nat) (hu : P.underlying t = some .bool) (w : World) (a : Bool) : (Op.equalIn (d + 1) t (.bool a) (.bool a)).run P w = .ok true w := by
  have h := run_equalIn_bool (P := P) w d t a a hu
  simpa using h

theorem ref_same (d : Nat) (a b : Int) (w : World) :
    (Op.equalIn (d + 2) 26 (.agg #[.int .i64 a, .int .u64 b]) (.agg #[.int .i64 a, .int .u64 b])).run Try.prog w = .ok true w := by
  rw [run_equalIn_agg w (d + 1) _ _ _ uRef sRef, ftRef]
  simp only [Op.eqFields, ne_eq, String.reduceEq, not_false_eq_true, if_true, Sem.run_bind, Sem.run_ite, Sem.run_pure, part_int (P := Try.prog) w uInt (xs := #[.int .i64 a, .int .u64 b]) (off := 0) (v := .int .i64 a) rfl,
    part_int (P := Try.prog) w uU64 (xs := #[.int .i64 a, .int .u64 b]) (off := 1) (v := .int .u64 b) rfl, eq_i (P := Try.prog) (k := .i64) d uInt w, eq_i (P := Try.prog) (k := .u64) d uU64 w, Result.andThen_ok]
  rfl

theorem items_same (d n : Nat) (t : TypeId) (hu : Try.prog.underlying t = some (.array n 24)) (r : Nat → Int) (xs : Array Value) (hx : ∀ i, i < n → xs[i]? = some (.int .u64 (r i))) (w : World) :
    (Op.equalIn (d + 2) t (.agg xs) (.agg xs)).run Try.prog w = .ok true w := by
  obtain ⟨i, hi⟩ := some_info (P := Try.prog) (e := 24) (by kernel_rfl)
  rw [run_equalIn_array w (d + 1) _ _ hu hi, nU64]
  have H : ∀ l : List Nat, (∀ j ∈ l, j < n) → (Op.eqItems (d + 1) 24 1 xs xs l).run Try.prog w = .ok true w := by
    intro l
    induction l with
    | nil => intro _; simp [Op.eqItems]
    | cons j l ih =>
      intro hl
      have hj := part_int (P := Try.prog) w uU64 (xs := xs) (off := j * 1) (by rw [Nat.mul_one]; exact hx j (hl j (by simp)))
      simp only [Op.eqItems, Sem.run_bind, Sem.run_ite, Sem.run_pure, hj, eq_i (P := Try.prog) (k := .u64) d uU64 w, Result.andThen_ok, if_true]
      exact ih fun j' hj' => hl j' (by simp [hj'])
  exact H _ fun j hj => List.mem_range.1 hj

theorem callv_same (d : Nat) (k a0 a1 a2 a3 a4 : Int) (w : World) : (Op.equalIn (d + 3) 36 (.agg (callV k a0 a1 a2 a3 a4)) (.agg (callV k a0 a1 a2 a3 a4))).run Try.prog w = .ok true w := by
  obtain ⟨i, hi⟩ := some_info (P := Try.prog) (e := 34) (by kernel_rfl)
  rw [run_equalIn_agg w (d + 2) _ _ _ uCall sCall, ftCall]
  have G : ∀ (xs : Array Value) (o : Nat), (part 34 xs o).run Try.prog w = .ok (.agg (xs.extract o (o + 5))) w := fun xs o => by rw [part_array w uA5 hi, nA5]
  have e1 : (callV k a0 a1 a2 a3 a4).extract 1 (1 + 5) = #[.int .u64 a0, .int .u64 a1, .int .u64 a2, .int .u64 a3, .int .u64 a4] := rfl
  have e2 := items_same d 5 34 uA5 (fun i => [a0, a1, a2, a3, a4].getD i 0) #[.int .u64 a0, .int .u64 a1, .int .u64 a2, .int .u64 a3, .int .u64 a4] (fun i hi => by
    rcases i with _ | _ | _ | _ | _ | i
    all_goals first | rfl | omega) w
  simp only [Op.eqFields, ne_eq, String.reduceEq, not_false_eq_true, if_true, Sem.run_bind, Sem.run_ite, Sem.run_pure, part_int (P := Try.prog) w uKind (xs := callV k a0 a1 a2 a3 a4) (off := 0) (v := .int .i64 k) rfl, G, e1, e2,
    eq_i (P := Try.prog) (k := .i64) (d + 1) uKind w, Result.andThen_ok]
  rfl

theorem g_same (d : Nat) (g : Gr) (w : World) : (Op.equalIn (d + 3) 30 (.agg g.c) (.agg g.c)).run Try.prog w = .ok true w := by
  obtain ⟨i, hi⟩ := some_info (P := Try.prog) (e := 27) (by kernel_rfl)
  obtain ⟨i', hi'⟩ := some_info (P := Try.prog) (e := 26) (by kernel_rfl)
  rw [run_equalIn_agg w (d + 2) _ _ _ uG sG, ftG]
  have G : ∀ (xs : Array Value) (o : Nat), (part 27 xs o).run Try.prog w = .ok (.agg (xs.extract o (o + 8))) w := fun xs o => by rw [part_array w uA8 hi, nA8]
  have R : ∀ (xs : Array Value) (o : Nat), (part 26 xs o).run Try.prog w = .ok (.agg (xs.extract o (o + 2))) w := fun xs o => by rw [part_struct w uRef hi', nRef]
  have e1 : g.c.extract 2 (2 + 2) = #[.int .i64 g.di, .int .u64 g.dg] := rfl
  have e2 : g.c.extract 4 (4 + 2) = #[.int .i64 g.ci, .int .u64 g.cg] := rfl
  have e3 := items_same (d) 8 27 uA8 (fun i => (g.r i : Int)) (g.c.extract 9 (9 + 8)) (fun i hi => by
    rcases i with _ | _ | _ | _ | _ | _ | _ | _ | i
    all_goals first | rfl | omega) w
  simp only [Op.eqFields, ne_eq, String.reduceEq, not_false_eq_true, if_true, Sem.run_bind, Sem.run_ite, Sem.run_pure, G, R, e1, e2, e3, ref_same d,
    part_int (P := Try.prog) w uState (xs := g.c) (off := 0) (v := .int .i64 g.st) rfl, part_bool (P := Try.prog) w uBool (xs := g.c) (off := 1) (v := .bool g.sus) rfl, part_int (P := Try.prog) w uU8 (xs := g.c) (off := 6) (v := .int .u8 g.aff) rfl,
    part_int (P := Try.prog) w uInt (xs := g.c) (off := 7) (v := .int .i64 g.prog) rfl, part_int (P := Try.prog) w uInt (xs := g.c) (off := 8) (v := .int .i64 g.pc) rfl, part_int (P := Try.prog) w uErr (xs := g.c) (off := 17) (v := .int .i64 g.code) rfl, part_int (P := Try.prog) w uU64 (xs := g.c) (off := 18) (v := .int .u64 g.til) rfl,
    eq_i (P := Try.prog) (k := .i64) (d + 1) uState w, eq_b (P := Try.prog) (d + 1) uBool w, eq_i (P := Try.prog) (k := .u8) (d + 1) uU8 w, eq_i (P := Try.prog) (k := .i64) (d + 1) uInt w, eq_i (P := Try.prog) (k := .i64) (d + 1) uErr w, eq_i (P := Try.prog) (k := .u64) (d + 1) uU64 w, Result.andThen_ok]
  rfl

theorem g_eql (g : Gr) (w : World) : (binOp .eql 30 (.agg g.c) (.agg g.c)).run Try.prog w = .ok (.bool true) w := by
  rw [run_eql_struct, g_same 9997, Result.andThen_ok]
theorem g_neq (g : Gr) (w : World) : (binOp .neq 30 (.agg g.c) (.agg g.c)).run Try.prog w = .ok (.bool false) w := by
  rw [run_neq_struct, g_same 9997, Result.andThen_ok]
  rfl
theorem callv_eql (k a0 a1 a2 a3 a4 : Int) (w : World) : (binOp .eql 36 (.agg (callV k a0 a1 a2 a3 a4)) (.agg (callV k a0 a1 a2 a3 a4))).run Try.prog w = .ok (.bool true) w := by
  rw [run_eql_struct, callv_same 9997, Result.andThen_ok]
end Go.Proofs.Ytbgfbgcjghcepaa
