/- The comparison of two records, and of two references: true just if all their cells are the same. -/
import Derived.Test.YthmjhepjlgcgfaaRows
import Derived.Test.YthmjhepjlgcgfaaAuditPlain
import Derived.Laws.StructEq
import Derived.ChangeKeysEq
import Derived.WalkKit
namespace Go.Proofs.Ythmjhepjlgcgfaa
open Go.RowKit
set_option linter.unusedVariables false
set_option linter.unusedSimpArgs false

def Rec.arr (r : Rec) : Array Value := #[.int .u64 r.sq, .int .u64 r.tm, .int .i64 r.gi, .int .u64 r.gg, .int .i64 r.p, .int .i64 r.kd, .int .u64 r.a0, .int .u64 r.a1, .int .u64 r.a2, .int .u64 r.a3, .int .u64 r.a4, .int .i64 r.cd]

theorem part_int {P : Program} {e : TypeId} {k : IntKind} {xs : Array Value} {off : Nat} {v : Value} (w : World) (hu : P.underlying e = some (.int k)) (hx : xs[off]? = some v) : (part e xs off).run P w = .ok v w := by
  simp [part, isAgg, run_underlying hu, hx]
theorem part_struct {P : Program} {e : TypeId} {xs : Array Value} {off : Nat} (w : World) {fs : Array Field} {i : TypeInfo} (hu : P.underlying e = some (.struct fs)) (hi : P.info? e = some i) : (part e xs off).run P w = .ok (.agg (xs.extract off (off + P.cellsOf e))) w := by
  simp [part, isAgg, run_underlying hu, run_sizeOf w hi]
theorem part_array {P : Program} {e : TypeId} {xs : Array Value} {off : Nat} (w : World) {n : Nat} {e' : TypeId} {i : TypeInfo} (hu : P.underlying e = some (.array n e')) (hi : P.info? e = some i) : (part e xs off).run P w = .ok (.agg (xs.extract off (off + P.cellsOf e))) w := by
  simp [part, isAgg, run_underlying hu, run_sizeOf w hi]

theorem some_info {P : Program} {e : TypeId} (h : (P.info? e).isSome = true) : ∃ i, P.info? e = some i := by
  cases hx : P.info? e with
  | none => rw [hx] at h; cases h
  | some i => exact ⟨i, rfl⟩

theorem ft42 : (Try.prog.fieldsOf 42).toList = [⟨"Seq", 34, 0, false, "", "", 0⟩, ⟨"Time", 34, 1, false, "", "", 8⟩, ⟨"G", 36, 2, false, "", "", 16⟩, ⟨"P", 3, 4, false, "", "", 32⟩, ⟨"Call", 40, 5, false, "", "", 40⟩, ⟨"Code", 26, 11, false, "", "", 88⟩] := by kernel_rfl
theorem ft36 : (Try.prog.fieldsOf 36).toList = [⟨"Index", 3, 0, false, "", "", 0⟩, ⟨"Gen", 34, 1, false, "", "", 8⟩] := by kernel_rfl
theorem ft40 : (Try.prog.fieldsOf 40).toList = [⟨"Kind", 37, 0, false, "", "", 0⟩, ⟨"Args", 38, 1, false, "", "", 8⟩] := by kernel_rfl
theorem u42 : Try.prog.underlying 42 = some (.struct (Try.prog.fieldsOf 42)) := by kernel_rfl
theorem u36 : Try.prog.underlying 36 = some (.struct (Try.prog.fieldsOf 36)) := by kernel_rfl
theorem u40 : Try.prog.underlying 40 = some (.struct (Try.prog.fieldsOf 40)) := by kernel_rfl
theorem u38 : Try.prog.underlying 38 = some (.array 5 34) := by kernel_rfl
theorem u34 : Try.prog.underlying 34 = some (.int .u64) := by kernel_rfl
theorem u3 : Try.prog.underlying 3 = some (.int .i64) := by kernel_rfl
theorem u37 : Try.prog.underlying 37 = some (.int .i64) := by kernel_rfl
theorem u26 : Try.prog.underlying 26 = some (.int .i64) := by kernel_rfl
theorem s42 : Try.prog.stoodInHeld 42 = false := by kernel_rfl
theorem s36 : Try.prog.stoodInHeld 36 = false := by kernel_rfl
theorem s40 : Try.prog.stoodInHeld 40 = false := by kernel_rfl
theorem c36 : Try.prog.cellsOf 36 = 2 := by kernel_rfl
theorem c40 : Try.prog.cellsOf 40 = 6 := by kernel_rfl
theorem c38 : Try.prog.cellsOf 38 = 5 := by kernel_rfl
theorem c34 : Try.prog.cellsOf 34 = 1 := by kernel_rfl

theorem eq_i {P : Program} {k k' : IntKind} {t : TypeId} (d : Nat) (hu : P.underlying t = some (.int k')) (w : World) (a b : Int) : (Op.equalIn (d + 1) t (.int k a) (.int k b)).run P w = .ok (a == b) w := run_equalIn_int w d t k k' a b hu

theorem run_ref (d : Nat) (a b a' b' : Int) (w : World) :
    (Op.equalIn (d + 2) 36 (.agg #[.int .i64 a, .int .u64 b]) (.agg #[.int .i64 a', .int .u64 b'])).run Try.prog w = .ok (decide (a = a' ∧ b = b')) w := by
  rw [run_equalIn_agg w (d + 1) _ _ _ u36 s36, ft36]
  simp only [Op.eqFields, ne_eq, String.reduceEq, not_false_eq_true, if_true, Sem.run_bind, Sem.run_ite, Sem.run_pure, part_int (P := Try.prog) w u3 (xs := #[.int .i64 a, .int .u64 b]) (off := 0) (v := .int .i64 a) rfl, part_int (P := Try.prog) w u3 (xs := #[.int .i64 a', .int .u64 b']) (off := 0) (v := .int .i64 a') rfl,
    part_int (P := Try.prog) w u34 (xs := #[.int .i64 a, .int .u64 b]) (off := 1) (v := .int .u64 b) rfl, part_int (P := Try.prog) w u34 (xs := #[.int .i64 a', .int .u64 b']) (off := 1) (v := .int .u64 b') rfl, eq_i (P := Try.prog) (k := .i64) d u3 w, eq_i (P := Try.prog) (k := .u64) d u34 w, Result.andThen_ok]
  by_cases h1 : a = a' <;> by_cases h2 : b = b' <;> simp [h1, h2]

theorem run_items (d : Nat) (a0 a1 a2 a3 a4 b0 b1 b2 b3 b4 : Int) (w : World) :
    (Op.equalIn (d + 2) 38 (.agg #[.int .u64 a0, .int .u64 a1, .int .u64 a2, .int .u64 a3, .int .u64 a4]) (.agg #[.int .u64 b0, .int .u64 b1, .int .u64 b2, .int .u64 b3, .int .u64 b4])).run Try.prog w =
      .ok (decide (a0 = b0 ∧ a1 = b1 ∧ a2 = b2 ∧ a3 = b3 ∧ a4 = b4)) w := by
  obtain ⟨i, hi⟩ := some_info (P := Try.prog) (e := 34) (by kernel_rfl)
  rw [run_equalIn_array w (d + 1) _ _ u38 hi, c34]
  have hr : List.range 5 = [0, 1, 2, 3, 4] := rfl
  rw [hr]
  have H : ∀ (xs : Array Value) (o : Nat) v, xs[o]? = some v → (part 34 xs o).run Try.prog w = .ok v w := fun xs o v h => part_int w u34 h
  simp only [Op.eqItems, Sem.run_bind, Sem.run_ite, Sem.run_pure, H #[.int .u64 a0, .int .u64 a1, .int .u64 a2, .int .u64 a3, .int .u64 a4] (0 * 1) (.int .u64 a0) rfl, H #[.int .u64 a0, .int .u64 a1, .int .u64 a2, .int .u64 a3, .int .u64 a4] (1 * 1) (.int .u64 a1) rfl, H #[.int .u64 a0, .int .u64 a1, .int .u64 a2, .int .u64 a3, .int .u64 a4] (2 * 1) (.int .u64 a2) rfl, H #[.int .u64 a0, .int .u64 a1, .int .u64 a2, .int .u64 a3, .int .u64 a4] (3 * 1) (.int .u64 a3) rfl, H #[.int .u64 a0, .int .u64 a1, .int .u64 a2, .int .u64 a3, .int .u64 a4] (4 * 1) (.int .u64 a4) rfl,
    H #[.int .u64 b0, .int .u64 b1, .int .u64 b2, .int .u64 b3, .int .u64 b4] (0 * 1) (.int .u64 b0) rfl, H #[.int .u64 b0, .int .u64 b1, .int .u64 b2, .int .u64 b3, .int .u64 b4] (1 * 1) (.int .u64 b1) rfl, H #[.int .u64 b0, .int .u64 b1, .int .u64 b2, .int .u64 b3, .int .u64 b4] (2 * 1) (.int .u64 b2) rfl, H #[.int .u64 b0, .int .u64 b1, .int .u64 b2, .int .u64 b3, .int .u64 b4] (3 * 1) (.int .u64 b3) rfl, H #[.int .u64 b0, .int .u64 b1, .int .u64 b2, .int .u64 b3, .int .u64 b4] (4 * 1) (.int .u64 b4) rfl,
    eq_i (P := Try.prog) (k := .u64) d u34 w, Result.andThen_ok]
  by_cases h0 : a0 = b0 <;> simp [h0]
  by_cases h1 : a1 = b1 <;> simp [h1]
  by_cases h2 : a2 = b2 <;> simp [h2]
  by_cases h3 : a3 = b3 <;> simp [h3]
  by_cases h4 : a4 = b4 <;> simp [h4]

theorem run_call (d : Nat) (k k' a0 a1 a2 a3 a4 b0 b1 b2 b3 b4 : Int) (w : World) :
    (Op.equalIn (d + 3) 40 (.agg #[.int .i64 k, .int .u64 a0, .int .u64 a1, .int .u64 a2, .int .u64 a3, .int .u64 a4]) (.agg #[.int .i64 k', .int .u64 b0, .int .u64 b1, .int .u64 b2, .int .u64 b3, .int .u64 b4])).run Try.prog w =
      .ok (decide (k = k' ∧ a0 = b0 ∧ a1 = b1 ∧ a2 = b2 ∧ a3 = b3 ∧ a4 = b4)) w := by
  obtain ⟨i, hi⟩ := some_info (P := Try.prog) (e := 38) (by kernel_rfl)
  rw [run_equalIn_agg w (d + 2) _ _ _ u40 s40, ft40]
  have H : ∀ (xs : Array Value) (o : Nat) v, xs[o]? = some v → (part 37 xs o).run Try.prog w = .ok v w := fun xs o v h => part_int w u37 h
  have G : ∀ (xs : Array Value) (o : Nat), (part 38 xs o).run Try.prog w = .ok (.agg (xs.extract o (o + 5))) w := fun xs o => by rw [part_array w u38 hi, c38]
  have e1 : ∀ (x a0 a1 a2 a3 a4 : Value), (#[x, a0, a1, a2, a3, a4] : Array Value).extract 1 (1 + 5) = #[a0, a1, a2, a3, a4] := fun x a0 a1 a2 a3 a4 => rfl
  simp only [Op.eqFields, ne_eq, String.reduceEq, not_false_eq_true, if_true, Sem.run_bind, Sem.run_ite, Sem.run_pure, H #[.int .i64 k, .int .u64 a0, .int .u64 a1, .int .u64 a2, .int .u64 a3, .int .u64 a4] 0 (.int .i64 k) rfl, H #[.int .i64 k', .int .u64 b0, .int .u64 b1, .int .u64 b2, .int .u64 b3, .int .u64 b4] 0 (.int .i64 k') rfl, G, e1,
    eq_i (P := Try.prog) (k := .i64) (d + 1) u37 w, run_items d, Result.andThen_ok]
  by_cases h0 : k = k' <;> simp [h0]
  by_cases h1 : a0 = b0 <;> simp [h1]
  by_cases h2 : a1 = b1 <;> simp [h2]
  by_cases h3 : a2 = b2 <;> simp [h3]
  by_cases h4 : a3 = b3 <;> simp [h4]
  by_cases h5 : a4 = b4 <;> simp [h5]

theorem run_rec (d : Nat) (a b : Rec) (w : World) :
    (Op.equalIn (d + 4) 42 (.agg a.arr) (.agg b.arr)).run Try.prog w = .ok (decide (a = b)) w := by
  obtain ⟨i, hi⟩ := some_info (P := Try.prog) (e := 36) (by kernel_rfl)
  obtain ⟨i', hi'⟩ := some_info (P := Try.prog) (e := 40) (by kernel_rfl)
  rw [run_equalIn_agg w (d + 3) _ _ _ u42 s42, ft42]
  have H34 : ∀ (xs : Array Value) (o : Nat) v, xs[o]? = some v → (part 34 xs o).run Try.prog w = .ok v w := fun xs o v h => part_int w u34 h
  have H3 : ∀ (xs : Array Value) (o : Nat) v, xs[o]? = some v → (part 3 xs o).run Try.prog w = .ok v w := fun xs o v h => part_int w u3 h
  have H26 : ∀ (xs : Array Value) (o : Nat) v, xs[o]? = some v → (part 26 xs o).run Try.prog w = .ok v w := fun xs o v h => part_int w u26 h
  have G36 : ∀ (xs : Array Value) (o : Nat), (part 36 xs o).run Try.prog w = .ok (.agg (xs.extract o (o + 2))) w := fun xs o => by rw [part_struct w u36 hi, c36]
  have G40 : ∀ (xs : Array Value) (o : Nat), (part 40 xs o).run Try.prog w = .ok (.agg (xs.extract o (o + 6))) w := fun xs o => by rw [part_struct w u40 hi', c40]
  have e1 : ∀ r : Rec, r.arr.extract 2 (2 + 2) = #[.int .i64 r.gi, .int .u64 r.gg] := fun r => rfl
  have e2 : ∀ r : Rec, r.arr.extract 5 (5 + 6) = #[.int .i64 r.kd, .int .u64 r.a0, .int .u64 r.a1, .int .u64 r.a2, .int .u64 r.a3, .int .u64 r.a4] := fun r => rfl
  simp only [Op.eqFields, ne_eq, String.reduceEq, not_false_eq_true, if_true, Sem.run_bind, Sem.run_ite, Sem.run_pure, H34 a.arr 0 (.int .u64 a.sq) rfl, H34 a.arr 1 (.int .u64 a.tm) rfl, H3 a.arr 4 (.int .i64 a.p) rfl, H26 a.arr 11 (.int .i64 a.cd) rfl, H34 b.arr 0 (.int .u64 b.sq) rfl, H34 b.arr 1 (.int .u64 b.tm) rfl, H3 b.arr 4 (.int .i64 b.p) rfl, H26 b.arr 11 (.int .i64 b.cd) rfl, G36, G40, e1, e2,
    eq_i (P := Try.prog) (k := .u64) (d + 2) u34 w, eq_i (P := Try.prog) (k := .i64) (d + 2) u3 w, eq_i (P := Try.prog) (k := .i64) (d + 2) u26 w, run_ref (d + 1), run_call d, Result.andThen_ok]
  obtain ⟨x0, x1, x2, x3, x4, x5, x6, x7, x8, x9, x10, x11⟩ := a
  obtain ⟨y0, y1, y2, y3, y4, y5, y6, y7, y8, y9, y10, y11⟩ := b
  simp only [Rec.mk.injEq]
  by_cases h0 : x0 = y0 <;> simp [h0]
  by_cases h1 : x1 = y1 <;> simp [h1]
  by_cases h2 : x2 = y2 <;> simp [h2]
  by_cases h3 : x3 = y3 <;> simp [h3]
  by_cases h4 : x4 = y4 <;> simp [h4]
  by_cases h5 : x5 = y5 <;> simp [h5]
  by_cases h6 : x6 = y6 <;> simp [h6]
  by_cases h7 : x7 = y7 <;> simp [h7]
  by_cases h8 : x8 = y8 <;> simp [h8]
  by_cases h9 : x9 = y9 <;> simp [h9]
  by_cases h10 : x10 = y10 <;> simp [h10]
  by_cases h11 : x11 = y11 <;> simp [h11]

theorem rec_neq (a b : Rec) (w : World) : (binOp .neq 42 (.agg a.arr) (.agg b.arr)).run Try.prog w = .ok (.bool (!decide (a = b))) w := by
  rw [run_neq_struct, run_rec 9996, Result.andThen_ok]
theorem rec_eql (a b : Rec) (w : World) : (binOp .eql 42 (.agg a.arr) (.agg b.arr)).run Try.prog w = .ok (.bool (decide (a = b))) w := by
  rw [run_eql_struct, run_rec 9996, Result.andThen_ok]
theorem ref_eql (a b a' b' : Int) (w : World) : (binOp .eql 36 (.agg #[.int .i64 a, .int .u64 b]) (.agg #[.int .i64 a', .int .u64 b'])).run Try.prog w = .ok (.bool (decide (a = a' ∧ b = b'))) w := by
  rw [run_eql_struct, run_ref 9998, Result.andThen_ok]
end Go.Proofs.Ythmjhepjlgcgfaa
