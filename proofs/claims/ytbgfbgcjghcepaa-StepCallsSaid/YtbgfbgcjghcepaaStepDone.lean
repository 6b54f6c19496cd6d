/- step.Do's deferred closure, by walk: behind a panic; behind a return. -/
import Derived.Test.YtbgfbgcjghcepaaStepModel
import Derived.Recover
import Derived.Deep.RegionHeld3
namespace Go.Proofs.Ytbgfbgcjghcepaa
open Go.RowKit
set_option linter.unusedVariables false
set_option linter.unusedSimpArgs false

theorem underG : ∃ d, Try.prog.underlying 30 = some d ∧ (match d with | .struct _ | .array _ _ => true | _ => false) = true := Option.map_eq_some_iff.1 (show (Try.prog.underlying 30).map (fun d => match d with | .struct _ | .array _ _ => true | _ => false) = some true by kernel_rfl)
theorem load_g {ops : Array Oper} {rest : List Oper} {o : Oper} {a : Act} {w : World} {Q : Exit → Act → World → Prop} {cs : Array Value} {g : Nat}
    (hB : Blk w g 30 cs) (h6 : cs.size = 19) (hgd : o.guard = none) (v : Operand) (ho : o.op = .load 30 v) (hx : a.eval v = .pointer (some ⟨g, 0, none⟩))
    (h : wpList Try.prog ops Q rest (a.put o.dst (.agg cs)) w) : wpList Try.prog ops Q (o :: rest) a w := by
  obtain ⟨d, hu1, hu2⟩ := underG
  exact wpList_load_row hgd 30 v ho g hx 30 _ (0, 0) d hB hu1 (by cases d <;> first | rfl | exact absurd hu2 Bool.false_ne_true) (by rw [h6]; kernel_rfl) h
theorem store_g {ops : Array Oper} {rest : List Oper} {o : Oper} {a : Act} {w : World} {Q : Exit → Act → World → Prop} {cs old : Array Value} {g : Nat}
    (hB : Blk w g 30 old) (h6 : old.size = 19) (h7 : cs.size = 19) (h1 : cs.all Value.oneCell' = true) (hgd : o.guard = none) (x y : Operand) (ho : o.op = .store 30 x y) (hx : a.eval x = .pointer (some ⟨g, 0, none⟩)) (hy : a.eval y = .agg cs)
    (h : wpList Try.prog ops Q rest (a.put o.dst undef) (w.setRow g cs)) : wpList Try.prog ops Q (o :: rest) a w :=
  wpList_store_row hgd 30 x y ho g cs hx hy 30 old hB (by rw [h7]; kernel_rfl) (h6.trans h7.symm) h1 h
theorem store_call {ops : Array Oper} {rest : List Oper} {o : Oper} {a : Act} {w : World} {Q : Exit → Act → World → Prop} {cs old : Array Value} {g : Nat}
    (hB : Blk w g 36 old) (h6 : old.size = 6) (h7 : cs.size = 6) (h1 : cs.all Value.oneCell' = true) (hgd : o.guard = none) (x y : Operand) (ho : o.op = .store 36 x y) (hx : a.eval x = .pointer (some ⟨g, 0, none⟩)) (hy : a.eval y = .agg cs)
    (h : wpList Try.prog ops Q rest (a.put o.dst undef) (w.setRow g cs)) : wpList Try.prog ops Q (o :: rest) a w :=
  wpList_store_row hgd 36 x y ho g cs hx hy 36 old hB (by rw [h7]; kernel_rfl) (h6.trans h7.symm) h1 h
theorem yields_g {ops : Array Oper} {S : World → Prop} {op : Oper} {a : Act} {cs : Array Value} {g : Nat} (hS : ∀ w, S w → Blk w g 30 cs) (h6 : cs.size = 19) (x : Operand) (ho : op.op = .load 30 x)
    (hx : a.eval x = .pointer (some ⟨g, 0, none⟩)) (hw : Region.wanted op (yielded ops a.tmps) = true) : YieldsIf Try.prog ops S op (.agg cs) a :=
  .inl ⟨hw, fun w hw' => by
    obtain ⟨d, hu1, hu2⟩ := underG
    unfold execOp
    simp only [ho, hx, Instr.loadAt, Instr.sureAddr, Sem.run_bind, Sem.run_pure, Result.andThen_ok, run_loadVar_row w g 30 30 _ (0, 0) d (hS w hw') hu1 (by cases d <;> first | rfl | exact absurd hu2 Bool.false_ne_true) (by rw [h6]; kernel_rfl)]⟩
theorem yields_call {ops : Array Oper} {S : World → Prop} {op : Oper} {a : Act} {cs : Array Value} {g : Nat} (hS : ∀ w, S w → Blk w g 36 cs) (h6 : cs.size = 6) (x : Operand) (ho : op.op = .load 36 x)
    (hx : a.eval x = .pointer (some ⟨g, 0, none⟩)) (hw : Region.wanted op (yielded ops a.tmps) = true) : YieldsIf Try.prog ops S op (.agg cs) a :=
  .inl ⟨hw, fun w hw' => by
    obtain ⟨d, hu1, hu2⟩ := underCall
    unfold execOp
    simp only [ho, hx, Instr.loadAt, Instr.sureAddr, Sem.run_bind, Sem.run_pure, Result.andThen_ok, run_loadVar_row w g 36 36 _ (0, 0) d (hS w hw') hu1 (by cases d <;> first | rfl | exact absurd hu2 Bool.false_ne_true) (by rw [h6]; kernel_rfl)]⟩

/-- Whose instruction was bad. -/
def Gr.bad (g : Gr) (z : Int) : Gr := { g with code := z, pc := wrap64 (g.pc + 1) }
/-- What the closure leaves. -/
def Caught (B : Nat) (w : World) (ob cb wb : Nat) (g : Gr) (w' : World) : Prop := Below B w w' ∧ Blk w' ob 30 g.c ∧ Blk w' cb 36 call0 ∧ Blk w' wb 37 #[.int .i64 4]

theorem call0_one : call0.all Value.oneCell' = true := by simp [call0, Value.oneCell']
theorem call0_size : call0.size = 6 := rfl

theorem done_idle (p o c x : Value) (w : World) : CallsD Try.prog 14 #[p, o, c, x] .returning w fun e u' w' => e = .returned (.tuple #[]) ∧ u' = .returning ∧ w' = w := by
  refine callsD_of_wpS Try.func14 rfl fun c₀ cs hu => ?_
  apply wpS_seq
  apply wpS_region
  simp [wpOpsS, go_sem, recoverD, hu, Try.ntmps14, Exit.thenS]
  rw [show (#[p, o, c, x] ++ (Array.replicate 17 undef).setIfInBounds 3 Value.nilIface) = #[p, o, c, x, undef, undef, undef, Value.nilIface, undef, undef, undef, undef, undef, undef, undef, undef, undef, undef, undef, undef, undef] from by kernel_rfl]
  refine wpS_of_wp ?_
  go_wp2
  cases c₀
  simp_all [bodyPostS, results, Try.results14]

set_option maxRecDepth 100000 in
set_option maxHeartbeats 4000000 in
theorem done_catch (B pb ob cb wb : Nat) (g : Gr) (o cl : Array Value) (x : Value) (z : Int) (older : List PanicEntry) (w : World) (hP : Blk w pb 30 g.c) (hO : Blk w ob 30 o) (ho : o.size = 19) (hC : Blk w cb 36 cl) (hc : cl.size = 6) (hW : Blk w wb 37 #[x])
    (hB1 : B ≤ ob) (hB2 : B ≤ cb) (hB3 : B ≤ wb) :
    CallsD Try.prog 14 #[.pointer (some ⟨pb, 0, none⟩), .pointer (some ⟨ob, 0, none⟩), .pointer (some ⟨cb, 0, none⟩), .pointer (some ⟨wb, 0, none⟩)] (.panicking ({ v := .iface 28 (.int .i64 z), recovered := false } :: older)) w fun e u' w' =>
      e = .returned (.tuple #[]) ∧ u' = .panicking ({ v := .iface 28 (.int .i64 z), recovered := true } :: older) ∧ Caught B w ob cb wb (g.bad z) w' := by
  have hoc := Lib.hid (hO.ne_ hC (by decide))
  have how := Lib.hid (hO.ne_ hW (by decide))
  have hcw := Lib.hid (hC.ne_ hW (by decide))
  have HC := Lib.hid hC
  have HW := Lib.hid hW
  have HO := Lib.hid hO
  have HP := Lib.hid hP
  have ho := Lib.hid ho
  have hc := Lib.hid hc
  clear hC hW hO hP
  refine callsD_of_wpS Try.func14 rfl fun c₀ cs hu => ?_
  apply wpS_seq
  apply wpS_region
  simp [wpOpsS, go_sem, recoverD, hu, Try.ntmps14, Exit.thenS]
  rw [show (#[.pointer (some ⟨pb, 0, none⟩), .pointer (some ⟨ob, 0, none⟩), .pointer (some ⟨cb, 0, none⟩), .pointer (some ⟨wb, 0, none⟩)] ++ (Array.replicate 17 undef).setIfInBounds 3 (Value.iface 28 (.int .i64 z))) = #[.pointer (some ⟨pb, 0, none⟩), .pointer (some ⟨ob, 0, none⟩), .pointer (some ⟨cb, 0, none⟩), .pointer (some ⟨wb, 0, none⟩), undef, undef, undef, .iface 28 (.int .i64 z), undef, undef, undef, undef, undef, undef, undef, undef, undef, undef, undef, undef, undef] from by kernel_rfl]
  refine wpS_of_wp ?_
  have ta : ∀ w, (Instr.typeAssert (Value.iface 28 (.int .i64 z)) 20 28 true).run Try.prog w = .ok (.tuple #[.int .i64 z, .bool true]) w := fun w => by kernel_rfl
  go_wp2_with (first
    | (refine load_g HP.out (Gr.c_size g) (by exact rfl) (.tmp 0) (by exact rfl) (by exact rfl) ?_)
    | (refine store_g HO.out ho.out (Gr.c_size g) (Gr.c_one g) (by exact rfl) (.tmp 1) (.tmp 13) (by exact rfl) (by exact rfl) (by exact rfl) ?_; (have O1 := HO.out.put_ g.c); (have C1 := HC.out.setRow_ hoc.out.symm g.c); (have W1 := HW.out.setRow_ how.out.symm g.c); (have E1 := (Below.refl B w).trans (below_setRow (Below.refl B w) hB1 g.c)); (have y17 : (w.setRow ob g.c).cell? ⟨ob, 17, none⟩ = some (.int .i64 g.code) := (O1.cell 17).trans rfl); (have f17 := O1.frozen 17); (have y8 : ∀ u, ((w.setRow ob g.c).setCell ⟨ob, 17, none⟩ u).cell? ⟨ob, 8, none⟩ = some (.int .i64 g.pc) := fun u => ((O1.set_ 17 u).cell 8).trans rfl); (have f8 := fun u => (O1.set_ 17 u).frozen 8); (have O1h := Lib.hid O1); (have C1h := Lib.hid C1); (have W1h := Lib.hid W1); (have E1h := Lib.hid E1); clear O1 C1 W1 E1; generalize w.setRow ob g.c = w1 at *)
    | (refine store_call (cs := call0) ((C1h.out.far (p := ⟨ob, 17, none⟩) hoc.out.symm _).far (p := ⟨ob, 8, none⟩) hoc.out.symm _) hc.out call0_size call0_one (by exact rfl) (.tmp 2) (.tmp 20) (by exact rfl) (by exact rfl) (by exact rfl) ?_; (have C2 := ((C1h.out.far (p := ⟨ob, 17, none⟩) hoc.out.symm (.int .i64 z)).far (p := ⟨ob, 8, none⟩) hoc.out.symm (.int .i64 (wrap64 (g.pc + 1)))).put_ call0); (have W2 := ((W1h.out.far (p := ⟨ob, 17, none⟩) how.out.symm (.int .i64 z)).far (p := ⟨ob, 8, none⟩) how.out.symm (.int .i64 (wrap64 (g.pc + 1)))).setRow_ hcw.out.symm call0); (have O2 := ((O1h.out.set_ 17 (.int .i64 z)).set_ 8 (.int .i64 (wrap64 (g.pc + 1)))).setRow_ hoc.out call0); (have E2 := below_setRow ((E1h.out.setCell (p := ⟨ob, 17, none⟩) hB1 (.int .i64 z)).setCell (p := ⟨ob, 8, none⟩) hB1 (.int .i64 (wrap64 (g.pc + 1)))) hB2 call0); clear y17 f17 y8 f8 C1h W1h O1h E1h; generalize ((w1.setCell ⟨ob, 17, none⟩ (.int .i64 z)).setCell ⟨ob, 8, none⟩ (.int .i64 (wrap64 (g.pc + 1)))).setRow cb call0 = w2 at *; (have z0 := (W2.cell 0).trans rfl); (have zf := W2.frozen 0); (have C2h := Lib.hid C2); (have W2h := Lib.hid W2); (have O2h := Lib.hid O2); (have E2h := Lib.hid E2); clear C2 W2 O2 E2))
  refine ⟨rfl, _, rfl, .tuple #[], by simp [results, Try.results14, go_sem], rfl, rfl, E2h.out.setCell (p := ⟨wb, 0, none⟩) hB3 _, ?_, C2h.out.far (p := ⟨wb, 0, none⟩) hcw.out _, W2h.out.set_ 0 _⟩
  exact O2h.out.far (p := ⟨wb, 0, none⟩) how.out _
end Go.Proofs.Ytbgfbgcjghcepaa
