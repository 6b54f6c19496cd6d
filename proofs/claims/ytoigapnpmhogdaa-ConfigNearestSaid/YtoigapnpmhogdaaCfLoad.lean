/- A load and a store of a whole configuration, each in one step. -/
import Derived.Test.YtoigapnpmhogdaaCfCode
import Derived.Deep.RegionLaw
import Derived.Deep.RegionHeld3
namespace Go.Proofs.Ytoigapnpmhogdaa
open Go.RowKit
set_option linter.unusedVariables false

theorem step_cfg {ops : Array Oper} {o : Oper} {a : Act} {w : World} {K : Act → World → Prop} {Q : Exit → Act → World → Prop} {E : Prop} {c : Nat → Int} {P : Value} {g : Nat}
    (hB : Blk w g 25 (cfV c P)) (x : Operand) (ho : o.op = .load 25 x) (hx : a.eval x = .pointer (some ⟨g, 0, none⟩)) (hgd : Region.wanted o (yielded ops a.tmps) = true)
    (h : K (a.put o.dst (.agg (cfV c P))) w) : if Region.wanted o (yielded ops a.tmps) = true then Oper.wp Try.prog o a w K Q else E := by
  obtain ⟨d, hu1, hu2⟩ := underCf
  rw [if_pos hgd]
  exact wp_load_row 25 x ho g hx 25 _ (0, 0) d hB hu1 (by cases d <;> first | rfl | exact absurd hu2 Bool.false_ne_true) (by kernel_rfl) h
theorem load_cfg {ops : Array Oper} {rest : List Oper} {o : Oper} {a : Act} {w : World} {Q : Exit → Act → World → Prop} {c : Nat → Int} {P : Value} {g : Nat}
    (hB : Blk w g 25 (cfV c P)) (x : Operand) (ho : o.op = .load 25 x) (hx : a.eval x = .pointer (some ⟨g, 0, none⟩)) (hgd : Region.wanted o (yielded ops a.tmps) = true)
    (h : wpList Try.prog ops Q rest (a.put o.dst (.agg (cfV c P))) w) : wpList Try.prog ops Q (o :: rest) a w := by
  refine wpList_step fun K hK => ?_
  obtain ⟨d, hu1, hu2⟩ := underCf
  rw [if_pos hgd]
  exact wp_load_row 25 x ho g hx 25 _ (0, 0) d hB hu1 (by cases d <;> first | rfl | exact absurd hu2 Bool.false_ne_true) (by kernel_rfl) (hK _ _ h)
theorem store_cfg {ops : Array Oper} {rest : List Oper} {o : Oper} {a : Act} {w : World} {Q : Exit → Act → World → Prop} {c : Nat → Int} {A : Option Addr} {n cap : Nat} {z : Array Value}
    (x v : Operand) (ho : o.op = .store 25 x v) (hgd : o.guard = none) (hx : a.eval x = .pointer (some ⟨w.heap.size, 0, none⟩)) (hv : a.eval v = .agg (cfV c (.slice A n cap))) (hz : z.size = 15)
    (h : wpList Try.prog ops Q rest (a.put o.dst undef) (w.alloc (.cells (cfV c (.slice A n cap)) 25))) : wpList Try.prog ops Q (o :: rest) a (w.alloc (.cells z 25)) :=
  wpList_store_new hgd 25 x v ho w 25 z (cfV c (.slice A n cap)) hx hv (by kernel_rfl) hz (by simp [cfV, Value.oneCell']) rfl h
theorem yields_cfg {ops : Array Oper} {S : World → Prop} {op : Oper} {a : Act} {c : Nat → Int} {P : Value} {g : Nat} (hS : ∀ w, S w → Blk w g 25 (cfV c P)) (x : Operand) (ho : op.op = .load 25 x)
    (hx : a.eval x = .pointer (some ⟨g, 0, none⟩)) (hw : Region.wanted op (yielded ops a.tmps) = true) : YieldsIf Try.prog ops S op (.agg (cfV c P)) a :=
  .inl ⟨hw, fun w hw' => by
    obtain ⟨d, hu1, hu2⟩ := underCf
    unfold execOp
    simp only [ho, hx, Instr.loadAt, Instr.sureAddr, Sem.run_bind, Sem.run_pure, Result.andThen_ok, run_loadVar_row w g 25 25 _ (0, 0) d (hS w hw') hu1 (by cases d <;> first | rfl | exact absurd hu2 Bool.false_ne_true) (by kernel_rfl)]⟩
end Go.Proofs.Ytoigapnpmhogdaa
