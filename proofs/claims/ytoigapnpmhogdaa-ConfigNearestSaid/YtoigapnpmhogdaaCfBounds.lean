/- bounds and within of the program, by walks. -/
import Derived.Test.YtoigapnpmhogdaaRows
import Derived.Test.YtoigapnpmhogdaaCfPlain
import Derived.Test.YtoigapnpmhogdaaWords
import Derived.WalkSpells
import Derived.WalkLawsBesides
import Derived.Deep.QuietTactic
import Derived.BigQuiet
import Derived.StillTailTactics
import Derived.Deep.WholeRow
namespace Go.Proofs.Ytoigapnpmhogdaa
open Go.RowKit
set_option linter.unusedVariables false
set_option linter.unusedSimpArgs false

def bndV (b : Nat) : Array Value := #[.string ⟨#[80, 115]⟩, .iface 62 (.pointer (some ⟨b, 0, none⟩)), .int .i64 1, .int .i64 8, .string ⟨#[82, 105, 110, 103]⟩, .iface 62 (.pointer (some ⟨b, 1, none⟩)), .int .i64 2, .int .i64 32, .string ⟨#[71, 115]⟩, .iface 62 (.pointer (some ⟨b, 2, none⟩)), .int .i64 1, .int .i64 64, .string ⟨#[67, 111, 110, 116, 101, 120, 116, 115]⟩, .iface 62 (.pointer (some ⟨b, 3, none⟩)), .int .i64 1, .int .i64 32, .string ⟨#[68, 111, 109, 97, 105, 110, 115]⟩, .iface 62 (.pointer (some ⟨b, 4, none⟩)), .int .i64 1, .int .i64 32, .string ⟨#[78, 111, 100, 101, 115]⟩, .iface 62 (.pointer (some ⟨b, 5, none⟩)), .int .i64 3, .int .i64 512, .string ⟨#[83, 108, 111, 116, 115]⟩, .iface 62 (.pointer (some ⟨b, 6, none⟩)), .int .i64 3, .int .i64 32, .string ⟨#[82, 101, 102, 105, 108, 108, 115]⟩, .iface 62 (.pointer (some ⟨b, 7, none⟩)), .int .i64 2, .int .i64 16, .string ⟨#[65, 117, 100, 105, 116]⟩, .iface 62 (.pointer (some ⟨b, 8, none⟩)), .int .i64 1, .int .i64 256, .string ⟨#[83, 108, 105, 99, 101]⟩, .iface 62 (.pointer (some ⟨b, 9, none⟩)), .int .i64 1, .int .i64 64, .string ⟨#[67, 80, 85]⟩, .iface 63 (.pointer (some ⟨b, 10, none⟩)), .int .i64 1, .int .i64 4294967296, .string ⟨#[80, 101, 114, 105, 111, 100]⟩, .iface 63 (.pointer (some ⟨b, 11, none⟩)), .int .i64 1, .int .i64 4294967296, .string ⟨#[66, 117, 100, 103, 101, 116]⟩, .iface 63 (.pointer (some ⟨b, 12, none⟩)), .int .i64 1, .int .i64 4294967296, .string ⟨#[69, 97, 99, 104]⟩, .iface 63 (.pointer (some ⟨b, 13, none⟩)), .int .i64 1, .int .i64 4294967296]
/-- One of them. -/
def bnd (b k : Nat) : Array Value := #[.string (cn k), .iface (if k < 10 then 62 else 63) (.pointer (some ⟨b, k, none⟩)), .int .i64 (lo k), .int .i64 (hi k)]

theorem wpList_store_new {P : Program} {ops : Array Oper} {rest : List Oper} {o : Oper} {a : Act} {Q : Exit → Act → World → Prop} (hgd : o.guard = none) (ty : TypeId) (x v : Operand) (ho : o.op = .store ty x v) (w : World) (t : TypeId) (c c' : Array Value)
    (hx : a.eval x = .pointer (some ⟨w.heap.size, 0, none⟩)) (hv : a.eval v = .agg c') (hi : (P.info? ty).map (·.size) = some c'.size) (hoz : c.size = c'.size) (h1 : c'.all (·.oneCell') = true)
    (hty : ty = t) (h : wpList P ops Q rest (a.put o.dst undef) (w.alloc (.cells c' t))) : wpList P ops Q (o :: rest) a (w.alloc (.cells c t)) := by
  subst hty
  refine wpList_plain hgd fun K hK => ?_
  have hrun := run_storeAt_new (P := P) w ty c c' hi hoz h1
  unfold Oper.wp execOp
  simp only [ho, Sem.run_bind, hx, hv, hrun, Result.andThen_ok]
  exact hK _ _ h

set_option maxRecDepth 100000 in
set_option maxHeartbeats 2000000 in
theorem bounds_is (b : Nat) (w : World) (hb : b < w.heap.size) : Calls Try.prog 27 #[.pointer (some ⟨b, 0, none⟩)] w fun e w' => e = .returned (.agg (bndV b)) ∧ Below w.heap.size w w' := by
  go_enter Try.func27, Try.ntmps27
  go_wp2_with fail
  refine wp_region_still_tail 71 (by kernel_rfl) (by kernel_rfl) ?_
  simp only [List.append_eq, List.cons_append, List.nil_append, List.take_succ_cons, List.take_zero, List.drop_succ_cons, List.drop_zero]
  repeat still_step
  try refine wpStill_nil ?_
  refine wpList_store_new rfl 46 (.tmp 2) (.tmp 73) rfl w.drew _ _ (bndV b) rfl rfl (by kernel_rfl) (by rfl) (by simp [bndV, Value.oneCell']) rfl ?_
  refine wpList_nil ?_
  go_wp2
  exact bodyPost_ret (results_cell_row (P := Try.prog) rfl _ (w.drew.alloc (.cells (bndV b) 46)) w.heap.size 46 (bndV b) (0, 0) _ rfl (heap_alloc_new w.drew _) Try.underlying46 rfl (by kernel_rfl)) rfl ⟨rfl, (Below.refl _ w).drew.alloc (Nat.le_refl _) _⟩

set_option maxRecDepth 100000 in
theorem index_bnd (b : Nat) (w : World) : ∀ k : Nat, k < 14 → (Instr.index 46 (.agg (bndV b)) (.int .i64 k)).run Try.prog w = .ok (.agg (bnd b k)) w
  | 0, _ => by kernel_rfl
  | 1, _ => by kernel_rfl
  | 2, _ => by kernel_rfl
  | 3, _ => by kernel_rfl
  | 4, _ => by kernel_rfl
  | 5, _ => by kernel_rfl
  | 6, _ => by kernel_rfl
  | 7, _ => by kernel_rfl
  | 8, _ => by kernel_rfl
  | 9, _ => by kernel_rfl
  | 10, _ => by kernel_rfl
  | 11, _ => by kernel_rfl
  | 12, _ => by kernel_rfl
  | 13, _ => by kernel_rfl
  | k + 14, h => absurd h (by omega)

theorem u62 : Try.prog.underlying 62 = some (.pointer 3) := by kernel_rfl
theorem u63 : Try.prog.underlying 63 = some (.pointer 22) := by kernel_rfl

set_option maxHeartbeats 1000000 in
theorem bringI_is (b k : Nat) (x l h : Int) (w : World) (hx : w.cell? ⟨b, k, none⟩ = some (.int .i64 x)) (hf : w.frozen? ⟨b, k, none⟩ = false) (hlh : l ≤ h) :
    Calls Try.prog 38 #[.pointer (some ⟨b, k, none⟩), .int .i64 l, .int .i64 h] w fun e w' => e = .returned (.bool (decide (l ≤ x) && decide (x ≤ h))) ∧ w' = w.setCell ⟨b, k, none⟩ (.int .i64 (if x < l then l else if h < x then h else x)) := by
  have hcase : x < l ∨ (l ≤ x ∧ h < x) ∨ (l ≤ x ∧ x ≤ h) := by omega
  rcases hcase with h1 | ⟨h1, h2⟩ | ⟨h1, h2⟩
  · rw [if_pos h1, decide_eq_false (by omega), Bool.false_and]
    have e1 : ¬ l = x := by omega
    have e2 : ((l : Int) == x) = false := by rw [beq_eq_false_iff_ne]; exact e1
    have e3 : ¬ h < l := by omega
    go_enter Try.func38, Try.ntmps38
    go_wp2
    go_ret
    exact ⟨rfl, rfl⟩
  · rw [if_neg (by omega), if_pos h2, decide_eq_true h1, decide_eq_false (by omega), Bool.and_false]
    have e2 : ((h : Int) == x) = false := by rw [beq_eq_false_iff_ne]; omega
    go_enter Try.func38, Try.ntmps38
    go_wp2
    go_ret
    exact ⟨rfl, rfl⟩
  · rw [if_neg (by omega), if_neg (by omega), decide_eq_true h1, decide_eq_true h2, Bool.and_true]
    go_enter Try.func38, Try.ntmps38
    go_wp2
    go_ret
    exact ⟨rfl, rfl⟩
end Go.Proofs.Ytoigapnpmhogdaa
