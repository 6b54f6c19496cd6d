/- bring at uint64, within, Wrong, May of the program, by walks. -/
import Derived.Test.YtoigapnpmhogdaaCfBounds
namespace Go.Proofs.Ytoigapnpmhogdaa
open Go.RowKit
set_option linter.unusedVariables false
set_option linter.unusedSimpArgs false

set_option maxHeartbeats 1000000 in
theorem bringU_is (b k : Nat) (x l h : Int) (w : World) (hx : w.cell? ⟨b, k, none⟩ = some (.int .u64 x)) (hf : w.frozen? ⟨b, k, none⟩ = false) (hlh : l ≤ h) :
    Calls Try.prog 39 #[.pointer (some ⟨b, k, none⟩), .int .u64 l, .int .u64 h] w fun e w' => e = .returned (.bool (decide (l ≤ x) && decide (x ≤ h))) ∧ w' = w.setCell ⟨b, k, none⟩ (.int .u64 (if x < l then l else if h < x then h else x)) := by
  have hcase : x < l ∨ (l ≤ x ∧ h < x) ∨ (l ≤ x ∧ x ≤ h) := by omega
  rcases hcase with h1 | ⟨h1, h2⟩ | ⟨h1, h2⟩
  · rw [if_pos h1, decide_eq_false (by omega), Bool.false_and]
    have e1 : ¬ l = x := by omega
    have e2 : ((l : Int) == x) = false := by rw [beq_eq_false_iff_ne]; exact e1
    have e3 : ¬ h < l := by omega
    go_enter Try.func39, Try.ntmps39
    go_wp2
    go_ret
    exact ⟨rfl, rfl⟩
  · rw [if_neg (by omega), if_pos h2, decide_eq_true h1, decide_eq_false (by omega), Bool.and_false]
    have e2 : ((h : Int) == x) = false := by rw [beq_eq_false_iff_ne]; omega
    go_enter Try.func39, Try.ntmps39
    go_wp2
    go_ret
    exact ⟨rfl, rfl⟩
  · rw [if_neg (by omega), if_neg (by omega), decide_eq_true h1, decide_eq_true h2, Bool.and_true]
    go_enter Try.func39, Try.ntmps39
    go_wp2
    go_ret
    exact ⟨rfl, rfl⟩

theorem lo_hi : ∀ k, k < 14 → lo k ≤ hi k ∧ 0 ≤ lo k ∧ hi k ≤ 4294967296 := by decide +kernel

theorem ta_II (p : Option Addr) (w : World) : (Instr.typeAssert (.iface 62 (.pointer p)) 20 62 true).run Try.prog w = .ok (.tuple #[.pointer p, .bool true]) w := by kernel_rfl
theorem ta_UU (p : Option Addr) (w : World) : (Instr.typeAssert (.iface 63 (.pointer p)) 20 63 true).run Try.prog w = .ok (.tuple #[.pointer p, .bool true]) w := by kernel_rfl
theorem ta_UI (p : Option Addr) (w : World) : (Instr.typeAssert (.iface 63 (.pointer p)) 20 62 true).run Try.prog w = .ok (.tuple #[.pointer none, .bool false]) w := by kernel_rfl

set_option maxHeartbeats 1000000 in
theorem within_is (b k : Nat) (x : Int) (w : World) (hk : k < 14) (hx : w.cell? ⟨b, k, none⟩ = some (part' k x)) (hf : w.frozen? ⟨b, k, none⟩ = false) :
    Calls Try.prog 28 #[.agg (bnd b k)] w fun e w' => e = .returned (.bool (inB k x)) ∧ w' = (w.setCell ⟨b, k, none⟩ (part' k (cl k x))).alloc (.cells (bnd b k) 45) := by
  have hb : b < w.heap.size := World.block_lt_of_cell? w ⟨b, k, none⟩ hx
  obtain ⟨h1, h2, h3⟩ := lo_hi k hk
  have hx' : (w.alloc (.cells (bnd b k) 45)).cell? ⟨b, k, none⟩ = some (part' k x) := (World.cell?_alloc_lt _ _ _ hb).trans hx
  have hf' : (w.alloc (.cells (bnd b k) 45)).frozen? ⟨b, k, none⟩ = false := ((Below.refl w.heap.size w).alloc (Nat.le_refl _) _).frozen (p := ⟨b, k, none⟩) hb |>.trans hf
  unfold part' inB cl bnd at *
  have s0 : ∀ w' : World, (w'.alloc (.cells (bnd b k) 45)).heap.size = w'.heap.size + 1 := fun w' => by simp
  by_cases h10 : k < 10
  · simp only [if_pos h10] at *
    have t1 := ta_II
    have C := bringI_is b k x (lo k) (hi k) _ hx' hf' h1
    generalize (decide (lo k ≤ x) && decide (x ≤ hi k)) = r at C ⊢
    generalize (if x < lo k then lo k else if hi k < x then hi k else x) = y at C ⊢
    generalize cn k = s at *
    generalize lo k = l at *
    generalize hi k = h at *
    clear h10
    go_enter Try.func28, Try.ntmps28
    go_wp2_with (go_at_call 38; refine C.mono ?_; rintro e w1 ⟨rfl, rfl⟩)
    go_ret
    exact ⟨rfl, rfl⟩
  · simp only [if_neg h10] at *
    have t1 := ta_UU
    have t2 := ta_UI
    have C := bringU_is b k x (lo k) (hi k) _ hx' hf' h1
    generalize (decide (lo k ≤ x) && decide (x ≤ hi k)) = r at C ⊢
    generalize (if x < lo k then lo k else if hi k < x then hi k else x) = y at C ⊢
    generalize cn k = s at *
    generalize lo k = l at *
    generalize hi k = h at *
    clear h10
    go_enter Try.func28, Try.ntmps28
    go_wp2_with (go_at_call 39; refine C.mono ?_; rintro e w1 ⟨rfl, rfl⟩)
    go_ret
    exact ⟨rfl, rfl⟩
end Go.Proofs.Ytoigapnpmhogdaa
