/- code.shapes, code.isCall: the table of shapes, by walk. -/
import Derived.Test.YtnbkpminecoddaaDoorRows
import Derived.Test.YtnbkpminecoddaaDoorIntMap
import Derived.WalkKit
import Derived.WalkSpells
import Derived.WalkLawsBesides
import Derived.LoopN
import Derived.Lib.Hide
import Derived.Laws.Externs
import Derived.Deep.QuietTactic
namespace Go.Proofs.YtnbkpminecoddaaDoor
open Go.RowKit
set_option linter.unusedVariables false
set_option linter.unusedSimpArgs false

/-- The table of shapes. -/
def shapeL : List (Int × Value) :=
  [(0, .agg #[.string ⟨#[110, 111, 112, 32]⟩]),
   (1, .agg #[.string ⟨#[99, 111, 110, 115, 116, 32, 97, 110]⟩]),
   (2, .agg #[.string ⟨#[97, 100, 100, 32, 97, 98, 99]⟩]),
   (3, .agg #[.string ⟨#[115, 117, 98, 32, 97, 98, 99]⟩]),
   (4, .agg #[.string ⟨#[109, 117, 108, 32, 97, 98, 99]⟩]),
   (5, .agg #[.string ⟨#[106, 117, 109, 112, 32, 100]⟩]),
   (6, .agg #[.string ⟨#[122, 101, 114, 111, 32, 97, 100]⟩]),
   (7, .agg #[.string ⟨#[99, 111, 100, 101, 32, 97]⟩])]

set_option maxRecDepth 100000 in
set_option maxHeartbeats 4000000 in
theorem shapes_is (w : World) : Calls Tryd.prog 35 #[] w fun e w' => ∃ m, e = .returned (.map (some m)) ∧ MapAt w' m .u8 shapeL ∧ w.heap.size ≤ m ∧ Below w.heap.size w w' := by
  have hmm := @run_makeMap Tryd.prog
  have B := (Below.refl w.heap.size w).alloc (Nat.le_refl _) (.map #[] 0)
  go_enter Tryd.func35, Tryd.ntmps35
  go_wp2_with (first
    | (refine wpList_plain rfl fun K hK => ?_; refine wp_insert_int Tryd.underlying73 Tryd.underlying24 (.tmp 1) _ (.tmp 2) rfl (m := w.heap.size) rfl rfl rfl (MapAt.new w .u8) (by rfl) ?_; intro w1 T1 G1; refine hK _ _ ?_)
    | (refine wpList_plain rfl fun K hK => ?_; refine wp_insert_int Tryd.underlying73 Tryd.underlying24 (.tmp 1) _ (.tmp 3) rfl (m := w.heap.size) rfl rfl rfl T1 (by rfl) ?_; intro w2 T2 G2; refine hK _ _ ?_)
    | (refine wpList_plain rfl fun K hK => ?_; refine wp_insert_int Tryd.underlying73 Tryd.underlying24 (.tmp 1) _ (.tmp 4) rfl (m := w.heap.size) rfl rfl rfl T2 (by rfl) ?_; intro w3 T3 G3; refine hK _ _ ?_)
    | (refine wpList_plain rfl fun K hK => ?_; refine wp_insert_int Tryd.underlying73 Tryd.underlying24 (.tmp 1) _ (.tmp 5) rfl (m := w.heap.size) rfl rfl rfl T3 (by rfl) ?_; intro w4 T4 G4; refine hK _ _ ?_)
    | (refine wpList_plain rfl fun K hK => ?_; refine wp_insert_int Tryd.underlying73 Tryd.underlying24 (.tmp 1) _ (.tmp 6) rfl (m := w.heap.size) rfl rfl rfl T4 (by rfl) ?_; intro w5 T5 G5; refine hK _ _ ?_)
    | (refine wpList_plain rfl fun K hK => ?_; refine wp_insert_int Tryd.underlying73 Tryd.underlying24 (.tmp 1) _ (.tmp 7) rfl (m := w.heap.size) rfl rfl rfl T5 (by rfl) ?_; intro w6 T6 G6; refine hK _ _ ?_)
    | (refine wpList_plain rfl fun K hK => ?_; refine wp_insert_int Tryd.underlying73 Tryd.underlying24 (.tmp 1) _ (.tmp 8) rfl (m := w.heap.size) rfl rfl rfl T6 (by rfl) ?_; intro w7 T7 G7; refine hK _ _ ?_)
    | (refine wpList_plain rfl fun K hK => ?_; refine wp_insert_int Tryd.underlying73 Tryd.underlying24 (.tmp 1) _ (.tmp 9) rfl (m := w.heap.size) rfl rfl rfl T7 (by rfl) ?_; intro w8 T8 G8; refine hK _ _ ?_))
  have B := B.grown G1 B.size (fun j e => by cases e; exact Nat.le_refl _)
  have B := B.grown G2 B.size (fun j e => by cases e; exact Nat.le_refl _)
  have B := B.grown G3 B.size (fun j e => by cases e; exact Nat.le_refl _)
  have B := B.grown G4 B.size (fun j e => by cases e; exact Nat.le_refl _)
  have B := B.grown G5 B.size (fun j e => by cases e; exact Nat.le_refl _)
  have B := B.grown G6 B.size (fun j e => by cases e; exact Nat.le_refl _)
  have B := B.grown G7 B.size (fun j e => by cases e; exact Nat.le_refl _)
  have B := B.grown G8 B.size (fun j e => by cases e; exact Nat.le_refl _)
  go_ret
  exact ⟨_, rfl, T8, Nat.le_refl _, B⟩

set_option maxHeartbeats 1000000 in
theorem isCall_is (k : Int) (w : World) : Calls Tryd.prog 34 #[.int .u8 k] w fun e w' => e = .returned (.bool (decide (16 < k) && decide (k ≤ 38))) ∧ w' = w := by
  go_enter Tryd.func34, Tryd.ntmps34
  by_cases h1 : 16 < k
  · go_wp2
    go_ret
    refine ⟨?_, rfl⟩
    simp [h1]
  · go_wp2
    go_ret
    refine ⟨?_, rfl⟩
    simp
    omega
end Go.Proofs.YtnbkpminecoddaaDoor
