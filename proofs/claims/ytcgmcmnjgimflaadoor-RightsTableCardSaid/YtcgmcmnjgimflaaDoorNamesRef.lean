/- What Of of the reference returns, by one walk a row of the table. No condition. -/
import Derived.Test.YtcgmcmnjgimflaaDoorNamesWalks
namespace Go.Proofs.YtcgmcmnjgimflaaDoor
open Go.RowKit
set_option linter.unusedVariables false

set_option maxHeartbeats 400000 in
theorem refOf_1 (w : World) : Calls Tryd.prog 7 #[.int .i64 1] w fun e w' => e = .returned (.tuple #[.agg #[.string ⟨#[121, 105, 101, 108, 100]⟩, .int .i64 (0), .int .i64 (-1), .int .i64 (0), .int .i64 (-1), .int .i64 (0)], .bool true]) ∧ Below w.heap.size w w' := by
  go_enter Tryd.func7, Tryd.ntmps7
  go_wp2
  exact bodyPost_ret (v := .tuple #[.agg #[.string ⟨#[121, 105, 101, 108, 100]⟩, .int .i64 (0), .int .i64 (-1), .int .i64 (0), .int .i64 (-1), .int .i64 (0)], .bool true]) (by simp [results, Tryd.results7, go_sem]) rfl ⟨rfl, (Below.refl _ _).alloc (Nat.le_refl _) _⟩

set_option maxHeartbeats 400000 in
theorem refOf_2 (w : World) : Calls Tryd.prog 7 #[.int .i64 2] w fun e w' => e = .returned (.tuple #[.agg #[.string ⟨#[101, 120, 105, 116]⟩, .int .i64 (0), .int .i64 (-1), .int .i64 (0), .int .i64 (-1), .int .i64 (0)], .bool true]) ∧ Below w.heap.size w w' := by
  go_enter Tryd.func7, Tryd.ntmps7
  go_wp2
  exact bodyPost_ret (v := .tuple #[.agg #[.string ⟨#[101, 120, 105, 116]⟩, .int .i64 (0), .int .i64 (-1), .int .i64 (0), .int .i64 (-1), .int .i64 (0)], .bool true]) (by simp [results, Tryd.results7, go_sem]) rfl ⟨rfl, (Below.refl _ _).alloc (Nat.le_refl _) _⟩

set_option maxHeartbeats 400000 in
theorem refOf_3 (w : World) : Calls Tryd.prog 7 #[.int .i64 3] w fun e w' => e = .returned (.tuple #[.agg #[.string ⟨#[112, 97, 114, 107]⟩, .int .i64 (0), .int .i64 (-1), .int .i64 (0), .int .i64 (-1), .int .i64 (0)], .bool true]) ∧ Below w.heap.size w w' := by
  go_enter Tryd.func7, Tryd.ntmps7
  go_wp2
  exact bodyPost_ret (v := .tuple #[.agg #[.string ⟨#[112, 97, 114, 107]⟩, .int .i64 (0), .int .i64 (-1), .int .i64 (0), .int .i64 (-1), .int .i64 (0)], .bool true]) (by simp [results, Tryd.results7, go_sem]) rfl ⟨rfl, (Below.refl _ _).alloc (Nat.le_refl _) _⟩

set_option maxHeartbeats 400000 in
theorem refOf_4 (w : World) : Calls Tryd.prog 7 #[.int .i64 4] w fun e w' => e = .returned (.tuple #[.agg #[.string ⟨#[115, 108, 101, 101, 112]⟩, .int .i64 (1), .int .i64 (-1), .int .i64 (0), .int .i64 (-1), .int .i64 (0)], .bool true]) ∧ Below w.heap.size w w' := by
  go_enter Tryd.func7, Tryd.ntmps7
  go_wp2
  exact bodyPost_ret (v := .tuple #[.agg #[.string ⟨#[115, 108, 101, 101, 112]⟩, .int .i64 (1), .int .i64 (-1), .int .i64 (0), .int .i64 (-1), .int .i64 (0)], .bool true]) (by simp [results, Tryd.results7, go_sem]) rfl ⟨rfl, (Below.refl _ _).alloc (Nat.le_refl _) _⟩

set_option maxHeartbeats 400000 in
theorem refOf_5 (w : World) : Calls Tryd.prog 7 #[.int .i64 5] w fun e w' => e = .returned (.tuple #[.agg #[.string ⟨#[115, 112, 97, 119, 110]⟩, .int .i64 (4), .int .i64 (3), .int .i64 (1), .int .i64 (2), .int .i64 (32)], .bool true]) ∧ Below w.heap.size w w' := by
  go_enter Tryd.func7, Tryd.ntmps7
  go_wp2
  exact bodyPost_ret (v := .tuple #[.agg #[.string ⟨#[115, 112, 97, 119, 110]⟩, .int .i64 (4), .int .i64 (3), .int .i64 (1), .int .i64 (2), .int .i64 (32)], .bool true]) (by simp [results, Tryd.results7, go_sem]) rfl ⟨rfl, (Below.refl _ _).alloc (Nat.le_refl _) _⟩

set_option maxHeartbeats 400000 in
theorem refOf_6 (w : World) : Calls Tryd.prog 7 #[.int .i64 6] w fun e w' => e = .returned (.tuple #[.agg #[.string ⟨#[119, 97, 107, 101]⟩, .int .i64 (1), .int .i64 (1), .int .i64 (2), .int .i64 (-1), .int .i64 (0)], .bool true]) ∧ Below w.heap.size w w' := by
  go_enter Tryd.func7, Tryd.ntmps7
  go_wp2
  exact bodyPost_ret (v := .tuple #[.agg #[.string ⟨#[119, 97, 107, 101]⟩, .int .i64 (1), .int .i64 (1), .int .i64 (2), .int .i64 (-1), .int .i64 (0)], .bool true]) (by simp [results, Tryd.results7, go_sem]) rfl ⟨rfl, (Below.refl _ _).alloc (Nat.le_refl _) _⟩

set_option maxHeartbeats 400000 in
theorem refOf_7 (w : World) : Calls Tryd.prog 7 #[.int .i64 7] w fun e w' => e = .returned (.tuple #[.agg #[.string ⟨#[107, 105, 108, 108]⟩, .int .i64 (1), .int .i64 (1), .int .i64 (4), .int .i64 (-1), .int .i64 (0)], .bool true]) ∧ Below w.heap.size w w' := by
  go_enter Tryd.func7, Tryd.ntmps7
  go_wp2
  exact bodyPost_ret (v := .tuple #[.agg #[.string ⟨#[107, 105, 108, 108]⟩, .int .i64 (1), .int .i64 (1), .int .i64 (4), .int .i64 (-1), .int .i64 (0)], .bool true]) (by simp [results, Tryd.results7, go_sem]) rfl ⟨rfl, (Below.refl _ _).alloc (Nat.le_refl _) _⟩

set_option maxHeartbeats 400000 in
theorem refOf_8 (w : World) : Calls Tryd.prog 7 #[.int .i64 8] w fun e w' => e = .returned (.tuple #[.agg #[.string ⟨#[115, 117, 115, 112, 101, 110, 100]⟩, .int .i64 (1), .int .i64 (1), .int .i64 (8), .int .i64 (-1), .int .i64 (0)], .bool true]) ∧ Below w.heap.size w w' := by
  go_enter Tryd.func7, Tryd.ntmps7
  go_wp2
  exact bodyPost_ret (v := .tuple #[.agg #[.string ⟨#[115, 117, 115, 112, 101, 110, 100]⟩, .int .i64 (1), .int .i64 (1), .int .i64 (8), .int .i64 (-1), .int .i64 (0)], .bool true]) (by simp [results, Tryd.results7, go_sem]) rfl ⟨rfl, (Below.refl _ _).alloc (Nat.le_refl _) _⟩

set_option maxHeartbeats 400000 in
theorem refOf_9 (w : World) : Calls Tryd.prog 7 #[.int .i64 9] w fun e w' => e = .returned (.tuple #[.agg #[.string ⟨#[114, 101, 115, 117, 109, 101]⟩, .int .i64 (1), .int .i64 (1), .int .i64 (8), .int .i64 (-1), .int .i64 (0)], .bool true]) ∧ Below w.heap.size w w' := by
  go_enter Tryd.func7, Tryd.ntmps7
  go_wp2
  exact bodyPost_ret (v := .tuple #[.agg #[.string ⟨#[114, 101, 115, 117, 109, 101]⟩, .int .i64 (1), .int .i64 (1), .int .i64 (8), .int .i64 (-1), .int .i64 (0)], .bool true]) (by simp [results, Tryd.results7, go_sem]) rfl ⟨rfl, (Below.refl _ _).alloc (Nat.le_refl _) _⟩

set_option maxHeartbeats 400000 in
theorem refOf_10 (w : World) : Calls Tryd.prog 7 #[.int .i64 10] w fun e w' => e = .returned (.tuple #[.agg #[.string ⟨#[97, 102, 102, 105, 110, 105, 116, 121]⟩, .int .i64 (2), .int .i64 (1), .int .i64 (16), .int .i64 (-1), .int .i64 (0)], .bool true]) ∧ Below w.heap.size w w' := by
  go_enter Tryd.func7, Tryd.ntmps7
  go_wp2
  exact bodyPost_ret (v := .tuple #[.agg #[.string ⟨#[97, 102, 102, 105, 110, 105, 116, 121]⟩, .int .i64 (2), .int .i64 (1), .int .i64 (16), .int .i64 (-1), .int .i64 (0)], .bool true]) (by simp [results, Tryd.results7, go_sem]) rfl ⟨rfl, (Below.refl _ _).alloc (Nat.le_refl _) _⟩

set_option maxHeartbeats 400000 in
theorem refOf_11 (w : World) : Calls Tryd.prog 7 #[.int .i64 11] w fun e w' => e = .returned (.tuple #[.agg #[.string ⟨#[98, 105, 110, 100]⟩, .int .i64 (2), .int .i64 (1), .int .i64 (32), .int .i64 (2), .int .i64 (32)], .bool true]) ∧ Below w.heap.size w w' := by
  go_enter Tryd.func7, Tryd.ntmps7
  go_wp2
  exact bodyPost_ret (v := .tuple #[.agg #[.string ⟨#[98, 105, 110, 100]⟩, .int .i64 (2), .int .i64 (1), .int .i64 (32), .int .i64 (2), .int .i64 (32)], .bool true]) (by simp [results, Tryd.results7, go_sem]) rfl ⟨rfl, (Below.refl _ _).alloc (Nat.le_refl _) _⟩

set_option maxHeartbeats 400000 in
theorem refOf_12 (w : World) : Calls Tryd.prog 7 #[.int .i64 12] w fun e w' => e = .returned (.tuple #[.agg #[.string ⟨#[109, 105, 110, 116]⟩, .int .i64 (3), .int .i64 (0), .int .i64 (64), .int .i64 (-1), .int .i64 (0)], .bool true]) ∧ Below w.heap.size w w' := by
  go_enter Tryd.func7, Tryd.ntmps7
  go_wp2
  exact bodyPost_ret (v := .tuple #[.agg #[.string ⟨#[109, 105, 110, 116]⟩, .int .i64 (3), .int .i64 (0), .int .i64 (64), .int .i64 (-1), .int .i64 (0)], .bool true]) (by simp [results, Tryd.results7, go_sem]) rfl ⟨rfl, (Below.refl _ _).alloc (Nat.le_refl _) _⟩

set_option maxHeartbeats 400000 in
theorem refOf_13 (w : World) : Calls Tryd.prog 7 #[.int .i64 13] w fun e w' => e = .returned (.tuple #[.agg #[.string ⟨#[99, 111, 112, 121]⟩, .int .i64 (2), .int .i64 (0), .int .i64 (64), .int .i64 (-1), .int .i64 (0)], .bool true]) ∧ Below w.heap.size w w' := by
  go_enter Tryd.func7, Tryd.ntmps7
  go_wp2
  exact bodyPost_ret (v := .tuple #[.agg #[.string ⟨#[99, 111, 112, 121]⟩, .int .i64 (2), .int .i64 (0), .int .i64 (64), .int .i64 (-1), .int .i64 (0)], .bool true]) (by simp [results, Tryd.results7, go_sem]) rfl ⟨rfl, (Below.refl _ _).alloc (Nat.le_refl _) _⟩

set_option maxHeartbeats 400000 in
theorem refOf_14 (w : World) : Calls Tryd.prog 7 #[.int .i64 14] w fun e w' => e = .returned (.tuple #[.agg #[.string ⟨#[109, 111, 118, 101]⟩, .int .i64 (2), .int .i64 (0), .int .i64 (0), .int .i64 (-1), .int .i64 (0)], .bool true]) ∧ Below w.heap.size w w' := by
  go_enter Tryd.func7, Tryd.ntmps7
  go_wp2
  exact bodyPost_ret (v := .tuple #[.agg #[.string ⟨#[109, 111, 118, 101]⟩, .int .i64 (2), .int .i64 (0), .int .i64 (0), .int .i64 (-1), .int .i64 (0)], .bool true]) (by simp [results, Tryd.results7, go_sem]) rfl ⟨rfl, (Below.refl _ _).alloc (Nat.le_refl _) _⟩

set_option maxHeartbeats 400000 in
theorem refOf_15 (w : World) : Calls Tryd.prog 7 #[.int .i64 15] w fun e w' => e = .returned (.tuple #[.agg #[.string ⟨#[100, 101, 108, 101, 116, 101]⟩, .int .i64 (1), .int .i64 (0), .int .i64 (0), .int .i64 (-1), .int .i64 (0)], .bool true]) ∧ Below w.heap.size w w' := by
  go_enter Tryd.func7, Tryd.ntmps7
  go_wp2
  exact bodyPost_ret (v := .tuple #[.agg #[.string ⟨#[100, 101, 108, 101, 116, 101]⟩, .int .i64 (1), .int .i64 (0), .int .i64 (0), .int .i64 (-1), .int .i64 (0)], .bool true]) (by simp [results, Tryd.results7, go_sem]) rfl ⟨rfl, (Below.refl _ _).alloc (Nat.le_refl _) _⟩

set_option maxHeartbeats 400000 in
theorem refOf_16 (w : World) : Calls Tryd.prog 7 #[.int .i64 16] w fun e w' => e = .returned (.tuple #[.agg #[.string ⟨#[114, 101, 118, 111, 107, 101]⟩, .int .i64 (1), .int .i64 (0), .int .i64 (128), .int .i64 (-1), .int .i64 (0)], .bool true]) ∧ Below w.heap.size w w' := by
  go_enter Tryd.func7, Tryd.ntmps7
  go_wp2
  exact bodyPost_ret (v := .tuple #[.agg #[.string ⟨#[114, 101, 118, 111, 107, 101]⟩, .int .i64 (1), .int .i64 (0), .int .i64 (128), .int .i64 (-1), .int .i64 (0)], .bool true]) (by simp [results, Tryd.results7, go_sem]) rfl ⟨rfl, (Below.refl _ _).alloc (Nat.le_refl _) _⟩

set_option maxHeartbeats 400000 in
theorem refOf_17 (w : World) : Calls Tryd.prog 7 #[.int .i64 17] w fun e w' => e = .returned (.tuple #[.agg #[.string ⟨#[103, 105, 118, 101]⟩, .int .i64 (3), .int .i64 (1), .int .i64 (32), .int .i64 (0), .int .i64 (64)], .bool true]) ∧ Below w.heap.size w w' := by
  go_enter Tryd.func7, Tryd.ntmps7
  go_wp2
  exact bodyPost_ret (v := .tuple #[.agg #[.string ⟨#[103, 105, 118, 101]⟩, .int .i64 (3), .int .i64 (1), .int .i64 (32), .int .i64 (0), .int .i64 (64)], .bool true]) (by simp [results, Tryd.results7, go_sem]) rfl ⟨rfl, (Below.refl _ _).alloc (Nat.le_refl _) _⟩

set_option maxHeartbeats 400000 in
theorem refOf_18 (w : World) : Calls Tryd.prog 7 #[.int .i64 18] w fun e w' => e = .returned (.tuple #[.agg #[.string ⟨#[115, 112, 108, 105, 116]⟩, .int .i64 (3), .int .i64 (2), .int .i64 (32), .int .i64 (-1), .int .i64 (0)], .bool true]) ∧ Below w.heap.size w w' := by
  go_enter Tryd.func7, Tryd.ntmps7
  go_wp2
  exact bodyPost_ret (v := .tuple #[.agg #[.string ⟨#[115, 112, 108, 105, 116]⟩, .int .i64 (3), .int .i64 (2), .int .i64 (32), .int .i64 (-1), .int .i64 (0)], .bool true]) (by simp [results, Tryd.results7, go_sem]) rfl ⟨rfl, (Below.refl _ _).alloc (Nat.le_refl _) _⟩

set_option maxHeartbeats 400000 in
theorem refOf_19 (w : World) : Calls Tryd.prog 7 #[.int .i64 19] w fun e w' => e = .returned (.tuple #[.agg #[.string ⟨#[100, 111, 110, 97, 116, 101]⟩, .int .i64 (3), .int .i64 (2), .int .i64 (32), .int .i64 (2), .int .i64 (32)], .bool true]) ∧ Below w.heap.size w w' := by
  go_enter Tryd.func7, Tryd.ntmps7
  go_wp2
  exact bodyPost_ret (v := .tuple #[.agg #[.string ⟨#[100, 111, 110, 97, 116, 101]⟩, .int .i64 (3), .int .i64 (2), .int .i64 (32), .int .i64 (2), .int .i64 (32)], .bool true]) (by simp [results, Tryd.results7, go_sem]) rfl ⟨rfl, (Below.refl _ _).alloc (Nat.le_refl _) _⟩

set_option maxHeartbeats 400000 in
theorem refOf_20 (w : World) : Calls Tryd.prog 7 #[.int .i64 20] w fun e w' => e = .returned (.tuple #[.agg #[.string ⟨#[99, 97, 114, 118, 101]⟩, .int .i64 (5), .int .i64 (3), .int .i64 (1), .int .i64 (-1), .int .i64 (0)], .bool true]) ∧ Below w.heap.size w w' := by
  go_enter Tryd.func7, Tryd.ntmps7
  go_wp2
  exact bodyPost_ret (v := .tuple #[.agg #[.string ⟨#[99, 97, 114, 118, 101]⟩, .int .i64 (5), .int .i64 (3), .int .i64 (1), .int .i64 (-1), .int .i64 (0)], .bool true]) (by simp [results, Tryd.results7, go_sem]) rfl ⟨rfl, (Below.refl _ _).alloc (Nat.le_refl _) _⟩

set_option maxHeartbeats 400000 in
theorem refOf_21 (w : World) : Calls Tryd.prog 7 #[.int .i64 21] w fun e w' => e = .returned (.tuple #[.agg #[.string ⟨#[109, 101, 114, 103, 101]⟩, .int .i64 (1), .int .i64 (3), .int .i64 (128), .int .i64 (-1), .int .i64 (0)], .bool true]) ∧ Below w.heap.size w w' := by
  go_enter Tryd.func7, Tryd.ntmps7
  go_wp2
  exact bodyPost_ret (v := .tuple #[.agg #[.string ⟨#[109, 101, 114, 103, 101]⟩, .int .i64 (1), .int .i64 (3), .int .i64 (128), .int .i64 (-1), .int .i64 (0)], .bool true]) (by simp [results, Tryd.results7, go_sem]) rfl ⟨rfl, (Below.refl _ _).alloc (Nat.le_refl _) _⟩

set_option maxHeartbeats 400000 in
theorem refOf_22 (w : World) : Calls Tryd.prog 7 #[.int .i64 22] w fun e w' => e = .returned (.tuple #[.agg #[.string ⟨#[100, 114, 111, 112]⟩, .int .i64 (1), .int .i64 (2), .int .i64 (128), .int .i64 (-1), .int .i64 (0)], .bool true]) ∧ Below w.heap.size w w' := by
  go_enter Tryd.func7, Tryd.ntmps7
  go_wp2
  exact bodyPost_ret (v := .tuple #[.agg #[.string ⟨#[100, 114, 111, 112]⟩, .int .i64 (1), .int .i64 (2), .int .i64 (128), .int .i64 (-1), .int .i64 (0)], .bool true]) (by simp [results, Tryd.results7, go_sem]) rfl ⟨rfl, (Below.refl _ _).alloc (Nat.le_refl _) _⟩

set_option maxHeartbeats 400000 in
theorem refOf_lo (w : World) (k : Int) (hk : k < 1) : Calls Tryd.prog 7 #[.int .i64 k] w fun e w' => e = .returned (.tuple #[.agg #[.string ⟨#[]⟩, .int .i64 (0), .int .i64 (-1), .int .i64 (0), .int .i64 (-1), .int .i64 (0)], .bool false]) ∧ Below w.heap.size w w' := by
  go_enter Tryd.func7, Tryd.ntmps7
  go_wp2
  exact bodyPost_ret (v := .tuple #[.agg #[.string ⟨#[]⟩, .int .i64 (0), .int .i64 (-1), .int .i64 (0), .int .i64 (-1), .int .i64 (0)], .bool false]) (by simp [results, Tryd.results7, go_sem]) rfl ⟨rfl, (Below.refl _ _).alloc (Nat.le_refl _) _⟩

set_option maxHeartbeats 400000 in
theorem refOf_hi (w : World) (k : Int) (hk : 23 ≤ k) : Calls Tryd.prog 7 #[.int .i64 k] w fun e w' => e = .returned (.tuple #[.agg #[.string ⟨#[]⟩, .int .i64 (0), .int .i64 (-1), .int .i64 (0), .int .i64 (-1), .int .i64 (0)], .bool false]) ∧ Below w.heap.size w w' := by
  go_enter Tryd.func7, Tryd.ntmps7
  go_wp2
  exact bodyPost_ret (v := .tuple #[.agg #[.string ⟨#[]⟩, .int .i64 (0), .int .i64 (-1), .int .i64 (0), .int .i64 (-1), .int .i64 (0)], .bool false]) (by simp [results, Tryd.results7, go_sem]) rfl ⟨rfl, (Below.refl _ _).alloc (Nat.le_refl _) _⟩

theorem refOf_yes : ∀ (k : Nat) (w : World), 0 < k → k < 23 → Calls Tryd.prog 7 #[.int .i64 k] w fun e w' => e = .returned (.tuple #[rowV k, .bool true]) ∧ Below w.heap.size w w'
  | 0, _, h, _ => absurd h (by omega)
  | 1, w, _, _ => refOf_1 w
  | 2, w, _, _ => refOf_2 w
  | 3, w, _, _ => refOf_3 w
  | 4, w, _, _ => refOf_4 w
  | 5, w, _, _ => refOf_5 w
  | 6, w, _, _ => refOf_6 w
  | 7, w, _, _ => refOf_7 w
  | 8, w, _, _ => refOf_8 w
  | 9, w, _, _ => refOf_9 w
  | 10, w, _, _ => refOf_10 w
  | 11, w, _, _ => refOf_11 w
  | 12, w, _, _ => refOf_12 w
  | 13, w, _, _ => refOf_13 w
  | 14, w, _, _ => refOf_14 w
  | 15, w, _, _ => refOf_15 w
  | 16, w, _, _ => refOf_16 w
  | 17, w, _, _ => refOf_17 w
  | 18, w, _, _ => refOf_18 w
  | 19, w, _, _ => refOf_19 w
  | 20, w, _, _ => refOf_20 w
  | 21, w, _, _ => refOf_21 w
  | 22, w, _, _ => refOf_22 w
  | n + 23, _, _, h => absurd h (by omega)

theorem refOf_no (k : Int) (w : World) (hk : k < 1 ∨ 23 ≤ k) : Calls Tryd.prog 7 #[.int .i64 k] w fun e w' => e = .returned (.tuple #[rowV 0, .bool false]) ∧ Below w.heap.size w w' := by
  rcases hk with h | h
  · exact refOf_lo w k h
  · exact refOf_hi w k h
end Go.Proofs.YtcgmcmnjgimflaaDoor
