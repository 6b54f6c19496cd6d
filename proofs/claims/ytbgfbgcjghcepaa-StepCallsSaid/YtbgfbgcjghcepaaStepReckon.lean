/- step.reckon, by walk: the three operations by a map of functions. -/
import Derived.Test.YtbgfbgcjghcepaaStepSmall
import Derived.Test.YtbgfbgcjghcepaaStepNum
namespace Go.Proofs.Ytbgfbgcjghcepaa
open Go.RowKit
set_option linter.unusedVariables false
set_option linter.unusedSimpArgs false

theorem zero_fn (w : World) : (zeroValue 70).run Try.prog w = .ok .nilFunc w := by kernel_rfl
theorem map_below {w x1 x2 x3 : World} (G1 : (w.alloc (.map #[] 0)).grownBy x1 (some w.heap.size)) (G2 : x1.grownBy x2 (some w.heap.size)) (G3 : x2.grownBy x3 (some w.heap.size)) : Below w.heap.size w x3 :=
  fill_below G1 G2 G3 (Below.refl _ w) (Nat.le_refl _)


set_option maxRecDepth 100000 in
set_option maxHeartbeats 4000000 in
theorem reckon_add_yes (x y z : Int) (hc : ∀ w, Calls Try.prog 23 #[.int .u64 x, .int .u64 y] w fun e w' => e = .returned (.tuple #[.int .u64 z, .bool true]) ∧ w = w') (w : World) : Calls Try.prog 18 #[.int .u8 2, .int .u64 x, .int .u64 y] w fun e w' => e = .returned (.int .u64 z) ∧ Below w.heap.size w w' := by
  have hmm := @run_makeMap Try.prog
  have M0 : MapAt (w.alloc (.map #[] 0)) w.heap.size .u8 [] := MapAt.new w .u8
  go_enter Try.func18, Try.ntmps18
  go_wp2_with (first
    | (refine wpList_plain rfl fun K hK => ?_; refine wp_insert_int Try.underlying71 Try.underlying43 (.tmp 10) _ (.func 23) (by exact rfl) (m := w.heap.size) rfl rfl rfl M0 (by rfl) ?_; intro x1 M1 G1; refine hK _ _ ?_)
    | (refine wpList_plain rfl fun K hK => ?_; refine wp_insert_int Try.underlying71 Try.underlying43 (.tmp 10) _ (.func 24) (by exact rfl) (m := w.heap.size) rfl rfl rfl M1 (by rfl) ?_; intro x2 M2 G2; refine hK _ _ ?_)
    | (refine wpList_plain rfl fun K hK => ?_; refine wp_insert_int Try.underlying71 Try.underlying43 (.tmp 10) _ (.func 25) (by exact rfl) (m := w.heap.size) rfl rfl rfl M2 (by rfl) ?_; intro x3 M3 G3; (have hlk : (Instr.lookup 71 (.map (some w.heap.size)) (.int .u8 2) false).run Try.prog x3 = .ok (.func (.func 23) #[] #[]) x3 := by (have h := run_lookup_int Try.underlying71 Try.underlying43 M3 2 false .nilFunc (zero_fn x3)); exact h); refine hK _ _ ?_)
    | (go_at_call 23; refine (hc _).mono ?_; rintro e w4 ⟨rfl, rfl⟩))
  go_ret
  exact ⟨rfl, map_below G1 G2 G3⟩

set_option maxRecDepth 100000 in
set_option maxHeartbeats 4000000 in
theorem reckon_add_no (x y z : Int) (hc : ∀ w, Calls Try.prog 23 #[.int .u64 x, .int .u64 y] w fun e w' => e = .returned (.tuple #[.int .u64 z, .bool false]) ∧ w = w') (w : World) : Calls Try.prog 18 #[.int .u8 2, .int .u64 x, .int .u64 y] w fun e w' => e = .panicked (faultP 6) ∧ Below w.heap.size w w' := by
  have hmm := @run_makeMap Try.prog
  have M0 : MapAt (w.alloc (.map #[] 0)) w.heap.size .u8 [] := MapAt.new w .u8
  go_enter Try.func18, Try.ntmps18
  go_wp2_with (first
    | (refine wpList_plain rfl fun K hK => ?_; refine wp_insert_int Try.underlying71 Try.underlying43 (.tmp 10) _ (.func 23) (by exact rfl) (m := w.heap.size) rfl rfl rfl M0 (by rfl) ?_; intro x1 M1 G1; refine hK _ _ ?_)
    | (refine wpList_plain rfl fun K hK => ?_; refine wp_insert_int Try.underlying71 Try.underlying43 (.tmp 10) _ (.func 24) (by exact rfl) (m := w.heap.size) rfl rfl rfl M1 (by rfl) ?_; intro x2 M2 G2; refine hK _ _ ?_)
    | (refine wpList_plain rfl fun K hK => ?_; refine wp_insert_int Try.underlying71 Try.underlying43 (.tmp 10) _ (.func 25) (by exact rfl) (m := w.heap.size) rfl rfl rfl M2 (by rfl) ?_; intro x3 M3 G3; (have hlk : (Instr.lookup 71 (.map (some w.heap.size)) (.int .u8 2) false).run Try.prog x3 = .ok (.func (.func 23) #[] #[]) x3 := by (have h := run_lookup_int Try.underlying71 Try.underlying43 M3 2 false .nilFunc (zero_fn x3)); exact h); refine hK _ _ ?_)
    | (go_at_call 23; refine (hc _).mono ?_; rintro e w4 ⟨rfl, rfl⟩))
  exact ⟨rfl, rfl, map_below G1 G2 G3⟩

set_option maxRecDepth 100000 in
set_option maxHeartbeats 4000000 in
theorem reckon_sub_yes (x y z : Int) (hc : ∀ w, Calls Try.prog 24 #[.int .u64 x, .int .u64 y] w fun e w' => e = .returned (.tuple #[.int .u64 z, .bool true]) ∧ w = w') (w : World) : Calls Try.prog 18 #[.int .u8 3, .int .u64 x, .int .u64 y] w fun e w' => e = .returned (.int .u64 z) ∧ Below w.heap.size w w' := by
  have hmm := @run_makeMap Try.prog
  have M0 : MapAt (w.alloc (.map #[] 0)) w.heap.size .u8 [] := MapAt.new w .u8
  go_enter Try.func18, Try.ntmps18
  go_wp2_with (first
    | (refine wpList_plain rfl fun K hK => ?_; refine wp_insert_int Try.underlying71 Try.underlying43 (.tmp 10) _ (.func 23) (by exact rfl) (m := w.heap.size) rfl rfl rfl M0 (by rfl) ?_; intro x1 M1 G1; refine hK _ _ ?_)
    | (refine wpList_plain rfl fun K hK => ?_; refine wp_insert_int Try.underlying71 Try.underlying43 (.tmp 10) _ (.func 24) (by exact rfl) (m := w.heap.size) rfl rfl rfl M1 (by rfl) ?_; intro x2 M2 G2; refine hK _ _ ?_)
    | (refine wpList_plain rfl fun K hK => ?_; refine wp_insert_int Try.underlying71 Try.underlying43 (.tmp 10) _ (.func 25) (by exact rfl) (m := w.heap.size) rfl rfl rfl M2 (by rfl) ?_; intro x3 M3 G3; (have hlk : (Instr.lookup 71 (.map (some w.heap.size)) (.int .u8 3) false).run Try.prog x3 = .ok (.func (.func 24) #[] #[]) x3 := by (have h := run_lookup_int Try.underlying71 Try.underlying43 M3 3 false .nilFunc (zero_fn x3)); exact h); refine hK _ _ ?_)
    | (go_at_call 24; refine (hc _).mono ?_; rintro e w4 ⟨rfl, rfl⟩))
  go_ret
  exact ⟨rfl, map_below G1 G2 G3⟩

set_option maxRecDepth 100000 in
set_option maxHeartbeats 4000000 in
theorem reckon_sub_no (x y z : Int) (hc : ∀ w, Calls Try.prog 24 #[.int .u64 x, .int .u64 y] w fun e w' => e = .returned (.tuple #[.int .u64 z, .bool false]) ∧ w = w') (w : World) : Calls Try.prog 18 #[.int .u8 3, .int .u64 x, .int .u64 y] w fun e w' => e = .panicked (faultP 6) ∧ Below w.heap.size w w' := by
  have hmm := @run_makeMap Try.prog
  have M0 : MapAt (w.alloc (.map #[] 0)) w.heap.size .u8 [] := MapAt.new w .u8
  go_enter Try.func18, Try.ntmps18
  go_wp2_with (first
    | (refine wpList_plain rfl fun K hK => ?_; refine wp_insert_int Try.underlying71 Try.underlying43 (.tmp 10) _ (.func 23) (by exact rfl) (m := w.heap.size) rfl rfl rfl M0 (by rfl) ?_; intro x1 M1 G1; refine hK _ _ ?_)
    | (refine wpList_plain rfl fun K hK => ?_; refine wp_insert_int Try.underlying71 Try.underlying43 (.tmp 10) _ (.func 24) (by exact rfl) (m := w.heap.size) rfl rfl rfl M1 (by rfl) ?_; intro x2 M2 G2; refine hK _ _ ?_)
    | (refine wpList_plain rfl fun K hK => ?_; refine wp_insert_int Try.underlying71 Try.underlying43 (.tmp 10) _ (.func 25) (by exact rfl) (m := w.heap.size) rfl rfl rfl M2 (by rfl) ?_; intro x3 M3 G3; (have hlk : (Instr.lookup 71 (.map (some w.heap.size)) (.int .u8 3) false).run Try.prog x3 = .ok (.func (.func 24) #[] #[]) x3 := by (have h := run_lookup_int Try.underlying71 Try.underlying43 M3 3 false .nilFunc (zero_fn x3)); exact h); refine hK _ _ ?_)
    | (go_at_call 24; refine (hc _).mono ?_; rintro e w4 ⟨rfl, rfl⟩))
  exact ⟨rfl, rfl, map_below G1 G2 G3⟩

set_option maxRecDepth 100000 in
set_option maxHeartbeats 4000000 in
theorem reckon_mul_yes (x y z : Int) (hc : ∀ w, Calls Try.prog 25 #[.int .u64 x, .int .u64 y] w fun e w' => e = .returned (.tuple #[.int .u64 z, .bool true]) ∧ w = w') (w : World) : Calls Try.prog 18 #[.int .u8 4, .int .u64 x, .int .u64 y] w fun e w' => e = .returned (.int .u64 z) ∧ Below w.heap.size w w' := by
  have hmm := @run_makeMap Try.prog
  have M0 : MapAt (w.alloc (.map #[] 0)) w.heap.size .u8 [] := MapAt.new w .u8
  go_enter Try.func18, Try.ntmps18
  go_wp2_with (first
    | (refine wpList_plain rfl fun K hK => ?_; refine wp_insert_int Try.underlying71 Try.underlying43 (.tmp 10) _ (.func 23) (by exact rfl) (m := w.heap.size) rfl rfl rfl M0 (by rfl) ?_; intro x1 M1 G1; refine hK _ _ ?_)
    | (refine wpList_plain rfl fun K hK => ?_; refine wp_insert_int Try.underlying71 Try.underlying43 (.tmp 10) _ (.func 24) (by exact rfl) (m := w.heap.size) rfl rfl rfl M1 (by rfl) ?_; intro x2 M2 G2; refine hK _ _ ?_)
    | (refine wpList_plain rfl fun K hK => ?_; refine wp_insert_int Try.underlying71 Try.underlying43 (.tmp 10) _ (.func 25) (by exact rfl) (m := w.heap.size) rfl rfl rfl M2 (by rfl) ?_; intro x3 M3 G3; (have hlk : (Instr.lookup 71 (.map (some w.heap.size)) (.int .u8 4) false).run Try.prog x3 = .ok (.func (.func 25) #[] #[]) x3 := by (have h := run_lookup_int Try.underlying71 Try.underlying43 M3 4 false .nilFunc (zero_fn x3)); exact h); refine hK _ _ ?_)
    | (go_at_call 25; refine (hc _).mono ?_; rintro e w4 ⟨rfl, rfl⟩))
  go_ret
  exact ⟨rfl, map_below G1 G2 G3⟩

set_option maxRecDepth 100000 in
set_option maxHeartbeats 4000000 in
theorem reckon_mul_no (x y z : Int) (hc : ∀ w, Calls Try.prog 25 #[.int .u64 x, .int .u64 y] w fun e w' => e = .returned (.tuple #[.int .u64 z, .bool false]) ∧ w = w') (w : World) : Calls Try.prog 18 #[.int .u8 4, .int .u64 x, .int .u64 y] w fun e w' => e = .panicked (faultP 6) ∧ Below w.heap.size w w' := by
  have hmm := @run_makeMap Try.prog
  have M0 : MapAt (w.alloc (.map #[] 0)) w.heap.size .u8 [] := MapAt.new w .u8
  go_enter Try.func18, Try.ntmps18
  go_wp2_with (first
    | (refine wpList_plain rfl fun K hK => ?_; refine wp_insert_int Try.underlying71 Try.underlying43 (.tmp 10) _ (.func 23) (by exact rfl) (m := w.heap.size) rfl rfl rfl M0 (by rfl) ?_; intro x1 M1 G1; refine hK _ _ ?_)
    | (refine wpList_plain rfl fun K hK => ?_; refine wp_insert_int Try.underlying71 Try.underlying43 (.tmp 10) _ (.func 24) (by exact rfl) (m := w.heap.size) rfl rfl rfl M1 (by rfl) ?_; intro x2 M2 G2; refine hK _ _ ?_)
    | (refine wpList_plain rfl fun K hK => ?_; refine wp_insert_int Try.underlying71 Try.underlying43 (.tmp 10) _ (.func 25) (by exact rfl) (m := w.heap.size) rfl rfl rfl M2 (by rfl) ?_; intro x3 M3 G3; (have hlk : (Instr.lookup 71 (.map (some w.heap.size)) (.int .u8 4) false).run Try.prog x3 = .ok (.func (.func 25) #[] #[]) x3 := by (have h := run_lookup_int Try.underlying71 Try.underlying43 M3 4 false .nilFunc (zero_fn x3)); exact h); refine hK _ _ ?_)
    | (go_at_call 25; refine (hc _).mono ?_; rintro e w4 ⟨rfl, rfl⟩))
  exact ⟨rfl, rfl, map_below G1 G2 G3⟩
end Go.Proofs.Ytbgfbgcjghcepaa
