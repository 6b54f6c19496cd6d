/- Set of the reference, by fourteen walks (printed by py/cf_set.py). -/
import Derived.Test.YtoigapnpmhogdaaCfRef
namespace Go.Proofs.Ytoigapnpmhogdaa
open Go.RowKit
set_option linter.unusedVariables false
set_option linter.unusedSimpArgs false

/-- A number as part k keeps it. -/
def toN (k : Nat) (n : Int) : Int := if k < 10 then wrap64 n else n
/-- Another number for a part. -/
def upd (c : Nat → Int) (i : Nat) (n : Int) (k : Nat) : Int := if k = i then toN i n else c k
theorem new2 (w : World) (o : Obj) (t : TypeId) (cs : Array Value) : ((w.alloc o).alloc (.cells cs t)).heap[w.heap.size + 1]? = some (.cells cs t (0, 0)) := by
  have := heap_alloc_new (w.alloc o) (.cells cs t)
  rwa [show (w.alloc o).heap.size = w.heap.size + 1 from by simp] at this
theorem below2 (w : World) (o o' : Obj) : Below w.heap.size w ((w.alloc o).alloc o') := ((Below.refl _ w).alloc (Nat.le_refl _) o).alloc (by simp) o'

set_option maxHeartbeats 1000000 in
theorem set0_is (c : Nat → Int) (A : Option Addr) (m cap : Nat) (n : Int) (w : World) : Calls Try.prog 19 #[.agg (cfV c (.slice A m cap)), .int .i64 0, .int .u64 n] w fun e w' => e = .returned (.agg (cfV (upd c 0 n) (.slice A m cap))) ∧ Below w.heap.size w w' := by
  obtain ⟨d, hu1, hu2⟩ := underCf
  unfold cfV
  go_enter Try.func19, Try.ntmps19
  go_wp2_with fail
  exact bodyPost_ret (results_cell_row (P := Try.prog) rfl _ _ (w.heap.size + 1) 25 (cfV (upd c 0 n) (.slice A m cap)) (0, 0) d rfl (new2 w _ _ _) hu1 (by cases d <;> first | rfl | exact absurd hu2 Bool.false_ne_true) (by kernel_rfl)) rfl ⟨rfl, below2 w _ _⟩

set_option maxHeartbeats 1000000 in
theorem set1_is (c : Nat → Int) (A : Option Addr) (m cap : Nat) (n : Int) (w : World) : Calls Try.prog 19 #[.agg (cfV c (.slice A m cap)), .int .i64 1, .int .u64 n] w fun e w' => e = .returned (.agg (cfV (upd c 1 n) (.slice A m cap))) ∧ Below w.heap.size w w' := by
  obtain ⟨d, hu1, hu2⟩ := underCf
  unfold cfV
  go_enter Try.func19, Try.ntmps19
  go_wp2_with fail
  exact bodyPost_ret (results_cell_row (P := Try.prog) rfl _ _ (w.heap.size + 1) 25 (cfV (upd c 1 n) (.slice A m cap)) (0, 0) d rfl (new2 w _ _ _) hu1 (by cases d <;> first | rfl | exact absurd hu2 Bool.false_ne_true) (by kernel_rfl)) rfl ⟨rfl, below2 w _ _⟩

set_option maxHeartbeats 1000000 in
theorem set2_is (c : Nat → Int) (A : Option Addr) (m cap : Nat) (n : Int) (w : World) : Calls Try.prog 19 #[.agg (cfV c (.slice A m cap)), .int .i64 2, .int .u64 n] w fun e w' => e = .returned (.agg (cfV (upd c 2 n) (.slice A m cap))) ∧ Below w.heap.size w w' := by
  obtain ⟨d, hu1, hu2⟩ := underCf
  unfold cfV
  go_enter Try.func19, Try.ntmps19
  go_wp2_with fail
  exact bodyPost_ret (results_cell_row (P := Try.prog) rfl _ _ (w.heap.size + 1) 25 (cfV (upd c 2 n) (.slice A m cap)) (0, 0) d rfl (new2 w _ _ _) hu1 (by cases d <;> first | rfl | exact absurd hu2 Bool.false_ne_true) (by kernel_rfl)) rfl ⟨rfl, below2 w _ _⟩

set_option maxHeartbeats 1000000 in
theorem set3_is (c : Nat → Int) (A : Option Addr) (m cap : Nat) (n : Int) (w : World) : Calls Try.prog 19 #[.agg (cfV c (.slice A m cap)), .int .i64 3, .int .u64 n] w fun e w' => e = .returned (.agg (cfV (upd c 3 n) (.slice A m cap))) ∧ Below w.heap.size w w' := by
  obtain ⟨d, hu1, hu2⟩ := underCf
  unfold cfV
  go_enter Try.func19, Try.ntmps19
  go_wp2_with fail
  exact bodyPost_ret (results_cell_row (P := Try.prog) rfl _ _ (w.heap.size + 1) 25 (cfV (upd c 3 n) (.slice A m cap)) (0, 0) d rfl (new2 w _ _ _) hu1 (by cases d <;> first | rfl | exact absurd hu2 Bool.false_ne_true) (by kernel_rfl)) rfl ⟨rfl, below2 w _ _⟩

set_option maxHeartbeats 1000000 in
theorem set4_is (c : Nat → Int) (A : Option Addr) (m cap : Nat) (n : Int) (w : World) : Calls Try.prog 19 #[.agg (cfV c (.slice A m cap)), .int .i64 4, .int .u64 n] w fun e w' => e = .returned (.agg (cfV (upd c 4 n) (.slice A m cap))) ∧ Below w.heap.size w w' := by
  obtain ⟨d, hu1, hu2⟩ := underCf
  unfold cfV
  go_enter Try.func19, Try.ntmps19
  go_wp2_with fail
  exact bodyPost_ret (results_cell_row (P := Try.prog) rfl _ _ (w.heap.size + 1) 25 (cfV (upd c 4 n) (.slice A m cap)) (0, 0) d rfl (new2 w _ _ _) hu1 (by cases d <;> first | rfl | exact absurd hu2 Bool.false_ne_true) (by kernel_rfl)) rfl ⟨rfl, below2 w _ _⟩

set_option maxHeartbeats 1000000 in
theorem set5_is (c : Nat → Int) (A : Option Addr) (m cap : Nat) (n : Int) (w : World) : Calls Try.prog 19 #[.agg (cfV c (.slice A m cap)), .int .i64 5, .int .u64 n] w fun e w' => e = .returned (.agg (cfV (upd c 5 n) (.slice A m cap))) ∧ Below w.heap.size w w' := by
  obtain ⟨d, hu1, hu2⟩ := underCf
  unfold cfV
  go_enter Try.func19, Try.ntmps19
  go_wp2_with fail
  exact bodyPost_ret (results_cell_row (P := Try.prog) rfl _ _ (w.heap.size + 1) 25 (cfV (upd c 5 n) (.slice A m cap)) (0, 0) d rfl (new2 w _ _ _) hu1 (by cases d <;> first | rfl | exact absurd hu2 Bool.false_ne_true) (by kernel_rfl)) rfl ⟨rfl, below2 w _ _⟩

set_option maxHeartbeats 1000000 in
theorem set6_is (c : Nat → Int) (A : Option Addr) (m cap : Nat) (n : Int) (w : World) : Calls Try.prog 19 #[.agg (cfV c (.slice A m cap)), .int .i64 6, .int .u64 n] w fun e w' => e = .returned (.agg (cfV (upd c 6 n) (.slice A m cap))) ∧ Below w.heap.size w w' := by
  obtain ⟨d, hu1, hu2⟩ := underCf
  unfold cfV
  go_enter Try.func19, Try.ntmps19
  go_wp2_with fail
  exact bodyPost_ret (results_cell_row (P := Try.prog) rfl _ _ (w.heap.size + 1) 25 (cfV (upd c 6 n) (.slice A m cap)) (0, 0) d rfl (new2 w _ _ _) hu1 (by cases d <;> first | rfl | exact absurd hu2 Bool.false_ne_true) (by kernel_rfl)) rfl ⟨rfl, below2 w _ _⟩

set_option maxHeartbeats 1000000 in
theorem set7_is (c : Nat → Int) (A : Option Addr) (m cap : Nat) (n : Int) (w : World) : Calls Try.prog 19 #[.agg (cfV c (.slice A m cap)), .int .i64 7, .int .u64 n] w fun e w' => e = .returned (.agg (cfV (upd c 7 n) (.slice A m cap))) ∧ Below w.heap.size w w' := by
  obtain ⟨d, hu1, hu2⟩ := underCf
  unfold cfV
  go_enter Try.func19, Try.ntmps19
  go_wp2_with fail
  exact bodyPost_ret (results_cell_row (P := Try.prog) rfl _ _ (w.heap.size + 1) 25 (cfV (upd c 7 n) (.slice A m cap)) (0, 0) d rfl (new2 w _ _ _) hu1 (by cases d <;> first | rfl | exact absurd hu2 Bool.false_ne_true) (by kernel_rfl)) rfl ⟨rfl, below2 w _ _⟩

set_option maxHeartbeats 1000000 in
theorem set8_is (c : Nat → Int) (A : Option Addr) (m cap : Nat) (n : Int) (w : World) : Calls Try.prog 19 #[.agg (cfV c (.slice A m cap)), .int .i64 8, .int .u64 n] w fun e w' => e = .returned (.agg (cfV (upd c 8 n) (.slice A m cap))) ∧ Below w.heap.size w w' := by
  obtain ⟨d, hu1, hu2⟩ := underCf
  unfold cfV
  go_enter Try.func19, Try.ntmps19
  go_wp2_with fail
  exact bodyPost_ret (results_cell_row (P := Try.prog) rfl _ _ (w.heap.size + 1) 25 (cfV (upd c 8 n) (.slice A m cap)) (0, 0) d rfl (new2 w _ _ _) hu1 (by cases d <;> first | rfl | exact absurd hu2 Bool.false_ne_true) (by kernel_rfl)) rfl ⟨rfl, below2 w _ _⟩

set_option maxHeartbeats 1000000 in
theorem set9_is (c : Nat → Int) (A : Option Addr) (m cap : Nat) (n : Int) (w : World) : Calls Try.prog 19 #[.agg (cfV c (.slice A m cap)), .int .i64 9, .int .u64 n] w fun e w' => e = .returned (.agg (cfV (upd c 9 n) (.slice A m cap))) ∧ Below w.heap.size w w' := by
  obtain ⟨d, hu1, hu2⟩ := underCf
  unfold cfV
  go_enter Try.func19, Try.ntmps19
  go_wp2_with fail
  exact bodyPost_ret (results_cell_row (P := Try.prog) rfl _ _ (w.heap.size + 1) 25 (cfV (upd c 9 n) (.slice A m cap)) (0, 0) d rfl (new2 w _ _ _) hu1 (by cases d <;> first | rfl | exact absurd hu2 Bool.false_ne_true) (by kernel_rfl)) rfl ⟨rfl, below2 w _ _⟩

set_option maxHeartbeats 1000000 in
theorem set10_is (c : Nat → Int) (A : Option Addr) (m cap : Nat) (n : Int) (w : World) : Calls Try.prog 19 #[.agg (cfV c (.slice A m cap)), .int .i64 10, .int .u64 n] w fun e w' => e = .returned (.agg (cfV (upd c 10 n) (.slice A m cap))) ∧ Below w.heap.size w w' := by
  obtain ⟨d, hu1, hu2⟩ := underCf
  unfold cfV
  go_enter Try.func19, Try.ntmps19
  go_wp2_with fail
  exact bodyPost_ret (results_cell_row (P := Try.prog) rfl _ _ (w.heap.size + 1) 25 (cfV (upd c 10 n) (.slice A m cap)) (0, 0) d rfl (new2 w _ _ _) hu1 (by cases d <;> first | rfl | exact absurd hu2 Bool.false_ne_true) (by kernel_rfl)) rfl ⟨rfl, below2 w _ _⟩

set_option maxHeartbeats 1000000 in
theorem set11_is (c : Nat → Int) (A : Option Addr) (m cap : Nat) (n : Int) (w : World) : Calls Try.prog 19 #[.agg (cfV c (.slice A m cap)), .int .i64 11, .int .u64 n] w fun e w' => e = .returned (.agg (cfV (upd c 11 n) (.slice A m cap))) ∧ Below w.heap.size w w' := by
  obtain ⟨d, hu1, hu2⟩ := underCf
  unfold cfV
  go_enter Try.func19, Try.ntmps19
  go_wp2_with fail
  exact bodyPost_ret (results_cell_row (P := Try.prog) rfl _ _ (w.heap.size + 1) 25 (cfV (upd c 11 n) (.slice A m cap)) (0, 0) d rfl (new2 w _ _ _) hu1 (by cases d <;> first | rfl | exact absurd hu2 Bool.false_ne_true) (by kernel_rfl)) rfl ⟨rfl, below2 w _ _⟩

set_option maxHeartbeats 1000000 in
theorem set12_is (c : Nat → Int) (A : Option Addr) (m cap : Nat) (n : Int) (w : World) : Calls Try.prog 19 #[.agg (cfV c (.slice A m cap)), .int .i64 12, .int .u64 n] w fun e w' => e = .returned (.agg (cfV (upd c 12 n) (.slice A m cap))) ∧ Below w.heap.size w w' := by
  obtain ⟨d, hu1, hu2⟩ := underCf
  unfold cfV
  go_enter Try.func19, Try.ntmps19
  go_wp2_with fail
  exact bodyPost_ret (results_cell_row (P := Try.prog) rfl _ _ (w.heap.size + 1) 25 (cfV (upd c 12 n) (.slice A m cap)) (0, 0) d rfl (new2 w _ _ _) hu1 (by cases d <;> first | rfl | exact absurd hu2 Bool.false_ne_true) (by kernel_rfl)) rfl ⟨rfl, below2 w _ _⟩

set_option maxHeartbeats 1000000 in
theorem set13_is (c : Nat → Int) (A : Option Addr) (m cap : Nat) (n : Int) (w : World) : Calls Try.prog 19 #[.agg (cfV c (.slice A m cap)), .int .i64 13, .int .u64 n] w fun e w' => e = .returned (.agg (cfV (upd c 13 n) (.slice A m cap))) ∧ Below w.heap.size w w' := by
  obtain ⟨d, hu1, hu2⟩ := underCf
  unfold cfV
  go_enter Try.func19, Try.ntmps19
  go_wp2_with fail
  exact bodyPost_ret (results_cell_row (P := Try.prog) rfl _ _ (w.heap.size + 1) 25 (cfV (upd c 13 n) (.slice A m cap)) (0, 0) d rfl (new2 w _ _ _) hu1 (by cases d <;> first | rfl | exact absurd hu2 Bool.false_ne_true) (by kernel_rfl)) rfl ⟨rfl, below2 w _ _⟩
end Go.Proofs.Ytoigapnpmhogdaa
