/- The functions of the reference for configurations, by walks: bounds, names, the parts, Set, Out. -/
import Derived.Test.YtoigapnpmhogdaaCfCode
namespace Go.Proofs.Ytoigapnpmhogdaa
open Go.RowKit
set_option linter.unusedVariables false
set_option linter.unusedSimpArgs false

def strV (l : List UInt8) : Value := .string ⟨l.toArray⟩
def rowOf (L : List Value) (w w' : World) (t : TypeId) (e : Ending) : Prop := ∃ g, e = .returned (.slice (some ⟨g, 0, none⟩) L.length L.length) ∧ w.heap.size ≤ g ∧ Blk w' g t L.toArray ∧ Below w.heap.size w w'

theorem least_is (w : World) : Calls Try.prog 16 #[] w fun e w' => rowOf (loL.map (Value.int .u64)) w w' 22 e := by
  go_enter Try.func16, Try.ntmps16
  go_wp2_with fail
  go_ret
  exact ⟨w.heap.size, rfl, Nat.le_refl _, Blk.new _ _ _, (Below.refl _ w).alloc (Nat.le_refl _) _⟩
theorem most_is (w : World) : Calls Try.prog 17 #[] w fun e w' => rowOf (hiL.map (Value.int .u64)) w w' 22 e := by
  go_enter Try.func17, Try.ntmps17
  go_wp2_with fail
  go_ret
  exact ⟨w.heap.size, rfl, Nat.le_refl _, Blk.new _ _ _, (Below.refl _ w).alloc (Nat.le_refl _) _⟩
theorem names_is (w : World) : Calls Try.prog 21 #[] w fun e w' => rowOf (cnL.map strV) w w' 9 e := by
  go_enter Try.func21, Try.ntmps21
  go_wp2_with fail
  go_ret
  exact ⟨w.heap.size, rfl, Nat.le_refl _, Blk.new _ _ _, (Below.refl _ w).alloc (Nat.le_refl _) _⟩

theorem small_is (c : Nat → Int) (P : Value) (w : World) : Calls Try.prog 31 #[.agg (cfV c P)] w fun e w' => rowOf ((List.range 10).map fun k => .int .i64 (c k)) w w' 3 e := by
  have hb := (Below.refl w.heap.size w).alloc (Nat.le_refl _) (.cells (cfV c P) 25)
  have hs : (w.alloc (.cells (cfV c P) 25)).heap.size = w.heap.size + 1 := by simp
  have hk := Blk.new (w.alloc (.cells (cfV c P) 25)) 3 (((List.range 10).map fun k => Value.int .i64 (c k)).toArray)
  rw [hs] at hk
  have hb2 := hb.alloc hb.size (.cells (((List.range 10).map fun k => Value.int .i64 (c k)).toArray) 3)
  have HB := Lib.hid hb2
  have HK := Lib.hid hk
  clear hb hs hk hb2
  unfold cfV
  go_enter Try.func31, Try.ntmps31
  go_wp2_with fail
  go_ret
  exact ⟨w.heap.size + 1, rfl, Nat.le_succ _, HK.out, HB.out⟩
theorem great_is (c : Nat → Int) (P : Value) (w : World) : Calls Try.prog 32 #[.agg (cfV c P)] w fun e w' => rowOf ((List.range 4).map fun k => .int .u64 (c (10 + k))) w w' 22 e := by
  have hb := (Below.refl w.heap.size w).alloc (Nat.le_refl _) (.cells (cfV c P) 25)
  have hs : (w.alloc (.cells (cfV c P) 25)).heap.size = w.heap.size + 1 := by simp
  have hk := Blk.new (w.alloc (.cells (cfV c P) 25)) 22 (((List.range 4).map fun k => Value.int .u64 (c (10 + k))).toArray)
  rw [hs] at hk
  have hb2 := hb.alloc hb.size (.cells (((List.range 4).map fun k => Value.int .u64 (c (10 + k))).toArray) 22)
  have HB := Lib.hid hb2
  have HK := Lib.hid hk
  clear hb hs hk hb2
  unfold cfV
  go_enter Try.func32, Try.ntmps32
  go_wp2_with fail
  go_ret
  exact ⟨w.heap.size + 1, rfl, Nat.le_succ _, HK.out, HB.out⟩
end Go.Proofs.Ytoigapnpmhogdaa
