/- code.Bytes, by walk: the bytes of instructions lie in a row of the call's own. -/
import Derived.Test.YtnbkpminecoddaaDoorOwnKit
import Derived.WalkKit
import Derived.WalkSpells
import Derived.WalkLawsBesides
import Derived.LoopN
import Derived.Lib.Hide
import Derived.IntWalk
namespace Go.Proofs.YtnbkpminecoddaaDoor
open Go.RowKit
set_option linter.unusedVariables false
set_option linter.unusedSimpArgs false

/-- The four numbers of a text's place. -/
def iV (D : Nat → Nat → Int) (i : Nat) : List Value := [.int .u8 (D i 0), .int .u8 (D i 1), .int .u8 (D i 2), .int .u8 (D i 3)]
theorem news_new (w : World) (t : TypeId) (cs : Array Value) (j : Nat) (u : Value) (h : cs.toList[j]? = some u) : (w.alloc (.cells cs t)).cell? ((⟨w.heap.size, 0, none⟩ : Addr).add j) = some u := by
  have e : (⟨w.heap.size, 0, none⟩ : Addr).add j = ⟨w.heap.size, j, none⟩ := by simp [Addr.add]; omega
  rw [e]
  exact ((Blk.new w t cs).cell j).trans (by simpa using h)
theorem infoU8 : (Tryd.prog.info? 5).map (fun i => (i.zero, i.size, i.bytes)) = some (some (.int .u8 0), 1, 1) := by kernel_rfl
theorem underU8 : Tryd.prog.underlying 22 = some (.slice 5) := by kernel_rfl
theorem iV_one (a b c d : Int) : ∀ u ∈ [Value.int .u8 a, .int .u8 b, .int .u8 c, .int .u8 d], u.oneCell' = true := by simp [Value.oneCell']

set_option maxHeartbeats 1000000 in
theorem bytes_is (g o n cap : Nat) (D : Nat → Nat → Int) (w : World) (hn : n ≤ 1024) (hg : g < w.heap.size) (h : ∀ i, i < n → ∀ j, j < 4 → w.cell? ⟨g, o + i * 4 + j, none⟩ = some (.int .u8 (D i j))) :
    Calls Tryd.prog 13 #[.slice (some ⟨g, o, none⟩) n cap] w fun e w' => ∃ v, e = .returned v ∧ w'.ownsRow w.heap.size 5 1 v (n * 4) ((List.range n).flatMap (iV D)) ∧ Below w.heap.size w w' := by
  have HH := Lib.hid h
  clear h
  obtain ⟨i0, hi, hz0, hz1, hz2⟩ := info_parts infoU8
  go_enter Tryd.func13, Tryd.ntmps13
  go_wp2_with fail
  go_loopw [2, 7] (fun v i wr => ∃ k : Nat, k ≤ n ∧ i = .int .i64 k ∧ wr.ownsRow w.heap.size 5 1 v (k * 4) ((List.range k).flatMap (iV D)) ∧ Below w.heap.size w wr) (fun _ i _ => n - (intOf i).toNat)
  case atStart => exact ⟨0, Nat.zero_le _, rfl, World.ownsRow_nil _ _ _ _, Below.refl _ _⟩
  case round =>
    obtain ⟨k, hk, rfl, hown, hb⟩ := hrel
    by_cases hlt : k < n
    · have hup : Hid ((List.range (k + 1)).flatMap (iV D) = (List.range k).flatMap (iV D) ++ [Value.int .u8 (D k 0), .int .u8 (D k 1), .int .u8 (D k 2), .int .u8 (D k 3)]) := by
        show _ = _
        rw [List.range_succ, List.flatMap_append]; simp [iV]
      have r0 : wr.cell? ⟨g, o + k * 4, none⟩ = some (.int .u8 (D k 0)) := (hb.cell (p := ⟨g, o + k * 4, none⟩) hg).trans (HH.out k hlt 0 (by omega))
      have r1 : wr.cell? ⟨g, o + k * 4 + 1, none⟩ = some (.int .u8 (D k 1)) := (hb.cell (p := ⟨g, o + k * 4 + 1, none⟩) hg).trans (HH.out k hlt 1 (by omega))
      have r2 : wr.cell? ⟨g, o + k * 4 + 2, none⟩ = some (.int .u8 (D k 2)) := (hb.cell (p := ⟨g, o + k * 4 + 2, none⟩) hg).trans (HH.out k hlt 2 (by omega))
      have r3 : wr.cell? ⟨g, o + k * 4 + 3, none⟩ = some (.int .u8 (D k 3)) := (hb.cell (p := ⟨g, o + k * 4 + 3, none⟩) hg).trans (HH.out k hlt 3 (by omega))
      have hk1 : (k : Int) < n := by omega
      have hk0 : (0 : Int) ≤ (k : Int) := by omega
      have hs1 : (wr.alloc (.cells #[.int .u8 (D k 0), .int .u8 (D k 1), .int .u8 (D k 2), .int .u8 (D k 3)] 26)).heap.size = wr.heap.size + 1 := by simp
      have hwr := hb.size
      have hown1 := hown.alloc (.cells #[.int .u8 (D k 0), .int .u8 (D k 1), .int .u8 (D k 2), .int .u8 (D k 3)] 26)
      have hb1 := hb.alloc hb.size (.cells #[.int .u8 (D k 0), .int .u8 (D k 1), .int .u8 (D k 2), .int .u8 (D k 3)] 26)
      have hnew : ∀ j u, [Value.int .u8 (D k 0), .int .u8 (D k 1), .int .u8 (D k 2), .int .u8 (D k 3)][j]? = some u → ((wr.alloc (.cells #[.int .u8 (D k 0), .int .u8 (D k 1), .int .u8 (D k 2), .int .u8 (D k 3)] 26)).alloc (.cells #[.int .u8 (D k 0), .int .u8 (D k 1), .int .u8 (D k 2), .int .u8 (D k 3)] 5)).cell? ((⟨wr.heap.size + 1, 0, none⟩ : Addr).add j) = some u := by
        rw [← hs1]; exact news_new _ 5 #[.int .u8 (D k 0), .int .u8 (D k 1), .int .u8 (D k 2), .int .u8 (D k 3)]
      go_wp2_with (at_builtin; refine wpList_append_own _ rfl _ _ 22 rfl w.heap.size 5 i0 (.int .u8 0) 1 1 underU8 hi hz0 hz1 hz2 rfl (by decide) _ _ _ rfl (hown1.alloc _) ⟨wr.heap.size + 1, 0, none⟩ 4 4 [.int .u8 (D k 0), .int .u8 (D k 1), .int .u8 (D k 2), .int .u8 (D k 3)] rfl rfl hnew (iV_one _ _ _ _) (by unfold maxLen; omega) (by omega) (by have := hb1.size; simp; omega) ?_; intro v' w2 hown' hgrow _)
      go_roundw
      case rel => exact ⟨k + 1, by omega, by go_num, by rw [hup.out, show (k + 1) * 4 = k * 4 + 4 from by omega]; exact hown', (hb1.alloc (by have := hb1.size; omega) _).grown hgrow (by have := hb1.size; simp; omega) (fun j hj => (hown1.lt j hj).1)⟩
      case measure => simp [intOf]; omega
    · have hkn : k = n := by omega
      subst hkn
      go_wp2
      go_ret
      exact ⟨_, rfl, hown, hb⟩
end Go.Proofs.YtnbkpminecoddaaDoor
