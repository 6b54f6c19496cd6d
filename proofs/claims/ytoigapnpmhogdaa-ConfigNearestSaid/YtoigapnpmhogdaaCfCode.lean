/- Bytes of a program's text, and the plain configuration, by walks. -/
import Derived.Test.YtoigapnpmhogdaaCfWrong
namespace Go.Proofs.Ytoigapnpmhogdaa
open Go.RowKit
set_option linter.unusedVariables false
set_option linter.unusedSimpArgs false

/-- The four numbers of a text's place. -/
def iV (D : Nat → Nat → Int) (i : Nat) : List Value := [.int .u8 (D i 0), .int .u8 (D i 1), .int .u8 (D i 2), .int .u8 (D i 3)]
theorem news_new (w : World) (t : TypeId) (cs : Array Value) (j : Nat) (u : Value) (h : cs.toList[j]? = some u) : (w.alloc (.cells cs t)).cell? ((⟨w.heap.size, 0, none⟩ : Addr).add j) = some u := by
  have e : (⟨w.heap.size, 0, none⟩ : Addr).add j = ⟨w.heap.size, j, none⟩ := by simp [Addr.add]; omega
  rw [e]
  exact ((Blk.new w t cs).cell j).trans (by simpa using h)
theorem infoU8 : (Try.prog.info? 5).map (fun i => (i.zero, i.size, i.bytes)) = some (some (.int .u8 0), 1, 1) := by kernel_rfl
theorem infoRowU8 : (Try.prog.info? 43).map (fun i => (i.zero, i.size, i.bytes)) = some (some (.slice none 0 0), 1, 24) := by kernel_rfl
theorem underCf' : (Try.prog.underlying 25).map (fun d => match d with | .struct _ | .array _ _ => true | _ => false) = some true := by kernel_rfl
theorem underCf : ∃ d, Try.prog.underlying 25 = some d ∧ (match d with | .struct _ | .array _ _ => true | _ => false) = true := Option.map_eq_some_iff.1 underCf'
theorem underU8 : Try.prog.underlying 43 = some (.slice 5) := by kernel_rfl
theorem underRowU8 : Try.prog.underlying 23 = some (.slice 43) := by kernel_rfl
theorem below_setRow {B : Nat} {a w : World} (h : Below B a w) {g : Nat} (hg : B ≤ g) (cs : Array Value) : Below B a (w.setRow g cs) :=
  ⟨h.os, h.tape, h.output, by rw [setRow_size]; exact h.size, fun k hk => (setRow_other w g k cs (by omega)).trans (h.block k hk)⟩
theorem Blk.setRow_ {w : World} {g g' : Nat} {t : TypeId} {cs : Array Value} (h : Blk w g t cs) (hg : g ≠ g') (c : Array Value) : Blk (w.setRow g' c) g t cs := (setRow_other w g' g c hg).trans h
theorem Blk.put_ {w : World} {g : Nat} {t : TypeId} {cs : Array Value} (h : Blk w g t cs) (c : Array Value) : Blk (w.setRow g c) g t c := setRow_heap w g cs c t (0, 0) h
theorem iV_one (a b c d : Int) : ∀ u ∈ [Value.int .u8 a, .int .u8 b, .int .u8 c, .int .u8 d], u.oneCell' = true := by simp [Value.oneCell']

set_option maxHeartbeats 1000000 in
theorem bytes_is (g n cap : Nat) (D : Nat → Nat → Int) (w : World) (hn : n ≤ 1024) (hg : g < w.heap.size) (h : ∀ i, i < n → ∀ j, j < 4 → w.cell? ⟨g, i * 4 + j, none⟩ = some (.int .u8 (D i j))) :
    Calls Try.prog 33 #[.slice (some ⟨g, 0, none⟩) n cap] w fun e w' => ∃ v, e = .returned v ∧ w'.ownsRow w.heap.size 5 1 v (n * 4) ((List.range n).flatMap (iV D)) ∧ Below w.heap.size w w' := by
  have HH := Lib.hid h
  clear h
  obtain ⟨i0, hi, hz0, hz1, hz2⟩ := info_parts infoU8
  go_enter Try.func33, Try.ntmps33
  go_wp2_with fail
  go_loopw [2, 7] (fun v i wr => ∃ k : Nat, k ≤ n ∧ i = .int .i64 k ∧ wr.ownsRow w.heap.size 5 1 v (k * 4) ((List.range k).flatMap (iV D)) ∧ Below w.heap.size w wr) (fun _ i _ => n - (intOf i).toNat)
  case atStart => exact ⟨0, Nat.zero_le _, rfl, World.ownsRow_nil _ _ _ _, Below.refl _ _⟩
  case round =>
    obtain ⟨k, hk, rfl, hown, hb⟩ := hrel
    by_cases hlt : k < n
    · have hup : Hid ((List.range (k + 1)).flatMap (iV D) = (List.range k).flatMap (iV D) ++ [Value.int .u8 (D k 0), .int .u8 (D k 1), .int .u8 (D k 2), .int .u8 (D k 3)]) := by
        show _ = _
        rw [List.range_succ, List.flatMap_append]; simp [iV]
      have r0 : wr.cell? ⟨g, k * 4, none⟩ = some (.int .u8 (D k 0)) := (hb.cell (p := ⟨g, k * 4, none⟩) hg).trans (HH.out k hlt 0 (by omega))
      have r1 : wr.cell? ⟨g, k * 4 + 1, none⟩ = some (.int .u8 (D k 1)) := (hb.cell (p := ⟨g, k * 4 + 1, none⟩) hg).trans (HH.out k hlt 1 (by omega))
      have r2 : wr.cell? ⟨g, k * 4 + 2, none⟩ = some (.int .u8 (D k 2)) := (hb.cell (p := ⟨g, k * 4 + 2, none⟩) hg).trans (HH.out k hlt 2 (by omega))
      have r3 : wr.cell? ⟨g, k * 4 + 3, none⟩ = some (.int .u8 (D k 3)) := (hb.cell (p := ⟨g, k * 4 + 3, none⟩) hg).trans (HH.out k hlt 3 (by omega))
      have hk1 : (k : Int) < n := by omega
      have hk0 : (0 : Int) ≤ (k : Int) := by omega
      have hs1 : (wr.alloc (.cells #[.int .u8 (D k 0), .int .u8 (D k 1), .int .u8 (D k 2), .int .u8 (D k 3)] 57)).heap.size = wr.heap.size + 1 := by simp
      have hwr := hb.size
      have hown1 := hown.alloc (.cells #[.int .u8 (D k 0), .int .u8 (D k 1), .int .u8 (D k 2), .int .u8 (D k 3)] 57)
      have hb1 := hb.alloc hb.size (.cells #[.int .u8 (D k 0), .int .u8 (D k 1), .int .u8 (D k 2), .int .u8 (D k 3)] 57)
      have hnew : ∀ j u, [Value.int .u8 (D k 0), .int .u8 (D k 1), .int .u8 (D k 2), .int .u8 (D k 3)][j]? = some u → ((wr.alloc (.cells #[.int .u8 (D k 0), .int .u8 (D k 1), .int .u8 (D k 2), .int .u8 (D k 3)] 57)).alloc (.cells #[.int .u8 (D k 0), .int .u8 (D k 1), .int .u8 (D k 2), .int .u8 (D k 3)] 5)).cell? ((⟨wr.heap.size + 1, 0, none⟩ : Addr).add j) = some u := by
        rw [← hs1]; exact news_new _ 5 #[.int .u8 (D k 0), .int .u8 (D k 1), .int .u8 (D k 2), .int .u8 (D k 3)]
      go_wp2_with (at_builtin; refine wpList_append_own _ rfl _ _ 43 rfl w.heap.size 5 i0 (.int .u8 0) 1 1 underU8 hi hz0 hz1 hz2 rfl (by decide) _ _ _ rfl (hown1.alloc _) ⟨wr.heap.size + 1, 0, none⟩ 4 4 [.int .u8 (D k 0), .int .u8 (D k 1), .int .u8 (D k 2), .int .u8 (D k 3)] rfl rfl hnew (iV_one _ _ _ _) (by unfold maxLen; omega) (by omega) (by have := hb1.size; simp; omega) ?_; intro v' w2 hown' hgrow _)
      go_roundw
      case rel => exact ⟨k + 1, by omega, by go_num, by rw [hup.out, show (k + 1) * 4 = k * 4 + 4 from by omega]; exact hown', (hb1.alloc (by have := hb1.size; omega) _).grown hgrow (by have := hb1.size; simp; omega) (fun j hj => (hown1.lt j hj).1)⟩
      case measure => simp [intOf]; omega
    · have hkn : k = n := by omega
      subst hkn
      go_wp2
      go_ret
      exact ⟨_, rfl, hown, hb⟩

/-- The plain configuration's numbers, and its program. -/
def plL : List Int := [2, 4, 8, 4, 4, 32, 8, 4, 16, 3, 100, 100, 50, 50]
def plc (k : Nat) : Int := plL.getD k 0
def plP : List UInt8 := [17, 0, 0, 0, 5, 0, 255, 254]
def plI (i j : Nat) : Int := (((plP.getD (i * 4 + j) 0).toNat : Nat) : Int)

set_option maxHeartbeats 1000000 in
theorem plain_is (w : World) :
    Calls Try.prog 18 #[] w fun e w' => ∃ g g' cap cur, e = .returned (.agg (cfV plc (.slice (some ⟨g, 0, none⟩) 1 1))) ∧ w.heap.size ≤ g ∧ w.heap.size ≤ g' ∧ g ≠ g' ∧ Blk w' g 43 #[.slice (some ⟨g', 0, none⟩) 8 cap] ∧ Blk w' g' 5 cur ∧ 8 ≤ cap ∧ cur.toList.take 8 = plP.map byteV ∧ Below w.heap.size w w' := by
  have hs0 : ∀ (w' : World) o, (w'.alloc o).heap.size = w'.heap.size + 1 := fun w' o => by simp
  obtain ⟨z, hz⟩ : ∃ z : Array Value, z = #[.int .i64 0, .int .i64 0, .int .i64 0, .int .i64 0, .int .i64 0, .int .i64 0, .int .i64 0, .int .i64 0, .int .i64 0, .int .i64 0, .int .u64 0, .int .u64 0, .int .u64 0, .int .u64 0, .slice none 0 0] := ⟨_, rfl⟩
  obtain ⟨y, hy⟩ : ∃ y : Array Value, y = #[.int .u8 17, .int .u8 0, .int .u8 0, .int .u8 0, .int .u8 5, .int .u8 0, .int .u8 255, .int .u8 254] := ⟨_, rfl⟩
  obtain ⟨w2, hw2⟩ : ∃ w2, w2 = (w.alloc (.cells z 25)).alloc (.cells y 57) := ⟨_, rfl⟩
  have hsz2 : w2.heap.size = w.heap.size + 2 := by rw [hw2, hs0, hs0]
  have hb2 : Below w.heap.size w w2 := by rw [hw2]; exact ((Below.refl _ w).alloc (Nat.le_refl _) _).alloc (by rw [hs0]; omega) _
  have B0 : Blk w2 w.heap.size 25 z := by rw [hw2]; exact (Blk.new _ _ _).alloc _
  have B1 : Blk w2 (w.heap.size + 1) 57 y := by
    have := Blk.new (w.alloc (.cells z 25)) 57 y
    rw [hs0] at this
    rw [hw2]; exact this
  have C := bytes_is (w.heap.size + 1) 2 2 plI w2 (by omega) (by omega) (fun i hi j hj => by
    have hc := B1.cell (i * 4 + j)
    rw [hc, hy]
    have hi' : i = 0 ∨ i = 1 := by omega
    have hj' : j = 0 ∨ j = 1 ∨ j = 2 ∨ j = 3 := by omega
    rcases hi' with rfl | rfl <;> rcases hj' with rfl | rfl | rfl | rfl <;> rfl)
  rw [hw2] at C
  subst hz hy
  go_enter Try.func18, Try.ntmps18
  go_wp2_with fail
  refine C.mono ?_
  rintro e w3 ⟨v, rfl, hown, hb3⟩
  rw [← hw2] at hown hb3
  obtain ⟨_, ⟨_, h0⟩ | ⟨g', cap, cur, rfl, hg, hh, hnc, hcap, hsz, htake⟩⟩ := hown
  · exact absurd h0 (by decide)
  have D0 : Blk w3 w.heap.size 25 _ := B0.below hb3 (by omega)
  have D1 := D0.alloc (.cells #[.slice (some ⟨g', 0, none⟩) 8 cap] 43)
  have D2 := (Blk.new w3 43 #[.slice (some ⟨g', 0, none⟩) 8 cap])
  have D3 : Blk w3 g' 5 cur := hh
  go_wp2_with (refine wpList_store_row rfl 25 (.tmp 0) (.tmp 8) rfl w.heap.size (cfV plc (.slice (some ⟨w3.heap.size, 0, none⟩) 1 1)) rfl rfl 25 _ D1 (by kernel_rfl) rfl (by simp [cfV, Value.oneCell']) ?_)
  have hsz3 := hb3.size
  have E0 := D1.put_ (cfV plc (.slice (some ⟨w3.heap.size, 0, none⟩) 1 1))
  have E2 := D2.setRow_ (g' := w.heap.size) (by omega) (cfV plc (.slice (some ⟨w3.heap.size, 0, none⟩) 1 1))
  have E3 := (D3.alloc (.cells #[.slice (some ⟨g', 0, none⟩) 8 cap] 43)).setRow_ (g' := w.heap.size) (by omega) (cfV plc (.slice (some ⟨w3.heap.size, 0, none⟩) 1 1))
  have E4 := (below_setRow ((hb2.trans (hb3.mono hb2.size)).alloc (by omega) (.cells #[.slice (some ⟨g', 0, none⟩) 8 cap] 43)) (g := w.heap.size) (Nat.le_refl _) (cfV plc (.slice (some ⟨w3.heap.size, 0, none⟩) 1 1)))
  have hg3 := D3.lt
  obtain ⟨d, hu1, hu2⟩ := underCf
  exact bodyPost_ret (results_cell_row (P := Try.prog) rfl _ _ w.heap.size 25 _ (0, 0) _ rfl E0 hu1 (by cases d <;> first | rfl | exact absurd hu2 Bool.false_ne_true) (by kernel_rfl)) rfl ⟨w3.heap.size, g', cap, cur, rfl, by omega, by omega, by omega, E2, E3, hnc, htake, E4⟩
end Go.Proofs.Ytoigapnpmhogdaa
