/- What is told of a ring that is not there, or a zero one; AuditNil, by walks. -/
import Derived.Test.YthmjhepjlgcgfaaAuditEqual
namespace Go.Proofs.Ythmjhepjlgcgfaa
open Go.RowKit
set_option linter.unusedVariables false
set_option linter.unusedSimpArgs false

/-- No ring: none is pointed at, or one without places. -/
def Emp (w : World) (p : Option Addr) : Prop := p = none ∨ ∃ b, p = some ⟨b, 0, none⟩ ∧ w.cell? ⟨b, 0, none⟩ = some (.slice none 0 0)
theorem Emp.below {w w' : World} {p : Option Addr} (h : Emp w p) (hb : Below w.heap.size w w') : Emp w' p := by
  rcases h with h | ⟨b, h1, h2⟩
  · exact .inl h
  · exact .inr ⟨b, h1, (hb.cell (p := ⟨b, 0, none⟩) (World.block_lt_of_cell? w ⟨b, 0, none⟩ h2)).trans h2⟩

theorem none_e (p : Option Addr) (w : World) (h : Emp w p) : Calls Try.prog 31 #[.pointer p] w fun e w' => e = .returned (.bool true) ∧ w = w' := by
  rcases h with rfl | ⟨b, rfl, hc⟩
  · go_enter Try.func31, Try.ntmps31
    go_wp2
    go_ret
    exact ⟨rfl, rfl⟩
  · go_enter Try.func31, Try.ntmps31
    go_wp2
    go_ret
    exact ⟨rfl, rfl⟩

theorem size_e (p : Option Addr) (w : World) (h : Emp w p) : Calls Try.prog 28 #[.pointer p] w fun e w' => e = .returned (.int .i64 0) ∧ w = w' := by
  have C := none_e p w h
  clear h
  go_enter Try.func28, Try.ntmps28
  go_wp2_with fail
  refine C.mono ?_
  rintro e w1 ⟨rfl, rfl⟩
  go_wp2
  go_ret
  exact ⟨rfl, rfl⟩

theorem seq_e (p : Option Addr) (w : World) (h : Emp w p) : Calls Try.prog 17 #[.pointer p] w fun e w' => e = .returned (.int .u64 0) ∧ w = w' := by
  have C := none_e p w h
  clear h
  go_enter Try.func17, Try.ntmps17
  go_wp2_with fail
  refine C.mono ?_
  rintro e w1 ⟨rfl, rfl⟩
  go_wp2
  go_ret
  exact ⟨rfl, rfl⟩

theorem len_e (p : Option Addr) (w : World) (h : Emp w p) : Calls Try.prog 16 #[.pointer p] w fun e w' => e = .returned (.int .i64 0) ∧ w = w' := by
  have C := seq_e p w h
  have D := size_e p w h
  clear h
  go_enter Try.func16, Try.ntmps16
  go_wp2_with fail
  refine C.mono ?_
  rintro e w1 ⟨rfl, rfl⟩
  go_wp2_with fail
  refine D.mono ?_
  rintro e w1 ⟨rfl, rfl⟩
  go_wp2
  go_ret
  exact ⟨rfl, rfl⟩

theorem lost_e (p : Option Addr) (w : World) (h : Emp w p) : Calls Try.prog 15 #[.pointer p] w fun e w' => e = .returned (.int .u64 0) ∧ w = w' := by
  have C := seq_e p w h
  have D := len_e p w h
  clear h
  go_enter Try.func15, Try.ntmps15
  go_wp2_with fail
  refine C.mono ?_
  rintro e w1 ⟨rfl, rfl⟩
  go_wp2_with fail
  refine D.mono ?_
  rintro e w1 ⟨rfl, rfl⟩
  go_wp2
  go_ret
  exact ⟨rfl, rfl⟩

set_option maxHeartbeats 1000000 in
theorem put_e (p : Option Addr) (w : World) (h : Emp w p) : Calls Try.prog 26 #[.pointer p, .int .u64 1, .agg #[.int .i64 0, .int .u64 0], .int .i64 0, .agg #[.int .i64 0, .int .u64 0, .int .u64 0, .int .u64 0, .int .u64 0, .int .u64 0], .int .i64 0] w fun e w' => e = .returned (.int .u64 0) ∧ Below w.heap.size w w' := by
  have C := fun w' (hb : Below w.heap.size w w') => none_e p w' (h.below hb)
  clear h
  go_enter Try.func26, Try.ntmps26
  go_wp2_with fail
  have hb := ((Below.refl w.heap.size w).alloc (Nat.le_refl _) (.cells #[.int .i64 0, .int .u64 0] 36)).alloc (by simp) (.cells #[.int .i64 0, .int .u64 0, .int .u64 0, .int .u64 0, .int .u64 0, .int .u64 0] 40)
  refine (C _ hb).mono ?_
  rintro e w1 ⟨rfl, rfl⟩
  go_wp2
  go_ret
  exact ⟨rfl, hb⟩

set_option maxRecDepth 100000 in
set_option maxHeartbeats 1000000 in
theorem of_e (p : Option Addr) (s : Int) (w : World) (h : Emp w p) (h0 : s = 0 ∨ s = 1) : Calls Try.prog 13 #[.pointer p, .int .u64 s] w fun e w' => e = .returned (.tuple #[.agg zrec.arr, .bool false]) ∧ Below w.heap.size w w' := by
  have hb := ((Below.refl w.heap.size w).alloc (Nat.le_refl _) (.cells #[.int .u64 0, .int .u64 0, .int .i64 0, .int .u64 0, .int .i64 0, .int .i64 0, .int .u64 0, .int .u64 0, .int .u64 0, .int .u64 0, .int .u64 0, .int .i64 0] 42))
  have C := lost_e p _ (h.below hb)
  have D := seq_e p _ (h.below hb)
  clear h
  rcases h0 with rfl | rfl
  all_goals
    go_enter Try.func13, Try.ntmps13
    go_wp2_with (first | (go_at_call 15; refine C.mono ?_; rintro e w' ⟨rfl, rfl⟩) | (go_at_call 17; refine D.mono ?_; rintro e w' ⟨rfl, rfl⟩))
    refine bodyPost_ret (v := .tuple #[.agg zrec.arr, .bool false]) (by simp [results, Try.results13, go_sem, zrec, Rec.arr]) rfl ⟨rfl, ?_⟩
    exact hb

set_option maxHeartbeats 1000000 in
theorem pick_e (p : Option Addr) (f : Value) (w : World) (h : Emp w p) : Calls Try.prog 33 #[.pointer p, f] w fun e w' => e = .returned (.slice none 0 0) ∧ w = w' := by
  have C := lost_e p w h
  have D := len_e p w h
  clear h
  go_enter Try.func33, Try.ntmps33
  go_wp2_with fail
  refine C.mono ?_
  rintro e w1 ⟨rfl, rfl⟩
  go_wp2_with fail
  refine D.mono ?_
  rintro e w1 ⟨rfl, rfl⟩
  go_wp2
  go_loopw [4, 13] (fun v i wr => v = .slice none 0 0 ∧ i = .int .i64 0 ∧ wr = w) (fun _ _ _ => 0)
  case atStart => exact ⟨rfl, rfl, rfl⟩
  case round =>
    obtain ⟨rfl, rfl, rfl⟩ := hrel
    go_wp2
    go_ret
    exact ⟨rfl, rfl⟩

theorem all_e (p : Option Addr) (w : World) (h : Emp w p) : Calls Try.prog 27 #[.pointer p] w fun e w' => e = .returned (.slice none 0 0) ∧ w = w' := by
  have C := fun f => pick_e p f w h
  clear h
  go_enter Try.func27, Try.ntmps27
  go_wp2_with fail
  refine (C _).mono ?_
  rintro e w1 ⟨rfl, rfl⟩
  go_wp2
  go_ret
  exact ⟨rfl, rfl⟩

theorem by_e (p : Option Addr) (w : World) (h : Emp w p) : Calls Try.prog 21 #[.pointer p, .agg #[.int .i64 0, .int .u64 0]] w fun e w' => e = .returned (.slice none 0 0) ∧ Below w.heap.size w w' := by
  have hb := (Below.refl w.heap.size w).alloc (Nat.le_refl _) (.cells #[.int .i64 0, .int .u64 0] 36)
  have C := fun f => pick_e p f _ (h.below hb)
  clear h
  go_enter Try.func21, Try.ntmps21
  go_wp2_with fail
  refine (C _).mono ?_
  rintro e w1 ⟨rfl, rfl⟩
  go_wp2
  go_ret
  exact ⟨rfl, hb⟩

theorem last_e (p : Option Addr) (w : World) (h : Emp w p) : Calls Try.prog 19 #[.pointer p, .int .i64 3] w fun e w' => e = .returned (.slice none 0 0) ∧ w = w' := by
  have C := all_e p w h
  clear h
  go_enter Try.func19, Try.ntmps19
  go_wp2_with fail
  refine C.mono ?_
  rintro e w1 ⟨rfl, rfl⟩
  go_wp2_with fail
  refine (clone_nil _).mono ?_
  rintro e w1 ⟨rfl, rfl⟩
  go_wp2
  go_ret
  exact ⟨rfl, rfl⟩

theorem copy_e (p : Option Addr) (w : World) (h : Emp w p) : Calls Try.prog 23 #[.pointer p] w fun e w' => e = .returned (.pointer none) ∧ w = w' := by
  have C := none_e p w h
  clear h
  go_enter Try.func23, Try.ntmps23
  go_wp2_with fail
  refine C.mono ?_
  rintro e w1 ⟨rfl, rfl⟩
  go_wp2
  go_ret
  exact ⟨rfl, rfl⟩

set_option maxHeartbeats 1000000 in
theorem same_ee (p q : Option Addr) (w : World) (h : Emp w p) (h' : Emp w q) : Calls Try.prog 25 #[.pointer p, .pointer q] w fun e w' => e = .returned (.bool true) ∧ Below w.heap.size w w' := by
  have S1 := size_e p w h
  have S2 := size_e q w h'
  have K1 := lost_e p w h
  have K2 := lost_e q w h'
  have A1 := all_e p w h
  have A2 := all_e q w h'
  have E := equal_row 0 0 none none 0 0 [] [] w (by simp) (by simp) (fun h => absurd rfl h) (fun h => absurd rfl h)
  rw [decide_eq_true rfl] at E
  simp only [List.length_nil] at E
  clear h h'
  go_enter Try.func25, Try.ntmps25
  go_wp2_with fail
  refine S1.mono ?_
  rintro e w1 ⟨rfl, rfl⟩
  go_wp2_with fail
  refine S2.mono ?_
  rintro e w1 ⟨rfl, rfl⟩
  go_wp2_with fail
  refine K1.mono ?_
  rintro e w1 ⟨rfl, rfl⟩
  go_wp2_with fail
  refine K2.mono ?_
  rintro e w1 ⟨rfl, rfl⟩
  go_wp2_with fail
  refine A1.mono ?_
  rintro e w1 ⟨rfl, rfl⟩
  go_wp2_with fail
  refine A2.mono ?_
  rintro e w1 ⟨rfl, rfl⟩
  go_wp2_with fail
  refine E.mono ?_
  rintro e w1 ⟨rfl, q1, rfl⟩
  go_wp2
  go_ret
  exact ⟨rfl, below_drew _ _ _⟩

set_option maxHeartbeats 1000000 in
theorem same_re (b g n : Nat) (L : Nat → Rec) (m : Nat) (q : Option Addr) (w : World) (h : Ring w b g n L m) (h' : Emp w q) : Calls Try.prog 25 #[.pointer (some ⟨b, 0, none⟩), .pointer q] w fun e w' => e = .returned (.bool false) ∧ w = w' := by
  have S1 := size_is b g n m w h.head h.lo h.hi
  have S2 := size_e q w h'
  have hn : ((n : Int) == 0) = false := by have := h.lo; simp; omega
  clear h h'
  go_enter Try.func25, Try.ntmps25
  go_wp2_with fail
  refine S1.mono ?_
  rintro e w1 ⟨rfl, rfl⟩
  go_wp2_with fail
  refine S2.mono ?_
  rintro e w1 ⟨rfl, rfl⟩
  go_wp2
  go_ret
  exact ⟨rfl, rfl⟩

set_option maxRecDepth 100000 in
set_option maxHeartbeats 4000000 in
theorem nil_walk (w : World) : Calls Try.prog 7 #[] w fun e w' => e = .returned (.bool true) ∧ Below w.heap.size w w' := by
  have E0 : ∀ w', Emp w' none := fun _ => .inl rfl
  go_enter Try.func7, Try.ntmps7
  go_wp2_with fail
  obtain ⟨w1, hw1⟩ : ∃ w1 : World, w1 = w.alloc (.cells #[.slice none 0 0, .int .u64 0] 59) := ⟨_, rfl⟩
  have b1 : Below w.heap.size w w1 := by rw [hw1]; exact (Below.refl _ w).alloc (Nat.le_refl _) _
  have E1 : Emp w1 (some ⟨w.heap.size, 0, none⟩) := .inr ⟨_, rfl, by rw [hw1]; exact (Blk.new w 59 #[.slice none 0 0, .int .u64 0]).cell 0⟩
  rw [← hw1]
  clear hw1
  have B := b1
  have E := E1
  clear b1 E1
  have C := of_e none 1 _ (E0 w1) (.inr rfl)
  simp only [zrec, Rec.arr] at C
  refine C.mono ?_
  rintro e w2 ⟨rfl, k⟩
  replace B := B.trans (k.mono B.size)
  replace E := E.below k
  clear k C
  go_wp2_with fail
  have k := (Below.refl w2.heap.size w2).alloc (Nat.le_refl _) (.cells #[.int .u64 0, .int .u64 0, .int .i64 0, .int .u64 0, .int .i64 0, .int .i64 0, .int .u64 0, .int .u64 0, .int .u64 0, .int .u64 0, .int .u64 0, .int .i64 0] 42)
  generalize w2.alloc (.cells #[.int .u64 0, .int .u64 0, .int .i64 0, .int .u64 0, .int .i64 0, .int .i64 0, .int .u64 0, .int .u64 0, .int .u64 0, .int .u64 0, .int .u64 0, .int .i64 0] 42) = w3 at *
  replace B := B.trans (k.mono B.size)
  replace E := E.below k
  clear k
  have C := of_e (some ⟨w.heap.size, 0, none⟩) 0 w3 E (.inl rfl)
  simp only [zrec, Rec.arr] at C
  refine C.mono ?_
  rintro e w4 ⟨rfl, k⟩
  replace B := B.trans (k.mono B.size)
  replace E := E.below k
  clear k C
  go_wp2_with fail
  have k := (Below.refl w4.heap.size w4).alloc (Nat.le_refl _) (.cells #[.int .u64 0, .int .u64 0, .int .i64 0, .int .u64 0, .int .i64 0, .int .i64 0, .int .u64 0, .int .u64 0, .int .u64 0, .int .u64 0, .int .u64 0, .int .i64 0] 42)
  generalize w4.alloc (.cells #[.int .u64 0, .int .u64 0, .int .i64 0, .int .u64 0, .int .i64 0, .int .i64 0, .int .u64 0, .int .u64 0, .int .u64 0, .int .u64 0, .int .u64 0, .int .i64 0] 42) = w5 at *
  replace B := B.trans (k.mono B.size)
  replace E := E.below k
  clear k
  refine (new_bad 257 w5 (by omega)).mono ?_
  rintro e w9 ⟨rfl, rfl⟩
  go_wp2_with fail
  refine (new_row 256 w5 (by omega) (by omega)).mono ?_
  rintro e w6 ⟨b, g, L, rfl, R, _, _, k⟩
  replace B := B.trans (k.mono B.size)
  replace E := E.below k
  clear k
  go_wp2_with fail
  refine (new_row 2 w6 (by omega) (by omega)).mono ?_
  rintro e w7 ⟨b', g', L', rfl, R', _, _, k⟩
  replace B := B.trans (k.mono B.size)
  replace E := E.below k
  replace R := R.below k (ring_lt R).1 (ring_lt R).2
  clear k
  go_wp2_with fail
  refine (put_e none _ (E0 _)).mono ?_
  rintro e w9 ⟨rfl, k⟩
  replace B := B.trans (k.mono B.size)
  replace E := E.below k
  replace R := R.below k (ring_lt R).1 (ring_lt R).2
  replace R' := R'.below k (ring_lt R').1 (ring_lt R').2
  clear k
  go_wp2_with fail
  refine (put_e _ _ E).mono ?_
  rintro e w9 ⟨rfl, k⟩
  replace B := B.trans (k.mono B.size)
  replace E := E.below k
  replace R := R.below k (ring_lt R).1 (ring_lt R).2
  replace R' := R'.below k (ring_lt R').1 (ring_lt R').2
  clear k
  go_wp2_with fail
  refine (all_e none _ (E0 _)).mono ?_
  rintro e w9 ⟨rfl, rfl⟩
  go_wp2_with fail
  refine (all_e _ _ E).mono ?_
  rintro e w9 ⟨rfl, rfl⟩
  go_wp2_with fail
  refine (last_e none _ (E0 _)).mono ?_
  rintro e w9 ⟨rfl, rfl⟩
  go_wp2_with fail
  refine (by_e _ _ E).mono ?_
  rintro e w9 ⟨rfl, k⟩
  replace B := B.trans (k.mono B.size)
  replace E := E.below k
  replace R := R.below k (ring_lt R).1 (ring_lt R).2
  replace R' := R'.below k (ring_lt R').1 (ring_lt R').2
  clear k
  go_wp2_with fail
  refine (len_e none _ (E0 _)).mono ?_
  rintro e w9 ⟨rfl, rfl⟩
  go_wp2_with fail
  refine (size_e _ _ E).mono ?_
  rintro e w9 ⟨rfl, rfl⟩
  go_wp2_with fail
  refine (seq_e none _ (E0 _)).mono ?_
  rintro e w9 ⟨rfl, rfl⟩
  go_wp2_with fail
  refine (seq_e _ _ E).mono ?_
  rintro e w9 ⟨rfl, rfl⟩
  go_wp2_with fail
  refine (lost_e none _ (E0 _)).mono ?_
  rintro e w9 ⟨rfl, rfl⟩
  go_wp2_with fail
  refine (lost_e _ _ E).mono ?_
  rintro e w9 ⟨rfl, rfl⟩
  go_wp2_with fail
  refine (copy_e none _ (E0 _)).mono ?_
  rintro e w9 ⟨rfl, rfl⟩
  go_wp2_with fail
  refine (copy_e _ _ E).mono ?_
  rintro e w9 ⟨rfl, rfl⟩
  go_wp2_with fail
  refine (same_ee none _ _ (E0 _) E).mono ?_
  rintro e w9 ⟨rfl, k⟩
  replace B := B.trans (k.mono B.size)
  replace E := E.below k
  replace R := R.below k (ring_lt R).1 (ring_lt R).2
  replace R' := R'.below k (ring_lt R').1 (ring_lt R').2
  clear k
  go_wp2_with fail
  refine (same_re b g 256 L 0 none _ R (E0 _)).mono ?_
  rintro e w9 ⟨rfl, rfl⟩
  have C := same_ring b g 256 L 0 b' g' 2 L' 0 _ R R'
  rw [show sameR L L' 256 0 2 0 = false from by simp [sameR]] at C
  go_wp2_with fail
  refine (C).mono ?_
  rintro e w9 ⟨rfl, k⟩
  replace B := B.trans (k.mono B.size)
  replace E := E.below k
  replace R := R.below k (ring_lt R).1 (ring_lt R).2
  replace R' := R'.below k (ring_lt R').1 (ring_lt R').2
  clear C
  clear k
  go_wp2_with fail
  refine (known_is _).mono ?_
  rintro e w9 ⟨rfl, k⟩
  go_wp2
  go_ret
  exact ⟨rfl, B.trans (k.mono B.size)⟩
end Go.Proofs.Ythmjhepjlgcgfaa
