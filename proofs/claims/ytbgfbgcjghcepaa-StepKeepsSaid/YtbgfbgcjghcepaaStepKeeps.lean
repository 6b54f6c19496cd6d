/- The law StepKeeps, by walk. -/
import Derived.Test.YtbgfbgcjghcepaaStepLawKit
import Derived.Deep.QuietTactic
import Derived.BigQuiet
namespace Go.Proofs.Ytbgfbgcjghcepaa
open Go.RowKit
set_option linter.unusedVariables false
set_option linter.unusedSimpArgs false


set_option maxRecDepth 100000 in
set_option maxHeartbeats 8000000 in
theorem keeps_long (A : Option Addr) (n cap : Nat) (g : Gr) (w : World) (hn : 2000 < n) :
    Calls Try.prog 3 #[.slice A n cap, .agg g.c] w fun e w' => e = .returned (.bool true) ∧ Below w.heap.size w w' := by
  have P1 := Blk.new w 30 g.c
  have B1 := (Below.refl w.heap.size w).alloc (Nat.le_refl _) (.cells g.c 30)
  have y8 := (P1.cell 8).trans (show g.c[8]? = some (.int .i64 g.pc) from rfl)
  have K := known_is
  have SM := small_is g.pc
  have hn1 : decide ((2000 : Int) < (n : Int)) = true := decide_eq_true (by omega)
  have P1 := Lib.hid P1
  have B1 := Lib.hid B1
  go_enter Try.func3, Try.ntmps3
  go_wp2_with (first
    | (go_at_call 7; refine (SM _).mono ?_; rintro e w2 ⟨rfl, rfl⟩)
    | (go_at_call 8; refine (K _).mono ?_; rintro e w2 ⟨rfl, hb⟩))
  go_ret
  exact ⟨rfl, B1.out.trans (hb.mono (by simp))⟩

set_option maxRecDepth 100000 in
set_option maxHeartbeats 8000000 in
theorem keeps_far (v : Value) (n : Nat) (D : Nat → Int) (g : Gr) (w : World) (h : CodeAt w v n D) (hn : ¬ 2000 < n) (hp : smallB g.pc = false) :
    Calls Try.prog 3 #[v, .agg g.c] w fun e w' => e = .returned (.bool true) ∧ Below w.heap.size w w' := by
  have P1 := Blk.new w 30 g.c
  have B1 := (Below.refl w.heap.size w).alloc (Nat.le_refl _) (.cells g.c 30)
  have y8 := (P1.cell 8).trans (show g.c[8]? = some (.int .i64 g.pc) from rfl)
  have K := known_is
  have SM := small_is g.pc
  have hn1 : decide ((2000 : Int) < (n : Int)) = false := decide_eq_false (by omega)
  rw [hp] at SM
  have P1 := Lib.hid P1
  have B1 := Lib.hid B1
  obtain ⟨-, -, A, cap, rfl, -, -⟩ := h
  go_enter Try.func3, Try.ntmps3
  go_wp2_with (first
    | (go_at_call 7; refine (SM _).mono ?_; rintro e w2 ⟨rfl, rfl⟩)
    | (go_at_call 8; refine (K _).mono ?_; rintro e w2 ⟨rfl, hb⟩))
  go_ret
  exact ⟨rfl, B1.out.trans (hb.mono (by simp))⟩

set_option maxRecDepth 100000 in
set_option maxHeartbeats 8000000 in
theorem keeps_on1 (v : Value) (n : Nat) (D : Nat → Int) (g : Gr) (w : World) (h : CodeAt w v n D) (hn : ¬ 2000 < n) (hp : smallB g.pc = true) (hr : g.Ok) (x : Gr) (cl : Array Value) (hcs : cl.size = 6) (hc1 : cl.all Value.oneCell' = true) (hs : goM n D g = ⟨x, cl, 1⟩) (hal : Alike x g) (hch : chg x g 8 ≤ 1) (hcode : x.code = g.code) :
    Calls Try.prog 3 #[v, .agg g.c] w fun e w' => e = .returned (.bool true) ∧ Below w.heap.size w w' := by
  have P1 := Blk.new w 30 g.c
  have B1 := (Below.refl w.heap.size w).alloc (Nat.le_refl _) (.cells g.c 30)
  have y8 := (P1.cell 8).trans (show g.c[8]? = some (.int .i64 g.pc) from rfl)
  have K := known_is
  have SM := small_is g.pc
  have hn1 : decide ((2000 : Int) < (n : Int)) = false := decide_eq_false (by omega)
  rw [hp] at SM
  have hcs := Lib.hid hcs
  have hc1 := Lib.hid hc1
  have hal := Lib.hid hal
  have GO := go_is v n D g _ (h.below (B := 0) B1) hr
  rw [hs] at GO
  unfold Step.v at GO
  simp only at GO
  clear hs
  have hq := g_neq g
  have hch := Lib.hid hch
  have hcode := Lib.hid hcode
  have R1 := row_g
  have R2 := row_call
  have T := @two_rows
  unfold zG call0 at R1 R2 T
  have R1 := Lib.hid R1
  have R2 := Lib.hid R2
  have T := Lib.hid T
  have P1 := Lib.hid P1
  have B1 := Lib.hid B1
  obtain ⟨-, -, A, cap, rfl, -, -⟩ := h
  go_enter Try.func3, Try.ntmps3
  go_wp2_with (first
    | (go_at_call 7; refine (SM _).mono ?_; rintro e w2 ⟨rfl, rfl⟩)
    | (refine load_g (by exact P1.out) (by exact rfl) (by exact rfl) (.tmp 3) rfl (by exact rfl) ?_)
    | (go_at_call 9; refine GO.mono ?_; rintro e w2 ⟨rfl, hb⟩; (have hb1 := Lib.hid (B1.out.trans (hb.mono (by simp)))); (have P2 := Lib.hid (P1.out.below hb P1.out.lt)); clear hb)
    | (refine store_g (cs := x.c) (by exact R1.out w2) (by exact rfl) rfl (Gr.c_one x) rfl (.tmp 5) (.tmp 25) rfl (by exact rfl) (by exact rfl) ?_)
    | (refine store_call (cs := cl) (by exact R2.out w2 (x.c)) (by exact rfl) hcs.out hc1.out rfl (.tmp 6) (.tmp 26) rfl (by exact rfl) (by exact rfl) ?_; (have T1 := Lib.hid (T.out _ _ _ hb1.out hb1.out.size (x.c) cl)); (have S1 := Lib.hid (T.out _ _ _ (Below.refl w2.heap.size w2) (Nat.le_refl _) (x.c) cl)); generalize (((w2.alloc (.cells #[.int .i64 0, .bool false, .int .i64 0, .int .u64 0, .int .i64 0, .int .u64 0, .int .u8 0, .int .i64 0, .int .i64 0, .int .u64 0, .int .u64 0, .int .u64 0, .int .u64 0, .int .u64 0, .int .u64 0, .int .u64 0, .int .u64 0, .int .i64 0, .int .u64 0] 30)).alloc (.cells #[.int .i64 0, .int .u64 0, .int .u64 0, .int .u64 0, .int .u64 0, .int .u64 0] 36)).setRow w2.heap.size (x.c)).setRow (w2.heap.size + 1) cl = w3 at *)
    | fail)
  have P3 := Lib.hid (P2.out.below S1.out.2.2 P2.out.lt)
  obtain ⟨X3, C3, B3⟩ := T1.out
  have X3 := Lib.hid X3
  have B3 := Lib.hid B3
  have hne := Lib.hid (show w2.heap.size ≠ w.heap.size from Nat.ne_of_gt P2.out.lt)
  generalize w2.heap.size = xb at *
  clear C3 S1 T1 P2 hb1 y8
  go_loopw [8, 9] (fun c i wr => ∃ k : Nat, k ≤ 8 ∧ i = .int .i64 k ∧ c = .int .i64 (chg x g k) ∧ ∃ m, wr = w3.drewN m) (fun _ i _ => 8 - (intOf i).toNat)
  case atStart => exact ⟨0, by omega, rfl, rfl, 0, rfl⟩
  case round =>
    obtain ⟨k, hk, rfl, rfl, m, rfl⟩ := hrel
    have X4 := Lib.hid (X3.out.drewN m)
    have P4 := Lib.hid (P3.out.drewN m)
    by_cases hlt : k < 8
    · have q1 := (X3.out.cell (9 + k)).trans (x.reg k hlt)
      have q2 := (P3.out.cell (9 + k)).trans (g.reg k hlt)
      have hlt' : (k : Int) < 8 := by omega
      have hk0 : (0 : Int) ≤ (k : Int) := by omega
      by_cases he : x.r k = g.r k
      · have hu := Lib.hid (chg_no he)
        rw [← he] at q2
        clear he
        generalize (x.r k : Int) = a1 at *
        go_wp2_with fail
        go_quiet (fail)
        go_wp2
        go_roundw
        case rel => exact ⟨k + 1, by omega, by go_num, by rw [hu.out], m + nq, by simp [World.drewN, Nat.add_assoc]⟩
        case measure => simp [intOf]; omega
      · have hu := Lib.hid (chg_yes he)
        have he1 : ¬ (x.r k : Int) = (g.r k : Int) := by omega
        have he2 : ((x.r k : Int) == (g.r k : Int)) = false := by simpa using he1
        have he3 : ((x.r k : Int) != (g.r k : Int)) = true := by simpa using he1
        have hle : chg x g k ≤ 8 := Nat.le_trans (List.length_filter_le _ _) (by simp; omega)
        clear he
        generalize (x.r k : Int) = a1 at *
        generalize (g.r k : Int) = a2 at *
        go_wp2_with fail
        go_quiet (fail)
        go_wp2
        go_roundw
        case rel => exact ⟨k + 1, by omega, by go_num, by rw [hu.out]; go_num, m + nq, by simp [World.drewN, Nat.add_assoc]⟩
        case measure => simp [intOf]; omega
    · obtain rfl : k = 8 := by omega
      have B4 := Lib.hid (B3.out.trans (below_drewN w3 _ m))
      generalize w3.drewN m = w4 at *
      clear X3 P3 B3 hlt hk
      obtain ⟨c, hc⟩ : ∃ c : Int, c = ((chg x g 8 : Nat) : Int) := ⟨_, rfl⟩
      have hcl : c ≤ 1 := by have := hch.out; omega
      have hcd : decide (1 < c) = false := decide_eq_false (by omega)
      rw [← hc]
      clear hc
      have hxb := X4.out.lt
      have hpb := P4.out.lt
      have Y5 := Lib.hid ((Blk.new w4 30 zG).put_ x.c)
      have X5 := Lib.hid ((X4.out.alloc (.cells zG 30)).setRow_ (g' := w4.heap.size) (by omega) x.c)
      have P5 := Lib.hid ((P4.out.alloc (.cells zG 30)).setRow_ (g' := w4.heap.size) (by omega) x.c)
      have B5 := Lib.hid (below_setRow (B4.out.alloc B4.out.size (.cells zG 30)) B4.out.size x.c)
      have N4 := Lib.hid (Blk.new w4 30 zG)
      have hyb := Lib.hid B4.out.size
      have nxy := Lib.hid (Nat.ne_of_lt hxb)
      have npy := Lib.hid (Nat.ne_of_lt hpb)
      clear hxb hpb
      unfold zG at Y5 X5 P5 B5 N4
      go_wp2_with (first
        | (refine load_g (by exact X4.out) (by exact rfl) (by exact rfl) (.tmp 5) rfl (by exact rfl) ?_)
        | (refine store_g (cs := x.c) (by exact N4.out) (by exact rfl) (Gr.c_size x) (Gr.c_one x) rfl (.tmp 10) (.tmp 43) rfl (by exact rfl) (by exact rfl) ?_; generalize (w4.alloc (.cells #[.int .i64 0, .bool false, .int .i64 0, .int .u64 0, .int .i64 0, .int .u64 0, .int .u8 0, .int .i64 0, .int .i64 0, .int .u64 0, .int .u64 0, .int .u64 0, .int .u64 0, .int .u64 0, .int .u64 0, .int .u64 0, .int .u64 0, .int .i64 0, .int .u64 0] 30)).setRow w4.heap.size x.c = w5 at *; generalize w4.heap.size = yb at *; (have z8 := (P5.out.cell 8).trans (show g.c[8]? = some (.int .i64 g.pc) from rfl)); (have y8 := (Y5.out.cell 8).trans (show x.c[8]? = some (.int .i64 x.pc) from rfl)); (have f8 := Y5.out.frozen 8))
        | (refine load_regs (g := g) (by exact P5.out.far (p := ⟨yb, 8, none⟩) npy.out _) (by exact rfl) (.tmp 47) rfl (by exact rfl) ?_)
        | (refine store_regs (g := g) (by exact Y5.out.set_ 8 _) (by exact rfl) (by exact rfl) (.tmp 49) (.tmp 48) rfl (by exact rfl) (by exact rfl) ?_; (have Y6 := Lib.hid (regs_put (Y5.out.set_ 8 (.int .i64 g.pc)) g)); (have X6 := Lib.hid (far_cells nxy.out g.regs 9 _ (X5.out.far (p := ⟨yb, 8, none⟩) nxy.out (.int .i64 g.pc)))); (have P6 := Lib.hid (far_cells npy.out g.regs 9 _ (P5.out.far (p := ⟨yb, 8, none⟩) npy.out (.int .i64 g.pc)))); (have B6 := Lib.hid (below_cells hyb.out g.regs 9 _ (B5.out.setCell (p := ⟨yb, 8, none⟩) hyb.out (.int .i64 g.pc)))); clear z8 y8 f8; generalize (w5.setCell ⟨yb, 8, none⟩ (.int .i64 g.pc)).setCells yb 9 g.regs = w6 at *; (have z17 := (P6.out.cell 17).trans (show g.c[17]? = some (.int .i64 g.code) from rfl)); (have y17 : w6.cell? ⟨yb, 17, none⟩ = some (.int .i64 x.code) := (Y6.out.cell 17).trans (regs_17 x g _)); (have f17 := Y6.out.frozen 17); (have Y7 : Hid (Blk (w6.setCell ⟨yb, 17, none⟩ (.int .i64 g.code)) yb 30 g.c) := (by (have h7 := Y6.out.set_ 17 (.int .i64 g.code)); rw [alike_c hal.out] at h7; exact h7)); (have X7 := Lib.hid (X6.out.far (p := ⟨yb, 17, none⟩) nxy.out (.int .i64 g.code))); (have P7 := Lib.hid (P6.out.far (p := ⟨yb, 17, none⟩) npy.out (.int .i64 g.code))); (have x8 := (X7.out.cell 8).trans (show x.c[8]? = some (.int .i64 x.pc) from rfl)); (have x17 := (X7.out.cell 17).trans (show x.c[17]? = some (.int .i64 x.code) from rfl)); (have p8 := (P7.out.cell 8).trans (show g.c[8]? = some (.int .i64 g.pc) from rfl)); (have p17 := (P7.out.cell 17).trans (show g.c[17]? = some (.int .i64 g.code) from rfl)); rw [hcode.out] at x17)
        | (refine load_g (by exact Y7.out) (by exact rfl) rfl (.tmp 10) rfl (by exact rfl) ?_)
        | (refine load_g (by exact P7.out) (by exact rfl) rfl (.tmp 3) rfl (by exact rfl) ?_)
        | (go_at_call 8; refine (K _).mono ?_; rintro e w8 ⟨rfl, hb8⟩))
      go_ret
      have B7 := B6.out.setCell (p := ⟨yb, 17, none⟩) hyb.out (.int .i64 g.code)
      exact ⟨rfl, B7.trans (hb8.mono B7.size)⟩

set_option maxRecDepth 100000 in
set_option maxHeartbeats 8000000 in
theorem keeps_on2 (v : Value) (n : Nat) (D : Nat → Int) (g : Gr) (w : World) (h : CodeAt w v n D) (hn : ¬ 2000 < n) (hp : smallB g.pc = true) (hr : g.Ok) (x : Gr) (cl : Array Value) (hcs : cl.size = 6) (hc1 : cl.all Value.oneCell' = true) (hs : goM n D g = ⟨x, cl, 2⟩) (hal : Alike x g) (hch : chg x g 8 ≤ 1) (hcode : x.code = g.code) :
    Calls Try.prog 3 #[v, .agg g.c] w fun e w' => e = .returned (.bool true) ∧ Below w.heap.size w w' := by
  have P1 := Blk.new w 30 g.c
  have B1 := (Below.refl w.heap.size w).alloc (Nat.le_refl _) (.cells g.c 30)
  have y8 := (P1.cell 8).trans (show g.c[8]? = some (.int .i64 g.pc) from rfl)
  have K := known_is
  have SM := small_is g.pc
  have hn1 : decide ((2000 : Int) < (n : Int)) = false := decide_eq_false (by omega)
  rw [hp] at SM
  have hcs := Lib.hid hcs
  have hc1 := Lib.hid hc1
  have hal := Lib.hid hal
  have GO := go_is v n D g _ (h.below (B := 0) B1) hr
  rw [hs] at GO
  unfold Step.v at GO
  simp only at GO
  clear hs
  have hq := g_neq g
  have hch := Lib.hid hch
  have hcode := Lib.hid hcode
  have R1 := row_g
  have R2 := row_call
  have T := @two_rows
  unfold zG call0 at R1 R2 T
  have R1 := Lib.hid R1
  have R2 := Lib.hid R2
  have T := Lib.hid T
  have P1 := Lib.hid P1
  have B1 := Lib.hid B1
  obtain ⟨-, -, A, cap, rfl, -, -⟩ := h
  go_enter Try.func3, Try.ntmps3
  go_wp2_with (first
    | (go_at_call 7; refine (SM _).mono ?_; rintro e w2 ⟨rfl, rfl⟩)
    | (refine load_g (by exact P1.out) (by exact rfl) (by exact rfl) (.tmp 3) rfl (by exact rfl) ?_)
    | (go_at_call 9; refine GO.mono ?_; rintro e w2 ⟨rfl, hb⟩; (have hb1 := Lib.hid (B1.out.trans (hb.mono (by simp)))); (have P2 := Lib.hid (P1.out.below hb P1.out.lt)); clear hb)
    | (refine store_g (cs := x.c) (by exact R1.out w2) (by exact rfl) rfl (Gr.c_one x) rfl (.tmp 5) (.tmp 25) rfl (by exact rfl) (by exact rfl) ?_)
    | (refine store_call (cs := cl) (by exact R2.out w2 (x.c)) (by exact rfl) hcs.out hc1.out rfl (.tmp 6) (.tmp 26) rfl (by exact rfl) (by exact rfl) ?_; (have T1 := Lib.hid (T.out _ _ _ hb1.out hb1.out.size (x.c) cl)); (have S1 := Lib.hid (T.out _ _ _ (Below.refl w2.heap.size w2) (Nat.le_refl _) (x.c) cl)); generalize (((w2.alloc (.cells #[.int .i64 0, .bool false, .int .i64 0, .int .u64 0, .int .i64 0, .int .u64 0, .int .u8 0, .int .i64 0, .int .i64 0, .int .u64 0, .int .u64 0, .int .u64 0, .int .u64 0, .int .u64 0, .int .u64 0, .int .u64 0, .int .u64 0, .int .i64 0, .int .u64 0] 30)).alloc (.cells #[.int .i64 0, .int .u64 0, .int .u64 0, .int .u64 0, .int .u64 0, .int .u64 0] 36)).setRow w2.heap.size (x.c)).setRow (w2.heap.size + 1) cl = w3 at *)
    | fail)
  have P3 := Lib.hid (P2.out.below S1.out.2.2 P2.out.lt)
  obtain ⟨X3, C3, B3⟩ := T1.out
  have X3 := Lib.hid X3
  have B3 := Lib.hid B3
  have hne := Lib.hid (show w2.heap.size ≠ w.heap.size from Nat.ne_of_gt P2.out.lt)
  generalize w2.heap.size = xb at *
  clear C3 S1 T1 P2 hb1 y8
  go_loopw [8, 9] (fun c i wr => ∃ k : Nat, k ≤ 8 ∧ i = .int .i64 k ∧ c = .int .i64 (chg x g k) ∧ ∃ m, wr = w3.drewN m) (fun _ i _ => 8 - (intOf i).toNat)
  case atStart => exact ⟨0, by omega, rfl, rfl, 0, rfl⟩
  case round =>
    obtain ⟨k, hk, rfl, rfl, m, rfl⟩ := hrel
    have X4 := Lib.hid (X3.out.drewN m)
    have P4 := Lib.hid (P3.out.drewN m)
    by_cases hlt : k < 8
    · have q1 := (X3.out.cell (9 + k)).trans (x.reg k hlt)
      have q2 := (P3.out.cell (9 + k)).trans (g.reg k hlt)
      have hlt' : (k : Int) < 8 := by omega
      have hk0 : (0 : Int) ≤ (k : Int) := by omega
      by_cases he : x.r k = g.r k
      · have hu := Lib.hid (chg_no he)
        rw [← he] at q2
        clear he
        generalize (x.r k : Int) = a1 at *
        go_wp2_with fail
        go_quiet (fail)
        go_wp2
        go_roundw
        case rel => exact ⟨k + 1, by omega, by go_num, by rw [hu.out], m + nq, by simp [World.drewN, Nat.add_assoc]⟩
        case measure => simp [intOf]; omega
      · have hu := Lib.hid (chg_yes he)
        have he1 : ¬ (x.r k : Int) = (g.r k : Int) := by omega
        have he2 : ((x.r k : Int) == (g.r k : Int)) = false := by simpa using he1
        have he3 : ((x.r k : Int) != (g.r k : Int)) = true := by simpa using he1
        have hle : chg x g k ≤ 8 := Nat.le_trans (List.length_filter_le _ _) (by simp; omega)
        clear he
        generalize (x.r k : Int) = a1 at *
        generalize (g.r k : Int) = a2 at *
        go_wp2_with fail
        go_quiet (fail)
        go_wp2
        go_roundw
        case rel => exact ⟨k + 1, by omega, by go_num, by rw [hu.out]; go_num, m + nq, by simp [World.drewN, Nat.add_assoc]⟩
        case measure => simp [intOf]; omega
    · obtain rfl : k = 8 := by omega
      have B4 := Lib.hid (B3.out.trans (below_drewN w3 _ m))
      generalize w3.drewN m = w4 at *
      clear X3 P3 B3 hlt hk
      obtain ⟨c, hc⟩ : ∃ c : Int, c = ((chg x g 8 : Nat) : Int) := ⟨_, rfl⟩
      have hcl : c ≤ 1 := by have := hch.out; omega
      have hcd : decide (1 < c) = false := decide_eq_false (by omega)
      rw [← hc]
      clear hc
      have hxb := X4.out.lt
      have hpb := P4.out.lt
      have Y5 := Lib.hid ((Blk.new w4 30 zG).put_ x.c)
      have X5 := Lib.hid ((X4.out.alloc (.cells zG 30)).setRow_ (g' := w4.heap.size) (by omega) x.c)
      have P5 := Lib.hid ((P4.out.alloc (.cells zG 30)).setRow_ (g' := w4.heap.size) (by omega) x.c)
      have B5 := Lib.hid (below_setRow (B4.out.alloc B4.out.size (.cells zG 30)) B4.out.size x.c)
      have N4 := Lib.hid (Blk.new w4 30 zG)
      have hyb := Lib.hid B4.out.size
      have nxy := Lib.hid (Nat.ne_of_lt hxb)
      have npy := Lib.hid (Nat.ne_of_lt hpb)
      clear hxb hpb
      unfold zG at Y5 X5 P5 B5 N4
      go_wp2_with (first
        | (refine load_g (by exact X4.out) (by exact rfl) (by exact rfl) (.tmp 5) rfl (by exact rfl) ?_)
        | (refine store_g (cs := x.c) (by exact N4.out) (by exact rfl) (Gr.c_size x) (Gr.c_one x) rfl (.tmp 10) (.tmp 43) rfl (by exact rfl) (by exact rfl) ?_; generalize (w4.alloc (.cells #[.int .i64 0, .bool false, .int .i64 0, .int .u64 0, .int .i64 0, .int .u64 0, .int .u8 0, .int .i64 0, .int .i64 0, .int .u64 0, .int .u64 0, .int .u64 0, .int .u64 0, .int .u64 0, .int .u64 0, .int .u64 0, .int .u64 0, .int .i64 0, .int .u64 0] 30)).setRow w4.heap.size x.c = w5 at *; generalize w4.heap.size = yb at *; (have z8 := (P5.out.cell 8).trans (show g.c[8]? = some (.int .i64 g.pc) from rfl)); (have y8 := (Y5.out.cell 8).trans (show x.c[8]? = some (.int .i64 x.pc) from rfl)); (have f8 := Y5.out.frozen 8))
        | (refine load_regs (g := g) (by exact P5.out.far (p := ⟨yb, 8, none⟩) npy.out _) (by exact rfl) (.tmp 47) rfl (by exact rfl) ?_)
        | (refine store_regs (g := g) (by exact Y5.out.set_ 8 _) (by exact rfl) (by exact rfl) (.tmp 49) (.tmp 48) rfl (by exact rfl) (by exact rfl) ?_; (have Y6 := Lib.hid (regs_put (Y5.out.set_ 8 (.int .i64 g.pc)) g)); (have X6 := Lib.hid (far_cells nxy.out g.regs 9 _ (X5.out.far (p := ⟨yb, 8, none⟩) nxy.out (.int .i64 g.pc)))); (have P6 := Lib.hid (far_cells npy.out g.regs 9 _ (P5.out.far (p := ⟨yb, 8, none⟩) npy.out (.int .i64 g.pc)))); (have B6 := Lib.hid (below_cells hyb.out g.regs 9 _ (B5.out.setCell (p := ⟨yb, 8, none⟩) hyb.out (.int .i64 g.pc)))); clear z8 y8 f8; generalize (w5.setCell ⟨yb, 8, none⟩ (.int .i64 g.pc)).setCells yb 9 g.regs = w6 at *; (have z17 := (P6.out.cell 17).trans (show g.c[17]? = some (.int .i64 g.code) from rfl)); (have y17 : w6.cell? ⟨yb, 17, none⟩ = some (.int .i64 x.code) := (Y6.out.cell 17).trans (regs_17 x g _)); (have f17 := Y6.out.frozen 17); (have Y7 : Hid (Blk (w6.setCell ⟨yb, 17, none⟩ (.int .i64 g.code)) yb 30 g.c) := (by (have h7 := Y6.out.set_ 17 (.int .i64 g.code)); rw [alike_c hal.out] at h7; exact h7)); (have X7 := Lib.hid (X6.out.far (p := ⟨yb, 17, none⟩) nxy.out (.int .i64 g.code))); (have P7 := Lib.hid (P6.out.far (p := ⟨yb, 17, none⟩) npy.out (.int .i64 g.code))); (have x8 := (X7.out.cell 8).trans (show x.c[8]? = some (.int .i64 x.pc) from rfl)); (have x17 := (X7.out.cell 17).trans (show x.c[17]? = some (.int .i64 x.code) from rfl)); (have p8 := (P7.out.cell 8).trans (show g.c[8]? = some (.int .i64 g.pc) from rfl)); (have p17 := (P7.out.cell 17).trans (show g.c[17]? = some (.int .i64 g.code) from rfl)); rw [hcode.out] at x17)
        | (refine load_g (by exact Y7.out) (by exact rfl) rfl (.tmp 10) rfl (by exact rfl) ?_)
        | (refine load_g (by exact P7.out) (by exact rfl) rfl (.tmp 3) rfl (by exact rfl) ?_)
        | (go_at_call 8; refine (K _).mono ?_; rintro e w8 ⟨rfl, hb8⟩))
      go_ret
      have B7 := B6.out.setCell (p := ⟨yb, 17, none⟩) hyb.out (.int .i64 g.code)
      exact ⟨rfl, B7.trans (hb8.mono B7.size)⟩

set_option maxRecDepth 100000 in
set_option maxHeartbeats 8000000 in
theorem keeps_bad6 (v : Value) (n : Nat) (D : Nat → Int) (g : Gr) (w : World) (h : CodeAt w v n D) (hn : ¬ 2000 < n) (hp : smallB g.pc = true) (hr : g.Ok) (x : Gr) (cl : Array Value) (hcs : cl.size = 6) (hc1 : cl.all Value.oneCell' = true) (hs : goM n D g = ⟨x, cl, 4⟩) (hal : Alike x g) (hch : chg x g 8 = 0) (hcode : x.code = 6) (hpc : x.pc = wrap64 (g.pc + 1)) :
    Calls Try.prog 3 #[v, .agg g.c] w fun e w' => e = .returned (.bool true) ∧ Below w.heap.size w w' := by
  have P1 := Blk.new w 30 g.c
  have B1 := (Below.refl w.heap.size w).alloc (Nat.le_refl _) (.cells g.c 30)
  have y8 := (P1.cell 8).trans (show g.c[8]? = some (.int .i64 g.pc) from rfl)
  have K := known_is
  have SM := small_is g.pc
  have hn1 : decide ((2000 : Int) < (n : Int)) = false := decide_eq_false (by omega)
  rw [hp] at SM
  have hcs := Lib.hid hcs
  have hc1 := Lib.hid hc1
  have hal := Lib.hid hal
  have GO := go_is v n D g _ (h.below (B := 0) B1) hr
  rw [hs] at GO
  unfold Step.v at GO
  simp only at GO
  clear hs
  have hq := g_neq g
  have hch := Lib.hid hch
  have hcode := Lib.hid hcode
  have hpc := Lib.hid hpc
  have R1 := row_g
  have R2 := row_call
  have T := @two_rows
  unfold zG call0 at R1 R2 T
  have R1 := Lib.hid R1
  have R2 := Lib.hid R2
  have T := Lib.hid T
  have P1 := Lib.hid P1
  have B1 := Lib.hid B1
  obtain ⟨-, -, A, cap, rfl, -, -⟩ := h
  go_enter Try.func3, Try.ntmps3
  go_wp2_with (first
    | (go_at_call 7; refine (SM _).mono ?_; rintro e w2 ⟨rfl, rfl⟩)
    | (refine load_g (by exact P1.out) (by exact rfl) (by exact rfl) (.tmp 3) rfl (by exact rfl) ?_)
    | (go_at_call 9; refine GO.mono ?_; rintro e w2 ⟨rfl, hb⟩; (have hb1 := Lib.hid (B1.out.trans (hb.mono (by simp)))); (have P2 := Lib.hid (P1.out.below hb P1.out.lt)); clear hb)
    | (refine store_g (cs := x.c) (by exact R1.out w2) (by exact rfl) rfl (Gr.c_one x) rfl (.tmp 5) (.tmp 25) rfl (by exact rfl) (by exact rfl) ?_)
    | (refine store_call (cs := cl) (by exact R2.out w2 (x.c)) (by exact rfl) hcs.out hc1.out rfl (.tmp 6) (.tmp 26) rfl (by exact rfl) (by exact rfl) ?_; (have T1 := Lib.hid (T.out _ _ _ hb1.out hb1.out.size (x.c) cl)); (have S1 := Lib.hid (T.out _ _ _ (Below.refl w2.heap.size w2) (Nat.le_refl _) (x.c) cl)); generalize (((w2.alloc (.cells #[.int .i64 0, .bool false, .int .i64 0, .int .u64 0, .int .i64 0, .int .u64 0, .int .u8 0, .int .i64 0, .int .i64 0, .int .u64 0, .int .u64 0, .int .u64 0, .int .u64 0, .int .u64 0, .int .u64 0, .int .u64 0, .int .u64 0, .int .i64 0, .int .u64 0] 30)).alloc (.cells #[.int .i64 0, .int .u64 0, .int .u64 0, .int .u64 0, .int .u64 0, .int .u64 0] 36)).setRow w2.heap.size (x.c)).setRow (w2.heap.size + 1) cl = w3 at *)
    | fail)
  have P3 := Lib.hid (P2.out.below S1.out.2.2 P2.out.lt)
  obtain ⟨X3, C3, B3⟩ := T1.out
  have X3 := Lib.hid X3
  have B3 := Lib.hid B3
  have hne := Lib.hid (show w2.heap.size ≠ w.heap.size from Nat.ne_of_gt P2.out.lt)
  generalize w2.heap.size = xb at *
  clear C3 S1 T1 P2 hb1 y8
  go_loopw [8, 9] (fun c i wr => ∃ k : Nat, k ≤ 8 ∧ i = .int .i64 k ∧ c = .int .i64 (chg x g k) ∧ ∃ m, wr = w3.drewN m) (fun _ i _ => 8 - (intOf i).toNat)
  case atStart => exact ⟨0, by omega, rfl, rfl, 0, rfl⟩
  case round =>
    obtain ⟨k, hk, rfl, rfl, m, rfl⟩ := hrel
    have X4 := Lib.hid (X3.out.drewN m)
    have P4 := Lib.hid (P3.out.drewN m)
    by_cases hlt : k < 8
    · have q1 := (X3.out.cell (9 + k)).trans (x.reg k hlt)
      have q2 := (P3.out.cell (9 + k)).trans (g.reg k hlt)
      have hlt' : (k : Int) < 8 := by omega
      have hk0 : (0 : Int) ≤ (k : Int) := by omega
      by_cases he : x.r k = g.r k
      · have hu := Lib.hid (chg_no he)
        rw [← he] at q2
        clear he
        generalize (x.r k : Int) = a1 at *
        go_wp2_with fail
        go_quiet (fail)
        go_wp2
        go_roundw
        case rel => exact ⟨k + 1, by omega, by go_num, by rw [hu.out], m + nq, by simp [World.drewN, Nat.add_assoc]⟩
        case measure => simp [intOf]; omega
      · have hu := Lib.hid (chg_yes he)
        have he1 : ¬ (x.r k : Int) = (g.r k : Int) := by omega
        have he2 : ((x.r k : Int) == (g.r k : Int)) = false := by simpa using he1
        have he3 : ((x.r k : Int) != (g.r k : Int)) = true := by simpa using he1
        have hle : chg x g k ≤ 8 := Nat.le_trans (List.length_filter_le _ _) (by simp; omega)
        clear he
        generalize (x.r k : Int) = a1 at *
        generalize (g.r k : Int) = a2 at *
        go_wp2_with fail
        go_quiet (fail)
        go_wp2
        go_roundw
        case rel => exact ⟨k + 1, by omega, by go_num, by rw [hu.out]; go_num, m + nq, by simp [World.drewN, Nat.add_assoc]⟩
        case measure => simp [intOf]; omega
    · obtain rfl : k = 8 := by omega
      have B4 := Lib.hid (B3.out.trans (below_drewN w3 _ m))
      generalize w3.drewN m = w4 at *
      clear X3 P3 B3 hlt hk
      rw [hch.out]
      show Code.wp _ _ _ _ _
      have hxb := X4.out.lt
      have hpb := P4.out.lt
      have Y5 := Lib.hid ((Blk.new w4 30 zG).put_ x.c)
      have X5 := Lib.hid ((X4.out.alloc (.cells zG 30)).setRow_ (g' := w4.heap.size) (by omega) x.c)
      have P5 := Lib.hid ((P4.out.alloc (.cells zG 30)).setRow_ (g' := w4.heap.size) (by omega) x.c)
      have B5 := Lib.hid (below_setRow (B4.out.alloc B4.out.size (.cells zG 30)) B4.out.size x.c)
      have N4 := Lib.hid (Blk.new w4 30 zG)
      have hyb := Lib.hid B4.out.size
      have nxy := Lib.hid (Nat.ne_of_lt hxb)
      have npy := Lib.hid (Nat.ne_of_lt hpb)
      clear hxb hpb
      unfold zG at Y5 X5 P5 B5 N4
      go_wp2_with (first
        | (refine load_g (by exact X4.out) (by exact rfl) (by exact rfl) (.tmp 5) rfl (by exact rfl) ?_)
        | (refine store_g (cs := x.c) (by exact N4.out) (by exact rfl) (Gr.c_size x) (Gr.c_one x) rfl (.tmp 10) (.tmp 43) rfl (by exact rfl) (by exact rfl) ?_; generalize (w4.alloc (.cells #[.int .i64 0, .bool false, .int .i64 0, .int .u64 0, .int .i64 0, .int .u64 0, .int .u8 0, .int .i64 0, .int .i64 0, .int .u64 0, .int .u64 0, .int .u64 0, .int .u64 0, .int .u64 0, .int .u64 0, .int .u64 0, .int .u64 0, .int .i64 0, .int .u64 0] 30)).setRow w4.heap.size x.c = w5 at *; generalize w4.heap.size = yb at *; (have z8 := (P5.out.cell 8).trans (show g.c[8]? = some (.int .i64 g.pc) from rfl)); (have y8 := (Y5.out.cell 8).trans (show x.c[8]? = some (.int .i64 x.pc) from rfl)); (have f8 := Y5.out.frozen 8))
        | (refine load_regs (g := g) (by exact P5.out.far (p := ⟨yb, 8, none⟩) npy.out _) (by exact rfl) (.tmp 47) rfl (by exact rfl) ?_)
        | (refine store_regs (g := g) (by exact Y5.out.set_ 8 _) (by exact rfl) (by exact rfl) (.tmp 49) (.tmp 48) rfl (by exact rfl) (by exact rfl) ?_; (have Y6 := Lib.hid (regs_put (Y5.out.set_ 8 (.int .i64 g.pc)) g)); (have X6 := Lib.hid (far_cells nxy.out g.regs 9 _ (X5.out.far (p := ⟨yb, 8, none⟩) nxy.out (.int .i64 g.pc)))); (have P6 := Lib.hid (far_cells npy.out g.regs 9 _ (P5.out.far (p := ⟨yb, 8, none⟩) npy.out (.int .i64 g.pc)))); (have B6 := Lib.hid (below_cells hyb.out g.regs 9 _ (B5.out.setCell (p := ⟨yb, 8, none⟩) hyb.out (.int .i64 g.pc)))); clear z8 y8 f8; generalize (w5.setCell ⟨yb, 8, none⟩ (.int .i64 g.pc)).setCells yb 9 g.regs = w6 at *; (have z17 := (P6.out.cell 17).trans (show g.c[17]? = some (.int .i64 g.code) from rfl)); (have y17 : w6.cell? ⟨yb, 17, none⟩ = some (.int .i64 x.code) := (Y6.out.cell 17).trans (regs_17 x g _)); (have f17 := Y6.out.frozen 17); (have Y7 : Hid (Blk (w6.setCell ⟨yb, 17, none⟩ (.int .i64 g.code)) yb 30 g.c) := (by (have h7 := Y6.out.set_ 17 (.int .i64 g.code)); rw [alike_c hal.out] at h7; exact h7)); (have X7 := Lib.hid (X6.out.far (p := ⟨yb, 17, none⟩) nxy.out (.int .i64 g.code))); (have P7 := Lib.hid (P6.out.far (p := ⟨yb, 17, none⟩) npy.out (.int .i64 g.code))); (have x8 := (X7.out.cell 8).trans (show x.c[8]? = some (.int .i64 x.pc) from rfl)); (have x17 := (X7.out.cell 17).trans (show x.c[17]? = some (.int .i64 x.code) from rfl)); (have p8 := (P7.out.cell 8).trans (show g.c[8]? = some (.int .i64 g.pc) from rfl)); (have p17 := (P7.out.cell 17).trans (show g.c[17]? = some (.int .i64 g.code) from rfl)); rw [hcode.out] at x17; rw [hpc.out] at x8)
        | (refine load_g (by exact Y7.out) (by exact rfl) rfl (.tmp 10) rfl (by exact rfl) ?_)
        | (refine load_g (by exact P7.out) (by exact rfl) rfl (.tmp 3) rfl (by exact rfl) ?_)
        | (go_at_call 8; refine (K _).mono ?_; rintro e w8 ⟨rfl, hb8⟩))
      go_ret
      have B7 := B6.out.setCell (p := ⟨yb, 17, none⟩) hyb.out (.int .i64 g.code)
      exact ⟨rfl, B7.trans (hb8.mono B7.size)⟩

set_option maxRecDepth 100000 in
set_option maxHeartbeats 8000000 in
theorem keeps_bad7 (v : Value) (n : Nat) (D : Nat → Int) (g : Gr) (w : World) (h : CodeAt w v n D) (hn : ¬ 2000 < n) (hp : smallB g.pc = true) (hr : g.Ok) (x : Gr) (cl : Array Value) (hcs : cl.size = 6) (hc1 : cl.all Value.oneCell' = true) (hs : goM n D g = ⟨x, cl, 4⟩) (hal : Alike x g) (hch : chg x g 8 = 0) (hcode : x.code = 7) (hpc : x.pc = wrap64 (g.pc + 1)) :
    Calls Try.prog 3 #[v, .agg g.c] w fun e w' => e = .returned (.bool true) ∧ Below w.heap.size w w' := by
  have P1 := Blk.new w 30 g.c
  have B1 := (Below.refl w.heap.size w).alloc (Nat.le_refl _) (.cells g.c 30)
  have y8 := (P1.cell 8).trans (show g.c[8]? = some (.int .i64 g.pc) from rfl)
  have K := known_is
  have SM := small_is g.pc
  have hn1 : decide ((2000 : Int) < (n : Int)) = false := decide_eq_false (by omega)
  rw [hp] at SM
  have hcs := Lib.hid hcs
  have hc1 := Lib.hid hc1
  have hal := Lib.hid hal
  have GO := go_is v n D g _ (h.below (B := 0) B1) hr
  rw [hs] at GO
  unfold Step.v at GO
  simp only at GO
  clear hs
  have hq := g_neq g
  have hch := Lib.hid hch
  have hcode := Lib.hid hcode
  have hpc := Lib.hid hpc
  have R1 := row_g
  have R2 := row_call
  have T := @two_rows
  unfold zG call0 at R1 R2 T
  have R1 := Lib.hid R1
  have R2 := Lib.hid R2
  have T := Lib.hid T
  have P1 := Lib.hid P1
  have B1 := Lib.hid B1
  obtain ⟨-, -, A, cap, rfl, -, -⟩ := h
  go_enter Try.func3, Try.ntmps3
  go_wp2_with (first
    | (go_at_call 7; refine (SM _).mono ?_; rintro e w2 ⟨rfl, rfl⟩)
    | (refine load_g (by exact P1.out) (by exact rfl) (by exact rfl) (.tmp 3) rfl (by exact rfl) ?_)
    | (go_at_call 9; refine GO.mono ?_; rintro e w2 ⟨rfl, hb⟩; (have hb1 := Lib.hid (B1.out.trans (hb.mono (by simp)))); (have P2 := Lib.hid (P1.out.below hb P1.out.lt)); clear hb)
    | (refine store_g (cs := x.c) (by exact R1.out w2) (by exact rfl) rfl (Gr.c_one x) rfl (.tmp 5) (.tmp 25) rfl (by exact rfl) (by exact rfl) ?_)
    | (refine store_call (cs := cl) (by exact R2.out w2 (x.c)) (by exact rfl) hcs.out hc1.out rfl (.tmp 6) (.tmp 26) rfl (by exact rfl) (by exact rfl) ?_; (have T1 := Lib.hid (T.out _ _ _ hb1.out hb1.out.size (x.c) cl)); (have S1 := Lib.hid (T.out _ _ _ (Below.refl w2.heap.size w2) (Nat.le_refl _) (x.c) cl)); generalize (((w2.alloc (.cells #[.int .i64 0, .bool false, .int .i64 0, .int .u64 0, .int .i64 0, .int .u64 0, .int .u8 0, .int .i64 0, .int .i64 0, .int .u64 0, .int .u64 0, .int .u64 0, .int .u64 0, .int .u64 0, .int .u64 0, .int .u64 0, .int .u64 0, .int .i64 0, .int .u64 0] 30)).alloc (.cells #[.int .i64 0, .int .u64 0, .int .u64 0, .int .u64 0, .int .u64 0, .int .u64 0] 36)).setRow w2.heap.size (x.c)).setRow (w2.heap.size + 1) cl = w3 at *)
    | fail)
  have P3 := Lib.hid (P2.out.below S1.out.2.2 P2.out.lt)
  obtain ⟨X3, C3, B3⟩ := T1.out
  have X3 := Lib.hid X3
  have B3 := Lib.hid B3
  have hne := Lib.hid (show w2.heap.size ≠ w.heap.size from Nat.ne_of_gt P2.out.lt)
  generalize w2.heap.size = xb at *
  clear C3 S1 T1 P2 hb1 y8
  go_loopw [8, 9] (fun c i wr => ∃ k : Nat, k ≤ 8 ∧ i = .int .i64 k ∧ c = .int .i64 (chg x g k) ∧ ∃ m, wr = w3.drewN m) (fun _ i _ => 8 - (intOf i).toNat)
  case atStart => exact ⟨0, by omega, rfl, rfl, 0, rfl⟩
  case round =>
    obtain ⟨k, hk, rfl, rfl, m, rfl⟩ := hrel
    have X4 := Lib.hid (X3.out.drewN m)
    have P4 := Lib.hid (P3.out.drewN m)
    by_cases hlt : k < 8
    · have q1 := (X3.out.cell (9 + k)).trans (x.reg k hlt)
      have q2 := (P3.out.cell (9 + k)).trans (g.reg k hlt)
      have hlt' : (k : Int) < 8 := by omega
      have hk0 : (0 : Int) ≤ (k : Int) := by omega
      by_cases he : x.r k = g.r k
      · have hu := Lib.hid (chg_no he)
        rw [← he] at q2
        clear he
        generalize (x.r k : Int) = a1 at *
        go_wp2_with fail
        go_quiet (fail)
        go_wp2
        go_roundw
        case rel => exact ⟨k + 1, by omega, by go_num, by rw [hu.out], m + nq, by simp [World.drewN, Nat.add_assoc]⟩
        case measure => simp [intOf]; omega
      · have hu := Lib.hid (chg_yes he)
        have he1 : ¬ (x.r k : Int) = (g.r k : Int) := by omega
        have he2 : ((x.r k : Int) == (g.r k : Int)) = false := by simpa using he1
        have he3 : ((x.r k : Int) != (g.r k : Int)) = true := by simpa using he1
        have hle : chg x g k ≤ 8 := Nat.le_trans (List.length_filter_le _ _) (by simp; omega)
        clear he
        generalize (x.r k : Int) = a1 at *
        generalize (g.r k : Int) = a2 at *
        go_wp2_with fail
        go_quiet (fail)
        go_wp2
        go_roundw
        case rel => exact ⟨k + 1, by omega, by go_num, by rw [hu.out]; go_num, m + nq, by simp [World.drewN, Nat.add_assoc]⟩
        case measure => simp [intOf]; omega
    · obtain rfl : k = 8 := by omega
      have B4 := Lib.hid (B3.out.trans (below_drewN w3 _ m))
      generalize w3.drewN m = w4 at *
      clear X3 P3 B3 hlt hk
      rw [hch.out]
      show Code.wp _ _ _ _ _
      have hxb := X4.out.lt
      have hpb := P4.out.lt
      have Y5 := Lib.hid ((Blk.new w4 30 zG).put_ x.c)
      have X5 := Lib.hid ((X4.out.alloc (.cells zG 30)).setRow_ (g' := w4.heap.size) (by omega) x.c)
      have P5 := Lib.hid ((P4.out.alloc (.cells zG 30)).setRow_ (g' := w4.heap.size) (by omega) x.c)
      have B5 := Lib.hid (below_setRow (B4.out.alloc B4.out.size (.cells zG 30)) B4.out.size x.c)
      have N4 := Lib.hid (Blk.new w4 30 zG)
      have hyb := Lib.hid B4.out.size
      have nxy := Lib.hid (Nat.ne_of_lt hxb)
      have npy := Lib.hid (Nat.ne_of_lt hpb)
      clear hxb hpb
      unfold zG at Y5 X5 P5 B5 N4
      go_wp2_with (first
        | (refine load_g (by exact X4.out) (by exact rfl) (by exact rfl) (.tmp 5) rfl (by exact rfl) ?_)
        | (refine store_g (cs := x.c) (by exact N4.out) (by exact rfl) (Gr.c_size x) (Gr.c_one x) rfl (.tmp 10) (.tmp 43) rfl (by exact rfl) (by exact rfl) ?_; generalize (w4.alloc (.cells #[.int .i64 0, .bool false, .int .i64 0, .int .u64 0, .int .i64 0, .int .u64 0, .int .u8 0, .int .i64 0, .int .i64 0, .int .u64 0, .int .u64 0, .int .u64 0, .int .u64 0, .int .u64 0, .int .u64 0, .int .u64 0, .int .u64 0, .int .i64 0, .int .u64 0] 30)).setRow w4.heap.size x.c = w5 at *; generalize w4.heap.size = yb at *; (have z8 := (P5.out.cell 8).trans (show g.c[8]? = some (.int .i64 g.pc) from rfl)); (have y8 := (Y5.out.cell 8).trans (show x.c[8]? = some (.int .i64 x.pc) from rfl)); (have f8 := Y5.out.frozen 8))
        | (refine load_regs (g := g) (by exact P5.out.far (p := ⟨yb, 8, none⟩) npy.out _) (by exact rfl) (.tmp 47) rfl (by exact rfl) ?_)
        | (refine store_regs (g := g) (by exact Y5.out.set_ 8 _) (by exact rfl) (by exact rfl) (.tmp 49) (.tmp 48) rfl (by exact rfl) (by exact rfl) ?_; (have Y6 := Lib.hid (regs_put (Y5.out.set_ 8 (.int .i64 g.pc)) g)); (have X6 := Lib.hid (far_cells nxy.out g.regs 9 _ (X5.out.far (p := ⟨yb, 8, none⟩) nxy.out (.int .i64 g.pc)))); (have P6 := Lib.hid (far_cells npy.out g.regs 9 _ (P5.out.far (p := ⟨yb, 8, none⟩) npy.out (.int .i64 g.pc)))); (have B6 := Lib.hid (below_cells hyb.out g.regs 9 _ (B5.out.setCell (p := ⟨yb, 8, none⟩) hyb.out (.int .i64 g.pc)))); clear z8 y8 f8; generalize (w5.setCell ⟨yb, 8, none⟩ (.int .i64 g.pc)).setCells yb 9 g.regs = w6 at *; (have z17 := (P6.out.cell 17).trans (show g.c[17]? = some (.int .i64 g.code) from rfl)); (have y17 : w6.cell? ⟨yb, 17, none⟩ = some (.int .i64 x.code) := (Y6.out.cell 17).trans (regs_17 x g _)); (have f17 := Y6.out.frozen 17); (have Y7 : Hid (Blk (w6.setCell ⟨yb, 17, none⟩ (.int .i64 g.code)) yb 30 g.c) := (by (have h7 := Y6.out.set_ 17 (.int .i64 g.code)); rw [alike_c hal.out] at h7; exact h7)); (have X7 := Lib.hid (X6.out.far (p := ⟨yb, 17, none⟩) nxy.out (.int .i64 g.code))); (have P7 := Lib.hid (P6.out.far (p := ⟨yb, 17, none⟩) npy.out (.int .i64 g.code))); (have x8 := (X7.out.cell 8).trans (show x.c[8]? = some (.int .i64 x.pc) from rfl)); (have x17 := (X7.out.cell 17).trans (show x.c[17]? = some (.int .i64 x.code) from rfl)); (have p8 := (P7.out.cell 8).trans (show g.c[8]? = some (.int .i64 g.pc) from rfl)); (have p17 := (P7.out.cell 17).trans (show g.c[17]? = some (.int .i64 g.code) from rfl)); rw [hcode.out] at x17; rw [hpc.out] at x8)
        | (refine load_g (by exact Y7.out) (by exact rfl) rfl (.tmp 10) rfl (by exact rfl) ?_)
        | (refine load_g (by exact P7.out) (by exact rfl) rfl (.tmp 3) rfl (by exact rfl) ?_)
        | (go_at_call 8; refine (K _).mono ?_; rintro e w8 ⟨rfl, hb8⟩))
      go_ret
      have B7 := B6.out.setCell (p := ⟨yb, 17, none⟩) hyb.out (.int .i64 g.code)
      exact ⟨rfl, B7.trans (hb8.mono B7.size)⟩

set_option maxRecDepth 100000 in
set_option maxHeartbeats 8000000 in
theorem keeps_over (v : Value) (n : Nat) (D : Nat → Int) (g : Gr) (w : World) (h : CodeAt w v n D) (hn : ¬ 2000 < n) (hp : smallB g.pc = true) (hr : g.Ok) (x : Gr) (cl : Array Value) (hcs : cl.size = 6) (hc1 : cl.all Value.oneCell' = true) (hs : goM n D g = ⟨x, cl, 3⟩) (hal : Alike x g) (hch : chg x g 8 = 0) (hx : x = g) :
    Calls Try.prog 3 #[v, .agg g.c] w fun e w' => e = .returned (.bool true) ∧ Below w.heap.size w w' := by
  have P1 := Blk.new w 30 g.c
  have B1 := (Below.refl w.heap.size w).alloc (Nat.le_refl _) (.cells g.c 30)
  have y8 := (P1.cell 8).trans (show g.c[8]? = some (.int .i64 g.pc) from rfl)
  have K := known_is
  have SM := small_is g.pc
  have hn1 : decide ((2000 : Int) < (n : Int)) = false := decide_eq_false (by omega)
  rw [hp] at SM
  have hcs := Lib.hid hcs
  have hc1 := Lib.hid hc1
  have hal := Lib.hid hal
  have GO := go_is v n D g _ (h.below (B := 0) B1) hr
  rw [hs] at GO
  unfold Step.v at GO
  simp only at GO
  clear hs
  have hq := g_neq g
  have hch := Lib.hid hch
  have hxg := Lib.hid hx
  clear hx
  have R1 := row_g
  have R2 := row_call
  have T := @two_rows
  unfold zG call0 at R1 R2 T
  have R1 := Lib.hid R1
  have R2 := Lib.hid R2
  have T := Lib.hid T
  have P1 := Lib.hid P1
  have B1 := Lib.hid B1
  obtain ⟨-, -, A, cap, rfl, -, -⟩ := h
  go_enter Try.func3, Try.ntmps3
  go_wp2_with (first
    | (go_at_call 7; refine (SM _).mono ?_; rintro e w2 ⟨rfl, rfl⟩)
    | (refine load_g (by exact P1.out) (by exact rfl) (by exact rfl) (.tmp 3) rfl (by exact rfl) ?_)
    | (go_at_call 9; refine GO.mono ?_; rintro e w2 ⟨rfl, hb⟩; (have hb1 := Lib.hid (B1.out.trans (hb.mono (by simp)))); (have P2 := Lib.hid (P1.out.below hb P1.out.lt)); clear hb)
    | (refine store_g (cs := x.c) (by exact R1.out w2) (by exact rfl) rfl (Gr.c_one x) rfl (.tmp 5) (.tmp 25) rfl (by exact rfl) (by exact rfl) ?_)
    | (refine store_call (cs := cl) (by exact R2.out w2 (x.c)) (by exact rfl) hcs.out hc1.out rfl (.tmp 6) (.tmp 26) rfl (by exact rfl) (by exact rfl) ?_; (have T1 := Lib.hid (T.out _ _ _ hb1.out hb1.out.size (x.c) cl)); (have S1 := Lib.hid (T.out _ _ _ (Below.refl w2.heap.size w2) (Nat.le_refl _) (x.c) cl)); generalize (((w2.alloc (.cells #[.int .i64 0, .bool false, .int .i64 0, .int .u64 0, .int .i64 0, .int .u64 0, .int .u8 0, .int .i64 0, .int .i64 0, .int .u64 0, .int .u64 0, .int .u64 0, .int .u64 0, .int .u64 0, .int .u64 0, .int .u64 0, .int .u64 0, .int .i64 0, .int .u64 0] 30)).alloc (.cells #[.int .i64 0, .int .u64 0, .int .u64 0, .int .u64 0, .int .u64 0, .int .u64 0] 36)).setRow w2.heap.size (x.c)).setRow (w2.heap.size + 1) cl = w3 at *)
    | fail)
  have P3 := Lib.hid (P2.out.below S1.out.2.2 P2.out.lt)
  obtain ⟨X3, C3, B3⟩ := T1.out
  have X3 := Lib.hid X3
  have B3 := Lib.hid B3
  have hne := Lib.hid (show w2.heap.size ≠ w.heap.size from Nat.ne_of_gt P2.out.lt)
  generalize w2.heap.size = xb at *
  clear C3 S1 T1 P2 hb1 y8
  go_loopw [8, 9] (fun c i wr => ∃ k : Nat, k ≤ 8 ∧ i = .int .i64 k ∧ c = .int .i64 (chg x g k) ∧ ∃ m, wr = w3.drewN m) (fun _ i _ => 8 - (intOf i).toNat)
  case atStart => exact ⟨0, by omega, rfl, rfl, 0, rfl⟩
  case round =>
    obtain ⟨k, hk, rfl, rfl, m, rfl⟩ := hrel
    have X4 := Lib.hid (X3.out.drewN m)
    have P4 := Lib.hid (P3.out.drewN m)
    by_cases hlt : k < 8
    · have q1 := (X3.out.cell (9 + k)).trans (x.reg k hlt)
      have q2 := (P3.out.cell (9 + k)).trans (g.reg k hlt)
      have hlt' : (k : Int) < 8 := by omega
      have hk0 : (0 : Int) ≤ (k : Int) := by omega
      by_cases he : x.r k = g.r k
      · have hu := Lib.hid (chg_no he)
        rw [← he] at q2
        clear he
        generalize (x.r k : Int) = a1 at *
        go_wp2_with fail
        go_quiet (fail)
        go_wp2
        go_roundw
        case rel => exact ⟨k + 1, by omega, by go_num, by rw [hu.out], m + nq, by simp [World.drewN, Nat.add_assoc]⟩
        case measure => simp [intOf]; omega
      · have hu := Lib.hid (chg_yes he)
        have he1 : ¬ (x.r k : Int) = (g.r k : Int) := by omega
        have he2 : ((x.r k : Int) == (g.r k : Int)) = false := by simpa using he1
        have he3 : ((x.r k : Int) != (g.r k : Int)) = true := by simpa using he1
        have hle : chg x g k ≤ 8 := Nat.le_trans (List.length_filter_le _ _) (by simp; omega)
        clear he
        generalize (x.r k : Int) = a1 at *
        generalize (g.r k : Int) = a2 at *
        go_wp2_with fail
        go_quiet (fail)
        go_wp2
        go_roundw
        case rel => exact ⟨k + 1, by omega, by go_num, by rw [hu.out]; go_num, m + nq, by simp [World.drewN, Nat.add_assoc]⟩
        case measure => simp [intOf]; omega
    · obtain rfl : k = 8 := by omega
      have B4 := Lib.hid (B3.out.trans (below_drewN w3 _ m))
      generalize w3.drewN m = w4 at *
      clear X3 P3 B3 hlt hk
      rw [hch.out]
      show Code.wp _ _ _ _ _
      have hxb := X4.out.lt
      have hpb := P4.out.lt
      have Y5 := Lib.hid ((Blk.new w4 30 zG).put_ x.c)
      have X5 := Lib.hid ((X4.out.alloc (.cells zG 30)).setRow_ (g' := w4.heap.size) (by omega) x.c)
      have P5 := Lib.hid ((P4.out.alloc (.cells zG 30)).setRow_ (g' := w4.heap.size) (by omega) x.c)
      have B5 := Lib.hid (below_setRow (B4.out.alloc B4.out.size (.cells zG 30)) B4.out.size x.c)
      have N4 := Lib.hid (Blk.new w4 30 zG)
      have hyb := Lib.hid B4.out.size
      have nxy := Lib.hid (Nat.ne_of_lt hxb)
      have npy := Lib.hid (Nat.ne_of_lt hpb)
      clear hxb hpb
      unfold zG at Y5 X5 P5 B5 N4
      go_wp2_with (first
        | (refine load_g (by exact X4.out) (by exact rfl) (by exact rfl) (.tmp 5) rfl (by exact rfl) ?_)
        | (refine store_g (cs := x.c) (by exact N4.out) (by exact rfl) (Gr.c_size x) (Gr.c_one x) rfl (.tmp 10) (.tmp 43) rfl (by exact rfl) (by exact rfl) ?_; generalize (w4.alloc (.cells #[.int .i64 0, .bool false, .int .i64 0, .int .u64 0, .int .i64 0, .int .u64 0, .int .u8 0, .int .i64 0, .int .i64 0, .int .u64 0, .int .u64 0, .int .u64 0, .int .u64 0, .int .u64 0, .int .u64 0, .int .u64 0, .int .u64 0, .int .i64 0, .int .u64 0] 30)).setRow w4.heap.size x.c = w5 at *; generalize w4.heap.size = yb at *; (have z8 := (P5.out.cell 8).trans (show g.c[8]? = some (.int .i64 g.pc) from rfl)); (have y8 := (Y5.out.cell 8).trans (show x.c[8]? = some (.int .i64 x.pc) from rfl)); (have f8 := Y5.out.frozen 8))
        | (refine load_regs (g := g) (by exact P5.out.far (p := ⟨yb, 8, none⟩) npy.out _) (by exact rfl) (.tmp 47) rfl (by exact rfl) ?_)
        | (refine store_regs (g := g) (by exact Y5.out.set_ 8 _) (by exact rfl) (by exact rfl) (.tmp 49) (.tmp 48) rfl (by exact rfl) (by exact rfl) ?_; (have Y6 := Lib.hid (regs_put (Y5.out.set_ 8 (.int .i64 g.pc)) g)); (have X6 := Lib.hid (far_cells nxy.out g.regs 9 _ (X5.out.far (p := ⟨yb, 8, none⟩) nxy.out (.int .i64 g.pc)))); (have P6 := Lib.hid (far_cells npy.out g.regs 9 _ (P5.out.far (p := ⟨yb, 8, none⟩) npy.out (.int .i64 g.pc)))); (have B6 := Lib.hid (below_cells hyb.out g.regs 9 _ (B5.out.setCell (p := ⟨yb, 8, none⟩) hyb.out (.int .i64 g.pc)))); clear z8 y8 f8; generalize (w5.setCell ⟨yb, 8, none⟩ (.int .i64 g.pc)).setCells yb 9 g.regs = w6 at *; (have z17 := (P6.out.cell 17).trans (show g.c[17]? = some (.int .i64 g.code) from rfl)); (have y17 : w6.cell? ⟨yb, 17, none⟩ = some (.int .i64 x.code) := (Y6.out.cell 17).trans (regs_17 x g _)); (have f17 := Y6.out.frozen 17); (have Y7 : Hid (Blk (w6.setCell ⟨yb, 17, none⟩ (.int .i64 g.code)) yb 30 g.c) := (by (have h7 := Y6.out.set_ 17 (.int .i64 g.code)); rw [alike_c hal.out] at h7; exact h7)); (have X7 := Lib.hid (X6.out.far (p := ⟨yb, 17, none⟩) nxy.out (.int .i64 g.code))); (have P7 := Lib.hid (P6.out.far (p := ⟨yb, 17, none⟩) npy.out (.int .i64 g.code))); (have x8 := (X7.out.cell 8).trans (show x.c[8]? = some (.int .i64 x.pc) from rfl)); (have x17 := (X7.out.cell 17).trans (show x.c[17]? = some (.int .i64 x.code) from rfl)); (have p8 := (P7.out.cell 8).trans (show g.c[8]? = some (.int .i64 g.pc) from rfl)); (have p17 := (P7.out.cell 17).trans (show g.c[17]? = some (.int .i64 g.code) from rfl)); rw [hxg.out] at x17 x8 X7)
        | (refine load_g (by exact Y7.out) (by exact rfl) rfl (.tmp 10) rfl (by exact rfl) ?_)
        | (refine load_g (by exact P7.out) (by exact rfl) rfl (.tmp 3) rfl (by exact rfl) ?_)
        | (refine load_gW (by exact P7.out) (by exact rfl) (.tmp 3) rfl (by exact rfl) (by kernel_rfl) ?_)
        | (refine load_gW (by exact X7.out) (by exact rfl) (.tmp 5) rfl (by exact rfl) (by kernel_rfl) ?_)
        | (go_at_call 8; refine (K _).mono ?_; rintro e w8 ⟨rfl, hb8⟩))
      go_ret
      have B7 := B6.out.setCell (p := ⟨yb, 17, none⟩) hyb.out (.int .i64 g.code)
      exact ⟨rfl, B7.trans (hb8.mono B7.size)⟩

theorem go_cl (n : Nat) (D : Nat → Int) (g : Gr) : (goM n D g).cl.size = 6 ∧ (goM n D g).cl.all Value.oneCell' = true := by
  unfold goM
  split
  · exact ⟨rfl, call0_one⟩
  · cases hd : doM n D g with
    | ok g' cl k => exact do_cl n D g g' cl k hd
    | bad z => exact ⟨rfl, call0_one⟩

theorem keeps_walk (A : Option Addr) (n cap : Nat) (D : Nat → Int) (g : Gr) (w : World) (hh : n < 1000000000 → CodeAt w (.slice A n cap) n D) (hr : g.Ok) :
    Calls Try.prog 3 #[.slice A n cap, .agg g.c] w fun e w' => e = .returned (.bool true) ∧ Below w.heap.size w w' := by
  by_cases hn : 2000 < n
  · exact keeps_long A n cap g w hn
  · have h := hh (by omega)
    generalize Value.slice A n cap = v at h ⊢
    cases hp : smallB g.pc with
    | false => exact keeps_far v n D g w h hn hp
    | true =>
      obtain ⟨c1, c2⟩ := go_cl n D g
      have hF := go_form n D h.2.1 g hr
      generalize hs : goM n D g = s at hF c1 c2
      cases hF with
      | over _ => exact keeps_over v n D g w h hn hp hr g call0 c1 c2 hs rfl (chg_none (fun _ => rfl) 8) rfl
      | to p cl k _ hk _ _ =>
        have hc : chg (g.to p) g 8 ≤ 1 := by rw [chg_none (x := g.to p) (g := g) (fun _ => rfl) 8]; omega
        rcases hk with rfl | rfl
        · exact keeps_on1 v n D g w h hn hp hr _ cl c1 c2 hs rfl hc rfl
        · exact keeps_on2 v n D g w h hn hp hr _ cl c1 c2 hs rfl hc rfl
      | put i x hi _ _ _ =>
        have hc := chg_one (x := g.put i x) (g := g) (i := i) (fun j hj => if_neg hj) 8
        rw [if_pos hi] at hc
        exact keeps_on1 v n D g w h hn hp hr _ call0 c1 c2 hs rfl hc rfl
      | bad z hz _ =>
        rcases hz with rfl | rfl
        · exact keeps_bad6 v n D g w h hn hp hr _ call0 c1 c2 hs rfl (chg_none (fun _ => rfl) 8) rfl rfl
        · exact keeps_bad7 v n D g w h hn hp hr _ call0 c1 c2 hs rfl (chg_none (fun _ => rfl) 8) rfl rfl
end Go.Proofs.Ytbgfbgcjghcepaa
