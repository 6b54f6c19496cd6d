/- The law StepStays, by walk. -/
import Derived.Test.YtbgfbgcjghcepaaStepLawKit
import Derived.Deep.QuietTactic
import Derived.BigQuiet
namespace Go.Proofs.Ytbgfbgcjghcepaa
open Go.RowKit
set_option linter.unusedVariables false
set_option linter.unusedSimpArgs false

theorem go_row (n : Nat) (D : Nat → Int) (g : Gr) : (goM n D g).cl.size = 6 ∧ (goM n D g).cl.all Value.oneCell' = true := by
  unfold goM
  split
  · exact ⟨rfl, call0_one⟩
  · cases hd : doM n D g with
    | ok g' cl k => exact do_cl n D g g' cl k hd
    | bad z => exact ⟨rfl, call0_one⟩
theorem stays_step (n : Nat) (D : Nat → Int) (hD : ∀ i, 0 ≤ D i) (hn : n ≤ 400) (g : Gr) (hg : g.Ok) (h0 : 0 ≤ g.pc) (h1 : g.pc ≤ ((n / 4 : Nat) : Int) + 1) :
    (goM n D g).g.Ok ∧ 0 ≤ (goM n D g).g.pc ∧ (goM n D g).g.pc ≤ ((n / 4 : Nat) : Int) + 1 ∧ 1 ≤ (goM n D g).w ∧ (goM n D g).w ≤ 4 ∧ ((goM n D g).w = 3 → (goM n D g).g = g ∧ ((n / 4 : Nat) : Int) ≤ g.pc) := by
  have hF := go_form n D hD g hg
  generalize goM n D g = s at hF
  have hw : wrap64 (g.pc + 1) = g.pc + 1 := by unfold wrap64; omega
  cases hF with
  | over h => exact ⟨hg, h0, h1, (by decide : (1 : Int) ≤ 3), (by decide : (3 : Int) ≤ 4), fun _ => ⟨rfl, h⟩⟩
  | to p cl k hp hk h2 h3 =>
    refine ⟨hg, ?_, ?_, ?_, ?_, ?_⟩
    · show 0 ≤ p
      rcases hp with rfl | hp <;> omega
    · show p ≤ _
      rcases hp with rfl | hp <;> omega
    · show 1 ≤ k
      omega
    · show k ≤ 4
      omega
    · intro h
      have h : k = 3 := h
      omega
  | put i x hi hx h2 h3 =>
    refine ⟨fun j => ?_, ?_, ?_, (by decide : (1 : Int) ≤ 1), (by decide : (1 : Int) ≤ 4), fun h => absurd h (by decide : ¬ (1 : Int) = 3)⟩
    · show (if j = i then x else g.r j) < M64
      split
      · exact hx
      · exact hg j
    · show 0 ≤ wrap64 (g.pc + 1)
      omega
    · show wrap64 (g.pc + 1) ≤ _
      omega
  | bad z hz h2 =>
    refine ⟨hg, ?_, ?_, (by decide : (1 : Int) ≤ 4), (by decide : (4 : Int) ≤ 4), fun h => absurd h (by decide : ¬ (4 : Int) = 3)⟩
    · show 0 ≤ wrap64 (g.pc + 1)
      omega
    · show wrap64 (g.pc + 1) ≤ _
      omega

set_option maxRecDepth 100000 in
set_option maxHeartbeats 4000000 in
theorem stays_long (A : Option Addr) (n cap : Nat) (g : Gr) (most : Int) (w : World) (hn : 400 < n) :
    Calls Try.prog 4 #[.slice A n cap, .agg g.c, .int .i64 most] w fun e w' => e = .returned (.bool true) ∧ Below w.heap.size w w' := by
  have P1 := Blk.new w 30 g.c
  have B1 := (Below.refl w.heap.size w).alloc (Nat.le_refl _) (.cells g.c 30)
  have y8 := (P1.cell 8).trans (show g.c[8]? = some (.int .i64 g.pc) from rfl)
  have K := known_is
  have hn1 : decide ((400 : Int) < (n : Int)) = true := decide_eq_true (by omega)
  have P1 := Lib.hid P1
  have B1 := Lib.hid B1
  go_enter Try.func4, Try.ntmps4
  go_wp2_with (go_at_call 8; refine (K _).mono ?_; rintro e w2 ⟨rfl, hb⟩)
  go_ret
  exact ⟨rfl, B1.out.trans (hb.mono (by simp))⟩
set_option maxRecDepth 100000 in
set_option maxHeartbeats 4000000 in
theorem stays_neg (A : Option Addr) (n cap : Nat) (g : Gr) (most : Int) (w : World) (hn : ¬ 400 < n) (hp : g.pc < 0) :
    Calls Try.prog 4 #[.slice A n cap, .agg g.c, .int .i64 most] w fun e w' => e = .returned (.bool true) ∧ Below w.heap.size w w' := by
  have P1 := Blk.new w 30 g.c
  have B1 := (Below.refl w.heap.size w).alloc (Nat.le_refl _) (.cells g.c 30)
  have y8 := (P1.cell 8).trans (show g.c[8]? = some (.int .i64 g.pc) from rfl)
  have K := known_is
  have hn1 : decide ((400 : Int) < (n : Int)) = false := decide_eq_false (by omega)
  have P1 := Lib.hid P1
  have B1 := Lib.hid B1
  go_enter Try.func4, Try.ntmps4
  go_wp2_with (go_at_call 8; refine (K _).mono ?_; rintro e w2 ⟨rfl, hb⟩)
  go_ret
  exact ⟨rfl, B1.out.trans (hb.mono (by simp))⟩
set_option maxRecDepth 100000 in
set_option maxHeartbeats 4000000 in
theorem stays_far (A : Option Addr) (n cap : Nat) (g : Gr) (most : Int) (w : World) (hn : ¬ 400 < n) (hp : ¬ g.pc < 0) (hq : ((n / 4 : Nat) : Int) + 1 < g.pc) :
    Calls Try.prog 4 #[.slice A n cap, .agg g.c, .int .i64 most] w fun e w' => e = .returned (.bool true) ∧ Below w.heap.size w w' := by
  have P1 := Blk.new w 30 g.c
  have B1 := (Below.refl w.heap.size w).alloc (Nat.le_refl _) (.cells g.c 30)
  have y8 := (P1.cell 8).trans (show g.c[8]? = some (.int .i64 g.pc) from rfl)
  have K := known_is
  have hn1 : decide ((400 : Int) < (n : Int)) = false := decide_eq_false (by omega)
  have hp1 : decide (g.pc < 0) = false := decide_eq_false (by omega)
  have P1 := Lib.hid P1
  have B1 := Lib.hid B1
  go_enter Try.func4, Try.ntmps4
  go_wp2_with (go_at_call 8; refine (K _).mono ?_; rintro e w2 ⟨rfl, hb⟩)
  go_ret
  exact ⟨rfl, B1.out.trans (hb.mono (by simp))⟩
set_option maxRecDepth 100000 in
set_option maxHeartbeats 4000000 in
theorem stays_many (A : Option Addr) (n cap : Nat) (g : Gr) (most : Int) (w : World) (hn : ¬ 400 < n) (hp : ¬ g.pc < 0) (hq : ¬ ((n / 4 : Nat) : Int) + 1 < g.pc) (hm : 300 < most) :
    Calls Try.prog 4 #[.slice A n cap, .agg g.c, .int .i64 most] w fun e w' => e = .returned (.bool true) ∧ Below w.heap.size w w' := by
  have P1 := Blk.new w 30 g.c
  have B1 := (Below.refl w.heap.size w).alloc (Nat.le_refl _) (.cells g.c 30)
  have y8 := (P1.cell 8).trans (show g.c[8]? = some (.int .i64 g.pc) from rfl)
  have K := known_is
  have hn1 : decide ((400 : Int) < (n : Int)) = false := decide_eq_false (by omega)
  have hp1 : decide (g.pc < 0) = false := decide_eq_false (by omega)
  have hq1 : decide ((n : Int) / 4 + 1 < g.pc) = false := decide_eq_false (by omega)
  have P1 := Lib.hid P1
  have B1 := Lib.hid B1
  go_enter Try.func4, Try.ntmps4
  go_wp2_with (go_at_call 8; refine (K _).mono ?_; rintro e w2 ⟨rfl, hb⟩)
  go_ret
  exact ⟨rfl, B1.out.trans (hb.mono (by simp))⟩

def StaysOk (n : Nat) (g : Gr) : Prop := g.Ok ∧ 0 ≤ g.pc ∧ g.pc ≤ ((n / 4 : Nat) : Int) + 1
set_option maxRecDepth 100000 in
set_option maxHeartbeats 4000000 in
theorem stays_go (A : Option Addr) (n cap : Nat) (D : Nat → Int) (g : Gr) (most : Int) (w : World) (h : CodeAt w (.slice A n cap) n D) (hr : g.Ok) (hn : ¬ 400 < n) (hp : ¬ g.pc < 0) (hq : ¬ ((n / 4 : Nat) : Int) + 1 < g.pc) (hm : ¬ 300 < most) :
    Calls Try.prog 4 #[.slice A n cap, .agg g.c, .int .i64 most] w fun e w' => e = .returned (.bool true) ∧ Below w.heap.size w w' := by
  have P1 := Blk.new w 30 g.c
  have B1 := (Below.refl w.heap.size w).alloc (Nat.le_refl _) (.cells g.c 30)
  have y8 := (P1.cell 8).trans (show g.c[8]? = some (.int .i64 g.pc) from rfl)
  have K := known_is
  have hn1 : decide ((400 : Int) < (n : Int)) = false := decide_eq_false (by omega)
  have hp1 : decide (g.pc < 0) = false := decide_eq_false (by omega)
  have hq1 : decide ((n : Int) / 4 + 1 < g.pc) = false := decide_eq_false (by omega)
  have hm1 : decide (300 < most) = false := decide_eq_false hm
  have hD := Lib.hid h.2.1
  have hS : Hid (StaysOk n g) := Lib.hid ⟨hr, by omega, by omega⟩
  have GOC := fun (g' : Gr) (hg' : g'.Ok) (wr : World) (hb : Below w.heap.size w wr) => go_is (.slice A n cap) n D g' wr (h.below (B := 0) hb) hg'
  have GOC := Lib.hid GOC
  clear h
  have R1 := row_g
  have R2 := row_call
  have T := @two_rows
  unfold zG call0 at R1 R2 T
  have R1 := Lib.hid R1
  have R2 := Lib.hid R2
  have T := Lib.hid T
  have P1 := Lib.hid P1
  have B1 := Lib.hid B1
  go_enter Try.func4, Try.ntmps4
  go_wp2_with fail
  go_loopw [8] (fun i wr => ∃ (k : Nat) (g' : Gr), i = .int .i64 k ∧ Hid (StaysOk n g') ∧ Hid (Blk wr w.heap.size 30 g'.c) ∧ Hid (Below w.heap.size w wr)) (fun i _ => (most - intOf i).toNat)
  case atStart => exact ⟨0, g, rfl, hS, P1, B1⟩
  case round =>
    obtain ⟨k, g', rfl, F0, P2, B2⟩ := hrel
    clear P1 B1 hS hr
    have hp2 := trivial
    by_cases hlt : (k : Int) < most
    · have F := Lib.hid (stays_step n D hD.out (by omega) g' F0.out.1 F0.out.2.1 F0.out.2.2)
      have GO := Lib.hid (fun wr hb => GOC.out g' F0.out.1 wr hb)
      have CL := go_row n D g'
      generalize goM n D g' = s at F GO CL
      obtain ⟨x, cl, kw⟩ := s
      have hcs := Lib.hid CL.1
      have hc1 := Lib.hid CL.2
      clear CL
      simp only at F GO hcs hc1
      have hx1 : decide (x.pc < 0) = false := decide_eq_false (by have := F.out.2.1; omega)
      have hx2 : decide ((n : Int) / 4 + 1 < x.pc) = false := decide_eq_false (by have := F.out.2.2.1; omega)
      have hw1 : decide (kw < 1) = false := decide_eq_false (by have := F.out.2.2.2.1; omega)
      have hw2 : decide (4 < kw) = false := decide_eq_false (by have := F.out.2.2.2.2.1; omega)
      have k0 : (0 : Int) ≤ (k : Int) := by omega
      by_cases hk3 : kw = 3
      · subst hk3
        obtain ⟨e1, e2⟩ := F.out.2.2.2.2.2 rfl
        subst e1
        have hx3 : decide (x.pc < (n : Int) / 4) = false := decide_eq_false (by omega)
        have hq := g_neq x
        have GO := fun wr hb => GO.out wr hb
        unfold Step.v at GO
        simp only at GO
        have GO := Lib.hid GO
        clear e2
        go_wp2_with (first
          | ((with_reducible refine load_g (o := ⟨some 42, .load 30 (.tmp 4), _, _, _, _⟩) (P2.out) ?_ ?_ (.tmp 4) ?_ ?_ ?_); exact rfl; exact rfl; exact rfl; exact rfl)
          | (go_at_call 9; refine (GO.out _ B2.out).mono ?_; rintro e w2 ⟨rfl, hb⟩; (have hb1 := Lib.hid (B2.out.trans (hb.mono B2.out.size))); (have P3 := Lib.hid (P2.out.below hb P2.out.lt)); clear hb)
          | ((with_reducible refine store_g (o := ⟨none, .store 30 (.tmp 9) (.tmp 44), _, _, _, _⟩) (cs := x.c) (R1.out w2) ?_ ?_ ?_ ?_ (.tmp 9) (.tmp 44) ?_ ?_ ?_ ?_); exact rfl; exact rfl; exact (Gr.c_one x); exact rfl; exact rfl; exact rfl; exact rfl)
          | ((with_reducible refine store_call (o := ⟨none, .store 36 (.tmp 10) (.tmp 45), _, _, _, _⟩) (cs := cl) (R2.out w2 (x.c)) ?_ ?_ ?_ ?_ (.tmp 10) (.tmp 45) ?_ ?_ ?_ ?_); exact rfl; exact hcs.out; exact hc1.out; exact rfl; exact rfl; exact rfl; exact rfl; (have T1 := Lib.hid (T.out _ _ _ hb1.out hb1.out.size (x.c) cl)); (have S1 := Lib.hid (T.out _ _ _ (Below.refl w2.heap.size w2) (Nat.le_refl _) (x.c) cl)); generalize (((w2.alloc (.cells #[.int .i64 0, .bool false, .int .i64 0, .int .u64 0, .int .i64 0, .int .u64 0, .int .u8 0, .int .i64 0, .int .i64 0, .int .u64 0, .int .u64 0, .int .u64 0, .int .u64 0, .int .u64 0, .int .u64 0, .int .u64 0, .int .u64 0, .int .i64 0, .int .u64 0] 30)).alloc (.cells #[.int .i64 0, .int .u64 0, .int .u64 0, .int .u64 0, .int .u64 0, .int .u64 0] 36)).setRow w2.heap.size (x.c)).setRow (w2.heap.size + 1) cl = w3 at *; (have P4 := Lib.hid (P3.out.below S1.out.2.2 P3.out.lt)); (have X4 := Lib.hid T1.out.1); (have m8 := (X4.out.cell 8).trans (show x.c[8]? = some (.int .i64 x.pc) from rfl)))
          | ((with_reducible refine load_g (o := ⟨some 78, .load 30 (.tmp 9), _, _, _, _⟩) (X4.out) ?_ ?_ (.tmp 9) ?_ ?_ ?_); exact rfl; exact rfl; exact rfl; exact rfl)
          | ((with_reducible refine load_gW (o := ⟨some 68, .load 30 (.tmp 9), _, _, _, _⟩) (X4.out) ?_ (.tmp 9) ?_ ?_ ?_ ?_); exact rfl; exact rfl; exact rfl; kernel_rfl)
          | ((with_reducible refine load_gW (o := ⟨some 69, .load 30 (.tmp 4), _, _, _, _⟩) (P4.out) ?_ (.tmp 4) ?_ ?_ ?_ ?_); exact rfl; exact rfl; exact rfl; kernel_rfl)
          | ((with_reducible refine store_g (o := ⟨none, .store 30 (.tmp 4) (.tmp 78), _, _, _, _⟩) (cs := x.c) (P4.out) ?_ ?_ ?_ ?_ (.tmp 4) (.tmp 78) ?_ ?_ ?_ ?_); exact rfl; exact rfl; exact (Gr.c_one _); exact rfl; exact rfl; exact rfl; exact rfl))
        go_roundw
        case rel => exact ⟨k + 1, x, by go_num, Lib.hid ⟨F.out.1, F.out.2.1, F.out.2.2.1⟩, Lib.hid (P4.out.put_ x.c), Lib.hid (below_setRow T1.out.2.2 (Nat.le_refl _) x.c)⟩
        case measure => simp [intOf]; omega
      · have hk4 : (kw == 3) = false := by simpa using hk3
        have GO := fun wr hb => GO.out wr hb
        unfold Step.v at GO
        simp only at GO
        have GO := Lib.hid GO
        go_wp2_with (first
          | ((with_reducible refine load_g (o := ⟨some 42, .load 30 (.tmp 4), _, _, _, _⟩) (P2.out) ?_ ?_ (.tmp 4) ?_ ?_ ?_); exact rfl; exact rfl; exact rfl; exact rfl)
          | (go_at_call 9; refine (GO.out _ B2.out).mono ?_; rintro e w2 ⟨rfl, hb⟩; (have hb1 := Lib.hid (B2.out.trans (hb.mono B2.out.size))); (have P3 := Lib.hid (P2.out.below hb P2.out.lt)); clear hb)
          | ((with_reducible refine store_g (o := ⟨none, .store 30 (.tmp 9) (.tmp 44), _, _, _, _⟩) (cs := x.c) (R1.out w2) ?_ ?_ ?_ ?_ (.tmp 9) (.tmp 44) ?_ ?_ ?_ ?_); exact rfl; exact rfl; exact (Gr.c_one x); exact rfl; exact rfl; exact rfl; exact rfl)
          | ((with_reducible refine store_call (o := ⟨none, .store 36 (.tmp 10) (.tmp 45), _, _, _, _⟩) (cs := cl) (R2.out w2 (x.c)) ?_ ?_ ?_ ?_ (.tmp 10) (.tmp 45) ?_ ?_ ?_ ?_); exact rfl; exact hcs.out; exact hc1.out; exact rfl; exact rfl; exact rfl; exact rfl; (have T1 := Lib.hid (T.out _ _ _ hb1.out hb1.out.size (x.c) cl)); (have S1 := Lib.hid (T.out _ _ _ (Below.refl w2.heap.size w2) (Nat.le_refl _) (x.c) cl)); generalize (((w2.alloc (.cells #[.int .i64 0, .bool false, .int .i64 0, .int .u64 0, .int .i64 0, .int .u64 0, .int .u8 0, .int .i64 0, .int .i64 0, .int .u64 0, .int .u64 0, .int .u64 0, .int .u64 0, .int .u64 0, .int .u64 0, .int .u64 0, .int .u64 0, .int .i64 0, .int .u64 0] 30)).alloc (.cells #[.int .i64 0, .int .u64 0, .int .u64 0, .int .u64 0, .int .u64 0, .int .u64 0] 36)).setRow w2.heap.size (x.c)).setRow (w2.heap.size + 1) cl = w3 at *; (have P4 := Lib.hid (P3.out.below S1.out.2.2 P3.out.lt)); (have X4 := Lib.hid T1.out.1); (have m8 := (X4.out.cell 8).trans (show x.c[8]? = some (.int .i64 x.pc) from rfl)))
          | ((with_reducible refine load_g (o := ⟨some 78, .load 30 (.tmp 9), _, _, _, _⟩) (X4.out) ?_ ?_ (.tmp 9) ?_ ?_ ?_); exact rfl; exact rfl; exact rfl; exact rfl)
          | ((with_reducible refine store_g (o := ⟨none, .store 30 (.tmp 4) (.tmp 78), _, _, _, _⟩) (cs := x.c) (P4.out) ?_ ?_ ?_ ?_ (.tmp 4) (.tmp 78) ?_ ?_ ?_ ?_); exact rfl; exact rfl; exact (Gr.c_one _); exact rfl; exact rfl; exact rfl; exact rfl))
        go_roundw
        case rel => exact ⟨k + 1, x, by go_num, Lib.hid ⟨F.out.1, F.out.2.1, F.out.2.2.1⟩, Lib.hid (P4.out.put_ x.c), Lib.hid (below_setRow T1.out.2.2 (Nat.le_refl _) x.c)⟩
        case measure => simp [intOf]; omega
    · have B3 := B2
      go_wp2_with (go_at_call 8; refine (K _).mono ?_; rintro e w2 ⟨rfl, hb⟩)
      go_ret
      exact ⟨rfl, B2.out.trans (hb.mono B2.out.size)⟩

theorem stays_walk (A : Option Addr) (n cap : Nat) (D : Nat → Int) (g : Gr) (most : Int) (w : World) (hh : n < 1000000000 → CodeAt w (.slice A n cap) n D) (hr : g.Ok) :
    Calls Try.prog 4 #[.slice A n cap, .agg g.c, .int .i64 most] w fun e w' => e = .returned (.bool true) ∧ Below w.heap.size w w' := by
  by_cases hn : 400 < n
  · exact stays_long A n cap g most w hn
  · by_cases hp : g.pc < 0
    · exact stays_neg A n cap g most w hn hp
    · by_cases hq : ((n / 4 : Nat) : Int) + 1 < g.pc
      · exact stays_far A n cap g most w hn hp hq
      · by_cases hm : 300 < most
        · exact stays_many A n cap g most w hn hp hq hm
        · exact stays_go A n cap D g most w (hh (by omega)) hr hn hp hq hm
end Go.Proofs.Ytbgfbgcjghcepaa
