/- The law StepNil, by walk. -/
import Derived.Test.YtbgfbgcjghcepaaStepRun
namespace Go.Proofs.Ytbgfbgcjghcepaa
open Go.RowKit
set_option linter.unusedVariables false
set_option linter.unusedSimpArgs false

def gN : Gr := ⟨2, false, 0, 0, 0, 0, 3, 0, 0, fun _ => 0, 3, 0⟩
def gM : Gr := ⟨0, false, 0, 0, 0, 0, 0, 0, -1, fun _ => 0, 0, 0⟩
theorem gN_c : gN.c = #[.int .i64 2, .bool false, .int .i64 0, .int .u64 0, .int .i64 0, .int .u64 0, .int .u8 3, .int .i64 0, .int .i64 0, .int .u64 0, .int .u64 0, .int .u64 0, .int .u64 0, .int .u64 0, .int .u64 0, .int .u64 0, .int .u64 0, .int .i64 3, .int .u64 0] := by kernel_rfl
theorem gM_c : gM.c = #[.int .i64 0, .bool false, .int .i64 0, .int .u64 0, .int .i64 0, .int .u64 0, .int .u8 0, .int .i64 0, .int .i64 (-1), .int .u64 0, .int .u64 0, .int .u64 0, .int .u64 0, .int .u64 0, .int .u64 0, .int .u64 0, .int .u64 0, .int .i64 0, .int .u64 0] := by kernel_rfl
theorem gN_ok : gN.Ok := fun i => by show (0 : Nat) < M64; unfold M64; omega
theorem gM_ok : gM.Ok := fun i => by show (0 : Nat) < M64; unfold M64; omega
theorem code_nil (w : World) : CodeAt w (.slice none 0 0) 0 (lit []) := ⟨by omega, fun i => by simp [lit], none, 0, rfl, Nat.le_refl _, fun h => absurd h (by omega)⟩
theorem nil_one : (goM 0 (lit []) gN).v = .tuple #[.agg gN.c, .agg #[.int .i64 0, .int .u64 0, .int .u64 0, .int .u64 0, .int .u64 0, .int .u64 0], .int .i64 3] := by kernel_rfl
theorem nil_two : (goM 0 (lit []) gM).v = .tuple #[.agg (gM.bad 7).c, .agg #[.int .i64 0, .int .u64 0, .int .u64 0, .int .u64 0, .int .u64 0, .int .u64 0], .int .i64 4] := by kernel_rfl
def nilR : Step × Nat := runM 5 (lit [0, 0, 0, 0, 9]) 5 ⟨gN, call0, 1⟩ 0
theorem nil_run : nilR.1.w = 3 ∧ nilR.2 = 3 ∧ nilR.1.g.pc = 2 ∧ nilR.1.g.code = 7 ∧ nilR.1.cl = #[.int .i64 0, .int .u64 0, .int .u64 0, .int .u64 0, .int .u64 0, .int .u64 0] := ⟨by kernel_rfl, by kernel_rfl, by kernel_rfl, by kernel_rfl, by kernel_rfl⟩
theorem nil_a1 (w : World) : Calls Try.prog 9 #[.slice none 0 0, .agg gN.c] w fun e w' => e = .returned (.tuple #[.agg gN.c, .agg #[.int .i64 0, .int .u64 0, .int .u64 0, .int .u64 0, .int .u64 0, .int .u64 0], .int .i64 3]) ∧ Below w.heap.size w w' := by
  have A := go_is _ 0 (lit []) gN w (code_nil w) gN_ok
  rw [nil_one] at A
  exact A
theorem nil_a2 (w : World) : Calls Try.prog 9 #[.slice none 0 0, .agg #[.int .i64 0, .bool false, .int .i64 0, .int .u64 0, .int .i64 0, .int .u64 0, .int .u8 0, .int .i64 0, .int .i64 (-1), .int .u64 0, .int .u64 0, .int .u64 0, .int .u64 0, .int .u64 0, .int .u64 0, .int .u64 0, .int .u64 0, .int .i64 0, .int .u64 0]] w fun e w' => e = .returned (.tuple #[.agg (gM.bad 7).c, .agg #[.int .i64 0, .int .u64 0, .int .u64 0, .int .u64 0, .int .u64 0, .int .u64 0], .int .i64 4]) ∧ Below w.heap.size w w' := by
  have A := go_is _ 0 (lit []) gM w (code_nil w) gM_ok
  rw [nil_two, gM_c] at A
  exact A
theorem nil_a3 (w : World) : Calls Try.prog 11 #[.slice none 0 0, .agg gN.c, .int .i64 0] w fun e w' => e = .returned (.tuple #[.agg gN.c, .agg #[.int .i64 0, .int .u64 0, .int .u64 0, .int .u64 0, .int .u64 0, .int .u64 0], .int .i64 1, .int .i64 0]) ∧ Below w.heap.size w w' :=
  run_is _ 0 (lit []) gN 0 w (code_nil w) gN_ok (by omega)
theorem Gr.c8 (g : Gr) : g.c[8]? = some (.int .i64 g.pc) := rfl
theorem Gr.c17 (g : Gr) : g.c[17]? = some (.int .i64 g.code) := rfl
theorem pos_5 : ∀ x ∈ [(0 : Int), 0, 0, 0, 9], 0 ≤ x := by intro x hx; simp only [List.mem_cons, List.not_mem_nil, or_false] at hx; omega
theorem nil_a4 (w : World) : Calls Try.prog 11 #[.slice (some ⟨w.heap.size, 0, none⟩) 5 5, .agg gN.c, .int .i64 5] (w.alloc (.cells #[.int .u8 0, .int .u8 0, .int .u8 0, .int .u8 0, .int .u8 9] 5)) fun e w' => e = .returned (.tuple #[.agg nilR.1.g.c, .agg #[.int .i64 0, .int .u64 0, .int .u64 0, .int .u64 0, .int .u64 0, .int .u64 0], .int .i64 3, .int .i64 3]) ∧ Below (w.heap.size + 1) (w.alloc (.cells #[.int .u8 0, .int .u8 0, .int .u8 0, .int .u8 0, .int .u8 9] 5)) w' := by
  have A := run_is _ 5 (lit [0, 0, 0, 0, 9]) gN 5 _ (code_new w [0, 0, 0, 0, 9] 5 rfl pos_5 (by omega)) gN_ok (by omega)
  refine A.mono fun e w' hp => ⟨?_, ?_⟩
  · rw [hp.1]
    obtain ⟨h1, h2, -, -, h5⟩ := nil_run
    show Ending.returned (.tuple #[.agg nilR.1.g.c, .agg nilR.1.cl, .int .i64 nilR.1.w, .int .i64 (nilR.2 : Nat)]) = _
    rw [h1, h2, h5]
    rfl
  · have h := hp.2
    rw [World.size_alloc] at h
    exact h

set_option maxRecDepth 100000 in
set_option maxHeartbeats 400000 in
theorem nil_walk (w : World) : Calls Try.prog 6 #[] w fun e w' => e = .returned (.bool true) ∧ Below w.heap.size w w' := by
  have A1 := Lib.hid nil_a1
  have A2 := Lib.hid nil_a2
  have A3 := Lib.hid nil_a3
  have A4 := Lib.hid nil_a4
  have K := Lib.hid known_is
  have hq := g_eql gN
  have hn1 := gN_c
  have hx2 : (nilR.1.g.c)[8]? = some (.int .i64 2) := by rw [Gr.c8, nil_run.2.2.1]
  have hx7 : (nilR.1.g.c)[17]? = some (.int .i64 7) := by rw [Gr.c17, nil_run.2.2.2.1]
  have hx1 := Gr.c_one nilR.1.g
  have hxs := Gr.c_size nilR.1.g
  have hb0 : ((gM.bad 7).c)[8]? = some (.int .i64 0) := by kernel_rfl
  have hb7 : ((gM.bad 7).c)[17]? = some (.int .i64 7) := by kernel_rfl
  have hb1 := Gr.c_one (gM.bad 7)
  have hbs := Gr.c_size (gM.bad 7)
  have hg1 := Gr.c_one gN
  have hgs := Gr.c_size gN
  generalize nilR.1.g.c = xh at *
  generalize (gM.bad 7).c = xb at *
  generalize gN.c = xn at *
  have N1 := Lib.hid (Blk.new w 30 #[.int .i64 0, .bool false, .int .i64 0, .int .u64 0, .int .i64 0, .int .u64 0, .int .u8 0, .int .i64 0, .int .i64 0, .int .u64 0, .int .u64 0, .int .u64 0, .int .u64 0, .int .u64 0, .int .u64 0, .int .u64 0, .int .u64 0, .int .i64 0, .int .u64 0])
  have B1 := (Below.refl w.heap.size w).alloc (Nat.le_refl _) (.cells #[.int .i64 0, .bool false, .int .i64 0, .int .u64 0, .int .i64 0, .int .u64 0, .int .u8 0, .int .i64 0, .int .i64 0, .int .u64 0, .int .u64 0, .int .u64 0, .int .u64 0, .int .u64 0, .int .u64 0, .int .u64 0, .int .u64 0, .int .i64 0, .int .u64 0] 30)
  have B1 := Lib.hid (below_setRow B1 (Nat.le_refl _) xn)
  replace hn1 := Lib.hid hn1
  replace hx2 := Lib.hid hx2
  replace hx7 := Lib.hid hx7
  replace hx1 := Lib.hid hx1
  replace hxs := Lib.hid hxs
  replace hb0 := Lib.hid hb0
  replace hb7 := Lib.hid hb7
  replace hb1 := Lib.hid hb1
  replace hbs := Lib.hid hbs
  replace hg1 := Lib.hid hg1
  replace hgs := Lib.hid hgs
  have R1 := row_g
  have R2 := row_call
  have T := @two_rows
  unfold zG call0 at R1 R2 T
  have R1 := Lib.hid R1
  have R2 := Lib.hid R2
  have T := Lib.hid T
  go_enter Try.func6, Try.ntmps6
  go_wp2_with (first
    | ((with_reducible refine store_g (o := ⟨none, .store 30 (.tmp 1) (.tmp 16), _, _, _, _⟩) (cs := xn) (N1.out) ?_ ?_ ?_ ?_ (.tmp 1) (.tmp 16) ?_ ?_ ?_ ?_); exact rfl; exact hgs.out; exact hg1.out; exact rfl; exact rfl; exact rfl; exact (congrArg Value.agg hn1.out.symm); (have P := Lib.hid (N1.out.put_ xn)); (have BA := B1); clear N1 B1; generalize (w.alloc (.cells #[.int .i64 0, .bool false, .int .i64 0, .int .u64 0, .int .i64 0, .int .u64 0, .int .u8 0, .int .i64 0, .int .i64 0, .int .u64 0, .int .u64 0, .int .u64 0, .int .u64 0, .int .u64 0, .int .u64 0, .int .u64 0, .int .u64 0, .int .i64 0, .int .u64 0] 30)).setRow w.heap.size xn = w1 at *)
    | ((with_reducible refine load_g (o := ⟨some 18, .load 30 (.tmp 1), _, _, _, _⟩) (P.out) ?_ ?_ (.tmp 1) ?_ ?_ ?_); exact hgs.out; exact rfl; exact rfl; exact rfl)
    | (go_at_call 9; (fail_if_success have := k1); refine (A1.out _).mono ?_; rintro e w2 ⟨rfl, hb⟩; (have BB := Lib.hid (BA.out.trans (hb.mono BA.out.size))); (have P := Lib.hid (P.out.below hb P.out.lt)); clear hb BA; have k1 := trivial)
    | ((with_reducible refine store_g (o := ⟨none, .store 30 (.tmp 2) (.tmp 20), _, _, _, _⟩) (cs := xn) (R1.out w2) ?_ ?_ ?_ ?_ (.tmp 2) (.tmp 20) ?_ ?_ ?_ ?_); exact rfl; exact hgs.out; exact hg1.out; exact rfl; exact rfl; exact rfl; exact rfl)
    | ((with_reducible refine store_call (o := ⟨none, .store 36 (.tmp 3) (.tmp 21), _, _, _, _⟩) (cs := #[.int .i64 0, .int .u64 0, .int .u64 0, .int .u64 0, .int .u64 0, .int .u64 0]) (R2.out w2 (xn)) ?_ ?_ ?_ ?_ (.tmp 3) (.tmp 21) ?_ ?_ ?_ ?_); exact rfl; exact rfl; exact call0_one; exact rfl; exact rfl; exact rfl; exact rfl; (have T1 := Lib.hid (T.out _ _ _ BB.out BB.out.size (xn) #[.int .i64 0, .int .u64 0, .int .u64 0, .int .u64 0, .int .u64 0, .int .u64 0])); (have S1 := Lib.hid (T.out _ _ _ (Below.refl w2.heap.size w2) (Nat.le_refl _) (xn) #[.int .i64 0, .int .u64 0, .int .u64 0, .int .u64 0, .int .u64 0, .int .u64 0])); generalize (((w2.alloc (.cells #[.int .i64 0, .bool false, .int .i64 0, .int .u64 0, .int .i64 0, .int .u64 0, .int .u8 0, .int .i64 0, .int .i64 0, .int .u64 0, .int .u64 0, .int .u64 0, .int .u64 0, .int .u64 0, .int .u64 0, .int .u64 0, .int .u64 0, .int .i64 0, .int .u64 0] 30)).alloc (.cells #[.int .i64 0, .int .u64 0, .int .u64 0, .int .u64 0, .int .u64 0, .int .u64 0] 36)).setRow w2.heap.size (xn)).setRow (w2.heap.size + 1) #[.int .i64 0, .int .u64 0, .int .u64 0, .int .u64 0, .int .u64 0, .int .u64 0] = w3 at *; (have P := Lib.hid (P.out.below S1.out.2.2 P.out.lt)); (have O2 := Lib.hid T1.out.1); (have BA := Lib.hid T1.out.2.2); clear T1 S1 BB)
    | (go_at_call 9; (fail_if_success have := k2); refine (A2.out _).mono ?_; rintro e w4 ⟨rfl, hb⟩; (have BB := Lib.hid (BA.out.trans (hb.mono BA.out.size))); (have P := Lib.hid (P.out.below hb P.out.lt)); (have O2 := Lib.hid (O2.out.below hb O2.out.lt)); clear hb BA; have k2 := trivial)
    | ((with_reducible refine store_g (o := ⟨none, .store 30 (.tmp 5) (.tmp 26), _, _, _, _⟩) (cs := xb) (R1.out w4) ?_ ?_ ?_ ?_ (.tmp 5) (.tmp 26) ?_ ?_ ?_ ?_); exact rfl; exact hbs.out; exact hb1.out; exact rfl; exact rfl; exact rfl; exact rfl)
    | ((with_reducible refine store_call (o := ⟨none, .store 36 (.tmp 6) (.tmp 27), _, _, _, _⟩) (cs := #[.int .i64 0, .int .u64 0, .int .u64 0, .int .u64 0, .int .u64 0, .int .u64 0]) (R2.out w4 (xb)) ?_ ?_ ?_ ?_ (.tmp 6) (.tmp 27) ?_ ?_ ?_ ?_); exact rfl; exact rfl; exact call0_one; exact rfl; exact rfl; exact rfl; exact rfl; (have T2 := Lib.hid (T.out _ _ _ BB.out BB.out.size (xb) #[.int .i64 0, .int .u64 0, .int .u64 0, .int .u64 0, .int .u64 0, .int .u64 0])); (have S2 := Lib.hid (T.out _ _ _ (Below.refl w4.heap.size w4) (Nat.le_refl _) (xb) #[.int .i64 0, .int .u64 0, .int .u64 0, .int .u64 0, .int .u64 0, .int .u64 0])); generalize (((w4.alloc (.cells #[.int .i64 0, .bool false, .int .i64 0, .int .u64 0, .int .i64 0, .int .u64 0, .int .u8 0, .int .i64 0, .int .i64 0, .int .u64 0, .int .u64 0, .int .u64 0, .int .u64 0, .int .u64 0, .int .u64 0, .int .u64 0, .int .u64 0, .int .i64 0, .int .u64 0] 30)).alloc (.cells #[.int .i64 0, .int .u64 0, .int .u64 0, .int .u64 0, .int .u64 0, .int .u64 0] 36)).setRow w4.heap.size (xb)).setRow (w4.heap.size + 1) #[.int .i64 0, .int .u64 0, .int .u64 0, .int .u64 0, .int .u64 0, .int .u64 0] = w5 at *; (have P := Lib.hid (P.out.below S2.out.2.2 P.out.lt)); (have O2 := Lib.hid (O2.out.below S2.out.2.2 O2.out.lt)); (have O5 := Lib.hid T2.out.1); (have BA := Lib.hid T2.out.2.2); clear T2 S2 BB)
    | ((with_reducible refine load_g (o := ⟨some 30, .load 30 (.tmp 1), _, _, _, _⟩) (P.out) ?_ ?_ (.tmp 1) ?_ ?_ ?_); exact hgs.out; exact rfl; exact rfl; exact rfl)
    | (go_at_call 11; (fail_if_success have := k3); refine (A3.out _).mono ?_; rintro e w6 ⟨rfl, hb⟩; (have BB := Lib.hid (BA.out.trans (hb.mono BA.out.size))); (have P := Lib.hid (P.out.below hb P.out.lt)); (have O2 := Lib.hid (O2.out.below hb O2.out.lt)); (have O5 := Lib.hid (O5.out.below hb O5.out.lt)); clear hb BA; have k3 := trivial)
    | ((with_reducible refine store_g (o := ⟨none, .store 30 (.tmp 8) (.tmp 32), _, _, _, _⟩) (cs := xn) (R1.out w6) ?_ ?_ ?_ ?_ (.tmp 8) (.tmp 32) ?_ ?_ ?_ ?_); exact rfl; exact hgs.out; exact hg1.out; exact rfl; exact rfl; exact rfl; exact rfl)
    | ((with_reducible refine store_call (o := ⟨none, .store 36 (.tmp 9) (.tmp 33), _, _, _, _⟩) (cs := #[.int .i64 0, .int .u64 0, .int .u64 0, .int .u64 0, .int .u64 0, .int .u64 0]) (R2.out w6 (xn)) ?_ ?_ ?_ ?_ (.tmp 9) (.tmp 33) ?_ ?_ ?_ ?_); exact rfl; exact rfl; exact call0_one; exact rfl; exact rfl; exact rfl; exact rfl; (have T3 := Lib.hid (T.out _ _ _ BB.out BB.out.size (xn) #[.int .i64 0, .int .u64 0, .int .u64 0, .int .u64 0, .int .u64 0, .int .u64 0])); (have S3 := Lib.hid (T.out _ _ _ (Below.refl w6.heap.size w6) (Nat.le_refl _) (xn) #[.int .i64 0, .int .u64 0, .int .u64 0, .int .u64 0, .int .u64 0, .int .u64 0])); generalize (((w6.alloc (.cells #[.int .i64 0, .bool false, .int .i64 0, .int .u64 0, .int .i64 0, .int .u64 0, .int .u8 0, .int .i64 0, .int .i64 0, .int .u64 0, .int .u64 0, .int .u64 0, .int .u64 0, .int .u64 0, .int .u64 0, .int .u64 0, .int .u64 0, .int .i64 0, .int .u64 0] 30)).alloc (.cells #[.int .i64 0, .int .u64 0, .int .u64 0, .int .u64 0, .int .u64 0, .int .u64 0] 36)).setRow w6.heap.size (xn)).setRow (w6.heap.size + 1) #[.int .i64 0, .int .u64 0, .int .u64 0, .int .u64 0, .int .u64 0, .int .u64 0] = w7 at *; (have P := Lib.hid (P.out.below S3.out.2.2 P.out.lt)); (have O2 := Lib.hid (O2.out.below S3.out.2.2 O2.out.lt)); (have O5 := Lib.hid (O5.out.below S3.out.2.2 O5.out.lt)); (have O8 := Lib.hid T3.out.1); (have BA := Lib.hid T3.out.2.2); clear T3 S3 BB)
    | ((with_reducible refine load_g (o := ⟨some 38, .load 30 (.tmp 1), _, _, _, _⟩) (P.out.alloc (.cells #[.int .u8 0, .int .u8 0, .int .u8 0, .int .u8 0, .int .u8 9] 5)) ?_ ?_ (.tmp 1) ?_ ?_ ?_); exact hgs.out; exact rfl; exact rfl; exact rfl)
    | (go_at_call 11; have := k3; (fail_if_success have := k4); refine (A4.out _).mono ?_; rintro e w8 ⟨rfl, hb⟩; (have BB := Lib.hid ((BA.out.alloc BA.out.size (.cells #[.int .u8 0, .int .u8 0, .int .u8 0, .int .u8 0, .int .u8 9] 5)).trans (hb.mono (by have := BA.out.size; omega)))); (have P := Lib.hid ((P.out.alloc (.cells #[.int .u8 0, .int .u8 0, .int .u8 0, .int .u8 0, .int .u8 9] 5)).below hb (by have := P.out.lt; omega))); (have O2 := Lib.hid ((O2.out.alloc (.cells #[.int .u8 0, .int .u8 0, .int .u8 0, .int .u8 0, .int .u8 9] 5)).below hb (by have := O2.out.lt; omega))); (have O5 := Lib.hid ((O5.out.alloc (.cells #[.int .u8 0, .int .u8 0, .int .u8 0, .int .u8 0, .int .u8 9] 5)).below hb (by have := O5.out.lt; omega))); (have O8 := Lib.hid ((O8.out.alloc (.cells #[.int .u8 0, .int .u8 0, .int .u8 0, .int .u8 0, .int .u8 9] 5)).below hb (by have := O8.out.lt; omega))); clear hb BA; have k4 := trivial)
    | ((with_reducible refine store_g (o := ⟨none, .store 30 (.tmp 12) (.tmp 40), _, _, _, _⟩) (cs := xh) (R1.out w8) ?_ ?_ ?_ ?_ (.tmp 12) (.tmp 40) ?_ ?_ ?_ ?_); exact rfl; exact hxs.out; exact hx1.out; exact rfl; exact rfl; exact rfl; exact rfl)
    | ((with_reducible refine store_call (o := ⟨none, .store 36 (.tmp 13) (.tmp 41), _, _, _, _⟩) (cs := #[.int .i64 0, .int .u64 0, .int .u64 0, .int .u64 0, .int .u64 0, .int .u64 0]) (R2.out w8 (xh)) ?_ ?_ ?_ ?_ (.tmp 13) (.tmp 41) ?_ ?_ ?_ ?_); exact rfl; exact rfl; exact call0_one; exact rfl; exact rfl; exact rfl; exact rfl; (have T4 := Lib.hid (T.out _ _ _ BB.out BB.out.size (xh) #[.int .i64 0, .int .u64 0, .int .u64 0, .int .u64 0, .int .u64 0, .int .u64 0])); (have S4 := Lib.hid (T.out _ _ _ (Below.refl w8.heap.size w8) (Nat.le_refl _) (xh) #[.int .i64 0, .int .u64 0, .int .u64 0, .int .u64 0, .int .u64 0, .int .u64 0])); generalize (((w8.alloc (.cells #[.int .i64 0, .bool false, .int .i64 0, .int .u64 0, .int .i64 0, .int .u64 0, .int .u8 0, .int .i64 0, .int .i64 0, .int .u64 0, .int .u64 0, .int .u64 0, .int .u64 0, .int .u64 0, .int .u64 0, .int .u64 0, .int .u64 0, .int .i64 0, .int .u64 0] 30)).alloc (.cells #[.int .i64 0, .int .u64 0, .int .u64 0, .int .u64 0, .int .u64 0, .int .u64 0] 36)).setRow w8.heap.size (xh)).setRow (w8.heap.size + 1) #[.int .i64 0, .int .u64 0, .int .u64 0, .int .u64 0, .int .u64 0, .int .u64 0] = w9 at *; (have P := Lib.hid (P.out.below S4.out.2.2 P.out.lt)); (have O2 := Lib.hid (O2.out.below S4.out.2.2 O2.out.lt)); (have O5 := Lib.hid (O5.out.below S4.out.2.2 O5.out.lt)); (have O8 := Lib.hid (O8.out.below S4.out.2.2 O8.out.lt)); (have O12 := Lib.hid T4.out.1); (have BA := Lib.hid T4.out.2.2); clear T4 S4 BB; (have z8 := (O5.out.cell 8).trans hb0.out); (have z17 := (O5.out.cell 17).trans hb7.out); (have y8 := (O12.out.cell 8).trans hx2.out); (have y17 := (O12.out.cell 17).trans hx7.out))
    | ((with_reducible refine load_g (o := ⟨some 44, .load 30 (.tmp 2), _, _, _, _⟩) (O2.out) ?_ ?_ (.tmp 2) ?_ ?_ ?_); exact hgs.out; exact rfl; exact rfl; exact rfl)
    | ((with_reducible refine load_g (o := ⟨some 45, .load 30 (.tmp 1), _, _, _, _⟩) (P.out) ?_ ?_ (.tmp 1) ?_ ?_ ?_); exact hgs.out; exact rfl; exact rfl; exact rfl)
    | ((with_reducible refine load_gW (o := ⟨some 66, .load 30 (.tmp 8), _, _, _, _⟩) (O8.out) ?_ (.tmp 8) ?_ ?_ ?_ ?_); exact hgs.out; exact rfl; exact rfl; kernel_rfl)
    | ((with_reducible refine load_gW (o := ⟨some 67, .load 30 (.tmp 1), _, _, _, _⟩) (P.out) ?_ (.tmp 1) ?_ ?_ ?_ ?_); exact hgs.out; exact rfl; exact rfl; kernel_rfl)
    | (go_at_call 8; refine (K.out _).mono ?_; rintro e wk ⟨rfl, hbk⟩))
  go_ret
  exact ⟨rfl, BA.out.trans (hbk.mono BA.out.size)⟩
end Go.Proofs.Ytbgfbgcjghcepaa
