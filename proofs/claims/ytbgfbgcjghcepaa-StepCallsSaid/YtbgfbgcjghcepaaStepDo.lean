/- step.do, by walk: where the instruction cannot be read; where nothing is to be done. -/
import Derived.Test.YtbgfbgcjghcepaaStepReckon
namespace Go.Proofs.Ytbgfbgcjghcepaa
open Go.RowKit
set_option linter.unusedVariables false
set_option linter.unusedSimpArgs false

/-- An empty call, cell by cell. -/
def call0 : Array Value := #[.int .i64 0, .int .u64 0, .int .u64 0, .int .u64 0, .int .u64 0, .int .u64 0]

set_option maxRecDepth 100000 in
set_option maxHeartbeats 4000000 in
theorem do_fault (v : Value) (n : Nat) (D : Nat → Int) (gb : Nat) (pc : Int) (w : World) (h : CodeAt w v n D) (hg : gb < w.heap.size) (x6 : w.cell? ⟨gb, 8, none⟩ = some (.int .i64 pc)) (he : (decR n D pc).e ≠ 0) :
    Calls Try.prog 15 #[v, .pointer (some ⟨gb, 0, none⟩)] w fun e w' => e = .panicked (faultP 7) ∧ Below w.heap.size w w' := by
  have B1 := (Below.refl w.heap.size w).alloc (Nat.le_refl _) (.cells call0 36)
  have y6 := (B1.cell (p := ⟨gb, 8, none⟩) hg).trans x6
  have C1 := decode_is v n D pc _ (h.below (B := 0) B1)
  unfold call0 at *
  unfold Dec.v insV at C1
  generalize decR n D pc = d at *
  obtain ⟨k, a, b, c, z⟩ := d
  have hz : (z == 0) = false := by simpa using he
  simp only at C1
  have HB := Lib.hid B1
  clear h he B1
  go_enter Try.func15, Try.ntmps15
  go_wp2_with (go_at_call 12; refine C1.mono ?_; rintro e w2 ⟨rfl, hb⟩)
  exact ⟨rfl, rfl, (HB.out.trans (hb.mono HB.out.size)).alloc (HB.out.trans (hb.mono HB.out.size)).size _⟩

theorem underCall : ∃ d, Try.prog.underlying 36 = some d ∧ (match d with | .struct _ | .array _ _ => true | _ => false) = true := Option.map_eq_some_iff.1 (show (Try.prog.underlying 36).map (fun d => match d with | .struct _ | .array _ _ => true | _ => false) = some true by kernel_rfl)
theorem load_call {ops : Array Oper} {rest : List Oper} {o : Oper} {a : Act} {w : World} {Q : Exit → Act → World → Prop} {cs : Array Value} {g : Nat}
    (hB : Blk w g 36 cs) (h6 : cs.size = 6) (hgd : o.guard = none) (v : Operand) (ho : o.op = .load 36 v) (hx : a.eval v = .pointer (some ⟨g, 0, none⟩))
    (h : wpList Try.prog ops Q rest (a.put o.dst (.agg cs)) w) : wpList Try.prog ops Q (o :: rest) a w := by
  obtain ⟨d, hu1, hu2⟩ := underCall
  exact wpList_load_row hgd 36 v ho g hx 36 _ (0, 0) d hB hu1 (by cases d <;> first | rfl | exact absurd hu2 Bool.false_ne_true) (by rw [h6]; kernel_rfl) h
theorem results_call {p u : Tmp} {cs : Array Value} {g : Nat} {fn : Func} (h : fn.results = #[.cell p 36, .tmp u]) (tmps : Array Value) (w : World) (hp : tmps.getD p undef = .pointer (some ⟨g, 0, none⟩)) (hB : Blk w g 36 cs) (h6 : cs.size = 6) :
    (results fn tmps).run Try.prog w = .ok (.tuple #[.agg cs, tmps.getD u undef]) w := by
  obtain ⟨d, hu1, hu2⟩ := underCall
  rw [results_cell_tmp h, hp]
  simp only [asAddr, Sem.run_pure, Result.andThen_ok, run_loadVar_row w g 36 36 _ (0, 0) d hB hu1 (by cases d <;> first | rfl | exact absurd hu2 Bool.false_ne_true) (by rw [h6]; kernel_rfl)]

theorem eff_grown {w x : World} {gb : Nat} (B : Below w.heap.size w x) (i : Nat) (u : Value) (cs' : Array Value) : w.grownBy ((x.setCell ⟨gb, i, none⟩ u).setRow w.heap.size cs') (some gb) := by
  have E : Below 0 w ((x.setCell ⟨gb, i, none⟩ u).setRow w.heap.size cs') := (B.mono (Nat.zero_le _)).trans (below_setRow ((Below.refl 0 x).setCell (p := ⟨gb, i, none⟩) (Nat.zero_le _) u) (Nat.zero_le _) cs')
  refine ⟨E.os, E.tape, E.output, E.size, fun q hq hne => ?_⟩
  rw [setRow_other _ _ _ _ (Nat.ne_of_lt hq), Below.heap_setCell x ⟨gb, i, none⟩ u q (fun e => hne (by rw [e]))]
  exact B.block q hq

set_option maxRecDepth 100000 in
set_option maxHeartbeats 4000000 in
theorem do_noop (v : Value) (n : Nat) (D : Nat → Int) (gb : Nat) (pc : Int) (cs : Array Value) (w : World) (h : CodeAt w v n D) (hG : Blk w gb 30 cs) (h8 : cs[8]? = some (.int .i64 pc)) (a b c : Int) (he : decR n D pc = ⟨0, a, b, c, 0⟩) :
    Calls Try.prog 15 #[v, .pointer (some ⟨gb, 0, none⟩)] w fun e w' => e = .returned (.tuple #[.agg call0, .int .i64 1]) ∧ w.grownBy w' (some gb) ∧ Blk w' gb 30 (cs.setIfInBounds 8 (.int .i64 (wrap64 (pc + 1)))) := by
  have hg := hG.lt
  have B1 := (Below.refl w.heap.size w).alloc (Nat.le_refl _) (.cells call0 36)
  have G1 := hG.alloc (.cells call0 36)
  have R1 := Blk.new w 36 call0
  have y6 := (G1.cell 8).trans h8
  have C1 := decode_is v n D pc _ (h.below (B := 0) B1)
  rw [he] at C1
  unfold Dec.v insV at C1
  simp only at C1
  unfold call0 at *
  have HB := Lib.hid (And.intro B1 (And.intro G1 R1))
  clear h he B1 G1 R1 hG
  go_enter Try.func15, Try.ntmps15
  go_wp2_with (first
    | (go_at_call 12; refine C1.mono ?_; rintro e w2 ⟨rfl, hb⟩; (have G2 := (HB.out.2.1.below hb HB.out.2.1.lt).alloc (.cells #[.int .u8 0, .int .u8 a, .int .u8 b, .int .u8 c] 45)); (have z8 := (G2.cell 8).trans h8); (have f8 := G2.frozen 8); (have R2 := Lib.hid ((HB.out.2.2.below hb HB.out.2.2.lt).alloc (.cells #[.int .u8 0, .int .u8 a, .int .u8 b, .int .u8 c] 45))); (have G2h := Lib.hid G2); (have B2 := Lib.hid (HB.out.1.trans (hb.mono HB.out.1.size))); (have hne := Lib.hid (Nat.ne_of_gt hg)); clear G2 hb)
    | (refine load_call (R2.out.far hne.out _) rfl (by exact rfl) (.tmp 4) (by exact rfl) (by exact rfl) ?_)
    | (refine wpList_store_row (by exact rfl) 36 (.tmp 4) (.tmp 116) (by exact rfl) w.heap.size #[.int .i64 0, .int .u64 0, .int .u64 0, .int .u64 0, .int .u64 0, .int .u64 0] (by exact rfl) (by exact rfl) 36 _ (R2.out.far hne.out _) (by kernel_rfl) (by exact rfl) (by simp [Value.oneCell']) ?_))
  exact bodyPost_ret (results_call (p := 4) (u := 5) (by kernel_rfl) _ _ rfl ((R2.out.far hne.out _).put_ _) rfl) rfl ⟨rfl, eff_grown (B2.out.alloc B2.out.size _) 8 _ _, (G2h.out.set_ 8 _).setRow_ hne.out.symm _⟩
end Go.Proofs.Ytbgfbgcjghcepaa
