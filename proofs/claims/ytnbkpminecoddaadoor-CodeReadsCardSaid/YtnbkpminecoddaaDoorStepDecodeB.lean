/- code.Decode where there is an instruction, by walk. -/
import Derived.Test.YtnbkpminecoddaaDoorStepDecode
import Derived.Test.YtnbkpminecoddaaDoorWords
import Derived.Laws.Tables
import Derived.Laws.Rows
import Derived.Deep.RegionHeld3
namespace Go.Proofs.YtnbkpminecoddaaDoor
open Go.RowKit
set_option linter.unusedVariables false
set_option linter.unusedSimpArgs false

theorem below_setRow {B : Nat} {a w : World} (h : Below B a w) {g : Nat} (hg : B ≤ g) (cs : Array Value) : Below B a (w.setRow g cs) :=
  ⟨h.os, h.tape, h.output, by rw [setRow_size]; exact h.size, fun k hk => (setRow_other w g k cs (by omega)).trans (h.block k hk)⟩
theorem Blk.setRow_ {w : World} {g g' : Nat} {t : TypeId} {cs : Array Value} (h : Blk w g t cs) (hg : g ≠ g') (c : Array Value) : Blk (w.setRow g' c) g t cs := (setRow_other w g' g c hg).trans h
theorem Blk.put_ {w : World} {g : Nat} {t : TypeId} {cs : Array Value} (h : Blk w g t cs) (c : Array Value) : Blk (w.setRow g c) g t c := setRow_heap w g cs c t (0, 0) h
theorem underIns : ∃ d, Tryd.prog.underlying 26 = some d ∧ (match d with | .struct _ | .array _ _ => true | _ => false) = true := by
  cases h : Tryd.prog.underlying 26 with
  | none => exact absurd (show (Tryd.prog.underlying 26).isSome = true from by kernel_rfl) (by rw [h]; decide)
  | some d => exact ⟨d, rfl, by
      have : ((Tryd.prog.underlying 26).map fun d => match d with | .struct _ | .array _ _ => true | _ => false) = some true := by kernel_rfl
      rw [h] at this
      simpa using this⟩
theorem load_ins {ops : Array Oper} {rest : List Oper} {o : Oper} {a : Act} {w : World} {Q : Exit → Act → World → Prop} {k x y z : Int} {g : Nat}
    (hB : Blk w g 26 #[.int .u8 k, .int .u8 x, .int .u8 y, .int .u8 z]) (hgd : o.guard = none) (v : Operand) (ho : o.op = .load 26 v) (hx : a.eval v = .pointer (some ⟨g, 0, none⟩))
    (h : wpList Tryd.prog ops Q rest (a.put o.dst (insV k x y z)) w) : wpList Tryd.prog ops Q (o :: rest) a w := by
  obtain ⟨d, hu1, hu2⟩ := underIns
  exact wpList_load_row hgd 26 v ho g hx 26 _ (0, 0) d hB hu1 (by cases d <;> first | rfl | exact absurd hu2 Bool.false_ne_true) (by kernel_rfl) h
theorem results_ins {p u : Tmp} {k x y z : Int} {g : Nat} {fn : Func} (h : fn.results = #[.cell p 26, .tmp u]) (tmps : Array Value) (w : World) (hp : tmps.getD p undef = .pointer (some ⟨g, 0, none⟩)) (hB : Blk w g 26 #[.int .u8 k, .int .u8 x, .int .u8 y, .int .u8 z]) :
    (results fn tmps).run Tryd.prog w = .ok (.tuple #[insV k x y z, tmps.getD u undef]) w := by
  obtain ⟨d, hu1, hu2⟩ := underIns
  rw [results_cell_tmp h, hp]
  simp only [asAddr, Sem.run_pure, Result.andThen_ok, run_loadVar_row w g 26 26 _ (0, 0) d hB hu1 (by cases d <;> first | rfl | exact absurd hu2 Bool.false_ne_true) (by kernel_rfl)]
  rfl

set_option maxRecDepth 100000 in
set_option maxHeartbeats 4000000 in
theorem decode_bad (g o n cap p : Nat) (k a b c : Int) (hn : n < 1000000000) (hcap : n ≤ cap) (hp : p < n / 4) (hk : 0 ≤ k) (hok : okOf k = false) (w : World) (hg : g < w.heap.size)
    (x0 : w.cell? ⟨g, o + 4 * p, none⟩ = some (.int .u8 k)) (x1 : w.cell? ⟨g, o + 4 * p + 1, none⟩ = some (.int .u8 a)) (x2 : w.cell? ⟨g, o + 4 * p + 2, none⟩ = some (.int .u8 b)) (x3 : w.cell? ⟨g, o + 4 * p + 3, none⟩ = some (.int .u8 c)) :
    Calls Tryd.prog 10 #[.slice (some ⟨g, o, none⟩) n cap, .int .i64 p] w fun e w' => e = .returned (.tuple #[insV 0 0 0 0, .int .i64 7]) ∧ Below w.heap.size w w' := by
  have SH := shape_is k hk
  rw [hok] at SH
  have e1 : ¬ ((p : Int) < 0) := by omega
  have e2 : ((p : Int) == (n : Int) / 4) = false := by simp; omega
  have e3 : ¬ ((n : Int) / 4 ≤ (p : Int)) := by omega
  obtain ⟨q, hq⟩ : ∃ q, q = o + 4 * p := ⟨_, rfl⟩
  obtain ⟨L, hL⟩ : ∃ L, L = n - 4 * p := ⟨_, rfl⟩
  obtain ⟨C, hC⟩ : ∃ C, C = cap - 4 * p := ⟨_, rfl⟩
  rw [← hq] at x0 x1 x2 x3
  have l0 : 0 < L := by omega
  have l1 : (1 : Int) < (L : Int) := by omega
  have l2 : (2 : Int) < (L : Int) := by omega
  have l3 : (3 : Int) < (L : Int) := by omega
  have HQ := Lib.hid (And.intro hq (And.intro hL hC))
  have B1 := (Below.refl w.heap.size w).alloc (Nat.le_refl _) (.cells #[.int .u8 0, .int .u8 0, .int .u8 0, .int .u8 0] 26)
  have R1 := Blk.new w 26 #[.int .u8 0, .int .u8 0, .int .u8 0, .int .u8 0]
  have y0 := (B1.cell (p := ⟨g, q, none⟩) hg).trans x0
  have y1 := (B1.cell (p := ⟨g, q + 1, none⟩) hg).trans x1
  have y2 := (B1.cell (p := ⟨g, q + 2, none⟩) hg).trans x2
  have y3 := (B1.cell (p := ⟨g, q + 3, none⟩) hg).trans x3
  by_cases h4 : (n : Int) % 4 = 0
  all_goals
    go_enter Tryd.func10, Tryd.ntmps10
    go_wp2_with fail
    simp only [← hq, ← hL, ← hC]
    clear hq hL hC
    generalize w.alloc (.cells #[.int .u8 0, .int .u8 0, .int .u8 0, .int .u8 0] 26) = w1 at *
    go_region_held3 (fun w' => w'.cell? ⟨g, q, none⟩ = some (.int .u8 k) ∧ w'.cell? ⟨g, q + 1, none⟩ = some (.int .u8 a) ∧ w'.cell? ⟨g, q + 2, none⟩ = some (.int .u8 b) ∧ w'.cell? ⟨g, q + 3, none⟩ = some (.int .u8 c)) (go_keep) (fail)
    have hW := And.intro ((B1.alloc B1.size (.cells #[.int .u8 k, .int .u8 a, .int .u8 b, .int .u8 c] 26)).drew) (And.intro ((R1.alloc (.cells #[.int .u8 k, .int .u8 a, .int .u8 b, .int .u8 c] 26)).drew) (Blk.new w1 26 #[.int .u8 k, .int .u8 a, .int .u8 b, .int .u8 c]).drew)
    clear y0 y1 y2 y3 x0 x1 x2 x3
    have hlt : w1.heap.size < (w1.alloc (.cells #[.int .u8 k, .int .u8 a, .int .u8 b, .int .u8 c] 26)).drew.heap.size := hW.2.2.lt
    generalize (w1.alloc (.cells #[.int .u8 k, .int .u8 a, .int .u8 b, .int .u8 c] 26)).drew = w2 at *
    generalize w1.heap.size = ib at *
    obtain ⟨B2, R2, I2⟩ := hW
    have i0 := I2.cell 0
    simp only [List.getElem?_toArray, List.getElem?_cons_zero] at i0
    have R3 := Lib.hid R2
    have B3 := Lib.hid B2
    clear R2 B2 R1 B1
    go_wp2_with (first | (go_at_call 22; refine (SH w2).mono ?_; rintro e w3 ⟨nm, rfl, hb3⟩; (have R4 := R3.out.below hb3 R3.out.lt); (have B4 := Lib.hid (B3.out.trans (hb3.mono B3.out.size))); clear hb3) | (refine wpList_store_row (by exact rfl) 26 (.tmp 4) (.tmp 64) (by exact rfl) w.heap.size #[.int .u8 0, .int .u8 0, .int .u8 0, .int .u8 0] (by exact rfl) (by exact rfl) 26 _ R4 (by kernel_rfl) (by exact rfl) (by simp [Value.oneCell']) ?_))
    exact bodyPost_ret (results_ins (p := 4) (u := 5) (by kernel_rfl) _ _ rfl (R4.put_ _)) rfl ⟨rfl, below_setRow B4.out (Nat.le_refl _) _⟩
end Go.Proofs.YtnbkpminecoddaaDoor
