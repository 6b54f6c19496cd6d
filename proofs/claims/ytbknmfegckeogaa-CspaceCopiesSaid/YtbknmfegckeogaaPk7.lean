/- Of the following, one behind the other: Capability tables: the functions that only look, by walks. Capability tables: May, may, Get, Len, Room, Parent, by walks. first: closures called one behind the other till one tells an error, by walk: whatever they are. Capability tables: put, by walk. -/
import Derived.Test.YtbknmfegckeogaaPk6
import Derived.Handy
import Derived.StillTailTactics
import Derived.BigQuiet
import Derived.Deep.QuietTactic
import Derived.Laws.Tables
import Derived.OrdersHeld
/- Capability tables: the functions that only look, by walks. -/
namespace Go.Proofs.Ytbknmfegckeogaa
open Go.RowKit Go.Maps
set_option linter.unusedVariables false
set_option linter.unusedSimpArgs false

section
variable {w : World} {A : Ad} {S : Sp}
set_option maxRecDepth 100000 in
theorem none_is (h : SpAt w A S) : Calls Try.prog 47 #[.pointer (some ⟨A.b, 0, none⟩)] w fun e w' => e = .returned (.bool false) ∧ w = w' := by
  have c3 := h.cells.2.2.2.1
  clear h
  go_enter Try.func47, Try.ntmps47
  go_wp2
  go_ret
  exact ⟨rfl, rfl⟩
set_option maxRecDepth 100000 in
set_option maxHeartbeats 1000000 in
theorem there_is (h : SpAt w A S) (g s : Int) : Calls Try.prog 79 #[.pointer (some ⟨A.b, 0, none⟩), .int .i64 g, .int .i64 s] w fun e w' => e = .returned (.int .i64 (if S.there g s = true then 0 else 9)) ∧ w = w' := by
  have CN := none_is h
  obtain ⟨c0, c1, -⟩ := h.cells
  obtain ⟨E, hE⟩ : ∃ E : Int, E = if S.there g s = true then 0 else 9 := ⟨_, rfl⟩
  rw [← hE]
  have hcs : (g < 0 ∧ E = 9) ∨ (¬ g < 0 ∧ S.gs ≤ g ∧ E = 9) ∨ (¬ g < 0 ∧ ¬ S.gs ≤ g ∧ s < 0 ∧ E = 9) ∨ (¬ g < 0 ∧ ¬ S.gs ≤ g ∧ ¬ s < 0 ∧ S.sl ≤ s ∧ E = 9) ∨ (¬ g < 0 ∧ ¬ S.gs ≤ g ∧ ¬ s < 0 ∧ ¬ S.sl ≤ s ∧ E = 0) := by
    have hb : S.there g s = true ↔ (0 ≤ g ∧ g < S.gs ∧ 0 ≤ s ∧ s < S.sl) := by simp [Sp.there, and_assoc]
    by_cases ht : S.there g s = true
    · rw [if_pos ht] at hE
      rw [hb] at ht
      omega
    · rw [if_neg ht] at hE
      rw [hb] at ht
      omega
  clear hE h
  generalize S.gs = G at *
  generalize S.sl = L at *
  rcases hcs with ⟨h1, rfl⟩ | ⟨h1, h2, rfl⟩ | ⟨h1, h2, h3, rfl⟩ | ⟨h1, h2, h3, h4, rfl⟩ | ⟨h1, h2, h3, h4, rfl⟩
  all_goals
    go_enter Try.func79, Try.ntmps79
    go_wp2_with (go_at_call 47; refine CN.mono ?_; rintro e w' ⟨rfl, rfl⟩)
    go_ret
    exact ⟨rfl, rfl⟩
set_option maxRecDepth 100000 in
set_option maxHeartbeats 1000000 in
theorem full_is (h : SpAt w A S) (hl : Lim S) (g s : Int) : Calls Try.prog 48 #[.pointer (some ⟨A.b, 0, none⟩), .int .i64 g, .int .i64 s] w fun e w' => e = .returned (.int .i64 (S.full g s)) ∧ w = w' := by
  have CT := there_is h g s
  obtain ⟨-, -, -, -, c4, -⟩ := h.cells
  unfold Sp.full
  by_cases ht : S.there g s = true
  · rw [if_pos ht] at CT ⊢
    cases hf : fnd S.L g s with
    | none =>
      have hr := in_no h hl ht hf true
      simp only [Option.isSome_none, Bool.false_eq_true, if_false]
      simp only [if_true, spotV] at hr
      clear h hf ht
      go_enter Try.func48, Try.ntmps48
      go_wp2_with (go_at_call 79; refine CT.mono ?_; rintro e w' ⟨rfl, rfl⟩)
      go_ret
      exact ⟨rfl, rfl⟩
    | some x =>
      have hr := in_yes h hl ht hf true
      simp only [Option.isSome_some, if_true]
      simp only [if_true, spotV] at hr
      clear h hf ht
      go_enter Try.func48, Try.ntmps48
      go_wp2_with (go_at_call 79; refine CT.mono ?_; rintro e w' ⟨rfl, rfl⟩)
      go_ret
      exact ⟨rfl, rfl⟩
  · rw [if_neg ht] at CT ⊢
    clear h ht
    go_enter Try.func48, Try.ntmps48
    go_wp2_with (go_at_call 79; refine CT.mono ?_; rintro e w' ⟨rfl, rfl⟩)
    go_ret
    exact ⟨rfl, rfl⟩
set_option maxRecDepth 100000 in
set_option maxHeartbeats 1000000 in
theorem free_is (h : SpAt w A S) (hl : Lim S) (g s : Int) : Calls Try.prog 32 #[.pointer (some ⟨A.b, 0, none⟩), .int .i64 g, .int .i64 s] w fun e w' => e = .returned (.int .i64 (S.freeE g s)) ∧ w = w' := by
  have CT := full_is h hl g s
  have hcs : (S.full g s = 0 ∧ S.freeE g s = 14) ∨ (S.full g s = 10 ∧ S.freeE g s = 0) ∨ (S.full g s = 9 ∧ S.freeE g s = 9) := by
    unfold Sp.full Sp.freeE
    split
    · split
      · exact .inl ⟨rfl, rfl⟩
      · exact .inr (.inl ⟨rfl, rfl⟩)
    · exact .inr (.inr ⟨rfl, rfl⟩)
  rcases hcs with ⟨h1, h2⟩ | ⟨h1, h2⟩ | ⟨h1, h2⟩
  all_goals
    rw [h1] at CT
    rw [h2]
    clear h1 h2 h
    go_enter Try.func32, Try.ntmps32
    go_wp2_with (go_at_call 48; refine CT.mono ?_; rintro e w' ⟨rfl, rfl⟩)
    go_ret
    exact ⟨rfl, rfl⟩
end
end Go.Proofs.Ytbknmfegckeogaa

/- Capability tables: May, may, Get, Len, Room, Parent, by walks. -/
namespace Go.Proofs.Ytbknmfegckeogaa
open Go.RowKit Go.Maps
set_option linter.unusedVariables false
set_option linter.unusedSimpArgs false

set_option maxRecDepth 100000 in
set_option maxHeartbeats 1000000 in
theorem May_is (c : Cp) (hn : 0 ≤ c.n) (w : World) : Calls Try.prog 37 #[capV c] w fun e w' => e = .returned (.bool (mayC c)) ∧ Below w.heap.size w w' := by
  obtain ⟨k, i, n, r⟩ := c
  obtain ⟨E, hE⟩ : ∃ E, E = mayC ⟨k, i, n, r⟩ := ⟨_, rfl⟩
  rw [← hE]
  dsimp only at hn
  have hcs : (¬ 1 ≤ k ∧ E = false) ∨ (1 ≤ k ∧ ¬ k ≤ 3 ∧ E = false) ∨ (1 ≤ k ∧ k ≤ 3 ∧ ¬ 0 ≤ i ∧ E = false) ∨ (1 ≤ k ∧ k ≤ 3 ∧ 0 ≤ i ∧ (n != 0) = false ∧ E = false) ∨ (1 ≤ k ∧ k ≤ 3 ∧ 0 ≤ i ∧ (n != 0) = true ∧ E = true) := by
    have hb : mayC ⟨k, i, n, r⟩ = true ↔ (1 ≤ k ∧ k ≤ 3 ∧ 0 ≤ i ∧ 0 < n) := by simp [mayC, and_assoc]
    have hz : (n != 0) = true ↔ 0 < n := by simp; omega
    have hz' : (n != 0) = false ↔ ¬ 0 < n := by rw [← hz]; simp
    rw [hz, hz']
    cases hm : mayC ⟨k, i, n, r⟩
    · rw [hm] at hE hb
      simp only [Bool.false_eq_true, false_iff] at hb
      subst hE
      simp only [and_true, Bool.false_eq_true, and_false, or_false]
      omega
    · rw [hm] at hE hb
      simp only [true_iff] at hb
      subst hE
      simp only [and_true, Bool.true_eq_false, and_false, false_or]
      exact hb
  clear hE hn
  unfold capV
  rcases hcs with ⟨h1, rfl⟩ | ⟨h1, h2, rfl⟩ | ⟨h1, h2, h3, rfl⟩ | ⟨h1, h2, h3, h4, rfl⟩ | ⟨h1, h2, h3, h4, rfl⟩
  all_goals
    go_enter Try.func37, Try.ntmps37
    go_wp2
    go_ret
    exact ⟨rfl, (Below.refl _ _).alloc (Nat.le_refl _) _⟩
set_option maxRecDepth 100000 in
set_option maxHeartbeats 1000000 in
theorem may_is (c : Cp) (hn : 0 ≤ c.n) (w : World) : Calls Try.prog 67 #[capV c] w fun e w' => e = .returned (.int .i64 (if mayC c = true then 0 else 2)) ∧ Below w.heap.size w w' := by
  have CM := May_is c hn
  have hb := (Below.refl w.heap.size w).alloc (Nat.le_refl _) (.cells #[.int .i64 c.k, .int .i64 c.i, .int .u64 c.n, .int .u8 c.r] 36)
  cases hm : mayC c
  all_goals
    rw [hm] at CM
    simp only [Bool.false_eq_true, if_false, if_true]
    clear hm hn
    unfold capV at *
    go_enter Try.func67, Try.ntmps67
    go_wp2_with (go_at_call 37; refine (CM _).mono ?_; rintro e w2 ⟨rfl, hb2⟩)
    go_ret
    exact ⟨rfl, hb.trans (hb2.mono hb.size)⟩
theorem below_setRow {B : Nat} {a w : World} (h : Below B a w) {g : Nat} (hg : B ≤ g) (cs : Array Value) : Below B a (w.setRow g cs) :=
  ⟨h.os, h.tape, h.output, by rw [setRow_size]; exact h.size, fun k hk => (setRow_other w g k cs (by omega)).trans (h.block k hk)⟩
theorem Blk.put_ {w : World} {g : Nat} {t : TypeId} {cs : Array Value} (h : Blk w g t cs) (c : Array Value) : Blk (w.setRow g c) g t c := setRow_heap w g cs c t (0, 0) h
section
variable {w : World} {A : Ad} {S : Sp}
theorem underCap : ∃ d, Try.prog.underlying 36 = some d ∧ (match d with | .struct _ | .array _ _ => true | _ => false) = true := by
  cases h : Try.prog.underlying 36 with
  | none => exact absurd (show (Try.prog.underlying 36).isSome = true from by kernel_rfl) (by rw [h]; decide)
  | some d => exact ⟨d, rfl, by
      have : ((Try.prog.underlying 36).map fun d => match d with | .struct _ | .array _ _ => true | _ => false) = some true := by kernel_rfl
      rw [h] at this
      simpa using this⟩
theorem results_cap {p u : Tmp} {c : Cp} {g : Nat} {fn : Func} (h : fn.results = #[.cell p 36, .tmp u]) (tmps : Array Value) (w : World) (hp : tmps.getD p undef = .pointer (some ⟨g, 0, none⟩)) (hB : Blk w g 36 #[.int .i64 c.k, .int .i64 c.i, .int .u64 c.n, .int .u8 c.r]) :
    (results fn tmps).run Try.prog w = .ok (.tuple #[capV c, tmps.getD u undef]) w := by
  obtain ⟨d, hu1, hu2⟩ := underCap
  rw [results_cell_tmp h, hp]
  simp only [asAddr, Sem.run_pure, Result.andThen_ok, run_loadVar_row w g 36 36 _ (0, 0) d hB hu1 (by cases d <;> first | rfl | exact absurd hu2 Bool.false_ne_true) (by kernel_rfl)]
  rfl
/-- What Get answers. -/
def Cp.zero : Cp := ⟨0, 0, 0, 0⟩
def Sp.get (S : Sp) (g s : Int) : Cp := ((fnd S.L g s).map En.c).getD Cp.zero
set_option maxRecDepth 100000 in
set_option maxHeartbeats 1000000 in
theorem get_no (h : SpAt w A S) (hl : Lim S) (g s : Int) (hf : S.full g s ≠ 0) : Calls Try.prog 15 #[.pointer (some ⟨A.b, 0, none⟩), .int .i64 g, .int .i64 s] w fun e w' => e = .returned (.tuple #[capV Cp.zero, .int .i64 (S.full g s)]) ∧ Below w.heap.size w w' := by
  have CF := fun w' (hb : Below w.heap.size w w') => full_is (h.below hb) hl g s
  have hb := (Below.refl w.heap.size w).alloc (Nat.le_refl _) (.cells #[.int .i64 0, .int .i64 0, .int .u64 0, .int .u8 0] 36)
  have hq : (S.full g s != 0) = true := by simpa using hf
  generalize S.full g s = E at *
  clear hf
  go_enter Try.func15, Try.ntmps15
  go_wp2_with (go_at_call 48; refine (CF _ hb).mono ?_; rintro e w2 ⟨rfl, hw2⟩; subst w2)
  exact bodyPost_ret (results_cap (p := 6) (u := 7) (c := Cp.zero) (by kernel_rfl) _ _ rfl (Blk.new w 36 _)) rfl ⟨rfl, hb⟩
set_option maxRecDepth 100000 in
set_option maxHeartbeats 1000000 in
theorem get_yes (h : SpAt w A S) (hl : Lim S) (hJ : J S) (g s : Int) (ht : S.there g s = true) {x : En} (hf : fnd S.L g s = some x) : Calls Try.prog 15 #[.pointer (some ⟨A.b, 0, none⟩), .int .i64 g, .int .i64 s] w fun e w' => e = .returned (.tuple #[capV x.c, .int .i64 0]) ∧ Below w.heap.size w w' := by
  have hb := (Below.refl w.heap.size w).alloc (Nat.le_refl _) (.cells #[.int .i64 0, .int .i64 0, .int .u64 0, .int .u8 0] 36)
  have h1 := h.below hb
  have CF := full_is h1 hl g s
  have hE : S.full g s = 0 := by simp [Sp.full, ht, hf]
  rw [hE] at CF
  have h1d : SpAt (w.alloc (.cells #[.int .i64 0, .int .i64 0, .int .u64 0, .int .u8 0] 36)).drew A S := h1.keep (fun _ _ => rfl) (Nat.le_refl _)
  have l1 := in_yes h1d hl ht hf false
  have l2 := cap_yes h1d hl hJ (fnd_mem hf).1 false
  obtain ⟨-, -, -, -, c4, -, c6⟩ := h1.cells
  simp only [Bool.false_eq_true, if_false, spotV] at l1 l2
  unfold capV at *
  have hR := Blk.new w 36 #[.int .i64 0, .int .i64 0, .int .u64 0, .int .u8 0]
  clear hE hf ht h
  go_enter Try.func15, Try.ntmps15
  go_wp2_with (go_at_call 48; refine CF.mono ?_; rintro e w2 ⟨rfl, hw2⟩; subst w2)
  clear h1 h1d CF
  generalize w.alloc (.cells #[.int .i64 0, .int .i64 0, .int .u64 0, .int .u8 0] 36) = w1 at *
  go_still_tail 13, (by kernel_rfl)
  change wpList _ _ _ _ _ w1.drew
  have hR2 := hR.drew
  have HB2 := Lib.hid hb.drew
  clear hR l1 l2 c4 c6 hb
  generalize w1.drew = w2 at *
  have hR3 : w2.heap[w.heap.size]? = some (.cells #[.int .i64 0, .int .i64 0, .int .u64 0, .int .u8 0] 36 (0, 0)) := hR2
  go_wp2_with ((with_reducible refine wpList_store_row (o := ⟨none, .store 36 (.tmp 6) (.tmp 29), _, _, _, _⟩) rfl 36 (.tmp 6) (.tmp 29) ?_ w.heap.size #[.int .i64 x.c.k, .int .i64 x.c.i, .int .u64 x.c.n, .int .u8 x.c.r] ?_ ?_ 36 _ hR3 (by kernel_rfl) rfl ?_ ?_); exact rfl; exact rfl; exact rfl; simp [Value.oneCell'])
  exact bodyPost_ret (results_cap (p := 6) (u := 7) (c := x.c) (by kernel_rfl) _ _ rfl (Blk.put_ hR2 _)) rfl ⟨rfl, below_setRow HB2.out (Nat.le_refl _) _⟩
end
end Go.Proofs.Ytbknmfegckeogaa

/- first: closures called one behind the other till one tells an error, by walk: whatever they are. -/
namespace Go.Proofs.Ytbknmfegckeogaa
open Go.RowKit Go.Maps
set_option linter.unusedVariables false
set_option linter.unusedSimpArgs false

/-- Closures lie in a row. -/
def FnsAt (w : World) (q : Nat) (fs : List (Nat × Array Value)) : Prop := ∀ i (h : i < fs.length), w.cell? ⟨q, i, none⟩ = some (.func (.func (fs[i]'h).1) #[] (fs[i]'h).2)
theorem run_callFunc_plain {P : Program} {f : FuncId} {fn : Func} (hf : P.funcs[f]? = some fn) (hn : (fn.name == "runtime.NumGoroutine") = false) (hb : fn.body.isNone = false) (args : Array Value) (w : World) : (callFunc f args).run P w = .ok (.enter f args) w := by
  unfold callFunc
  simp [hf]
  rw [if_neg (by simpa using hn), if_neg (by intro h; rw [h] at hb; cases hb)]
set_option maxRecDepth 100000 in
set_option maxHeartbeats 1000000 in
theorem first_is (fs : List (Nat × Array Value)) (hn : fs.length ≤ 10) (q cap : Nat) (Inv : Nat → World → Prop) (Out : Int → World → Prop) (hq : ∀ i w', i < fs.length → Inv i w' → FnsAt w' q fs)
    (hf : ∀ i (h : i < fs.length) w', (callFunc (fs[i]'h).1 (fs[i]'h).2).run Try.prog w' = .ok (.enter (fs[i]'h).1 (fs[i]'h).2) w')
    (hc : ∀ i (h : i < fs.length) w', Inv i w' → Calls Try.prog (fs[i]'h).1 (fs[i]'h).2 w' fun e w'' => ∃ z, e = .returned (.int .i64 z) ∧ (z ≠ 0 → Out z w'') ∧ (z = 0 → Inv (i + 1) w''))
    (hend : ∀ w', Inv fs.length w' → Out 0 w') (w : World) (h0 : Inv 0 w) :
    Calls Try.prog 62 #[.slice (some ⟨q, 0, none⟩) fs.length cap] w fun e w' => ∃ z, e = .returned (.int .i64 z) ∧ Out z w' := by
  have HQ := Lib.hid hq
  have HC := Lib.hid hc
  have HF := Lib.hid hf
  have HE := Lib.hid hend
  have H0 := Lib.hid h0
  clear hq hc hend h0 hf
  go_enter Try.func62, Try.ntmps62
  go_wp2_with fail
  go_loopw [8] (fun i wr => ∃ k : Nat, i = .int .i64 (k : Int) ∧ k ≤ fs.length ∧ Hid (Inv k wr)) (fun i _ => fs.length + 1 - (intOf i).toNat)
  case atStart => exact ⟨0, rfl, Nat.zero_le _, H0⟩
  case round =>
    obtain ⟨k, rfl, hk, HI⟩ := hrel
    by_cases hlt : k < fs.length
    · have hlt1 : (k : Int) < (fs.length : Int) := by omega
      have hcell := HQ.out k wr hlt HI.out k hlt
      have CC := HC.out k hlt wr HI.out
      have hcf := HF.out k hlt wr
      have HK := Lib.hid (And.intro hk hlt)
      generalize fs[k]'hlt = x at *
      obtain ⟨f, caps⟩ := x
      dsimp only at hcell CC hcf
      clear hk hlt
      go_wp2_with ((with_reducible refine CC.mono ?_); rintro e2 w2 ⟨z, rfl, hz1, hz0⟩; (have HZ := Lib.hid (And.intro hz1 hz0)); clear hz1 hz0 CC hcf hcell; by_cases hz : z = 0)
      · exact ⟨⟨k + 1, by go_num, by have := HK.out; omega, Lib.hid (HZ.out.2 hz)⟩, by have := HK.out; simp [intOf]; omega⟩
      · go_ret
        exact ⟨z, rfl, HZ.out.1 hz⟩
    · have hlt1 : ¬ (k : Int) < (fs.length : Int) := by omega
      obtain rfl : k = fs.length := by omega
      have HO := Lib.hid (HE.out wr HI.out)
      clear hk hlt
      go_wp2_with fail
      go_ret
      exact ⟨0, rfl, HO.out⟩
end Go.Proofs.Ytbknmfegckeogaa

/- Capability tables: put, by walk. -/
namespace Go.Proofs.Ytbknmfegckeogaa
open Go.RowKit Go.Maps
set_option linter.unusedVariables false
set_option linter.unusedSimpArgs false

theorem norm_ok {S : Sp} {up : Nat} {p : Int} {c : Cp} (hup : (up = 0 ∧ p = -1) ∨ ∃ e ∈ S.L, up = e.id ∧ p = (e.nd : Int) ∧ amongI c.r e.c.r = true) : norm p = p := by
  unfold norm
  rcases hup with ⟨_, rfl⟩ | ⟨e, _, _, rfl, _⟩
  · rfl
  · rw [if_neg (by omega)]
theorem grown_cell {w w' : World} {m : Nat} (hg : w.grownBy w' (some m)) {b o : Nat} {v : Value} (hb : b ≠ m) (h : w.cell? ⟨b, o, none⟩ = some v) : w'.cell? ⟨b, o, none⟩ = some v := by
  refine (World.cell?_of_block (w := w) (a := ⟨b, o, none⟩) (hg.block b (World.block_lt_of_cell? w _ h) (fun e => hb (by injection e)))).trans h
section
variable {w : World} {A : Ad} {S : Sp}
theorem zero_spot (w : World) : (zeroValue 91).run Try.prog w = .ok (spotV 0 0) w := by kernel_rfl
theorem zero_cap (w : World) : (zeroValue 36).run Try.prog w = .ok (.agg #[.int .i64 0, .int .i64 0, .int .u64 0, .int .u8 0]) w := by kernel_rfl
theorem zero_int (w : World) : (zeroValue 3).run Try.prog w = .ok (.int .i64 0) w := by kernel_rfl
set_option maxRecDepth 100000 in
set_option maxHeartbeats 4000000 in
theorem put_is (h : SpAt w A S) (hl : Lim S) (hJ : J S) {up : Nat} {p : Int} {c : Cp} (hup : (up = 0 ∧ p = -1) ∨ ∃ e ∈ S.L, up = e.id ∧ p = (e.nd : Int) ∧ amongI c.r e.c.r = true) (g s : Int) (hf : S.freeE g s = 0) {x : Nat} (hx : S.F.free.getLast? = some x) :
    Calls Try.prog 69 #[.pointer (some ⟨A.b, 0, none⟩), .int .i64 p, .int .i64 g, .int .i64 s, capV c] w fun e w' => e = .returned (.int .i64 0) ∧ ∃ v', SpAt w' { A with v := v' } (S.put up p x g s c) ∧ Fresh w A.v v' ∧ Apart A.own w w' := by
  have hfr : S.there g s = true ∧ fnd S.L g s = none := by
    unfold Sp.freeE at hf
    split at hf
    · rename_i h1
      split at hf
      · cases hf
      · rename_i h2
        exact ⟨h1, by simpa using h2⟩
    · cases hf
  have hbox := (Below.refl w.heap.size w).alloc (Nat.le_refl _) (.cells #[.int .i64 c.k, .int .i64 c.i, .int .u64 c.n, .int .u8 c.r] 36)
  have h0 := h.below hbox
  have hxlt : x < S.F.n := ((hJ.wf.fr x).1 (last_mem hx)).1
  have hxk : keyOf Try.prog 3 (.int .i64 (x : Int)) = some (.int .i64 (x : Int)) := by
    have := hl.n
    exact key_int (wf_small (by omega) (by omega))
  have hgk := there_key hl hfr.1
  have hnx : ∀ e ∈ S.L, e.nd ≠ x := fun e he hh => by
    have h1 := hJ.there_of he
    rw [hh, ((hJ.wf.fr x).1 (last_mem hx)).2] at h1
    cases h1
  have CA := prg_add h0.prg hx p (fun hp => by
    rcases hup with ⟨_, rfl⟩ | ⟨e, he, _, rfl, _⟩
    · omega
    · simp [Fo.has, hJ.there_of he])
  rw [norm_ok hup] at CA
  have R0 := Blk.new w 36 #[.int .i64 c.k, .int .i64 c.i, .int .u64 c.n, .int .u8 c.r]
  obtain ⟨w0, hw0⟩ : ∃ w0, w0 = w.alloc (.cells #[.int .i64 c.k, .int .i64 c.i, .int .u64 c.n, .int .u8 c.r] 36) := ⟨_, rfl⟩
  rw [← hw0] at hbox h0 CA R0
  have hsz0 : w0.heap.size = w.heap.size + 1 := by rw [hw0]; simp
  -- what the region does, from any world behind Add
  have KEY : ∀ (wA : World) (v' : Value), Prg wA A.f A.lb v' (S.F.add p x) → Fresh w0 A.v v' → Apart (own3 A.f A.lb A.v) w0 wA → ∃ (c1 c2 c3 : Nat) (w2 w3 w4 w5 w6 w7 : World),
      ((Instr.mapEntry 70 (.map (some A.mi)) (spotV g s)).run Try.prog wA.drew = .ok (.tuple #[.int .i64 0, goInt c1]) w2 ∧
       (Instr.entryStore 70 (.map (some A.mi)) (goInt c1) (.int .i64 (x : Int))).run Try.prog w2 = .ok () w3 ∧
       (Instr.mapEntry 71 (.map (some A.ma)) (.int .i64 (x : Int))).run Try.prog w3 = .ok (.tuple #[spotV 0 0, goInt c2]) w4 ∧
       (Instr.entryStore 71 (.map (some A.ma)) (goInt c2) (spotV g s)).run Try.prog w4 = .ok () w5 ∧
       (Instr.mapEntry 72 (.map (some A.mc)) (.int .i64 (x : Int))).run Try.prog w5 = .ok (.tuple #[.agg #[.int .i64 0, .int .i64 0, .int .u64 0, .int .u8 0], goInt c3]) w6 ∧
       (Instr.entryStore 72 (.map (some A.mc)) (goInt c3) (capV c)).run Try.prog w6 = .ok () w7) ∧
      (wA.drew.grownBy w2 (some A.mi) ∧ w2.grownBy w3 (some A.mi) ∧ w3.grownBy w4 (some A.ma) ∧ w4.grownBy w5 (some A.ma) ∧ w5.grownBy w6 (some A.mc) ∧ w6.grownBy w7 (some A.mc)) ∧
      SpAt w7 { A with v := v' } (S.put up p x g s c) ∧ Fresh w A.v v' ∧ Apart A.own w w7 := by
    intro wA v' hP hF hA
    have hxo : ∀ k, (k = A.mi ∨ k = A.ma ∨ k = A.mc ∨ k = A.b) → ¬ own3 A.f A.lb A.v k := fun k hk ho => by
      have := h.sep k ho
      rcases hk with rfl | rfl | rfl | rfl
      · exact this.2.1 rfl
      · exact this.2.2.1 rfl
      · exact this.2.2.2 rfl
      · exact this.1 rfl
    have bk : ∀ k, (k = A.mi ∨ k = A.ma ∨ k = A.mc ∨ k = A.b) → k < w0.heap.size → wA.drew.heap[k]? = w0.heap[k]? := fun k hk hlt => hA.block k hlt (hxo k hk)
    have m1 := h0.mi.block (bk A.mi (.inl rfl) h0.mi.lt)
    have m2 := h0.ma.block (bk A.ma (.inr (.inl rfl)) h0.ma.lt)
    have m3 := h0.mc.block (bk A.mc (.inr (.inr (.inl rfl))) h0.mc.lt)
    have mb : wA.drew.heap[A.b]? = w0.heap[A.b]? := bk A.b (.inr (.inr (.inr rfl))) h0.head.lt
    have n1 : ∀ y, ¬ inR S.L (spotV g s) y := by
      rintro y ⟨e, he, h1, _⟩
      obtain ⟨h2, h3⟩ := spot_inj h1
      exact fnd_none hfr.2 e he ⟨h2.symm, h3.symm⟩
    have n2 : ∀ y, ¬ atR S.L (.int .i64 (x : Int)) y := by
      rintro y ⟨e, he, h1, _⟩
      have := int_inj h1
      exact hnx e he (by omega)
    have n3 : ∀ y, ¬ capR S.L (.int .i64 (x : Int)) y := by
      rintro y ⟨e, he, h1, _⟩
      have := int_inj h1
      exact hnx e he (by omega)
    obtain ⟨c1, w2, r2, e2, g2, z2⟩ := run_entry_new spotKeyed Try.underlying70 m1 hgk n1 (zero_int _)
    obtain ⟨w3, r3, e3, g3, z3⟩ := run_estore (R' := inR (S.put up p x g s c).L) (v := .int .i64 (x : Int)) e2 70
      (fun y => by
        constructor
        · rintro ⟨e, he, h1, rfl⟩
          rcases List.mem_append.1 he with he | he
          · exact absurd ⟨e, he, h1, rfl⟩ (n1 _)
          · rw [List.mem_singleton] at he
            subst he
            rfl
        · rintro rfl
          exact ⟨⟨S.came + 1, up, x, g, s, c⟩, by simp [Sp.put], rfl, rfl⟩)
      (fun a ha y => by
        constructor
        · rintro ⟨e, he, h1, h2⟩
          rcases List.mem_append.1 he with he | he
          · exact ⟨e, he, h1, h2⟩
          · rw [List.mem_singleton] at he
            subst he
            exact absurd h1 ha
        · rintro ⟨e, he, h1, h2⟩
          exact ⟨e, by simp [Sp.put, he], h1, h2⟩)
    have m2' := (m2.block (g2.block A.ma m2.lt (fun e => h.sm.1 (by injection e with e; exact e.symm)))).block (g3.block A.ma (by rw [z2]; exact m2.lt) (fun e => h.sm.1 (by injection e with e; exact e.symm)))
    obtain ⟨c2, w4, r4, e4, g4, z4⟩ := run_entry_new intKeyed Try.underlying71 m2' hxk n2 (zero_spot _)
    obtain ⟨w5, r5, e5, g5, z5⟩ := run_estore (R' := atR (S.put up p x g s c).L) (v := spotV g s) e4 71
      (fun y => by
        constructor
        · rintro ⟨e, he, h1, rfl⟩
          rcases List.mem_append.1 he with he | he
          · exact absurd ⟨e, he, h1, rfl⟩ (n2 _)
          · rw [List.mem_singleton] at he
            subst he
            rfl
        · rintro rfl
          exact ⟨⟨S.came + 1, up, x, g, s, c⟩, by simp [Sp.put], rfl, rfl⟩)
      (fun a ha y => by
        constructor
        · rintro ⟨e, he, h1, h2⟩
          rcases List.mem_append.1 he with he | he
          · exact ⟨e, he, h1, h2⟩
          · rw [List.mem_singleton] at he
            subst he
            exact absurd h1 ha
        · rintro ⟨e, he, h1, h2⟩
          exact ⟨e, by simp [Sp.put, he], h1, h2⟩)
    have ne1 : A.mc ≠ A.mi := fun e => h.sm.2.1 e.symm
    have ne2 : A.mc ≠ A.ma := fun e => h.sm.2.2 e.symm
    have m3' := (((m3.block (g2.block A.mc m3.lt (fun e => ne1 (by injection e)))).block (g3.block A.mc (by rw [z2]; exact m3.lt) (fun e => ne1 (by injection e)))).block (g4.block A.mc (by rw [z3, z2]; exact m3.lt) (fun e => ne2 (by injection e)))).block (g5.block A.mc (by rw [z4, z3, z2]; exact m3.lt) (fun e => ne2 (by injection e)))
    obtain ⟨c3, w6, r6, e6, g6, z6⟩ := run_entry_new intKeyed Try.underlying72 m3' hxk n3 (zero_cap _)
    obtain ⟨w7, r7, e7, g7, z7⟩ := run_estore (R' := capR (S.put up p x g s c).L) (v := capV c) e6 72
      (fun y => by
        constructor
        · rintro ⟨e, he, h1, rfl⟩
          rcases List.mem_append.1 he with he | he
          · exact absurd ⟨e, he, h1, rfl⟩ (n3 _)
          · rw [List.mem_singleton] at he
            subst he
            rfl
        · rintro rfl
          exact ⟨⟨S.came + 1, up, x, g, s, c⟩, by simp [Sp.put], rfl, rfl⟩)
      (fun a ha y => by
        constructor
        · rintro ⟨e, he, h1, h2⟩
          rcases List.mem_append.1 he with he | he
          · exact ⟨e, he, h1, h2⟩
          · rw [List.mem_singleton] at he
            subst he
            exact absurd h1 ha
        · rintro ⟨e, he, h1, h2⟩
          exact ⟨e, by simp [Sp.put, he], h1, h2⟩)
    have far : ∀ k, k < wA.heap.size → k ≠ A.mi → k ≠ A.ma → k ≠ A.mc → w7.heap[k]? = wA.heap[k]? := by
      intro k hk d1 d2 d3
      have s1 : k < wA.drew.heap.size := hk
      rw [g7.block k (by omega) (fun e => d3 (by injection e)), g6.block k (by omega) (fun e => d3 (by injection e)), g5.block k (by omega) (fun e => d2 (by injection e)), g4.block k (by omega) (fun e => d2 (by injection e)), g3.block k (by omega) (fun e => d1 (by injection e)), g2.block k s1 (fun e => d1 (by injection e))]
      rfl
    have hz7 : w7.heap.size = wA.heap.size := by
      have : wA.drew.heap.size = wA.heap.size := rfl
      omega
    have fresh' : ∀ k, own3 A.f A.lb v' k → own3 A.f A.lb A.v k ∨ w0.heap.size ≤ k := by
      rintro k (e | e | e)
      · exact .inl (.inl e)
      · exact .inl (.inr (.inl e))
      · rcases hF k e with e | e
        · exact .inl (.inr (.inr e))
        · exact .inr e
    have lt4 : A.b < w0.heap.size ∧ A.mi < w0.heap.size ∧ A.ma < w0.heap.size ∧ A.mc < w0.heap.size := ⟨h0.head.lt, h0.mi.lt, h0.ma.lt, h0.mc.lt⟩
    have sep' : ∀ k, own3 A.f A.lb v' k → k ≠ A.b ∧ k ≠ A.mi ∧ k ≠ A.ma ∧ k ≠ A.mc := by
      intro k hk
      rcases fresh' k hk with e | e
      · exact h.sep k e
      · omega
    have hAs := hA.size
    have hwd : wA.drew.heap.size = wA.heap.size := rfl
    obtain ⟨l1, l2, l3, l4⟩ := lt4
    refine ⟨c1, c2, c3, w2, w3, w4, w5, w6, w7, ⟨r2, r3, r4, r5, r6, r7⟩, ⟨g2, g3, g4, g5, g6, g7⟩, ⟨?_, ?_, ?_, ?_, ?_, sep', h.sb, h.sm⟩, ?_, ?_⟩
    · exact ((far A.b (Nat.lt_of_lt_of_le l1 hA.size) h.sb.1 h.sb.2.1 h.sb.2.2).trans mb).trans h0.head
    · exact hP.keep (fun k hk => far k (own3_lt hP hk) (sep' k hk).2.1 (sep' k hk).2.2.1 (sep' k hk).2.2.2) (by omega)
    · have e : (S.put up p x g s c).L.length = S.L.length + 1 := by simp [Sp.put]
      rw [e]
      exact (((e3.block (g4.block A.mi (by omega) (fun e => h.sm.1 (by injection e)))).block (g5.block A.mi (by omega) (fun e => h.sm.1 (by injection e)))).block (g6.block A.mi (by omega) (fun e => h.sm.2.1 (by injection e)))).block (g7.block A.mi (by omega) (fun e => h.sm.2.1 (by injection e)))
    · have e : (S.put up p x g s c).L.length = S.L.length + 1 := by simp [Sp.put]
      rw [e]
      exact (e5.block (g6.block A.ma (by omega) (fun e => h.sm.2.2 (by injection e)))).block (g7.block A.ma (by omega) (fun e => h.sm.2.2 (by injection e)))
    · have e : (S.put up p x g s c).L.length = S.L.length + 1 := by simp [Sp.put]
      rw [e]
      exact e7
    · intro k hk
      rcases hF k hk with e | e
      · exact .inl e
      · exact .inr (by omega)
    · have a1 : Apart A.own w w0 := Apart.of_below hbox
      have a2 : Apart A.own w wA := a1.trans (hA.mono fun k hk => .inl hk) (fun k _ hk => hk)
      have o1 : A.own A.mi := .inr (.inr (.inl rfl))
      have o2 : A.own A.ma := .inr (.inr (.inr (.inl rfl)))
      have o3 : A.own A.mc := .inr (.inr (.inr (.inr rfl)))
      exact (((((a2.drew.grown g2 (fun r e => by injection e with e; exact .inl (e ▸ o1))).grown g3 (fun r e => by injection e with e; exact .inl (e ▸ o1))).grown g4 (fun r e => by injection e with e; exact .inl (e ▸ o2))).grown g5 (fun r e => by injection e with e; exact .inl (e ▸ o2))).grown g6 (fun r e => by injection e with e; exact .inl (e ▸ o3))).grown g7 (fun r e => by injection e with e; exact .inl (e ▸ o3))
  have HKEY := Lib.hid KEY
  have HR0 := Lib.hid (And.intro R0 hsz0)
  have hc0 := h0.cells
  have HC0 := Lib.hid (And.intro hc0 (And.intro h.sep (And.intro h.sb h0.head.lt)))
  obtain ⟨-, -, -, c3f, -⟩ := hc0
  have hml : A.mi < w.heap.size ∧ A.ma < w.heap.size ∧ A.mc < w.heap.size := ⟨h.mi.lt, h.ma.lt, h.mc.lt⟩
  have HML := Lib.hid (And.intro hml (fun k hk => own3_lt h.prg (k := k) hk))
  clear KEY R0 hsz0 h h0 hbox hxk hgk hnx hxlt hfr hf hup hml hx
  subst hw0
  unfold capV
  go_enter Try.func69, Try.ntmps69
  go_wp2_with (go_at_call 88; refine CA.mono ?_; rintro e wA ⟨rfl, v', hP, hF, hA⟩)
  obtain ⟨c1, c2, c3, w2, w3, w4, w5, w6, w7, ⟨r2, r3, r4, r5, r6, r7⟩, ⟨g2, g3, g4, g5, g6, g7⟩, hfin⟩ := HKEY.out wA v' hP hF hA
  have HFIN := Lib.hid hfin
  have hcA : (wA.drew.cell? ⟨A.b, 4, none⟩ = some (.map (some A.mi)) ∧ wA.drew.cell? ⟨A.b, 5, none⟩ = some (.map (some A.ma)) ∧ wA.drew.cell? ⟨A.b, 6, none⟩ = some (.map (some A.mc))) ∧ wA.drew.cell? ⟨w.heap.size, 0, none⟩ = some (.int .i64 c.k) ∧ wA.drew.cell? ⟨w.heap.size, 1, none⟩ = some (.int .i64 c.i) ∧ wA.drew.cell? ⟨w.heap.size, 2, none⟩ = some (.int .u64 c.n) ∧ wA.drew.cell? ⟨w.heap.size, 3, none⟩ = some (.int .u8 c.r) := by
    have hb : wA.heap[A.b]? = (w.alloc (.cells #[.int .i64 c.k, .int .i64 c.i, .int .u64 c.n, .int .u8 c.r] 36)).heap[A.b]? := hA.block A.b HC0.out.2.2.2 (fun ho => (HC0.out.2.1 _ ho).1 rfl)
    have hx : wA.heap[w.heap.size]? = (w.alloc (.cells #[.int .i64 c.k, .int .i64 c.i, .int .u64 c.n, .int .u8 c.r] 36)).heap[w.heap.size]? := hA.block w.heap.size (by rw [HR0.out.2]; omega) (fun ho => by have := HML.out.2 _ ho; omega)
    have B := Blk.drew (hx.trans HR0.out.1 : Blk wA w.heap.size 36 #[.int .i64 c.k, .int .i64 c.i, .int .u64 c.n, .int .u8 c.r])
    have q := fun (o : Nat) => World.cell?_of_block (w := w.alloc (.cells #[.int .i64 c.k, .int .i64 c.i, .int .u64 c.n, .int .u8 c.r] 36)) (w' := wA.drew) (a := ⟨A.b, o, none⟩) hb
    obtain ⟨⟨-, -, -, -, d4, d5, d6⟩, -⟩ := HC0.out
    exact ⟨⟨(q 4).trans d4, (q 5).trans d5, (q 6).trans d6⟩, B.cell 0, B.cell 1, B.cell 2, B.cell 3⟩
  have st : ∀ {wa wb : World} {m : Nat}, wa.grownBy wb (some m) → (m = A.mi ∨ m = A.ma ∨ m = A.mc) → ((wa.cell? ⟨A.b, 4, none⟩ = some (.map (some A.mi)) ∧ wa.cell? ⟨A.b, 5, none⟩ = some (.map (some A.ma)) ∧ wa.cell? ⟨A.b, 6, none⟩ = some (.map (some A.mc))) ∧ wa.cell? ⟨w.heap.size, 0, none⟩ = some (.int .i64 c.k) ∧ wa.cell? ⟨w.heap.size, 1, none⟩ = some (.int .i64 c.i) ∧ wa.cell? ⟨w.heap.size, 2, none⟩ = some (.int .u64 c.n) ∧ wa.cell? ⟨w.heap.size, 3, none⟩ = some (.int .u8 c.r)) → ((wb.cell? ⟨A.b, 4, none⟩ = some (.map (some A.mi)) ∧ wb.cell? ⟨A.b, 5, none⟩ = some (.map (some A.ma)) ∧ wb.cell? ⟨A.b, 6, none⟩ = some (.map (some A.mc))) ∧ wb.cell? ⟨w.heap.size, 0, none⟩ = some (.int .i64 c.k) ∧ wb.cell? ⟨w.heap.size, 1, none⟩ = some (.int .i64 c.i) ∧ wb.cell? ⟨w.heap.size, 2, none⟩ = some (.int .u64 c.n) ∧ wb.cell? ⟨w.heap.size, 3, none⟩ = some (.int .u8 c.r)) := by
    intro wa wb m hg hm hh
    obtain ⟨⟨h4, h5, h6⟩, k0, k1, k2, k3⟩ := hh
    have nb : A.b ≠ m := by
      rcases hm with rfl | rfl | rfl
      · exact HC0.out.2.2.1.1
      · exact HC0.out.2.2.1.2.1
      · exact HC0.out.2.2.1.2.2
    have nx : w.heap.size ≠ m := by
      have := HML.out.1
      rcases hm with rfl | rfl | rfl <;> omega
    exact ⟨⟨grown_cell hg nb h4, grown_cell hg nb h5, grown_cell hg nb h6⟩, grown_cell hg nx k0, grown_cell hg nx k1, grown_cell hg nx k2, grown_cell hg nx k3⟩
  have s2 := st g2 (.inl rfl) hcA
  have s3 := st g3 (.inl rfl) s2
  have s4 := st g4 (.inr (.inl rfl)) s3
  have s5 := st g5 (.inr (.inl rfl)) s4
  have s6 := st g6 (.inr (.inr rfl)) s5
  have s7 := st g7 (.inr (.inr rfl)) s6
  have s1 := hcA
  simp only [spotV, capV] at r2 r3 r4 r5 r6 r7
  clear hP hF hA hcA st g2 g3 g4 g5 g6 g7 hfin CA HKEY HC0 HR0 HML c3f
  simp only [goInt] at r2 r3 r4 r5 r6 r7
  refine wp_region_held_drew (S := fun wx => (wx.cell? ⟨A.b, 4, none⟩ = some (.map (some A.mi)) ∧ wx.cell? ⟨A.b, 5, none⟩ = some (.map (some A.ma)) ∧ wx.cell? ⟨A.b, 6, none⟩ = some (.map (some A.mc))) ∧ wx.cell? ⟨w.heap.size, 0, none⟩ = some (.int .i64 c.k) ∧ wx.cell? ⟨w.heap.size, 1, none⟩ = some (.int .i64 c.i) ∧ wx.cell? ⟨w.heap.size, 2, none⟩ = some (.int .u64 c.n) ∧ wx.cell? ⟨w.heap.size, 3, none⟩ = some (.int .u8 c.r)) (by kernel_rfl) s1 (fun hHeld => ?_)
  refine wpAnyH_take (i := 0) (v := ?_) rfl (by kernel_rfl) (by kernel_rfl) (by kernel_rfl) (fun _ _ _ h => h) (Or.inl ⟨by kernel_rfl, by (intro w' hSw; obtain ⟨⟨hSa, hSb, hSc⟩, hSd, hSe, hSf, hSg⟩ := hSw; go_simp; first | done | (with_reducible rfl) | rfl)⟩) hHeld ?_
  (try simp only [Act.put, List.getElem_toArray, List.getElem_cons_zero, List.getElem_cons_succ, List.setIfInBounds_toArray, List.set_cons_zero, List.set_cons_succ])
  refine wpAnyH_take (i := 1) (v := ?_) rfl (by kernel_rfl) (by kernel_rfl) (by kernel_rfl) (fun _ _ _ h => h) (Or.inl ⟨by kernel_rfl, by (intro w' hSw; obtain ⟨⟨hSa, hSb, hSc⟩, hSd, hSe, hSf, hSg⟩ := hSw; go_simp; first | done | (with_reducible rfl) | rfl)⟩) hHeld ?_
  (try simp only [Act.put, List.getElem_toArray, List.getElem_cons_zero, List.getElem_cons_succ, List.setIfInBounds_toArray, List.set_cons_zero, List.set_cons_succ])
  refine wpAnyH_take (i := 2) (v := ?_) rfl (by kernel_rfl) (by kernel_rfl) (by kernel_rfl) (fun _ _ _ h => h) (Or.inl ⟨by kernel_rfl, by (intro w' hSw; obtain ⟨⟨hSa, hSb, hSc⟩, hSd, hSe, hSf, hSg⟩ := hSw; go_simp; first | done | (with_reducible rfl) | rfl)⟩) hHeld ?_
  (try simp only [Act.put, List.getElem_toArray, List.getElem_cons_zero, List.getElem_cons_succ, List.setIfInBounds_toArray, List.set_cons_zero, List.set_cons_succ])
  refine wpAnyH_take (i := 3) (v := ?_) rfl (by kernel_rfl) (by kernel_rfl) (by kernel_rfl) (fun _ _ _ h => h) (Or.inl ⟨by kernel_rfl, by (intro w' hSw; obtain ⟨⟨hSa, hSb, hSc⟩, hSd, hSe, hSf, hSg⟩ := hSw; go_simp; first | done | (with_reducible rfl) | rfl)⟩) hHeld ?_
  (try simp only [Act.put, List.getElem_toArray, List.getElem_cons_zero, List.getElem_cons_succ, List.setIfInBounds_toArray, List.set_cons_zero, List.set_cons_succ])
  refine wpAnyH_take (i := 4) (v := ?_) rfl (by kernel_rfl) (by kernel_rfl) (by kernel_rfl) (fun _ _ _ h => h) (Or.inl ⟨by kernel_rfl, by (intro w' hSw; obtain ⟨⟨hSa, hSb, hSc⟩, hSd, hSe, hSf, hSg⟩ := hSw; go_simp; first | done | (with_reducible rfl) | rfl)⟩) hHeld ?_
  (try simp only [Act.put, List.getElem_toArray, List.getElem_cons_zero, List.getElem_cons_succ, List.setIfInBounds_toArray, List.set_cons_zero, List.set_cons_succ])
  refine wpAnyH_take (i := 5) (v := ?_) rfl (by kernel_rfl) (by kernel_rfl) (by kernel_rfl) (fun _ _ _ h => h) (Or.inl ⟨by kernel_rfl, by (intro w' hSw; obtain ⟨⟨hSa, hSb, hSc⟩, hSd, hSe, hSf, hSg⟩ := hSw; go_simp; first | done | (with_reducible rfl) | rfl)⟩) hHeld ?_
  (try simp only [Act.put, List.getElem_toArray, List.getElem_cons_zero, List.getElem_cons_succ, List.setIfInBounds_toArray, List.set_cons_zero, List.set_cons_succ])
  refine wpAnyH_take (i := 6) (v := ?_) rfl (by kernel_rfl) (by kernel_rfl) (by kernel_rfl) (fun _ _ _ h => h) (Or.inl ⟨by kernel_rfl, by (intro w' hSw; obtain ⟨⟨hSa, hSb, hSc⟩, hSd, hSe, hSf, hSg⟩ := hSw; go_simp; first | done | (with_reducible rfl) | rfl)⟩) hHeld ?_
  (try simp only [Act.put, List.getElem_toArray, List.getElem_cons_zero, List.getElem_cons_succ, List.setIfInBounds_toArray, List.set_cons_zero, List.set_cons_succ])
  refine wpAnyH_take (i := 7) (v := ?_) rfl (by kernel_rfl) (by kernel_rfl) (by kernel_rfl) (fun _ _ _ h => h) (Or.inl ⟨by kernel_rfl, by (intro w' hSw; obtain ⟨⟨hSa, hSb, hSc⟩, hSd, hSe, hSf, hSg⟩ := hSw; go_simp; first | done | (with_reducible rfl) | rfl)⟩) hHeld ?_
  (try simp only [Act.put, List.getElem_toArray, List.getElem_cons_zero, List.getElem_cons_succ, List.setIfInBounds_toArray, List.set_cons_zero, List.set_cons_succ])
  refine wpAnyH_take (i := 8) (v := ?_) rfl (by kernel_rfl) (by kernel_rfl) (by kernel_rfl) (fun _ _ _ h => h) (Or.inl ⟨by kernel_rfl, by (intro w' hSw; obtain ⟨⟨hSa, hSb, hSc⟩, hSd, hSe, hSf, hSg⟩ := hSw; go_simp; first | done | (with_reducible rfl) | rfl)⟩) hHeld ?_
  (try simp only [Act.put, List.getElem_toArray, List.getElem_cons_zero, List.getElem_cons_succ, List.setIfInBounds_toArray, List.set_cons_zero, List.set_cons_succ])
  refine wpAnyH_take (i := 9) (v := ?_) rfl (by kernel_rfl) (by kernel_rfl) (by kernel_rfl) (fun _ _ _ h => h) (Or.inl ⟨by kernel_rfl, by (intro w' hSw; obtain ⟨⟨hSa, hSb, hSc⟩, hSd, hSe, hSf, hSg⟩ := hSw; go_simp; first | done | (with_reducible rfl) | rfl)⟩) hHeld ?_
  (try simp only [Act.put, List.getElem_toArray, List.getElem_cons_zero, List.getElem_cons_succ, List.setIfInBounds_toArray, List.set_cons_zero, List.set_cons_succ])
  refine wpAnyH_take (i := 10) (v := ?_) rfl (by kernel_rfl) (by kernel_rfl) (by kernel_rfl) (fun _ _ _ h => h) (Or.inl ⟨by kernel_rfl, by (intro w' hSw; obtain ⟨⟨hSa, hSb, hSc⟩, hSd, hSe, hSf, hSg⟩ := hSw; go_simp; first | done | (with_reducible rfl) | rfl)⟩) hHeld ?_
  (try simp only [Act.put, List.getElem_toArray, List.getElem_cons_zero, List.getElem_cons_succ, List.setIfInBounds_toArray, List.set_cons_zero, List.set_cons_succ])
  refine wpAnyH_take (i := 11) (v := ?_) rfl (by kernel_rfl) (by kernel_rfl) (by kernel_rfl) (fun _ _ _ h => h) (Or.inl ⟨by kernel_rfl, by (intro w' hSw; obtain ⟨⟨hSa, hSb, hSc⟩, hSd, hSe, hSf, hSg⟩ := hSw; go_simp; first | done | (with_reducible rfl) | rfl)⟩) hHeld ?_
  (try simp only [Act.put, List.getElem_toArray, List.getElem_cons_zero, List.getElem_cons_succ, List.setIfInBounds_toArray, List.set_cons_zero, List.set_cons_succ])
  refine wpAnyH_take (i := 12) (v := ?_) rfl (by kernel_rfl) (by kernel_rfl) (by kernel_rfl) (fun _ _ _ h => h) (Or.inl ⟨by kernel_rfl, by (intro w' hSw; obtain ⟨⟨hSa, hSb, hSc⟩, hSd, hSe, hSf, hSg⟩ := hSw; go_simp; first | done | (with_reducible rfl) | rfl)⟩) hHeld ?_
  (try simp only [Act.put, List.getElem_toArray, List.getElem_cons_zero, List.getElem_cons_succ, List.setIfInBounds_toArray, List.set_cons_zero, List.set_cons_succ])
  refine wpAnyH_take (i := 13) (v := ?_) rfl (by kernel_rfl) (by kernel_rfl) (by kernel_rfl) (fun _ _ _ h => h) (Or.inl ⟨by kernel_rfl, by (intro w' hSw; obtain ⟨⟨hSa, hSb, hSc⟩, hSd, hSe, hSf, hSg⟩ := hSw; go_simp; first | done | (with_reducible rfl) | rfl)⟩) hHeld ?_
  (try simp only [Act.put, List.getElem_toArray, List.getElem_cons_zero, List.getElem_cons_succ, List.setIfInBounds_toArray, List.set_cons_zero, List.set_cons_succ])
  refine wpAnyH_take (i := 14) (v := ?_) rfl (by kernel_rfl) (by kernel_rfl) (by kernel_rfl) (fun _ _ _ h => h) (Or.inl ⟨by kernel_rfl, by (intro w' hSw; obtain ⟨⟨hSa, hSb, hSc⟩, hSd, hSe, hSf, hSg⟩ := hSw; go_simp; first | done | (with_reducible rfl) | rfl)⟩) hHeld ?_
  (try simp only [Act.put, List.getElem_toArray, List.getElem_cons_zero, List.getElem_cons_succ, List.setIfInBounds_toArray, List.set_cons_zero, List.set_cons_succ])
  refine wpAnyH_take (i := 15) (v := ?_) rfl (by kernel_rfl) (by kernel_rfl) (by kernel_rfl) (fun _ _ _ h => h) (Or.inl ⟨by kernel_rfl, by (intro w' hSw; obtain ⟨⟨hSa, hSb, hSc⟩, hSd, hSe, hSf, hSg⟩ := hSw; go_simp; first | done | (with_reducible rfl) | rfl)⟩) hHeld ?_
  (try simp only [Act.put, List.getElem_toArray, List.getElem_cons_zero, List.getElem_cons_succ, List.setIfInBounds_toArray, List.set_cons_zero, List.set_cons_succ])
  refine wpAnyH_take (i := 16) (v := ?_) rfl (by kernel_rfl) (by kernel_rfl) (by kernel_rfl) (fun _ _ _ h => h) (Or.inl ⟨by kernel_rfl, by (intro w' hSw; obtain ⟨⟨hSa, hSb, hSc⟩, hSd, hSe, hSf, hSg⟩ := hSw; go_simp; first | done | (with_reducible rfl) | rfl)⟩) hHeld ?_
  (try simp only [Act.put, List.getElem_toArray, List.getElem_cons_zero, List.getElem_cons_succ, List.setIfInBounds_toArray, List.set_cons_zero, List.set_cons_succ])
  refine wpAnyH_take (i := 17) (v := ?_) rfl (by kernel_rfl) (by kernel_rfl) (by kernel_rfl) (fun _ _ _ h => h) (Or.inl ⟨by kernel_rfl, by (intro w' hSw; obtain ⟨⟨hSa, hSb, hSc⟩, hSd, hSe, hSf, hSg⟩ := hSw; go_simp; first | done | (with_reducible rfl) | rfl)⟩) hHeld ?_
  (try simp only [Act.put, List.getElem_toArray, List.getElem_cons_zero, List.getElem_cons_succ, List.setIfInBounds_toArray, List.set_cons_zero, List.set_cons_succ])
  refine wpAnyH_take (i := 18) (v := ?_) rfl (by kernel_rfl) (by kernel_rfl) (by kernel_rfl) (fun _ _ _ h => h) (Or.inl ⟨by kernel_rfl, by (intro w' hSw; obtain ⟨⟨hSa, hSb, hSc⟩, hSd, hSe, hSf, hSg⟩ := hSw; go_simp; first | done | (with_reducible rfl) | rfl)⟩) hHeld ?_
  (try simp only [Act.put, List.getElem_toArray, List.getElem_cons_zero, List.getElem_cons_succ, List.setIfInBounds_toArray, List.set_cons_zero, List.set_cons_succ])
  refine wpAnyH_take (i := 19) (v := ?_) rfl (by kernel_rfl) (by kernel_rfl) (by kernel_rfl) (fun _ _ _ h => h) (Or.inl ⟨by kernel_rfl, by (intro w' hSw; obtain ⟨⟨hSa, hSb, hSc⟩, hSd, hSe, hSf, hSg⟩ := hSw; go_simp; first | done | (with_reducible rfl) | rfl)⟩) hHeld ?_
  (try simp only [Act.put, List.getElem_toArray, List.getElem_cons_zero, List.getElem_cons_succ, List.setIfInBounds_toArray, List.set_cons_zero, List.set_cons_succ])
  refine wpAnyH_take (i := 20) (v := ?_) rfl (by kernel_rfl) (by kernel_rfl) (by kernel_rfl) (fun _ _ _ h => h) (Or.inl ⟨by kernel_rfl, by (intro w' hSw; obtain ⟨⟨hSa, hSb, hSc⟩, hSd, hSe, hSf, hSg⟩ := hSw; go_simp; first | done | (with_reducible rfl) | rfl)⟩) hHeld ?_
  (try simp only [Act.put, List.getElem_toArray, List.getElem_cons_zero, List.getElem_cons_succ, List.setIfInBounds_toArray, List.set_cons_zero, List.set_cons_succ])
  refine wpAnyH_take (i := 21) (v := ?_) rfl (by kernel_rfl) (by kernel_rfl) (by kernel_rfl) (fun _ _ _ h => h) (Or.inl ⟨by kernel_rfl, by (intro w' hSw; obtain ⟨⟨hSa, hSb, hSc⟩, hSd, hSe, hSf, hSg⟩ := hSw; go_simp; first | done | (with_reducible rfl) | rfl)⟩) hHeld ?_
  (try simp only [Act.put, List.getElem_toArray, List.getElem_cons_zero, List.getElem_cons_succ, List.setIfInBounds_toArray, List.set_cons_zero, List.set_cons_succ])
  refine wpAnyH_ready (rs := [22]) (by kernel_rfl) (by simp) ?_
  refine AllReadyH.cons rfl (fun K hK => ?_) AllReadyH.nil
  go_simp
  
  try dsimp only
  clear hHeld
  refine hK.out _ _ s2 (fun hHeld => ?_)
  clear hK K
  (try simp only [Act.put, List.getElem_toArray, List.getElem_cons_zero, List.getElem_cons_succ, List.setIfInBounds_toArray, List.set_cons_zero, List.set_cons_succ])
  refine wpAnyH_take (i := 23) (v := ?_) rfl (by kernel_rfl) (by kernel_rfl) (by kernel_rfl) (fun _ _ _ h => h) (Or.inl ⟨by kernel_rfl, by (intro w' hSw; obtain ⟨⟨hSa, hSb, hSc⟩, hSd, hSe, hSf, hSg⟩ := hSw; go_simp; first | done | (with_reducible rfl) | rfl)⟩) hHeld ?_
  (try simp only [Act.put, List.getElem_toArray, List.getElem_cons_zero, List.getElem_cons_succ, List.setIfInBounds_toArray, List.set_cons_zero, List.set_cons_succ])
  refine wpAnyH_ready (rs := [24]) (by kernel_rfl) (by simp) ?_
  refine AllReadyH.cons rfl (fun K hK => ?_) AllReadyH.nil
  go_simp
  
  try dsimp only
  clear hHeld
  refine hK.out _ _ s3 (fun hHeld => ?_)
  clear hK K
  (try simp only [Act.put, List.getElem_toArray, List.getElem_cons_zero, List.getElem_cons_succ, List.setIfInBounds_toArray, List.set_cons_zero, List.set_cons_succ])
  refine wpAnyH_ready (rs := [25]) (by kernel_rfl) (by simp) ?_
  refine AllReadyH.cons rfl (fun K hK => ?_) AllReadyH.nil
  go_simp
  
  try dsimp only
  clear hHeld
  refine hK.out _ _ s4 (fun hHeld => ?_)
  clear hK K
  (try simp only [Act.put, List.getElem_toArray, List.getElem_cons_zero, List.getElem_cons_succ, List.setIfInBounds_toArray, List.set_cons_zero, List.set_cons_succ])
  refine wpAnyH_take (i := 26) (v := ?_) rfl (by kernel_rfl) (by kernel_rfl) (by kernel_rfl) (fun _ _ _ h => h) (Or.inl ⟨by kernel_rfl, by (intro w' hSw; obtain ⟨⟨hSa, hSb, hSc⟩, hSd, hSe, hSf, hSg⟩ := hSw; go_simp; first | done | (with_reducible rfl) | rfl)⟩) hHeld ?_
  (try simp only [Act.put, List.getElem_toArray, List.getElem_cons_zero, List.getElem_cons_succ, List.setIfInBounds_toArray, List.set_cons_zero, List.set_cons_succ])
  refine wpAnyH_ready (rs := [27]) (by kernel_rfl) (by simp) ?_
  refine AllReadyH.cons rfl (fun K hK => ?_) AllReadyH.nil
  go_simp
  
  try dsimp only
  clear hHeld
  refine hK.out _ _ s5 (fun hHeld => ?_)
  clear hK K
  (try simp only [Act.put, List.getElem_toArray, List.getElem_cons_zero, List.getElem_cons_succ, List.setIfInBounds_toArray, List.set_cons_zero, List.set_cons_succ])
  refine wpAnyH_ready (rs := [28]) (by kernel_rfl) (by simp) ?_
  refine AllReadyH.cons rfl (fun K hK => ?_) AllReadyH.nil
  go_simp
  
  try dsimp only
  clear hHeld
  refine hK.out _ _ s6 (fun hHeld => ?_)
  clear hK K
  (try simp only [Act.put, List.getElem_toArray, List.getElem_cons_zero, List.getElem_cons_succ, List.setIfInBounds_toArray, List.set_cons_zero, List.set_cons_succ])
  refine wpAnyH_take (i := 29) (v := ?_) rfl (by kernel_rfl) (by kernel_rfl) (by kernel_rfl) (fun _ _ _ h => h) (Or.inl ⟨by kernel_rfl, by (intro w' hSw; obtain ⟨⟨hSa, hSb, hSc⟩, hSd, hSe, hSf, hSg⟩ := hSw; go_simp; first | done | (with_reducible rfl) | rfl)⟩) hHeld ?_
  (try simp only [Act.put, List.getElem_toArray, List.getElem_cons_zero, List.getElem_cons_succ, List.setIfInBounds_toArray, List.set_cons_zero, List.set_cons_succ])
  refine wpAnyH_ready (rs := [30]) (by kernel_rfl) (by simp) ?_
  refine AllReadyH.cons rfl (fun K hK => ?_) AllReadyH.nil
  go_simp
  
  try dsimp only
  clear hHeld
  refine hK.out _ _ s7 (fun hHeld => ?_)
  clear hK K
  (try simp only [Act.put, List.getElem_toArray, List.getElem_cons_zero, List.getElem_cons_succ, List.setIfInBounds_toArray, List.set_cons_zero, List.set_cons_succ])
  refine wpAnyH_done (by kernel_rfl) ?_ _
  go_wp2
  go_ret
  exact ⟨rfl, v', HFIN.out.1, HFIN.out.2.1, HFIN.out.2.2⟩
end
end Go.Proofs.Ytbknmfegckeogaa
