/- step.Do, by walk: what is over; what goes; what is bad. -/
import Derived.Test.YtbgfbgcjghcepaaStepDone
import Derived.BigQuiet
import Derived.Deep.QuietTactic
namespace Go.Proofs.Ytbgfbgcjghcepaa
open Go.RowKit
set_option linter.unusedVariables false
set_option linter.unusedSimpArgs false

theorem results_three {fn : Func} {p q u : Tmp} {tp tq tu : TypeId} (h : fn.results = #[.cell p tp, .cell q tq, .cell u tu]) (tmps : Array Value) (P : Program) (w : World) :
    (results fn tmps).run P w = ((asAddr (tmps.getD p undef)).run P w).andThen fun a w₁ => ((loadVar tp a).run P w₁).andThen fun v w₂ => ((asAddr (tmps.getD q undef)).run P w₂).andThen fun a' w₃ => ((loadVar tq a').run P w₃).andThen fun v' w₄ => ((asAddr (tmps.getD u undef)).run P w₄).andThen fun a'' w₅ => ((loadVar tu a'').run P w₅).andThen fun v'' w₆ => .ok (.tuple #[v, v', v'']) w₆ := by
  simp only [results, h]
  simp [Sem.run_bind, Result.andThen]
theorem results_go {tmps : Array Value} {w : World} {a b c : Nat} {cs cl : Array Value} {k : Int} (h1 : tmps.getD 4 undef = .pointer (some ⟨a, 0, none⟩)) (h2 : tmps.getD 5 undef = .pointer (some ⟨b, 0, none⟩)) (h3 : tmps.getD 6 undef = .pointer (some ⟨c, 0, none⟩))
    (hA : Blk w a 30 cs) (hs : cs.size = 19) (hB : Blk w b 36 cl) (hl : cl.size = 6) (hC : Blk w c 37 #[.int .i64 k]) :
    (results Try.f9 tmps).run Try.prog w = .ok (.tuple #[.agg cs, .agg cl, .int .i64 k]) w := by
  obtain ⟨d, hu1, hu2⟩ := underG
  obtain ⟨d', hv1, hv2⟩ := underCall
  have hw : (loadVar 37 ⟨c, 0, none⟩).run Try.prog w = .ok (.int .i64 k) w := by
    have hc := (hC.cell 0).trans rfl
    simp [go_sem, hc]
  rw [results_three (p := 4) (q := 5) (u := 6) (tp := 30) (tq := 36) (tu := 37) (by kernel_rfl), h1, h2, h3]
  simp only [asAddr, Sem.run_pure, Result.andThen_ok, run_loadVar_row w a 30 30 _ (0, 0) d hA hu1 (by cases d <;> first | rfl | exact absurd hu2 Bool.false_ne_true) (by rw [hs]; kernel_rfl), run_loadVar_row w b 36 36 _ (0, 0) d' hB hv1 (by cases d' <;> first | rfl | exact absurd hv2 Bool.false_ne_true) (by rw [hl]; kernel_rfl), hw]

theorem below_drewN (w : World) (B n : Nat) : Below B w (w.drewN n) := by
  refine ⟨rfl, rfl, rfl, Nat.le_refl _, fun k hk => rfl⟩
/-- Zero cells. -/
def zG : Array Value := #[.int .i64 0, .bool false, .int .i64 0, .int .u64 0, .int .i64 0, .int .u64 0, .int .u8 0, .int .i64 0, .int .i64 0, .int .u64 0, .int .u64 0, .int .u64 0, .int .u64 0, .int .u64 0, .int .u64 0, .int .u64 0, .int .u64 0, .int .i64 0, .int .u64 0]
/-- What step.Do does. -/
def Over (n : Nat) (D : Nat → Int) (g : Gr) : Prop := (decR n D g.pc).e = 4 ∨ ((n / 4 : Nat) : Int) < g.pc
instance (n : Nat) (D : Nat → Int) (g : Gr) : Decidable (Over n D g) := inferInstanceAs (Decidable ((decR n D g.pc).e = 4 ∨ ((n / 4 : Nat) : Int) < g.pc))
structure Step where
  g : Gr
  cl : Array Value
  w : Int
def goM (n : Nat) (D : Nat → Int) (g : Gr) : Step :=
  if Over n D g then ⟨g, call0, 3⟩ else match doM n D g with
    | .ok g' cl w => ⟨g', cl, w⟩
    | .bad z => ⟨g.bad z, call0, 4⟩
def Step.v (s : Step) : Value := .tuple #[.agg s.g.c, .agg s.cl, .int .i64 s.w]

set_option maxRecDepth 100000 in
set_option maxHeartbeats 8000000 in
theorem go_over4 (v : Value) (n : Nat) (D : Nat → Int) (g : Gr) (w : World) (h : CodeAt w v n D) (he : (decR n D g.pc).e = 4) :
    Calls Try.prog 9 #[v, .agg g.c] w fun e w' => e = .returned (Step.v ⟨g, call0, 3⟩) ∧ Below w.heap.size w w' := by
  have B1 := ((((Below.refl w.heap.size w).alloc (Nat.le_refl _) (.cells g.c 30)).alloc (by simp) (.cells zG 30)).alloc (by simp; omega) (.cells call0 36)).alloc (by simp; omega) (.cells #[.int .i64 0] 37)
  have P1 := (((Blk.new w 30 g.c).alloc (.cells zG 30)).alloc (.cells call0 36)).alloc (.cells #[.int .i64 0] 37)
  have O1 := ((Blk.new (w.alloc (.cells g.c 30)) 30 zG).alloc (.cells call0 36)).alloc (.cells #[.int .i64 0] 37)
  have C1 := ((Blk.new ((w.alloc (.cells g.c 30)).alloc (.cells zG 30)) 36 call0)).alloc (.cells #[.int .i64 0] 37)
  have W1 := Blk.new (((w.alloc (.cells g.c 30)).alloc (.cells zG 30)).alloc (.cells call0 36)) 37 #[.int .i64 0]
  have y8 := (P1.cell 8).trans (show g.c[8]? = some (.int .i64 g.pc) from rfl)
  have s1 : ∀ (w : World) (o : Obj), (w.alloc o).heap.size = w.heap.size + 1 := fun w o => by simp
  simp only [s1] at O1 C1 W1
  clear s1
  have DC := decode_is v n D g.pc _ (h.below (B := 0) B1)
  unfold Dec.v insV at DC
  rw [he] at DC
  generalize decR n D g.pc = d at *
  clear he
  unfold call0 zG at *
  have HB := Lib.hid (And.intro B1 (And.intro P1 (And.intro O1 (And.intro C1 W1))))
  have LN := Lib.hid h
  clear h B1 P1 O1 C1 W1
  have hmf : ∀ (fn : Fn) (first cap : Array Value) (w : World), (Instr.makeFunc fn first cap).run Try.prog w = .ok (.func fn first cap) w := fun _ _ _ _ => rfl
  go_enter_defers Try.func9, Try.ntmps9
  go_wp2_with (first
    | (go_at_call 12; refine DC.mono ?_; rintro e w2 ⟨rfl, hb⟩; (have HB2 := Lib.hid (And.intro (HB.out.1.trans (hb.mono HB.out.1.size)) (And.intro (HB.out.2.1.below hb HB.out.2.1.lt) (And.intro (HB.out.2.2.1.below hb HB.out.2.2.1.lt) (And.intro (HB.out.2.2.2.1.below hb HB.out.2.2.2.1.lt) (HB.out.2.2.2.2.below hb HB.out.2.2.2.2.lt)))))); clear hb))
  obtain ⟨b2, p2, o2, c2, q2⟩ := HB2.out
  have B3 := b2.alloc b2.size (.cells #[.int .u8 d.k, .int .u8 d.a, .int .u8 d.b, .int .u8 d.c] 45)
  have P3 := p2.alloc (.cells #[.int .u8 d.k, .int .u8 d.a, .int .u8 d.b, .int .u8 d.c] 45)
  have O3 := o2.alloc (.cells #[.int .u8 d.k, .int .u8 d.a, .int .u8 d.b, .int .u8 d.c] 45)
  have C3 := c2.alloc (.cells #[.int .u8 d.k, .int .u8 d.a, .int .u8 d.b, .int .u8 d.c] 45)
  have W3 := q2.alloc (.cells #[.int .u8 d.k, .int .u8 d.a, .int .u8 d.b, .int .u8 d.c] 45)
  clear HB HB2 y8 b2 p2 o2 c2 q2
  generalize w2.alloc (.cells #[.int .u8 d.k, .int .u8 d.a, .int .u8 d.b, .int .u8 d.c] 45) = w3 at *
  generalize w2.heap.size = xb at *
  have y8 := (P3.cell 8).trans (show g.c[8]? = some (.int .i64 g.pc) from rfl)
  have B3 := Lib.hid B3
  have P3 := Lib.hid P3
  have O3 := Lib.hid O3
  have C3 := Lib.hid C3
  have W3 := Lib.hid W3
  go_quiet ((fail))
  have B3 := Lib.hid (B3.out.trans (below_drewN w3 _ nq))
  have P3 := Lib.hid (P3.out.drewN nq)
  have O3 := Lib.hid (O3.out.drewN nq)
  have C3 := Lib.hid (C3.out.drewN nq)
  have W3 := Lib.hid (W3.out.drewN nq)
  clear y8
  generalize w3.drewN nq = w4 at *
  have o1 : w.heap.size ≤ w.heap.size + 1 := by omega
  have o2 : w.heap.size ≤ w.heap.size + 1 + 1 := by omega
  have o3 : w.heap.size ≤ w.heap.size + 1 + 1 + 1 := by omega
  have hoc : w.heap.size + 1 ≠ w.heap.size + 1 + 1 := by omega
  have how : w.heap.size + 1 ≠ w.heap.size + 1 + 1 + 1 := by omega
  have hcw : w.heap.size + 1 + 1 ≠ w.heap.size + 1 + 1 + 1 := by omega
  go_wp2_with (first
    | (refine load_g P3.out (Gr.c_size g) (by exact rfl) (.tmp 3) (by exact rfl) (by exact rfl) ?_)
    | (refine store_g O3.out rfl (Gr.c_size g) (Gr.c_one g) (by exact rfl) (.tmp 4) (.tmp 25) (by exact rfl) (by exact rfl) (by exact rfl) ?_; (have O4 := Lib.hid (O3.out.put_ g.c)); (have C4 := Lib.hid (C3.out.setRow_ hoc.symm g.c)); (have W4 := Lib.hid (W3.out.setRow_ how.symm g.c)); (have B4 := Lib.hid (below_setRow B3.out o1 g.c)); clear O3 C3 W3; generalize w4.setRow (w.heap.size + 1) g.c = w5 at *)
    | (refine store_call (cs := call0) C4.out rfl call0_size call0_one (by exact rfl) (.tmp 5) (.tmp 26) (by exact rfl) (by exact rfl) (by exact rfl) ?_; (have C5 := Lib.hid (C4.out.put_ call0)); (have W5 := (W4.out.setRow_ hcw.symm call0)); (have O5 := Lib.hid (O4.out.setRow_ hoc call0)); (have B5 := Lib.hid (below_setRow B4.out o2 call0)); clear O4 C4 W4; generalize w5.setRow (w.heap.size + 1 + 1) call0 = w6 at *; (have z0 := (W5.cell 0).trans rfl); (have zf := W5.frozen 0); (have W5h := Lib.hid W5); clear W5))
  exact ⟨_, results_go rfl rfl rfl (O5.out.far (p := ⟨w.heap.size + 1 + 1 + 1, 0, none⟩) how _) (Gr.c_size g) (C5.out.far (p := ⟨w.heap.size + 1 + 1 + 1, 0, none⟩) hcw _) call0_size (W5h.out.set_ 0 _), rfl, B5.out.setCell (p := ⟨w.heap.size + 1 + 1 + 1, 0, none⟩) o3 _⟩

set_option maxRecDepth 100000 in
set_option maxHeartbeats 8000000 in
theorem go_overN (v : Value) (n : Nat) (D : Nat → Int) (g : Gr) (w : World) (h : CodeAt w v n D) (he : ¬ (decR n D g.pc).e = 4) (hp : ((n / 4 : Nat) : Int) < g.pc) :
    Calls Try.prog 9 #[v, .agg g.c] w fun e w' => e = .returned (Step.v ⟨g, call0, 3⟩) ∧ Below w.heap.size w w' := by
  have B1 := ((((Below.refl w.heap.size w).alloc (Nat.le_refl _) (.cells g.c 30)).alloc (by simp) (.cells zG 30)).alloc (by simp; omega) (.cells call0 36)).alloc (by simp; omega) (.cells #[.int .i64 0] 37)
  have P1 := (((Blk.new w 30 g.c).alloc (.cells zG 30)).alloc (.cells call0 36)).alloc (.cells #[.int .i64 0] 37)
  have O1 := ((Blk.new (w.alloc (.cells g.c 30)) 30 zG).alloc (.cells call0 36)).alloc (.cells #[.int .i64 0] 37)
  have C1 := ((Blk.new ((w.alloc (.cells g.c 30)).alloc (.cells zG 30)) 36 call0)).alloc (.cells #[.int .i64 0] 37)
  have W1 := Blk.new (((w.alloc (.cells g.c 30)).alloc (.cells zG 30)).alloc (.cells call0 36)) 37 #[.int .i64 0]
  have y8 := (P1.cell 8).trans (show g.c[8]? = some (.int .i64 g.pc) from rfl)
  have s1 : ∀ (w : World) (o : Obj), (w.alloc o).heap.size = w.heap.size + 1 := fun w o => by simp
  simp only [s1] at O1 C1 W1
  clear s1
  have DC := decode_is v n D g.pc _ (h.below (B := 0) B1)
  unfold Dec.v insV at DC
  obtain ⟨hn, -, A, cap, hv, -⟩ := h
  obtain ⟨m, hm⟩ : ∃ m : Int, m = ((n / 4 : Nat) : Int) := ⟨_, rfl⟩
  have LC : ∀ w, Calls Try.prog 13 #[v] w fun e w' => e = .returned (.int .i64 m) ∧ w' = w := fun w => by
    rw [hm, hv]
    exact len_is A n cap hn w
  rw [← hm] at hp
  clear hm hv
  obtain ⟨z, hz⟩ : ∃ z, z = (decR n D g.pc).e := ⟨_, rfl⟩
  rw [← hz] at he DC
  generalize (decR n D g.pc) = d at *
  clear hz
  unfold call0 zG at *
  have HB := Lib.hid (And.intro B1 (And.intro P1 (And.intro O1 (And.intro C1 W1))))
  clear B1 P1 O1 C1 W1
  have hmf : ∀ (fn : Fn) (first cap : Array Value) (w : World), (Instr.makeFunc fn first cap).run Try.prog w = .ok (.func fn first cap) w := fun _ _ _ _ => rfl
  go_enter_defers Try.func9, Try.ntmps9
  go_wp2_with (first
    | (go_at_call 12; refine DC.mono ?_; rintro e w2 ⟨rfl, hb⟩; (have HB2 := Lib.hid (And.intro (HB.out.1.trans (hb.mono HB.out.1.size)) (And.intro (HB.out.2.1.below hb HB.out.2.1.lt) (And.intro (HB.out.2.2.1.below hb HB.out.2.2.1.lt) (And.intro (HB.out.2.2.2.1.below hb HB.out.2.2.2.1.lt) (HB.out.2.2.2.2.below hb HB.out.2.2.2.2.lt)))))); clear hb))
  obtain ⟨b2, p2, o2, c2, q2⟩ := HB2.out
  have B3 := b2.alloc b2.size (.cells #[.int .u8 d.k, .int .u8 d.a, .int .u8 d.b, .int .u8 d.c] 45)
  have P3 := p2.alloc (.cells #[.int .u8 d.k, .int .u8 d.a, .int .u8 d.b, .int .u8 d.c] 45)
  have O3 := o2.alloc (.cells #[.int .u8 d.k, .int .u8 d.a, .int .u8 d.b, .int .u8 d.c] 45)
  have C3 := c2.alloc (.cells #[.int .u8 d.k, .int .u8 d.a, .int .u8 d.b, .int .u8 d.c] 45)
  have W3 := q2.alloc (.cells #[.int .u8 d.k, .int .u8 d.a, .int .u8 d.b, .int .u8 d.c] 45)
  clear HB HB2 y8 b2 p2 o2 c2 q2
  generalize w2.alloc (.cells #[.int .u8 d.k, .int .u8 d.a, .int .u8 d.b, .int .u8 d.c] 45) = w3 at *
  generalize w2.heap.size = xb at *
  have y8 := (P3.cell 8).trans (show g.c[8]? = some (.int .i64 g.pc) from rfl)
  have B3 := Lib.hid B3
  have P3 := Lib.hid P3
  have O3 := Lib.hid O3
  have C3 := Lib.hid C3
  have W3 := Lib.hid W3
  go_quiet ((go_at_call 13; exact Calls.quiet_of_same (LC _)))
  have B3 := Lib.hid (B3.out.trans (below_drewN w3 _ nq))
  have P3 := Lib.hid (P3.out.drewN nq)
  have O3 := Lib.hid (O3.out.drewN nq)
  have C3 := Lib.hid (C3.out.drewN nq)
  have W3 := Lib.hid (W3.out.drewN nq)
  clear y8
  generalize w3.drewN nq = w4 at *
  have o1 : w.heap.size ≤ w.heap.size + 1 := by omega
  have o2 : w.heap.size ≤ w.heap.size + 1 + 1 := by omega
  have o3 : w.heap.size ≤ w.heap.size + 1 + 1 + 1 := by omega
  have hoc : w.heap.size + 1 ≠ w.heap.size + 1 + 1 := by omega
  have how : w.heap.size + 1 ≠ w.heap.size + 1 + 1 + 1 := by omega
  have hcw : w.heap.size + 1 + 1 ≠ w.heap.size + 1 + 1 + 1 := by omega
  go_wp2_with (first
    | (refine load_g P3.out (Gr.c_size g) (by exact rfl) (.tmp 3) (by exact rfl) (by exact rfl) ?_)
    | (refine store_g O3.out rfl (Gr.c_size g) (Gr.c_one g) (by exact rfl) (.tmp 4) (.tmp 25) (by exact rfl) (by exact rfl) (by exact rfl) ?_; (have O4 := Lib.hid (O3.out.put_ g.c)); (have C4 := Lib.hid (C3.out.setRow_ hoc.symm g.c)); (have W4 := Lib.hid (W3.out.setRow_ how.symm g.c)); (have B4 := Lib.hid (below_setRow B3.out o1 g.c)); clear O3 C3 W3; generalize w4.setRow (w.heap.size + 1) g.c = w5 at *)
    | (refine store_call (cs := call0) C4.out rfl call0_size call0_one (by exact rfl) (.tmp 5) (.tmp 26) (by exact rfl) (by exact rfl) (by exact rfl) ?_; (have C5 := Lib.hid (C4.out.put_ call0)); (have W5 := (W4.out.setRow_ hcw.symm call0)); (have O5 := Lib.hid (O4.out.setRow_ hoc call0)); (have B5 := Lib.hid (below_setRow B4.out o2 call0)); clear O4 C4 W4; generalize w5.setRow (w.heap.size + 1 + 1) call0 = w6 at *; (have z0 := (W5.cell 0).trans rfl); (have zf := W5.frozen 0); (have W5h := Lib.hid W5); clear W5))
  exact ⟨_, results_go rfl rfl rfl (O5.out.far (p := ⟨w.heap.size + 1 + 1 + 1, 0, none⟩) how _) (Gr.c_size g) (C5.out.far (p := ⟨w.heap.size + 1 + 1 + 1, 0, none⟩) hcw _) call0_size (W5h.out.set_ 0 _), rfl, B5.out.setCell (p := ⟨w.heap.size + 1 + 1 + 1, 0, none⟩) o3 _⟩

theorem below_grown {B gb : Nat} {w w' : World} (h : w.grownBy w' (some gb)) (hB : B ≤ gb) (hs : B ≤ w.heap.size) : Below B w w' :=
  ⟨h.os, h.tape, h.output, h.size, fun k hk => h.block k (by omega) (fun e => by injection e; omega)⟩
theorem ins_cl (n : Nat) (g g' : Gr) (k a b c : Int) (cl : Array Value) (z : Int) (h : insM n g k a b c = .ok g' cl z) : cl.size = 6 ∧ cl.all Value.oneCell' = true := by
  have h0 : call0.size = 6 ∧ call0.all Value.oneCell' = true := ⟨rfl, call0_one⟩
  have hj : ∀ b c, jumpM n g b c = .ok g' cl z → cl.size = 6 ∧ cl.all Value.oneCell' = true := fun b c h => by
    unfold jumpM at h
    split at h
    · cases h
    · injection h with _ h _
      exact h ▸ h0
  unfold insM at h
  repeat' split at h
  all_goals first
    | cases h; done
    | exact hj _ _ h
    | (injection h with _ h _; exact h ▸ h0)
    | (injection h with _ h _; subst h; exact ⟨rfl, by simp [callV, Value.oneCell']⟩)
theorem do_cl (n : Nat) (D : Nat → Int) (g g' : Gr) (cl : Array Value) (z : Int) (h : doM n D g = .ok g' cl z) : cl.size = 6 ∧ cl.all Value.oneCell' = true := by
  unfold doM at h
  split at h
  · cases h
  · exact ins_cl _ _ _ _ _ _ _ _ _ h

set_option maxRecDepth 100000 in
set_option maxHeartbeats 8000000 in
theorem go_fine (v : Value) (n : Nat) (D : Nat → Int) (g : Gr) (w : World) (h : CodeAt w v n D) (hr : g.Ok) (he : ¬ (decR n D g.pc).e = 4) (hp : ¬ ((n / 4 : Nat) : Int) < g.pc) (g' : Gr) (cl : Array Value) (k : Int) (hd : doM n D g = .ok g' cl k) :
    Calls Try.prog 9 #[v, .agg g.c] w fun e w' => e = .returned (Step.v ⟨g', cl, k⟩) ∧ Below w.heap.size w w' := by
  have B1 := ((((Below.refl w.heap.size w).alloc (Nat.le_refl _) (.cells g.c 30)).alloc (by simp) (.cells zG 30)).alloc (by simp; omega) (.cells call0 36)).alloc (by simp; omega) (.cells #[.int .i64 0] 37)
  have P1 := (((Blk.new w 30 g.c).alloc (.cells zG 30)).alloc (.cells call0 36)).alloc (.cells #[.int .i64 0] 37)
  have O1 := ((Blk.new (w.alloc (.cells g.c 30)) 30 zG).alloc (.cells call0 36)).alloc (.cells #[.int .i64 0] 37)
  have C1 := ((Blk.new ((w.alloc (.cells g.c 30)).alloc (.cells zG 30)) 36 call0)).alloc (.cells #[.int .i64 0] 37)
  have W1 := Blk.new (((w.alloc (.cells g.c 30)).alloc (.cells zG 30)).alloc (.cells call0 36)) 37 #[.int .i64 0]
  have y8 := (P1.cell 8).trans (show g.c[8]? = some (.int .i64 g.pc) from rfl)
  have s1 : ∀ (w : World) (o : Obj), (w.alloc o).heap.size = w.heap.size + 1 := fun w o => by simp
  simp only [s1] at O1 C1 W1
  clear s1
  have DC := decode_is v n D g.pc _ (h.below (B := 0) B1)
  unfold Dec.v insV at DC
  obtain ⟨hn, -, A, cap, hv, -⟩ := id h
  obtain ⟨m, hm⟩ : ∃ m : Int, m = ((n / 4 : Nat) : Int) := ⟨_, rfl⟩
  have LC : ∀ w, Calls Try.prog 13 #[v] w fun e w' => e = .returned (.int .i64 m) ∧ w' = w := fun w => by
    rw [hm, hv]
    exact len_is A n cap hn w
  rw [← hm] at hp
  clear hm hv
  obtain ⟨hcs, hc1⟩ := do_cl n D g g' cl k hd
  have hcs := Lib.hid hcs
  have hc1 := Lib.hid hc1
  have DO : ∀ (w1 : World) (hO : Blk w1 (w.heap.size + 1) 30 g.c) (hL : CodeAt w1 v n D), Calls Try.prog 15 #[v, .pointer (some ⟨w.heap.size + 1, 0, none⟩)] w1 fun e w' => e = .returned (.tuple #[.agg cl, .int .i64 k]) ∧ w1.grownBy w' (some (w.heap.size + 1)) ∧ Blk w' (w.heap.size + 1) 30 g'.c := fun w1 hO hL => by
    have := do_is v n D _ g w1 hL hO hr
    rw [hd] at this
    exact this
  clear hd hr
  obtain ⟨z, hz⟩ : ∃ z, z = (decR n D g.pc).e := ⟨_, rfl⟩
  rw [← hz] at he DC
  generalize (decR n D g.pc) = d at *
  clear hz
  have hz4 : (z == 4) = false := by simpa using he
  have hdp : decide (m < g.pc) = false := by simpa using hp
  unfold call0 zG at *
  have HB := Lib.hid (And.intro B1 (And.intro P1 (And.intro O1 (And.intro C1 W1))))
  have LN := Lib.hid h
  clear h B1 P1 O1 C1 W1
  have hmf : ∀ (fn : Fn) (first cap : Array Value) (w : World), (Instr.makeFunc fn first cap).run Try.prog w = .ok (.func fn first cap) w := fun _ _ _ _ => rfl
  go_enter_defers Try.func9, Try.ntmps9
  go_wp2_with (first
    | (go_at_call 12; refine DC.mono ?_; rintro e w2 ⟨rfl, hb⟩; (have HB2 := Lib.hid (And.intro (HB.out.1.trans (hb.mono HB.out.1.size)) (And.intro (HB.out.2.1.below hb HB.out.2.1.lt) (And.intro (HB.out.2.2.1.below hb HB.out.2.2.1.lt) (And.intro (HB.out.2.2.2.1.below hb HB.out.2.2.2.1.lt) (HB.out.2.2.2.2.below hb HB.out.2.2.2.2.lt)))))); clear hb))
  obtain ⟨b2, p2, o2, c2, q2⟩ := HB2.out
  have B3 := b2.alloc b2.size (.cells #[.int .u8 d.k, .int .u8 d.a, .int .u8 d.b, .int .u8 d.c] 45)
  have P3 := p2.alloc (.cells #[.int .u8 d.k, .int .u8 d.a, .int .u8 d.b, .int .u8 d.c] 45)
  have O3 := o2.alloc (.cells #[.int .u8 d.k, .int .u8 d.a, .int .u8 d.b, .int .u8 d.c] 45)
  have C3 := c2.alloc (.cells #[.int .u8 d.k, .int .u8 d.a, .int .u8 d.b, .int .u8 d.c] 45)
  have W3 := q2.alloc (.cells #[.int .u8 d.k, .int .u8 d.a, .int .u8 d.b, .int .u8 d.c] 45)
  clear HB HB2 y8 b2 p2 o2 c2 q2
  generalize w2.alloc (.cells #[.int .u8 d.k, .int .u8 d.a, .int .u8 d.b, .int .u8 d.c] 45) = w3 at *
  generalize w2.heap.size = xb at *
  have y8 := (P3.cell 8).trans (show g.c[8]? = some (.int .i64 g.pc) from rfl)
  have B3 := Lib.hid B3
  have P3 := Lib.hid P3
  have O3 := Lib.hid O3
  have C3 := Lib.hid C3
  have W3 := Lib.hid W3
  go_quiet ((go_at_call 13; exact Calls.quiet_of_same (LC _)))
  have B3 := Lib.hid (B3.out.trans (below_drewN w3 _ nq))
  have P3 := Lib.hid (P3.out.drewN nq)
  have O3 := Lib.hid (O3.out.drewN nq)
  have C3 := Lib.hid (C3.out.drewN nq)
  have W3 := Lib.hid (W3.out.drewN nq)
  clear y8
  generalize w3.drewN nq = w4 at *
  have o1 : w.heap.size ≤ w.heap.size + 1 := by omega
  have o2 : w.heap.size ≤ w.heap.size + 1 + 1 := by omega
  have o3 : w.heap.size ≤ w.heap.size + 1 + 1 + 1 := by omega
  have hop : w.heap.size ≠ w.heap.size + 1 := by omega
  have hoc : w.heap.size + 1 ≠ w.heap.size + 1 + 1 := by omega
  have how : w.heap.size + 1 ≠ w.heap.size + 1 + 1 + 1 := by omega
  have hcw : w.heap.size + 1 + 1 ≠ w.heap.size + 1 + 1 + 1 := by omega
  have gop : some w.heap.size ≠ some (w.heap.size + 1) := fun e => by injection e; omega
  have goc : some (w.heap.size + 1 + 1) ≠ some (w.heap.size + 1) := fun e => by injection e; omega
  have gow : some (w.heap.size + 1 + 1 + 1) ≠ some (w.heap.size + 1) := fun e => by injection e; omega
  go_wp2_with (first
    | (refine load_g P3.out (Gr.c_size g) (by exact rfl) (.tmp 3) (by exact rfl) (by exact rfl) ?_)
    | (refine store_g O3.out rfl (Gr.c_size g) (Gr.c_one g) (by exact rfl) (.tmp 4) (.tmp 28) (by exact rfl) (by exact rfl) (by exact rfl) ?_; (have O4 := Lib.hid (O3.out.put_ g.c)); (have P4 := Lib.hid (P3.out.setRow_ hop g.c)); (have C4 := Lib.hid (C3.out.setRow_ hoc.symm g.c)); (have W4 := Lib.hid (W3.out.setRow_ how.symm g.c)); (have B4 := Lib.hid (below_setRow B3.out o1 g.c)); clear O3 C3 W3; generalize w4.setRow (w.heap.size + 1) g.c = w5 at *)
    | (go_at_call 15; refine (DO _ O4.out (LN.out.below (B := 0) B4.out)).mono ?_; rintro e w6 ⟨rfl, hgr, hG6⟩; (have P5 := Lib.hid (P4.out.grown hgr gop)); (have C5 := Lib.hid (C4.out.grown hgr goc)); (have W5 := Lib.hid (W4.out.grown hgr gow)); (have B5 := Lib.hid (B4.out.trans (below_grown hgr o1 B4.out.size))); (have O5 := Lib.hid hG6); clear hgr hG6 O4 P4 C4 W4 B4)
    | (refine store_call (cs := cl) C5.out rfl hcs.out hc1.out (by exact rfl) (.tmp 5) (.tmp 32) (by exact rfl) (by exact rfl) (by exact rfl) ?_; (have C6 := Lib.hid (C5.out.put_ cl)); (have W6 := (W5.out.setRow_ hcw.symm cl)); (have O6 := Lib.hid (O5.out.setRow_ hoc cl)); (have B6 := Lib.hid (below_setRow B5.out o2 cl)); clear O5 C5 W5 P5; generalize w6.setRow (w.heap.size + 1 + 1) cl = w7 at *; (have z0 := (W6.cell 0).trans rfl); (have zf := W6.frozen 0); (have W6h := Lib.hid W6); clear W6))
  have O7 := Lib.hid (O6.out.far (p := ⟨w.heap.size + 1 + 1 + 1, 0, none⟩) how (.int .i64 k))
  have C7 := Lib.hid (C6.out.far (p := ⟨w.heap.size + 1 + 1 + 1, 0, none⟩) hcw (.int .i64 k))
  have W7 : Hid (Blk _ (w.heap.size + 1 + 1 + 1) 37 #[.int .i64 k]) := W6h.out.set_ 0 (.int .i64 k)
  have B7 := Lib.hid (B6.out.setCell (p := ⟨w.heap.size + 1 + 1 + 1, 0, none⟩) o3 (.int .i64 k))
  clear O6 C6 W6h B6 z0 zf
  generalize w7.setCell ⟨w.heap.size + 1 + 1 + 1, 0, none⟩ (.int .i64 k) = w8 at *
  refine wp_region_noPanic ?_
  refine wp_region_held_drew (S := (fun w' => Blk w' (w.heap.size + 1) 30 g'.c ∧ Blk w' (w.heap.size + 1 + 1) 36 cl ∧ Blk w' (w.heap.size + 1 + 1 + 1) 37 #[.int .i64 k] ∧ Below w.heap.size w w')) (by kernel_rfl) ⟨O7.out.drew, C7.out.drew, W7.out.drew, B7.out.drew⟩ (fun hHeld => ?_)
  refine wpAnyH_take (i := 0) (v := _) rfl (by kernel_rfl) (by kernel_rfl) (by kernel_rfl) (fun _ _ _ h => h) (yields_g (fun w' h' => h'.1) rfl _ rfl (by kernel_rfl) (by kernel_rfl)) hHeld ?_
  (try simp only [Act.put, List.getElem_toArray, List.getElem_cons_zero, List.getElem_cons_succ, List.setIfInBounds_toArray, List.set_cons_zero, List.set_cons_succ])
  refine wpAnyH_take (i := 1) (v := _) rfl (by kernel_rfl) (by kernel_rfl) (by kernel_rfl) (fun _ _ _ h => h) (yields_call (fun w' h' => h'.2.1) hcs.out _ rfl (by kernel_rfl) (by kernel_rfl)) hHeld ?_
  (try simp only [Act.put, List.getElem_toArray, List.getElem_cons_zero, List.getElem_cons_succ, List.setIfInBounds_toArray, List.set_cons_zero, List.set_cons_succ])
  refine wpAnyH_take (i := 2) (v := .int .i64 k) rfl (by kernel_rfl) (by kernel_rfl) (by kernel_rfl) (fun _ _ _ h => h) (Or.inl ⟨by kernel_rfl, by (intro w' hSw; have hz := (hSw.2.2.1.cell 0).trans rfl; clear hSw; go_simp; first | done | (with_reducible rfl))⟩) hHeld ?_
  (try simp only [Act.put, List.getElem_toArray, List.getElem_cons_zero, List.getElem_cons_succ, List.setIfInBounds_toArray, List.set_cons_zero, List.set_cons_succ])
  refine wpAnyH_ready (rs := [3]) (by kernel_rfl) (by simp) ?_
  refine AllReadyH.cons rfl (fun K hK => ?_) AllReadyH.nil
  rw [if_pos (by kernel_rfl)]
  refine wp_store_row 30 (.tmp 4) (.tmp 34) (by exact rfl) (w.heap.size + 1) g'.c (by exact rfl) (by exact rfl) 30 g'.c hHeld.1 (by kernel_rfl) rfl (Gr.c_one g') ?_
  refine hK.out _ _ ⟨hHeld.1.put_ _, hHeld.2.1.setRow_ hoc.symm _, hHeld.2.2.1.setRow_ how.symm _, below_setRow hHeld.2.2.2 o1 _⟩ (fun hHeld => ?_)
  clear hK K
  (try simp only [Act.put, List.getElem_toArray, List.getElem_cons_zero, List.getElem_cons_succ, List.setIfInBounds_toArray, List.set_cons_zero, List.set_cons_succ])
  refine wpAnyH_ready (rs := [4]) (by kernel_rfl) (by simp) ?_
  refine AllReadyH.cons rfl (fun K hK => ?_) AllReadyH.nil
  rw [if_pos (by kernel_rfl)]
  refine wp_store_row 36 (.tmp 5) (.tmp 35) (by exact rfl) (w.heap.size + 1 + 1) cl (by exact rfl) (by exact rfl) 36 cl hHeld.2.1 (by rw [hcs.out]; kernel_rfl) rfl hc1.out ?_
  refine hK.out _ _ ⟨hHeld.1.setRow_ hoc _, hHeld.2.1.put_ _, hHeld.2.2.1.setRow_ hcw.symm _, below_setRow hHeld.2.2.2 o2 _⟩ (fun hHeld => ?_)
  clear hK K
  (try simp only [Act.put, List.getElem_toArray, List.getElem_cons_zero, List.getElem_cons_succ, List.setIfInBounds_toArray, List.set_cons_zero, List.set_cons_succ])
  refine wpAnyH_ready (rs := [5]) (by kernel_rfl) (by simp) ?_
  refine AllReadyH.cons rfl (fun K hK => ?_) AllReadyH.nil
  have z0 := (hHeld.2.2.1.cell 0).trans rfl
  have zf := hHeld.2.2.1.frozen 0
  go_simp
  refine hK.out _ _ ⟨hHeld.1.far (p := ⟨w.heap.size + 1 + 1 + 1, 0, none⟩) how _, hHeld.2.1.far (p := ⟨w.heap.size + 1 + 1 + 1, 0, none⟩) hcw _, hHeld.2.2.1.set_ 0 _, hHeld.2.2.2.setCell (p := ⟨w.heap.size + 1 + 1 + 1, 0, none⟩) o3 _⟩ (fun hHeld => ?_)
  clear hK K
  (try simp only [Act.put, List.getElem_toArray, List.getElem_cons_zero, List.getElem_cons_succ, List.setIfInBounds_toArray, List.set_cons_zero, List.set_cons_succ])
  refine wpAnyH_done (by kernel_rfl) ?_ _
  refine NoPanic.normal ?_
  go_wp2
  refine leaves_cons (f := 14) (args := #[.pointer (some ⟨w.heap.size, 0, none⟩), .pointer (some ⟨w.heap.size + 1, 0, none⟩), .pointer (some ⟨w.heap.size + 1 + 1, 0, none⟩), .pointer (some ⟨w.heap.size + 1 + 1 + 1, 0, none⟩)]) (by simp) (by simp [go_sem]) ?_
  refine (done_idle _ _ _ _ _).mono ?_
  rintro e u' w'' ⟨rfl, rfl, rfl⟩
  exact ⟨_, results_go rfl rfl rfl hHeld.1 (Gr.c_size g') hHeld.2.1 hcs.out hHeld.2.2.1, rfl, hHeld.2.2.2⟩

set_option maxRecDepth 100000 in
set_option maxHeartbeats 8000000 in
theorem go_bad (v : Value) (n : Nat) (D : Nat → Int) (g : Gr) (w : World) (h : CodeAt w v n D) (hr : g.Ok) (he : ¬ (decR n D g.pc).e = 4) (hp : ¬ ((n / 4 : Nat) : Int) < g.pc) (z1 : Int) (hd : doM n D g = .bad z1) :
    Calls Try.prog 9 #[v, .agg g.c] w fun e w' => e = .returned (Step.v ⟨g.bad z1, call0, 4⟩) ∧ Below w.heap.size w w' := by
  have B1 := ((((Below.refl w.heap.size w).alloc (Nat.le_refl _) (.cells g.c 30)).alloc (by simp) (.cells zG 30)).alloc (by simp; omega) (.cells call0 36)).alloc (by simp; omega) (.cells #[.int .i64 0] 37)
  have P1 := (((Blk.new w 30 g.c).alloc (.cells zG 30)).alloc (.cells call0 36)).alloc (.cells #[.int .i64 0] 37)
  have O1 := ((Blk.new (w.alloc (.cells g.c 30)) 30 zG).alloc (.cells call0 36)).alloc (.cells #[.int .i64 0] 37)
  have C1 := ((Blk.new ((w.alloc (.cells g.c 30)).alloc (.cells zG 30)) 36 call0)).alloc (.cells #[.int .i64 0] 37)
  have W1 := Blk.new (((w.alloc (.cells g.c 30)).alloc (.cells zG 30)).alloc (.cells call0 36)) 37 #[.int .i64 0]
  have y8 := (P1.cell 8).trans (show g.c[8]? = some (.int .i64 g.pc) from rfl)
  have s1 : ∀ (w : World) (o : Obj), (w.alloc o).heap.size = w.heap.size + 1 := fun w o => by simp
  simp only [s1] at O1 C1 W1
  clear s1
  have DC := decode_is v n D g.pc _ (h.below (B := 0) B1)
  unfold Dec.v insV at DC
  obtain ⟨hn, -, A, cap, hv, -⟩ := id h
  obtain ⟨m, hm⟩ : ∃ m : Int, m = ((n / 4 : Nat) : Int) := ⟨_, rfl⟩
  have LC : ∀ w, Calls Try.prog 13 #[v] w fun e w' => e = .returned (.int .i64 m) ∧ w' = w := fun w => by
    rw [hm, hv]
    exact len_is A n cap hn w
  rw [← hm] at hp
  clear hm hv
  have DO : ∀ (w1 : World) (hO : Blk w1 (w.heap.size + 1) 30 g.c) (hL : CodeAt w1 v n D), Calls Try.prog 15 #[v, .pointer (some ⟨w.heap.size + 1, 0, none⟩)] w1 fun e w' => e = .panicked (faultP z1) ∧ Below w1.heap.size w1 w' := fun w1 hO hL => by
    have := do_is v n D _ g w1 hL hO hr
    rw [hd] at this
    exact this
  clear hd hr
  obtain ⟨z, hz⟩ : ∃ z, z = (decR n D g.pc).e := ⟨_, rfl⟩
  rw [← hz] at he DC
  generalize (decR n D g.pc) = d at *
  clear hz
  have hz4 : (z == 4) = false := by simpa using he
  have hdp : decide (m < g.pc) = false := by simpa using hp
  unfold call0 zG at *
  have HB := Lib.hid (And.intro B1 (And.intro P1 (And.intro O1 (And.intro C1 W1))))
  have LN := Lib.hid h
  clear h B1 P1 O1 C1 W1
  have hmf : ∀ (fn : Fn) (first cap : Array Value) (w : World), (Instr.makeFunc fn first cap).run Try.prog w = .ok (.func fn first cap) w := fun _ _ _ _ => rfl
  go_enter_defers Try.func9, Try.ntmps9
  go_wp2_with (first
    | (go_at_call 12; refine DC.mono ?_; rintro e w2 ⟨rfl, hb⟩; (have HB2 := Lib.hid (And.intro (HB.out.1.trans (hb.mono HB.out.1.size)) (And.intro (HB.out.2.1.below hb HB.out.2.1.lt) (And.intro (HB.out.2.2.1.below hb HB.out.2.2.1.lt) (And.intro (HB.out.2.2.2.1.below hb HB.out.2.2.2.1.lt) (HB.out.2.2.2.2.below hb HB.out.2.2.2.2.lt)))))); clear hb))
  obtain ⟨b2, p2, o2, c2, q2⟩ := HB2.out
  have B3 := b2.alloc b2.size (.cells #[.int .u8 d.k, .int .u8 d.a, .int .u8 d.b, .int .u8 d.c] 45)
  have P3 := p2.alloc (.cells #[.int .u8 d.k, .int .u8 d.a, .int .u8 d.b, .int .u8 d.c] 45)
  have O3 := o2.alloc (.cells #[.int .u8 d.k, .int .u8 d.a, .int .u8 d.b, .int .u8 d.c] 45)
  have C3 := c2.alloc (.cells #[.int .u8 d.k, .int .u8 d.a, .int .u8 d.b, .int .u8 d.c] 45)
  have W3 := q2.alloc (.cells #[.int .u8 d.k, .int .u8 d.a, .int .u8 d.b, .int .u8 d.c] 45)
  clear HB HB2 y8 b2 p2 o2 c2 q2
  generalize w2.alloc (.cells #[.int .u8 d.k, .int .u8 d.a, .int .u8 d.b, .int .u8 d.c] 45) = w3 at *
  generalize w2.heap.size = xb at *
  have y8 := (P3.cell 8).trans (show g.c[8]? = some (.int .i64 g.pc) from rfl)
  have B3 := Lib.hid B3
  have P3 := Lib.hid P3
  have O3 := Lib.hid O3
  have C3 := Lib.hid C3
  have W3 := Lib.hid W3
  go_quiet ((go_at_call 13; exact Calls.quiet_of_same (LC _)))
  have B3 := Lib.hid (B3.out.trans (below_drewN w3 _ nq))
  have P3 := Lib.hid (P3.out.drewN nq)
  have O3 := Lib.hid (O3.out.drewN nq)
  have C3 := Lib.hid (C3.out.drewN nq)
  have W3 := Lib.hid (W3.out.drewN nq)
  clear y8
  generalize w3.drewN nq = w4 at *
  have o1 : w.heap.size ≤ w.heap.size + 1 := by omega
  have o2 : w.heap.size ≤ w.heap.size + 1 + 1 := by omega
  have o3 : w.heap.size ≤ w.heap.size + 1 + 1 + 1 := by omega
  have hop : w.heap.size ≠ w.heap.size + 1 := by omega
  have hoc : w.heap.size + 1 ≠ w.heap.size + 1 + 1 := by omega
  have how : w.heap.size + 1 ≠ w.heap.size + 1 + 1 + 1 := by omega
  have hcw : w.heap.size + 1 + 1 ≠ w.heap.size + 1 + 1 + 1 := by omega
  have gop : some w.heap.size ≠ some (w.heap.size + 1) := fun e => by injection e; omega
  have goc : some (w.heap.size + 1 + 1) ≠ some (w.heap.size + 1) := fun e => by injection e; omega
  have gow : some (w.heap.size + 1 + 1 + 1) ≠ some (w.heap.size + 1) := fun e => by injection e; omega
  go_wp2_with (first
    | (refine load_g P3.out (Gr.c_size g) (by exact rfl) (.tmp 3) (by exact rfl) (by exact rfl) ?_)
    | (refine store_g O3.out rfl (Gr.c_size g) (Gr.c_one g) (by exact rfl) (.tmp 4) (.tmp 28) (by exact rfl) (by exact rfl) (by exact rfl) ?_; (have O4 := Lib.hid (O3.out.put_ g.c)); (have P4 := Lib.hid (P3.out.setRow_ hop g.c)); (have C4 := Lib.hid (C3.out.setRow_ hoc.symm g.c)); (have W4 := Lib.hid (W3.out.setRow_ how.symm g.c)); (have B4 := Lib.hid (below_setRow B3.out o1 g.c)); clear O3 C3 W3; generalize w4.setRow (w.heap.size + 1) g.c = w5 at *)
    | (go_at_call 15; refine (DO _ O4.out (LN.out.below (B := 0) B4.out)).mono ?_; rintro e w6 ⟨rfl, hb6⟩))
  have hsz := B4.out.size
  have hlo := O4.out.lt
  have hlw := W4.out.lt
  refine leaves_cons (f := 14) (args := #[.pointer (some ⟨w.heap.size, 0, none⟩), .pointer (some ⟨w.heap.size + 1, 0, none⟩), .pointer (some ⟨w.heap.size + 1 + 1, 0, none⟩), .pointer (some ⟨w.heap.size + 1 + 1 + 1, 0, none⟩)]) (by simp) (by simp [go_sem]) ?_
  refine (done_catch w.heap.size w.heap.size (w.heap.size + 1) (w.heap.size + 1 + 1) (w.heap.size + 1 + 1 + 1) g g.c _ _ z1 [] w6 (P4.out.below hb6 P4.out.lt) (O4.out.below hb6 O4.out.lt) (Gr.c_size g) (C4.out.below hb6 C4.out.lt) rfl (W4.out.below hb6 W4.out.lt) o1 o2 o3).mono ?_
  rintro e u' w'' ⟨rfl, rfl, hE, hO, hC, hW⟩
  exact ⟨_, results_go rfl rfl rfl hO (Gr.c_size _) hC call0_size hW, rfl, (B4.out.trans (hb6.mono B4.out.size)).trans hE⟩

/-- step.Do does what the model does. -/
theorem go_is (v : Value) (n : Nat) (D : Nat → Int) (g : Gr) (w : World) (h : CodeAt w v n D) (hr : g.Ok) :
    Calls Try.prog 9 #[v, .agg g.c] w fun e w' => e = .returned (goM n D g).v ∧ Below w.heap.size w w' := by
  unfold goM
  by_cases he : (decR n D g.pc).e = 4
  · rw [if_pos (.inl he)]
    exact go_over4 v n D g w h he
  · by_cases hp : ((n / 4 : Nat) : Int) < g.pc
    · rw [if_pos (.inr hp)]
      exact go_overN v n D g w h he hp
    · rw [if_neg (fun e => e.elim he hp)]
      cases hd : doM n D g with
      | ok g' cl k => exact go_fine v n D g w h hr he hp g' cl k hd
      | bad z => exact go_bad v n D g w h hr he hp z hd
end Go.Proofs.Ytbgfbgcjghcepaa
