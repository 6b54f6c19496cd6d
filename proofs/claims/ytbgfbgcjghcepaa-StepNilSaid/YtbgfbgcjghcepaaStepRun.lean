/- step.Run, by walk. -/
import Derived.Test.YtbgfbgcjghcepaaStepLawKit
import Derived.Deep.QuietTactic
import Derived.BigQuiet
namespace Go.Proofs.Ytbgfbgcjghcepaa
open Go.RowKit
set_option linter.unusedVariables false
set_option linter.unusedSimpArgs false

theorem go_row (n : Nat) (D : Nat → Int) (g : Gr) : (goM n D g).cl.size = 6 ∧ (goM n D g).cl.all Value.oneCell' = true := by
  unfold goM
  split
  · exact ⟨rfl, call0_one⟩
  · cases hd : doM n D g with
    | ok g' cl k => exact do_cl n D g g' cl k hd
    | bad z => exact ⟨rfl, call0_one⟩
theorem go_ok (n : Nat) (D : Nat → Int) (hD : ∀ i, 0 ≤ D i) (g : Gr) (hg : g.Ok) : (goM n D g).g.Ok := by
  have hF := go_form n D hD g hg
  generalize goM n D g = s at hF
  cases hF with
  | over h => exact hg
  | to p cl k hp hk h2 h3 => exact hg
  | put i x hi hx h2 h3 =>
    intro j
    show (if j = i then x else g.r j) < M64
    split
    · exact hx
    · exact hg j
  | bad z hz h2 => exact hg

/-- So many steps at most. -/
def runM (n : Nat) (D : Nat → Int) : Nat → Step → Nat → Step × Nat
  | 0, s, k => (s, k)
  | f + 1, s, k => if s.w = 1 ∨ s.w = 4 then runM n D f (goM n D s.g) (k + 1) else (s, k)

theorem results_four {fn : Func} {p q u z : Tmp} {tp tq : TypeId} (h : fn.results = #[.cell p tp, .cell q tq, .tmp u, .tmp z]) (tmps : Array Value) (P : Program) (w : World) :
    (results fn tmps).run P w = ((asAddr (tmps.getD p undef)).run P w).andThen fun a w₁ => ((loadVar tp a).run P w₁).andThen fun v w₂ => ((asAddr (tmps.getD q undef)).run P w₂).andThen fun a' w₃ => ((loadVar tq a').run P w₃).andThen fun v' w₄ => .ok (.tuple #[v, v', tmps.getD u undef, tmps.getD z undef]) w₄ := by
  simp only [results, h]
  simp [Sem.run_bind, Result.andThen]
theorem results_run {tmps : Array Value} {w : World} {a b : Nat} {cs cl : Array Value} (h1 : tmps.getD 6 undef = .pointer (some ⟨a, 0, none⟩)) (h2 : tmps.getD 7 undef = .pointer (some ⟨b, 0, none⟩))
    (hA : Blk w a 30 cs) (hs : cs.size = 19) (hB : Blk w b 36 cl) (hl : cl.size = 6) :
    (results Try.f11 tmps).run Try.prog w = .ok (.tuple #[.agg cs, .agg cl, tmps.getD 8 undef, tmps.getD 9 undef]) w := by
  obtain ⟨d, hu1, hu2⟩ := underG
  obtain ⟨d', hv1, hv2⟩ := underCall
  rw [results_four (p := 6) (q := 7) (u := 8) (z := 9) (tp := 30) (tq := 36) (by kernel_rfl), h1, h2]
  simp only [asAddr, Sem.run_pure, Result.andThen_ok, run_loadVar_row w a 30 30 _ (0, 0) d hA hu1 (by cases d <;> first | rfl | exact absurd hu2 Bool.false_ne_true) (by rw [hs]; kernel_rfl), run_loadVar_row w b 36 36 _ (0, 0) d' hB hv1 (by cases d' <;> first | rfl | exact absurd hv2 Bool.false_ne_true) (by rw [hl]; kernel_rfl)]

def Step.Ok (s : Step) : Prop := s.g.Ok ∧ s.cl.size = 6 ∧ s.cl.all Value.oneCell' = true
/-- What lies where. -/
def RunAt (B : Nat) (w0 w : World) (s : Step) : Prop := Blk w B 30 s.g.c ∧ Blk w (B + 1) 30 zG ∧ Blk w (B + 1 + 1) 36 call0 ∧ Blk w (B + 1 + 1 + 1) 36 s.cl ∧ Below B w0 w
def stepV (g : Gr) (c : Array Value) (z k : Int) : Value := .tuple #[.agg g.c, .agg c, .int .i64 z, .int .i64 k]

set_option maxRecDepth 100000 in
set_option maxHeartbeats 4000000 in
theorem run_is (v : Value) (n : Nat) (D : Nat → Int) (g : Gr) (most : Int) (w : World) (h : CodeAt w v n D) (hr : g.Ok) (hmost : most < 1000000) :
    Calls Try.prog 11 #[v, .agg g.c, .int .i64 most] w fun e w' => e = .returned (stepV (runM n D most.toNat ⟨g, call0, 1⟩ 0).1.g (runM n D most.toNat ⟨g, call0, 1⟩ 0).1.cl (runM n D most.toNat ⟨g, call0, 1⟩ 0).1.w ((runM n D most.toNat ⟨g, call0, 1⟩ 0).2 : Nat)) ∧ Below w.heap.size w w' := by
  have hD := Lib.hid h.2.1
  have GOC := Lib.hid (fun (g' : Gr) (hg' : g'.Ok) (wr : World) (hb : Below w.heap.size w wr) => go_is v n D g' wr (h.below (B := 0) hb) hg')
  have P1 := (((Blk.new w 30 g.c).alloc (.cells zG 30)).alloc (.cells call0 36)).alloc (.cells call0 36)
  have O1 := ((Blk.new (w.alloc (.cells g.c 30)) 30 zG).alloc (.cells call0 36)).alloc (.cells call0 36)
  have C1 := ((Blk.new ((w.alloc (.cells g.c 30)).alloc (.cells zG 30)) 36 call0)).alloc (.cells call0 36)
  have D1 := Blk.new (((w.alloc (.cells g.c 30)).alloc (.cells zG 30)).alloc (.cells call0 36)) 36 call0
  have B1 := ((((Below.refl w.heap.size w).alloc (Nat.le_refl _) (.cells g.c 30)).alloc (by simp) (.cells zG 30)).alloc (by simp; omega) (.cells call0 36)).alloc (by simp; omega) (.cells call0 36)
  have s1 : ∀ (w : World) (o : Obj), (w.alloc o).heap.size = w.heap.size + 1 := fun w o => by simp
  simp only [s1] at O1 C1 D1
  clear s1
  have A1 : Hid (RunAt w.heap.size w _ ⟨g, call0, 1⟩) := Lib.hid ⟨P1, O1, C1, D1, B1⟩
  obtain ⟨R, hR⟩ : ∃ R, R = runM n D most.toNat ⟨g, call0, 1⟩ 0 := ⟨_, rfl⟩
  rw [← hR]
  have HR := Lib.hid hR
  have H0 : Hid (Step.Ok ⟨g, call0, 1⟩) := Lib.hid ⟨hr, rfl, call0_one⟩
  have o1 : w.heap.size ≠ w.heap.size + 1 := by omega
  have o2 : w.heap.size ≠ w.heap.size + 1 + 1 := by omega
  have o3 : w.heap.size ≠ w.heap.size + 1 + 1 + 1 := by omega
  have o4 : w.heap.size + 1 ≠ w.heap.size + 1 + 1 := by omega
  have o5 : w.heap.size + 1 ≠ w.heap.size + 1 + 1 + 1 := by omega
  have o6 : w.heap.size + 1 + 1 ≠ w.heap.size + 1 + 1 + 1 := by omega
  have OO := Lib.hid (And.intro o1 (And.intro o2 (And.intro o3 (And.intro o4 (And.intro o5 o6)))))
  clear h hr P1 O1 C1 D1 B1 hR o1 o2 o3 o4 o5 o6
  unfold call0 zG at A1
  go_enter Try.func11, Try.ntmps11
  go_wp2_with fail
  go_loopw [11, 12] (fun z i wr => ∃ (k : Nat) (s : Step), i = .int .i64 k ∧ z = .int .i64 s.w ∧ Hid s.Ok ∧ Hid (RunAt w.heap.size w wr s) ∧ Hid (runM n D (most.toNat - k) s k = R)) (fun _ i _ => (most - intOf i).toNat)
  case atStart => exact ⟨0, ⟨g, call0, 1⟩, rfl, rfl, H0, A1, HR.out.symm⟩
  case round =>
    obtain ⟨k, s, rfl, rfl, hs, hA, hM⟩ := hrel
    clear A1 H0 HR
    obtain ⟨gs, cl, kw⟩ := s
    by_cases hgo : (k : Int) < most ∧ (kw = 1 ∨ kw = 4)
    · have hlt := hgo.1
      have hM2 : Hid (runM n D (most.toNat - (k + 1)) (goM n D gs) (k + 1) = R) := by
        have e : most.toNat - k = (most.toNat - (k + 1)) + 1 := by omega
        have := hM.out
        rw [e] at this
        simp only [runM] at this
        rw [if_pos hgo.2] at this
        exact Lib.hid this
      have GO := GOC.out gs hs.out.1
      have hs2 : Hid (goM n D gs).Ok := Lib.hid ⟨go_ok n D hD.out gs hs.out.1, go_row n D gs⟩
      generalize goM n D gs = s2 at *
      obtain ⟨x, c2, k2⟩ := s2
      unfold Step.v at GO
      simp only at GO
      have GO := Lib.hid GO
      clear hM
      have P2 := Lib.hid hA.out.1
      rcases hgo.2 with rfl | rfl
      all_goals
        clear hgo
        go_wp2_with (first
          | ((with_reducible refine load_g (o := ⟨some 27, .load 30 (.tmp 4), _, _, _, _⟩) (P2.out) ?_ ?_ (.tmp 4) ?_ ?_ ?_); exact rfl; exact rfl; exact rfl; exact rfl)
          | (go_at_call 9; refine (GO.out _ hA.out.2.2.2.2).mono ?_; rintro e w2 ⟨rfl, hb⟩; (have hA2 : Hid (RunAt w.heap.size w w2 ⟨gs, cl, _⟩) := Lib.hid ⟨hA.out.1.below hb hA.out.1.lt, hA.out.2.1.below hb hA.out.2.1.lt, hA.out.2.2.1.below hb hA.out.2.2.1.lt, hA.out.2.2.2.1.below hb hA.out.2.2.2.1.lt, hA.out.2.2.2.2.trans (hb.mono hA.out.2.2.2.2.size)⟩); (have P3 := Lib.hid hA2.out.1); (have D3 := Lib.hid (hA2.out.2.2.2.1.setRow_ OO.out.2.2.1.symm x.c)); (have hz1 := Lib.hid hs2.out.2.1); (have hz2 := Lib.hid hs2.out.2.2); (have hz3 := Lib.hid hs.out.2.1); clear hb)
          | ((with_reducible refine store_g (o := ⟨none, .store 30 (.tmp 4) (.tmp 29), _, _, _, _⟩) (cs := x.c) (P3.out) ?_ ?_ ?_ ?_ (.tmp 4) (.tmp 29) ?_ ?_ ?_ ?_); exact rfl; exact rfl; exact (Gr.c_one _); exact rfl; exact rfl; exact rfl; exact rfl)
          | ((with_reducible refine store_call (o := ⟨none, .store 36 (.tmp 10) (.tmp 30), _, _, _, _⟩) (cs := c2) (D3.out) ?_ ?_ ?_ ?_ (.tmp 10) (.tmp 30) ?_ ?_ ?_ ?_); exact hz3.out; exact hz1.out; exact hz2.out; exact rfl; exact rfl; exact rfl; exact rfl))
        go_roundw
        case rel => exact ⟨k + 1, ⟨x, c2, k2⟩, by go_num, rfl, hs2, Lib.hid ⟨(hA2.out.1.put_ x.c).setRow_ OO.out.2.2.1 c2, (hA2.out.2.1.setRow_ OO.out.1.symm x.c).setRow_ OO.out.2.2.2.2.1 c2, (hA2.out.2.2.1.setRow_ OO.out.2.1.symm x.c).setRow_ OO.out.2.2.2.2.2 c2, (hA2.out.2.2.2.1.setRow_ OO.out.2.2.1.symm x.c).put_ c2, below_setRow (below_setRow hA2.out.2.2.2.2 (Nat.le_refl _) x.c) (by omega) c2⟩, hM2⟩
        case measure => simp [intOf]; omega
    · have hend : Hid (R = (⟨gs, cl, kw⟩, k)) := by
        have := hM.out
        cases hf : most.toNat - k with
        | zero =>
          rw [hf] at this
          exact Lib.hid this.symm
        | succ f =>
          rw [hf] at this
          simp only [runM] at this
          rw [if_neg (fun h => hgo ⟨by omega, h⟩)] at this
          exact Lib.hid this.symm
      have hq : Hid (¬ ((k : Int) < most ∧ (kw = 1 ∨ kw = 4))) := Lib.hid hgo
      clear hM hgo
      by_cases hlt : (k : Int) < most
      · have e1 : (kw == 1) = false := by simpa using fun e => hq.out ⟨hlt, .inl e⟩
        have e2 : (kw == 4) = false := by simpa using fun e => hq.out ⟨hlt, .inr e⟩
        go_wp2_with fail
        have hA3 := hA
        clear hA
        refine wp_region_held_drew (S := (fun w' => Blk w' w.heap.size 30 gs.c ∧ Blk w' (w.heap.size + 1 + 1 + 1) 36 cl ∧ (∃ x, x.size = 19 ∧ Blk w' (w.heap.size + 1) 30 x) ∧ (∃ y, y.size = 6 ∧ Blk w' (w.heap.size + 1 + 1) 36 y) ∧ Below w.heap.size w w')) (by kernel_rfl) ⟨hA3.out.1, hA3.out.2.2.2.1, ⟨_, rfl, hA3.out.2.1⟩, ⟨_, rfl, hA3.out.2.2.1⟩, hA3.out.2.2.2.2.drew⟩ (fun hHeld => ?_)
        refine wpAnyH_take (i := 0) (v := _) rfl (by kernel_rfl) (by kernel_rfl) (by kernel_rfl) (fun _ _ _ h => h) (yields_g (fun w' h' => h'.1) rfl _ rfl (by kernel_rfl) (by kernel_rfl)) hHeld ?_
        (try simp only [Act.put, List.getElem_toArray, List.getElem_cons_zero, List.getElem_cons_succ, List.setIfInBounds_toArray, List.set_cons_zero, List.set_cons_succ])
        refine wpAnyH_take (i := 1) (v := _) rfl (by kernel_rfl) (by kernel_rfl) (by kernel_rfl) (fun _ _ _ h => h) (yields_call (fun w' h' => h'.2.1) hs.out.2.1 _ rfl (by kernel_rfl) (by kernel_rfl)) hHeld ?_
        (try simp only [Act.put, List.getElem_toArray, List.getElem_cons_zero, List.getElem_cons_succ, List.setIfInBounds_toArray, List.set_cons_zero, List.set_cons_succ])
        refine wpAnyH_take (i := 2) (v := ?_) rfl (by kernel_rfl) (by kernel_rfl) (by kernel_rfl) (fun _ _ _ h => h) (Or.inl ⟨by kernel_rfl, by (intro w' hSw; go_simp; first | done | (with_reducible rfl))⟩) hHeld ?_
        (try simp only [Act.put, List.getElem_toArray, List.getElem_cons_zero, List.getElem_cons_succ, List.setIfInBounds_toArray, List.set_cons_zero, List.set_cons_succ])
        refine wpAnyH_take (i := 3) (v := ?_) rfl (by kernel_rfl) (by kernel_rfl) (by kernel_rfl) (fun _ _ _ h => h) (Or.inl ⟨by kernel_rfl, by (intro w' hSw; go_simp; first | done | (with_reducible rfl))⟩) hHeld ?_
        (try simp only [Act.put, List.getElem_toArray, List.getElem_cons_zero, List.getElem_cons_succ, List.setIfInBounds_toArray, List.set_cons_zero, List.set_cons_succ])
        refine wpAnyH_ready (rs := [4]) (by kernel_rfl) (by simp) ?_
        refine AllReadyH.cons rfl (fun K hK => ?_) AllReadyH.nil
        rw [if_pos (by kernel_rfl)]
        obtain ⟨x1, hx1, hX⟩ := hHeld.2.2.1
        refine wp_store_row 30 (.tmp 6) (.tmp 34) (by exact rfl) (w.heap.size + 1) gs.c (by exact rfl) (by exact rfl) 30 x1 hX (by kernel_rfl) hx1 (Gr.c_one gs) ?_
        have X2 := hX.put_ gs.c
        refine hK.out _ _ ⟨hHeld.1.setRow_ OO.out.1 _, hHeld.2.1.setRow_ OO.out.2.2.2.2.1.symm _, ⟨_, rfl, X2⟩, (by obtain ⟨y1, hy1, hY⟩ := hHeld.2.2.2.1; exact ⟨y1, hy1, hY.setRow_ OO.out.2.2.2.1.symm _⟩), below_setRow hHeld.2.2.2.2 (by omega) _⟩ (fun hHeld => ?_)
        clear hK K
        (try simp only [Act.put, List.getElem_toArray, List.getElem_cons_zero, List.getElem_cons_succ, List.setIfInBounds_toArray, List.set_cons_zero, List.set_cons_succ])
        refine wpAnyH_ready (rs := [5]) (by kernel_rfl) (by simp) ?_
        refine AllReadyH.cons rfl (fun K hK => ?_) AllReadyH.nil
        rw [if_pos (by kernel_rfl)]
        obtain ⟨y1, hy1, hY⟩ := hHeld.2.2.2.1
        refine wp_store_row 36 (.tmp 7) (.tmp 35) (by exact rfl) (w.heap.size + 1 + 1) cl (by exact rfl) (by exact rfl) 36 y1 hY (by rw [hs.out.2.1]; kernel_rfl) (hy1.trans hs.out.2.1.symm) hs.out.2.2 ?_
        have Y3 := hY.put_ cl
        have X3 := X2.setRow_ OO.out.2.2.2.1 cl
        refine hK.out _ _ ⟨hHeld.1.setRow_ OO.out.2.1 _, hHeld.2.1.setRow_ OO.out.2.2.2.2.2.symm _, ⟨_, rfl, X3⟩, ⟨_, hs.out.2.1, Y3⟩, below_setRow hHeld.2.2.2.2 (by omega) _⟩ (fun hHeld => ?_)
        clear hK K
        (try simp only [Act.put, List.getElem_toArray, List.getElem_cons_zero, List.getElem_cons_succ, List.setIfInBounds_toArray, List.set_cons_zero, List.set_cons_succ])
        refine wpAnyH_take (i := 6) (v := ?_) rfl (by kernel_rfl) (by kernel_rfl) (by kernel_rfl) (fun _ _ _ h => h) (Or.inl ⟨by kernel_rfl, by (intro w' hSw; go_simp; first | done | (with_reducible rfl))⟩) hHeld ?_
        (try simp only [Act.put, List.getElem_toArray, List.getElem_cons_zero, List.getElem_cons_succ, List.setIfInBounds_toArray, List.set_cons_zero, List.set_cons_succ])
        refine wpAnyH_take (i := 7) (v := ?_) rfl (by kernel_rfl) (by kernel_rfl) (by kernel_rfl) (fun _ _ _ h => h) (Or.inl ⟨by kernel_rfl, by (intro w' hSw; go_simp; first | done | (with_reducible rfl))⟩) hHeld ?_
        (try simp only [Act.put, List.getElem_toArray, List.getElem_cons_zero, List.getElem_cons_succ, List.setIfInBounds_toArray, List.set_cons_zero, List.set_cons_succ])
        refine wpAnyH_done (by kernel_rfl) ?_ _
        go_wp2
        rw [hend.out]
        exact bodyPost_ret (results_run rfl rfl X3 rfl Y3 hs.out.2.1) rfl ⟨rfl, hHeld.2.2.2.2⟩
      · go_wp2_with fail
        have hA3 := hA
        clear hA
        refine wp_region_held_drew (S := (fun w' => Blk w' w.heap.size 30 gs.c ∧ Blk w' (w.heap.size + 1 + 1 + 1) 36 cl ∧ (∃ x, x.size = 19 ∧ Blk w' (w.heap.size + 1) 30 x) ∧ (∃ y, y.size = 6 ∧ Blk w' (w.heap.size + 1 + 1) 36 y) ∧ Below w.heap.size w w')) (by kernel_rfl) ⟨hA3.out.1, hA3.out.2.2.2.1, ⟨_, rfl, hA3.out.2.1⟩, ⟨_, rfl, hA3.out.2.2.1⟩, hA3.out.2.2.2.2.drew⟩ (fun hHeld => ?_)
        refine wpAnyH_take (i := 0) (v := _) rfl (by kernel_rfl) (by kernel_rfl) (by kernel_rfl) (fun _ _ _ h => h) (yields_g (fun w' h' => h'.1) rfl _ rfl (by kernel_rfl) (by kernel_rfl)) hHeld ?_
        (try simp only [Act.put, List.getElem_toArray, List.getElem_cons_zero, List.getElem_cons_succ, List.setIfInBounds_toArray, List.set_cons_zero, List.set_cons_succ])
        refine wpAnyH_take (i := 1) (v := _) rfl (by kernel_rfl) (by kernel_rfl) (by kernel_rfl) (fun _ _ _ h => h) (yields_call (fun w' h' => h'.2.1) hs.out.2.1 _ rfl (by kernel_rfl) (by kernel_rfl)) hHeld ?_
        (try simp only [Act.put, List.getElem_toArray, List.getElem_cons_zero, List.getElem_cons_succ, List.setIfInBounds_toArray, List.set_cons_zero, List.set_cons_succ])
        refine wpAnyH_take (i := 2) (v := ?_) rfl (by kernel_rfl) (by kernel_rfl) (by kernel_rfl) (fun _ _ _ h => h) (Or.inl ⟨by kernel_rfl, by (intro w' hSw; go_simp; first | done | (with_reducible rfl))⟩) hHeld ?_
        (try simp only [Act.put, List.getElem_toArray, List.getElem_cons_zero, List.getElem_cons_succ, List.setIfInBounds_toArray, List.set_cons_zero, List.set_cons_succ])
        refine wpAnyH_take (i := 3) (v := ?_) rfl (by kernel_rfl) (by kernel_rfl) (by kernel_rfl) (fun _ _ _ h => h) (Or.inl ⟨by kernel_rfl, by (intro w' hSw; go_simp; first | done | (with_reducible rfl))⟩) hHeld ?_
        (try simp only [Act.put, List.getElem_toArray, List.getElem_cons_zero, List.getElem_cons_succ, List.setIfInBounds_toArray, List.set_cons_zero, List.set_cons_succ])
        refine wpAnyH_ready (rs := [4]) (by kernel_rfl) (by simp) ?_
        refine AllReadyH.cons rfl (fun K hK => ?_) AllReadyH.nil
        rw [if_pos (by kernel_rfl)]
        obtain ⟨x1, hx1, hX⟩ := hHeld.2.2.1
        refine wp_store_row 30 (.tmp 6) (.tmp 34) (by exact rfl) (w.heap.size + 1) gs.c (by exact rfl) (by exact rfl) 30 x1 hX (by kernel_rfl) hx1 (Gr.c_one gs) ?_
        have X2 := hX.put_ gs.c
        refine hK.out _ _ ⟨hHeld.1.setRow_ OO.out.1 _, hHeld.2.1.setRow_ OO.out.2.2.2.2.1.symm _, ⟨_, rfl, X2⟩, (by obtain ⟨y1, hy1, hY⟩ := hHeld.2.2.2.1; exact ⟨y1, hy1, hY.setRow_ OO.out.2.2.2.1.symm _⟩), below_setRow hHeld.2.2.2.2 (by omega) _⟩ (fun hHeld => ?_)
        clear hK K
        (try simp only [Act.put, List.getElem_toArray, List.getElem_cons_zero, List.getElem_cons_succ, List.setIfInBounds_toArray, List.set_cons_zero, List.set_cons_succ])
        refine wpAnyH_ready (rs := [5]) (by kernel_rfl) (by simp) ?_
        refine AllReadyH.cons rfl (fun K hK => ?_) AllReadyH.nil
        rw [if_pos (by kernel_rfl)]
        obtain ⟨y1, hy1, hY⟩ := hHeld.2.2.2.1
        refine wp_store_row 36 (.tmp 7) (.tmp 35) (by exact rfl) (w.heap.size + 1 + 1) cl (by exact rfl) (by exact rfl) 36 y1 hY (by rw [hs.out.2.1]; kernel_rfl) (hy1.trans hs.out.2.1.symm) hs.out.2.2 ?_
        have Y3 := hY.put_ cl
        have X3 := X2.setRow_ OO.out.2.2.2.1 cl
        refine hK.out _ _ ⟨hHeld.1.setRow_ OO.out.2.1 _, hHeld.2.1.setRow_ OO.out.2.2.2.2.2.symm _, ⟨_, rfl, X3⟩, ⟨_, hs.out.2.1, Y3⟩, below_setRow hHeld.2.2.2.2 (by omega) _⟩ (fun hHeld => ?_)
        clear hK K
        (try simp only [Act.put, List.getElem_toArray, List.getElem_cons_zero, List.getElem_cons_succ, List.setIfInBounds_toArray, List.set_cons_zero, List.set_cons_succ])
        refine wpAnyH_take (i := 6) (v := ?_) rfl (by kernel_rfl) (by kernel_rfl) (by kernel_rfl) (fun _ _ _ h => h) (Or.inl ⟨by kernel_rfl, by (intro w' hSw; go_simp; first | done | (with_reducible rfl))⟩) hHeld ?_
        (try simp only [Act.put, List.getElem_toArray, List.getElem_cons_zero, List.getElem_cons_succ, List.setIfInBounds_toArray, List.set_cons_zero, List.set_cons_succ])
        refine wpAnyH_take (i := 7) (v := ?_) rfl (by kernel_rfl) (by kernel_rfl) (by kernel_rfl) (fun _ _ _ h => h) (Or.inl ⟨by kernel_rfl, by (intro w' hSw; go_simp; first | done | (with_reducible rfl))⟩) hHeld ?_
        (try simp only [Act.put, List.getElem_toArray, List.getElem_cons_zero, List.getElem_cons_succ, List.setIfInBounds_toArray, List.set_cons_zero, List.set_cons_succ])
        refine wpAnyH_done (by kernel_rfl) ?_ _
        go_wp2
        rw [hend.out]
        exact bodyPost_ret (results_run rfl rfl X3 rfl Y3 hs.out.2.1) rfl ⟨rfl, hHeld.2.2.2.2⟩

end Go.Proofs.Ytbgfbgcjghcepaa
