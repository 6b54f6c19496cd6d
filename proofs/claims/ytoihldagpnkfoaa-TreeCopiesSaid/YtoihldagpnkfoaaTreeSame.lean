/- Same of the program's forest, by a walk: true just if both have the same places. Condition: both are there, of one size. -/
import Derived.Test.YtoihldagpnkfoaaTreeCopy2
namespace Go.Proofs.Ytoihldagpnkfoaa
open Go.RowKit
set_option linter.unusedVariables false
set_option linter.unusedSimpArgs false

theorem below_drewN (w : World) (B n : Nat) : Below B w (w.drewN n) := ⟨rfl, rfl, rfl, Nat.le_refl _, fun _ _ => rfl⟩
/-- The same places. -/
def SameR (n : Nat) (R R' : Raw) : Prop := R.first = R'.first ∧ ∀ i, i < n → R.M i = R'.M i
/-- What Same answers. -/
def SamePost (w : World) (n : Nat) (R R' : Raw) (e : Ending) (w' : World) : Prop := (∃ b, e = .returned (.bool b) ∧ (b = true ↔ SameR n R R')) ∧ Below w.heap.size w w'
theorem same_yes {w w' : World} {n : Nat} {R R' : Raw} (h : SameR n R R') (hb : Below w.heap.size w w') : SamePost w n R R' (.returned (.bool true)) w' := ⟨⟨true, rfl, by simp [h]⟩, hb⟩
theorem same_not {w w' : World} {n : Nat} {R R' : Raw} (h : ¬ SameR n R R') (hb : Below w.heap.size w w') : SamePost w n R R' (.returned (.bool false)) w' := ⟨⟨false, rfl, by simp [h]⟩, hb⟩

set_option maxRecDepth 100000 in
set_option maxHeartbeats 1000000 in
theorem same_rows {w : World} {f lb n lc f' lb' lc' : Nat} {R R' : Raw} {fv fv' : Value} (h : PF w f lb n lc R fv) (h' : PF w f' lb' n lc' R' fv') :
    Calls Try.prog 23 #[.pointer (some ⟨f, 0, none⟩), .pointer (some ⟨f', 0, none⟩)] w (SamePost w n R R') := by
  have CN := nothing_is h
  have CN' := nothing_is h'
  obtain ⟨d0, d1, _, _⟩ := h.cells
  obtain ⟨g0, g1, _, _⟩ := h'.cells
  have hn2 := h.n2
  have HH := Lib.hid (And.intro h h')
  clear h h'
  by_cases hf : R.first = R'.first
  · have HF := Lib.hid hf
    rw [← hf] at g1
    have hr : (R.first != R.first) = false := by simp
    generalize R.first = fi at d1 g1 hr
    have hnn : ((n : Int) != (n : Int)) = false := by simp
    clear hf
    go_enter Try.func23, Try.ntmps23
    go_wp2_with (first | (go_at_call 32; (have := mk1); refine CN'.mono ?_; rintro e w' ⟨rfl, rfl⟩) | (go_at_call 32; refine CN.mono ?_; rintro e w' ⟨rfl, rfl⟩; have mk1 := trivial))
    go_quiet (fail)
    go_wp2
    clear CN CN' g0 g1 d1 d0
    go_loopw [46] (fun i wr => ∃ k : Nat, k ≤ n ∧ i = .int .i64 k ∧ (∀ j, j < k → R.M j = R'.M j) ∧ Below w.heap.size w wr) (fun i _ => n - (intOf i).toNat)
    case atStart => exact ⟨0, Nat.zero_le _, rfl, fun j hj => absurd hj (Nat.not_lt_zero _), below_drewN w _ _⟩
    case round =>
      obtain ⟨k, hk, rfl, hall, hbr⟩ := hrel
      have HA := Lib.hid hall
      have HB := Lib.hid hbr
      clear hall
      by_cases hlt : k < n
      · have hq := HH.out.1.below hbr
        have hq' := HH.out.2.below hbr
        have g0 := hq'.cells.1
        obtain ⟨a0, a1, a2, a3, a4⟩ := hq.at_ k hlt
        obtain ⟨b0, b1, b2, b3, b4⟩ := hq'.at_ k hlt
        have hne : lb' ≠ wr.heap.size := by have := hq'.lt; omega
        have hne2 : f' ≠ wr.heap.size := by have := hq'.head.lt; omega
        obtain ⟨x, hx⟩ : ∃ x, x = R.M k := ⟨_, rfl⟩
        obtain ⟨y, hy⟩ : ∃ y, y = R'.M k := ⟨_, rfl⟩
        rw [← hx] at a0 a1 a2 a3 a4
        rw [← hy] at b0 b1 b2 b3 b4
        have hneq : ∀ w', (binOp .neq 61 (.agg #[.bool x.t, .int .i64 x.u, .int .i64 x.d, .int .i64 x.l, .int .i64 x.r]) (.agg #[.bool y.t, .int .i64 y.u, .int .i64 y.d, .int .i64 y.l, .int .i64 y.r])).run Try.prog w' = .ok (.bool (!ndB x y)) w' := fun w' => node_neq x y w'
        have hxy := ndB_iff x y
        have HX := Lib.hid (And.intro hx (And.intro hy hxy))
        obtain ⟨xt, xu, xd, xl, xr⟩ := x
        obtain ⟨yt, yu, yd, yl, yr⟩ := y
        simp only at a0 a1 a2 a3 a4 b0 b1 b2 b3 b4 hneq
        clear hq hq' hbr hx hy hxy
        cases hb : ndB ⟨xt, xu, xd, xl, xr⟩ ⟨yt, yu, yd, yl, yr⟩
        · rw [hb] at hneq HX
          clear hb
          go_wp2_with fail
          have hbx := Blk.new wr 61 #[.bool xt, .int .i64 xu, .int .i64 xd, .int .i64 xl, .int .i64 xr]
          have hb2 : Below w.heap.size w (wr.alloc (.cells #[.bool xt, .int .i64 xu, .int .i64 xd, .int .i64 xl, .int .i64 xr] 61)) := HB.out.alloc HB.out.size _
          clear a0 a1 a2 a3 a4 b0 b1 b2 b3 b4 g0
          generalize wr.alloc (.cells #[.bool xt, .int .i64 xu, .int .i64 xd, .int .i64 xl, .int .i64 xr] 61) = w2 at *
          have hq2 := HH.out.2.below hb2
          have g0 := hq2.cells.1
          obtain ⟨b0, b1, b2, b3, b4⟩ := hq2.at_ k hlt
          rw [← HX.out.2.1] at b0 b1 b2 b3 b4
          simp only at b0 b1 b2 b3 b4
          have x0 := hbx.cell 0
          have x1 := hbx.cell 1
          have x2 := hbx.cell 2
          have x3 := hbx.cell 3
          have x4 := hbx.cell 4
          simp only [List.getElem?_toArray, List.getElem?_cons_zero, List.getElem?_cons_succ] at x0 x1 x2 x3 x4
          have HB2 := Lib.hid hb2
          clear hbx hb2 hq2
          go_quiet (fail)
          go_wp2
          go_ret
          refine same_not (fun hs => ?_) (HB2.out.trans (below_drewN w2 _ _))
          have h1 := hs.2 k hlt
          rw [← HX.out.1, ← HX.out.2.1] at h1
          have h2 := HX.out.2.2.2 h1
          cases h2
        · rw [hb] at hneq HX
          clear hb
          go_wp2_with fail
          have hbx := Blk.new wr 61 #[.bool xt, .int .i64 xu, .int .i64 xd, .int .i64 xl, .int .i64 xr]
          have hb2 : Below w.heap.size w (wr.alloc (.cells #[.bool xt, .int .i64 xu, .int .i64 xd, .int .i64 xl, .int .i64 xr] 61)) := HB.out.alloc HB.out.size _
          clear a0 a1 a2 a3 a4 b0 b1 b2 b3 b4 g0
          generalize wr.alloc (.cells #[.bool xt, .int .i64 xu, .int .i64 xd, .int .i64 xl, .int .i64 xr] 61) = w2 at *
          have hq2 := HH.out.2.below hb2
          have g0 := hq2.cells.1
          obtain ⟨b0, b1, b2, b3, b4⟩ := hq2.at_ k hlt
          rw [← HX.out.2.1] at b0 b1 b2 b3 b4
          simp only at b0 b1 b2 b3 b4
          have x0 := hbx.cell 0
          have x1 := hbx.cell 1
          have x2 := hbx.cell 2
          have x3 := hbx.cell 3
          have x4 := hbx.cell 4
          simp only [List.getElem?_toArray, List.getElem?_cons_zero, List.getElem?_cons_succ] at x0 x1 x2 x3 x4
          have HB2 := Lib.hid hb2
          clear hbx hb2 hq2
          go_quiet (fail)
          go_wp2
          go_roundw
          case rel =>
            refine ⟨k + 1, by omega, by go_num, fun j hj => ?_, HB2.out.trans (below_drewN w2 _ _)⟩
            by_cases e : j = k
            · subst e
              have h1 := HX.out.2.2.1 (by first | exact rfl | exact trivial)
              rw [← HX.out.1, ← HX.out.2.1]
              exact h1
            · exact HA.out j (by omega)
          case measure => simp [intOf]; omega
      · have hkl : k = n := by omega
        subst hkl
        clear hbr
        go_wp2
        go_ret
        exact same_yes ⟨HF.out, HA.out⟩ HB.out
  · have hr : (R.first != R'.first) = true := by simpa using hf
    have HF := Lib.hid hf
    generalize R.first = fi at d1 hr
    generalize R'.first = fi' at g1 hr
    have hnn : ((n : Int) != (n : Int)) = false := by simp
    clear hf
    go_enter Try.func23, Try.ntmps23
    go_wp2_with (first | (go_at_call 32; (have := mk1); refine CN'.mono ?_; rintro e w' ⟨rfl, rfl⟩) | (go_at_call 32; refine CN.mono ?_; rintro e w' ⟨rfl, rfl⟩; have mk1 := trivial))
    go_quiet (fail)
    go_wp2
    go_ret
    exact same_not (fun hs => HF.out hs.1) (below_drewN w _ _)

theorem same_is {w : World} {f lb f' lb' : Nat} {v v' : Value} {F G : Fo} (h : Prg w f lb v F) (h' : Prg w f' lb' v' G) (hn : F.n = G.n) :
    Calls Try.prog 23 #[.pointer (some ⟨f, 0, none⟩), .pointer (some ⟨f', 0, none⟩)] w fun e w' => (∃ b, e = .returned (.bool b) ∧ (b = true ↔ Alike F G)) ∧ Below w.heap.size w w' := by
  obtain ⟨lc, R, hp, hR⟩ := h.ps
  obtain ⟨lc', R', hp', hR'⟩ := h'.ps
  have h1 := hp'.pf
  rw [← hn] at h1
  refine (same_rows hp.pf h1).mono ?_
  rintro e w' ⟨⟨b, rfl, hb⟩, hw⟩
  exact ⟨⟨b, rfl, hb.trans (alike_iff hR hR' h.wf h'.wf hn)⟩, hw⟩
end Go.Proofs.Ytoihldagpnkfoaa
