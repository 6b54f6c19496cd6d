/- Of the following, one behind the other: The reference's Derive and Move, by walks. Caps of both sides, by walks. Clear of both sides, by walks. -/
import Derived.Test.YtbknmfegckeogaaPk13
/- The reference's Derive and Move, by walks. -/
namespace Go.Proofs.Ytbknmfegckeogaa
open Go.RowKit Go.Maps
set_option linter.unusedVariables false
set_option linter.unusedSimpArgs false

section
variable {w w' : World} {R : Rd} {S : Sp}
theorem RfGo.from {W : World} {R' : Rd} (hb : Below w.heap.size w W) (h : RfGo W w' R R') : RfGo w w' R R' := (RfGo.of_below R hb).trans h
theorem RfPutPost.from {up : Nat} {g s : Int} {c : Cp} {W : World} {z : Int} (hb : Below w.heap.size w W) (h : RfPutPost S R up g s c W z w') : RfPutPost S R up g s c w z w' := by
  rcases h with ⟨h1, h2, h3⟩ | ⟨h1, h2, h3, h4⟩ | ⟨h1, h2, h3, h4, h5⟩ | ⟨h1, h2, h3, ⟨h4, h5, h6⟩ | ⟨h4, h5, R', h6, h7⟩⟩
  · exact .inl ⟨h1, h2, hb.trans (h3.mono hb.size)⟩
  · exact .inr (.inl ⟨h1, h2, h3, hb.trans (h4.mono hb.size)⟩)
  · exact .inr (.inr (.inl ⟨h1, h2, h3, h4, hb.trans (h5.mono hb.size)⟩))
  · exact .inr (.inr (.inr ⟨h1, h2, h3, .inl ⟨h4, h5, hb.trans (h6.mono hb.size)⟩⟩))
  · exact .inr (.inr (.inr ⟨h1, h2, h3, .inr ⟨h4, h5, R', h6, h7.from hb⟩⟩))
/-- What Derive answers. -/
def RfDerivePost (S : Sp) (R : Rd) (g s g' s' : Int) (c : Cp) (w : World) (z : Int) (w' : World) : Prop :=
  (z = S.full g s ∧ z ≠ 0 ∧ Below w.heap.size w w') ∨ (S.full g s = 0 ∧ ∃ x, fnd S.L g s = some x ∧ RfPutPost S R x.id g' s' c w z w')
set_option maxRecDepth 100000 in
set_option maxHeartbeats 4000000 in
theorem rfDerive_is (h : RfAt w R S) (hn : S.L.length ≤ 512) (hfn : S.F.n ≤ 512) (hcm : S.came ≤ 1000000) (hrs : ∀ e ∈ S.L, 0 ≤ e.c.r ∧ e.c.r < 256) (g s g' s' : Int) (c : Cp) (hcr : 0 ≤ c.r ∧ c.r < 256) :
    Calls Try.prog 40 #[.pointer (some ⟨R.b, 0, none⟩), .int .i64 g, .int .i64 s, .int .i64 g', .int .i64 s', capV c] w fun e w' => ∃ z, e = .returned (.int .i64 z) ∧ RfDerivePost S R g s g' s' c w z w' := by
  have hbw := (Below.refl w.heap.size w).alloc (Nat.le_refl _) (.cells #[.int .i64 c.k, .int .i64 c.i, .int .u64 c.n, .int .u8 c.r] 36)
  have h0 := h.below hbw
  have CF := rfFull_is h0 hn g s
  have hblk := Blk.new w 36 #[.int .i64 c.k, .int .i64 c.i, .int .u64 c.n, .int .u8 c.r]
  obtain ⟨w0, hw0⟩ : ∃ w0, w0 = w.alloc (.cells #[.int .i64 c.k, .int .i64 c.i, .int .u64 c.n, .int .u8 c.r] 36) := ⟨_, rfl⟩
  rw [← hw0] at CF hbw h0 hblk
  obtain ⟨bx, hbx⟩ : ∃ bx, bx = w.heap.size := ⟨_, rfl⟩
  rw [← hbx] at hblk
  have HW := Lib.hid hbw
  clear hbw
  by_cases hf : S.full g s = 0
  · obtain ⟨ht, x, hfx⟩ := full_zero hf
    rw [hf] at CF
    have CG := find_is (h0.drewN 1) hn g s
    obtain ⟨m, hm, hmx, hp⟩ := pos_some hfx
    rw [hp] at CG
    obtain ⟨q, hq, ho⟩ := h0.one m hm
    rw [hmx] at ho
    have CP := rfPut_is (h0.drewN 1) hn hfn hcm hrs x.id g' s' c hcr
    have d0 := ho.c0
    obtain ⟨-, -, -, c3, -⟩ := h0.cells
    rw [hq] at c3
    have b0 := hblk.cell 0
    have b1 := hblk.cell 1
    have b2 := hblk.cell 2
    have b3 := hblk.cell 3
    simp only [List.getElem?_toArray, List.getElem?_cons_zero, List.getElem?_cons_succ] at b0 b1 b2 b3
    have hm1 : (m : Int) < (S.L.length : Int) := by omega
    have HF := Lib.hid (And.intro hf hfx)
    clear h h0 hf hfx ht hmx hp hm ho hq hrs
    unfold capV at *
    go_enter Try.func40, Try.ntmps40
    go_wp2_with fail
    rw [← hw0, ← hbx]
    clear hw0 hbx
    go_wp2_with (go_at_call 41; refine CF.mono ?_; rintro e w' ⟨rfl, rfl⟩)
    refine wp_region_L (S := fun wx => wx.heap[R.b]? = w0.heap[R.b]? ∧ wx.heap[q]? = w0.heap[q]? ∧ wx.heap[bx]? = w0.heap[bx]?) [15, 16] (by kernel_rfl) ⟨rfl, rfl, rfl⟩ (fun hHeld => ?_)
    refine wpAnyL_take (i := 0) (v := ?_) [15, 16] rfl (by kernel_rfl) (by kernel_rfl) (by kernel_rfl) (by kernel_rfl) (by kernel_rfl) (by kernel_rfl) (fun _ _ _ h => h) (Or.inl ⟨by kernel_rfl, by (intro w' hSw; obtain ⟨hSa, hSc, hSb⟩ := hSw; have q3 := (World.cell?_of_block (w := w0) (a := ⟨R.b, 3, none⟩) hSa).trans c3; have q0 := (World.cell?_of_block (w := w0) (a := ⟨q, m * 8, none⟩) hSc).trans d0; have q50 := (World.cell?_of_block (w := w0) (a := ⟨bx, 0, none⟩) hSb).trans b0; have q51 := (World.cell?_of_block (w := w0) (a := ⟨bx, 1, none⟩) hSb).trans b1; have q52 := (World.cell?_of_block (w := w0) (a := ⟨bx, 2, none⟩) hSb).trans b2; have q53 := (World.cell?_of_block (w := w0) (a := ⟨bx, 3, none⟩) hSb).trans b3; go_simp; first | done | (with_reducible rfl) | rfl)⟩) hHeld ?_
    (try simp only [Act.put, List.getElem_toArray, List.getElem_cons_zero, List.getElem_cons_succ, List.setIfInBounds_toArray, List.set_cons_zero, List.set_cons_succ])
    refine wpAnyL_take (i := 1) (v := ?_) [2, 3, 4, 9, 10, 11, 15, 16] rfl (by kernel_rfl) (by kernel_rfl) (by kernel_rfl) (by kernel_rfl) (by kernel_rfl) (by kernel_rfl) (fun _ _ _ h => h) (Or.inl ⟨by kernel_rfl, by (intro w' hSw; obtain ⟨hSa, hSc, hSb⟩ := hSw; have q3 := (World.cell?_of_block (w := w0) (a := ⟨R.b, 3, none⟩) hSa).trans c3; have q0 := (World.cell?_of_block (w := w0) (a := ⟨q, m * 8, none⟩) hSc).trans d0; have q50 := (World.cell?_of_block (w := w0) (a := ⟨bx, 0, none⟩) hSb).trans b0; have q51 := (World.cell?_of_block (w := w0) (a := ⟨bx, 1, none⟩) hSb).trans b1; have q52 := (World.cell?_of_block (w := w0) (a := ⟨bx, 2, none⟩) hSb).trans b2; have q53 := (World.cell?_of_block (w := w0) (a := ⟨bx, 3, none⟩) hSb).trans b3; go_simp; first | done | (with_reducible rfl) | rfl)⟩) hHeld ?_
    (try simp only [Act.put, List.getElem_toArray, List.getElem_cons_zero, List.getElem_cons_succ, List.setIfInBounds_toArray, List.set_cons_zero, List.set_cons_succ])
    refine wpAnyL_take (i := 2) (v := ?_) [3, 4, 9, 10, 11, 15, 16] rfl (by kernel_rfl) (by kernel_rfl) (by kernel_rfl) (by kernel_rfl) (by kernel_rfl) (by kernel_rfl) (fun _ _ _ h => h) (Or.inl ⟨by kernel_rfl, by (intro w' hSw; obtain ⟨hSa, hSc, hSb⟩ := hSw; have q3 := (World.cell?_of_block (w := w0) (a := ⟨R.b, 3, none⟩) hSa).trans c3; have q0 := (World.cell?_of_block (w := w0) (a := ⟨q, m * 8, none⟩) hSc).trans d0; have q50 := (World.cell?_of_block (w := w0) (a := ⟨bx, 0, none⟩) hSb).trans b0; have q51 := (World.cell?_of_block (w := w0) (a := ⟨bx, 1, none⟩) hSb).trans b1; have q52 := (World.cell?_of_block (w := w0) (a := ⟨bx, 2, none⟩) hSb).trans b2; have q53 := (World.cell?_of_block (w := w0) (a := ⟨bx, 3, none⟩) hSb).trans b3; go_simp; first | done | (with_reducible rfl) | rfl)⟩) hHeld ?_
    (try simp only [Act.put, List.getElem_toArray, List.getElem_cons_zero, List.getElem_cons_succ, List.setIfInBounds_toArray, List.set_cons_zero, List.set_cons_succ])
    refine wpAnyL_take (i := 3) (v := ?_) [4, 9, 10, 11, 15, 16] rfl (by kernel_rfl) (by kernel_rfl) (by kernel_rfl) (by kernel_rfl) (by kernel_rfl) (by kernel_rfl) (fun _ _ _ h => h) (Or.inl ⟨by kernel_rfl, by (intro w' hSw; obtain ⟨hSa, hSc, hSb⟩ := hSw; have q3 := (World.cell?_of_block (w := w0) (a := ⟨R.b, 3, none⟩) hSa).trans c3; have q0 := (World.cell?_of_block (w := w0) (a := ⟨q, m * 8, none⟩) hSc).trans d0; have q50 := (World.cell?_of_block (w := w0) (a := ⟨bx, 0, none⟩) hSb).trans b0; have q51 := (World.cell?_of_block (w := w0) (a := ⟨bx, 1, none⟩) hSb).trans b1; have q52 := (World.cell?_of_block (w := w0) (a := ⟨bx, 2, none⟩) hSb).trans b2; have q53 := (World.cell?_of_block (w := w0) (a := ⟨bx, 3, none⟩) hSb).trans b3; go_simp; first | done | (with_reducible rfl) | rfl)⟩) hHeld ?_
    (try simp only [Act.put, List.getElem_toArray, List.getElem_cons_zero, List.getElem_cons_succ, List.setIfInBounds_toArray, List.set_cons_zero, List.set_cons_succ])
    refine wpAnyL_take (i := 4) (v := ?_) [9, 10, 11, 15, 16] rfl (by kernel_rfl) (by kernel_rfl) (by kernel_rfl) (by kernel_rfl) (by kernel_rfl) (by kernel_rfl) (fun _ _ _ h => h) (Or.inl ⟨by kernel_rfl, by (intro w' hSw; obtain ⟨hSa, hSc, hSb⟩ := hSw; have q3 := (World.cell?_of_block (w := w0) (a := ⟨R.b, 3, none⟩) hSa).trans c3; have q0 := (World.cell?_of_block (w := w0) (a := ⟨q, m * 8, none⟩) hSc).trans d0; have q50 := (World.cell?_of_block (w := w0) (a := ⟨bx, 0, none⟩) hSb).trans b0; have q51 := (World.cell?_of_block (w := w0) (a := ⟨bx, 1, none⟩) hSb).trans b1; have q52 := (World.cell?_of_block (w := w0) (a := ⟨bx, 2, none⟩) hSb).trans b2; have q53 := (World.cell?_of_block (w := w0) (a := ⟨bx, 3, none⟩) hSb).trans b3; go_simp; first | done | (with_reducible rfl) | rfl)⟩) hHeld ?_
    (try simp only [Act.put, List.getElem_toArray, List.getElem_cons_zero, List.getElem_cons_succ, List.setIfInBounds_toArray, List.set_cons_zero, List.set_cons_succ])
    refine wpAnyL_take (i := 5) (v := ?_) [8, 15, 16] rfl (by kernel_rfl) (by kernel_rfl) (by kernel_rfl) (by kernel_rfl) (by kernel_rfl) (by kernel_rfl) (fun _ _ _ h => h) (Or.inl ⟨by kernel_rfl, by (intro w' hSw; obtain ⟨hSa, hSc, hSb⟩ := hSw; have q3 := (World.cell?_of_block (w := w0) (a := ⟨R.b, 3, none⟩) hSa).trans c3; have q0 := (World.cell?_of_block (w := w0) (a := ⟨q, m * 8, none⟩) hSc).trans d0; have q50 := (World.cell?_of_block (w := w0) (a := ⟨bx, 0, none⟩) hSb).trans b0; have q51 := (World.cell?_of_block (w := w0) (a := ⟨bx, 1, none⟩) hSb).trans b1; have q52 := (World.cell?_of_block (w := w0) (a := ⟨bx, 2, none⟩) hSb).trans b2; have q53 := (World.cell?_of_block (w := w0) (a := ⟨bx, 3, none⟩) hSb).trans b3; go_simp; first | done | (with_reducible rfl) | rfl)⟩) hHeld ?_
    (try simp only [Act.put, List.getElem_toArray, List.getElem_cons_zero, List.getElem_cons_succ, List.setIfInBounds_toArray, List.set_cons_zero, List.set_cons_succ])
    refine wpAnyL_take (i := 6) (v := ?_) [8, 15, 16] rfl (by kernel_rfl) (by kernel_rfl) (by kernel_rfl) (by kernel_rfl) (by kernel_rfl) (by kernel_rfl) (fun _ _ _ h => h) (Or.inl ⟨by kernel_rfl, by (intro w' hSw; obtain ⟨hSa, hSc, hSb⟩ := hSw; have q3 := (World.cell?_of_block (w := w0) (a := ⟨R.b, 3, none⟩) hSa).trans c3; have q0 := (World.cell?_of_block (w := w0) (a := ⟨q, m * 8, none⟩) hSc).trans d0; have q50 := (World.cell?_of_block (w := w0) (a := ⟨bx, 0, none⟩) hSb).trans b0; have q51 := (World.cell?_of_block (w := w0) (a := ⟨bx, 1, none⟩) hSb).trans b1; have q52 := (World.cell?_of_block (w := w0) (a := ⟨bx, 2, none⟩) hSb).trans b2; have q53 := (World.cell?_of_block (w := w0) (a := ⟨bx, 3, none⟩) hSb).trans b3; go_simp; first | done | (with_reducible rfl) | rfl)⟩) hHeld ?_
    (try simp only [Act.put, List.getElem_toArray, List.getElem_cons_zero, List.getElem_cons_succ, List.setIfInBounds_toArray, List.set_cons_zero, List.set_cons_succ])
    refine wpAnyL_take (i := 7) (v := ?_) [8, 15, 16] rfl (by kernel_rfl) (by kernel_rfl) (by kernel_rfl) (by kernel_rfl) (by kernel_rfl) (by kernel_rfl) (fun _ _ _ h => h) (Or.inl ⟨by kernel_rfl, by (intro w' hSw; obtain ⟨hSa, hSc, hSb⟩ := hSw; have q3 := (World.cell?_of_block (w := w0) (a := ⟨R.b, 3, none⟩) hSa).trans c3; have q0 := (World.cell?_of_block (w := w0) (a := ⟨q, m * 8, none⟩) hSc).trans d0; have q50 := (World.cell?_of_block (w := w0) (a := ⟨bx, 0, none⟩) hSb).trans b0; have q51 := (World.cell?_of_block (w := w0) (a := ⟨bx, 1, none⟩) hSb).trans b1; have q52 := (World.cell?_of_block (w := w0) (a := ⟨bx, 2, none⟩) hSb).trans b2; have q53 := (World.cell?_of_block (w := w0) (a := ⟨bx, 3, none⟩) hSb).trans b3; go_simp; first | done | (with_reducible rfl) | rfl)⟩) hHeld ?_
    (try simp only [Act.put, List.getElem_toArray, List.getElem_cons_zero, List.getElem_cons_succ, List.setIfInBounds_toArray, List.set_cons_zero, List.set_cons_succ])
    refine wpAnyL_take (i := 12) (v := ?_) [15, 16] rfl (by kernel_rfl) (by kernel_rfl) (by kernel_rfl) (by kernel_rfl) (by kernel_rfl) (by kernel_rfl) (fun _ _ _ h => h) (Or.inl ⟨by kernel_rfl, by (intro w' hSw; obtain ⟨hSa, hSc, hSb⟩ := hSw; have q3 := (World.cell?_of_block (w := w0) (a := ⟨R.b, 3, none⟩) hSa).trans c3; have q0 := (World.cell?_of_block (w := w0) (a := ⟨q, m * 8, none⟩) hSc).trans d0; have q50 := (World.cell?_of_block (w := w0) (a := ⟨bx, 0, none⟩) hSb).trans b0; have q51 := (World.cell?_of_block (w := w0) (a := ⟨bx, 1, none⟩) hSb).trans b1; have q52 := (World.cell?_of_block (w := w0) (a := ⟨bx, 2, none⟩) hSb).trans b2; have q53 := (World.cell?_of_block (w := w0) (a := ⟨bx, 3, none⟩) hSb).trans b3; go_simp; first | done | (with_reducible rfl) | rfl)⟩) hHeld ?_
    (try simp only [Act.put, List.getElem_toArray, List.getElem_cons_zero, List.getElem_cons_succ, List.setIfInBounds_toArray, List.set_cons_zero, List.set_cons_succ])
    refine wpAnyL_take (i := 13) (v := ?_) [15, 16] rfl (by kernel_rfl) (by kernel_rfl) (by kernel_rfl) (by kernel_rfl) (by kernel_rfl) (by kernel_rfl) (fun _ _ _ h => h) (Or.inl ⟨by kernel_rfl, by (intro w' hSw; obtain ⟨hSa, hSc, hSb⟩ := hSw; have q3 := (World.cell?_of_block (w := w0) (a := ⟨R.b, 3, none⟩) hSa).trans c3; have q0 := (World.cell?_of_block (w := w0) (a := ⟨q, m * 8, none⟩) hSc).trans d0; have q50 := (World.cell?_of_block (w := w0) (a := ⟨bx, 0, none⟩) hSb).trans b0; have q51 := (World.cell?_of_block (w := w0) (a := ⟨bx, 1, none⟩) hSb).trans b1; have q52 := (World.cell?_of_block (w := w0) (a := ⟨bx, 2, none⟩) hSb).trans b2; have q53 := (World.cell?_of_block (w := w0) (a := ⟨bx, 3, none⟩) hSb).trans b3; go_simp; first | done | (with_reducible rfl) | rfl)⟩) hHeld ?_
    (try simp only [Act.put, List.getElem_toArray, List.getElem_cons_zero, List.getElem_cons_succ, List.setIfInBounds_toArray, List.set_cons_zero, List.set_cons_succ])
    refine wpAnyL_take (i := 14) (v := ?_) [15, 16] rfl (by kernel_rfl) (by kernel_rfl) (by kernel_rfl) (by kernel_rfl) (by kernel_rfl) (by kernel_rfl) (fun _ _ _ h => h) (Or.inl ⟨by kernel_rfl, by (intro w' hSw; obtain ⟨hSa, hSc, hSb⟩ := hSw; have q3 := (World.cell?_of_block (w := w0) (a := ⟨R.b, 3, none⟩) hSa).trans c3; have q0 := (World.cell?_of_block (w := w0) (a := ⟨q, m * 8, none⟩) hSc).trans d0; have q50 := (World.cell?_of_block (w := w0) (a := ⟨bx, 0, none⟩) hSb).trans b0; have q51 := (World.cell?_of_block (w := w0) (a := ⟨bx, 1, none⟩) hSb).trans b1; have q52 := (World.cell?_of_block (w := w0) (a := ⟨bx, 2, none⟩) hSb).trans b2; have q53 := (World.cell?_of_block (w := w0) (a := ⟨bx, 3, none⟩) hSb).trans b3; go_simp; first | done | (with_reducible rfl) | rfl)⟩) hHeld ?_
    (try simp only [Act.put, List.getElem_toArray, List.getElem_cons_zero, List.getElem_cons_succ, List.setIfInBounds_toArray, List.set_cons_zero, List.set_cons_succ])
    refine wpAnyL_one (i := 8) (by kernel_rfl) rfl (fun K hK => ?_)
    go_simp
    go_at_call 27; refine CG.mono ?_; rintro e w2 ⟨rfl, hw2⟩; subst w2
    try dsimp only
    clear hHeld
    refine hK.out _ _ ⟨rfl, rfl, rfl⟩ (fun hHeld => ?_)
    clear hK K
    (try simp only [Act.put, List.getElem_toArray, List.getElem_cons_zero, List.getElem_cons_succ, List.setIfInBounds_toArray, List.set_cons_zero, List.set_cons_succ])
    refine wpAnyL_take (i := 9) (v := ?_) [10, 11, 15, 16] rfl (by kernel_rfl) (by kernel_rfl) (by kernel_rfl) (by kernel_rfl) (by kernel_rfl) (by kernel_rfl) (fun _ _ _ h => h) (Or.inl ⟨by kernel_rfl, by (intro w' hSw; obtain ⟨hSa, hSc, hSb⟩ := hSw; have q3 := (World.cell?_of_block (w := w0) (a := ⟨R.b, 3, none⟩) hSa).trans c3; have q0 := (World.cell?_of_block (w := w0) (a := ⟨q, m * 8, none⟩) hSc).trans d0; have q50 := (World.cell?_of_block (w := w0) (a := ⟨bx, 0, none⟩) hSb).trans b0; have q51 := (World.cell?_of_block (w := w0) (a := ⟨bx, 1, none⟩) hSb).trans b1; have q52 := (World.cell?_of_block (w := w0) (a := ⟨bx, 2, none⟩) hSb).trans b2; have q53 := (World.cell?_of_block (w := w0) (a := ⟨bx, 3, none⟩) hSb).trans b3; go_simp; first | done | (with_reducible rfl) | rfl)⟩) hHeld ?_
    (try simp only [Act.put, List.getElem_toArray, List.getElem_cons_zero, List.getElem_cons_succ, List.setIfInBounds_toArray, List.set_cons_zero, List.set_cons_succ])
    refine wpAnyL_take (i := 10) (v := ?_) [11, 15, 16] rfl (by kernel_rfl) (by kernel_rfl) (by kernel_rfl) (by kernel_rfl) (by kernel_rfl) (by kernel_rfl) (fun _ _ _ h => h) (Or.inl ⟨by kernel_rfl, by (intro w' hSw; obtain ⟨hSa, hSc, hSb⟩ := hSw; have q3 := (World.cell?_of_block (w := w0) (a := ⟨R.b, 3, none⟩) hSa).trans c3; have q0 := (World.cell?_of_block (w := w0) (a := ⟨q, m * 8, none⟩) hSc).trans d0; have q50 := (World.cell?_of_block (w := w0) (a := ⟨bx, 0, none⟩) hSb).trans b0; have q51 := (World.cell?_of_block (w := w0) (a := ⟨bx, 1, none⟩) hSb).trans b1; have q52 := (World.cell?_of_block (w := w0) (a := ⟨bx, 2, none⟩) hSb).trans b2; have q53 := (World.cell?_of_block (w := w0) (a := ⟨bx, 3, none⟩) hSb).trans b3; go_simp; first | done | (with_reducible rfl) | rfl)⟩) hHeld ?_
    (try simp only [Act.put, List.getElem_toArray, List.getElem_cons_zero, List.getElem_cons_succ, List.setIfInBounds_toArray, List.set_cons_zero, List.set_cons_succ])
    refine wpAnyL_take (i := 11) (v := ?_) [15, 16] rfl (by kernel_rfl) (by kernel_rfl) (by kernel_rfl) (by kernel_rfl) (by kernel_rfl) (by kernel_rfl) (fun _ _ _ h => h) (Or.inl ⟨by kernel_rfl, by (intro w' hSw; obtain ⟨hSa, hSc, hSb⟩ := hSw; have q3 := (World.cell?_of_block (w := w0) (a := ⟨R.b, 3, none⟩) hSa).trans c3; have q0 := (World.cell?_of_block (w := w0) (a := ⟨q, m * 8, none⟩) hSc).trans d0; have q50 := (World.cell?_of_block (w := w0) (a := ⟨bx, 0, none⟩) hSb).trans b0; have q51 := (World.cell?_of_block (w := w0) (a := ⟨bx, 1, none⟩) hSb).trans b1; have q52 := (World.cell?_of_block (w := w0) (a := ⟨bx, 2, none⟩) hSb).trans b2; have q53 := (World.cell?_of_block (w := w0) (a := ⟨bx, 3, none⟩) hSb).trans b3; go_simp; first | done | (with_reducible rfl) | rfl)⟩) hHeld ?_
    (try simp only [Act.put, List.getElem_toArray, List.getElem_cons_zero, List.getElem_cons_succ, List.setIfInBounds_toArray, List.set_cons_zero, List.set_cons_succ])
    refine wpAnyL_last (i := 15) (by kernel_rfl) rfl rfl (fun K hK => ?_)
    go_simp
    go_at_call 39; refine CP.mono ?_; rintro e w2 ⟨z, rfl, hp⟩; (have HP := Lib.hid hp); clear hp
    try dsimp only
    refine hK.out _ _ ?_
    clear hK K
    (try simp only [Act.put, List.getElem_toArray, List.getElem_cons_zero, List.getElem_cons_succ, List.setIfInBounds_toArray, List.set_cons_zero, List.set_cons_succ])
    refine wpAnyL_last (i := 16) (by kernel_rfl) rfl rfl (fun K hK => ?_)
    go_simp
    try dsimp only
    refine hK.out _ _ ?_
    clear hK K
    (try simp only [Act.put, List.getElem_toArray, List.getElem_cons_zero, List.getElem_cons_succ, List.setIfInBounds_toArray, List.set_cons_zero, List.set_cons_succ])
    refine wpAnyL_done (by kernel_rfl) ?_ _
    go_wp2_with fail
    go_ret
    exact ⟨z, rfl, .inr ⟨HF.out.1, x, HF.out.2, HP.out.from (HW.out.trans (below_drewN_ _ _ 1))⟩⟩
  · have hq : (S.full g s != 0) = true := by simpa using hf
    have HF := Lib.hid hf
    clear hf h h0 hblk
    obtain ⟨E, hE⟩ : ∃ E, E = S.full g s := ⟨_, rfl⟩
    rw [← hE] at CF hq
    have HE := Lib.hid hE
    clear hE hrs
    unfold capV at *
    go_enter Try.func40, Try.ntmps40
    go_wp2_with fail
    rw [← hw0, ← hbx]
    clear hw0 hbx
    go_wp2_with (go_at_call 41; refine CF.mono ?_; rintro e w' ⟨rfl, rfl⟩)
    go_ret
    exact ⟨E, rfl, .inl ⟨HE.out, by rw [HE.out]; exact HF.out, HW.out⟩⟩

/-! Move. -/
theorem onesV_set : ∀ (L : List En) (i : Nat) (h : i < L.length) (z : Int), onesV (L.set i { L[i]'h with s := z }) = (onesV L).set (i * 8 + 3) (.int .i64 z)
  | [], i, h, z => by simp at h
  | a :: L, 0, h, z => by
    have e : onesV (a :: L) = oneV a ++ onesV L := by simp [onesV]
    have e2 : onesV ((a :: L).set 0 { (a :: L)[0] with s := z }) = oneV { a with s := z } ++ onesV L := by simp [onesV]
    rw [e, e2, List.set_append_left _ _ (by rw [oneV_len]; omega)]
    rfl
  | a :: L, i + 1, h, z => by
    have hi : i < L.length := by simpa using h
    have e : onesV (a :: L) = oneV a ++ onesV L := by simp [onesV]
    have e2 : onesV ((a :: L).set (i + 1) { (a :: L)[i + 1] with s := z }) = oneV a ++ onesV (L.set i { L[i]'hi with s := z }) := by simp [onesV]
    have e3 : (i + 1) * 8 + 3 - 8 = i * 8 + 3 := by omega
    rw [e, e2, onesV_set L i hi z, List.set_append_right _ _ (by rw [oneV_len]; omega), oneV_len, e3]
theorem RfAt.setSlot (h : RfAt w R S) {q : Nat} (hq : R.A = some ⟨q, 0, none⟩) (i : Nat) (hi : i < S.L.length) (z : Int) :
    RfAt (w.setCell ⟨q, i * 8 + 3, none⟩ (.int .i64 z)) R { S with L := S.L.set i { S.L[i]'hi with s := z } } := by
  have hne : q ≠ R.b := fun e => h.ne (by rw [hq, e]; rfl)
  refine ⟨?_, ?_⟩
  · have := h.head.far (p := ⟨q, i * 8 + 3, none⟩) (fun e => hne e.symm) (.int .i64 z)
    show Blk _ _ _ #[.int .i64 S.gs, .int .i64 S.sl, .int .i64 (S.F.n : Int), .slice R.A (S.L.set i { S.L[i]'hi with s := z }).length R.c, .int .i64 (S.came : Int)]
    rw [List.length_set]
    exact this
  · have hl : (S.L.set i { S.L[i]'hi with s := z }).length = S.L.length := List.length_set
    show World.ownsRow _ 0 66 8 (.slice R.A (S.L.set i { S.L[i]'hi with s := z }).length R.c) (S.L.set i { S.L[i]'hi with s := z }).length (onesV (S.L.set i { S.L[i]'hi with s := z }))
    rw [hl]
    refine ⟨by rw [onesV_len, hl], ?_⟩
    rcases h.row.2 with ⟨hn, h0⟩ | ⟨g, cap, cur, hv, hbg, hg, h1, h2, h3, h4⟩
    · omega
    · have hqg : q = g := by
        injection hv with hA
        rw [hq] at hA
        injection hA with hA
        injection hA
      subst hqg
      refine .inr ⟨q, cap, cur.setIfInBounds (i * 8 + 3) (.int .i64 z), hv, hbg, Blk.set_ (w := w) (g := q) (t := 66) (cs := cur) hg _ _, h1, h2, by simpa using h3, ?_⟩
      rw [Array.toList_setIfInBounds, List.take_set, h4, onesV_set _ _ hi]
theorem move_set {S : Sp} (hpl : (S.L.map fun e => (e.g, e.s)).Nodup) {g s tt : Int} {i : Nat} (hi : i < S.L.length) (hat : (S.L[i]'hi).isAt g s = true) : S.L.set i { S.L[i]'hi with s := tt } = (S.move g s tt).L := by
  show _ = S.L.map _
  apply List.ext_getElem
  · simp
  · intro j h1 h2
    have hj : j < S.L.length := by simpa using h1
    rw [List.getElem_set, List.getElem_map]
    split
    · rename_i hij
      subst hij
      rw [if_pos hat]
    · rename_i hij
      rw [if_neg]
      intro hjt
      have e1 := (isAt_iff _ _ _).1 hat
      have e2 := (isAt_iff _ _ _).1 hjt
      refine hij ((List.getElem_inj (h₀ := (by simpa using hi)) (h₁ := (by simpa using hj)) hpl).1 ?_)
      rw [List.getElem_map, List.getElem_map, e1.1, e1.2, e2.1, e2.2]
set_option maxRecDepth 100000 in
set_option maxHeartbeats 1000000 in
theorem rfMove_no (h : RfAt w R S) (hn : S.L.length ≤ 512) (g s tt : Int) (hf : S.full g s ≠ 0) : Calls Try.prog 43 #[.pointer (some ⟨R.b, 0, none⟩), .int .i64 g, .int .i64 s, .int .i64 tt] w fun e w' => e = .returned (.int .i64 (S.full g s)) ∧ w = w' := by
  have CF := rfFull_is h hn g s
  have hq : (S.full g s != 0) = true := by simpa using hf
  generalize S.full g s = E at *
  clear hf h
  go_enter Try.func43, Try.ntmps43
  go_wp2_with (go_at_call 41; refine CF.mono ?_; rintro e w2 ⟨rfl, rfl⟩)
  go_ret
  exact ⟨rfl, rfl⟩
set_option maxRecDepth 100000 in
set_option maxHeartbeats 1000000 in
theorem rfMove_busy (h : RfAt w R S) (hn : S.L.length ≤ 512) (g s tt : Int) (hf : S.full g s = 0) (hb : S.freeE g tt ≠ 0) : Calls Try.prog 43 #[.pointer (some ⟨R.b, 0, none⟩), .int .i64 g, .int .i64 s, .int .i64 tt] w fun e w' => e = .returned (.int .i64 (S.freeE g tt)) ∧ w = w' := by
  have CF := rfFull_is h hn g s
  have CB := rfFree_is h hn g tt
  rw [hf] at CF
  have hq : (S.freeE g tt != 0) = true := by simpa using hb
  generalize S.freeE g tt = E at *
  clear hf h hb
  go_enter Try.func43, Try.ntmps43
  go_wp2_with (first | (go_at_call 41; refine CF.mono ?_; rintro e w2 ⟨rfl, rfl⟩) | (go_at_call 42; refine CB.mono ?_; rintro e w2 ⟨rfl, rfl⟩))
  go_ret
  exact ⟨rfl, rfl⟩
set_option maxRecDepth 100000 in
set_option maxHeartbeats 2000000 in
theorem rfMove_yes (h : RfAt w R S) (hn : S.L.length ≤ 512) (hpl : (S.L.map fun e => (e.g, e.s)).Nodup) (g s tt : Int) (hf : S.full g s = 0) (hb : S.freeE g tt = 0) : Calls Try.prog 43 #[.pointer (some ⟨R.b, 0, none⟩), .int .i64 g, .int .i64 s, .int .i64 tt] w fun e w' => e = .returned (.int .i64 0) ∧ ∃ R', RfAt w' R' (S.move g s tt) ∧ RfGo w w' R R' := by
  have CF := rfFull_is h hn g s
  have CB := rfFree_is h hn g tt
  rw [hf] at CF
  rw [hb] at CB
  obtain ⟨ht, x, hfx⟩ := full_zero hf
  obtain ⟨m, hm, hmx, hp⟩ := pos_some hfx
  have hxat : (S.L[m]'hm).isAt g s = true := by rw [hmx]; exact (isAt_iff _ _ _).2 (fnd_mem hfx).2
  obtain ⟨i0, hi0, hz0, hz1, hz2⟩ := info_parts_ infoOne
  have HR := Lib.hid h
  have RD := Lib.hid (Reads.of_own h.row)
  have HM := Lib.hid (move_set hpl hm hxat (tt := tt))
  have HX := Lib.hid hm
  have HP := Lib.hid hp
  have HN := Lib.hid hn
  have m1 := Lib.hid (show 0 + S.L.length ≤ maxLen from by unfold maxLen; omega)
  have m2 := Lib.hid (show (0 + S.L.length) * 64 ≤ 140737488355328 from by omega)
  obtain ⟨-, -, -, c3, -⟩ := h.cells
  have f3 := h.head.frozen 3
  clear h hf hb hfx hxat hmx hp ht
  go_enter Try.func43, Try.ntmps43
  go_wp2_with (first | (go_at_call 41; refine CF.mono ?_; rintro e w2 ⟨rfl, hw2⟩; subst w2) | (go_at_call 42; refine CB.mono ?_; rintro e w2 ⟨rfl, hw2⟩; subst w2) | (at_builtin; refine wpList_append_any _ rfl (.const (.slice none 0 0)) (.tmp 29) 62 rfl w.heap.size 66 i0 (.agg #[.int .i64 0, .int .i64 0, .int .i64 0, .int .i64 0, .int .i64 0, .int .i64 0, .int .u64 0, .int .u8 0]) 8 64 Try.underlying62 hi0 hz0 hz1 hz2 rfl (by decide) (.slice none 0 0) 0 [] rfl (World.ownsRow_nil _ _ _ _) w.heap.size R.A S.L.length R.c (onesV S.L) rfl RD.out (onesV_cells _) m1.out m2.out (Nat.le_refl _) ?_; intro v2 w3 hown2 hg2 hat2; rw [Nat.zero_add, List.nil_append] at hown2; (obtain ⟨A2, c2, rfl⟩ := own_slice hown2); (have hb2 := (Below.refl w.heap.size w).grown hg2 (Nat.le_refl _) (fun j e => by cases e)); (have HS := Lib.hid (HR.out.store hb2 (L := S.L) hown2)); (have HLO := Lib.hid (show ∀ k, (Value.slice A2 S.L.length c2).ownBlock = some k → w.heap.size ≤ k from fun k hk => (hown2.lt k hk).1)); (have c3' := (hb2.cell (p := ⟨R.b, 3, none⟩) HR.out.head.lt).trans c3); (have f3' : w3.frozen? ⟨R.b, 3, none⟩ = false := (World.frozen?_of_block (w := w) (a := ⟨R.b, 3, none⟩) (hb2.block _ HR.out.head.lt)).trans f3); clear hown2 hg2 hat2 hb2 c3 f3))
  clear c3' f3'
  obtain ⟨w1, hw1⟩ : ∃ w1, w1 = w3.setCell ⟨R.b, 3, none⟩ (.slice A2 S.L.length c2) := ⟨_, rfl⟩
  rw [← hw1] at HS ⊢
  clear hw1
  obtain ⟨-, -, -, c3, -⟩ := HS.out.1.cells
  dsimp only at c3
  have CG := find_is (HS.out.1.drewN 1) HN.out g s
  dsimp only at CG
  rw [HP.out] at CG
  obtain ⟨q, hq, ho⟩ := HS.out.1.one m HX.out
  dsimp only at hq
  have d3 := ho.c3
  have hfq : w1.frozen? ⟨q, m * 8 + 3, none⟩ = false := by have h9 := HS.out.1.row; dsimp only at h9; rw [hq] at h9; exact h9.frozenAt _
  have HQ := Lib.hid hq
  have hm1 : (m : Int) < (S.L.length : Int) := by have := HX.out; omega
  have hne : q ≠ R.b := fun e => HS.out.1.ne (by show (Value.slice A2 _ c2).ownBlock = _; rw [hq, e]; rfl)
  have HF := Lib.hid (HS.out.1.drewN 1 |>.setSlot (q := q) hq m HX.out tt)
  rw [hq] at c3
  clear ho hq
  refine wp_region_L (S := fun wx => wx.heap[R.b]? = w1.heap[R.b]?) [11] (by kernel_rfl) rfl (fun hHeld => ?_)
  refine wpAnyL_take (i := 0) (v := ?_) [11] rfl (by kernel_rfl) (by kernel_rfl) (by kernel_rfl) (by kernel_rfl) (by kernel_rfl) (by kernel_rfl) (fun _ _ _ h => h) (Or.inl ⟨by kernel_rfl, by (intro w' hSw; have q3 := (World.cell?_of_block (w := w1) (a := ⟨R.b, 3, none⟩) hSw).trans c3; go_simp; first | done | (with_reducible rfl) | rfl)⟩) hHeld ?_
  (try simp only [Act.put, List.getElem_toArray, List.getElem_cons_zero, List.getElem_cons_succ, List.setIfInBounds_toArray, List.set_cons_zero, List.set_cons_succ])
  refine wpAnyL_take (i := 1) (v := ?_) [11] rfl (by kernel_rfl) (by kernel_rfl) (by kernel_rfl) (by kernel_rfl) (by kernel_rfl) (by kernel_rfl) (fun _ _ _ h => h) (Or.inl ⟨by kernel_rfl, by (intro w' hSw; have q3 := (World.cell?_of_block (w := w1) (a := ⟨R.b, 3, none⟩) hSw).trans c3; go_simp; first | done | (with_reducible rfl) | rfl)⟩) hHeld ?_
  (try simp only [Act.put, List.getElem_toArray, List.getElem_cons_zero, List.getElem_cons_succ, List.setIfInBounds_toArray, List.set_cons_zero, List.set_cons_succ])
  refine wpAnyL_take (i := 2) (v := ?_) [11] rfl (by kernel_rfl) (by kernel_rfl) (by kernel_rfl) (by kernel_rfl) (by kernel_rfl) (by kernel_rfl) (fun _ _ _ h => h) (Or.inl ⟨by kernel_rfl, by (intro w' hSw; have q3 := (World.cell?_of_block (w := w1) (a := ⟨R.b, 3, none⟩) hSw).trans c3; go_simp; first | done | (with_reducible rfl) | rfl)⟩) hHeld ?_
  (try simp only [Act.put, List.getElem_toArray, List.getElem_cons_zero, List.getElem_cons_succ, List.setIfInBounds_toArray, List.set_cons_zero, List.set_cons_succ])
  refine wpAnyL_take (i := 3) (v := ?_) [11] rfl (by kernel_rfl) (by kernel_rfl) (by kernel_rfl) (by kernel_rfl) (by kernel_rfl) (by kernel_rfl) (fun _ _ _ h => h) (Or.inl ⟨by kernel_rfl, by (intro w' hSw; have q3 := (World.cell?_of_block (w := w1) (a := ⟨R.b, 3, none⟩) hSw).trans c3; go_simp; first | done | (with_reducible rfl) | rfl)⟩) hHeld ?_
  (try simp only [Act.put, List.getElem_toArray, List.getElem_cons_zero, List.getElem_cons_succ, List.setIfInBounds_toArray, List.set_cons_zero, List.set_cons_succ])
  refine wpAnyL_take (i := 4) (v := ?_) [11] rfl (by kernel_rfl) (by kernel_rfl) (by kernel_rfl) (by kernel_rfl) (by kernel_rfl) (by kernel_rfl) (fun _ _ _ h => h) (Or.inl ⟨by kernel_rfl, by (intro w' hSw; have q3 := (World.cell?_of_block (w := w1) (a := ⟨R.b, 3, none⟩) hSw).trans c3; go_simp; first | done | (with_reducible rfl) | rfl)⟩) hHeld ?_
  (try simp only [Act.put, List.getElem_toArray, List.getElem_cons_zero, List.getElem_cons_succ, List.setIfInBounds_toArray, List.set_cons_zero, List.set_cons_succ])
  refine wpAnyL_take (i := 5) (v := ?_) [11] rfl (by kernel_rfl) (by kernel_rfl) (by kernel_rfl) (by kernel_rfl) (by kernel_rfl) (by kernel_rfl) (fun _ _ _ h => h) (Or.inl ⟨by kernel_rfl, by (intro w' hSw; have q3 := (World.cell?_of_block (w := w1) (a := ⟨R.b, 3, none⟩) hSw).trans c3; go_simp; first | done | (with_reducible rfl) | rfl)⟩) hHeld ?_
  (try simp only [Act.put, List.getElem_toArray, List.getElem_cons_zero, List.getElem_cons_succ, List.setIfInBounds_toArray, List.set_cons_zero, List.set_cons_succ])
  refine wpAnyL_take (i := 6) (v := ?_) [11] rfl (by kernel_rfl) (by kernel_rfl) (by kernel_rfl) (by kernel_rfl) (by kernel_rfl) (by kernel_rfl) (fun _ _ _ h => h) (Or.inl ⟨by kernel_rfl, by (intro w' hSw; have q3 := (World.cell?_of_block (w := w1) (a := ⟨R.b, 3, none⟩) hSw).trans c3; go_simp; first | done | (with_reducible rfl) | rfl)⟩) hHeld ?_
  (try simp only [Act.put, List.getElem_toArray, List.getElem_cons_zero, List.getElem_cons_succ, List.setIfInBounds_toArray, List.set_cons_zero, List.set_cons_succ])
  refine wpAnyL_take (i := 8) (v := ?_) [11] rfl (by kernel_rfl) (by kernel_rfl) (by kernel_rfl) (by kernel_rfl) (by kernel_rfl) (by kernel_rfl) (fun _ _ _ h => h) (Or.inl ⟨by kernel_rfl, by (intro w' hSw; have q3 := (World.cell?_of_block (w := w1) (a := ⟨R.b, 3, none⟩) hSw).trans c3; go_simp; first | done | (with_reducible rfl) | rfl)⟩) hHeld ?_
  (try simp only [Act.put, List.getElem_toArray, List.getElem_cons_zero, List.getElem_cons_succ, List.setIfInBounds_toArray, List.set_cons_zero, List.set_cons_succ])
  refine wpAnyL_one (i := 7) (by kernel_rfl) rfl (fun K hK => ?_)
  go_simp
  go_at_call 27; refine CG.mono ?_; rintro e w2 ⟨rfl, hw2⟩; subst w2
  try dsimp only
  clear hHeld
  refine hK.out _ _ rfl (fun hHeld => ?_)
  clear hK K
  (try simp only [Act.put, List.getElem_toArray, List.getElem_cons_zero, List.getElem_cons_succ, List.setIfInBounds_toArray, List.set_cons_zero, List.set_cons_succ])
  refine wpAnyL_take (i := 9) (v := ?_) [10, 11] rfl (by kernel_rfl) (by kernel_rfl) (by kernel_rfl) (by kernel_rfl) (by kernel_rfl) (by kernel_rfl) (fun _ _ _ h => h) (Or.inl ⟨by kernel_rfl, by (intro w' hSw; have q3 := (World.cell?_of_block (w := w1) (a := ⟨R.b, 3, none⟩) hSw).trans c3; go_simp; first | done | (with_reducible rfl) | rfl)⟩) hHeld ?_
  (try simp only [Act.put, List.getElem_toArray, List.getElem_cons_zero, List.getElem_cons_succ, List.setIfInBounds_toArray, List.set_cons_zero, List.set_cons_succ])
  refine wpAnyL_take (i := 10) (v := ?_) [11] rfl (by kernel_rfl) (by kernel_rfl) (by kernel_rfl) (by kernel_rfl) (by kernel_rfl) (by kernel_rfl) (fun _ _ _ h => h) (Or.inl ⟨by kernel_rfl, by (intro w' hSw; have q3 := (World.cell?_of_block (w := w1) (a := ⟨R.b, 3, none⟩) hSw).trans c3; go_simp; first | done | (with_reducible rfl) | rfl)⟩) hHeld ?_
  (try simp only [Act.put, List.getElem_toArray, List.getElem_cons_zero, List.getElem_cons_succ, List.setIfInBounds_toArray, List.set_cons_zero, List.set_cons_succ])
  refine wpAnyL_last (i := 11) (by kernel_rfl) rfl rfl (fun K hK => ?_)
  go_simp
  try dsimp only
  refine hK.out _ _ ?_
  clear hK K
  (try simp only [Act.put, List.getElem_toArray, List.getElem_cons_zero, List.getElem_cons_succ, List.setIfInBounds_toArray, List.set_cons_zero, List.set_cons_succ])
  refine wpAnyL_done (by kernel_rfl) ?_ _
  clear d3 hfq c3
  go_wp2_with fail
  go_ret
  refine ⟨rfl, ⟨R.b, A2, c2⟩, HF.out.ext rfl rfl rfl HM.out.symm rfl, rfl, HS.out.2.foot, Apart.setCell (S := fun k => k = R.b) (p := ⟨q, m * 8 + 3, none⟩) (HS.out.2.apart.drewN 1) (.inr ?_) _⟩
  exact HLO.out q (by rw [HQ.out]; rfl)
end
end Go.Proofs.Ytbknmfegckeogaa

/- Caps of both sides, by walks. -/
namespace Go.Proofs.Ytbknmfegckeogaa
open Go.RowKit Go.Maps
set_option linter.unusedVariables false
set_option linter.unusedSimpArgs false

/-- What is held: a slot, a capability: five cells. -/
def heldV (x : Int × Cp) : List Value := [.int .i64 x.1, .int .i64 x.2.k, .int .i64 x.2.i, .int .u64 x.2.n, .int .u8 x.2.r]
def heldsV (L : List (Int × Cp)) : List Value := L.flatMap heldV
theorem heldV_len (x : Int × Cp) : (heldV x).length = 5 := rfl
theorem heldsV_app (a b : List (Int × Cp)) : heldsV (a ++ b) = heldsV a ++ heldsV b := by simp [heldsV]
theorem heldsV_one (e : Int × Cp) : heldsV [e] = heldV e := by simp [heldsV]
theorem heldsV_cell : ∀ (L : List (Int × Cp)) (i : Nat) (h : i < L.length) (j : Nat), j < 5 → (heldsV L)[i * 5 + j]? = (heldV (L[i]'h))[j]?
  | [], i, h, j, _ => by simp at h
  | a :: L, 0, h, j, hj => by
    have e : heldsV (a :: L) = heldV a ++ heldsV L := by simp [heldsV]
    rw [e, List.getElem?_append_left (by rw [heldV_len]; omega)]
    simp
  | a :: L, i + 1, h, j, hj => by
    have e : heldsV (a :: L) = heldV a ++ heldsV L := by simp [heldsV]
    have e2 : (i + 1) * 5 + j - 5 = i * 5 + j := by omega
    rw [e, List.getElem?_append_right (by rw [heldV_len]; omega), heldV_len, e2]
    exact heldsV_cell L i (by simpa using h) j hj
structure HeldAt (w : World) (q o : Nat) (x : Int × Cp) : Prop where
  c0 : w.cell? ⟨q, o, none⟩ = some (.int .i64 x.1)
  c1 : w.cell? ⟨q, o + 1, none⟩ = some (.int .i64 x.2.k)
  c2 : w.cell? ⟨q, o + 2, none⟩ = some (.int .i64 x.2.i)
  c3 : w.cell? ⟨q, o + 3, none⟩ = some (.int .u64 x.2.n)
  c4 : w.cell? ⟨q, o + 4, none⟩ = some (.int .u8 x.2.r)
theorem held_at {w : World} {L : List (Int × Cp)} {A : Option Addr} {B c : Nat} (h : w.ownsRow B 44 5 (.slice A L.length c) L.length (heldsV L)) (i : Nat) (hi : i < L.length) : ∃ q, A = some ⟨q, 0, none⟩ ∧ HeldAt w q (i * 5) (L[i]'hi) := by
  rcases h.2 with ⟨hn, h0⟩ | ⟨g, cap, cur, hv, _, hg, h1, h2, h3, h4⟩
  · omega
  · injection hv with hA
    have hc : ∀ j, j < 5 → w.cell? ⟨g, i * 5 + j, none⟩ = (heldV (L[i]'hi))[j]? := by
      intro j hj
      rw [cell_of_row w g (i * 5 + j) cur 44 (0, 0) hg, ← heldsV_cell L i hi j hj, ← h4, List.getElem?_take, if_pos (by omega)]
      simp
    exact ⟨g, hA, hc 0 (by omega), hc 1 (by omega), hc 2 (by omega), hc 3 (by omega), hc 4 (by omega)⟩
theorem infoHeld : (Try.prog.info? 44).map (fun i => (i.zero, i.size, i.bytes)) = some (some (.agg #[.int .i64 0, .int .i64 0, .int .i64 0, .int .u64 0, .int .u8 0]), 5, 40) := by kernel_rfl
theorem reads_held (W : World) (s : Int) (c : Cp) : Reads (W.alloc (.cells #[.int .i64 s, .int .i64 c.k, .int .i64 c.i, .int .u64 c.n, .int .u8 c.r] 44)) (W.heap.size + 1) 5 (some ⟨W.heap.size, 0, none⟩) 1 (heldV (s, c)) :=
  ⟨rfl, fun _ => ⟨_, rfl, by simp, fun j u hu => by
    have hb := Blk.new W 44 #[.int .i64 s, .int .i64 c.k, .int .i64 c.i, .int .u64 c.n, .int .u8 c.r]
    have ha : (⟨W.heap.size, 0, none⟩ : Addr).add j = ⟨W.heap.size, j, none⟩ := by unfold Addr.add; split <;> simp_all
    rw [ha, hb.cell j, ← hu]
    simp [heldV]⟩⟩
/-- All of a goroutine in the first slots. -/
def capL (L : List En) (g : Int) (k : Nat) : List (Int × Cp) := (List.range k).filterMap fun (j : Nat) => (fnd L g (j : Int)).map fun e => ((j : Int), e.c)
theorem capL_succ (L : List En) (g : Int) (k : Nat) : capL L g (k + 1) = capL L g k ++ (match fnd L g (k : Int) with | some e => [((k : Int), e.c)] | none => []) := by
  unfold capL
  rw [List.range_succ, List.filterMap_append]
  congr 1
  simp only [List.filterMap_cons, List.filterMap_nil]
  cases fnd L g (k : Int) <;> rfl
theorem capL_len (L : List En) (g : Int) (k : Nat) : (capL L g k).length ≤ k := by
  unfold capL
  exact Nat.le_trans (List.length_filterMap_le _ _) (by simp)
def Sp.caps (S : Sp) (g : Int) : List (Int × Cp) := capL S.L g S.sl.toNat
/-- What Caps answers. -/
def CapsPost (S : Sp) (g : Int) (w : World) (e : Ending) (w' : World) : Prop :=
  ∃ A c, e = .returned (.slice A (S.caps g).length c) ∧ w'.ownsRow w.heap.size 44 5 (.slice A (S.caps g).length c) (S.caps g).length (heldsV (S.caps g)) ∧ Below w.heap.size w w'
section
variable {w w' : World} {R : Rd} {A : Ad} {S : Sp}
set_option maxRecDepth 100000 in
set_option maxHeartbeats 2000000 in
theorem rfCaps_is (h : RfAt w R S) (hn : S.L.length ≤ 512) (hsl : 1 ≤ S.sl ∧ S.sl ≤ 32) (g : Int) : Calls Try.prog 52 #[.pointer (some ⟨R.b, 0, none⟩), .int .i64 g] w (CapsPost S g w) := by
  obtain ⟨i0, hi0, hz0, hz1, hz2⟩ := info_parts_ infoHeld
  have HR := Lib.hid h
  have HN := Lib.hid hn
  obtain ⟨n, hn9⟩ : ∃ n : Nat, (n : Int) = S.sl := ⟨S.sl.toNat, by omega⟩
  have hnl : n ≤ 32 := by omega
  have HS := Lib.hid (show S.sl.toNat = n from by omega)
  clear h hn hsl
  go_enter Try.func52, Try.ntmps52
  go_wp2_with fail
  go_loopw [5, 6] (fun o i wr => ∃ k : Nat, k ≤ n ∧ i = .int .i64 k ∧ wr.ownsRow w.heap.size 44 5 o (capL S.L g k).length (heldsV (capL S.L g k)) ∧ Below w.heap.size w wr) (fun _ i _ => n - (intOf i).toNat)
  case atStart => exact ⟨0, Nat.zero_le _, rfl, World.ownsRow_nil _ _ _ _, Below.refl _ _⟩
  case round =>
    obtain ⟨k, hk, rfl, hown, hbr⟩ := hrel
    obtain ⟨B, cap, rfl⟩ := own_slice hown
    have h1 := HR.out.below hbr
    obtain ⟨-, c1, -, c3, -⟩ := h1.cells
    rw [← hn9] at c1
    by_cases hlt : k < n
    · have CF := find_is h1 HN.out g (k : Int)
      have hst := capL_succ S.L g k
      have hll := capL_len S.L g k
      obtain ⟨L, hL⟩ : ∃ L, L = capL S.L g k := ⟨_, rfl⟩
      rw [← hL] at hown hst hll ⊢
      clear hL
      have HO := Lib.hid hown
      have HB := Lib.hid hbr
      have HK := Lib.hid hlt
      have hk1 : (k : Int) < (n : Int) := by omega
      clear hown hbr hlt
      cases hf : fnd S.L g (k : Int) with
      | none =>
        rw [pos_neg hf] at CF
        rw [hf] at hst
        simp only [List.append_nil] at hst
        have HST := Lib.hid hst
        clear hst hf h1 c3
        go_wp2_with (go_at_call 27; refine CF.mono ?_; rintro e w2 ⟨rfl, hw2⟩; subst w2)
        go_roundw
        case rel =>
          refine ⟨k + 1, HK.out, by go_num, ?_, HB.out⟩
          rw [HST.out]
          exact HO.out
        case measure => simp [intOf]; have := HK.out; omega
      | some x =>
        obtain ⟨m, hm, hmx, hp⟩ := pos_some hf
        rw [hp] at CF
        rw [hf] at hst
        obtain ⟨q, hq, ho⟩ := h1.one m hm
        rw [hmx] at ho
        have d4 := ho.c4
        have d5 := ho.c5
        have d6 := ho.c6
        have d7 := ho.c7
        rw [hq] at c3
        have hm0 : 0 ≤ (m : Int) := by omega
        have hm1 : (m : Int) < (S.L.length : Int) := by omega
        have HST := Lib.hid hst
        have HRD := Lib.hid (reads_held wr (k : Int) x.c)
        have m3 := Lib.hid (show L.length + 1 ≤ maxLen from by unfold maxLen; omega)
        have m4 := Lib.hid (show (L.length + 1) * 40 ≤ 140737488355328 from by omega)
        have hsz := HB.out.size
        clear hst hf h1 ho hmx hp hm hq hll
        go_wp2_with (first | (go_at_call 27; refine CF.mono ?_; rintro e w2 ⟨rfl, hw2⟩; subst w2) | (at_builtin; refine wpList_append_any _ rfl (.tmp 22) (.tmp 33) 39 rfl w.heap.size 44 i0 (.agg #[.int .i64 0, .int .i64 0, .int .i64 0, .int .u64 0, .int .u8 0]) 5 40 Try.underlying39 hi0 hz0 hz1 hz2 rfl (by decide) (.slice B L.length cap) L.length (heldsV L) rfl (HO.out.alloc _) _ (some ⟨wr.heap.size, 0, none⟩) 1 1 (heldV ((k : Int), x.c)) rfl HRD.out (by simp [heldV, Value.oneCell']) m3.out m4.out (by simp; omega) ?_; intro v2 w3 hown2 hg2 hat2; (obtain ⟨A2, c2, rfl⟩ := own_slice hown2); (have HO2 := Lib.hid (And.intro hown2 ((HB.out.alloc hsz (.cells #[.int .i64 (k : Int), .int .i64 x.c.k, .int .i64 x.c.i, .int .u64 x.c.n, .int .u8 x.c.r] 44)).grown hg2 (by simp; omega) (fun j e => (HO.out.lt j e).1)))); clear hown2 hg2 hat2 d4 d5 d6 d7 c3))
        go_roundw
        case rel =>
          refine ⟨k + 1, HK.out, by go_num, ?_, HO2.out.2⟩
          rw [HST.out, heldsV_app, heldsV_one, List.length_append]
          exact HO2.out.1
        case measure => simp [intOf]; have := HK.out; omega
    · have hkr : k = n := by omega
      subst hkr
      have hk1 : ¬ (k : Int) < (k : Int) := by omega
      have HO := Lib.hid hown
      have HB := Lib.hid hbr
      have hcs : capL S.L g k = S.caps g := by unfold Sp.caps; rw [HS.out]
      rw [hcs] at HO ⊢
      clear hown hbr h1 c3 hcs
      go_wp2_with fail
      go_ret
      exact ⟨B, cap, rfl, HO.out, HB.out⟩
set_option maxRecDepth 100000 in
set_option maxHeartbeats 2000000 in
theorem caps_is (h : SpAt w A S) (hl : Lim S) (hJ : J S) (g : Int) : Calls Try.prog 13 #[.pointer (some ⟨A.b, 0, none⟩), .int .i64 g] w (CapsPost S g w) := by
  obtain ⟨i0, hi0, hz0, hz1, hz2⟩ := info_parts_ infoHeld
  have CN := none_is h
  have HR := Lib.hid h
  have HL := Lib.hid (And.intro hl hJ)
  have hsl := hl.sl
  obtain ⟨n, hn9⟩ : ∃ n : Nat, (n : Int) = S.sl := ⟨S.sl.toNat, by omega⟩
  have hnl : n ≤ 32 := by omega
  have HS := Lib.hid (show S.sl.toNat = n from by omega)
  obtain ⟨-, c1, -⟩ := h.cells
  rw [← hn9] at c1
  clear h hl hJ hsl
  go_enter Try.func13, Try.ntmps13
  go_wp2_with (go_at_call 47; refine CN.mono ?_; rintro e w2 ⟨rfl, hw2⟩; subst w2)
  clear c1 CN
  go_loopw [4, 14] (fun o i wr => ∃ k : Nat, k ≤ n ∧ i = .int .i64 k ∧ wr.ownsRow w.heap.size 44 5 o (capL S.L g k).length (heldsV (capL S.L g k)) ∧ Below w.heap.size w wr) (fun _ i _ => n - (intOf i).toNat)
  case atStart => exact ⟨0, Nat.zero_le _, rfl, World.ownsRow_nil _ _ _ _, Below.refl _ _⟩
  case round =>
    obtain ⟨k, hk, rfl, hown, hbr⟩ := hrel
    obtain ⟨B, cap, rfl⟩ := own_slice hown
    have h1 := HR.out.below hbr
    by_cases hlt : k < n
    · have hst := capL_succ S.L g k
      have hll := capL_len S.L g k
      obtain ⟨L, hL⟩ : ∃ L, L = capL S.L g k := ⟨_, rfl⟩
      rw [← hL] at hown hst hll ⊢
      clear hL
      have HO := Lib.hid hown
      have HB := Lib.hid hbr
      have HK := Lib.hid hlt
      have hk1 : (k : Int) < (n : Int) := by omega
      clear hown hbr hlt
      cases hf : fnd S.L g (k : Int) with
      | none =>
        have hE : S.full g (k : Int) ≠ 0 := by
          unfold Sp.full
          rw [hf]
          split <;> simp
        have CF := get_no h1 HL.out.1 g (k : Int) hE
        have hE1 : (S.full g (k : Int) == 0) = false := by simpa using hE
        rw [hf] at hst
        simp only [List.append_nil] at hst
        have HST := Lib.hid hst
        generalize S.full g (k : Int) = E at *
        unfold capV Cp.zero at CF
        clear hst hf h1 hE
        go_wp2_with (go_at_call 15; refine CF.mono ?_; rintro e w2 ⟨rfl, hb2⟩; (have HB2 := Lib.hid (And.intro (HB.out.trans (hb2.mono HB.out.size)) (below_own HO.out hb2))); clear hb2)
        go_roundw
        case rel =>
          refine ⟨k + 1, HK.out, by go_num, ?_, HB2.out.1.alloc HB2.out.1.size _⟩
          rw [HST.out]
          exact HB2.out.2.alloc _
        case measure => simp [intOf]; have := HK.out; omega
      | some x =>
        have hx := (fnd_mem hf).1
        have ht : S.there g (k : Int) = true := by
          have := HL.out.2.rng x hx
          rw [(fnd_mem hf).2.1, (fnd_mem hf).2.2] at this
          exact this
        have CF := get_yes h1 HL.out.1 HL.out.2 g (k : Int) ht hf
        rw [hf] at hst
        have HST := Lib.hid hst
        have m3 := Lib.hid (show L.length + 1 ≤ maxLen from by unfold maxLen; omega)
        have m4 := Lib.hid (show (L.length + 1) * 40 ≤ 140737488355328 from by omega)
        unfold capV at CF
        clear hst hf h1 ht hx hll
        go_wp2_with (first | (go_at_call 15; refine CF.mono ?_; rintro e w2 ⟨rfl, hb2⟩; (have HB2 := Lib.hid (And.intro (HB.out.trans (hb2.mono HB.out.size)) (below_own HO.out hb2))); (have hsz := HB2.out.1.size); clear hb2) | (at_builtin; refine wpList_append_any _ rfl (.tmp 26) (.tmp 30) 39 rfl w.heap.size 44 i0 (.agg #[.int .i64 0, .int .i64 0, .int .i64 0, .int .u64 0, .int .u8 0]) 5 40 Try.underlying39 hi0 hz0 hz1 hz2 rfl (by decide) (.slice B L.length cap) L.length (heldsV L) rfl ((HB2.out.2.alloc _).alloc _) _ (some ⟨w2.heap.size + 1, 0, none⟩) 1 1 (heldV ((k : Int), x.c)) rfl (by have := reads_held (w2.alloc (.cells #[.int .i64 x.c.k, .int .i64 x.c.i, .int .u64 x.c.n, .int .u8 x.c.r] 36)) (k : Int) x.c; simp only [World.size_alloc] at this; exact this) (by simp [heldV, Value.oneCell']) m3.out m4.out (by simp; omega) ?_; intro v2 w3 hown2 hg2 hat2; (obtain ⟨A2, c2, rfl⟩ := own_slice hown2); (have HO2 := Lib.hid (And.intro hown2 (((HB2.out.1.alloc hsz (.cells #[.int .i64 x.c.k, .int .i64 x.c.i, .int .u64 x.c.n, .int .u8 x.c.r] 36)).alloc (by simp; omega) (.cells #[.int .i64 (k : Int), .int .i64 x.c.k, .int .i64 x.c.i, .int .u64 x.c.n, .int .u8 x.c.r] 44)).grown hg2 (by simp; omega) (fun j e => (HB2.out.2.lt j e).1)))); clear hown2 hg2 hat2))
        go_roundw
        case rel =>
          refine ⟨k + 1, HK.out, by go_num, ?_, HO2.out.2⟩
          rw [HST.out, heldsV_app, heldsV_one, List.length_append]
          exact HO2.out.1
        case measure => simp [intOf]; have := HK.out; omega
    · have hkr : k = n := by omega
      subst hkr
      have hk1 : ¬ (k : Int) < (k : Int) := by omega
      have HO := Lib.hid hown
      have HB := Lib.hid hbr
      have hcs : capL S.L g k = S.caps g := by unfold Sp.caps; rw [HS.out]
      rw [hcs] at HO ⊢
      clear hown hbr h1 hcs
      go_wp2_with fail
      go_ret
      exact ⟨B, cap, rfl, HO.out, HB.out⟩
end
end Go.Proofs.Ytbknmfegckeogaa

/- Clear of both sides, by walks. -/
namespace Go.Proofs.Ytbknmfegckeogaa
open Go.RowKit Go.Maps
set_option linter.unusedVariables false
set_option linter.unusedSimpArgs false

/-- What an act of the program does to where a space lies. -/
structure SpGo (w w' : World) (A : Ad) (v' : Value) : Prop where
  fresh : Fresh w A.v v'
  apart : Apart A.own w w'
theorem own_ad {A : Ad} {w : World} {v' : Value} (h : Fresh w A.v v') {k : Nat} (hk : ({ A with v := v' } : Ad).own k) : A.own k ∨ w.heap.size ≤ k := by
  rcases hk with (e | e | e) | e | e | e | e
  · exact .inl (.inl (.inl e))
  · exact .inl (.inl (.inr (.inl e)))
  · rcases h k e with e | e
    · exact .inl (.inl (.inr (.inr e)))
    · exact .inr e
  · exact .inl (.inr (.inl e))
  · exact .inl (.inr (.inr (.inl e)))
  · exact .inl (.inr (.inr (.inr (.inl e))))
  · exact .inl (.inr (.inr (.inr (.inr e))))
theorem SpGo.refl (w : World) (A : Ad) : SpGo w w A A.v := ⟨fun k h => .inl h, Apart.refl _ _⟩
theorem SpGo.of_below {w w' : World} (A : Ad) (h : Below w.heap.size w w') : SpGo w w' A A.v := ⟨fun k h => .inl h, Apart.of_below h⟩
theorem SpGo.trans {w w' w'' : World} {A : Ad} {v' v'' : Value} (h : SpGo w w' A v') (k : SpGo w' w'' { A with v := v' } v'') : SpGo w w'' A v'' :=
  ⟨fun j hj => by
    rcases k.fresh j hj with e | e
    · exact h.fresh j e
    · exact .inr (Nat.le_trans h.apart.size e), h.apart.trans k.apart fun j hj e => by
      rcases own_ad h.fresh e with e | e
      · exact e
      · omega⟩
theorem SpGo.below {w w' w'' : World} {A : Ad} {v' : Value} (h : SpGo w w' A v') (hb : Below w'.heap.size w' w'') : SpGo w w'' A v' := ⟨h.fresh, h.apart.trans (Apart.of_below (S := fun _ => False) hb) fun _ _ e => e.elim⟩
theorem SpGo.from {w W w' : World} {A : Ad} {v' : Value} (hb : Below w.heap.size w W) (h : SpGo W w' A v') : SpGo w w' A v' := (SpGo.of_below A hb).trans h
/-- Delete, whatever is there. -/
def Sp.del1 (S : Sp) (g s : Int) : Sp := match fnd S.L g s with
  | some x => S.del x
  | none => S
def Sp.clr (S : Sp) (g : Int) (l : List (Int × Cp)) : Sp := l.foldl (fun T x => T.del1 g x.1) S
theorem clr_snoc (S : Sp) (g : Int) (l : List (Int × Cp)) (x : Int × Cp) : S.clr g (l ++ [x]) = (S.clr g l).del1 g x.1 := by simp [Sp.clr]
theorem J.del1 {S : Sp} (h : J S) (g s : Int) : J (S.del1 g s) := by
  unfold Sp.del1
  split
  · rename_i x hx
    exact h.del (fnd_mem hx).1
  · exact h
theorem J.clr {S : Sp} (h : J S) (g : Int) (l : List (Int × Cp)) : J (S.clr g l) := by
  unfold Sp.clr
  induction l generalizing S with
  | nil => exact h
  | cons x l ih => exact ih (h.del1 g x.1)
theorem Lim.del1 {S : Sp} (h : Lim S) (g s : Int) : Lim (S.del1 g s) := by
  unfold Sp.del1
  split
  · exact ⟨h.gs, h.sl, h.n⟩
  · exact h
theorem Lim.clr {S : Sp} (h : Lim S) (g : Int) (l : List (Int × Cp)) : Lim (S.clr g l) := by
  unfold Sp.clr
  induction l generalizing S with
  | nil => exact h
  | cons x l ih => exact ih (h.del1 g x.1)
theorem full_none {S : Sp} {g s : Int} (h : fnd S.L g s = none) : S.full g s ≠ 0 := by
  unfold Sp.full
  rw [h]
  split <;> simp
theorem J.there_fnd {S : Sp} (h : J S) {g s : Int} {x : En} (hf : fnd S.L g s = some x) : S.there g s = true := by
  have := h.rng x (fnd_mem hf).1
  rw [(fnd_mem hf).2.1, (fnd_mem hf).2.2] at this
  exact this
theorem J.few {S : Sp} (h : J S) (hl : Lim S) : S.L.length ≤ 512 := by have := h.count; have := hl.n; omega
section
variable {w w' : World} {R : Rd} {A : Ad} {S : Sp}
theorem del1_is (h : SpAt w A S) (hl : Lim S) (hJ : J S) (g s : Int) : Calls Try.prog 33 #[.pointer (some ⟨A.b, 0, none⟩), .int .i64 g, .int .i64 s] w fun e w' => e = .returned (.int .i64 (S.full g s)) ∧ ∃ v', SpAt w' { A with v := v' } (S.del1 g s) ∧ SpGo w w' A v' := by
  unfold Sp.del1
  cases hf : fnd S.L g s with
  | none =>
    refine (delete_no h hl g s (full_none hf)).mono ?_
    rintro e w' ⟨rfl, rfl⟩
    exact ⟨rfl, A.v, h, SpGo.refl _ _⟩
  | some x =>
    have ht := hJ.there_fnd hf
    refine (delete_yes h hl hJ g s ht hf).mono ?_
    rintro e w' ⟨rfl, v', h1, h2, h3⟩
    exact ⟨by simp [Sp.full, ht, hf], v', h1, h2, h3⟩
theorem rfDel1_is (h : RfAt w R S) (hl : Lim S) (hJ : J S) (g s : Int) : Calls Try.prog 44 #[.pointer (some ⟨R.b, 0, none⟩), .int .i64 g, .int .i64 s] w fun e w' => e = .returned (.int .i64 (S.full g s)) ∧ ∃ R', RfAt w' R' (S.del1 g s) ∧ RfGo w w' R R' := by
  have hn := hJ.few hl
  unfold Sp.del1
  cases hf : fnd S.L g s with
  | none =>
    refine (rfDelete_no h hn g s (full_none hf)).mono ?_
    rintro e w' ⟨rfl, rfl⟩
    exact ⟨rfl, R, h, RfGo.refl _ _⟩
  | some x =>
    have ht := hJ.there_fnd hf
    refine (rfDelete_yes h hn g s ht hf).mono ?_
    rintro e w' ⟨rfl, R', h1, h2⟩
    exact ⟨by simp [Sp.full, ht, hf], R', h1.ext rfl rfl rfl rfl rfl, h2⟩
set_option maxRecDepth 100000 in
set_option maxHeartbeats 2000000 in
theorem rfClear_is (h : RfAt w R S) (hl : Lim S) (hJ : J S) (g : Int) : Calls Try.prog 46 #[.pointer (some ⟨R.b, 0, none⟩), .int .i64 g] w fun e w' => e = .returned (.int .i64 ((S.caps g).length : Int)) ∧ ∃ R', RfAt w' R' (S.clr g (S.caps g)) ∧ RfGo w w' R R' := by
  have CC := rfCaps_is h (hJ.few hl) hl.sl g
  have hlen : (S.caps g).length ≤ 32 := Nat.le_trans (capL_len _ _ _) (by have := hl.sl; omega)
  have HR := Lib.hid h
  have HJ := Lib.hid (And.intro hl hJ)
  have hrb : R.b < w.heap.size := h.head.lt
  clear h hl hJ
  obtain ⟨l, hlc⟩ : ∃ l, l = S.caps g := ⟨_, rfl⟩
  unfold CapsPost at CC
  rw [← hlc] at CC hlen
  have HLC := Lib.hid hlc
  rw [← hlc]
  clear hlc
  go_enter Try.func46, Try.ntmps46
  go_wp2_with (go_at_call 52; refine CC.mono ?_; rintro e w1 ⟨B, cap, rfl, hown, hb1⟩; (have H1 := Lib.hid (And.intro hown hb1)); clear hown hb1 CC)
  go_loopw [6] (fun i wr => ∃ (k : Nat) (R' : Rd), i = .int .i64 k ∧ k ≤ l.length ∧ RfAt wr R' (S.clr g (l.take k)) ∧ RfGo w1 wr R R') (fun i _ => l.length - (intOf i).toNat)
  case atStart => exact ⟨0, R, rfl, Nat.zero_le _, HR.out.below H1.out.2, RfGo.refl _ _⟩
  case round =>
    obtain ⟨k, R', rfl, hk, hR, hG⟩ := hrel
    by_cases hlt : k < l.length
    · have how : wr.ownsRow w.heap.size 44 5 (.slice B l.length cap) l.length (heldsV l) := own_apart H1.out.1 hG.apart fun j hj e => by
        have := (H1.out.1.lt j hj).1
        omega
      obtain ⟨q, hq, hh⟩ := held_at how k hlt
      have d0 := hh.c0
      have CD := rfDel1_is hR (HJ.out.1.clr g (l.take k)) (HJ.out.2.clr g (l.take k)) g (l[k]'hlt).1
      have hst := clr_snoc S g (l.take k) (l[k]'hlt)
      rw [← List.take_succ_eq_append_getElem hlt] at hst
      rw [← hst] at CD
      have hRb := hG.b
      rw [hRb] at CD
      have HK := Lib.hid hlt
      have HG := Lib.hid hG
      have hk1 : (k : Int) < (l.length : Int) := by omega
      generalize (l[k]'hlt).1 = z at *
      generalize (S.clr g (l.take k)).full g z = E at *
      subst hq
      clear hlt hh how hst hG hR
      go_wp2_with (go_at_call 44; refine CD.mono ?_; rintro e w2 ⟨rfl, R2, hR2, hG2⟩; (have H2 := Lib.hid (And.intro hR2 hG2)); clear hR2 hG2 CD)
      go_roundw
      case rel => exact ⟨k + 1, R2, by go_num, HK.out, H2.out.1, HG.out.trans H2.out.2⟩
      case measure => simp [intOf]; have := HK.out; omega
    · have hkr : k = l.length := by omega
      subst hkr
      rw [List.take_length] at hR
      have HF := Lib.hid (And.intro hR hG)
      have hk1 : ¬ (l.length : Int) < (l.length : Int) := by omega
      clear hR hG hlt
      go_wp2_with fail
      go_ret
      exact ⟨rfl, R', HF.out.1, HF.out.2.from H1.out.2⟩
set_option maxRecDepth 100000 in
set_option maxHeartbeats 2000000 in
theorem clear_is (h : SpAt w A S) (hl : Lim S) (hJ : J S) (g : Int) : Calls Try.prog 34 #[.pointer (some ⟨A.b, 0, none⟩), .int .i64 g] w fun e w' => e = .returned (.int .i64 ((S.caps g).length : Int)) ∧ ∃ v', SpAt w' { A with v := v' } (S.clr g (S.caps g)) ∧ SpGo w w' A v' := by
  have CC := caps_is h hl hJ g
  have hlen : (S.caps g).length ≤ 32 := Nat.le_trans (capL_len _ _ _) (by have := hl.sl; omega)
  have HR := Lib.hid h
  have HJ := Lib.hid (And.intro hl hJ)
  have HOL := Lib.hid (fun k (hk : A.own k) => h.lt hk)
  clear h hl hJ
  obtain ⟨l, hlc⟩ : ∃ l, l = S.caps g := ⟨_, rfl⟩
  unfold CapsPost at CC
  rw [← hlc] at CC hlen
  have HLC := Lib.hid hlc
  rw [← hlc]
  clear hlc
  go_enter Try.func34, Try.ntmps34
  go_wp2_with (go_at_call 13; refine CC.mono ?_; rintro e w1 ⟨B, cap, rfl, hown, hb1⟩; (have H1 := Lib.hid (And.intro hown hb1)); clear hown hb1 CC)
  go_loopw [13] (fun i wr => ∃ (k : Nat) (v' : Value), i = .int .i64 k ∧ k ≤ l.length ∧ SpAt wr { A with v := v' } (S.clr g (l.take k)) ∧ SpGo w1 wr A v') (fun i _ => l.length - (intOf i).toNat)
  case atStart => exact ⟨0, A.v, rfl, Nat.zero_le _, HR.out.below H1.out.2, SpGo.refl _ _⟩
  case round =>
    obtain ⟨k, v', rfl, hk, hR, hG⟩ := hrel
    by_cases hlt : k < l.length
    · have how : wr.ownsRow w.heap.size 44 5 (.slice B l.length cap) l.length (heldsV l) := own_apart H1.out.1 hG.apart fun j hj e => by
        have h1 := (H1.out.1.lt j hj).1
        have h2 := HOL.out j e
        omega
      obtain ⟨q, hq, hh⟩ := held_at how k hlt
      have d0 := hh.c0
      have d1 := hh.c1
      have d2 := hh.c2
      have d3 := hh.c3
      have d4 := hh.c4
      have hbx : ∀ o, Below wr.heap.size wr (wr.alloc o) := fun o => (Below.refl _ _).alloc (Nat.le_refl _) o
      have CD := fun o => del1_is (hR.below (hbx o)) (HJ.out.1.clr g (l.take k)) (HJ.out.2.clr g (l.take k)) g (l[k]'hlt).1
      have hst := clr_snoc S g (l.take k) (l[k]'hlt)
      rw [← List.take_succ_eq_append_getElem hlt] at hst
      rw [← hst] at CD
      have HK := Lib.hid hlt
      have HG := Lib.hid (fun o => hG.below (hbx o))
      have hk1 : (k : Int) < (l.length : Int) := by omega
      generalize (S.clr g (l.take k)).full g (l[k]'hlt).1 = E at *
      generalize (l[k]'hlt) = z at *
      subst hq
      clear hlt hh how hst hG hR hbx
      go_wp2_with (go_at_call 33; refine (CD _).mono ?_; rintro e w2 ⟨rfl, v2, hR2, hG2⟩; (have H2 := Lib.hid (And.intro hR2 ((HG.out _).trans hG2))); clear hR2 hG2 CD d0 d1 d2 d3 d4)
      go_roundw
      case rel => exact ⟨k + 1, v2, by go_num, HK.out, H2.out.1, H2.out.2⟩
      case measure => simp [intOf]; have := HK.out; omega
    · have hkr : k = l.length := by omega
      subst hkr
      rw [List.take_length] at hR
      have HF := Lib.hid (And.intro hR hG)
      have hk1 : ¬ (l.length : Int) < (l.length : Int) := by omega
      clear hR hG hlt
      go_wp2_with fail
      go_ret
      exact ⟨rfl, v', HF.out.1, HF.out.2.from H1.out.2⟩
end
end Go.Proofs.Ytbknmfegckeogaa
