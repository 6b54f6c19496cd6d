/- Of the following, one behind the other: The law's do, by walks: both sides answer alike, and agree as before. -/
import Derived.Test.YtbknmfegckeogaaPk16
/- The law's do, by walks: both sides answer alike, and agree as before. -/
namespace Go.Proofs.Ytbknmfegckeogaa
open Go.RowKit Go.Maps
set_option linter.unusedVariables false
set_option linter.unusedSimpArgs false

/-- An act. -/
structure Ac where
  k : Int
  g : Int
  s : Int
  tg : Int
  ts : Int
  c : Cp
def Ac.wf (a : Ac) : Prop := 0 ≤ a.c.n ∧ 0 ≤ a.c.r ∧ a.c.r < 256
def actC (a : Ac) : Array Value := #[.int .i64 a.k, .int .i64 a.g, .int .i64 a.s, .int .i64 a.tg, .int .i64 a.ts, .int .i64 a.c.k, .int .i64 a.c.i, .int .u64 a.c.n, .int .u8 a.c.r]
/-- Both sides agree. -/
structure Jt (w : World) (A : Ad) (R : Rd) (S : Sp) : Prop where
  sp : SpAt w A S
  rf : RfAt w R S
  j : J S
  lim : Lim S
  sep : ∀ k, A.own k → ¬ R.foot k
/-- What acts do to where they lie. -/
structure Gone (w w' : World) (A : Ad) (R : Rd) (A' : Ad) (R' : Rd) : Prop where
  ab : A'.b = A.b
  rb : R'.b = R.b
  fa : ∀ k, A'.own k → A.own k ∨ w.heap.size ≤ k
  fr : ∀ k, R'.foot k → R.foot k ∨ w.heap.size ≤ k
  apart : Apart (fun k => A.own k ∨ k = R.b) w w'
theorem Gone.refl (w : World) (A : Ad) (R : Rd) : Gone w w A R A R := ⟨rfl, rfl, fun _ h => .inl h, fun _ h => .inl h, Apart.refl _ _⟩
theorem Gone.of_below {w w' : World} (A : Ad) (R : Rd) (h : Below w.heap.size w w') : Gone w w' A R A R := ⟨rfl, rfl, fun _ h => .inl h, fun _ h => .inl h, Apart.of_below h⟩
theorem Gone.trans {w w' w'' : World} {A A' A'' : Ad} {R R' R'' : Rd} (h : Gone w w' A R A' R') (k : Gone w' w'' A' R' A'' R'') : Gone w w'' A R A'' R'' :=
  ⟨k.ab.trans h.ab, k.rb.trans h.rb, fun j hj => by
    rcases k.fa j hj with e | e
    · exact h.fa j e
    · exact .inr (Nat.le_trans h.apart.size e), fun j hj => by
    rcases k.fr j hj with e | e
    · exact h.fr j e
    · exact .inr (Nat.le_trans h.apart.size e), h.apart.trans k.apart fun j hj e => by
    rcases e with e | e
    · rcases h.fa j e with e2 | e2
      · exact .inl e2
      · omega
    · exact .inr (e.trans h.rb)⟩
theorem SpRes.block {w w' : World} {A : Ad} {S : Sp} (h : SpRes w A S w') {k : Nat} (hk : k < w.heap.size) (hn : ¬ A.own k) : w'.heap[k]? = w.heap[k]? := by
  obtain ⟨v', _, hg⟩ := h
  exact hg.apart.block k hk hn
theorem SpRes.size {w w' : World} {A : Ad} {S : Sp} (h : SpRes w A S w') : w.heap.size ≤ w'.heap.size := by
  obtain ⟨v', _, hg⟩ := h
  exact hg.apart.size
theorem RfRes.block {w w' : World} {R : Rd} {S : Sp} (h : RfRes w R S w') {k : Nat} (hk : k < w.heap.size) (hn : ¬ k = R.b) : w'.heap[k]? = w.heap[k]? := by
  obtain ⟨R', _, hg⟩ := h
  exact hg.apart.block k hk hn
/-- What do answers. -/
def DoPost (S : Sp) (A : Ad) (R : Rd) (w : World) (e : Ending) (w' : World) : Prop := e = .returned (.bool true) ∧ ∃ A' R' S', Jt w' A' R' S' ∧ Both S S' ∧ Gone w w' A R A' R'
section
variable {w W w2 w3 : World} {A : Ad} {R : Rd} {S S' : Sp}
theorem Jt.below (h : Jt w A R S) (hb : Below w.heap.size w W) : Jt W A R S := ⟨h.sp.below hb, h.rf.below hb, h.j, h.lim, h.sep⟩
theorem Jt.rf_behind (h : Jt w A R S) (hb : Below w.heap.size w W) (hs : SpRes W A S' w2) : RfAt w2 R S := by
  obtain ⟨v', _, hg⟩ := hs
  exact (h.rf.below hb).apart hg.apart fun k hk ho => h.sep k ho hk
theorem Jt.fin (h : Jt w A R S) (hb : Below w.heap.size w W) (hs : SpRes W A S' w2) (hr : RfRes w2 R S' w3) (hB : Both S S') : DoPost S A R w (.returned (.bool true)) w3 := by
  obtain ⟨v', s1, s2⟩ := hs
  obtain ⟨R', r1, r2⟩ := hr
  have hRb : R.b < w.heap.size := h.rf.head.lt
  have hz := hb.size
  have hz2 := s2.apart.size
  have ow : ∀ k, ({ A with v := v' } : Ad).own k → A.own k ∨ W.heap.size ≤ k := fun k hk => own_ad s2.fresh hk
  have nb : ∀ k, ({ A with v := v' } : Ad).own k → ¬ k = R.b := fun k hk e => by
    rcases ow k hk with e2 | e2
    · exact h.sep k e2 (.inl e)
    · omega
  refine ⟨rfl, { A with v := v' }, R', S', ⟨s1.apart r2.apart nb, r1, hB.j, hB.lim, fun k hk hf => ?_⟩, hB, rfl, r2.b, fun k hk => ?_, fun k hk => ?_, ?_⟩
  · have hlt := s1.lt hk
    rcases r2.foot k hf with e | e
    · rcases ow k hk with e2 | e2
      · exact h.sep k e2 e
      · have := h.rf.lt e
        omega
    · omega
  · rcases ow k hk with e | e
    · exact .inl e
    · exact .inr (Nat.le_trans hz e)
  · rcases r2.foot k hk with e | e
    · exact .inl e
    · exact .inr (Nat.le_trans hz (Nat.le_trans hz2 e))
  · refine ((Apart.of_below hb).trans s2.apart (fun k _ hk => .inl hk)).trans r2.apart (fun k _ hk => .inr hk)
theorem Jt.stay (h : Jt w A R S) (hb : Below w.heap.size w W) : DoPost S A R w (.returned (.bool true)) W := ⟨rfl, A, R, S, h.below hb, .refl h.j h.lim, Gone.of_below A R hb⟩
theorem free_c (h : SpAt w A S) (hl : Lim S) (g s : Int) : Calls Try.prog 32 #[.pointer (some ⟨A.b, 0, none⟩), .int .i64 g, .int .i64 s] w fun e w' => e = .returned (.int .i64 (S.freeE g s)) ∧ SpRes w A S w' := by
  refine (free_is h hl g s).mono ?_
  rintro e w' ⟨rfl, rfl⟩
  exact ⟨rfl, SpRes.stay h (Below.refl _ _)⟩
theorem rfFree_c (h : RfAt w R S) (hl : Lim S) (hJ : J S) (g s : Int) : Calls Try.prog 42 #[.pointer (some ⟨R.b, 0, none⟩), .int .i64 g, .int .i64 s] w fun e w' => e = .returned (.int .i64 (S.freeE g s)) ∧ RfRes w R S w' := by
  refine (rfFree_is h (hJ.few hl) g s).mono ?_
  rintro e w' ⟨rfl, rfl⟩
  exact ⟨rfl, RfRes.stay h (Below.refl _ _)⟩
end
set_option maxRecDepth 100000 in
set_option maxHeartbeats 2000000 in
theorem do_1 {w : World} {A : Ad} {R : Rd} {S : Sp} (h : Jt w A R S) (hcm : S.came ≤ 1000000) (a : Ac) (hw : a.wf) (hk : a.k = 1) :
    Calls Try.prog 12 #[.pointer (some ⟨A.b, 0, none⟩), .pointer (some ⟨R.b, 0, none⟩), .agg (actC a)] w (DoPost S A R w) := by
  obtain ⟨xk, xg, xs, xt, xu, xc⟩ := a
  dsimp only at hk
  subst hk
  obtain ⟨w1, hw1⟩ : ∃ w1, w1 = w.alloc (.cells (actC ⟨1, xg, xs, xt, xu, xc⟩) 38) := ⟨_, rfl⟩
  have hb1 : Below w.heap.size w w1 := by rw [hw1]; exact (Below.refl _ _).alloc (Nat.le_refl _) _
  have hblk : Blk w1 w.heap.size 38 (actC ⟨1, xg, xs, xt, xu, xc⟩) := by rw [hw1]; exact Blk.new w _ _
  obtain ⟨bx, hbx⟩ : ∃ bx, bx = w.heap.size := ⟨_, rfl⟩
  rw [← hbx] at hblk
  have hb2 : Below w.heap.size w (w1.drewN 1) := hb1.trans ((below_drewN_ _ _ _).mono (Nat.le_refl _))
  have hS1 := h.sp.below hb2
  have BX := Lib.hid (show (∀ k, A.own k → k ≠ bx) ∧ R.b ≠ bx ∧ bx < w1.heap.size from ⟨fun k hk e => by have := h.sp.lt hk; omega, by have := h.rf.head.lt; omega, hblk.lt⟩)
  have C1 := root_c hS1 h.lim h.j xg xs xc hw.1
  have C2 := Lib.hid (fun W (hR : RfAt W R S) => rfPut_c hR h.lim h.j hcm xg xs xc hw.2)
  have HBO := Lib.hid (both_root h.j h.lim xg xs xc hw.2)
  have HJ := Lib.hid h
  have H2 := Lib.hid hb2
  have b0 := hblk.cell 0
  have b1 := hblk.cell 1
  have b2 := hblk.cell 2
  have b3 := hblk.cell 3
  have b4 := hblk.cell 4
  have b5 := hblk.cell 5
  have b6 := hblk.cell 6
  have b7 := hblk.cell 7
  have b8 := hblk.cell 8
  simp only [actC, List.getElem?_toArray, List.getElem?_cons_zero, List.getElem?_cons_succ] at b0 b1 b2 b3 b4 b5 b6 b7 b8
  obtain ⟨z, hz⟩ : ∃ z, z = (S.rootR xg xs xc).1 := ⟨_, rfl⟩
  rw [← hz] at C1 C2
  clear h hb1 hb2 hS1 hw hblk hz hcm
  unfold actC at hw1 ⊢
  (try unfold capV at C1 C2)
  go_enter Try.func12, Try.ntmps12
  go_wp2_with fail
  rw [← hw1, ← hbx]
  clear hw1 hbx
  go_wp2_with fail
  refine wp_region_held_drew (S := fun wx => wx.heap[bx]? = w1.heap[bx]?) (by kernel_rfl) rfl (fun hHeld => ?_)
  refine wpAnyH_take (i := 0) (v := ?_) rfl (by kernel_rfl) (by kernel_rfl) (by kernel_rfl) (fun _ _ _ h => h) (Or.inl ⟨by kernel_rfl, by (intro w' hSw; have q0 := (World.cell?_of_block (w := w1) (a := ⟨bx, 0, none⟩) hSw).trans b0; have q1 := (World.cell?_of_block (w := w1) (a := ⟨bx, 1, none⟩) hSw).trans b1; have q2 := (World.cell?_of_block (w := w1) (a := ⟨bx, 2, none⟩) hSw).trans b2; have q3 := (World.cell?_of_block (w := w1) (a := ⟨bx, 3, none⟩) hSw).trans b3; have q4 := (World.cell?_of_block (w := w1) (a := ⟨bx, 4, none⟩) hSw).trans b4; have q5 := (World.cell?_of_block (w := w1) (a := ⟨bx, 5, none⟩) hSw).trans b5; have q6 := (World.cell?_of_block (w := w1) (a := ⟨bx, 6, none⟩) hSw).trans b6; have q7 := (World.cell?_of_block (w := w1) (a := ⟨bx, 7, none⟩) hSw).trans b7; have q8 := (World.cell?_of_block (w := w1) (a := ⟨bx, 8, none⟩) hSw).trans b8; go_simp; first | done | (with_reducible rfl) | rfl)⟩) hHeld ?_
  (try simp only [Act.put, List.getElem_toArray, List.getElem_cons_zero, List.getElem_cons_succ, List.setIfInBounds_toArray, List.set_cons_zero, List.set_cons_succ])
  refine wpAnyH_take (i := 1) (v := ?_) rfl (by kernel_rfl) (by kernel_rfl) (by kernel_rfl) (fun _ _ _ h => h) (Or.inl ⟨by kernel_rfl, by (intro w' hSw; have q0 := (World.cell?_of_block (w := w1) (a := ⟨bx, 0, none⟩) hSw).trans b0; have q1 := (World.cell?_of_block (w := w1) (a := ⟨bx, 1, none⟩) hSw).trans b1; have q2 := (World.cell?_of_block (w := w1) (a := ⟨bx, 2, none⟩) hSw).trans b2; have q3 := (World.cell?_of_block (w := w1) (a := ⟨bx, 3, none⟩) hSw).trans b3; have q4 := (World.cell?_of_block (w := w1) (a := ⟨bx, 4, none⟩) hSw).trans b4; have q5 := (World.cell?_of_block (w := w1) (a := ⟨bx, 5, none⟩) hSw).trans b5; have q6 := (World.cell?_of_block (w := w1) (a := ⟨bx, 6, none⟩) hSw).trans b6; have q7 := (World.cell?_of_block (w := w1) (a := ⟨bx, 7, none⟩) hSw).trans b7; have q8 := (World.cell?_of_block (w := w1) (a := ⟨bx, 8, none⟩) hSw).trans b8; go_simp; first | done | (with_reducible rfl) | rfl)⟩) hHeld ?_
  (try simp only [Act.put, List.getElem_toArray, List.getElem_cons_zero, List.getElem_cons_succ, List.setIfInBounds_toArray, List.set_cons_zero, List.set_cons_succ])
  refine wpAnyH_take (i := 2) (v := ?_) rfl (by kernel_rfl) (by kernel_rfl) (by kernel_rfl) (fun _ _ _ h => h) (Or.inl ⟨by kernel_rfl, by (intro w' hSw; have q0 := (World.cell?_of_block (w := w1) (a := ⟨bx, 0, none⟩) hSw).trans b0; have q1 := (World.cell?_of_block (w := w1) (a := ⟨bx, 1, none⟩) hSw).trans b1; have q2 := (World.cell?_of_block (w := w1) (a := ⟨bx, 2, none⟩) hSw).trans b2; have q3 := (World.cell?_of_block (w := w1) (a := ⟨bx, 3, none⟩) hSw).trans b3; have q4 := (World.cell?_of_block (w := w1) (a := ⟨bx, 4, none⟩) hSw).trans b4; have q5 := (World.cell?_of_block (w := w1) (a := ⟨bx, 5, none⟩) hSw).trans b5; have q6 := (World.cell?_of_block (w := w1) (a := ⟨bx, 6, none⟩) hSw).trans b6; have q7 := (World.cell?_of_block (w := w1) (a := ⟨bx, 7, none⟩) hSw).trans b7; have q8 := (World.cell?_of_block (w := w1) (a := ⟨bx, 8, none⟩) hSw).trans b8; go_simp; first | done | (with_reducible rfl) | rfl)⟩) hHeld ?_
  (try simp only [Act.put, List.getElem_toArray, List.getElem_cons_zero, List.getElem_cons_succ, List.setIfInBounds_toArray, List.set_cons_zero, List.set_cons_succ])
  refine wpAnyH_take (i := 3) (v := ?_) rfl (by kernel_rfl) (by kernel_rfl) (by kernel_rfl) (fun _ _ _ h => h) (Or.inl ⟨by kernel_rfl, by (intro w' hSw; have q0 := (World.cell?_of_block (w := w1) (a := ⟨bx, 0, none⟩) hSw).trans b0; have q1 := (World.cell?_of_block (w := w1) (a := ⟨bx, 1, none⟩) hSw).trans b1; have q2 := (World.cell?_of_block (w := w1) (a := ⟨bx, 2, none⟩) hSw).trans b2; have q3 := (World.cell?_of_block (w := w1) (a := ⟨bx, 3, none⟩) hSw).trans b3; have q4 := (World.cell?_of_block (w := w1) (a := ⟨bx, 4, none⟩) hSw).trans b4; have q5 := (World.cell?_of_block (w := w1) (a := ⟨bx, 5, none⟩) hSw).trans b5; have q6 := (World.cell?_of_block (w := w1) (a := ⟨bx, 6, none⟩) hSw).trans b6; have q7 := (World.cell?_of_block (w := w1) (a := ⟨bx, 7, none⟩) hSw).trans b7; have q8 := (World.cell?_of_block (w := w1) (a := ⟨bx, 8, none⟩) hSw).trans b8; go_simp; first | done | (with_reducible rfl) | rfl)⟩) hHeld ?_
  (try simp only [Act.put, List.getElem_toArray, List.getElem_cons_zero, List.getElem_cons_succ, List.setIfInBounds_toArray, List.set_cons_zero, List.set_cons_succ])
  refine wpAnyH_take (i := 4) (v := ?_) rfl (by kernel_rfl) (by kernel_rfl) (by kernel_rfl) (fun _ _ _ h => h) (Or.inl ⟨by kernel_rfl, by (intro w' hSw; have q0 := (World.cell?_of_block (w := w1) (a := ⟨bx, 0, none⟩) hSw).trans b0; have q1 := (World.cell?_of_block (w := w1) (a := ⟨bx, 1, none⟩) hSw).trans b1; have q2 := (World.cell?_of_block (w := w1) (a := ⟨bx, 2, none⟩) hSw).trans b2; have q3 := (World.cell?_of_block (w := w1) (a := ⟨bx, 3, none⟩) hSw).trans b3; have q4 := (World.cell?_of_block (w := w1) (a := ⟨bx, 4, none⟩) hSw).trans b4; have q5 := (World.cell?_of_block (w := w1) (a := ⟨bx, 5, none⟩) hSw).trans b5; have q6 := (World.cell?_of_block (w := w1) (a := ⟨bx, 6, none⟩) hSw).trans b6; have q7 := (World.cell?_of_block (w := w1) (a := ⟨bx, 7, none⟩) hSw).trans b7; have q8 := (World.cell?_of_block (w := w1) (a := ⟨bx, 8, none⟩) hSw).trans b8; go_simp; first | done | (with_reducible rfl) | rfl)⟩) hHeld ?_
  (try simp only [Act.put, List.getElem_toArray, List.getElem_cons_zero, List.getElem_cons_succ, List.setIfInBounds_toArray, List.set_cons_zero, List.set_cons_succ])
  refine wpAnyH_take (i := 5) (v := ?_) rfl (by kernel_rfl) (by kernel_rfl) (by kernel_rfl) (fun _ _ _ h => h) (Or.inl ⟨by kernel_rfl, by (intro w' hSw; have q0 := (World.cell?_of_block (w := w1) (a := ⟨bx, 0, none⟩) hSw).trans b0; have q1 := (World.cell?_of_block (w := w1) (a := ⟨bx, 1, none⟩) hSw).trans b1; have q2 := (World.cell?_of_block (w := w1) (a := ⟨bx, 2, none⟩) hSw).trans b2; have q3 := (World.cell?_of_block (w := w1) (a := ⟨bx, 3, none⟩) hSw).trans b3; have q4 := (World.cell?_of_block (w := w1) (a := ⟨bx, 4, none⟩) hSw).trans b4; have q5 := (World.cell?_of_block (w := w1) (a := ⟨bx, 5, none⟩) hSw).trans b5; have q6 := (World.cell?_of_block (w := w1) (a := ⟨bx, 6, none⟩) hSw).trans b6; have q7 := (World.cell?_of_block (w := w1) (a := ⟨bx, 7, none⟩) hSw).trans b7; have q8 := (World.cell?_of_block (w := w1) (a := ⟨bx, 8, none⟩) hSw).trans b8; go_simp; first | done | (with_reducible rfl) | rfl)⟩) hHeld ?_
  (try simp only [Act.put, List.getElem_toArray, List.getElem_cons_zero, List.getElem_cons_succ, List.setIfInBounds_toArray, List.set_cons_zero, List.set_cons_succ])
  refine wpAnyH_take (i := 6) (v := ?_) rfl (by kernel_rfl) (by kernel_rfl) (by kernel_rfl) (fun _ _ _ h => h) (Or.inl ⟨by kernel_rfl, by (intro w' hSw; have q0 := (World.cell?_of_block (w := w1) (a := ⟨bx, 0, none⟩) hSw).trans b0; have q1 := (World.cell?_of_block (w := w1) (a := ⟨bx, 1, none⟩) hSw).trans b1; have q2 := (World.cell?_of_block (w := w1) (a := ⟨bx, 2, none⟩) hSw).trans b2; have q3 := (World.cell?_of_block (w := w1) (a := ⟨bx, 3, none⟩) hSw).trans b3; have q4 := (World.cell?_of_block (w := w1) (a := ⟨bx, 4, none⟩) hSw).trans b4; have q5 := (World.cell?_of_block (w := w1) (a := ⟨bx, 5, none⟩) hSw).trans b5; have q6 := (World.cell?_of_block (w := w1) (a := ⟨bx, 6, none⟩) hSw).trans b6; have q7 := (World.cell?_of_block (w := w1) (a := ⟨bx, 7, none⟩) hSw).trans b7; have q8 := (World.cell?_of_block (w := w1) (a := ⟨bx, 8, none⟩) hSw).trans b8; go_simp; first | done | (with_reducible rfl) | rfl)⟩) hHeld ?_
  (try simp only [Act.put, List.getElem_toArray, List.getElem_cons_zero, List.getElem_cons_succ, List.setIfInBounds_toArray, List.set_cons_zero, List.set_cons_succ])
  refine wpAnyH_take (i := 8) (v := ?_) rfl (by kernel_rfl) (by kernel_rfl) (by kernel_rfl) (fun _ _ _ h => h) (Or.inl ⟨by kernel_rfl, by (intro w' hSw; have q0 := (World.cell?_of_block (w := w1) (a := ⟨bx, 0, none⟩) hSw).trans b0; have q1 := (World.cell?_of_block (w := w1) (a := ⟨bx, 1, none⟩) hSw).trans b1; have q2 := (World.cell?_of_block (w := w1) (a := ⟨bx, 2, none⟩) hSw).trans b2; have q3 := (World.cell?_of_block (w := w1) (a := ⟨bx, 3, none⟩) hSw).trans b3; have q4 := (World.cell?_of_block (w := w1) (a := ⟨bx, 4, none⟩) hSw).trans b4; have q5 := (World.cell?_of_block (w := w1) (a := ⟨bx, 5, none⟩) hSw).trans b5; have q6 := (World.cell?_of_block (w := w1) (a := ⟨bx, 6, none⟩) hSw).trans b6; have q7 := (World.cell?_of_block (w := w1) (a := ⟨bx, 7, none⟩) hSw).trans b7; have q8 := (World.cell?_of_block (w := w1) (a := ⟨bx, 8, none⟩) hSw).trans b8; go_simp; first | done | (with_reducible rfl) | rfl)⟩) hHeld ?_
  (try simp only [Act.put, List.getElem_toArray, List.getElem_cons_zero, List.getElem_cons_succ, List.setIfInBounds_toArray, List.set_cons_zero, List.set_cons_succ])
  refine wpAnyH_take (i := 9) (v := ?_) rfl (by kernel_rfl) (by kernel_rfl) (by kernel_rfl) (fun _ _ _ h => h) (Or.inl ⟨by kernel_rfl, by (intro w' hSw; have q0 := (World.cell?_of_block (w := w1) (a := ⟨bx, 0, none⟩) hSw).trans b0; have q1 := (World.cell?_of_block (w := w1) (a := ⟨bx, 1, none⟩) hSw).trans b1; have q2 := (World.cell?_of_block (w := w1) (a := ⟨bx, 2, none⟩) hSw).trans b2; have q3 := (World.cell?_of_block (w := w1) (a := ⟨bx, 3, none⟩) hSw).trans b3; have q4 := (World.cell?_of_block (w := w1) (a := ⟨bx, 4, none⟩) hSw).trans b4; have q5 := (World.cell?_of_block (w := w1) (a := ⟨bx, 5, none⟩) hSw).trans b5; have q6 := (World.cell?_of_block (w := w1) (a := ⟨bx, 6, none⟩) hSw).trans b6; have q7 := (World.cell?_of_block (w := w1) (a := ⟨bx, 7, none⟩) hSw).trans b7; have q8 := (World.cell?_of_block (w := w1) (a := ⟨bx, 8, none⟩) hSw).trans b8; go_simp; first | done | (with_reducible rfl) | rfl)⟩) hHeld ?_
  (try simp only [Act.put, List.getElem_toArray, List.getElem_cons_zero, List.getElem_cons_succ, List.setIfInBounds_toArray, List.set_cons_zero, List.set_cons_succ])
  refine wpAnyH_take (i := 10) (v := ?_) rfl (by kernel_rfl) (by kernel_rfl) (by kernel_rfl) (fun _ _ _ h => h) (Or.inl ⟨by kernel_rfl, by (intro w' hSw; have q0 := (World.cell?_of_block (w := w1) (a := ⟨bx, 0, none⟩) hSw).trans b0; have q1 := (World.cell?_of_block (w := w1) (a := ⟨bx, 1, none⟩) hSw).trans b1; have q2 := (World.cell?_of_block (w := w1) (a := ⟨bx, 2, none⟩) hSw).trans b2; have q3 := (World.cell?_of_block (w := w1) (a := ⟨bx, 3, none⟩) hSw).trans b3; have q4 := (World.cell?_of_block (w := w1) (a := ⟨bx, 4, none⟩) hSw).trans b4; have q5 := (World.cell?_of_block (w := w1) (a := ⟨bx, 5, none⟩) hSw).trans b5; have q6 := (World.cell?_of_block (w := w1) (a := ⟨bx, 6, none⟩) hSw).trans b6; have q7 := (World.cell?_of_block (w := w1) (a := ⟨bx, 7, none⟩) hSw).trans b7; have q8 := (World.cell?_of_block (w := w1) (a := ⟨bx, 8, none⟩) hSw).trans b8; go_simp; first | done | (with_reducible rfl) | rfl)⟩) hHeld ?_
  (try simp only [Act.put, List.getElem_toArray, List.getElem_cons_zero, List.getElem_cons_succ, List.setIfInBounds_toArray, List.set_cons_zero, List.set_cons_succ])
  refine wpAnyH_take (i := 11) (v := ?_) rfl (by kernel_rfl) (by kernel_rfl) (by kernel_rfl) (fun _ _ _ h => h) (Or.inl ⟨by kernel_rfl, by (intro w' hSw; have q0 := (World.cell?_of_block (w := w1) (a := ⟨bx, 0, none⟩) hSw).trans b0; have q1 := (World.cell?_of_block (w := w1) (a := ⟨bx, 1, none⟩) hSw).trans b1; have q2 := (World.cell?_of_block (w := w1) (a := ⟨bx, 2, none⟩) hSw).trans b2; have q3 := (World.cell?_of_block (w := w1) (a := ⟨bx, 3, none⟩) hSw).trans b3; have q4 := (World.cell?_of_block (w := w1) (a := ⟨bx, 4, none⟩) hSw).trans b4; have q5 := (World.cell?_of_block (w := w1) (a := ⟨bx, 5, none⟩) hSw).trans b5; have q6 := (World.cell?_of_block (w := w1) (a := ⟨bx, 6, none⟩) hSw).trans b6; have q7 := (World.cell?_of_block (w := w1) (a := ⟨bx, 7, none⟩) hSw).trans b7; have q8 := (World.cell?_of_block (w := w1) (a := ⟨bx, 8, none⟩) hSw).trans b8; go_simp; first | done | (with_reducible rfl) | rfl)⟩) hHeld ?_
  (try simp only [Act.put, List.getElem_toArray, List.getElem_cons_zero, List.getElem_cons_succ, List.setIfInBounds_toArray, List.set_cons_zero, List.set_cons_succ])
  refine wpAnyH_take (i := 12) (v := ?_) rfl (by kernel_rfl) (by kernel_rfl) (by kernel_rfl) (fun _ _ _ h => h) (Or.inl ⟨by kernel_rfl, by (intro w' hSw; have q0 := (World.cell?_of_block (w := w1) (a := ⟨bx, 0, none⟩) hSw).trans b0; have q1 := (World.cell?_of_block (w := w1) (a := ⟨bx, 1, none⟩) hSw).trans b1; have q2 := (World.cell?_of_block (w := w1) (a := ⟨bx, 2, none⟩) hSw).trans b2; have q3 := (World.cell?_of_block (w := w1) (a := ⟨bx, 3, none⟩) hSw).trans b3; have q4 := (World.cell?_of_block (w := w1) (a := ⟨bx, 4, none⟩) hSw).trans b4; have q5 := (World.cell?_of_block (w := w1) (a := ⟨bx, 5, none⟩) hSw).trans b5; have q6 := (World.cell?_of_block (w := w1) (a := ⟨bx, 6, none⟩) hSw).trans b6; have q7 := (World.cell?_of_block (w := w1) (a := ⟨bx, 7, none⟩) hSw).trans b7; have q8 := (World.cell?_of_block (w := w1) (a := ⟨bx, 8, none⟩) hSw).trans b8; go_simp; first | done | (with_reducible rfl) | rfl)⟩) hHeld ?_
  (try simp only [Act.put, List.getElem_toArray, List.getElem_cons_zero, List.getElem_cons_succ, List.setIfInBounds_toArray, List.set_cons_zero, List.set_cons_succ])
  refine wpAnyH_take (i := 13) (v := ?_) rfl (by kernel_rfl) (by kernel_rfl) (by kernel_rfl) (fun _ _ _ h => h) (Or.inl ⟨by kernel_rfl, by (intro w' hSw; have q0 := (World.cell?_of_block (w := w1) (a := ⟨bx, 0, none⟩) hSw).trans b0; have q1 := (World.cell?_of_block (w := w1) (a := ⟨bx, 1, none⟩) hSw).trans b1; have q2 := (World.cell?_of_block (w := w1) (a := ⟨bx, 2, none⟩) hSw).trans b2; have q3 := (World.cell?_of_block (w := w1) (a := ⟨bx, 3, none⟩) hSw).trans b3; have q4 := (World.cell?_of_block (w := w1) (a := ⟨bx, 4, none⟩) hSw).trans b4; have q5 := (World.cell?_of_block (w := w1) (a := ⟨bx, 5, none⟩) hSw).trans b5; have q6 := (World.cell?_of_block (w := w1) (a := ⟨bx, 6, none⟩) hSw).trans b6; have q7 := (World.cell?_of_block (w := w1) (a := ⟨bx, 7, none⟩) hSw).trans b7; have q8 := (World.cell?_of_block (w := w1) (a := ⟨bx, 8, none⟩) hSw).trans b8; go_simp; first | done | (with_reducible rfl) | rfl)⟩) hHeld ?_
  (try simp only [Act.put, List.getElem_toArray, List.getElem_cons_zero, List.getElem_cons_succ, List.setIfInBounds_toArray, List.set_cons_zero, List.set_cons_succ])
  refine wpAnyH_take (i := 14) (v := ?_) rfl (by kernel_rfl) (by kernel_rfl) (by kernel_rfl) (fun _ _ _ h => h) (Or.inl ⟨by kernel_rfl, by (intro w' hSw; have q0 := (World.cell?_of_block (w := w1) (a := ⟨bx, 0, none⟩) hSw).trans b0; have q1 := (World.cell?_of_block (w := w1) (a := ⟨bx, 1, none⟩) hSw).trans b1; have q2 := (World.cell?_of_block (w := w1) (a := ⟨bx, 2, none⟩) hSw).trans b2; have q3 := (World.cell?_of_block (w := w1) (a := ⟨bx, 3, none⟩) hSw).trans b3; have q4 := (World.cell?_of_block (w := w1) (a := ⟨bx, 4, none⟩) hSw).trans b4; have q5 := (World.cell?_of_block (w := w1) (a := ⟨bx, 5, none⟩) hSw).trans b5; have q6 := (World.cell?_of_block (w := w1) (a := ⟨bx, 6, none⟩) hSw).trans b6; have q7 := (World.cell?_of_block (w := w1) (a := ⟨bx, 7, none⟩) hSw).trans b7; have q8 := (World.cell?_of_block (w := w1) (a := ⟨bx, 8, none⟩) hSw).trans b8; go_simp; first | done | (with_reducible rfl) | rfl)⟩) hHeld ?_
  (try simp only [Act.put, List.getElem_toArray, List.getElem_cons_zero, List.getElem_cons_succ, List.setIfInBounds_toArray, List.set_cons_zero, List.set_cons_succ])
  refine wpAnyH_ready (rs := [7]) (by kernel_rfl) (by simp) ?_
  refine AllReadyH.cons rfl (fun K hK => ?_) AllReadyH.nil
  go_simp
  go_at_call 29; refine C1.mono ?_; rintro e w2 ⟨rfl, hsp⟩; (have hX2 : w2.heap[bx]? = w1.heap[bx]? := hsp.block (by exact BX.out.2.2) (fun hk => BX.out.1 _ hk rfl)); (have C2w := C2.out w2 (HJ.out.rf_behind H2.out hsp)); (have HSP := Lib.hid hsp); clear hsp C1
  try dsimp only
  clear hHeld
  refine hK.out _ _ hX2 (fun hHeld => ?_)
  clear hK K
  (try simp only [Act.put, List.getElem_toArray, List.getElem_cons_zero, List.getElem_cons_succ, List.setIfInBounds_toArray, List.set_cons_zero, List.set_cons_succ])
  refine wpAnyH_ready (rs := [15]) (by kernel_rfl) (by simp) ?_
  refine AllReadyH.cons rfl (fun K hK => ?_) AllReadyH.nil
  go_simp
  go_at_call 39; refine C2w.mono ?_; rintro e w3 ⟨rfl, hrf⟩; (have hX3 : w3.heap[bx]? = w1.heap[bx]? := (hrf.block (by have := HSP.out.size; have h9 := BX.out.2.2; exact Nat.lt_of_lt_of_le h9 this) (fun hk => BX.out.2.1 hk.symm)).trans hX2); (have HRF := Lib.hid hrf); clear hrf C2w
  try dsimp only
  clear hHeld
  refine hK.out _ _ hX3 (fun hHeld => ?_)
  clear hK K
  (try simp only [Act.put, List.getElem_toArray, List.getElem_cons_zero, List.getElem_cons_succ, List.setIfInBounds_toArray, List.set_cons_zero, List.set_cons_succ])
  refine wpAnyH_take (i := 16) (v := .bool true) rfl (by kernel_rfl) (by kernel_rfl) (by kernel_rfl) (fun _ _ _ h => h) (Or.inl ⟨by kernel_rfl, by (intro w' hSw; have q0 := (World.cell?_of_block (w := w1) (a := ⟨bx, 0, none⟩) hSw).trans b0; have q1 := (World.cell?_of_block (w := w1) (a := ⟨bx, 1, none⟩) hSw).trans b1; have q2 := (World.cell?_of_block (w := w1) (a := ⟨bx, 2, none⟩) hSw).trans b2; have q3 := (World.cell?_of_block (w := w1) (a := ⟨bx, 3, none⟩) hSw).trans b3; have q4 := (World.cell?_of_block (w := w1) (a := ⟨bx, 4, none⟩) hSw).trans b4; have q5 := (World.cell?_of_block (w := w1) (a := ⟨bx, 5, none⟩) hSw).trans b5; have q6 := (World.cell?_of_block (w := w1) (a := ⟨bx, 6, none⟩) hSw).trans b6; have q7 := (World.cell?_of_block (w := w1) (a := ⟨bx, 7, none⟩) hSw).trans b7; have q8 := (World.cell?_of_block (w := w1) (a := ⟨bx, 8, none⟩) hSw).trans b8; go_simp; first | done | (with_reducible rfl) | rfl)⟩) hHeld ?_
  (try simp only [Act.put, List.getElem_toArray, List.getElem_cons_zero, List.getElem_cons_succ, List.setIfInBounds_toArray, List.set_cons_zero, List.set_cons_succ])
  refine wpAnyH_take (i := 17) (v := ?_) rfl (by kernel_rfl) (by kernel_rfl) (by kernel_rfl) (fun _ _ _ h => h) (Or.inl ⟨by kernel_rfl, by (intro w' hSw; have q0 := (World.cell?_of_block (w := w1) (a := ⟨bx, 0, none⟩) hSw).trans b0; have q1 := (World.cell?_of_block (w := w1) (a := ⟨bx, 1, none⟩) hSw).trans b1; have q2 := (World.cell?_of_block (w := w1) (a := ⟨bx, 2, none⟩) hSw).trans b2; have q3 := (World.cell?_of_block (w := w1) (a := ⟨bx, 3, none⟩) hSw).trans b3; have q4 := (World.cell?_of_block (w := w1) (a := ⟨bx, 4, none⟩) hSw).trans b4; have q5 := (World.cell?_of_block (w := w1) (a := ⟨bx, 5, none⟩) hSw).trans b5; have q6 := (World.cell?_of_block (w := w1) (a := ⟨bx, 6, none⟩) hSw).trans b6; have q7 := (World.cell?_of_block (w := w1) (a := ⟨bx, 7, none⟩) hSw).trans b7; have q8 := (World.cell?_of_block (w := w1) (a := ⟨bx, 8, none⟩) hSw).trans b8; go_simp; first | done | (with_reducible rfl) | rfl)⟩) hHeld ?_
  (try simp only [Act.put, List.getElem_toArray, List.getElem_cons_zero, List.getElem_cons_succ, List.setIfInBounds_toArray, List.set_cons_zero, List.set_cons_succ])
  refine wpAnyH_done (by kernel_rfl) ?_ _
  clear b0 b1 b2 b3 b4 b5 b6 b7 b8
  go_wp2_with fail
  go_ret
  exact HJ.out.fin H2.out HSP.out HRF.out HBO.out
set_option maxRecDepth 100000 in
set_option maxHeartbeats 2000000 in
theorem do_2 {w : World} {A : Ad} {R : Rd} {S : Sp} (h : Jt w A R S) (hcm : S.came ≤ 1000000) (a : Ac) (hw : a.wf) (hk : a.k = 2) :
    Calls Try.prog 12 #[.pointer (some ⟨A.b, 0, none⟩), .pointer (some ⟨R.b, 0, none⟩), .agg (actC a)] w (DoPost S A R w) := by
  obtain ⟨xk, xg, xs, xt, xu, xc⟩ := a
  dsimp only at hk
  subst hk
  obtain ⟨w1, hw1⟩ : ∃ w1, w1 = w.alloc (.cells (actC ⟨2, xg, xs, xt, xu, xc⟩) 38) := ⟨_, rfl⟩
  have hb1 : Below w.heap.size w w1 := by rw [hw1]; exact (Below.refl _ _).alloc (Nat.le_refl _) _
  have hblk : Blk w1 w.heap.size 38 (actC ⟨2, xg, xs, xt, xu, xc⟩) := by rw [hw1]; exact Blk.new w _ _
  obtain ⟨bx, hbx⟩ : ∃ bx, bx = w.heap.size := ⟨_, rfl⟩
  rw [← hbx] at hblk
  have hb2 : Below w.heap.size w (w1.drewN 1) := hb1.trans ((below_drewN_ _ _ _).mono (Nat.le_refl _))
  have hS1 := h.sp.below hb2
  have BX := Lib.hid (show (∀ k, A.own k → k ≠ bx) ∧ R.b ≠ bx ∧ bx < w1.heap.size from ⟨fun k hk e => by have := h.sp.lt hk; omega, by have := h.rf.head.lt; omega, hblk.lt⟩)
  have C1 := derive_c hS1 h.lim h.j xg xs xt xu xc hw.1 hw.2
  have C2 := Lib.hid (fun W (hR : RfAt W R S) => rfDerive_c hR h.lim h.j hcm xg xs xt xu xc hw.2)
  have HBO := Lib.hid (both_derive h.j h.lim xg xs xt xu xc hw.2)
  have HJ := Lib.hid h
  have H2 := Lib.hid hb2
  have b0 := hblk.cell 0
  have b1 := hblk.cell 1
  have b2 := hblk.cell 2
  have b3 := hblk.cell 3
  have b4 := hblk.cell 4
  have b5 := hblk.cell 5
  have b6 := hblk.cell 6
  have b7 := hblk.cell 7
  have b8 := hblk.cell 8
  simp only [actC, List.getElem?_toArray, List.getElem?_cons_zero, List.getElem?_cons_succ] at b0 b1 b2 b3 b4 b5 b6 b7 b8
  obtain ⟨z, hz⟩ : ∃ z, z = (S.deriveR xg xs xt xu xc).1 := ⟨_, rfl⟩
  rw [← hz] at C1 C2
  clear h hb1 hb2 hS1 hw hblk hz hcm
  unfold actC at hw1 ⊢
  (try unfold capV at C1 C2)
  go_enter Try.func12, Try.ntmps12
  go_wp2_with fail
  rw [← hw1, ← hbx]
  clear hw1 hbx
  go_wp2_with fail
  refine wp_region_held_drew (S := fun wx => wx.heap[bx]? = w1.heap[bx]?) (by kernel_rfl) rfl (fun hHeld => ?_)
  refine wpAnyH_take (i := 0) (v := ?_) rfl (by kernel_rfl) (by kernel_rfl) (by kernel_rfl) (fun _ _ _ h => h) (Or.inl ⟨by kernel_rfl, by (intro w' hSw; have q0 := (World.cell?_of_block (w := w1) (a := ⟨bx, 0, none⟩) hSw).trans b0; have q1 := (World.cell?_of_block (w := w1) (a := ⟨bx, 1, none⟩) hSw).trans b1; have q2 := (World.cell?_of_block (w := w1) (a := ⟨bx, 2, none⟩) hSw).trans b2; have q3 := (World.cell?_of_block (w := w1) (a := ⟨bx, 3, none⟩) hSw).trans b3; have q4 := (World.cell?_of_block (w := w1) (a := ⟨bx, 4, none⟩) hSw).trans b4; have q5 := (World.cell?_of_block (w := w1) (a := ⟨bx, 5, none⟩) hSw).trans b5; have q6 := (World.cell?_of_block (w := w1) (a := ⟨bx, 6, none⟩) hSw).trans b6; have q7 := (World.cell?_of_block (w := w1) (a := ⟨bx, 7, none⟩) hSw).trans b7; have q8 := (World.cell?_of_block (w := w1) (a := ⟨bx, 8, none⟩) hSw).trans b8; go_simp; first | done | (with_reducible rfl) | rfl)⟩) hHeld ?_
  (try simp only [Act.put, List.getElem_toArray, List.getElem_cons_zero, List.getElem_cons_succ, List.setIfInBounds_toArray, List.set_cons_zero, List.set_cons_succ])
  refine wpAnyH_take (i := 1) (v := ?_) rfl (by kernel_rfl) (by kernel_rfl) (by kernel_rfl) (fun _ _ _ h => h) (Or.inl ⟨by kernel_rfl, by (intro w' hSw; have q0 := (World.cell?_of_block (w := w1) (a := ⟨bx, 0, none⟩) hSw).trans b0; have q1 := (World.cell?_of_block (w := w1) (a := ⟨bx, 1, none⟩) hSw).trans b1; have q2 := (World.cell?_of_block (w := w1) (a := ⟨bx, 2, none⟩) hSw).trans b2; have q3 := (World.cell?_of_block (w := w1) (a := ⟨bx, 3, none⟩) hSw).trans b3; have q4 := (World.cell?_of_block (w := w1) (a := ⟨bx, 4, none⟩) hSw).trans b4; have q5 := (World.cell?_of_block (w := w1) (a := ⟨bx, 5, none⟩) hSw).trans b5; have q6 := (World.cell?_of_block (w := w1) (a := ⟨bx, 6, none⟩) hSw).trans b6; have q7 := (World.cell?_of_block (w := w1) (a := ⟨bx, 7, none⟩) hSw).trans b7; have q8 := (World.cell?_of_block (w := w1) (a := ⟨bx, 8, none⟩) hSw).trans b8; go_simp; first | done | (with_reducible rfl) | rfl)⟩) hHeld ?_
  (try simp only [Act.put, List.getElem_toArray, List.getElem_cons_zero, List.getElem_cons_succ, List.setIfInBounds_toArray, List.set_cons_zero, List.set_cons_succ])
  refine wpAnyH_take (i := 2) (v := ?_) rfl (by kernel_rfl) (by kernel_rfl) (by kernel_rfl) (fun _ _ _ h => h) (Or.inl ⟨by kernel_rfl, by (intro w' hSw; have q0 := (World.cell?_of_block (w := w1) (a := ⟨bx, 0, none⟩) hSw).trans b0; have q1 := (World.cell?_of_block (w := w1) (a := ⟨bx, 1, none⟩) hSw).trans b1; have q2 := (World.cell?_of_block (w := w1) (a := ⟨bx, 2, none⟩) hSw).trans b2; have q3 := (World.cell?_of_block (w := w1) (a := ⟨bx, 3, none⟩) hSw).trans b3; have q4 := (World.cell?_of_block (w := w1) (a := ⟨bx, 4, none⟩) hSw).trans b4; have q5 := (World.cell?_of_block (w := w1) (a := ⟨bx, 5, none⟩) hSw).trans b5; have q6 := (World.cell?_of_block (w := w1) (a := ⟨bx, 6, none⟩) hSw).trans b6; have q7 := (World.cell?_of_block (w := w1) (a := ⟨bx, 7, none⟩) hSw).trans b7; have q8 := (World.cell?_of_block (w := w1) (a := ⟨bx, 8, none⟩) hSw).trans b8; go_simp; first | done | (with_reducible rfl) | rfl)⟩) hHeld ?_
  (try simp only [Act.put, List.getElem_toArray, List.getElem_cons_zero, List.getElem_cons_succ, List.setIfInBounds_toArray, List.set_cons_zero, List.set_cons_succ])
  refine wpAnyH_take (i := 3) (v := ?_) rfl (by kernel_rfl) (by kernel_rfl) (by kernel_rfl) (fun _ _ _ h => h) (Or.inl ⟨by kernel_rfl, by (intro w' hSw; have q0 := (World.cell?_of_block (w := w1) (a := ⟨bx, 0, none⟩) hSw).trans b0; have q1 := (World.cell?_of_block (w := w1) (a := ⟨bx, 1, none⟩) hSw).trans b1; have q2 := (World.cell?_of_block (w := w1) (a := ⟨bx, 2, none⟩) hSw).trans b2; have q3 := (World.cell?_of_block (w := w1) (a := ⟨bx, 3, none⟩) hSw).trans b3; have q4 := (World.cell?_of_block (w := w1) (a := ⟨bx, 4, none⟩) hSw).trans b4; have q5 := (World.cell?_of_block (w := w1) (a := ⟨bx, 5, none⟩) hSw).trans b5; have q6 := (World.cell?_of_block (w := w1) (a := ⟨bx, 6, none⟩) hSw).trans b6; have q7 := (World.cell?_of_block (w := w1) (a := ⟨bx, 7, none⟩) hSw).trans b7; have q8 := (World.cell?_of_block (w := w1) (a := ⟨bx, 8, none⟩) hSw).trans b8; go_simp; first | done | (with_reducible rfl) | rfl)⟩) hHeld ?_
  (try simp only [Act.put, List.getElem_toArray, List.getElem_cons_zero, List.getElem_cons_succ, List.setIfInBounds_toArray, List.set_cons_zero, List.set_cons_succ])
  refine wpAnyH_take (i := 4) (v := ?_) rfl (by kernel_rfl) (by kernel_rfl) (by kernel_rfl) (fun _ _ _ h => h) (Or.inl ⟨by kernel_rfl, by (intro w' hSw; have q0 := (World.cell?_of_block (w := w1) (a := ⟨bx, 0, none⟩) hSw).trans b0; have q1 := (World.cell?_of_block (w := w1) (a := ⟨bx, 1, none⟩) hSw).trans b1; have q2 := (World.cell?_of_block (w := w1) (a := ⟨bx, 2, none⟩) hSw).trans b2; have q3 := (World.cell?_of_block (w := w1) (a := ⟨bx, 3, none⟩) hSw).trans b3; have q4 := (World.cell?_of_block (w := w1) (a := ⟨bx, 4, none⟩) hSw).trans b4; have q5 := (World.cell?_of_block (w := w1) (a := ⟨bx, 5, none⟩) hSw).trans b5; have q6 := (World.cell?_of_block (w := w1) (a := ⟨bx, 6, none⟩) hSw).trans b6; have q7 := (World.cell?_of_block (w := w1) (a := ⟨bx, 7, none⟩) hSw).trans b7; have q8 := (World.cell?_of_block (w := w1) (a := ⟨bx, 8, none⟩) hSw).trans b8; go_simp; first | done | (with_reducible rfl) | rfl)⟩) hHeld ?_
  (try simp only [Act.put, List.getElem_toArray, List.getElem_cons_zero, List.getElem_cons_succ, List.setIfInBounds_toArray, List.set_cons_zero, List.set_cons_succ])
  refine wpAnyH_take (i := 5) (v := ?_) rfl (by kernel_rfl) (by kernel_rfl) (by kernel_rfl) (fun _ _ _ h => h) (Or.inl ⟨by kernel_rfl, by (intro w' hSw; have q0 := (World.cell?_of_block (w := w1) (a := ⟨bx, 0, none⟩) hSw).trans b0; have q1 := (World.cell?_of_block (w := w1) (a := ⟨bx, 1, none⟩) hSw).trans b1; have q2 := (World.cell?_of_block (w := w1) (a := ⟨bx, 2, none⟩) hSw).trans b2; have q3 := (World.cell?_of_block (w := w1) (a := ⟨bx, 3, none⟩) hSw).trans b3; have q4 := (World.cell?_of_block (w := w1) (a := ⟨bx, 4, none⟩) hSw).trans b4; have q5 := (World.cell?_of_block (w := w1) (a := ⟨bx, 5, none⟩) hSw).trans b5; have q6 := (World.cell?_of_block (w := w1) (a := ⟨bx, 6, none⟩) hSw).trans b6; have q7 := (World.cell?_of_block (w := w1) (a := ⟨bx, 7, none⟩) hSw).trans b7; have q8 := (World.cell?_of_block (w := w1) (a := ⟨bx, 8, none⟩) hSw).trans b8; go_simp; first | done | (with_reducible rfl) | rfl)⟩) hHeld ?_
  (try simp only [Act.put, List.getElem_toArray, List.getElem_cons_zero, List.getElem_cons_succ, List.setIfInBounds_toArray, List.set_cons_zero, List.set_cons_succ])
  refine wpAnyH_take (i := 6) (v := ?_) rfl (by kernel_rfl) (by kernel_rfl) (by kernel_rfl) (fun _ _ _ h => h) (Or.inl ⟨by kernel_rfl, by (intro w' hSw; have q0 := (World.cell?_of_block (w := w1) (a := ⟨bx, 0, none⟩) hSw).trans b0; have q1 := (World.cell?_of_block (w := w1) (a := ⟨bx, 1, none⟩) hSw).trans b1; have q2 := (World.cell?_of_block (w := w1) (a := ⟨bx, 2, none⟩) hSw).trans b2; have q3 := (World.cell?_of_block (w := w1) (a := ⟨bx, 3, none⟩) hSw).trans b3; have q4 := (World.cell?_of_block (w := w1) (a := ⟨bx, 4, none⟩) hSw).trans b4; have q5 := (World.cell?_of_block (w := w1) (a := ⟨bx, 5, none⟩) hSw).trans b5; have q6 := (World.cell?_of_block (w := w1) (a := ⟨bx, 6, none⟩) hSw).trans b6; have q7 := (World.cell?_of_block (w := w1) (a := ⟨bx, 7, none⟩) hSw).trans b7; have q8 := (World.cell?_of_block (w := w1) (a := ⟨bx, 8, none⟩) hSw).trans b8; go_simp; first | done | (with_reducible rfl) | rfl)⟩) hHeld ?_
  (try simp only [Act.put, List.getElem_toArray, List.getElem_cons_zero, List.getElem_cons_succ, List.setIfInBounds_toArray, List.set_cons_zero, List.set_cons_succ])
  refine wpAnyH_take (i := 7) (v := ?_) rfl (by kernel_rfl) (by kernel_rfl) (by kernel_rfl) (fun _ _ _ h => h) (Or.inl ⟨by kernel_rfl, by (intro w' hSw; have q0 := (World.cell?_of_block (w := w1) (a := ⟨bx, 0, none⟩) hSw).trans b0; have q1 := (World.cell?_of_block (w := w1) (a := ⟨bx, 1, none⟩) hSw).trans b1; have q2 := (World.cell?_of_block (w := w1) (a := ⟨bx, 2, none⟩) hSw).trans b2; have q3 := (World.cell?_of_block (w := w1) (a := ⟨bx, 3, none⟩) hSw).trans b3; have q4 := (World.cell?_of_block (w := w1) (a := ⟨bx, 4, none⟩) hSw).trans b4; have q5 := (World.cell?_of_block (w := w1) (a := ⟨bx, 5, none⟩) hSw).trans b5; have q6 := (World.cell?_of_block (w := w1) (a := ⟨bx, 6, none⟩) hSw).trans b6; have q7 := (World.cell?_of_block (w := w1) (a := ⟨bx, 7, none⟩) hSw).trans b7; have q8 := (World.cell?_of_block (w := w1) (a := ⟨bx, 8, none⟩) hSw).trans b8; go_simp; first | done | (with_reducible rfl) | rfl)⟩) hHeld ?_
  (try simp only [Act.put, List.getElem_toArray, List.getElem_cons_zero, List.getElem_cons_succ, List.setIfInBounds_toArray, List.set_cons_zero, List.set_cons_succ])
  refine wpAnyH_take (i := 8) (v := ?_) rfl (by kernel_rfl) (by kernel_rfl) (by kernel_rfl) (fun _ _ _ h => h) (Or.inl ⟨by kernel_rfl, by (intro w' hSw; have q0 := (World.cell?_of_block (w := w1) (a := ⟨bx, 0, none⟩) hSw).trans b0; have q1 := (World.cell?_of_block (w := w1) (a := ⟨bx, 1, none⟩) hSw).trans b1; have q2 := (World.cell?_of_block (w := w1) (a := ⟨bx, 2, none⟩) hSw).trans b2; have q3 := (World.cell?_of_block (w := w1) (a := ⟨bx, 3, none⟩) hSw).trans b3; have q4 := (World.cell?_of_block (w := w1) (a := ⟨bx, 4, none⟩) hSw).trans b4; have q5 := (World.cell?_of_block (w := w1) (a := ⟨bx, 5, none⟩) hSw).trans b5; have q6 := (World.cell?_of_block (w := w1) (a := ⟨bx, 6, none⟩) hSw).trans b6; have q7 := (World.cell?_of_block (w := w1) (a := ⟨bx, 7, none⟩) hSw).trans b7; have q8 := (World.cell?_of_block (w := w1) (a := ⟨bx, 8, none⟩) hSw).trans b8; go_simp; first | done | (with_reducible rfl) | rfl)⟩) hHeld ?_
  (try simp only [Act.put, List.getElem_toArray, List.getElem_cons_zero, List.getElem_cons_succ, List.setIfInBounds_toArray, List.set_cons_zero, List.set_cons_succ])
  refine wpAnyH_take (i := 9) (v := ?_) rfl (by kernel_rfl) (by kernel_rfl) (by kernel_rfl) (fun _ _ _ h => h) (Or.inl ⟨by kernel_rfl, by (intro w' hSw; have q0 := (World.cell?_of_block (w := w1) (a := ⟨bx, 0, none⟩) hSw).trans b0; have q1 := (World.cell?_of_block (w := w1) (a := ⟨bx, 1, none⟩) hSw).trans b1; have q2 := (World.cell?_of_block (w := w1) (a := ⟨bx, 2, none⟩) hSw).trans b2; have q3 := (World.cell?_of_block (w := w1) (a := ⟨bx, 3, none⟩) hSw).trans b3; have q4 := (World.cell?_of_block (w := w1) (a := ⟨bx, 4, none⟩) hSw).trans b4; have q5 := (World.cell?_of_block (w := w1) (a := ⟨bx, 5, none⟩) hSw).trans b5; have q6 := (World.cell?_of_block (w := w1) (a := ⟨bx, 6, none⟩) hSw).trans b6; have q7 := (World.cell?_of_block (w := w1) (a := ⟨bx, 7, none⟩) hSw).trans b7; have q8 := (World.cell?_of_block (w := w1) (a := ⟨bx, 8, none⟩) hSw).trans b8; go_simp; first | done | (with_reducible rfl) | rfl)⟩) hHeld ?_
  (try simp only [Act.put, List.getElem_toArray, List.getElem_cons_zero, List.getElem_cons_succ, List.setIfInBounds_toArray, List.set_cons_zero, List.set_cons_succ])
  refine wpAnyH_take (i := 10) (v := ?_) rfl (by kernel_rfl) (by kernel_rfl) (by kernel_rfl) (fun _ _ _ h => h) (Or.inl ⟨by kernel_rfl, by (intro w' hSw; have q0 := (World.cell?_of_block (w := w1) (a := ⟨bx, 0, none⟩) hSw).trans b0; have q1 := (World.cell?_of_block (w := w1) (a := ⟨bx, 1, none⟩) hSw).trans b1; have q2 := (World.cell?_of_block (w := w1) (a := ⟨bx, 2, none⟩) hSw).trans b2; have q3 := (World.cell?_of_block (w := w1) (a := ⟨bx, 3, none⟩) hSw).trans b3; have q4 := (World.cell?_of_block (w := w1) (a := ⟨bx, 4, none⟩) hSw).trans b4; have q5 := (World.cell?_of_block (w := w1) (a := ⟨bx, 5, none⟩) hSw).trans b5; have q6 := (World.cell?_of_block (w := w1) (a := ⟨bx, 6, none⟩) hSw).trans b6; have q7 := (World.cell?_of_block (w := w1) (a := ⟨bx, 7, none⟩) hSw).trans b7; have q8 := (World.cell?_of_block (w := w1) (a := ⟨bx, 8, none⟩) hSw).trans b8; go_simp; first | done | (with_reducible rfl) | rfl)⟩) hHeld ?_
  (try simp only [Act.put, List.getElem_toArray, List.getElem_cons_zero, List.getElem_cons_succ, List.setIfInBounds_toArray, List.set_cons_zero, List.set_cons_succ])
  refine wpAnyH_take (i := 12) (v := ?_) rfl (by kernel_rfl) (by kernel_rfl) (by kernel_rfl) (fun _ _ _ h => h) (Or.inl ⟨by kernel_rfl, by (intro w' hSw; have q0 := (World.cell?_of_block (w := w1) (a := ⟨bx, 0, none⟩) hSw).trans b0; have q1 := (World.cell?_of_block (w := w1) (a := ⟨bx, 1, none⟩) hSw).trans b1; have q2 := (World.cell?_of_block (w := w1) (a := ⟨bx, 2, none⟩) hSw).trans b2; have q3 := (World.cell?_of_block (w := w1) (a := ⟨bx, 3, none⟩) hSw).trans b3; have q4 := (World.cell?_of_block (w := w1) (a := ⟨bx, 4, none⟩) hSw).trans b4; have q5 := (World.cell?_of_block (w := w1) (a := ⟨bx, 5, none⟩) hSw).trans b5; have q6 := (World.cell?_of_block (w := w1) (a := ⟨bx, 6, none⟩) hSw).trans b6; have q7 := (World.cell?_of_block (w := w1) (a := ⟨bx, 7, none⟩) hSw).trans b7; have q8 := (World.cell?_of_block (w := w1) (a := ⟨bx, 8, none⟩) hSw).trans b8; go_simp; first | done | (with_reducible rfl) | rfl)⟩) hHeld ?_
  (try simp only [Act.put, List.getElem_toArray, List.getElem_cons_zero, List.getElem_cons_succ, List.setIfInBounds_toArray, List.set_cons_zero, List.set_cons_succ])
  refine wpAnyH_take (i := 13) (v := ?_) rfl (by kernel_rfl) (by kernel_rfl) (by kernel_rfl) (fun _ _ _ h => h) (Or.inl ⟨by kernel_rfl, by (intro w' hSw; have q0 := (World.cell?_of_block (w := w1) (a := ⟨bx, 0, none⟩) hSw).trans b0; have q1 := (World.cell?_of_block (w := w1) (a := ⟨bx, 1, none⟩) hSw).trans b1; have q2 := (World.cell?_of_block (w := w1) (a := ⟨bx, 2, none⟩) hSw).trans b2; have q3 := (World.cell?_of_block (w := w1) (a := ⟨bx, 3, none⟩) hSw).trans b3; have q4 := (World.cell?_of_block (w := w1) (a := ⟨bx, 4, none⟩) hSw).trans b4; have q5 := (World.cell?_of_block (w := w1) (a := ⟨bx, 5, none⟩) hSw).trans b5; have q6 := (World.cell?_of_block (w := w1) (a := ⟨bx, 6, none⟩) hSw).trans b6; have q7 := (World.cell?_of_block (w := w1) (a := ⟨bx, 7, none⟩) hSw).trans b7; have q8 := (World.cell?_of_block (w := w1) (a := ⟨bx, 8, none⟩) hSw).trans b8; go_simp; first | done | (with_reducible rfl) | rfl)⟩) hHeld ?_
  (try simp only [Act.put, List.getElem_toArray, List.getElem_cons_zero, List.getElem_cons_succ, List.setIfInBounds_toArray, List.set_cons_zero, List.set_cons_succ])
  refine wpAnyH_take (i := 14) (v := ?_) rfl (by kernel_rfl) (by kernel_rfl) (by kernel_rfl) (fun _ _ _ h => h) (Or.inl ⟨by kernel_rfl, by (intro w' hSw; have q0 := (World.cell?_of_block (w := w1) (a := ⟨bx, 0, none⟩) hSw).trans b0; have q1 := (World.cell?_of_block (w := w1) (a := ⟨bx, 1, none⟩) hSw).trans b1; have q2 := (World.cell?_of_block (w := w1) (a := ⟨bx, 2, none⟩) hSw).trans b2; have q3 := (World.cell?_of_block (w := w1) (a := ⟨bx, 3, none⟩) hSw).trans b3; have q4 := (World.cell?_of_block (w := w1) (a := ⟨bx, 4, none⟩) hSw).trans b4; have q5 := (World.cell?_of_block (w := w1) (a := ⟨bx, 5, none⟩) hSw).trans b5; have q6 := (World.cell?_of_block (w := w1) (a := ⟨bx, 6, none⟩) hSw).trans b6; have q7 := (World.cell?_of_block (w := w1) (a := ⟨bx, 7, none⟩) hSw).trans b7; have q8 := (World.cell?_of_block (w := w1) (a := ⟨bx, 8, none⟩) hSw).trans b8; go_simp; first | done | (with_reducible rfl) | rfl)⟩) hHeld ?_
  (try simp only [Act.put, List.getElem_toArray, List.getElem_cons_zero, List.getElem_cons_succ, List.setIfInBounds_toArray, List.set_cons_zero, List.set_cons_succ])
  refine wpAnyH_take (i := 15) (v := ?_) rfl (by kernel_rfl) (by kernel_rfl) (by kernel_rfl) (fun _ _ _ h => h) (Or.inl ⟨by kernel_rfl, by (intro w' hSw; have q0 := (World.cell?_of_block (w := w1) (a := ⟨bx, 0, none⟩) hSw).trans b0; have q1 := (World.cell?_of_block (w := w1) (a := ⟨bx, 1, none⟩) hSw).trans b1; have q2 := (World.cell?_of_block (w := w1) (a := ⟨bx, 2, none⟩) hSw).trans b2; have q3 := (World.cell?_of_block (w := w1) (a := ⟨bx, 3, none⟩) hSw).trans b3; have q4 := (World.cell?_of_block (w := w1) (a := ⟨bx, 4, none⟩) hSw).trans b4; have q5 := (World.cell?_of_block (w := w1) (a := ⟨bx, 5, none⟩) hSw).trans b5; have q6 := (World.cell?_of_block (w := w1) (a := ⟨bx, 6, none⟩) hSw).trans b6; have q7 := (World.cell?_of_block (w := w1) (a := ⟨bx, 7, none⟩) hSw).trans b7; have q8 := (World.cell?_of_block (w := w1) (a := ⟨bx, 8, none⟩) hSw).trans b8; go_simp; first | done | (with_reducible rfl) | rfl)⟩) hHeld ?_
  (try simp only [Act.put, List.getElem_toArray, List.getElem_cons_zero, List.getElem_cons_succ, List.setIfInBounds_toArray, List.set_cons_zero, List.set_cons_succ])
  refine wpAnyH_take (i := 16) (v := ?_) rfl (by kernel_rfl) (by kernel_rfl) (by kernel_rfl) (fun _ _ _ h => h) (Or.inl ⟨by kernel_rfl, by (intro w' hSw; have q0 := (World.cell?_of_block (w := w1) (a := ⟨bx, 0, none⟩) hSw).trans b0; have q1 := (World.cell?_of_block (w := w1) (a := ⟨bx, 1, none⟩) hSw).trans b1; have q2 := (World.cell?_of_block (w := w1) (a := ⟨bx, 2, none⟩) hSw).trans b2; have q3 := (World.cell?_of_block (w := w1) (a := ⟨bx, 3, none⟩) hSw).trans b3; have q4 := (World.cell?_of_block (w := w1) (a := ⟨bx, 4, none⟩) hSw).trans b4; have q5 := (World.cell?_of_block (w := w1) (a := ⟨bx, 5, none⟩) hSw).trans b5; have q6 := (World.cell?_of_block (w := w1) (a := ⟨bx, 6, none⟩) hSw).trans b6; have q7 := (World.cell?_of_block (w := w1) (a := ⟨bx, 7, none⟩) hSw).trans b7; have q8 := (World.cell?_of_block (w := w1) (a := ⟨bx, 8, none⟩) hSw).trans b8; go_simp; first | done | (with_reducible rfl) | rfl)⟩) hHeld ?_
  (try simp only [Act.put, List.getElem_toArray, List.getElem_cons_zero, List.getElem_cons_succ, List.setIfInBounds_toArray, List.set_cons_zero, List.set_cons_succ])
  refine wpAnyH_take (i := 17) (v := ?_) rfl (by kernel_rfl) (by kernel_rfl) (by kernel_rfl) (fun _ _ _ h => h) (Or.inl ⟨by kernel_rfl, by (intro w' hSw; have q0 := (World.cell?_of_block (w := w1) (a := ⟨bx, 0, none⟩) hSw).trans b0; have q1 := (World.cell?_of_block (w := w1) (a := ⟨bx, 1, none⟩) hSw).trans b1; have q2 := (World.cell?_of_block (w := w1) (a := ⟨bx, 2, none⟩) hSw).trans b2; have q3 := (World.cell?_of_block (w := w1) (a := ⟨bx, 3, none⟩) hSw).trans b3; have q4 := (World.cell?_of_block (w := w1) (a := ⟨bx, 4, none⟩) hSw).trans b4; have q5 := (World.cell?_of_block (w := w1) (a := ⟨bx, 5, none⟩) hSw).trans b5; have q6 := (World.cell?_of_block (w := w1) (a := ⟨bx, 6, none⟩) hSw).trans b6; have q7 := (World.cell?_of_block (w := w1) (a := ⟨bx, 7, none⟩) hSw).trans b7; have q8 := (World.cell?_of_block (w := w1) (a := ⟨bx, 8, none⟩) hSw).trans b8; go_simp; first | done | (with_reducible rfl) | rfl)⟩) hHeld ?_
  (try simp only [Act.put, List.getElem_toArray, List.getElem_cons_zero, List.getElem_cons_succ, List.setIfInBounds_toArray, List.set_cons_zero, List.set_cons_succ])
  refine wpAnyH_take (i := 18) (v := ?_) rfl (by kernel_rfl) (by kernel_rfl) (by kernel_rfl) (fun _ _ _ h => h) (Or.inl ⟨by kernel_rfl, by (intro w' hSw; have q0 := (World.cell?_of_block (w := w1) (a := ⟨bx, 0, none⟩) hSw).trans b0; have q1 := (World.cell?_of_block (w := w1) (a := ⟨bx, 1, none⟩) hSw).trans b1; have q2 := (World.cell?_of_block (w := w1) (a := ⟨bx, 2, none⟩) hSw).trans b2; have q3 := (World.cell?_of_block (w := w1) (a := ⟨bx, 3, none⟩) hSw).trans b3; have q4 := (World.cell?_of_block (w := w1) (a := ⟨bx, 4, none⟩) hSw).trans b4; have q5 := (World.cell?_of_block (w := w1) (a := ⟨bx, 5, none⟩) hSw).trans b5; have q6 := (World.cell?_of_block (w := w1) (a := ⟨bx, 6, none⟩) hSw).trans b6; have q7 := (World.cell?_of_block (w := w1) (a := ⟨bx, 7, none⟩) hSw).trans b7; have q8 := (World.cell?_of_block (w := w1) (a := ⟨bx, 8, none⟩) hSw).trans b8; go_simp; first | done | (with_reducible rfl) | rfl)⟩) hHeld ?_
  (try simp only [Act.put, List.getElem_toArray, List.getElem_cons_zero, List.getElem_cons_succ, List.setIfInBounds_toArray, List.set_cons_zero, List.set_cons_succ])
  refine wpAnyH_take (i := 19) (v := ?_) rfl (by kernel_rfl) (by kernel_rfl) (by kernel_rfl) (fun _ _ _ h => h) (Or.inl ⟨by kernel_rfl, by (intro w' hSw; have q0 := (World.cell?_of_block (w := w1) (a := ⟨bx, 0, none⟩) hSw).trans b0; have q1 := (World.cell?_of_block (w := w1) (a := ⟨bx, 1, none⟩) hSw).trans b1; have q2 := (World.cell?_of_block (w := w1) (a := ⟨bx, 2, none⟩) hSw).trans b2; have q3 := (World.cell?_of_block (w := w1) (a := ⟨bx, 3, none⟩) hSw).trans b3; have q4 := (World.cell?_of_block (w := w1) (a := ⟨bx, 4, none⟩) hSw).trans b4; have q5 := (World.cell?_of_block (w := w1) (a := ⟨bx, 5, none⟩) hSw).trans b5; have q6 := (World.cell?_of_block (w := w1) (a := ⟨bx, 6, none⟩) hSw).trans b6; have q7 := (World.cell?_of_block (w := w1) (a := ⟨bx, 7, none⟩) hSw).trans b7; have q8 := (World.cell?_of_block (w := w1) (a := ⟨bx, 8, none⟩) hSw).trans b8; go_simp; first | done | (with_reducible rfl) | rfl)⟩) hHeld ?_
  (try simp only [Act.put, List.getElem_toArray, List.getElem_cons_zero, List.getElem_cons_succ, List.setIfInBounds_toArray, List.set_cons_zero, List.set_cons_succ])
  refine wpAnyH_take (i := 20) (v := ?_) rfl (by kernel_rfl) (by kernel_rfl) (by kernel_rfl) (fun _ _ _ h => h) (Or.inl ⟨by kernel_rfl, by (intro w' hSw; have q0 := (World.cell?_of_block (w := w1) (a := ⟨bx, 0, none⟩) hSw).trans b0; have q1 := (World.cell?_of_block (w := w1) (a := ⟨bx, 1, none⟩) hSw).trans b1; have q2 := (World.cell?_of_block (w := w1) (a := ⟨bx, 2, none⟩) hSw).trans b2; have q3 := (World.cell?_of_block (w := w1) (a := ⟨bx, 3, none⟩) hSw).trans b3; have q4 := (World.cell?_of_block (w := w1) (a := ⟨bx, 4, none⟩) hSw).trans b4; have q5 := (World.cell?_of_block (w := w1) (a := ⟨bx, 5, none⟩) hSw).trans b5; have q6 := (World.cell?_of_block (w := w1) (a := ⟨bx, 6, none⟩) hSw).trans b6; have q7 := (World.cell?_of_block (w := w1) (a := ⟨bx, 7, none⟩) hSw).trans b7; have q8 := (World.cell?_of_block (w := w1) (a := ⟨bx, 8, none⟩) hSw).trans b8; go_simp; first | done | (with_reducible rfl) | rfl)⟩) hHeld ?_
  (try simp only [Act.put, List.getElem_toArray, List.getElem_cons_zero, List.getElem_cons_succ, List.setIfInBounds_toArray, List.set_cons_zero, List.set_cons_succ])
  refine wpAnyH_take (i := 21) (v := ?_) rfl (by kernel_rfl) (by kernel_rfl) (by kernel_rfl) (fun _ _ _ h => h) (Or.inl ⟨by kernel_rfl, by (intro w' hSw; have q0 := (World.cell?_of_block (w := w1) (a := ⟨bx, 0, none⟩) hSw).trans b0; have q1 := (World.cell?_of_block (w := w1) (a := ⟨bx, 1, none⟩) hSw).trans b1; have q2 := (World.cell?_of_block (w := w1) (a := ⟨bx, 2, none⟩) hSw).trans b2; have q3 := (World.cell?_of_block (w := w1) (a := ⟨bx, 3, none⟩) hSw).trans b3; have q4 := (World.cell?_of_block (w := w1) (a := ⟨bx, 4, none⟩) hSw).trans b4; have q5 := (World.cell?_of_block (w := w1) (a := ⟨bx, 5, none⟩) hSw).trans b5; have q6 := (World.cell?_of_block (w := w1) (a := ⟨bx, 6, none⟩) hSw).trans b6; have q7 := (World.cell?_of_block (w := w1) (a := ⟨bx, 7, none⟩) hSw).trans b7; have q8 := (World.cell?_of_block (w := w1) (a := ⟨bx, 8, none⟩) hSw).trans b8; go_simp; first | done | (with_reducible rfl) | rfl)⟩) hHeld ?_
  (try simp only [Act.put, List.getElem_toArray, List.getElem_cons_zero, List.getElem_cons_succ, List.setIfInBounds_toArray, List.set_cons_zero, List.set_cons_succ])
  refine wpAnyH_take (i := 22) (v := ?_) rfl (by kernel_rfl) (by kernel_rfl) (by kernel_rfl) (fun _ _ _ h => h) (Or.inl ⟨by kernel_rfl, by (intro w' hSw; have q0 := (World.cell?_of_block (w := w1) (a := ⟨bx, 0, none⟩) hSw).trans b0; have q1 := (World.cell?_of_block (w := w1) (a := ⟨bx, 1, none⟩) hSw).trans b1; have q2 := (World.cell?_of_block (w := w1) (a := ⟨bx, 2, none⟩) hSw).trans b2; have q3 := (World.cell?_of_block (w := w1) (a := ⟨bx, 3, none⟩) hSw).trans b3; have q4 := (World.cell?_of_block (w := w1) (a := ⟨bx, 4, none⟩) hSw).trans b4; have q5 := (World.cell?_of_block (w := w1) (a := ⟨bx, 5, none⟩) hSw).trans b5; have q6 := (World.cell?_of_block (w := w1) (a := ⟨bx, 6, none⟩) hSw).trans b6; have q7 := (World.cell?_of_block (w := w1) (a := ⟨bx, 7, none⟩) hSw).trans b7; have q8 := (World.cell?_of_block (w := w1) (a := ⟨bx, 8, none⟩) hSw).trans b8; go_simp; first | done | (with_reducible rfl) | rfl)⟩) hHeld ?_
  (try simp only [Act.put, List.getElem_toArray, List.getElem_cons_zero, List.getElem_cons_succ, List.setIfInBounds_toArray, List.set_cons_zero, List.set_cons_succ])
  refine wpAnyH_ready (rs := [11]) (by kernel_rfl) (by simp) ?_
  refine AllReadyH.cons rfl (fun K hK => ?_) AllReadyH.nil
  go_simp
  go_at_call 31; refine C1.mono ?_; rintro e w2 ⟨rfl, hsp⟩; (have hX2 : w2.heap[bx]? = w1.heap[bx]? := hsp.block (by exact BX.out.2.2) (fun hk => BX.out.1 _ hk rfl)); (have C2w := C2.out w2 (HJ.out.rf_behind H2.out hsp)); (have HSP := Lib.hid hsp); clear hsp C1
  try dsimp only
  clear hHeld
  refine hK.out _ _ hX2 (fun hHeld => ?_)
  clear hK K
  (try simp only [Act.put, List.getElem_toArray, List.getElem_cons_zero, List.getElem_cons_succ, List.setIfInBounds_toArray, List.set_cons_zero, List.set_cons_succ])
  refine wpAnyH_ready (rs := [23]) (by kernel_rfl) (by simp) ?_
  refine AllReadyH.cons rfl (fun K hK => ?_) AllReadyH.nil
  go_simp
  go_at_call 40; refine C2w.mono ?_; rintro e w3 ⟨rfl, hrf⟩; (have hX3 : w3.heap[bx]? = w1.heap[bx]? := (hrf.block (by have := HSP.out.size; have h9 := BX.out.2.2; exact Nat.lt_of_lt_of_le h9 this) (fun hk => BX.out.2.1 hk.symm)).trans hX2); (have HRF := Lib.hid hrf); clear hrf C2w
  try dsimp only
  clear hHeld
  refine hK.out _ _ hX3 (fun hHeld => ?_)
  clear hK K
  (try simp only [Act.put, List.getElem_toArray, List.getElem_cons_zero, List.getElem_cons_succ, List.setIfInBounds_toArray, List.set_cons_zero, List.set_cons_succ])
  refine wpAnyH_take (i := 24) (v := .bool true) rfl (by kernel_rfl) (by kernel_rfl) (by kernel_rfl) (fun _ _ _ h => h) (Or.inl ⟨by kernel_rfl, by (intro w' hSw; have q0 := (World.cell?_of_block (w := w1) (a := ⟨bx, 0, none⟩) hSw).trans b0; have q1 := (World.cell?_of_block (w := w1) (a := ⟨bx, 1, none⟩) hSw).trans b1; have q2 := (World.cell?_of_block (w := w1) (a := ⟨bx, 2, none⟩) hSw).trans b2; have q3 := (World.cell?_of_block (w := w1) (a := ⟨bx, 3, none⟩) hSw).trans b3; have q4 := (World.cell?_of_block (w := w1) (a := ⟨bx, 4, none⟩) hSw).trans b4; have q5 := (World.cell?_of_block (w := w1) (a := ⟨bx, 5, none⟩) hSw).trans b5; have q6 := (World.cell?_of_block (w := w1) (a := ⟨bx, 6, none⟩) hSw).trans b6; have q7 := (World.cell?_of_block (w := w1) (a := ⟨bx, 7, none⟩) hSw).trans b7; have q8 := (World.cell?_of_block (w := w1) (a := ⟨bx, 8, none⟩) hSw).trans b8; go_simp; first | done | (with_reducible rfl) | rfl)⟩) hHeld ?_
  (try simp only [Act.put, List.getElem_toArray, List.getElem_cons_zero, List.getElem_cons_succ, List.setIfInBounds_toArray, List.set_cons_zero, List.set_cons_succ])
  refine wpAnyH_take (i := 25) (v := ?_) rfl (by kernel_rfl) (by kernel_rfl) (by kernel_rfl) (fun _ _ _ h => h) (Or.inl ⟨by kernel_rfl, by (intro w' hSw; have q0 := (World.cell?_of_block (w := w1) (a := ⟨bx, 0, none⟩) hSw).trans b0; have q1 := (World.cell?_of_block (w := w1) (a := ⟨bx, 1, none⟩) hSw).trans b1; have q2 := (World.cell?_of_block (w := w1) (a := ⟨bx, 2, none⟩) hSw).trans b2; have q3 := (World.cell?_of_block (w := w1) (a := ⟨bx, 3, none⟩) hSw).trans b3; have q4 := (World.cell?_of_block (w := w1) (a := ⟨bx, 4, none⟩) hSw).trans b4; have q5 := (World.cell?_of_block (w := w1) (a := ⟨bx, 5, none⟩) hSw).trans b5; have q6 := (World.cell?_of_block (w := w1) (a := ⟨bx, 6, none⟩) hSw).trans b6; have q7 := (World.cell?_of_block (w := w1) (a := ⟨bx, 7, none⟩) hSw).trans b7; have q8 := (World.cell?_of_block (w := w1) (a := ⟨bx, 8, none⟩) hSw).trans b8; go_simp; first | done | (with_reducible rfl) | rfl)⟩) hHeld ?_
  (try simp only [Act.put, List.getElem_toArray, List.getElem_cons_zero, List.getElem_cons_succ, List.setIfInBounds_toArray, List.set_cons_zero, List.set_cons_succ])
  refine wpAnyH_done (by kernel_rfl) ?_ _
  clear b0 b1 b2 b3 b4 b5 b6 b7 b8
  go_wp2_with fail
  go_ret
  exact HJ.out.fin H2.out HSP.out HRF.out HBO.out
set_option maxRecDepth 100000 in
set_option maxHeartbeats 2000000 in
theorem do_4 {w : World} {A : Ad} {R : Rd} {S : Sp} (h : Jt w A R S) (hcm : S.came ≤ 1000000) (a : Ac) (hw : a.wf) (hk : a.k = 4) :
    Calls Try.prog 12 #[.pointer (some ⟨A.b, 0, none⟩), .pointer (some ⟨R.b, 0, none⟩), .agg (actC a)] w (DoPost S A R w) := by
  obtain ⟨xk, xg, xs, xt, xu, xc⟩ := a
  dsimp only at hk
  subst hk
  obtain ⟨w1, hw1⟩ : ∃ w1, w1 = w.alloc (.cells (actC ⟨4, xg, xs, xt, xu, xc⟩) 38) := ⟨_, rfl⟩
  have hb1 : Below w.heap.size w w1 := by rw [hw1]; exact (Below.refl _ _).alloc (Nat.le_refl _) _
  have hblk : Blk w1 w.heap.size 38 (actC ⟨4, xg, xs, xt, xu, xc⟩) := by rw [hw1]; exact Blk.new w _ _
  obtain ⟨bx, hbx⟩ : ∃ bx, bx = w.heap.size := ⟨_, rfl⟩
  rw [← hbx] at hblk
  have hb2 : Below w.heap.size w (w1.drewN 1) := hb1.trans ((below_drewN_ _ _ _).mono (Nat.le_refl _))
  have hS1 := h.sp.below hb2
  have BX := Lib.hid (show (∀ k, A.own k → k ≠ bx) ∧ R.b ≠ bx ∧ bx < w1.heap.size from ⟨fun k hk e => by have := h.sp.lt hk; omega, by have := h.rf.head.lt; omega, hblk.lt⟩)
  have C1 := free_c hS1 h.lim xg xs
  have C2 := Lib.hid (fun W (hR : RfAt W R S) => rfFree_c hR h.lim h.j xg xs)
  have HBO := Lib.hid (Both.refl h.j h.lim)
  have HJ := Lib.hid h
  have H2 := Lib.hid hb2
  have b0 := hblk.cell 0
  have b1 := hblk.cell 1
  have b2 := hblk.cell 2
  have b3 := hblk.cell 3
  have b4 := hblk.cell 4
  have b5 := hblk.cell 5
  have b6 := hblk.cell 6
  have b7 := hblk.cell 7
  have b8 := hblk.cell 8
  simp only [actC, List.getElem?_toArray, List.getElem?_cons_zero, List.getElem?_cons_succ] at b0 b1 b2 b3 b4 b5 b6 b7 b8
  obtain ⟨z, hz⟩ : ∃ z, z = (S.freeE xg xs) := ⟨_, rfl⟩
  rw [← hz] at C1 C2
  clear h hb1 hb2 hS1 hw hblk hz hcm
  unfold actC at hw1 ⊢
  (try unfold capV at C1 C2)
  go_enter Try.func12, Try.ntmps12
  go_wp2_with fail
  rw [← hw1, ← hbx]
  clear hw1 hbx
  go_wp2_with fail
  refine wp_region_held_drew (S := fun wx => wx.heap[bx]? = w1.heap[bx]?) (by kernel_rfl) rfl (fun hHeld => ?_)
  refine wpAnyH_take (i := 0) (v := ?_) rfl (by kernel_rfl) (by kernel_rfl) (by kernel_rfl) (fun _ _ _ h => h) (Or.inl ⟨by kernel_rfl, by (intro w' hSw; have q0 := (World.cell?_of_block (w := w1) (a := ⟨bx, 0, none⟩) hSw).trans b0; have q1 := (World.cell?_of_block (w := w1) (a := ⟨bx, 1, none⟩) hSw).trans b1; have q2 := (World.cell?_of_block (w := w1) (a := ⟨bx, 2, none⟩) hSw).trans b2; have q3 := (World.cell?_of_block (w := w1) (a := ⟨bx, 3, none⟩) hSw).trans b3; have q4 := (World.cell?_of_block (w := w1) (a := ⟨bx, 4, none⟩) hSw).trans b4; have q5 := (World.cell?_of_block (w := w1) (a := ⟨bx, 5, none⟩) hSw).trans b5; have q6 := (World.cell?_of_block (w := w1) (a := ⟨bx, 6, none⟩) hSw).trans b6; have q7 := (World.cell?_of_block (w := w1) (a := ⟨bx, 7, none⟩) hSw).trans b7; have q8 := (World.cell?_of_block (w := w1) (a := ⟨bx, 8, none⟩) hSw).trans b8; go_simp; first | done | (with_reducible rfl) | rfl)⟩) hHeld ?_
  (try simp only [Act.put, List.getElem_toArray, List.getElem_cons_zero, List.getElem_cons_succ, List.setIfInBounds_toArray, List.set_cons_zero, List.set_cons_succ])
  refine wpAnyH_take (i := 1) (v := ?_) rfl (by kernel_rfl) (by kernel_rfl) (by kernel_rfl) (fun _ _ _ h => h) (Or.inl ⟨by kernel_rfl, by (intro w' hSw; have q0 := (World.cell?_of_block (w := w1) (a := ⟨bx, 0, none⟩) hSw).trans b0; have q1 := (World.cell?_of_block (w := w1) (a := ⟨bx, 1, none⟩) hSw).trans b1; have q2 := (World.cell?_of_block (w := w1) (a := ⟨bx, 2, none⟩) hSw).trans b2; have q3 := (World.cell?_of_block (w := w1) (a := ⟨bx, 3, none⟩) hSw).trans b3; have q4 := (World.cell?_of_block (w := w1) (a := ⟨bx, 4, none⟩) hSw).trans b4; have q5 := (World.cell?_of_block (w := w1) (a := ⟨bx, 5, none⟩) hSw).trans b5; have q6 := (World.cell?_of_block (w := w1) (a := ⟨bx, 6, none⟩) hSw).trans b6; have q7 := (World.cell?_of_block (w := w1) (a := ⟨bx, 7, none⟩) hSw).trans b7; have q8 := (World.cell?_of_block (w := w1) (a := ⟨bx, 8, none⟩) hSw).trans b8; go_simp; first | done | (with_reducible rfl) | rfl)⟩) hHeld ?_
  (try simp only [Act.put, List.getElem_toArray, List.getElem_cons_zero, List.getElem_cons_succ, List.setIfInBounds_toArray, List.set_cons_zero, List.set_cons_succ])
  refine wpAnyH_take (i := 2) (v := ?_) rfl (by kernel_rfl) (by kernel_rfl) (by kernel_rfl) (fun _ _ _ h => h) (Or.inl ⟨by kernel_rfl, by (intro w' hSw; have q0 := (World.cell?_of_block (w := w1) (a := ⟨bx, 0, none⟩) hSw).trans b0; have q1 := (World.cell?_of_block (w := w1) (a := ⟨bx, 1, none⟩) hSw).trans b1; have q2 := (World.cell?_of_block (w := w1) (a := ⟨bx, 2, none⟩) hSw).trans b2; have q3 := (World.cell?_of_block (w := w1) (a := ⟨bx, 3, none⟩) hSw).trans b3; have q4 := (World.cell?_of_block (w := w1) (a := ⟨bx, 4, none⟩) hSw).trans b4; have q5 := (World.cell?_of_block (w := w1) (a := ⟨bx, 5, none⟩) hSw).trans b5; have q6 := (World.cell?_of_block (w := w1) (a := ⟨bx, 6, none⟩) hSw).trans b6; have q7 := (World.cell?_of_block (w := w1) (a := ⟨bx, 7, none⟩) hSw).trans b7; have q8 := (World.cell?_of_block (w := w1) (a := ⟨bx, 8, none⟩) hSw).trans b8; go_simp; first | done | (with_reducible rfl) | rfl)⟩) hHeld ?_
  (try simp only [Act.put, List.getElem_toArray, List.getElem_cons_zero, List.getElem_cons_succ, List.setIfInBounds_toArray, List.set_cons_zero, List.set_cons_succ])
  refine wpAnyH_take (i := 3) (v := ?_) rfl (by kernel_rfl) (by kernel_rfl) (by kernel_rfl) (fun _ _ _ h => h) (Or.inl ⟨by kernel_rfl, by (intro w' hSw; have q0 := (World.cell?_of_block (w := w1) (a := ⟨bx, 0, none⟩) hSw).trans b0; have q1 := (World.cell?_of_block (w := w1) (a := ⟨bx, 1, none⟩) hSw).trans b1; have q2 := (World.cell?_of_block (w := w1) (a := ⟨bx, 2, none⟩) hSw).trans b2; have q3 := (World.cell?_of_block (w := w1) (a := ⟨bx, 3, none⟩) hSw).trans b3; have q4 := (World.cell?_of_block (w := w1) (a := ⟨bx, 4, none⟩) hSw).trans b4; have q5 := (World.cell?_of_block (w := w1) (a := ⟨bx, 5, none⟩) hSw).trans b5; have q6 := (World.cell?_of_block (w := w1) (a := ⟨bx, 6, none⟩) hSw).trans b6; have q7 := (World.cell?_of_block (w := w1) (a := ⟨bx, 7, none⟩) hSw).trans b7; have q8 := (World.cell?_of_block (w := w1) (a := ⟨bx, 8, none⟩) hSw).trans b8; go_simp; first | done | (with_reducible rfl) | rfl)⟩) hHeld ?_
  (try simp only [Act.put, List.getElem_toArray, List.getElem_cons_zero, List.getElem_cons_succ, List.setIfInBounds_toArray, List.set_cons_zero, List.set_cons_succ])
  refine wpAnyH_take (i := 4) (v := ?_) rfl (by kernel_rfl) (by kernel_rfl) (by kernel_rfl) (fun _ _ _ h => h) (Or.inl ⟨by kernel_rfl, by (intro w' hSw; have q0 := (World.cell?_of_block (w := w1) (a := ⟨bx, 0, none⟩) hSw).trans b0; have q1 := (World.cell?_of_block (w := w1) (a := ⟨bx, 1, none⟩) hSw).trans b1; have q2 := (World.cell?_of_block (w := w1) (a := ⟨bx, 2, none⟩) hSw).trans b2; have q3 := (World.cell?_of_block (w := w1) (a := ⟨bx, 3, none⟩) hSw).trans b3; have q4 := (World.cell?_of_block (w := w1) (a := ⟨bx, 4, none⟩) hSw).trans b4; have q5 := (World.cell?_of_block (w := w1) (a := ⟨bx, 5, none⟩) hSw).trans b5; have q6 := (World.cell?_of_block (w := w1) (a := ⟨bx, 6, none⟩) hSw).trans b6; have q7 := (World.cell?_of_block (w := w1) (a := ⟨bx, 7, none⟩) hSw).trans b7; have q8 := (World.cell?_of_block (w := w1) (a := ⟨bx, 8, none⟩) hSw).trans b8; go_simp; first | done | (with_reducible rfl) | rfl)⟩) hHeld ?_
  (try simp only [Act.put, List.getElem_toArray, List.getElem_cons_zero, List.getElem_cons_succ, List.setIfInBounds_toArray, List.set_cons_zero, List.set_cons_succ])
  refine wpAnyH_take (i := 6) (v := ?_) rfl (by kernel_rfl) (by kernel_rfl) (by kernel_rfl) (fun _ _ _ h => h) (Or.inl ⟨by kernel_rfl, by (intro w' hSw; have q0 := (World.cell?_of_block (w := w1) (a := ⟨bx, 0, none⟩) hSw).trans b0; have q1 := (World.cell?_of_block (w := w1) (a := ⟨bx, 1, none⟩) hSw).trans b1; have q2 := (World.cell?_of_block (w := w1) (a := ⟨bx, 2, none⟩) hSw).trans b2; have q3 := (World.cell?_of_block (w := w1) (a := ⟨bx, 3, none⟩) hSw).trans b3; have q4 := (World.cell?_of_block (w := w1) (a := ⟨bx, 4, none⟩) hSw).trans b4; have q5 := (World.cell?_of_block (w := w1) (a := ⟨bx, 5, none⟩) hSw).trans b5; have q6 := (World.cell?_of_block (w := w1) (a := ⟨bx, 6, none⟩) hSw).trans b6; have q7 := (World.cell?_of_block (w := w1) (a := ⟨bx, 7, none⟩) hSw).trans b7; have q8 := (World.cell?_of_block (w := w1) (a := ⟨bx, 8, none⟩) hSw).trans b8; go_simp; first | done | (with_reducible rfl) | rfl)⟩) hHeld ?_
  (try simp only [Act.put, List.getElem_toArray, List.getElem_cons_zero, List.getElem_cons_succ, List.setIfInBounds_toArray, List.set_cons_zero, List.set_cons_succ])
  refine wpAnyH_take (i := 7) (v := ?_) rfl (by kernel_rfl) (by kernel_rfl) (by kernel_rfl) (fun _ _ _ h => h) (Or.inl ⟨by kernel_rfl, by (intro w' hSw; have q0 := (World.cell?_of_block (w := w1) (a := ⟨bx, 0, none⟩) hSw).trans b0; have q1 := (World.cell?_of_block (w := w1) (a := ⟨bx, 1, none⟩) hSw).trans b1; have q2 := (World.cell?_of_block (w := w1) (a := ⟨bx, 2, none⟩) hSw).trans b2; have q3 := (World.cell?_of_block (w := w1) (a := ⟨bx, 3, none⟩) hSw).trans b3; have q4 := (World.cell?_of_block (w := w1) (a := ⟨bx, 4, none⟩) hSw).trans b4; have q5 := (World.cell?_of_block (w := w1) (a := ⟨bx, 5, none⟩) hSw).trans b5; have q6 := (World.cell?_of_block (w := w1) (a := ⟨bx, 6, none⟩) hSw).trans b6; have q7 := (World.cell?_of_block (w := w1) (a := ⟨bx, 7, none⟩) hSw).trans b7; have q8 := (World.cell?_of_block (w := w1) (a := ⟨bx, 8, none⟩) hSw).trans b8; go_simp; first | done | (with_reducible rfl) | rfl)⟩) hHeld ?_
  (try simp only [Act.put, List.getElem_toArray, List.getElem_cons_zero, List.getElem_cons_succ, List.setIfInBounds_toArray, List.set_cons_zero, List.set_cons_succ])
  refine wpAnyH_take (i := 8) (v := ?_) rfl (by kernel_rfl) (by kernel_rfl) (by kernel_rfl) (fun _ _ _ h => h) (Or.inl ⟨by kernel_rfl, by (intro w' hSw; have q0 := (World.cell?_of_block (w := w1) (a := ⟨bx, 0, none⟩) hSw).trans b0; have q1 := (World.cell?_of_block (w := w1) (a := ⟨bx, 1, none⟩) hSw).trans b1; have q2 := (World.cell?_of_block (w := w1) (a := ⟨bx, 2, none⟩) hSw).trans b2; have q3 := (World.cell?_of_block (w := w1) (a := ⟨bx, 3, none⟩) hSw).trans b3; have q4 := (World.cell?_of_block (w := w1) (a := ⟨bx, 4, none⟩) hSw).trans b4; have q5 := (World.cell?_of_block (w := w1) (a := ⟨bx, 5, none⟩) hSw).trans b5; have q6 := (World.cell?_of_block (w := w1) (a := ⟨bx, 6, none⟩) hSw).trans b6; have q7 := (World.cell?_of_block (w := w1) (a := ⟨bx, 7, none⟩) hSw).trans b7; have q8 := (World.cell?_of_block (w := w1) (a := ⟨bx, 8, none⟩) hSw).trans b8; go_simp; first | done | (with_reducible rfl) | rfl)⟩) hHeld ?_
  (try simp only [Act.put, List.getElem_toArray, List.getElem_cons_zero, List.getElem_cons_succ, List.setIfInBounds_toArray, List.set_cons_zero, List.set_cons_succ])
  refine wpAnyH_take (i := 9) (v := ?_) rfl (by kernel_rfl) (by kernel_rfl) (by kernel_rfl) (fun _ _ _ h => h) (Or.inl ⟨by kernel_rfl, by (intro w' hSw; have q0 := (World.cell?_of_block (w := w1) (a := ⟨bx, 0, none⟩) hSw).trans b0; have q1 := (World.cell?_of_block (w := w1) (a := ⟨bx, 1, none⟩) hSw).trans b1; have q2 := (World.cell?_of_block (w := w1) (a := ⟨bx, 2, none⟩) hSw).trans b2; have q3 := (World.cell?_of_block (w := w1) (a := ⟨bx, 3, none⟩) hSw).trans b3; have q4 := (World.cell?_of_block (w := w1) (a := ⟨bx, 4, none⟩) hSw).trans b4; have q5 := (World.cell?_of_block (w := w1) (a := ⟨bx, 5, none⟩) hSw).trans b5; have q6 := (World.cell?_of_block (w := w1) (a := ⟨bx, 6, none⟩) hSw).trans b6; have q7 := (World.cell?_of_block (w := w1) (a := ⟨bx, 7, none⟩) hSw).trans b7; have q8 := (World.cell?_of_block (w := w1) (a := ⟨bx, 8, none⟩) hSw).trans b8; go_simp; first | done | (with_reducible rfl) | rfl)⟩) hHeld ?_
  (try simp only [Act.put, List.getElem_toArray, List.getElem_cons_zero, List.getElem_cons_succ, List.setIfInBounds_toArray, List.set_cons_zero, List.set_cons_succ])
  refine wpAnyH_take (i := 10) (v := ?_) rfl (by kernel_rfl) (by kernel_rfl) (by kernel_rfl) (fun _ _ _ h => h) (Or.inl ⟨by kernel_rfl, by (intro w' hSw; have q0 := (World.cell?_of_block (w := w1) (a := ⟨bx, 0, none⟩) hSw).trans b0; have q1 := (World.cell?_of_block (w := w1) (a := ⟨bx, 1, none⟩) hSw).trans b1; have q2 := (World.cell?_of_block (w := w1) (a := ⟨bx, 2, none⟩) hSw).trans b2; have q3 := (World.cell?_of_block (w := w1) (a := ⟨bx, 3, none⟩) hSw).trans b3; have q4 := (World.cell?_of_block (w := w1) (a := ⟨bx, 4, none⟩) hSw).trans b4; have q5 := (World.cell?_of_block (w := w1) (a := ⟨bx, 5, none⟩) hSw).trans b5; have q6 := (World.cell?_of_block (w := w1) (a := ⟨bx, 6, none⟩) hSw).trans b6; have q7 := (World.cell?_of_block (w := w1) (a := ⟨bx, 7, none⟩) hSw).trans b7; have q8 := (World.cell?_of_block (w := w1) (a := ⟨bx, 8, none⟩) hSw).trans b8; go_simp; first | done | (with_reducible rfl) | rfl)⟩) hHeld ?_
  (try simp only [Act.put, List.getElem_toArray, List.getElem_cons_zero, List.getElem_cons_succ, List.setIfInBounds_toArray, List.set_cons_zero, List.set_cons_succ])
  refine wpAnyH_ready (rs := [5]) (by kernel_rfl) (by simp) ?_
  refine AllReadyH.cons rfl (fun K hK => ?_) AllReadyH.nil
  go_simp
  go_at_call 32; refine C1.mono ?_; rintro e w2 ⟨rfl, hsp⟩; (have hX2 : w2.heap[bx]? = w1.heap[bx]? := hsp.block (by exact BX.out.2.2) (fun hk => BX.out.1 _ hk rfl)); (have C2w := C2.out w2 (HJ.out.rf_behind H2.out hsp)); (have HSP := Lib.hid hsp); clear hsp C1
  try dsimp only
  clear hHeld
  refine hK.out _ _ hX2 (fun hHeld => ?_)
  clear hK K
  (try simp only [Act.put, List.getElem_toArray, List.getElem_cons_zero, List.getElem_cons_succ, List.setIfInBounds_toArray, List.set_cons_zero, List.set_cons_succ])
  refine wpAnyH_ready (rs := [11]) (by kernel_rfl) (by simp) ?_
  refine AllReadyH.cons rfl (fun K hK => ?_) AllReadyH.nil
  go_simp
  go_at_call 42; refine C2w.mono ?_; rintro e w3 ⟨rfl, hrf⟩; (have hX3 : w3.heap[bx]? = w1.heap[bx]? := (hrf.block (by have := HSP.out.size; have h9 := BX.out.2.2; exact Nat.lt_of_lt_of_le h9 this) (fun hk => BX.out.2.1 hk.symm)).trans hX2); (have HRF := Lib.hid hrf); clear hrf C2w
  try dsimp only
  clear hHeld
  refine hK.out _ _ hX3 (fun hHeld => ?_)
  clear hK K
  (try simp only [Act.put, List.getElem_toArray, List.getElem_cons_zero, List.getElem_cons_succ, List.setIfInBounds_toArray, List.set_cons_zero, List.set_cons_succ])
  refine wpAnyH_take (i := 12) (v := .bool true) rfl (by kernel_rfl) (by kernel_rfl) (by kernel_rfl) (fun _ _ _ h => h) (Or.inl ⟨by kernel_rfl, by (intro w' hSw; have q0 := (World.cell?_of_block (w := w1) (a := ⟨bx, 0, none⟩) hSw).trans b0; have q1 := (World.cell?_of_block (w := w1) (a := ⟨bx, 1, none⟩) hSw).trans b1; have q2 := (World.cell?_of_block (w := w1) (a := ⟨bx, 2, none⟩) hSw).trans b2; have q3 := (World.cell?_of_block (w := w1) (a := ⟨bx, 3, none⟩) hSw).trans b3; have q4 := (World.cell?_of_block (w := w1) (a := ⟨bx, 4, none⟩) hSw).trans b4; have q5 := (World.cell?_of_block (w := w1) (a := ⟨bx, 5, none⟩) hSw).trans b5; have q6 := (World.cell?_of_block (w := w1) (a := ⟨bx, 6, none⟩) hSw).trans b6; have q7 := (World.cell?_of_block (w := w1) (a := ⟨bx, 7, none⟩) hSw).trans b7; have q8 := (World.cell?_of_block (w := w1) (a := ⟨bx, 8, none⟩) hSw).trans b8; go_simp; first | done | (with_reducible rfl) | rfl)⟩) hHeld ?_
  (try simp only [Act.put, List.getElem_toArray, List.getElem_cons_zero, List.getElem_cons_succ, List.setIfInBounds_toArray, List.set_cons_zero, List.set_cons_succ])
  refine wpAnyH_take (i := 13) (v := ?_) rfl (by kernel_rfl) (by kernel_rfl) (by kernel_rfl) (fun _ _ _ h => h) (Or.inl ⟨by kernel_rfl, by (intro w' hSw; have q0 := (World.cell?_of_block (w := w1) (a := ⟨bx, 0, none⟩) hSw).trans b0; have q1 := (World.cell?_of_block (w := w1) (a := ⟨bx, 1, none⟩) hSw).trans b1; have q2 := (World.cell?_of_block (w := w1) (a := ⟨bx, 2, none⟩) hSw).trans b2; have q3 := (World.cell?_of_block (w := w1) (a := ⟨bx, 3, none⟩) hSw).trans b3; have q4 := (World.cell?_of_block (w := w1) (a := ⟨bx, 4, none⟩) hSw).trans b4; have q5 := (World.cell?_of_block (w := w1) (a := ⟨bx, 5, none⟩) hSw).trans b5; have q6 := (World.cell?_of_block (w := w1) (a := ⟨bx, 6, none⟩) hSw).trans b6; have q7 := (World.cell?_of_block (w := w1) (a := ⟨bx, 7, none⟩) hSw).trans b7; have q8 := (World.cell?_of_block (w := w1) (a := ⟨bx, 8, none⟩) hSw).trans b8; go_simp; first | done | (with_reducible rfl) | rfl)⟩) hHeld ?_
  (try simp only [Act.put, List.getElem_toArray, List.getElem_cons_zero, List.getElem_cons_succ, List.setIfInBounds_toArray, List.set_cons_zero, List.set_cons_succ])
  refine wpAnyH_done (by kernel_rfl) ?_ _
  clear b0 b1 b2 b3 b4 b5 b6 b7 b8
  go_wp2_with fail
  go_ret
  exact HJ.out.fin H2.out HSP.out HRF.out HBO.out
set_option maxRecDepth 100000 in
set_option maxHeartbeats 2000000 in
theorem do_5 {w : World} {A : Ad} {R : Rd} {S : Sp} (h : Jt w A R S) (hcm : S.came ≤ 1000000) (a : Ac) (hw : a.wf) (hk : a.k = 5) :
    Calls Try.prog 12 #[.pointer (some ⟨A.b, 0, none⟩), .pointer (some ⟨R.b, 0, none⟩), .agg (actC a)] w (DoPost S A R w) := by
  obtain ⟨xk, xg, xs, xt, xu, xc⟩ := a
  dsimp only at hk
  subst hk
  obtain ⟨w1, hw1⟩ : ∃ w1, w1 = w.alloc (.cells (actC ⟨5, xg, xs, xt, xu, xc⟩) 38) := ⟨_, rfl⟩
  have hb1 : Below w.heap.size w w1 := by rw [hw1]; exact (Below.refl _ _).alloc (Nat.le_refl _) _
  have hblk : Blk w1 w.heap.size 38 (actC ⟨5, xg, xs, xt, xu, xc⟩) := by rw [hw1]; exact Blk.new w _ _
  obtain ⟨bx, hbx⟩ : ∃ bx, bx = w.heap.size := ⟨_, rfl⟩
  rw [← hbx] at hblk
  have hb2 : Below w.heap.size w (w1.drewN 1) := hb1.trans ((below_drewN_ _ _ _).mono (Nat.le_refl _))
  have hS1 := h.sp.below hb2
  have BX := Lib.hid (show (∀ k, A.own k → k ≠ bx) ∧ R.b ≠ bx ∧ bx < w1.heap.size from ⟨fun k hk e => by have := h.sp.lt hk; omega, by have := h.rf.head.lt; omega, hblk.lt⟩)
  have C1 := move_c hS1 h.lim h.j xg xs xu
  have C2 := Lib.hid (fun W (hR : RfAt W R S) => rfMove_c hR h.lim h.j xg xs xu)
  have HBO := Lib.hid (both_move h.j h.lim xg xs xu)
  have HJ := Lib.hid h
  have H2 := Lib.hid hb2
  have b0 := hblk.cell 0
  have b1 := hblk.cell 1
  have b2 := hblk.cell 2
  have b3 := hblk.cell 3
  have b4 := hblk.cell 4
  have b5 := hblk.cell 5
  have b6 := hblk.cell 6
  have b7 := hblk.cell 7
  have b8 := hblk.cell 8
  simp only [actC, List.getElem?_toArray, List.getElem?_cons_zero, List.getElem?_cons_succ] at b0 b1 b2 b3 b4 b5 b6 b7 b8
  obtain ⟨z, hz⟩ : ∃ z, z = (S.moveR xg xs xu).1 := ⟨_, rfl⟩
  rw [← hz] at C1 C2
  clear h hb1 hb2 hS1 hw hblk hz hcm
  unfold actC at hw1 ⊢
  (try unfold capV at C1 C2)
  go_enter Try.func12, Try.ntmps12
  go_wp2_with fail
  rw [← hw1, ← hbx]
  clear hw1 hbx
  go_wp2_with fail
  refine wp_region_held_drew (S := fun wx => wx.heap[bx]? = w1.heap[bx]?) (by kernel_rfl) rfl (fun hHeld => ?_)
  refine wpAnyH_take (i := 0) (v := ?_) rfl (by kernel_rfl) (by kernel_rfl) (by kernel_rfl) (fun _ _ _ h => h) (Or.inl ⟨by kernel_rfl, by (intro w' hSw; have q0 := (World.cell?_of_block (w := w1) (a := ⟨bx, 0, none⟩) hSw).trans b0; have q1 := (World.cell?_of_block (w := w1) (a := ⟨bx, 1, none⟩) hSw).trans b1; have q2 := (World.cell?_of_block (w := w1) (a := ⟨bx, 2, none⟩) hSw).trans b2; have q3 := (World.cell?_of_block (w := w1) (a := ⟨bx, 3, none⟩) hSw).trans b3; have q4 := (World.cell?_of_block (w := w1) (a := ⟨bx, 4, none⟩) hSw).trans b4; have q5 := (World.cell?_of_block (w := w1) (a := ⟨bx, 5, none⟩) hSw).trans b5; have q6 := (World.cell?_of_block (w := w1) (a := ⟨bx, 6, none⟩) hSw).trans b6; have q7 := (World.cell?_of_block (w := w1) (a := ⟨bx, 7, none⟩) hSw).trans b7; have q8 := (World.cell?_of_block (w := w1) (a := ⟨bx, 8, none⟩) hSw).trans b8; go_simp; first | done | (with_reducible rfl) | rfl)⟩) hHeld ?_
  (try simp only [Act.put, List.getElem_toArray, List.getElem_cons_zero, List.getElem_cons_succ, List.setIfInBounds_toArray, List.set_cons_zero, List.set_cons_succ])
  refine wpAnyH_take (i := 1) (v := ?_) rfl (by kernel_rfl) (by kernel_rfl) (by kernel_rfl) (fun _ _ _ h => h) (Or.inl ⟨by kernel_rfl, by (intro w' hSw; have q0 := (World.cell?_of_block (w := w1) (a := ⟨bx, 0, none⟩) hSw).trans b0; have q1 := (World.cell?_of_block (w := w1) (a := ⟨bx, 1, none⟩) hSw).trans b1; have q2 := (World.cell?_of_block (w := w1) (a := ⟨bx, 2, none⟩) hSw).trans b2; have q3 := (World.cell?_of_block (w := w1) (a := ⟨bx, 3, none⟩) hSw).trans b3; have q4 := (World.cell?_of_block (w := w1) (a := ⟨bx, 4, none⟩) hSw).trans b4; have q5 := (World.cell?_of_block (w := w1) (a := ⟨bx, 5, none⟩) hSw).trans b5; have q6 := (World.cell?_of_block (w := w1) (a := ⟨bx, 6, none⟩) hSw).trans b6; have q7 := (World.cell?_of_block (w := w1) (a := ⟨bx, 7, none⟩) hSw).trans b7; have q8 := (World.cell?_of_block (w := w1) (a := ⟨bx, 8, none⟩) hSw).trans b8; go_simp; first | done | (with_reducible rfl) | rfl)⟩) hHeld ?_
  (try simp only [Act.put, List.getElem_toArray, List.getElem_cons_zero, List.getElem_cons_succ, List.setIfInBounds_toArray, List.set_cons_zero, List.set_cons_succ])
  refine wpAnyH_take (i := 2) (v := ?_) rfl (by kernel_rfl) (by kernel_rfl) (by kernel_rfl) (fun _ _ _ h => h) (Or.inl ⟨by kernel_rfl, by (intro w' hSw; have q0 := (World.cell?_of_block (w := w1) (a := ⟨bx, 0, none⟩) hSw).trans b0; have q1 := (World.cell?_of_block (w := w1) (a := ⟨bx, 1, none⟩) hSw).trans b1; have q2 := (World.cell?_of_block (w := w1) (a := ⟨bx, 2, none⟩) hSw).trans b2; have q3 := (World.cell?_of_block (w := w1) (a := ⟨bx, 3, none⟩) hSw).trans b3; have q4 := (World.cell?_of_block (w := w1) (a := ⟨bx, 4, none⟩) hSw).trans b4; have q5 := (World.cell?_of_block (w := w1) (a := ⟨bx, 5, none⟩) hSw).trans b5; have q6 := (World.cell?_of_block (w := w1) (a := ⟨bx, 6, none⟩) hSw).trans b6; have q7 := (World.cell?_of_block (w := w1) (a := ⟨bx, 7, none⟩) hSw).trans b7; have q8 := (World.cell?_of_block (w := w1) (a := ⟨bx, 8, none⟩) hSw).trans b8; go_simp; first | done | (with_reducible rfl) | rfl)⟩) hHeld ?_
  (try simp only [Act.put, List.getElem_toArray, List.getElem_cons_zero, List.getElem_cons_succ, List.setIfInBounds_toArray, List.set_cons_zero, List.set_cons_succ])
  refine wpAnyH_take (i := 3) (v := ?_) rfl (by kernel_rfl) (by kernel_rfl) (by kernel_rfl) (fun _ _ _ h => h) (Or.inl ⟨by kernel_rfl, by (intro w' hSw; have q0 := (World.cell?_of_block (w := w1) (a := ⟨bx, 0, none⟩) hSw).trans b0; have q1 := (World.cell?_of_block (w := w1) (a := ⟨bx, 1, none⟩) hSw).trans b1; have q2 := (World.cell?_of_block (w := w1) (a := ⟨bx, 2, none⟩) hSw).trans b2; have q3 := (World.cell?_of_block (w := w1) (a := ⟨bx, 3, none⟩) hSw).trans b3; have q4 := (World.cell?_of_block (w := w1) (a := ⟨bx, 4, none⟩) hSw).trans b4; have q5 := (World.cell?_of_block (w := w1) (a := ⟨bx, 5, none⟩) hSw).trans b5; have q6 := (World.cell?_of_block (w := w1) (a := ⟨bx, 6, none⟩) hSw).trans b6; have q7 := (World.cell?_of_block (w := w1) (a := ⟨bx, 7, none⟩) hSw).trans b7; have q8 := (World.cell?_of_block (w := w1) (a := ⟨bx, 8, none⟩) hSw).trans b8; go_simp; first | done | (with_reducible rfl) | rfl)⟩) hHeld ?_
  (try simp only [Act.put, List.getElem_toArray, List.getElem_cons_zero, List.getElem_cons_succ, List.setIfInBounds_toArray, List.set_cons_zero, List.set_cons_succ])
  refine wpAnyH_take (i := 4) (v := ?_) rfl (by kernel_rfl) (by kernel_rfl) (by kernel_rfl) (fun _ _ _ h => h) (Or.inl ⟨by kernel_rfl, by (intro w' hSw; have q0 := (World.cell?_of_block (w := w1) (a := ⟨bx, 0, none⟩) hSw).trans b0; have q1 := (World.cell?_of_block (w := w1) (a := ⟨bx, 1, none⟩) hSw).trans b1; have q2 := (World.cell?_of_block (w := w1) (a := ⟨bx, 2, none⟩) hSw).trans b2; have q3 := (World.cell?_of_block (w := w1) (a := ⟨bx, 3, none⟩) hSw).trans b3; have q4 := (World.cell?_of_block (w := w1) (a := ⟨bx, 4, none⟩) hSw).trans b4; have q5 := (World.cell?_of_block (w := w1) (a := ⟨bx, 5, none⟩) hSw).trans b5; have q6 := (World.cell?_of_block (w := w1) (a := ⟨bx, 6, none⟩) hSw).trans b6; have q7 := (World.cell?_of_block (w := w1) (a := ⟨bx, 7, none⟩) hSw).trans b7; have q8 := (World.cell?_of_block (w := w1) (a := ⟨bx, 8, none⟩) hSw).trans b8; go_simp; first | done | (with_reducible rfl) | rfl)⟩) hHeld ?_
  (try simp only [Act.put, List.getElem_toArray, List.getElem_cons_zero, List.getElem_cons_succ, List.setIfInBounds_toArray, List.set_cons_zero, List.set_cons_succ])
  refine wpAnyH_take (i := 5) (v := ?_) rfl (by kernel_rfl) (by kernel_rfl) (by kernel_rfl) (fun _ _ _ h => h) (Or.inl ⟨by kernel_rfl, by (intro w' hSw; have q0 := (World.cell?_of_block (w := w1) (a := ⟨bx, 0, none⟩) hSw).trans b0; have q1 := (World.cell?_of_block (w := w1) (a := ⟨bx, 1, none⟩) hSw).trans b1; have q2 := (World.cell?_of_block (w := w1) (a := ⟨bx, 2, none⟩) hSw).trans b2; have q3 := (World.cell?_of_block (w := w1) (a := ⟨bx, 3, none⟩) hSw).trans b3; have q4 := (World.cell?_of_block (w := w1) (a := ⟨bx, 4, none⟩) hSw).trans b4; have q5 := (World.cell?_of_block (w := w1) (a := ⟨bx, 5, none⟩) hSw).trans b5; have q6 := (World.cell?_of_block (w := w1) (a := ⟨bx, 6, none⟩) hSw).trans b6; have q7 := (World.cell?_of_block (w := w1) (a := ⟨bx, 7, none⟩) hSw).trans b7; have q8 := (World.cell?_of_block (w := w1) (a := ⟨bx, 8, none⟩) hSw).trans b8; go_simp; first | done | (with_reducible rfl) | rfl)⟩) hHeld ?_
  (try simp only [Act.put, List.getElem_toArray, List.getElem_cons_zero, List.getElem_cons_succ, List.setIfInBounds_toArray, List.set_cons_zero, List.set_cons_succ])
  refine wpAnyH_take (i := 6) (v := ?_) rfl (by kernel_rfl) (by kernel_rfl) (by kernel_rfl) (fun _ _ _ h => h) (Or.inl ⟨by kernel_rfl, by (intro w' hSw; have q0 := (World.cell?_of_block (w := w1) (a := ⟨bx, 0, none⟩) hSw).trans b0; have q1 := (World.cell?_of_block (w := w1) (a := ⟨bx, 1, none⟩) hSw).trans b1; have q2 := (World.cell?_of_block (w := w1) (a := ⟨bx, 2, none⟩) hSw).trans b2; have q3 := (World.cell?_of_block (w := w1) (a := ⟨bx, 3, none⟩) hSw).trans b3; have q4 := (World.cell?_of_block (w := w1) (a := ⟨bx, 4, none⟩) hSw).trans b4; have q5 := (World.cell?_of_block (w := w1) (a := ⟨bx, 5, none⟩) hSw).trans b5; have q6 := (World.cell?_of_block (w := w1) (a := ⟨bx, 6, none⟩) hSw).trans b6; have q7 := (World.cell?_of_block (w := w1) (a := ⟨bx, 7, none⟩) hSw).trans b7; have q8 := (World.cell?_of_block (w := w1) (a := ⟨bx, 8, none⟩) hSw).trans b8; go_simp; first | done | (with_reducible rfl) | rfl)⟩) hHeld ?_
  (try simp only [Act.put, List.getElem_toArray, List.getElem_cons_zero, List.getElem_cons_succ, List.setIfInBounds_toArray, List.set_cons_zero, List.set_cons_succ])
  refine wpAnyH_take (i := 8) (v := ?_) rfl (by kernel_rfl) (by kernel_rfl) (by kernel_rfl) (fun _ _ _ h => h) (Or.inl ⟨by kernel_rfl, by (intro w' hSw; have q0 := (World.cell?_of_block (w := w1) (a := ⟨bx, 0, none⟩) hSw).trans b0; have q1 := (World.cell?_of_block (w := w1) (a := ⟨bx, 1, none⟩) hSw).trans b1; have q2 := (World.cell?_of_block (w := w1) (a := ⟨bx, 2, none⟩) hSw).trans b2; have q3 := (World.cell?_of_block (w := w1) (a := ⟨bx, 3, none⟩) hSw).trans b3; have q4 := (World.cell?_of_block (w := w1) (a := ⟨bx, 4, none⟩) hSw).trans b4; have q5 := (World.cell?_of_block (w := w1) (a := ⟨bx, 5, none⟩) hSw).trans b5; have q6 := (World.cell?_of_block (w := w1) (a := ⟨bx, 6, none⟩) hSw).trans b6; have q7 := (World.cell?_of_block (w := w1) (a := ⟨bx, 7, none⟩) hSw).trans b7; have q8 := (World.cell?_of_block (w := w1) (a := ⟨bx, 8, none⟩) hSw).trans b8; go_simp; first | done | (with_reducible rfl) | rfl)⟩) hHeld ?_
  (try simp only [Act.put, List.getElem_toArray, List.getElem_cons_zero, List.getElem_cons_succ, List.setIfInBounds_toArray, List.set_cons_zero, List.set_cons_succ])
  refine wpAnyH_take (i := 9) (v := ?_) rfl (by kernel_rfl) (by kernel_rfl) (by kernel_rfl) (fun _ _ _ h => h) (Or.inl ⟨by kernel_rfl, by (intro w' hSw; have q0 := (World.cell?_of_block (w := w1) (a := ⟨bx, 0, none⟩) hSw).trans b0; have q1 := (World.cell?_of_block (w := w1) (a := ⟨bx, 1, none⟩) hSw).trans b1; have q2 := (World.cell?_of_block (w := w1) (a := ⟨bx, 2, none⟩) hSw).trans b2; have q3 := (World.cell?_of_block (w := w1) (a := ⟨bx, 3, none⟩) hSw).trans b3; have q4 := (World.cell?_of_block (w := w1) (a := ⟨bx, 4, none⟩) hSw).trans b4; have q5 := (World.cell?_of_block (w := w1) (a := ⟨bx, 5, none⟩) hSw).trans b5; have q6 := (World.cell?_of_block (w := w1) (a := ⟨bx, 6, none⟩) hSw).trans b6; have q7 := (World.cell?_of_block (w := w1) (a := ⟨bx, 7, none⟩) hSw).trans b7; have q8 := (World.cell?_of_block (w := w1) (a := ⟨bx, 8, none⟩) hSw).trans b8; go_simp; first | done | (with_reducible rfl) | rfl)⟩) hHeld ?_
  (try simp only [Act.put, List.getElem_toArray, List.getElem_cons_zero, List.getElem_cons_succ, List.setIfInBounds_toArray, List.set_cons_zero, List.set_cons_succ])
  refine wpAnyH_take (i := 10) (v := ?_) rfl (by kernel_rfl) (by kernel_rfl) (by kernel_rfl) (fun _ _ _ h => h) (Or.inl ⟨by kernel_rfl, by (intro w' hSw; have q0 := (World.cell?_of_block (w := w1) (a := ⟨bx, 0, none⟩) hSw).trans b0; have q1 := (World.cell?_of_block (w := w1) (a := ⟨bx, 1, none⟩) hSw).trans b1; have q2 := (World.cell?_of_block (w := w1) (a := ⟨bx, 2, none⟩) hSw).trans b2; have q3 := (World.cell?_of_block (w := w1) (a := ⟨bx, 3, none⟩) hSw).trans b3; have q4 := (World.cell?_of_block (w := w1) (a := ⟨bx, 4, none⟩) hSw).trans b4; have q5 := (World.cell?_of_block (w := w1) (a := ⟨bx, 5, none⟩) hSw).trans b5; have q6 := (World.cell?_of_block (w := w1) (a := ⟨bx, 6, none⟩) hSw).trans b6; have q7 := (World.cell?_of_block (w := w1) (a := ⟨bx, 7, none⟩) hSw).trans b7; have q8 := (World.cell?_of_block (w := w1) (a := ⟨bx, 8, none⟩) hSw).trans b8; go_simp; first | done | (with_reducible rfl) | rfl)⟩) hHeld ?_
  (try simp only [Act.put, List.getElem_toArray, List.getElem_cons_zero, List.getElem_cons_succ, List.setIfInBounds_toArray, List.set_cons_zero, List.set_cons_succ])
  refine wpAnyH_take (i := 11) (v := ?_) rfl (by kernel_rfl) (by kernel_rfl) (by kernel_rfl) (fun _ _ _ h => h) (Or.inl ⟨by kernel_rfl, by (intro w' hSw; have q0 := (World.cell?_of_block (w := w1) (a := ⟨bx, 0, none⟩) hSw).trans b0; have q1 := (World.cell?_of_block (w := w1) (a := ⟨bx, 1, none⟩) hSw).trans b1; have q2 := (World.cell?_of_block (w := w1) (a := ⟨bx, 2, none⟩) hSw).trans b2; have q3 := (World.cell?_of_block (w := w1) (a := ⟨bx, 3, none⟩) hSw).trans b3; have q4 := (World.cell?_of_block (w := w1) (a := ⟨bx, 4, none⟩) hSw).trans b4; have q5 := (World.cell?_of_block (w := w1) (a := ⟨bx, 5, none⟩) hSw).trans b5; have q6 := (World.cell?_of_block (w := w1) (a := ⟨bx, 6, none⟩) hSw).trans b6; have q7 := (World.cell?_of_block (w := w1) (a := ⟨bx, 7, none⟩) hSw).trans b7; have q8 := (World.cell?_of_block (w := w1) (a := ⟨bx, 8, none⟩) hSw).trans b8; go_simp; first | done | (with_reducible rfl) | rfl)⟩) hHeld ?_
  (try simp only [Act.put, List.getElem_toArray, List.getElem_cons_zero, List.getElem_cons_succ, List.setIfInBounds_toArray, List.set_cons_zero, List.set_cons_succ])
  refine wpAnyH_take (i := 12) (v := ?_) rfl (by kernel_rfl) (by kernel_rfl) (by kernel_rfl) (fun _ _ _ h => h) (Or.inl ⟨by kernel_rfl, by (intro w' hSw; have q0 := (World.cell?_of_block (w := w1) (a := ⟨bx, 0, none⟩) hSw).trans b0; have q1 := (World.cell?_of_block (w := w1) (a := ⟨bx, 1, none⟩) hSw).trans b1; have q2 := (World.cell?_of_block (w := w1) (a := ⟨bx, 2, none⟩) hSw).trans b2; have q3 := (World.cell?_of_block (w := w1) (a := ⟨bx, 3, none⟩) hSw).trans b3; have q4 := (World.cell?_of_block (w := w1) (a := ⟨bx, 4, none⟩) hSw).trans b4; have q5 := (World.cell?_of_block (w := w1) (a := ⟨bx, 5, none⟩) hSw).trans b5; have q6 := (World.cell?_of_block (w := w1) (a := ⟨bx, 6, none⟩) hSw).trans b6; have q7 := (World.cell?_of_block (w := w1) (a := ⟨bx, 7, none⟩) hSw).trans b7; have q8 := (World.cell?_of_block (w := w1) (a := ⟨bx, 8, none⟩) hSw).trans b8; go_simp; first | done | (with_reducible rfl) | rfl)⟩) hHeld ?_
  (try simp only [Act.put, List.getElem_toArray, List.getElem_cons_zero, List.getElem_cons_succ, List.setIfInBounds_toArray, List.set_cons_zero, List.set_cons_succ])
  refine wpAnyH_take (i := 13) (v := ?_) rfl (by kernel_rfl) (by kernel_rfl) (by kernel_rfl) (fun _ _ _ h => h) (Or.inl ⟨by kernel_rfl, by (intro w' hSw; have q0 := (World.cell?_of_block (w := w1) (a := ⟨bx, 0, none⟩) hSw).trans b0; have q1 := (World.cell?_of_block (w := w1) (a := ⟨bx, 1, none⟩) hSw).trans b1; have q2 := (World.cell?_of_block (w := w1) (a := ⟨bx, 2, none⟩) hSw).trans b2; have q3 := (World.cell?_of_block (w := w1) (a := ⟨bx, 3, none⟩) hSw).trans b3; have q4 := (World.cell?_of_block (w := w1) (a := ⟨bx, 4, none⟩) hSw).trans b4; have q5 := (World.cell?_of_block (w := w1) (a := ⟨bx, 5, none⟩) hSw).trans b5; have q6 := (World.cell?_of_block (w := w1) (a := ⟨bx, 6, none⟩) hSw).trans b6; have q7 := (World.cell?_of_block (w := w1) (a := ⟨bx, 7, none⟩) hSw).trans b7; have q8 := (World.cell?_of_block (w := w1) (a := ⟨bx, 8, none⟩) hSw).trans b8; go_simp; first | done | (with_reducible rfl) | rfl)⟩) hHeld ?_
  (try simp only [Act.put, List.getElem_toArray, List.getElem_cons_zero, List.getElem_cons_succ, List.setIfInBounds_toArray, List.set_cons_zero, List.set_cons_succ])
  refine wpAnyH_take (i := 14) (v := ?_) rfl (by kernel_rfl) (by kernel_rfl) (by kernel_rfl) (fun _ _ _ h => h) (Or.inl ⟨by kernel_rfl, by (intro w' hSw; have q0 := (World.cell?_of_block (w := w1) (a := ⟨bx, 0, none⟩) hSw).trans b0; have q1 := (World.cell?_of_block (w := w1) (a := ⟨bx, 1, none⟩) hSw).trans b1; have q2 := (World.cell?_of_block (w := w1) (a := ⟨bx, 2, none⟩) hSw).trans b2; have q3 := (World.cell?_of_block (w := w1) (a := ⟨bx, 3, none⟩) hSw).trans b3; have q4 := (World.cell?_of_block (w := w1) (a := ⟨bx, 4, none⟩) hSw).trans b4; have q5 := (World.cell?_of_block (w := w1) (a := ⟨bx, 5, none⟩) hSw).trans b5; have q6 := (World.cell?_of_block (w := w1) (a := ⟨bx, 6, none⟩) hSw).trans b6; have q7 := (World.cell?_of_block (w := w1) (a := ⟨bx, 7, none⟩) hSw).trans b7; have q8 := (World.cell?_of_block (w := w1) (a := ⟨bx, 8, none⟩) hSw).trans b8; go_simp; first | done | (with_reducible rfl) | rfl)⟩) hHeld ?_
  (try simp only [Act.put, List.getElem_toArray, List.getElem_cons_zero, List.getElem_cons_succ, List.setIfInBounds_toArray, List.set_cons_zero, List.set_cons_succ])
  refine wpAnyH_ready (rs := [7]) (by kernel_rfl) (by simp) ?_
  refine AllReadyH.cons rfl (fun K hK => ?_) AllReadyH.nil
  go_simp
  go_at_call 25; refine C1.mono ?_; rintro e w2 ⟨rfl, hsp⟩; (have hX2 : w2.heap[bx]? = w1.heap[bx]? := hsp.block (by exact BX.out.2.2) (fun hk => BX.out.1 _ hk rfl)); (have C2w := C2.out w2 (HJ.out.rf_behind H2.out hsp)); (have HSP := Lib.hid hsp); clear hsp C1
  try dsimp only
  clear hHeld
  refine hK.out _ _ hX2 (fun hHeld => ?_)
  clear hK K
  (try simp only [Act.put, List.getElem_toArray, List.getElem_cons_zero, List.getElem_cons_succ, List.setIfInBounds_toArray, List.set_cons_zero, List.set_cons_succ])
  refine wpAnyH_ready (rs := [15]) (by kernel_rfl) (by simp) ?_
  refine AllReadyH.cons rfl (fun K hK => ?_) AllReadyH.nil
  go_simp
  go_at_call 43; refine C2w.mono ?_; rintro e w3 ⟨rfl, hrf⟩; (have hX3 : w3.heap[bx]? = w1.heap[bx]? := (hrf.block (by have := HSP.out.size; have h9 := BX.out.2.2; exact Nat.lt_of_lt_of_le h9 this) (fun hk => BX.out.2.1 hk.symm)).trans hX2); (have HRF := Lib.hid hrf); clear hrf C2w
  try dsimp only
  clear hHeld
  refine hK.out _ _ hX3 (fun hHeld => ?_)
  clear hK K
  (try simp only [Act.put, List.getElem_toArray, List.getElem_cons_zero, List.getElem_cons_succ, List.setIfInBounds_toArray, List.set_cons_zero, List.set_cons_succ])
  refine wpAnyH_take (i := 16) (v := .bool true) rfl (by kernel_rfl) (by kernel_rfl) (by kernel_rfl) (fun _ _ _ h => h) (Or.inl ⟨by kernel_rfl, by (intro w' hSw; have q0 := (World.cell?_of_block (w := w1) (a := ⟨bx, 0, none⟩) hSw).trans b0; have q1 := (World.cell?_of_block (w := w1) (a := ⟨bx, 1, none⟩) hSw).trans b1; have q2 := (World.cell?_of_block (w := w1) (a := ⟨bx, 2, none⟩) hSw).trans b2; have q3 := (World.cell?_of_block (w := w1) (a := ⟨bx, 3, none⟩) hSw).trans b3; have q4 := (World.cell?_of_block (w := w1) (a := ⟨bx, 4, none⟩) hSw).trans b4; have q5 := (World.cell?_of_block (w := w1) (a := ⟨bx, 5, none⟩) hSw).trans b5; have q6 := (World.cell?_of_block (w := w1) (a := ⟨bx, 6, none⟩) hSw).trans b6; have q7 := (World.cell?_of_block (w := w1) (a := ⟨bx, 7, none⟩) hSw).trans b7; have q8 := (World.cell?_of_block (w := w1) (a := ⟨bx, 8, none⟩) hSw).trans b8; go_simp; first | done | (with_reducible rfl) | rfl)⟩) hHeld ?_
  (try simp only [Act.put, List.getElem_toArray, List.getElem_cons_zero, List.getElem_cons_succ, List.setIfInBounds_toArray, List.set_cons_zero, List.set_cons_succ])
  refine wpAnyH_take (i := 17) (v := ?_) rfl (by kernel_rfl) (by kernel_rfl) (by kernel_rfl) (fun _ _ _ h => h) (Or.inl ⟨by kernel_rfl, by (intro w' hSw; have q0 := (World.cell?_of_block (w := w1) (a := ⟨bx, 0, none⟩) hSw).trans b0; have q1 := (World.cell?_of_block (w := w1) (a := ⟨bx, 1, none⟩) hSw).trans b1; have q2 := (World.cell?_of_block (w := w1) (a := ⟨bx, 2, none⟩) hSw).trans b2; have q3 := (World.cell?_of_block (w := w1) (a := ⟨bx, 3, none⟩) hSw).trans b3; have q4 := (World.cell?_of_block (w := w1) (a := ⟨bx, 4, none⟩) hSw).trans b4; have q5 := (World.cell?_of_block (w := w1) (a := ⟨bx, 5, none⟩) hSw).trans b5; have q6 := (World.cell?_of_block (w := w1) (a := ⟨bx, 6, none⟩) hSw).trans b6; have q7 := (World.cell?_of_block (w := w1) (a := ⟨bx, 7, none⟩) hSw).trans b7; have q8 := (World.cell?_of_block (w := w1) (a := ⟨bx, 8, none⟩) hSw).trans b8; go_simp; first | done | (with_reducible rfl) | rfl)⟩) hHeld ?_
  (try simp only [Act.put, List.getElem_toArray, List.getElem_cons_zero, List.getElem_cons_succ, List.setIfInBounds_toArray, List.set_cons_zero, List.set_cons_succ])
  refine wpAnyH_done (by kernel_rfl) ?_ _
  clear b0 b1 b2 b3 b4 b5 b6 b7 b8
  go_wp2_with fail
  go_ret
  exact HJ.out.fin H2.out HSP.out HRF.out HBO.out
set_option maxRecDepth 100000 in
set_option maxHeartbeats 2000000 in
theorem do_6 {w : World} {A : Ad} {R : Rd} {S : Sp} (h : Jt w A R S) (hcm : S.came ≤ 1000000) (a : Ac) (hw : a.wf) (hk : a.k = 6) :
    Calls Try.prog 12 #[.pointer (some ⟨A.b, 0, none⟩), .pointer (some ⟨R.b, 0, none⟩), .agg (actC a)] w (DoPost S A R w) := by
  obtain ⟨xk, xg, xs, xt, xu, xc⟩ := a
  dsimp only at hk
  subst hk
  obtain ⟨w1, hw1⟩ : ∃ w1, w1 = w.alloc (.cells (actC ⟨6, xg, xs, xt, xu, xc⟩) 38) := ⟨_, rfl⟩
  have hb1 : Below w.heap.size w w1 := by rw [hw1]; exact (Below.refl _ _).alloc (Nat.le_refl _) _
  have hblk : Blk w1 w.heap.size 38 (actC ⟨6, xg, xs, xt, xu, xc⟩) := by rw [hw1]; exact Blk.new w _ _
  obtain ⟨bx, hbx⟩ : ∃ bx, bx = w.heap.size := ⟨_, rfl⟩
  rw [← hbx] at hblk
  have hb2 : Below w.heap.size w (w1.drewN 1) := hb1.trans ((below_drewN_ _ _ _).mono (Nat.le_refl _))
  have hS1 := h.sp.below hb2
  have BX := Lib.hid (show (∀ k, A.own k → k ≠ bx) ∧ R.b ≠ bx ∧ bx < w1.heap.size from ⟨fun k hk e => by have := h.sp.lt hk; omega, by have := h.rf.head.lt; omega, hblk.lt⟩)
  have C1 := del_c hS1 h.lim h.j xg xs
  have C2 := Lib.hid (fun W (hR : RfAt W R S) => rfDel_c hR h.lim h.j xg xs)
  have HBO := Lib.hid (both_del1 h.j h.lim xg xs)
  have HJ := Lib.hid h
  have H2 := Lib.hid hb2
  have b0 := hblk.cell 0
  have b1 := hblk.cell 1
  have b2 := hblk.cell 2
  have b3 := hblk.cell 3
  have b4 := hblk.cell 4
  have b5 := hblk.cell 5
  have b6 := hblk.cell 6
  have b7 := hblk.cell 7
  have b8 := hblk.cell 8
  simp only [actC, List.getElem?_toArray, List.getElem?_cons_zero, List.getElem?_cons_succ] at b0 b1 b2 b3 b4 b5 b6 b7 b8
  obtain ⟨z, hz⟩ : ∃ z, z = (S.full xg xs) := ⟨_, rfl⟩
  rw [← hz] at C1 C2
  clear h hb1 hb2 hS1 hw hblk hz hcm
  unfold actC at hw1 ⊢
  (try unfold capV at C1 C2)
  go_enter Try.func12, Try.ntmps12
  go_wp2_with fail
  rw [← hw1, ← hbx]
  clear hw1 hbx
  go_wp2_with fail
  refine wp_region_held_drew (S := fun wx => wx.heap[bx]? = w1.heap[bx]?) (by kernel_rfl) rfl (fun hHeld => ?_)
  refine wpAnyH_take (i := 0) (v := ?_) rfl (by kernel_rfl) (by kernel_rfl) (by kernel_rfl) (fun _ _ _ h => h) (Or.inl ⟨by kernel_rfl, by (intro w' hSw; have q0 := (World.cell?_of_block (w := w1) (a := ⟨bx, 0, none⟩) hSw).trans b0; have q1 := (World.cell?_of_block (w := w1) (a := ⟨bx, 1, none⟩) hSw).trans b1; have q2 := (World.cell?_of_block (w := w1) (a := ⟨bx, 2, none⟩) hSw).trans b2; have q3 := (World.cell?_of_block (w := w1) (a := ⟨bx, 3, none⟩) hSw).trans b3; have q4 := (World.cell?_of_block (w := w1) (a := ⟨bx, 4, none⟩) hSw).trans b4; have q5 := (World.cell?_of_block (w := w1) (a := ⟨bx, 5, none⟩) hSw).trans b5; have q6 := (World.cell?_of_block (w := w1) (a := ⟨bx, 6, none⟩) hSw).trans b6; have q7 := (World.cell?_of_block (w := w1) (a := ⟨bx, 7, none⟩) hSw).trans b7; have q8 := (World.cell?_of_block (w := w1) (a := ⟨bx, 8, none⟩) hSw).trans b8; go_simp; first | done | (with_reducible rfl) | rfl)⟩) hHeld ?_
  (try simp only [Act.put, List.getElem_toArray, List.getElem_cons_zero, List.getElem_cons_succ, List.setIfInBounds_toArray, List.set_cons_zero, List.set_cons_succ])
  refine wpAnyH_take (i := 1) (v := ?_) rfl (by kernel_rfl) (by kernel_rfl) (by kernel_rfl) (fun _ _ _ h => h) (Or.inl ⟨by kernel_rfl, by (intro w' hSw; have q0 := (World.cell?_of_block (w := w1) (a := ⟨bx, 0, none⟩) hSw).trans b0; have q1 := (World.cell?_of_block (w := w1) (a := ⟨bx, 1, none⟩) hSw).trans b1; have q2 := (World.cell?_of_block (w := w1) (a := ⟨bx, 2, none⟩) hSw).trans b2; have q3 := (World.cell?_of_block (w := w1) (a := ⟨bx, 3, none⟩) hSw).trans b3; have q4 := (World.cell?_of_block (w := w1) (a := ⟨bx, 4, none⟩) hSw).trans b4; have q5 := (World.cell?_of_block (w := w1) (a := ⟨bx, 5, none⟩) hSw).trans b5; have q6 := (World.cell?_of_block (w := w1) (a := ⟨bx, 6, none⟩) hSw).trans b6; have q7 := (World.cell?_of_block (w := w1) (a := ⟨bx, 7, none⟩) hSw).trans b7; have q8 := (World.cell?_of_block (w := w1) (a := ⟨bx, 8, none⟩) hSw).trans b8; go_simp; first | done | (with_reducible rfl) | rfl)⟩) hHeld ?_
  (try simp only [Act.put, List.getElem_toArray, List.getElem_cons_zero, List.getElem_cons_succ, List.setIfInBounds_toArray, List.set_cons_zero, List.set_cons_succ])
  refine wpAnyH_take (i := 2) (v := ?_) rfl (by kernel_rfl) (by kernel_rfl) (by kernel_rfl) (fun _ _ _ h => h) (Or.inl ⟨by kernel_rfl, by (intro w' hSw; have q0 := (World.cell?_of_block (w := w1) (a := ⟨bx, 0, none⟩) hSw).trans b0; have q1 := (World.cell?_of_block (w := w1) (a := ⟨bx, 1, none⟩) hSw).trans b1; have q2 := (World.cell?_of_block (w := w1) (a := ⟨bx, 2, none⟩) hSw).trans b2; have q3 := (World.cell?_of_block (w := w1) (a := ⟨bx, 3, none⟩) hSw).trans b3; have q4 := (World.cell?_of_block (w := w1) (a := ⟨bx, 4, none⟩) hSw).trans b4; have q5 := (World.cell?_of_block (w := w1) (a := ⟨bx, 5, none⟩) hSw).trans b5; have q6 := (World.cell?_of_block (w := w1) (a := ⟨bx, 6, none⟩) hSw).trans b6; have q7 := (World.cell?_of_block (w := w1) (a := ⟨bx, 7, none⟩) hSw).trans b7; have q8 := (World.cell?_of_block (w := w1) (a := ⟨bx, 8, none⟩) hSw).trans b8; go_simp; first | done | (with_reducible rfl) | rfl)⟩) hHeld ?_
  (try simp only [Act.put, List.getElem_toArray, List.getElem_cons_zero, List.getElem_cons_succ, List.setIfInBounds_toArray, List.set_cons_zero, List.set_cons_succ])
  refine wpAnyH_take (i := 3) (v := ?_) rfl (by kernel_rfl) (by kernel_rfl) (by kernel_rfl) (fun _ _ _ h => h) (Or.inl ⟨by kernel_rfl, by (intro w' hSw; have q0 := (World.cell?_of_block (w := w1) (a := ⟨bx, 0, none⟩) hSw).trans b0; have q1 := (World.cell?_of_block (w := w1) (a := ⟨bx, 1, none⟩) hSw).trans b1; have q2 := (World.cell?_of_block (w := w1) (a := ⟨bx, 2, none⟩) hSw).trans b2; have q3 := (World.cell?_of_block (w := w1) (a := ⟨bx, 3, none⟩) hSw).trans b3; have q4 := (World.cell?_of_block (w := w1) (a := ⟨bx, 4, none⟩) hSw).trans b4; have q5 := (World.cell?_of_block (w := w1) (a := ⟨bx, 5, none⟩) hSw).trans b5; have q6 := (World.cell?_of_block (w := w1) (a := ⟨bx, 6, none⟩) hSw).trans b6; have q7 := (World.cell?_of_block (w := w1) (a := ⟨bx, 7, none⟩) hSw).trans b7; have q8 := (World.cell?_of_block (w := w1) (a := ⟨bx, 8, none⟩) hSw).trans b8; go_simp; first | done | (with_reducible rfl) | rfl)⟩) hHeld ?_
  (try simp only [Act.put, List.getElem_toArray, List.getElem_cons_zero, List.getElem_cons_succ, List.setIfInBounds_toArray, List.set_cons_zero, List.set_cons_succ])
  refine wpAnyH_take (i := 4) (v := ?_) rfl (by kernel_rfl) (by kernel_rfl) (by kernel_rfl) (fun _ _ _ h => h) (Or.inl ⟨by kernel_rfl, by (intro w' hSw; have q0 := (World.cell?_of_block (w := w1) (a := ⟨bx, 0, none⟩) hSw).trans b0; have q1 := (World.cell?_of_block (w := w1) (a := ⟨bx, 1, none⟩) hSw).trans b1; have q2 := (World.cell?_of_block (w := w1) (a := ⟨bx, 2, none⟩) hSw).trans b2; have q3 := (World.cell?_of_block (w := w1) (a := ⟨bx, 3, none⟩) hSw).trans b3; have q4 := (World.cell?_of_block (w := w1) (a := ⟨bx, 4, none⟩) hSw).trans b4; have q5 := (World.cell?_of_block (w := w1) (a := ⟨bx, 5, none⟩) hSw).trans b5; have q6 := (World.cell?_of_block (w := w1) (a := ⟨bx, 6, none⟩) hSw).trans b6; have q7 := (World.cell?_of_block (w := w1) (a := ⟨bx, 7, none⟩) hSw).trans b7; have q8 := (World.cell?_of_block (w := w1) (a := ⟨bx, 8, none⟩) hSw).trans b8; go_simp; first | done | (with_reducible rfl) | rfl)⟩) hHeld ?_
  (try simp only [Act.put, List.getElem_toArray, List.getElem_cons_zero, List.getElem_cons_succ, List.setIfInBounds_toArray, List.set_cons_zero, List.set_cons_succ])
  refine wpAnyH_take (i := 6) (v := ?_) rfl (by kernel_rfl) (by kernel_rfl) (by kernel_rfl) (fun _ _ _ h => h) (Or.inl ⟨by kernel_rfl, by (intro w' hSw; have q0 := (World.cell?_of_block (w := w1) (a := ⟨bx, 0, none⟩) hSw).trans b0; have q1 := (World.cell?_of_block (w := w1) (a := ⟨bx, 1, none⟩) hSw).trans b1; have q2 := (World.cell?_of_block (w := w1) (a := ⟨bx, 2, none⟩) hSw).trans b2; have q3 := (World.cell?_of_block (w := w1) (a := ⟨bx, 3, none⟩) hSw).trans b3; have q4 := (World.cell?_of_block (w := w1) (a := ⟨bx, 4, none⟩) hSw).trans b4; have q5 := (World.cell?_of_block (w := w1) (a := ⟨bx, 5, none⟩) hSw).trans b5; have q6 := (World.cell?_of_block (w := w1) (a := ⟨bx, 6, none⟩) hSw).trans b6; have q7 := (World.cell?_of_block (w := w1) (a := ⟨bx, 7, none⟩) hSw).trans b7; have q8 := (World.cell?_of_block (w := w1) (a := ⟨bx, 8, none⟩) hSw).trans b8; go_simp; first | done | (with_reducible rfl) | rfl)⟩) hHeld ?_
  (try simp only [Act.put, List.getElem_toArray, List.getElem_cons_zero, List.getElem_cons_succ, List.setIfInBounds_toArray, List.set_cons_zero, List.set_cons_succ])
  refine wpAnyH_take (i := 7) (v := ?_) rfl (by kernel_rfl) (by kernel_rfl) (by kernel_rfl) (fun _ _ _ h => h) (Or.inl ⟨by kernel_rfl, by (intro w' hSw; have q0 := (World.cell?_of_block (w := w1) (a := ⟨bx, 0, none⟩) hSw).trans b0; have q1 := (World.cell?_of_block (w := w1) (a := ⟨bx, 1, none⟩) hSw).trans b1; have q2 := (World.cell?_of_block (w := w1) (a := ⟨bx, 2, none⟩) hSw).trans b2; have q3 := (World.cell?_of_block (w := w1) (a := ⟨bx, 3, none⟩) hSw).trans b3; have q4 := (World.cell?_of_block (w := w1) (a := ⟨bx, 4, none⟩) hSw).trans b4; have q5 := (World.cell?_of_block (w := w1) (a := ⟨bx, 5, none⟩) hSw).trans b5; have q6 := (World.cell?_of_block (w := w1) (a := ⟨bx, 6, none⟩) hSw).trans b6; have q7 := (World.cell?_of_block (w := w1) (a := ⟨bx, 7, none⟩) hSw).trans b7; have q8 := (World.cell?_of_block (w := w1) (a := ⟨bx, 8, none⟩) hSw).trans b8; go_simp; first | done | (with_reducible rfl) | rfl)⟩) hHeld ?_
  (try simp only [Act.put, List.getElem_toArray, List.getElem_cons_zero, List.getElem_cons_succ, List.setIfInBounds_toArray, List.set_cons_zero, List.set_cons_succ])
  refine wpAnyH_take (i := 8) (v := ?_) rfl (by kernel_rfl) (by kernel_rfl) (by kernel_rfl) (fun _ _ _ h => h) (Or.inl ⟨by kernel_rfl, by (intro w' hSw; have q0 := (World.cell?_of_block (w := w1) (a := ⟨bx, 0, none⟩) hSw).trans b0; have q1 := (World.cell?_of_block (w := w1) (a := ⟨bx, 1, none⟩) hSw).trans b1; have q2 := (World.cell?_of_block (w := w1) (a := ⟨bx, 2, none⟩) hSw).trans b2; have q3 := (World.cell?_of_block (w := w1) (a := ⟨bx, 3, none⟩) hSw).trans b3; have q4 := (World.cell?_of_block (w := w1) (a := ⟨bx, 4, none⟩) hSw).trans b4; have q5 := (World.cell?_of_block (w := w1) (a := ⟨bx, 5, none⟩) hSw).trans b5; have q6 := (World.cell?_of_block (w := w1) (a := ⟨bx, 6, none⟩) hSw).trans b6; have q7 := (World.cell?_of_block (w := w1) (a := ⟨bx, 7, none⟩) hSw).trans b7; have q8 := (World.cell?_of_block (w := w1) (a := ⟨bx, 8, none⟩) hSw).trans b8; go_simp; first | done | (with_reducible rfl) | rfl)⟩) hHeld ?_
  (try simp only [Act.put, List.getElem_toArray, List.getElem_cons_zero, List.getElem_cons_succ, List.setIfInBounds_toArray, List.set_cons_zero, List.set_cons_succ])
  refine wpAnyH_take (i := 9) (v := ?_) rfl (by kernel_rfl) (by kernel_rfl) (by kernel_rfl) (fun _ _ _ h => h) (Or.inl ⟨by kernel_rfl, by (intro w' hSw; have q0 := (World.cell?_of_block (w := w1) (a := ⟨bx, 0, none⟩) hSw).trans b0; have q1 := (World.cell?_of_block (w := w1) (a := ⟨bx, 1, none⟩) hSw).trans b1; have q2 := (World.cell?_of_block (w := w1) (a := ⟨bx, 2, none⟩) hSw).trans b2; have q3 := (World.cell?_of_block (w := w1) (a := ⟨bx, 3, none⟩) hSw).trans b3; have q4 := (World.cell?_of_block (w := w1) (a := ⟨bx, 4, none⟩) hSw).trans b4; have q5 := (World.cell?_of_block (w := w1) (a := ⟨bx, 5, none⟩) hSw).trans b5; have q6 := (World.cell?_of_block (w := w1) (a := ⟨bx, 6, none⟩) hSw).trans b6; have q7 := (World.cell?_of_block (w := w1) (a := ⟨bx, 7, none⟩) hSw).trans b7; have q8 := (World.cell?_of_block (w := w1) (a := ⟨bx, 8, none⟩) hSw).trans b8; go_simp; first | done | (with_reducible rfl) | rfl)⟩) hHeld ?_
  (try simp only [Act.put, List.getElem_toArray, List.getElem_cons_zero, List.getElem_cons_succ, List.setIfInBounds_toArray, List.set_cons_zero, List.set_cons_succ])
  refine wpAnyH_take (i := 10) (v := ?_) rfl (by kernel_rfl) (by kernel_rfl) (by kernel_rfl) (fun _ _ _ h => h) (Or.inl ⟨by kernel_rfl, by (intro w' hSw; have q0 := (World.cell?_of_block (w := w1) (a := ⟨bx, 0, none⟩) hSw).trans b0; have q1 := (World.cell?_of_block (w := w1) (a := ⟨bx, 1, none⟩) hSw).trans b1; have q2 := (World.cell?_of_block (w := w1) (a := ⟨bx, 2, none⟩) hSw).trans b2; have q3 := (World.cell?_of_block (w := w1) (a := ⟨bx, 3, none⟩) hSw).trans b3; have q4 := (World.cell?_of_block (w := w1) (a := ⟨bx, 4, none⟩) hSw).trans b4; have q5 := (World.cell?_of_block (w := w1) (a := ⟨bx, 5, none⟩) hSw).trans b5; have q6 := (World.cell?_of_block (w := w1) (a := ⟨bx, 6, none⟩) hSw).trans b6; have q7 := (World.cell?_of_block (w := w1) (a := ⟨bx, 7, none⟩) hSw).trans b7; have q8 := (World.cell?_of_block (w := w1) (a := ⟨bx, 8, none⟩) hSw).trans b8; go_simp; first | done | (with_reducible rfl) | rfl)⟩) hHeld ?_
  (try simp only [Act.put, List.getElem_toArray, List.getElem_cons_zero, List.getElem_cons_succ, List.setIfInBounds_toArray, List.set_cons_zero, List.set_cons_succ])
  refine wpAnyH_ready (rs := [5]) (by kernel_rfl) (by simp) ?_
  refine AllReadyH.cons rfl (fun K hK => ?_) AllReadyH.nil
  go_simp
  go_at_call 33; refine C1.mono ?_; rintro e w2 ⟨rfl, hsp⟩; (have hX2 : w2.heap[bx]? = w1.heap[bx]? := hsp.block (by exact BX.out.2.2) (fun hk => BX.out.1 _ hk rfl)); (have C2w := C2.out w2 (HJ.out.rf_behind H2.out hsp)); (have HSP := Lib.hid hsp); clear hsp C1
  try dsimp only
  clear hHeld
  refine hK.out _ _ hX2 (fun hHeld => ?_)
  clear hK K
  (try simp only [Act.put, List.getElem_toArray, List.getElem_cons_zero, List.getElem_cons_succ, List.setIfInBounds_toArray, List.set_cons_zero, List.set_cons_succ])
  refine wpAnyH_ready (rs := [11]) (by kernel_rfl) (by simp) ?_
  refine AllReadyH.cons rfl (fun K hK => ?_) AllReadyH.nil
  go_simp
  go_at_call 44; refine C2w.mono ?_; rintro e w3 ⟨rfl, hrf⟩; (have hX3 : w3.heap[bx]? = w1.heap[bx]? := (hrf.block (by have := HSP.out.size; have h9 := BX.out.2.2; exact Nat.lt_of_lt_of_le h9 this) (fun hk => BX.out.2.1 hk.symm)).trans hX2); (have HRF := Lib.hid hrf); clear hrf C2w
  try dsimp only
  clear hHeld
  refine hK.out _ _ hX3 (fun hHeld => ?_)
  clear hK K
  (try simp only [Act.put, List.getElem_toArray, List.getElem_cons_zero, List.getElem_cons_succ, List.setIfInBounds_toArray, List.set_cons_zero, List.set_cons_succ])
  refine wpAnyH_take (i := 12) (v := .bool true) rfl (by kernel_rfl) (by kernel_rfl) (by kernel_rfl) (fun _ _ _ h => h) (Or.inl ⟨by kernel_rfl, by (intro w' hSw; have q0 := (World.cell?_of_block (w := w1) (a := ⟨bx, 0, none⟩) hSw).trans b0; have q1 := (World.cell?_of_block (w := w1) (a := ⟨bx, 1, none⟩) hSw).trans b1; have q2 := (World.cell?_of_block (w := w1) (a := ⟨bx, 2, none⟩) hSw).trans b2; have q3 := (World.cell?_of_block (w := w1) (a := ⟨bx, 3, none⟩) hSw).trans b3; have q4 := (World.cell?_of_block (w := w1) (a := ⟨bx, 4, none⟩) hSw).trans b4; have q5 := (World.cell?_of_block (w := w1) (a := ⟨bx, 5, none⟩) hSw).trans b5; have q6 := (World.cell?_of_block (w := w1) (a := ⟨bx, 6, none⟩) hSw).trans b6; have q7 := (World.cell?_of_block (w := w1) (a := ⟨bx, 7, none⟩) hSw).trans b7; have q8 := (World.cell?_of_block (w := w1) (a := ⟨bx, 8, none⟩) hSw).trans b8; go_simp; first | done | (with_reducible rfl) | rfl)⟩) hHeld ?_
  (try simp only [Act.put, List.getElem_toArray, List.getElem_cons_zero, List.getElem_cons_succ, List.setIfInBounds_toArray, List.set_cons_zero, List.set_cons_succ])
  refine wpAnyH_take (i := 13) (v := ?_) rfl (by kernel_rfl) (by kernel_rfl) (by kernel_rfl) (fun _ _ _ h => h) (Or.inl ⟨by kernel_rfl, by (intro w' hSw; have q0 := (World.cell?_of_block (w := w1) (a := ⟨bx, 0, none⟩) hSw).trans b0; have q1 := (World.cell?_of_block (w := w1) (a := ⟨bx, 1, none⟩) hSw).trans b1; have q2 := (World.cell?_of_block (w := w1) (a := ⟨bx, 2, none⟩) hSw).trans b2; have q3 := (World.cell?_of_block (w := w1) (a := ⟨bx, 3, none⟩) hSw).trans b3; have q4 := (World.cell?_of_block (w := w1) (a := ⟨bx, 4, none⟩) hSw).trans b4; have q5 := (World.cell?_of_block (w := w1) (a := ⟨bx, 5, none⟩) hSw).trans b5; have q6 := (World.cell?_of_block (w := w1) (a := ⟨bx, 6, none⟩) hSw).trans b6; have q7 := (World.cell?_of_block (w := w1) (a := ⟨bx, 7, none⟩) hSw).trans b7; have q8 := (World.cell?_of_block (w := w1) (a := ⟨bx, 8, none⟩) hSw).trans b8; go_simp; first | done | (with_reducible rfl) | rfl)⟩) hHeld ?_
  (try simp only [Act.put, List.getElem_toArray, List.getElem_cons_zero, List.getElem_cons_succ, List.setIfInBounds_toArray, List.set_cons_zero, List.set_cons_succ])
  refine wpAnyH_done (by kernel_rfl) ?_ _
  clear b0 b1 b2 b3 b4 b5 b6 b7 b8
  go_wp2_with fail
  go_ret
  exact HJ.out.fin H2.out HSP.out HRF.out HBO.out
set_option maxRecDepth 100000 in
set_option maxHeartbeats 2000000 in
theorem do_8 {w : World} {A : Ad} {R : Rd} {S : Sp} (h : Jt w A R S) (hcm : S.came ≤ 1000000) (a : Ac) (hw : a.wf) (hk : a.k = 8) :
    Calls Try.prog 12 #[.pointer (some ⟨A.b, 0, none⟩), .pointer (some ⟨R.b, 0, none⟩), .agg (actC a)] w (DoPost S A R w) := by
  obtain ⟨xk, xg, xs, xt, xu, xc⟩ := a
  dsimp only at hk
  subst hk
  obtain ⟨w1, hw1⟩ : ∃ w1, w1 = w.alloc (.cells (actC ⟨8, xg, xs, xt, xu, xc⟩) 38) := ⟨_, rfl⟩
  have hb1 : Below w.heap.size w w1 := by rw [hw1]; exact (Below.refl _ _).alloc (Nat.le_refl _) _
  have hblk : Blk w1 w.heap.size 38 (actC ⟨8, xg, xs, xt, xu, xc⟩) := by rw [hw1]; exact Blk.new w _ _
  obtain ⟨bx, hbx⟩ : ∃ bx, bx = w.heap.size := ⟨_, rfl⟩
  rw [← hbx] at hblk
  have hb2 : Below w.heap.size w (w1.drewN 1) := hb1.trans ((below_drewN_ _ _ _).mono (Nat.le_refl _))
  have hS1 := h.sp.below hb2
  have BX := Lib.hid (show (∀ k, A.own k → k ≠ bx) ∧ R.b ≠ bx ∧ bx < w1.heap.size from ⟨fun k hk e => by have := h.sp.lt hk; omega, by have := h.rf.head.lt; omega, hblk.lt⟩)
  have C1 := clr_c hS1 h.lim h.j xg
  have C2 := Lib.hid (fun W (hR : RfAt W R S) => rfClr_c hR h.lim h.j xg)
  have HBO := Lib.hid (both_clr h.j h.lim xg (S.caps xg))
  have HJ := Lib.hid h
  have H2 := Lib.hid hb2
  have b0 := hblk.cell 0
  have b1 := hblk.cell 1
  have b2 := hblk.cell 2
  have b3 := hblk.cell 3
  have b4 := hblk.cell 4
  have b5 := hblk.cell 5
  have b6 := hblk.cell 6
  have b7 := hblk.cell 7
  have b8 := hblk.cell 8
  simp only [actC, List.getElem?_toArray, List.getElem?_cons_zero, List.getElem?_cons_succ] at b0 b1 b2 b3 b4 b5 b6 b7 b8
  obtain ⟨z, hz⟩ : ∃ z, z = ((S.caps xg).length : Int) := ⟨_, rfl⟩
  rw [← hz] at C1 C2
  clear h hb1 hb2 hS1 hw hblk hz hcm
  unfold actC at hw1 ⊢
  (try unfold capV at C1 C2)
  go_enter Try.func12, Try.ntmps12
  go_wp2_with fail
  rw [← hw1, ← hbx]
  clear hw1 hbx
  go_wp2_with fail
  refine wp_region_held_drew (S := fun wx => wx.heap[bx]? = w1.heap[bx]?) (by kernel_rfl) rfl (fun hHeld => ?_)
  refine wpAnyH_take (i := 0) (v := ?_) rfl (by kernel_rfl) (by kernel_rfl) (by kernel_rfl) (fun _ _ _ h => h) (Or.inl ⟨by kernel_rfl, by (intro w' hSw; have q0 := (World.cell?_of_block (w := w1) (a := ⟨bx, 0, none⟩) hSw).trans b0; have q1 := (World.cell?_of_block (w := w1) (a := ⟨bx, 1, none⟩) hSw).trans b1; have q2 := (World.cell?_of_block (w := w1) (a := ⟨bx, 2, none⟩) hSw).trans b2; have q3 := (World.cell?_of_block (w := w1) (a := ⟨bx, 3, none⟩) hSw).trans b3; have q4 := (World.cell?_of_block (w := w1) (a := ⟨bx, 4, none⟩) hSw).trans b4; have q5 := (World.cell?_of_block (w := w1) (a := ⟨bx, 5, none⟩) hSw).trans b5; have q6 := (World.cell?_of_block (w := w1) (a := ⟨bx, 6, none⟩) hSw).trans b6; have q7 := (World.cell?_of_block (w := w1) (a := ⟨bx, 7, none⟩) hSw).trans b7; have q8 := (World.cell?_of_block (w := w1) (a := ⟨bx, 8, none⟩) hSw).trans b8; go_simp; first | done | (with_reducible rfl) | rfl)⟩) hHeld ?_
  (try simp only [Act.put, List.getElem_toArray, List.getElem_cons_zero, List.getElem_cons_succ, List.setIfInBounds_toArray, List.set_cons_zero, List.set_cons_succ])
  refine wpAnyH_take (i := 1) (v := ?_) rfl (by kernel_rfl) (by kernel_rfl) (by kernel_rfl) (fun _ _ _ h => h) (Or.inl ⟨by kernel_rfl, by (intro w' hSw; have q0 := (World.cell?_of_block (w := w1) (a := ⟨bx, 0, none⟩) hSw).trans b0; have q1 := (World.cell?_of_block (w := w1) (a := ⟨bx, 1, none⟩) hSw).trans b1; have q2 := (World.cell?_of_block (w := w1) (a := ⟨bx, 2, none⟩) hSw).trans b2; have q3 := (World.cell?_of_block (w := w1) (a := ⟨bx, 3, none⟩) hSw).trans b3; have q4 := (World.cell?_of_block (w := w1) (a := ⟨bx, 4, none⟩) hSw).trans b4; have q5 := (World.cell?_of_block (w := w1) (a := ⟨bx, 5, none⟩) hSw).trans b5; have q6 := (World.cell?_of_block (w := w1) (a := ⟨bx, 6, none⟩) hSw).trans b6; have q7 := (World.cell?_of_block (w := w1) (a := ⟨bx, 7, none⟩) hSw).trans b7; have q8 := (World.cell?_of_block (w := w1) (a := ⟨bx, 8, none⟩) hSw).trans b8; go_simp; first | done | (with_reducible rfl) | rfl)⟩) hHeld ?_
  (try simp only [Act.put, List.getElem_toArray, List.getElem_cons_zero, List.getElem_cons_succ, List.setIfInBounds_toArray, List.set_cons_zero, List.set_cons_succ])
  refine wpAnyH_take (i := 2) (v := ?_) rfl (by kernel_rfl) (by kernel_rfl) (by kernel_rfl) (fun _ _ _ h => h) (Or.inl ⟨by kernel_rfl, by (intro w' hSw; have q0 := (World.cell?_of_block (w := w1) (a := ⟨bx, 0, none⟩) hSw).trans b0; have q1 := (World.cell?_of_block (w := w1) (a := ⟨bx, 1, none⟩) hSw).trans b1; have q2 := (World.cell?_of_block (w := w1) (a := ⟨bx, 2, none⟩) hSw).trans b2; have q3 := (World.cell?_of_block (w := w1) (a := ⟨bx, 3, none⟩) hSw).trans b3; have q4 := (World.cell?_of_block (w := w1) (a := ⟨bx, 4, none⟩) hSw).trans b4; have q5 := (World.cell?_of_block (w := w1) (a := ⟨bx, 5, none⟩) hSw).trans b5; have q6 := (World.cell?_of_block (w := w1) (a := ⟨bx, 6, none⟩) hSw).trans b6; have q7 := (World.cell?_of_block (w := w1) (a := ⟨bx, 7, none⟩) hSw).trans b7; have q8 := (World.cell?_of_block (w := w1) (a := ⟨bx, 8, none⟩) hSw).trans b8; go_simp; first | done | (with_reducible rfl) | rfl)⟩) hHeld ?_
  (try simp only [Act.put, List.getElem_toArray, List.getElem_cons_zero, List.getElem_cons_succ, List.setIfInBounds_toArray, List.set_cons_zero, List.set_cons_succ])
  refine wpAnyH_take (i := 4) (v := ?_) rfl (by kernel_rfl) (by kernel_rfl) (by kernel_rfl) (fun _ _ _ h => h) (Or.inl ⟨by kernel_rfl, by (intro w' hSw; have q0 := (World.cell?_of_block (w := w1) (a := ⟨bx, 0, none⟩) hSw).trans b0; have q1 := (World.cell?_of_block (w := w1) (a := ⟨bx, 1, none⟩) hSw).trans b1; have q2 := (World.cell?_of_block (w := w1) (a := ⟨bx, 2, none⟩) hSw).trans b2; have q3 := (World.cell?_of_block (w := w1) (a := ⟨bx, 3, none⟩) hSw).trans b3; have q4 := (World.cell?_of_block (w := w1) (a := ⟨bx, 4, none⟩) hSw).trans b4; have q5 := (World.cell?_of_block (w := w1) (a := ⟨bx, 5, none⟩) hSw).trans b5; have q6 := (World.cell?_of_block (w := w1) (a := ⟨bx, 6, none⟩) hSw).trans b6; have q7 := (World.cell?_of_block (w := w1) (a := ⟨bx, 7, none⟩) hSw).trans b7; have q8 := (World.cell?_of_block (w := w1) (a := ⟨bx, 8, none⟩) hSw).trans b8; go_simp; first | done | (with_reducible rfl) | rfl)⟩) hHeld ?_
  (try simp only [Act.put, List.getElem_toArray, List.getElem_cons_zero, List.getElem_cons_succ, List.setIfInBounds_toArray, List.set_cons_zero, List.set_cons_succ])
  refine wpAnyH_take (i := 5) (v := ?_) rfl (by kernel_rfl) (by kernel_rfl) (by kernel_rfl) (fun _ _ _ h => h) (Or.inl ⟨by kernel_rfl, by (intro w' hSw; have q0 := (World.cell?_of_block (w := w1) (a := ⟨bx, 0, none⟩) hSw).trans b0; have q1 := (World.cell?_of_block (w := w1) (a := ⟨bx, 1, none⟩) hSw).trans b1; have q2 := (World.cell?_of_block (w := w1) (a := ⟨bx, 2, none⟩) hSw).trans b2; have q3 := (World.cell?_of_block (w := w1) (a := ⟨bx, 3, none⟩) hSw).trans b3; have q4 := (World.cell?_of_block (w := w1) (a := ⟨bx, 4, none⟩) hSw).trans b4; have q5 := (World.cell?_of_block (w := w1) (a := ⟨bx, 5, none⟩) hSw).trans b5; have q6 := (World.cell?_of_block (w := w1) (a := ⟨bx, 6, none⟩) hSw).trans b6; have q7 := (World.cell?_of_block (w := w1) (a := ⟨bx, 7, none⟩) hSw).trans b7; have q8 := (World.cell?_of_block (w := w1) (a := ⟨bx, 8, none⟩) hSw).trans b8; go_simp; first | done | (with_reducible rfl) | rfl)⟩) hHeld ?_
  (try simp only [Act.put, List.getElem_toArray, List.getElem_cons_zero, List.getElem_cons_succ, List.setIfInBounds_toArray, List.set_cons_zero, List.set_cons_succ])
  refine wpAnyH_take (i := 6) (v := ?_) rfl (by kernel_rfl) (by kernel_rfl) (by kernel_rfl) (fun _ _ _ h => h) (Or.inl ⟨by kernel_rfl, by (intro w' hSw; have q0 := (World.cell?_of_block (w := w1) (a := ⟨bx, 0, none⟩) hSw).trans b0; have q1 := (World.cell?_of_block (w := w1) (a := ⟨bx, 1, none⟩) hSw).trans b1; have q2 := (World.cell?_of_block (w := w1) (a := ⟨bx, 2, none⟩) hSw).trans b2; have q3 := (World.cell?_of_block (w := w1) (a := ⟨bx, 3, none⟩) hSw).trans b3; have q4 := (World.cell?_of_block (w := w1) (a := ⟨bx, 4, none⟩) hSw).trans b4; have q5 := (World.cell?_of_block (w := w1) (a := ⟨bx, 5, none⟩) hSw).trans b5; have q6 := (World.cell?_of_block (w := w1) (a := ⟨bx, 6, none⟩) hSw).trans b6; have q7 := (World.cell?_of_block (w := w1) (a := ⟨bx, 7, none⟩) hSw).trans b7; have q8 := (World.cell?_of_block (w := w1) (a := ⟨bx, 8, none⟩) hSw).trans b8; go_simp; first | done | (with_reducible rfl) | rfl)⟩) hHeld ?_
  (try simp only [Act.put, List.getElem_toArray, List.getElem_cons_zero, List.getElem_cons_succ, List.setIfInBounds_toArray, List.set_cons_zero, List.set_cons_succ])
  refine wpAnyH_ready (rs := [3]) (by kernel_rfl) (by simp) ?_
  refine AllReadyH.cons rfl (fun K hK => ?_) AllReadyH.nil
  go_simp
  go_at_call 34; refine C1.mono ?_; rintro e w2 ⟨rfl, hsp⟩; (have hX2 : w2.heap[bx]? = w1.heap[bx]? := hsp.block (by exact BX.out.2.2) (fun hk => BX.out.1 _ hk rfl)); (have C2w := C2.out w2 (HJ.out.rf_behind H2.out hsp)); (have HSP := Lib.hid hsp); clear hsp C1
  try dsimp only
  clear hHeld
  refine hK.out _ _ hX2 (fun hHeld => ?_)
  clear hK K
  (try simp only [Act.put, List.getElem_toArray, List.getElem_cons_zero, List.getElem_cons_succ, List.setIfInBounds_toArray, List.set_cons_zero, List.set_cons_succ])
  refine wpAnyH_ready (rs := [7]) (by kernel_rfl) (by simp) ?_
  refine AllReadyH.cons rfl (fun K hK => ?_) AllReadyH.nil
  go_simp
  go_at_call 46; refine C2w.mono ?_; rintro e w3 ⟨rfl, hrf⟩; (have hX3 : w3.heap[bx]? = w1.heap[bx]? := (hrf.block (by have := HSP.out.size; have h9 := BX.out.2.2; exact Nat.lt_of_lt_of_le h9 this) (fun hk => BX.out.2.1 hk.symm)).trans hX2); (have HRF := Lib.hid hrf); clear hrf C2w
  try dsimp only
  clear hHeld
  refine hK.out _ _ hX3 (fun hHeld => ?_)
  clear hK K
  (try simp only [Act.put, List.getElem_toArray, List.getElem_cons_zero, List.getElem_cons_succ, List.setIfInBounds_toArray, List.set_cons_zero, List.set_cons_succ])
  refine wpAnyH_take (i := 8) (v := .bool true) rfl (by kernel_rfl) (by kernel_rfl) (by kernel_rfl) (fun _ _ _ h => h) (Or.inl ⟨by kernel_rfl, by (intro w' hSw; have q0 := (World.cell?_of_block (w := w1) (a := ⟨bx, 0, none⟩) hSw).trans b0; have q1 := (World.cell?_of_block (w := w1) (a := ⟨bx, 1, none⟩) hSw).trans b1; have q2 := (World.cell?_of_block (w := w1) (a := ⟨bx, 2, none⟩) hSw).trans b2; have q3 := (World.cell?_of_block (w := w1) (a := ⟨bx, 3, none⟩) hSw).trans b3; have q4 := (World.cell?_of_block (w := w1) (a := ⟨bx, 4, none⟩) hSw).trans b4; have q5 := (World.cell?_of_block (w := w1) (a := ⟨bx, 5, none⟩) hSw).trans b5; have q6 := (World.cell?_of_block (w := w1) (a := ⟨bx, 6, none⟩) hSw).trans b6; have q7 := (World.cell?_of_block (w := w1) (a := ⟨bx, 7, none⟩) hSw).trans b7; have q8 := (World.cell?_of_block (w := w1) (a := ⟨bx, 8, none⟩) hSw).trans b8; go_simp; first | done | (with_reducible rfl) | rfl)⟩) hHeld ?_
  (try simp only [Act.put, List.getElem_toArray, List.getElem_cons_zero, List.getElem_cons_succ, List.setIfInBounds_toArray, List.set_cons_zero, List.set_cons_succ])
  refine wpAnyH_take (i := 9) (v := ?_) rfl (by kernel_rfl) (by kernel_rfl) (by kernel_rfl) (fun _ _ _ h => h) (Or.inl ⟨by kernel_rfl, by (intro w' hSw; have q0 := (World.cell?_of_block (w := w1) (a := ⟨bx, 0, none⟩) hSw).trans b0; have q1 := (World.cell?_of_block (w := w1) (a := ⟨bx, 1, none⟩) hSw).trans b1; have q2 := (World.cell?_of_block (w := w1) (a := ⟨bx, 2, none⟩) hSw).trans b2; have q3 := (World.cell?_of_block (w := w1) (a := ⟨bx, 3, none⟩) hSw).trans b3; have q4 := (World.cell?_of_block (w := w1) (a := ⟨bx, 4, none⟩) hSw).trans b4; have q5 := (World.cell?_of_block (w := w1) (a := ⟨bx, 5, none⟩) hSw).trans b5; have q6 := (World.cell?_of_block (w := w1) (a := ⟨bx, 6, none⟩) hSw).trans b6; have q7 := (World.cell?_of_block (w := w1) (a := ⟨bx, 7, none⟩) hSw).trans b7; have q8 := (World.cell?_of_block (w := w1) (a := ⟨bx, 8, none⟩) hSw).trans b8; go_simp; first | done | (with_reducible rfl) | rfl)⟩) hHeld ?_
  (try simp only [Act.put, List.getElem_toArray, List.getElem_cons_zero, List.getElem_cons_succ, List.setIfInBounds_toArray, List.set_cons_zero, List.set_cons_succ])
  refine wpAnyH_done (by kernel_rfl) ?_ _
  clear b0 b1 b2 b3 b4 b5 b6 b7 b8
  go_wp2_with fail
  go_ret
  exact HJ.out.fin H2.out HSP.out HRF.out HBO.out
set_option maxRecDepth 100000 in
set_option maxHeartbeats 2000000 in
theorem do_0 {w : World} {A : Ad} {R : Rd} {S : Sp} (h : Jt w A R S) (a : Ac) (hk : a.k ≠ 1 ∧ a.k ≠ 2 ∧ a.k ≠ 3 ∧ a.k ≠ 4 ∧ a.k ≠ 5 ∧ a.k ≠ 6 ∧ a.k ≠ 7 ∧ a.k ≠ 8) :
    Calls Try.prog 12 #[.pointer (some ⟨A.b, 0, none⟩), .pointer (some ⟨R.b, 0, none⟩), .agg (actC a)] w (DoPost S A R w) := by
  obtain ⟨k1, k2, k3, k4, k5, k6, k7, k8⟩ := hk
  have e1 : (a.k == 1) = false := by simpa using k1
  have e2 : (a.k == 2) = false := by simpa using k2
  have e3 : (a.k == 3) = false := by simpa using k3
  have e4 : (a.k == 4) = false := by simpa using k4
  have e5 : (a.k == 5) = false := by simpa using k5
  have e6 : (a.k == 6) = false := by simpa using k6
  have e7 : (a.k == 7) = false := by simpa using k7
  have e8 : (a.k == 8) = false := by simpa using k8
  have HP := Lib.hid (h.stay ((Below.refl _ w).alloc (Nat.le_refl _) (.cells (actC a) 38)))
  clear h k1 k2 k3 k4 k5 k6 k7 k8
  unfold actC at *
  go_enter Try.func12, Try.ntmps12
  go_wp2
  go_ret
  exact HP.out
set_option maxRecDepth 100000 in
set_option maxHeartbeats 2000000 in
theorem do_7 {w : World} {A : Ad} {R : Rd} {S : Sp} (h : Jt w A R S) (a : Ac) (hk : a.k = 7) :
    Calls Try.prog 12 #[.pointer (some ⟨A.b, 0, none⟩), .pointer (some ⟨R.b, 0, none⟩), .agg (actC a)] w (DoPost S A R w) := by
  obtain ⟨xk, xg, xs, xt, xu, xc⟩ := a
  dsimp only at hk
  subst hk
  obtain ⟨w1, hw1⟩ : ∃ w1, w1 = w.alloc (.cells (actC ⟨7, xg, xs, xt, xu, xc⟩) 38) := ⟨_, rfl⟩
  have hb1 : Below w.heap.size w w1 := by rw [hw1]; exact (Below.refl _ _).alloc (Nat.le_refl _) _
  have hblk : Blk w1 w.heap.size 38 (actC ⟨7, xg, xs, xt, xu, xc⟩) := by rw [hw1]; exact Blk.new w _ _
  obtain ⟨bx, hbx⟩ : ∃ bx, bx = w.heap.size := ⟨_, rfl⟩
  rw [← hbx] at hblk
  have hS1 := h.sp.below hb1
  have BX := Lib.hid (show (∀ k, A.own k → k ≠ bx) ∧ R.b ≠ bx ∧ bx < w1.heap.size from ⟨fun k hk e => by have := h.sp.lt hk; omega, by have := h.rf.head.lt; omega, hblk.lt⟩)
  have C1 := revoke_c hS1 h.lim h.j xg xs
  have C2 := Lib.hid (fun W (hR : RfAt W R S) => rfRevoke_c hR h.lim h.j xg xs)
  have HBO := Lib.hid (both_rev h.j h.lim xg xs)
  have HJ := Lib.hid h
  have H2 := Lib.hid hb1
  have b1 := hblk.cell 1
  have b2 := hblk.cell 2
  simp only [actC, List.getElem?_toArray, List.getElem?_cons_zero, List.getElem?_cons_succ] at b1 b2
  obtain ⟨z, hz⟩ : ∃ z, z = (S.revR xg xs).1 := ⟨_, rfl⟩
  obtain ⟨y, hy⟩ : ∃ y, y = (S.revR xg xs).2.1 := ⟨_, rfl⟩
  rw [← hz, ← hy] at C1 C2
  clear h hb1 hS1 hblk hz hy
  unfold actC at hw1 ⊢
  go_enter Try.func12, Try.ntmps12
  go_wp2_with fail
  rw [← hw1, ← hbx]
  clear hw1 hbx
  go_wp2_with (first | (go_at_call 21; refine C1.mono ?_; rintro e w2 ⟨rfl, hsp⟩; (have hX2 : w2.heap[bx]? = w1.heap[bx]? := hsp.block (by exact BX.out.2.2) (fun hk => BX.out.1 _ hk rfl)); (have C2w := C2.out w2 (HJ.out.rf_behind H2.out hsp)); (have q1 := (World.cell?_of_block (w := w1) (a := ⟨bx, 1, none⟩) hX2).trans b1); (have q2 := (World.cell?_of_block (w := w1) (a := ⟨bx, 2, none⟩) hX2).trans b2); (have HSP := Lib.hid hsp); clear hsp C1 b1 b2) | (go_at_call 45; refine C2w.mono ?_; rintro e w3 ⟨rfl, hrf⟩; (have HRF := Lib.hid hrf); clear hrf C2w q1 q2))
  go_ret
  exact HJ.out.fin H2.out HSP.out HRF.out HBO.out
set_option maxRecDepth 100000 in
set_option maxHeartbeats 2000000 in
theorem do_3 {w : World} {A : Ad} {R : Rd} {S : Sp} (h : Jt w A R S) (a : Ac) (hk : a.k = 3) :
    Calls Try.prog 12 #[.pointer (some ⟨A.b, 0, none⟩), .pointer (some ⟨R.b, 0, none⟩), .agg (actC a)] w (DoPost S A R w) := by
  obtain ⟨xk, xg, xs, xt, xu, xc⟩ := a
  dsimp only at hk
  subst hk
  obtain ⟨w1, hw1⟩ : ∃ w1, w1 = w.alloc (.cells (actC ⟨3, xg, xs, xt, xu, xc⟩) 38) := ⟨_, rfl⟩
  have hb1 : Below w.heap.size w w1 := by rw [hw1]; exact (Below.refl _ _).alloc (Nat.le_refl _) _
  have hblk : Blk w1 w.heap.size 38 (actC ⟨3, xg, xs, xt, xu, xc⟩) := by rw [hw1]; exact Blk.new w _ _
  obtain ⟨bx, hbx⟩ : ∃ bx, bx = w.heap.size := ⟨_, rfl⟩
  rw [← hbx] at hblk
  have hS1 := h.sp.below hb1
  have C1 := get_c hS1 h.lim h.j xg xs
  have HJ := Lib.hid h
  have H2 := Lib.hid hb1
  have HBK := Lib.hid hblk
  have b1 := hblk.cell 1
  have b2 := hblk.cell 2
  simp only [actC, List.getElem?_toArray, List.getElem?_cons_zero, List.getElem?_cons_succ] at b1 b2
  have hn := h.j.few h.lim
  have HF := Lib.hid (fun W (hW : Below w.heap.size w W) => rfFull_is (h.rf.below hW) hn xg xs)
  by_cases hf : S.full xg xs = 0
  · obtain ⟨ht, x, hfx⟩ := full_zero hf
    obtain ⟨m, hm, hmx, hp⟩ := pos_some hfx
    have hgc : S.getC xg xs = x.c := by unfold Sp.getC; rw [hfx]
    rw [hgc, hf] at C1
    rw [hf] at HF
    have EQ := fun W => cap_eql x.c x.c W
    simp only [decide_true] at EQ
    have HQ := Lib.hid (fun W (hW : Below w.heap.size w W) => (find_is (h.rf.below hW) hn xg xs).mono (fun e w'' hh => And.intro hh.1 hh.2.symm))
    rw [hp] at HQ
    have hm1 : (m : Int) < (S.L.length : Int) := by omega
    have HO := Lib.hid (show ∀ W, Below w.heap.size w W → W.cell? ⟨R.b, 3, none⟩ = some (.slice R.A S.L.length R.c) ∧ ∃ q, R.A = some ⟨q, 0, none⟩ ∧ OneAt W q (m * 8) x from fun W hW => ⟨(h.rf.below hW).cells.2.2.2.1, by have := (h.rf.below hW).one m hm; rwa [hmx] at this⟩)
    clear h hb1 hS1 hblk hf ht hfx hmx hp hgc hm
    unfold actC at hw1 ⊢
    unfold capV at C1
    go_enter Try.func12, Try.ntmps12
    go_wp2_with fail
    rw [← hw1, ← hbx]
    clear hw1 hbx
    go_upto_region 8 with ((go_at_call 15; refine C1.mono ?_; rintro e w2 ⟨rfl, hb2⟩; (have h12 := H2.out.trans (hb2.mono H2.out.size)); (have h12a := fun o => h12.alloc h12.size o); (have q1 := (hb2.cell (p := ⟨bx, 1, none⟩) HBK.out.lt).trans b1); (have q2 := (hb2.cell (p := ⟨bx, 2, none⟩) HBK.out.lt).trans b2); (have HB12 := Lib.hid (And.intro h12a hb2)); clear hb2 C1 b1 b2 h12 h12a))
    have hbw := HB12.out.1 (.cells #[.int .i64 x.c.k, .int .i64 x.c.i, .int .u64 x.c.n, .int .u8 x.c.r] 36)
    have z0 := (Blk.new w2 36 #[.int .i64 x.c.k, .int .i64 x.c.i, .int .u64 x.c.n, .int .u8 x.c.r]).cell 0
    have z1 := (Blk.new w2 36 #[.int .i64 x.c.k, .int .i64 x.c.i, .int .u64 x.c.n, .int .u8 x.c.r]).cell 1
    have z2 := (Blk.new w2 36 #[.int .i64 x.c.k, .int .i64 x.c.i, .int .u64 x.c.n, .int .u8 x.c.r]).cell 2
    have z3 := (Blk.new w2 36 #[.int .i64 x.c.k, .int .i64 x.c.i, .int .u64 x.c.n, .int .u8 x.c.r]).cell 3
    have hbx2 : bx < w2.heap.size := Nat.lt_of_lt_of_le HBK.out.lt HB12.out.2.size
    have p1 := (World.cell?_alloc_lt w2 (.cells #[.int .i64 x.c.k, .int .i64 x.c.i, .int .u64 x.c.n, .int .u8 x.c.r] 36) ⟨bx, 1, none⟩ hbx2).trans q1
    have p2 := (World.cell?_alloc_lt w2 (.cells #[.int .i64 x.c.k, .int .i64 x.c.i, .int .u64 x.c.n, .int .u8 x.c.r] 36) ⟨bx, 2, none⟩ hbx2).trans q2
    simp only [List.getElem?_toArray, List.getElem?_cons_zero, List.getElem?_cons_succ] at z0 z1 z2 z3
    obtain ⟨w4, hw4⟩ : ∃ w4, w4 = w2.alloc (.cells #[.int .i64 x.c.k, .int .i64 x.c.i, .int .u64 x.c.n, .int .u8 x.c.r] 36) := ⟨_, rfl⟩
    rw [← hw4] at z0 z1 z2 z3 p1 p2 hbw ⊢
    obtain ⟨c3, q, hq, ho⟩ := HO.out w4 hbw
    rw [hq] at c3
    have d4 := ho.c4
    have d5 := ho.c5
    have d6 := ho.c6
    have d7 := ho.c7
    have HBW := Lib.hid hbw
    clear hw4 ho hq q1 q2 hbw
    go_wp2_with (go_at_call 41; refine (HF.out _ HBW.out).mono ?_; rintro e w3 ⟨rfl, hw3⟩; subst w3)
    go_quiet ((go_at_call 27; exact Calls.quiet_of_same (HQ.out _ (HBW.out.trans (below_drewN_ _ _ _)))))
    go_wp2_with fail
    go_ret
    exact HJ.out.stay (HBW.out.trans (below_drewN_ _ _ _))
  · have hgc : S.getC xg xs = Cp.zero := by unfold Sp.getC; rw [h.j.full_none hf]
    rw [hgc] at C1
    have hE : (S.full xg xs != 0) = true := by simpa using hf
    have EQ := fun W => cap_eql Cp.zero Cp.zero W
    simp only [decide_true, Cp.zero] at EQ
    obtain ⟨E, hEd⟩ : ∃ E, E = S.full xg xs := ⟨_, rfl⟩
    rw [← hEd] at C1 HF hE
    clear h hb1 hS1 hblk hf hgc hEd hn
    unfold actC at hw1 ⊢
    unfold capV at C1
    simp only [Cp.zero] at C1
    go_enter Try.func12, Try.ntmps12
    go_wp2_with fail
    rw [← hw1, ← hbx]
    clear hw1 hbx
    go_upto_region 8 with ((go_at_call 15; refine C1.mono ?_; rintro e w2 ⟨rfl, hb2⟩; (have h12 := H2.out.trans (hb2.mono H2.out.size)); (have h12a := fun o => h12.alloc h12.size o); (have q1 := (hb2.cell (p := ⟨bx, 1, none⟩) HBK.out.lt).trans b1); (have q2 := (hb2.cell (p := ⟨bx, 2, none⟩) HBK.out.lt).trans b2); (have HB12 := Lib.hid (And.intro h12a hb2)); clear hb2 C1 b1 b2 h12 h12a))
    have hbw := HB12.out.1 (.cells #[.int .i64 0, .int .i64 0, .int .u64 0, .int .u8 0] 36)
    have z0 := (Blk.new w2 36 #[.int .i64 0, .int .i64 0, .int .u64 0, .int .u8 0]).cell 0
    have z1 := (Blk.new w2 36 #[.int .i64 0, .int .i64 0, .int .u64 0, .int .u8 0]).cell 1
    have z2 := (Blk.new w2 36 #[.int .i64 0, .int .i64 0, .int .u64 0, .int .u8 0]).cell 2
    have z3 := (Blk.new w2 36 #[.int .i64 0, .int .i64 0, .int .u64 0, .int .u8 0]).cell 3
    simp only [List.getElem?_toArray, List.getElem?_cons_zero, List.getElem?_cons_succ] at z0 z1 z2 z3
    obtain ⟨w4, hw4⟩ : ∃ w4, w4 = w2.alloc (.cells #[.int .i64 0, .int .i64 0, .int .u64 0, .int .u8 0] 36) := ⟨_, rfl⟩
    have hbx2 : bx < w2.heap.size := Nat.lt_of_lt_of_le HBK.out.lt HB12.out.2.size
    have p1 := (World.cell?_alloc_lt w2 (.cells #[.int .i64 0, .int .i64 0, .int .u64 0, .int .u8 0] 36) ⟨bx, 1, none⟩ hbx2).trans q1
    have p2 := (World.cell?_alloc_lt w2 (.cells #[.int .i64 0, .int .i64 0, .int .u64 0, .int .u8 0] 36) ⟨bx, 2, none⟩ hbx2).trans q2
    rw [← hw4] at z0 z1 z2 z3 p1 p2 hbw ⊢
    have HBW := Lib.hid hbw
    clear hw4 q1 q2 hbw
    go_wp2_with (go_at_call 41; refine (HF.out _ HBW.out).mono ?_; rintro e w3 ⟨rfl, hw3⟩; subst w3)
    go_quiet (fail)
    go_wp2_with fail
    go_ret
    exact HJ.out.stay (HBW.out.trans (below_drewN_ _ _ _))
theorem do_is {w : World} {A : Ad} {R : Rd} {S : Sp} (h : Jt w A R S) (hcm : S.came ≤ 1000000) (a : Ac) (hw : a.wf) :
    Calls Try.prog 12 #[.pointer (some ⟨A.b, 0, none⟩), .pointer (some ⟨R.b, 0, none⟩), .agg (actC a)] w (DoPost S A R w) := by
  by_cases k1 : a.k = 1
  · exact do_1 h hcm a hw k1
  by_cases k2 : a.k = 2
  · exact do_2 h hcm a hw k2
  by_cases k3 : a.k = 3
  · exact do_3 h a k3
  by_cases k4 : a.k = 4
  · exact do_4 h hcm a hw k4
  by_cases k5 : a.k = 5
  · exact do_5 h hcm a hw k5
  by_cases k6 : a.k = 6
  · exact do_6 h hcm a hw k6
  by_cases k7 : a.k = 7
  · exact do_7 h a k7
  by_cases k8 : a.k = 8
  · exact do_8 h hcm a hw k8
  exact do_0 h a ⟨k1, k2, k3, k4, k5, k6, k7, k8⟩
end Go.Proofs.Ytbknmfegckeogaa
