/- step.do of the three reckoning operations, by walk. -/
import Derived.Test.YtbgfbgcjghcepaaStepDoConst
import Derived.Test.YtbgfbgcjghcepaaHeldLast
namespace Go.Proofs.Ytbgfbgcjghcepaa
open Go.RowKit
set_option linter.unusedVariables false
set_option linter.unusedSimpArgs false

set_option maxRecDepth 100000 in
set_option maxHeartbeats 4000000 in
theorem do_reck2 (v : Value) (n : Nat) (D : Nat → Int) (gb : Nat) (pc : Int) (ia ib ic : Nat) (hia : ia < 8) (hib : ib < 8) (hic : ic < 8) (r : Value) (x y nz : Int) (cs : Array Value) (w : World) (h : CodeAt w v n D) (hG : Blk w gb 30 cs) (h8 : cs[8]? = some (.int .i64 pc)) (hr : cs[9 + ia]? = some r) (hx : cs[9 + ib]? = some (.int .u64 x)) (hy : cs[9 + ic]? = some (.int .u64 y)) (he : decR n D pc = ⟨2, ia, ib, ic, 0⟩)
    (N : ∀ w, Calls Try.prog 18 #[.int .u8 2, .int .u64 x, .int .u64 y] w fun e w' => e = .returned (.int .u64 nz) ∧ Below w.heap.size w w') :
    Calls Try.prog 15 #[v, .pointer (some ⟨gb, 0, none⟩)] w fun e w' => e = .returned (.tuple #[.agg call0, .int .i64 1]) ∧ w.grownBy w' (some gb) ∧ Blk w' gb 30 ((cs.setIfInBounds (9 + ia) (.int .u64 nz)).setIfInBounds 8 (.int .i64 (wrap64 (pc + 1)))) := by
  have hg := hG.lt
  have B1 := (Below.refl w.heap.size w).alloc (Nat.le_refl _) (.cells call0 36)
  have G1 := hG.alloc (.cells call0 36)
  have R1 := Blk.new w 36 call0
  have y6 := (G1.cell 8).trans h8
  have C1 := decode_is v n D pc _ (h.below (B := 0) B1)
  rw [he] at C1
  unfold Dec.v insV at C1
  simp only at C1
  unfold call0 at *
  have HB := Lib.hid (And.intro B1 (And.intro G1 R1))
  clear h he B1 G1 R1 hG
  go_enter Try.func15, Try.ntmps15
  go_wp2_with (first
    | (go_at_call 12; refine C1.mono ?_; rintro e w2 ⟨rfl, hb⟩; (have G2 := (HB.out.2.1.below hb HB.out.2.1.lt).alloc (.cells #[.int .u8 2, .int .u8 ia, .int .u8 ib, .int .u8 ic] 45)); (have z8 := (G2.cell 8).trans h8); (have R2 := Lib.hid ((HB.out.2.2.below hb HB.out.2.2.lt).alloc (.cells #[.int .u8 2, .int .u8 ia, .int .u8 ib, .int .u8 ic] 45))); (have G2h := Lib.hid G2); (have I2 := Lib.hid (Blk.new w2 45 #[.int .u8 2, .int .u8 ia, .int .u8 ib, .int .u8 ic])); (have B2 := Lib.hid (HB.out.1.trans (hb.mono HB.out.1.size))); (have hne := Lib.hid (Nat.ne_of_gt hg)); clear G2 hb))
  have B3 := Lib.hid (B2.out.alloc B2.out.size (.cells #[.int .u8 2, .int .u8 ia, .int .u8 ib, .int .u8 ic] 45))
  generalize w2.alloc (.cells #[.int .u8 2, .int .u8 ia, .int .u8 ib, .int .u8 ic] 45) = w3 at *
  have i0 := I2.out.cell 0
  have i1 := I2.out.cell 1
  have i2 := I2.out.cell 2
  have i3 := I2.out.cell 3
  simp only [List.getElem?_toArray, List.getElem?_cons_zero, List.getElem?_cons_succ] at i0 i1 i2 i3
  have zx := (G2h.out.cell (9 + ib)).trans hx
  have zy := (G2h.out.cell (9 + ic)).trans hy
  have a1 : (ia : Int) < 8 := by omega
  have a2 : (ib : Int) < 8 := by omega
  have a3 : (ic : Int) < 8 := by omega
  generalize w2.heap.size = xb at *
  refine wp_region_X (S := (fun w' => w'.cell? ⟨xb, 0, none⟩ = some (.int .u8 2) ∧ w'.cell? ⟨xb, 1, none⟩ = some (.int .u8 ia) ∧ w'.cell? ⟨xb, 2, none⟩ = some (.int .u8 ib) ∧ w'.cell? ⟨xb, 3, none⟩ = some (.int .u8 ic) ∧ w'.cell? ⟨gb, 9 + ib, none⟩ = some (.int .u64 x) ∧ w'.cell? ⟨gb, 9 + ic, none⟩ = some (.int .u64 y))) 23 (by kernel_rfl) ⟨i0, i1, i2, i3, zx, zy⟩ (fun hHeld => ?_)
  refine wpAnyX_take (i := 0) (v := ?_) [23] rfl (by kernel_rfl) (by kernel_rfl) (by kernel_rfl) (by kernel_rfl) (by kernel_rfl) (by kernel_rfl) (fun _ _ _ h => h) (Or.inl ⟨by kernel_rfl, by (intro w' hSw; go_simp; first | done | (with_reducible rfl))⟩) hHeld ?_
  (try simp only [Act.put, List.getElem_toArray, List.getElem_cons_zero, List.getElem_cons_succ, List.setIfInBounds_toArray, List.set_cons_zero, List.set_cons_succ])
  refine wpAnyX_take (i := 1) (v := ?_) [23] rfl (by kernel_rfl) (by kernel_rfl) (by kernel_rfl) (by kernel_rfl) (by kernel_rfl) (by kernel_rfl) (fun _ _ _ h => h) (Or.inl ⟨by kernel_rfl, by (intro w' hSw; go_simp; first | done | (with_reducible rfl))⟩) hHeld ?_
  (try simp only [Act.put, List.getElem_toArray, List.getElem_cons_zero, List.getElem_cons_succ, List.setIfInBounds_toArray, List.set_cons_zero, List.set_cons_succ])
  refine wpAnyX_take (i := 2) (v := ?_) [23] rfl (by kernel_rfl) (by kernel_rfl) (by kernel_rfl) (by kernel_rfl) (by kernel_rfl) (by kernel_rfl) (fun _ _ _ h => h) (Or.inl ⟨by kernel_rfl, by (intro w' hSw; go_simp; first | done | (with_reducible rfl))⟩) hHeld ?_
  (try simp only [Act.put, List.getElem_toArray, List.getElem_cons_zero, List.getElem_cons_succ, List.setIfInBounds_toArray, List.set_cons_zero, List.set_cons_succ])
  refine wpAnyX_take (i := 3) (v := ?_) [23] rfl (by kernel_rfl) (by kernel_rfl) (by kernel_rfl) (by kernel_rfl) (by kernel_rfl) (by kernel_rfl) (fun _ _ _ h => h) (Or.inl ⟨by kernel_rfl, by (intro w' hSw; go_simp; first | done | (with_reducible rfl))⟩) hHeld ?_
  (try simp only [Act.put, List.getElem_toArray, List.getElem_cons_zero, List.getElem_cons_succ, List.setIfInBounds_toArray, List.set_cons_zero, List.set_cons_succ])
  refine wpAnyX_take (i := 4) (v := ?_) [23] rfl (by kernel_rfl) (by kernel_rfl) (by kernel_rfl) (by kernel_rfl) (by kernel_rfl) (by kernel_rfl) (fun _ _ _ h => h) (Or.inl ⟨by kernel_rfl, by (intro w' hSw; go_simp; first | done | (with_reducible rfl))⟩) hHeld ?_
  (try simp only [Act.put, List.getElem_toArray, List.getElem_cons_zero, List.getElem_cons_succ, List.setIfInBounds_toArray, List.set_cons_zero, List.set_cons_succ])
  refine wpAnyX_take (i := 5) (v := ?_) [23] rfl (by kernel_rfl) (by kernel_rfl) (by kernel_rfl) (by kernel_rfl) (by kernel_rfl) (by kernel_rfl) (fun _ _ _ h => h) (Or.inl ⟨by kernel_rfl, by (intro w' hSw; go_simp; first | done | (with_reducible rfl))⟩) hHeld ?_
  (try simp only [Act.put, List.getElem_toArray, List.getElem_cons_zero, List.getElem_cons_succ, List.setIfInBounds_toArray, List.set_cons_zero, List.set_cons_succ])
  refine wpAnyX_take (i := 6) (v := ?_) [23] rfl (by kernel_rfl) (by kernel_rfl) (by kernel_rfl) (by kernel_rfl) (by kernel_rfl) (by kernel_rfl) (fun _ _ _ h => h) (Or.inl ⟨by kernel_rfl, by (intro w' hSw; go_simp; first | done | (with_reducible rfl))⟩) hHeld ?_
  (try simp only [Act.put, List.getElem_toArray, List.getElem_cons_zero, List.getElem_cons_succ, List.setIfInBounds_toArray, List.set_cons_zero, List.set_cons_succ])
  refine wpAnyX_take (i := 7) (v := ?_) [23] rfl (by kernel_rfl) (by kernel_rfl) (by kernel_rfl) (by kernel_rfl) (by kernel_rfl) (by kernel_rfl) (fun _ _ _ h => h) (Or.inl ⟨by kernel_rfl, by (intro w' hSw; go_simp; first | done | (with_reducible rfl))⟩) hHeld ?_
  (try simp only [Act.put, List.getElem_toArray, List.getElem_cons_zero, List.getElem_cons_succ, List.setIfInBounds_toArray, List.set_cons_zero, List.set_cons_succ])
  refine wpAnyX_take (i := 8) (v := ?_) [23] rfl (by kernel_rfl) (by kernel_rfl) (by kernel_rfl) (by kernel_rfl) (by kernel_rfl) (by kernel_rfl) (fun _ _ _ h => h) (Or.inl ⟨by kernel_rfl, by (intro w' hSw; go_simp; first | done | (with_reducible rfl))⟩) hHeld ?_
  (try simp only [Act.put, List.getElem_toArray, List.getElem_cons_zero, List.getElem_cons_succ, List.setIfInBounds_toArray, List.set_cons_zero, List.set_cons_succ])
  refine wpAnyX_take (i := 9) (v := ?_) [23] rfl (by kernel_rfl) (by kernel_rfl) (by kernel_rfl) (by kernel_rfl) (by kernel_rfl) (by kernel_rfl) (fun _ _ _ h => h) (Or.inl ⟨by kernel_rfl, by (intro w' hSw; go_simp; first | done | (with_reducible rfl))⟩) hHeld ?_
  (try simp only [Act.put, List.getElem_toArray, List.getElem_cons_zero, List.getElem_cons_succ, List.setIfInBounds_toArray, List.set_cons_zero, List.set_cons_succ])
  refine wpAnyX_take (i := 10) (v := ?_) [23] rfl (by kernel_rfl) (by kernel_rfl) (by kernel_rfl) (by kernel_rfl) (by kernel_rfl) (by kernel_rfl) (fun _ _ _ h => h) (Or.inl ⟨by kernel_rfl, by (intro w' hSw; go_simp; first | done | (with_reducible rfl))⟩) hHeld ?_
  (try simp only [Act.put, List.getElem_toArray, List.getElem_cons_zero, List.getElem_cons_succ, List.setIfInBounds_toArray, List.set_cons_zero, List.set_cons_succ])
  refine wpAnyX_take (i := 11) (v := ?_) [23] rfl (by kernel_rfl) (by kernel_rfl) (by kernel_rfl) (by kernel_rfl) (by kernel_rfl) (by kernel_rfl) (fun _ _ _ h => h) (Or.inl ⟨by kernel_rfl, by (intro w' hSw; go_simp; first | done | (with_reducible rfl))⟩) hHeld ?_
  (try simp only [Act.put, List.getElem_toArray, List.getElem_cons_zero, List.getElem_cons_succ, List.setIfInBounds_toArray, List.set_cons_zero, List.set_cons_succ])
  refine wpAnyX_take (i := 12) (v := ?_) [23] rfl (by kernel_rfl) (by kernel_rfl) (by kernel_rfl) (by kernel_rfl) (by kernel_rfl) (by kernel_rfl) (fun _ _ _ h => h) (Or.inl ⟨by kernel_rfl, by (intro w' hSw; go_simp; first | done | (with_reducible rfl))⟩) hHeld ?_
  (try simp only [Act.put, List.getElem_toArray, List.getElem_cons_zero, List.getElem_cons_succ, List.setIfInBounds_toArray, List.set_cons_zero, List.set_cons_succ])
  refine wpAnyX_take (i := 13) (v := ?_) [23] rfl (by kernel_rfl) (by kernel_rfl) (by kernel_rfl) (by kernel_rfl) (by kernel_rfl) (by kernel_rfl) (fun _ _ _ h => h) (Or.inl ⟨by kernel_rfl, by (intro w' hSw; go_simp; first | done | (with_reducible rfl))⟩) hHeld ?_
  (try simp only [Act.put, List.getElem_toArray, List.getElem_cons_zero, List.getElem_cons_succ, List.setIfInBounds_toArray, List.set_cons_zero, List.set_cons_succ])
  refine wpAnyX_take (i := 14) (v := ?_) [23] rfl (by kernel_rfl) (by kernel_rfl) (by kernel_rfl) (by kernel_rfl) (by kernel_rfl) (by kernel_rfl) (fun _ _ _ h => h) (Or.inl ⟨by kernel_rfl, by (intro w' hSw; go_simp; first | done | (with_reducible rfl))⟩) hHeld ?_
  (try simp only [Act.put, List.getElem_toArray, List.getElem_cons_zero, List.getElem_cons_succ, List.setIfInBounds_toArray, List.set_cons_zero, List.set_cons_succ])
  refine wpAnyX_take (i := 15) (v := ?_) [23] rfl (by kernel_rfl) (by kernel_rfl) (by kernel_rfl) (by kernel_rfl) (by kernel_rfl) (by kernel_rfl) (fun _ _ _ h => h) (Or.inl ⟨by kernel_rfl, by (intro w' hSw; go_simp; first | done | (with_reducible rfl))⟩) hHeld ?_
  (try simp only [Act.put, List.getElem_toArray, List.getElem_cons_zero, List.getElem_cons_succ, List.setIfInBounds_toArray, List.set_cons_zero, List.set_cons_succ])
  refine wpAnyX_take (i := 16) (v := ?_) [23] rfl (by kernel_rfl) (by kernel_rfl) (by kernel_rfl) (by kernel_rfl) (by kernel_rfl) (by kernel_rfl) (fun _ _ _ h => h) (Or.inl ⟨by kernel_rfl, by (intro w' hSw; go_simp; first | done | (with_reducible rfl))⟩) hHeld ?_
  (try simp only [Act.put, List.getElem_toArray, List.getElem_cons_zero, List.getElem_cons_succ, List.setIfInBounds_toArray, List.set_cons_zero, List.set_cons_succ])
  refine wpAnyX_take (i := 17) (v := ?_) [23] rfl (by kernel_rfl) (by kernel_rfl) (by kernel_rfl) (by kernel_rfl) (by kernel_rfl) (by kernel_rfl) (fun _ _ _ h => h) (Or.inl ⟨by kernel_rfl, by (intro w' hSw; go_simp; first | done | (with_reducible rfl))⟩) hHeld ?_
  (try simp only [Act.put, List.getElem_toArray, List.getElem_cons_zero, List.getElem_cons_succ, List.setIfInBounds_toArray, List.set_cons_zero, List.set_cons_succ])
  refine wpAnyX_take (i := 18) (v := ?_) [23] rfl (by kernel_rfl) (by kernel_rfl) (by kernel_rfl) (by kernel_rfl) (by kernel_rfl) (by kernel_rfl) (fun _ _ _ h => h) (Or.inl ⟨by kernel_rfl, by (intro w' hSw; go_simp; first | done | (with_reducible rfl))⟩) hHeld ?_
  (try simp only [Act.put, List.getElem_toArray, List.getElem_cons_zero, List.getElem_cons_succ, List.setIfInBounds_toArray, List.set_cons_zero, List.set_cons_succ])
  refine wpAnyX_take (i := 20) (v := ?_) [21, 22, 23] rfl (by kernel_rfl) (by kernel_rfl) (by kernel_rfl) (by kernel_rfl) (by kernel_rfl) (by kernel_rfl) (fun _ _ _ h => h) (Or.inl ⟨by kernel_rfl, by (intro w' hSw; go_simp; first | done | (with_reducible rfl))⟩) hHeld ?_
  (try simp only [Act.put, List.getElem_toArray, List.getElem_cons_zero, List.getElem_cons_succ, List.setIfInBounds_toArray, List.set_cons_zero, List.set_cons_succ])
  refine wpAnyX_take (i := 21) (v := ?_) [22, 23] rfl (by kernel_rfl) (by kernel_rfl) (by kernel_rfl) (by kernel_rfl) (by kernel_rfl) (by kernel_rfl) (fun _ _ _ h => h) (Or.inl ⟨by kernel_rfl, by (intro w' hSw; go_simp; first | done | (with_reducible rfl))⟩) hHeld ?_
  (try simp only [Act.put, List.getElem_toArray, List.getElem_cons_zero, List.getElem_cons_succ, List.setIfInBounds_toArray, List.set_cons_zero, List.set_cons_succ])
  refine wpAnyX_one (i := 19) (by kernel_rfl) rfl (fun K hK => ?_)
  go_simp
  (go_at_call 18; refine (N _).mono ?_; rintro e w5 ⟨rfl, hb5⟩; (have G5 := G2h.out.drew.below hb5 G2h.out.lt); (have zr5 := (G5.cell (9 + ia)).trans hr); (have fr5 := G5.frozen (9 + ia)); (have HG5 := Lib.hid G5); (have HB5 := Lib.hid hb5); clear G5 hb5)
  dsimp only
  clear hHeld
  refine hK.out _ _ ⟨(HB5.out.cell (p := ⟨xb, 0, none⟩) I2.out.lt).trans i0, (HB5.out.cell (p := ⟨xb, 1, none⟩) I2.out.lt).trans i1, (HB5.out.cell (p := ⟨xb, 2, none⟩) I2.out.lt).trans i2, (HB5.out.cell (p := ⟨xb, 3, none⟩) I2.out.lt).trans i3, (HG5.out.cell (9 + ib)).trans hx, (HG5.out.cell (9 + ic)).trans hy⟩ (fun hHeld => ?_)
  clear hK K
  (try simp only [Act.put, List.getElem_toArray, List.getElem_cons_zero, List.getElem_cons_succ, List.setIfInBounds_toArray, List.set_cons_zero, List.set_cons_succ])
  refine wpAnyX_take (i := 22) (v := ?_) [23] rfl (by kernel_rfl) (by kernel_rfl) (by kernel_rfl) (by kernel_rfl) (by kernel_rfl) (by kernel_rfl) (fun _ _ _ h => h) (Or.inl ⟨by kernel_rfl, by (intro w' hSw; go_simp; first | done | (with_reducible rfl))⟩) hHeld ?_
  (try simp only [Act.put, List.getElem_toArray, List.getElem_cons_zero, List.getElem_cons_succ, List.setIfInBounds_toArray, List.set_cons_zero, List.set_cons_succ])
  refine wpAnyX_last (i := 23) (by kernel_rfl) rfl rfl (fun K hK => ?_)
  go_simp
  refine hK.out _ _ ?_
  clear hK K hHeld
  (try simp only [Act.put, List.getElem_toArray, List.getElem_cons_zero, List.getElem_cons_succ, List.setIfInBounds_toArray, List.set_cons_zero, List.set_cons_succ])
  refine wpAnyX_done (by kernel_rfl) ?_ _
  have B5 := (B3.out.drew).trans (HB5.out.mono B3.out.size)
  have H4 := grown_set0 (gb := gb) B5 (9 + ia) (.int .u64 nz)
  have G4 := HG5.out.set_ (9 + ia) (.int .u64 nz)
  have R4 := (R2.out.drew.below HB5.out R2.out.lt).far (p := ⟨gb, 9 + ia, none⟩) hne.out (.int .u64 nz)
  clear zr5 fr5 i0 i1 i2 i3 z8 B5 zx zy
  have HB5 := trivial
  have HG5 := trivial
  generalize w5.setCell ⟨gb, 9 + ia, none⟩ (.int .u64 nz) = w4 at *
  have q8 : w4.cell? ⟨gb, 8, none⟩ = some (.int .i64 pc) := (G4.cell 8).trans (by rw [Array.getElem?_setIfInBounds_ne (by omega)]; exact h8)
  have f8 := G4.frozen 8
  have H4 := Lib.hid H4
  have G4 := Lib.hid G4
  have R4 := Lib.hid R4
  go_wp2_with (first
    | (refine load_call (R4.out.far hne.out _) rfl (by exact rfl) (.tmp 4) (by exact rfl) (by exact rfl) ?_)
    | (refine wpList_store_row (by exact rfl) 36 (.tmp 4) (.tmp 116) (by exact rfl) w.heap.size #[.int .i64 0, .int .u64 0, .int .u64 0, .int .u64 0, .int .u64 0, .int .u64 0] (by exact rfl) (by exact rfl) 36 _ (R4.out.far hne.out _) (by kernel_rfl) (by exact rfl) (by simp [Value.oneCell']) ?_))
  exact bodyPost_ret (results_call (p := 4) (u := 5) (by kernel_rfl) _ _ rfl ((R4.out.far hne.out _).put_ _) rfl) rfl ⟨rfl, grown_put H4.out (Nat.le_refl _) 8 _ _, (G4.out.set_ 8 _).setRow_ hne.out.symm _⟩

set_option maxRecDepth 100000 in
set_option maxHeartbeats 4000000 in
theorem do_reck2_no (v : Value) (n : Nat) (D : Nat → Int) (gb : Nat) (pc : Int) (ia ib ic : Nat) (hia : ia < 8) (hib : ib < 8) (hic : ic < 8) (x y nz : Int) (cs : Array Value) (w : World) (h : CodeAt w v n D) (hG : Blk w gb 30 cs) (h8 : cs[8]? = some (.int .i64 pc)) (hx : cs[9 + ib]? = some (.int .u64 x)) (hy : cs[9 + ic]? = some (.int .u64 y)) (he : decR n D pc = ⟨2, ia, ib, ic, 0⟩)
    (N : ∀ w, Calls Try.prog 18 #[.int .u8 2, .int .u64 x, .int .u64 y] w fun e w' => e = .panicked (faultP 6) ∧ Below w.heap.size w w') :
    Calls Try.prog 15 #[v, .pointer (some ⟨gb, 0, none⟩)] w fun e w' => e = .panicked (faultP 6) ∧ Below w.heap.size w w' := by
  have hg := hG.lt
  have B1 := (Below.refl w.heap.size w).alloc (Nat.le_refl _) (.cells call0 36)
  have G1 := hG.alloc (.cells call0 36)
  have R1 := Blk.new w 36 call0
  have y6 := (G1.cell 8).trans h8
  have C1 := decode_is v n D pc _ (h.below (B := 0) B1)
  rw [he] at C1
  unfold Dec.v insV at C1
  simp only at C1
  unfold call0 at *
  have HB := Lib.hid (And.intro B1 (And.intro G1 R1))
  clear h he B1 G1 R1 hG
  go_enter Try.func15, Try.ntmps15
  go_wp2_with (first
    | (go_at_call 12; refine C1.mono ?_; rintro e w2 ⟨rfl, hb⟩; (have G2 := (HB.out.2.1.below hb HB.out.2.1.lt).alloc (.cells #[.int .u8 2, .int .u8 ia, .int .u8 ib, .int .u8 ic] 45)); (have z8 := (G2.cell 8).trans h8); (have R2 := Lib.hid ((HB.out.2.2.below hb HB.out.2.2.lt).alloc (.cells #[.int .u8 2, .int .u8 ia, .int .u8 ib, .int .u8 ic] 45))); (have G2h := Lib.hid G2); (have I2 := Lib.hid (Blk.new w2 45 #[.int .u8 2, .int .u8 ia, .int .u8 ib, .int .u8 ic])); (have B2 := Lib.hid (HB.out.1.trans (hb.mono HB.out.1.size))); (have hne := Lib.hid (Nat.ne_of_gt hg)); clear G2 hb))
  have B3 := Lib.hid (B2.out.alloc B2.out.size (.cells #[.int .u8 2, .int .u8 ia, .int .u8 ib, .int .u8 ic] 45))
  generalize w2.alloc (.cells #[.int .u8 2, .int .u8 ia, .int .u8 ib, .int .u8 ic] 45) = w3 at *
  have i0 := I2.out.cell 0
  have i1 := I2.out.cell 1
  have i2 := I2.out.cell 2
  have i3 := I2.out.cell 3
  simp only [List.getElem?_toArray, List.getElem?_cons_zero, List.getElem?_cons_succ] at i0 i1 i2 i3
  have zx := (G2h.out.cell (9 + ib)).trans hx
  have zy := (G2h.out.cell (9 + ic)).trans hy
  have a1 : (ia : Int) < 8 := by omega
  have a2 : (ib : Int) < 8 := by omega
  have a3 : (ic : Int) < 8 := by omega
  generalize w2.heap.size = xb at *
  refine wp_region_X (S := (fun w' => w'.cell? ⟨xb, 0, none⟩ = some (.int .u8 2) ∧ w'.cell? ⟨xb, 1, none⟩ = some (.int .u8 ia) ∧ w'.cell? ⟨xb, 2, none⟩ = some (.int .u8 ib) ∧ w'.cell? ⟨xb, 3, none⟩ = some (.int .u8 ic) ∧ w'.cell? ⟨gb, 9 + ib, none⟩ = some (.int .u64 x) ∧ w'.cell? ⟨gb, 9 + ic, none⟩ = some (.int .u64 y))) 23 (by kernel_rfl) ⟨i0, i1, i2, i3, zx, zy⟩ (fun hHeld => ?_)
  refine wpAnyX_take (i := 0) (v := ?_) [23] rfl (by kernel_rfl) (by kernel_rfl) (by kernel_rfl) (by kernel_rfl) (by kernel_rfl) (by kernel_rfl) (fun _ _ _ h => h) (Or.inl ⟨by kernel_rfl, by (intro w' hSw; go_simp; first | done | (with_reducible rfl))⟩) hHeld ?_
  (try simp only [Act.put, List.getElem_toArray, List.getElem_cons_zero, List.getElem_cons_succ, List.setIfInBounds_toArray, List.set_cons_zero, List.set_cons_succ])
  refine wpAnyX_take (i := 1) (v := ?_) [23] rfl (by kernel_rfl) (by kernel_rfl) (by kernel_rfl) (by kernel_rfl) (by kernel_rfl) (by kernel_rfl) (fun _ _ _ h => h) (Or.inl ⟨by kernel_rfl, by (intro w' hSw; go_simp; first | done | (with_reducible rfl))⟩) hHeld ?_
  (try simp only [Act.put, List.getElem_toArray, List.getElem_cons_zero, List.getElem_cons_succ, List.setIfInBounds_toArray, List.set_cons_zero, List.set_cons_succ])
  refine wpAnyX_take (i := 2) (v := ?_) [23] rfl (by kernel_rfl) (by kernel_rfl) (by kernel_rfl) (by kernel_rfl) (by kernel_rfl) (by kernel_rfl) (fun _ _ _ h => h) (Or.inl ⟨by kernel_rfl, by (intro w' hSw; go_simp; first | done | (with_reducible rfl))⟩) hHeld ?_
  (try simp only [Act.put, List.getElem_toArray, List.getElem_cons_zero, List.getElem_cons_succ, List.setIfInBounds_toArray, List.set_cons_zero, List.set_cons_succ])
  refine wpAnyX_take (i := 3) (v := ?_) [23] rfl (by kernel_rfl) (by kernel_rfl) (by kernel_rfl) (by kernel_rfl) (by kernel_rfl) (by kernel_rfl) (fun _ _ _ h => h) (Or.inl ⟨by kernel_rfl, by (intro w' hSw; go_simp; first | done | (with_reducible rfl))⟩) hHeld ?_
  (try simp only [Act.put, List.getElem_toArray, List.getElem_cons_zero, List.getElem_cons_succ, List.setIfInBounds_toArray, List.set_cons_zero, List.set_cons_succ])
  refine wpAnyX_take (i := 4) (v := ?_) [23] rfl (by kernel_rfl) (by kernel_rfl) (by kernel_rfl) (by kernel_rfl) (by kernel_rfl) (by kernel_rfl) (fun _ _ _ h => h) (Or.inl ⟨by kernel_rfl, by (intro w' hSw; go_simp; first | done | (with_reducible rfl))⟩) hHeld ?_
  (try simp only [Act.put, List.getElem_toArray, List.getElem_cons_zero, List.getElem_cons_succ, List.setIfInBounds_toArray, List.set_cons_zero, List.set_cons_succ])
  refine wpAnyX_take (i := 5) (v := ?_) [23] rfl (by kernel_rfl) (by kernel_rfl) (by kernel_rfl) (by kernel_rfl) (by kernel_rfl) (by kernel_rfl) (fun _ _ _ h => h) (Or.inl ⟨by kernel_rfl, by (intro w' hSw; go_simp; first | done | (with_reducible rfl))⟩) hHeld ?_
  (try simp only [Act.put, List.getElem_toArray, List.getElem_cons_zero, List.getElem_cons_succ, List.setIfInBounds_toArray, List.set_cons_zero, List.set_cons_succ])
  refine wpAnyX_take (i := 6) (v := ?_) [23] rfl (by kernel_rfl) (by kernel_rfl) (by kernel_rfl) (by kernel_rfl) (by kernel_rfl) (by kernel_rfl) (fun _ _ _ h => h) (Or.inl ⟨by kernel_rfl, by (intro w' hSw; go_simp; first | done | (with_reducible rfl))⟩) hHeld ?_
  (try simp only [Act.put, List.getElem_toArray, List.getElem_cons_zero, List.getElem_cons_succ, List.setIfInBounds_toArray, List.set_cons_zero, List.set_cons_succ])
  refine wpAnyX_take (i := 7) (v := ?_) [23] rfl (by kernel_rfl) (by kernel_rfl) (by kernel_rfl) (by kernel_rfl) (by kernel_rfl) (by kernel_rfl) (fun _ _ _ h => h) (Or.inl ⟨by kernel_rfl, by (intro w' hSw; go_simp; first | done | (with_reducible rfl))⟩) hHeld ?_
  (try simp only [Act.put, List.getElem_toArray, List.getElem_cons_zero, List.getElem_cons_succ, List.setIfInBounds_toArray, List.set_cons_zero, List.set_cons_succ])
  refine wpAnyX_take (i := 8) (v := ?_) [23] rfl (by kernel_rfl) (by kernel_rfl) (by kernel_rfl) (by kernel_rfl) (by kernel_rfl) (by kernel_rfl) (fun _ _ _ h => h) (Or.inl ⟨by kernel_rfl, by (intro w' hSw; go_simp; first | done | (with_reducible rfl))⟩) hHeld ?_
  (try simp only [Act.put, List.getElem_toArray, List.getElem_cons_zero, List.getElem_cons_succ, List.setIfInBounds_toArray, List.set_cons_zero, List.set_cons_succ])
  refine wpAnyX_take (i := 9) (v := ?_) [23] rfl (by kernel_rfl) (by kernel_rfl) (by kernel_rfl) (by kernel_rfl) (by kernel_rfl) (by kernel_rfl) (fun _ _ _ h => h) (Or.inl ⟨by kernel_rfl, by (intro w' hSw; go_simp; first | done | (with_reducible rfl))⟩) hHeld ?_
  (try simp only [Act.put, List.getElem_toArray, List.getElem_cons_zero, List.getElem_cons_succ, List.setIfInBounds_toArray, List.set_cons_zero, List.set_cons_succ])
  refine wpAnyX_take (i := 10) (v := ?_) [23] rfl (by kernel_rfl) (by kernel_rfl) (by kernel_rfl) (by kernel_rfl) (by kernel_rfl) (by kernel_rfl) (fun _ _ _ h => h) (Or.inl ⟨by kernel_rfl, by (intro w' hSw; go_simp; first | done | (with_reducible rfl))⟩) hHeld ?_
  (try simp only [Act.put, List.getElem_toArray, List.getElem_cons_zero, List.getElem_cons_succ, List.setIfInBounds_toArray, List.set_cons_zero, List.set_cons_succ])
  refine wpAnyX_take (i := 11) (v := ?_) [23] rfl (by kernel_rfl) (by kernel_rfl) (by kernel_rfl) (by kernel_rfl) (by kernel_rfl) (by kernel_rfl) (fun _ _ _ h => h) (Or.inl ⟨by kernel_rfl, by (intro w' hSw; go_simp; first | done | (with_reducible rfl))⟩) hHeld ?_
  (try simp only [Act.put, List.getElem_toArray, List.getElem_cons_zero, List.getElem_cons_succ, List.setIfInBounds_toArray, List.set_cons_zero, List.set_cons_succ])
  refine wpAnyX_take (i := 12) (v := ?_) [23] rfl (by kernel_rfl) (by kernel_rfl) (by kernel_rfl) (by kernel_rfl) (by kernel_rfl) (by kernel_rfl) (fun _ _ _ h => h) (Or.inl ⟨by kernel_rfl, by (intro w' hSw; go_simp; first | done | (with_reducible rfl))⟩) hHeld ?_
  (try simp only [Act.put, List.getElem_toArray, List.getElem_cons_zero, List.getElem_cons_succ, List.setIfInBounds_toArray, List.set_cons_zero, List.set_cons_succ])
  refine wpAnyX_take (i := 13) (v := ?_) [23] rfl (by kernel_rfl) (by kernel_rfl) (by kernel_rfl) (by kernel_rfl) (by kernel_rfl) (by kernel_rfl) (fun _ _ _ h => h) (Or.inl ⟨by kernel_rfl, by (intro w' hSw; go_simp; first | done | (with_reducible rfl))⟩) hHeld ?_
  (try simp only [Act.put, List.getElem_toArray, List.getElem_cons_zero, List.getElem_cons_succ, List.setIfInBounds_toArray, List.set_cons_zero, List.set_cons_succ])
  refine wpAnyX_take (i := 14) (v := ?_) [23] rfl (by kernel_rfl) (by kernel_rfl) (by kernel_rfl) (by kernel_rfl) (by kernel_rfl) (by kernel_rfl) (fun _ _ _ h => h) (Or.inl ⟨by kernel_rfl, by (intro w' hSw; go_simp; first | done | (with_reducible rfl))⟩) hHeld ?_
  (try simp only [Act.put, List.getElem_toArray, List.getElem_cons_zero, List.getElem_cons_succ, List.setIfInBounds_toArray, List.set_cons_zero, List.set_cons_succ])
  refine wpAnyX_take (i := 15) (v := ?_) [23] rfl (by kernel_rfl) (by kernel_rfl) (by kernel_rfl) (by kernel_rfl) (by kernel_rfl) (by kernel_rfl) (fun _ _ _ h => h) (Or.inl ⟨by kernel_rfl, by (intro w' hSw; go_simp; first | done | (with_reducible rfl))⟩) hHeld ?_
  (try simp only [Act.put, List.getElem_toArray, List.getElem_cons_zero, List.getElem_cons_succ, List.setIfInBounds_toArray, List.set_cons_zero, List.set_cons_succ])
  refine wpAnyX_take (i := 16) (v := ?_) [23] rfl (by kernel_rfl) (by kernel_rfl) (by kernel_rfl) (by kernel_rfl) (by kernel_rfl) (by kernel_rfl) (fun _ _ _ h => h) (Or.inl ⟨by kernel_rfl, by (intro w' hSw; go_simp; first | done | (with_reducible rfl))⟩) hHeld ?_
  (try simp only [Act.put, List.getElem_toArray, List.getElem_cons_zero, List.getElem_cons_succ, List.setIfInBounds_toArray, List.set_cons_zero, List.set_cons_succ])
  refine wpAnyX_take (i := 17) (v := ?_) [23] rfl (by kernel_rfl) (by kernel_rfl) (by kernel_rfl) (by kernel_rfl) (by kernel_rfl) (by kernel_rfl) (fun _ _ _ h => h) (Or.inl ⟨by kernel_rfl, by (intro w' hSw; go_simp; first | done | (with_reducible rfl))⟩) hHeld ?_
  (try simp only [Act.put, List.getElem_toArray, List.getElem_cons_zero, List.getElem_cons_succ, List.setIfInBounds_toArray, List.set_cons_zero, List.set_cons_succ])
  refine wpAnyX_take (i := 18) (v := ?_) [23] rfl (by kernel_rfl) (by kernel_rfl) (by kernel_rfl) (by kernel_rfl) (by kernel_rfl) (by kernel_rfl) (fun _ _ _ h => h) (Or.inl ⟨by kernel_rfl, by (intro w' hSw; go_simp; first | done | (with_reducible rfl))⟩) hHeld ?_
  (try simp only [Act.put, List.getElem_toArray, List.getElem_cons_zero, List.getElem_cons_succ, List.setIfInBounds_toArray, List.set_cons_zero, List.set_cons_succ])
  refine wpAnyX_take (i := 20) (v := ?_) [21, 22, 23] rfl (by kernel_rfl) (by kernel_rfl) (by kernel_rfl) (by kernel_rfl) (by kernel_rfl) (by kernel_rfl) (fun _ _ _ h => h) (Or.inl ⟨by kernel_rfl, by (intro w' hSw; go_simp; first | done | (with_reducible rfl))⟩) hHeld ?_
  (try simp only [Act.put, List.getElem_toArray, List.getElem_cons_zero, List.getElem_cons_succ, List.setIfInBounds_toArray, List.set_cons_zero, List.set_cons_succ])
  refine wpAnyX_take (i := 21) (v := ?_) [22, 23] rfl (by kernel_rfl) (by kernel_rfl) (by kernel_rfl) (by kernel_rfl) (by kernel_rfl) (by kernel_rfl) (fun _ _ _ h => h) (Or.inl ⟨by kernel_rfl, by (intro w' hSw; go_simp; first | done | (with_reducible rfl))⟩) hHeld ?_
  (try simp only [Act.put, List.getElem_toArray, List.getElem_cons_zero, List.getElem_cons_succ, List.setIfInBounds_toArray, List.set_cons_zero, List.set_cons_succ])
  refine wpAnyX_one (i := 19) (by kernel_rfl) rfl (fun K hK => ?_)
  go_simp
  (go_at_call 18; refine (N _).mono ?_; rintro e w5 ⟨rfl, hb5⟩)
  exact ⟨rfl, rfl, B3.out.drew.trans (hb5.mono B3.out.size)⟩

set_option maxRecDepth 100000 in
set_option maxHeartbeats 4000000 in
theorem do_reck3 (v : Value) (n : Nat) (D : Nat → Int) (gb : Nat) (pc : Int) (ia ib ic : Nat) (hia : ia < 8) (hib : ib < 8) (hic : ic < 8) (r : Value) (x y nz : Int) (cs : Array Value) (w : World) (h : CodeAt w v n D) (hG : Blk w gb 30 cs) (h8 : cs[8]? = some (.int .i64 pc)) (hr : cs[9 + ia]? = some r) (hx : cs[9 + ib]? = some (.int .u64 x)) (hy : cs[9 + ic]? = some (.int .u64 y)) (he : decR n D pc = ⟨3, ia, ib, ic, 0⟩)
    (N : ∀ w, Calls Try.prog 18 #[.int .u8 3, .int .u64 x, .int .u64 y] w fun e w' => e = .returned (.int .u64 nz) ∧ Below w.heap.size w w') :
    Calls Try.prog 15 #[v, .pointer (some ⟨gb, 0, none⟩)] w fun e w' => e = .returned (.tuple #[.agg call0, .int .i64 1]) ∧ w.grownBy w' (some gb) ∧ Blk w' gb 30 ((cs.setIfInBounds (9 + ia) (.int .u64 nz)).setIfInBounds 8 (.int .i64 (wrap64 (pc + 1)))) := by
  have hg := hG.lt
  have B1 := (Below.refl w.heap.size w).alloc (Nat.le_refl _) (.cells call0 36)
  have G1 := hG.alloc (.cells call0 36)
  have R1 := Blk.new w 36 call0
  have y6 := (G1.cell 8).trans h8
  have C1 := decode_is v n D pc _ (h.below (B := 0) B1)
  rw [he] at C1
  unfold Dec.v insV at C1
  simp only at C1
  unfold call0 at *
  have HB := Lib.hid (And.intro B1 (And.intro G1 R1))
  clear h he B1 G1 R1 hG
  go_enter Try.func15, Try.ntmps15
  go_wp2_with (first
    | (go_at_call 12; refine C1.mono ?_; rintro e w2 ⟨rfl, hb⟩; (have G2 := (HB.out.2.1.below hb HB.out.2.1.lt).alloc (.cells #[.int .u8 3, .int .u8 ia, .int .u8 ib, .int .u8 ic] 45)); (have z8 := (G2.cell 8).trans h8); (have R2 := Lib.hid ((HB.out.2.2.below hb HB.out.2.2.lt).alloc (.cells #[.int .u8 3, .int .u8 ia, .int .u8 ib, .int .u8 ic] 45))); (have G2h := Lib.hid G2); (have I2 := Lib.hid (Blk.new w2 45 #[.int .u8 3, .int .u8 ia, .int .u8 ib, .int .u8 ic])); (have B2 := Lib.hid (HB.out.1.trans (hb.mono HB.out.1.size))); (have hne := Lib.hid (Nat.ne_of_gt hg)); clear G2 hb))
  have B3 := Lib.hid (B2.out.alloc B2.out.size (.cells #[.int .u8 3, .int .u8 ia, .int .u8 ib, .int .u8 ic] 45))
  generalize w2.alloc (.cells #[.int .u8 3, .int .u8 ia, .int .u8 ib, .int .u8 ic] 45) = w3 at *
  have i0 := I2.out.cell 0
  have i1 := I2.out.cell 1
  have i2 := I2.out.cell 2
  have i3 := I2.out.cell 3
  simp only [List.getElem?_toArray, List.getElem?_cons_zero, List.getElem?_cons_succ] at i0 i1 i2 i3
  have zx := (G2h.out.cell (9 + ib)).trans hx
  have zy := (G2h.out.cell (9 + ic)).trans hy
  have a1 : (ia : Int) < 8 := by omega
  have a2 : (ib : Int) < 8 := by omega
  have a3 : (ic : Int) < 8 := by omega
  generalize w2.heap.size = xb at *
  refine wp_region_X (S := (fun w' => w'.cell? ⟨xb, 0, none⟩ = some (.int .u8 3) ∧ w'.cell? ⟨xb, 1, none⟩ = some (.int .u8 ia) ∧ w'.cell? ⟨xb, 2, none⟩ = some (.int .u8 ib) ∧ w'.cell? ⟨xb, 3, none⟩ = some (.int .u8 ic) ∧ w'.cell? ⟨gb, 9 + ib, none⟩ = some (.int .u64 x) ∧ w'.cell? ⟨gb, 9 + ic, none⟩ = some (.int .u64 y))) 23 (by kernel_rfl) ⟨i0, i1, i2, i3, zx, zy⟩ (fun hHeld => ?_)
  refine wpAnyX_take (i := 0) (v := ?_) [23] rfl (by kernel_rfl) (by kernel_rfl) (by kernel_rfl) (by kernel_rfl) (by kernel_rfl) (by kernel_rfl) (fun _ _ _ h => h) (Or.inl ⟨by kernel_rfl, by (intro w' hSw; go_simp; first | done | (with_reducible rfl))⟩) hHeld ?_
  (try simp only [Act.put, List.getElem_toArray, List.getElem_cons_zero, List.getElem_cons_succ, List.setIfInBounds_toArray, List.set_cons_zero, List.set_cons_succ])
  refine wpAnyX_take (i := 1) (v := ?_) [23] rfl (by kernel_rfl) (by kernel_rfl) (by kernel_rfl) (by kernel_rfl) (by kernel_rfl) (by kernel_rfl) (fun _ _ _ h => h) (Or.inl ⟨by kernel_rfl, by (intro w' hSw; go_simp; first | done | (with_reducible rfl))⟩) hHeld ?_
  (try simp only [Act.put, List.getElem_toArray, List.getElem_cons_zero, List.getElem_cons_succ, List.setIfInBounds_toArray, List.set_cons_zero, List.set_cons_succ])
  refine wpAnyX_take (i := 2) (v := ?_) [23] rfl (by kernel_rfl) (by kernel_rfl) (by kernel_rfl) (by kernel_rfl) (by kernel_rfl) (by kernel_rfl) (fun _ _ _ h => h) (Or.inl ⟨by kernel_rfl, by (intro w' hSw; go_simp; first | done | (with_reducible rfl))⟩) hHeld ?_
  (try simp only [Act.put, List.getElem_toArray, List.getElem_cons_zero, List.getElem_cons_succ, List.setIfInBounds_toArray, List.set_cons_zero, List.set_cons_succ])
  refine wpAnyX_take (i := 3) (v := ?_) [23] rfl (by kernel_rfl) (by kernel_rfl) (by kernel_rfl) (by kernel_rfl) (by kernel_rfl) (by kernel_rfl) (fun _ _ _ h => h) (Or.inl ⟨by kernel_rfl, by (intro w' hSw; go_simp; first | done | (with_reducible rfl))⟩) hHeld ?_
  (try simp only [Act.put, List.getElem_toArray, List.getElem_cons_zero, List.getElem_cons_succ, List.setIfInBounds_toArray, List.set_cons_zero, List.set_cons_succ])
  refine wpAnyX_take (i := 4) (v := ?_) [23] rfl (by kernel_rfl) (by kernel_rfl) (by kernel_rfl) (by kernel_rfl) (by kernel_rfl) (by kernel_rfl) (fun _ _ _ h => h) (Or.inl ⟨by kernel_rfl, by (intro w' hSw; go_simp; first | done | (with_reducible rfl))⟩) hHeld ?_
  (try simp only [Act.put, List.getElem_toArray, List.getElem_cons_zero, List.getElem_cons_succ, List.setIfInBounds_toArray, List.set_cons_zero, List.set_cons_succ])
  refine wpAnyX_take (i := 5) (v := ?_) [23] rfl (by kernel_rfl) (by kernel_rfl) (by kernel_rfl) (by kernel_rfl) (by kernel_rfl) (by kernel_rfl) (fun _ _ _ h => h) (Or.inl ⟨by kernel_rfl, by (intro w' hSw; go_simp; first | done | (with_reducible rfl))⟩) hHeld ?_
  (try simp only [Act.put, List.getElem_toArray, List.getElem_cons_zero, List.getElem_cons_succ, List.setIfInBounds_toArray, List.set_cons_zero, List.set_cons_succ])
  refine wpAnyX_take (i := 6) (v := ?_) [23] rfl (by kernel_rfl) (by kernel_rfl) (by kernel_rfl) (by kernel_rfl) (by kernel_rfl) (by kernel_rfl) (fun _ _ _ h => h) (Or.inl ⟨by kernel_rfl, by (intro w' hSw; go_simp; first | done | (with_reducible rfl))⟩) hHeld ?_
  (try simp only [Act.put, List.getElem_toArray, List.getElem_cons_zero, List.getElem_cons_succ, List.setIfInBounds_toArray, List.set_cons_zero, List.set_cons_succ])
  refine wpAnyX_take (i := 7) (v := ?_) [23] rfl (by kernel_rfl) (by kernel_rfl) (by kernel_rfl) (by kernel_rfl) (by kernel_rfl) (by kernel_rfl) (fun _ _ _ h => h) (Or.inl ⟨by kernel_rfl, by (intro w' hSw; go_simp; first | done | (with_reducible rfl))⟩) hHeld ?_
  (try simp only [Act.put, List.getElem_toArray, List.getElem_cons_zero, List.getElem_cons_succ, List.setIfInBounds_toArray, List.set_cons_zero, List.set_cons_succ])
  refine wpAnyX_take (i := 8) (v := ?_) [23] rfl (by kernel_rfl) (by kernel_rfl) (by kernel_rfl) (by kernel_rfl) (by kernel_rfl) (by kernel_rfl) (fun _ _ _ h => h) (Or.inl ⟨by kernel_rfl, by (intro w' hSw; go_simp; first | done | (with_reducible rfl))⟩) hHeld ?_
  (try simp only [Act.put, List.getElem_toArray, List.getElem_cons_zero, List.getElem_cons_succ, List.setIfInBounds_toArray, List.set_cons_zero, List.set_cons_succ])
  refine wpAnyX_take (i := 9) (v := ?_) [23] rfl (by kernel_rfl) (by kernel_rfl) (by kernel_rfl) (by kernel_rfl) (by kernel_rfl) (by kernel_rfl) (fun _ _ _ h => h) (Or.inl ⟨by kernel_rfl, by (intro w' hSw; go_simp; first | done | (with_reducible rfl))⟩) hHeld ?_
  (try simp only [Act.put, List.getElem_toArray, List.getElem_cons_zero, List.getElem_cons_succ, List.setIfInBounds_toArray, List.set_cons_zero, List.set_cons_succ])
  refine wpAnyX_take (i := 10) (v := ?_) [23] rfl (by kernel_rfl) (by kernel_rfl) (by kernel_rfl) (by kernel_rfl) (by kernel_rfl) (by kernel_rfl) (fun _ _ _ h => h) (Or.inl ⟨by kernel_rfl, by (intro w' hSw; go_simp; first | done | (with_reducible rfl))⟩) hHeld ?_
  (try simp only [Act.put, List.getElem_toArray, List.getElem_cons_zero, List.getElem_cons_succ, List.setIfInBounds_toArray, List.set_cons_zero, List.set_cons_succ])
  refine wpAnyX_take (i := 11) (v := ?_) [23] rfl (by kernel_rfl) (by kernel_rfl) (by kernel_rfl) (by kernel_rfl) (by kernel_rfl) (by kernel_rfl) (fun _ _ _ h => h) (Or.inl ⟨by kernel_rfl, by (intro w' hSw; go_simp; first | done | (with_reducible rfl))⟩) hHeld ?_
  (try simp only [Act.put, List.getElem_toArray, List.getElem_cons_zero, List.getElem_cons_succ, List.setIfInBounds_toArray, List.set_cons_zero, List.set_cons_succ])
  refine wpAnyX_take (i := 12) (v := ?_) [23] rfl (by kernel_rfl) (by kernel_rfl) (by kernel_rfl) (by kernel_rfl) (by kernel_rfl) (by kernel_rfl) (fun _ _ _ h => h) (Or.inl ⟨by kernel_rfl, by (intro w' hSw; go_simp; first | done | (with_reducible rfl))⟩) hHeld ?_
  (try simp only [Act.put, List.getElem_toArray, List.getElem_cons_zero, List.getElem_cons_succ, List.setIfInBounds_toArray, List.set_cons_zero, List.set_cons_succ])
  refine wpAnyX_take (i := 13) (v := ?_) [23] rfl (by kernel_rfl) (by kernel_rfl) (by kernel_rfl) (by kernel_rfl) (by kernel_rfl) (by kernel_rfl) (fun _ _ _ h => h) (Or.inl ⟨by kernel_rfl, by (intro w' hSw; go_simp; first | done | (with_reducible rfl))⟩) hHeld ?_
  (try simp only [Act.put, List.getElem_toArray, List.getElem_cons_zero, List.getElem_cons_succ, List.setIfInBounds_toArray, List.set_cons_zero, List.set_cons_succ])
  refine wpAnyX_take (i := 14) (v := ?_) [23] rfl (by kernel_rfl) (by kernel_rfl) (by kernel_rfl) (by kernel_rfl) (by kernel_rfl) (by kernel_rfl) (fun _ _ _ h => h) (Or.inl ⟨by kernel_rfl, by (intro w' hSw; go_simp; first | done | (with_reducible rfl))⟩) hHeld ?_
  (try simp only [Act.put, List.getElem_toArray, List.getElem_cons_zero, List.getElem_cons_succ, List.setIfInBounds_toArray, List.set_cons_zero, List.set_cons_succ])
  refine wpAnyX_take (i := 15) (v := ?_) [23] rfl (by kernel_rfl) (by kernel_rfl) (by kernel_rfl) (by kernel_rfl) (by kernel_rfl) (by kernel_rfl) (fun _ _ _ h => h) (Or.inl ⟨by kernel_rfl, by (intro w' hSw; go_simp; first | done | (with_reducible rfl))⟩) hHeld ?_
  (try simp only [Act.put, List.getElem_toArray, List.getElem_cons_zero, List.getElem_cons_succ, List.setIfInBounds_toArray, List.set_cons_zero, List.set_cons_succ])
  refine wpAnyX_take (i := 16) (v := ?_) [23] rfl (by kernel_rfl) (by kernel_rfl) (by kernel_rfl) (by kernel_rfl) (by kernel_rfl) (by kernel_rfl) (fun _ _ _ h => h) (Or.inl ⟨by kernel_rfl, by (intro w' hSw; go_simp; first | done | (with_reducible rfl))⟩) hHeld ?_
  (try simp only [Act.put, List.getElem_toArray, List.getElem_cons_zero, List.getElem_cons_succ, List.setIfInBounds_toArray, List.set_cons_zero, List.set_cons_succ])
  refine wpAnyX_take (i := 17) (v := ?_) [23] rfl (by kernel_rfl) (by kernel_rfl) (by kernel_rfl) (by kernel_rfl) (by kernel_rfl) (by kernel_rfl) (fun _ _ _ h => h) (Or.inl ⟨by kernel_rfl, by (intro w' hSw; go_simp; first | done | (with_reducible rfl))⟩) hHeld ?_
  (try simp only [Act.put, List.getElem_toArray, List.getElem_cons_zero, List.getElem_cons_succ, List.setIfInBounds_toArray, List.set_cons_zero, List.set_cons_succ])
  refine wpAnyX_take (i := 18) (v := ?_) [23] rfl (by kernel_rfl) (by kernel_rfl) (by kernel_rfl) (by kernel_rfl) (by kernel_rfl) (by kernel_rfl) (fun _ _ _ h => h) (Or.inl ⟨by kernel_rfl, by (intro w' hSw; go_simp; first | done | (with_reducible rfl))⟩) hHeld ?_
  (try simp only [Act.put, List.getElem_toArray, List.getElem_cons_zero, List.getElem_cons_succ, List.setIfInBounds_toArray, List.set_cons_zero, List.set_cons_succ])
  refine wpAnyX_take (i := 20) (v := ?_) [21, 22, 23] rfl (by kernel_rfl) (by kernel_rfl) (by kernel_rfl) (by kernel_rfl) (by kernel_rfl) (by kernel_rfl) (fun _ _ _ h => h) (Or.inl ⟨by kernel_rfl, by (intro w' hSw; go_simp; first | done | (with_reducible rfl))⟩) hHeld ?_
  (try simp only [Act.put, List.getElem_toArray, List.getElem_cons_zero, List.getElem_cons_succ, List.setIfInBounds_toArray, List.set_cons_zero, List.set_cons_succ])
  refine wpAnyX_take (i := 21) (v := ?_) [22, 23] rfl (by kernel_rfl) (by kernel_rfl) (by kernel_rfl) (by kernel_rfl) (by kernel_rfl) (by kernel_rfl) (fun _ _ _ h => h) (Or.inl ⟨by kernel_rfl, by (intro w' hSw; go_simp; first | done | (with_reducible rfl))⟩) hHeld ?_
  (try simp only [Act.put, List.getElem_toArray, List.getElem_cons_zero, List.getElem_cons_succ, List.setIfInBounds_toArray, List.set_cons_zero, List.set_cons_succ])
  refine wpAnyX_one (i := 19) (by kernel_rfl) rfl (fun K hK => ?_)
  go_simp
  (go_at_call 18; refine (N _).mono ?_; rintro e w5 ⟨rfl, hb5⟩; (have G5 := G2h.out.drew.below hb5 G2h.out.lt); (have zr5 := (G5.cell (9 + ia)).trans hr); (have fr5 := G5.frozen (9 + ia)); (have HG5 := Lib.hid G5); (have HB5 := Lib.hid hb5); clear G5 hb5)
  dsimp only
  clear hHeld
  refine hK.out _ _ ⟨(HB5.out.cell (p := ⟨xb, 0, none⟩) I2.out.lt).trans i0, (HB5.out.cell (p := ⟨xb, 1, none⟩) I2.out.lt).trans i1, (HB5.out.cell (p := ⟨xb, 2, none⟩) I2.out.lt).trans i2, (HB5.out.cell (p := ⟨xb, 3, none⟩) I2.out.lt).trans i3, (HG5.out.cell (9 + ib)).trans hx, (HG5.out.cell (9 + ic)).trans hy⟩ (fun hHeld => ?_)
  clear hK K
  (try simp only [Act.put, List.getElem_toArray, List.getElem_cons_zero, List.getElem_cons_succ, List.setIfInBounds_toArray, List.set_cons_zero, List.set_cons_succ])
  refine wpAnyX_take (i := 22) (v := ?_) [23] rfl (by kernel_rfl) (by kernel_rfl) (by kernel_rfl) (by kernel_rfl) (by kernel_rfl) (by kernel_rfl) (fun _ _ _ h => h) (Or.inl ⟨by kernel_rfl, by (intro w' hSw; go_simp; first | done | (with_reducible rfl))⟩) hHeld ?_
  (try simp only [Act.put, List.getElem_toArray, List.getElem_cons_zero, List.getElem_cons_succ, List.setIfInBounds_toArray, List.set_cons_zero, List.set_cons_succ])
  refine wpAnyX_last (i := 23) (by kernel_rfl) rfl rfl (fun K hK => ?_)
  go_simp
  refine hK.out _ _ ?_
  clear hK K hHeld
  (try simp only [Act.put, List.getElem_toArray, List.getElem_cons_zero, List.getElem_cons_succ, List.setIfInBounds_toArray, List.set_cons_zero, List.set_cons_succ])
  refine wpAnyX_done (by kernel_rfl) ?_ _
  have B5 := (B3.out.drew).trans (HB5.out.mono B3.out.size)
  have H4 := grown_set0 (gb := gb) B5 (9 + ia) (.int .u64 nz)
  have G4 := HG5.out.set_ (9 + ia) (.int .u64 nz)
  have R4 := (R2.out.drew.below HB5.out R2.out.lt).far (p := ⟨gb, 9 + ia, none⟩) hne.out (.int .u64 nz)
  clear zr5 fr5 i0 i1 i2 i3 z8 B5 zx zy
  have HB5 := trivial
  have HG5 := trivial
  generalize w5.setCell ⟨gb, 9 + ia, none⟩ (.int .u64 nz) = w4 at *
  have q8 : w4.cell? ⟨gb, 8, none⟩ = some (.int .i64 pc) := (G4.cell 8).trans (by rw [Array.getElem?_setIfInBounds_ne (by omega)]; exact h8)
  have f8 := G4.frozen 8
  have H4 := Lib.hid H4
  have G4 := Lib.hid G4
  have R4 := Lib.hid R4
  go_wp2_with (first
    | (refine load_call (R4.out.far hne.out _) rfl (by exact rfl) (.tmp 4) (by exact rfl) (by exact rfl) ?_)
    | (refine wpList_store_row (by exact rfl) 36 (.tmp 4) (.tmp 116) (by exact rfl) w.heap.size #[.int .i64 0, .int .u64 0, .int .u64 0, .int .u64 0, .int .u64 0, .int .u64 0] (by exact rfl) (by exact rfl) 36 _ (R4.out.far hne.out _) (by kernel_rfl) (by exact rfl) (by simp [Value.oneCell']) ?_))
  exact bodyPost_ret (results_call (p := 4) (u := 5) (by kernel_rfl) _ _ rfl ((R4.out.far hne.out _).put_ _) rfl) rfl ⟨rfl, grown_put H4.out (Nat.le_refl _) 8 _ _, (G4.out.set_ 8 _).setRow_ hne.out.symm _⟩

set_option maxRecDepth 100000 in
set_option maxHeartbeats 4000000 in
theorem do_reck3_no (v : Value) (n : Nat) (D : Nat → Int) (gb : Nat) (pc : Int) (ia ib ic : Nat) (hia : ia < 8) (hib : ib < 8) (hic : ic < 8) (x y nz : Int) (cs : Array Value) (w : World) (h : CodeAt w v n D) (hG : Blk w gb 30 cs) (h8 : cs[8]? = some (.int .i64 pc)) (hx : cs[9 + ib]? = some (.int .u64 x)) (hy : cs[9 + ic]? = some (.int .u64 y)) (he : decR n D pc = ⟨3, ia, ib, ic, 0⟩)
    (N : ∀ w, Calls Try.prog 18 #[.int .u8 3, .int .u64 x, .int .u64 y] w fun e w' => e = .panicked (faultP 6) ∧ Below w.heap.size w w') :
    Calls Try.prog 15 #[v, .pointer (some ⟨gb, 0, none⟩)] w fun e w' => e = .panicked (faultP 6) ∧ Below w.heap.size w w' := by
  have hg := hG.lt
  have B1 := (Below.refl w.heap.size w).alloc (Nat.le_refl _) (.cells call0 36)
  have G1 := hG.alloc (.cells call0 36)
  have R1 := Blk.new w 36 call0
  have y6 := (G1.cell 8).trans h8
  have C1 := decode_is v n D pc _ (h.below (B := 0) B1)
  rw [he] at C1
  unfold Dec.v insV at C1
  simp only at C1
  unfold call0 at *
  have HB := Lib.hid (And.intro B1 (And.intro G1 R1))
  clear h he B1 G1 R1 hG
  go_enter Try.func15, Try.ntmps15
  go_wp2_with (first
    | (go_at_call 12; refine C1.mono ?_; rintro e w2 ⟨rfl, hb⟩; (have G2 := (HB.out.2.1.below hb HB.out.2.1.lt).alloc (.cells #[.int .u8 3, .int .u8 ia, .int .u8 ib, .int .u8 ic] 45)); (have z8 := (G2.cell 8).trans h8); (have R2 := Lib.hid ((HB.out.2.2.below hb HB.out.2.2.lt).alloc (.cells #[.int .u8 3, .int .u8 ia, .int .u8 ib, .int .u8 ic] 45))); (have G2h := Lib.hid G2); (have I2 := Lib.hid (Blk.new w2 45 #[.int .u8 3, .int .u8 ia, .int .u8 ib, .int .u8 ic])); (have B2 := Lib.hid (HB.out.1.trans (hb.mono HB.out.1.size))); (have hne := Lib.hid (Nat.ne_of_gt hg)); clear G2 hb))
  have B3 := Lib.hid (B2.out.alloc B2.out.size (.cells #[.int .u8 3, .int .u8 ia, .int .u8 ib, .int .u8 ic] 45))
  generalize w2.alloc (.cells #[.int .u8 3, .int .u8 ia, .int .u8 ib, .int .u8 ic] 45) = w3 at *
  have i0 := I2.out.cell 0
  have i1 := I2.out.cell 1
  have i2 := I2.out.cell 2
  have i3 := I2.out.cell 3
  simp only [List.getElem?_toArray, List.getElem?_cons_zero, List.getElem?_cons_succ] at i0 i1 i2 i3
  have zx := (G2h.out.cell (9 + ib)).trans hx
  have zy := (G2h.out.cell (9 + ic)).trans hy
  have a1 : (ia : Int) < 8 := by omega
  have a2 : (ib : Int) < 8 := by omega
  have a3 : (ic : Int) < 8 := by omega
  generalize w2.heap.size = xb at *
  refine wp_region_X (S := (fun w' => w'.cell? ⟨xb, 0, none⟩ = some (.int .u8 3) ∧ w'.cell? ⟨xb, 1, none⟩ = some (.int .u8 ia) ∧ w'.cell? ⟨xb, 2, none⟩ = some (.int .u8 ib) ∧ w'.cell? ⟨xb, 3, none⟩ = some (.int .u8 ic) ∧ w'.cell? ⟨gb, 9 + ib, none⟩ = some (.int .u64 x) ∧ w'.cell? ⟨gb, 9 + ic, none⟩ = some (.int .u64 y))) 23 (by kernel_rfl) ⟨i0, i1, i2, i3, zx, zy⟩ (fun hHeld => ?_)
  refine wpAnyX_take (i := 0) (v := ?_) [23] rfl (by kernel_rfl) (by kernel_rfl) (by kernel_rfl) (by kernel_rfl) (by kernel_rfl) (by kernel_rfl) (fun _ _ _ h => h) (Or.inl ⟨by kernel_rfl, by (intro w' hSw; go_simp; first | done | (with_reducible rfl))⟩) hHeld ?_
  (try simp only [Act.put, List.getElem_toArray, List.getElem_cons_zero, List.getElem_cons_succ, List.setIfInBounds_toArray, List.set_cons_zero, List.set_cons_succ])
  refine wpAnyX_take (i := 1) (v := ?_) [23] rfl (by kernel_rfl) (by kernel_rfl) (by kernel_rfl) (by kernel_rfl) (by kernel_rfl) (by kernel_rfl) (fun _ _ _ h => h) (Or.inl ⟨by kernel_rfl, by (intro w' hSw; go_simp; first | done | (with_reducible rfl))⟩) hHeld ?_
  (try simp only [Act.put, List.getElem_toArray, List.getElem_cons_zero, List.getElem_cons_succ, List.setIfInBounds_toArray, List.set_cons_zero, List.set_cons_succ])
  refine wpAnyX_take (i := 2) (v := ?_) [23] rfl (by kernel_rfl) (by kernel_rfl) (by kernel_rfl) (by kernel_rfl) (by kernel_rfl) (by kernel_rfl) (fun _ _ _ h => h) (Or.inl ⟨by kernel_rfl, by (intro w' hSw; go_simp; first | done | (with_reducible rfl))⟩) hHeld ?_
  (try simp only [Act.put, List.getElem_toArray, List.getElem_cons_zero, List.getElem_cons_succ, List.setIfInBounds_toArray, List.set_cons_zero, List.set_cons_succ])
  refine wpAnyX_take (i := 3) (v := ?_) [23] rfl (by kernel_rfl) (by kernel_rfl) (by kernel_rfl) (by kernel_rfl) (by kernel_rfl) (by kernel_rfl) (fun _ _ _ h => h) (Or.inl ⟨by kernel_rfl, by (intro w' hSw; go_simp; first | done | (with_reducible rfl))⟩) hHeld ?_
  (try simp only [Act.put, List.getElem_toArray, List.getElem_cons_zero, List.getElem_cons_succ, List.setIfInBounds_toArray, List.set_cons_zero, List.set_cons_succ])
  refine wpAnyX_take (i := 4) (v := ?_) [23] rfl (by kernel_rfl) (by kernel_rfl) (by kernel_rfl) (by kernel_rfl) (by kernel_rfl) (by kernel_rfl) (fun _ _ _ h => h) (Or.inl ⟨by kernel_rfl, by (intro w' hSw; go_simp; first | done | (with_reducible rfl))⟩) hHeld ?_
  (try simp only [Act.put, List.getElem_toArray, List.getElem_cons_zero, List.getElem_cons_succ, List.setIfInBounds_toArray, List.set_cons_zero, List.set_cons_succ])
  refine wpAnyX_take (i := 5) (v := ?_) [23] rfl (by kernel_rfl) (by kernel_rfl) (by kernel_rfl) (by kernel_rfl) (by kernel_rfl) (by kernel_rfl) (fun _ _ _ h => h) (Or.inl ⟨by kernel_rfl, by (intro w' hSw; go_simp; first | done | (with_reducible rfl))⟩) hHeld ?_
  (try simp only [Act.put, List.getElem_toArray, List.getElem_cons_zero, List.getElem_cons_succ, List.setIfInBounds_toArray, List.set_cons_zero, List.set_cons_succ])
  refine wpAnyX_take (i := 6) (v := ?_) [23] rfl (by kernel_rfl) (by kernel_rfl) (by kernel_rfl) (by kernel_rfl) (by kernel_rfl) (by kernel_rfl) (fun _ _ _ h => h) (Or.inl ⟨by kernel_rfl, by (intro w' hSw; go_simp; first | done | (with_reducible rfl))⟩) hHeld ?_
  (try simp only [Act.put, List.getElem_toArray, List.getElem_cons_zero, List.getElem_cons_succ, List.setIfInBounds_toArray, List.set_cons_zero, List.set_cons_succ])
  refine wpAnyX_take (i := 7) (v := ?_) [23] rfl (by kernel_rfl) (by kernel_rfl) (by kernel_rfl) (by kernel_rfl) (by kernel_rfl) (by kernel_rfl) (fun _ _ _ h => h) (Or.inl ⟨by kernel_rfl, by (intro w' hSw; go_simp; first | done | (with_reducible rfl))⟩) hHeld ?_
  (try simp only [Act.put, List.getElem_toArray, List.getElem_cons_zero, List.getElem_cons_succ, List.setIfInBounds_toArray, List.set_cons_zero, List.set_cons_succ])
  refine wpAnyX_take (i := 8) (v := ?_) [23] rfl (by kernel_rfl) (by kernel_rfl) (by kernel_rfl) (by kernel_rfl) (by kernel_rfl) (by kernel_rfl) (fun _ _ _ h => h) (Or.inl ⟨by kernel_rfl, by (intro w' hSw; go_simp; first | done | (with_reducible rfl))⟩) hHeld ?_
  (try simp only [Act.put, List.getElem_toArray, List.getElem_cons_zero, List.getElem_cons_succ, List.setIfInBounds_toArray, List.set_cons_zero, List.set_cons_succ])
  refine wpAnyX_take (i := 9) (v := ?_) [23] rfl (by kernel_rfl) (by kernel_rfl) (by kernel_rfl) (by kernel_rfl) (by kernel_rfl) (by kernel_rfl) (fun _ _ _ h => h) (Or.inl ⟨by kernel_rfl, by (intro w' hSw; go_simp; first | done | (with_reducible rfl))⟩) hHeld ?_
  (try simp only [Act.put, List.getElem_toArray, List.getElem_cons_zero, List.getElem_cons_succ, List.setIfInBounds_toArray, List.set_cons_zero, List.set_cons_succ])
  refine wpAnyX_take (i := 10) (v := ?_) [23] rfl (by kernel_rfl) (by kernel_rfl) (by kernel_rfl) (by kernel_rfl) (by kernel_rfl) (by kernel_rfl) (fun _ _ _ h => h) (Or.inl ⟨by kernel_rfl, by (intro w' hSw; go_simp; first | done | (with_reducible rfl))⟩) hHeld ?_
  (try simp only [Act.put, List.getElem_toArray, List.getElem_cons_zero, List.getElem_cons_succ, List.setIfInBounds_toArray, List.set_cons_zero, List.set_cons_succ])
  refine wpAnyX_take (i := 11) (v := ?_) [23] rfl (by kernel_rfl) (by kernel_rfl) (by kernel_rfl) (by kernel_rfl) (by kernel_rfl) (by kernel_rfl) (fun _ _ _ h => h) (Or.inl ⟨by kernel_rfl, by (intro w' hSw; go_simp; first | done | (with_reducible rfl))⟩) hHeld ?_
  (try simp only [Act.put, List.getElem_toArray, List.getElem_cons_zero, List.getElem_cons_succ, List.setIfInBounds_toArray, List.set_cons_zero, List.set_cons_succ])
  refine wpAnyX_take (i := 12) (v := ?_) [23] rfl (by kernel_rfl) (by kernel_rfl) (by kernel_rfl) (by kernel_rfl) (by kernel_rfl) (by kernel_rfl) (fun _ _ _ h => h) (Or.inl ⟨by kernel_rfl, by (intro w' hSw; go_simp; first | done | (with_reducible rfl))⟩) hHeld ?_
  (try simp only [Act.put, List.getElem_toArray, List.getElem_cons_zero, List.getElem_cons_succ, List.setIfInBounds_toArray, List.set_cons_zero, List.set_cons_succ])
  refine wpAnyX_take (i := 13) (v := ?_) [23] rfl (by kernel_rfl) (by kernel_rfl) (by kernel_rfl) (by kernel_rfl) (by kernel_rfl) (by kernel_rfl) (fun _ _ _ h => h) (Or.inl ⟨by kernel_rfl, by (intro w' hSw; go_simp; first | done | (with_reducible rfl))⟩) hHeld ?_
  (try simp only [Act.put, List.getElem_toArray, List.getElem_cons_zero, List.getElem_cons_succ, List.setIfInBounds_toArray, List.set_cons_zero, List.set_cons_succ])
  refine wpAnyX_take (i := 14) (v := ?_) [23] rfl (by kernel_rfl) (by kernel_rfl) (by kernel_rfl) (by kernel_rfl) (by kernel_rfl) (by kernel_rfl) (fun _ _ _ h => h) (Or.inl ⟨by kernel_rfl, by (intro w' hSw; go_simp; first | done | (with_reducible rfl))⟩) hHeld ?_
  (try simp only [Act.put, List.getElem_toArray, List.getElem_cons_zero, List.getElem_cons_succ, List.setIfInBounds_toArray, List.set_cons_zero, List.set_cons_succ])
  refine wpAnyX_take (i := 15) (v := ?_) [23] rfl (by kernel_rfl) (by kernel_rfl) (by kernel_rfl) (by kernel_rfl) (by kernel_rfl) (by kernel_rfl) (fun _ _ _ h => h) (Or.inl ⟨by kernel_rfl, by (intro w' hSw; go_simp; first | done | (with_reducible rfl))⟩) hHeld ?_
  (try simp only [Act.put, List.getElem_toArray, List.getElem_cons_zero, List.getElem_cons_succ, List.setIfInBounds_toArray, List.set_cons_zero, List.set_cons_succ])
  refine wpAnyX_take (i := 16) (v := ?_) [23] rfl (by kernel_rfl) (by kernel_rfl) (by kernel_rfl) (by kernel_rfl) (by kernel_rfl) (by kernel_rfl) (fun _ _ _ h => h) (Or.inl ⟨by kernel_rfl, by (intro w' hSw; go_simp; first | done | (with_reducible rfl))⟩) hHeld ?_
  (try simp only [Act.put, List.getElem_toArray, List.getElem_cons_zero, List.getElem_cons_succ, List.setIfInBounds_toArray, List.set_cons_zero, List.set_cons_succ])
  refine wpAnyX_take (i := 17) (v := ?_) [23] rfl (by kernel_rfl) (by kernel_rfl) (by kernel_rfl) (by kernel_rfl) (by kernel_rfl) (by kernel_rfl) (fun _ _ _ h => h) (Or.inl ⟨by kernel_rfl, by (intro w' hSw; go_simp; first | done | (with_reducible rfl))⟩) hHeld ?_
  (try simp only [Act.put, List.getElem_toArray, List.getElem_cons_zero, List.getElem_cons_succ, List.setIfInBounds_toArray, List.set_cons_zero, List.set_cons_succ])
  refine wpAnyX_take (i := 18) (v := ?_) [23] rfl (by kernel_rfl) (by kernel_rfl) (by kernel_rfl) (by kernel_rfl) (by kernel_rfl) (by kernel_rfl) (fun _ _ _ h => h) (Or.inl ⟨by kernel_rfl, by (intro w' hSw; go_simp; first | done | (with_reducible rfl))⟩) hHeld ?_
  (try simp only [Act.put, List.getElem_toArray, List.getElem_cons_zero, List.getElem_cons_succ, List.setIfInBounds_toArray, List.set_cons_zero, List.set_cons_succ])
  refine wpAnyX_take (i := 20) (v := ?_) [21, 22, 23] rfl (by kernel_rfl) (by kernel_rfl) (by kernel_rfl) (by kernel_rfl) (by kernel_rfl) (by kernel_rfl) (fun _ _ _ h => h) (Or.inl ⟨by kernel_rfl, by (intro w' hSw; go_simp; first | done | (with_reducible rfl))⟩) hHeld ?_
  (try simp only [Act.put, List.getElem_toArray, List.getElem_cons_zero, List.getElem_cons_succ, List.setIfInBounds_toArray, List.set_cons_zero, List.set_cons_succ])
  refine wpAnyX_take (i := 21) (v := ?_) [22, 23] rfl (by kernel_rfl) (by kernel_rfl) (by kernel_rfl) (by kernel_rfl) (by kernel_rfl) (by kernel_rfl) (fun _ _ _ h => h) (Or.inl ⟨by kernel_rfl, by (intro w' hSw; go_simp; first | done | (with_reducible rfl))⟩) hHeld ?_
  (try simp only [Act.put, List.getElem_toArray, List.getElem_cons_zero, List.getElem_cons_succ, List.setIfInBounds_toArray, List.set_cons_zero, List.set_cons_succ])
  refine wpAnyX_one (i := 19) (by kernel_rfl) rfl (fun K hK => ?_)
  go_simp
  (go_at_call 18; refine (N _).mono ?_; rintro e w5 ⟨rfl, hb5⟩)
  exact ⟨rfl, rfl, B3.out.drew.trans (hb5.mono B3.out.size)⟩

set_option maxRecDepth 100000 in
set_option maxHeartbeats 4000000 in
theorem do_reck4 (v : Value) (n : Nat) (D : Nat → Int) (gb : Nat) (pc : Int) (ia ib ic : Nat) (hia : ia < 8) (hib : ib < 8) (hic : ic < 8) (r : Value) (x y nz : Int) (cs : Array Value) (w : World) (h : CodeAt w v n D) (hG : Blk w gb 30 cs) (h8 : cs[8]? = some (.int .i64 pc)) (hr : cs[9 + ia]? = some r) (hx : cs[9 + ib]? = some (.int .u64 x)) (hy : cs[9 + ic]? = some (.int .u64 y)) (he : decR n D pc = ⟨4, ia, ib, ic, 0⟩)
    (N : ∀ w, Calls Try.prog 18 #[.int .u8 4, .int .u64 x, .int .u64 y] w fun e w' => e = .returned (.int .u64 nz) ∧ Below w.heap.size w w') :
    Calls Try.prog 15 #[v, .pointer (some ⟨gb, 0, none⟩)] w fun e w' => e = .returned (.tuple #[.agg call0, .int .i64 1]) ∧ w.grownBy w' (some gb) ∧ Blk w' gb 30 ((cs.setIfInBounds (9 + ia) (.int .u64 nz)).setIfInBounds 8 (.int .i64 (wrap64 (pc + 1)))) := by
  have hg := hG.lt
  have B1 := (Below.refl w.heap.size w).alloc (Nat.le_refl _) (.cells call0 36)
  have G1 := hG.alloc (.cells call0 36)
  have R1 := Blk.new w 36 call0
  have y6 := (G1.cell 8).trans h8
  have C1 := decode_is v n D pc _ (h.below (B := 0) B1)
  rw [he] at C1
  unfold Dec.v insV at C1
  simp only at C1
  unfold call0 at *
  have HB := Lib.hid (And.intro B1 (And.intro G1 R1))
  clear h he B1 G1 R1 hG
  go_enter Try.func15, Try.ntmps15
  go_wp2_with (first
    | (go_at_call 12; refine C1.mono ?_; rintro e w2 ⟨rfl, hb⟩; (have G2 := (HB.out.2.1.below hb HB.out.2.1.lt).alloc (.cells #[.int .u8 4, .int .u8 ia, .int .u8 ib, .int .u8 ic] 45)); (have z8 := (G2.cell 8).trans h8); (have R2 := Lib.hid ((HB.out.2.2.below hb HB.out.2.2.lt).alloc (.cells #[.int .u8 4, .int .u8 ia, .int .u8 ib, .int .u8 ic] 45))); (have G2h := Lib.hid G2); (have I2 := Lib.hid (Blk.new w2 45 #[.int .u8 4, .int .u8 ia, .int .u8 ib, .int .u8 ic])); (have B2 := Lib.hid (HB.out.1.trans (hb.mono HB.out.1.size))); (have hne := Lib.hid (Nat.ne_of_gt hg)); clear G2 hb))
  have B3 := Lib.hid (B2.out.alloc B2.out.size (.cells #[.int .u8 4, .int .u8 ia, .int .u8 ib, .int .u8 ic] 45))
  generalize w2.alloc (.cells #[.int .u8 4, .int .u8 ia, .int .u8 ib, .int .u8 ic] 45) = w3 at *
  have i0 := I2.out.cell 0
  have i1 := I2.out.cell 1
  have i2 := I2.out.cell 2
  have i3 := I2.out.cell 3
  simp only [List.getElem?_toArray, List.getElem?_cons_zero, List.getElem?_cons_succ] at i0 i1 i2 i3
  have zx := (G2h.out.cell (9 + ib)).trans hx
  have zy := (G2h.out.cell (9 + ic)).trans hy
  have a1 : (ia : Int) < 8 := by omega
  have a2 : (ib : Int) < 8 := by omega
  have a3 : (ic : Int) < 8 := by omega
  generalize w2.heap.size = xb at *
  refine wp_region_X (S := (fun w' => w'.cell? ⟨xb, 0, none⟩ = some (.int .u8 4) ∧ w'.cell? ⟨xb, 1, none⟩ = some (.int .u8 ia) ∧ w'.cell? ⟨xb, 2, none⟩ = some (.int .u8 ib) ∧ w'.cell? ⟨xb, 3, none⟩ = some (.int .u8 ic) ∧ w'.cell? ⟨gb, 9 + ib, none⟩ = some (.int .u64 x) ∧ w'.cell? ⟨gb, 9 + ic, none⟩ = some (.int .u64 y))) 23 (by kernel_rfl) ⟨i0, i1, i2, i3, zx, zy⟩ (fun hHeld => ?_)
  refine wpAnyX_take (i := 0) (v := ?_) [23] rfl (by kernel_rfl) (by kernel_rfl) (by kernel_rfl) (by kernel_rfl) (by kernel_rfl) (by kernel_rfl) (fun _ _ _ h => h) (Or.inl ⟨by kernel_rfl, by (intro w' hSw; go_simp; first | done | (with_reducible rfl))⟩) hHeld ?_
  (try simp only [Act.put, List.getElem_toArray, List.getElem_cons_zero, List.getElem_cons_succ, List.setIfInBounds_toArray, List.set_cons_zero, List.set_cons_succ])
  refine wpAnyX_take (i := 1) (v := ?_) [23] rfl (by kernel_rfl) (by kernel_rfl) (by kernel_rfl) (by kernel_rfl) (by kernel_rfl) (by kernel_rfl) (fun _ _ _ h => h) (Or.inl ⟨by kernel_rfl, by (intro w' hSw; go_simp; first | done | (with_reducible rfl))⟩) hHeld ?_
  (try simp only [Act.put, List.getElem_toArray, List.getElem_cons_zero, List.getElem_cons_succ, List.setIfInBounds_toArray, List.set_cons_zero, List.set_cons_succ])
  refine wpAnyX_take (i := 2) (v := ?_) [23] rfl (by kernel_rfl) (by kernel_rfl) (by kernel_rfl) (by kernel_rfl) (by kernel_rfl) (by kernel_rfl) (fun _ _ _ h => h) (Or.inl ⟨by kernel_rfl, by (intro w' hSw; go_simp; first | done | (with_reducible rfl))⟩) hHeld ?_
  (try simp only [Act.put, List.getElem_toArray, List.getElem_cons_zero, List.getElem_cons_succ, List.setIfInBounds_toArray, List.set_cons_zero, List.set_cons_succ])
  refine wpAnyX_take (i := 3) (v := ?_) [23] rfl (by kernel_rfl) (by kernel_rfl) (by kernel_rfl) (by kernel_rfl) (by kernel_rfl) (by kernel_rfl) (fun _ _ _ h => h) (Or.inl ⟨by kernel_rfl, by (intro w' hSw; go_simp; first | done | (with_reducible rfl))⟩) hHeld ?_
  (try simp only [Act.put, List.getElem_toArray, List.getElem_cons_zero, List.getElem_cons_succ, List.setIfInBounds_toArray, List.set_cons_zero, List.set_cons_succ])
  refine wpAnyX_take (i := 4) (v := ?_) [23] rfl (by kernel_rfl) (by kernel_rfl) (by kernel_rfl) (by kernel_rfl) (by kernel_rfl) (by kernel_rfl) (fun _ _ _ h => h) (Or.inl ⟨by kernel_rfl, by (intro w' hSw; go_simp; first | done | (with_reducible rfl))⟩) hHeld ?_
  (try simp only [Act.put, List.getElem_toArray, List.getElem_cons_zero, List.getElem_cons_succ, List.setIfInBounds_toArray, List.set_cons_zero, List.set_cons_succ])
  refine wpAnyX_take (i := 5) (v := ?_) [23] rfl (by kernel_rfl) (by kernel_rfl) (by kernel_rfl) (by kernel_rfl) (by kernel_rfl) (by kernel_rfl) (fun _ _ _ h => h) (Or.inl ⟨by kernel_rfl, by (intro w' hSw; go_simp; first | done | (with_reducible rfl))⟩) hHeld ?_
  (try simp only [Act.put, List.getElem_toArray, List.getElem_cons_zero, List.getElem_cons_succ, List.setIfInBounds_toArray, List.set_cons_zero, List.set_cons_succ])
  refine wpAnyX_take (i := 6) (v := ?_) [23] rfl (by kernel_rfl) (by kernel_rfl) (by kernel_rfl) (by kernel_rfl) (by kernel_rfl) (by kernel_rfl) (fun _ _ _ h => h) (Or.inl ⟨by kernel_rfl, by (intro w' hSw; go_simp; first | done | (with_reducible rfl))⟩) hHeld ?_
  (try simp only [Act.put, List.getElem_toArray, List.getElem_cons_zero, List.getElem_cons_succ, List.setIfInBounds_toArray, List.set_cons_zero, List.set_cons_succ])
  refine wpAnyX_take (i := 7) (v := ?_) [23] rfl (by kernel_rfl) (by kernel_rfl) (by kernel_rfl) (by kernel_rfl) (by kernel_rfl) (by kernel_rfl) (fun _ _ _ h => h) (Or.inl ⟨by kernel_rfl, by (intro w' hSw; go_simp; first | done | (with_reducible rfl))⟩) hHeld ?_
  (try simp only [Act.put, List.getElem_toArray, List.getElem_cons_zero, List.getElem_cons_succ, List.setIfInBounds_toArray, List.set_cons_zero, List.set_cons_succ])
  refine wpAnyX_take (i := 8) (v := ?_) [23] rfl (by kernel_rfl) (by kernel_rfl) (by kernel_rfl) (by kernel_rfl) (by kernel_rfl) (by kernel_rfl) (fun _ _ _ h => h) (Or.inl ⟨by kernel_rfl, by (intro w' hSw; go_simp; first | done | (with_reducible rfl))⟩) hHeld ?_
  (try simp only [Act.put, List.getElem_toArray, List.getElem_cons_zero, List.getElem_cons_succ, List.setIfInBounds_toArray, List.set_cons_zero, List.set_cons_succ])
  refine wpAnyX_take (i := 9) (v := ?_) [23] rfl (by kernel_rfl) (by kernel_rfl) (by kernel_rfl) (by kernel_rfl) (by kernel_rfl) (by kernel_rfl) (fun _ _ _ h => h) (Or.inl ⟨by kernel_rfl, by (intro w' hSw; go_simp; first | done | (with_reducible rfl))⟩) hHeld ?_
  (try simp only [Act.put, List.getElem_toArray, List.getElem_cons_zero, List.getElem_cons_succ, List.setIfInBounds_toArray, List.set_cons_zero, List.set_cons_succ])
  refine wpAnyX_take (i := 10) (v := ?_) [23] rfl (by kernel_rfl) (by kernel_rfl) (by kernel_rfl) (by kernel_rfl) (by kernel_rfl) (by kernel_rfl) (fun _ _ _ h => h) (Or.inl ⟨by kernel_rfl, by (intro w' hSw; go_simp; first | done | (with_reducible rfl))⟩) hHeld ?_
  (try simp only [Act.put, List.getElem_toArray, List.getElem_cons_zero, List.getElem_cons_succ, List.setIfInBounds_toArray, List.set_cons_zero, List.set_cons_succ])
  refine wpAnyX_take (i := 11) (v := ?_) [23] rfl (by kernel_rfl) (by kernel_rfl) (by kernel_rfl) (by kernel_rfl) (by kernel_rfl) (by kernel_rfl) (fun _ _ _ h => h) (Or.inl ⟨by kernel_rfl, by (intro w' hSw; go_simp; first | done | (with_reducible rfl))⟩) hHeld ?_
  (try simp only [Act.put, List.getElem_toArray, List.getElem_cons_zero, List.getElem_cons_succ, List.setIfInBounds_toArray, List.set_cons_zero, List.set_cons_succ])
  refine wpAnyX_take (i := 12) (v := ?_) [23] rfl (by kernel_rfl) (by kernel_rfl) (by kernel_rfl) (by kernel_rfl) (by kernel_rfl) (by kernel_rfl) (fun _ _ _ h => h) (Or.inl ⟨by kernel_rfl, by (intro w' hSw; go_simp; first | done | (with_reducible rfl))⟩) hHeld ?_
  (try simp only [Act.put, List.getElem_toArray, List.getElem_cons_zero, List.getElem_cons_succ, List.setIfInBounds_toArray, List.set_cons_zero, List.set_cons_succ])
  refine wpAnyX_take (i := 13) (v := ?_) [23] rfl (by kernel_rfl) (by kernel_rfl) (by kernel_rfl) (by kernel_rfl) (by kernel_rfl) (by kernel_rfl) (fun _ _ _ h => h) (Or.inl ⟨by kernel_rfl, by (intro w' hSw; go_simp; first | done | (with_reducible rfl))⟩) hHeld ?_
  (try simp only [Act.put, List.getElem_toArray, List.getElem_cons_zero, List.getElem_cons_succ, List.setIfInBounds_toArray, List.set_cons_zero, List.set_cons_succ])
  refine wpAnyX_take (i := 14) (v := ?_) [23] rfl (by kernel_rfl) (by kernel_rfl) (by kernel_rfl) (by kernel_rfl) (by kernel_rfl) (by kernel_rfl) (fun _ _ _ h => h) (Or.inl ⟨by kernel_rfl, by (intro w' hSw; go_simp; first | done | (with_reducible rfl))⟩) hHeld ?_
  (try simp only [Act.put, List.getElem_toArray, List.getElem_cons_zero, List.getElem_cons_succ, List.setIfInBounds_toArray, List.set_cons_zero, List.set_cons_succ])
  refine wpAnyX_take (i := 15) (v := ?_) [23] rfl (by kernel_rfl) (by kernel_rfl) (by kernel_rfl) (by kernel_rfl) (by kernel_rfl) (by kernel_rfl) (fun _ _ _ h => h) (Or.inl ⟨by kernel_rfl, by (intro w' hSw; go_simp; first | done | (with_reducible rfl))⟩) hHeld ?_
  (try simp only [Act.put, List.getElem_toArray, List.getElem_cons_zero, List.getElem_cons_succ, List.setIfInBounds_toArray, List.set_cons_zero, List.set_cons_succ])
  refine wpAnyX_take (i := 16) (v := ?_) [23] rfl (by kernel_rfl) (by kernel_rfl) (by kernel_rfl) (by kernel_rfl) (by kernel_rfl) (by kernel_rfl) (fun _ _ _ h => h) (Or.inl ⟨by kernel_rfl, by (intro w' hSw; go_simp; first | done | (with_reducible rfl))⟩) hHeld ?_
  (try simp only [Act.put, List.getElem_toArray, List.getElem_cons_zero, List.getElem_cons_succ, List.setIfInBounds_toArray, List.set_cons_zero, List.set_cons_succ])
  refine wpAnyX_take (i := 17) (v := ?_) [23] rfl (by kernel_rfl) (by kernel_rfl) (by kernel_rfl) (by kernel_rfl) (by kernel_rfl) (by kernel_rfl) (fun _ _ _ h => h) (Or.inl ⟨by kernel_rfl, by (intro w' hSw; go_simp; first | done | (with_reducible rfl))⟩) hHeld ?_
  (try simp only [Act.put, List.getElem_toArray, List.getElem_cons_zero, List.getElem_cons_succ, List.setIfInBounds_toArray, List.set_cons_zero, List.set_cons_succ])
  refine wpAnyX_take (i := 18) (v := ?_) [23] rfl (by kernel_rfl) (by kernel_rfl) (by kernel_rfl) (by kernel_rfl) (by kernel_rfl) (by kernel_rfl) (fun _ _ _ h => h) (Or.inl ⟨by kernel_rfl, by (intro w' hSw; go_simp; first | done | (with_reducible rfl))⟩) hHeld ?_
  (try simp only [Act.put, List.getElem_toArray, List.getElem_cons_zero, List.getElem_cons_succ, List.setIfInBounds_toArray, List.set_cons_zero, List.set_cons_succ])
  refine wpAnyX_take (i := 20) (v := ?_) [21, 22, 23] rfl (by kernel_rfl) (by kernel_rfl) (by kernel_rfl) (by kernel_rfl) (by kernel_rfl) (by kernel_rfl) (fun _ _ _ h => h) (Or.inl ⟨by kernel_rfl, by (intro w' hSw; go_simp; first | done | (with_reducible rfl))⟩) hHeld ?_
  (try simp only [Act.put, List.getElem_toArray, List.getElem_cons_zero, List.getElem_cons_succ, List.setIfInBounds_toArray, List.set_cons_zero, List.set_cons_succ])
  refine wpAnyX_take (i := 21) (v := ?_) [22, 23] rfl (by kernel_rfl) (by kernel_rfl) (by kernel_rfl) (by kernel_rfl) (by kernel_rfl) (by kernel_rfl) (fun _ _ _ h => h) (Or.inl ⟨by kernel_rfl, by (intro w' hSw; go_simp; first | done | (with_reducible rfl))⟩) hHeld ?_
  (try simp only [Act.put, List.getElem_toArray, List.getElem_cons_zero, List.getElem_cons_succ, List.setIfInBounds_toArray, List.set_cons_zero, List.set_cons_succ])
  refine wpAnyX_one (i := 19) (by kernel_rfl) rfl (fun K hK => ?_)
  go_simp
  (go_at_call 18; refine (N _).mono ?_; rintro e w5 ⟨rfl, hb5⟩; (have G5 := G2h.out.drew.below hb5 G2h.out.lt); (have zr5 := (G5.cell (9 + ia)).trans hr); (have fr5 := G5.frozen (9 + ia)); (have HG5 := Lib.hid G5); (have HB5 := Lib.hid hb5); clear G5 hb5)
  dsimp only
  clear hHeld
  refine hK.out _ _ ⟨(HB5.out.cell (p := ⟨xb, 0, none⟩) I2.out.lt).trans i0, (HB5.out.cell (p := ⟨xb, 1, none⟩) I2.out.lt).trans i1, (HB5.out.cell (p := ⟨xb, 2, none⟩) I2.out.lt).trans i2, (HB5.out.cell (p := ⟨xb, 3, none⟩) I2.out.lt).trans i3, (HG5.out.cell (9 + ib)).trans hx, (HG5.out.cell (9 + ic)).trans hy⟩ (fun hHeld => ?_)
  clear hK K
  (try simp only [Act.put, List.getElem_toArray, List.getElem_cons_zero, List.getElem_cons_succ, List.setIfInBounds_toArray, List.set_cons_zero, List.set_cons_succ])
  refine wpAnyX_take (i := 22) (v := ?_) [23] rfl (by kernel_rfl) (by kernel_rfl) (by kernel_rfl) (by kernel_rfl) (by kernel_rfl) (by kernel_rfl) (fun _ _ _ h => h) (Or.inl ⟨by kernel_rfl, by (intro w' hSw; go_simp; first | done | (with_reducible rfl))⟩) hHeld ?_
  (try simp only [Act.put, List.getElem_toArray, List.getElem_cons_zero, List.getElem_cons_succ, List.setIfInBounds_toArray, List.set_cons_zero, List.set_cons_succ])
  refine wpAnyX_last (i := 23) (by kernel_rfl) rfl rfl (fun K hK => ?_)
  go_simp
  refine hK.out _ _ ?_
  clear hK K hHeld
  (try simp only [Act.put, List.getElem_toArray, List.getElem_cons_zero, List.getElem_cons_succ, List.setIfInBounds_toArray, List.set_cons_zero, List.set_cons_succ])
  refine wpAnyX_done (by kernel_rfl) ?_ _
  have B5 := (B3.out.drew).trans (HB5.out.mono B3.out.size)
  have H4 := grown_set0 (gb := gb) B5 (9 + ia) (.int .u64 nz)
  have G4 := HG5.out.set_ (9 + ia) (.int .u64 nz)
  have R4 := (R2.out.drew.below HB5.out R2.out.lt).far (p := ⟨gb, 9 + ia, none⟩) hne.out (.int .u64 nz)
  clear zr5 fr5 i0 i1 i2 i3 z8 B5 zx zy
  have HB5 := trivial
  have HG5 := trivial
  generalize w5.setCell ⟨gb, 9 + ia, none⟩ (.int .u64 nz) = w4 at *
  have q8 : w4.cell? ⟨gb, 8, none⟩ = some (.int .i64 pc) := (G4.cell 8).trans (by rw [Array.getElem?_setIfInBounds_ne (by omega)]; exact h8)
  have f8 := G4.frozen 8
  have H4 := Lib.hid H4
  have G4 := Lib.hid G4
  have R4 := Lib.hid R4
  go_wp2_with (first
    | (refine load_call (R4.out.far hne.out _) rfl (by exact rfl) (.tmp 4) (by exact rfl) (by exact rfl) ?_)
    | (refine wpList_store_row (by exact rfl) 36 (.tmp 4) (.tmp 116) (by exact rfl) w.heap.size #[.int .i64 0, .int .u64 0, .int .u64 0, .int .u64 0, .int .u64 0, .int .u64 0] (by exact rfl) (by exact rfl) 36 _ (R4.out.far hne.out _) (by kernel_rfl) (by exact rfl) (by simp [Value.oneCell']) ?_))
  exact bodyPost_ret (results_call (p := 4) (u := 5) (by kernel_rfl) _ _ rfl ((R4.out.far hne.out _).put_ _) rfl) rfl ⟨rfl, grown_put H4.out (Nat.le_refl _) 8 _ _, (G4.out.set_ 8 _).setRow_ hne.out.symm _⟩

set_option maxRecDepth 100000 in
set_option maxHeartbeats 4000000 in
theorem do_reck4_no (v : Value) (n : Nat) (D : Nat → Int) (gb : Nat) (pc : Int) (ia ib ic : Nat) (hia : ia < 8) (hib : ib < 8) (hic : ic < 8) (x y nz : Int) (cs : Array Value) (w : World) (h : CodeAt w v n D) (hG : Blk w gb 30 cs) (h8 : cs[8]? = some (.int .i64 pc)) (hx : cs[9 + ib]? = some (.int .u64 x)) (hy : cs[9 + ic]? = some (.int .u64 y)) (he : decR n D pc = ⟨4, ia, ib, ic, 0⟩)
    (N : ∀ w, Calls Try.prog 18 #[.int .u8 4, .int .u64 x, .int .u64 y] w fun e w' => e = .panicked (faultP 6) ∧ Below w.heap.size w w') :
    Calls Try.prog 15 #[v, .pointer (some ⟨gb, 0, none⟩)] w fun e w' => e = .panicked (faultP 6) ∧ Below w.heap.size w w' := by
  have hg := hG.lt
  have B1 := (Below.refl w.heap.size w).alloc (Nat.le_refl _) (.cells call0 36)
  have G1 := hG.alloc (.cells call0 36)
  have R1 := Blk.new w 36 call0
  have y6 := (G1.cell 8).trans h8
  have C1 := decode_is v n D pc _ (h.below (B := 0) B1)
  rw [he] at C1
  unfold Dec.v insV at C1
  simp only at C1
  unfold call0 at *
  have HB := Lib.hid (And.intro B1 (And.intro G1 R1))
  clear h he B1 G1 R1 hG
  go_enter Try.func15, Try.ntmps15
  go_wp2_with (first
    | (go_at_call 12; refine C1.mono ?_; rintro e w2 ⟨rfl, hb⟩; (have G2 := (HB.out.2.1.below hb HB.out.2.1.lt).alloc (.cells #[.int .u8 4, .int .u8 ia, .int .u8 ib, .int .u8 ic] 45)); (have z8 := (G2.cell 8).trans h8); (have R2 := Lib.hid ((HB.out.2.2.below hb HB.out.2.2.lt).alloc (.cells #[.int .u8 4, .int .u8 ia, .int .u8 ib, .int .u8 ic] 45))); (have G2h := Lib.hid G2); (have I2 := Lib.hid (Blk.new w2 45 #[.int .u8 4, .int .u8 ia, .int .u8 ib, .int .u8 ic])); (have B2 := Lib.hid (HB.out.1.trans (hb.mono HB.out.1.size))); (have hne := Lib.hid (Nat.ne_of_gt hg)); clear G2 hb))
  have B3 := Lib.hid (B2.out.alloc B2.out.size (.cells #[.int .u8 4, .int .u8 ia, .int .u8 ib, .int .u8 ic] 45))
  generalize w2.alloc (.cells #[.int .u8 4, .int .u8 ia, .int .u8 ib, .int .u8 ic] 45) = w3 at *
  have i0 := I2.out.cell 0
  have i1 := I2.out.cell 1
  have i2 := I2.out.cell 2
  have i3 := I2.out.cell 3
  simp only [List.getElem?_toArray, List.getElem?_cons_zero, List.getElem?_cons_succ] at i0 i1 i2 i3
  have zx := (G2h.out.cell (9 + ib)).trans hx
  have zy := (G2h.out.cell (9 + ic)).trans hy
  have a1 : (ia : Int) < 8 := by omega
  have a2 : (ib : Int) < 8 := by omega
  have a3 : (ic : Int) < 8 := by omega
  generalize w2.heap.size = xb at *
  refine wp_region_X (S := (fun w' => w'.cell? ⟨xb, 0, none⟩ = some (.int .u8 4) ∧ w'.cell? ⟨xb, 1, none⟩ = some (.int .u8 ia) ∧ w'.cell? ⟨xb, 2, none⟩ = some (.int .u8 ib) ∧ w'.cell? ⟨xb, 3, none⟩ = some (.int .u8 ic) ∧ w'.cell? ⟨gb, 9 + ib, none⟩ = some (.int .u64 x) ∧ w'.cell? ⟨gb, 9 + ic, none⟩ = some (.int .u64 y))) 23 (by kernel_rfl) ⟨i0, i1, i2, i3, zx, zy⟩ (fun hHeld => ?_)
  refine wpAnyX_take (i := 0) (v := ?_) [23] rfl (by kernel_rfl) (by kernel_rfl) (by kernel_rfl) (by kernel_rfl) (by kernel_rfl) (by kernel_rfl) (fun _ _ _ h => h) (Or.inl ⟨by kernel_rfl, by (intro w' hSw; go_simp; first | done | (with_reducible rfl))⟩) hHeld ?_
  (try simp only [Act.put, List.getElem_toArray, List.getElem_cons_zero, List.getElem_cons_succ, List.setIfInBounds_toArray, List.set_cons_zero, List.set_cons_succ])
  refine wpAnyX_take (i := 1) (v := ?_) [23] rfl (by kernel_rfl) (by kernel_rfl) (by kernel_rfl) (by kernel_rfl) (by kernel_rfl) (by kernel_rfl) (fun _ _ _ h => h) (Or.inl ⟨by kernel_rfl, by (intro w' hSw; go_simp; first | done | (with_reducible rfl))⟩) hHeld ?_
  (try simp only [Act.put, List.getElem_toArray, List.getElem_cons_zero, List.getElem_cons_succ, List.setIfInBounds_toArray, List.set_cons_zero, List.set_cons_succ])
  refine wpAnyX_take (i := 2) (v := ?_) [23] rfl (by kernel_rfl) (by kernel_rfl) (by kernel_rfl) (by kernel_rfl) (by kernel_rfl) (by kernel_rfl) (fun _ _ _ h => h) (Or.inl ⟨by kernel_rfl, by (intro w' hSw; go_simp; first | done | (with_reducible rfl))⟩) hHeld ?_
  (try simp only [Act.put, List.getElem_toArray, List.getElem_cons_zero, List.getElem_cons_succ, List.setIfInBounds_toArray, List.set_cons_zero, List.set_cons_succ])
  refine wpAnyX_take (i := 3) (v := ?_) [23] rfl (by kernel_rfl) (by kernel_rfl) (by kernel_rfl) (by kernel_rfl) (by kernel_rfl) (by kernel_rfl) (fun _ _ _ h => h) (Or.inl ⟨by kernel_rfl, by (intro w' hSw; go_simp; first | done | (with_reducible rfl))⟩) hHeld ?_
  (try simp only [Act.put, List.getElem_toArray, List.getElem_cons_zero, List.getElem_cons_succ, List.setIfInBounds_toArray, List.set_cons_zero, List.set_cons_succ])
  refine wpAnyX_take (i := 4) (v := ?_) [23] rfl (by kernel_rfl) (by kernel_rfl) (by kernel_rfl) (by kernel_rfl) (by kernel_rfl) (by kernel_rfl) (fun _ _ _ h => h) (Or.inl ⟨by kernel_rfl, by (intro w' hSw; go_simp; first | done | (with_reducible rfl))⟩) hHeld ?_
  (try simp only [Act.put, List.getElem_toArray, List.getElem_cons_zero, List.getElem_cons_succ, List.setIfInBounds_toArray, List.set_cons_zero, List.set_cons_succ])
  refine wpAnyX_take (i := 5) (v := ?_) [23] rfl (by kernel_rfl) (by kernel_rfl) (by kernel_rfl) (by kernel_rfl) (by kernel_rfl) (by kernel_rfl) (fun _ _ _ h => h) (Or.inl ⟨by kernel_rfl, by (intro w' hSw; go_simp; first | done | (with_reducible rfl))⟩) hHeld ?_
  (try simp only [Act.put, List.getElem_toArray, List.getElem_cons_zero, List.getElem_cons_succ, List.setIfInBounds_toArray, List.set_cons_zero, List.set_cons_succ])
  refine wpAnyX_take (i := 6) (v := ?_) [23] rfl (by kernel_rfl) (by kernel_rfl) (by kernel_rfl) (by kernel_rfl) (by kernel_rfl) (by kernel_rfl) (fun _ _ _ h => h) (Or.inl ⟨by kernel_rfl, by (intro w' hSw; go_simp; first | done | (with_reducible rfl))⟩) hHeld ?_
  (try simp only [Act.put, List.getElem_toArray, List.getElem_cons_zero, List.getElem_cons_succ, List.setIfInBounds_toArray, List.set_cons_zero, List.set_cons_succ])
  refine wpAnyX_take (i := 7) (v := ?_) [23] rfl (by kernel_rfl) (by kernel_rfl) (by kernel_rfl) (by kernel_rfl) (by kernel_rfl) (by kernel_rfl) (fun _ _ _ h => h) (Or.inl ⟨by kernel_rfl, by (intro w' hSw; go_simp; first | done | (with_reducible rfl))⟩) hHeld ?_
  (try simp only [Act.put, List.getElem_toArray, List.getElem_cons_zero, List.getElem_cons_succ, List.setIfInBounds_toArray, List.set_cons_zero, List.set_cons_succ])
  refine wpAnyX_take (i := 8) (v := ?_) [23] rfl (by kernel_rfl) (by kernel_rfl) (by kernel_rfl) (by kernel_rfl) (by kernel_rfl) (by kernel_rfl) (fun _ _ _ h => h) (Or.inl ⟨by kernel_rfl, by (intro w' hSw; go_simp; first | done | (with_reducible rfl))⟩) hHeld ?_
  (try simp only [Act.put, List.getElem_toArray, List.getElem_cons_zero, List.getElem_cons_succ, List.setIfInBounds_toArray, List.set_cons_zero, List.set_cons_succ])
  refine wpAnyX_take (i := 9) (v := ?_) [23] rfl (by kernel_rfl) (by kernel_rfl) (by kernel_rfl) (by kernel_rfl) (by kernel_rfl) (by kernel_rfl) (fun _ _ _ h => h) (Or.inl ⟨by kernel_rfl, by (intro w' hSw; go_simp; first | done | (with_reducible rfl))⟩) hHeld ?_
  (try simp only [Act.put, List.getElem_toArray, List.getElem_cons_zero, List.getElem_cons_succ, List.setIfInBounds_toArray, List.set_cons_zero, List.set_cons_succ])
  refine wpAnyX_take (i := 10) (v := ?_) [23] rfl (by kernel_rfl) (by kernel_rfl) (by kernel_rfl) (by kernel_rfl) (by kernel_rfl) (by kernel_rfl) (fun _ _ _ h => h) (Or.inl ⟨by kernel_rfl, by (intro w' hSw; go_simp; first | done | (with_reducible rfl))⟩) hHeld ?_
  (try simp only [Act.put, List.getElem_toArray, List.getElem_cons_zero, List.getElem_cons_succ, List.setIfInBounds_toArray, List.set_cons_zero, List.set_cons_succ])
  refine wpAnyX_take (i := 11) (v := ?_) [23] rfl (by kernel_rfl) (by kernel_rfl) (by kernel_rfl) (by kernel_rfl) (by kernel_rfl) (by kernel_rfl) (fun _ _ _ h => h) (Or.inl ⟨by kernel_rfl, by (intro w' hSw; go_simp; first | done | (with_reducible rfl))⟩) hHeld ?_
  (try simp only [Act.put, List.getElem_toArray, List.getElem_cons_zero, List.getElem_cons_succ, List.setIfInBounds_toArray, List.set_cons_zero, List.set_cons_succ])
  refine wpAnyX_take (i := 12) (v := ?_) [23] rfl (by kernel_rfl) (by kernel_rfl) (by kernel_rfl) (by kernel_rfl) (by kernel_rfl) (by kernel_rfl) (fun _ _ _ h => h) (Or.inl ⟨by kernel_rfl, by (intro w' hSw; go_simp; first | done | (with_reducible rfl))⟩) hHeld ?_
  (try simp only [Act.put, List.getElem_toArray, List.getElem_cons_zero, List.getElem_cons_succ, List.setIfInBounds_toArray, List.set_cons_zero, List.set_cons_succ])
  refine wpAnyX_take (i := 13) (v := ?_) [23] rfl (by kernel_rfl) (by kernel_rfl) (by kernel_rfl) (by kernel_rfl) (by kernel_rfl) (by kernel_rfl) (fun _ _ _ h => h) (Or.inl ⟨by kernel_rfl, by (intro w' hSw; go_simp; first | done | (with_reducible rfl))⟩) hHeld ?_
  (try simp only [Act.put, List.getElem_toArray, List.getElem_cons_zero, List.getElem_cons_succ, List.setIfInBounds_toArray, List.set_cons_zero, List.set_cons_succ])
  refine wpAnyX_take (i := 14) (v := ?_) [23] rfl (by kernel_rfl) (by kernel_rfl) (by kernel_rfl) (by kernel_rfl) (by kernel_rfl) (by kernel_rfl) (fun _ _ _ h => h) (Or.inl ⟨by kernel_rfl, by (intro w' hSw; go_simp; first | done | (with_reducible rfl))⟩) hHeld ?_
  (try simp only [Act.put, List.getElem_toArray, List.getElem_cons_zero, List.getElem_cons_succ, List.setIfInBounds_toArray, List.set_cons_zero, List.set_cons_succ])
  refine wpAnyX_take (i := 15) (v := ?_) [23] rfl (by kernel_rfl) (by kernel_rfl) (by kernel_rfl) (by kernel_rfl) (by kernel_rfl) (by kernel_rfl) (fun _ _ _ h => h) (Or.inl ⟨by kernel_rfl, by (intro w' hSw; go_simp; first | done | (with_reducible rfl))⟩) hHeld ?_
  (try simp only [Act.put, List.getElem_toArray, List.getElem_cons_zero, List.getElem_cons_succ, List.setIfInBounds_toArray, List.set_cons_zero, List.set_cons_succ])
  refine wpAnyX_take (i := 16) (v := ?_) [23] rfl (by kernel_rfl) (by kernel_rfl) (by kernel_rfl) (by kernel_rfl) (by kernel_rfl) (by kernel_rfl) (fun _ _ _ h => h) (Or.inl ⟨by kernel_rfl, by (intro w' hSw; go_simp; first | done | (with_reducible rfl))⟩) hHeld ?_
  (try simp only [Act.put, List.getElem_toArray, List.getElem_cons_zero, List.getElem_cons_succ, List.setIfInBounds_toArray, List.set_cons_zero, List.set_cons_succ])
  refine wpAnyX_take (i := 17) (v := ?_) [23] rfl (by kernel_rfl) (by kernel_rfl) (by kernel_rfl) (by kernel_rfl) (by kernel_rfl) (by kernel_rfl) (fun _ _ _ h => h) (Or.inl ⟨by kernel_rfl, by (intro w' hSw; go_simp; first | done | (with_reducible rfl))⟩) hHeld ?_
  (try simp only [Act.put, List.getElem_toArray, List.getElem_cons_zero, List.getElem_cons_succ, List.setIfInBounds_toArray, List.set_cons_zero, List.set_cons_succ])
  refine wpAnyX_take (i := 18) (v := ?_) [23] rfl (by kernel_rfl) (by kernel_rfl) (by kernel_rfl) (by kernel_rfl) (by kernel_rfl) (by kernel_rfl) (fun _ _ _ h => h) (Or.inl ⟨by kernel_rfl, by (intro w' hSw; go_simp; first | done | (with_reducible rfl))⟩) hHeld ?_
  (try simp only [Act.put, List.getElem_toArray, List.getElem_cons_zero, List.getElem_cons_succ, List.setIfInBounds_toArray, List.set_cons_zero, List.set_cons_succ])
  refine wpAnyX_take (i := 20) (v := ?_) [21, 22, 23] rfl (by kernel_rfl) (by kernel_rfl) (by kernel_rfl) (by kernel_rfl) (by kernel_rfl) (by kernel_rfl) (fun _ _ _ h => h) (Or.inl ⟨by kernel_rfl, by (intro w' hSw; go_simp; first | done | (with_reducible rfl))⟩) hHeld ?_
  (try simp only [Act.put, List.getElem_toArray, List.getElem_cons_zero, List.getElem_cons_succ, List.setIfInBounds_toArray, List.set_cons_zero, List.set_cons_succ])
  refine wpAnyX_take (i := 21) (v := ?_) [22, 23] rfl (by kernel_rfl) (by kernel_rfl) (by kernel_rfl) (by kernel_rfl) (by kernel_rfl) (by kernel_rfl) (fun _ _ _ h => h) (Or.inl ⟨by kernel_rfl, by (intro w' hSw; go_simp; first | done | (with_reducible rfl))⟩) hHeld ?_
  (try simp only [Act.put, List.getElem_toArray, List.getElem_cons_zero, List.getElem_cons_succ, List.setIfInBounds_toArray, List.set_cons_zero, List.set_cons_succ])
  refine wpAnyX_one (i := 19) (by kernel_rfl) rfl (fun K hK => ?_)
  go_simp
  (go_at_call 18; refine (N _).mono ?_; rintro e w5 ⟨rfl, hb5⟩)
  exact ⟨rfl, rfl, B3.out.drew.trans (hb5.mono B3.out.size)⟩
end Go.Proofs.Ytbgfbgcjghcepaa
