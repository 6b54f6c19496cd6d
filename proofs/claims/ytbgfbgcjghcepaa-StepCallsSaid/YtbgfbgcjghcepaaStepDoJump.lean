/- step.do of 'jump' and of 'zero', by walk. -/
import Derived.Test.YtbgfbgcjghcepaaStepDoConst
import Derived.Test.YtbgfbgcjghcepaaHeldLast
namespace Go.Proofs.Ytbgfbgcjghcepaa
open Go.RowKit
set_option linter.unusedVariables false
set_option linter.unusedSimpArgs false

set_option maxRecDepth 100000 in
set_option maxHeartbeats 4000000 in
theorem do_jump_in (v : Value) (n : Nat) (D : Nat → Int) (gb : Nat) (pc : Int) (a b c : Int) (cs : Array Value) (w : World) (h : CodeAt w v n D) (hG : Blk w gb 30 cs) (h8 : cs[8]? = some (.int .i64 pc)) (he : decR n D pc = ⟨5, a, b, c, 0⟩) (hj : ¬ (toR pc b c < 0 ∨ ((n / 4 : Nat) : Int) < toR pc b c)) :
    Calls Try.prog 15 #[v, .pointer (some ⟨gb, 0, none⟩)] w fun e w' => e = .returned (.tuple #[.agg call0, .int .i64 1]) ∧ w.grownBy w' (some gb) ∧ Blk w' gb 30 (cs.setIfInBounds 8 (.int .i64 (toR pc b c))) := by
  have hg := hG.lt
  have B1 := (Below.refl w.heap.size w).alloc (Nat.le_refl _) (.cells call0 36)
  have G1 := hG.alloc (.cells call0 36)
  have R1 := Blk.new w 36 call0
  have y6 := (G1.cell 8).trans h8
  have C1 := decode_is v n D pc _ (h.below (B := 0) B1)
  rw [he] at C1
  unfold Dec.v insV at C1
  simp only at C1
  obtain ⟨hn, -, A, cap, hv, -⟩ := h
  subst hv
  obtain ⟨t, ht⟩ : ∃ t, t = toR pc b c := ⟨_, rfl⟩
  have N := jump_in A n cap hn pc 5 a b c hj
  unfold insV at N
  rw [← ht] at N ⊢
  clear ht hj
  unfold call0 at *
  have HB := Lib.hid (And.intro B1 (And.intro G1 R1))
  clear he B1 G1 R1 hG
  go_enter Try.func15, Try.ntmps15
  go_wp2_with (first
    | (go_at_call 12; refine C1.mono ?_; rintro e w2 ⟨rfl, hb⟩; (have G2 := (HB.out.2.1.below hb HB.out.2.1.lt).alloc (.cells #[.int .u8 5, .int .u8 a, .int .u8 b, .int .u8 c] 45)); (have z8 := (G2.cell 8).trans h8); (have R2 := Lib.hid ((HB.out.2.2.below hb HB.out.2.2.lt).alloc (.cells #[.int .u8 5, .int .u8 a, .int .u8 b, .int .u8 c] 45))); (have G2h := Lib.hid G2); (have I2 := Lib.hid (Blk.new w2 45 #[.int .u8 5, .int .u8 a, .int .u8 b, .int .u8 c])); (have B2 := Lib.hid (HB.out.1.trans (hb.mono HB.out.1.size))); (have hne := Lib.hid (Nat.ne_of_gt hg)); clear G2 hb))
  have B3 := Lib.hid (B2.out.alloc B2.out.size (.cells #[.int .u8 5, .int .u8 a, .int .u8 b, .int .u8 c] 45))
  generalize w2.alloc (.cells #[.int .u8 5, .int .u8 a, .int .u8 b, .int .u8 c] 45) = w3 at *
  have i0 := I2.out.cell 0
  have i1 := I2.out.cell 1
  have i2 := I2.out.cell 2
  have i3 := I2.out.cell 3
  simp only [List.getElem?_toArray, List.getElem?_cons_zero, List.getElem?_cons_succ] at i0 i1 i2 i3
  generalize w2.heap.size = xb at *
  refine wp_region_held_drew (S := (fun w' => w'.cell? ⟨gb, 8, none⟩ = some (.int .i64 pc) ∧ w'.cell? ⟨xb, 0, none⟩ = some (.int .u8 5) ∧ w'.cell? ⟨xb, 1, none⟩ = some (.int .u8 a) ∧ w'.cell? ⟨xb, 2, none⟩ = some (.int .u8 b) ∧ w'.cell? ⟨xb, 3, none⟩ = some (.int .u8 c))) (by kernel_rfl) ⟨z8, i0, i1, i2, i3⟩ (fun hHeld => ?_)
  refine wpAnyH_take (i := 0) (v := ?_) rfl (by kernel_rfl) (by kernel_rfl) (by kernel_rfl) (fun _ _ _ h => h) (Or.inl ⟨by kernel_rfl, by (intro w' hSw; go_simp; first | done | (with_reducible rfl))⟩) hHeld ?_
  (try simp only [Act.put, List.getElem_toArray, List.getElem_cons_zero, List.getElem_cons_succ, List.setIfInBounds_toArray, List.set_cons_zero, List.set_cons_succ])
  refine wpAnyH_take (i := 1) (v := ?_) rfl (by kernel_rfl) (by kernel_rfl) (by kernel_rfl) (fun _ _ _ h => h) (Or.inl ⟨by kernel_rfl, by (intro w' hSw; go_simp; first | done | (with_reducible rfl))⟩) hHeld ?_
  (try simp only [Act.put, List.getElem_toArray, List.getElem_cons_zero, List.getElem_cons_succ, List.setIfInBounds_toArray, List.set_cons_zero, List.set_cons_succ])
  refine wpAnyH_take (i := 2) (v := ?_) rfl (by kernel_rfl) (by kernel_rfl) (by kernel_rfl) (fun _ _ _ h => h) (Or.inl ⟨by kernel_rfl, by (intro w' hSw; go_simp; first | done | (with_reducible rfl))⟩) hHeld ?_
  (try simp only [Act.put, List.getElem_toArray, List.getElem_cons_zero, List.getElem_cons_succ, List.setIfInBounds_toArray, List.set_cons_zero, List.set_cons_succ])
  refine wpAnyH_take (i := 3) (v := ?_) rfl (by kernel_rfl) (by kernel_rfl) (by kernel_rfl) (fun _ _ _ h => h) (Or.inl ⟨by kernel_rfl, by (intro w' hSw; go_simp; first | done | (with_reducible rfl))⟩) hHeld ?_
  (try simp only [Act.put, List.getElem_toArray, List.getElem_cons_zero, List.getElem_cons_succ, List.setIfInBounds_toArray, List.set_cons_zero, List.set_cons_succ])
  refine wpAnyH_take (i := 4) (v := ?_) rfl (by kernel_rfl) (by kernel_rfl) (by kernel_rfl) (fun _ _ _ h => h) (Or.inl ⟨by kernel_rfl, by (intro w' hSw; go_simp; first | done | (with_reducible rfl))⟩) hHeld ?_
  (try simp only [Act.put, List.getElem_toArray, List.getElem_cons_zero, List.getElem_cons_succ, List.setIfInBounds_toArray, List.set_cons_zero, List.set_cons_succ])
  refine wpAnyH_take (i := 5) (v := ?_) rfl (by kernel_rfl) (by kernel_rfl) (by kernel_rfl) (fun _ _ _ h => h) (Or.inl ⟨by kernel_rfl, by (intro w' hSw; go_simp; first | done | (with_reducible rfl))⟩) hHeld ?_
  (try simp only [Act.put, List.getElem_toArray, List.getElem_cons_zero, List.getElem_cons_succ, List.setIfInBounds_toArray, List.set_cons_zero, List.set_cons_succ])
  refine wpAnyH_ready (rs := [6]) (by kernel_rfl) (by simp) ?_
  refine AllReadyH.cons rfl (fun K hK => ?_) AllReadyH.nil
  go_simp
  (go_at_call 19; refine (N _).mono ?_; rintro e w5 ⟨rfl, hb5⟩; (have HB5 := Lib.hid hb5); clear hb5)
  dsimp only
  clear hHeld
  refine hK.out _ _ ⟨(HB5.out.cell (p := ⟨gb, 8, none⟩) G2h.out.lt).trans z8, (HB5.out.cell (p := ⟨xb, 0, none⟩) I2.out.lt).trans i0, (HB5.out.cell (p := ⟨xb, 1, none⟩) I2.out.lt).trans i1, (HB5.out.cell (p := ⟨xb, 2, none⟩) I2.out.lt).trans i2, (HB5.out.cell (p := ⟨xb, 3, none⟩) I2.out.lt).trans i3⟩ (fun hHeld => ?_)
  clear hK K
  (try simp only [Act.put, List.getElem_toArray, List.getElem_cons_zero, List.getElem_cons_succ, List.setIfInBounds_toArray, List.set_cons_zero, List.set_cons_succ])
  refine wpAnyH_take (i := 7) (v := ?_) rfl (by kernel_rfl) (by kernel_rfl) (by kernel_rfl) (fun _ _ _ h => h) (Or.inl ⟨by kernel_rfl, by (intro w' hSw; go_simp; first | done | (with_reducible rfl))⟩) hHeld ?_
  (try simp only [Act.put, List.getElem_toArray, List.getElem_cons_zero, List.getElem_cons_succ, List.setIfInBounds_toArray, List.set_cons_zero, List.set_cons_succ])
  refine wpAnyH_done (by kernel_rfl) ?_ _
  have B5 := Lib.hid ((B3.out.drew).trans (HB5.out.mono B3.out.size))
  have G5 := Lib.hid (G2h.out.drew.below HB5.out G2h.out.lt)
  have R5 := Lib.hid (R2.out.drew.below HB5.out R2.out.lt)
  clear z8 i0 i1 i2 i3 hHeld
  have q8 := (G5.out.cell 8).trans h8
  have f8 := G5.out.frozen 8
  go_wp2_with (first
    | (refine load_call (R5.out.far hne.out _) rfl (by exact rfl) (.tmp 4) (by exact rfl) (by exact rfl) ?_)
    | (refine wpList_store_row (by exact rfl) 36 (.tmp 4) (.tmp 116) (by exact rfl) w.heap.size #[.int .i64 0, .int .u64 0, .int .u64 0, .int .u64 0, .int .u64 0, .int .u64 0] (by exact rfl) (by exact rfl) 36 _ (R5.out.far hne.out _) (by kernel_rfl) (by exact rfl) (by simp [Value.oneCell']) ?_))
  exact bodyPost_ret (results_call (p := 4) (u := 5) (by kernel_rfl) _ _ rfl ((R5.out.far hne.out _).put_ _) rfl) rfl ⟨rfl, eff_grown B5.out 8 _ _, (G5.out.set_ 8 _).setRow_ hne.out.symm _⟩

set_option maxRecDepth 100000 in
set_option maxHeartbeats 4000000 in
theorem do_jump_out (v : Value) (n : Nat) (D : Nat → Int) (gb : Nat) (pc : Int) (a b c : Int) (cs : Array Value) (w : World) (h : CodeAt w v n D) (hG : Blk w gb 30 cs) (h8 : cs[8]? = some (.int .i64 pc)) (he : decR n D pc = ⟨5, a, b, c, 0⟩) (hj : toR pc b c < 0 ∨ ((n / 4 : Nat) : Int) < toR pc b c) :
    Calls Try.prog 15 #[v, .pointer (some ⟨gb, 0, none⟩)] w fun e w' => e = .panicked (faultP 7) ∧ Below w.heap.size w w' := by
  have hg := hG.lt
  have B1 := (Below.refl w.heap.size w).alloc (Nat.le_refl _) (.cells call0 36)
  have G1 := hG.alloc (.cells call0 36)
  have R1 := Blk.new w 36 call0
  have y6 := (G1.cell 8).trans h8
  have C1 := decode_is v n D pc _ (h.below (B := 0) B1)
  rw [he] at C1
  unfold Dec.v insV at C1
  simp only at C1
  obtain ⟨hn, -, A, cap, hv, -⟩ := h
  subst hv
  obtain ⟨t, ht⟩ : ∃ t, t = toR pc b c := ⟨_, rfl⟩
  have N := jump_out A n cap hn pc 5 a b c hj
  unfold insV at N
  clear ht hj
  unfold call0 at *
  have HB := Lib.hid (And.intro B1 (And.intro G1 R1))
  clear he B1 G1 R1 hG
  go_enter Try.func15, Try.ntmps15
  go_wp2_with (first
    | (go_at_call 12; refine C1.mono ?_; rintro e w2 ⟨rfl, hb⟩; (have G2 := (HB.out.2.1.below hb HB.out.2.1.lt).alloc (.cells #[.int .u8 5, .int .u8 a, .int .u8 b, .int .u8 c] 45)); (have z8 := (G2.cell 8).trans h8); (have R2 := Lib.hid ((HB.out.2.2.below hb HB.out.2.2.lt).alloc (.cells #[.int .u8 5, .int .u8 a, .int .u8 b, .int .u8 c] 45))); (have G2h := Lib.hid G2); (have I2 := Lib.hid (Blk.new w2 45 #[.int .u8 5, .int .u8 a, .int .u8 b, .int .u8 c])); (have B2 := Lib.hid (HB.out.1.trans (hb.mono HB.out.1.size))); (have hne := Lib.hid (Nat.ne_of_gt hg)); clear G2 hb))
  have B3 := Lib.hid (B2.out.alloc B2.out.size (.cells #[.int .u8 5, .int .u8 a, .int .u8 b, .int .u8 c] 45))
  generalize w2.alloc (.cells #[.int .u8 5, .int .u8 a, .int .u8 b, .int .u8 c] 45) = w3 at *
  have i0 := I2.out.cell 0
  have i1 := I2.out.cell 1
  have i2 := I2.out.cell 2
  have i3 := I2.out.cell 3
  simp only [List.getElem?_toArray, List.getElem?_cons_zero, List.getElem?_cons_succ] at i0 i1 i2 i3
  generalize w2.heap.size = xb at *
  refine wp_region_held_drew (S := (fun w' => w'.cell? ⟨gb, 8, none⟩ = some (.int .i64 pc) ∧ w'.cell? ⟨xb, 0, none⟩ = some (.int .u8 5) ∧ w'.cell? ⟨xb, 1, none⟩ = some (.int .u8 a) ∧ w'.cell? ⟨xb, 2, none⟩ = some (.int .u8 b) ∧ w'.cell? ⟨xb, 3, none⟩ = some (.int .u8 c))) (by kernel_rfl) ⟨z8, i0, i1, i2, i3⟩ (fun hHeld => ?_)
  refine wpAnyH_take (i := 0) (v := ?_) rfl (by kernel_rfl) (by kernel_rfl) (by kernel_rfl) (fun _ _ _ h => h) (Or.inl ⟨by kernel_rfl, by (intro w' hSw; go_simp; first | done | (with_reducible rfl))⟩) hHeld ?_
  (try simp only [Act.put, List.getElem_toArray, List.getElem_cons_zero, List.getElem_cons_succ, List.setIfInBounds_toArray, List.set_cons_zero, List.set_cons_succ])
  refine wpAnyH_take (i := 1) (v := ?_) rfl (by kernel_rfl) (by kernel_rfl) (by kernel_rfl) (fun _ _ _ h => h) (Or.inl ⟨by kernel_rfl, by (intro w' hSw; go_simp; first | done | (with_reducible rfl))⟩) hHeld ?_
  (try simp only [Act.put, List.getElem_toArray, List.getElem_cons_zero, List.getElem_cons_succ, List.setIfInBounds_toArray, List.set_cons_zero, List.set_cons_succ])
  refine wpAnyH_take (i := 2) (v := ?_) rfl (by kernel_rfl) (by kernel_rfl) (by kernel_rfl) (fun _ _ _ h => h) (Or.inl ⟨by kernel_rfl, by (intro w' hSw; go_simp; first | done | (with_reducible rfl))⟩) hHeld ?_
  (try simp only [Act.put, List.getElem_toArray, List.getElem_cons_zero, List.getElem_cons_succ, List.setIfInBounds_toArray, List.set_cons_zero, List.set_cons_succ])
  refine wpAnyH_take (i := 3) (v := ?_) rfl (by kernel_rfl) (by kernel_rfl) (by kernel_rfl) (fun _ _ _ h => h) (Or.inl ⟨by kernel_rfl, by (intro w' hSw; go_simp; first | done | (with_reducible rfl))⟩) hHeld ?_
  (try simp only [Act.put, List.getElem_toArray, List.getElem_cons_zero, List.getElem_cons_succ, List.setIfInBounds_toArray, List.set_cons_zero, List.set_cons_succ])
  refine wpAnyH_take (i := 4) (v := ?_) rfl (by kernel_rfl) (by kernel_rfl) (by kernel_rfl) (fun _ _ _ h => h) (Or.inl ⟨by kernel_rfl, by (intro w' hSw; go_simp; first | done | (with_reducible rfl))⟩) hHeld ?_
  (try simp only [Act.put, List.getElem_toArray, List.getElem_cons_zero, List.getElem_cons_succ, List.setIfInBounds_toArray, List.set_cons_zero, List.set_cons_succ])
  refine wpAnyH_take (i := 5) (v := ?_) rfl (by kernel_rfl) (by kernel_rfl) (by kernel_rfl) (fun _ _ _ h => h) (Or.inl ⟨by kernel_rfl, by (intro w' hSw; go_simp; first | done | (with_reducible rfl))⟩) hHeld ?_
  (try simp only [Act.put, List.getElem_toArray, List.getElem_cons_zero, List.getElem_cons_succ, List.setIfInBounds_toArray, List.set_cons_zero, List.set_cons_succ])
  refine wpAnyH_ready (rs := [6]) (by kernel_rfl) (by simp) ?_
  refine AllReadyH.cons rfl (fun K hK => ?_) AllReadyH.nil
  go_simp
  (go_at_call 19; refine (N _).mono ?_; rintro e w5 ⟨rfl, hb5⟩)
  exact ⟨rfl, rfl, B3.out.drew.trans (hb5.mono B3.out.size)⟩

set_option maxRecDepth 100000 in
set_option maxHeartbeats 4000000 in
theorem do_zero_in (v : Value) (n : Nat) (D : Nat → Int) (gb : Nat) (pc : Int) (ia : Nat) (hia : ia < 8) (b c : Int) (cs : Array Value) (w : World) (h : CodeAt w v n D) (hG : Blk w gb 30 cs) (h8 : cs[8]? = some (.int .i64 pc)) (he : decR n D pc = ⟨6, ia, b, c, 0⟩) (hr : cs[9 + ia]? = some (.int .u64 0)) (hj : ¬ (toR pc b c < 0 ∨ ((n / 4 : Nat) : Int) < toR pc b c)) :
    Calls Try.prog 15 #[v, .pointer (some ⟨gb, 0, none⟩)] w fun e w' => e = .returned (.tuple #[.agg call0, .int .i64 1]) ∧ w.grownBy w' (some gb) ∧ Blk w' gb 30 (cs.setIfInBounds 8 (.int .i64 (toR pc b c))) := by
  have hg := hG.lt
  have B1 := (Below.refl w.heap.size w).alloc (Nat.le_refl _) (.cells call0 36)
  have G1 := hG.alloc (.cells call0 36)
  have R1 := Blk.new w 36 call0
  have y6 := (G1.cell 8).trans h8
  have C1 := decode_is v n D pc _ (h.below (B := 0) B1)
  rw [he] at C1
  unfold Dec.v insV at C1
  simp only at C1
  obtain ⟨hn, -, A, cap, hv, -⟩ := h
  subst hv
  obtain ⟨t, ht⟩ : ∃ t, t = toR pc b c := ⟨_, rfl⟩
  have N := jump_in A n cap hn pc 6 ia b c hj
  unfold insV at N
  rw [← ht] at N ⊢
  clear ht hj
  unfold call0 at *
  have HB := Lib.hid (And.intro B1 (And.intro G1 R1))
  clear he B1 G1 R1 hG
  go_enter Try.func15, Try.ntmps15
  go_wp2_with (first
    | (go_at_call 12; refine C1.mono ?_; rintro e w2 ⟨rfl, hb⟩; (have G2 := (HB.out.2.1.below hb HB.out.2.1.lt).alloc (.cells #[.int .u8 6, .int .u8 ia, .int .u8 b, .int .u8 c] 45)); (have z8 := (G2.cell 8).trans h8); (have R2 := Lib.hid ((HB.out.2.2.below hb HB.out.2.2.lt).alloc (.cells #[.int .u8 6, .int .u8 ia, .int .u8 b, .int .u8 c] 45))); (have G2h := Lib.hid G2); (have I2 := Lib.hid (Blk.new w2 45 #[.int .u8 6, .int .u8 ia, .int .u8 b, .int .u8 c])); (have B2 := Lib.hid (HB.out.1.trans (hb.mono HB.out.1.size))); (have hne := Lib.hid (Nat.ne_of_gt hg)); clear G2 hb))
  have B3 := Lib.hid (B2.out.alloc B2.out.size (.cells #[.int .u8 6, .int .u8 ia, .int .u8 b, .int .u8 c] 45))
  generalize w2.alloc (.cells #[.int .u8 6, .int .u8 ia, .int .u8 b, .int .u8 c] 45) = w3 at *
  have i0 := I2.out.cell 0
  have i1 := I2.out.cell 1
  have i2 := I2.out.cell 2
  have i3 := I2.out.cell 3
  simp only [List.getElem?_toArray, List.getElem?_cons_zero, List.getElem?_cons_succ] at i0 i1 i2 i3
  generalize w2.heap.size = xb at *
  have a1 : (ia : Int) < 8 := by omega
  have zr := (G2h.out.cell (9 + ia)).trans hr
  refine wp_region_held_drew (S := (fun w' => w'.cell? ⟨xb, 1, none⟩ = some (.int .u8 ia) ∧ w'.cell? ⟨gb, 9 + ia, none⟩ = some (.int .u64 0))) (by kernel_rfl) ⟨i1, zr⟩ (fun hHeld => ?_)
  refine wpAnyH_take (i := 0) (v := ?_) rfl (by kernel_rfl) (by kernel_rfl) (by kernel_rfl) (fun _ _ _ h => h) (Or.inl ⟨by kernel_rfl, by (intro w' hSw; go_simp; first | done | (with_reducible rfl))⟩) hHeld ?_
  (try simp only [Act.put, List.getElem_toArray, List.getElem_cons_zero, List.getElem_cons_succ, List.setIfInBounds_toArray, List.set_cons_zero, List.set_cons_succ])
  refine wpAnyH_take (i := 1) (v := ?_) rfl (by kernel_rfl) (by kernel_rfl) (by kernel_rfl) (fun _ _ _ h => h) (Or.inl ⟨by kernel_rfl, by (intro w' hSw; go_simp; first | done | (with_reducible rfl))⟩) hHeld ?_
  (try simp only [Act.put, List.getElem_toArray, List.getElem_cons_zero, List.getElem_cons_succ, List.setIfInBounds_toArray, List.set_cons_zero, List.set_cons_succ])
  refine wpAnyH_take (i := 2) (v := ?_) rfl (by kernel_rfl) (by kernel_rfl) (by kernel_rfl) (fun _ _ _ h => h) (Or.inl ⟨by kernel_rfl, by (intro w' hSw; go_simp; first | done | (with_reducible rfl))⟩) hHeld ?_
  (try simp only [Act.put, List.getElem_toArray, List.getElem_cons_zero, List.getElem_cons_succ, List.setIfInBounds_toArray, List.set_cons_zero, List.set_cons_succ])
  refine wpAnyH_take (i := 3) (v := ?_) rfl (by kernel_rfl) (by kernel_rfl) (by kernel_rfl) (fun _ _ _ h => h) (Or.inl ⟨by kernel_rfl, by (intro w' hSw; go_simp; first | done | (with_reducible rfl))⟩) hHeld ?_
  (try simp only [Act.put, List.getElem_toArray, List.getElem_cons_zero, List.getElem_cons_succ, List.setIfInBounds_toArray, List.set_cons_zero, List.set_cons_succ])
  refine wpAnyH_take (i := 4) (v := ?_) rfl (by kernel_rfl) (by kernel_rfl) (by kernel_rfl) (fun _ _ _ h => h) (Or.inl ⟨by kernel_rfl, by (intro w' hSw; go_simp; first | done | (with_reducible rfl))⟩) hHeld ?_
  (try simp only [Act.put, List.getElem_toArray, List.getElem_cons_zero, List.getElem_cons_succ, List.setIfInBounds_toArray, List.set_cons_zero, List.set_cons_succ])
  refine wpAnyH_take (i := 5) (v := ?_) rfl (by kernel_rfl) (by kernel_rfl) (by kernel_rfl) (fun _ _ _ h => h) (Or.inl ⟨by kernel_rfl, by (intro w' hSw; go_simp; first | done | (with_reducible rfl))⟩) hHeld ?_
  (try simp only [Act.put, List.getElem_toArray, List.getElem_cons_zero, List.getElem_cons_succ, List.setIfInBounds_toArray, List.set_cons_zero, List.set_cons_succ])
  refine wpAnyH_take (i := 6) (v := ?_) rfl (by kernel_rfl) (by kernel_rfl) (by kernel_rfl) (fun _ _ _ h => h) (Or.inl ⟨by kernel_rfl, by (intro w' hSw; go_simp; first | done | (with_reducible rfl))⟩) hHeld ?_
  (try simp only [Act.put, List.getElem_toArray, List.getElem_cons_zero, List.getElem_cons_succ, List.setIfInBounds_toArray, List.set_cons_zero, List.set_cons_succ])
  refine wpAnyH_take (i := 7) (v := ?_) rfl (by kernel_rfl) (by kernel_rfl) (by kernel_rfl) (fun _ _ _ h => h) (Or.inl ⟨by kernel_rfl, by (intro w' hSw; go_simp; first | done | (with_reducible rfl))⟩) hHeld ?_
  (try simp only [Act.put, List.getElem_toArray, List.getElem_cons_zero, List.getElem_cons_succ, List.setIfInBounds_toArray, List.set_cons_zero, List.set_cons_succ])
  refine wpAnyH_done (by kernel_rfl) ?_ _
  have B3 := Lib.hid B3.out.drew
  have G2h := Lib.hid G2h.out.drew
  have R2 := Lib.hid R2.out.drew
  have I2 := Lib.hid I2.out.drew
  clear hHeld i0 i1 i2 i3 zr z8
  generalize w3.drew = w4 at *
  have i0 := I2.out.cell 0
  have i1 := I2.out.cell 1
  have i2 := I2.out.cell 2
  have i3 := I2.out.cell 3
  simp only [List.getElem?_toArray, List.getElem?_cons_zero, List.getElem?_cons_succ] at i0 i1 i2 i3
  have z8 := (G2h.out.cell 8).trans h8
  have f8 := G2h.out.frozen 8
  go_wp2
  refine wp_region_held_drew (S := (fun w' => w'.cell? ⟨gb, 8, none⟩ = some (.int .i64 pc) ∧ w'.cell? ⟨xb, 0, none⟩ = some (.int .u8 6) ∧ w'.cell? ⟨xb, 1, none⟩ = some (.int .u8 ia) ∧ w'.cell? ⟨xb, 2, none⟩ = some (.int .u8 b) ∧ w'.cell? ⟨xb, 3, none⟩ = some (.int .u8 c))) (by kernel_rfl) ⟨z8, i0, i1, i2, i3⟩ (fun hHeld => ?_)
  refine wpAnyH_take (i := 0) (v := ?_) rfl (by kernel_rfl) (by kernel_rfl) (by kernel_rfl) (fun _ _ _ h => h) (Or.inl ⟨by kernel_rfl, by (intro w' hSw; go_simp; first | done | (with_reducible rfl))⟩) hHeld ?_
  (try simp only [Act.put, List.getElem_toArray, List.getElem_cons_zero, List.getElem_cons_succ, List.setIfInBounds_toArray, List.set_cons_zero, List.set_cons_succ])
  refine wpAnyH_take (i := 1) (v := ?_) rfl (by kernel_rfl) (by kernel_rfl) (by kernel_rfl) (fun _ _ _ h => h) (Or.inl ⟨by kernel_rfl, by (intro w' hSw; go_simp; first | done | (with_reducible rfl))⟩) hHeld ?_
  (try simp only [Act.put, List.getElem_toArray, List.getElem_cons_zero, List.getElem_cons_succ, List.setIfInBounds_toArray, List.set_cons_zero, List.set_cons_succ])
  refine wpAnyH_take (i := 2) (v := ?_) rfl (by kernel_rfl) (by kernel_rfl) (by kernel_rfl) (fun _ _ _ h => h) (Or.inl ⟨by kernel_rfl, by (intro w' hSw; go_simp; first | done | (with_reducible rfl))⟩) hHeld ?_
  (try simp only [Act.put, List.getElem_toArray, List.getElem_cons_zero, List.getElem_cons_succ, List.setIfInBounds_toArray, List.set_cons_zero, List.set_cons_succ])
  refine wpAnyH_take (i := 3) (v := ?_) rfl (by kernel_rfl) (by kernel_rfl) (by kernel_rfl) (fun _ _ _ h => h) (Or.inl ⟨by kernel_rfl, by (intro w' hSw; go_simp; first | done | (with_reducible rfl))⟩) hHeld ?_
  (try simp only [Act.put, List.getElem_toArray, List.getElem_cons_zero, List.getElem_cons_succ, List.setIfInBounds_toArray, List.set_cons_zero, List.set_cons_succ])
  refine wpAnyH_take (i := 4) (v := ?_) rfl (by kernel_rfl) (by kernel_rfl) (by kernel_rfl) (fun _ _ _ h => h) (Or.inl ⟨by kernel_rfl, by (intro w' hSw; go_simp; first | done | (with_reducible rfl))⟩) hHeld ?_
  (try simp only [Act.put, List.getElem_toArray, List.getElem_cons_zero, List.getElem_cons_succ, List.setIfInBounds_toArray, List.set_cons_zero, List.set_cons_succ])
  refine wpAnyH_take (i := 5) (v := ?_) rfl (by kernel_rfl) (by kernel_rfl) (by kernel_rfl) (fun _ _ _ h => h) (Or.inl ⟨by kernel_rfl, by (intro w' hSw; go_simp; first | done | (with_reducible rfl))⟩) hHeld ?_
  (try simp only [Act.put, List.getElem_toArray, List.getElem_cons_zero, List.getElem_cons_succ, List.setIfInBounds_toArray, List.set_cons_zero, List.set_cons_succ])
  refine wpAnyH_ready (rs := [6]) (by kernel_rfl) (by simp) ?_
  refine AllReadyH.cons rfl (fun K hK => ?_) AllReadyH.nil
  go_simp
  (go_at_call 19; refine (N _).mono ?_; rintro e w5 ⟨rfl, hb5⟩; (have HB5 := Lib.hid hb5); clear hb5)
  dsimp only
  clear hHeld
  refine hK.out _ _ ⟨(HB5.out.cell (p := ⟨gb, 8, none⟩) G2h.out.lt).trans z8, (HB5.out.cell (p := ⟨xb, 0, none⟩) I2.out.lt).trans i0, (HB5.out.cell (p := ⟨xb, 1, none⟩) I2.out.lt).trans i1, (HB5.out.cell (p := ⟨xb, 2, none⟩) I2.out.lt).trans i2, (HB5.out.cell (p := ⟨xb, 3, none⟩) I2.out.lt).trans i3⟩ (fun hHeld => ?_)
  clear hK K
  (try simp only [Act.put, List.getElem_toArray, List.getElem_cons_zero, List.getElem_cons_succ, List.setIfInBounds_toArray, List.set_cons_zero, List.set_cons_succ])
  refine wpAnyH_take (i := 7) (v := ?_) rfl (by kernel_rfl) (by kernel_rfl) (by kernel_rfl) (fun _ _ _ h => h) (Or.inl ⟨by kernel_rfl, by (intro w' hSw; go_simp; first | done | (with_reducible rfl))⟩) hHeld ?_
  (try simp only [Act.put, List.getElem_toArray, List.getElem_cons_zero, List.getElem_cons_succ, List.setIfInBounds_toArray, List.set_cons_zero, List.set_cons_succ])
  refine wpAnyH_done (by kernel_rfl) ?_ _
  have B5 := Lib.hid ((B3.out.drew).trans (HB5.out.mono B3.out.size))
  have G5 := Lib.hid (G2h.out.drew.below HB5.out G2h.out.lt)
  have R5 := Lib.hid (R2.out.drew.below HB5.out R2.out.lt)
  clear z8 i0 i1 i2 i3 hHeld
  have q8 := (G5.out.cell 8).trans h8
  have f8 := G5.out.frozen 8
  go_wp2_with (first
    | (refine load_call (R5.out.far hne.out _) rfl (by exact rfl) (.tmp 4) (by exact rfl) (by exact rfl) ?_)
    | (refine wpList_store_row (by exact rfl) 36 (.tmp 4) (.tmp 116) (by exact rfl) w.heap.size #[.int .i64 0, .int .u64 0, .int .u64 0, .int .u64 0, .int .u64 0, .int .u64 0] (by exact rfl) (by exact rfl) 36 _ (R5.out.far hne.out _) (by kernel_rfl) (by exact rfl) (by simp [Value.oneCell']) ?_))
  exact bodyPost_ret (results_call (p := 4) (u := 5) (by kernel_rfl) _ _ rfl ((R5.out.far hne.out _).put_ _) rfl) rfl ⟨rfl, eff_grown B5.out 8 _ _, (G5.out.set_ 8 _).setRow_ hne.out.symm _⟩

set_option maxRecDepth 100000 in
set_option maxHeartbeats 4000000 in
theorem do_zero_out (v : Value) (n : Nat) (D : Nat → Int) (gb : Nat) (pc : Int) (ia : Nat) (hia : ia < 8) (b c : Int) (cs : Array Value) (w : World) (h : CodeAt w v n D) (hG : Blk w gb 30 cs) (h8 : cs[8]? = some (.int .i64 pc)) (he : decR n D pc = ⟨6, ia, b, c, 0⟩) (hr : cs[9 + ia]? = some (.int .u64 0)) (hj : toR pc b c < 0 ∨ ((n / 4 : Nat) : Int) < toR pc b c) :
    Calls Try.prog 15 #[v, .pointer (some ⟨gb, 0, none⟩)] w fun e w' => e = .panicked (faultP 7) ∧ Below w.heap.size w w' := by
  have hg := hG.lt
  have B1 := (Below.refl w.heap.size w).alloc (Nat.le_refl _) (.cells call0 36)
  have G1 := hG.alloc (.cells call0 36)
  have R1 := Blk.new w 36 call0
  have y6 := (G1.cell 8).trans h8
  have C1 := decode_is v n D pc _ (h.below (B := 0) B1)
  rw [he] at C1
  unfold Dec.v insV at C1
  simp only at C1
  obtain ⟨hn, -, A, cap, hv, -⟩ := h
  subst hv
  obtain ⟨t, ht⟩ : ∃ t, t = toR pc b c := ⟨_, rfl⟩
  have N := jump_out A n cap hn pc 6 ia b c hj
  unfold insV at N
  clear ht hj
  unfold call0 at *
  have HB := Lib.hid (And.intro B1 (And.intro G1 R1))
  clear he B1 G1 R1 hG
  go_enter Try.func15, Try.ntmps15
  go_wp2_with (first
    | (go_at_call 12; refine C1.mono ?_; rintro e w2 ⟨rfl, hb⟩; (have G2 := (HB.out.2.1.below hb HB.out.2.1.lt).alloc (.cells #[.int .u8 6, .int .u8 ia, .int .u8 b, .int .u8 c] 45)); (have z8 := (G2.cell 8).trans h8); (have R2 := Lib.hid ((HB.out.2.2.below hb HB.out.2.2.lt).alloc (.cells #[.int .u8 6, .int .u8 ia, .int .u8 b, .int .u8 c] 45))); (have G2h := Lib.hid G2); (have I2 := Lib.hid (Blk.new w2 45 #[.int .u8 6, .int .u8 ia, .int .u8 b, .int .u8 c])); (have B2 := Lib.hid (HB.out.1.trans (hb.mono HB.out.1.size))); (have hne := Lib.hid (Nat.ne_of_gt hg)); clear G2 hb))
  have B3 := Lib.hid (B2.out.alloc B2.out.size (.cells #[.int .u8 6, .int .u8 ia, .int .u8 b, .int .u8 c] 45))
  generalize w2.alloc (.cells #[.int .u8 6, .int .u8 ia, .int .u8 b, .int .u8 c] 45) = w3 at *
  have i0 := I2.out.cell 0
  have i1 := I2.out.cell 1
  have i2 := I2.out.cell 2
  have i3 := I2.out.cell 3
  simp only [List.getElem?_toArray, List.getElem?_cons_zero, List.getElem?_cons_succ] at i0 i1 i2 i3
  generalize w2.heap.size = xb at *
  have a1 : (ia : Int) < 8 := by omega
  have zr := (G2h.out.cell (9 + ia)).trans hr
  refine wp_region_held_drew (S := (fun w' => w'.cell? ⟨xb, 1, none⟩ = some (.int .u8 ia) ∧ w'.cell? ⟨gb, 9 + ia, none⟩ = some (.int .u64 0))) (by kernel_rfl) ⟨i1, zr⟩ (fun hHeld => ?_)
  refine wpAnyH_take (i := 0) (v := ?_) rfl (by kernel_rfl) (by kernel_rfl) (by kernel_rfl) (fun _ _ _ h => h) (Or.inl ⟨by kernel_rfl, by (intro w' hSw; go_simp; first | done | (with_reducible rfl))⟩) hHeld ?_
  (try simp only [Act.put, List.getElem_toArray, List.getElem_cons_zero, List.getElem_cons_succ, List.setIfInBounds_toArray, List.set_cons_zero, List.set_cons_succ])
  refine wpAnyH_take (i := 1) (v := ?_) rfl (by kernel_rfl) (by kernel_rfl) (by kernel_rfl) (fun _ _ _ h => h) (Or.inl ⟨by kernel_rfl, by (intro w' hSw; go_simp; first | done | (with_reducible rfl))⟩) hHeld ?_
  (try simp only [Act.put, List.getElem_toArray, List.getElem_cons_zero, List.getElem_cons_succ, List.setIfInBounds_toArray, List.set_cons_zero, List.set_cons_succ])
  refine wpAnyH_take (i := 2) (v := ?_) rfl (by kernel_rfl) (by kernel_rfl) (by kernel_rfl) (fun _ _ _ h => h) (Or.inl ⟨by kernel_rfl, by (intro w' hSw; go_simp; first | done | (with_reducible rfl))⟩) hHeld ?_
  (try simp only [Act.put, List.getElem_toArray, List.getElem_cons_zero, List.getElem_cons_succ, List.setIfInBounds_toArray, List.set_cons_zero, List.set_cons_succ])
  refine wpAnyH_take (i := 3) (v := ?_) rfl (by kernel_rfl) (by kernel_rfl) (by kernel_rfl) (fun _ _ _ h => h) (Or.inl ⟨by kernel_rfl, by (intro w' hSw; go_simp; first | done | (with_reducible rfl))⟩) hHeld ?_
  (try simp only [Act.put, List.getElem_toArray, List.getElem_cons_zero, List.getElem_cons_succ, List.setIfInBounds_toArray, List.set_cons_zero, List.set_cons_succ])
  refine wpAnyH_take (i := 4) (v := ?_) rfl (by kernel_rfl) (by kernel_rfl) (by kernel_rfl) (fun _ _ _ h => h) (Or.inl ⟨by kernel_rfl, by (intro w' hSw; go_simp; first | done | (with_reducible rfl))⟩) hHeld ?_
  (try simp only [Act.put, List.getElem_toArray, List.getElem_cons_zero, List.getElem_cons_succ, List.setIfInBounds_toArray, List.set_cons_zero, List.set_cons_succ])
  refine wpAnyH_take (i := 5) (v := ?_) rfl (by kernel_rfl) (by kernel_rfl) (by kernel_rfl) (fun _ _ _ h => h) (Or.inl ⟨by kernel_rfl, by (intro w' hSw; go_simp; first | done | (with_reducible rfl))⟩) hHeld ?_
  (try simp only [Act.put, List.getElem_toArray, List.getElem_cons_zero, List.getElem_cons_succ, List.setIfInBounds_toArray, List.set_cons_zero, List.set_cons_succ])
  refine wpAnyH_take (i := 6) (v := ?_) rfl (by kernel_rfl) (by kernel_rfl) (by kernel_rfl) (fun _ _ _ h => h) (Or.inl ⟨by kernel_rfl, by (intro w' hSw; go_simp; first | done | (with_reducible rfl))⟩) hHeld ?_
  (try simp only [Act.put, List.getElem_toArray, List.getElem_cons_zero, List.getElem_cons_succ, List.setIfInBounds_toArray, List.set_cons_zero, List.set_cons_succ])
  refine wpAnyH_take (i := 7) (v := ?_) rfl (by kernel_rfl) (by kernel_rfl) (by kernel_rfl) (fun _ _ _ h => h) (Or.inl ⟨by kernel_rfl, by (intro w' hSw; go_simp; first | done | (with_reducible rfl))⟩) hHeld ?_
  (try simp only [Act.put, List.getElem_toArray, List.getElem_cons_zero, List.getElem_cons_succ, List.setIfInBounds_toArray, List.set_cons_zero, List.set_cons_succ])
  refine wpAnyH_done (by kernel_rfl) ?_ _
  have B3 := Lib.hid B3.out.drew
  have G2h := Lib.hid G2h.out.drew
  have R2 := Lib.hid R2.out.drew
  have I2 := Lib.hid I2.out.drew
  clear hHeld i0 i1 i2 i3 zr z8
  generalize w3.drew = w4 at *
  have i0 := I2.out.cell 0
  have i1 := I2.out.cell 1
  have i2 := I2.out.cell 2
  have i3 := I2.out.cell 3
  simp only [List.getElem?_toArray, List.getElem?_cons_zero, List.getElem?_cons_succ] at i0 i1 i2 i3
  have z8 := (G2h.out.cell 8).trans h8
  have f8 := G2h.out.frozen 8
  go_wp2
  refine wp_region_held_drew (S := (fun w' => w'.cell? ⟨gb, 8, none⟩ = some (.int .i64 pc) ∧ w'.cell? ⟨xb, 0, none⟩ = some (.int .u8 6) ∧ w'.cell? ⟨xb, 1, none⟩ = some (.int .u8 ia) ∧ w'.cell? ⟨xb, 2, none⟩ = some (.int .u8 b) ∧ w'.cell? ⟨xb, 3, none⟩ = some (.int .u8 c))) (by kernel_rfl) ⟨z8, i0, i1, i2, i3⟩ (fun hHeld => ?_)
  refine wpAnyH_take (i := 0) (v := ?_) rfl (by kernel_rfl) (by kernel_rfl) (by kernel_rfl) (fun _ _ _ h => h) (Or.inl ⟨by kernel_rfl, by (intro w' hSw; go_simp; first | done | (with_reducible rfl))⟩) hHeld ?_
  (try simp only [Act.put, List.getElem_toArray, List.getElem_cons_zero, List.getElem_cons_succ, List.setIfInBounds_toArray, List.set_cons_zero, List.set_cons_succ])
  refine wpAnyH_take (i := 1) (v := ?_) rfl (by kernel_rfl) (by kernel_rfl) (by kernel_rfl) (fun _ _ _ h => h) (Or.inl ⟨by kernel_rfl, by (intro w' hSw; go_simp; first | done | (with_reducible rfl))⟩) hHeld ?_
  (try simp only [Act.put, List.getElem_toArray, List.getElem_cons_zero, List.getElem_cons_succ, List.setIfInBounds_toArray, List.set_cons_zero, List.set_cons_succ])
  refine wpAnyH_take (i := 2) (v := ?_) rfl (by kernel_rfl) (by kernel_rfl) (by kernel_rfl) (fun _ _ _ h => h) (Or.inl ⟨by kernel_rfl, by (intro w' hSw; go_simp; first | done | (with_reducible rfl))⟩) hHeld ?_
  (try simp only [Act.put, List.getElem_toArray, List.getElem_cons_zero, List.getElem_cons_succ, List.setIfInBounds_toArray, List.set_cons_zero, List.set_cons_succ])
  refine wpAnyH_take (i := 3) (v := ?_) rfl (by kernel_rfl) (by kernel_rfl) (by kernel_rfl) (fun _ _ _ h => h) (Or.inl ⟨by kernel_rfl, by (intro w' hSw; go_simp; first | done | (with_reducible rfl))⟩) hHeld ?_
  (try simp only [Act.put, List.getElem_toArray, List.getElem_cons_zero, List.getElem_cons_succ, List.setIfInBounds_toArray, List.set_cons_zero, List.set_cons_succ])
  refine wpAnyH_take (i := 4) (v := ?_) rfl (by kernel_rfl) (by kernel_rfl) (by kernel_rfl) (fun _ _ _ h => h) (Or.inl ⟨by kernel_rfl, by (intro w' hSw; go_simp; first | done | (with_reducible rfl))⟩) hHeld ?_
  (try simp only [Act.put, List.getElem_toArray, List.getElem_cons_zero, List.getElem_cons_succ, List.setIfInBounds_toArray, List.set_cons_zero, List.set_cons_succ])
  refine wpAnyH_take (i := 5) (v := ?_) rfl (by kernel_rfl) (by kernel_rfl) (by kernel_rfl) (fun _ _ _ h => h) (Or.inl ⟨by kernel_rfl, by (intro w' hSw; go_simp; first | done | (with_reducible rfl))⟩) hHeld ?_
  (try simp only [Act.put, List.getElem_toArray, List.getElem_cons_zero, List.getElem_cons_succ, List.setIfInBounds_toArray, List.set_cons_zero, List.set_cons_succ])
  refine wpAnyH_ready (rs := [6]) (by kernel_rfl) (by simp) ?_
  refine AllReadyH.cons rfl (fun K hK => ?_) AllReadyH.nil
  go_simp
  (go_at_call 19; refine (N _).mono ?_; rintro e w5 ⟨rfl, hb5⟩)
  exact ⟨rfl, rfl, B3.out.drew.trans (hb5.mono B3.out.size)⟩

set_option maxRecDepth 100000 in
set_option maxHeartbeats 4000000 in
theorem do_zero_no (v : Value) (n : Nat) (D : Nat → Int) (gb : Nat) (pc : Int) (ia : Nat) (hia : ia < 8) (b c x : Int) (hx : ¬ x = 0) (cs : Array Value) (w : World) (h : CodeAt w v n D) (hG : Blk w gb 30 cs) (h8 : cs[8]? = some (.int .i64 pc)) (he : decR n D pc = ⟨6, ia, b, c, 0⟩) (hr : cs[9 + ia]? = some (.int .u64 x)) :
    Calls Try.prog 15 #[v, .pointer (some ⟨gb, 0, none⟩)] w fun e w' => e = .returned (.tuple #[.agg call0, .int .i64 1]) ∧ w.grownBy w' (some gb) ∧ Blk w' gb 30 (cs.setIfInBounds 8 (.int .i64 (wrap64 (pc + 1)))) := by
  have hg := hG.lt
  have B1 := (Below.refl w.heap.size w).alloc (Nat.le_refl _) (.cells call0 36)
  have G1 := hG.alloc (.cells call0 36)
  have R1 := Blk.new w 36 call0
  have y6 := (G1.cell 8).trans h8
  have C1 := decode_is v n D pc _ (h.below (B := 0) B1)
  rw [he] at C1
  unfold Dec.v insV at C1
  simp only at C1
  obtain ⟨hn, -, A, cap, hv, -⟩ := h
  subst hv
  unfold call0 at *
  have HB := Lib.hid (And.intro B1 (And.intro G1 R1))
  clear he B1 G1 R1 hG
  go_enter Try.func15, Try.ntmps15
  go_wp2_with (first
    | (go_at_call 12; refine C1.mono ?_; rintro e w2 ⟨rfl, hb⟩; (have G2 := (HB.out.2.1.below hb HB.out.2.1.lt).alloc (.cells #[.int .u8 6, .int .u8 ia, .int .u8 b, .int .u8 c] 45)); (have z8 := (G2.cell 8).trans h8); (have R2 := Lib.hid ((HB.out.2.2.below hb HB.out.2.2.lt).alloc (.cells #[.int .u8 6, .int .u8 ia, .int .u8 b, .int .u8 c] 45))); (have G2h := Lib.hid G2); (have I2 := Lib.hid (Blk.new w2 45 #[.int .u8 6, .int .u8 ia, .int .u8 b, .int .u8 c])); (have B2 := Lib.hid (HB.out.1.trans (hb.mono HB.out.1.size))); (have hne := Lib.hid (Nat.ne_of_gt hg)); clear G2 hb))
  have B3 := Lib.hid (B2.out.alloc B2.out.size (.cells #[.int .u8 6, .int .u8 ia, .int .u8 b, .int .u8 c] 45))
  generalize w2.alloc (.cells #[.int .u8 6, .int .u8 ia, .int .u8 b, .int .u8 c] 45) = w3 at *
  have i0 := I2.out.cell 0
  have i1 := I2.out.cell 1
  have i2 := I2.out.cell 2
  have i3 := I2.out.cell 3
  simp only [List.getElem?_toArray, List.getElem?_cons_zero, List.getElem?_cons_succ] at i0 i1 i2 i3
  generalize w2.heap.size = xb at *
  have a1 : (ia : Int) < 8 := by omega
  have zr := (G2h.out.cell (9 + ia)).trans hr
  refine wp_region_held_drew (S := (fun w' => w'.cell? ⟨xb, 1, none⟩ = some (.int .u8 ia) ∧ w'.cell? ⟨gb, 9 + ia, none⟩ = some (.int .u64 x))) (by kernel_rfl) ⟨i1, zr⟩ (fun hHeld => ?_)
  refine wpAnyH_take (i := 0) (v := ?_) rfl (by kernel_rfl) (by kernel_rfl) (by kernel_rfl) (fun _ _ _ h => h) (Or.inl ⟨by kernel_rfl, by (intro w' hSw; go_simp; first | done | (with_reducible rfl))⟩) hHeld ?_
  (try simp only [Act.put, List.getElem_toArray, List.getElem_cons_zero, List.getElem_cons_succ, List.setIfInBounds_toArray, List.set_cons_zero, List.set_cons_succ])
  refine wpAnyH_take (i := 1) (v := ?_) rfl (by kernel_rfl) (by kernel_rfl) (by kernel_rfl) (fun _ _ _ h => h) (Or.inl ⟨by kernel_rfl, by (intro w' hSw; go_simp; first | done | (with_reducible rfl))⟩) hHeld ?_
  (try simp only [Act.put, List.getElem_toArray, List.getElem_cons_zero, List.getElem_cons_succ, List.setIfInBounds_toArray, List.set_cons_zero, List.set_cons_succ])
  refine wpAnyH_take (i := 2) (v := ?_) rfl (by kernel_rfl) (by kernel_rfl) (by kernel_rfl) (fun _ _ _ h => h) (Or.inl ⟨by kernel_rfl, by (intro w' hSw; go_simp; first | done | (with_reducible rfl))⟩) hHeld ?_
  (try simp only [Act.put, List.getElem_toArray, List.getElem_cons_zero, List.getElem_cons_succ, List.setIfInBounds_toArray, List.set_cons_zero, List.set_cons_succ])
  refine wpAnyH_take (i := 3) (v := ?_) rfl (by kernel_rfl) (by kernel_rfl) (by kernel_rfl) (fun _ _ _ h => h) (Or.inl ⟨by kernel_rfl, by (intro w' hSw; go_simp; first | done | (with_reducible rfl))⟩) hHeld ?_
  (try simp only [Act.put, List.getElem_toArray, List.getElem_cons_zero, List.getElem_cons_succ, List.setIfInBounds_toArray, List.set_cons_zero, List.set_cons_succ])
  refine wpAnyH_take (i := 4) (v := ?_) rfl (by kernel_rfl) (by kernel_rfl) (by kernel_rfl) (fun _ _ _ h => h) (Or.inl ⟨by kernel_rfl, by (intro w' hSw; go_simp; first | done | (with_reducible rfl))⟩) hHeld ?_
  (try simp only [Act.put, List.getElem_toArray, List.getElem_cons_zero, List.getElem_cons_succ, List.setIfInBounds_toArray, List.set_cons_zero, List.set_cons_succ])
  refine wpAnyH_take (i := 5) (v := ?_) rfl (by kernel_rfl) (by kernel_rfl) (by kernel_rfl) (fun _ _ _ h => h) (Or.inl ⟨by kernel_rfl, by (intro w' hSw; go_simp; first | done | (with_reducible rfl))⟩) hHeld ?_
  (try simp only [Act.put, List.getElem_toArray, List.getElem_cons_zero, List.getElem_cons_succ, List.setIfInBounds_toArray, List.set_cons_zero, List.set_cons_succ])
  refine wpAnyH_take (i := 6) (v := ?_) rfl (by kernel_rfl) (by kernel_rfl) (by kernel_rfl) (fun _ _ _ h => h) (Or.inl ⟨by kernel_rfl, by (intro w' hSw; go_simp; first | done | (with_reducible rfl))⟩) hHeld ?_
  (try simp only [Act.put, List.getElem_toArray, List.getElem_cons_zero, List.getElem_cons_succ, List.setIfInBounds_toArray, List.set_cons_zero, List.set_cons_succ])
  refine wpAnyH_take (i := 7) (v := ?_) rfl (by kernel_rfl) (by kernel_rfl) (by kernel_rfl) (fun _ _ _ h => h) (Or.inl ⟨by kernel_rfl, by (intro w' hSw; go_simp; first | done | (with_reducible rfl))⟩) hHeld ?_
  (try simp only [Act.put, List.getElem_toArray, List.getElem_cons_zero, List.getElem_cons_succ, List.setIfInBounds_toArray, List.set_cons_zero, List.set_cons_succ])
  refine wpAnyH_done (by kernel_rfl) ?_ _
  have B3 := Lib.hid B3.out.drew
  have G2h := Lib.hid G2h.out.drew
  have R2 := Lib.hid R2.out.drew
  have I2 := Lib.hid I2.out.drew
  clear hHeld i0 i1 i2 i3 zr z8
  generalize w3.drew = w4 at *
  have i0 := I2.out.cell 0
  have i1 := I2.out.cell 1
  have i2 := I2.out.cell 2
  have i3 := I2.out.cell 3
  simp only [List.getElem?_toArray, List.getElem?_cons_zero, List.getElem?_cons_succ] at i0 i1 i2 i3
  have z8 := (G2h.out.cell 8).trans h8
  have f8 := G2h.out.frozen 8
  go_wp2_with (first
    | (refine load_call (R2.out.far hne.out _) rfl (by exact rfl) (.tmp 4) (by exact rfl) (by exact rfl) ?_)
    | (refine wpList_store_row (by exact rfl) 36 (.tmp 4) (.tmp 116) (by exact rfl) w.heap.size #[.int .i64 0, .int .u64 0, .int .u64 0, .int .u64 0, .int .u64 0, .int .u64 0] (by exact rfl) (by exact rfl) 36 _ (R2.out.far hne.out _) (by kernel_rfl) (by exact rfl) (by simp [Value.oneCell']) ?_))
  exact bodyPost_ret (results_call (p := 4) (u := 5) (by kernel_rfl) _ _ rfl ((R2.out.far hne.out _).put_ _) rfl) rfl ⟨rfl, eff_grown B3.out 8 _ _, (G2h.out.set_ 8 _).setRow_ hne.out.symm _⟩
end Go.Proofs.Ytbgfbgcjghcepaa
