/- step.do of the operation 'const', by walk. -/
import Derived.Test.YtbgfbgcjghcepaaStepDoCode
namespace Go.Proofs.Ytbgfbgcjghcepaa
open Go.RowKit
set_option linter.unusedVariables false
set_option linter.unusedSimpArgs false

theorem grown_set0 {w x : World} {gb : Nat} (B : Below w.heap.size w x) (i : Nat) (u : Value) : w.grownBy (x.setCell ⟨gb, i, none⟩ u) (some gb) := by
  have E : Below 0 w (x.setCell ⟨gb, i, none⟩ u) := (B.mono (Nat.zero_le _)).trans ((Below.refl 0 x).setCell (p := ⟨gb, i, none⟩) (Nat.zero_le _) u)
  refine ⟨E.os, E.tape, E.output, E.size, fun q hq hne => ?_⟩
  exact (Below.heap_setCell x ⟨gb, i, none⟩ u q (fun e => hne (by rw [e]))).trans (B.block q hq)

set_option maxRecDepth 100000 in
set_option maxHeartbeats 4000000 in
theorem do_const (v : Value) (n : Nat) (D : Nat → Int) (gb : Nat) (pc : Int) (ia : Nat) (hia : ia < 8) (r : Value) (cs : Array Value) (w : World) (h : CodeAt w v n D) (hG : Blk w gb 30 cs) (h8 : cs[8]? = some (.int .i64 pc)) (hr : cs[9 + ia]? = some r) (b c : Int) (he : decR n D pc = ⟨1, ia, b, c, 0⟩) :
    Calls Try.prog 15 #[v, .pointer (some ⟨gb, 0, none⟩)] w fun e w' => e = .returned (.tuple #[.agg call0, .int .i64 1]) ∧ w.grownBy w' (some gb) ∧ Blk w' gb 30 ((cs.setIfInBounds (9 + ia) (.int .u64 (IntKind.u64.wrap (numR b c)))).setIfInBounds 8 (.int .i64 (wrap64 (pc + 1)))) := by
  have hg := hG.lt
  have N := number_is 1 (ia : Int) b c
  unfold insV at N
  generalize numR b c = nz at N ⊢
  have B1 := (Below.refl w.heap.size w).alloc (Nat.le_refl _) (.cells call0 36)
  have G1 := hG.alloc (.cells call0 36)
  have R1 := Blk.new w 36 call0
  have y6 := (G1.cell 8).trans h8
  have C1 := decode_is v n D pc _ (h.below (B := 0) B1)
  rw [he] at C1
  unfold Dec.v insV at C1
  simp only at C1
  unfold call0 at *
  have HB := Lib.hid (And.intro B1 (And.intro G1 R1))
  clear h he B1 G1 R1 hG
  go_enter Try.func15, Try.ntmps15
  go_wp2_with (first
    | (go_at_call 12; refine C1.mono ?_; rintro e w2 ⟨rfl, hb⟩; (have G2 := (HB.out.2.1.below hb HB.out.2.1.lt).alloc (.cells #[.int .u8 1, .int .u8 ia, .int .u8 b, .int .u8 c] 45)); (have z8 := (G2.cell 8).trans h8); (have R2 := Lib.hid ((HB.out.2.2.below hb HB.out.2.2.lt).alloc (.cells #[.int .u8 1, .int .u8 ia, .int .u8 b, .int .u8 c] 45))); (have G2h := Lib.hid G2); (have I2 := Lib.hid (Blk.new w2 45 #[.int .u8 1, .int .u8 ia, .int .u8 b, .int .u8 c])); (have B2 := Lib.hid (HB.out.1.trans (hb.mono HB.out.1.size))); (have hne := Lib.hid (Nat.ne_of_gt hg)); clear G2 hb))
  have B3 := Lib.hid (B2.out.alloc B2.out.size (.cells #[.int .u8 1, .int .u8 ia, .int .u8 b, .int .u8 c] 45))
  generalize w2.alloc (.cells #[.int .u8 1, .int .u8 ia, .int .u8 b, .int .u8 c] 45) = w3 at *
  have i0 := I2.out.cell 0
  have i1 := I2.out.cell 1
  have i2 := I2.out.cell 2
  have i3 := I2.out.cell 3
  simp only [List.getElem?_toArray, List.getElem?_cons_zero, List.getElem?_cons_succ] at i0 i1 i2 i3
  have zr := (G2h.out.cell (9 + ia)).trans hr
  have fr := G2h.out.frozen (9 + ia)
  have a1 : (ia : Int) < 8 := by omega
  generalize w2.heap.size = ib at *
  go_region_held3 (fun w' => w'.cell? ⟨ib, 0, none⟩ = some (.int .u8 1) ∧ w'.cell? ⟨ib, 1, none⟩ = some (.int .u8 ia) ∧ w'.cell? ⟨ib, 2, none⟩ = some (.int .u8 b) ∧ w'.cell? ⟨ib, 3, none⟩ = some (.int .u8 c)) (go_keep) ((go_at_call 17; refine (N _).mono ?_; rintro e w5 ⟨rfl, hb5⟩; (have j0 := (hb5.cell (p := ⟨ib, 0, none⟩) I2.out.lt).trans i0); (have j1 := (hb5.cell (p := ⟨ib, 1, none⟩) I2.out.lt).trans i1); (have j2 := (hb5.cell (p := ⟨ib, 2, none⟩) I2.out.lt).trans i2); (have j3 := (hb5.cell (p := ⟨ib, 3, none⟩) I2.out.lt).trans i3); (have G5 := G2h.out.drew.below hb5 G2h.out.lt); (have zr5 := (G5.cell (9 + ia)).trans hr); (have fr5 := G5.frozen (9 + ia)); (have I5 := I2.out.drew.below hb5 I2.out.lt); (have KK := fun u => (I5.far (p := ⟨gb, 9 + ia, none⟩) (I2.out.ne_ G2h.out (by decide)) u)); (have k0 : ∀ u, (w5.setCell ⟨gb, 9 + ia, none⟩ u).cell? ⟨ib, 0, none⟩ = some (.int .u8 1) := fun u => ((KK u).cell 0).trans rfl); (have k1 : ∀ u, (w5.setCell ⟨gb, 9 + ia, none⟩ u).cell? ⟨ib, 1, none⟩ = some (.int .u8 ia) := fun u => ((KK u).cell 1).trans rfl); (have k2 : ∀ u, (w5.setCell ⟨gb, 9 + ia, none⟩ u).cell? ⟨ib, 2, none⟩ = some (.int .u8 b) := fun u => ((KK u).cell 2).trans rfl); (have k3 : ∀ u, (w5.setCell ⟨gb, 9 + ia, none⟩ u).cell? ⟨ib, 3, none⟩ = some (.int .u8 c) := fun u => ((KK u).cell 3).trans rfl); clear KK; (have HG5 := Lib.hid G5); (have HB5 := Lib.hid hb5); clear G5 hb5 I5))
  have B5 := (B3.out.drew).trans (HB5.out.mono B3.out.size)
  have H4 := grown_set0 (gb := gb) B5 (9 + ia) (.int .u64 (IntKind.u64.wrap nz))
  have G4 := HG5.out.set_ (9 + ia) (.int .u64 (IntKind.u64.wrap nz))
  have R4 := (R2.out.drew.below HB5.out R2.out.lt).far (p := ⟨gb, 9 + ia, none⟩) hne.out (.int .u64 (IntKind.u64.wrap nz))
  clear k0 k1 k2 k3 zr fr zr5 fr5 i0 i1 i2 i3 j0 j1 j2 j3 z8 B5
  have HB5 := trivial
  have HG5 := trivial
  generalize w5.setCell ⟨gb, 9 + ia, none⟩ (.int .u64 (IntKind.u64.wrap nz)) = w4 at *
  have q8 : w4.cell? ⟨gb, 8, none⟩ = some (.int .i64 pc) := (G4.cell 8).trans (by rw [Array.getElem?_setIfInBounds_ne (by omega)]; exact h8)
  have f8 := G4.frozen 8
  have H4 := Lib.hid H4
  have G4 := Lib.hid G4
  have R4 := Lib.hid R4
  go_wp2_with (first
    | (refine load_call (R4.out.far hne.out _) rfl (by exact rfl) (.tmp 4) (by exact rfl) (by exact rfl) ?_)
    | (refine wpList_store_row (by exact rfl) 36 (.tmp 4) (.tmp 116) (by exact rfl) w.heap.size #[.int .i64 0, .int .u64 0, .int .u64 0, .int .u64 0, .int .u64 0, .int .u64 0] (by exact rfl) (by exact rfl) 36 _ (R4.out.far hne.out _) (by kernel_rfl) (by exact rfl) (by simp [Value.oneCell']) ?_))
  exact bodyPost_ret (results_call (p := 4) (u := 5) (by kernel_rfl) _ _ rfl ((R4.out.far hne.out _).put_ _) rfl) rfl ⟨rfl, grown_put H4.out (Nat.le_refl _) 8 _ _, (G4.out.set_ 8 _).setRow_ hne.out.symm _⟩
end Go.Proofs.Ytbgfbgcjghcepaa
