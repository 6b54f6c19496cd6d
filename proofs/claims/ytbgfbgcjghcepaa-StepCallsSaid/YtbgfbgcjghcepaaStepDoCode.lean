/- step.do of the operation 'code', by walk. -/
import Derived.Test.YtbgfbgcjghcepaaStepDo
namespace Go.Proofs.Ytbgfbgcjghcepaa
open Go.RowKit
set_option linter.unusedVariables false
set_option linter.unusedSimpArgs false

theorem grown_set {w x : World} {gb : Nat} (B : Below w.heap.size w x) (i : Nat) (u : Value) : w.grownBy (x.setCell ⟨gb, i, none⟩ u).drew (some gb) := by
  have E : Below 0 w (x.setCell ⟨gb, i, none⟩ u).drew := (B.mono (Nat.zero_le _)).trans (((Below.refl 0 x).setCell (p := ⟨gb, i, none⟩) (Nat.zero_le _) u).drew)
  refine ⟨E.os, E.tape, E.output, E.size, fun q hq hne => ?_⟩
  exact (Below.heap_setCell x ⟨gb, i, none⟩ u q (fun e => hne (by rw [e]))).trans (B.block q hq)
theorem grown_put {w x : World} {gb rb : Nat} (H : w.grownBy x (some gb)) (hrb : w.heap.size ≤ rb) (i : Nat) (u : Value) (cs' : Array Value) : w.grownBy ((x.setCell ⟨gb, i, none⟩ u).setRow rb cs') (some gb) := by
  have E : Below 0 x ((x.setCell ⟨gb, i, none⟩ u).setRow rb cs') := below_setRow ((Below.refl 0 x).setCell (p := ⟨gb, i, none⟩) (Nat.zero_le _) u) (Nat.zero_le _) cs'
  refine ⟨E.os.trans H.os, E.tape.trans H.tape, E.output.trans H.output, Nat.le_trans H.size E.size, fun q hq hne => ?_⟩
  rw [setRow_other _ _ _ _ (by omega), Below.heap_setCell x ⟨gb, i, none⟩ u q (fun e => hne (by rw [e]))]
  exact H.block q hq hne

set_option maxRecDepth 100000 in
set_option maxHeartbeats 4000000 in
theorem do_code (v : Value) (n : Nat) (D : Nat → Int) (gb : Nat) (pc cd : Int) (ia : Nat) (hia : ia < 8) (r : Value) (cs : Array Value) (w : World) (h : CodeAt w v n D) (hG : Blk w gb 30 cs) (h8 : cs[8]? = some (.int .i64 pc)) (h17 : cs[17]? = some (.int .i64 cd)) (hr : cs[9 + ia]? = some r) (b c : Int) (he : decR n D pc = ⟨7, ia, b, c, 0⟩) :
    Calls Try.prog 15 #[v, .pointer (some ⟨gb, 0, none⟩)] w fun e w' => e = .returned (.tuple #[.agg call0, .int .i64 1]) ∧ w.grownBy w' (some gb) ∧ Blk w' gb 30 ((cs.setIfInBounds (9 + ia) (.int .u64 (IntKind.u64.wrap cd))).setIfInBounds 8 (.int .i64 (wrap64 (pc + 1)))) := by
  have hg := hG.lt
  have B1 := (Below.refl w.heap.size w).alloc (Nat.le_refl _) (.cells call0 36)
  have G1 := hG.alloc (.cells call0 36)
  have R1 := Blk.new w 36 call0
  have y6 := (G1.cell 8).trans h8
  have C1 := decode_is v n D pc _ (h.below (B := 0) B1)
  rw [he] at C1
  unfold Dec.v insV at C1
  simp only at C1
  unfold call0 at *
  have HB := Lib.hid (And.intro B1 (And.intro G1 R1))
  clear h he B1 G1 R1 hG
  go_enter Try.func15, Try.ntmps15
  go_wp2_with (first
    | (go_at_call 12; refine C1.mono ?_; rintro e w2 ⟨rfl, hb⟩; (have G2 := (HB.out.2.1.below hb HB.out.2.1.lt).alloc (.cells #[.int .u8 7, .int .u8 ia, .int .u8 b, .int .u8 c] 45)); (have z8 := (G2.cell 8).trans h8); (have R2 := Lib.hid ((HB.out.2.2.below hb HB.out.2.2.lt).alloc (.cells #[.int .u8 7, .int .u8 ia, .int .u8 b, .int .u8 c] 45))); (have G2h := Lib.hid G2); (have I2 := Lib.hid (Blk.new w2 45 #[.int .u8 7, .int .u8 ia, .int .u8 b, .int .u8 c])); (have B2 := Lib.hid (HB.out.1.trans (hb.mono HB.out.1.size))); (have hne := Lib.hid (Nat.ne_of_gt hg)); clear G2 hb))
  have B3 := Lib.hid (B2.out.alloc B2.out.size (.cells #[.int .u8 7, .int .u8 ia, .int .u8 b, .int .u8 c] 45))
  generalize w2.alloc (.cells #[.int .u8 7, .int .u8 ia, .int .u8 b, .int .u8 c] 45) = w3 at *
  have i1 := I2.out.cell 1
  simp only [List.getElem?_toArray, List.getElem?_cons_zero, List.getElem?_cons_succ] at i1
  have z17 := (G2h.out.cell 17).trans h17
  have zr := (G2h.out.cell (9 + ia)).trans hr
  have fr := G2h.out.frozen (9 + ia)
  have a1 : (ia : Int) < 8 := by omega
  generalize w2.heap.size = ib at *
  have hig := I2.out.ne_ G2h.out (by decide)
  have k1 : ∀ u, (w3.setCell ⟨gb, 9 + ia, none⟩ u).drew.cell? ⟨ib, 1, none⟩ = some (.int .u8 ia) := fun u => ((I2.out.far (p := ⟨gb, 9 + ia, none⟩) hig u).drew.cell 1).trans rfl
  have k2 : ∀ u, (w3.setCell ⟨gb, 9 + ia, none⟩ u).drew.cell? ⟨gb, 17, none⟩ = some (.int .i64 cd) := fun u => ((G2h.out.set_ (9 + ia) u).drew.cell 17).trans (by rw [Array.getElem?_setIfInBounds_ne (by omega)]; exact h17)
  have HIG := Lib.hid hig
  clear hig
  go_region_held3 (fun w' => w'.cell? ⟨ib, 1, none⟩ = some (.int .u8 ia) ∧ w'.cell? ⟨gb, 17, none⟩ = some (.int .i64 cd)) (go_keep) (fail)
  have H4 := grown_set (gb := gb) B3.out (9 + ia) (.int .u64 (IntKind.u64.wrap cd))
  have G4 := (G2h.out.set_ (9 + ia) (.int .u64 (IntKind.u64.wrap cd))).drew
  have R4 := (R2.out.far (p := ⟨gb, 9 + ia, none⟩) hne.out (.int .u64 (IntKind.u64.wrap cd))).drew
  clear k1 k2 z17 zr fr i1 z8
  generalize (w3.setCell ⟨gb, 9 + ia, none⟩ (.int .u64 (IntKind.u64.wrap cd))).drew = w4 at *
  have q8 : w4.cell? ⟨gb, 8, none⟩ = some (.int .i64 pc) := (G4.cell 8).trans (by rw [Array.getElem?_setIfInBounds_ne (by omega)]; exact h8)
  have f8 := G4.frozen 8
  have H4 := Lib.hid H4
  have G4 := Lib.hid G4
  have R4 := Lib.hid R4
  go_wp2_with (first
    | (refine load_call (R4.out.far hne.out _) rfl (by exact rfl) (.tmp 4) (by exact rfl) (by exact rfl) ?_)
    | (refine wpList_store_row (by exact rfl) 36 (.tmp 4) (.tmp 116) (by exact rfl) w.heap.size #[.int .i64 0, .int .u64 0, .int .u64 0, .int .u64 0, .int .u64 0, .int .u64 0] (by exact rfl) (by exact rfl) 36 _ (R4.out.far hne.out _) (by kernel_rfl) (by exact rfl) (by simp [Value.oneCell']) ?_))
  exact bodyPost_ret (results_call (p := 4) (u := 5) (by kernel_rfl) _ _ rfl ((R4.out.far hne.out _).put_ _) rfl) rfl ⟨rfl, grown_put H4.out (Nat.le_refl _) 8 _ _, (G4.out.set_ 8 _).setRow_ hne.out.symm _⟩
end Go.Proofs.Ytbgfbgcjghcepaa
