/- step.do of a call, by walk. -/
import Derived.Test.YtbgfbgcjghcepaaStepDoConst
import Derived.Laws.CopyOwn
namespace Go.Proofs.Ytbgfbgcjghcepaa
open Go.RowKit
set_option linter.unusedVariables false
set_option linter.unusedSimpArgs false

/-- A call, cell by cell. -/
def callV (z a b c d e : Int) : Array Value := #[.int .i64 z, .int .u64 a, .int .u64 b, .int .u64 c, .int .u64 d, .int .u64 e]

set_option maxRecDepth 100000 in
set_option maxHeartbeats 4000000 in
theorem do_call (v : Value) (n : Nat) (D : Nat → Int) (gb : Nat) (pc : Int) (k a b c : Int) (hk1 : 17 ≤ k) (hk2 : k ≤ 38) (cs : Array Value) (r0 r1 r2 r3 r4 : Int) (w : World) (h : CodeAt w v n D) (hG : Blk w gb 30 cs) (h8 : cs[8]? = some (.int .i64 pc)) (he : decR n D pc = ⟨k, a, b, c, 0⟩)
    (h9 : cs[9]? = some (.int .u64 r0)) (h10 : cs[10]? = some (.int .u64 r1)) (h11 : cs[11]? = some (.int .u64 r2)) (h12 : cs[12]? = some (.int .u64 r3)) (h13 : cs[13]? = some (.int .u64 r4)) :
    Calls Try.prog 15 #[v, .pointer (some ⟨gb, 0, none⟩)] w fun e w' => e = .returned (.tuple #[.agg (callV (k - 16) r0 r1 r2 r3 r4), .int .i64 2]) ∧ w.grownBy w' (some gb) ∧ Blk w' gb 30 (cs.setIfInBounds 8 (.int .i64 (wrap64 (pc + 1)))) := by
  have hg := hG.lt
  have B1 := (Below.refl w.heap.size w).alloc (Nat.le_refl _) (.cells call0 36)
  have G1 := hG.alloc (.cells call0 36)
  have R1 := Blk.new w 36 call0
  have y6 := (G1.cell 8).trans h8
  have C1 := decode_is v n D pc _ (h.below (B := 0) B1)
  rw [he] at C1
  unfold Dec.v insV at C1
  simp only at C1
  have e0 : ¬ k = 0 := by omega
  have e1 : ¬ k = 1 := by omega
  have e2 : ¬ k = 2 := by omega
  have e3 : ¬ k = 3 := by omega
  have e4 : ¬ k = 4 := by omega
  have e5 : ¬ k = 5 := by omega
  have e6 : ¬ k = 6 := by omega
  have e7 : ¬ k = 7 := by omega
  have wk : IntKind.u8.wrap (k - 16) = k - 16 := by rw [IntKind.wrap_u8]; omega
  have wk2 : wrap64 (k - 16) = k - 16 := by unfold wrap64; omega
  have wk3 : IntKind.i64.wrap (k - 16) = k - 16 := by rw [IntKind.wrap_i64]; omega
  unfold call0 at *
  have HB := Lib.hid (And.intro B1 (And.intro G1 R1))
  clear h he B1 G1 R1
  go_enter Try.func15, Try.ntmps15
  go_wp2_with (first
    | (go_at_call 12; refine C1.mono ?_; rintro e w2 ⟨rfl, hb⟩; (have G2 := (HB.out.2.1.below hb HB.out.2.1.lt).alloc (.cells #[.int .u8 k, .int .u8 a, .int .u8 b, .int .u8 c] 45)); (have z8 := (G2.cell 8).trans h8); (have R2 := ((HB.out.2.2.below hb HB.out.2.2.lt).alloc (.cells #[.int .u8 k, .int .u8 a, .int .u8 b, .int .u8 c] 45))); (have G2h := Lib.hid G2); (have I2 := Lib.hid (Blk.new w2 45 #[.int .u8 k, .int .u8 a, .int .u8 b, .int .u8 c])); (have B2 := Lib.hid (HB.out.1.trans (hb.mono HB.out.1.size))); (have hne := Lib.hid (Nat.ne_of_gt hg)); (have rc := (R2.cell 0).trans rfl); (have rf := R2.frozen 0); (have R2h := Lib.hid R2); clear G2 hb R2))
  have B3 := (B2.out.alloc B2.out.size (.cells #[.int .u8 k, .int .u8 a, .int .u8 b, .int .u8 c] 45)).setCell (p := ⟨w.heap.size, 0, none⟩) (Nat.le_refl _) (.int .i64 (k - 16))
  have R3 : Blk _ w.heap.size 36 #[.int .i64 (k - 16), .int .u64 0, .int .u64 0, .int .u64 0, .int .u64 0, .int .u64 0] := R2h.out.set_ 0 (.int .i64 (k - 16))
  generalize (w2.alloc (.cells #[.int .u8 k, .int .u8 a, .int .u8 b, .int .u8 c] 45)).setCell ⟨w.heap.size, 0, none⟩ (.int .i64 (k - 16)) = w3 at *
  have G3 := Lib.hid (hG.below B3 hg)
  have B3 := Lib.hid B3
  have R3 := Lib.hid R3
  clear z8 rc rf
  refine wp_region_held_drew (S := (fun _ => True)) (by kernel_rfl) trivial (fun hHeld => ?_)
  refine wpAnyH_take (i := 0) (v := ?_) rfl (by kernel_rfl) (by kernel_rfl) (by kernel_rfl) (fun _ _ _ h => h) (Or.inl ⟨by kernel_rfl, by (intro w' hSw; go_simp; first | done | (with_reducible rfl))⟩) hHeld ?_
  (try simp only [Act.put, List.getElem_toArray, List.getElem_cons_zero, List.getElem_cons_succ, List.setIfInBounds_toArray, List.set_cons_zero, List.set_cons_succ])
  refine wpAnyH_take (i := 1) (v := ?_) rfl (by kernel_rfl) (by kernel_rfl) (by kernel_rfl) (fun _ _ _ h => h) (Or.inl ⟨by kernel_rfl, by (intro w' hSw; go_simp; first | done | (with_reducible rfl))⟩) hHeld ?_
  (try simp only [Act.put, List.getElem_toArray, List.getElem_cons_zero, List.getElem_cons_succ, List.setIfInBounds_toArray, List.set_cons_zero, List.set_cons_succ])
  refine wpAnyH_take (i := 2) (v := ?_) rfl (by kernel_rfl) (by kernel_rfl) (by kernel_rfl) (fun _ _ _ h => h) (Or.inl ⟨by kernel_rfl, by (intro w' hSw; go_simp; first | done | (with_reducible rfl))⟩) hHeld ?_
  (try simp only [Act.put, List.getElem_toArray, List.getElem_cons_zero, List.getElem_cons_succ, List.setIfInBounds_toArray, List.set_cons_zero, List.set_cons_succ])
  refine wpAnyH_take (i := 3) (v := ?_) rfl (by kernel_rfl) (by kernel_rfl) (by kernel_rfl) (fun _ _ _ h => h) (Or.inl ⟨by kernel_rfl, by (intro w' hSw; go_simp; first | done | (with_reducible rfl))⟩) hHeld ?_
  (try simp only [Act.put, List.getElem_toArray, List.getElem_cons_zero, List.getElem_cons_succ, List.setIfInBounds_toArray, List.set_cons_zero, List.set_cons_succ])
  refine wpAnyH_take (i := 4) (v := ?_) rfl (by kernel_rfl) (by kernel_rfl) (by kernel_rfl) (fun _ _ _ h => h) (Or.inl ⟨by kernel_rfl, by (intro w' hSw; go_simp; first | done | (with_reducible rfl))⟩) hHeld ?_
  (try simp only [Act.put, List.getElem_toArray, List.getElem_cons_zero, List.getElem_cons_succ, List.setIfInBounds_toArray, List.set_cons_zero, List.set_cons_succ])
  refine wpAnyH_take (i := 5) (v := ?_) rfl (by kernel_rfl) (by kernel_rfl) (by kernel_rfl) (fun _ _ _ h => h) (Or.inl ⟨by kernel_rfl, by (intro w' hSw; go_simp; first | done | (with_reducible rfl))⟩) hHeld ?_
  (try simp only [Act.put, List.getElem_toArray, List.getElem_cons_zero, List.getElem_cons_succ, List.setIfInBounds_toArray, List.set_cons_zero, List.set_cons_succ])
  refine wpAnyH_ready (rs := [6]) (by kernel_rfl) (by simp) ?_
  refine AllReadyH.cons rfl (fun K hK => ?_) AllReadyH.nil
  (refine step_copy_splice rfl (.tmp 106) (.tmp 110) 62 62 rfl 24 (by kernel_rfl) (by kernel_rfl) (some ⟨w.heap.size, 1, none⟩) (some ⟨gb, 9, none⟩) 5 5 8 8 (by rfl) (by rfl) w.heap.size 1 [.int .i64 (k - 16), .int .u64 0, .int .u64 0, .int .u64 0, .int .u64 0, .int .u64 0] 36 R3.out.drew [.int .u64 r0, .int .u64 r1, .int .u64 r2, .int .u64 r3, .int .u64 r4] (by rfl) (fun _ => ⟨rfl, _, rfl, fun j u hu => ?hsrc⟩) (by simp) (by simp [Value.oneCell']) w.heap.size w B3.out.drew (Nat.le_refl _) ?hrest)
  case hsrc =>
    rcases j with _ | _ | _ | _ | _ | j
    · exact ((G3.out.drew.cell 9).trans h9).trans hu
    · exact ((G3.out.drew.cell 10).trans h10).trans hu
    · exact ((G3.out.drew.cell 11).trans h11).trans hu
    · exact ((G3.out.drew.cell 12).trans h12).trans hu
    · exact ((G3.out.drew.cell 13).trans h13).trans hu
    · simp at hu
  case hrest =>
    intro w7 hg7 hb7
    have R7 : Hid (Blk w7 w.heap.size 36 (callV (k - 16) r0 r1 r2 r3 r4)) := hg7
    have hb7 := Lib.hid hb7
    clear hg7 hHeld
    refine hK.out _ _ trivial (fun _ => ?_)
    clear hK K
    (try simp only [Act.put, List.getElem_toArray, List.getElem_cons_zero, List.getElem_cons_succ, List.setIfInBounds_toArray, List.set_cons_zero, List.set_cons_succ])
    refine wpAnyH_done (by kernel_rfl) ?_ _
    have G7 := hG.below hb7.out hg
    have z8 := (G7.cell 8).trans h8
    have f8 := G7.frozen 8
    have G7 := Lib.hid G7
    have hG := trivial
    clear B3 R3 G3
    unfold callV at *
    go_wp2_with (first
      | (refine load_call (R7.out.far hne.out _) rfl (by exact rfl) (.tmp 4) (by exact rfl) (by exact rfl) ?_)
      | (refine wpList_store_row (by exact rfl) 36 (.tmp 4) (.tmp 116) (by exact rfl) w.heap.size #[.int .i64 (k - 16), .int .u64 r0, .int .u64 r1, .int .u64 r2, .int .u64 r3, .int .u64 r4] (by exact rfl) (by exact rfl) 36 _ (R7.out.far hne.out _) (by kernel_rfl) (by exact rfl) (by simp [Value.oneCell']) ?_))
    exact bodyPost_ret (results_call (p := 4) (u := 5) (by kernel_rfl) _ _ rfl ((R7.out.far hne.out _).put_ _) rfl) rfl ⟨rfl, eff_grown hb7.out 8 _ _, (G7.out.set_ 8 _).setRow_ hne.out.symm _⟩
end Go.Proofs.Ytbgfbgcjghcepaa
