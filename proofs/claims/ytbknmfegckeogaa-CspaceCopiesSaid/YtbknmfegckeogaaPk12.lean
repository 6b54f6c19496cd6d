/- Of the following, one behind the other: The reference's Delete, by walk. A region that draws its order and whose last operation stores into cells that it loads: S is asked behind every operation but that one. No program walked. -/
import Derived.Test.YtbknmfegckeogaaPk11
import Derived.Test.YtbknmfegckeogaaRows
import Derived.OrdersHeld
import Derived.Deep.RegionHeld3
/- The reference's Delete, by walk. -/
namespace Go.Proofs.Ytbknmfegckeogaa
open Go.RowKit Go.Maps
set_option linter.unusedVariables false
set_option linter.unusedSimpArgs false

section
variable {w w' : World} {R : Rd} {S : Sp}
set_option maxRecDepth 100000 in
set_option maxHeartbeats 1000000 in
theorem rfDelete_no (h : RfAt w R S) (hn : S.L.length ≤ 512) (g s : Int) (hf : S.full g s ≠ 0) : Calls Try.prog 44 #[.pointer (some ⟨R.b, 0, none⟩), .int .i64 g, .int .i64 s] w fun e w' => e = .returned (.int .i64 (S.full g s)) ∧ w = w' := by
  have CF := rfFull_is h hn g s
  have hq : (S.full g s != 0) = true := by simpa using hf
  generalize S.full g s = E at *
  clear hf h
  go_enter Try.func44, Try.ntmps44
  go_wp2_with (go_at_call 41; refine CF.mono ?_; rintro e w2 ⟨rfl, rfl⟩)
  go_ret
  exact ⟨rfl, rfl⟩
/-- What was derived from x is derived from the one above it. -/
def upTo (x y : En) : En := if y.up = x.id then { y with up := x.up } else y
def delK (x : En) (L : List En) : List En := (L.filter fun e => !(e.id == x.id)).map (upTo x)
theorem del_L (S : Sp) (x : En) : (S.del x).L = delK x S.L := rfl
theorem delK_snoc (x y : En) (L : List En) : delK x (L ++ [y]) = delK x L ++ (if y.id = x.id then [] else [upTo x y]) := by
  unfold delK
  rw [List.filter_append, List.map_append]
  congr 1
  by_cases h : y.id = x.id <;> simp [h]
theorem delK_len (x : En) (L : List En) : (delK x L).length ≤ L.length := by
  unfold delK
  rw [List.length_map]
  exact List.length_filter_le _ _
set_option maxRecDepth 100000 in
set_option maxHeartbeats 4000000 in
theorem rfDelete_yes (h : RfAt w R S) (hn : S.L.length ≤ 512) (g s : Int) (ht : S.there g s = true) {x : En} (hf : fnd S.L g s = some x) : Calls Try.prog 44 #[.pointer (some ⟨R.b, 0, none⟩), .int .i64 g, .int .i64 s] w fun e w' => e = .returned (.int .i64 0) ∧ ∃ R', RfAt w' R' { S with L := delK x S.L } ∧ RfGo w w' R R' := by
  have CF := rfFull_is h hn g s
  have hE : S.full g s = 0 := by simp [Sp.full, ht, hf]
  rw [hE] at CF
  obtain ⟨m, hm, hmx, hp⟩ := pos_some hf
  obtain ⟨q, hq, ho⟩ := h.one m hm
  rw [hmx] at ho
  obtain ⟨-, -, -, c3, -⟩ := h.cells
  rw [hq] at c3
  have hm1 : (m : Int) < (S.L.length : Int) := by omega
  obtain ⟨i0, hi0, hz0, hz1, hz2⟩ := info_parts_ infoOne
  have HR := Lib.hid h
  have HQ := Lib.hid hq
  have HN := Lib.hid hn
  have CQ := fun W (hb : Below w.heap.size w W) => find_is (h.below hb) hn g s
  rw [hp] at CQ
  have HCQ := Lib.hid CQ
  have LB : R.b < w.heap.size ∧ q < w.heap.size := ⟨h.head.lt, h.lt (.inr (by rw [hq]; rfl))⟩
  have d0 := ho.c0
  have d1 := ho.c1
  have d2 := ho.c2
  have d3 := ho.c3
  have d4 := ho.c4
  have d5 := ho.c5
  have d6 := ho.c6
  have d7 := ho.c7
  clear h hE hf ht hmx hp ho hq hm CQ
  go_enter Try.func44, Try.ntmps44
  go_upto_region 4 with (go_at_call 41; refine CF.mono ?_; rintro e w2 ⟨rfl, hw2⟩; subst w2)
  go_cut [8] from 19 to 28 (fun v wx => v = .pointer (some ⟨w.heap.size, 0, none⟩) ∧ Blk wx w.heap.size 66 #[.int .i64 (x.id : Int), .int .i64 (x.up : Int), .int .i64 x.g, .int .i64 x.s, .int .i64 x.c.k, .int .i64 x.c.i, .int .u64 x.c.n, .int .u8 x.c.r] ∧ Below w.heap.size w wx)
  case first =>
    refine wp_region_held_drew (S := fun wx => wx.heap[R.b]? = w.heap[R.b]? ∧ wx.heap[q]? = w.heap[q]?) (by kernel_rfl) ⟨rfl, rfl⟩ (fun hHeld => ?_)
    refine wpAnyH_take (i := 0) (v := ?_) rfl (by kernel_rfl) (by kernel_rfl) (by kernel_rfl) (fun _ _ _ h => h) (Or.inl ⟨by kernel_rfl, by (intro w' hSw; obtain ⟨hSa, hSb⟩ := hSw; have q3 := (World.cell?_of_block (w := w) (a := ⟨R.b, 3, none⟩) hSa).trans c3; have q0 := (World.cell?_of_block (w := w) (a := ⟨q, m * 8, none⟩) hSb).trans d0; have q11 := (World.cell?_of_block (w := w) (a := ⟨q, m * 8 + 1, none⟩) hSb).trans d1; have q12 := (World.cell?_of_block (w := w) (a := ⟨q, m * 8 + 2, none⟩) hSb).trans d2; have q13 := (World.cell?_of_block (w := w) (a := ⟨q, m * 8 + 3, none⟩) hSb).trans d3; have q14 := (World.cell?_of_block (w := w) (a := ⟨q, m * 8 + 4, none⟩) hSb).trans d4; have q15 := (World.cell?_of_block (w := w) (a := ⟨q, m * 8 + 5, none⟩) hSb).trans d5; have q16 := (World.cell?_of_block (w := w) (a := ⟨q, m * 8 + 6, none⟩) hSb).trans d6; have q17 := (World.cell?_of_block (w := w) (a := ⟨q, m * 8 + 7, none⟩) hSb).trans d7; go_simp; first | done | (with_reducible rfl) | rfl)⟩) hHeld ?_
    (try simp only [Act.put, List.getElem_toArray, List.getElem_cons_zero, List.getElem_cons_succ, List.setIfInBounds_toArray, List.set_cons_zero, List.set_cons_succ])
    refine wpAnyH_take (i := 1) (v := ?_) rfl (by kernel_rfl) (by kernel_rfl) (by kernel_rfl) (fun _ _ _ h => h) (Or.inl ⟨by kernel_rfl, by (intro w' hSw; obtain ⟨hSa, hSb⟩ := hSw; have q3 := (World.cell?_of_block (w := w) (a := ⟨R.b, 3, none⟩) hSa).trans c3; have q0 := (World.cell?_of_block (w := w) (a := ⟨q, m * 8, none⟩) hSb).trans d0; have q11 := (World.cell?_of_block (w := w) (a := ⟨q, m * 8 + 1, none⟩) hSb).trans d1; have q12 := (World.cell?_of_block (w := w) (a := ⟨q, m * 8 + 2, none⟩) hSb).trans d2; have q13 := (World.cell?_of_block (w := w) (a := ⟨q, m * 8 + 3, none⟩) hSb).trans d3; have q14 := (World.cell?_of_block (w := w) (a := ⟨q, m * 8 + 4, none⟩) hSb).trans d4; have q15 := (World.cell?_of_block (w := w) (a := ⟨q, m * 8 + 5, none⟩) hSb).trans d5; have q16 := (World.cell?_of_block (w := w) (a := ⟨q, m * 8 + 6, none⟩) hSb).trans d6; have q17 := (World.cell?_of_block (w := w) (a := ⟨q, m * 8 + 7, none⟩) hSb).trans d7; go_simp; first | done | (with_reducible rfl) | rfl)⟩) hHeld ?_
    (try simp only [Act.put, List.getElem_toArray, List.getElem_cons_zero, List.getElem_cons_succ, List.setIfInBounds_toArray, List.set_cons_zero, List.set_cons_succ])
    refine wpAnyH_take (i := 2) (v := ?_) rfl (by kernel_rfl) (by kernel_rfl) (by kernel_rfl) (fun _ _ _ h => h) (Or.inl ⟨by kernel_rfl, by (intro w' hSw; obtain ⟨hSa, hSb⟩ := hSw; have q3 := (World.cell?_of_block (w := w) (a := ⟨R.b, 3, none⟩) hSa).trans c3; have q0 := (World.cell?_of_block (w := w) (a := ⟨q, m * 8, none⟩) hSb).trans d0; have q11 := (World.cell?_of_block (w := w) (a := ⟨q, m * 8 + 1, none⟩) hSb).trans d1; have q12 := (World.cell?_of_block (w := w) (a := ⟨q, m * 8 + 2, none⟩) hSb).trans d2; have q13 := (World.cell?_of_block (w := w) (a := ⟨q, m * 8 + 3, none⟩) hSb).trans d3; have q14 := (World.cell?_of_block (w := w) (a := ⟨q, m * 8 + 4, none⟩) hSb).trans d4; have q15 := (World.cell?_of_block (w := w) (a := ⟨q, m * 8 + 5, none⟩) hSb).trans d5; have q16 := (World.cell?_of_block (w := w) (a := ⟨q, m * 8 + 6, none⟩) hSb).trans d6; have q17 := (World.cell?_of_block (w := w) (a := ⟨q, m * 8 + 7, none⟩) hSb).trans d7; go_simp; first | done | (with_reducible rfl) | rfl)⟩) hHeld ?_
    (try simp only [Act.put, List.getElem_toArray, List.getElem_cons_zero, List.getElem_cons_succ, List.setIfInBounds_toArray, List.set_cons_zero, List.set_cons_succ])
    refine wpAnyH_take (i := 3) (v := ?_) rfl (by kernel_rfl) (by kernel_rfl) (by kernel_rfl) (fun _ _ _ h => h) (Or.inl ⟨by kernel_rfl, by (intro w' hSw; obtain ⟨hSa, hSb⟩ := hSw; have q3 := (World.cell?_of_block (w := w) (a := ⟨R.b, 3, none⟩) hSa).trans c3; have q0 := (World.cell?_of_block (w := w) (a := ⟨q, m * 8, none⟩) hSb).trans d0; have q11 := (World.cell?_of_block (w := w) (a := ⟨q, m * 8 + 1, none⟩) hSb).trans d1; have q12 := (World.cell?_of_block (w := w) (a := ⟨q, m * 8 + 2, none⟩) hSb).trans d2; have q13 := (World.cell?_of_block (w := w) (a := ⟨q, m * 8 + 3, none⟩) hSb).trans d3; have q14 := (World.cell?_of_block (w := w) (a := ⟨q, m * 8 + 4, none⟩) hSb).trans d4; have q15 := (World.cell?_of_block (w := w) (a := ⟨q, m * 8 + 5, none⟩) hSb).trans d5; have q16 := (World.cell?_of_block (w := w) (a := ⟨q, m * 8 + 6, none⟩) hSb).trans d6; have q17 := (World.cell?_of_block (w := w) (a := ⟨q, m * 8 + 7, none⟩) hSb).trans d7; go_simp; first | done | (with_reducible rfl) | rfl)⟩) hHeld ?_
    (try simp only [Act.put, List.getElem_toArray, List.getElem_cons_zero, List.getElem_cons_succ, List.setIfInBounds_toArray, List.set_cons_zero, List.set_cons_succ])
    refine wpAnyH_take (i := 4) (v := ?_) rfl (by kernel_rfl) (by kernel_rfl) (by kernel_rfl) (fun _ _ _ h => h) (Or.inl ⟨by kernel_rfl, by (intro w' hSw; obtain ⟨hSa, hSb⟩ := hSw; have q3 := (World.cell?_of_block (w := w) (a := ⟨R.b, 3, none⟩) hSa).trans c3; have q0 := (World.cell?_of_block (w := w) (a := ⟨q, m * 8, none⟩) hSb).trans d0; have q11 := (World.cell?_of_block (w := w) (a := ⟨q, m * 8 + 1, none⟩) hSb).trans d1; have q12 := (World.cell?_of_block (w := w) (a := ⟨q, m * 8 + 2, none⟩) hSb).trans d2; have q13 := (World.cell?_of_block (w := w) (a := ⟨q, m * 8 + 3, none⟩) hSb).trans d3; have q14 := (World.cell?_of_block (w := w) (a := ⟨q, m * 8 + 4, none⟩) hSb).trans d4; have q15 := (World.cell?_of_block (w := w) (a := ⟨q, m * 8 + 5, none⟩) hSb).trans d5; have q16 := (World.cell?_of_block (w := w) (a := ⟨q, m * 8 + 6, none⟩) hSb).trans d6; have q17 := (World.cell?_of_block (w := w) (a := ⟨q, m * 8 + 7, none⟩) hSb).trans d7; go_simp; first | done | (with_reducible rfl) | rfl)⟩) hHeld ?_
    (try simp only [Act.put, List.getElem_toArray, List.getElem_cons_zero, List.getElem_cons_succ, List.setIfInBounds_toArray, List.set_cons_zero, List.set_cons_succ])
    refine wpAnyH_take (i := 5) (v := ?_) rfl (by kernel_rfl) (by kernel_rfl) (by kernel_rfl) (fun _ _ _ h => h) (Or.inl ⟨by kernel_rfl, by (intro w' hSw; obtain ⟨hSa, hSb⟩ := hSw; have q3 := (World.cell?_of_block (w := w) (a := ⟨R.b, 3, none⟩) hSa).trans c3; have q0 := (World.cell?_of_block (w := w) (a := ⟨q, m * 8, none⟩) hSb).trans d0; have q11 := (World.cell?_of_block (w := w) (a := ⟨q, m * 8 + 1, none⟩) hSb).trans d1; have q12 := (World.cell?_of_block (w := w) (a := ⟨q, m * 8 + 2, none⟩) hSb).trans d2; have q13 := (World.cell?_of_block (w := w) (a := ⟨q, m * 8 + 3, none⟩) hSb).trans d3; have q14 := (World.cell?_of_block (w := w) (a := ⟨q, m * 8 + 4, none⟩) hSb).trans d4; have q15 := (World.cell?_of_block (w := w) (a := ⟨q, m * 8 + 5, none⟩) hSb).trans d5; have q16 := (World.cell?_of_block (w := w) (a := ⟨q, m * 8 + 6, none⟩) hSb).trans d6; have q17 := (World.cell?_of_block (w := w) (a := ⟨q, m * 8 + 7, none⟩) hSb).trans d7; go_simp; first | done | (with_reducible rfl) | rfl)⟩) hHeld ?_
    (try simp only [Act.put, List.getElem_toArray, List.getElem_cons_zero, List.getElem_cons_succ, List.setIfInBounds_toArray, List.set_cons_zero, List.set_cons_succ])
    refine wpAnyH_take (i := 6) (v := ?_) rfl (by kernel_rfl) (by kernel_rfl) (by kernel_rfl) (fun _ _ _ h => h) (Or.inl ⟨by kernel_rfl, by (intro w' hSw; obtain ⟨hSa, hSb⟩ := hSw; have q3 := (World.cell?_of_block (w := w) (a := ⟨R.b, 3, none⟩) hSa).trans c3; have q0 := (World.cell?_of_block (w := w) (a := ⟨q, m * 8, none⟩) hSb).trans d0; have q11 := (World.cell?_of_block (w := w) (a := ⟨q, m * 8 + 1, none⟩) hSb).trans d1; have q12 := (World.cell?_of_block (w := w) (a := ⟨q, m * 8 + 2, none⟩) hSb).trans d2; have q13 := (World.cell?_of_block (w := w) (a := ⟨q, m * 8 + 3, none⟩) hSb).trans d3; have q14 := (World.cell?_of_block (w := w) (a := ⟨q, m * 8 + 4, none⟩) hSb).trans d4; have q15 := (World.cell?_of_block (w := w) (a := ⟨q, m * 8 + 5, none⟩) hSb).trans d5; have q16 := (World.cell?_of_block (w := w) (a := ⟨q, m * 8 + 6, none⟩) hSb).trans d6; have q17 := (World.cell?_of_block (w := w) (a := ⟨q, m * 8 + 7, none⟩) hSb).trans d7; go_simp; first | done | (with_reducible rfl) | rfl)⟩) hHeld ?_
    (try simp only [Act.put, List.getElem_toArray, List.getElem_cons_zero, List.getElem_cons_succ, List.setIfInBounds_toArray, List.set_cons_zero, List.set_cons_succ])
    refine wpAnyH_ready (rs := [7, 10]) (by kernel_rfl) (by simp) ?_
    refine AllReadyH.cons rfl (fun K hK => ?_) (AllReadyH.cons rfl (fun K hK => ?_) AllReadyH.nil)
    · go_simp
      go_at_call 27; refine (HCQ.out _ (below_drewN_ w w.heap.size 1)).mono ?_; rintro e w2 ⟨rfl, hw2⟩; subst w2
      try dsimp only
      clear hHeld
      refine hK.out _ _ ⟨rfl, rfl⟩ (fun hHeld => ?_)
      clear hK K
      (try simp only [Act.put, List.getElem_toArray, List.getElem_cons_zero, List.getElem_cons_succ, List.setIfInBounds_toArray, List.set_cons_zero, List.set_cons_succ])
      refine wpAnyH_take (i := 8) (v := ?_) rfl (by kernel_rfl) (by kernel_rfl) (by kernel_rfl) (fun _ _ _ h => h) (Or.inl ⟨by kernel_rfl, by (intro w' hSw; obtain ⟨hSa, hSb⟩ := hSw; have q3 := (World.cell?_of_block (w := w) (a := ⟨R.b, 3, none⟩) hSa).trans c3; have q0 := (World.cell?_of_block (w := w) (a := ⟨q, m * 8, none⟩) hSb).trans d0; have q11 := (World.cell?_of_block (w := w) (a := ⟨q, m * 8 + 1, none⟩) hSb).trans d1; have q12 := (World.cell?_of_block (w := w) (a := ⟨q, m * 8 + 2, none⟩) hSb).trans d2; have q13 := (World.cell?_of_block (w := w) (a := ⟨q, m * 8 + 3, none⟩) hSb).trans d3; have q14 := (World.cell?_of_block (w := w) (a := ⟨q, m * 8 + 4, none⟩) hSb).trans d4; have q15 := (World.cell?_of_block (w := w) (a := ⟨q, m * 8 + 5, none⟩) hSb).trans d5; have q16 := (World.cell?_of_block (w := w) (a := ⟨q, m * 8 + 6, none⟩) hSb).trans d6; have q17 := (World.cell?_of_block (w := w) (a := ⟨q, m * 8 + 7, none⟩) hSb).trans d7; go_simp; first | done | (with_reducible rfl) | rfl)⟩) hHeld ?_
      (try simp only [Act.put, List.getElem_toArray, List.getElem_cons_zero, List.getElem_cons_succ, List.setIfInBounds_toArray, List.set_cons_zero, List.set_cons_succ])
      refine wpAnyH_take (i := 9) (v := ?_) rfl (by kernel_rfl) (by kernel_rfl) (by kernel_rfl) (fun _ _ _ h => h) (Or.inl ⟨by kernel_rfl, by (intro w' hSw; obtain ⟨hSa, hSb⟩ := hSw; have q3 := (World.cell?_of_block (w := w) (a := ⟨R.b, 3, none⟩) hSa).trans c3; have q0 := (World.cell?_of_block (w := w) (a := ⟨q, m * 8, none⟩) hSb).trans d0; have q11 := (World.cell?_of_block (w := w) (a := ⟨q, m * 8 + 1, none⟩) hSb).trans d1; have q12 := (World.cell?_of_block (w := w) (a := ⟨q, m * 8 + 2, none⟩) hSb).trans d2; have q13 := (World.cell?_of_block (w := w) (a := ⟨q, m * 8 + 3, none⟩) hSb).trans d3; have q14 := (World.cell?_of_block (w := w) (a := ⟨q, m * 8 + 4, none⟩) hSb).trans d4; have q15 := (World.cell?_of_block (w := w) (a := ⟨q, m * 8 + 5, none⟩) hSb).trans d5; have q16 := (World.cell?_of_block (w := w) (a := ⟨q, m * 8 + 6, none⟩) hSb).trans d6; have q17 := (World.cell?_of_block (w := w) (a := ⟨q, m * 8 + 7, none⟩) hSb).trans d7; go_simp; first | done | (with_reducible rfl) | rfl)⟩) hHeld ?_
      (try simp only [Act.put, List.getElem_toArray, List.getElem_cons_zero, List.getElem_cons_succ, List.setIfInBounds_toArray, List.set_cons_zero, List.set_cons_succ])
      refine wpAnyH_ready (rs := [10]) (by kernel_rfl) (by simp) ?_
      refine AllReadyH.cons rfl (fun K hK => ?_) AllReadyH.nil
      go_simp
      try dsimp only
      clear hHeld
      refine hK.out _ _ ⟨Below.heap_alloc w.drew _ _ LB.1, Below.heap_alloc w.drew _ _ LB.2⟩ (fun hHeld => ?_)
      clear hK K
      (try simp only [Act.put, List.getElem_toArray, List.getElem_cons_zero, List.getElem_cons_succ, List.setIfInBounds_toArray, List.set_cons_zero, List.set_cons_succ])
      refine wpAnyH_ready (rs := [11]) (by kernel_rfl) (by simp) ?_
      refine AllReadyH.cons rfl (fun K hK => ?_) AllReadyH.nil
      refine wp_store_row 66 (.tmp 8) (.tmp 28) (by exact rfl) w.heap.size #[.int .i64 (x.id : Int), .int .i64 (x.up : Int), .int .i64 x.g, .int .i64 x.s, .int .i64 x.c.k, .int .i64 x.c.i, .int .u64 x.c.n, .int .u8 x.c.r] (by exact rfl) (by exact rfl) 66 _ (Blk.new w.drew 66 _) (by kernel_rfl) rfl (by simp [Value.oneCell']) ?_
      try dsimp only
      clear hHeld
      refine hK.out _ _ ⟨(setRow_other _ _ _ _ (by omega)).trans (Below.heap_alloc w.drew _ _ LB.1), (setRow_other _ _ _ _ (by omega)).trans (Below.heap_alloc w.drew _ _ LB.2)⟩ (fun hHeld => ?_)
      clear hK K
      (try simp only [Act.put, List.getElem_toArray, List.getElem_cons_zero, List.getElem_cons_succ, List.setIfInBounds_toArray, List.set_cons_zero, List.set_cons_succ])
      refine wpAnyH_done (by kernel_rfl) ?_ _
      go_wp2_with fail
      go_meet
      case rel => exact ⟨rfl, Blk.put_ (Blk.new w.drew 66 _) _, below_setRow ((below_drewN_ w w.heap.size 1).alloc (Nat.le_refl _) _) (Nat.le_refl _) _⟩
    · go_simp
      try dsimp only
      clear hHeld
      refine hK.out _ _ ⟨Below.heap_alloc w.drew _ _ LB.1, Below.heap_alloc w.drew _ _ LB.2⟩ (fun hHeld => ?_)
      clear hK K
      (try simp only [Act.put, List.getElem_toArray, List.getElem_cons_zero, List.getElem_cons_succ, List.setIfInBounds_toArray, List.set_cons_zero, List.set_cons_succ])
      refine wpAnyH_ready (rs := [7]) (by kernel_rfl) (by simp) ?_
      refine AllReadyH.cons rfl (fun K hK => ?_) AllReadyH.nil
      go_simp
      go_at_call 27; refine (HCQ.out _ ((below_drewN_ w w.heap.size 1).alloc (Nat.le_refl _) (.cells #[.int .i64 0, .int .i64 0, .int .i64 0, .int .i64 0, .int .i64 0, .int .i64 0, .int .u64 0, .int .u8 0] 66))).mono ?_; rintro e w2 ⟨rfl, hw2⟩; subst w2
      try dsimp only
      clear hHeld
      refine hK.out _ _ ⟨Below.heap_alloc w.drew _ _ LB.1, Below.heap_alloc w.drew _ _ LB.2⟩ (fun hHeld => ?_)
      clear hK K
      (try simp only [Act.put, List.getElem_toArray, List.getElem_cons_zero, List.getElem_cons_succ, List.setIfInBounds_toArray, List.set_cons_zero, List.set_cons_succ])
      refine wpAnyH_take (i := 8) (v := ?_) rfl (by kernel_rfl) (by kernel_rfl) (by kernel_rfl) (fun _ _ _ h => h) (Or.inl ⟨by kernel_rfl, by (intro w' hSw; obtain ⟨hSa, hSb⟩ := hSw; have q3 := (World.cell?_of_block (w := w) (a := ⟨R.b, 3, none⟩) hSa).trans c3; have q0 := (World.cell?_of_block (w := w) (a := ⟨q, m * 8, none⟩) hSb).trans d0; have q11 := (World.cell?_of_block (w := w) (a := ⟨q, m * 8 + 1, none⟩) hSb).trans d1; have q12 := (World.cell?_of_block (w := w) (a := ⟨q, m * 8 + 2, none⟩) hSb).trans d2; have q13 := (World.cell?_of_block (w := w) (a := ⟨q, m * 8 + 3, none⟩) hSb).trans d3; have q14 := (World.cell?_of_block (w := w) (a := ⟨q, m * 8 + 4, none⟩) hSb).trans d4; have q15 := (World.cell?_of_block (w := w) (a := ⟨q, m * 8 + 5, none⟩) hSb).trans d5; have q16 := (World.cell?_of_block (w := w) (a := ⟨q, m * 8 + 6, none⟩) hSb).trans d6; have q17 := (World.cell?_of_block (w := w) (a := ⟨q, m * 8 + 7, none⟩) hSb).trans d7; go_simp; first | done | (with_reducible rfl) | rfl)⟩) hHeld ?_
      (try simp only [Act.put, List.getElem_toArray, List.getElem_cons_zero, List.getElem_cons_succ, List.setIfInBounds_toArray, List.set_cons_zero, List.set_cons_succ])
      refine wpAnyH_take (i := 9) (v := ?_) rfl (by kernel_rfl) (by kernel_rfl) (by kernel_rfl) (fun _ _ _ h => h) (Or.inl ⟨by kernel_rfl, by (intro w' hSw; obtain ⟨hSa, hSb⟩ := hSw; have q3 := (World.cell?_of_block (w := w) (a := ⟨R.b, 3, none⟩) hSa).trans c3; have q0 := (World.cell?_of_block (w := w) (a := ⟨q, m * 8, none⟩) hSb).trans d0; have q11 := (World.cell?_of_block (w := w) (a := ⟨q, m * 8 + 1, none⟩) hSb).trans d1; have q12 := (World.cell?_of_block (w := w) (a := ⟨q, m * 8 + 2, none⟩) hSb).trans d2; have q13 := (World.cell?_of_block (w := w) (a := ⟨q, m * 8 + 3, none⟩) hSb).trans d3; have q14 := (World.cell?_of_block (w := w) (a := ⟨q, m * 8 + 4, none⟩) hSb).trans d4; have q15 := (World.cell?_of_block (w := w) (a := ⟨q, m * 8 + 5, none⟩) hSb).trans d5; have q16 := (World.cell?_of_block (w := w) (a := ⟨q, m * 8 + 6, none⟩) hSb).trans d6; have q17 := (World.cell?_of_block (w := w) (a := ⟨q, m * 8 + 7, none⟩) hSb).trans d7; go_simp; first | done | (with_reducible rfl) | rfl)⟩) hHeld ?_
      (try simp only [Act.put, List.getElem_toArray, List.getElem_cons_zero, List.getElem_cons_succ, List.setIfInBounds_toArray, List.set_cons_zero, List.set_cons_succ])
      refine wpAnyH_ready (rs := [11]) (by kernel_rfl) (by simp) ?_
      refine AllReadyH.cons rfl (fun K hK => ?_) AllReadyH.nil
      refine wp_store_row 66 (.tmp 8) (.tmp 28) (by exact rfl) w.heap.size #[.int .i64 (x.id : Int), .int .i64 (x.up : Int), .int .i64 x.g, .int .i64 x.s, .int .i64 x.c.k, .int .i64 x.c.i, .int .u64 x.c.n, .int .u8 x.c.r] (by exact rfl) (by exact rfl) 66 _ (Blk.new w.drew 66 _) (by kernel_rfl) rfl (by simp [Value.oneCell']) ?_
      try dsimp only
      clear hHeld
      refine hK.out _ _ ⟨(setRow_other _ _ _ _ (by omega)).trans (Below.heap_alloc w.drew _ _ LB.1), (setRow_other _ _ _ _ (by omega)).trans (Below.heap_alloc w.drew _ _ LB.2)⟩ (fun hHeld => ?_)
      clear hK K
      (try simp only [Act.put, List.getElem_toArray, List.getElem_cons_zero, List.getElem_cons_succ, List.setIfInBounds_toArray, List.set_cons_zero, List.set_cons_succ])
      refine wpAnyH_done (by kernel_rfl) ?_ _
      go_wp2_with fail
      go_meet
      case rel => exact ⟨rfl, Blk.put_ (Blk.new w.drew 66 _) _, below_setRow ((below_drewN_ w w.heap.size 1).alloc (Nat.le_refl _) _) (Nat.le_refl _) _⟩
  case rest =>
    obtain ⟨rfl, hblk, hbw⟩ := hcut
    clear d0 d1 d2 d3 d4 d5 d6 d7 c3 CF
    go_wp2_with fail
    go_loopw [9, 10] (fun o i wr => ∃ k : Nat, k ≤ S.L.length ∧ i = .int .i64 k ∧ wr.ownsRow w.heap.size 66 8 o (delK x (S.L.take k)).length (onesV (delK x (S.L.take k))) ∧ Blk wr w.heap.size 66 #[.int .i64 (x.id : Int), .int .i64 (x.up : Int), .int .i64 x.g, .int .i64 x.s, .int .i64 x.c.k, .int .i64 x.c.i, .int .u64 x.c.n, .int .u8 x.c.r] ∧ (o.ownBlock ≠ some w.heap.size) ∧ Below w.heap.size w wr) (fun _ i _ => S.L.length - (intOf i).toNat)
    case atStart => exact ⟨0, Nat.zero_le _, rfl, World.ownsRow_nil _ _ _ _, hblk, by simp [Value.ownBlock], hbw⟩
    case round =>
      clear hblk hbw
      obtain ⟨k, hk, rfl, hown, hblk, hob, hbr⟩ := hrel
      obtain ⟨A, cap, rfl⟩ := own_slice hown
      have h1 := HR.out.below hbr
      obtain ⟨-, -, -, c3, -⟩ := h1.cells
      rw [HQ.out] at c3
      by_cases hlt : k < S.L.length
      · obtain ⟨q2, hq2, ho⟩ := h1.one k hlt
        obtain rfl : q = q2 := by
          have := HQ.out
          rw [this] at hq2
          injection hq2 with hq2
          injection hq2
        have d0 := ho.c0
        have d1 := ho.c1
        have d2 := ho.c2
        have d3 := ho.c3
        have d4 := ho.c4
        have d5 := ho.c5
        have d6 := ho.c6
        have d7 := ho.c7
        have x0 := hblk.cell 0
        have x1 := hblk.cell 1
        simp only [List.getElem?_toArray, List.getElem?_cons_zero, List.getElem?_cons_succ] at x0 x1
        have hst := delK_snoc x (S.L[k]'hlt) (S.L.take k)
        rw [← List.take_succ_eq_append_getElem hlt] at hst
        have hll : (delK x (S.L.take k)).length ≤ 512 := Nat.le_trans (delK_len _ _) (by rw [List.length_take]; have := HN.out; omega)
        obtain ⟨y, hy⟩ : ∃ y, y = S.L[k]'hlt := ⟨_, rfl⟩
        rw [← hy] at d0 d1 d2 d3 d4 d5 d6 d7 hst
        have HK := Lib.hid hlt
        have hk1 : (k : Int) < (S.L.length : Int) := by omega
        have HB := Lib.hid hbr
        have HX := Lib.hid hblk
        have hn9 : S.L.length ≤ 512 := HN.out
        have hnew : w.heap.size < wr.heap.size := hblk.lt
        clear hlt hbr h1 ho hy hq2 hblk
        obtain ⟨L, hL⟩ : ∃ L, L = delK x (S.L.take k) := ⟨_, rfl⟩
        rw [← hL] at hown hst hll hob ⊢
        have HOB := Lib.hid hob
        clear hL hob
        have HO := Lib.hid hown
        have m3 := Lib.hid (show L.length + 1 ≤ maxLen from by unfold maxLen; omega)
        have m4 := Lib.hid (show (L.length + 1) * 64 ≤ 140737488355328 from by omega)
        clear hown hll
        have HBA := fun o => HB.out.alloc HB.out.size o
        have HXA := fun o => HX.out.alloc o
        have fin : ∀ (W : World) (v2 : Value) (w3 : World) (L2 : List En), Below w.heap.size w W → Blk W w.heap.size 66 #[.int .i64 (x.id : Int), .int .i64 (x.up : Int), .int .i64 x.g, .int .i64 x.s, .int .i64 x.c.k, .int .i64 x.c.i, .int .u64 x.c.n, .int .u8 x.c.r] → W.grownBy w3 (Value.slice A L.length cap).ownBlock → (v2.ownBlock = (Value.slice A L.length cap).ownBlock ∨ v2.ownBlock = some W.heap.size) → Blk w3 w.heap.size 66 #[.int .i64 (x.id : Int), .int .i64 (x.up : Int), .int .i64 x.g, .int .i64 x.s, .int .i64 x.c.k, .int .i64 x.c.i, .int .u64 x.c.n, .int .u8 x.c.r] ∧ v2.ownBlock ≠ some w.heap.size ∧ Below w.heap.size w w3 := by
          intro W v2 w3 L2 hb hx hg hv
          refine ⟨hx.grown hg (fun e => HOB.out e.symm), ?_, hb.grown hg hb.size (fun j e => (HO.out.lt j e).1)⟩
          rcases hv with e | e
          · rw [e]; exact HOB.out
          · rw [e]
            intro e2
            injection e2 with e2
            have := hx.lt
            omega
        have HFIN := Lib.hid fin
        clear fin
        by_cases hax : y.up = x.id
        · have hax1 : ((y.up : Int) == (x.id : Int)) = true := by simp; omega
          by_cases hid : y.id = x.id
          · have hid1 : ((y.id : Int) != (x.id : Int)) = false := by simp; omega
            rw [if_pos hid, List.append_nil] at hst
            have HST := Lib.hid hst
            clear hst hax hid
            go_wp2_with fail
            go_roundw
            case rel =>
              refine ⟨k + 1, by have := HK.out; omega, by go_num, ?_, HXA _, HOB.out, HBA _⟩
              rw [HST.out]
              exact HO.out.alloc _
            case measure => simp [intOf]; have := HK.out; omega
          · have hid1 : ((y.id : Int) != (x.id : Int)) = true := by simp; omega
            have hup : upTo x y = { y with up := x.up } := if_pos hax
            rw [if_neg hid, hup] at hst
            have HST := Lib.hid hst
            have HRD := Lib.hid (fun W => reads_oneE W { y with up := x.up })
            clear hst hax hid hup
            go_wp2_with (at_builtin; refine wpList_append_any _ rfl (.tmp 58) (.tmp 60) 62 rfl w.heap.size 66 i0 (.agg #[.int .i64 0, .int .i64 0, .int .i64 0, .int .i64 0, .int .i64 0, .int .i64 0, .int .u64 0, .int .u8 0]) 8 64 Try.underlying62 hi0 hz0 hz1 hz2 rfl (by decide) (.slice A L.length cap) L.length (onesV L) rfl ((HO.out.alloc _).alloc _) _ (some ⟨wr.heap.size + 1, 0, none⟩) 1 1 (oneV { y with up := x.up }) rfl (by have := HRD.out (wr.alloc (.cells #[.int .i64 (y.id : Int), .int .i64 (x.up : Int), .int .i64 y.g, .int .i64 y.s, .int .i64 y.c.k, .int .i64 y.c.i, .int .u64 y.c.n, .int .u8 y.c.r] 66)); simp only [World.size_alloc] at this; exact this) (by simp [oneV, Value.oneCell']) m3.out m4.out (by simp; omega) ?_; intro v2 w3 hown2 hg2 hat2; (have HF := Lib.hid (HFIN.out _ v2 w3 [] ((HBA _).alloc (by simp; omega) _) ((HXA _).alloc _) hg2 hat2)); (obtain ⟨A2, c2, rfl⟩ := own_slice hown2); (have HO2 := Lib.hid hown2); clear hown2 hg2 hat2 d0 d1 d2 d3 d4 d5 d6 d7 x0 x1 c3)
            go_roundw
            case rel =>
              refine ⟨k + 1, by have := HK.out; omega, by go_num, ?_, HF.out.1, HF.out.2.1, HF.out.2.2⟩
              rw [HST.out, onesV_app, onesV_one, List.length_append]
              exact HO2.out
            case measure => simp [intOf]; have := HK.out; omega
        · have hax1 : ((y.up : Int) == (x.id : Int)) = false := by simp; omega
          have hup : upTo x y = y := if_neg hax
          by_cases hid : y.id = x.id
          · have hid1 : ((y.id : Int) != (x.id : Int)) = false := by simp; omega
            rw [if_pos hid, List.append_nil] at hst
            have HST := Lib.hid hst
            clear hst hax hid hup
            go_wp2_with fail
            go_roundw
            case rel =>
              refine ⟨k + 1, by have := HK.out; omega, by go_num, ?_, HXA _, HOB.out, HBA _⟩
              rw [HST.out]
              exact HO.out.alloc _
            case measure => simp [intOf]; have := HK.out; omega
          · have hid1 : ((y.id : Int) != (x.id : Int)) = true := by simp; omega
            rw [if_neg hid, hup] at hst
            have HST := Lib.hid hst
            have HRD := Lib.hid (fun W => reads_oneE W y)
            clear hst hax hid hup
            go_wp2_with (at_builtin; refine wpList_append_any _ rfl (.tmp 58) (.tmp 60) 62 rfl w.heap.size 66 i0 (.agg #[.int .i64 0, .int .i64 0, .int .i64 0, .int .i64 0, .int .i64 0, .int .i64 0, .int .u64 0, .int .u8 0]) 8 64 Try.underlying62 hi0 hz0 hz1 hz2 rfl (by decide) (.slice A L.length cap) L.length (onesV L) rfl ((HO.out.alloc _).alloc _) _ (some ⟨wr.heap.size + 1, 0, none⟩) 1 1 (oneV y) rfl (by have := HRD.out (wr.alloc (.cells #[.int .i64 (y.id : Int), .int .i64 (y.up : Int), .int .i64 y.g, .int .i64 y.s, .int .i64 y.c.k, .int .i64 y.c.i, .int .u64 y.c.n, .int .u8 y.c.r] 66)); simp only [World.size_alloc] at this; exact this) (by simp [oneV, Value.oneCell']) m3.out m4.out (by simp; omega) ?_; intro v2 w3 hown2 hg2 hat2; (have HF := Lib.hid (HFIN.out _ v2 w3 [] ((HBA _).alloc (by simp; omega) _) ((HXA _).alloc _) hg2 hat2)); (obtain ⟨A2, c2, rfl⟩ := own_slice hown2); (have HO2 := Lib.hid hown2); clear hown2 hg2 hat2 d0 d1 d2 d3 d4 d5 d6 d7 x0 x1 c3)
            go_roundw
            case rel =>
              refine ⟨k + 1, by have := HK.out; omega, by go_num, ?_, HF.out.1, HF.out.2.1, HF.out.2.2⟩
              rw [HST.out, onesV_app, onesV_one, List.length_append]
              exact HO2.out
            case measure => simp [intOf]; have := HK.out; omega
      · have hkr : k = S.L.length := by omega
        subst hkr
        rw [List.take_length] at hown ⊢
        have hst := HR.out.store hbr hown
        have HST := Lib.hid hst
        have hfr := h1.head.frozen 3
        clear hown hbr h1 hst hblk hob
        go_wp2_with fail
        go_ret
        exact ⟨rfl, _, HST.out.1, HST.out.2⟩
end
end Go.Proofs.Ytbknmfegckeogaa

/- A region that draws its order and whose last operation stores into cells that it loads: S is asked behind every operation but that one. No program walked. -/
namespace Go.Proofs.Ytbknmfegckeogaa
set_option linter.unusedVariables false
section
variable {P : Program} {ops : Array Oper} {Q : Exit → Act → World → Prop} {md : Region.Mode} {S : World → Prop} {last : Nat}

/-- Whatever order is picked from here on, and S holds behind every operation but the last one. -/
def wpAnyX (P : Program) (md : Region.Mode) (ops : Array Oper) (Q : Exit → Act → World → Prop) (S : World → Prop) (last : Nat) : Nat → Array Bool → Act → World → Prop
  | 0, listed, a, w => Region.ready md ops listed = [] ∧ Q .normal a w
  | fuel + 1, listed, a, w =>
    (Region.ready md ops listed = [] → Q .normal a w) ∧
    ∀ i ∈ Region.ready md ops listed, wpOp P ops Q i (fun a' w' => (i ≠ last → S w') ∧ wpAnyX P md ops Q S last fuel (listed.setIfInBounds i true) a' w') a w

theorem wpAny_of_X : ∀ (fuel : Nat) (listed : Array Bool) (a : Act) (w : World), wpAnyX P md ops Q S last fuel listed a w → wpAny P md ops Q fuel listed a w
  | 0, _, _, _, h => h
  | fuel + 1, _, _, _, h => ⟨h.1, fun i hi => wpOp_mono (fun a' w' h' => wpAny_of_X fuel _ a' w' h'.2) (h.2 i hi)⟩

/-- A chain of operations, each of which waits for the one ahead; none has come up. -/
def chained (md : Region.Mode) (ops : Array Oper) (listed : Array Bool) : Nat → List Nat → Bool
  | _, [] => true
  | i, c :: cs => !listed.getD c true && (match ops[c]? with | some o => o.after.any (fun e => Region.binds md e && e.on == i) | none => false) && chained md ops listed c cs

theorem chained_step {listed : Array Bool} {j : Nat} (hj : j ∈ Region.ready md ops listed) : ∀ (cs : List Nat) (i : Nat), listed.getD i true = false → i ≠ j → chained md ops listed i cs = true → j ∉ cs ∧ chained md ops (listed.setIfInBounds j true) i cs = true
  | [], i, hi, hne, h => ⟨by simp, rfl⟩
  | c :: cs, i, hi, hne, h => by
    simp only [chained, Bool.and_eq_true, Bool.not_eq_true'] at h
    obtain ⟨⟨hc, hw⟩, hr⟩ := h
    have hcj : c ≠ j := by
      rintro rfl
      obtain ⟨_, o, ho, hall⟩ := mem_ready.1 hj
      rw [ho] at hw
      obtain ⟨e, he, hb⟩ := Array.any_eq_true'.1 hw
      simp only [Bool.and_eq_true, beq_iff_eq] at hb
      have h1 := hall e he hb.1
      rw [hb.2] at h1
      rcases Nat.lt_or_ge i listed.size with h' | h'
      · simp [h'] at hi h1
        rw [hi] at h1
        cases h1
      · simp [Array.getElem?_eq_none h'] at h1
    obtain ⟨h1, h2⟩ := chained_step hj cs c hc hcj hr
    refine ⟨by simp [h1, Ne.symm hcj], ?_⟩
    simp only [chained, Bool.and_eq_true, Bool.not_eq_true']
    exact ⟨⟨by rw [getD_set_ne true (Ne.symm hcj)]; exact hc, hw⟩, h2⟩

theorem wpAnyX_first {i : Nat} {oi : Oper} {v : Value} {cs : List Nat} (hi : ops[i]? = some oi) (hl : last ∈ cs) (hil : i ≠ last) (hsel : ∀ (j : Nat) (o : Oper) cs b, ops[j]? = some o → o.op ≠ .select cs b)
    (hQ : ∀ c a w, Q (.panic c) (a.put oi.dst v) w → Q (.panic c) a w) :
    ∀ (fuel : Nat) (listed : Array Bool) (a : Act) (w : World),
      (∀ j oj, ops[j]? = some oj → j ≠ i → listed.getD j true = false → (∀ e ∈ oj.after, Region.binds md e = true → e.on ≠ i) → oi.apart ops oj = true) →
      chained md ops listed i cs = true →
      i ∈ Region.ready md ops listed → YieldsIf P ops S oi v a → S w →
      wpAnyX P md ops Q S last fuel (listed.setIfInBounds i true) (a.put oi.dst v) w → wpAnyX P md ops Q S last (fuel + 1) listed a w := by
  intro fuel
  induction fuel with
  | zero =>
    intro listed a w _ _ hr hy hS H
    refine ⟨fun h => (by rw [h] at hr; cases hr), fun j hj => ?_⟩
    by_cases hji : j = i
    · subst hji; exact hy.wpOp hi hS ⟨fun _ => hS, H⟩
    · have := ready_mono hj hji
      rw [H.1] at this
      cases this
  | succ fuel ih =>
    intro listed a w hfree hch hr hy hS H
    refine ⟨fun h => (by rw [h] at hr; cases hr), fun j hj => ?_⟩
    by_cases hji : j = i
    · subst hji; exact hy.wpOp hi hS ⟨fun _ => hS, H⟩
    · obtain ⟨hjc, hch'⟩ := chained_step hj cs i (mem_ready.1 hr).1 (Ne.symm hji) hch
      have hjl : j ≠ last := fun e => hjc (e ▸ hl)
      have h1 := H.2 j (ready_mono hj hji)
      obtain ⟨hjun, oj, hoj, hall⟩ := mem_ready.1 hj
      have hnot : ∀ e ∈ oj.after, Region.binds md e = true → e.on ≠ i := fun e he hb heq => by
        have h1 := hall e he hb
        have h0 := (mem_ready.1 hr).1
        rw [heq] at h1
        rcases Nat.lt_or_ge i listed.size with h' | h'
        · simp [h'] at h0 h1; rw [h0] at h1; cases h1
        · simp [Array.getElem?_eq_none h'] at h1
      have h2 := wpOp_putIf hoj (hfree j oj hoj hji hjun hnot) (fun cs b => hsel i oi cs b hi) (fun cs b => hsel j oj cs b hoj) hQ hy h1
      have hfree' : ∀ k ok, ops[k]? = some ok → k ≠ i → (listed.setIfInBounds j true).getD k true = false →
          (∀ e ∈ ok.after, Region.binds md e = true → e.on ≠ i) → oi.apart ops ok = true := fun k ok hk hki hun hno => by
        refine hfree k ok hk hki ?_ hno
        by_cases hjk : j = k
        · subst hjk; exact hjun
        · rw [getD_set_ne true hjk] at hun; exact hun
      refine wpOp_mono (fun a' w' h3 => ⟨h3.2.1, ih (listed.setIfInBounds j true) a' w' hfree' hch' (ready_mono hr (Ne.symm hji)) h3.1 (h3.2.1 hjl) ?_⟩) h2
      rw [Array.setIfInBounds_comm _ _ hji]
      exact h3.2.2

/-- Take number 'i' first; 'cs' leads from it to the last one. -/
theorem wpAnyX_take {i : Nat} {oi : Oper} {v : Value} {fuel : Nat} {listed : Array Bool} {a : Act} {w : World} (cs : List Nat) (hi : ops[i]? = some oi)
    (hl : cs.contains last = true) (hil : (i == last) = false) (hch : chained md ops listed i cs = true)
    (hs : Region.noSelect ops = true) (hf : Region.free md ops listed i = true) (hr : (Region.ready md ops listed).contains i = true)
    (hQ : ∀ c a w, Q (.panic c) (a.put oi.dst v) w → Q (.panic c) a w) (hy : YieldsIf P ops S oi v a) (hS : S w)
    (h : wpAnyX P md ops Q S last fuel (listed.setIfInBounds i true) (a.put oi.dst v) w) : wpAnyX P md ops Q S last (fuel + 1) listed a w :=
  wpAnyX_first hi (by simpa using hl) (by simpa using hil) (Region.noSelect_spec hs) hQ fuel listed a w (Region.free_spec hi hf) hch (by simpa using hr) hy hS h

theorem wpAnyX_done {listed : Array Bool} {a : Act} {w : World} (hr : Region.ready md ops listed = []) (h : Q .normal a w) :
    ∀ fuel, wpAnyX P md ops Q S last fuel listed a w
  | 0 => ⟨hr, h⟩
  | _ + 1 => ⟨fun _ => h, by rw [hr]; simp⟩

/-- Just one may come up: S is shown behind it (if it is not the last one). -/
theorem wpAnyX_one {i : Nat} {o : Oper} {fuel : Nat} {listed : Array Bool} {a : Act} {w : World} (hr : Region.ready md ops listed = [i]) (ho : ops[i]? = some o)
    (h : ∀ K' : Act → World → Prop, Shut (∀ a w, S w → (S w → wpAnyX P md ops Q S last fuel (listed.setIfInBounds i true) a w) → K' a w) → if Region.wanted o (yielded ops a.tmps) = true then Oper.wp P o a w K' Q else K' (a.put o.dst undef) w) :
    wpAnyX P md ops Q S last (fuel + 1) listed a w := by
  refine ⟨fun h0 => (by rw [h0] at hr; cases hr), fun j hj => ?_⟩
  rw [hr] at hj
  obtain rfl : j = i := by simpa using hj
  exact wpOp_step ho (fun K' hK => h K' (fun a w hS hW => hK a w ⟨fun _ => hS, hW hS⟩))
/-- The last one. -/
theorem wpAnyX_last {i : Nat} {o : Oper} {fuel : Nat} {listed : Array Bool} {a : Act} {w : World} (hr : Region.ready md ops listed = [i]) (hil : i = last) (ho : ops[i]? = some o)
    (h : ∀ K' : Act → World → Prop, Shut (∀ a w, wpAnyX P md ops Q S last fuel (listed.setIfInBounds i true) a w → K' a w) → if Region.wanted o (yielded ops a.tmps) = true then Oper.wp P o a w K' Q else K' (a.put o.dst undef) w) :
    wpAnyX P md ops Q S last (fuel + 1) listed a w := by
  refine ⟨fun h0 => (by rw [h0] at hr; cases hr), fun j hj => ?_⟩
  rw [hr] at hj
  obtain rfl : j = i := by simpa using hj
  exact wpOp_step ho (fun K' hK => h K' (fun a w hW => hK a w ⟨fun h => absurd hil h, hW⟩))

theorem wp_region_X (S : World → Prop) (last : Nat) {id : Nat} {a : Act} {w : World} (hm : P.follows .mixedOrders = true) (hS : S w.drew)
    (h : S w.drew → wpAnyX P .any ops Q S last ops.size (Array.replicate ops.size false) a w.drew) : (Code.region id ops true).wp P Q a w :=
  wp_region_any hm (wpAny_of_X _ _ _ _ (h hS))
end
end Go.Proofs.Ytbknmfegckeogaa
