/- New, Len, All of the global queue, by walks. Conditions: the queue is there, of at most 100000. -/
import Derived.Test.YtdfpbbkdlalpcaaGloEach
import Derived.Test.YtdfpbbkdlalpcaaGloPut
import Derived.Test.YtdfpbbkdlalpcaaRoundKit
import Derived.RangeFuncFrom
import Derived.RangeFuncBox
import Derived.Maps.AppendAt
namespace Go.Proofs.Ytdfpbbkdlalpcaa
open Go.RowKit Go.Shelf
attribute [local go_sem] Oper.semAt_some
set_option linter.unusedVariables false
set_option linter.unusedSimpArgs false

theorem cell_of_box_l {W : World} {B : Nat} {v : Value} {t : TypeId} (h : W.heap[B]? = some (.cells #[v] t (0, 0))) : W.cell? ⟨B, 0, none⟩ = some v ∧ W.frozen? ⟨B, 0, none⟩ = false := by
  constructor <;> simp [World.cell?, World.frozen?, h]
theorem cell_new_l (W : World) (v : Value) (t : TypeId) : (W.alloc (.cells #[v] t)).cell? ⟨W.heap.size, 0, none⟩ = some v ∧ (W.alloc (.cells #[v] t)).frozen? ⟨W.heap.size, 0, none⟩ = false :=
  cell_of_box_l (World.alloc_heap_new W _)
theorem cell_alloc_l {W : World} {a : Addr} {v : Value} (o : Obj) (h : W.cell? a = some v) : (W.alloc o).cell? a = some v := cell_kept h (World.grownBy_alloc W o none) (fun r e => by cases e)
theorem frozen_alloc_l {W : World} {a : Addr} {v : Value} (o : Obj) (h : W.cell? a = some v) (hf : W.frozen? a = false) : (W.alloc o).frozen? a = false := (frozen_kept h (World.grownBy_alloc W o none) (fun r e => by cases e)).trans hf

theorem two_sets (W : World) (b1 b2 : Nat) (hne : b1 ≠ b2) (v1 v2 u1 u2 : Value) (h1 : W.cell? ⟨b1, 0, none⟩ = some u1) (h2 : W.cell? ⟨b2, 0, none⟩ = some u2) :
    ((W.setCell ⟨b1, 0, none⟩ v1).setCell ⟨b2, 0, none⟩ v2).cell? ⟨b1, 0, none⟩ = some v1 ∧ ((W.setCell ⟨b1, 0, none⟩ v1).setCell ⟨b2, 0, none⟩ v2).cell? ⟨b2, 0, none⟩ = some v2 := by
  have hn : (⟨b2, 0, none⟩ : Addr) ≠ ⟨b1, 0, none⟩ := by intro e; exact hne (by injection e with e1; exact e1.symm)
  have hn' : (⟨b1, 0, none⟩ : Addr) ≠ ⟨b2, 0, none⟩ := fun e => hn e.symm
  constructor
  · rw [World.cell?_setCell_other _ _ _ _ hn]
    exact World.cell?_setCell_same _ _ _ h1
  · exact World.cell?_setCell_same _ _ _ ((World.cell?_setCell_other _ _ _ _ hn').trans h2)
theorem set_other (W : World) (b1 b2 : Nat) (hne : b1 ≠ b2) (v1 : Value) : (W.setCell ⟨b1, 0, none⟩ v1).cell? ⟨b2, 0, none⟩ = W.cell? ⟨b2, 0, none⟩ :=
  World.cell?_setCell_other _ _ _ _ (by intro e; exact hne (by injection e))
theorem reads_one_ (W : World) (g : Int) : Reads (W.alloc (.cells #[.int .i64 g] 3)) (W.heap.size + 1) 1 (some ⟨W.heap.size, 0, none⟩) 1 [.int .i64 g] :=
  ⟨rfl, fun _ => ⟨_, rfl, by simp, fun j u hu => by
    rcases j with _ | j
    · simp at hu; subst hu; exact (cell_new_l W _ _).1
    · simp at hu⟩⟩

set_option maxHeartbeats 400000 in
theorem new_is (w : World) : Calls Try.prog 8 #[] w fun e w' => e = .returned (.pointer (some ⟨w.heap.size, 0, none⟩)) ∧ w' = w.alloc (.cells #[.pointer none, .pointer none, .int .i64 0] 49) := by
  go_enter Try.func8, Try.ntmps8
  go_wp2
  go_ret
  exact ⟨rfl, rfl⟩
theorem qu_new (w : World) : Qu (w.alloc (.cells #[.pointer none, .pointer none, .int .i64 0] 49)) w.heap.size [] :=
  ⟨Blk.new _ _ _, ⟨fun i h => by simp at h, fun i j h => by simp at h⟩⟩

set_option maxHeartbeats 400000 in
theorem len_is (q : Nat) (N : List (Nat × Int)) (w : World) (h : Qu w q N) : Calls Try.prog 16 #[.pointer (some ⟨q, 0, none⟩)] w fun e w' => e = .returned (.int .i64 N.length) ∧ w = w' := by
  have hc := h.head.cell 2
  simp only [List.getElem?_toArray, List.getElem?_cons_zero, List.getElem?_cons_succ] at hc
  go_enter Try.func16, Try.ntmps16
  go_wp2
  go_ret
  exact ⟨rfl, rfl⟩

/-- What has been collected. -/
def valsF (N : List (Nat × Int)) (pre : List (Fin N.length)) : List Value := pre.map fun x => Value.int .i64 (N[x.val]'x.isLt).2
theorem valsF_all (N : List (Nat × Int)) : valsF N (List.finRange N.length) = intV (vals N) := by
  unfold valsF intV vals
  apply List.ext_getElem
  · simp
  · intro i h1 h2
    simp

set_option maxRecDepth 100000 in
set_option maxHeartbeats 2000000 in
theorem all_in (q : Nat) (N : List (Nat × Int)) (w : World) (h : Qu w q N) (hn : N.length ≤ 100000) :
    CallsIn Fence.wide 6 Try.prog 15 #[.pointer (some ⟨q, 0, none⟩)] w fun e W' => (∃ A cap, e = .returned (.slice A (vals N).length cap) ∧ W'.ownsRow w.heap.size 3 1 (.slice A (vals N).length cap) (vals N).length (intV (vals N))) ∧ Below w.heap.size w W' := by
  obtain ⟨i0, hi, hz0, hz1, hz2⟩ := info_parts infoInt
  rw [vals_len]
  refine callsIn_of_wp_marks Try.func15 rfl trivial ?_ rfl
  simp only [Try.ntmps15, List.size_toArray, List.length_cons, List.length_nil, Nat.reduceAdd, Nat.reduceSub, Array.replicate_succ, Array.replicate_zero, List.push_toArray, List.append_toArray, List.nil_append, List.cons_append]
  gi_wp2_with fail
  refine ⟨trivial, ?_⟩
  refine (callsIn_wide.2 (each_any q _)).mono ?_
  rintro e w' ⟨rfl, rfl⟩
  gi_wp2_with fail
  have hv0 := Boxed.new w 28 (.slice none 0 0)
  have hv1 := hv0.alloc (.cells #[.pointer (some ⟨q, 0, none⟩)] 25)
  have hq1 := Blk.new (w.alloc (.cells #[.slice none 0 0] 28)) 25 #[.pointer (some ⟨q, 0, none⟩)]
  have hB0 : Below w.heap.size w ((w.alloc (.cells #[.slice none 0 0] 28)).alloc (.cells #[.pointer (some ⟨q, 0, none⟩)] 25)) := ((Below.refl _ w).alloc (Nat.le_refl _) _).alloc (by simp) _
  have hsz : ((w.alloc (.cells #[.slice none 0 0] 28)).alloc (.cells #[.pointer (some ⟨q, 0, none⟩)] 25)).heap.size = w.heap.size + 1 + 1 := by simp
  rw [World.size_alloc] at hq1
  generalize (w.alloc (.cells #[.slice none 0 0] 28)).alloc (.cells #[.pointer (some ⟨q, 0, none⟩)] 25) = W0 at *
  have HSZ := Lib.hid hsz
  have hQ0 : Qu W0 q N := h.below hB0
  have hle : w.heap.size + 1 < W0.heap.size := by omega
  have hql : q < w.heap.size := h.lt q (.inl rfl)
  clear hsz hv0
  refine wpIn_rangeFunc_ownF rfl (by omega) (gf := 34) (lb := #[.pointer (some ⟨w.heap.size + 1, 0, none⟩)]) rfl trivial (enters_of Try.func34 (by kernel_rfl) rfl)
    (each_stops (6 - 1) (by omega) (w.heap.size + 1) q N W0 hq1 hQ0) (keepS_t _) (keepS_b (kept_lt hle hQ0)) (Below.refl _ _) (fun _ => rfl)
    (fun pre W => (∃ v, Boxed W w.heap.size 28 v ∧ W.ownsRow w.heap.size 3 1 v pre.length (valsF N pre) ∧ True) ∧ (Blk W (w.heap.size + 1) 25 #[.pointer (some ⟨q, 0, none⟩)] ∧ Below w.heap.size w W))
    (fun _ _ _ => False)
    (OwnFrom.and (Own.from (holdsRow_own w.heap.size w.heap.size 28 3 1 (fun pre => pre.length) (fun pre => valsF N pre) (fun _ _ => True)) _) (OwnFrom.and (ownFrom_blk _ _ _) (ownFrom_below (Nat.le_refl _) (by omega))))
    (fun _ _ _ _ _ hs _ _ => hs)
    ⟨⟨_, hv1, World.ownsRow_nil _ _ _ _, trivial⟩, hq1, hB0⟩
    ?frame ?assign ?body ?done ?stop
  case assign =>
    intro l x W K hK
    gi_wp2
    exact hK
  case body =>
    rintro l pre x W ⟨⟨v, hv, hrow, _⟩, hq, hB⟩ hlen
    obtain ⟨A, cap, rfl⟩ := own_slice hrow
    have hx := (h.below hB).row.at_ x.val x.isLt
    obtain ⟨b, hb⟩ : ∃ b, (N[x.val]'x.isLt).1 = b := ⟨_, rfl⟩
    obtain ⟨g, hg⟩ : ∃ g, (N[x.val]'x.isLt).2 = g := ⟨_, rfl⟩
    rw [hb, hg] at hx
    have c0 := hx.cell 0
    have cv := hv.cell
    have fv := hv.frozen
    simp only [List.getElem?_toArray, List.getElem?_cons_zero, List.getElem?_cons_succ] at c0
    dsimp only [enc]
    rw [hb]
    have hmx : Try.prog.follows .mixedOrders = true := by kernel_rfl
    have hvl := hv.lt
    have hlx : (pre ++ [x]).length = pre.length + 1 := by simp
    have hvx : valsF N (pre ++ [x]) = valsF N pre ++ [.int .i64 g] := by simp [valsF, hg]
    have HLX := Lib.hid hlx
    have HVX := Lib.hid hvx
    have m1 := Lib.hid (show pre.length + 1 ≤ maxLen from by unfold maxLen; omega)
    have m2 := Lib.hid (show (pre.length + 1) * 8 ≤ 140737488355328 from by omega)
    clear hlx hvx
    gi_wp2_with fail
    refine wpIn_region_round hmx (by rintro ⟨_, _, h⟩; exact h) (by kernel_rfl) ?_
    change wpAny _ _ _ _ _ _ _ (World.drew _)
    refine wpAny_take (i := 1) (v := ?_) rfl (by kernel_rfl) (by kernel_rfl) (by kernel_rfl) (fun _ _ _ h => h) (Or.inl ⟨by kernel_rfl, by (intro w'; go_simp; first | done | (with_reducible rfl))⟩) ?_
    (try simp only [Act.put, List.getElem_toArray, List.getElem_cons_zero, List.getElem_cons_succ, List.setIfInBounds_toArray, List.set_cons_zero, List.set_cons_succ])
    refine wpAny_take (i := 2) (v := ?_) rfl (by kernel_rfl) (by kernel_rfl) (by kernel_rfl) (fun _ _ _ h => h) (Or.inl ⟨by kernel_rfl, by (intro w'; go_simp; first | done | (with_reducible rfl))⟩) ?_
    (try simp only [Act.put, List.getElem_toArray, List.getElem_cons_zero, List.getElem_cons_succ, List.setIfInBounds_toArray, List.set_cons_zero, List.set_cons_succ])
    refine wpAny_take (i := 3) (v := ?_) rfl (by kernel_rfl) (by kernel_rfl) (by kernel_rfl) (fun _ _ _ h => h) (Or.inl ⟨by kernel_rfl, by (intro w'; go_simp; first | done | (with_reducible rfl))⟩) ?_
    (try simp only [Act.put, List.getElem_toArray, List.getElem_cons_zero, List.getElem_cons_succ, List.setIfInBounds_toArray, List.set_cons_zero, List.set_cons_succ])
    refine wpAny_ready (rs := [0, 4]) (by kernel_rfl) (by simp) ?_
    refine AllReady.cons rfl (fun K hK => ?_) ?_
    · go_simp
      refine hK _ _ ?_
      clear hK K
      (try simp only [Act.put, List.getElem_toArray, List.getElem_cons_zero, List.getElem_cons_succ, List.setIfInBounds_toArray, List.set_cons_zero, List.set_cons_succ])
      refine wpAny_ready (rs := [4]) (by kernel_rfl) (by simp) ?_
      refine AllReady.cons rfl (fun K hK => ?_) AllReady.nil
      go_simp
      refine hK _ _ ?_
      clear hK K
      (try simp only [Act.put, List.getElem_toArray, List.getElem_cons_zero, List.getElem_cons_succ, List.setIfInBounds_toArray, List.set_cons_zero, List.set_cons_succ])
      refine wpAny_ready (rs := [5]) (by kernel_rfl) (by simp) ?_
      refine AllReady.cons rfl (fun K hK => ?_) AllReady.nil
      go_simp
      refine hK _ _ ?_
      clear hK K
      (try simp only [Act.put, List.getElem_toArray, List.getElem_cons_zero, List.getElem_cons_succ, List.setIfInBounds_toArray, List.set_cons_zero, List.set_cons_succ])
      refine wpAny_ready (rs := [6]) (by kernel_rfl) (by simp) ?_
      refine AllReady.cons rfl (fun K hK => ?_) AllReady.nil
      refine step_append_any _ rfl (.tmp 9) (.tmp 14) 28 rfl w.heap.size 3 i0 (.int .i64 0) 1 8 Try.underlying28 hi hz0 hz1 hz2 rfl (by decide) (.slice A pre.length cap) pre.length (valsF N pre) rfl (hrow.alloc _) (W.heap.size + 1) (some ⟨W.heap.size, 0, none⟩) 1 1 [.int .i64 g] rfl (reads_one_ W.drew g) (by simp [Value.oneCell']) m1.out m2.out (by have := hB.size; simp; omega) ?_
      intro v' w1 hown' hgrow _
      obtain ⟨A', cap', rfl⟩ := own_slice hown'
      obtain ⟨hv1, hv2, hr2, hk2, hb2⟩ := Boxed.appended (W := W.drew) hv (by decide) hrow hB.size (Nat.le_refl _) hown' hgrow
      have hq1 : Blk w1 (w.heap.size + 1) 25 #[.pointer (some ⟨q, 0, none⟩)] := (Blk.alloc (w := W.drew) hq _).grown hgrow (own_blk_ne hrow hq (by decide)).symm
      have cv1 := hv1.cell
      have fv1 := hv1.frozen
      refine hK _ _ ?_
      clear hK K
      (try simp only [Act.put, List.getElem_toArray, List.getElem_cons_zero, List.getElem_cons_succ, List.setIfInBounds_toArray, List.set_cons_zero, List.set_cons_succ])
      refine wpAny_ready (rs := [7]) (by kernel_rfl) (by simp) ?_
      refine AllReady.cons rfl (fun K hK => ?_) AllReady.nil
      go_simp
      refine hK _ _ ?_
      clear hK K
      (try simp only [Act.put, List.getElem_toArray, List.getElem_cons_zero, List.getElem_cons_succ, List.setIfInBounds_toArray, List.set_cons_zero, List.set_cons_succ])
      refine wpAny_done (by kernel_rfl) ?_ _
      have hq2 : Blk (w1.setCell ⟨w.heap.size, 0, none⟩ (.slice A' (pre.length + 1) cap')) (w.heap.size + 1) 25 #[.pointer (some ⟨q, 0, none⟩)] := hq1.far (by simp) _
      have HB2 := Lib.hid hb2
      have HB := Lib.hid hB
      have HQ := Lib.hid hq
      clear hb2 hgrow hB hq cv1 fv1 cv fv c0 hx hq1
      gi_wp2
      refine ⟨(KeepsOthers.drew W).trans hk2, fun k hk => ?_, ⟨_, hv2, by rw [HLX.out, HVX.out]; exact hr2, trivial⟩, hq2, (HB.out.drew).trans HB2.out⟩
      rcases hk with rfl | hk
      · exact hq2.trans HQ.out.symm
      · exact HB2.out.block k (h.lt k hk)
    refine AllReady.cons rfl (fun K hK => ?_) ?_
    · go_simp
      refine hK _ _ ?_
      clear hK K
      (try simp only [Act.put, List.getElem_toArray, List.getElem_cons_zero, List.getElem_cons_succ, List.setIfInBounds_toArray, List.set_cons_zero, List.set_cons_succ])
      refine wpAny_ready (rs := [0, 5]) (by kernel_rfl) (by simp) ?_
      refine AllReady.cons rfl (fun K hK => ?_) ?_
      · go_simp
        refine hK _ _ ?_
        clear hK K
        (try simp only [Act.put, List.getElem_toArray, List.getElem_cons_zero, List.getElem_cons_succ, List.setIfInBounds_toArray, List.set_cons_zero, List.set_cons_succ])
        refine wpAny_ready (rs := [5]) (by kernel_rfl) (by simp) ?_
        refine AllReady.cons rfl (fun K hK => ?_) AllReady.nil
        go_simp
        refine hK _ _ ?_
        clear hK K
        (try simp only [Act.put, List.getElem_toArray, List.getElem_cons_zero, List.getElem_cons_succ, List.setIfInBounds_toArray, List.set_cons_zero, List.set_cons_succ])
        refine wpAny_ready (rs := [6]) (by kernel_rfl) (by simp) ?_
        refine AllReady.cons rfl (fun K hK => ?_) AllReady.nil
        refine step_append_any _ rfl (.tmp 9) (.tmp 14) 28 rfl w.heap.size 3 i0 (.int .i64 0) 1 8 Try.underlying28 hi hz0 hz1 hz2 rfl (by decide) (.slice A pre.length cap) pre.length (valsF N pre) rfl (hrow.alloc _) (W.heap.size + 1) (some ⟨W.heap.size, 0, none⟩) 1 1 [.int .i64 g] rfl (reads_one_ W.drew g) (by simp [Value.oneCell']) m1.out m2.out (by have := hB.size; simp; omega) ?_
        intro v' w1 hown' hgrow _
        obtain ⟨A', cap', rfl⟩ := own_slice hown'
        obtain ⟨hv1, hv2, hr2, hk2, hb2⟩ := Boxed.appended (W := W.drew) hv (by decide) hrow hB.size (Nat.le_refl _) hown' hgrow
        have hq1 : Blk w1 (w.heap.size + 1) 25 #[.pointer (some ⟨q, 0, none⟩)] := (Blk.alloc (w := W.drew) hq _).grown hgrow (own_blk_ne hrow hq (by decide)).symm
        have cv1 := hv1.cell
        have fv1 := hv1.frozen
        refine hK _ _ ?_
        clear hK K
        (try simp only [Act.put, List.getElem_toArray, List.getElem_cons_zero, List.getElem_cons_succ, List.setIfInBounds_toArray, List.set_cons_zero, List.set_cons_succ])
        refine wpAny_ready (rs := [7]) (by kernel_rfl) (by simp) ?_
        refine AllReady.cons rfl (fun K hK => ?_) AllReady.nil
        go_simp
        refine hK _ _ ?_
        clear hK K
        (try simp only [Act.put, List.getElem_toArray, List.getElem_cons_zero, List.getElem_cons_succ, List.setIfInBounds_toArray, List.set_cons_zero, List.set_cons_succ])
        refine wpAny_done (by kernel_rfl) ?_ _
        have hq2 : Blk (w1.setCell ⟨w.heap.size, 0, none⟩ (.slice A' (pre.length + 1) cap')) (w.heap.size + 1) 25 #[.pointer (some ⟨q, 0, none⟩)] := hq1.far (by simp) _
        have HB2 := Lib.hid hb2
        have HB := Lib.hid hB
        have HQ := Lib.hid hq
        clear hb2 hgrow hB hq cv1 fv1 cv fv c0 hx hq1
        gi_wp2
        refine ⟨(KeepsOthers.drew W).trans hk2, fun k hk => ?_, ⟨_, hv2, by rw [HLX.out, HVX.out]; exact hr2, trivial⟩, hq2, (HB.out.drew).trans HB2.out⟩
        rcases hk with rfl | hk
        · exact hq2.trans HQ.out.symm
        · exact HB2.out.block k (h.lt k hk)
      refine AllReady.cons rfl (fun K hK => ?_) ?_
      · go_simp
        refine hK _ _ ?_
        clear hK K
        (try simp only [Act.put, List.getElem_toArray, List.getElem_cons_zero, List.getElem_cons_succ, List.setIfInBounds_toArray, List.set_cons_zero, List.set_cons_succ])
        refine wpAny_ready (rs := [0]) (by kernel_rfl) (by simp) ?_
        refine AllReady.cons rfl (fun K hK => ?_) AllReady.nil
        go_simp
        refine hK _ _ ?_
        clear hK K
        (try simp only [Act.put, List.getElem_toArray, List.getElem_cons_zero, List.getElem_cons_succ, List.setIfInBounds_toArray, List.set_cons_zero, List.set_cons_succ])
        refine wpAny_ready (rs := [6]) (by kernel_rfl) (by simp) ?_
        refine AllReady.cons rfl (fun K hK => ?_) AllReady.nil
        refine step_append_any _ rfl (.tmp 9) (.tmp 14) 28 rfl w.heap.size 3 i0 (.int .i64 0) 1 8 Try.underlying28 hi hz0 hz1 hz2 rfl (by decide) (.slice A pre.length cap) pre.length (valsF N pre) rfl (hrow.alloc _) (W.heap.size + 1) (some ⟨W.heap.size, 0, none⟩) 1 1 [.int .i64 g] rfl (reads_one_ W.drew g) (by simp [Value.oneCell']) m1.out m2.out (by have := hB.size; simp; omega) ?_
        intro v' w1 hown' hgrow _
        obtain ⟨A', cap', rfl⟩ := own_slice hown'
        obtain ⟨hv1, hv2, hr2, hk2, hb2⟩ := Boxed.appended (W := W.drew) hv (by decide) hrow hB.size (Nat.le_refl _) hown' hgrow
        have hq1 : Blk w1 (w.heap.size + 1) 25 #[.pointer (some ⟨q, 0, none⟩)] := (Blk.alloc (w := W.drew) hq _).grown hgrow (own_blk_ne hrow hq (by decide)).symm
        have cv1 := hv1.cell
        have fv1 := hv1.frozen
        refine hK _ _ ?_
        clear hK K
        (try simp only [Act.put, List.getElem_toArray, List.getElem_cons_zero, List.getElem_cons_succ, List.setIfInBounds_toArray, List.set_cons_zero, List.set_cons_succ])
        refine wpAny_ready (rs := [7]) (by kernel_rfl) (by simp) ?_
        refine AllReady.cons rfl (fun K hK => ?_) AllReady.nil
        go_simp
        refine hK _ _ ?_
        clear hK K
        (try simp only [Act.put, List.getElem_toArray, List.getElem_cons_zero, List.getElem_cons_succ, List.setIfInBounds_toArray, List.set_cons_zero, List.set_cons_succ])
        refine wpAny_done (by kernel_rfl) ?_ _
        have hq2 : Blk (w1.setCell ⟨w.heap.size, 0, none⟩ (.slice A' (pre.length + 1) cap')) (w.heap.size + 1) 25 #[.pointer (some ⟨q, 0, none⟩)] := hq1.far (by simp) _
        have HB2 := Lib.hid hb2
        have HB := Lib.hid hB
        have HQ := Lib.hid hq
        clear hb2 hgrow hB hq cv1 fv1 cv fv c0 hx hq1
        gi_wp2
        refine ⟨(KeepsOthers.drew W).trans hk2, fun k hk => ?_, ⟨_, hv2, by rw [HLX.out, HVX.out]; exact hr2, trivial⟩, hq2, (HB.out.drew).trans HB2.out⟩
        rcases hk with rfl | hk
        · exact hq2.trans HQ.out.symm
        · exact HB2.out.block k (h.lt k hk)
      exact AllReady.nil
    exact AllReady.nil
  case done =>
    rintro D ys W hD rfl ⟨⟨v, hv, hrow, _⟩, hq, hB⟩ hK
    rw [valsF_all] at hrow
    obtain ⟨A, cap, rfl⟩ := own_slice hrow
    have cv := hv.cell
    have fv := hv.frozen
    gi_wp2_with fail
    have hK2 := (KeepsOthers.setCell W ⟨w.heap.size, 0, none⟩ (.slice A N.length cap)).same D _ hK rfl
    rw [List.length_finRange] at hv hrow
    have hv2 := hv.set (.slice A N.length cap)
    have hr2 := hrow.kept (grownBy_setCell' W w.heap.size (.slice A N.length cap)) (.inr (hv.not_row (by decide) hrow).symm)
    have e1 := cell_kept hv2.cell (grownBy_putObj' _ D (.deferred none)) (fun r e => by cases e; exact ⟨_, hK2, rfl⟩)
    have hszW : (W.setCell ⟨w.heap.size, 0, none⟩ (.slice A N.length cap)).heap.size = W.heap.size := by simp [World.setCell]
    refine ⟨by simp, .inl ⟨_, _, rfl, run_takeDeferred hK2, ?_⟩⟩
    refine ⟨.slice A N.length cap, ?_, ⟨A, cap, rfl, ownsRow_putObj hr2 _ hK2 rfl⟩, (hB.setCell (p := ⟨w.heap.size, 0, none⟩) (Nat.le_refl _) _).trans (belowK_b (w := w) (Nat.le_refl _) _ D _ _ (by omega) hK2 rfl rfl)⟩
    simp [results, Try.f15, go_sem, e1]
  case stop => exact fun _ _ _ _ _ _ h => h.elim

theorem all_is (q : Nat) (N : List (Nat × Int)) (w : World) (h : Qu w q N) (hn : N.length ≤ 100000) :
    Calls Try.prog 15 #[.pointer (some ⟨q, 0, none⟩)] w fun e W' => (∃ A cap, e = .returned (.slice A (vals N).length cap) ∧ W'.ownsRow w.heap.size 3 1 (.slice A (vals N).length cap) (vals N).length (intV (vals N))) ∧ Below w.heap.size w W' :=
  callsIn_wide.1 (all_in q N w h hn)
end Go.Proofs.Ytdfpbbkdlalpcaa
