/- Of the following, one behind the other: The reference's Put, by walk. A region that draws its order and whose last operations write to cells that it loads: S is asked behind every operation but those. No program walked. -/
import Derived.Test.YtbknmfegckeogaaPk12
import Derived.Test.YtbknmfegckeogaaRows
import Derived.OrdersHeld
import Derived.Deep.RegionHeld3
/- The reference's Put, by walk. -/
namespace Go.Proofs.Ytbknmfegckeogaa
open Go.RowKit Go.Maps
set_option linter.unusedVariables false
set_option linter.unusedSimpArgs false

section
variable {P : Program} {ops : Array Oper} {Q : Exit → Act → World → Prop} {md : Region.Mode} {S : World → Prop} {last : Nat}
/-- Just two may come up. -/
theorem wpAnyX_two {i j : Nat} {o p : Oper} {fuel : Nat} {listed : Array Bool} {a : Act} {w : World} (hr : Region.ready md ops listed = [i, j]) (ho : ops[i]? = some o) (hp : ops[j]? = some p)
    (h : ∀ K' : Act → World → Prop, Shut (∀ a w, S w → (S w → wpAnyX P md ops Q S last fuel (listed.setIfInBounds i true) a w) → K' a w) → if Region.wanted o (yielded ops a.tmps) = true then Oper.wp P o a w K' Q else K' (a.put o.dst undef) w)
    (h2 : ∀ K' : Act → World → Prop, Shut (∀ a w, S w → (S w → wpAnyX P md ops Q S last fuel (listed.setIfInBounds j true) a w) → K' a w) → if Region.wanted p (yielded ops a.tmps) = true then Oper.wp P p a w K' Q else K' (a.put p.dst undef) w) :
    wpAnyX P md ops Q S last (fuel + 1) listed a w := by
  refine ⟨fun h0 => (by rw [h0] at hr; cases hr), fun k hk => ?_⟩
  rw [hr] at hk
  rcases List.mem_cons.1 hk with rfl | hk
  · exact wpOp_step ho (fun K' hK => h K' (fun a w hS hW => hK a w ⟨fun _ => hS, hW hS⟩))
  · obtain rfl : k = j := by simpa using hk
    exact wpOp_step hp (fun K' hK => h2 K' (fun a w hS hW => hK a w ⟨fun _ => hS, hW hS⟩))
end
section
variable {w w' : World} {R : Rd} {S : Sp}
/-- A field of the block stored. -/
theorem RfAt.setCame (h : RfAt w R S) (z : Nat) : RfAt (w.setCell ⟨R.b, 4, none⟩ (.int .i64 (z : Int))) R { S with came := z } ∧ RfGo w (w.setCell ⟨R.b, 4, none⟩ (.int .i64 (z : Int))) R R := by
  refine ⟨⟨h.head.set_ 4 _, own_keep h.row fun k hk => Below.heap_setCell _ _ _ _ (fun e => h.ne ?_)⟩, rfl, fun k hk => .inl hk, Apart.setCell (S := fun k => k = R.b) (p := ⟨R.b, 4, none⟩) (Apart.refl _ _) (.inl rfl) _⟩
  rw [hk]
  exact congrArg some e
/-- What Put answers. -/
def RfPutPost (S : Sp) (R : Rd) (up : Nat) (g s : Int) (c : Cp) (w : World) (z : Int) (w' : World) : Prop :=
  (z = S.freeE g s ∧ z ≠ 0 ∧ Below w.heap.size w w') ∨ (S.freeE g s = 0 ∧ mayC c = false ∧ z = 2 ∧ Below w.heap.size w w') ∨
  (S.freeE g s = 0 ∧ mayC c = true ∧ (∃ p ∈ S.L, p.id = up ∧ amongI c.r p.c.r = false) ∧ z = 13 ∧ Below w.heap.size w w') ∨
  (S.freeE g s = 0 ∧ mayC c = true ∧ (∀ p ∈ S.L, p.id = up → amongI c.r p.c.r = true) ∧ ((¬ S.L.length < S.F.n ∧ z = 3 ∧ Below w.heap.size w w') ∨ (S.L.length < S.F.n ∧ z = 0 ∧ ∃ R', RfAt w' R' { S with L := S.L ++ [⟨S.came + 1, up, 0, g, s, c⟩], came := S.came + 1 } ∧ RfGo w w' R R')))
set_option maxRecDepth 100000 in
set_option maxHeartbeats 4000000 in
theorem rfPut_is (h : RfAt w R S) (hn : S.L.length ≤ 512) (hfn : S.F.n ≤ 512) (hcm : S.came ≤ 1000000) (hrs : ∀ e ∈ S.L, 0 ≤ e.c.r ∧ e.c.r < 256) (up : Nat) (g s : Int) (c : Cp) (hcr : 0 ≤ c.r ∧ c.r < 256) :
    Calls Try.prog 39 #[.pointer (some ⟨R.b, 0, none⟩), .int .i64 (up : Int), .int .i64 g, .int .i64 s, capV c] w fun e w' => ∃ z, e = .returned (.int .i64 z) ∧ RfPutPost S R up g s c w z w' := by
  have hbw := (Below.refl w.heap.size w).alloc (Nat.le_refl _) (.cells #[.int .i64 c.k, .int .i64 c.i, .int .u64 c.n, .int .u8 c.r] 36)
  have h0 := h.below hbw
  have CF := rfFree_is h0 hn g s
  have CM := refMay_is c (w.alloc (.cells #[.int .i64 c.k, .int .i64 c.i, .int .u64 c.n, .int .u8 c.r] 36))
  have hblk := Blk.new w 36 #[.int .i64 c.k, .int .i64 c.i, .int .u64 c.n, .int .u8 c.r]
  obtain ⟨w0, hw0⟩ : ∃ w0, w0 = w.alloc (.cells #[.int .i64 c.k, .int .i64 c.i, .int .u64 c.n, .int .u8 c.r] 36) := ⟨_, rfl⟩
  rw [← hw0] at CF CM hbw h0 hblk
  have b0 := hblk.cell 0
  have b1 := hblk.cell 1
  have b2 := hblk.cell 2
  have b3 := hblk.cell 3
  simp only [List.getElem?_toArray, List.getElem?_cons_zero, List.getElem?_cons_succ] at b0 b1 b2 b3
  obtain ⟨i0, hi0, hz0, hz1, hz2⟩ := info_parts_ infoOne
  obtain ⟨bx, hbx⟩ : ∃ bx, bx = w.heap.size := ⟨_, rfl⟩
  have HW := Lib.hid (And.intro hbw (And.intro h0 (And.intro hblk (And.intro h.head.lt hbx))))
  have HN := Lib.hid (And.intro hn (And.intro hfn (And.intro hcm (And.intro hrs hcr))))
  clear h h0 hbw hblk hn hfn hcm hrs
  unfold capV at *
  go_enter Try.func39, Try.ntmps39
  rw [← hbx] at b0 b1 b2 b3
  by_cases hf : S.freeE g s = 0
  · rw [hf] at CF
    cases hm : mayC c
    · rw [hm] at CM
      have HF := Lib.hid (And.intro hf hm)
      clear hf hm
      go_wp2_with fail
      rw [← hw0, ← hbx]
      clear hw0 hbx
      go_wp2_with (first | (go_at_call 42; refine CF.mono ?_; rintro e w' ⟨rfl, rfl⟩) | (go_at_call 77; refine CM.mono ?_; rintro e w2 ⟨rfl, hb2⟩; (have HB := Lib.hid hb2); clear hb2))
      go_ret
      exact ⟨2, rfl, .inr (.inl ⟨HF.out.1, HF.out.2, rfl, HW.out.1.trans (HB.out.mono HW.out.1.size)⟩)⟩
    · rw [hm] at CM
      have HF := Lib.hid (And.intro hf hm)
      clear hf hm
      go_wp2_with fail
      rw [← hw0, ← hbx]
      clear hw0 hbx
      go_wp2_with (first | (go_at_call 42; refine CF.mono ?_; rintro e w' ⟨rfl, rfl⟩) | (go_at_call 77; refine CM.mono ?_; rintro e w2 ⟨rfl, hb2⟩; (have HB := Lib.hid hb2); clear hb2 CM CF b0 b1 b2 b3))
      have hb02 := HW.out.1.trans (HB.out.mono HW.out.1.size)
      have h2 := HW.out.2.1.below HB.out
      have hk2 := HW.out.2.2.1.below HB.out HW.out.2.2.1.lt
      rw [← HW.out.2.2.2.2] at hk2
      have H2 := Lib.hid (And.intro hb02 (And.intro h2 hk2))
      clear hb02 h2 hk2 HB
      go_loopw [12] (fun i wr => ∃ k : Nat, i = .int .i64 (k : Int) ∧ k ≤ S.L.length ∧ Below w2.heap.size w2 wr ∧ Hid (∀ j, j < k → ∀ hj : j < S.L.length, (S.L[j]'hj).id = up → amongI c.r (S.L[j]'hj).c.r = true)) (fun i _ => S.L.length - (intOf i).toNat)
      case atStart => exact ⟨0, rfl, Nat.zero_le _, Below.refl _ _, Lib.hid (fun j hj => absurd hj (Nat.not_lt_zero _))⟩
      case round =>
        obtain ⟨k, rfl, hk, hbr, HA⟩ := hrel
        have H3 := Lib.hid (show Below w2.heap.size w2 wr ∧ Below w.heap.size w wr ∧ RfAt wr R S ∧ Blk wr bx 36 #[.int .i64 c.k, .int .i64 c.i, .int .u64 c.n, .int .u8 c.r] from ⟨hbr, H2.out.1.trans (hbr.mono H2.out.1.size), H2.out.2.1.below hbr, H2.out.2.2.below hbr H2.out.2.2.lt⟩)
        clear hbr
        obtain ⟨-, -, c2, c3, c4⟩ := H3.out.2.2.1.cells
        have hn9 : S.L.length ≤ 512 := HN.out.1
        by_cases hlt : k < S.L.length
        · obtain ⟨q, hq, ho⟩ := H3.out.2.2.1.one k hlt
          have d0 := ho.c0
          have d7 := ho.c7
          have b3 := H3.out.2.2.2.cell 3
          simp only [List.getElem?_toArray, List.getElem?_cons_zero, List.getElem?_cons_succ] at b3
          have hyr := HN.out.2.2.2.1 _ (List.getElem_mem hlt)
          have HM := Lib.hid (List.getElem_mem hlt)
          have HK := Lib.hid (And.intro hk hlt)
          obtain ⟨y, hy⟩ : ∃ y, y = S.L[k]'hlt := ⟨_, rfl⟩
          rw [← hy] at d0 d7 hyr HM
          have HY := Lib.hid hy
          clear hy ho c2 c4
          have hlt1 : (k : Int) < (S.L.length : Int) := by omega
          rw [hq] at c3
          by_cases he : y.id = up
          · have he2 : ((y.id : Int) == (up : Int)) = true := by simp; omega
            have CA := fun W => (among_is c.r y.c.r W HN.out.2.2.2.2 hyr).mono (fun e w'' hh => And.intro hh.1 hh.2.symm)
            cases ha : amongI c.r y.c.r
            · rw [ha] at CA
              have HE := Lib.hid (And.intro he ha)
              clear he ha hyr
              go_wp2_with fail
              go_quiet ((go_at_call 16; exact Calls.quiet_of_same (CA _)))
              go_wp2_with fail
              go_ret
              exact ⟨13, rfl, .inr (.inr (.inl ⟨HF.out.1, HF.out.2, ⟨y, HM.out, HE.out.1, HE.out.2⟩, rfl, (H3.out.2.1.trans (below_drewN_ _ _ _))⟩))⟩
            · rw [ha] at CA
              have HE := Lib.hid (And.intro he ha)
              clear he ha hyr
              go_wp2_with fail
              go_quiet ((go_at_call 16; exact Calls.quiet_of_same (CA _)))
              go_wp2_with fail
              exact ⟨⟨k + 1, by go_num, HK.out.2, H3.out.1.trans (below_drewN_ _ _ _), Lib.hid (fun j hj hj2 hid => by
                by_cases e : j < k
                · exact HA.out j e hj2 hid
                · have : j = k := by omega
                  subst this
                  rw [← HY.out]
                  exact HE.out.2)⟩, by simp [intOf]; omega⟩
          · have he2 : ((y.id : Int) == (up : Int)) = false := by simp; omega
            have HE := Lib.hid he
            clear he hyr
            go_wp2_with fail
            go_quiet (fail)
            go_wp2_with fail
            exact ⟨⟨k + 1, by go_num, HK.out.2, H3.out.1.trans (below_drewN_ _ _ _), Lib.hid (fun j hj hj2 hid => by
              by_cases e : j < k
              · exact HA.out j e hj2 hid
              · have : j = k := by omega
                subst this
                rw [← HY.out] at hid
                exact absurd hid HE.out)⟩, by simp [intOf]; omega⟩
        · have hlt1 : ¬ (k : Int) < (S.L.length : Int) := by omega
          have HALL := Lib.hid (show ∀ p ∈ S.L, p.id = up → amongI c.r p.c.r = true from fun p hp hid => by
            obtain ⟨j, hj, rfl⟩ := List.getElem_of_mem hp
            exact HA.out j (by omega) hj hid)
          clear hlt HA
          have hbd := HN.out
          have hln := hbd.1
          by_cases hroom : S.L.length < S.F.n
          · have hr1 : ¬ (S.F.n : Int) ≤ (S.L.length : Int) := by omega
            have HRM := Lib.hid hroom
            clear hroom hk
            go_wp2_with fail
            go_quiet (fail)
            have hz : IntKind.i64.wrap ((S.came : Int) + 1) = (S.came : Int) + 1 := by rw [IntKind.wrap_i64]; have := hbd.2.2.1; omega
            have hfz := H3.out.2.2.1.head.frozen 4
            clear hbd c2 c3
            go_wp2_with fail
            obtain ⟨w1, hw1⟩ : ∃ w1, w1 = (wr.drewN nq).setCell ⟨R.b, 4, none⟩ (.int .i64 ((S.came : Int) + 1)) := ⟨_, rfl⟩
            rw [← hw1]
            have hst := (H3.out.2.2.1.drewN nq).setCame (S.came + 1)
            rw [show (((S.came + 1 : Nat)) : Int) = (S.came : Int) + 1 by omega, ← hw1] at hst
            have hkb : Blk w1 bx 36 #[.int .i64 c.k, .int .i64 c.i, .int .u64 c.n, .int .u8 c.r] := by
              rw [hw1]
              exact (H3.out.2.2.2.drewN _).far (p := ⟨R.b, 4, none⟩) (by have h1 := HW.out.2.2.2.1; have h2 := HW.out.2.2.2.2; show bx ≠ R.b; omega) _
            have HG := Lib.hid (show RfGo w w1 R R from (RfGo.of_below R (H3.out.2.1.trans (below_drewN_ _ _ _))).trans hst.2)
            have HR1 := Lib.hid (And.intro hst.1 hkb)
            have LB := Lib.hid (show R.b < w1.heap.size ∧ bx < w1.heap.size from ⟨hst.1.head.lt, hkb.lt⟩)
            have RD1 := Lib.hid (Reads.of_own hst.1.row)
            have hsc := hst.1.cells
            have b0 := hkb.cell 0
            have b1 := hkb.cell 1
            have b2 := hkb.cell 2
            have b3 := hkb.cell 3
            simp only [List.getElem?_toArray, List.getElem?_cons_zero, List.getElem?_cons_succ] at b0 b1 b2 b3
            have f3 := hst.1.head.frozen 3
            clear c4 hfz hz
            obtain ⟨-, -, -, c3, c4⟩ := hsc
            dsimp only at c3 c4
            rw [show (((S.came + 1 : Nat)) : Int) = (S.came : Int) + 1 by omega] at c4
            have m1 := Lib.hid (show 0 + S.L.length ≤ maxLen from by unfold maxLen; omega)
            have m2 := Lib.hid (show (0 + S.L.length) * 64 ≤ 140737488355328 from by omega)
            have m3 := Lib.hid (show S.L.length + 1 ≤ maxLen from by unfold maxLen; omega)
            have m4 := Lib.hid (show (S.L.length + 1) * 64 ≤ 140737488355328 from by omega)
            obtain ⟨e0, he0⟩ : ∃ e0 : En, e0 = ⟨S.came + 1, up, 0, g, s, c⟩ := ⟨_, rfl⟩
            have HE0 := Lib.hid he0
            have FIN := Lib.hid (show ∀ (W : World) (R' : Rd), RfAt W R' { S with L := S.L ++ [e0], came := S.came + 1 } → RfGo w1 W R R' → ∃ z, Ending.returned (.int .i64 0) = .returned (.int .i64 z) ∧ RfPutPost S R up g s c w z W from fun W R' ha hg => ⟨0, rfl, .inr (.inr (.inr ⟨HF.out.1, HF.out.2, HALL.out, .inr ⟨HRM.out, rfl, R', by rw [← HE0.out]; exact ha, HG.out.trans hg⟩⟩))⟩)
            have RE := fun W => reads_oneE W e0
            have OE : oneV e0 = [.int .i64 ((S.came : Int) + 1), .int .i64 (up : Int), .int .i64 g, .int .i64 s, .int .i64 c.k, .int .i64 c.i, .int .u64 c.n, .int .u8 c.r] := by rw [he0]; simp [oneV]
            have EE : ((e0.id : Int) = (S.came : Int) + 1 ∧ e0.up = up ∧ e0.g = g ∧ e0.s = s ∧ e0.c = c) := by rw [he0]; simp
            rw [EE.1, EE.2.1, EE.2.2.1, EE.2.2.2.1, EE.2.2.2.2] at RE
            have HRE := Lib.hid RE
            clear hst hkb he0 RE OE EE hw1
            refine wp_region_X (S := fun wx => wx.heap[R.b]? = w1.heap[R.b]? ∧ wx.heap[bx]? = w1.heap[bx]?) 19 (by kernel_rfl) ⟨rfl, rfl⟩ (fun hHeld => ?_)
            refine wpAnyX_take (i := 0) (v := ?_) [19] rfl (by kernel_rfl) (by kernel_rfl) (by kernel_rfl) (by kernel_rfl) (by kernel_rfl) (by kernel_rfl) (fun _ _ _ h => h) (Or.inl ⟨by kernel_rfl, by (intro w' hSw; obtain ⟨hSa, hSb⟩ := hSw; have q3 := (World.cell?_of_block (w := w1) (a := ⟨R.b, 3, none⟩) hSa).trans c3; have q4 := (World.cell?_of_block (w := w1) (a := ⟨R.b, 4, none⟩) hSa).trans c4; have q50 := (World.cell?_of_block (w := w1) (a := ⟨bx, 0, none⟩) hSb).trans b0; have q51 := (World.cell?_of_block (w := w1) (a := ⟨bx, 1, none⟩) hSb).trans b1; have q52 := (World.cell?_of_block (w := w1) (a := ⟨bx, 2, none⟩) hSb).trans b2; have q53 := (World.cell?_of_block (w := w1) (a := ⟨bx, 3, none⟩) hSb).trans b3; go_simp; first | done | (with_reducible rfl) | rfl)⟩) hHeld ?_
            (try simp only [Act.put, List.getElem_toArray, List.getElem_cons_zero, List.getElem_cons_succ, List.setIfInBounds_toArray, List.set_cons_zero, List.set_cons_succ])
            refine wpAnyX_take (i := 1) (v := ?_) [19] rfl (by kernel_rfl) (by kernel_rfl) (by kernel_rfl) (by kernel_rfl) (by kernel_rfl) (by kernel_rfl) (fun _ _ _ h => h) (Or.inl ⟨by kernel_rfl, by (intro w' hSw; obtain ⟨hSa, hSb⟩ := hSw; have q3 := (World.cell?_of_block (w := w1) (a := ⟨R.b, 3, none⟩) hSa).trans c3; have q4 := (World.cell?_of_block (w := w1) (a := ⟨R.b, 4, none⟩) hSa).trans c4; have q50 := (World.cell?_of_block (w := w1) (a := ⟨bx, 0, none⟩) hSb).trans b0; have q51 := (World.cell?_of_block (w := w1) (a := ⟨bx, 1, none⟩) hSb).trans b1; have q52 := (World.cell?_of_block (w := w1) (a := ⟨bx, 2, none⟩) hSb).trans b2; have q53 := (World.cell?_of_block (w := w1) (a := ⟨bx, 3, none⟩) hSb).trans b3; go_simp; first | done | (with_reducible rfl) | rfl)⟩) hHeld ?_
            (try simp only [Act.put, List.getElem_toArray, List.getElem_cons_zero, List.getElem_cons_succ, List.setIfInBounds_toArray, List.set_cons_zero, List.set_cons_succ])
            refine wpAnyX_take (i := 2) (v := ?_) [19] rfl (by kernel_rfl) (by kernel_rfl) (by kernel_rfl) (by kernel_rfl) (by kernel_rfl) (by kernel_rfl) (fun _ _ _ h => h) (Or.inl ⟨by kernel_rfl, by (intro w' hSw; obtain ⟨hSa, hSb⟩ := hSw; have q3 := (World.cell?_of_block (w := w1) (a := ⟨R.b, 3, none⟩) hSa).trans c3; have q4 := (World.cell?_of_block (w := w1) (a := ⟨R.b, 4, none⟩) hSa).trans c4; have q50 := (World.cell?_of_block (w := w1) (a := ⟨bx, 0, none⟩) hSb).trans b0; have q51 := (World.cell?_of_block (w := w1) (a := ⟨bx, 1, none⟩) hSb).trans b1; have q52 := (World.cell?_of_block (w := w1) (a := ⟨bx, 2, none⟩) hSb).trans b2; have q53 := (World.cell?_of_block (w := w1) (a := ⟨bx, 3, none⟩) hSb).trans b3; go_simp; first | done | (with_reducible rfl) | rfl)⟩) hHeld ?_
            (try simp only [Act.put, List.getElem_toArray, List.getElem_cons_zero, List.getElem_cons_succ, List.setIfInBounds_toArray, List.set_cons_zero, List.set_cons_succ])
            refine wpAnyX_take (i := 3) (v := ?_) [19] rfl (by kernel_rfl) (by kernel_rfl) (by kernel_rfl) (by kernel_rfl) (by kernel_rfl) (by kernel_rfl) (fun _ _ _ h => h) (Or.inl ⟨by kernel_rfl, by (intro w' hSw; obtain ⟨hSa, hSb⟩ := hSw; have q3 := (World.cell?_of_block (w := w1) (a := ⟨R.b, 3, none⟩) hSa).trans c3; have q4 := (World.cell?_of_block (w := w1) (a := ⟨R.b, 4, none⟩) hSa).trans c4; have q50 := (World.cell?_of_block (w := w1) (a := ⟨bx, 0, none⟩) hSb).trans b0; have q51 := (World.cell?_of_block (w := w1) (a := ⟨bx, 1, none⟩) hSb).trans b1; have q52 := (World.cell?_of_block (w := w1) (a := ⟨bx, 2, none⟩) hSb).trans b2; have q53 := (World.cell?_of_block (w := w1) (a := ⟨bx, 3, none⟩) hSb).trans b3; go_simp; first | done | (with_reducible rfl) | rfl)⟩) hHeld ?_
            (try simp only [Act.put, List.getElem_toArray, List.getElem_cons_zero, List.getElem_cons_succ, List.setIfInBounds_toArray, List.set_cons_zero, List.set_cons_succ])
            refine wpAnyX_take (i := 4) (v := ?_) [19] rfl (by kernel_rfl) (by kernel_rfl) (by kernel_rfl) (by kernel_rfl) (by kernel_rfl) (by kernel_rfl) (fun _ _ _ h => h) (Or.inl ⟨by kernel_rfl, by (intro w' hSw; obtain ⟨hSa, hSb⟩ := hSw; have q3 := (World.cell?_of_block (w := w1) (a := ⟨R.b, 3, none⟩) hSa).trans c3; have q4 := (World.cell?_of_block (w := w1) (a := ⟨R.b, 4, none⟩) hSa).trans c4; have q50 := (World.cell?_of_block (w := w1) (a := ⟨bx, 0, none⟩) hSb).trans b0; have q51 := (World.cell?_of_block (w := w1) (a := ⟨bx, 1, none⟩) hSb).trans b1; have q52 := (World.cell?_of_block (w := w1) (a := ⟨bx, 2, none⟩) hSb).trans b2; have q53 := (World.cell?_of_block (w := w1) (a := ⟨bx, 3, none⟩) hSb).trans b3; go_simp; first | done | (with_reducible rfl) | rfl)⟩) hHeld ?_
            (try simp only [Act.put, List.getElem_toArray, List.getElem_cons_zero, List.getElem_cons_succ, List.setIfInBounds_toArray, List.set_cons_zero, List.set_cons_succ])
            refine wpAnyX_take (i := 6) (v := ?_) [19] rfl (by kernel_rfl) (by kernel_rfl) (by kernel_rfl) (by kernel_rfl) (by kernel_rfl) (by kernel_rfl) (fun _ _ _ h => h) (Or.inl ⟨by kernel_rfl, by (intro w' hSw; obtain ⟨hSa, hSb⟩ := hSw; have q3 := (World.cell?_of_block (w := w1) (a := ⟨R.b, 3, none⟩) hSa).trans c3; have q4 := (World.cell?_of_block (w := w1) (a := ⟨R.b, 4, none⟩) hSa).trans c4; have q50 := (World.cell?_of_block (w := w1) (a := ⟨bx, 0, none⟩) hSb).trans b0; have q51 := (World.cell?_of_block (w := w1) (a := ⟨bx, 1, none⟩) hSb).trans b1; have q52 := (World.cell?_of_block (w := w1) (a := ⟨bx, 2, none⟩) hSb).trans b2; have q53 := (World.cell?_of_block (w := w1) (a := ⟨bx, 3, none⟩) hSb).trans b3; go_simp; first | done | (with_reducible rfl) | rfl)⟩) hHeld ?_
            (try simp only [Act.put, List.getElem_toArray, List.getElem_cons_zero, List.getElem_cons_succ, List.setIfInBounds_toArray, List.set_cons_zero, List.set_cons_succ])
            refine wpAnyX_take (i := 7) (v := ?_) [19] rfl (by kernel_rfl) (by kernel_rfl) (by kernel_rfl) (by kernel_rfl) (by kernel_rfl) (by kernel_rfl) (fun _ _ _ h => h) (Or.inl ⟨by kernel_rfl, by (intro w' hSw; obtain ⟨hSa, hSb⟩ := hSw; have q3 := (World.cell?_of_block (w := w1) (a := ⟨R.b, 3, none⟩) hSa).trans c3; have q4 := (World.cell?_of_block (w := w1) (a := ⟨R.b, 4, none⟩) hSa).trans c4; have q50 := (World.cell?_of_block (w := w1) (a := ⟨bx, 0, none⟩) hSb).trans b0; have q51 := (World.cell?_of_block (w := w1) (a := ⟨bx, 1, none⟩) hSb).trans b1; have q52 := (World.cell?_of_block (w := w1) (a := ⟨bx, 2, none⟩) hSb).trans b2; have q53 := (World.cell?_of_block (w := w1) (a := ⟨bx, 3, none⟩) hSb).trans b3; go_simp; first | done | (with_reducible rfl) | rfl)⟩) hHeld ?_
            (try simp only [Act.put, List.getElem_toArray, List.getElem_cons_zero, List.getElem_cons_succ, List.setIfInBounds_toArray, List.set_cons_zero, List.set_cons_succ])
            refine wpAnyX_take (i := 8) (v := ?_) [19] rfl (by kernel_rfl) (by kernel_rfl) (by kernel_rfl) (by kernel_rfl) (by kernel_rfl) (by kernel_rfl) (fun _ _ _ h => h) (Or.inl ⟨by kernel_rfl, by (intro w' hSw; obtain ⟨hSa, hSb⟩ := hSw; have q3 := (World.cell?_of_block (w := w1) (a := ⟨R.b, 3, none⟩) hSa).trans c3; have q4 := (World.cell?_of_block (w := w1) (a := ⟨R.b, 4, none⟩) hSa).trans c4; have q50 := (World.cell?_of_block (w := w1) (a := ⟨bx, 0, none⟩) hSb).trans b0; have q51 := (World.cell?_of_block (w := w1) (a := ⟨bx, 1, none⟩) hSb).trans b1; have q52 := (World.cell?_of_block (w := w1) (a := ⟨bx, 2, none⟩) hSb).trans b2; have q53 := (World.cell?_of_block (w := w1) (a := ⟨bx, 3, none⟩) hSb).trans b3; go_simp; first | done | (with_reducible rfl) | rfl)⟩) hHeld ?_
            (try simp only [Act.put, List.getElem_toArray, List.getElem_cons_zero, List.getElem_cons_succ, List.setIfInBounds_toArray, List.set_cons_zero, List.set_cons_succ])
            refine wpAnyX_take (i := 9) (v := ?_) [19] rfl (by kernel_rfl) (by kernel_rfl) (by kernel_rfl) (by kernel_rfl) (by kernel_rfl) (by kernel_rfl) (fun _ _ _ h => h) (Or.inl ⟨by kernel_rfl, by (intro w' hSw; obtain ⟨hSa, hSb⟩ := hSw; have q3 := (World.cell?_of_block (w := w1) (a := ⟨R.b, 3, none⟩) hSa).trans c3; have q4 := (World.cell?_of_block (w := w1) (a := ⟨R.b, 4, none⟩) hSa).trans c4; have q50 := (World.cell?_of_block (w := w1) (a := ⟨bx, 0, none⟩) hSb).trans b0; have q51 := (World.cell?_of_block (w := w1) (a := ⟨bx, 1, none⟩) hSb).trans b1; have q52 := (World.cell?_of_block (w := w1) (a := ⟨bx, 2, none⟩) hSb).trans b2; have q53 := (World.cell?_of_block (w := w1) (a := ⟨bx, 3, none⟩) hSb).trans b3; go_simp; first | done | (with_reducible rfl) | rfl)⟩) hHeld ?_
            (try simp only [Act.put, List.getElem_toArray, List.getElem_cons_zero, List.getElem_cons_succ, List.setIfInBounds_toArray, List.set_cons_zero, List.set_cons_succ])
            refine wpAnyX_take (i := 10) (v := ?_) [19] rfl (by kernel_rfl) (by kernel_rfl) (by kernel_rfl) (by kernel_rfl) (by kernel_rfl) (by kernel_rfl) (fun _ _ _ h => h) (Or.inl ⟨by kernel_rfl, by (intro w' hSw; obtain ⟨hSa, hSb⟩ := hSw; have q3 := (World.cell?_of_block (w := w1) (a := ⟨R.b, 3, none⟩) hSa).trans c3; have q4 := (World.cell?_of_block (w := w1) (a := ⟨R.b, 4, none⟩) hSa).trans c4; have q50 := (World.cell?_of_block (w := w1) (a := ⟨bx, 0, none⟩) hSb).trans b0; have q51 := (World.cell?_of_block (w := w1) (a := ⟨bx, 1, none⟩) hSb).trans b1; have q52 := (World.cell?_of_block (w := w1) (a := ⟨bx, 2, none⟩) hSb).trans b2; have q53 := (World.cell?_of_block (w := w1) (a := ⟨bx, 3, none⟩) hSb).trans b3; go_simp; first | done | (with_reducible rfl) | rfl)⟩) hHeld ?_
            (try simp only [Act.put, List.getElem_toArray, List.getElem_cons_zero, List.getElem_cons_succ, List.setIfInBounds_toArray, List.set_cons_zero, List.set_cons_succ])
            refine wpAnyX_take (i := 11) (v := ?_) [19] rfl (by kernel_rfl) (by kernel_rfl) (by kernel_rfl) (by kernel_rfl) (by kernel_rfl) (by kernel_rfl) (fun _ _ _ h => h) (Or.inl ⟨by kernel_rfl, by (intro w' hSw; obtain ⟨hSa, hSb⟩ := hSw; have q3 := (World.cell?_of_block (w := w1) (a := ⟨R.b, 3, none⟩) hSa).trans c3; have q4 := (World.cell?_of_block (w := w1) (a := ⟨R.b, 4, none⟩) hSa).trans c4; have q50 := (World.cell?_of_block (w := w1) (a := ⟨bx, 0, none⟩) hSb).trans b0; have q51 := (World.cell?_of_block (w := w1) (a := ⟨bx, 1, none⟩) hSb).trans b1; have q52 := (World.cell?_of_block (w := w1) (a := ⟨bx, 2, none⟩) hSb).trans b2; have q53 := (World.cell?_of_block (w := w1) (a := ⟨bx, 3, none⟩) hSb).trans b3; go_simp; first | done | (with_reducible rfl) | rfl)⟩) hHeld ?_
            (try simp only [Act.put, List.getElem_toArray, List.getElem_cons_zero, List.getElem_cons_succ, List.setIfInBounds_toArray, List.set_cons_zero, List.set_cons_succ])
            refine wpAnyX_take (i := 12) (v := ?_) [19] rfl (by kernel_rfl) (by kernel_rfl) (by kernel_rfl) (by kernel_rfl) (by kernel_rfl) (by kernel_rfl) (fun _ _ _ h => h) (Or.inl ⟨by kernel_rfl, by (intro w' hSw; obtain ⟨hSa, hSb⟩ := hSw; have q3 := (World.cell?_of_block (w := w1) (a := ⟨R.b, 3, none⟩) hSa).trans c3; have q4 := (World.cell?_of_block (w := w1) (a := ⟨R.b, 4, none⟩) hSa).trans c4; have q50 := (World.cell?_of_block (w := w1) (a := ⟨bx, 0, none⟩) hSb).trans b0; have q51 := (World.cell?_of_block (w := w1) (a := ⟨bx, 1, none⟩) hSb).trans b1; have q52 := (World.cell?_of_block (w := w1) (a := ⟨bx, 2, none⟩) hSb).trans b2; have q53 := (World.cell?_of_block (w := w1) (a := ⟨bx, 3, none⟩) hSb).trans b3; go_simp; first | done | (with_reducible rfl) | rfl)⟩) hHeld ?_
            (try simp only [Act.put, List.getElem_toArray, List.getElem_cons_zero, List.getElem_cons_succ, List.setIfInBounds_toArray, List.set_cons_zero, List.set_cons_succ])
            refine wpAnyX_take (i := 13) (v := ?_) [19] rfl (by kernel_rfl) (by kernel_rfl) (by kernel_rfl) (by kernel_rfl) (by kernel_rfl) (by kernel_rfl) (fun _ _ _ h => h) (Or.inl ⟨by kernel_rfl, by (intro w' hSw; obtain ⟨hSa, hSb⟩ := hSw; have q3 := (World.cell?_of_block (w := w1) (a := ⟨R.b, 3, none⟩) hSa).trans c3; have q4 := (World.cell?_of_block (w := w1) (a := ⟨R.b, 4, none⟩) hSa).trans c4; have q50 := (World.cell?_of_block (w := w1) (a := ⟨bx, 0, none⟩) hSb).trans b0; have q51 := (World.cell?_of_block (w := w1) (a := ⟨bx, 1, none⟩) hSb).trans b1; have q52 := (World.cell?_of_block (w := w1) (a := ⟨bx, 2, none⟩) hSb).trans b2; have q53 := (World.cell?_of_block (w := w1) (a := ⟨bx, 3, none⟩) hSb).trans b3; go_simp; first | done | (with_reducible rfl) | rfl)⟩) hHeld ?_
            (try simp only [Act.put, List.getElem_toArray, List.getElem_cons_zero, List.getElem_cons_succ, List.setIfInBounds_toArray, List.set_cons_zero, List.set_cons_succ])
            refine wpAnyX_take (i := 14) (v := ?_) [19] rfl (by kernel_rfl) (by kernel_rfl) (by kernel_rfl) (by kernel_rfl) (by kernel_rfl) (by kernel_rfl) (fun _ _ _ h => h) (Or.inl ⟨by kernel_rfl, by (intro w' hSw; obtain ⟨hSa, hSb⟩ := hSw; have q3 := (World.cell?_of_block (w := w1) (a := ⟨R.b, 3, none⟩) hSa).trans c3; have q4 := (World.cell?_of_block (w := w1) (a := ⟨R.b, 4, none⟩) hSa).trans c4; have q50 := (World.cell?_of_block (w := w1) (a := ⟨bx, 0, none⟩) hSb).trans b0; have q51 := (World.cell?_of_block (w := w1) (a := ⟨bx, 1, none⟩) hSb).trans b1; have q52 := (World.cell?_of_block (w := w1) (a := ⟨bx, 2, none⟩) hSb).trans b2; have q53 := (World.cell?_of_block (w := w1) (a := ⟨bx, 3, none⟩) hSb).trans b3; go_simp; first | done | (with_reducible rfl) | rfl)⟩) hHeld ?_
            (try simp only [Act.put, List.getElem_toArray, List.getElem_cons_zero, List.getElem_cons_succ, List.setIfInBounds_toArray, List.set_cons_zero, List.set_cons_succ])
            clear b0 b1 b2 b3 c4
            refine wpAnyX_two (i := 5) (j := 15) (by kernel_rfl) rfl rfl (fun K hK => ?_) (fun K hK => ?_)
            · refine step_append_any _ rfl (.const (.slice none 0 0)) (.tmp 78) 62 rfl w1.heap.size 66 i0 (.agg #[.int .i64 0, .int .i64 0, .int .i64 0, .int .i64 0, .int .i64 0, .int .i64 0, .int .u64 0, .int .u8 0]) 8 64 Try.underlying62 hi0 hz0 hz1 hz2 rfl (by decide) (.slice none 0 0) 0 [] (by kernel_rfl) (World.ownsRow_nil _ _ _ _) w1.drew.heap.size R.A S.L.length R.c (onesV S.L) (by kernel_rfl) (RD1.out) (onesV_cells _) m1.out m2.out (by simp) ?_
              intro v1 w2 hown1 hg1 hat1
              rw [Nat.zero_add, List.nil_append] at hown1
              (obtain ⟨A1, k1, rfl⟩ := own_slice hown1)
              have hb2 := (below_drewN_ w1 w1.heap.size 1).grown hg1 (Nat.le_refl _) (fun j e => by cases e)
              try dsimp only
              clear hHeld
              refine hK.out _ _ ⟨hb2.block _ LB.out.1, hb2.block _ LB.out.2⟩ (fun hHeld => ?_)
              clear hK K
              (try simp only [Act.put, List.getElem_toArray, List.getElem_cons_zero, List.getElem_cons_succ, List.setIfInBounds_toArray, List.set_cons_zero, List.set_cons_succ])
              refine wpAnyX_one (i := 15) (by kernel_rfl) rfl (fun K hK => ?_)
              go_simp
              try dsimp only
              clear hHeld
              refine hK.out _ _ ⟨(Below.heap_alloc w2 _ _ (Nat.lt_of_lt_of_le LB.out.1 hb2.size)).trans (hb2.block _ LB.out.1), (Below.heap_alloc w2 _ _ (Nat.lt_of_lt_of_le LB.out.2 hb2.size)).trans (hb2.block _ LB.out.2)⟩ (fun hHeld => ?_)
              clear hK K
              (try simp only [Act.put, List.getElem_toArray, List.getElem_cons_zero, List.getElem_cons_succ, List.setIfInBounds_toArray, List.set_cons_zero, List.set_cons_succ])
              have HBZ : w1.heap.size ≤ (w2.alloc (.cells #[.int .i64 ((S.came : Int) + 1), .int .i64 (up : Int), .int .i64 g, .int .i64 s, .int .i64 c.k, .int .i64 c.i, .int .u64 c.n, .int .u8 c.r] 66)).heap.size := by have := hb2.size; simp; omega
              refine wpAnyX_one (i := 16) (by kernel_rfl) rfl (fun K hK => ?_)
              refine step_append_any _ rfl (.tmp 79) (.tmp 89) 62 rfl w1.heap.size 66 i0 (.agg #[.int .i64 0, .int .i64 0, .int .i64 0, .int .i64 0, .int .i64 0, .int .i64 0, .int .u64 0, .int .u8 0]) 8 64 Try.underlying62 hi0 hz0 hz1 hz2 rfl (by decide) (.slice A1 S.L.length k1) S.L.length (onesV S.L) (by kernel_rfl) (hown1.alloc _) _ (some ⟨w2.heap.size, 0, none⟩) 1 1 (oneV e0) (by kernel_rfl) (HRE.out w2) (by intro u hu; exact onesV_cells [e0] u (by rw [onesV_one]; exact hu)) m3.out m4.out HBZ ?_
              intro v2 w3 hown2 hg2 hat2
              (obtain ⟨A2, k2, rfl⟩ := own_slice hown2)
              have hb3 : Below w1.heap.size w1 w3 := (hb2.alloc hb2.size _).grown hg2 HBZ (fun j e => (hown1.lt j e).1)
              have hs9 := (HR1.out.1.store hb3 (L := S.L ++ [e0]) (A := A2) (c := k2) (by rw [onesV_app, onesV_one, List.length_append]; exact hown2))
              rw [show (S.L ++ [e0]).length = S.L.length + 1 by simp] at hs9
              have HS9 := Lib.hid hs9
              have hHe := (show w3.heap[R.b]? = w1.heap[R.b]? ∧ w3.heap[bx]? = w1.heap[bx]? from ⟨hb3.block _ LB.out.1, hb3.block _ LB.out.2⟩)
              have c3' : w3.cell? ⟨R.b, 3, none⟩ = some (.slice R.A S.L.length R.c) := (World.cell?_of_block (w := w1) (a := ⟨R.b, 3, none⟩) hHe.1).trans c3
              have f3' : w3.frozen? ⟨R.b, 3, none⟩ = false := (World.frozen?_of_block (w := w1) (a := ⟨R.b, 3, none⟩) hHe.1).trans f3
              clear hown2 hg2 hat2 hb3 hs9
              try dsimp only
              clear hHeld
              refine hK.out _ _ hHe (fun hHeld => ?_)
              clear hK K
              (try simp only [Act.put, List.getElem_toArray, List.getElem_cons_zero, List.getElem_cons_succ, List.setIfInBounds_toArray, List.set_cons_zero, List.set_cons_succ])
              refine wpAnyX_take (i := 17) (v := ?_) [18, 19] rfl (by kernel_rfl) (by kernel_rfl) (by kernel_rfl) (by kernel_rfl) (by kernel_rfl) (by kernel_rfl) (fun _ _ _ h => h) (Or.inl ⟨by kernel_rfl, by (intro w' hSw; go_simp; first | done | (with_reducible rfl) | rfl)⟩) hHeld ?_
              (try simp only [Act.put, List.getElem_toArray, List.getElem_cons_zero, List.getElem_cons_succ, List.setIfInBounds_toArray, List.set_cons_zero, List.set_cons_succ])
              refine wpAnyX_take (i := 18) (v := ?_) [19] rfl (by kernel_rfl) (by kernel_rfl) (by kernel_rfl) (by kernel_rfl) (by kernel_rfl) (by kernel_rfl) (fun _ _ _ h => h) (Or.inl ⟨by kernel_rfl, by (intro w' hSw; go_simp; first | done | (with_reducible rfl) | rfl)⟩) hHeld ?_
              (try simp only [Act.put, List.getElem_toArray, List.getElem_cons_zero, List.getElem_cons_succ, List.setIfInBounds_toArray, List.set_cons_zero, List.set_cons_succ])
              refine wpAnyX_last (i := 19) (by kernel_rfl) rfl rfl (fun K hK => ?_)
              go_simp
              refine hK.out _ _ ?_
              clear hK K hHeld
              (try simp only [Act.put, List.getElem_toArray, List.getElem_cons_zero, List.getElem_cons_succ, List.setIfInBounds_toArray, List.set_cons_zero, List.set_cons_succ])
              refine wpAnyX_done (by kernel_rfl) ?_ _
              clear c3' f3' c3
              go_wp2_with fail
              go_ret
              exact FIN.out _ _ HS9.out.1 HS9.out.2
            · go_simp
              try dsimp only
              clear hHeld
              refine hK.out _ _ ⟨Below.heap_alloc w1.drew _ _ LB.out.1, Below.heap_alloc w1.drew _ _ LB.out.2⟩ (fun hHeld => ?_)
              clear hK K
              (try simp only [Act.put, List.getElem_toArray, List.getElem_cons_zero, List.getElem_cons_succ, List.setIfInBounds_toArray, List.set_cons_zero, List.set_cons_succ])
              refine wpAnyX_one (i := 5) (by kernel_rfl) rfl (fun K hK => ?_)
              have RD1b := Lib.hid (RD1.out.alloc (Nat.le_refl _) (.cells #[.int .i64 ((S.came : Int) + 1), .int .i64 (up : Int), .int .i64 g, .int .i64 s, .int .i64 c.k, .int .i64 c.i, .int .u64 c.n, .int .u8 c.r] 66))
              refine step_append_any _ rfl (.const (.slice none 0 0)) (.tmp 78) 62 rfl w1.heap.size 66 i0 (.agg #[.int .i64 0, .int .i64 0, .int .i64 0, .int .i64 0, .int .i64 0, .int .i64 0, .int .u64 0, .int .u8 0]) 8 64 Try.underlying62 hi0 hz0 hz1 hz2 rfl (by decide) (.slice none 0 0) 0 [] (by kernel_rfl) (World.ownsRow_nil _ _ _ _) w1.drew.heap.size R.A S.L.length R.c (onesV S.L) (by kernel_rfl) RD1b.out (onesV_cells _) m1.out m2.out (by simp) ?_
              intro v1 w2 hown1 hg1 hat1
              rw [Nat.zero_add, List.nil_append] at hown1
              (obtain ⟨A1, k1, rfl⟩ := own_slice hown1)
              have hb2 := ((below_drewN_ w1 w1.heap.size 1).alloc (Nat.le_refl _) (.cells #[.int .i64 ((S.came : Int) + 1), .int .i64 (up : Int), .int .i64 g, .int .i64 s, .int .i64 c.k, .int .i64 c.i, .int .u64 c.n, .int .u8 c.r] 66)).grown hg1 (by simp) (fun j e => by cases e)
              try dsimp only
              clear hHeld
              refine hK.out _ _ ⟨hb2.block _ LB.out.1, hb2.block _ LB.out.2⟩ (fun hHeld => ?_)
              clear hK K
              (try simp only [Act.put, List.getElem_toArray, List.getElem_cons_zero, List.getElem_cons_succ, List.setIfInBounds_toArray, List.set_cons_zero, List.set_cons_succ])
              have HBZ : w1.heap.size ≤ w2.heap.size := hb2.size
              refine wpAnyX_one (i := 16) (by kernel_rfl) rfl (fun K hK => ?_)
              refine step_append_any _ rfl (.tmp 79) (.tmp 89) 62 rfl w1.heap.size 66 i0 (.agg #[.int .i64 0, .int .i64 0, .int .i64 0, .int .i64 0, .int .i64 0, .int .i64 0, .int .u64 0, .int .u8 0]) 8 64 Try.underlying62 hi0 hz0 hz1 hz2 rfl (by decide) (.slice A1 S.L.length k1) S.L.length (onesV S.L) (by kernel_rfl) (hown1) _ (some ⟨w1.heap.size, 0, none⟩) 1 1 (oneV e0) (by kernel_rfl) ((HRE.out w1.drew).keep (fun p hp => World.cell?_of_block (hg1.block p.block (by have h7 : w1.drew.heap.size = w1.heap.size := rfl; simp; omega) (by simp [Value.ownBlock])))) (by intro u hu; exact onesV_cells [e0] u (by rw [onesV_one]; exact hu)) m3.out m4.out HBZ ?_
              intro v2 w3 hown2 hg2 hat2
              (obtain ⟨A2, k2, rfl⟩ := own_slice hown2)
              have hb3 : Below w1.heap.size w1 w3 := hb2.grown hg2 HBZ (fun j e => (hown1.lt j e).1)
              have hs9 := (HR1.out.1.store hb3 (L := S.L ++ [e0]) (A := A2) (c := k2) (by rw [onesV_app, onesV_one, List.length_append]; exact hown2))
              rw [show (S.L ++ [e0]).length = S.L.length + 1 by simp] at hs9
              have HS9 := Lib.hid hs9
              have hHe := (show w3.heap[R.b]? = w1.heap[R.b]? ∧ w3.heap[bx]? = w1.heap[bx]? from ⟨hb3.block _ LB.out.1, hb3.block _ LB.out.2⟩)
              have c3' : w3.cell? ⟨R.b, 3, none⟩ = some (.slice R.A S.L.length R.c) := (World.cell?_of_block (w := w1) (a := ⟨R.b, 3, none⟩) hHe.1).trans c3
              have f3' : w3.frozen? ⟨R.b, 3, none⟩ = false := (World.frozen?_of_block (w := w1) (a := ⟨R.b, 3, none⟩) hHe.1).trans f3
              clear hown2 hg2 hat2 hb3 hs9
              try dsimp only
              clear hHeld
              refine hK.out _ _ hHe (fun hHeld => ?_)
              clear hK K
              (try simp only [Act.put, List.getElem_toArray, List.getElem_cons_zero, List.getElem_cons_succ, List.setIfInBounds_toArray, List.set_cons_zero, List.set_cons_succ])
              refine wpAnyX_take (i := 17) (v := ?_) [18, 19] rfl (by kernel_rfl) (by kernel_rfl) (by kernel_rfl) (by kernel_rfl) (by kernel_rfl) (by kernel_rfl) (fun _ _ _ h => h) (Or.inl ⟨by kernel_rfl, by (intro w' hSw; go_simp; first | done | (with_reducible rfl) | rfl)⟩) hHeld ?_
              (try simp only [Act.put, List.getElem_toArray, List.getElem_cons_zero, List.getElem_cons_succ, List.setIfInBounds_toArray, List.set_cons_zero, List.set_cons_succ])
              refine wpAnyX_take (i := 18) (v := ?_) [19] rfl (by kernel_rfl) (by kernel_rfl) (by kernel_rfl) (by kernel_rfl) (by kernel_rfl) (by kernel_rfl) (fun _ _ _ h => h) (Or.inl ⟨by kernel_rfl, by (intro w' hSw; go_simp; first | done | (with_reducible rfl) | rfl)⟩) hHeld ?_
              (try simp only [Act.put, List.getElem_toArray, List.getElem_cons_zero, List.getElem_cons_succ, List.setIfInBounds_toArray, List.set_cons_zero, List.set_cons_succ])
              refine wpAnyX_last (i := 19) (by kernel_rfl) rfl rfl (fun K hK => ?_)
              go_simp
              refine hK.out _ _ ?_
              clear hK K hHeld
              (try simp only [Act.put, List.getElem_toArray, List.getElem_cons_zero, List.getElem_cons_succ, List.setIfInBounds_toArray, List.set_cons_zero, List.set_cons_succ])
              refine wpAnyX_done (by kernel_rfl) ?_ _
              clear c3' f3' c3
              go_wp2_with fail
              go_ret
              exact FIN.out _ _ HS9.out.1 HS9.out.2
          · have hr1 : (S.F.n : Int) ≤ (S.L.length : Int) := by omega
            have HRM := Lib.hid hroom
            clear hroom hk hbd
            go_wp2_with fail
            go_quiet (fail)
            go_wp2_with fail
            go_ret
            exact ⟨3, rfl, .inr (.inr (.inr ⟨HF.out.1, HF.out.2, HALL.out, .inl ⟨HRM.out, rfl, H3.out.2.1.trans (below_drewN_ _ _ _)⟩⟩))⟩
  · have hq : (S.freeE g s != 0) = true := by simpa using hf
    have HF := Lib.hid hf
    clear hf
    obtain ⟨E, hE⟩ : ∃ E, E = S.freeE g s := ⟨_, rfl⟩
    rw [← hE] at CF hq
    have HE := Lib.hid hE
    clear hE CM
    go_wp2_with fail
    rw [← hw0, ← hbx]
    clear hw0 hbx
    go_wp2_with (go_at_call 42; refine CF.mono ?_; rintro e w' ⟨rfl, rfl⟩)
    go_ret
    exact ⟨E, rfl, .inl ⟨HE.out, by rw [HE.out]; exact HF.out, HW.out.1⟩⟩
end
end Go.Proofs.Ytbknmfegckeogaa

/- A region that draws its order and whose last operations write to cells that it loads: S is asked behind every operation but those. No program walked. -/
namespace Go.Proofs.Ytbknmfegckeogaa
set_option linter.unusedVariables false
section
variable {P : Program} {ops : Array Oper} {Q : Exit → Act → World → Prop} {md : Region.Mode} {S : World → Prop} {late : List Nat}

/-- Whatever order is picked from here on, and S holds behind every operation but the last one. -/
def wpAnyL (P : Program) (md : Region.Mode) (ops : Array Oper) (Q : Exit → Act → World → Prop) (S : World → Prop) (late : List Nat) : Nat → Array Bool → Act → World → Prop
  | 0, listed, a, w => Region.ready md ops listed = [] ∧ Q .normal a w
  | fuel + 1, listed, a, w =>
    (Region.ready md ops listed = [] → Q .normal a w) ∧
    ∀ i ∈ Region.ready md ops listed, wpOp P ops Q i (fun a' w' => (i ∉ late → S w') ∧ wpAnyL P md ops Q S late fuel (listed.setIfInBounds i true) a' w') a w

theorem wpAny_of_L : ∀ (fuel : Nat) (listed : Array Bool) (a : Act) (w : World), wpAnyL P md ops Q S late fuel listed a w → wpAny P md ops Q fuel listed a w
  | 0, _, _, _, h => h
  | fuel + 1, _, _, _, h => ⟨h.1, fun i hi => wpOp_mono (fun a' w' h' => wpAny_of_L fuel _ a' w' h'.2) (h.2 i hi)⟩

/-- A chain of operations, each of which waits for the one ahead; none has come up. -/
def chainL (md : Region.Mode) (ops : Array Oper) (listed : Array Bool) : Nat → List Nat → Bool
  | _, [] => true
  | i, c :: cs => !listed.getD c true && (match ops[c]? with | some o => o.after.any (fun e => Region.binds md e && e.on == i) | none => false) && chainL md ops listed c cs

theorem chainL_step {listed : Array Bool} {j : Nat} (hj : j ∈ Region.ready md ops listed) : ∀ (cs : List Nat) (i : Nat), listed.getD i true = false → i ≠ j → chainL md ops listed i cs = true → j ∉ cs ∧ chainL md ops (listed.setIfInBounds j true) i cs = true
  | [], i, hi, hne, h => ⟨by simp, rfl⟩
  | c :: cs, i, hi, hne, h => by
    simp only [chainL, Bool.and_eq_true, Bool.not_eq_true'] at h
    obtain ⟨⟨hc, hw⟩, hr⟩ := h
    have hcj : c ≠ j := by
      rintro rfl
      obtain ⟨_, o, ho, hall⟩ := mem_ready.1 hj
      rw [ho] at hw
      obtain ⟨e, he, hb⟩ := Array.any_eq_true'.1 hw
      simp only [Bool.and_eq_true, beq_iff_eq] at hb
      have h1 := hall e he hb.1
      rw [hb.2] at h1
      rcases Nat.lt_or_ge i listed.size with h' | h'
      · simp [h'] at hi h1
        rw [hi] at h1
        cases h1
      · simp [Array.getElem?_eq_none h'] at h1
    obtain ⟨h1, h2⟩ := chainL_step hj cs c hc hcj hr
    refine ⟨by simp [h1, Ne.symm hcj], ?_⟩
    simp only [chainL, Bool.and_eq_true, Bool.not_eq_true']
    exact ⟨⟨by rw [getD_set_ne true (Ne.symm hcj)]; exact hc, hw⟩, h2⟩

theorem wpAnyL_first {i : Nat} {oi : Oper} {v : Value} {cs : List Nat} (hi : ops[i]? = some oi) (hl : ∀ l ∈ late, l ∈ cs) (hil : i ∉ late) (hsel : ∀ (j : Nat) (o : Oper) cs b, ops[j]? = some o → o.op ≠ .select cs b)
    (hQ : ∀ c a w, Q (.panic c) (a.put oi.dst v) w → Q (.panic c) a w) :
    ∀ (fuel : Nat) (listed : Array Bool) (a : Act) (w : World),
      (∀ j oj, ops[j]? = some oj → j ≠ i → listed.getD j true = false → (∀ e ∈ oj.after, Region.binds md e = true → e.on ≠ i) → oi.apart ops oj = true) →
      chainL md ops listed i cs = true →
      i ∈ Region.ready md ops listed → YieldsIf P ops S oi v a → S w →
      wpAnyL P md ops Q S late fuel (listed.setIfInBounds i true) (a.put oi.dst v) w → wpAnyL P md ops Q S late (fuel + 1) listed a w := by
  intro fuel
  induction fuel with
  | zero =>
    intro listed a w _ _ hr hy hS H
    refine ⟨fun h => (by rw [h] at hr; cases hr), fun j hj => ?_⟩
    by_cases hji : j = i
    · subst hji; exact hy.wpOp hi hS ⟨fun _ => hS, H⟩
    · have := ready_mono hj hji
      rw [H.1] at this
      cases this
  | succ fuel ih =>
    intro listed a w hfree hch hr hy hS H
    refine ⟨fun h => (by rw [h] at hr; cases hr), fun j hj => ?_⟩
    by_cases hji : j = i
    · subst hji; exact hy.wpOp hi hS ⟨fun _ => hS, H⟩
    · obtain ⟨hjc, hch'⟩ := chainL_step hj cs i (mem_ready.1 hr).1 (Ne.symm hji) hch
      have hjl : j ∉ late := fun e => hjc (hl j e)
      have h1 := H.2 j (ready_mono hj hji)
      obtain ⟨hjun, oj, hoj, hall⟩ := mem_ready.1 hj
      have hnot : ∀ e ∈ oj.after, Region.binds md e = true → e.on ≠ i := fun e he hb heq => by
        have h1 := hall e he hb
        have h0 := (mem_ready.1 hr).1
        rw [heq] at h1
        rcases Nat.lt_or_ge i listed.size with h' | h'
        · simp [h'] at h0 h1; rw [h0] at h1; cases h1
        · simp [Array.getElem?_eq_none h'] at h1
      have h2 := wpOp_putIf hoj (hfree j oj hoj hji hjun hnot) (fun cs b => hsel i oi cs b hi) (fun cs b => hsel j oj cs b hoj) hQ hy h1
      have hfree' : ∀ k ok, ops[k]? = some ok → k ≠ i → (listed.setIfInBounds j true).getD k true = false →
          (∀ e ∈ ok.after, Region.binds md e = true → e.on ≠ i) → oi.apart ops ok = true := fun k ok hk hki hun hno => by
        refine hfree k ok hk hki ?_ hno
        by_cases hjk : j = k
        · subst hjk; exact hjun
        · rw [getD_set_ne true hjk] at hun; exact hun
      refine wpOp_mono (fun a' w' h3 => ⟨h3.2.1, ih (listed.setIfInBounds j true) a' w' hfree' hch' (ready_mono hr (Ne.symm hji)) h3.1 (h3.2.1 hjl) ?_⟩) h2
      rw [Array.setIfInBounds_comm _ _ hji]
      exact h3.2.2

/-- Take number 'i' first; 'cs' leads from it to the last one. -/
theorem wpAnyL_take {i : Nat} {oi : Oper} {v : Value} {fuel : Nat} {listed : Array Bool} {a : Act} {w : World} (cs : List Nat) (hi : ops[i]? = some oi)
    (hl : (late.all fun l => cs.contains l) = true) (hil : late.contains i = false) (hch : chainL md ops listed i cs = true)
    (hs : Region.noSelect ops = true) (hf : Region.free md ops listed i = true) (hr : (Region.ready md ops listed).contains i = true)
    (hQ : ∀ c a w, Q (.panic c) (a.put oi.dst v) w → Q (.panic c) a w) (hy : YieldsIf P ops S oi v a) (hS : S w)
    (h : wpAnyL P md ops Q S late fuel (listed.setIfInBounds i true) (a.put oi.dst v) w) : wpAnyL P md ops Q S late (fuel + 1) listed a w :=
  wpAnyL_first hi (fun l h => by have := List.all_eq_true.1 hl l h; simpa using this) (by simpa using hil) (Region.noSelect_spec hs) hQ fuel listed a w (Region.free_spec hi hf) hch (by simpa using hr) hy hS h

theorem wpAnyL_done {listed : Array Bool} {a : Act} {w : World} (hr : Region.ready md ops listed = []) (h : Q .normal a w) :
    ∀ fuel, wpAnyL P md ops Q S late fuel listed a w
  | 0 => ⟨hr, h⟩
  | _ + 1 => ⟨fun _ => h, by rw [hr]; simp⟩

/-- Just one may come up: S is shown behind it (if it is not the last one). -/
theorem wpAnyL_one {i : Nat} {o : Oper} {fuel : Nat} {listed : Array Bool} {a : Act} {w : World} (hr : Region.ready md ops listed = [i]) (ho : ops[i]? = some o)
    (h : ∀ K' : Act → World → Prop, Shut (∀ a w, S w → (S w → wpAnyL P md ops Q S late fuel (listed.setIfInBounds i true) a w) → K' a w) → if Region.wanted o (yielded ops a.tmps) = true then Oper.wp P o a w K' Q else K' (a.put o.dst undef) w) :
    wpAnyL P md ops Q S late (fuel + 1) listed a w := by
  refine ⟨fun h0 => (by rw [h0] at hr; cases hr), fun j hj => ?_⟩
  rw [hr] at hj
  obtain rfl : j = i := by simpa using hj
  exact wpOp_step ho (fun K' hK => h K' (fun a w hS hW => hK a w ⟨fun _ => hS, hW hS⟩))
/-- One of the last. -/
theorem wpAnyL_last {i : Nat} {o : Oper} {fuel : Nat} {listed : Array Bool} {a : Act} {w : World} (hr : Region.ready md ops listed = [i]) (hil : late.contains i = true) (ho : ops[i]? = some o)
    (h : ∀ K' : Act → World → Prop, Shut (∀ a w, wpAnyL P md ops Q S late fuel (listed.setIfInBounds i true) a w → K' a w) → if Region.wanted o (yielded ops a.tmps) = true then Oper.wp P o a w K' Q else K' (a.put o.dst undef) w) :
    wpAnyL P md ops Q S late (fuel + 1) listed a w := by
  refine ⟨fun h0 => (by rw [h0] at hr; cases hr), fun j hj => ?_⟩
  rw [hr] at hj
  obtain rfl : j = i := by simpa using hj
  exact wpOp_step ho (fun K' hK => h K' (fun a w hW => hK a w ⟨fun h => absurd (by simpa using hil) h, hW⟩))

theorem wp_region_L (S : World → Prop) (late : List Nat) {id : Nat} {a : Act} {w : World} (hm : P.follows .mixedOrders = true) (hS : S w.drew)
    (h : S w.drew → wpAnyL P .any ops Q S late ops.size (Array.replicate ops.size false) a w.drew) : (Code.region id ops true).wp P Q a w :=
  wp_region_any hm (wpAny_of_L _ _ _ _ (h hS))
end
end Go.Proofs.Ytbknmfegckeogaa
