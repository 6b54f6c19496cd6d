/- The global queue's cut at one closure, by a walk: the first one of a kind is taken away, or there is none. Conditions: the queue is there, of at most 100000; the closure that tells the kind only reads. -/
import Derived.Test.YtdfpbbkdlalpcaaGloCut
namespace Go.Proofs.Ytdfpbbkdlalpcaa
open Go.RowKit Go.Shelf
attribute [local go_sem] Oper.semAt_some
set_option linter.unusedVariables false
set_option linter.unusedSimpArgs false

set_option maxRecDepth 100000 in
set_option maxHeartbeats 4000000 in
theorem cutR_in (f : Int → Bool) (c1 : Nat) (q : Nat) (N : List (Nat × Int)) (w : World) (h : Qu w q N) (hn : N.length ≤ 100000)
    (hso : ∀ g W, Below w.heap.size w W → Calls Try.prog 30 #[.int .i64 g, .pointer (some ⟨c1, 0, none⟩)] W fun e W' => e = .returned (.bool (f g)) ∧ ∃ n, W' = W.drewN n) :
    CallsIn Fence.wide 6 Try.prog 28 #[.pointer (some ⟨q, 0, none⟩), (.func (.func 30) #[] #[.pointer (some ⟨c1, 0, none⟩)])] w (CutPost f N w q) := by
  refine callsIn_of_wp_marks Try.func28 rfl trivial ?_ rfl
  simp only [Try.ntmps28, List.size_toArray, List.length_cons, List.length_nil, Nat.reduceAdd, Nat.reduceSub, Array.replicate_succ, Array.replicate_zero, List.push_toArray, List.append_toArray, List.nil_append, List.cons_append]
  gi_wp2_with fail
  refine ⟨trivial, ?_⟩
  refine (callsIn_wide.2 (each_any q _)).mono ?_
  rintro e w' ⟨rfl, rfl⟩
  gi_wp2_with fail
  have b0 := ((((Blk.new w 25 #[.pointer (some ⟨q, 0, none⟩)]).alloc (.cells #[(.func (.func 30) #[] #[.pointer (some ⟨c1, 0, none⟩)])] 52)).alloc (.cells #[.int .i64 0] 3)).alloc (.cells #[.bool false] 4)).alloc (.cells #[.pointer (some ⟨q, 0, none⟩)] 25)
  have b1 := (((Blk.new (w.alloc (.cells #[.pointer (some ⟨q, 0, none⟩)] 25)) 52 #[(.func (.func 30) #[] #[.pointer (some ⟨c1, 0, none⟩)])]).alloc (.cells #[.int .i64 0] 3)).alloc (.cells #[.bool false] 4)).alloc (.cells #[.pointer (some ⟨q, 0, none⟩)] 25)
  have b2 := ((Blk.new ((w.alloc (.cells #[.pointer (some ⟨q, 0, none⟩)] 25)).alloc (.cells #[(.func (.func 30) #[] #[.pointer (some ⟨c1, 0, none⟩)])] 52)) 3 #[.int .i64 0]).alloc (.cells #[.bool false] 4)).alloc (.cells #[.pointer (some ⟨q, 0, none⟩)] 25)
  have b3 := (Blk.new (((w.alloc (.cells #[.pointer (some ⟨q, 0, none⟩)] 25)).alloc (.cells #[(.func (.func 30) #[] #[.pointer (some ⟨c1, 0, none⟩)])] 52)).alloc (.cells #[.int .i64 0] 3)) 4 #[.bool false]).alloc (.cells #[.pointer (some ⟨q, 0, none⟩)] 25)
  have b4 := Blk.new ((((w.alloc (.cells #[.pointer (some ⟨q, 0, none⟩)] 25)).alloc (.cells #[(.func (.func 30) #[] #[.pointer (some ⟨c1, 0, none⟩)])] 52)).alloc (.cells #[.int .i64 0] 3)).alloc (.cells #[.bool false] 4)) 25 #[.pointer (some ⟨q, 0, none⟩)]
  have hB0 : Below w.heap.size w (((((w.alloc (.cells #[.pointer (some ⟨q, 0, none⟩)] 25)).alloc (.cells #[(.func (.func 30) #[] #[.pointer (some ⟨c1, 0, none⟩)])] 52)).alloc (.cells #[.int .i64 0] 3)).alloc (.cells #[.bool false] 4)).alloc (.cells #[.pointer (some ⟨q, 0, none⟩)] 25)) := (((((Below.refl _ w).alloc (Nat.le_refl _) _).alloc (by simp) _).alloc (by simp; omega) _).alloc (by simp; omega) _).alloc (by simp; omega) _
  have hsz : (((((w.alloc (.cells #[.pointer (some ⟨q, 0, none⟩)] 25)).alloc (.cells #[(.func (.func 30) #[] #[.pointer (some ⟨c1, 0, none⟩)])] 52)).alloc (.cells #[.int .i64 0] 3)).alloc (.cells #[.bool false] 4)).alloc (.cells #[.pointer (some ⟨q, 0, none⟩)] 25)).heap.size = w.heap.size + 1 + 1 + 1 + 1 + 1 := by simp
  simp only [World.size_alloc] at b1 b2 b3 b4
  generalize ((((w.alloc (.cells #[.pointer (some ⟨q, 0, none⟩)] 25)).alloc (.cells #[(.func (.func 30) #[] #[.pointer (some ⟨c1, 0, none⟩)])] 52)).alloc (.cells #[.int .i64 0] 3)).alloc (.cells #[.bool false] 4)).alloc (.cells #[.pointer (some ⟨q, 0, none⟩)] 25) = W0 at *
  have HSZ := Lib.hid hsz
  have hQ0 : Qu W0 q N := h.below hB0
  have hle : w.heap.size + 1 + 1 + 1 + 1 < W0.heap.size := by omega
  have hql : q < w.heap.size := h.lt q (.inl rfl)
  clear hsz
  refine wpIn_rangeFunc_ownF rfl (by omega) (gf := 34) (lb := #[.pointer (some ⟨w.heap.size + 1 + 1 + 1 + 1, 0, none⟩)]) rfl trivial (enters_of Try.func34 (by kernel_rfl) rfl)
    (each_stops (6 - 1) (by omega) (w.heap.size + 1 + 1 + 1 + 1) q N W0 b4 hQ0) (keepS_t _) (keepS_b (kept_lt hle hQ0)) (Below.refl _ _) (fun _ => rfl)
    (CutI f N w q (.func (.func 30) #[] #[.pointer (some ⟨c1, 0, none⟩)])) (CutX f N w q) (cutI_own f N w q _ (by omega)) (fun c => cutX_own f N w q (by omega) c)
    ⟨(fun y hy => by cases hy), b0, b1, b2, b3, b4, hB0⟩
    (fun x => { tmps := #[.pointer (some ⟨q, 0, none⟩), (.func (.func 30) #[] #[.pointer (some ⟨c1, 0, none⟩)]), .pointer (some ⟨w.heap.size, 0, none⟩), .pointer (some ⟨w.heap.size + 1, 0, none⟩), .pointer (some ⟨w.heap.size + 1 + 1, 0, none⟩), .pointer (some ⟨w.heap.size + 1 + 1 + 1, 0, none⟩), pt (bf N x.val), .pointer (some ⟨(N[x.val]'x.isLt).1, 0, none⟩), .pointer (some ⟨q, 0, none⟩), .func (.func 34) #[] #[.pointer (some ⟨w.heap.size + 1 + 1 + 1 + 1, 0, none⟩)], pt (bf N x.val), .pointer (some ⟨(N[x.val]'x.isLt).1, 0, none⟩), undef, undef, undef, undef, undef, undef, undef, undef, undef, undef, undef, undef, undef, undef, undef, undef, undef, undef, undef, undef, undef, undef, undef, undef, undef, undef, undef, undef, undef, undef, undef, undef, undef, undef, undef, undef, undef, undef, undef, undef, undef, undef, undef, undef], defers := [] }) ?assign ?body ?done ?stop
  case assign =>
    intro l x W K hK
    dsimp only [enc]
    gi_wp2
    exact hK
  case body =>
    rintro l pre x W ⟨hpre, d0, d1, d2, d3, d4, hB⟩ hlen
    have hQW := h.below hB
    have hx := hQW.row.at_ x.val x.isLt
    have hxl := x.isLt
    obtain ⟨b, hb⟩ : ∃ b, (N[x.val]'x.isLt).1 = b := ⟨_, rfl⟩
    obtain ⟨g, hg⟩ : ∃ g, (N[x.val]'x.isLt).2 = g := ⟨_, rfl⟩
    rw [hb, hg] at hx
    have hbl : bl q N b := .inr ⟨x.val, x.isLt, hb⟩
    have hbs : b < w.heap.size := h.lt b hbl
    have x0 := hx.cell 0
    have x1 := hx.cell 1
    have e0 := d0.cell 0
    have e1 := d1.cell 0
    simp only [List.getElem?_toArray, List.getElem?_cons_zero, List.getElem?_cons_succ] at x0 x1 e0 e1
    have CS := hso g
    dsimp only
    rw [hb]
    have hmx : Try.prog.follows .mixedOrders = true := by kernel_rfl
    have HX := Lib.hid hx
    have HQ := Lib.hid hQW
    have HB := Lib.hid hB
    have HP := Lib.hid hpre
    have HG := Lib.hid hg
    have HBB := Lib.hid hb
    clear hx hQW hpre hg hb
    by_cases hf : f g = true
    · have HF := Lib.hid hf
      rw [hf] at CS
      clear hf
      gi_wp2_with fail
      try dsimp only
      refine wpIn_round_quiet hmx (by rintro ⟨_, _, h⟩; exact h) (by kernel_rfl) (by kernel_rfl) ?_
      repeat (go_big_quiet_step ((go_at_call 30; exact Calls.quiet_of (CS _ (hB.drewN_ _)))))
      refine wpQuiet_nil ?_
      intro _ hw'
      obtain ⟨nq, hw''⟩ := hw'
      subst hw''
      obtain ⟨W1, hW1⟩ : ∃ W1 : World, W1 = W.drewN nq := ⟨_, rfl⟩
      rw [← hW1]
      have hB1 : Below w.heap.size w W1 := by rw [hW1]; exact HB.out.drewN_ _
      have hK1 : KeepsOthers W W1 := by rw [hW1]; exact drewN_keeps W _
      have hQ1 := h.below hB1
      have y0 : Blk W1 w.heap.size 25 #[.pointer (some ⟨q, 0, none⟩)] := by rw [hW1]; exact d0
      have y2 : Blk W1 (w.heap.size + 1 + 1) 3 #[.int .i64 0] := by rw [hW1]; exact d2
      have y3 : Blk W1 (w.heap.size + 1 + 1 + 1) 4 #[.bool false] := by rw [hW1]; exact d3
      have yx : Blk W1 b 60 #[.int .i64 g, pt (nd N (x.val + 1))] := by rw [hW1]; exact HX.out
      clear hW1 d0 d1 d2 d3 d4 e0 e1 x0 x1 CS hso hB
      obtain ⟨p1, hp1⟩ := pt_ptr (nd N (x.val + 1))
      obtain ⟨p0, hp0⟩ := pt_ptr (nd N 0)
      obtain ⟨bz, hbz⟩ : ∃ bz, (N[N.length - 1]'(by omega)).1 = bz := ⟨_, rfl⟩
      have yq := hQ1.head
      rw [nd_lt (N := N) (k := N.length - 1) (by omega), hbz, pt_some, hp0] at yq
      rw [hp1] at yx
      have hbzl : bz < w.heap.size := by rw [← hbz]; exact (h.row.at_ (N.length - 1) (by omega)).lt
      have hbzB : Blk W1 bz 60 #[.int .i64 (N[N.length - 1]'(by omega)).2, pt (nd N (N.length - 1 + 1))] := by rw [← hbz]; exact hQ1.row.at_ (N.length - 1) (by omega)
      have hbzq : bz ≠ q := by rw [← hbz]; exact h.ne (N.length - 1) (by omega)
      obtain ⟨j60, hj, hjs⟩ := infoNode
      have hbq : b ≠ q := by rw [← HBB.out]; exact h.ne x.val x.isLt
      have z0 := y0.cell 0
      have z1 := yq.cell 1
      have z2 := yq.cell 2
      have zx0 := yx.cell 0
      have zx1 := yx.cell 1
      have zc2 := y2.cell 0
      have zc3 := y3.cell 0
      have f0 := yq.frozen 0
      have f1 := yq.frozen 1
      have f2 := yq.frozen 2
      have g2 := y2.frozen 0
      have g3 := y3.frozen 0
      have zq0 := yq.cell 0
      simp only [List.getElem?_toArray, List.getElem?_cons_zero, List.getElem?_cons_succ] at z0 z1 z2 zx0 zx1 zc2 zc3 zq0
      have hxn : x.val < N.length := x.isLt
      have hqlt : q < W1.heap.size := yq.lt
      have hblt : b < W1.heap.size := yx.lt
      have hw1 : w.heap.size < W1.heap.size := y0.lt
      have YQ := Lib.hid yq
      have YX := Lib.hid yx
      have Y0 := Lib.hid y0
      have Y2 := Lib.hid y2
      have Y3 := Lib.hid y3
      have HP1 := Lib.hid hp1
      have HP0 := Lib.hid hp0
      have HBZ := Lib.hid hbz
      have HQ1 := Lib.hid hQ1
      have HB1 := Lib.hid hB1
      have HK1 := Lib.hid hK1
      have HZB := Lib.hid hbzB
      clear yq yx y0 y2 y3 hp1 hp0 hbz hQ1 hB1 hK1 hbzB
      obtain ⟨k, hk⟩ : ∃ k, x.val = k := ⟨_, rfl⟩
      have HKX := Lib.hid hk
      rcases k with _ | k
      · rw [hk, bf_zero, pt_none]
        by_cases hl : x.val + 1 = N.length
        · have hz : b = bz := by
            have e := HBZ.out
            rw [← e, ← HBB.out]
            congr 2
            omega
          subst hz
          have HL := Lib.hid hl
          have he := fun u => run_eql_ptr_same (P := Try.prog) u ⟨b, 0, none⟩ Try.underlying47 hj
          clear hl hk hj
          gi_wp2_with fail
          refine wpIn_round_held hmx (by rintro ⟨_, _, h⟩; exact h) (by kernel_rfl) (S := fun w' => w'.cell? ⟨w.heap.size, 0, none⟩ = some (.pointer (some ⟨q, 0, none⟩)) ∧ w'.cell? ⟨b, 1, none⟩ = some (.pointer p1)) ⟨z0, zx1⟩ (fun hHeld => ?_)
          refine wpAnyH_take (i := 0) (v := .pointer (some ⟨q, 0, none⟩)) rfl (by kernel_rfl) (by kernel_rfl) (by kernel_rfl) (fun _ _ _ h => h) (Or.inl ⟨by kernel_rfl, by (rintro w' ⟨s1, s2⟩; go_simp; first | done | (with_reducible rfl))⟩) hHeld ?_
          (try simp only [Act.put, List.getElem_toArray, List.getElem_cons_zero, List.getElem_cons_succ, List.setIfInBounds_toArray, List.set_cons_zero, List.set_cons_succ])
          refine wpAnyH_take (i := 1) (v := .pointer (some ⟨b, 0, none⟩)) rfl (by kernel_rfl) (by kernel_rfl) (by kernel_rfl) (fun _ _ _ h => h) (Or.inl ⟨by kernel_rfl, by (rintro w' ⟨s1, s2⟩; go_simp; first | done | (with_reducible rfl))⟩) hHeld ?_
          (try simp only [Act.put, List.getElem_toArray, List.getElem_cons_zero, List.getElem_cons_succ, List.setIfInBounds_toArray, List.set_cons_zero, List.set_cons_succ])
          refine wpAnyH_take (i := 2) (v := .pointer (some ⟨b, 0, none⟩)) rfl (by kernel_rfl) (by kernel_rfl) (by kernel_rfl) (fun _ _ _ h => h) (Or.inl ⟨by kernel_rfl, by (rintro w' ⟨s1, s2⟩; go_simp; first | done | (with_reducible rfl))⟩) hHeld ?_
          (try simp only [Act.put, List.getElem_toArray, List.getElem_cons_zero, List.getElem_cons_succ, List.setIfInBounds_toArray, List.set_cons_zero, List.set_cons_succ])
          refine wpAnyH_take (i := 3) (v := .pointer (some ⟨b, 1, none⟩)) rfl (by kernel_rfl) (by kernel_rfl) (by kernel_rfl) (fun _ _ _ h => h) (Or.inl ⟨by kernel_rfl, by (rintro w' ⟨s1, s2⟩; go_simp; first | done | (with_reducible rfl))⟩) hHeld ?_
          (try simp only [Act.put, List.getElem_toArray, List.getElem_cons_zero, List.getElem_cons_succ, List.setIfInBounds_toArray, List.set_cons_zero, List.set_cons_succ])
          refine wpAnyH_take (i := 4) (v := .pointer p1) rfl (by kernel_rfl) (by kernel_rfl) (by kernel_rfl) (fun _ _ _ h => h) (Or.inl ⟨by kernel_rfl, by (rintro w' ⟨s1, s2⟩; go_simp; first | done | (with_reducible rfl))⟩) hHeld ?_
          (try simp only [Act.put, List.getElem_toArray, List.getElem_cons_zero, List.getElem_cons_succ, List.setIfInBounds_toArray, List.set_cons_zero, List.set_cons_succ])
          refine wpAnyH_take (i := 5) (v := .pointer (some ⟨q, 0, none⟩)) rfl (by kernel_rfl) (by kernel_rfl) (by kernel_rfl) (fun _ _ _ h => h) (Or.inl ⟨by kernel_rfl, by (rintro w' ⟨s1, s2⟩; go_simp; first | done | (with_reducible rfl))⟩) hHeld ?_
          (try simp only [Act.put, List.getElem_toArray, List.getElem_cons_zero, List.getElem_cons_succ, List.setIfInBounds_toArray, List.set_cons_zero, List.set_cons_succ])
          refine wpAnyH_take (i := 6) (v := .pointer (some ⟨q, 0, none⟩)) rfl (by kernel_rfl) (by kernel_rfl) (by kernel_rfl) (fun _ _ _ h => h) (Or.inl ⟨by kernel_rfl, by (rintro w' ⟨s1, s2⟩; go_simp; first | done | (with_reducible rfl))⟩) hHeld ?_
          (try simp only [Act.put, List.getElem_toArray, List.getElem_cons_zero, List.getElem_cons_succ, List.setIfInBounds_toArray, List.set_cons_zero, List.set_cons_succ])
          refine wpAnyH_ready (rs := [7]) (by kernel_rfl) (by simp) ?_
          refine AllReadyH.cons rfl (fun K hK => ?_) AllReadyH.nil
          go_simp
          clear hHeld
          refine hK.out _ _ ⟨(World.cell?_setCell_far _ _ _ _ (show q ≠ w.heap.size by omega)).trans z0, (World.cell?_setCell_far _ _ _ _ hbq.symm).trans zx1⟩ (fun hHeld => ?_)
          clear hK K
          (try simp only [Act.put, List.getElem_toArray, List.getElem_cons_zero, List.getElem_cons_succ, List.setIfInBounds_toArray, List.set_cons_zero, List.set_cons_succ])
          refine wpAnyH_done (by kernel_rfl) ?_ _
          gi_wp2
          have hkx := HKX.out
          have hll := HL.out
          have hnum : ((N.length - 1 : Nat) : Int) = (N.length : Int) - 1 := by omega
          refine ⟨((((((HK1.out.trans (KeepsOthers.setCell _ ⟨q, 0, none⟩ (.pointer p1))).trans (KeepsOthers.setCell _ ⟨q, 1, none⟩ (.pointer none))).trans (KeepsOthers.setCell _ ⟨q, 2, none⟩ (.int .i64 ((N.length : Int) - 1)))).trans (KeepsOthers.setCell _ ⟨w.heap.size + 1 + 1, 0, none⟩ (.int .i64 g))).trans (KeepsOthers.setCell _ ⟨w.heap.size + 1 + 1 + 1, 0, none⟩ (.bool true))).trans (KeepsOthers.drew _)), pre, x, rfl, rfl, HP.out, by rw [HG.out]; exact HF.out, ?_, ?_, ?_, ?_⟩
          · refine Qu.gone HQ1.out x.val x.isLt ?_ ?_ ?_
            · have hp1 := HP1.out
              rw [if_pos hkx, if_pos hll, hnum]
              rw [hkx] at hp1
              rw [hp1]
              rw [hkx, bf_zero, pt_none]
              have hzq := (((((YQ.out.set_ 0 (.pointer p1)).set_ 1 (.pointer none)).set_ 2 (.int .i64 ((N.length : Int) - 1))).far (p := ⟨w.heap.size + 1 + 1, 0, none⟩) (by simp; omega) (.int .i64 g)).far (p := ⟨w.heap.size + 1 + 1 + 1, 0, none⟩) (by simp; omega) (.bool true)).drew
              exact hzq
            · intro k' hk' _
              omega
            · intro j hj hj1 hj2
              have hjq := h.ne j hj
              have hjl := (h.row.at_ j hj).lt
              exact (Below.heap_setCell _ ⟨w.heap.size + 1 + 1 + 1, 0, none⟩ (.bool true) _ (by simp; omega)).trans ((Below.heap_setCell _ ⟨w.heap.size + 1 + 1, 0, none⟩ (.int .i64 g) _ (by simp; omega)).trans ((Below.heap_setCell _ ⟨q, 2, none⟩ (.int .i64 ((N.length : Int) - 1)) _ (hjq)).trans ((Below.heap_setCell _ ⟨q, 1, none⟩ (.pointer none) _ (hjq)).trans (Below.heap_setCell _ ⟨q, 0, none⟩ (.pointer p1) _ (hjq)))))
          · rw [HG.out]
            exact (((((Y2.out.far (p := ⟨q, 0, none⟩) (by simp; omega) (.pointer p1)).far (p := ⟨q, 1, none⟩) (by simp; omega) (.pointer none)).far (p := ⟨q, 2, none⟩) (by simp; omega) (.int .i64 ((N.length : Int) - 1))).set_ 0 (.int .i64 g)).far (p := ⟨w.heap.size + 1 + 1 + 1, 0, none⟩) (by simp) (.bool true)).drew
          · have hzq := (((((Y3.out.far (p := ⟨q, 0, none⟩) (by simp; omega) (.pointer p1)).far (p := ⟨q, 1, none⟩) (by simp; omega) (.pointer none)).far (p := ⟨q, 2, none⟩) (by simp; omega) (.int .i64 ((N.length : Int) - 1))).far (p := ⟨w.heap.size + 1 + 1, 0, none⟩) (by simp) (.int .i64 g)).set_ 0 (.bool true)).drew
            exact hzq
          · exact ((((((Apart.of_below HB1.out).setCell (p := ⟨q, 0, none⟩) (.inl (.inl rfl)) (.pointer p1)).setCell (p := ⟨q, 1, none⟩) (.inl (.inl rfl)) (.pointer none)).setCell (p := ⟨q, 2, none⟩) (.inl (.inl rfl)) (.int .i64 ((N.length : Int) - 1))).setCell (p := ⟨w.heap.size + 1 + 1, 0, none⟩) (.inr (by simp; omega)) (.int .i64 g)).setCell (p := ⟨w.heap.size + 1 + 1 + 1, 0, none⟩) (.inr (by simp; omega)) (.bool true)).drew
        · have hz : bz ≠ b := by
            intro e
            rw [← HBZ.out, ← HBB.out] at e
            have := h.row.inj _ _ _ _ e
            omega
          have HL := Lib.hid hl
          have he := run_eql_ptr_other (P := Try.prog) (W1.setCell ⟨q, 0, none⟩ (.pointer p1)).drew Try.underlying47 hj hjs (show (⟨bz, 0, none⟩ : Addr) ≠ ⟨b, 0, none⟩ from fun e => hz (by injection e)) (HZB.out.far (p := ⟨q, 0, none⟩) hbzq _) (YX.out.far (p := ⟨q, 0, none⟩) hbq _)
          clear hl hk hj
          gi_wp2_with fail
          refine wpIn_round_held hmx (by rintro ⟨_, _, h⟩; exact h) (by kernel_rfl) (S := fun w' => w'.cell? ⟨w.heap.size, 0, none⟩ = some (.pointer (some ⟨q, 0, none⟩)) ∧ w'.cell? ⟨b, 1, none⟩ = some (.pointer p1)) ⟨z0, zx1⟩ (fun hHeld => ?_)
          refine wpAnyH_take (i := 0) (v := .pointer (some ⟨q, 0, none⟩)) rfl (by kernel_rfl) (by kernel_rfl) (by kernel_rfl) (fun _ _ _ h => h) (Or.inl ⟨by kernel_rfl, by (rintro w' ⟨s1, s2⟩; go_simp; first | done | (with_reducible rfl))⟩) hHeld ?_
          (try simp only [Act.put, List.getElem_toArray, List.getElem_cons_zero, List.getElem_cons_succ, List.setIfInBounds_toArray, List.set_cons_zero, List.set_cons_succ])
          refine wpAnyH_take (i := 1) (v := .pointer (some ⟨b, 0, none⟩)) rfl (by kernel_rfl) (by kernel_rfl) (by kernel_rfl) (fun _ _ _ h => h) (Or.inl ⟨by kernel_rfl, by (rintro w' ⟨s1, s2⟩; go_simp; first | done | (with_reducible rfl))⟩) hHeld ?_
          (try simp only [Act.put, List.getElem_toArray, List.getElem_cons_zero, List.getElem_cons_succ, List.setIfInBounds_toArray, List.set_cons_zero, List.set_cons_succ])
          refine wpAnyH_take (i := 2) (v := .pointer (some ⟨b, 0, none⟩)) rfl (by kernel_rfl) (by kernel_rfl) (by kernel_rfl) (fun _ _ _ h => h) (Or.inl ⟨by kernel_rfl, by (rintro w' ⟨s1, s2⟩; go_simp; first | done | (with_reducible rfl))⟩) hHeld ?_
          (try simp only [Act.put, List.getElem_toArray, List.getElem_cons_zero, List.getElem_cons_succ, List.setIfInBounds_toArray, List.set_cons_zero, List.set_cons_succ])
          refine wpAnyH_take (i := 3) (v := .pointer (some ⟨b, 1, none⟩)) rfl (by kernel_rfl) (by kernel_rfl) (by kernel_rfl) (fun _ _ _ h => h) (Or.inl ⟨by kernel_rfl, by (rintro w' ⟨s1, s2⟩; go_simp; first | done | (with_reducible rfl))⟩) hHeld ?_
          (try simp only [Act.put, List.getElem_toArray, List.getElem_cons_zero, List.getElem_cons_succ, List.setIfInBounds_toArray, List.set_cons_zero, List.set_cons_succ])
          refine wpAnyH_take (i := 4) (v := .pointer p1) rfl (by kernel_rfl) (by kernel_rfl) (by kernel_rfl) (fun _ _ _ h => h) (Or.inl ⟨by kernel_rfl, by (rintro w' ⟨s1, s2⟩; go_simp; first | done | (with_reducible rfl))⟩) hHeld ?_
          (try simp only [Act.put, List.getElem_toArray, List.getElem_cons_zero, List.getElem_cons_succ, List.setIfInBounds_toArray, List.set_cons_zero, List.set_cons_succ])
          refine wpAnyH_take (i := 5) (v := .pointer (some ⟨q, 0, none⟩)) rfl (by kernel_rfl) (by kernel_rfl) (by kernel_rfl) (fun _ _ _ h => h) (Or.inl ⟨by kernel_rfl, by (rintro w' ⟨s1, s2⟩; go_simp; first | done | (with_reducible rfl))⟩) hHeld ?_
          (try simp only [Act.put, List.getElem_toArray, List.getElem_cons_zero, List.getElem_cons_succ, List.setIfInBounds_toArray, List.set_cons_zero, List.set_cons_succ])
          refine wpAnyH_take (i := 6) (v := .pointer (some ⟨q, 0, none⟩)) rfl (by kernel_rfl) (by kernel_rfl) (by kernel_rfl) (fun _ _ _ h => h) (Or.inl ⟨by kernel_rfl, by (rintro w' ⟨s1, s2⟩; go_simp; first | done | (with_reducible rfl))⟩) hHeld ?_
          (try simp only [Act.put, List.getElem_toArray, List.getElem_cons_zero, List.getElem_cons_succ, List.setIfInBounds_toArray, List.set_cons_zero, List.set_cons_succ])
          refine wpAnyH_ready (rs := [7]) (by kernel_rfl) (by simp) ?_
          refine AllReadyH.cons rfl (fun K hK => ?_) AllReadyH.nil
          go_simp
          clear hHeld
          refine hK.out _ _ ⟨(World.cell?_setCell_far _ _ _ _ (show q ≠ w.heap.size by omega)).trans z0, (World.cell?_setCell_far _ _ _ _ hbq.symm).trans zx1⟩ (fun hHeld => ?_)
          clear hK K
          (try simp only [Act.put, List.getElem_toArray, List.getElem_cons_zero, List.getElem_cons_succ, List.setIfInBounds_toArray, List.set_cons_zero, List.set_cons_succ])
          refine wpAnyH_done (by kernel_rfl) ?_ _
          gi_wp2
          have hkx := HKX.out
          have hll := HL.out
          have hnum : ((N.length - 1 : Nat) : Int) = (N.length : Int) - 1 := by omega
          refine ⟨(((((HK1.out.trans (KeepsOthers.setCell _ ⟨q, 0, none⟩ (.pointer p1))).trans (KeepsOthers.setCell _ ⟨q, 2, none⟩ (.int .i64 ((N.length : Int) - 1)))).trans (KeepsOthers.setCell _ ⟨w.heap.size + 1 + 1, 0, none⟩ (.int .i64 g))).trans (KeepsOthers.setCell _ ⟨w.heap.size + 1 + 1 + 1, 0, none⟩ (.bool true))).trans (KeepsOthers.drew _)), pre, x, rfl, rfl, HP.out, by rw [HG.out]; exact HF.out, ?_, ?_, ?_, ?_⟩
          · refine Qu.gone HQ1.out x.val x.isLt ?_ ?_ ?_
            · have hp1 := HP1.out
              rw [if_pos hkx, if_neg hll, hnum]
              rw [hkx] at hp1
              rw [hp1]
              rw [nd_lt (N := N) (k := N.length - 1) (by omega), HBZ.out, pt_some]
              have hzq := ((((YQ.out.set_ 0 (.pointer p1)).set_ 2 (.int .i64 ((N.length : Int) - 1))).far (p := ⟨w.heap.size + 1 + 1, 0, none⟩) (by simp; omega) (.int .i64 g)).far (p := ⟨w.heap.size + 1 + 1 + 1, 0, none⟩) (by simp; omega) (.bool true)).drew
              exact hzq
            · intro k' hk' _
              omega
            · intro j hj hj1 hj2
              have hjq := h.ne j hj
              have hjl := (h.row.at_ j hj).lt
              exact (Below.heap_setCell _ ⟨w.heap.size + 1 + 1 + 1, 0, none⟩ (.bool true) _ (by simp; omega)).trans ((Below.heap_setCell _ ⟨w.heap.size + 1 + 1, 0, none⟩ (.int .i64 g) _ (by simp; omega)).trans ((Below.heap_setCell _ ⟨q, 2, none⟩ (.int .i64 ((N.length : Int) - 1)) _ (hjq)).trans (Below.heap_setCell _ ⟨q, 0, none⟩ (.pointer p1) _ (hjq))))
          · rw [HG.out]
            exact ((((Y2.out.far (p := ⟨q, 0, none⟩) (by simp; omega) (.pointer p1)).far (p := ⟨q, 2, none⟩) (by simp; omega) (.int .i64 ((N.length : Int) - 1))).set_ 0 (.int .i64 g)).far (p := ⟨w.heap.size + 1 + 1 + 1, 0, none⟩) (by simp) (.bool true)).drew
          · have hzq := ((((Y3.out.far (p := ⟨q, 0, none⟩) (by simp; omega) (.pointer p1)).far (p := ⟨q, 2, none⟩) (by simp; omega) (.int .i64 ((N.length : Int) - 1))).far (p := ⟨w.heap.size + 1 + 1, 0, none⟩) (by simp) (.int .i64 g)).set_ 0 (.bool true)).drew
            exact hzq
          · exact (((((Apart.of_below HB1.out).setCell (p := ⟨q, 0, none⟩) (.inl (.inl rfl)) (.pointer p1)).setCell (p := ⟨q, 2, none⟩) (.inl (.inl rfl)) (.int .i64 ((N.length : Int) - 1))).setCell (p := ⟨w.heap.size + 1 + 1, 0, none⟩) (.inr (by simp; omega)) (.int .i64 g)).setCell (p := ⟨w.heap.size + 1 + 1 + 1, 0, none⟩) (.inr (by simp; omega)) (.bool true)).drew
      · have hkl : k < N.length := by omega
        obtain ⟨b', hb'⟩ : ∃ b', (N[k]'hkl).1 = b' := ⟨_, rfl⟩
        obtain ⟨g', hg'⟩ : ∃ g', (N[k]'hkl).2 = g' := ⟨_, rfl⟩
        have yy := HQ1.out.row.at_ k hkl
        rw [hb', hg'] at yy
        have hbl' : b' < w.heap.size := by rw [← hb']; exact (h.row.at_ k hkl).lt
        have hbq' : b' ≠ q := by rw [← hb']; exact h.ne k hkl
        have hbb : b ≠ b' := by
          intro e
          rw [← HBB.out, ← hb'] at e
          have := h.row.inj _ _ _ _ e
          omega
        have hnk : nd N k = some b' := by rw [nd_lt hkl, hb']
        have yy1 := yy.cell 1
        have yf1 := yy.frozen 1
        simp only [List.getElem?_toArray, List.getElem?_cons_zero, List.getElem?_cons_succ] at yy1
        have hyl := yy.lt
        rw [hk, bf_succ, hnk, pt_some]
        rw [← hk] at yy yy1
        have YY := Lib.hid yy
        have HB' := Lib.hid hb'
        have HG' := Lib.hid hg'
        have HNK := Lib.hid hnk
        by_cases hl : x.val + 1 = N.length
        · have hz : b = bz := by
            have e := HBZ.out
            rw [← e, ← HBB.out]
            congr 2
            omega
          subst hz
          have HL := Lib.hid hl
          have he := fun u => run_eql_ptr_same (P := Try.prog) u ⟨b, 0, none⟩ Try.underlying47 hj
          clear hl hk hj yy hb' hg' hnk
          gi_wp2
          have hkx := HKX.out
          have hll := HL.out
          have hnum : ((N.length - 1 : Nat) : Int) = (N.length : Int) - 1 := by omega
          refine ⟨(((((HK1.out.trans (KeepsOthers.setCell _ ⟨b', 1, none⟩ (.pointer p1))).trans (KeepsOthers.setCell _ ⟨q, 1, none⟩ (.pointer (some ⟨b', 0, none⟩)))).trans (KeepsOthers.setCell _ ⟨q, 2, none⟩ (.int .i64 ((N.length : Int) - 1)))).trans (KeepsOthers.setCell _ ⟨w.heap.size + 1 + 1, 0, none⟩ (.int .i64 g))).trans (KeepsOthers.setCell _ ⟨w.heap.size + 1 + 1 + 1, 0, none⟩ (.bool true))), pre, x, rfl, rfl, HP.out, by rw [HG.out]; exact HF.out, ?_, ?_, ?_, ?_⟩
          · refine Qu.gone HQ1.out x.val x.isLt ?_ ?_ ?_
            · have hp1 := HP1.out
              rw [if_neg (by omega), if_pos hll, hnum]
              rw [HP0.out]
              rw [hkx, bf_succ, HNK.out, pt_some]
              have hzq := (((((YQ.out.far (p := ⟨b', 1, none⟩) (hbq'.symm) (.pointer p1)).set_ 1 (.pointer (some ⟨b', 0, none⟩))).set_ 2 (.int .i64 ((N.length : Int) - 1))).far (p := ⟨w.heap.size + 1 + 1, 0, none⟩) (by simp; omega) (.int .i64 g)).far (p := ⟨w.heap.size + 1 + 1 + 1, 0, none⟩) (by simp; omega) (.bool true))
              exact hzq
            · intro k' hk' hkl'
              obtain rfl : k' = k := by omega
              rw [HB'.out, HG'.out, HP1.out]
              have hzq := (((((YY.out.set_ 1 (.pointer p1)).far (p := ⟨q, 1, none⟩) (hbq') (.pointer (some ⟨b', 0, none⟩))).far (p := ⟨q, 2, none⟩) (hbq') (.int .i64 ((N.length : Int) - 1))).far (p := ⟨w.heap.size + 1 + 1, 0, none⟩) (by simp; omega) (.int .i64 g)).far (p := ⟨w.heap.size + 1 + 1 + 1, 0, none⟩) (by simp; omega) (.bool true))
              exact hzq
            · intro j hj hj1 hj2
              have hjq := h.ne j hj
              have hjl := (h.row.at_ j hj).lt
              have hjb : (N[j]).1 ≠ b' := by
                intro e
                rw [← HB'.out] at e
                have := h.row.inj _ _ _ _ e
                omega
              exact (Below.heap_setCell _ ⟨w.heap.size + 1 + 1 + 1, 0, none⟩ (.bool true) _ (by simp; omega)).trans ((Below.heap_setCell _ ⟨w.heap.size + 1 + 1, 0, none⟩ (.int .i64 g) _ (by simp; omega)).trans ((Below.heap_setCell _ ⟨q, 2, none⟩ (.int .i64 ((N.length : Int) - 1)) _ (hjq)).trans ((Below.heap_setCell _ ⟨q, 1, none⟩ (.pointer (some ⟨b', 0, none⟩)) _ (hjq)).trans (Below.heap_setCell _ ⟨b', 1, none⟩ (.pointer p1) _ (hjb)))))
          · rw [HG.out]
            exact (((((Y2.out.far (p := ⟨b', 1, none⟩) (by simp; omega) (.pointer p1)).far (p := ⟨q, 1, none⟩) (by simp; omega) (.pointer (some ⟨b', 0, none⟩))).far (p := ⟨q, 2, none⟩) (by simp; omega) (.int .i64 ((N.length : Int) - 1))).set_ 0 (.int .i64 g)).far (p := ⟨w.heap.size + 1 + 1 + 1, 0, none⟩) (by simp) (.bool true))
          · have hzq := (((((Y3.out.far (p := ⟨b', 1, none⟩) (by simp; omega) (.pointer p1)).far (p := ⟨q, 1, none⟩) (by simp; omega) (.pointer (some ⟨b', 0, none⟩))).far (p := ⟨q, 2, none⟩) (by simp; omega) (.int .i64 ((N.length : Int) - 1))).far (p := ⟨w.heap.size + 1 + 1, 0, none⟩) (by simp) (.int .i64 g)).set_ 0 (.bool true))
            exact hzq
          · exact ((((((Apart.of_below HB1.out).setCell (p := ⟨b', 1, none⟩) (.inl (.inr ⟨k, by omega, HB'.out⟩)) (.pointer p1)).setCell (p := ⟨q, 1, none⟩) (.inl (.inl rfl)) (.pointer (some ⟨b', 0, none⟩))).setCell (p := ⟨q, 2, none⟩) (.inl (.inl rfl)) (.int .i64 ((N.length : Int) - 1))).setCell (p := ⟨w.heap.size + 1 + 1, 0, none⟩) (.inr (by simp; omega)) (.int .i64 g)).setCell (p := ⟨w.heap.size + 1 + 1 + 1, 0, none⟩) (.inr (by simp; omega)) (.bool true))
        · have hz : bz ≠ b := by
            intro e
            rw [← HBZ.out, ← HBB.out] at e
            have := h.row.inj _ _ _ _ e
            omega
          have HL := Lib.hid hl
          have hzz : ∃ cs, Blk (W1.setCell ⟨b', 1, none⟩ (.pointer p1)) bz 60 cs := by
            by_cases e : bz = b'
            · rw [e]
              exact ⟨_, yy.set_ 1 _⟩
            · exact ⟨_, HZB.out.far (p := ⟨b', 1, none⟩) e _⟩
          obtain ⟨zcs, hzz⟩ := hzz
          have he := run_eql_ptr_other (P := Try.prog) (W1.setCell ⟨b', 1, none⟩ (.pointer p1)) Try.underlying47 hj hjs (show (⟨bz, 0, none⟩ : Addr) ≠ ⟨b, 0, none⟩ from fun e => hz (by injection e)) hzz (YX.out.far (p := ⟨b', 1, none⟩) hbb _)
          clear hl hk hj yy hb' hg' hnk hzz
          gi_wp2
          have hkx := HKX.out
          have hll := HL.out
          have hnum : ((N.length - 1 : Nat) : Int) = (N.length : Int) - 1 := by omega
          refine ⟨((((HK1.out.trans (KeepsOthers.setCell _ ⟨b', 1, none⟩ (.pointer p1))).trans (KeepsOthers.setCell _ ⟨q, 2, none⟩ (.int .i64 ((N.length : Int) - 1)))).trans (KeepsOthers.setCell _ ⟨w.heap.size + 1 + 1, 0, none⟩ (.int .i64 g))).trans (KeepsOthers.setCell _ ⟨w.heap.size + 1 + 1 + 1, 0, none⟩ (.bool true))), pre, x, rfl, rfl, HP.out, by rw [HG.out]; exact HF.out, ?_, ?_, ?_, ?_⟩
          · refine Qu.gone HQ1.out x.val x.isLt ?_ ?_ ?_
            · have hp1 := HP1.out
              rw [if_neg (by omega), if_neg hll, hnum]
              rw [HP0.out]
              rw [nd_lt (N := N) (k := N.length - 1) (by omega), HBZ.out, pt_some]
              have hzq := ((((YQ.out.far (p := ⟨b', 1, none⟩) (hbq'.symm) (.pointer p1)).set_ 2 (.int .i64 ((N.length : Int) - 1))).far (p := ⟨w.heap.size + 1 + 1, 0, none⟩) (by simp; omega) (.int .i64 g)).far (p := ⟨w.heap.size + 1 + 1 + 1, 0, none⟩) (by simp; omega) (.bool true))
              exact hzq
            · intro k' hk' hkl'
              obtain rfl : k' = k := by omega
              rw [HB'.out, HG'.out, HP1.out]
              have hzq := ((((YY.out.set_ 1 (.pointer p1)).far (p := ⟨q, 2, none⟩) (hbq') (.int .i64 ((N.length : Int) - 1))).far (p := ⟨w.heap.size + 1 + 1, 0, none⟩) (by simp; omega) (.int .i64 g)).far (p := ⟨w.heap.size + 1 + 1 + 1, 0, none⟩) (by simp; omega) (.bool true))
              exact hzq
            · intro j hj hj1 hj2
              have hjq := h.ne j hj
              have hjl := (h.row.at_ j hj).lt
              have hjb : (N[j]).1 ≠ b' := by
                intro e
                rw [← HB'.out] at e
                have := h.row.inj _ _ _ _ e
                omega
              exact (Below.heap_setCell _ ⟨w.heap.size + 1 + 1 + 1, 0, none⟩ (.bool true) _ (by simp; omega)).trans ((Below.heap_setCell _ ⟨w.heap.size + 1 + 1, 0, none⟩ (.int .i64 g) _ (by simp; omega)).trans ((Below.heap_setCell _ ⟨q, 2, none⟩ (.int .i64 ((N.length : Int) - 1)) _ (hjq)).trans (Below.heap_setCell _ ⟨b', 1, none⟩ (.pointer p1) _ (hjb))))
          · rw [HG.out]
            exact ((((Y2.out.far (p := ⟨b', 1, none⟩) (by simp; omega) (.pointer p1)).far (p := ⟨q, 2, none⟩) (by simp; omega) (.int .i64 ((N.length : Int) - 1))).set_ 0 (.int .i64 g)).far (p := ⟨w.heap.size + 1 + 1 + 1, 0, none⟩) (by simp) (.bool true))
          · have hzq := ((((Y3.out.far (p := ⟨b', 1, none⟩) (by simp; omega) (.pointer p1)).far (p := ⟨q, 2, none⟩) (by simp; omega) (.int .i64 ((N.length : Int) - 1))).far (p := ⟨w.heap.size + 1 + 1, 0, none⟩) (by simp) (.int .i64 g)).set_ 0 (.bool true))
            exact hzq
          · exact (((((Apart.of_below HB1.out).setCell (p := ⟨b', 1, none⟩) (.inl (.inr ⟨k, by omega, HB'.out⟩)) (.pointer p1)).setCell (p := ⟨q, 2, none⟩) (.inl (.inl rfl)) (.int .i64 ((N.length : Int) - 1))).setCell (p := ⟨w.heap.size + 1 + 1, 0, none⟩) (.inr (by simp; omega)) (.int .i64 g)).setCell (p := ⟨w.heap.size + 1 + 1 + 1, 0, none⟩) (.inr (by simp; omega)) (.bool true))
    · have hff : f g = false := by simpa using hf
      rw [hff] at CS
      have HF := Lib.hid hff
      clear hf hff
      gi_wp2_with fail
      try dsimp only
      refine wpIn_round_quiet hmx (by rintro ⟨_, _, h⟩; exact h) (by kernel_rfl) (by kernel_rfl) ?_
      repeat (go_big_quiet_step ((go_at_call 30; exact Calls.quiet_of (CS _ (hB.drewN_ _)))))
      refine wpQuiet_nil ?_
      intro _ hw'
      obtain ⟨nq, hw''⟩ := hw'
      subst hw''
      gi_wp2
      refine ⟨drewN_keeps W _, fun k hk => rfl, ⟨fun y hy => ?_, d0, d1, d2, d3, d4, HB.out.drewN_ _⟩⟩
      rcases List.mem_append.1 hy with hy | hy
      · exact HP.out y hy
      · rw [List.mem_singleton.1 hy, HG.out]
        exact HF.out
  case done =>
    rintro D ys W hD rfl ⟨hpre, d0, d1, d2, d3, d4, hB⟩ hK
    have e2 := d2.cell 0
    have e3 := d3.cell 0
    have f2 := d2.frozen 0
    have f3 := d3.frozen 0
    simp only [List.getElem?_toArray, List.getElem?_cons_zero, List.getElem?_cons_succ] at e2 e3
    gi_wp2_with fail
    have hK2 := ((KeepsOthers.setCell W ⟨w.heap.size + 1 + 1, 0, none⟩ (.int .i64 0)).trans (KeepsOthers.setCell _ ⟨w.heap.size + 1 + 1 + 1, 0, none⟩ (.bool false))).same D _ hK rfl
    have k2 := ((d2.set_ 0 (.int .i64 0)).far (p := ⟨w.heap.size + 1 + 1 + 1, 0, none⟩) (by simp) (.bool false)).cell 0
    have k3 := ((d3.far (p := ⟨w.heap.size + 1 + 1, 0, none⟩) (by simp) (.int .i64 0)).set_ 0 (.bool false)).cell 0
    have r2 := cell_kept k2 (grownBy_putObj' _ D (.deferred none)) (fun r e => by cases e; exact ⟨_, hK2, rfl⟩)
    have r3 := cell_kept k3 (grownBy_putObj' _ D (.deferred none)) (fun r e => by cases e; exact ⟨_, hK2, rfl⟩)
    have hDl : W0.heap.size ≤ D := hD
    refine ⟨by simp, .inl ⟨_, _, rfl, run_takeDeferred hK2, ?_⟩⟩
    refine ⟨.tuple #[.int .i64 0, .bool false], ?_, .inr ⟨fun j hj => ?_, rfl, ((hB.setCell (p := ⟨w.heap.size + 1 + 1, 0, none⟩) (by simp; omega) _).setCell (p := ⟨w.heap.size + 1 + 1 + 1, 0, none⟩) (by simp; omega) _).trans (belowK_b (w := w) (Nat.le_refl _) _ D _ _ (by omega) hK2 rfl rfl)⟩⟩
    · simp [results, Try.f28, go_sem, r2, r3]
    · have := hpre ⟨j, by simpa [vals] using hj⟩ (List.mem_finRange _)
      simpa [vals] using this
  case stop =>
    rintro D c pre W hD hpf ⟨pre0, x, rfl, rfl, hpre, hfx, hQ', d2, d3, hA⟩ hK
    have e2 := d2.cell 0
    have e3 := d3.cell 0
    simp only [List.getElem?_toArray, List.getElem?_cons_zero, List.getElem?_cons_succ] at e2 e3
    obtain ⟨hx1, hx2⟩ := fin_prefix hpf
    gi_wp2_with fail
    have r2 := cell_kept e2 (grownBy_putObj' _ D (.deferred none)) (fun r e => by cases e; exact ⟨_, hK, rfl⟩)
    have r3 := cell_kept e3 (grownBy_putObj' _ D (.deferred none)) (fun r e => by cases e; exact ⟨_, hK, rfl⟩)
    refine ⟨by simp, .inl ⟨_, _, rfl, run_takeDeferred hK, ?_⟩⟩
    refine ⟨.tuple #[.int .i64 (N[x.val]'x.isLt).2, .bool true], ?_, .inl ⟨x.val, ⟨by rw [vals_len]; exact x.isLt, by simpa [vals] using hfx, fun j hj => ?_⟩, x.isLt, rfl, ?_, ?_⟩⟩
    · simp [results, Try.f28, go_sem, r2, r3]
    · have := hpre _ (hx2 j (by have := x.isLt; omega) hj)
      simpa [vals] using this
    · exact ownFrom_qu (β := Unit) (B := D) q (fun _ => N.eraseIdx x.val) () _ _ _ hQ' (grownBy_putObj' _ D (.deferred none)) (fun r e => by cases e; exact ⟨Nat.le_refl _, _, hK, rfl⟩)
    · exact hA.grown (grownBy_putObj' _ D (.deferred none)) (fun r e => by cases e; omega)

theorem cutR_is (f : Int → Bool) (c1 : Nat) (q : Nat) (N : List (Nat × Int)) (w : World) (h : Qu w q N) (hn : N.length ≤ 100000)
    (hso : ∀ g W, Below w.heap.size w W → Calls Try.prog 30 #[.int .i64 g, .pointer (some ⟨c1, 0, none⟩)] W fun e W' => e = .returned (.bool (f g)) ∧ ∃ n, W' = W.drewN n) :
    Calls Try.prog 28 #[.pointer (some ⟨q, 0, none⟩), (.func (.func 30) #[] #[.pointer (some ⟨c1, 0, none⟩)])] w (CutPost f N w q) := callsIn_wide.1 (cutR_in f c1 q N w h hn hso)
end Go.Proofs.Ytdfpbbkdlalpcaa
