/- ConfigCopies, by a walk. -/
import Derived.Test.YtoigapnpmhogdaaCfMay
import Derived.Test.YtoigapnpmhogdaaCfMut
namespace Go.Proofs.Ytoigapnpmhogdaa
open Go.RowKit
set_option linter.unusedVariables false
set_option linter.unusedSimpArgs false

theorem sameN_comm (c d : Nat → Int) : sameN d c = sameN c d := by
  unfold sameN
  congr 1
  funext k
  rw [Bool.eq_iff_iff, beq_iff_eq, beq_iff_eq]
  exact eq_comm

set_option maxRecDepth 100000 in
set_option maxHeartbeats 8000000 in
theorem copies_walk (c d : Nat → Int) (A A2 : Option Addr) (cap cap2 : Nat) (L M : List (List UInt8)) (w : World) (h : PrAt w w.heap.size A L) (h' : PrAt w w.heap.size A2 M) (hl : L.length < 2 ^ 62) (hl' : M.length < 2 ^ 62) (hl2 : ∀ x ∈ L, x.length ≤ 2 ^ 50) (hl2' : ∀ x ∈ M, x.length ≤ 2 ^ 50) :
    Calls Try.prog 7 #[.agg (cfV c (.slice A L.length cap)), .agg (cfV d (.slice A2 M.length cap2))] w fun e w' => e = .returned (.bool true) ∧ Below w.heap.size w w' := by
  have hb2 := below2 w (.cells (cfV c (.slice A L.length cap)) 25) (.cells (cfV d (.slice A2 M.length cap2)) 25)
  have B1 : Blk ((w.alloc (.cells (cfV c (.slice A L.length cap)) 25)).alloc (.cells (cfV d (.slice A2 M.length cap2)) 25)) w.heap.size 25 (cfV c (.slice A L.length cap)) := (Blk.new _ _ _).alloc _
  have B2 : Blk ((w.alloc (.cells (cfV c (.slice A L.length cap)) 25)).alloc (.cells (cfV d (.slice A2 M.length cap2)) 25)) (w.heap.size + 1) 25 (cfV d (.slice A2 M.length cap2)) := new2 _ _ _ _
  have pc := (h.below hb2).more hb2.size
  have po := (h'.below hb2).more hb2.size
  have CM := fun wx (hp : PrAt wx wx.heap.size A L) => much_is c A cap L wx hp hl hl2
  have CN := fun wx (hp : PrAt wx wx.heap.size A2 M) => much_is d A2 cap2 M wx hp hl' hl2'
  have HL := Lib.hid (not_much (L := L))
  clear h h' hl2 hl2'
  obtain ⟨w2, hw2⟩ : ∃ w2, w2 = ((w.alloc (.cells (cfV c (.slice A L.length cap)) 25)).alloc (.cells (cfV d (.slice A2 M.length cap2)) 25)) := ⟨_, rfl⟩
  rw [← hw2] at hb2 B1 B2 pc po
  have hB := hb2
  clear hb2
  obtain ⟨mu, hmu⟩ : ∃ r, r = muchB L := ⟨_, rfl⟩
  obtain ⟨mv, hmv⟩ : ∃ r, r = muchB M := ⟨_, rfl⟩
  rw [← hmu] at CM HL
  rw [← hmv] at CN
  clear hmu hmv
  by_cases hmm : mu = true ∨ mv = true
  · cases mu with
    | true =>
      clear hmm
      go_enter Try.func7, Try.ntmps7
      go_upto_region 1 with fail
      rw [← hw2]
      clear hw2
      go_wp2_with (first | (refine load_cfg B1 _ rfl rfl rfl ?_) | (refine load_cfg B2 _ rfl rfl rfl ?_) | (go_at_call 8; refine (CM _ pc).mono ?_; rintro e wy ⟨rfl, hz⟩; (replace B1 := B1.below hz B1.lt); (replace B2 := B2.below hz B2.lt); (replace hB := hB.trans (hz.mono hB.size)); (replace pc := (pc.below hz).more hz.size); (replace po := (po.below hz).more hz.size); clear hz) | (go_at_call 9; refine (known_is _).mono ?_; rintro e wy ⟨rfl, hz⟩; (replace B1 := B1.below hz B1.lt); (replace B2 := B2.below hz B2.lt); (replace hB := hB.trans (hz.mono hB.size)); (replace pc := (pc.below hz).more hz.size); (replace po := (po.below hz).more hz.size); clear hz))
      go_ret
      exact ⟨rfl, hB⟩
    | false =>
      obtain rfl : mv = true := by
        rcases hmm with e | e
        · cases e
        · exact e
      clear hmm
      go_enter Try.func7, Try.ntmps7
      go_upto_region 1 with fail
      rw [← hw2]
      clear hw2
      go_wp2_with (first | (refine load_cfg B1 _ rfl rfl rfl ?_) | (refine load_cfg B2 _ rfl rfl rfl ?_) | (go_at_call 8; (fail_if_success have := k1); have k1 := trivial; refine (CM _ pc).mono ?_; rintro e wy ⟨rfl, hz⟩; (replace B1 := B1.below hz B1.lt); (replace B2 := B2.below hz B2.lt); (replace hB := hB.trans (hz.mono hB.size)); (replace pc := (pc.below hz).more hz.size); (replace po := (po.below hz).more hz.size); clear hz) | (go_at_call 8; refine (CN _ po).mono ?_; rintro e wy ⟨rfl, hz⟩; (replace B1 := B1.below hz B1.lt); (replace B2 := B2.below hz B2.lt); (replace hB := hB.trans (hz.mono hB.size)); (replace pc := (pc.below hz).more hz.size); (replace po := (po.below hz).more hz.size); clear hz) | (go_at_call 9; refine (known_is _).mono ?_; rintro e wy ⟨rfl, hz⟩; (replace B1 := B1.below hz B1.lt); (replace B2 := B2.below hz B2.lt); (replace hB := hB.trans (hz.mono hB.size)); (replace pc := (pc.below hz).more hz.size); (replace po := (po.below hz).more hz.size); clear hz))
      go_ret
      exact ⟨rfl, hB⟩
  · obtain rfl : mu = false := by
      cases mu with
      | false => rfl
      | true => exact absurd (Or.inl rfl) hmm
    obtain rfl : mv = false := by
      cases mv with
      | false => rfl
      | true => exact absurd (Or.inr rfl) hmm
    clear hmm
    obtain ⟨hl40, hl4⟩ := HL.out rfl
    have CO := fun wx (hp : PrAt wx wx.heap.size A L) => own_is c A cap L wx hp hl40 hl4
    have CC := fun Am capm wx (hp : PrAt wx wx.heap.size Am L) => copy_is c Am capm L wx hp hl40 hl4
    have RS := fun A1 cap1 A' cap' wx (hp : PrAt wx wx.heap.size A1 L) (hp' : PrAt wx wx.heap.size A' L) => refSame_is c c A1 A' cap1 cap' L L wx hp hp' hl hl
    have PS := fun A1 cap1 A' cap' wx (hp : PrAt wx wx.heap.size A1 L) (hp' : PrAt wx wx.heap.size A' L) => same_is c c A1 A' cap1 cap' L L wx hp hp' hl hl
    simp only [sameN_self, decide_true, Bool.and_self] at RS PS
    have P1 := fun A1 cap1 wx (hp : PrAt wx wx.heap.size A1 L) (hp' : PrAt wx wx.heap.size A2 M) => same_is c d A1 A2 cap1 cap2 L M wx hp hp' hl hl'
    have P2 := fun A1 cap1 wx (hp : PrAt wx wx.heap.size A2 M) (hp' : PrAt wx wx.heap.size A1 L) => same_is d c A2 A1 cap2 cap1 M L wx hp hp' hl' hl
    have R1 := fun wx (hp : PrAt wx wx.heap.size A L) (hp' : PrAt wx wx.heap.size A2 M) => refSame_is c d A A2 cap cap2 L M wx hp hp' hl hl'
    simp only [sameN_comm c d, show decide (M = L) = decide (L = M) from by rw [decide_eq_decide]; exact eq_comm] at P2
    obtain ⟨r, hr⟩ : ∃ r, r = (sameN c d && decide (L = M)) := ⟨_, rfl⟩
    simp only [← hr] at P1 P2 R1
    have HL4 := Lib.hid hl4
    clear hr HL hl40 hl4
    go_enter Try.func7, Try.ntmps7
    go_upto_region 1 with fail
    rw [← hw2]
    clear hw2
    go_upto_region 4 with (first | (refine load_cfg B1 _ rfl rfl rfl ?_) | (refine load_cfg B2 _ rfl rfl rfl ?_) | (go_at_call 8; (fail_if_success have := k1); have k1 := trivial; refine (CM _ pc).mono ?_; rintro e wy ⟨rfl, hz⟩; (replace B1 := B1.below hz B1.lt); (replace B2 := B2.below hz B2.lt); (replace hB := hB.trans (hz.mono hB.size)); (replace pc := (pc.below hz).more hz.size); (replace po := (po.below hz).more hz.size); clear hz) | (go_at_call 8; refine (CN _ po).mono ?_; rintro e wy ⟨rfl, hz⟩; (replace B1 := B1.below hz B1.lt); (replace B2 := B2.below hz B2.lt); (replace hB := hB.trans (hz.mono hB.size)); (replace pc := (pc.below hz).more hz.size); (replace po := (po.below hz).more hz.size); clear hz) | (go_at_call 10; refine (CO _ pc).mono ?_; rintro e wy ⟨Am, capm, xm, rfl, ho, hro, hz⟩; (replace B1 := B1.below hz B1.lt); (replace B2 := B2.below hz B2.lt); (replace hB := hB.trans (hz.mono hB.size)); (replace pc := (pc.below hz).more hz.size); (replace po := (po.below hz).more hz.size); clear hz) | (refine store_cfg _ _ rfl rfl rfl rfl rfl ?_))
    have pm := pr_own ho hro
    have B3 := Blk.new wy 25 (cfV c (.slice Am L.length capm))
    have hz := (Below.refl wy.heap.size wy).alloc (Nat.le_refl _) (.cells (cfV c (.slice Am L.length capm)) 25)
    obtain ⟨w5, hw5⟩ : ∃ w5, w5 = wy.alloc (.cells (cfV c (.slice Am L.length capm)) 25) := ⟨_, rfl⟩
    rw [← hw5] at B3 hz
    rw [← hw5]
    clear hw5 CO CM CN ho hro
    replace B1 := B1.below hz B1.lt
    replace B2 := B2.below hz B2.lt
    replace hB := hB.trans (hz.mono hB.size)
    replace pc := (pc.below hz).more hz.size
    replace po := (po.below hz).more hz.size
    replace pm := (pm.below hz).more hz.size
    clear hz
    have Hc := Lib.hid pc
    have Hm := Lib.hid pm
    have hs1 : w.heap.size < w5.heap.size := B1.lt
    have hs3 : wy.heap.size < w5.heap.size := B3.lt
    have hD := Below.refl w5.heap.size w5
    go_upto_region 5 with (first | (refine load_cfg B1 _ rfl rfl rfl ?_) | (refine load_cfg B2 _ rfl rfl rfl ?_) | (refine load_cfg B3 _ rfl rfl rfl ?_) | (go_at_call 26; refine (CC _ _ _ pm).mono ?_; rintro e wv ⟨Ax, capx, xs, rfl, ho, hro, hz⟩; (replace hD := hD.trans (hz.mono hD.size)); (replace B1 := B1.below hz B1.lt); (replace B2 := B2.below hz B2.lt); (replace B3 := B3.below hz B3.lt); (replace hB := hB.trans (hz.mono hB.size)); (replace pc := (pc.below hz).more hz.size); (replace po := (po.below hz).more hz.size); (replace pm := (pm.below hz).more hz.size); clear hz) | (refine store_cfg _ _ rfl rfl rfl rfl rfl ?_))
    have px := pr_own ho hro
    have B4 := Blk.new wv 25 (cfV c (.slice Ax L.length capx))
    have hz := (Below.refl wv.heap.size wv).alloc (Nat.le_refl _) (.cells (cfV c (.slice Ax L.length capx)) 25)
    obtain ⟨w8, hw8⟩ : ∃ w8, w8 = wv.alloc (.cells (cfV c (.slice Ax L.length capx)) 25) := ⟨_, rfl⟩
    rw [← hw8] at B4 hz
    rw [← hw8]
    clear hw8 CC
    (replace B1 := B1.below hz B1.lt); (replace B2 := B2.below hz B2.lt); (replace B3 := B3.below hz B3.lt); (replace hB := hB.trans (hz.mono hB.size)); (replace pc := (pc.below hz).more hz.size); (replace po := (po.below hz).more hz.size); (replace pm := (pm.below hz).more hz.size); (replace px := (px.below hz).more hz.size); (replace hD := hD.trans (hz.mono hD.size)); (replace ho := own_below ho hz); (replace hro := hro.below hz); clear hz
    replace pm : PrAt w8.drew w8.drew.heap.size Am L := pm
    replace pc : PrAt w8.drew w8.drew.heap.size A L := pc
    replace po : PrAt w8.drew w8.drew.heap.size A2 M := po
    replace px : PrAt w8.drew w8.drew.heap.size Ax L := px
    replace B1 : Blk w8.drew w.heap.size 25 (cfV c (.slice A L.length cap)) := B1
    replace B2 : Blk w8.drew (w.heap.size + 1) 25 (cfV d (.slice A2 M.length cap2)) := B2
    replace B3 : Blk w8.drew wy.heap.size 25 (cfV c (.slice Am L.length capm)) := B3
    replace B4 : Blk w8.drew wv.heap.size 25 (cfV c (.slice Ax L.length capx)) := B4
    replace hB := hB.drew
    replace hD := hD.drew
    replace ho := ho.drew
    replace hro : RowsIn w8.drew w5.heap.size xs L := hro
    refine wp_region_held_drew (S := fun w' => Blk w' w.heap.size 25 (cfV c (.slice A L.length cap)) ∧ Blk w' (w.heap.size + 1) 25 (cfV d (.slice A2 M.length cap2)) ∧ Blk w' wy.heap.size 25 (cfV c (.slice Am L.length capm)) ∧ Blk w' wv.heap.size 25 (cfV c (.slice Ax L.length capx))) (by kernel_rfl) ⟨B1, B2, B3, B4⟩ (fun hHeld => ?_)
    refine wpAnyH_take (i := 0) (v := _) rfl (by kernel_rfl) (by kernel_rfl) (by kernel_rfl) (fun _ _ _ h => h) (yields_cfg (fun w' h' => h'.2.2.2) _ rfl (by kernel_rfl) (by kernel_rfl)) hHeld ?_
    (try simp only [Act.put, List.getElem_toArray, List.getElem_cons_zero, List.getElem_cons_succ, List.setIfInBounds_toArray, List.set_cons_zero, List.set_cons_succ])
    refine wpAnyH_take (i := 1) (v := _) rfl (by kernel_rfl) (by kernel_rfl) (by kernel_rfl) (fun _ _ _ h => h) (yields_cfg (fun w' h' => h'.1) _ rfl (by kernel_rfl) (by kernel_rfl)) hHeld ?_
    (try simp only [Act.put, List.getElem_toArray, List.getElem_cons_zero, List.getElem_cons_succ, List.setIfInBounds_toArray, List.set_cons_zero, List.set_cons_succ])
    refine wpAnyH_ready (rs := [2]) (by kernel_rfl) (by simp) ?_
    refine AllReadyH.cons rfl (fun K hK => ?_) AllReadyH.nil
    go_simp
    go_at_call 15; refine (RS _ _ _ _ _ px pc).mono ?_; rintro e wz ⟨rfl, hz⟩; (replace B1 := B1.below hz B1.lt); (replace B2 := B2.below hz B2.lt); (replace B3 := B3.below hz B3.lt); (replace B4 := B4.below hz B4.lt); (replace hB := hB.trans (hz.mono hB.size)); (replace pc := (pc.below hz).more hz.size); (replace po := (po.below hz).more hz.size); (replace pm := (pm.below hz).more hz.size); (replace px := (px.below hz).more hz.size); (replace hD := hD.trans (hz.mono hD.size)); (replace ho := own_below ho hz); (replace hro := hro.below hz); clear hz
    dsimp only
    clear hHeld
    refine hK.out _ _ ⟨B1, B2, B3, B4⟩ (fun hHeld => ?_)
    clear hK K
    (try simp only [Act.put, List.getElem_toArray, List.getElem_cons_zero, List.getElem_cons_succ, List.setIfInBounds_toArray, List.set_cons_zero, List.set_cons_succ])
    refine wpAnyH_take (i := 3) (v := .bool false) rfl (by kernel_rfl) (by kernel_rfl) (by kernel_rfl) (fun _ _ _ h => h) (Or.inl ⟨by kernel_rfl, by (intro w' hSw); go_simp; first | done | (with_reducible rfl)⟩) hHeld ?_
    (try simp only [Act.put, List.getElem_toArray, List.getElem_cons_zero, List.getElem_cons_succ, List.setIfInBounds_toArray, List.set_cons_zero, List.set_cons_succ])
    refine wpAnyH_take (i := 4) (v := .bool false) rfl (by kernel_rfl) (by kernel_rfl) (by kernel_rfl) (fun _ _ _ h => h) (Or.inl ⟨by kernel_rfl, by (intro w' hSw); go_simp; first | done | (with_reducible rfl)⟩) hHeld ?_
    (try simp only [Act.put, List.getElem_toArray, List.getElem_cons_zero, List.getElem_cons_succ, List.setIfInBounds_toArray, List.set_cons_zero, List.set_cons_succ])
    refine wpAnyH_take (i := 5) (v := _) rfl (by kernel_rfl) (by kernel_rfl) (by kernel_rfl) (fun _ _ _ h => h) (yields_cfg (fun w' h' => h'.2.2.2) _ rfl (by kernel_rfl) (by kernel_rfl)) hHeld ?_
    (try simp only [Act.put, List.getElem_toArray, List.getElem_cons_zero, List.getElem_cons_succ, List.setIfInBounds_toArray, List.set_cons_zero, List.set_cons_succ])
    refine wpAnyH_take (i := 6) (v := _) rfl (by kernel_rfl) (by kernel_rfl) (by kernel_rfl) (fun _ _ _ h => h) (yields_cfg (fun w' h' => h'.2.2.1) _ rfl (by kernel_rfl) (by kernel_rfl)) hHeld ?_
    (try simp only [Act.put, List.getElem_toArray, List.getElem_cons_zero, List.getElem_cons_succ, List.setIfInBounds_toArray, List.set_cons_zero, List.set_cons_succ])
    refine wpAnyH_ready (rs := [7]) (by kernel_rfl) (by simp) ?_
    refine AllReadyH.cons rfl (fun K hK => ?_) AllReadyH.nil
    go_simp
    go_at_call 25; refine (PS _ _ _ _ _ px pm).mono ?_; rintro e wz ⟨rfl, hz⟩; (replace B1 := B1.below hz B1.lt); (replace B2 := B2.below hz B2.lt); (replace B3 := B3.below hz B3.lt); (replace B4 := B4.below hz B4.lt); (replace hB := hB.trans (hz.mono hB.size)); (replace pc := (pc.below hz).more hz.size); (replace po := (po.below hz).more hz.size); (replace pm := (pm.below hz).more hz.size); (replace px := (px.below hz).more hz.size); (replace hD := hD.trans (hz.mono hD.size)); (replace ho := own_below ho hz); (replace hro := hro.below hz); clear hz
    dsimp only
    clear hHeld
    refine hK.out _ _ ⟨B1, B2, B3, B4⟩ (fun hHeld => ?_)
    clear hK K
    (try simp only [Act.put, List.getElem_toArray, List.getElem_cons_zero, List.getElem_cons_succ, List.setIfInBounds_toArray, List.set_cons_zero, List.set_cons_succ])
    refine wpAnyH_take (i := 8) (v := .bool false) rfl (by kernel_rfl) (by kernel_rfl) (by kernel_rfl) (fun _ _ _ h => h) (Or.inl ⟨by kernel_rfl, by (intro w' hSw); go_simp; first | done | (with_reducible rfl)⟩) hHeld ?_
    (try simp only [Act.put, List.getElem_toArray, List.getElem_cons_zero, List.getElem_cons_succ, List.setIfInBounds_toArray, List.set_cons_zero, List.set_cons_succ])
    refine wpAnyH_take (i := 9) (v := .bool false) rfl (by kernel_rfl) (by kernel_rfl) (by kernel_rfl) (fun _ _ _ h => h) (Or.inl ⟨by kernel_rfl, by (intro w' hSw); go_simp; first | done | (with_reducible rfl)⟩) hHeld ?_
    (try simp only [Act.put, List.getElem_toArray, List.getElem_cons_zero, List.getElem_cons_succ, List.setIfInBounds_toArray, List.set_cons_zero, List.set_cons_succ])
    refine wpAnyH_take (i := 10) (v := .bool false) rfl (by kernel_rfl) (by kernel_rfl) (by kernel_rfl) (fun _ _ _ h => h) (Or.inl ⟨by kernel_rfl, by (intro w' hSw); go_simp; first | done | (with_reducible rfl)⟩) hHeld ?_
    (try simp only [Act.put, List.getElem_toArray, List.getElem_cons_zero, List.getElem_cons_succ, List.setIfInBounds_toArray, List.set_cons_zero, List.set_cons_succ])
    refine wpAnyH_take (i := 11) (v := _) rfl (by kernel_rfl) (by kernel_rfl) (by kernel_rfl) (fun _ _ _ h => h) (yields_cfg (fun w' h' => h'.2.2.1) _ rfl (by kernel_rfl) (by kernel_rfl)) hHeld ?_
    (try simp only [Act.put, List.getElem_toArray, List.getElem_cons_zero, List.getElem_cons_succ, List.setIfInBounds_toArray, List.set_cons_zero, List.set_cons_succ])
    refine wpAnyH_take (i := 12) (v := _) rfl (by kernel_rfl) (by kernel_rfl) (by kernel_rfl) (fun _ _ _ h => h) (yields_cfg (fun w' h' => h'.2.1) _ rfl (by kernel_rfl) (by kernel_rfl)) hHeld ?_
    (try simp only [Act.put, List.getElem_toArray, List.getElem_cons_zero, List.getElem_cons_succ, List.setIfInBounds_toArray, List.set_cons_zero, List.set_cons_succ])
    refine wpAnyH_take (i := 14) (v := _) rfl (by kernel_rfl) (by kernel_rfl) (by kernel_rfl) (fun _ _ _ h => h) (yields_cfg (fun w' h' => h'.1) _ rfl (by kernel_rfl) (by kernel_rfl)) hHeld ?_
    (try simp only [Act.put, List.getElem_toArray, List.getElem_cons_zero, List.getElem_cons_succ, List.setIfInBounds_toArray, List.set_cons_zero, List.set_cons_succ])
    refine wpAnyH_take (i := 15) (v := _) rfl (by kernel_rfl) (by kernel_rfl) (by kernel_rfl) (fun _ _ _ h => h) (yields_cfg (fun w' h' => h'.2.1) _ rfl (by kernel_rfl) (by kernel_rfl)) hHeld ?_
    (try simp only [Act.put, List.getElem_toArray, List.getElem_cons_zero, List.getElem_cons_succ, List.setIfInBounds_toArray, List.set_cons_zero, List.set_cons_succ])
    refine wpAnyH_ready (rs := [13]) (by kernel_rfl) (by simp) ?_
    refine AllReadyH.cons rfl (fun K hK => ?_) AllReadyH.nil
    go_simp
    go_at_call 25; refine (P1 _ _ _ pm po).mono ?_; rintro e wz ⟨rfl, hz⟩; (replace B1 := B1.below hz B1.lt); (replace B2 := B2.below hz B2.lt); (replace B3 := B3.below hz B3.lt); (replace B4 := B4.below hz B4.lt); (replace hB := hB.trans (hz.mono hB.size)); (replace pc := (pc.below hz).more hz.size); (replace po := (po.below hz).more hz.size); (replace pm := (pm.below hz).more hz.size); (replace px := (px.below hz).more hz.size); (replace hD := hD.trans (hz.mono hD.size)); (replace ho := own_below ho hz); (replace hro := hro.below hz); clear hz
    dsimp only
    clear hHeld
    refine hK.out _ _ ⟨B1, B2, B3, B4⟩ (fun hHeld => ?_)
    clear hK K
    (try simp only [Act.put, List.getElem_toArray, List.getElem_cons_zero, List.getElem_cons_succ, List.setIfInBounds_toArray, List.set_cons_zero, List.set_cons_succ])
    refine wpAnyH_ready (rs := [16]) (by kernel_rfl) (by simp) ?_
    refine AllReadyH.cons rfl (fun K hK => ?_) AllReadyH.nil
    go_simp
    go_at_call 15; refine (R1 _ pc po).mono ?_; rintro e wz ⟨rfl, hz⟩; (replace B1 := B1.below hz B1.lt); (replace B2 := B2.below hz B2.lt); (replace B3 := B3.below hz B3.lt); (replace B4 := B4.below hz B4.lt); (replace hB := hB.trans (hz.mono hB.size)); (replace pc := (pc.below hz).more hz.size); (replace po := (po.below hz).more hz.size); (replace pm := (pm.below hz).more hz.size); (replace px := (px.below hz).more hz.size); (replace hD := hD.trans (hz.mono hD.size)); (replace ho := own_below ho hz); (replace hro := hro.below hz); clear hz
    dsimp only
    clear hHeld
    refine hK.out _ _ ⟨B1, B2, B3, B4⟩ (fun hHeld => ?_)
    clear hK K
    (try simp only [Act.put, List.getElem_toArray, List.getElem_cons_zero, List.getElem_cons_succ, List.setIfInBounds_toArray, List.set_cons_zero, List.set_cons_succ])
    refine wpAnyH_take (i := 17) (v := .bool false) rfl (by kernel_rfl) (by kernel_rfl) (by kernel_rfl) (fun _ _ _ h => h) (Or.inl ⟨by kernel_rfl, by (intro w' hSw); go_simp; first | done | (with_reducible rfl)⟩) hHeld ?_
    (try simp only [Act.put, List.getElem_toArray, List.getElem_cons_zero, List.getElem_cons_succ, List.setIfInBounds_toArray, List.set_cons_zero, List.set_cons_succ])
    refine wpAnyH_take (i := 18) (v := .bool false) rfl (by kernel_rfl) (by kernel_rfl) (by kernel_rfl) (fun _ _ _ h => h) (Or.inl ⟨by kernel_rfl, by (intro w' hSw); go_simp; first | done | (with_reducible rfl)⟩) hHeld ?_
    (try simp only [Act.put, List.getElem_toArray, List.getElem_cons_zero, List.getElem_cons_succ, List.setIfInBounds_toArray, List.set_cons_zero, List.set_cons_succ])
    refine wpAnyH_take (i := 19) (v := .bool false) rfl (by kernel_rfl) (by kernel_rfl) (by kernel_rfl) (fun _ _ _ h => h) (Or.inl ⟨by kernel_rfl, by (intro w' hSw); go_simp; first | done | (with_reducible rfl)⟩) hHeld ?_
    (try simp only [Act.put, List.getElem_toArray, List.getElem_cons_zero, List.getElem_cons_succ, List.setIfInBounds_toArray, List.set_cons_zero, List.set_cons_succ])
    refine wpAnyH_take (i := 20) (v := _) rfl (by kernel_rfl) (by kernel_rfl) (by kernel_rfl) (fun _ _ _ h => h) (yields_cfg (fun w' h' => h'.2.1) _ rfl (by kernel_rfl) (by kernel_rfl)) hHeld ?_
    (try simp only [Act.put, List.getElem_toArray, List.getElem_cons_zero, List.getElem_cons_succ, List.setIfInBounds_toArray, List.set_cons_zero, List.set_cons_succ])
    refine wpAnyH_take (i := 21) (v := _) rfl (by kernel_rfl) (by kernel_rfl) (by kernel_rfl) (fun _ _ _ h => h) (yields_cfg (fun w' h' => h'.2.2.1) _ rfl (by kernel_rfl) (by kernel_rfl)) hHeld ?_
    (try simp only [Act.put, List.getElem_toArray, List.getElem_cons_zero, List.getElem_cons_succ, List.setIfInBounds_toArray, List.set_cons_zero, List.set_cons_succ])
    refine wpAnyH_take (i := 23) (v := _) rfl (by kernel_rfl) (by kernel_rfl) (by kernel_rfl) (fun _ _ _ h => h) (yields_cfg (fun w' h' => h'.1) _ rfl (by kernel_rfl) (by kernel_rfl)) hHeld ?_
    (try simp only [Act.put, List.getElem_toArray, List.getElem_cons_zero, List.getElem_cons_succ, List.setIfInBounds_toArray, List.set_cons_zero, List.set_cons_succ])
    refine wpAnyH_take (i := 24) (v := _) rfl (by kernel_rfl) (by kernel_rfl) (by kernel_rfl) (fun _ _ _ h => h) (yields_cfg (fun w' h' => h'.2.1) _ rfl (by kernel_rfl) (by kernel_rfl)) hHeld ?_
    (try simp only [Act.put, List.getElem_toArray, List.getElem_cons_zero, List.getElem_cons_succ, List.setIfInBounds_toArray, List.set_cons_zero, List.set_cons_succ])
    refine wpAnyH_ready (rs := [22]) (by kernel_rfl) (by simp) ?_
    refine AllReadyH.cons rfl (fun K hK => ?_) AllReadyH.nil
    go_simp
    go_at_call 25; refine (P2 _ _ _ po pm).mono ?_; rintro e wz ⟨rfl, hz⟩; (replace B1 := B1.below hz B1.lt); (replace B2 := B2.below hz B2.lt); (replace B3 := B3.below hz B3.lt); (replace B4 := B4.below hz B4.lt); (replace hB := hB.trans (hz.mono hB.size)); (replace pc := (pc.below hz).more hz.size); (replace po := (po.below hz).more hz.size); (replace pm := (pm.below hz).more hz.size); (replace px := (px.below hz).more hz.size); (replace hD := hD.trans (hz.mono hD.size)); (replace ho := own_below ho hz); (replace hro := hro.below hz); clear hz
    dsimp only
    clear hHeld
    refine hK.out _ _ ⟨B1, B2, B3, B4⟩ (fun hHeld => ?_)
    clear hK K
    (try simp only [Act.put, List.getElem_toArray, List.getElem_cons_zero, List.getElem_cons_succ, List.setIfInBounds_toArray, List.set_cons_zero, List.set_cons_succ])
    refine wpAnyH_ready (rs := [25]) (by kernel_rfl) (by simp) ?_
    refine AllReadyH.cons rfl (fun K hK => ?_) AllReadyH.nil
    go_simp
    go_at_call 15; refine (R1 _ pc po).mono ?_; rintro e wz ⟨rfl, hz⟩; (replace B1 := B1.below hz B1.lt); (replace B2 := B2.below hz B2.lt); (replace B3 := B3.below hz B3.lt); (replace B4 := B4.below hz B4.lt); (replace hB := hB.trans (hz.mono hB.size)); (replace pc := (pc.below hz).more hz.size); (replace po := (po.below hz).more hz.size); (replace pm := (pm.below hz).more hz.size); (replace px := (px.below hz).more hz.size); (replace hD := hD.trans (hz.mono hD.size)); (replace ho := own_below ho hz); (replace hro := hro.below hz); clear hz
    dsimp only
    clear hHeld
    refine hK.out _ _ ⟨B1, B2, B3, B4⟩ (fun hHeld => ?_)
    clear hK K
    (try simp only [Act.put, List.getElem_toArray, List.getElem_cons_zero, List.getElem_cons_succ, List.setIfInBounds_toArray, List.set_cons_zero, List.set_cons_succ])
    refine wpAnyH_take (i := 26) (v := .bool false) rfl (by kernel_rfl) (by kernel_rfl) (by kernel_rfl) (fun _ _ _ h => h) (Or.inl ⟨by kernel_rfl, by (intro w' hSw); go_simp; first | done | (with_reducible rfl)⟩) hHeld ?_
    (try simp only [Act.put, List.getElem_toArray, List.getElem_cons_zero, List.getElem_cons_succ, List.setIfInBounds_toArray, List.set_cons_zero, List.set_cons_succ])
    refine wpAnyH_take (i := 27) (v := .bool false) rfl (by kernel_rfl) (by kernel_rfl) (by kernel_rfl) (fun _ _ _ h => h) (Or.inl ⟨by kernel_rfl, by (intro w' hSw); go_simp; first | done | (with_reducible rfl)⟩) hHeld ?_
    (try simp only [Act.put, List.getElem_toArray, List.getElem_cons_zero, List.getElem_cons_succ, List.setIfInBounds_toArray, List.set_cons_zero, List.set_cons_succ])
    refine wpAnyH_done (by kernel_rfl) ?_ _
    go_wp2_with fail
    clear P1 P2 R1 PS
    obtain ⟨wo, hwo⟩ : ∃ wo, wo = wz := ⟨_, rfl⟩
    subst hwo
    rcases Nat.eq_zero_or_pos L.length with hn | hn
    · have X14 : wo.cell? ⟨wv.heap.size, 14, none⟩ = some (.slice Ax L.length capx) := (B4.cell 14).trans (cfV_last c _)
      have hn0 : ¬ (0 : Int) < (L.length : Int) := by omega
      clear hn ho hro px
      go_loopw [7] (fun i wr => i = .int .i64 0 ∧ wr = wo) (fun _ _ => 0)
      case atStart => exact ⟨rfl, rfl⟩
      case round =>
        obtain ⟨rfl, rfl⟩ := hrel
        go_wp2_with (first | (refine load_cfg B1 _ rfl rfl rfl ?_) | (refine load_cfg B3 _ rfl rfl rfl ?_) | (go_at_call 15; refine (RS _ _ _ _ _ pm pc).mono ?_; rintro e wz ⟨rfl, hz⟩; (replace B1 := B1.below hz B1.lt); (replace B3 := B3.below hz B3.lt); (replace hB := hB.trans (hz.mono hB.size)); (replace pc := (pc.below hz).more hz.size); (replace pm := (pm.below hz).more hz.size); clear hz) | (go_at_call 9; refine (known_is _).mono ?_; rintro e wz ⟨rfl, hz⟩; (replace B1 := B1.below hz B1.lt); (replace B3 := B3.below hz B3.lt); (replace hB := hB.trans (hz.mono hB.size)); (replace pc := (pc.below hz).more hz.size); (replace pm := (pm.below hz).more hz.size); clear hz))
        go_ret
        exact ⟨rfl, hB⟩

    · obtain ⟨gx, cs, rfl, hgx, BX, MX⟩ := MutX.of_own ho hro hn
      obtain ⟨ls, hls⟩ : ∃ ls, ls = L.map List.length := ⟨_, rfl⟩
      have HLS := Lib.hid (show ∀ k, k < L.length → ∃ m, ls[k]? = some m ∧ m ≤ 40000 from fun k hk => ⟨(L[k]'hk).length, by rw [hls, List.getElem?_map, List.getElem?_eq_getElem hk]; rfl, HL4.out _ (List.getElem_mem hk)⟩)
      have hso := hD.size
      rw [← hls] at MX
      clear hls ho hro px po B2 hn
      go_loopw [7] (fun i wr => ∃ k : Nat, k ≤ L.length ∧ i = .int .i64 k ∧ Blk wr wv.heap.size 25 (cfV c (.slice (some ⟨gx, 0, none⟩) L.length capx)) ∧ Blk wr gx 43 cs ∧ MutX wr w5.heap.size cs ls ∧ Below w5.heap.size wo wr) (fun i _ => L.length - (intOf i).toNat)
      case atStart => exact ⟨0, Nat.zero_le _, rfl, B4, BX, MX, Below.refl _ _⟩
      case round =>
        clear B4 BX MX
        obtain ⟨k, hk, rfl, B4, BX, MX, hbr⟩ := hrel
        have X14 : wr.cell? ⟨wv.heap.size, 14, none⟩ = some (.slice (some ⟨gx, 0, none⟩) L.length capx) := (B4.cell 14).trans (cfV_last c _)
        have hk0 : (0 : Int) ≤ (k : Int) := by omega
        by_cases hlt : k < L.length
        · obtain ⟨m, hm, hm4⟩ := HLS.out k hlt
          have HMm := Lib.hid hm
          have hk1 : (k : Int) < (L.length : Int) := by omega
          clear hm
          go_wp2_with fail
          obtain ⟨wq, hwq⟩ : ∃ wq, wq = wr := ⟨_, rfl⟩
          subst hwq
          clear X14
          go_loopw [8] (fun i wr => ∃ j : Nat, j ≤ m ∧ i = .int .i64 j ∧ Blk wr wv.heap.size 25 (cfV c (.slice (some ⟨gx, 0, none⟩) L.length capx)) ∧ Blk wr gx 43 cs ∧ MutX wr w5.heap.size cs ls ∧ Below w5.heap.size wo wr) (fun i _ => m - (intOf i).toNat)
          case atStart => exact ⟨0, Nat.zero_le _, rfl, B4, BX, MX, hbr⟩
          case round =>
            clear B4 BX MX hbr
            obtain ⟨j, hj, rfl, B4, BX, MX, hbr⟩ := hrel
            have X14 : wr.cell? ⟨wv.heap.size, 14, none⟩ = some (.slice (some ⟨gx, 0, none⟩) L.length capx) := (B4.cell 14).trans (cfV_last c _)
            obtain ⟨Ai, ci, h1, h2⟩ := MX k m HMm.out
            have XG : wr.cell? ⟨gx, k, none⟩ = some (.slice Ai m ci) := (BX.cell k).trans h1
            have hj0 : (0 : Int) ≤ (j : Int) := by omega
            by_cases hjm : j < m
            · obtain ⟨gi, cur, rfl, hgi, BI, hb⟩ := h2 (by omega)
              obtain ⟨b, hbj⟩ := hb j hjm
              have XJ : wr.cell? ⟨gi, j, none⟩ = some (.int .u8 b) := (BI.cell j).trans hbj
              have FJ := BI.frozen j
              have N1 : wv.heap.size ≠ gi := Blk.ne_ B4 BI (by decide)
              have N2 : gx ≠ gi := Blk.ne_ BX BI (by decide)
              have hj1 : (j : Int) < (m : Int) := by omega
              have HB4 := Lib.hid B4
              have HBX := Lib.hid BX
              have HMX := Lib.hid MX
              have HBI := Lib.hid BI
              clear h1 hb hbj B4 BX MX BI
              go_wp2_with fail
              go_roundw
              case rel => exact ⟨j + 1, by omega, by go_num, HB4.out.far N1 _, HBX.out.far N2 _, HMX.out.set gi j _, hbr.setCell hgi _⟩
              case measure => simp [intOf]; omega
            · obtain rfl : j = m := by omega
              clear h1 h2
              go_wp2_with fail
              go_roundw
              case rel => exact ⟨k + 1, by omega, by go_num, B4, BX, MX, hbr⟩
              case measure => simp [intOf]; omega
        · obtain rfl : k = L.length := by omega
          have hD2 := hD.trans hbr
          replace B1 := B1.below hbr hs1
          replace B3 := B3.below hbr hs3
          replace pc := (Hc.out.below hD2).more hD2.size
          replace pm := (Hm.out.below hD2).more hD2.size
          replace hB := hB.trans (hbr.mono (Nat.le_of_lt hs1))
          go_wp2_with (first | (refine load_cfg B1 _ rfl rfl rfl ?_) | (refine load_cfg B3 _ rfl rfl rfl ?_) | (go_at_call 15; refine (RS _ _ _ _ _ pm pc).mono ?_; rintro e wz ⟨rfl, hz⟩; (replace B1 := B1.below hz B1.lt); (replace B3 := B3.below hz B3.lt); (replace hB := hB.trans (hz.mono hB.size)); (replace pc := (pc.below hz).more hz.size); (replace pm := (pm.below hz).more hz.size); clear hz) | (go_at_call 9; refine (known_is _).mono ?_; rintro e wz ⟨rfl, hz⟩; (replace B1 := B1.below hz B1.lt); (replace B3 := B3.below hz B3.lt); (replace hB := hB.trans (hz.mono hB.size)); (replace pc := (pc.below hz).more hz.size); (replace pm := (pm.below hz).more hz.size); clear hz))
          go_ret
          exact ⟨rfl, hB⟩

end Go.Proofs.Ytoigapnpmhogdaa
