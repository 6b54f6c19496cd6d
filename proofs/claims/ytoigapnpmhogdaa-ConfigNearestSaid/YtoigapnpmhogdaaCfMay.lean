/- ConfigMay, by a walk. -/
import Derived.Test.YtoigapnpmhogdaaCfSame3
import Derived.Test.YtoigapnpmhogdaaCfOwn
import Derived.Test.YtoigapnpmhogdaaCfRefW
import Derived.Test.YtoigapnpmhogdaaCfLoad
import Derived.Deep.CutRange
namespace Go.Proofs.Ytoigapnpmhogdaa
open Go.RowKit
set_option linter.unusedVariables false
set_option linter.unusedSimpArgs false

theorem sameN_self (c : Nat → Int) : sameN c c = true := sameN_yes fun _ _ => rfl

set_option maxRecDepth 100000 in
set_option maxHeartbeats 8000000 in
theorem may_walk (c : Nat → Int) (A : Option Addr) (cap : Nat) (L : List (List UInt8)) (w : World) (h : PrAt w w.heap.size A L) (hl : L.length < 2 ^ 62) (hl2 : ∀ x ∈ L, x.length ≤ 2 ^ 50) :
    Calls Try.prog 3 #[.agg (cfV c (.slice A L.length cap))] w fun e w' => e = .returned (.bool true) ∧ Below w.heap.size w w' := by
  have hb1 := (Below.refl w.heap.size w).alloc (Nat.le_refl _) (.cells (cfV c (.slice A L.length cap)) 25)
  have B1 := Blk.new w 25 (cfV c (.slice A L.length cap))
  have pc := (h.below hb1).more hb1.size
  have CM := fun wx (hp : PrAt wx wx.heap.size A L) => much_is c A cap L wx hp hl hl2
  have HL := Lib.hid (not_much (L := L))
  have hl3 := Lib.hid (show ∀ x ∈ L, x.length < 2 ^ 62 from fun x hx => by have := hl2 x hx; omega)
  clear h hl2
  obtain ⟨w2, hw2⟩ : ∃ w2, w2 = w.alloc (.cells (cfV c (.slice A L.length cap)) 25) := ⟨_, rfl⟩
  rw [← hw2] at hb1 B1 pc
  have hB := hb1
  obtain ⟨mu, hmu⟩ : ∃ r, r = muchB L := ⟨_, rfl⟩
  rw [← hmu] at CM HL
  clear hmu
  cases mu with
  | true =>
    go_enter Try.func3, Try.ntmps3
    go_upto_region 1 with fail
    rw [← hw2]
    clear hw2 hb1
    go_wp2_with (first | (refine load_cfg B1 _ rfl rfl rfl ?_) | (go_at_call 8; refine (CM _ pc).mono ?_; rintro e wy ⟨rfl, hz⟩; (replace B1 := B1.below hz B1.lt); (replace hB := hB.trans (hz.mono hB.size)); (replace pc := (pc.below hz).more hz.size); clear hz) | (go_at_call 9; refine (known_is _).mono ?_; rintro e wy ⟨rfl, hz⟩; (replace B1 := B1.below hz B1.lt); (replace hB := hB.trans (hz.mono hB.size)); (replace pc := (pc.below hz).more hz.size); clear hz))
    go_ret
    exact ⟨rfl, hB⟩
  | false =>
    obtain ⟨hl40, hl4⟩ := HL.out rfl
    have CO := fun wx (hp : PrAt wx wx.heap.size A L) => own_is c A cap L wx hp hl40 hl4
    have CW := fun A' cap' wx (hp : PrAt wx wx.heap.size A' L) => wrong_is c A' cap' L wx hp hl hl3.out
    have CR := fun A' cap' wx (hp : PrAt wx wx.heap.size A' L) => refWrong_is c A' cap' L wx hp hl hl3.out
    have CY := fun A' cap' wx (hp : PrAt wx wx.heap.size A' L) => may_is c A' cap' L wx hp hl hl3.out
    have CZ := fun A' cap' wx (hp : PrAt wx wx.heap.size A' L) => refMay_is c A' cap' L wx hp hl hl3.out
    have CS := fun A' cap' wx (hp : PrAt wx wx.heap.size A' L) (hp' : PrAt wx wx.heap.size A L) => refSame_is c c A' A cap' cap L L wx hp hp' hl hl
    simp only [sameN_self, decide_true, Bool.and_self] at CS
    clear hl3 HL hl40 hl4
    obtain ⟨s, hs⟩ : ∃ s, s = (wrongS c L).1 := ⟨_, rfl⟩
    obtain ⟨r, hr⟩ : ∃ s, s = (wrongS c L).2 := ⟨_, rfl⟩
    obtain ⟨m, hm⟩ : ∃ s, s = mayN c L := ⟨_, rfl⟩
    simp only [← hs, ← hr] at CW CR
    simp only [← hm] at CY CZ
    clear hs hr hm
    go_enter Try.func3, Try.ntmps3
    go_upto_region 1 with fail
    rw [← hw2]
    clear hw2 hb1
    go_upto_region 4 with (first | (refine load_cfg B1 _ rfl rfl rfl ?_) | (go_at_call 8; refine (CM _ pc).mono ?_; rintro e wy ⟨rfl, hz⟩; (replace B1 := B1.below hz B1.lt); (replace hB := hB.trans (hz.mono hB.size)); (replace pc := (pc.below hz).more hz.size); clear hz) | (go_at_call 10; refine (CO _ pc).mono ?_; rintro e wy ⟨A', cap', xs, rfl, ho, hro, hz⟩; (replace B1 := B1.below hz B1.lt); (replace hB := hB.trans (hz.mono hB.size)); (replace pc := (pc.below hz).more hz.size); clear hz) | (refine store_cfg _ _ rfl rfl rfl rfl rfl ?_))
    have pm := pr_own ho hro
    have B2 := Blk.new wy 25 (cfV c (.slice A' L.length cap'))
    have hz := (Below.refl wy.heap.size wy).alloc (Nat.le_refl _) (.cells (cfV c (.slice A' L.length cap')) 25)
    obtain ⟨w5, hw5⟩ : ∃ w5, w5 = wy.alloc (.cells (cfV c (.slice A' L.length cap')) 25) := ⟨_, rfl⟩
    rw [← hw5] at B2 hz
    rw [← hw5]
    clear hw5 CO CM ho hro
    replace B1 := B1.below hz B1.lt
    replace hB := hB.trans (hz.mono hB.size)
    replace pc := (pc.below hz).more hz.size
    replace pm := (pm.below hz).more hz.size
    clear hz
    go_upto_region 6 with (first | (refine load_cfg B1 _ rfl rfl rfl ?_) | (refine load_cfg B2 _ rfl rfl rfl ?_) | (go_at_call 11; refine (CW _ _ _ pm).mono ?_; rintro e wz ⟨rfl, hz⟩; (replace B1 := B1.below hz B1.lt); (replace B2 := B2.below hz B2.lt); (replace hB := hB.trans (hz.mono hB.size)); (replace pc := (pc.below hz).more hz.size); (replace pm := (pm.below hz).more hz.size); clear hz) | (go_at_call 12; refine (CR _ _ _ pc).mono ?_; rintro e wz ⟨rfl, hz⟩; (replace B1 := B1.below hz B1.lt); (replace B2 := B2.below hz B2.lt); (replace hB := hB.trans (hz.mono hB.size)); (replace pc := (pc.below hz).more hz.size); (replace pm := (pm.below hz).more hz.size); clear hz))
    replace pm : PrAt wz.drew wz.drew.heap.size A' L := pm
    replace pc : PrAt wz.drew wz.drew.heap.size A L := pc
    replace B1 : Blk wz.drew w.heap.size 25 (cfV c (.slice A L.length cap)) := B1
    replace B2 : Blk wz.drew wy.heap.size 25 (cfV c (.slice A' L.length cap')) := B2
    replace hB := hB.drew
    clear CW CR
    refine wp_region_held_drew (S := fun w' => Blk w' w.heap.size 25 (cfV c (.slice A L.length cap)) ∧ Blk w' wy.heap.size 25 (cfV c (.slice A' L.length cap'))) (by kernel_rfl) ⟨B1, B2⟩ (fun hHeld => ?_)
    refine wpAnyH_take (i := 0) (v := _) rfl (by kernel_rfl) (by kernel_rfl) (by kernel_rfl) (fun _ _ _ h => h) (yields_cfg (fun w' h' => h'.2) _ rfl (by kernel_rfl) (by kernel_rfl)) hHeld ?_
    (try simp only [Act.put, List.getElem_toArray, List.getElem_cons_zero, List.getElem_cons_succ, List.setIfInBounds_toArray, List.set_cons_zero, List.set_cons_succ])
    refine wpAnyH_take (i := 2) (v := _) rfl (by kernel_rfl) (by kernel_rfl) (by kernel_rfl) (fun _ _ _ h => h) (yields_cfg (fun w' h' => h'.1) _ rfl (by kernel_rfl) (by kernel_rfl)) hHeld ?_
    (try simp only [Act.put, List.getElem_toArray, List.getElem_cons_zero, List.getElem_cons_succ, List.setIfInBounds_toArray, List.set_cons_zero, List.set_cons_succ])
    refine wpAnyH_ready (rs := [1]) (by kernel_rfl) (by simp) ?_
    refine AllReadyH.cons rfl (fun K hK => ?_) AllReadyH.nil
    go_simp
    go_at_call 13; refine (CY _ _ _ pm).mono ?_; rintro e wz ⟨rfl, hz⟩; (replace B1 := B1.below hz B1.lt); (replace B2 := B2.below hz B2.lt); (replace hB := hB.trans (hz.mono hB.size)); (replace pc := (pc.below hz).more hz.size); (replace pm := (pm.below hz).more hz.size); clear hz
    dsimp only
    clear hHeld
    refine hK.out _ _ ⟨B1, B2⟩ (fun hHeld => ?_)
    clear hK K
    (try simp only [Act.put, List.getElem_toArray, List.getElem_cons_zero, List.getElem_cons_succ, List.setIfInBounds_toArray, List.set_cons_zero, List.set_cons_succ])
    refine wpAnyH_ready (rs := [3]) (by kernel_rfl) (by simp) ?_
    refine AllReadyH.cons rfl (fun K hK => ?_) AllReadyH.nil
    go_simp
    go_at_call 14; refine (CZ _ _ _ pc).mono ?_; rintro e wz ⟨rfl, hz⟩; (replace B1 := B1.below hz B1.lt); (replace B2 := B2.below hz B2.lt); (replace hB := hB.trans (hz.mono hB.size)); (replace pc := (pc.below hz).more hz.size); (replace pm := (pm.below hz).more hz.size); clear hz
    dsimp only
    clear hHeld
    refine hK.out _ _ ⟨B1, B2⟩ (fun hHeld => ?_)
    clear hK K
    (try simp only [Act.put, List.getElem_toArray, List.getElem_cons_zero, List.getElem_cons_succ, List.setIfInBounds_toArray, List.set_cons_zero, List.set_cons_succ])
    refine wpAnyH_take (i := 4) (v := .bool true) rfl (by kernel_rfl) (by kernel_rfl) (by kernel_rfl) (fun _ _ _ h => h) (Or.inl ⟨by kernel_rfl, by (intro w' hSw); go_simp; first | done | (with_reducible rfl)⟩) hHeld ?_
    (try simp only [Act.put, List.getElem_toArray, List.getElem_cons_zero, List.getElem_cons_succ, List.setIfInBounds_toArray, List.set_cons_zero, List.set_cons_succ])
    refine wpAnyH_take (i := 5) (v := .bool true) rfl (by kernel_rfl) (by kernel_rfl) (by kernel_rfl) (fun _ _ _ h => h) (Or.inl ⟨by kernel_rfl, by (intro w' hSw); go_simp; first | done | (with_reducible rfl)⟩) hHeld ?_
    (try simp only [Act.put, List.getElem_toArray, List.getElem_cons_zero, List.getElem_cons_succ, List.setIfInBounds_toArray, List.set_cons_zero, List.set_cons_succ])
    refine wpAnyH_take (i := 6) (v := .string s) rfl (by kernel_rfl) (by kernel_rfl) (by kernel_rfl) (fun _ _ _ h => h) (Or.inl ⟨by kernel_rfl, by (intro w' hSw); go_simp; first | done | (with_reducible rfl)⟩) hHeld ?_
    (try simp only [Act.put, List.getElem_toArray, List.getElem_cons_zero, List.getElem_cons_succ, List.setIfInBounds_toArray, List.set_cons_zero, List.set_cons_succ])
    refine wpAnyH_take (i := 7) (v := .string s) rfl (by kernel_rfl) (by kernel_rfl) (by kernel_rfl) (fun _ _ _ h => h) (Or.inl ⟨by kernel_rfl, by (intro w' hSw); go_simp; first | done | (with_reducible rfl)⟩) hHeld ?_
    (try simp only [Act.put, List.getElem_toArray, List.getElem_cons_zero, List.getElem_cons_succ, List.setIfInBounds_toArray, List.set_cons_zero, List.set_cons_succ])
    refine wpAnyH_take (i := 8) (v := .bool true) rfl (by kernel_rfl) (by kernel_rfl) (by kernel_rfl) (fun _ _ _ h => h) (Or.inl ⟨by kernel_rfl, by (intro w' hSw); go_simp; first | done | (with_reducible rfl)⟩) hHeld ?_
    (try simp only [Act.put, List.getElem_toArray, List.getElem_cons_zero, List.getElem_cons_succ, List.setIfInBounds_toArray, List.set_cons_zero, List.set_cons_succ])
    refine wpAnyH_take (i := 9) (v := .bool true) rfl (by kernel_rfl) (by kernel_rfl) (by kernel_rfl) (fun _ _ _ h => h) (Or.inl ⟨by kernel_rfl, by (intro w' hSw); go_simp; first | done | (with_reducible rfl)⟩) hHeld ?_
    (try simp only [Act.put, List.getElem_toArray, List.getElem_cons_zero, List.getElem_cons_succ, List.setIfInBounds_toArray, List.set_cons_zero, List.set_cons_succ])
    refine wpAnyH_take (i := 10) (v := .bool true) rfl (by kernel_rfl) (by kernel_rfl) (by kernel_rfl) (fun _ _ _ h => h) (Or.inl ⟨by kernel_rfl, by (intro w' hSw); go_simp; first | done | (with_reducible rfl)⟩) hHeld ?_
    (try simp only [Act.put, List.getElem_toArray, List.getElem_cons_zero, List.getElem_cons_succ, List.setIfInBounds_toArray, List.set_cons_zero, List.set_cons_succ])
    refine wpAnyH_take (i := 11) (v := .int .i64 r) rfl (by kernel_rfl) (by kernel_rfl) (by kernel_rfl) (fun _ _ _ h => h) (Or.inl ⟨by kernel_rfl, by (intro w' hSw); go_simp; first | done | (with_reducible rfl)⟩) hHeld ?_
    (try simp only [Act.put, List.getElem_toArray, List.getElem_cons_zero, List.getElem_cons_succ, List.setIfInBounds_toArray, List.set_cons_zero, List.set_cons_succ])
    refine wpAnyH_take (i := 12) (v := .int .i64 r) rfl (by kernel_rfl) (by kernel_rfl) (by kernel_rfl) (fun _ _ _ h => h) (Or.inl ⟨by kernel_rfl, by (intro w' hSw); go_simp; first | done | (with_reducible rfl)⟩) hHeld ?_
    (try simp only [Act.put, List.getElem_toArray, List.getElem_cons_zero, List.getElem_cons_succ, List.setIfInBounds_toArray, List.set_cons_zero, List.set_cons_succ])
    refine wpAnyH_take (i := 13) (v := .bool true) rfl (by kernel_rfl) (by kernel_rfl) (by kernel_rfl) (fun _ _ _ h => h) (Or.inl ⟨by kernel_rfl, by (intro w' hSw); go_simp; first | done | (with_reducible rfl)⟩) hHeld ?_
    (try simp only [Act.put, List.getElem_toArray, List.getElem_cons_zero, List.getElem_cons_succ, List.setIfInBounds_toArray, List.set_cons_zero, List.set_cons_succ])
    refine wpAnyH_take (i := 14) (v := .bool true) rfl (by kernel_rfl) (by kernel_rfl) (by kernel_rfl) (fun _ _ _ h => h) (Or.inl ⟨by kernel_rfl, by (intro w' hSw); go_simp; first | done | (with_reducible rfl)⟩) hHeld ?_
    (try simp only [Act.put, List.getElem_toArray, List.getElem_cons_zero, List.getElem_cons_succ, List.setIfInBounds_toArray, List.set_cons_zero, List.set_cons_succ])
    refine wpAnyH_take (i := 15) (v := .bool true) rfl (by kernel_rfl) (by kernel_rfl) (by kernel_rfl) (fun _ _ _ h => h) (Or.inl ⟨by kernel_rfl, by (intro w' hSw); go_simp; first | done | (with_reducible rfl)⟩) hHeld ?_
    (try simp only [Act.put, List.getElem_toArray, List.getElem_cons_zero, List.getElem_cons_succ, List.setIfInBounds_toArray, List.set_cons_zero, List.set_cons_succ])
    refine wpAnyH_take (i := 16) (v := _) rfl (by kernel_rfl) (by kernel_rfl) (by kernel_rfl) (fun _ _ _ h => h) (yields_cfg (fun w' h' => h'.2) _ rfl (by kernel_rfl) (by kernel_rfl)) hHeld ?_
    (try simp only [Act.put, List.getElem_toArray, List.getElem_cons_zero, List.getElem_cons_succ, List.setIfInBounds_toArray, List.set_cons_zero, List.set_cons_succ])
    refine wpAnyH_take (i := 17) (v := _) rfl (by kernel_rfl) (by kernel_rfl) (by kernel_rfl) (fun _ _ _ h => h) (yields_cfg (fun w' h' => h'.1) _ rfl (by kernel_rfl) (by kernel_rfl)) hHeld ?_
    (try simp only [Act.put, List.getElem_toArray, List.getElem_cons_zero, List.getElem_cons_succ, List.setIfInBounds_toArray, List.set_cons_zero, List.set_cons_succ])
    refine wpAnyH_ready (rs := [18]) (by kernel_rfl) (by simp) ?_
    refine AllReadyH.cons rfl (fun K hK => ?_) AllReadyH.nil
    go_simp
    go_at_call 15; refine (CS _ _ _ pm pc).mono ?_; rintro e wz ⟨rfl, hz⟩; (replace B1 := B1.below hz B1.lt); (replace B2 := B2.below hz B2.lt); (replace hB := hB.trans (hz.mono hB.size)); (replace pc := (pc.below hz).more hz.size); (replace pm := (pm.below hz).more hz.size); clear hz
    dsimp only
    clear hHeld
    refine hK.out _ _ ⟨B1, B2⟩ (fun hHeld => ?_)
    clear hK K
    (try simp only [Act.put, List.getElem_toArray, List.getElem_cons_zero, List.getElem_cons_succ, List.setIfInBounds_toArray, List.set_cons_zero, List.set_cons_succ])
    refine wpAnyH_take (i := 19) (v := .bool true) rfl (by kernel_rfl) (by kernel_rfl) (by kernel_rfl) (fun _ _ _ h => h) (Or.inl ⟨by kernel_rfl, by (intro w' hSw); go_simp; first | done | (with_reducible rfl)⟩) hHeld ?_
    (try simp only [Act.put, List.getElem_toArray, List.getElem_cons_zero, List.getElem_cons_succ, List.setIfInBounds_toArray, List.set_cons_zero, List.set_cons_succ])
    refine wpAnyH_take (i := 20) (v := .bool true) rfl (by kernel_rfl) (by kernel_rfl) (by kernel_rfl) (fun _ _ _ h => h) (Or.inl ⟨by kernel_rfl, by (intro w' hSw); go_simp; first | done | (with_reducible rfl)⟩) hHeld ?_
    (try simp only [Act.put, List.getElem_toArray, List.getElem_cons_zero, List.getElem_cons_succ, List.setIfInBounds_toArray, List.set_cons_zero, List.set_cons_succ])
    refine wpAnyH_ready (rs := [21]) (by kernel_rfl) (by simp) ?_
    refine AllReadyH.cons rfl (fun K hK => ?_) AllReadyH.nil
    go_simp
    go_at_call 9; refine (known_is _).mono ?_; rintro e wz ⟨rfl, hz⟩; (replace B1 := B1.below hz B1.lt); (replace B2 := B2.below hz B2.lt); (replace hB := hB.trans (hz.mono hB.size)); (replace pc := (pc.below hz).more hz.size); (replace pm := (pm.below hz).more hz.size); clear hz
    dsimp only
    clear hHeld
    refine hK.out _ _ ⟨B1, B2⟩ (fun hHeld => ?_)
    clear hK K
    (try simp only [Act.put, List.getElem_toArray, List.getElem_cons_zero, List.getElem_cons_succ, List.setIfInBounds_toArray, List.set_cons_zero, List.set_cons_succ])
    refine wpAnyH_take (i := 22) (v := .bool true) rfl (by kernel_rfl) (by kernel_rfl) (by kernel_rfl) (fun _ _ _ h => h) (Or.inl ⟨by kernel_rfl, by (intro w' hSw); go_simp; first | done | (with_reducible rfl)⟩) hHeld ?_
    (try simp only [Act.put, List.getElem_toArray, List.getElem_cons_zero, List.getElem_cons_succ, List.setIfInBounds_toArray, List.set_cons_zero, List.set_cons_succ])
    refine wpAnyH_take (i := 23) (v := .bool true) rfl (by kernel_rfl) (by kernel_rfl) (by kernel_rfl) (fun _ _ _ h => h) (Or.inl ⟨by kernel_rfl, by (intro w' hSw); go_simp; first | done | (with_reducible rfl)⟩) hHeld ?_
    (try simp only [Act.put, List.getElem_toArray, List.getElem_cons_zero, List.getElem_cons_succ, List.setIfInBounds_toArray, List.set_cons_zero, List.set_cons_succ])
    refine wpAnyH_done (by kernel_rfl) ?_ _
    all_goals
      go_wp2_with fail
      go_ret
      exact ⟨by kernel_rfl, hB⟩
end Go.Proofs.Ytoigapnpmhogdaa
