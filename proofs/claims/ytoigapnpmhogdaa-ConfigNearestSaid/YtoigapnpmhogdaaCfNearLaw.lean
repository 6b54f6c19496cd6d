/- ConfigNearest, by a walk. -/
import Derived.Test.YtoigapnpmhogdaaCfCopies
import Derived.Test.YtoigapnpmhogdaaCfNearRef
import Derived.Test.YtoigapnpmhogdaaCfNearQ
namespace Go.Proofs.Ytoigapnpmhogdaa
open Go.RowKit
set_option linter.unusedVariables false
set_option linter.unusedSimpArgs false

set_option maxRecDepth 100000 in
set_option maxHeartbeats 8000000 in
theorem near_walk (c : Nat → Int) (A : Option Addr) (cap : Nat) (L : List (List UInt8)) (w : World) (h : PrAt w w.heap.size A L) (hl : L.length < 2 ^ 62) (hl2 : ∀ x ∈ L, x.length ≤ 2 ^ 50) :
    Calls Try.prog 5 #[.agg (cfV c (.slice A L.length cap))] w fun e w' => e = .returned (.bool true) ∧ Below w.heap.size w w' := by
  have hB := (Below.refl w.heap.size w).alloc (Nat.le_refl _) (.cells (cfV c (.slice A L.length cap)) 25)
  have B1 := Blk.new w 25 (cfV c (.slice A L.length cap))
  have pc := (h.below hB).more hB.size
  have CM := fun wx (hp : PrAt wx wx.heap.size A L) => much_is c A cap L wx hp hl hl2
  have HL := Lib.hid (not_much (L := L))
  have hl3 := Lib.hid (show ∀ x ∈ L, x.length < 2 ^ 62 from fun x hx => by have := hl2 x hx; omega)
  clear h hl2
  obtain ⟨w2, hw2⟩ : ∃ w2, w2 = w.alloc (.cells (cfV c (.slice A L.length cap)) 25) := ⟨_, rfl⟩
  rw [← hw2] at hB B1 pc
  obtain ⟨mu, hmu⟩ : ∃ r, r = muchB L := ⟨_, rfl⟩
  rw [← hmu] at CM HL
  clear hmu
  cases mu with
  | true =>
    go_enter Try.func5, Try.ntmps5
    go_upto_region 1 with fail
    rw [← hw2]
    clear hw2
    go_wp2_with (first | (refine load_cfg B1 _ rfl rfl rfl ?_) | (go_at_call 8; refine (CM _ pc).mono ?_; rintro e wy ⟨rfl, hz⟩; (replace B1 := B1.below hz B1.lt); (replace hB := hB.trans (hz.mono hB.size)); (replace pc := (pc.below hz).more hz.size); clear hz) | (go_at_call 9; refine (known_is _).mono ?_; rintro e wy ⟨rfl, hz⟩; (replace B1 := B1.below hz B1.lt); (replace hB := hB.trans (hz.mono hB.size)); (replace pc := (pc.below hz).more hz.size); clear hz))
    go_ret
    exact ⟨rfl, hB⟩
  | false =>
    obtain ⟨hl40, hl4⟩ := HL.out rfl
    have hnl1 := nearL_len L
    have hnl2 := nearL_row L
    have hnl0 : 0 < (nearL L).length := by
      rcases Nat.eq_zero_or_pos (nearL L).length with e | e
      · exact absurd (List.length_eq_zero_iff.1 e) (nearL_ne L)
      · exact e
    have hn62 : (nearL L).length < 2 ^ 62 := by omega
    have hn62r := Lib.hid (show ∀ x ∈ nearL L, x.length < 2 ^ 62 from fun x hx => by have := hnl2 x hx; omega)
    have CO := fun wx (hp : PrAt wx wx.heap.size A L) => own_is c A cap L wx hp hl40 hl4
    have CN := fun Am capm wx (hp : PrAt wx wx.heap.size Am L) => near_is c Am capm L wx hp hl40 hl4
    have CR := fun wx (hp : PrAt wx wx.heap.size A L) => refNear_is c A cap L wx hp hl40 hl4
    have MCa := fun wx (hp : PrAt wx wx.heap.size A L) => refMay_is c A cap L wx hp hl hl3.out
    have RS := fun A1 cap1 A' cap' wx (hp : PrAt wx wx.heap.size A1 L) (hp' : PrAt wx wx.heap.size A' L) => refSame_is c c A1 A' cap1 cap' L L wx hp hp' hl hl
    have RN := fun A1 cap1 A' cap' wx (hp : PrAt wx wx.heap.size A1 (nearL L)) (hp' : PrAt wx wx.heap.size A' (nearL L)) => refSame_is (nearC c) (nearC c) A1 A' cap1 cap' (nearL L) (nearL L) wx hp hp' hn62 hn62
    have RC := fun A1 cap1 A' cap' wx (hp : PrAt wx wx.heap.size A1 (nearL L)) (hp' : PrAt wx wx.heap.size A' L) => refSame_is (nearC c) c A1 A' cap1 cap' (nearL L) L wx hp hp' hn62 hl
    have MN := fun A1 cap1 wx (hp : PrAt wx wx.heap.size A1 (nearL L)) => may_is (nearC c) A1 cap1 (nearL L) wx hp hn62 hn62r.out
    have CW := fun A1 cap1 wx (hp : PrAt wx wx.heap.size A1 (nearL L)) => near_is (nearC c) A1 cap1 (nearL L) wx hp (by omega) (fun l hl => by have := hnl2 l hl; omega)
    simp only [sameN_self, decide_true, Bool.and_self] at RS RN
    simp only [near_may] at MN
    simp only [nearL_near, show ∀ P, cfV (nearC (nearC c)) P = cfV (nearC c) P from fun P => cfV_congr P (near_near c)] at CW
    have HF := Lib.hid (show mayN c L = 0 → (sameN (nearC c) c && decide (nearL L = L)) = true from fun e => by
      obtain ⟨e1, e2⟩ := may_near e
      rw [sameN_yes e1, decide_eq_true e2]; rfl)
    obtain ⟨mv, hmv⟩ : ∃ r, r = mayN c L := ⟨_, rfl⟩
    obtain ⟨rv, hrv⟩ : ∃ r, r = (sameN (nearC c) c && decide (nearL L = L)) := ⟨_, rfl⟩
    simp only [← hmv] at MCa HF
    simp only [← hrv] at RC HF
    have HLS := Lib.hid (show ∀ k, k < (nearL L).length → ∃ m, ((nearL L).map List.length)[k]? = some m ∧ m ≤ 40000 from fun k hk => ⟨((nearL L)[k]'hk).length, by rw [List.getElem?_map, List.getElem?_eq_getElem hk]; rfl, by have := hnl2 _ (List.getElem_mem hk); omega⟩)
    clear HL hl3 hl40 hl4 hnl2 hn62r hmv hrv
    obtain ⟨ls, hls⟩ : ∃ ls, ls = (nearL L).map List.length := ⟨_, rfl⟩
    rw [← hls] at HLS
    have HLL := Lib.hid hls
    clear hls
    go_enter Try.func5, Try.ntmps5
    go_upto_region 1 with fail
    rw [← hw2]
    clear hw2
    go_upto_region 4 with (first | (refine load_cfg B1 _ rfl rfl rfl ?_) | (go_at_call 8; refine (CM _ pc).mono ?_; rintro e wy ⟨rfl, hz⟩; (replace B1 := B1.below hz B1.lt); (replace hB := hB.trans (hz.mono hB.size)); (replace pc := (pc.below hz).more hz.size); clear hz) | (go_at_call 10; refine (CO _ pc).mono ?_; rintro e wy ⟨Am, capm, xm, rfl, ho, hro, hz⟩; (replace B1 := B1.below hz B1.lt); (replace hB := hB.trans (hz.mono hB.size)); (replace pc := (pc.below hz).more hz.size); clear hz) | (refine store_cfg _ _ rfl rfl rfl rfl rfl ?_))
    have pm := pr_own ho hro
    have B3 := Blk.new wy 25 (cfV c (.slice Am L.length capm))
    have hz := (Below.refl wy.heap.size wy).alloc (Nat.le_refl _) (.cells (cfV c (.slice Am L.length capm)) 25)
    obtain ⟨w5, hw5⟩ : ∃ w5, w5 = wy.alloc (.cells (cfV c (.slice Am L.length capm)) 25) := ⟨_, rfl⟩
    rw [← hw5] at B3 hz
    rw [← hw5]
    clear hw5 CO CM ho hro
    replace pm := (pm.below hz).more hz.size
    (replace B1 := B1.below hz B1.lt); (replace hB := hB.trans (hz.mono hB.size)); (replace pc := (pc.below hz).more hz.size); clear hz
    have Hc := Lib.hid pc
    have Hm := Lib.hid pm
    have hs1 : w.heap.size < w5.heap.size := B1.lt
    have hs3 : wy.heap.size < w5.heap.size := B3.lt
    have hD := Below.refl w5.heap.size w5
    go_upto_region 5 with (first | (refine load_cfg B1 _ rfl rfl rfl ?_) | (refine load_cfg B3 _ rfl rfl rfl ?_) | (go_at_call 22; refine (CN _ _ _ pm).mono ?_; rintro e wv ⟨gx, csx, capx, rfl, hgx, BX, RX, hz⟩; (replace hD := hD.trans (hz.mono hD.size)); (replace B1 := B1.below hz B1.lt); (replace B3 := B3.below hz B3.lt); (replace hB := hB.trans (hz.mono hB.size)); (replace pc := (pc.below hz).more hz.size); (replace pm := (pm.below hz).more hz.size); clear hz) | (refine store_cfg _ _ rfl rfl rfl rfl rfl ?_))
    have B4 := Blk.new wv 25 (cfV (nearC c) (.slice (some ⟨gx, 0, none⟩) (nearL L).length capx))
    have hz := (Below.refl wv.heap.size wv).alloc (Nat.le_refl _) (.cells (cfV (nearC c) (.slice (some ⟨gx, 0, none⟩) (nearL L).length capx)) 25)
    obtain ⟨w6, hw6⟩ : ∃ w6, w6 = wv.alloc (.cells (cfV (nearC c) (.slice (some ⟨gx, 0, none⟩) (nearL L).length capx)) 25) := ⟨_, rfl⟩
    rw [← hw6] at B4 hz
    rw [← hw6]
    clear hw6 CN
    replace hD := hD.trans (hz.mono hD.size)
    replace BX := BX.below hz BX.lt
    replace RX := RX.keep fun _ _ _ hh => hh.below hz hh.lt
    (replace B1 := B1.below hz B1.lt); (replace B3 := B3.below hz B3.lt); (replace hB := hB.trans (hz.mono hB.size)); (replace pc := (pc.below hz).more hz.size); (replace pm := (pm.below hz).more hz.size); clear hz
    have MU := MutU.of _ _ _ _ RX.mut w6.heap.size (Nat.le_refl _)
    rw [← HLL.out] at MU
    go_upto_region 6 with (first | (refine load_cfg B1 _ rfl rfl rfl ?_) | (refine load_cfg B3 _ rfl rfl rfl ?_) | (refine load_cfg B4 _ rfl rfl rfl ?_) | (go_at_call 23; refine (CR _ pc).mono ?_; rintro e wu ⟨gw, csw, capw, rfl, hgw, BW, RW, hz⟩; (replace B1 := B1.below hz B1.lt); (replace B3 := B3.below hz B3.lt); (replace B4 := B4.below hz B4.lt); (replace BX := BX.below hz BX.lt); (replace RX := RX.keep fun _ _ _ hh => hh.below hz hh.lt); (replace MU := MU.below hz); (replace hD := hD.trans (hz.mono hD.size)); (replace hB := hB.trans (hz.mono hB.size)); (replace pc := (pc.below hz).more hz.size); (replace pm := (pm.below hz).more hz.size); clear hz) | (refine store_cfg _ _ rfl rfl rfl rfl rfl ?_))
    have B5 := Blk.new wu 25 (cfV (nearC c) (.slice (some ⟨gw, 0, none⟩) (nearL L).length capw))
    have hz := (Below.refl wu.heap.size wu).alloc (Nat.le_refl _) (.cells (cfV (nearC c) (.slice (some ⟨gw, 0, none⟩) (nearL L).length capw)) 25)
    obtain ⟨w7, hw7⟩ : ∃ w7, w7 = wu.alloc (.cells (cfV (nearC c) (.slice (some ⟨gw, 0, none⟩) (nearL L).length capw)) 25) := ⟨_, rfl⟩
    rw [← hw7] at B5 hz
    rw [← hw7]
    clear hw7 CR
    replace BW := BW.below hz BW.lt
    replace RW := RW.keep fun _ _ _ hh => hh.below hz hh.lt
    (replace B1 := B1.below hz B1.lt); (replace B3 := B3.below hz B3.lt); (replace B4 := B4.below hz B4.lt); (replace BX := BX.below hz BX.lt); (replace RX := RX.keep fun _ _ _ hh => hh.below hz hh.lt); (replace MU := MU.below hz); (replace hD := hD.trans (hz.mono hD.size)); (replace hB := hB.trans (hz.mono hB.size)); (replace pc := (pc.below hz).more hz.size); (replace pm := (pm.below hz).more hz.size); clear hz
    have RXW := fun wx hp hp' => RN (some ⟨gx, 0, none⟩) capx (some ⟨gw, 0, none⟩) capw wx hp hp'
    have RMC := fun wx hp hp' => RS Am capm A cap wx hp hp'
    have RXC := fun wx hp hp' => RC (some ⟨gx, 0, none⟩) capx A cap wx hp hp'
    have MY := fun wx hp => MN (some ⟨gx, 0, none⟩) capx wx hp
    have MC := MCa
    have RNW := fun A1 cap1 wx hp hp' => RN A1 cap1 (some ⟨gw, 0, none⟩) capw wx hp hp'
    have CNW : ∀ wx, PrAt wx wx.heap.size (some ⟨gw, 0, none⟩) (nearL L) → Calls Try.prog 22 #[.agg (cfV (nearC c) (.slice (some ⟨gw, 0, none⟩) (nearL L).length capw))] wx (fun e w' => ∃ g2 cap2, e = .returned (.agg (cfV (nearC c) (.slice (some ⟨g2, 0, none⟩) (nearL L).length cap2))) ∧ PrAt w' w'.heap.size (some ⟨g2, 0, none⟩) (nearL L) ∧ Below wx.heap.size wx w') := fun wx hp => (CW (some ⟨gw, 0, none⟩) capw wx hp).mono fun e w' ⟨g2, cs2, cap2, e1, e2, e3, e4, e5⟩ => ⟨g2, cap2, e1, e4.pr e3, e5⟩
    clear RS RN RC MN MCa CW
    have px := trivial
    by_cases hm0 : mv = 0
    · have hrv := HF.out hm0
      subst hm0 hrv
      clear HF
      go_upto_region 8 with (first | (refine load_cfg B1 _ rfl rfl rfl ?_) | (refine load_cfg B3 _ rfl rfl rfl ?_) | (refine load_cfg B4 _ rfl rfl rfl ?_) | (refine load_cfg B5 _ rfl rfl rfl ?_) | (go_at_call 13; refine (MY _ (RX.pr BX)).mono ?_; rintro e wz ⟨rfl, hz⟩; (replace B1 := B1.below hz B1.lt); (replace B3 := B3.below hz B3.lt); (replace B4 := B4.below hz B4.lt); (replace B5 := B5.below hz B5.lt); (replace BX := BX.below hz BX.lt); (replace BW := BW.below hz BW.lt); (replace RX := RX.keep fun _ _ _ hh => hh.below hz hh.lt); (replace RW := RW.keep fun _ _ _ hh => hh.below hz hh.lt); (replace MU := MU.below hz); (replace hD := hD.trans (hz.mono hD.size)); (replace hB := hB.trans (hz.mono hB.size)); (replace pc := (pc.below hz).more hz.size); (replace pm := (pm.below hz).more hz.size); clear hz) | (go_at_call 14; refine (MC _ pc).mono ?_; rintro e wz ⟨rfl, hz⟩; (replace B1 := B1.below hz B1.lt); (replace B3 := B3.below hz B3.lt); (replace B4 := B4.below hz B4.lt); (replace B5 := B5.below hz B5.lt); (replace BX := BX.below hz BX.lt); (replace BW := BW.below hz BW.lt); (replace RX := RX.keep fun _ _ _ hh => hh.below hz hh.lt); (replace RW := RW.keep fun _ _ _ hh => hh.below hz hh.lt); (replace MU := MU.below hz); (replace hD := hD.trans (hz.mono hD.size)); (replace hB := hB.trans (hz.mono hB.size)); (replace pc := (pc.below hz).more hz.size); (replace pm := (pm.below hz).more hz.size); clear hz) | (go_at_call 15; (fail_if_success have := k1); have k1 := trivial; refine (RXW _ (RX.pr BX) (RW.pr BW)).mono ?_; rintro e wz ⟨rfl, hz⟩; (replace B1 := B1.below hz B1.lt); (replace B3 := B3.below hz B3.lt); (replace B4 := B4.below hz B4.lt); (replace B5 := B5.below hz B5.lt); (replace BX := BX.below hz BX.lt); (replace BW := BW.below hz BW.lt); (replace RX := RX.keep fun _ _ _ hh => hh.below hz hh.lt); (replace RW := RW.keep fun _ _ _ hh => hh.below hz hh.lt); (replace MU := MU.below hz); (replace hD := hD.trans (hz.mono hD.size)); (replace hB := hB.trans (hz.mono hB.size)); (replace pc := (pc.below hz).more hz.size); (replace pm := (pm.below hz).more hz.size); clear hz) | (go_at_call 15; (fail_if_success have := k2); have k2 := trivial; refine (RMC _ pm pc).mono ?_; rintro e wz ⟨rfl, hz⟩; (replace B1 := B1.below hz B1.lt); (replace B3 := B3.below hz B3.lt); (replace B4 := B4.below hz B4.lt); (replace B5 := B5.below hz B5.lt); (replace BX := BX.below hz BX.lt); (replace BW := BW.below hz BW.lt); (replace RX := RX.keep fun _ _ _ hh => hh.below hz hh.lt); (replace RW := RW.keep fun _ _ _ hh => hh.below hz hh.lt); (replace MU := MU.below hz); (replace hD := hD.trans (hz.mono hD.size)); (replace hB := hB.trans (hz.mono hB.size)); (replace pc := (pc.below hz).more hz.size); (replace pm := (pm.below hz).more hz.size); clear hz) | (go_at_call 15; refine (RXC _ (RX.pr BX) pc).mono ?_; rintro e wz ⟨rfl, hz⟩; (replace B1 := B1.below hz B1.lt); (replace B3 := B3.below hz B3.lt); (replace B4 := B4.below hz B4.lt); (replace B5 := B5.below hz B5.lt); (replace BX := BX.below hz BX.lt); (replace BW := BW.below hz BW.lt); (replace RX := RX.keep fun _ _ _ hh => hh.below hz hh.lt); (replace RW := RW.keep fun _ _ _ hh => hh.below hz hh.lt); (replace MU := MU.below hz); (replace hD := hD.trans (hz.mono hD.size)); (replace hB := hB.trans (hz.mono hB.size)); (replace pc := (pc.below hz).more hz.size); (replace pm := (pm.below hz).more hz.size); clear hz))
      clear RXW RXC MY MC k1 k2
      obtain ⟨wo, hwo⟩ : ∃ wo, wo = wz := ⟨_, rfl⟩
      subst hwo
      go_wp2_with fail
      clear px RX
      go_loopw [6] (fun i wr => ∃ k : Nat, k ≤ (nearL L).length ∧ i = .int .i64 k ∧ Blk wr wv.heap.size 25 (cfV (nearC c) (.slice (some ⟨gx, 0, none⟩) (nearL L).length capx)) ∧ Blk wr gx 43 csx ∧ MutU wr w5.heap.size w6.heap.size csx ls ∧ Blk wr wu.heap.size 25 (cfV (nearC c) (.slice (some ⟨gw, 0, none⟩) (nearL L).length capw)) ∧ Blk wr gw 43 csw ∧ RowsAt wr w6.heap.size csw (nearL L) ∧ Below w5.heap.size wo wr) (fun i _ => (nearL L).length - (intOf i).toNat)
      case atStart => exact ⟨0, Nat.zero_le _, rfl, B4, BX, MU, B5, BW, RW, Below.refl _ _⟩
      case round =>
        clear B4 BX MU B5 BW RW
        obtain ⟨k, hk, rfl, B4, BX, MU, B5, BW, RW, hbr⟩ := hrel
        have X14 : wr.cell? ⟨wv.heap.size, 14, none⟩ = some (.slice (some ⟨gx, 0, none⟩) (nearL L).length capx) := (B4.cell 14).trans (cfV_last _ _)
        have hk0 : (0 : Int) ≤ (k : Int) := by omega
        by_cases hlt : k < (nearL L).length
        · obtain ⟨m, hm, hm4⟩ := HLS.out k hlt
          have HMm := Lib.hid hm
          have hk1 : (k : Int) < ((nearL L).length : Int) := by omega
          clear hm
          go_wp2_with fail
          obtain ⟨wq, hwq⟩ : ∃ wq, wq = wr := ⟨_, rfl⟩
          subst hwq
          clear X14
          go_loopw [7] (fun i wr => ∃ j : Nat, j ≤ m ∧ i = .int .i64 j ∧ Blk wr wv.heap.size 25 (cfV (nearC c) (.slice (some ⟨gx, 0, none⟩) (nearL L).length capx)) ∧ Blk wr gx 43 csx ∧ MutU wr w5.heap.size w6.heap.size csx ls ∧ Blk wr wu.heap.size 25 (cfV (nearC c) (.slice (some ⟨gw, 0, none⟩) (nearL L).length capw)) ∧ Blk wr gw 43 csw ∧ RowsAt wr w6.heap.size csw (nearL L) ∧ Below w5.heap.size wo wr) (fun i _ => m - (intOf i).toNat)
          case atStart => exact ⟨0, Nat.zero_le _, rfl, B4, BX, MU, B5, BW, RW, hbr⟩
          case round =>
            clear B4 BX MU B5 BW RW hbr
            obtain ⟨j, hj, rfl, B4, BX, MU, B5, BW, RW, hbr⟩ := hrel
            have X14 : wr.cell? ⟨wv.heap.size, 14, none⟩ = some (.slice (some ⟨gx, 0, none⟩) (nearL L).length capx) := (B4.cell 14).trans (cfV_last _ _)
            obtain ⟨Ai, ci, h1, h2⟩ := MU k m HMm.out
            have XG : wr.cell? ⟨gx, k, none⟩ = some (.slice Ai m ci) := (BX.cell k).trans h1
            have hj0 : (0 : Int) ≤ (j : Int) := by omega
            by_cases hjm : j < m
            · obtain ⟨gi, cur, rfl, hgi, hgi1, BI, hb⟩ := h2 (by omega)
              obtain ⟨b, hbj⟩ := hb j hjm
              have XJ : wr.cell? ⟨gi, j, none⟩ = some (.int .u8 b) := (BI.cell j).trans hbj
              have FJ := BI.frozen j
              have N1 : wv.heap.size ≠ gi := Blk.ne_ B4 BI (by decide)
              have N2 : gx ≠ gi := Blk.ne_ BX BI (by decide)
              have N3 : wu.heap.size ≠ gi := Blk.ne_ B5 BI (by decide)
              have N4 : gw ≠ gi := Blk.ne_ BW BI (by decide)
              have hj1 : (j : Int) < (m : Int) := by omega
              have HB4 := Lib.hid B4
              have HBX := Lib.hid BX
              have HMU := Lib.hid MU
              have HB5 := Lib.hid B5
              have HBW := Lib.hid BW
              have HRW := Lib.hid RW
              clear h1 hb hbj B4 BX MU BI B5 BW RW
              go_wp2_with fail
              go_roundw
              case rel => exact ⟨j + 1, by omega, by go_num, HB4.out.far N1 _, HBX.out.far N2 _, HMU.out.set gi j _, HB5.out.far N3 _, HBW.out.far N4 _, HRW.out.keep fun g cur hg hh => hh.far (p := ⟨gi, j, none⟩) (by show g ≠ gi; omega) _, hbr.setCell hgi _⟩
              case measure => simp [intOf]; omega
            · obtain rfl : j = m := by omega
              clear h1 h2
              go_wp2_with fail
              go_roundw
              case rel => exact ⟨k + 1, by omega, by go_num, B4, BX, MU, B5, BW, RW, hbr⟩
              case measure => simp [intOf]; omega
        · obtain rfl : k = (nearL L).length := by omega
          have hD2 := hD.trans hbr
          replace B1 := B1.below hbr hs1
          replace B3 := B3.below hbr hs3
          replace pc := (Hc.out.below hD2).more hD2.size
          replace pm := (Hm.out.below hD2).more hD2.size
          replace hB := hB.trans (hbr.mono (Nat.le_of_lt hs1))
          clear B4 BX MU hbr hD hD2 Hc Hm HLS
          go_upto_region 15 with fail
          replace pm : PrAt wr.drew wr.drew.heap.size Am L := pm
          replace pc : PrAt wr.drew wr.drew.heap.size A L := pc
          replace B1 : Blk wr.drew w.heap.size 25 (cfV c (.slice A L.length cap)) := B1
          replace B3 : Blk wr.drew wy.heap.size 25 (cfV c (.slice Am L.length capm)) := B3
          replace B5 : Blk wr.drew wu.heap.size 25 (cfV (nearC c) (.slice (some ⟨gw, 0, none⟩) (nearL L).length capw)) := B5
          replace BW : Blk wr.drew gw 43 csw := BW
          replace RW : RowsAt wr.drew w6.heap.size csw (nearL L) := RW
          replace hB := hB.drew
          refine wp_region_held_drew (S := fun w' => Blk w' w.heap.size 25 (cfV c (.slice A L.length cap)) ∧ Blk w' wy.heap.size 25 (cfV c (.slice Am L.length capm)) ∧ Blk w' wu.heap.size 25 (cfV (nearC c) (.slice (some ⟨gw, 0, none⟩) (nearL L).length capw))) (by kernel_rfl) ⟨B1, B3, B5⟩ (fun hHeld => ?_)
          refine wpAnyH_take (i := 0) (v := _) rfl (by kernel_rfl) (by kernel_rfl) (by kernel_rfl) (fun _ _ _ h => h) (yields_cfg (fun w' h' => h'.2.1) _ rfl (by kernel_rfl) (by kernel_rfl)) hHeld ?_
          (try simp only [Act.put, List.getElem_toArray, List.getElem_cons_zero, List.getElem_cons_succ, List.setIfInBounds_toArray, List.set_cons_zero, List.set_cons_succ])
          refine wpAnyH_take (i := 1) (v := _) rfl (by kernel_rfl) (by kernel_rfl) (by kernel_rfl) (fun _ _ _ h => h) (yields_cfg (fun w' h' => h'.1) _ rfl (by kernel_rfl) (by kernel_rfl)) hHeld ?_
          (try simp only [Act.put, List.getElem_toArray, List.getElem_cons_zero, List.getElem_cons_succ, List.setIfInBounds_toArray, List.set_cons_zero, List.set_cons_succ])
          refine wpAnyH_ready (rs := [2]) (by kernel_rfl) (by simp) ?_
          refine AllReadyH.cons rfl (fun K hK => ?_) AllReadyH.nil
          go_simp
          go_at_call 15; refine (RMC _ pm pc).mono ?_; rintro e wz ⟨rfl, hz⟩; (replace B1 := B1.below hz B1.lt); (replace B3 := B3.below hz B3.lt); (replace B5 := B5.below hz B5.lt); (replace BW := BW.below hz BW.lt); (replace RW := RW.keep fun _ _ _ hh => hh.below hz hh.lt); (replace hB := hB.trans (hz.mono hB.size)); (replace pc := (pc.below hz).more hz.size); (replace pm := (pm.below hz).more hz.size); clear hz
          dsimp only
          clear hHeld
          refine hK.out _ _ ⟨B1, B3, B5⟩ (fun hHeld => ?_)
          clear hK K
          (try simp only [Act.put, List.getElem_toArray, List.getElem_cons_zero, List.getElem_cons_succ, List.setIfInBounds_toArray, List.set_cons_zero, List.set_cons_succ])
          refine wpAnyH_take (i := 3) (v := .bool true) rfl (by kernel_rfl) (by kernel_rfl) (by kernel_rfl) (fun _ _ _ h => h) (Or.inl ⟨by kernel_rfl, by (intro w' hSw); go_simp; first | done | (with_reducible rfl)⟩) hHeld ?_
          (try simp only [Act.put, List.getElem_toArray, List.getElem_cons_zero, List.getElem_cons_succ, List.setIfInBounds_toArray, List.set_cons_zero, List.set_cons_succ])
          refine wpAnyH_take (i := 4) (v := _) rfl (by kernel_rfl) (by kernel_rfl) (by kernel_rfl) (fun _ _ _ h => h) (yields_cfg (fun w' h' => h'.2.2) _ rfl (by kernel_rfl) (by kernel_rfl)) hHeld ?_
          (try simp only [Act.put, List.getElem_toArray, List.getElem_cons_zero, List.getElem_cons_succ, List.setIfInBounds_toArray, List.set_cons_zero, List.set_cons_succ])
          refine wpAnyH_take (i := 6) (v := _) rfl (by kernel_rfl) (by kernel_rfl) (by kernel_rfl) (fun _ _ _ h => h) (yields_cfg (fun w' h' => h'.2.2) _ rfl (by kernel_rfl) (by kernel_rfl)) hHeld ?_
          (try simp only [Act.put, List.getElem_toArray, List.getElem_cons_zero, List.getElem_cons_succ, List.setIfInBounds_toArray, List.set_cons_zero, List.set_cons_succ])
          refine wpAnyH_ready (rs := [5]) (by kernel_rfl) (by simp) ?_
          refine AllReadyH.cons rfl (fun K hK => ?_) AllReadyH.nil
          go_simp
          go_at_call 22; refine (CNW _ (RW.pr BW)).mono ?_; rintro e wz ⟨g2, cap2, rfl, p2, hz⟩; (replace B1 := B1.below hz B1.lt); (replace B3 := B3.below hz B3.lt); (replace B5 := B5.below hz B5.lt); (replace BW := BW.below hz BW.lt); (replace RW := RW.keep fun _ _ _ hh => hh.below hz hh.lt); (replace hB := hB.trans (hz.mono hB.size)); (replace pc := (pc.below hz).more hz.size); (replace pm := (pm.below hz).more hz.size); clear hz
          dsimp only
          clear hHeld
          refine hK.out _ _ ⟨B1, B3, B5⟩ (fun hHeld => ?_)
          clear hK K
          (try simp only [Act.put, List.getElem_toArray, List.getElem_cons_zero, List.getElem_cons_succ, List.setIfInBounds_toArray, List.set_cons_zero, List.set_cons_succ])
          refine wpAnyH_ready (rs := [7]) (by kernel_rfl) (by simp) ?_
          refine AllReadyH.cons rfl (fun K hK => ?_) AllReadyH.nil
          go_simp
          go_at_call 15; refine (RNW _ _ _ p2 (RW.pr BW)).mono ?_; rintro e wz ⟨rfl, hz⟩; (replace B1 := B1.below hz B1.lt); (replace B3 := B3.below hz B3.lt); (replace B5 := B5.below hz B5.lt); (replace BW := BW.below hz BW.lt); (replace RW := RW.keep fun _ _ _ hh => hh.below hz hh.lt); (replace hB := hB.trans (hz.mono hB.size)); (replace pc := (pc.below hz).more hz.size); (replace pm := (pm.below hz).more hz.size); clear hz
          dsimp only
          clear hHeld
          refine hK.out _ _ ⟨B1, B3, B5⟩ (fun hHeld => ?_)
          clear hK K
          (try simp only [Act.put, List.getElem_toArray, List.getElem_cons_zero, List.getElem_cons_succ, List.setIfInBounds_toArray, List.set_cons_zero, List.set_cons_succ])
          refine wpAnyH_take (i := 8) (v := .bool true) rfl (by kernel_rfl) (by kernel_rfl) (by kernel_rfl) (fun _ _ _ h => h) (Or.inl ⟨by kernel_rfl, by (intro w' hSw); go_simp; first | done | (with_reducible rfl)⟩) hHeld ?_
          (try simp only [Act.put, List.getElem_toArray, List.getElem_cons_zero, List.getElem_cons_succ, List.setIfInBounds_toArray, List.set_cons_zero, List.set_cons_succ])
          refine wpAnyH_take (i := 9) (v := .bool true) rfl (by kernel_rfl) (by kernel_rfl) (by kernel_rfl) (fun _ _ _ h => h) (Or.inl ⟨by kernel_rfl, by (intro w' hSw); go_simp; first | done | (with_reducible rfl)⟩) hHeld ?_
          (try simp only [Act.put, List.getElem_toArray, List.getElem_cons_zero, List.getElem_cons_succ, List.setIfInBounds_toArray, List.set_cons_zero, List.set_cons_succ])
          refine wpAnyH_ready (rs := [10]) (by kernel_rfl) (by simp) ?_
          refine AllReadyH.cons rfl (fun K hK => ?_) AllReadyH.nil
          go_simp
          go_at_call 9; refine (known_is _).mono ?_; rintro e wz ⟨rfl, hz⟩; (replace B1 := B1.below hz B1.lt); (replace B3 := B3.below hz B3.lt); (replace B5 := B5.below hz B5.lt); (replace BW := BW.below hz BW.lt); (replace RW := RW.keep fun _ _ _ hh => hh.below hz hh.lt); (replace hB := hB.trans (hz.mono hB.size)); (replace pc := (pc.below hz).more hz.size); (replace pm := (pm.below hz).more hz.size); clear hz
          dsimp only
          clear hHeld
          refine hK.out _ _ ⟨B1, B3, B5⟩ (fun hHeld => ?_)
          clear hK K
          (try simp only [Act.put, List.getElem_toArray, List.getElem_cons_zero, List.getElem_cons_succ, List.setIfInBounds_toArray, List.set_cons_zero, List.set_cons_succ])
          refine wpAnyH_take (i := 11) (v := .bool true) rfl (by kernel_rfl) (by kernel_rfl) (by kernel_rfl) (fun _ _ _ h => h) (Or.inl ⟨by kernel_rfl, by (intro w' hSw); go_simp; first | done | (with_reducible rfl)⟩) hHeld ?_
          (try simp only [Act.put, List.getElem_toArray, List.getElem_cons_zero, List.getElem_cons_succ, List.setIfInBounds_toArray, List.set_cons_zero, List.set_cons_succ])
          refine wpAnyH_take (i := 12) (v := .bool true) rfl (by kernel_rfl) (by kernel_rfl) (by kernel_rfl) (fun _ _ _ h => h) (Or.inl ⟨by kernel_rfl, by (intro w' hSw); go_simp; first | done | (with_reducible rfl)⟩) hHeld ?_
          (try simp only [Act.put, List.getElem_toArray, List.getElem_cons_zero, List.getElem_cons_succ, List.setIfInBounds_toArray, List.set_cons_zero, List.set_cons_succ])
          refine wpAnyH_done (by kernel_rfl) ?_ _
          go_wp2_with fail
          go_ret
          exact ⟨by first | rfl | kernel_rfl, hB⟩
    · have hm1 : (mv == 0) = false := by simp [hm0]
      clear HF hm0
      go_upto_region 8 with (first | (refine load_cfg B1 _ rfl rfl rfl ?_) | (refine load_cfg B3 _ rfl rfl rfl ?_) | (refine load_cfg B4 _ rfl rfl rfl ?_) | (refine load_cfg B5 _ rfl rfl rfl ?_) | (go_at_call 13; refine (MY _ (RX.pr BX)).mono ?_; rintro e wz ⟨rfl, hz⟩; (replace B1 := B1.below hz B1.lt); (replace B3 := B3.below hz B3.lt); (replace B4 := B4.below hz B4.lt); (replace B5 := B5.below hz B5.lt); (replace BX := BX.below hz BX.lt); (replace BW := BW.below hz BW.lt); (replace RX := RX.keep fun _ _ _ hh => hh.below hz hh.lt); (replace RW := RW.keep fun _ _ _ hh => hh.below hz hh.lt); (replace MU := MU.below hz); (replace hD := hD.trans (hz.mono hD.size)); (replace hB := hB.trans (hz.mono hB.size)); (replace pc := (pc.below hz).more hz.size); (replace pm := (pm.below hz).more hz.size); clear hz) | (go_at_call 14; refine (MC _ pc).mono ?_; rintro e wz ⟨rfl, hz⟩; (replace B1 := B1.below hz B1.lt); (replace B3 := B3.below hz B3.lt); (replace B4 := B4.below hz B4.lt); (replace B5 := B5.below hz B5.lt); (replace BX := BX.below hz BX.lt); (replace BW := BW.below hz BW.lt); (replace RX := RX.keep fun _ _ _ hh => hh.below hz hh.lt); (replace RW := RW.keep fun _ _ _ hh => hh.below hz hh.lt); (replace MU := MU.below hz); (replace hD := hD.trans (hz.mono hD.size)); (replace hB := hB.trans (hz.mono hB.size)); (replace pc := (pc.below hz).more hz.size); (replace pm := (pm.below hz).more hz.size); clear hz) | (go_at_call 15; (fail_if_success have := k1); have k1 := trivial; refine (RXW _ (RX.pr BX) (RW.pr BW)).mono ?_; rintro e wz ⟨rfl, hz⟩; (replace B1 := B1.below hz B1.lt); (replace B3 := B3.below hz B3.lt); (replace B4 := B4.below hz B4.lt); (replace B5 := B5.below hz B5.lt); (replace BX := BX.below hz BX.lt); (replace BW := BW.below hz BW.lt); (replace RX := RX.keep fun _ _ _ hh => hh.below hz hh.lt); (replace RW := RW.keep fun _ _ _ hh => hh.below hz hh.lt); (replace MU := MU.below hz); (replace hD := hD.trans (hz.mono hD.size)); (replace hB := hB.trans (hz.mono hB.size)); (replace pc := (pc.below hz).more hz.size); (replace pm := (pm.below hz).more hz.size); clear hz) | (go_at_call 15; (fail_if_success have := k2); have k2 := trivial; refine (RMC _ pm pc).mono ?_; rintro e wz ⟨rfl, hz⟩; (replace B1 := B1.below hz B1.lt); (replace B3 := B3.below hz B3.lt); (replace B4 := B4.below hz B4.lt); (replace B5 := B5.below hz B5.lt); (replace BX := BX.below hz BX.lt); (replace BW := BW.below hz BW.lt); (replace RX := RX.keep fun _ _ _ hh => hh.below hz hh.lt); (replace RW := RW.keep fun _ _ _ hh => hh.below hz hh.lt); (replace MU := MU.below hz); (replace hD := hD.trans (hz.mono hD.size)); (replace hB := hB.trans (hz.mono hB.size)); (replace pc := (pc.below hz).more hz.size); (replace pm := (pm.below hz).more hz.size); clear hz) | (go_at_call 15; refine (RXC _ (RX.pr BX) pc).mono ?_; rintro e wz ⟨rfl, hz⟩; (replace B1 := B1.below hz B1.lt); (replace B3 := B3.below hz B3.lt); (replace B4 := B4.below hz B4.lt); (replace B5 := B5.below hz B5.lt); (replace BX := BX.below hz BX.lt); (replace BW := BW.below hz BW.lt); (replace RX := RX.keep fun _ _ _ hh => hh.below hz hh.lt); (replace RW := RW.keep fun _ _ _ hh => hh.below hz hh.lt); (replace MU := MU.below hz); (replace hD := hD.trans (hz.mono hD.size)); (replace hB := hB.trans (hz.mono hB.size)); (replace pc := (pc.below hz).more hz.size); (replace pm := (pm.below hz).more hz.size); clear hz))
      clear RXW RXC MY MC k1 k2
      obtain ⟨wo, hwo⟩ : ∃ wo, wo = wz := ⟨_, rfl⟩
      subst hwo
      go_wp2_with fail
      clear px RX
      go_loopw [6] (fun i wr => ∃ k : Nat, k ≤ (nearL L).length ∧ i = .int .i64 k ∧ Blk wr wv.heap.size 25 (cfV (nearC c) (.slice (some ⟨gx, 0, none⟩) (nearL L).length capx)) ∧ Blk wr gx 43 csx ∧ MutU wr w5.heap.size w6.heap.size csx ls ∧ Blk wr wu.heap.size 25 (cfV (nearC c) (.slice (some ⟨gw, 0, none⟩) (nearL L).length capw)) ∧ Blk wr gw 43 csw ∧ RowsAt wr w6.heap.size csw (nearL L) ∧ Below w5.heap.size wo wr) (fun i _ => (nearL L).length - (intOf i).toNat)
      case atStart => exact ⟨0, Nat.zero_le _, rfl, B4, BX, MU, B5, BW, RW, Below.refl _ _⟩
      case round =>
        clear B4 BX MU B5 BW RW
        obtain ⟨k, hk, rfl, B4, BX, MU, B5, BW, RW, hbr⟩ := hrel
        have X14 : wr.cell? ⟨wv.heap.size, 14, none⟩ = some (.slice (some ⟨gx, 0, none⟩) (nearL L).length capx) := (B4.cell 14).trans (cfV_last _ _)
        have hk0 : (0 : Int) ≤ (k : Int) := by omega
        by_cases hlt : k < (nearL L).length
        · obtain ⟨m, hm, hm4⟩ := HLS.out k hlt
          have HMm := Lib.hid hm
          have hk1 : (k : Int) < ((nearL L).length : Int) := by omega
          clear hm
          go_wp2_with fail
          obtain ⟨wq, hwq⟩ : ∃ wq, wq = wr := ⟨_, rfl⟩
          subst hwq
          clear X14
          go_loopw [7] (fun i wr => ∃ j : Nat, j ≤ m ∧ i = .int .i64 j ∧ Blk wr wv.heap.size 25 (cfV (nearC c) (.slice (some ⟨gx, 0, none⟩) (nearL L).length capx)) ∧ Blk wr gx 43 csx ∧ MutU wr w5.heap.size w6.heap.size csx ls ∧ Blk wr wu.heap.size 25 (cfV (nearC c) (.slice (some ⟨gw, 0, none⟩) (nearL L).length capw)) ∧ Blk wr gw 43 csw ∧ RowsAt wr w6.heap.size csw (nearL L) ∧ Below w5.heap.size wo wr) (fun i _ => m - (intOf i).toNat)
          case atStart => exact ⟨0, Nat.zero_le _, rfl, B4, BX, MU, B5, BW, RW, hbr⟩
          case round =>
            clear B4 BX MU B5 BW RW hbr
            obtain ⟨j, hj, rfl, B4, BX, MU, B5, BW, RW, hbr⟩ := hrel
            have X14 : wr.cell? ⟨wv.heap.size, 14, none⟩ = some (.slice (some ⟨gx, 0, none⟩) (nearL L).length capx) := (B4.cell 14).trans (cfV_last _ _)
            obtain ⟨Ai, ci, h1, h2⟩ := MU k m HMm.out
            have XG : wr.cell? ⟨gx, k, none⟩ = some (.slice Ai m ci) := (BX.cell k).trans h1
            have hj0 : (0 : Int) ≤ (j : Int) := by omega
            by_cases hjm : j < m
            · obtain ⟨gi, cur, rfl, hgi, hgi1, BI, hb⟩ := h2 (by omega)
              obtain ⟨b, hbj⟩ := hb j hjm
              have XJ : wr.cell? ⟨gi, j, none⟩ = some (.int .u8 b) := (BI.cell j).trans hbj
              have FJ := BI.frozen j
              have N1 : wv.heap.size ≠ gi := Blk.ne_ B4 BI (by decide)
              have N2 : gx ≠ gi := Blk.ne_ BX BI (by decide)
              have N3 : wu.heap.size ≠ gi := Blk.ne_ B5 BI (by decide)
              have N4 : gw ≠ gi := Blk.ne_ BW BI (by decide)
              have hj1 : (j : Int) < (m : Int) := by omega
              have HB4 := Lib.hid B4
              have HBX := Lib.hid BX
              have HMU := Lib.hid MU
              have HB5 := Lib.hid B5
              have HBW := Lib.hid BW
              have HRW := Lib.hid RW
              clear h1 hb hbj B4 BX MU BI B5 BW RW
              go_wp2_with fail
              go_roundw
              case rel => exact ⟨j + 1, by omega, by go_num, HB4.out.far N1 _, HBX.out.far N2 _, HMU.out.set gi j _, HB5.out.far N3 _, HBW.out.far N4 _, HRW.out.keep fun g cur hg hh => hh.far (p := ⟨gi, j, none⟩) (by show g ≠ gi; omega) _, hbr.setCell hgi _⟩
              case measure => simp [intOf]; omega
            · obtain rfl : j = m := by omega
              clear h1 h2
              go_wp2_with fail
              go_roundw
              case rel => exact ⟨k + 1, by omega, by go_num, B4, BX, MU, B5, BW, RW, hbr⟩
              case measure => simp [intOf]; omega
        · obtain rfl : k = (nearL L).length := by omega
          have hD2 := hD.trans hbr
          replace B1 := B1.below hbr hs1
          replace B3 := B3.below hbr hs3
          replace pc := (Hc.out.below hD2).more hD2.size
          replace pm := (Hm.out.below hD2).more hD2.size
          replace hB := hB.trans (hbr.mono (Nat.le_of_lt hs1))
          clear B4 BX MU hbr hD hD2 Hc Hm HLS
          go_upto_region 15 with fail
          replace pm : PrAt wr.drew wr.drew.heap.size Am L := pm
          replace pc : PrAt wr.drew wr.drew.heap.size A L := pc
          replace B1 : Blk wr.drew w.heap.size 25 (cfV c (.slice A L.length cap)) := B1
          replace B3 : Blk wr.drew wy.heap.size 25 (cfV c (.slice Am L.length capm)) := B3
          replace B5 : Blk wr.drew wu.heap.size 25 (cfV (nearC c) (.slice (some ⟨gw, 0, none⟩) (nearL L).length capw)) := B5
          replace BW : Blk wr.drew gw 43 csw := BW
          replace RW : RowsAt wr.drew w6.heap.size csw (nearL L) := RW
          replace hB := hB.drew
          refine wp_region_held_drew (S := fun w' => Blk w' w.heap.size 25 (cfV c (.slice A L.length cap)) ∧ Blk w' wy.heap.size 25 (cfV c (.slice Am L.length capm)) ∧ Blk w' wu.heap.size 25 (cfV (nearC c) (.slice (some ⟨gw, 0, none⟩) (nearL L).length capw))) (by kernel_rfl) ⟨B1, B3, B5⟩ (fun hHeld => ?_)
          refine wpAnyH_take (i := 0) (v := _) rfl (by kernel_rfl) (by kernel_rfl) (by kernel_rfl) (fun _ _ _ h => h) (yields_cfg (fun w' h' => h'.2.1) _ rfl (by kernel_rfl) (by kernel_rfl)) hHeld ?_
          (try simp only [Act.put, List.getElem_toArray, List.getElem_cons_zero, List.getElem_cons_succ, List.setIfInBounds_toArray, List.set_cons_zero, List.set_cons_succ])
          refine wpAnyH_take (i := 1) (v := _) rfl (by kernel_rfl) (by kernel_rfl) (by kernel_rfl) (fun _ _ _ h => h) (yields_cfg (fun w' h' => h'.1) _ rfl (by kernel_rfl) (by kernel_rfl)) hHeld ?_
          (try simp only [Act.put, List.getElem_toArray, List.getElem_cons_zero, List.getElem_cons_succ, List.setIfInBounds_toArray, List.set_cons_zero, List.set_cons_succ])
          refine wpAnyH_ready (rs := [2]) (by kernel_rfl) (by simp) ?_
          refine AllReadyH.cons rfl (fun K hK => ?_) AllReadyH.nil
          go_simp
          go_at_call 15; refine (RMC _ pm pc).mono ?_; rintro e wz ⟨rfl, hz⟩; (replace B1 := B1.below hz B1.lt); (replace B3 := B3.below hz B3.lt); (replace B5 := B5.below hz B5.lt); (replace BW := BW.below hz BW.lt); (replace RW := RW.keep fun _ _ _ hh => hh.below hz hh.lt); (replace hB := hB.trans (hz.mono hB.size)); (replace pc := (pc.below hz).more hz.size); (replace pm := (pm.below hz).more hz.size); clear hz
          dsimp only
          clear hHeld
          refine hK.out _ _ ⟨B1, B3, B5⟩ (fun hHeld => ?_)
          clear hK K
          (try simp only [Act.put, List.getElem_toArray, List.getElem_cons_zero, List.getElem_cons_succ, List.setIfInBounds_toArray, List.set_cons_zero, List.set_cons_succ])
          refine wpAnyH_take (i := 3) (v := .bool true) rfl (by kernel_rfl) (by kernel_rfl) (by kernel_rfl) (fun _ _ _ h => h) (Or.inl ⟨by kernel_rfl, by (intro w' hSw); go_simp; first | done | (with_reducible rfl)⟩) hHeld ?_
          (try simp only [Act.put, List.getElem_toArray, List.getElem_cons_zero, List.getElem_cons_succ, List.setIfInBounds_toArray, List.set_cons_zero, List.set_cons_succ])
          refine wpAnyH_take (i := 4) (v := _) rfl (by kernel_rfl) (by kernel_rfl) (by kernel_rfl) (fun _ _ _ h => h) (yields_cfg (fun w' h' => h'.2.2) _ rfl (by kernel_rfl) (by kernel_rfl)) hHeld ?_
          (try simp only [Act.put, List.getElem_toArray, List.getElem_cons_zero, List.getElem_cons_succ, List.setIfInBounds_toArray, List.set_cons_zero, List.set_cons_succ])
          refine wpAnyH_take (i := 6) (v := _) rfl (by kernel_rfl) (by kernel_rfl) (by kernel_rfl) (fun _ _ _ h => h) (yields_cfg (fun w' h' => h'.2.2) _ rfl (by kernel_rfl) (by kernel_rfl)) hHeld ?_
          (try simp only [Act.put, List.getElem_toArray, List.getElem_cons_zero, List.getElem_cons_succ, List.setIfInBounds_toArray, List.set_cons_zero, List.set_cons_succ])
          refine wpAnyH_ready (rs := [5]) (by kernel_rfl) (by simp) ?_
          refine AllReadyH.cons rfl (fun K hK => ?_) AllReadyH.nil
          go_simp
          go_at_call 22; refine (CNW _ (RW.pr BW)).mono ?_; rintro e wz ⟨g2, cap2, rfl, p2, hz⟩; (replace B1 := B1.below hz B1.lt); (replace B3 := B3.below hz B3.lt); (replace B5 := B5.below hz B5.lt); (replace BW := BW.below hz BW.lt); (replace RW := RW.keep fun _ _ _ hh => hh.below hz hh.lt); (replace hB := hB.trans (hz.mono hB.size)); (replace pc := (pc.below hz).more hz.size); (replace pm := (pm.below hz).more hz.size); clear hz
          dsimp only
          clear hHeld
          refine hK.out _ _ ⟨B1, B3, B5⟩ (fun hHeld => ?_)
          clear hK K
          (try simp only [Act.put, List.getElem_toArray, List.getElem_cons_zero, List.getElem_cons_succ, List.setIfInBounds_toArray, List.set_cons_zero, List.set_cons_succ])
          refine wpAnyH_ready (rs := [7]) (by kernel_rfl) (by simp) ?_
          refine AllReadyH.cons rfl (fun K hK => ?_) AllReadyH.nil
          go_simp
          go_at_call 15; refine (RNW _ _ _ p2 (RW.pr BW)).mono ?_; rintro e wz ⟨rfl, hz⟩; (replace B1 := B1.below hz B1.lt); (replace B3 := B3.below hz B3.lt); (replace B5 := B5.below hz B5.lt); (replace BW := BW.below hz BW.lt); (replace RW := RW.keep fun _ _ _ hh => hh.below hz hh.lt); (replace hB := hB.trans (hz.mono hB.size)); (replace pc := (pc.below hz).more hz.size); (replace pm := (pm.below hz).more hz.size); clear hz
          dsimp only
          clear hHeld
          refine hK.out _ _ ⟨B1, B3, B5⟩ (fun hHeld => ?_)
          clear hK K
          (try simp only [Act.put, List.getElem_toArray, List.getElem_cons_zero, List.getElem_cons_succ, List.setIfInBounds_toArray, List.set_cons_zero, List.set_cons_succ])
          refine wpAnyH_take (i := 8) (v := .bool true) rfl (by kernel_rfl) (by kernel_rfl) (by kernel_rfl) (fun _ _ _ h => h) (Or.inl ⟨by kernel_rfl, by (intro w' hSw); go_simp; first | done | (with_reducible rfl)⟩) hHeld ?_
          (try simp only [Act.put, List.getElem_toArray, List.getElem_cons_zero, List.getElem_cons_succ, List.setIfInBounds_toArray, List.set_cons_zero, List.set_cons_succ])
          refine wpAnyH_take (i := 9) (v := .bool true) rfl (by kernel_rfl) (by kernel_rfl) (by kernel_rfl) (fun _ _ _ h => h) (Or.inl ⟨by kernel_rfl, by (intro w' hSw); go_simp; first | done | (with_reducible rfl)⟩) hHeld ?_
          (try simp only [Act.put, List.getElem_toArray, List.getElem_cons_zero, List.getElem_cons_succ, List.setIfInBounds_toArray, List.set_cons_zero, List.set_cons_succ])
          refine wpAnyH_ready (rs := [10]) (by kernel_rfl) (by simp) ?_
          refine AllReadyH.cons rfl (fun K hK => ?_) AllReadyH.nil
          go_simp
          go_at_call 9; refine (known_is _).mono ?_; rintro e wz ⟨rfl, hz⟩; (replace B1 := B1.below hz B1.lt); (replace B3 := B3.below hz B3.lt); (replace B5 := B5.below hz B5.lt); (replace BW := BW.below hz BW.lt); (replace RW := RW.keep fun _ _ _ hh => hh.below hz hh.lt); (replace hB := hB.trans (hz.mono hB.size)); (replace pc := (pc.below hz).more hz.size); (replace pm := (pm.below hz).more hz.size); clear hz
          dsimp only
          clear hHeld
          refine hK.out _ _ ⟨B1, B3, B5⟩ (fun hHeld => ?_)
          clear hK K
          (try simp only [Act.put, List.getElem_toArray, List.getElem_cons_zero, List.getElem_cons_succ, List.setIfInBounds_toArray, List.set_cons_zero, List.set_cons_succ])
          refine wpAnyH_take (i := 11) (v := .bool true) rfl (by kernel_rfl) (by kernel_rfl) (by kernel_rfl) (fun _ _ _ h => h) (Or.inl ⟨by kernel_rfl, by (intro w' hSw); go_simp; first | done | (with_reducible rfl)⟩) hHeld ?_
          (try simp only [Act.put, List.getElem_toArray, List.getElem_cons_zero, List.getElem_cons_succ, List.setIfInBounds_toArray, List.set_cons_zero, List.set_cons_succ])
          refine wpAnyH_take (i := 12) (v := .bool true) rfl (by kernel_rfl) (by kernel_rfl) (by kernel_rfl) (fun _ _ _ h => h) (Or.inl ⟨by kernel_rfl, by (intro w' hSw); go_simp; first | done | (with_reducible rfl)⟩) hHeld ?_
          (try simp only [Act.put, List.getElem_toArray, List.getElem_cons_zero, List.getElem_cons_succ, List.setIfInBounds_toArray, List.set_cons_zero, List.set_cons_succ])
          refine wpAnyH_done (by kernel_rfl) ?_ _
          go_wp2_with fail
          go_ret
          exact ⟨by first | rfl | kernel_rfl, hB⟩
end Go.Proofs.Ytoigapnpmhogdaa
