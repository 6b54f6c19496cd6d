/- Nearest of the program, by a walk. -/
import Derived.Test.YtoigapnpmhogdaaCfNearP
import Derived.Test.YtoigapnpmhogdaaCfLoad
namespace Go.Proofs.Ytoigapnpmhogdaa
open Go.RowKit
set_option linter.unusedVariables false
set_option linter.unusedSimpArgs false

set_option maxRecDepth 100000 in
set_option maxHeartbeats 8000000 in
theorem near_is (c : Nat → Int) (A : Option Addr) (cap : Nat) (L : List (List UInt8)) (w : World) (h : PrAt w w.heap.size A L) (hl : L.length ≤ 40) (hl2 : ∀ x ∈ L, x.length ≤ 40000) :
    Calls Try.prog 22 #[.agg (cfV c (.slice A L.length cap))] w fun e w' => ∃ g cs capn, e = .returned (.agg (cfV (nearC c) (.slice (some ⟨g, 0, none⟩) (nearL L).length capn))) ∧ w.heap.size ≤ g ∧ Blk w' g 43 cs ∧ RowsAt w' w.heap.size cs (nearL L) ∧ Below w.heap.size w w' := by
  obtain ⟨zz, hzz⟩ : ∃ z : Array Value, z = #[.int .i64 0, .int .i64 0, .int .i64 0, .int .i64 0, .int .i64 0, .int .i64 0, .int .i64 0, .int .i64 0, .int .i64 0, .int .i64 0, .int .u64 0, .int .u64 0, .int .u64 0, .int .u64 0, .slice none 0 0] := ⟨_, rfl⟩
  have hb2 := below2 w (.cells (cfV c (.slice A L.length cap)) 25) (.cells zz 25)
  have B1 : Blk ((w.alloc (.cells (cfV c (.slice A L.length cap)) 25)).alloc (.cells zz 25)) w.heap.size 25 (cfV c (.slice A L.length cap)) := (Blk.new _ _ _).alloc _
  have B2 : Blk ((w.alloc (.cells (cfV c (.slice A L.length cap)) 25)).alloc (.cells zz 25)) (w.heap.size + 1) 25 zz := new2 _ _ _ _
  have hs2 : ((w.alloc (.cells (cfV c (.slice A L.length cap)) 25)).alloc (.cells zz 25)).heap.size = w.heap.size + 2 := by simp
  have pc := (h.below hb2).more hb2.size
  obtain ⟨w2, hw2⟩ : ∃ w2, w2 = ((w.alloc (.cells (cfV c (.slice A L.length cap)) 25)).alloc (.cells zz 25)) := ⟨_, rfl⟩
  rw [← hw2] at hb2 B1 B2 hs2 pc
  have CC := copy_is c A cap L w2 pc hl hl2
  have hnl : nearL L = if L = [] then [plP] else (L.take 16).map fun l => l.take 1024 := rfl
  have HNL := Lib.hid hnl
  have HL2 := Lib.hid hl2
  rw [hzz] at hw2
  have HZ := Lib.hid hzz
  clear h pc hzz hnl hl2
  obtain ⟨nl, hnl0⟩ : ∃ nl, nl = nearL L := ⟨_, rfl⟩
  rw [← hnl0] at HNL ⊢
  clear hnl0
  go_enter Try.func22, Try.ntmps22
  go_upto_region 1 with fail
  rw [← hw2]
  clear hw2
  go_upto_region 2 with (first | (refine load_cfg B1 _ rfl rfl rfl ?_) | (go_at_call 26; refine CC.mono ?_; rintro e wy ⟨Ax, capx, xs, rfl, ho, hro, hz⟩; (have B1y := B1.below hz B1.lt)) | (refine wpList_store_row rfl 25 (.tmp 1) (.tmp 8) rfl w.heap.size (cfV c (.slice Ax L.length capx)) rfl rfl 25 _ B1y (by kernel_rfl) rfl (by simp [cfV, Value.oneCell']) ?_))
  have B1z := B1y.put_ (cfV c (.slice Ax L.length capx))
  have B2z := (B2.below hz B2.lt).setRow_ (g' := w.heap.size) (by omega) (cfV c (.slice Ax L.length capx))
  have hzb := below_setRow (hb2.trans (hz.mono hb2.size)) (g := w.heap.size) (Nat.le_refl _) (cfV c (.slice Ax L.length capx))
  have hfz : ∀ g, w2.heap.size ≤ g → g < wy.heap.size → (wy.setRow w.heap.size (cfV c (.slice Ax L.length capx))).heap[g]? = wy.heap[g]? := fun g h1 h2 => setRow_other _ _ g _ (by omega)
  have ho3 := own_far ho hfz
  have hro3 := hro.keep fun _ _ _ h => own_far h hfz
  obtain ⟨w3, hw3⟩ : ∃ w3, w3 = wy.setRow w.heap.size (cfV c (.slice Ax L.length capx)) := ⟨_, rfl⟩
  rw [← hw3] at B1z B2z hzb ho3 hro3 ⊢
  clear hw3 hfz ho hro CC B1 B2 B1y hb2 hz
  have C0 := bounds_is w.heap.size w3 B1z.lt
  go_wp2_with (go_at_call 27; refine C0.mono ?_; rintro e w4 ⟨rfl, hz⟩)
  replace B1z := B1z.below hz B1z.lt
  replace B2z := B2z.below hz B2z.lt
  replace hzb := hzb.trans (hz.mono hzb.size)
  replace ho3 := own_below ho3 hz
  replace hro3 := hro3.below hz
  clear C0 hz
  have HO := Lib.hid ho3
  have HR := Lib.hid hro3
  have HB2 := Lib.hid B2z
  clear ho3 hro3 B2z
  go_loopw [10] (fun i wr => ∃ k : Nat, k ≤ 14 ∧ i = .int .i64 k ∧ Blk wr w.heap.size 25 (cfV (clN c k) (.slice Ax L.length capx)) ∧ (∀ g, g < w4.heap.size → g ≠ w.heap.size → wr.heap[g]? = w4.heap[g]?) ∧ w4.heap.size ≤ wr.heap.size ∧ Below w.heap.size w wr) (fun i _ => 14 - (intOf i).toNat)
  case atStart => exact ⟨0, Nat.zero_le _, rfl, by rw [clN_zero]; exact B1z, fun _ _ _ => rfl, Nat.le_refl _, hzb⟩
  case round =>
    obtain ⟨k, hk, rfl, HB, hfr, hsr, hbw⟩ := hrel
    have HFR := Lib.hid hfr
    clear hfr
    have hb4 : w.heap.size < w4.heap.size := B1z.lt
    by_cases hlt : k < 14
    · have hk1 : (k : Int) < 14 := by omega
      have hk0 : (0 : Int) ≤ (k : Int) := by omega
      have I := fun w' => index_bnd w.heap.size w' k hlt
      have HB1 := HB.alloc (.cells (bnd w.heap.size k) 45)
      have C := within_is w.heap.size k (clN c k k) (wr.alloc (.cells (bnd w.heap.size k) 45)) hlt ((HB1.cell k).trans (cfV_get (clN c k) _ k hlt)) (HB1.frozen k)
      rw [clN_at] at C
      have hbw3 := ((hbw.alloc hbw.size (.cells (bnd w.heap.size k) 45)).setCell (p := ⟨w.heap.size, k, none⟩) (Nat.le_refl _) (part' k (cl k (c k)))).alloc (by have := hbw.size; simp [World.setCell]; omega) (.cells (bnd w.heap.size k) 45)
      have HB3 := (HB1.set_ k (part' k (cl k (c k)))).alloc (.cells (bnd w.heap.size k) 45)
      rw [clN_set c _ k hlt] at HB3
      have hfr3 : ∀ g, g < w4.heap.size → g ≠ w.heap.size → (((wr.alloc (.cells (bnd w.heap.size k) 45)).setCell ⟨w.heap.size, k, none⟩ (part' k (cl k (c k)))).alloc (.cells (bnd w.heap.size k) 45)).heap[g]? = w4.heap[g]? := fun g h1 h2 => by
        refine (Below.heap_alloc _ _ g (by simp [World.setCell]; omega)).trans ((Below.heap_setCell _ _ _ g h2).trans ((Below.heap_alloc _ _ g (by omega)).trans (HFR.out g h1 h2)))
      have hsz3 : w4.heap.size ≤ (((wr.alloc (.cells (bnd w.heap.size k) 45)).setCell ⟨w.heap.size, k, none⟩ (part' k (cl k (c k)))).alloc (.cells (bnd w.heap.size k) 45)).heap.size := by simp [World.setCell]; omega
      obtain ⟨w5, hw5⟩ : ∃ w5, w5 = (((wr.alloc (.cells (bnd w.heap.size k) 45)).setCell ⟨w.heap.size, k, none⟩ (part' k (cl k (c k)))).alloc (.cells (bnd w.heap.size k) 45)) := ⟨_, rfl⟩
      rw [← hw5] at HB3 hbw3 hfr3 hsz3 C
      have HF3 := Lib.hid hfr3
      clear hw5 HB1 HB hfr3
      unfold bnd at *
      generalize (if k < 10 then 62 else 63) = ty at *
      go_wp2_with (go_at_call 28; refine C.mono ?_; rintro e w' ⟨rfl, rfl⟩)
      go_round
      case rel => exact ⟨k + 1, by omega, by go_num, HB3, HF3.out, hsz3, hbw3⟩
      case measure => simp [intOf]; omega
    · obtain rfl : k = 14 := by omega
      have X14 : wr.cell? ⟨w.heap.size, 14, none⟩ = some (.slice Ax L.length capx) := (HB.cell 14).trans (cfV_last _ _)
      have hfo : ∀ g, w2.heap.size ≤ g → g < w4.heap.size → wr.heap[g]? = w4.heap[g]? := fun g h1 h2 => HFR.out g h2 (by omega)
      have B2r : Blk wr (w.heap.size + 1) 25 zz := (HFR.out (w.heap.size + 1) HB2.out.lt (by omega)).trans HB2.out
      have ho := own_far HO.out hfo
      have hro := HR.out.keep fun _ _ _ h => own_far h hfo
      rw [clN_end] at HB
      clear HFR hfo HO HR HB2 hlt hk hzb B1z
      rcases Nat.eq_zero_or_pos L.length with hn | hn
      · have hL0 := Lib.hid (List.length_eq_zero_iff.1 hn)
        have hn0 : ¬ (0 : Int) < (L.length : Int) := by omega
        have hn0 : ((L.length : Int) == 0) = true := by simp [hn]
        have CP := plain_is wr
        have FF : ∀ (g : Nat) (w' : World), (Instr.field 25 (.agg (cfV plc (.slice (some ⟨g, 0, none⟩) 1 1))) 14).run Try.prog w' = .ok (.slice (some ⟨g, 0, none⟩) 1 1) w' := fun g w' => by kernel_rfl
        have HN := Lib.hid hn
        clear hn ho hro
        go_upto_region 9 with (go_at_call 18; refine CP.mono ?_; rintro e wp ⟨g, gp, capp, cur, rfl, hg, hg', hne, hK, hK', hcap, htake, hz⟩; (have HBp := HB.below hz HB.lt); (have f14 := HBp.frozen 14); (have x14 : wp.cell? ⟨w.heap.size, 14, none⟩ = some (.slice Ax L.length capx) := (HBp.cell 14).trans (cfV_last _ _)))
        have hbs := hbw.size
        have hgg : w.heap.size ≤ g := by omega
        have N1 : w.heap.size ≠ g := Blk.ne_ HBp hK (by decide)
        have HXv := HBp.set_ 14 (.slice (some ⟨g, 0, none⟩) 1 1)
        have BGv := hK.far (p := ⟨w.heap.size, 14, none⟩) (fun e => N1 e.symm) (.slice (some ⟨g, 0, none⟩) 1 1)
        have BHv := hK'.far (p := ⟨w.heap.size, 14, none⟩) (Blk.ne_ hK' HBp (by decide)) (.slice (some ⟨g, 0, none⟩) 1 1)
        have B2v := (B2r.below hz B2r.lt).far (p := ⟨w.heap.size, 14, none⟩) (by show w.heap.size + 1 ≠ w.heap.size; omega) (.slice (some ⟨g, 0, none⟩) 1 1)
        have hbv := (hbw.trans (hz.mono hbw.size)).setCell (p := ⟨w.heap.size, 14, none⟩) (Nat.le_refl _) (.slice (some ⟨g, 0, none⟩) 1 1)
        obtain ⟨wn, hwn⟩ : ∃ wn, wn = wp.setCell ⟨w.heap.size, 14, none⟩ (.slice (some ⟨g, 0, none⟩) 1 1) := ⟨_, rfl⟩
        rw [← hwn] at HXv BGv BHv B2v hbv ⊢
        clear hwn f14 x14 HBp hK hK' hz CP HB B2r hbw X14
        have X14n : wn.cell? ⟨w.heap.size, 14, none⟩ = some (.slice (some ⟨g, 0, none⟩) 1 1) := (HXv.cell 14).trans (cfV_last _ _)
        have f14 := HXv.frozen 14
        have RAn : RowsAt wn w.heap.size #[.slice (some ⟨gp, 0, none⟩) 8 capp] [plP] := RowsAt.of_plain BHv (by omega) hcap htake
        have HXv0 := HXv
        have BGn := BGv
        have B2n := B2v
        have hbn := hbv
        clear HXv BGv B2v hbv BHv
        have HXv := HXv0.set_ 14 (.slice (some ⟨g, 0, none⟩) 1 1)
        have BGv := BGn.far (p := ⟨w.heap.size, 14, none⟩) (fun e => N1 e.symm) (.slice (some ⟨g, 0, none⟩) 1 1)
        have RAv : RowsAt (wn.setCell ⟨w.heap.size, 14, none⟩ (.slice (some ⟨g, 0, none⟩) 1 1)) w.heap.size #[.slice (some ⟨gp, 0, none⟩) 8 capp] ([plP]) := RowsAt.keep (H := w.heap.size) RAn fun gi cur _ hgi => hgi.far (p := ⟨w.heap.size, 14, none⟩) (Blk.ne_ hgi HXv0 (by decide)) _
        have B2v := B2n.far (p := ⟨w.heap.size, 14, none⟩) (by show w.heap.size + 1 ≠ w.heap.size; omega) (.slice (some ⟨g, 0, none⟩) 1 1)
        have hbv := hbn.setCell (p := ⟨w.heap.size, 14, none⟩) (Nat.le_refl _) (.slice (some ⟨g, 0, none⟩) 1 1)
        have HNLP := Lib.hid (show nl = ([plP]).map (fun l => l.take 1024) from by rw [HNL.out, if_pos hL0.out]; rfl)
        have HLP := Lib.hid (show ∀ l ∈ ([plP]), l.length ≤ 40000 from fun l hl => by rw [List.mem_singleton.1 hl]; decide)
        have HLEN := Lib.hid (show ([plP]).length = 1 from rfl)
        go_upto_region 10 with fail
        obtain ⟨wv, hwv⟩ : ∃ wv, wv = wn.setCell ⟨w.heap.size, 14, none⟩ (.slice (some ⟨g, 0, none⟩) 1 1) := ⟨_, rfl⟩
        rw [← hwv] at HXv BGv RAv B2v hbv ⊢
        clear hwv f14
        have hNPc : (1 : Nat) ≤ 40 := by omega
        clear X14n HXv0 BGn B2n hbn RAn FF
        have X14v : wv.cell? ⟨w.heap.size, 14, none⟩ = some (.slice (some ⟨g, 0, none⟩) 1 1) := (HXv.cell 14).trans (cfV_last _ _)
        go_wp2_with fail
        clear X14v
        obtain ⟨wq, hwq⟩ : ∃ wq, wq = wv := ⟨_, rfl⟩
        subst hwq
        go_loopw [34] (fun i wx => ∃ (k : Nat) (cs : Array Value), k ≤ 1 ∧ i = .int .i64 k ∧ Blk wx w.heap.size 25 (cfV (nearC c) (.slice (some ⟨g, 0, none⟩) 1 1)) ∧ Blk wx g 43 cs ∧ RowsAt wx w.heap.size cs (mix k [plP]) ∧ Blk wx (w.heap.size + 1) 25 zz ∧ Below w.heap.size w wx) (fun i _ => 1 - (intOf i).toNat)
        case atStart => exact ⟨0, _, Nat.zero_le _, rfl, HXv, BGv, by rw [mix_zero]; exact RAv, B2v, hbv⟩
        case round =>
          clear HXv BGv RAv B2v hbv
          obtain ⟨k, cs, hk, rfl, HX, BG, RA, B2, hb⟩ := hrel
          have X14 : wr.cell? ⟨w.heap.size, 14, none⟩ = some (.slice (some ⟨g, 0, none⟩) 1 1) := (HX.cell 14).trans (cfV_last _ _)
          have hk0 : (0 : Int) ≤ (k : Int) := by omega
          have N1 : w.heap.size ≠ g := Blk.ne_ HX BG (by decide)
          have N2 : w.heap.size + 1 ≠ g := Blk.ne_ B2 BG (by decide)
          by_cases hlt : k < 1
          · have hkl : k < ([plP]).length := by rw [HLEN.out]; exact hlt
            obtain ⟨l, hl0⟩ : ∃ l, l = ([plP])[k]'hkl := ⟨_, rfl⟩
            have hl : ([plP])[k]? = some l := by rw [List.getElem?_eq_getElem hkl, hl0]
            have hl4 := HLP.out l (by rw [hl0]; exact List.getElem_mem hkl)
            obtain ⟨Ai, ci, h1, h2, h3, h4⟩ := RA k l (by rw [mix_at, hl]; simp)
            have XG : wr.cell? ⟨g, k, none⟩ = some (.slice Ai l.length ci) := (BG.cell k).trans h1
            have FG := BG.frozen k
            have hk1 : (k : Int) < (1 : Int) := by omega
            obtain ⟨m, hm⟩ : ∃ m, m = l.length := ⟨_, rfl⟩
            have hmt : (l.take 1024).length = min 1024 m := by rw [List.length_take, hm]
            have h1' := h1
            rw [← hm] at XG h1' h2
            have HM := Lib.hid hm
            have HMT := Lib.hid hmt
            have HL := Lib.hid hl
            have H1 := Lib.hid h1
            have HHX := Lib.hid HX
            have HBG := Lib.hid BG
            have HRA := Lib.hid RA
            have HB2 := Lib.hid B2
            have h3' := Lib.hid h3
            have hmc : (m : Int) ≤ (ci : Int) := by omega
            have hkeep := Lib.hid (show ∀ v gi cur, w.heap.size ≤ gi → Blk wr gi 5 cur → Blk (wr.drew.setCell ⟨g, k, none⟩ v) gi 5 cur from fun v gi cur _ hgi => Blk.far (w := wr.drew) hgi (p := ⟨g, k, none⟩) (Blk.ne_ hgi BG (by decide)) v)
            clear hl0 hl4 h1 h1' h2 h3 h4 hm hmt hl HX BG RA B2 hkl
            by_cases hm4 : m ≤ 1024
            · have hm41 : (m : Int) ≤ 1024 := by omega
              go_wp2_with fail
              go_region
              go_wp2_with fail
              go_roundw
              case rel => exact ⟨k + 1, cs.setIfInBounds k (.slice Ai m ci), by omega, by go_num, Blk.far (w := wr.drew) HHX.out N1 _, Blk.set_ (w := wr.drew) HBG.out k _, HRA.out.cut HL.out H1.out (hkeep.out _) m (by rw [HMT.out]; omega), Blk.far (w := wr.drew) HB2.out N2 _, hb.drew.setCell hgg _⟩
              case measure => simp [intOf]; omega
            · have hm41 : ¬ (m : Int) ≤ 1024 := by omega
              have hm42 : (1024 : Int) < (m : Int) := by omega
              have hm43 : (1024 : Int) ≤ (ci : Int) := by omega
              go_wp2_with fail
              go_region
              go_wp2_with fail
              go_roundw
              case rel => exact ⟨k + 1, cs.setIfInBounds k (.slice Ai 1024 ci), by omega, by go_num, Blk.far (w := wr.drew) HHX.out N1 _, Blk.set_ (w := wr.drew) HBG.out k _, HRA.out.cut HL.out H1.out (hkeep.out _) 1024 (by rw [HMT.out]; omega), Blk.far (w := wr.drew) HB2.out N2 _, hb.drew.setCell hgg _⟩
              case measure => simp [intOf]; omega
          · obtain rfl : k = 1 := by omega
            have B2s := B2
            rw [HZ.out] at B2s
            have E2 := B2s.put_ (cfV (nearC c) (.slice (some ⟨g, 0, none⟩) 1 1))
            have RAe : RowsAt wr w.heap.size cs nl := by rw [HNLP.out, ← mix_end, HLEN.out]; exact RA
            have hlen : nl.length = 1 := by rw [HNLP.out, List.length_map]; exact HLEN.out
            have HEN := Lib.hid hlen
            clear hlen
            go_wp2_with (first | (refine load_cfg HX _ rfl rfl rfl ?_) | (refine wpList_store_row rfl 25 (.tmp 2) (.tmp 49) rfl (w.heap.size + 1) (cfV (nearC c) (.slice (some ⟨g, 0, none⟩) 1 1)) rfl rfl 25 _ B2s (by kernel_rfl) rfl (by simp [cfV, Value.oneCell']) ?_))
            obtain ⟨d, hu1, hu2⟩ := underCf
            exact bodyPost_ret (results_cell_row (P := Try.prog) rfl _ _ (w.heap.size + 1) 25 _ (0, 0) d rfl E2 hu1 (by cases d <;> first | rfl | exact absurd hu2 Bool.false_ne_true) (by kernel_rfl)) rfl ⟨g, cs, 1, by rw [HEN.out], hgg, BG.setRow_ (fun e => N2 e.symm) _, RAe.keep fun gi cur hgi hb => hb.setRow_ (Blk.ne_ hb B2 (by decide)) _, below_setRow hb (by omega) _⟩
      · obtain ⟨g, cs, rfl, hg, BG, RA, hnc⟩ := RowsAt.of_own ho hro hn
        have N1 : w.heap.size ≠ g := Blk.ne_ HB BG (by decide)
        have f14 := HB.frozen 14
        have hn0 : ¬ (L.length : Int) = 0 := by omega
        have hnc1 : (L.length : Int) ≤ (capx : Int) := by omega
        by_cases h16 : L.length ≤ 16
        · have h161 : (L.length : Int) ≤ 16 := by omega
          have RA' : RowsAt wr w.heap.size cs L := fun i l hi => by
            obtain ⟨Ai, ci, q1, q2, q3, q4⟩ := RA i l hi
            exact ⟨Ai, ci, q1, q2, q3, fun hm => by
              obtain ⟨gi, cur, a, b, c, d⟩ := q4 hm
              exact ⟨gi, cur, a, by omega, c, d⟩⟩
          have hgg : w.heap.size ≤ g := by omega
          have HXv := HB.set_ 14 (.slice (some ⟨g, 0, none⟩) L.length capx)
          have BGv := BG.far (p := ⟨w.heap.size, 14, none⟩) (fun e => N1 e.symm) (.slice (some ⟨g, 0, none⟩) L.length capx)
          have RAv : RowsAt (wr.setCell ⟨w.heap.size, 14, none⟩ (.slice (some ⟨g, 0, none⟩) L.length capx)) w.heap.size cs (L) := RowsAt.keep (H := w.heap.size) RA' fun gi cur _ hgi => hgi.far (p := ⟨w.heap.size, 14, none⟩) (Blk.ne_ hgi HB (by decide)) _
          have B2v := B2r.far (p := ⟨w.heap.size, 14, none⟩) (by show w.heap.size + 1 ≠ w.heap.size; omega) (.slice (some ⟨g, 0, none⟩) L.length capx)
          have hbv := hbw.setCell (p := ⟨w.heap.size, 14, none⟩) (Nat.le_refl _) (.slice (some ⟨g, 0, none⟩) L.length capx)
          have HNLP := Lib.hid (show nl = (L).map (fun l => l.take 1024) from by rw [HNL.out, if_neg (by intro e; rw [e] at hn; simp at hn), List.take_of_length_le h16])
          have HLP := Lib.hid (show ∀ l ∈ (L), l.length ≤ 40000 from HL2.out)
          have HLEN := Lib.hid (show (L).length = L.length from rfl)
          have HN := Lib.hid hn
          clear hn RA'
          go_upto_region 10 with fail
          obtain ⟨wv, hwv⟩ : ∃ wv, wv = wr.setCell ⟨w.heap.size, 14, none⟩ (.slice (some ⟨g, 0, none⟩) L.length capx) := ⟨_, rfl⟩
          rw [← hwv] at HXv BGv RAv B2v hbv ⊢
          clear hwv f14
          have hNPc : (L.length : Nat) ≤ 40 := by omega
          clear X14 ho hro B2r HB BG RA hbw
          have X14v : wv.cell? ⟨w.heap.size, 14, none⟩ = some (.slice (some ⟨g, 0, none⟩) L.length capx) := (HXv.cell 14).trans (cfV_last _ _)
          go_wp2_with fail
          clear X14v
          obtain ⟨wq, hwq⟩ : ∃ wq, wq = wv := ⟨_, rfl⟩
          subst hwq
          go_loopw [34] (fun i wx => ∃ (k : Nat) (cs : Array Value), k ≤ L.length ∧ i = .int .i64 k ∧ Blk wx w.heap.size 25 (cfV (nearC c) (.slice (some ⟨g, 0, none⟩) L.length capx)) ∧ Blk wx g 43 cs ∧ RowsAt wx w.heap.size cs (mix k L) ∧ Blk wx (w.heap.size + 1) 25 zz ∧ Below w.heap.size w wx) (fun i _ => L.length - (intOf i).toNat)
          case atStart => exact ⟨0, cs, Nat.zero_le _, rfl, HXv, BGv, by rw [mix_zero]; exact RAv, B2v, hbv⟩
          case round =>
            clear HXv BGv RAv B2v hbv
            obtain ⟨k, cs, hk, rfl, HX, BG, RA, B2, hb⟩ := hrel
            have X14 : wr.cell? ⟨w.heap.size, 14, none⟩ = some (.slice (some ⟨g, 0, none⟩) L.length capx) := (HX.cell 14).trans (cfV_last _ _)
            have hk0 : (0 : Int) ≤ (k : Int) := by omega
            have N1 : w.heap.size ≠ g := Blk.ne_ HX BG (by decide)
            have N2 : w.heap.size + 1 ≠ g := Blk.ne_ B2 BG (by decide)
            by_cases hlt : k < L.length
            · have hkl : k < (L).length := hlt
              obtain ⟨l, hl0⟩ : ∃ l, l = (L)[k]'hkl := ⟨_, rfl⟩
              have hl : (L)[k]? = some l := by rw [List.getElem?_eq_getElem hkl, hl0]
              have hl4 := HLP.out l (by rw [hl0]; exact List.getElem_mem hkl)
              obtain ⟨Ai, ci, h1, h2, h3, h4⟩ := RA k l (by rw [mix_at, hl]; simp)
              have XG : wr.cell? ⟨g, k, none⟩ = some (.slice Ai l.length ci) := (BG.cell k).trans h1
              have FG := BG.frozen k
              have hk1 : (k : Int) < (L.length : Int) := by omega
              obtain ⟨m, hm⟩ : ∃ m, m = l.length := ⟨_, rfl⟩
              have hmt : (l.take 1024).length = min 1024 m := by rw [List.length_take, hm]
              have h1' := h1
              rw [← hm] at XG h1' h2
              have HM := Lib.hid hm
              have HMT := Lib.hid hmt
              have HL := Lib.hid hl
              have H1 := Lib.hid h1
              have HHX := Lib.hid HX
              have HBG := Lib.hid BG
              have HRA := Lib.hid RA
              have HB2 := Lib.hid B2
              have h3' := Lib.hid h3
              have hmc : (m : Int) ≤ (ci : Int) := by omega
              have hkeep := Lib.hid (show ∀ v gi cur, w.heap.size ≤ gi → Blk wr gi 5 cur → Blk (wr.drew.setCell ⟨g, k, none⟩ v) gi 5 cur from fun v gi cur _ hgi => Blk.far (w := wr.drew) hgi (p := ⟨g, k, none⟩) (Blk.ne_ hgi BG (by decide)) v)
              clear hl0 hl4 h1 h1' h2 h3 h4 hm hmt hl HX BG RA B2 hkl
              by_cases hm4 : m ≤ 1024
              · have hm41 : (m : Int) ≤ 1024 := by omega
                go_wp2_with fail
                go_region
                go_wp2_with fail
                go_roundw
                case rel => exact ⟨k + 1, cs.setIfInBounds k (.slice Ai m ci), by omega, by go_num, Blk.far (w := wr.drew) HHX.out N1 _, Blk.set_ (w := wr.drew) HBG.out k _, HRA.out.cut HL.out H1.out (hkeep.out _) m (by rw [HMT.out]; omega), Blk.far (w := wr.drew) HB2.out N2 _, hb.drew.setCell hgg _⟩
                case measure => simp [intOf]; omega
              · have hm41 : ¬ (m : Int) ≤ 1024 := by omega
                have hm42 : (1024 : Int) < (m : Int) := by omega
                have hm43 : (1024 : Int) ≤ (ci : Int) := by omega
                go_wp2_with fail
                go_region
                go_wp2_with fail
                go_roundw
                case rel => exact ⟨k + 1, cs.setIfInBounds k (.slice Ai 1024 ci), by omega, by go_num, Blk.far (w := wr.drew) HHX.out N1 _, Blk.set_ (w := wr.drew) HBG.out k _, HRA.out.cut HL.out H1.out (hkeep.out _) 1024 (by rw [HMT.out]; omega), Blk.far (w := wr.drew) HB2.out N2 _, hb.drew.setCell hgg _⟩
                case measure => simp [intOf]; omega
            · obtain rfl : k = L.length := by omega
              have B2s := B2
              rw [HZ.out] at B2s
              have E2 := B2s.put_ (cfV (nearC c) (.slice (some ⟨g, 0, none⟩) L.length capx))
              have RAe : RowsAt wr w.heap.size cs nl := by rw [HNLP.out, ← mix_end]; exact RA
              have hlen : nl.length = L.length := by rw [HNLP.out, List.length_map]
              have HEN := Lib.hid hlen
              clear hlen
              go_wp2_with (first | (refine load_cfg HX _ rfl rfl rfl ?_) | (refine wpList_store_row rfl 25 (.tmp 2) (.tmp 49) rfl (w.heap.size + 1) (cfV (nearC c) (.slice (some ⟨g, 0, none⟩) L.length capx)) rfl rfl 25 _ B2s (by kernel_rfl) rfl (by simp [cfV, Value.oneCell']) ?_))
              obtain ⟨d, hu1, hu2⟩ := underCf
              exact bodyPost_ret (results_cell_row (P := Try.prog) rfl _ _ (w.heap.size + 1) 25 _ (0, 0) d rfl E2 hu1 (by cases d <;> first | rfl | exact absurd hu2 Bool.false_ne_true) (by kernel_rfl)) rfl ⟨g, cs, capx, by rw [HEN.out], hgg, BG.setRow_ (fun e => N2 e.symm) _, RAe.keep fun gi cur hgi hb => hb.setRow_ (Blk.ne_ hb B2 (by decide)) _, below_setRow hb (by omega) _⟩
        · have h161 : ¬ (L.length : Int) ≤ 16 := by omega
          have h162 : (16 : Int) < (L.length : Int) := by omega
          have h163 : (16 : Int) ≤ (capx : Int) := by omega
          have RA' : RowsAt wr w.heap.size cs L := fun i l hi => by
            obtain ⟨Ai, ci, q1, q2, q3, q4⟩ := RA i l hi
            exact ⟨Ai, ci, q1, q2, q3, fun hm => by
              obtain ⟨gi, cur, a, b, c, d⟩ := q4 hm
              exact ⟨gi, cur, a, by omega, c, d⟩⟩
          have hgg : w.heap.size ≤ g := by omega
          have HXv := HB.set_ 14 (.slice (some ⟨g, 0, none⟩) 16 capx)
          have BGv := BG.far (p := ⟨w.heap.size, 14, none⟩) (fun e => N1 e.symm) (.slice (some ⟨g, 0, none⟩) 16 capx)
          have RAv : RowsAt (wr.setCell ⟨w.heap.size, 14, none⟩ (.slice (some ⟨g, 0, none⟩) 16 capx)) w.heap.size cs (L.take 16) := RowsAt.keep (H := w.heap.size) (RA'.take 16) fun gi cur _ hgi => hgi.far (p := ⟨w.heap.size, 14, none⟩) (Blk.ne_ hgi HB (by decide)) _
          have B2v := B2r.far (p := ⟨w.heap.size, 14, none⟩) (by show w.heap.size + 1 ≠ w.heap.size; omega) (.slice (some ⟨g, 0, none⟩) 16 capx)
          have hbv := hbw.setCell (p := ⟨w.heap.size, 14, none⟩) (Nat.le_refl _) (.slice (some ⟨g, 0, none⟩) 16 capx)
          have HNLP := Lib.hid (show nl = (L.take 16).map (fun l => l.take 1024) from by rw [HNL.out, if_neg (by intro e; rw [e] at hn; simp at hn)])
          have HLP := Lib.hid (show ∀ l ∈ (L.take 16), l.length ≤ 40000 from fun l hl => HL2.out l (List.mem_of_mem_take hl))
          have HLEN := Lib.hid (show (L.take 16).length = 16 from by rw [List.length_take]; omega)
          have HN := Lib.hid hn
          clear hn RA'
          go_upto_region 10 with fail
          obtain ⟨wv, hwv⟩ : ∃ wv, wv = wr.setCell ⟨w.heap.size, 14, none⟩ (.slice (some ⟨g, 0, none⟩) 16 capx) := ⟨_, rfl⟩
          rw [← hwv] at HXv BGv RAv B2v hbv ⊢
          clear hwv f14
          have hNPc : (16 : Nat) ≤ 40 := by omega
          clear X14 ho hro B2r HB BG RA hbw
          have X14v : wv.cell? ⟨w.heap.size, 14, none⟩ = some (.slice (some ⟨g, 0, none⟩) 16 capx) := (HXv.cell 14).trans (cfV_last _ _)
          go_wp2_with fail
          clear X14v
          obtain ⟨wq, hwq⟩ : ∃ wq, wq = wv := ⟨_, rfl⟩
          subst hwq
          go_loopw [34] (fun i wx => ∃ (k : Nat) (cs : Array Value), k ≤ 16 ∧ i = .int .i64 k ∧ Blk wx w.heap.size 25 (cfV (nearC c) (.slice (some ⟨g, 0, none⟩) 16 capx)) ∧ Blk wx g 43 cs ∧ RowsAt wx w.heap.size cs (mix k (L.take 16)) ∧ Blk wx (w.heap.size + 1) 25 zz ∧ Below w.heap.size w wx) (fun i _ => 16 - (intOf i).toNat)
          case atStart => exact ⟨0, cs, Nat.zero_le _, rfl, HXv, BGv, by rw [mix_zero]; exact RAv, B2v, hbv⟩
          case round =>
            clear HXv BGv RAv B2v hbv
            obtain ⟨k, cs, hk, rfl, HX, BG, RA, B2, hb⟩ := hrel
            have X14 : wr.cell? ⟨w.heap.size, 14, none⟩ = some (.slice (some ⟨g, 0, none⟩) 16 capx) := (HX.cell 14).trans (cfV_last _ _)
            have hk0 : (0 : Int) ≤ (k : Int) := by omega
            have N1 : w.heap.size ≠ g := Blk.ne_ HX BG (by decide)
            have N2 : w.heap.size + 1 ≠ g := Blk.ne_ B2 BG (by decide)
            by_cases hlt : k < 16
            · have hkl : k < ((L.take 16)).length := by rw [HLEN.out]; exact hlt
              obtain ⟨l, hl0⟩ : ∃ l, l = ((L.take 16))[k]'hkl := ⟨_, rfl⟩
              have hl : ((L.take 16))[k]? = some l := by rw [List.getElem?_eq_getElem hkl, hl0]
              have hl4 := HLP.out l (by rw [hl0]; exact List.getElem_mem hkl)
              obtain ⟨Ai, ci, h1, h2, h3, h4⟩ := RA k l (by rw [mix_at, hl]; simp)
              have XG : wr.cell? ⟨g, k, none⟩ = some (.slice Ai l.length ci) := (BG.cell k).trans h1
              have FG := BG.frozen k
              have hk1 : (k : Int) < (16 : Int) := by omega
              obtain ⟨m, hm⟩ : ∃ m, m = l.length := ⟨_, rfl⟩
              have hmt : (l.take 1024).length = min 1024 m := by rw [List.length_take, hm]
              have h1' := h1
              rw [← hm] at XG h1' h2
              have HM := Lib.hid hm
              have HMT := Lib.hid hmt
              have HL := Lib.hid hl
              have H1 := Lib.hid h1
              have HHX := Lib.hid HX
              have HBG := Lib.hid BG
              have HRA := Lib.hid RA
              have HB2 := Lib.hid B2
              have h3' := Lib.hid h3
              have hmc : (m : Int) ≤ (ci : Int) := by omega
              have hkeep := Lib.hid (show ∀ v gi cur, w.heap.size ≤ gi → Blk wr gi 5 cur → Blk (wr.drew.setCell ⟨g, k, none⟩ v) gi 5 cur from fun v gi cur _ hgi => Blk.far (w := wr.drew) hgi (p := ⟨g, k, none⟩) (Blk.ne_ hgi BG (by decide)) v)
              clear hl0 hl4 h1 h1' h2 h3 h4 hm hmt hl HX BG RA B2 hkl
              by_cases hm4 : m ≤ 1024
              · have hm41 : (m : Int) ≤ 1024 := by omega
                go_wp2_with fail
                go_region
                go_wp2_with fail
                go_roundw
                case rel => exact ⟨k + 1, cs.setIfInBounds k (.slice Ai m ci), by omega, by go_num, Blk.far (w := wr.drew) HHX.out N1 _, Blk.set_ (w := wr.drew) HBG.out k _, HRA.out.cut HL.out H1.out (hkeep.out _) m (by rw [HMT.out]; omega), Blk.far (w := wr.drew) HB2.out N2 _, hb.drew.setCell hgg _⟩
                case measure => simp [intOf]; omega
              · have hm41 : ¬ (m : Int) ≤ 1024 := by omega
                have hm42 : (1024 : Int) < (m : Int) := by omega
                have hm43 : (1024 : Int) ≤ (ci : Int) := by omega
                go_wp2_with fail
                go_region
                go_wp2_with fail
                go_roundw
                case rel => exact ⟨k + 1, cs.setIfInBounds k (.slice Ai 1024 ci), by omega, by go_num, Blk.far (w := wr.drew) HHX.out N1 _, Blk.set_ (w := wr.drew) HBG.out k _, HRA.out.cut HL.out H1.out (hkeep.out _) 1024 (by rw [HMT.out]; omega), Blk.far (w := wr.drew) HB2.out N2 _, hb.drew.setCell hgg _⟩
                case measure => simp [intOf]; omega
            · obtain rfl : k = 16 := by omega
              have B2s := B2
              rw [HZ.out] at B2s
              have E2 := B2s.put_ (cfV (nearC c) (.slice (some ⟨g, 0, none⟩) 16 capx))
              have RAe : RowsAt wr w.heap.size cs nl := by rw [HNLP.out, ← mix_end, HLEN.out]; exact RA
              have hlen : nl.length = 16 := by rw [HNLP.out, List.length_map]; exact HLEN.out
              have HEN := Lib.hid hlen
              clear hlen
              go_wp2_with (first | (refine load_cfg HX _ rfl rfl rfl ?_) | (refine wpList_store_row rfl 25 (.tmp 2) (.tmp 49) rfl (w.heap.size + 1) (cfV (nearC c) (.slice (some ⟨g, 0, none⟩) 16 capx)) rfl rfl 25 _ B2s (by kernel_rfl) rfl (by simp [cfV, Value.oneCell']) ?_))
              obtain ⟨d, hu1, hu2⟩ := underCf
              exact bodyPost_ret (results_cell_row (P := Try.prog) rfl _ _ (w.heap.size + 1) 25 _ (0, 0) d rfl E2 hu1 (by cases d <;> first | rfl | exact absurd hu2 Bool.false_ne_true) (by kernel_rfl)) rfl ⟨g, cs, capx, by rw [HEN.out], hgg, BG.setRow_ (fun e => N2 e.symm) _, RAe.keep fun gi cur hgi hb => hb.setRow_ (Blk.ne_ hb B2 (by decide)) _, below_setRow hb (by omega) _⟩
end Go.Proofs.Ytoigapnpmhogdaa
