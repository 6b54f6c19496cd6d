/- Same of the reference, by a walk. -/
import Derived.Test.YtoigapnpmhogdaaCfSame2
import Derived.Deep.CutRange
namespace Go.Proofs.Ytoigapnpmhogdaa
open Go.RowKit
set_option linter.unusedVariables false
set_option linter.unusedSimpArgs false

theorem smallR (c : Nat → Int) (P : Value) (w : World) : Calls Try.prog 31 #[.agg (cfV c P)] w fun e w' => ∃ g, e = .returned (.slice (some ⟨g, 0, none⟩) 10 10) ∧ g < w'.heap.size ∧ (∀ k, k < 10 → w'.cell? ⟨g, k, none⟩ = some (.int .i64 (c k))) ∧ Below w.heap.size w w' :=
  (small_is c P w).mono fun e w' ⟨g, h1, h2, h3, h4⟩ => ⟨g, h1, h3.lt, fun k hk => (h3.cell k).trans (smallRow c k hk), h4⟩
theorem greatR (c : Nat → Int) (P : Value) (w : World) : Calls Try.prog 32 #[.agg (cfV c P)] w fun e w' => ∃ g, e = .returned (.slice (some ⟨g, 0, none⟩) 4 4) ∧ g < w'.heap.size ∧ (∀ k, k < 4 → w'.cell? ⟨g, k, none⟩ = some (.int .u64 (c (10 + k)))) ∧ Below w.heap.size w w' :=
  (great_is c P w).mono fun e w' ⟨g, h1, h2, h3, h4⟩ => ⟨g, h1, h3.lt, fun k hk => (h3.cell k).trans (by simp [hk]), h4⟩

set_option maxRecDepth 100000 in
set_option maxHeartbeats 8000000 in
theorem refSame_is (c d : Nat → Int) (A A' : Option Addr) (cap cap' : Nat) (L M : List (List UInt8)) (w : World) (h : PrAt w w.heap.size A L) (h' : PrAt w w.heap.size A' M) (hl : L.length < 2 ^ 62) (hl' : M.length < 2 ^ 62) :
    Calls Try.prog 15 #[.agg (cfV c (.slice A L.length cap)), .agg (cfV d (.slice A' M.length cap'))] w fun e w' => e = .returned (.bool (sameN c d && decide (L = M))) ∧ Below w.heap.size w w' := by
  have hb2 := below2 w (.cells (cfV c (.slice A L.length cap)) 25) (.cells (cfV d (.slice A' M.length cap')) 25)
  have B1 : Blk ((w.alloc (.cells (cfV c (.slice A L.length cap)) 25)).alloc (.cells (cfV d (.slice A' M.length cap')) 25)) w.heap.size 25 (cfV c (.slice A L.length cap)) := (Blk.new _ _ _).alloc _
  have B2 : Blk ((w.alloc (.cells (cfV c (.slice A L.length cap)) 25)).alloc (.cells (cfV d (.slice A' M.length cap')) 25)) (w.heap.size + 1) 25 (cfV d (.slice A' M.length cap')) := new2 _ _ _ _
  have hs2 : ((w.alloc (.cells (cfV c (.slice A L.length cap)) 25)).alloc (.cells (cfV d (.slice A' M.length cap')) 25)).heap.size = w.heap.size + 2 := by simp
  have h2 := h.below hb2
  have h2' := h'.below hb2
  obtain ⟨w2, hw2⟩ : ∃ w2, w2 = ((w.alloc (.cells (cfV c (.slice A L.length cap)) 25)).alloc (.cells (cfV d (.slice A' M.length cap')) 25)) := ⟨_, rfl⟩
  rw [← hw2] at hb2 B1 B2 hs2 h2 h2'
  have H2 := Lib.hid h2
  have H2' := Lib.hid h2'
  clear h h' h2 h2'
  have hne0 := Lib.hid (show ∀ i (hi : i < L.length) (hi' : i < M.length), L[i]'hi ≠ M[i]'hi' → L ≠ M from fun i hi hi' hne e => hne (by subst e; rfl))
  have hne1 := Lib.hid (show L.length ≠ M.length → L ≠ M from fun hne e => hne (by rw [e]))
  obtain ⟨n, hn⟩ : ∃ n, n = L.length := ⟨_, rfl⟩
  obtain ⟨m, hm⟩ : ∃ n, n = M.length := ⟨_, rfl⟩
  rw [← hn] at hw2 B1 ⊢
  rw [← hm] at hw2 B2 ⊢
  have HN := Lib.hid hn
  have HM := Lib.hid hm
  rw [← hn] at hl
  rw [← hm] at hl'
  clear hn hm
  obtain ⟨r0, hr0⟩ : ∃ r0, r0 = (sameN c d && decide (L = M)) := ⟨_, rfl⟩
  rw [← hr0]
  have HR0 := Lib.hid hr0
  clear hr0
  have SC := smallR c (.slice A n cap)
  have SD := smallR d (.slice A' m cap')
  have GC := greatR c (.slice A n cap)
  have GD := greatR d (.slice A' m cap')
  go_enter Try.func15, Try.ntmps15
  go_upto_region 1 with fail
  rw [← hw2]
  clear hw2
  unfold cfV at SC SD GC GD
  go_cut [5, 6] from 12 to 15 (fun a b wx => ∃ g g', a = .slice (some ⟨g, 0, none⟩) 10 10 ∧ b = .slice (some ⟨g', 0, none⟩) 10 10 ∧ g < wx.heap.size ∧ g' < wx.heap.size ∧ (∀ k, k < 10 → wx.cell? ⟨g, k, none⟩ = some (.int .i64 (c k))) ∧ (∀ k, k < 10 → wx.cell? ⟨g', k, none⟩ = some (.int .i64 (d k))) ∧ Below w2.heap.size w2 wx)
  case first =>
    obtain ⟨x0, x1, x2, x3, x4, x5, x6, x7, x8, x9, x10, x11, x12, x13, x14⟩ := cells15 B1
    obtain ⟨y0, y1, y2, y3, y4, y5, y6, y7, y8, y9, y10, y11, y12, y13, y14⟩ := cells15 B2
    have hd2 : Below w2.heap.size w2 w2.drew := (Below.refl _ w2).drew
    go_region_with (first | (go_at_call 31; (fail_if_success have := hba); refine (SC _).mono ?_; rintro e wa ⟨ga, rfl, hla, hka, hba⟩; (have B2a := B2.below (hd2.trans hba) B2.lt); obtain ⟨z0, z1, z2, z3, z4, z5, z6, z7, z8, z9, z10, z11, z12, z13, z14⟩ := cells15 B2a) | (go_at_call 31; refine (SD _).mono ?_; rintro e wb ⟨gb, rfl, hlb, hkb, hbb⟩))
    all_goals
      go_wp2_with fail
      go_meet
      exact ⟨ga, gb, rfl, rfl, by have := hbb.size; omega, hlb, fun k hk => (hbb.cell (p := ⟨ga, k, none⟩) hla).trans (hka k hk), hkb, hd2.trans (hba.trans (hbb.mono hba.size))⟩
  case rest =>
    obtain ⟨g, g', rfl, rfl, hg, hg', hka, hkb, hbc⟩ := hcut
    have hbw := hb2.trans (hbc.mono hb2.size)
    have B1c := B1.below hbc B1.lt
    have B2c := B2.below hbc B2.lt
    have h2 := H2.out.below (hbc.mono (by omega))
    have h2' := H2'.out.below (hbc.mono (by omega))
    have H3 := Lib.hid h2
    have H3' := Lib.hid h2'
    clear h2 h2' H2 H2' B1 B2 SC SD hb2 hbc
    have HKA := Lib.hid hka
    have HKB := Lib.hid hkb
    clear hka hkb
    go_wp2_with fail
    go_loopw [7] (fun i wr => ∃ k : Nat, k ≤ 10 ∧ i = .int .i64 k ∧ Below wc.heap.size wc wr ∧ ∀ j, j < k → c j = d j) (fun i _ => 10 - (intOf i).toNat)
    case atStart => exact ⟨0, Nat.zero_le _, rfl, Below.refl _ _, fun j hj => absurd hj (by omega)⟩
    case round =>
      obtain ⟨k, hk, rfl, hbr, hno⟩ := hrel
      have HNO := Lib.hid hno
      clear hno
      by_cases hlt : k < 10
      · have hk1 : (k : Int) < 10 := by omega
        have hk0 : (0 : Int) ≤ (k : Int) := by omega
        have X1 := (hbr.cell (p := ⟨g, k, none⟩) hg).trans (HKA.out k hlt)
        have X2 := (hbr.cell (p := ⟨g', k, none⟩) hg').trans (HKB.out k hlt)
        have hcd0 := Lib.hid (Decidable.em (c k = d k))
        obtain ⟨x, hx⟩ : ∃ x, x = c k := ⟨_, rfl⟩
        obtain ⟨y, hy⟩ : ∃ y, y = d k := ⟨_, rfl⟩
        rw [← hx] at X1
        rw [← hy] at X2
        have HX := Lib.hid hx
        have HY := Lib.hid hy
        clear hx hy
        by_cases hxy : x = y
        · have hcd : Hid (c k = d k) := Lib.hid (by rw [← HX.out, ← HY.out]; exact hxy)
          subst hxy
          go_wp2
          go_region
          go_wp2_with fail
          go_roundw
          case rel =>
            refine ⟨k + 1, by omega, by go_num, hbr.drew, fun j hj => ?_⟩
            by_cases hjk' : j < k
            · exact HNO.out j hjk'
            · obtain rfl : j = k := by omega
              exact hcd.out
          case measure => simp [intOf]; omega
        · have hcd : Hid (c k ≠ d k) := Lib.hid (by rw [← HX.out, ← HY.out]; exact hxy)
          have hS := Lib.hid (sameN_no k (by omega) hcd.out)
          have hb1 : (x == y) = false := by simp [hxy]
          have hb2 : (x != y) = true := by simp [hxy]
          go_wp2
          go_region
          go_wp2_with fail
          go_ret
          exact ⟨by rw [HR0.out, hS.out]; rfl, hbw.trans (hbr.drew.mono hbw.size)⟩
      · obtain rfl : k = 10 := by omega
        have B1r := B1c.below hbr B1c.lt
        have B2r := B2c.below hbr B2c.lt
        have h2 := H3.out.below (hbr.mono hbw.size)
        have h2' := H3'.out.below (hbr.mono hbw.size)
        have H4 := Lib.hid h2
        have H4' := Lib.hid h2'
        have hbw' := hbw.trans (hbr.mono hbw.size)
        have HS10 := HNO
        clear h2 h2' H3 H3' B1c B2c HKA HKB hbr hlt hk hbw HNO hg hg'
        go_upto_region 7 with fail
        go_cut [8, 9] from 31 to 34 (fun a b wx => ∃ g g', a = .slice (some ⟨g, 0, none⟩) 4 4 ∧ b = .slice (some ⟨g', 0, none⟩) 4 4 ∧ g < wx.heap.size ∧ g' < wx.heap.size ∧ (∀ k, k < 4 → wx.cell? ⟨g, k, none⟩ = some (.int .u64 (c (10 + k)))) ∧ (∀ k, k < 4 → wx.cell? ⟨g', k, none⟩ = some (.int .u64 (d (10 + k)))) ∧ Below wr.heap.size wr wx)
        case first =>
          obtain ⟨x0, x1, x2, x3, x4, x5, x6, x7, x8, x9, x10, x11, x12, x13, x14⟩ := cells15 B1r
          obtain ⟨y0, y1, y2, y3, y4, y5, y6, y7, y8, y9, y10, y11, y12, y13, y14⟩ := cells15 B2r
          have hd2 : Below wr.heap.size wr wr.drew := (Below.refl _ wr).drew
          go_region_with (first | (go_at_call 32; (fail_if_success have := hba); refine (GC _).mono ?_; rintro e wa ⟨ga, rfl, hla, hka, hba⟩; (have B2a := B2r.below (hd2.trans hba) B2r.lt); obtain ⟨z0, z1, z2, z3, z4, z5, z6, z7, z8, z9, z10, z11, z12, z13, z14⟩ := cells15 B2a) | (go_at_call 32; refine (GD _).mono ?_; rintro e wb ⟨gb, rfl, hlb, hkb, hbb⟩))
          all_goals
            go_wp2_with fail
            go_meet
            exact ⟨ga, gb, rfl, rfl, by have := hbb.size; omega, hlb, fun k hk => (hbb.cell (p := ⟨ga, k, none⟩) hla).trans (hka k hk), hkb, hd2.trans (hba.trans (hbb.mono hba.size))⟩
        case rest =>
          obtain ⟨g, g', rfl, rfl, hg, hg', hka, hkb, hbc⟩ := hcut
          have hbw := hbw'.trans (hbc.mono hbw'.size)
          have B1c := B1r.below hbc B1r.lt
          have B2c := B2r.below hbc B2r.lt
          have h2 := H4.out.below (hbc.mono hbw'.size)
          have h2' := H4'.out.below (hbc.mono hbw'.size)
          have H3 := Lib.hid h2
          have H3' := Lib.hid h2'
          clear h2 h2' H4 H4' B1r B2r GC GD hbc hbw'
          have HKA := Lib.hid hka
          have HKB := Lib.hid hkb
          clear hka hkb
          go_wp2_with fail
          go_loopw [10] (fun i wr => ∃ k : Nat, k ≤ 4 ∧ i = .int .i64 k ∧ Below wc.heap.size wc wr ∧ ∀ j, j < k → c (10 + j) = d (10 + j)) (fun i _ => 4 - (intOf i).toNat)
          case atStart => exact ⟨0, Nat.zero_le _, rfl, Below.refl _ _, fun j hj => absurd hj (by omega)⟩
          case round =>
            obtain ⟨k, hk, rfl, hbr, hno⟩ := hrel
            have HNO := Lib.hid hno
            clear hno
            by_cases hlt : k < 4
            · have hk1 : (k : Int) < 4 := by omega
              have hk0 : (0 : Int) ≤ (k : Int) := by omega
              have X1 := (hbr.cell (p := ⟨g, k, none⟩) hg).trans (HKA.out k hlt)
              have X2 := (hbr.cell (p := ⟨g', k, none⟩) hg').trans (HKB.out k hlt)
              obtain ⟨x, hx⟩ : ∃ x, x = c (10 + k) := ⟨_, rfl⟩
              obtain ⟨y, hy⟩ : ∃ y, y = d (10 + k) := ⟨_, rfl⟩
              rw [← hx] at X1
              rw [← hy] at X2
              have HX := Lib.hid hx
              have HY := Lib.hid hy
              clear hx hy
              by_cases hxy : x = y
              · have hcd : Hid (c (10 + k) = d (10 + k)) := Lib.hid (by rw [← HX.out, ← HY.out]; exact hxy)
                subst hxy
                go_wp2
                go_region
                go_wp2_with fail
                go_roundw
                case rel =>
                  refine ⟨k + 1, by omega, by go_num, hbr.drew, fun j hj => ?_⟩
                  by_cases hjk' : j < k
                  · exact HNO.out j hjk'
                  · obtain rfl : j = k := by omega
                    exact hcd.out
                case measure => simp [intOf]; omega
              · have hcd : Hid (c (10 + k) ≠ d (10 + k)) := Lib.hid (by rw [← HX.out, ← HY.out]; exact hxy)
                have hS := Lib.hid (sameN_no (10 + k) (by omega) hcd.out)
                have hb1 : (x == y) = false := by simp [hxy]
                have hb2 : (x != y) = true := by simp [hxy]
                go_wp2
                go_region
                go_wp2_with fail
                go_ret
                exact ⟨by rw [HR0.out, hS.out]; rfl, hbw.trans (hbr.drew.mono hbw.size)⟩
            · obtain rfl : k = 4 := by omega
              have hS := Lib.hid (sameN_yes (c := c) (d := d) fun j hj => by
                by_cases h10 : j < 10
                · exact HS10.out j h10
                · have := HNO.out (j - 10) (by omega)
                  rwa [show 10 + (j - 10) = j from by omega] at this)
              have B1r := B1c.below hbr B1c.lt
              have B2r := B2c.below hbr B2c.lt
              have X1 := (B1r.cell 14).trans (cfV_last c _)
              have X2 := (B2r.cell 14).trans (cfV_last d _)
              by_cases hnm : n = m
              · subst hnm
                have h2 := H3.out.below (hbr.mono hbw.size)
                have h2' := H3'.out.below (hbr.mono hbw.size)
                have H4 := Lib.hid h2
                have H4' := Lib.hid h2'
                have hbw' := hbw.trans (hbr.mono hbw.size)
                have hB1 := B1r.lt
                have hB2 := B2r.lt
                clear h2 h2' H3 H3' B1c B2c HKA HKB hbr hlt hk hbw HNO hg hg' HS10 B1r B2r
                obtain ⟨wo, hwo⟩ : ∃ wo, wo = wr := ⟨_, rfl⟩
                subst hwo
                go_wp2_with fail
                go_loopw [11] (fun i wx => ∃ k : Nat, k ≤ n ∧ i = .int .i64 k ∧ Below wo.heap.size wo wx ∧ ∀ j (hj : j < L.length) (hj' : j < M.length), j < k → L[j]'hj = M[j]'hj') (fun i _ => n - (intOf i).toNat)
                case atStart => exact ⟨0, Nat.zero_le _, rfl, Below.refl _ _, fun j _ _ hj => absurd hj (by omega)⟩
                case round =>
                  obtain ⟨k, hk, rfl, hbr, hno⟩ := hrel
                  have HNO := Lib.hid hno
                  clear hno
                  have Y1 := (hbr.cell (p := ⟨w.heap.size, 14, none⟩) hB1).trans X1
                  have Y2 := (hbr.cell (p := ⟨w.heap.size + 1, 14, none⟩) hB2).trans X2
                  by_cases hlt : k < n
                  · have hkL : k < L.length := by rw [← HN.out]; exact hlt
                    have hkM : k < M.length := by rw [← HM.out]; exact hlt
                    obtain ⟨gp, o, rfl, hgp, hr⟩ := (H4.out.below (hbr.mono hbw'.size)) (fun e => by rw [e] at hkL; simp at hkL)
                    obtain ⟨gq, o', rfl, hgq, hr'⟩ := (H4'.out.below (hbr.mono hbw'.size)) (fun e => by rw [e] at hkM; simp at hkM)
                    obtain ⟨Ai, ci, q1, q2, q3, q4⟩ := hr k hkL
                    obtain ⟨Ai', ci', q1', q2', q3', q4'⟩ := hr' k hkM
                    have C1 := conv_reads wr.drew w.heap.size Ai (L[k]'hkL) ci q3 (fun e => (q4 e).1)
                    have C2 := conv_reads wr.drew w.heap.size Ai' (M[k]'hkM) ci' q3' (fun e => (q4' e).1)
                    have hst := str_eq (L[k]'hkL) (M[k]'hkM)
                    obtain ⟨s, hs⟩ : ∃ s : ByteArray, s = ⟨(L[k]'hkL).toArray⟩ := ⟨_, rfl⟩
                    obtain ⟨t, ht⟩ : ∃ s : ByteArray, s = ⟨(M[k]'hkM).toArray⟩ := ⟨_, rfl⟩
                    rw [← hs] at C1 hst
                    rw [← ht] at C2 hst
                    obtain ⟨x, hx⟩ : ∃ x, x = L[k]'hkL := ⟨_, rfl⟩
                    obtain ⟨y, hy⟩ : ∃ y, y = M[k]'hkM := ⟨_, rfl⟩
                    rw [← hx] at q1 C1 hst
                    rw [← hy] at q1' C2 hst
                    have HX := Lib.hid hx
                    have HY := Lib.hid hy
                    generalize x.length = xl at C1 q1
                    generalize y.length = yl at C2 q1'
                    have HST := Lib.hid hst
                    clear hr hr' q2 q3 q4 q2' q3' q4' hx hy hs ht hst
                    have hk1 : (k : Int) < n := by omega
                    have hk0 : (0 : Int) ≤ (k : Int) := by omega
                    by_cases hxy : x = y
                    · have hb1 : (s.toList == t.toList) = true := by rw [HST.out]; exact decide_eq_true hxy
                      have hXY := Lib.hid hxy
                      clear hxy
                      go_wp2
                      go_region
                      go_wp2_with fail
                      go_roundw
                      case rel =>
                        refine ⟨k + 1, by omega, by go_num, hbr.drew, fun j hj hj' hjk => ?_⟩
                        by_cases hjk' : j < k
                        · exact HNO.out j hj hj' hjk'
                        · obtain rfl : j = k := by omega
                          rw [← HX.out, ← HY.out, hXY.out]
                      case measure => simp [intOf]; omega
                    · have hb1 : (s.toList == t.toList) = false := by rw [HST.out]; exact decide_eq_false hxy
                      have hne := Lib.hid (hne0.out k hkL hkM (by rw [← HX.out, ← HY.out]; exact hxy))
                      clear hxy
                      go_wp2
                      go_region
                      go_wp2_with fail
                      go_ret
                      exact ⟨by rw [HR0.out, decide_eq_false hne.out, Bool.and_false]; rfl, hbw'.trans (hbr.drew.mono hbw'.size)⟩
                  · obtain rfl : k = n := by omega
                    have hD := Lib.hid (show L = M from List.ext_getElem (by rw [← HN.out, ← HM.out]) fun j hj hj' => HNO.out j hj hj' (by rw [HN.out]; exact hj))
                    go_wp2
                    go_ret
                    exact ⟨by rw [HR0.out, hS.out, decide_eq_true hD.out]; rfl, hbw'.trans (hbr.mono hbw'.size)⟩
              · have hnm1 : ¬ (n : Int) = (m : Int) := by omega
                have hne : L ≠ M := hne1.out (by rw [← HN.out, ← HM.out]; exact hnm)
                clear B1r B2r B1c B2c
                go_wp2_with fail
                go_ret
                exact ⟨by rw [HR0.out, decide_eq_false hne, Bool.and_false]; rfl, hbw.trans (hbr.mono hbw.size)⟩
end Go.Proofs.Ytoigapnpmhogdaa
