/- Of the following, one behind the other: CspaceRevokes, by a walk: true at all sizes, each row of acts and each slot. -/
import Derived.Test.YtbknmfegckeogaaPk18
/- CspaceRevokes, by a walk: true at all sizes, each row of acts and each slot. -/
namespace Go.Proofs.Ytbknmfegckeogaa
open Go.RowKit Go.Maps
set_option linter.unusedVariables false
set_option linter.unusedSimpArgs false

set_option maxRecDepth 100000 in
set_option maxHeartbeats 4000000 in
theorem revokes_early (gs sl n : Int) (g s : Int) (A0 : Option Addr) (cap : Nat) (l : List Ac) (W : World) (h : ¬ (smallB gs sl n = true ∧ l.length ≤ 100)) :
    Calls Try.prog 5 #[.int .i64 gs, .int .i64 sl, .int .i64 n, .slice A0 l.length cap, .int .i64 g, .int .i64 s] W fun e w' => e = .returned (.bool true) ∧ Below W.heap.size W w' := by
  have CS := small_is gs sl n
  cases hm : mayB gs sl n
  · have CB := begin_no gs sl n hm W
    have hs : smallB gs sl n = false := by unfold smallB; rw [hm]; rfl
    rw [hs] at CS
    clear hm h hs
    go_enter Try.func5, Try.ntmps5
    go_wp2_with (first | (go_at_call 9; refine CB.mono ?_; rintro e w' ⟨rfl, hw⟩; subst hw) | (go_at_call 10; refine (CS _).mono ?_; rintro e w' ⟨rfl, hw⟩; subst hw) | (go_at_call 11; refine (known_is _).mono ?_; rintro e w1 ⟨rfl, hb⟩; (have HB := Lib.hid hb); clear hb))
    go_ret
    exact ⟨rfl, HB.out⟩
  · have hn := (mayB_iff _ _ _).1 hm
    obtain ⟨n, rfl⟩ := Int.eq_ofNat_of_zero_le (show 0 ≤ n by have := hn.2.2; omega)
    have CB := begin_yes gs sl n hm W
    clear hm hn
    cases hs : smallB gs sl (n : Int)
    · rw [hs] at CS
      clear hs h
      go_enter Try.func5, Try.ntmps5
      go_wp2_with (first | (go_at_call 9; refine CB.mono ?_; rintro e w1 ⟨A, R, rfl, hj, hlo, hb⟩; (have HL := Lib.hid (Lw.start hj hlo hb)); clear hj hlo hb CB) | (go_at_call 10; refine (CS _).mono ?_; rintro e w' ⟨rfl, hw⟩; subst hw) | (go_at_call 11; refine (known_is _).mono ?_; rintro e w1 ⟨rfl, hb⟩; (have HB := Lib.hid hb); clear hb))
      go_ret
      exact ⟨rfl, HL.out.bel.trans (HB.out.mono HL.out.bel.size)⟩
    · rw [hs] at CS
      have hl3 : (100 : Int) < (l.length : Int) := by
        have : ¬ l.length ≤ 100 := fun hh => h ⟨hs, hh⟩
        omega
      clear hs h
      go_enter Try.func5, Try.ntmps5
      go_wp2_with (first | (go_at_call 9; refine CB.mono ?_; rintro e w1 ⟨A, R, rfl, hj, hlo, hb⟩; (have HL := Lib.hid (Lw.start hj hlo hb)); clear hj hlo hb CB) | (go_at_call 10; refine (CS _).mono ?_; rintro e w' ⟨rfl, hw⟩; subst hw) | (go_at_call 11; refine (known_is _).mono ?_; rintro e w1 ⟨rfl, hb⟩; (have HB := Lib.hid hb); clear hb))
      go_ret
      exact ⟨rfl, HL.out.bel.trans (HB.out.mono HL.out.bel.size)⟩
set_option maxRecDepth 100000 in
set_option maxHeartbeats 8000000 in
theorem revokes_walk (gs sl n g s : Int) (A0 : Option Addr) (cap : Nat) (l : List Ac) (W : World) (hA : ActsAt W W.heap.size A0 l) (hl : l.length ≤ maxLen) :
    Calls Try.prog 5 #[.int .i64 gs, .int .i64 sl, .int .i64 n, .slice A0 l.length cap, .int .i64 g, .int .i64 s] W fun e w' => e = .returned (.bool true) ∧ Below W.heap.size W w' := by
  by_cases hsm : smallB gs sl n = true ∧ l.length ≤ 100
  · obtain ⟨ng, hng⟩ : ∃ k : Nat, (k : Int) = gs := ⟨gs.toNat, by have := ((mayB_iff _ _ _).1 (small_may hsm.1)).1; omega⟩
    obtain ⟨nk, hnk⟩ : ∃ k : Nat, (k : Int) = sl := ⟨sl.toNat, by have := ((mayB_iff _ _ _).1 (small_may hsm.1)).2.1; omega⟩
    have hng2 : ng ≤ 64 := by have := ((mayB_iff _ _ _).1 (small_may hsm.1)).1; omega
    have hnk2 : nk ≤ 32 := by have := ((mayB_iff _ _ _).1 (small_may hsm.1)).2.1; omega
    subst hng
    subst hnk
    obtain ⟨hs, hl2⟩ := hsm
    have hm := small_may hs
    have hn := (mayB_iff _ _ _).1 hm
    obtain ⟨n, rfl⟩ := Int.eq_ofNat_of_zero_le (show 0 ≤ n by have := hn.2.2; omega)
    have CB := begin_yes (ng : Int) (nk : Int) n hm W
    have CS := small_is (ng : Int) (nk : Int) (n : Int)
    rw [hs] at CS
    have HA := Lib.hid hA
    have hl3 : ¬ (100 : Int) < (l.length : Int) := by omega
    clear hA hm hn hs hl
    go_enter Try.func5, Try.ntmps5
    go_wp2_with (first | (go_at_call 9; refine CB.mono ?_; rintro e w1 ⟨A, R, rfl, hj, hlo, hb⟩; (have HL := Lib.hid (Lw.start hj hlo hb)); clear hj hlo hb CB) | (go_at_call 10; refine (CS _).mono ?_; rintro e w' ⟨rfl, hw⟩; subst hw; clear CS))
    go_loopw [15] (fun i wr => ∃ (j : Nat) (A' : Ad) (R' : Rd) (S' : Sp), i = .int .i64 j ∧ j ≤ l.length ∧ Lw W wr A R (Sp.new (ng : Int) (nk : Int) n) j A' R' S') (fun i _ => l.length - (intOf i).toNat)
    case atStart => exact ⟨0, A, R, _, rfl, Nat.zero_le _, HL.out⟩
    case round =>
      obtain ⟨j, A', R', S', rfl, hj, hL⟩ := hrel
      have HLR := Lib.hid hL
      by_cases hlt : j < l.length
      · obtain ⟨ga, o, rfl, hga, hc⟩ := (HA.out.below hL.bel).2 (fun e => by rw [e] at hlt; simp at hlt)
        obtain ⟨c0, c1, c2, c3, c4, c5, c6, c7, c8⟩ := hc j hlt
        have CD := hL.do_ (by omega) _ (HA.out.1 _ (List.getElem_mem hlt))
        generalize l[j] = a at *
        have hj1 : (j : Int) < l.length := by omega
        unfold actC at CD
        clear hc hL
        go_wp2_with (go_at_call 12; refine CD.mono ?_; rintro e w3 ⟨rfl, A3, R3, S3, hL3, -⟩; (have HL3 := Lib.hid hL3); clear hL3 CD)
        go_roundw
        case rel => exact ⟨j + 1, A3, R3, S3, by go_num, by omega, HL3.out⟩
        case measure => simp [intOf]; omega
      · have hj1 : ¬ (j : Int) < (l.length : Int) := by omega
        obtain ⟨ab, af, alb, ami, ama, amc, av⟩ := A'
        have hab : ab = A.b := hL.ab
        subst hab
        obtain ⟨rb, rA, rc⟩ := R'
        have hrb : rb = R.b := hL.rb
        subst hrb
        have hgs : S'.gs = (ng : Int) := hL.gs
        have hsl : S'.sl = (nk : Int) := hL.sl
        have CP := spCopy_is hL.jt.sp
        dsimp only at CP
        have HJ := Lib.hid hL.jt.j
        have HLM := Lib.hid hL.jt.lim
        have HO := Lib.hid (fun k (hk : (⟨A.b, af, alb, ami, ama, amc, av⟩ : Ad).own k) => hL.lo k (.inl hk))
        clear hL
        go_upto_region 9 with (go_at_call 20; refine CP.mono ?_; rintro e w8 ⟨A8, rfl, hs8, ho8, hb8⟩; (have T8 := Lib.hid (Two.start HLR.out.jt.sp HO.out HLR.out.bel hs8 ho8 hb8)); (have RF8 := Lib.hid (HLR.out.jt.rf.below hb8)); clear hs8 ho8 hb8 CP)
        have C1 := revoke_c T8.out.s1 HLM.out HJ.out g s
        dsimp only at C1
        have SEP := Lib.hid (fun k (hk : (⟨A.b, af, alb, ami, ama, amc, av⟩ : Ad).own k) => HLR.out.jt.sep k hk)
        cases hf : fnd S'.L g s with
        | none =>
          have hr : S'.revR g s = (0, S'.full g s, S') := by unfold Sp.revR; rw [hf]
          have hne : (S'.full g s != 0) = true := by simpa using Go.Proofs.Ytbknmfegckeogaa.full_none hf
          rw [hr] at C1
          have C4 := Lib.hid (fun W' v1 (hS : SpAt W' ⟨A.b, af, alb, ami, ama, amc, v1⟩ S') (hT : SpAt W' A8 S') => (same_is hS hT HLM.out HLM.out HJ.out HJ.out).mono (fun e w'' hh => show e = .returned (.bool true) ∧ Below W'.heap.size W' w'' from by
            obtain ⟨b, rfl, hb, hbl⟩ := hh
            have : b = true := hb.2 (same_refl HJ.out)
            exact ⟨by rw [this], hbl⟩))
          dsimp only at C1 C4
          obtain ⟨E, hE⟩ : ∃ E, E = S'.full g s := ⟨_, rfl⟩
          rw [← hE] at C1 hne
          clear hf hr hE
          go_wp2_with (first
            | (go_at_call 21; refine C1.mono ?_; rintro e w9 ⟨rfl, hr⟩; (have hT := T8.out.step1 hr); (obtain ⟨v9, hT⟩ := hT); (have T9 := Lib.hid hT); clear hT hr C1)
            | (go_at_call 22; refine (C4.out _ v9 T9.out.s1 T9.out.s2).mono ?_; rintro e w10 ⟨rfl, hb⟩; (have T10 := Lib.hid (T9.out.more hb)); clear hb)
            | (go_at_call 11; refine (known_is _).mono ?_; rintro e wk ⟨rfl, hbk⟩; (have HBK := Lib.hid hbk); clear hbk))
          go_ret
          exact ⟨rfl, T10.out.bel.trans (HBK.out.mono T10.out.bel.size)⟩
        | some x =>
          have hx := (fnd_mem hf).1
          have hr : S'.revR g s = (((S'.ds x).length : Int), 0, S'.rev x (S'.ds x)) := by unfold Sp.revR; rw [hf]
          rw [hr] at C1
          dsimp only at C1
          have RJ := Lib.hid (rev_j HJ.out hx)
          have RL := Lib.hid (show Lim (S'.rev x (S'.ds x)) from ⟨HLM.out.gs, HLM.out.sl, HLM.out.n⟩)
          have XF := Lib.hid (And.intro hf hx)
          have hdn : (S'.ds x).length ≤ 512 := by have h1 := HJ.out.gone hx (HJ.out.ds hx); have h2 := HJ.out.few HLM.out; omega
          have HALL := Lib.hid (cnt_all HJ.out hx)
          have HROW := Lib.hid (fun a => cnt_row (x := x) HJ.out a)
          have HST := Lib.hid (fun a b => cnt_step HJ.out hf a b)
          have H00 := Lib.hid (cnt_zero (x := x) HJ.out)
          rw [hgs] at HALL
          rw [hsl] at HROW
          have HCB := Lib.hid (show ∀ a b, cntR S' x a b ≤ 512 from fun a b => Nat.le_trans (List.length_filter_le _ _) (HJ.out.few HLM.out))
          obtain ⟨nd, hnd⟩ : ∃ nd, nd = (S'.ds x).length := ⟨_, rfl⟩
          rw [← hnd] at C1 HALL hdn
          clear hr hf hx hnd
          go_upto_region 12 with (go_at_call 21; refine C1.mono ?_; rintro e w9 ⟨rfl, hr⟩; (have hrf : RfAt w9 ⟨R.b, rA, rc⟩ S' := by (obtain ⟨v', h1, h2⟩ := hr; exact RF8.out.apart h2.apart fun k hk ho => SEP.out k ho hk)); (have hT := T8.out.step1 hr); (obtain ⟨v9, hT⟩ := hT); (have T9 := Lib.hid hT); (have RF9 := Lib.hid hrf); clear hT hr C1 hrf)
          have GW := Lib.hid (fun (a b : Int) W' (hW : Below w9.heap.size w9 W') => get_c (T9.out.s2.below hW) HLM.out HJ.out a b)
          have GS := Lib.hid (fun (a b : Int) W' (hW : Below w9.heap.size w9 W') => get_c (T9.out.s1.below hW) RL.out RJ.out a b)
          have UW := Lib.hid (fun (a b : Int) W' (hW : Below w9.heap.size w9 W') => under_c (T9.out.s2.below hW) HLM.out HJ.out a b g s)
          have UR := Lib.hid (fun (a b : Int) W' (hW : Below w9.heap.size w9 W') => rfUnder_is (RF9.out.below hW) (HJ.out.few HLM.out) a b g s)
          have US := Lib.hid (fun (a b : Int) W' (hW : Below w9.heap.size w9 W') => under_c (T9.out.s1.below hW) RL.out RJ.out a b g s)
          have PW := Lib.hid (fun (a b : Int) W' (hW : Below w9.heap.size w9 W') => parent_any (T9.out.s2.below hW) HLM.out HJ.out a b)
          have PS := Lib.hid (fun (a b : Int) W' (hW : Below w9.heap.size w9 W') => parent_any (T9.out.s1.below hW) RL.out RJ.out a b)
          simp only [rev_und HJ.out XF.out.1] at US
          dsimp only at GS US PS UR
          go_wp2_with fail
          go_loopw [20, 19] (fun i c wr => ∃ a : Nat, i = .int .i64 a ∧ c = .int .i64 ((cntR S' x (a : Int) 0 : Nat) : Int) ∧ a ≤ ng ∧ Below w9.heap.size w9 wr) (fun i _ _ => ng - (intOf i).toNat)
          case atStart => exact ⟨0, rfl, by rw [show ((0 : Nat) : Int) = 0 from rfl, H00.out]; rfl, Nat.zero_le _, Below.refl _ _⟩
          case round =>
            obtain ⟨a, rfl, rfl, ha, hbr⟩ := hrel
            have HB := Lib.hid hbr
            clear hbr
            by_cases halt : a < ng
            · have ha1 : (a : Int) < (ng : Int) := by omega
              go_wp2_with fail
              go_loopw [21, 19] (fun i c wx => ∃ b : Nat, i = .int .i64 b ∧ c = .int .i64 ((cntR S' x (a : Int) (b : Int) : Nat) : Int) ∧ b ≤ nk ∧ Below w9.heap.size w9 wx) (fun i _ _ => nk - (intOf i).toNat)
              case atStart => exact ⟨0, rfl, rfl, Nat.zero_le _, HB.out⟩
              case round =>
                obtain ⟨b, rfl, rfl, hb, hbx⟩ := hrel
                have HX := Lib.hid hbx
                clear hbx
                by_cases hblt : b < nk
                · have hb1 : (b : Int) < (nk : Int) := by omega
                  have hst := HST.out (a : Int) (b : Int)
                  have hcb := HCB.out (a : Int) (b : Int)
                  have G1 := GW.out (a : Int) (b : Int) _ HX.out
                  have HK := Lib.hid hblt
                  clear hblt
                  cases hu : S'.undE (a : Int) (b : Int) g s
                  · rw [hu] at hst
                    simp only [Bool.false_eq_true, if_false, Nat.add_zero] at hst
                    obtain ⟨q1, q2, q3⟩ := rev_else HJ.out XF.out.1 hu
                    have U1 := UW.out (a : Int) (b : Int)
                    have U2 := UR.out (a : Int) (b : Int)
                    have G2 := GS.out (a : Int) (b : Int)
                    have P1 := PW.out (a : Int) (b : Int)
                    have P2 := PS.out (a : Int) (b : Int)
                    rw [hu] at U1 U2
                    rw [← q1, ← q2] at G2
                    rw [← q3] at P2
                    have HST2 := Lib.hid hst
                    obtain ⟨c, hc⟩ : ∃ c, c = S'.getC (a : Int) (b : Int) := ⟨_, rfl⟩
                    obtain ⟨E, hE⟩ : ∃ E, E = S'.full (a : Int) (b : Int) := ⟨_, rfl⟩
                    obtain ⟨⟨pg, ps, pb⟩, hP⟩ : ∃ p, p = pOf S' (a : Int) (b : Int) := ⟨_, rfl⟩
                    rw [← hc, ← hE] at G1 G2
                    rw [← hP] at P1 P2
                    have EQ := fun W' => cap_neq c c W'
                    simp only [decide_true, Bool.not_true] at EQ
                    unfold capV at G1 G2
                    obtain ⟨cn, hcn⟩ : ∃ cn, cn = cntR S' x (a : Int) (b : Int) := ⟨_, rfl⟩
                    rw [← hcn] at hcb
                    have HCN := Lib.hid hcn
                    have U3 := US.out (a : Int) (b : Int)
                    have HU1 := Lib.hid U1
                    have HU2 := Lib.hid U2
                    have HU3 := Lib.hid U3
                    have HG2 := Lib.hid G2
                    have HP1 := Lib.hid P1
                    have HP2 := Lib.hid P2
                    clear hu hst q1 q2 q3 hc hE hP U1 U2 U3 G2 P1 P2
                    rw [← hcn]
                    clear hcn
                    dsimp only at HP1 HP2
                    cases pb
                    all_goals
                      go_upto_region 22 with (go_at_call 15; refine G1.mono ?_; rintro e w10 ⟨rfl, hb10⟩; (have H10 := Lib.hid (HX.out.trans (hb10.mono HX.out.size))); clear hb10 G1)
                      have hb11 := H10.out.alloc H10.out.size (.cells #[.int .i64 c.k, .int .i64 c.i, .int .u64 c.n, .int .u8 c.r] 36)
                      have k1 := Blk.new w10 36 #[.int .i64 c.k, .int .i64 c.i, .int .u64 c.n, .int .u8 c.r]
                      obtain ⟨bx1, hbx1⟩ : ∃ bx1, bx1 = w10.heap.size := ⟨_, rfl⟩
                      obtain ⟨w11, hw11⟩ : ∃ w11, w11 = w10.alloc (.cells #[.int .i64 c.k, .int .i64 c.i, .int .u64 c.n, .int .u8 c.r] 36) := ⟨_, rfl⟩
                      rw [← hw11] at hb11 k1
                      rw [← hbx1] at k1
                      rw [← hw11, ← hbx1]
                      have H11 := Lib.hid (And.intro hb11 k1)
                      clear hw11 hbx1 hb11 k1
                      have G2 := HG2.out w11 H11.out.1
                      go_upto_region 23 with (go_at_call 15; refine G2.mono ?_; rintro e w12 ⟨rfl, hb12⟩; (have H12 := Lib.hid (And.intro (H11.out.1.trans (hb12.mono H11.out.1.size)) (H11.out.2.below hb12 H11.out.2.lt))); clear hb12 G2)
                      have hb13 := H12.out.1.alloc H12.out.1.size (.cells #[.int .i64 c.k, .int .i64 c.i, .int .u64 c.n, .int .u8 c.r] 36)
                      have k2 := Blk.new w12 36 #[.int .i64 c.k, .int .i64 c.i, .int .u64 c.n, .int .u8 c.r]
                      have k1 := H12.out.2.alloc (.cells #[.int .i64 c.k, .int .i64 c.i, .int .u64 c.n, .int .u8 c.r] 36)
                      obtain ⟨bx2, hbx2⟩ : ∃ bx2, bx2 = w12.heap.size := ⟨_, rfl⟩
                      obtain ⟨w13, hw13⟩ : ∃ w13, w13 = w12.alloc (.cells #[.int .i64 c.k, .int .i64 c.i, .int .u64 c.n, .int .u8 c.r] 36) := ⟨_, rfl⟩
                      rw [← hw13] at hb13 k1 k2
                      rw [← hbx2] at k2
                      rw [← hw13, ← hbx2]
                      have H13 := Lib.hid (And.intro hb13 (And.intro k1 k2))
                      clear hw13 hbx2 hb13 k1 k2
                      go_wp2_with (first
                        | (go_at_call 23; (fail_if_success have := m1); have m1 := trivial; refine (HU1.out w13 H13.out.1).mono ?_; rintro e w14 ⟨rfl, hb⟩; (have H14 := Lib.hid (And.intro (H13.out.1.trans (hb.mono H13.out.1.size)) (And.intro (H13.out.2.1.below hb H13.out.2.1.lt) (H13.out.2.2.below hb H13.out.2.2.lt)))); clear hb)
                        | (go_at_call 24; refine (HU2.out w14 H14.out.1).mono ?_; rintro e w15 ⟨rfl, hb⟩; (have H15 := Lib.hid (And.intro (H14.out.1.trans (hb.mono H14.out.1.size)) (And.intro (H14.out.2.1.below hb H14.out.2.1.lt) (H14.out.2.2.below hb H14.out.2.2.lt)))); clear hb)
                        | (go_at_call 23; refine (HU3.out w15 H15.out.1).mono ?_; rintro e w16 ⟨rfl, hb⟩; (have H16 := Lib.hid (And.intro (H15.out.1.trans (hb.mono H15.out.1.size)) (And.intro (H15.out.2.1.below hb H15.out.2.1.lt) (H15.out.2.2.below hb H15.out.2.2.lt)))); clear hb)
                        | (go_at_call 14; (fail_if_success have := m2); have m2 := trivial; refine (HP1.out w16 H16.out.1).mono ?_; rintro e w17 ⟨rfl, hb⟩; (have H17 := Lib.hid (And.intro (H16.out.1.trans (hb.mono H16.out.1.size)) (And.intro (H16.out.2.1.below hb H16.out.2.1.lt) (H16.out.2.2.below hb H16.out.2.2.lt)))); clear hb)
                        | (go_at_call 14; refine (HP2.out w17 H17.out.1).mono ?_; rintro e w18 ⟨rfl, hb⟩; (have h1 := (H17.out.2.1.below hb H17.out.2.1.lt)); (have h2 := (H17.out.2.2.below hb H17.out.2.2.lt)); (have x0 := h1.cell 0); (have x1 := h1.cell 1); (have x2 := h1.cell 2); (have x3 := h1.cell 3); (have y0 := h2.cell 0); (have y1 := h2.cell 1); (have y2 := h2.cell 2); (have y3 := h2.cell 3); simp only [List.getElem?_toArray, List.getElem?_cons_zero, List.getElem?_cons_succ] at x0 x1 x2 x3 y0 y1 y2 y3; (have H18 := Lib.hid (H17.out.1.trans (hb.mono H17.out.1.size))); clear hb h1 h2))
                      go_roundw
                      case rel => exact ⟨b + 1, by go_num, by rw [show (((b + 1 : Nat)) : Int) = (b : Int) + 1 by omega, HST2.out, ← HCN.out], by have := HK.out; omega, H18.out⟩
                      case measure => simp [intOf]; have := HK.out; omega
                  · rw [hu] at hst
                    simp only [if_true] at hst
                    have q2 := rev_gone_at HJ.out XF.out.1 hu
                    have U1 := UW.out (a : Int) (b : Int)
                    have U2 := UR.out (a : Int) (b : Int)
                    have G2 := GS.out (a : Int) (b : Int)
                    rw [hu] at U1 U2
                    rw [q2] at G2
                    have HST2 := Lib.hid hst
                    obtain ⟨c, hc⟩ : ∃ c, c = S'.getC (a : Int) (b : Int) := ⟨_, rfl⟩
                    obtain ⟨d, hd⟩ : ∃ d, d = (S'.rev x (S'.ds x)).getC (a : Int) (b : Int) := ⟨_, rfl⟩
                    obtain ⟨E, hE⟩ : ∃ E, E = S'.full (a : Int) (b : Int) := ⟨_, rfl⟩
                    rw [← hc, ← hE] at G1
                    rw [← hd] at G2
                    unfold capV at G1 G2
                    obtain ⟨cn, hcn⟩ : ∃ cn, cn = cntR S' x (a : Int) (b : Int) := ⟨_, rfl⟩
                    rw [← hcn] at hcb
                    have HCN := Lib.hid hcn
                    have U3 := US.out (a : Int) (b : Int)
                    have HU1 := Lib.hid U1
                    have HU2 := Lib.hid U2
                    have HU3 := Lib.hid U3
                    have HG2 := Lib.hid G2
                    clear hu hst q2 hc hd hE U1 U2 U3 G2
                    rw [← hcn]
                    clear hcn
                    go_upto_region 22 with (go_at_call 15; refine G1.mono ?_; rintro e w10 ⟨rfl, hb10⟩; (have H10 := Lib.hid (HX.out.trans (hb10.mono HX.out.size))); clear hb10 G1)
                    have hb11 := H10.out.alloc H10.out.size (.cells #[.int .i64 c.k, .int .i64 c.i, .int .u64 c.n, .int .u8 c.r] 36)
                    obtain ⟨w11, hw11⟩ : ∃ w11, w11 = w10.alloc (.cells #[.int .i64 c.k, .int .i64 c.i, .int .u64 c.n, .int .u8 c.r] 36) := ⟨_, rfl⟩
                    rw [← hw11] at hb11 ⊢
                    have H11 := Lib.hid hb11
                    clear hw11 hb11
                    have G2 := HG2.out w11 H11.out
                    go_upto_region 23 with (go_at_call 15; refine G2.mono ?_; rintro e w12 ⟨rfl, hb12⟩; (have H12 := Lib.hid (H11.out.trans (hb12.mono H11.out.size))); clear hb12 G2)
                    have hb13 := H12.out.alloc H12.out.size (.cells #[.int .i64 d.k, .int .i64 d.i, .int .u64 d.n, .int .u8 d.r] 36)
                    obtain ⟨w13, hw13⟩ : ∃ w13, w13 = w12.alloc (.cells #[.int .i64 d.k, .int .i64 d.i, .int .u64 d.n, .int .u8 d.r] 36) := ⟨_, rfl⟩
                    rw [← hw13] at hb13 ⊢
                    have H13 := Lib.hid hb13
                    clear hw13 hb13
                    go_wp2_with (first
                      | (go_at_call 23; (fail_if_success have := m1); have m1 := trivial; refine (HU1.out w13 H13.out).mono ?_; rintro e w14 ⟨rfl, hb⟩; (have H14 := Lib.hid (H13.out.trans (hb.mono H13.out.size))); clear hb)
                      | (go_at_call 24; refine (HU2.out w14 H14.out).mono ?_; rintro e w15 ⟨rfl, hb⟩; (have H15 := Lib.hid (H14.out.trans (hb.mono H14.out.size))); clear hb)
                      | (go_at_call 23; refine (HU3.out w15 H15.out).mono ?_; rintro e w16 ⟨rfl, hb⟩; (have H16 := Lib.hid (H15.out.trans (hb.mono H15.out.size))); clear hb))
                    go_roundw
                    case rel => exact ⟨b + 1, by go_num, by rw [show (((b + 1 : Nat)) : Int) = (b : Int) + 1 by omega, HST2.out, ← HCN.out]; go_num, by have := HK.out; omega, H16.out⟩
                    case measure => simp [intOf]; have := HK.out; omega
                · have hbe : b = nk := by omega
                  subst hbe
                  have hb1 : ¬ (b : Int) < (b : Int) := by omega
                  have hrow := HROW.out (a : Int)
                  rw [hrow]
                  have HRW := Lib.hid hrow
                  clear hrow
                  generalize hcn : cntR S' x ((a : Int) + 1) 0 = cn
                  have HCN := Lib.hid hcn
                  clear hcn
                  go_wp2_with fail
                  go_roundw
                  case rel => exact ⟨a + 1, by go_num, by rw [show (((a + 1 : Nat)) : Int) = (a : Int) + 1 by omega, HCN.out], by omega, HX.out⟩
                  case measure => simp [intOf]; omega
            · have hae : a = ng := by omega
              subst hae
              rw [HALL.out]
              have ha1 : ¬ (a : Int) < (a : Int) := by omega
              go_wp2_with (go_at_call 11; refine (known_is _).mono ?_; rintro e wk ⟨rfl, hbk⟩; (have HBK := Lib.hid hbk); clear hbk)
              go_ret
              exact ⟨rfl, (T9.out.bel.trans (HB.out.mono T9.out.bel.size)).trans (HBK.out.mono (Nat.le_trans T9.out.bel.size HB.out.size))⟩
  · exact revokes_early gs sl n g s A0 cap l W hsm
end Go.Proofs.Ytbknmfegckeogaa
