/- AuditCopies, by a walk: true at each size and each three rows of records. -/
import Derived.Test.YthmjhepjlgcgfaaAuditEqual
namespace Go.Proofs.Ythmjhepjlgcgfaa
open Go.RowKit
set_option linter.unusedVariables false
set_option linter.unusedSimpArgs false

theorem same_alike {L1 L2 : Nat → Rec} {n : Nat} {W1 W2 : List Rec} (h1 : live L1 n W1.length = W1.drop (W1.length - n)) (h2 : live L2 n W2.length = W2.drop (W2.length - n)) :
    sameR L1 L2 n W1.length n W2.length = (decide (W1.length = W2.length) && decide (W1.drop (W1.length - n) = W2.drop (W2.length - n))) := by
  unfold sameR
  rw [h1, h2]
  by_cases hl : W1.length = W2.length
  · simp [hl]
  · simp only [decide_true, Bool.true_and, decide_eq_false hl, Bool.false_and]
    by_cases hd : W1.drop (W1.length - n) = W2.drop (W2.length - n)
    · have := congrArg List.length hd
      simp only [List.length_drop] at this
      have hne : ¬ (W1.length - min W1.length n = W2.length - min W2.length n) := by omega
      simp [hne]
    · simp [hd]

theorem sameR_refl (L : Nat → Rec) (n m : Nat) : sameR L L n m n m = true := by simp [sameR]
theorem sameR_symm (L L' : Nat → Rec) (n m n' m' : Nat) : sameR L L' n m n' m' = sameR L' L n' m' n m := by
  unfold sameR
  rw [decide_eq_decide.2 (show n = n' ↔ n' = n from ⟨Eq.symm, Eq.symm⟩), decide_eq_decide.2 (show m - min m n = m' - min m' n' ↔ m' - min m' n' = m - min m n from ⟨Eq.symm, Eq.symm⟩), decide_eq_decide.2 (show live L n m = live L' n' m' ↔ live L' n' m' = live L n m from ⟨Eq.symm, Eq.symm⟩)]

theorem bo_new {w1 : World} {b g n : Nat} {L : Nat → Rec} (hR : Ring w1 b g n L 0) : Bo (w1.alloc (.cells #[.slice none 0 0, .int .i64 n] 31)) b g w1.heap.size n L none 0 [] := by
  have hb := (Below.refl w1.heap.size w1).alloc (Nat.le_refl _) (.cells #[.slice none 0 0, .int .i64 n] 31)
  have hl := ring_lt hR
  exact ⟨hR.below hb hl.1 hl.2, Blk.new _ _ _, fun h => absurd rfl h, Nat.le_refl _, by simp [live], by simp, by omega, fun h => absurd rfl h⟩

set_option maxRecDepth 100000 in
set_option maxHeartbeats 8000000 in
theorem copies_walk (size : Int) (A M O : Option Addr) (cap mcap ocap : Nat) (l more others : List Rec) (w : World) (hl : l.length < 2 ^ 63) (hA : RowAt w w.heap.size A l) (hM : RowAt w w.heap.size M more) (hO : RowAt w w.heap.size O others) :
    Calls Try.prog 6 #[.int .i64 size, .slice A l.length cap, .slice M more.length mcap, .slice O others.length ocap] w fun e w' => e = .returned (.bool true) ∧ Below w.heap.size w w' := by
  have CM := much_is size A l.length cap 60 w hl
  by_cases hm : ((decide (60 < size) && decide (size ≤ 256)) || decide (60 < (l.length : Int))) = true
  · rw [hm] at CM
    clear hm hA hM hO
    go_enter Try.func6, Try.ntmps6
    go_wp2_with fail
    refine CM.mono ?_
    rintro e w' ⟨rfl, rfl⟩
    go_wp2_with fail
    refine (known_is w).mono ?_
    rintro e w' ⟨rfl, hb⟩
    go_wp2
    go_ret
    exact ⟨rfl, hb⟩
  · have hmf := Bool.eq_false_iff.2 hm
    rw [hmf] at CM
    have hlen : l.length ≤ 60 := by
      simp only [Bool.or_eq_true, Bool.and_eq_true, decide_eq_true_eq, not_or] at hm
      omega
    clear hm hmf
    by_cases hs : 30 < (more.length : Int) ∨ 30 < (others.length : Int) ∨ size < 1 ∨ 256 < size
    · clear hA hM hO
      rcases (show 30 < (more.length : Int) ∨ (¬ 30 < (more.length : Int) ∧ 30 < (others.length : Int)) ∨ (¬ 30 < (more.length : Int) ∧ ¬ 30 < (others.length : Int) ∧ size < 1) ∨ (¬ 30 < (more.length : Int) ∧ ¬ 30 < (others.length : Int) ∧ ¬ size < 1 ∧ 256 < size) from by omega) with h1 | ⟨h1, h2⟩ | ⟨h1, h2, h3⟩ | ⟨h1, h2, h3, h4⟩
      all_goals
        clear hs
        go_enter Try.func6, Try.ntmps6
        go_wp2_with fail
        refine CM.mono ?_
        rintro e w' ⟨rfl, rfl⟩
        go_wp2_with (go_at_call 9; refine (known_is _).mono ?_; rintro e w' ⟨rfl, hb⟩)
        go_ret
        exact ⟨rfl, hb⟩
    · obtain ⟨n, rfl⟩ := Int.eq_ofNat_of_zero_le (show 0 ≤ size by omega)
      have hn1 : 1 ≤ n := by omega
      have hn2 : n ≤ 256 := by omega
      have hm30 : more.length ≤ 30 := by omega
      have ho30 : others.length ≤ 30 := by omega
      have hm1 : ¬ 30 < (more.length : Int) := by omega
      have ho1 : ¬ 30 < (others.length : Int) := by omega
      clear hs
      have CN := new_row n w hn1 hn2
      have h1 : ¬ (n : Int) < 1 := by omega
      have h2 : ¬ 256 < (n : Int) := by omega
      go_enter Try.func6, Try.ntmps6
      go_wp2_with fail
      refine CM.mono ?_
      rintro e w' ⟨rfl, rfl⟩
      go_wp2_with fail
      refine CN.mono ?_
      rintro e w1 ⟨b, g, L, rfl, hR1, hb, hg, hB1⟩
      go_wp2
      have hBo := bo_new hR1
      have hb2 : Below w.heap.size w (w1.alloc (.cells #[.slice none 0 0, .int .i64 n] 31)) := hB1.alloc hB1.size _
      generalize w1.alloc (.cells #[.slice none 0 0, .int .i64 n] 31) = w2 at *
      have hcw : w.heap.size ≤ w1.heap.size := hB1.size
      generalize w1.heap.size = c at *
      clear hR1 hB1 CM CN
      go_loopw [12] (fun i wr => ∃ j : Nat, j ≤ l.length ∧ i = .int .i64 j ∧ Below w.heap.size w wr ∧ ∃ L' A' cap' W, Bo wr b g c n L' A' cap' W ∧ W.length = j) (fun i _ => l.length - (intOf i).toNat)
      case atStart => exact ⟨0, Nat.zero_le _, rfl, hb2, L, _, _, [], hBo, rfl⟩
      case round =>
        obtain ⟨j, hj, rfl, hbr, L', A', cap', W, hBr, hWj⟩ := hrel
        by_cases hlt : j < l.length
        · obtain ⟨g0, o0, rfl, hg0, hrec⟩ := hA (fun e => by rw [e] at hlt; simp at hlt)
          have hrj := (hrec j hlt).block (hbr.block g0 hg0)
          generalize l[j]'hlt = r at hrj
          obtain ⟨r0, r1, r2, r3, r4, r5, r6, r7, r8, r9, r10, r11⟩ := hrj
          have hj1 : (j : Int) < l.length := by omega
          have hj0 : (0 : Int) ≤ (j : Int) := by omega
          clear hrec hA hM hO hb2 hBo
          go_wp2_with fail
          refine (put_bo b g c n L' A' cap' W r wr hBr (by omega)).mono ?_
          rintro e w4 ⟨rfl, ⟨L4, A4, cap4, hB4, hA4f⟩, hA4⟩
          have hbw4 := hbr.trans (hA4.below hbr.size (fun k hk => by rcases hk with rfl | rfl | rfl; exact hb; exact hg; exact hcw))
          go_wp2
          go_roundw
          case rel => exact ⟨j + 1, by omega, by go_num, hbw4, L4, A4, cap4, _, hB4, by simp; omega⟩
          case measure => simp [intOf]; omega
        · have hjl : j = l.length := by omega
          clear hA hb2 hBo
          subst hjl
          have HM := Lib.hid hM
          have HO := Lib.hid hO
          clear hM hO
          have hWl : W.length ≤ 60 := by omega
          have HWJ := Lib.hid hWj
          clear hWj
          have CC := copy_ring b g n L' W.length wr hBr.ring
          go_wp2_with fail
          refine CC.mono ?_
          rintro e w5 ⟨b', g', rfl, hR5, hb', hg', hB5⟩
          have hBr5 := hBr.below hB5
          have CRC := refCopy_row c _ _ w5 (hBr5.blk.cell 0) (hBr5.blk.cell 1) ⟨_, _, _, rfl⟩ ⟨_, rfl⟩
          go_wp2_with fail
          refine CRC.mono ?_
          rintro e w6 ⟨rfl, hblk6, hB6⟩
          have hBr6 := hBr5.below hB6
          have hl5 := ring_lt hR5
          have hR6 := hR5.below hB6 hl5.1 hl5.2
          obtain ⟨c', hc'⟩ : ∃ c', c' = w5.heap.size := ⟨_, rfl⟩
          have hfar : W ≠ [] → ∀ g5 o5, A' = some ⟨g5, o5, none⟩ → g5 < wr.heap.size := fun hne g5 o5 e => by
            obtain ⟨g7, o7, hA7, hg7, _⟩ := hBr.row hne
            rw [hA7] at e
            injection e with e1
            injection e1 with e2
            omega
          have hlr := ring_lt hBr.ring
          have hcr := hBr.blk.lt
          have hBo6 : Bo w6 b' g' c' n L' A' cap' W := by
            rw [hc']
            exact ⟨hR6, hblk6, hBr6.row, hBr6.hcap, hBr6.agree, hBr6.small, by omega, fun hne g5 o5 e => by have := hfar hne g5 o5 e; have := hB5.size; omega⟩
          have hdis : b ≠ b' ∧ b ≠ g' ∧ b ≠ c' ∧ g ≠ b' ∧ g ≠ g' ∧ g ≠ c' ∧ c ≠ b' ∧ c ≠ g' ∧ c ≠ c' := by have := hB5.size; omega
          have hac := hBr.ac
          have hac' := hBo6.ac
          have hbw6 : Below w.heap.size w w6 := hbr.trans ((hB5.mono hbr.size).trans (hB6.mono (Nat.le_trans hbr.size hB5.size)))
          have hbg' : w.heap.size ≤ b' ∧ w.heap.size ≤ g' ∧ w.heap.size ≤ c' := by have := hbr.size; have := hB5.size; omega
          rw [← hc']
          have CSm := same_ring b' g' n L' W.length b g n L' W.length w6 hR6 hBr6.ring
          rw [sameR_refl] at CSm
          clear hfar hlr hcr hR5 hR6 hl5 hblk6 hB5 hBr5 hBr hbr hb' hg' CC CRC hc' hB6
          go_wp2_with fail
          refine CSm.mono ?_
          rintro e w7 ⟨rfl, hB7⟩
          have hBr7 := hBr6.below hB7
          have hBo7 := hBo6.below hB7
          have hbw7 := hbw6.trans (hB7.mono hbw6.size)
          clear hBr6 hBo6 hB7 hbw6 CSm
          go_wp2
          go_loopw [15] (fun i wr => ∃ j : Nat, j ≤ more.length ∧ i = .int .i64 j ∧ Below w.heap.size w wr ∧ Bo wr b' g' c' n L' A' cap' W ∧ ∃ L1 A1 cap1 W1, Bo wr b g c n L1 A1 cap1 W1 ∧ W1.length ≤ 60 + j ∧ (W1 ≠ [] → ∀ g5 o5, A1 = some ⟨g5, o5, none⟩ → g5 ≠ b' ∧ g5 ≠ g' ∧ g5 ≠ c')) (fun i _ => more.length - (intOf i).toNat)
          case atStart => exact ⟨0, Nat.zero_le _, rfl, hbw7, hBo7, L', A', cap', W, hBr7, by omega, hac'⟩
          case round =>
            obtain ⟨j, hj, rfl, hbr, hBq, L1, A1, cap1, W1, hBr, hWj, hd1⟩ := hrel
            by_cases hlt : j < more.length
            · obtain ⟨g0, o0, rfl, hg0, hrec⟩ := HM.out (fun e => by rw [e] at hlt; simp at hlt)
              have hrj := (hrec j hlt).block (hbr.block g0 hg0)
              generalize more[j]'hlt = r at hrj
              obtain ⟨r0, r1, r2, r3, r4, r5, r6, r7, r8, r9, r10, r11⟩ := hrj
              have hj1 : (j : Int) < more.length := by omega
              have hj0 : (0 : Int) ≤ (j : Int) := by omega
              have HAC := Lib.hid hac
              have HAC' := Lib.hid hac'
              have HD1 := Lib.hid hd1
              clear hrec hac hac' hd1 hBr7 hBo7
              go_wp2_with fail
              refine (put_bo b g c n L1 A1 cap1 W1 r wr hBr (by omega)).mono ?_
              rintro e w4 ⟨rfl, ⟨L4, A4, cap4, hB4, hA4f⟩, hA4⟩
              have hbw4 := hbr.trans (hA4.below hbr.size (fun k hk => by rcases hk with rfl | rfl | rfl; exact hb; exact hg; exact hcw))
              have hBq4 := hBq.apart hA4 (by omega) (fun hne g5 o5 e => by have := HAC.out hne g5 o5 e; omega)
              have hlq := ring_lt hBq.ring
              have hlc := hBq.blk.lt
              go_wp2
              go_roundw
              case rel => exact ⟨j + 1, by omega, by go_num, hbw4, hBq4, L4, A4, cap4, _, hB4, by simp; omega, fun _ g5 o5 e => by have := hA4f g5 o5 e; omega⟩
              case measure => simp [intOf]; omega
            · have hjl : j = more.length := by omega
              subst hjl
              have HAC := Lib.hid hac
              clear hac hac' hBr7 hBo7 HM
              go_wp2
              go_loopw [16] (fun i wr => ∃ j : Nat, j ≤ others.length ∧ i = .int .i64 j ∧ Below w.heap.size w wr ∧ Bo wr b g c n L1 A1 cap1 W1 ∧ ∃ L2 A2 cap2 W2, Bo wr b' g' c' n L2 A2 cap2 W2 ∧ W2.length ≤ 60 + j) (fun i _ => others.length - (intOf i).toNat)
              case atStart => exact ⟨0, Nat.zero_le _, rfl, hbr, hBr, L', A', cap', W, hBq, by omega⟩
              case round =>
                obtain ⟨j, hj, rfl, hbr3, hBr3, L2, A2, cap2, W2, hBq3, hWj2⟩ := hrel
                by_cases hlt : j < others.length
                · obtain ⟨g0, o0, rfl, hg0, hrec⟩ := HO.out (fun e => by rw [e] at hlt; simp at hlt)
                  have hrj := (hrec j hlt).block (hbr3.block g0 hg0)
                  generalize others[j]'hlt = r at hrj
                  obtain ⟨r0, r1, r2, r3, r4, r5, r6, r7, r8, r9, r10, r11⟩ := hrj
                  have hj1 : (j : Int) < others.length := by omega
                  have hj0 : (0 : Int) ≤ (j : Int) := by omega
                  have HD1 := Lib.hid hd1
                  clear hrec hd1 hBr hBq hbr
                  go_wp2_with fail
                  refine (put_bo b' g' c' n L2 A2 cap2 W2 r _ hBq3 (by omega)).mono ?_
                  rintro e w4 ⟨rfl, ⟨L4, A4, cap4, hB4, hA4f⟩, hA4⟩
                  have hbw4 := hbr3.trans (hA4.below hbr3.size (fun k hk => by rcases hk with rfl | rfl | rfl; exact hbg'.1; exact hbg'.2.1; exact hbg'.2.2))
                  have hBr4 := hBr3.apart hA4 (by omega) (fun hne g5 o5 e => by have := HD1.out hne g5 o5 e; omega)
                  go_wp2
                  go_roundw
                  case rel => exact ⟨j + 1, by omega, by go_num, hbw4, hBr4, L4, A4, cap4, _, hB4, by simp; omega⟩
                  case measure => simp [intOf]; omega
                · have hjl2 : j = others.length := by omega
                  subst hjl2
                  clear hd1 hBr hBq hbr HO
                  have hcapA := hBr3.hcap
                  have hcapB := hBq3.hcap
                  have cA := hBr3.blk.cell 0
                  have cB := hBq3.blk.cell 0
                  simp only [List.getElem?_toArray, List.getElem?_cons_zero] at cA cB
                  have hl1 : W1.length ≤ 90 := by omega
                  have hl2 : W2.length ≤ 90 := by omega
                  have TA := fun w' (hh : Bo w' b g c n L1 A1 cap1 W1) => there_row c n W1.length cap1 A1 w' (hh.blk.cell 0) (hh.blk.cell 1) hn2 hh.small hh.hcap
                  have TB := fun w' (hh : Bo w' b' g' c' n L2 A2 cap2 W2) => there_row c' n W2.length cap2 A2 w' (hh.blk.cell 0) (hh.blk.cell 1) hn2 hh.small hh.hcap
                  have hrA := rowAt_cut (k := W1.length - n) hBr3.row (by omega) hcapA
                  have hrB := rowAt_cut (k := W2.length - n) hBq3.row (by omega) hcapB
                  have hal := same_alike hBr3.agree hBq3.agree
                  have hal2 := sameR_symm L2 L1 n W2.length n W1.length
                  rw [hal] at hal2
                  obtain ⟨D1, hD1⟩ : ∃ D1, D1 = W1.drop (W1.length - n) := ⟨_, rfl⟩
                  obtain ⟨D2, hD2⟩ : ∃ D2, D2 = W2.drop (W2.length - n) := ⟨_, rfl⟩
                  have hDl1 : W1.length - (W1.length - n) = D1.length := by rw [hD1, List.length_drop]
                  have hDl2 : W2.length - (W2.length - n) = D2.length := by rw [hD2, List.length_drop]
                  rw [← hD1] at hrA hal hal2
                  rw [← hD2] at hrB hal hal2
                  rw [hDl1] at TA
                  rw [hDl2] at TB
                  have SB := fun w' (hh : Bo w' b g c n L1 A1 cap1 W1) => same_bo b g c n L1 A1 cap1 W1 w' hh
                  have SQ := fun w' (hh : Bo w' b' g' c' n L2 A2 cap2 W2) => same_bo b' g' c' n L2 A2 cap2 W2 w' hh
                  have R1 := fun w' (hh : Bo w' b g c n L1 A1 cap1 W1) (hq : Bo w' b' g' c' n L2 A2 cap2 W2) => same_ring b g n L1 W1.length b' g' n L2 W2.length w' hh.ring hq.ring
                  have R2 := fun w' (hh : Bo w' b g c n L1 A1 cap1 W1) (hq : Bo w' b' g' c' n L2 A2 cap2 W2) => same_ring b' g' n L2 W2.length b g n L1 W1.length w' hq.ring hh.ring
                  simp only [hal] at R1
                  simp only [hal2] at R2
                  have hd1l : D1.length ≤ 90 := by omega
                  have hd2l : D2.length ≤ 90 := by omega
                  clear hal hal2 hD1 hD2 hDl1 hDl2 HAC
                  by_cases hleq : W1.length = W2.length
                  · simp only [decide_eq_true hleq, Bool.true_and] at R1 R2
                    have CSa := fun w' B1 B2 Aa Ab ca cb r1 r2 => refSame_row B1 B2 Aa Ab ca cb D1 D2 w' (by omega) (by omega) r1 r2
                    generalize decide (D1 = D2) = res at *
                    generalize (if cap1 = W1.length - n then A1 else A1.map (·.add ((W1.length - n) * 12))) = Ax at *
                    generalize (if cap2 = W2.length - n then A2 else A2.map (·.add ((W2.length - n) * 12))) = Ay at *
                    generalize cap1 - (W1.length - n) = cx at *
                    generalize cap2 - (W2.length - n) = cy at *
                    have hli : ((W1.length : Int) == (W2.length : Int)) = true := by simp; omega
                    clear hleq
                    go_wp2_with fail
                    go_quiet ((first | (go_at_call 18; exact Calls.quiet_of (TA _ (hBr3.drewN _))) | (go_at_call 18; exact Calls.quiet_of (TB _ (hBq3.drewN _))) | (go_at_call 20; exact Calls.quiet_of (CSa _ _ _ _ _ _ _ (hrA.below (below_drew _ _ _)) (hrB.below (below_drew _ _ _))))))
                    have x1 := hBr3.drewN nq
                    have y1 := hBq3.drewN nq
                    have z1 := hbr3.trans (below_drew _ w.heap.size nq)
                    clear hBr3 hBq3 hbr3 TA TB hrA hrB cA cB
                    generalize World.drewN _ nq = w8 at *
                    have K1 := SB w8 x1
                    go_wp2_with fail
                    refine K1.mono ?_
                    rintro e w9 ⟨rfl, k9⟩
                    have x2 := x1.below k9
                    have y2 := y1.below k9
                    have z2 := z1.trans (k9.mono z1.size)
                    have K2 := SQ w9 y2
                    clear x1 y1 z1 k9 K1
                    go_wp2_with fail
                    refine K2.mono ?_
                    rintro e w10 ⟨rfl, k10⟩
                    have x3 := x2.below k10
                    have y3 := y2.below k10
                    have z3 := z2.trans (k10.mono z2.size)
                    have K3 := R1 w10 x3 y3
                    clear x2 y2 z2 k10 K2
                    go_wp2_with fail
                    refine K3.mono ?_
                    rintro e w11 ⟨rfl, k11⟩
                    have x4 := x3.below k11
                    have y4 := y3.below k11
                    have z4 := z3.trans (k11.mono z3.size)
                    have K4 := R2 w11 x4 y4
                    clear x3 y3 z3 k11 K3
                    go_wp2_with fail
                    refine K4.mono ?_
                    rintro e w12 ⟨rfl, k12⟩
                    have z5 := z4.trans (k12.mono z4.size)
                    clear x4 y4 z4 k12 K4
                    go_wp2_with fail
                    refine (known_is _).mono ?_
                    rintro e w13 ⟨rfl, k13⟩
                    go_wp2
                    go_ret
                    exact ⟨rfl, z5.trans (k13.mono z5.size)⟩
                  · simp only [decide_eq_false hleq, Bool.false_and] at R1 R2
                    have hli : ((W1.length : Int) == (W2.length : Int)) = false := by simp; omega
                    go_wp2_with fail
                    go_quiet (fail)
                    have x1 := hBr3.drewN nq
                    have y1 := hBq3.drewN nq
                    have z1 := hbr3.trans (below_drew _ w.heap.size nq)
                    clear hBr3 hBq3 hbr3 TA TB hrA hrB cA cB
                    generalize World.drewN _ nq = w8 at *
                    have K1 := SB w8 x1
                    go_wp2_with fail
                    refine K1.mono ?_
                    rintro e w9 ⟨rfl, k9⟩
                    have x2 := x1.below k9
                    have y2 := y1.below k9
                    have z2 := z1.trans (k9.mono z1.size)
                    have K2 := SQ w9 y2
                    clear x1 y1 z1 k9 K1
                    go_wp2_with fail
                    refine K2.mono ?_
                    rintro e w10 ⟨rfl, k10⟩
                    have x3 := x2.below k10
                    have y3 := y2.below k10
                    have z3 := z2.trans (k10.mono z2.size)
                    have K3 := R1 w10 x3 y3
                    clear x2 y2 z2 k10 K2
                    go_wp2_with fail
                    refine K3.mono ?_
                    rintro e w11 ⟨rfl, k11⟩
                    have x4 := x3.below k11
                    have y4 := y3.below k11
                    have z4 := z3.trans (k11.mono z3.size)
                    have K4 := R2 w11 x4 y4
                    clear x3 y3 z3 k11 K3
                    go_wp2_with fail
                    refine K4.mono ?_
                    rintro e w12 ⟨rfl, k12⟩
                    have z5 := z4.trans (k12.mono z4.size)
                    clear x4 y4 z4 k12 K4
                    go_wp2_with fail
                    refine (known_is _).mono ?_
                    rintro e w13 ⟨rfl, k13⟩
                    go_wp2
                    go_ret
                    exact ⟨rfl, z5.trans (k13.mono z5.size)⟩
end Go.Proofs.Ythmjhepjlgcgfaa
