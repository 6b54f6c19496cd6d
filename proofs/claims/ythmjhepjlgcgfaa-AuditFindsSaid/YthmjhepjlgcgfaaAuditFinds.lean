/- AuditFinds, by a walk: true at each size, each row of records, each Seq. -/
import Derived.Test.YthmjhepjlgcgfaaAuditPlays
import Derived.Test.YthmjhepjlgcgfaaAuditOf
namespace Go.Proofs.Ythmjhepjlgcgfaa
open Go.RowKit
set_option linter.unusedVariables false
set_option linter.unusedSimpArgs false

/-- Numbers go one behind the other. -/
def Counted (W : List Rec) : Prop := ∀ i (h : i < W.length), (W[i]'h).sq = ((i + 1 : Nat) : Int)

theorem counted_app {W : List Rec} (h : Counted W) (r : Rec) : Counted (W ++ [{ r with sq := ((W.length + 1 : Nat) : Int) }]) := by
  intro i hi
  by_cases hl : i < W.length
  · rw [List.getElem_append_left hl]
    exact h i hl
  · have e : i = W.length := by simp at hi; omega
    subst e
    rw [List.getElem_append_right (Nat.le_refl _)]
    simp

theorem find_at {L : Nat → Rec} {n : Nat} {W : List Rec} (h : live L n W.length = W.drop (W.length - n)) (s : Nat) (h1 : W.length - n < s) (h2 : s ≤ W.length) : L (s % n) = W[s - 1]'(by omega) := by
  have q : (live L n W.length)[s - 1 - (W.length - n)]'(by simp [live]; omega) = (W.drop (W.length - n))[s - 1 - (W.length - n)]'(by simp; omega) := by simp only [h]
  simp only [live, List.getElem_map, List.getElem_range, List.getElem_drop] at q
  rw [show W.length - min W.length n + 1 + (s - 1 - (W.length - n)) = s from by omega] at q
  rw [q]
  congr 1
  omega

set_option maxRecDepth 100000 in
set_option maxHeartbeats 6000000 in
theorem finds_walk (size : Int) (A : Option Addr) (cap : Nat) (l : List Rec) (sq : Int) (w : World) (hl : l.length < 2 ^ 63) (hA : RowAt w w.heap.size A l) (hsq : 0 ≤ sq) (hsq2 : sq < 2 ^ 64) :
    Calls Try.prog 4 #[.int .i64 size, .slice A l.length cap, .int .u64 sq] w fun e w' => e = .returned (.bool true) ∧ Below w.heap.size w w' := by
  have CM := much_is size A l.length cap 150 w hl
  by_cases hm : ((decide (60 < size) && decide (size ≤ 256)) || decide (150 < (l.length : Int))) = true
  · rw [hm] at CM
    clear hm
    go_enter Try.func4, Try.ntmps4
    go_wp2_with fail
    refine CM.mono ?_
    rintro e w' ⟨rfl, rfl⟩
    go_wp2_with fail
    refine (known_is w).mono ?_
    rintro e w' ⟨rfl, hb⟩
    go_wp2
    go_ret
    exact ⟨rfl, hb⟩
  · have hmf := Bool.eq_false_iff.2 hm
    rw [hmf] at CM
    have hlen : l.length ≤ 150 := by
      simp only [Bool.or_eq_true, Bool.and_eq_true, decide_eq_true_eq, not_or] at hm
      omega
    clear hm hmf
    by_cases hs : size < 1 ∨ 256 < size
    · clear hA
      rcases (show size < 1 ∨ (¬ size < 1 ∧ 256 < size) from by omega) with h1 | ⟨h1, h2⟩
      all_goals
        clear hs
        go_enter Try.func4, Try.ntmps4
        go_wp2_with fail
        refine CM.mono ?_
        rintro e w' ⟨rfl, rfl⟩
        go_wp2_with (go_at_call 9; refine (known_is _).mono ?_; rintro e w' ⟨rfl, hb⟩)
        go_ret
        exact ⟨rfl, hb⟩
    · obtain ⟨n, rfl⟩ := Int.eq_ofNat_of_zero_le (show 0 ≤ size by omega)
      have hn1 : 1 ≤ n := by omega
      have hn2 : n ≤ 256 := by omega
      clear hs
      have CN := new_row n w hn1 hn2
      have h1 : ¬ (n : Int) < 1 := by omega
      have h2 : ¬ 256 < (n : Int) := by omega
      go_enter Try.func4, Try.ntmps4
      go_wp2_with fail
      refine CM.mono ?_
      rintro e w' ⟨rfl, rfl⟩
      go_wp2_with fail
      refine CN.mono ?_
      rintro e w1 ⟨b, g, L, rfl, hR1, hb, hg, hB1⟩
      go_wp2
      have hBo := both_new hR1
      have hb2 : Below w.heap.size w (w1.alloc (.cells #[.slice none 0 0, .int .i64 n] 31)) := hB1.alloc hB1.size _
      generalize w1.alloc (.cells #[.slice none 0 0, .int .i64 n] 31) = w2 at *
      have hbc : b ≠ w1.heap.size ∧ g ≠ w1.heap.size := ⟨by have := (ring_lt hR1).1; omega, by have := (ring_lt hR1).2; omega⟩
      have hcw : w.heap.size ≤ w1.heap.size := hB1.size
      generalize w1.heap.size = c at *
      clear hR1 hB1 CM CN
      go_loopw [10] (fun i wr => ∃ j : Nat, j ≤ l.length ∧ i = .int .i64 j ∧ Below w.heap.size w wr ∧ ∃ L' v' W, Both wr b g c (c + 1) n L' v' W ∧ W.length = j ∧ Counted W) (fun i _ => l.length - (intOf i).toNat)
      case atStart => exact ⟨0, Nat.zero_le _, rfl, hb2, L, _, [], hBo, rfl, fun i hi => absurd hi (by simp)⟩
      case round =>
        obtain ⟨j, hj, rfl, hbr, L', v', W, hBr, hWj, hcnt⟩ := hrel
        by_cases hlt : j < l.length
        · obtain ⟨g0, o0, rfl, hg0, hrec⟩ := hA (fun e => by rw [e] at hlt; simp at hlt)
          have hrj := (hrec j hlt).block (hbr.block g0 hg0)
          generalize l[j]'hlt = r at hrj
          obtain ⟨r0, r1, r2, r3, r4, r5, r6, r7, r8, r9, r10, r11⟩ := hrj
          have hj1 : (j : Int) < l.length := by omega
          have hj0 : (0 : Int) ≤ (j : Int) := by omega
          have HREC := Lib.hid hrec
          have HCNT := Lib.hid hcnt
          clear hrec hA hb2 hBo hcnt
          go_wp2_with fail
          refine (put_both b g c (c + 1) n L' v' W r wr hBr (by omega) hbc).mono ?_
          rintro e w4 ⟨rfl, ⟨L4, v4, hB4⟩, hA4⟩
          have hbw4 := hbr.trans (hA4.below hbr.size (fun k hk => by rcases hk with rfl | rfl | rfl; exact hb; exact hg; exact hcw))
          go_wp2
          go_roundw
          case rel => exact ⟨j + 1, by omega, by go_num, hbw4, L4, v4, _, hB4, by simp; omega, counted_app HCNT.out r⟩
          case measure => simp [intOf]; omega
        · have hjl : j = l.length := by omega
          clear hA hb2 hBo
          subst hjl
          obtain ⟨A5, cap5, hv5, hcap5⟩ := own_slice hBr.ref.own
          subst hv5
          have hWl := hWj
          have HAG := Lib.hid hBr.agree
          have HCNT := Lib.hid hcnt
          clear hcnt
          obtain ⟨y, hy⟩ : ∃ y, y = W.length - n := ⟨_, rfl⟩
          have HY := Lib.hid hy
          clear hy
          have CRL := fun w' (hh : Both w' b g c (c + 1) n L' (.slice A5 W.length cap5) W) => refLost_row c n W.length cap5 A5 w' (hh.ref.blk.cell 0) (hh.ref.blk.cell 1) hn2 (by omega)
          simp only [← HY.out] at CRL
          simp only [hWl] at CRL
          have hyl : y ≤ l.length := by have := HY.out; omega
          go_wp2
          go_loopw [11] (fun i wr' => ∃ s : Nat, s ≤ l.length + 2 ∧ i = .int .u64 s ∧ Below w.heap.size w wr' ∧ Both wr' b g c (c + 1) n L' (.slice A5 W.length cap5) W) (fun i _ => l.length + 2 - (intOf i).toNat)
          case atStart => exact ⟨0, Nat.zero_le _, rfl, hbr, hBr⟩
          case round =>
            obtain ⟨s, hs, rfl, hbs, hBs⟩ := hrel
            by_cases hle : s ≤ l.length + 1
            · have hle1 : (s : Int) ≤ (l.length : Int) + 1 := by omega
              by_cases hth : y < s ∧ s ≤ l.length
              · obtain ⟨q, rfl⟩ : ∃ q, s = q + 1 := ⟨s - 1, by omega⟩
                have hql : q < l.length := by omega
                have hqL : q < W.length := by omega
                have CO := of_in b g n W.length (q + 1) L' _ hBs.ring (by have := HY.out; omega) (by omega)
                rw [find_at HAG.out (q + 1) (by have := HY.out; omega) (by omega)] at CO
                have hx := HCNT.out q hqL
                have hra := rowAt_own hBs.ref.own
                obtain ⟨g5, o5, rfl, hg5, hr5⟩ := hra (fun e => by rw [e] at hWl; simp at hWl; omega)
                have hr := hr5 q hqL
                simp only [Nat.add_sub_cancel] at CO
                obtain ⟨x, hxe⟩ : ∃ x, x = W[q]'hqL := ⟨_, rfl⟩
                rw [← hxe] at CO hx hr
                have HXE := Lib.hid hxe
                clear hxe
                push_cast at CO hx
                simp only [Rec.arr] at CO
                have hyq : (y : Int) < (q : Int) + 1 := by omega
                have hq1 : (q : Int) + 1 ≤ (l.length : Int) := by omega
                have hqW : (q : Int) < (W.length : Int) := by omega
                have hq0 : (0 : Int) ≤ (q : Int) := by omega
                have hwy : IntKind.u64.wrap (y : Int) = y := by rw [IntKind.wrap_u64]; omega
                have HR5 := Lib.hid hr5
                clear hr5 hra hle
                go_wp2_with (go_at_call 13; refine CO.mono ?_; rintro e w6 ⟨rfl, hb6⟩)
                obtain ⟨w7, hw7⟩ : ∃ w7 : World, w7 = w6.alloc (.cells #[.int .u64 x.sq, .int .u64 x.tm, .int .i64 x.gi, .int .u64 x.gg, .int .i64 x.p, .int .i64 x.kd, .int .u64 x.a0, .int .u64 x.a1, .int .u64 x.a2, .int .u64 x.a3, .int .u64 x.a4, .int .i64 x.cd] 42) := ⟨_, rfl⟩
                have hb7 : Below w6.heap.size w6 w7 := by rw [hw7]; exact (Below.refl _ w6).alloc (Nat.le_refl _) _
                have hr7 : RecAt w7 w6.heap.size 0 x := by rw [hw7]; exact recAt_new w6 x
                have hw7' : w7 = w6.alloc (.cells #[.int .u64 ((q : Int) + 1), .int .u64 x.tm, .int .i64 x.gi, .int .u64 x.gg, .int .i64 x.p, .int .i64 x.kd, .int .u64 x.a0, .int .u64 x.a1, .int .u64 x.a2, .int .u64 x.a3, .int .u64 x.a4, .int .i64 x.cd] 42) := by rw [hw7, hx]
                rw [← hw7']
                clear hw7 hw7'
                have hB7 := (hBs.below hb6).below hb7
                have hbw7 := hbs.trans ((hb6.mono hbs.size).trans (hb7.mono (Nat.le_trans hbs.size hb6.size)))
                have hB7' := hB7
                rw [hWl] at hB7'
                refine (CRL w7 hB7').mono ?_
                rintro e w8 ⟨rfl, d8, rfl⟩
                have hlt9 := hB7.ring
                have hr9 : RecAt w7 g5 (o5 + q * 12) x := (hr.block (hb6.block g5 hg5)).block (hb7.block g5 (Nat.lt_of_lt_of_le hg5 hb6.size))
                have hc9 := hB7.ref.blk.cell 0
                simp only [List.getElem?_toArray, List.getElem?_cons_zero, List.getElem?_cons_succ] at hc9
                have HB7 := Lib.hid hB7
                have HBW := Lib.hid hbw7
                obtain ⟨a0, a1, a2, a3, a4, a5, a6, a7, a8, a9, a10, a11⟩ := rec0 hr7
                obtain ⟨c0, c1, c2, c3, c4, c5, c6, c7, c8, c9, c10, c11⟩ := hr9
                have hq9 : ∀ w', (binOp .neq 42 (.agg #[.int .u64 ((q : Int) + 1), .int .u64 x.tm, .int .i64 x.gi, .int .u64 x.gg, .int .i64 x.p, .int .i64 x.kd, .int .u64 x.a0, .int .u64 x.a1, .int .u64 x.a2, .int .u64 x.a3, .int .u64 x.a4, .int .i64 x.cd]) (.agg #[.int .u64 ((q : Int) + 1), .int .u64 x.tm, .int .i64 x.gi, .int .u64 x.gg, .int .i64 x.p, .int .i64 x.kd, .int .u64 x.a0, .int .u64 x.a1, .int .u64 x.a2, .int .u64 x.a3, .int .u64 x.a4, .int .i64 x.cd])).run Try.prog w' = .ok (.bool false) w' := fun w' => by
                  have := rec_neq x x w'
                  rw [decide_eq_true rfl] at this
                  simp only [Rec.arr, hx] at this
                  exact this
                have hwq : IntKind.u64.wrap ((q : Int) + 1 - 1) = q := by rw [IntKind.wrap_u64]; omega
                have hwl : IntKind.u64.wrap (l.length : Int) = l.length := by rw [IntKind.wrap_u64]; omega
                clear hB7 hr7 hr hlt9 hbw7 hBs hbs hBr hbr hb6 hb7 hB7'
                go_wp2_with fail
                go_quiet (fail)
                go_wp2
                go_roundw
                case rel => exact ⟨q + 1 + 1, by omega, by go_num, HBW.out.trans (below_drew w7 _ _), HB7.out.drewN _⟩
                case measure => simp [intOf]; omega
              · have CO := of_out b g n W.length L' (s : Int) _ hBs.ring (by omega) (by have := HY.out; omega)
                have hz : s ≤ y ∨ (y < s ∧ l.length < s) := by omega
                have hwy : IntKind.u64.wrap (y : Int) = y := by rw [IntKind.wrap_u64]; omega
                have hwl : IntKind.u64.wrap (l.length : Int) = l.length := by rw [IntKind.wrap_u64]; omega
                simp only [zrec, Rec.arr] at CO
                have hq9 : ∀ w', (binOp .neq 42 (.agg #[.int .u64 0, .int .u64 0, .int .i64 0, .int .u64 0, .int .i64 0, .int .i64 0, .int .u64 0, .int .u64 0, .int .u64 0, .int .u64 0, .int .u64 0, .int .i64 0]) (.agg #[.int .u64 0, .int .u64 0, .int .i64 0, .int .u64 0, .int .i64 0, .int .i64 0, .int .u64 0, .int .u64 0, .int .u64 0, .int .u64 0, .int .u64 0, .int .i64 0])).run Try.prog w' = .ok (.bool false) w' := fun w' => by
                  have := rec_neq zrec zrec w'
                  rw [decide_eq_true rfl] at this
                  exact this
                clear hle hth
                go_wp2_with (go_at_call 13; refine CO.mono ?_; rintro e w6 ⟨rfl, hb6⟩)
                obtain ⟨w7, hw7⟩ : ∃ w7 : World, w7 = w6.alloc (.cells #[.int .u64 0, .int .u64 0, .int .i64 0, .int .u64 0, .int .i64 0, .int .i64 0, .int .u64 0, .int .u64 0, .int .u64 0, .int .u64 0, .int .u64 0, .int .i64 0] 42) := ⟨_, rfl⟩
                have hb7 : Below w6.heap.size w6 w7 := by rw [hw7]; exact (Below.refl _ w6).alloc (Nat.le_refl _) _
                have hr7 : RecAt w7 w6.heap.size 0 zrec := by rw [hw7]; exact recAt_new w6 zrec
                rw [← hw7]
                clear hw7
                have hB7 := (hBs.below hb6).below hb7
                have hbw7 := hbs.trans ((hb6.mono hbs.size).trans (hb7.mono (Nat.le_trans hbs.size hb6.size)))
                have hB7' := hB7
                rw [hWl] at hB7'
                refine (CRL w7 hB7').mono ?_
                rintro e w8 ⟨rfl, d8, rfl⟩
                have HB7 := Lib.hid hB7
                have HBW := Lib.hid hbw7
                obtain ⟨a0, a1, a2, a3, a4, a5, a6, a7, a8, a9, a10, a11⟩ := rec0 hr7
                simp only [zrec] at a0 a1 a2 a3 a4 a5 a6 a7 a8 a9 a10 a11
                clear hB7 hr7 hbw7 hBs hbs hBr hbr hb6 hb7 hB7'
                have HYY := HY.out
                rcases hz with hz | ⟨hz1, hz2⟩
                · have hx1 : ¬ ((y : Int) < (s : Int)) := by omega
                  clear HYY
                  go_wp2_with fail
                  go_quiet (fail)
                  go_wp2
                  go_roundw
                  case rel => exact ⟨s + 1, by omega, by go_num, HBW.out.trans (below_drew w7 _ _), HB7.out.drewN _⟩
                  case measure => simp [intOf]; omega
                · have hx1 : ((y : Int) < (s : Int)) := by omega
                  have hx2 : decide (s ≤ l.length) = false := decide_eq_false (by omega)
                  clear HYY
                  go_wp2_with fail
                  go_quiet (fail)
                  go_wp2
                  go_roundw
                  case rel => exact ⟨s + 1, by omega, by go_num, HBW.out.trans (below_drew w7 _ _), HB7.out.drewN _⟩
                  case measure => simp [intOf]; omega
            · have hsl : s = l.length + 2 := by omega
              subst hsl
              have CL := fun w' (hh : Both w' b g c (c + 1) n L' (.slice A5 l.length cap5) W) => lost_is b g n W.length w' hh.ring.head hn1 hn2 (by omega)
              have CN := fun w' (hh : Both w' b g c (c + 1) n L' (.slice A5 l.length cap5) W) => len_is b g n W.length w' hh.ring.head hn1 hn2 (by omega)
              have CS := fun w' (hh : Both w' b g c (c + 1) n L' (.slice A5 l.length cap5) W) => seq_is b g n W.length w' hh.ring.head hn1 hn2
              rw [hWl] at CL CN CS
              obtain ⟨z, hz⟩ : ∃ z, z = min l.length n := ⟨_, rfl⟩
              simp only [← hz] at CL CN
              have hzl : z ≤ l.length := by omega
              have hyz : y = l.length - z := by have := HY.out; omega
              rw [← hyz] at CL
              have hsum : (y : Int) + z = l.length := by omega
              have HSUM := Lib.hid hsum
              have HHY := HY.out
              rw [hWl] at HHY
              clear hz hyz hsum
              have hsum := HSUM.out
              have hwy : IntKind.u64.wrap (y : Int) = y := by rw [IntKind.wrap_u64]; omega
              have hwl : IntKind.u64.wrap (l.length : Int) = l.length := by rw [IntKind.wrap_u64]; omega
              obtain ⟨sn, rfl⟩ := Int.eq_ofNat_of_zero_le hsq
              have hcase : (sn ≤ y) ∨ (y < sn ∧ l.length < sn) ∨ (y < sn ∧ sn ≤ l.length) := by omega
              have COF : ∃ v is, Calls Try.prog 13 #[.pointer (some ⟨b, 0, none⟩), .int .u64 sn] wr (fun e w' => e = .returned (.tuple #[.agg (Rec.arr v), .bool is]) ∧ Below wr.heap.size wr w') ∧ is = (decide (y < sn) && decide (sn ≤ l.length)) := by
                rcases hcase with h | ⟨h, h'⟩ | ⟨h, h'⟩
                · exact ⟨zrec, false, of_out b g n W.length L' (sn : Int) _ hBs.ring (by omega) (by omega), by simp; omega⟩
                · exact ⟨zrec, false, of_out b g n W.length L' (sn : Int) _ hBs.ring (by omega) (by omega), by simp; omega⟩
                · exact ⟨_, true, of_in b g n W.length sn L' _ hBs.ring (by omega) (by omega), by simp; omega⟩
              obtain ⟨v, is, CO, his⟩ := COF
              simp only [Rec.arr] at CO
              clear HHY
              go_wp2_with (go_at_call 13; refine CO.mono ?_; rintro e w6 ⟨rfl, hb6⟩)
              obtain ⟨w7, hw7⟩ : ∃ w7 : World, w7 = w6.alloc (.cells #[.int .u64 v.sq, .int .u64 v.tm, .int .i64 v.gi, .int .u64 v.gg, .int .i64 v.p, .int .i64 v.kd, .int .u64 v.a0, .int .u64 v.a1, .int .u64 v.a2, .int .u64 v.a3, .int .u64 v.a4, .int .i64 v.cd] 42) := ⟨_, rfl⟩
              have hb7 : Below w6.heap.size w6 w7 := by rw [hw7]; exact (Below.refl _ w6).alloc (Nat.le_refl _) _
              rw [← hw7]
              clear hw7
              have hB7 := (hBs.below hb6).below hb7
              have hbw7 := hbs.trans ((hb6.mono hbs.size).trans (hb7.mono (Nat.le_trans hbs.size hb6.size)))
              rw [hWl] at hB7
              refine (CRL w7 hB7).mono ?_
              rintro e w8 ⟨rfl, d8, rfl⟩
              have hB8 := hB7.drewN d8
              have hbw8 := hbw7.trans (below_drew w7 _ d8)
              generalize w7.drewN d8 = w8 at *
              have C1 := CL w8 hB8
              have C2 := CN w8 hB8
              have C3 := CS w8 hB8
              clear CL CN CS CRL CO hB7 hbw7 hBs hbs hBr hbr hb6 hb7 HSUM hwy hwl
              have HSQ := Lib.hid hsq2
              clear hsq2 hsq
              have hfin : ∀ e w', (e = Ending.returned (Value.bool true) ∧ Below w8.heap.size w8 w') → (e = Ending.returned (Value.bool true) ∧ Below w.heap.size w w') := fun e w' h => ⟨h.1, hbw8.trans (h.2.mono hbw8.size)⟩
              rcases hcase with h | ⟨h, h'⟩ | ⟨h, h'⟩
              · have e1 : decide (y < sn) = false := decide_eq_false (by omega)
                rw [e1, Bool.false_and] at his
                subst his
                go_wp2_with (first | (go_at_call 15; refine C1.mono ?_; rintro e w9 ⟨rfl, rfl⟩) | (go_at_call 16; refine C2.mono ?_; rintro e w9 ⟨rfl, rfl⟩) | (go_at_call 17; refine C3.mono ?_; rintro e w9 ⟨rfl, rfl⟩) | (go_at_call 9; refine (known_is _).mono ?_; rintro e w9 ⟨rfl, hb9⟩))
                go_ret
                exact hfin _ _ ⟨rfl, hb9⟩
              · have e1 : decide (y < sn) = true := decide_eq_true (by omega)
                have e2 : decide (sn ≤ l.length) = false := decide_eq_false (by omega)
                rw [e1, e2, Bool.and_false] at his
                subst his
                go_wp2_with (first | (go_at_call 15; refine C1.mono ?_; rintro e w9 ⟨rfl, rfl⟩) | (go_at_call 16; refine C2.mono ?_; rintro e w9 ⟨rfl, rfl⟩) | (go_at_call 17; refine C3.mono ?_; rintro e w9 ⟨rfl, rfl⟩) | (go_at_call 9; refine (known_is _).mono ?_; rintro e w9 ⟨rfl, hb9⟩))
                go_ret
                exact hfin _ _ ⟨rfl, hb9⟩
              · have e1 : decide (y < sn) = true := decide_eq_true (by omega)
                have e2 : decide (sn ≤ l.length) = true := decide_eq_true (by omega)
                rw [e1, e2, Bool.and_true] at his
                subst his
                go_wp2_with (first | (go_at_call 15; refine C1.mono ?_; rintro e w9 ⟨rfl, rfl⟩) | (go_at_call 16; refine C2.mono ?_; rintro e w9 ⟨rfl, rfl⟩) | (go_at_call 17; refine C3.mono ?_; rintro e w9 ⟨rfl, rfl⟩) | (go_at_call 9; refine (known_is _).mono ?_; rintro e w9 ⟨rfl, hb9⟩))
                go_ret
                exact hfin _ _ ⟨rfl, hb9⟩
end Go.Proofs.Ythmjhepjlgcgfaa
