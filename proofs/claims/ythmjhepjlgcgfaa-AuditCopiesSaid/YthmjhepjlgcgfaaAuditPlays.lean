/- AuditPlays, by a walk: true at each size and each row of records. -/
import Derived.Test.YthmjhepjlgcgfaaAuditKnown
namespace Go.Proofs.Ythmjhepjlgcgfaa
open Go.RowKit
set_option linter.unusedVariables false
set_option linter.unusedSimpArgs false

set_option maxHeartbeats 1000000 in
theorem new_bad (n : Int) (w : World) (h1 : n < 1 ∨ 256 < n) : Calls Try.prog 10 #[.int .i64 n] w fun e w' => e = .returned (.tuple #[.pointer none, .int .i64 2]) ∧ w = w' := by
  by_cases h : n < 1
  · go_enter Try.func10, Try.ntmps10
    go_wp2
    go_ret2
    exact ⟨rfl, rfl⟩
  · have h2 : 256 < n := by omega
    go_enter Try.func10, Try.ntmps10
    go_wp2
    go_ret2
    exact ⟨rfl, rfl⟩

theorem both_new {w1 : World} {b g n : Nat} {L : Nat → Rec} (hR : Ring w1 b g n L 0) : Both (w1.alloc (.cells #[.slice none 0 0, .int .i64 n] 31)) b g w1.heap.size (w1.heap.size + 1) n L (.slice none 0 0) [] := by
  have hb := (Below.refl w1.heap.size w1).alloc (Nat.le_refl _) (.cells #[.slice none 0 0, .int .i64 n] 31)
  have hl := ring_lt hR
  exact ⟨hR.below hb hl.1 hl.2, ⟨Blk.new _ _ _, World.ownsRow_nil _ _ _ _, by omega⟩, by simp [live], by omega, by omega, by simp, by simp⟩

set_option maxRecDepth 100000 in
set_option maxHeartbeats 2000000 in
theorem plays_walk (size : Int) (A : Option Addr) (cap : Nat) (l : List Rec) (w : World) (hl : l.length < 2 ^ 63) (hA : RowAt w w.heap.size A l) :
    Calls Try.prog 3 #[.int .i64 size, .slice A l.length cap] w fun e w' => e = .returned (.bool true) ∧ Below w.heap.size w w' := by
  have CM := much_is size A l.length cap 150 w hl
  by_cases hm : ((decide (60 < size) && decide (size ≤ 256)) || decide (150 < (l.length : Int))) = true
  · rw [hm] at CM
    clear hm
    go_enter Try.func3, Try.ntmps3
    go_wp2_with fail
    refine CM.mono ?_
    rintro e w' ⟨rfl, rfl⟩
    go_wp2_with fail
    refine (known_is w).mono ?_
    rintro e w' ⟨rfl, hb⟩
    go_wp2
    go_ret
    exact ⟨rfl, hb⟩
  · have hmf := Bool.eq_false_iff.2 hm
    rw [hmf] at CM
    have hlen : l.length ≤ 150 := by
      simp only [Bool.or_eq_true, Bool.and_eq_true, decide_eq_true_eq, not_or] at hm
      omega
    clear hm hmf
    by_cases hs : size < 1 ∨ 256 < size
    · have CN := new_bad size w hs
      have hs' : (decide (size < 1) || decide (256 < size)) = true := by
        simp only [Bool.or_eq_true, decide_eq_true_eq]; exact hs
      clear hA
      rcases (show size < 1 ∨ (¬ size < 1 ∧ 256 < size) from by omega) with h1 | ⟨h1, h2⟩
      all_goals
        clear hs hs'
        go_enter Try.func3, Try.ntmps3
        go_wp2_with fail
        refine CM.mono ?_
        rintro e w' ⟨rfl, rfl⟩
        go_wp2_with fail
        refine CN.mono ?_
        rintro e w' ⟨rfl, rfl⟩
        go_wp2_with (go_at_call 9; refine (known_is _).mono ?_; rintro e w' ⟨rfl, hb⟩)
        go_ret
        exact ⟨rfl, hb⟩
    · obtain ⟨n, rfl⟩ := Int.eq_ofNat_of_zero_le (show 0 ≤ size by omega)
      have hn1 : 1 ≤ n := by omega
      have hn2 : n ≤ 256 := by omega
      clear hs
      have CN := new_row n w hn1 hn2
      have h1 : ¬ (n : Int) < 1 := by omega
      have h2 : ¬ 256 < (n : Int) := by omega
      go_enter Try.func3, Try.ntmps3
      go_wp2_with fail
      refine CM.mono ?_
      rintro e w' ⟨rfl, rfl⟩
      go_wp2_with fail
      refine CN.mono ?_
      rintro e w1 ⟨b, g, L, rfl, hR1, hb, hg, hB1⟩
      go_wp2_with fail
      have hBo := both_new hR1
      have hb2 : Below w.heap.size w (w1.alloc (.cells #[.slice none 0 0, .int .i64 n] 31)) := hB1.alloc hB1.size _
      generalize w1.alloc (.cells #[.slice none 0 0, .int .i64 n] 31) = w2 at *
      refine (same_row _ _ _ _ _ _ _ _ w2 hBo).mono ?_
      rintro e w3 ⟨rfl, hb3⟩
      have hBo3 := hBo.below hb3
      have hbw3 := hb2.trans (hb3.mono hb2.size)
      have hbc : b ≠ w1.heap.size ∧ g ≠ w1.heap.size := ⟨by have := (ring_lt hR1).1; omega, by have := (ring_lt hR1).2; omega⟩
      have hcw : w.heap.size ≤ w1.heap.size := hB1.size
      generalize w1.heap.size = c at *
      clear hBo hb3 hb2 hR1 hB1 CM CN
      go_wp2
      go_loopw [8] (fun i wr => ∃ j : Nat, j ≤ l.length ∧ i = .int .i64 j ∧ Below w.heap.size w wr ∧ ∃ L' v' W, Both wr b g c (c + 1) n L' v' W ∧ W.length = j) (fun i _ => l.length - (intOf i).toNat)
      case atStart => exact ⟨0, Nat.zero_le _, rfl, hbw3, L, _, [], hBo3, rfl⟩
      case round =>
        obtain ⟨j, hj, rfl, hbr, L', v', W, hBr, hWj⟩ := hrel
        by_cases hlt : j < l.length
        · obtain ⟨g0, o0, rfl, hg0, hrec⟩ := hA (fun e => by rw [e] at hlt; simp at hlt)
          have hrj := (hrec j hlt).block (hbr.block g0 hg0)
          generalize l[j]'hlt = r at hrj
          obtain ⟨r0, r1, r2, r3, r4, r5, r6, r7, r8, r9, r10, r11⟩ := hrj
          have hj1 : (j : Int) < l.length := by omega
          have hj0 : (0 : Int) ≤ (j : Int) := by omega
          have HREC := Lib.hid hrec
          clear hrec hA hbw3 hBo3
          go_wp2_with fail
          refine (put_both b g c (c + 1) n L' v' W r wr hBr (by omega) hbc).mono ?_
          rintro e w4 ⟨rfl, ⟨L4, v4, hB4⟩, hA4⟩
          have hbw4 := hbr.trans (hA4.below hbr.size (fun k hk => by rcases hk with rfl | rfl | rfl; exact hb; exact hg; exact hcw))
          go_wp2_with (go_at_call 11; refine (same_row _ _ _ _ _ _ _ _ w4 hB4).mono ?_; rintro e w5 ⟨rfl, hb5⟩)
          go_roundw
          case rel => exact ⟨j + 1, by omega, by go_num, hbw4.trans (hb5.mono hbw4.size), L4, v4, _, hB4.below hb5, by simp; omega⟩
          case measure => simp [intOf]; omega
        · have hjl : j = l.length := by omega
          clear hA hbw3 hBo3
          subst hjl
          go_wp2_with (go_at_call 9; refine (known_is _).mono ?_; rintro e w' ⟨rfl, hb6⟩)
          go_ret
          exact ⟨rfl, hbr.trans (hb6.mono hbr.size)⟩
end Go.Proofs.Ythmjhepjlgcgfaa
