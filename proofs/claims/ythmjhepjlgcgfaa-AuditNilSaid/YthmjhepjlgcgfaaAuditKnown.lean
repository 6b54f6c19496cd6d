/- much and known of the law's package, by walks. -/
import Derived.Test.YthmjhepjlgcgfaaAuditLawPut
namespace Go.Proofs.Ythmjhepjlgcgfaa
open Go.RowKit
set_option linter.unusedVariables false
set_option linter.unusedSimpArgs false

theorem ring_lt {w : World} {b g n m : Nat} {L : Nat → Rec} (h : Ring w b g n L m) : b < w.heap.size ∧ g < w.heap.size :=
  ⟨World.block_lt_of_cell? w ⟨b, 1, none⟩ h.head.q, World.block_lt_of_cell? w ⟨g, 0 * 12, none⟩ (h.at' 0 h.lo).1⟩

set_option maxHeartbeats 400000 in
theorem much_is (size : Int) (A : Option Addr) (n cap : Nat) (most : Int) (w : World) (hn : n < 2 ^ 63) : Calls Try.prog 8 #[.int .i64 size, .slice A n cap, .int .i64 most] w fun e w' => e = .returned (.bool ((decide (60 < size) && decide (size ≤ 256)) || decide (most < (n : Int)))) ∧ w = w' := by
  by_cases h1 : 60 < size <;> by_cases h2 : size ≤ 256 <;> by_cases h3 : most < (n : Int)
  all_goals
    first | rw [decide_eq_true h1] | rw [decide_eq_false h1]
    first | rw [decide_eq_true h2] | rw [decide_eq_false h2]
    first | rw [decide_eq_true h3] | rw [decide_eq_false h3]
    go_enter Try.func8, Try.ntmps8
    go_wp2
    go_ret
    exact ⟨rfl, rfl⟩

def kr (s t : Int) : Rec := ⟨s, t, 0, 0, 0, 0, 0, 0, 0, 0, 0, 0⟩

set_option maxRecDepth 100000 in
set_option maxHeartbeats 2000000 in
theorem known_is (w : World) : Calls Try.prog 9 #[] w fun e w' => e = .returned (.bool true) ∧ Below w.heap.size w w' := by
  go_enter Try.func9, Try.ntmps9
  go_wp2_with fail
  refine (new_row 2 w (by decide) (by decide)).mono ?_
  rintro e w1 ⟨b, g, L, rfl, hR1, hb, hg, hB1⟩
  go_wp2_with fail
  refine (put_row b g 2 L 0 (kr 0 5) w1 hR1 (ring_lt hR1) (by decide)).mono ?_
  rintro e w2 ⟨rfl, hR2, hA2⟩
  have hB2 := hB1.trans (hA2.below hB1.size (fun k hk => by rcases hk with rfl | rfl; exact hb; exact hg))
  clear hR1 hA2 hB1
  go_wp2_with fail
  refine (put_row b g 2 _ 1 (kr 0 6) w2 hR2 (ring_lt hR2) (by decide)).mono ?_
  rintro e w3 ⟨rfl, hR3, hA3⟩
  have hB3 := hB2.trans (hA3.below hB2.size (fun k hk => by rcases hk with rfl | rfl; exact hb; exact hg))
  clear hR2 hA3 hB2
  go_wp2_with fail
  refine (put_row b g 2 _ 2 (kr 0 7) w3 hR3 (ring_lt hR3) (by decide)).mono ?_
  rintro e w4 ⟨rfl, hR4, hA4⟩
  have hB4 := hB3.trans (hA4.below hB3.size (fun k hk => by rcases hk with rfl | rfl; exact hb; exact hg))
  clear hR3 hA4 hB3
  go_wp2_with fail
  refine (all_row b g 2 _ 3 w4 hR4 (ring_lt hR4)).mono ?_
  rintro e w5 ⟨v, rfl, ho, hB5⟩
  have hB5' := hB4.trans (hB5.mono hB4.size)
  have hR5 := hR4.below hB5 (ring_lt hR4).1 (ring_lt hR4).2
  have CL := lost_is b g 2 3 w5 hR5.head (by decide) (by decide) (by decide)
  have hlive : live (updR (updR (updR L ((0 + 1) % 2) { kr 0 5 with sq := ((0 + 1 : Nat) : Int) }) ((1 + 1) % 2) { kr 0 6 with sq := ((1 + 1 : Nat) : Int) }) ((2 + 1) % 2) { kr 0 7 with sq := ((2 + 1 : Nat) : Int) }) 2 3 = [kr 2 6, kr 3 7] := by
    simp [live, updR, kr, List.range_succ]
  rw [hlive] at ho
  obtain ⟨A, cap, rfl, hcap⟩ := own_slice ho
  have hrow := rowAt_own (L := [kr 2 6, kr 3 7]) ho
  obtain ⟨g1, o1, rfl, _, hr⟩ := hrow (by simp)
  have q0 := hr 0 (by simp)
  have q1 := hr 1 (by simp)
  obtain ⟨a0, a1, _⟩ := q0
  obtain ⟨c0, c1, _⟩ := q1
  simp only [kr, List.getElem_cons_zero, List.getElem_cons_succ, Nat.zero_mul, Nat.add_zero, Nat.one_mul] at a0 a1 c0 c1
  clear hr hrow ho hlive hR4 hB4 hR5
  go_wp2_with (go_at_call 15; refine CL.mono ?_; rintro e w6 ⟨rfl, rfl⟩)
  go_ret
  exact ⟨rfl, hB5'⟩
end Go.Proofs.Ythmjhepjlgcgfaa
