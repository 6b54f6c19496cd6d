/- The reference's small functions, by walk: is, Decode, Number, Jump. -/
import Derived.Test.YtnbkpminecoddaaDoorCodeKnown
namespace Go.Proofs.YtnbkpminecoddaaDoor
open Go.RowKit
set_option linter.unusedVariables false
set_option linter.unusedSimpArgs false

def isB (k a b c : Int) : Bool :=
  if k = 0 ∨ k = 5 ∨ (17 ≤ k ∧ k ≤ 38) then true
  else if k = 1 ∨ k = 6 ∨ k = 7 then decide (a < 8)
  else decide (2 ≤ k ∧ k ≤ 4 ∧ a < 8 ∧ b < 8 ∧ c < 8)
theorem isB_eq (k a b c : Int) (hk : 0 ≤ k) : isB k a b c = (okOf k && !badArgs (argsOf k) a b c) := by
  have B0 : badArgs ⟨#[]⟩ a b c = false := rfl
  have B1 : badArgs ⟨#[97, 110]⟩ a b c = decide (8 ≤ a) := by unfold badArgs; simp [valR]
  have B2 : badArgs ⟨#[97, 98, 99]⟩ a b c = (decide (8 ≤ a) || (decide (8 ≤ b) || decide (8 ≤ c))) := by unfold badArgs; simp [valR]
  have B5 : badArgs ⟨#[100]⟩ a b c = false := by unfold badArgs; simp [valR]
  have B6 : badArgs ⟨#[97, 100]⟩ a b c = decide (8 ≤ a) := by unfold badArgs; simp [valR]
  have B7 : badArgs ⟨#[97]⟩ a b c = decide (8 ≤ a) := by unfold badArgs; simp [valR]
  have BC : badArgs ⟨#[107]⟩ a b c = false := by unfold badArgs; simp [valR]
  have ha : decide (a < 8) = !decide (8 ≤ a) := by rw [Bool.eq_iff_iff]; simp
  by_cases h8 : k < 8
  · have hk' : k = 0 ∨ k = 1 ∨ k = 2 ∨ k = 3 ∨ k = 4 ∨ k = 5 ∨ k = 6 ∨ k = 7 := by omega
    rcases hk' with rfl | rfl | rfl | rfl | rfl | rfl | rfl | rfl
    · rfl
    · simp [isB, okOf, argsOf, B1, ha]
    · rw [Bool.eq_iff_iff]; simp [isB, okOf, argsOf, B2]
    · rw [Bool.eq_iff_iff]; simp [isB, okOf, argsOf, B2]
    · rw [Bool.eq_iff_iff]; simp [isB, okOf, argsOf, B2]
    · simp [isB, okOf, argsOf, B5]
    · simp [isB, okOf, argsOf, B6, ha]
    · simp [isB, okOf, argsOf, B7, ha]
  · by_cases hc : 16 < k ∧ k ≤ 38
    · have e1 : argsOf k = ⟨#[107]⟩ := by
        unfold argsOf
        rw [if_neg (by omega), if_neg (by omega), if_neg (by omega), if_neg (by omega), if_neg (by omega), if_pos hc]
      have e2 : okOf k = true := by simp [okOf, hc.1, hc.2]
      rw [e1, e2, BC]
      unfold isB
      rw [if_pos (by omega)]
      rfl
    · have e2 : okOf k = false := by simp [okOf]; omega
      rw [e2]
      unfold isB
      rw [if_neg (by omega), if_neg (by omega)]
      simp
      omega

set_option maxRecDepth 100000 in
set_option maxHeartbeats 1000000 in
theorem refIs_is (k a b c : Int) (hk : 0 ≤ k ∧ k < 256) (w : World) : Calls Tryd.prog 23 #[insV k a b c] w fun e w' => e = .returned (.bool (isB k a b c)) ∧ Below w.heap.size w w' := by
  have hb := (Below.refl w.heap.size w).alloc (Nat.le_refl _) (.cells #[.int .u8 k, .int .u8 a, .int .u8 b, .int .u8 c] 26)
  unfold insV
  by_cases h1 : k = 0 ∨ k = 5 ∨ (17 ≤ k ∧ k ≤ 38)
  · have e : isB k a b c = true := by unfold isB; rw [if_pos h1]
    rw [e]
    clear e
    rcases h1 with rfl | rfl | h1
    all_goals
      go_enter Tryd.func23, Tryd.ntmps23
      go_wp2
      go_ret
      exact ⟨rfl, hb⟩
  · by_cases h2 : k = 1 ∨ k = 6 ∨ k = 7
    · have e : isB k a b c = decide (a < 8) := by unfold isB; rw [if_neg h1, if_pos h2]
      rw [e]
      clear e h1
      rcases h2 with rfl | rfl | rfl
      all_goals
        go_enter Tryd.func23, Tryd.ntmps23
        go_wp2
        go_ret
        exact ⟨rfl, hb⟩
    · have e : isB k a b c = decide (2 ≤ k ∧ k ≤ 4 ∧ a < 8 ∧ b < 8 ∧ c < 8) := by unfold isB; rw [if_neg h1, if_neg h2]
      by_cases h3 : 2 ≤ k ∧ k ≤ 4 ∧ a < 8 ∧ b < 8 ∧ c < 8
      · rw [e, decide_eq_true h3]
        clear e h1 h2
        obtain ⟨h31, h32, h33, h34, h35⟩ := h3
        have hk' : k = 2 ∨ k = 3 ∨ k = 4 := by omega
        clear h31 h32
        rcases hk' with rfl | rfl | rfl
        all_goals
          go_enter Tryd.func23, Tryd.ntmps23
          go_wp2
          go_ret
          exact ⟨rfl, hb⟩
      · rw [e, decide_eq_false h3]
        clear e
        by_cases h4 : k = 2 ∨ k = 3 ∨ k = 4
        · clear h1 h2
          have h3' : 8 ≤ a ∨ 8 ≤ b ∨ (8 ≤ c ∧ decide (c < 8) = false) := by
            by_cases hq : 8 ≤ c
            · exact .inr (.inr ⟨hq, by simpa using hq⟩)
            · omega
          clear h3
          rcases h4 with rfl | rfl | rfl
          all_goals
            rcases h3' with h3' | h3' | ⟨h3', hq⟩
            all_goals
              go_enter Tryd.func23, Tryd.ntmps23
              go_wp2
              all_goals
                go_ret
                exact ⟨rfl, hb⟩
        · have g0 : (k == 0) = false := by simp; omega
          have g1 : (k == 1) = false := by simp; omega
          have g5 : (k == 5) = false := by simp; omega
          have g6 : (k == 6) = false := by simp; omega
          have g7 : (k == 7) = false := by simp; omega
          have g9 : k < 17 ∨ 38 < k := by omega
          have g2 : k < 2 ∨ 4 < k := by omega
          have g3 : ¬ k < 2 := by
            intro hh
            have : k = 0 ∨ k = 1 := by omega
            rcases this with rfl | rfl
            · exact h1 (.inl rfl)
            · exact h2 (.inl rfl)
          clear h1 h2 h3
          rcases g9 with g9 | g9
          · have g10 : ¬ 17 ≤ k := by omega
            have g12 : decide (k ≤ 4) = false := by simp; omega
            clear h4 g2 g3
            go_enter Tryd.func23, Tryd.ntmps23
            go_wp2
            all_goals
              go_ret
              exact ⟨rfl, hb⟩
          · have g10 : 17 ≤ k := by omega
            have g11 : decide (k ≤ 38) = false := by simp; omega
            have g12 : decide (k ≤ 4) = false := by simp; omega
            clear h4 g2 g3
            go_enter Tryd.func23, Tryd.ntmps23
            go_wp2
            all_goals
              go_ret
              exact ⟨rfl, hb⟩
end Go.Proofs.YtnbkpminecoddaaDoor
