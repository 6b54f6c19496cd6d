/- The walk of the law RightsNames: it returns true. Conditions: the table of names holds what the program lays; the text fits in memory. -/
import Derived.Test.YtcgmcmnjgimflaaDoorNamesRef
namespace Go.Proofs.YtcgmcmnjgimflaaDoor
open Go.RowKit
set_option linter.unusedVariables false

theorem rowV_form (k : Nat) : ∃ a b c d e : Int, rowV k = .agg #[.string (nm k), .int .i64 a, .int .i64 b, .int .i64 c, .int .i64 d, .int .i64 e] := by
  unfold rowV rowT
  split <;> exact ⟨_, _, _, _, _, rfl⟩
theorem ofN_spec (s : ByteArray) (h : 0 < ofN s) : nm (ofN s) = s := by
  by_cases hh : ∃ j, 0 < j ∧ j < 23 ∧ nm j = s
  · obtain ⟨j, h0, hj, rfl⟩ := hh
    rw [ofN_hit j h0 hj]
  · rw [ofN_none s (fun j h0 hj e => hh ⟨j, h0, hj, e⟩)] at h
    omega
def wantN (s : ByteArray) (k : Nat) : Nat := if ofN s < k then ofN s else 0
theorem wantN_hit (s : ByteArray) (k : Nat) (h0 : 0 < k) (hk : k < 23) (h : nm k = s) : wantN s (k + 1) = k := by
  subst h
  unfold wantN
  rw [ofN_hit k h0 hk, if_pos (by omega)]
theorem wantN_miss (s : ByteArray) (k : Nat) (h : nm k ≠ s) : wantN s (k + 1) = wantN s k := by
  unfold wantN
  by_cases h0 : 0 < ofN s
  · have hne : ofN s ≠ k := fun e => h (by rw [← e]; exact ofN_spec s h0)
    by_cases hl : ofN s < k
    · rw [if_pos hl, if_pos (by omega)]
    · rw [if_neg hl, if_neg (by omega)]
  · have : ofN s = 0 := by omega
    rw [this]
    split <;> split <;> rfl

set_option maxRecDepth 100000 in
set_option maxHeartbeats 1000000 in
theorem rightsNames_walk (s : ByteArray) (hs : s.size ≤ maxLen) (w : World) (hN : NamesIn w) : Calls Tryd.prog 3 #[.string s] w fun e w' => e = .returned (.bool true) ∧ Below w.heap.size w w' := by
  unfold maxLen at hs
  by_cases hle : 1000 < s.size
  · go_enter Tryd.func3, Tryd.ntmps3
    go_wp2_with fail
    refine (known_any _).mono ?_
    rintro e w5 ⟨rfl, hb5⟩
    go_wp2_with fail
    go_ret
    exact ⟨rfl, hb5⟩
  · have hsm : s.size ≤ 1000 := by omega
    clear hle hs
    have HN := Lib.hid hN
    clear hN
    go_enter Tryd.func3, Tryd.ntmps3
    go_wp2_with fail
    refine (of_any s _ HN.out).mono ?_
    rintro e w1 ⟨rfl, rfl⟩
    go_wp2_with fail
    go_loopw [5, 6] (fun v i wr => ∃ k : Nat, 1 ≤ k ∧ k ≤ 23 ∧ i = .int .i64 k ∧ v = .int .i64 (wantN s k : Nat) ∧ Below w.heap.size w wr) (fun _ i _ => 23 - (intOf i).toNat)
    case atStart => exact ⟨1, by omega, by omega, rfl, by simp [wantN]; split <;> omega, Below.refl _ _⟩
    case round =>
      obtain ⟨k, hk1, hk, rfl, rfl, hb⟩ := hrel
      by_cases hlt : k < 23
      · obtain ⟨a1, a2, a3, a4, a5, hrow⟩ := rowV_form k
        have HR := Lib.hid hrow
        clear hrow
        have hof : Hid (ofN (nm k) = k) := ofN_hit k hk1 hlt
        have hd : decide (0 < k) = true := by simp; omega
        generalize hwk : wantN s k = wk
        have HW := Lib.hid hwk
        clear hwk
        by_cases he : nm k = s
        · have hc : ((nm k).toList == s.toList) = true := by rw [str_cmp]; simp [he]
          have hw : Hid (wantN s (k + 1) = k) := wantN_hit s k hk1 hlt he
          clear he
          go_wp2_with fail
          refine (refOf_yes k _ hk1 hlt).mono ?_
          rintro e w1 ⟨rfl, hb1⟩
          have B1 := hb.trans (hb1.mono hb.size)
          have hN1 := Lib.hid (HN.out.below B1)
          rw [HR.out]
          clear hb hb1
          go_wp2_with fail
          refine (name_yes k _ (hN1.out.below ((Below.refl _ _).alloc (Nat.le_refl _) _)) hk1 hlt).mono ?_
          rintro e w2 ⟨rfl, rfl⟩
          go_wp2_with fail
          refine (of_any (nm k) _ (hN1.out.below ((Below.refl _ _).alloc (Nat.le_refl _) _))).mono ?_
          rintro e w2 ⟨rfl, rfl⟩
          rw [hof.out, hd]
          go_wp2_with fail
          go_roundw
          case rel => exact ⟨k + 1, by omega, by omega, by go_num, by rw [hw.out], B1.alloc B1.size _⟩
          case measure => simp [intOf]; omega
        · have hc : ((nm k).toList == s.toList) = false := by rw [str_cmp]; simp [he]
          have hw : Hid (wantN s (k + 1) = wk) := by show _ = _; rw [wantN_miss s k he]; exact HW.out
          clear he
          go_wp2_with fail
          refine (refOf_yes k _ hk1 hlt).mono ?_
          rintro e w1 ⟨rfl, hb1⟩
          have B1 := hb.trans (hb1.mono hb.size)
          have hN1 := Lib.hid (HN.out.below B1)
          rw [HR.out]
          clear hb hb1
          go_wp2_with fail
          refine (name_yes k _ (hN1.out.below ((Below.refl _ _).alloc (Nat.le_refl _) _)) hk1 hlt).mono ?_
          rintro e w2 ⟨rfl, rfl⟩
          go_wp2_with fail
          refine (of_any (nm k) _ (hN1.out.below ((Below.refl _ _).alloc (Nat.le_refl _) _))).mono ?_
          rintro e w2 ⟨rfl, rfl⟩
          rw [hof.out, hd]
          go_wp2_with fail
          go_roundw
          case rel => exact ⟨k + 1, by omega, by omega, by go_num, by rw [hw.out], B1.alloc B1.size _⟩
          case measure => simp [intOf]; omega
      · have h8 : k = 23 := by omega
        subst h8
        have hw : wantN s 23 = ofN s := by unfold wantN; rw [if_pos (ofN_lt s)]
        rw [hw]
        generalize ofN s = r
        rcases Nat.eq_zero_or_pos r with rfl | hpos
        all_goals
          go_wp2_with fail
          refine (known_any _).mono ?_
          rintro e w5 ⟨rfl, hb5⟩
          go_wp2_with fail
          go_ret
          exact ⟨rfl, hb.trans (hb5.mono hb.size)⟩
end Go.Proofs.YtcgmcmnjgimflaaDoor
