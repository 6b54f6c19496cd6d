/- The walks of the laws RightsTexts and RightsReads: each returns true. Conditions: the text fits in memory. -/
import Derived.Test.YtcgmcmnjgimflaaRightsLaws
namespace Go.Proofs.Ytcgmcmnjgimflaa
open Go.RowKit
set_option linter.unusedVariables false

theorem textL_len (r : Nat) : (textL r).length = 8 := by simp [textL]
theorem str_size (r : Nat) : (str (textL r)).size = 8 := by
  show (textL r).toArray.size = 8
  simp [textL_len]
theorem rd_text (k : Nat) (hk : k < 256) : rdN (str (textL k)) = k ∧ rdB (str (textL k)) = true :=
  read_hit k _ hk (by simp)

set_option maxRecDepth 100000 in
set_option maxHeartbeats 400000 in
theorem rightsTexts_walk (w : World) : Calls Try.prog 5 #[] w fun e w' => e = .returned (.bool true) ∧ Below w.heap.size w w' := by
  go_enter Try.func5, Try.ntmps5
  go_wp2
  go_loopw [1] (fun i wr => ∃ k : Nat, k ≤ 256 ∧ i = .int .i64 k ∧ Below w.heap.size w wr) (fun i _ => 256 - (intOf i).toNat)
  case atStart => exact ⟨0, by omega, rfl, Below.refl _ _⟩
  case round =>
    obtain ⟨k, hk, rfl, hb⟩ := hrel
    by_cases hlt : k < 256
    · obtain ⟨e1, e2⟩ := rd_text k hlt
      have hsz : (str (textL k)).size ≤ 1000 := by rw [str_size]; decide
      have HE : Hid (rdN (str (textL k)) = k) := e1
      clear e1
      go_wp2_with fail
      refine (text_any _ _ (by omega) (by omega)).mono ?_
      rintro e w1 ⟨rfl, hb1⟩
      rw [Int.toNat_natCast]
      have B1 := hb.trans (hb1.mono hb.size)
      clear hb hb1
      go_wp2_with fail
      refine (ofText_any _ _ hsz).mono ?_
      rintro e w2 ⟨rfl, hb2⟩
      have B2 := B1.trans (hb2.mono B1.size)
      clear B1 hb2
      rw [HE.out, e2]
      go_wp2_with fail
      refine (refText_any _ _ (by omega) (by omega)).mono ?_
      rintro e w3 ⟨rfl, hb3⟩
      rw [Int.toNat_natCast]
      have B3 := B2.trans (hb3.mono B2.size)
      clear B2 hb3
      go_wp2_with fail
      go_roundw
      case rel => exact ⟨k + 1, by omega, by go_num, B3⟩
      case measure => simp [intOf]; omega
    · have h8 : k = 256 := by omega
      subst h8
      go_wp2_with fail
      refine (known_any _).mono ?_
      rintro e w5 ⟨rfl, hb5⟩
      go_wp2_with fail
      go_ret
      exact ⟨rfl, hb.trans (hb5.mono hb.size)⟩

set_option maxRecDepth 100000 in
set_option maxHeartbeats 400000 in
theorem rightsReads_walk (s : ByteArray) (hs : s.size ≤ maxLen) (w : World) : Calls Try.prog 6 #[.string s] w fun e w' => e = .returned (.bool true) ∧ Below w.heap.size w w' := by
  unfold maxLen at hs
  by_cases h : s.size ≤ 100
  · go_enter Try.func6, Try.ntmps6
    go_wp2_with fail
    refine (ofText_any _ _ (by omega)).mono ?_
    rintro e w1 ⟨rfl, hb1⟩
    go_wp2_with fail
    refine (refOfText_any _ _ (by omega)).mono ?_
    rintro e w2 ⟨rfl, hb2⟩
    have B2 := hb1.trans (hb2.mono hb1.size)
    clear hb1 hb2
    go_wp2_with fail
    refine (known_any _).mono ?_
    rintro e w5 ⟨rfl, hb5⟩
    go_wp2_with fail
    go_ret
    exact ⟨rfl, B2.trans (hb5.mono B2.size)⟩
  · have h' : 100 < s.size := by omega
    go_enter Try.func6, Try.ntmps6
    go_wp2_with fail
    refine (known_any _).mono ?_
    rintro e w5 ⟨rfl, hb5⟩
    go_wp2_with fail
    go_ret
    exact ⟨rfl, hb5⟩
end Go.Proofs.Ytcgmcmnjgimflaa
