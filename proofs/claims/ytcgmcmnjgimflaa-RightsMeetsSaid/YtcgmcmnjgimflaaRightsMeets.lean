/- The walk of the law RightsMeets: it returns true. Conditions: rights are from 0 to 255. -/
import Derived.Test.YtcgmcmnjgimflaaRightsLaws
namespace Go.Proofs.Ytcgmcmnjgimflaa
open Go.RowKit
set_option linter.unusedVariables false

set_option maxRecDepth 100000 in
set_option maxHeartbeats 400000 in
theorem rightsMeets_walk (k oi og r ar nk nr a : Int) (w : World) (h1 : 0 ≤ r) (h2 : r ≤ 255) (h3 : 0 ≤ nr) (h4 : nr ≤ 255) :
    Calls Try.prog 4 #[.agg #[.int .i64 k, .int .i64 oi, .int .u64 og, .int .u8 r], .agg #[.int .i64 ar, .int .i64 nk, .int .u8 nr], .int .i64 a] w fun e w' => e = .returned (.bool true) ∧ Below w.heap.size w w' := by
  cases h : among (bits BinOp.and IntKind.i64 a 255 % 256).toNat r.toNat
  · go_enter Try.func4, Try.ntmps4
    go_wp2_with fail
    refine (meets_any _ _ _ _ _ _ _ _ h1 h2 h3 h4).mono ?_
    rintro e w1 ⟨rfl, hb1⟩
    obtain ⟨hc1, hf1⟩ := bcell hb1
    have B1 := (((Below.refl _ w).alloc (Nat.le_refl _) _).alloc (by simp) _).trans (hb1.mono (by simp; omega))
    have z1 := hb1.size
    simp only [World.size_alloc] at hc1 hf1 z1
    clear hb1
    go_wp2_with fail
    refine (refMeets_any _ _ _ _ _ _ _ _ h1 h2 h3 h4).mono ?_
    rintro e w2 ⟨rfl, hb2⟩
    have B2 := B1.trans (hb2.mono (by omega))
    have hc2 : ∀ b o, b < w.heap.size + 1 + 1 → w2.cell? ⟨b, o, none⟩ = w1.cell? ⟨b, o, none⟩ := fun b o h => hb2.cell (p := ⟨b, o, none⟩) (by show b < w1.heap.size; omega)
    have z2 := hb2.size
    clear hb2 B1
    have y2 : w.heap.size + 1 < w2.heap.size := by omega
    have y1 : w.heap.size < w2.heap.size := by omega
    go_wp2_with fail
    refine (narrow_no _ _ _ (by omega) (by omega) (by omega) (by omega) h).mono ?_
    rintro e w3 ⟨rfl, rfl⟩
    go_wp2_with fail
    refine (known_any _).mono ?_
    rintro e w3 ⟨rfl, hb3⟩
    go_wp2_with fail
    go_ret
    exact ⟨rfl, B2.trans (hb3.mono (by omega))⟩
  · have hr := @meets_narrower k r (bits BinOp.and IntKind.i64 a 255 % 256) nk nr
    replace hr := Lib.hid (fun x => hr x h)
    go_enter Try.func4, Try.ntmps4
    go_wp2_with fail
    refine (meets_any _ _ _ _ _ _ _ _ h1 h2 h3 h4).mono ?_
    rintro e w1 ⟨rfl, hb1⟩
    obtain ⟨hc1, hf1⟩ := bcell hb1
    have B1 := (((Below.refl _ w).alloc (Nat.le_refl _) _).alloc (by simp) _).trans (hb1.mono (by simp; omega))
    have z1 := hb1.size
    simp only [World.size_alloc] at hc1 hf1 z1
    clear hb1
    go_wp2_with fail
    refine (refMeets_any _ _ _ _ _ _ _ _ h1 h2 h3 h4).mono ?_
    rintro e w2 ⟨rfl, hb2⟩
    have B2 := B1.trans (hb2.mono (by omega))
    have hc2 : ∀ b o, b < w.heap.size + 1 + 1 → w2.cell? ⟨b, o, none⟩ = w1.cell? ⟨b, o, none⟩ := fun b o h => hb2.cell (p := ⟨b, o, none⟩) (by show b < w1.heap.size; omega)
    have z2 := hb2.size
    clear hb2 B1
    have y2 : w.heap.size + 1 < w2.heap.size := by omega
    have y1 : w.heap.size < w2.heap.size := by omega
    go_wp2_with fail
    refine (narrow_yes _ _ _ (by omega) (by omega) (by omega) (by omega) h).mono ?_
    rintro e w3 ⟨rfl, rfl⟩
    go_wp2_with fail
    refine (meets_any _ _ _ _ _ _ _ _ (by omega) (by omega) h3 h4).mono ?_
    rintro e w4 ⟨rfl, hb4⟩
    have B4 := ((B2.alloc (by omega) _).trans (hb4.mono (by simp; omega)))
    have z4 := hb4.size
    simp only [World.size_alloc] at z4
    clear hb4 B2
    by_cases hz : meetsI k (bits BinOp.and IntKind.i64 a 255 % 256) nk nr = 0
    · have hz2 := hr.out hz
      go_wp2_with fail
      go_outline
      refine (known_any _).mono ?_
      rintro e w5 ⟨rfl, hb5⟩
      go_wp2_with fail
      go_ret
      exact ⟨rfl, B4.trans (hb5.mono (by omega))⟩
    · have hz2 : (meetsI k (bits BinOp.and IntKind.i64 a 255 % 256) nk nr != 0) = true := bne_iff_ne.2 hz
      clear hz
      go_wp2_with fail
      go_outline
      refine (known_any _).mono ?_
      rintro e w5 ⟨rfl, hb5⟩
      go_wp2_with fail
      go_ret
      exact ⟨rfl, B4.trans (hb5.mono (by omega))⟩
end Go.Proofs.Ytcgmcmnjgimflaa
