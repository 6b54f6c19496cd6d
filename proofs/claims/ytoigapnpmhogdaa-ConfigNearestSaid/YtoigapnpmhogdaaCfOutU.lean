/- Out of the reference for the other numbers, by a walk. -/
import Derived.Test.YtoigapnpmhogdaaCfOutI
import Derived.Deep.RegionHeld3
namespace Go.Proofs.Ytoigapnpmhogdaa
open Go.RowKit
set_option linter.unusedVariables false
set_option linter.unusedSimpArgs false

theorem greatRow (c : Nat → Int) : ∀ k, k < 4 → (((List.range 4).map fun k => Value.int .u64 (c (10 + k))).toArray)[k]? = some (.int .u64 (c (10 + k))) := fun k hk => by simp [hk]
theorem greatC (c : Nat → Int) (P : Value) (k : Nat) (hk : k < 4) (w : World) : Calls Try.prog 32 #[.agg (cfV c P)] w fun e w' => ∃ g, e = .returned (.slice (some ⟨g, 0, none⟩) 4 4) ∧ w'.cell? ⟨g, k, none⟩ = some (.int .u64 (c (10 + k))) ∧ Below w.heap.size w w' :=
  (great_is c P w).mono fun e w' ⟨g, h1, h2, h3, h4⟩ => ⟨g, h1, (h3.cell k).trans (greatRow c k hk), h4⟩

set_option maxHeartbeats 1000000 in
theorem outU_is (c : Nat → Int) (P : Value) (i : Nat) (hi10 : 10 ≤ i) (hi14 : i < 14) (w : World) : Calls Try.prog 20 #[.agg (cfV c P), .int .i64 i] w fun e w' => e = .returned (.int .i64 (outN i (c i))) ∧ Below w.heap.size w w' := by
  obtain ⟨d, hu1, hu2⟩ := underCf
  have hlh := lo_hi i hi14
  have hbx : Blk (w.alloc (.cells (cfV c P) 25)) w.heap.size 25 (cfV c P) := Blk.new _ _ _
  have hb1 := (Below.refl w.heap.size w).alloc (Nat.le_refl _) (.cells (cfV c P) 25)
  have hs1 : (w.alloc (.cells (cfV c P) 25)).heap.size = w.heap.size + 1 := by simp
  have hi1 : (i : Int) < 14 := by omega
  have hi2 : ¬ (i : Int) < 10 := by omega
  have hi3 : wrap64 ((i : Int) - 10) = (i : Int) - 10 := by unfold wrap64; omega
  have hj0 : (0 : Int) ≤ (i : Int) - 10 := by omega
  have hj1 : (i : Int) - 10 < 4 := by omega
  have hi0 : (0 : Int) ≤ (i : Int) := by omega
  have CS := greatC c P (i - 10) (by omega)
  rw [show 10 + (i - 10) = i from by omega] at CS
  have CL := leastC i hi14
  have CM := mostC i hi14
  obtain ⟨w1, hw1⟩ : ∃ w1, w1 = w.alloc (.cells (cfV c P) 25) := ⟨_, rfl⟩
  rw [← hw1] at hbx hb1 hs1
  have hd : w1.drew.heap.size = w.heap.size + 1 := hs1
  have ho : outN i (c i) = if c i < lo i then -1 else if hi i < c i then 1 else 0 := rfl
  obtain ⟨r, hr⟩ : ∃ r, r = outN i (c i) := ⟨_, rfl⟩
  rw [← hr] at ho ⊢
  clear hr
  have HO := Lib.hid ho
  clear ho
  obtain ⟨x, hx⟩ : ∃ x, x = c i := ⟨_, rfl⟩
  obtain ⟨l, hl⟩ : ∃ l, l = lo i := ⟨_, rfl⟩
  obtain ⟨h, hh⟩ : ∃ h, h = hi i := ⟨_, rfl⟩
  simp only [← hx, ← hl, ← hh] at *
  clear hx hl hh
  obtain ⟨q1, q2, q3⟩ := hlh
  rcases (show x < l ∨ (l ≤ x ∧ h < x) ∨ (l ≤ x ∧ x ≤ h) from by omega) with k1 | ⟨k1, k2⟩ | ⟨k1, k2⟩
  all_goals
    go_enter Try.func20, Try.ntmps20
    go_wp2_with fail
    rw [← hw1]
    clear hw1
    go_region_with (first | (go_at_call 16; refine (CL _).mono ?_; rintro e wa ⟨g1, rfl, hga, hca, hba⟩; (have hsa : Blk wa w.heap.size 25 (cfV c P) := Blk.below (by first | exact hsb | exact hbx) hba (by first | (have := hbb.size; show w.heap.size < _; omega) | (show w.heap.size < _; omega))); (have hta : Below w.heap.size w wa := (show Below w.heap.size w _ from by first | exact htb | exact hb1.drew).trans (hba.mono (by first | exact htb.size | (show w.heap.size ≤ _; omega)))); (try (have hcb2 := (hba.cell (p := ⟨g2, i, none⟩) hgb).trans hcb))) | (go_at_call 17; refine (CM _).mono ?_; rintro e wb ⟨g2, rfl, hgb, hcb, hbb⟩; (have hsb : Blk wb w.heap.size 25 (cfV c P) := Blk.below (by first | exact hsa | exact hbx) hbb (by first | (have := hba.size; show w.heap.size < _; omega) | (show w.heap.size < _; omega))); (have htb : Below w.heap.size w wb := (show Below w.heap.size w _ from by first | exact hta | exact hb1.drew).trans (hbb.mono (by first | exact hta.size | (show w.heap.size ≤ _; omega)))); (try (have hca2 := (hbb.cell (p := ⟨g1, i, none⟩) hga).trans hca))))
    all_goals
      obtain ⟨y0, y1, y2, y3, y4, y5, y6, y7, y8, y9, y10, y11, y12, y13, y14⟩ := cells15 (c := c) (P := P) (g := w.heap.size) (by first | exact hsb | exact hsa)
      unfold cfV at CS
      go_wp2_with (go_at_call 32; refine (CS _).mono ?_; rintro e w5 ⟨g5, rfl, hc5, hb5⟩)
      go_ret
      exact ⟨by rw [HO.out]; first | (rw [if_pos (by omega)]; rfl) | (rw [if_neg (by omega), if_pos (by omega)]; rfl) | (rw [if_neg (by omega), if_neg (by omega)]; rfl), by first | exact htb.trans (hb5.mono htb.size) | exact hta.trans (hb5.mono hta.size)⟩
end Go.Proofs.Ytoigapnpmhogdaa
