/- Under of the program's forest, by a walk. Condition: the places are a forest's. -/
import Derived.Test.YtoihldagpnkfoaaTreeKids
namespace Go.Proofs.Ytoihldagpnkfoaa
open Go.RowKit
set_option linter.unusedVariables false
set_option linter.unusedSimpArgs false

/-- One comes to y by going up, the place itself counted in. -/
inductive Up (F : Fo) (y : Nat) : Int → Prop
  | here : Up F y (y : Int)
  | step {i : Nat} : Up F y (F.par i) → Up F y (i : Int)

theorem up_none {F : Fo} {y : Nat} : ¬ Up F y (-1) := by
  intro h
  generalize hz : (-1 : Int) = z at h
  cases h <;> omega
theorem up_step {F : Fo} {y i : Nat} (h : i ≠ y) : Up F y (i : Int) ↔ Up F y (F.par i) := by
  constructor
  · intro hu
    generalize hz : ((i : Nat) : Int) = z at hu
    cases hu with
    | here => omega
    | @step k hk =>
      have : k = i := by omega
      subst this
      exact hk
  · exact fun hu => .step hu
theorem bounded (h : Nat → Nat) : ∀ n : Nat, ∃ H, ∀ i, i < n → h i ≤ H
  | 0 => ⟨0, fun i hi => absurd hi (Nat.not_lt_zero _)⟩
  | n + 1 => by
    obtain ⟨H, hH⟩ := bounded h n
    refine ⟨max H (h n), fun i hi => ?_⟩
    by_cases e : i = n
    · subst e; omega
    · have := hH i (by omega); omega
/-- How far it may still go up. -/
def climbs (h : Nat → Nat) (H : Nat) (v : Value) : Nat := match v with | .int _ z => if z < 0 then 0 else H + 1 - h z.toNat | _ => 0

set_option maxHeartbeats 1000000 in
theorem under_is {w : World} {f lb lc : Nat} {R : Raw} {fv : Value} {F : Fo} (h : PF w f lb F.n lc R fv) (hR : Rep R F) (hF : WF F) (x y : Nat) (hx : F.there x = true) (hy : F.there y = true) :
    Calls Try.prog 13 #[.pointer (some ⟨f, 0, none⟩), .int .i64 x, .int .i64 y] w fun e w' => (∃ b, e = .returned (.bool b) ∧ (b = true ↔ Up F y (F.par x))) ∧ w = w' := by
  have CX := has_is h x
  have CY := has_is h y
  rw [has_rep hR hF, show F.has (x : Int) = true by simp [Fo.has, hx]] at CX
  rw [has_rep hR hF, show F.has (y : Int) = true by simp [Fo.has, hy]] at CY
  obtain ⟨ht, hht⟩ := hF.ht
  obtain ⟨H, hH⟩ := bounded ht F.n
  have d0 := h.cells.1
  have hn2 := h.n2
  have hpar : ∀ i, F.there i = true → w.cell? ⟨lb, i * 5 + 1, none⟩ = some (.int .i64 (F.par i)) := by
    intro i hi
    have hin := hF.lt i hi
    have := (h.at_ i hin).c1
    rw [hR.at_ i hin] at this
    have e2 : (F.nod i).u = F.par i := by simp [Fo.nod, hi]
    rw [e2] at this
    exact this
  have hxn := hF.lt x hx
  have d1 := hpar x hx
  have HP := Lib.hid hpar
  have HF := Lib.hid hF
  clear h hR hpar
  go_enter Try.func13, Try.ntmps13
  go_wp2_with (first | (go_at_call 24; (have := mk1); refine CY.mono ?_; rintro e w' ⟨rfl, rfl⟩) | (go_at_call 24; refine CX.mono ?_; rintro e w' ⟨rfl, rfl⟩; have mk1 := trivial))
  go_loopw [1] (fun v wr => ∃ c : Int, v = .int .i64 c ∧ F.ok c ∧ (Up F y c ↔ Up F y (F.par x)) ∧ wr = w) (fun v _ => climbs ht H v)
  case atStart => exact ⟨F.par x, rfl, HF.out.up x hx, Iff.rfl, rfl⟩
  case round =>
    obtain ⟨c, rfl, hok, hup, rfl⟩ := hrel
    rcases hok with rfl | ⟨j, rfl, hj⟩
    · have hn := up_none (F := F) (y := y)
      have HU := Lib.hid hup
      clear hup
      have e1 : ((-1 : Int) == (y : Int)) = false := by simp
      go_wp2
      go_ret
      exact ⟨⟨_, rfl, by simp; exact fun hu => hn (HU.out.2 hu)⟩, rfl⟩
    · by_cases e : j = y
      · subst e
        have hu : Up F j (F.par x) := hup.1 .here
        have HU := Lib.hid hu
        clear hup hu
        go_wp2
        go_ret
        exact ⟨⟨_, rfl, by simp; exact HU.out⟩, rfl⟩
      · have hjn := HF.out.lt j hj
        have dj := HP.out j hj
        have e1 : ((j : Int) != (y : Int)) = true := by simp; omega
        have e3 : ((j : Int) != -1) = true := by simp
        have HU := Lib.hid (hup.symm.trans (up_step (F := F) e)).symm
        have hok' := HF.out.up j hj
        have HO := Lib.hid hok'
        clear hup hok'
        go_wp2
        go_roundw
        case rel => exact ⟨F.par j, rfl, HO.out, HU.out, trivial⟩
        case measure =>
          have hb := hH j hjn
          have hj0 : ¬ ((j : Nat) : Int) < 0 := by omega
          have m1 : climbs ht H (.int .i64 (j : Int)) = H + 1 - ht j := by simp only [climbs, hj0, if_false, Int.toNat_natCast]
          have m2 : climbs ht H (.int .i64 (F.par j)) < H + 1 - ht j := by
            rcases HO.out with e2 | ⟨k, e2, hk⟩
            · rw [e2]
              simp only [climbs, show (-1 : Int) < 0 by omega, if_true]
              omega
            · have hlt := hht j k hj e2
              have hbk := hH k (HF.out.lt k hk)
              have hk0 : ¬ ((k : Nat) : Int) < 0 := by omega
              rw [e2]
              simp only [climbs, hk0, if_false, Int.toNat_natCast]
              omega
          first | (rw [m1]; exact m2) | (exact m1 ▸ m2) | (simpa [m1] using m2)

set_option maxHeartbeats 400000 in
theorem under_no {w : World} {f lb n lc : Nat} {R : Raw} {fv : Value} (h : PF w f lb n lc R fv) (x y : Int) (hxy : (hasR n R x && hasR n R y) = false) :
    Calls Try.prog 13 #[.pointer (some ⟨f, 0, none⟩), .int .i64 x, .int .i64 y] w fun e w' => e = .returned (.bool false) ∧ w = w' := by
  have CX := has_is h x
  have CY := has_is h y
  clear h
  cases hx : hasR n R x
  · rw [hx] at CX
    clear hx hxy CY
    go_enter Try.func13, Try.ntmps13
    go_wp2_with (go_at_call 24; refine CX.mono ?_; rintro e w' ⟨rfl, rfl⟩)
    go_ret
    exact ⟨rfl, rfl⟩
  · have hy : hasR n R y = false := by rw [hx] at hxy; simpa using hxy
    rw [hx] at CX
    rw [hy] at CY
    clear hx hy hxy
    go_enter Try.func13, Try.ntmps13
    go_wp2_with (first | (go_at_call 24; (have := mk1); refine CY.mono ?_; rintro e w' ⟨rfl, rfl⟩) | (go_at_call 24; refine CX.mono ?_; rintro e w' ⟨rfl, rfl⟩; have mk1 := trivial))
    go_ret
    exact ⟨rfl, rfl⟩
end Go.Proofs.Ytoihldagpnkfoaa
