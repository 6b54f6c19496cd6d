/- Small functions of the program's forest, by walks: nothing, Has, head, join, check, Size, Parent. Condition: the forest has 1 to 4096 places. -/
import Derived.Test.YtoihldagpnkfoaaTreeMem
import Derived.WalkKit
import Derived.WalkSpells
import Derived.WalkLawsBesides
import Derived.LoopTactic
import Derived.LoopN
namespace Go.Proofs.Ytoihldagpnkfoaa
open Go.RowKit
set_option linter.unusedVariables false
set_option linter.unusedSimpArgs false

theorem ret_bool {a b : Bool} (h : a = b) : Ending.returned (.bool a) = .returned (.bool b) := by rw [h]

set_option maxHeartbeats 400000 in
theorem nothing_is {w : World} {f lb n lc : Nat} {R : Raw} {fv : Value} (h : PF w f lb n lc R fv) : Calls Try.prog 32 #[.pointer (some ⟨f, 0, none⟩)] w fun e w' => e = .returned (.bool false) ∧ w = w' := by
  obtain ⟨c0, _, _, _⟩ := h.cells
  have hn := h.n1
  have hn2 := h.n2
  have hz : ((n : Int) == 0) = false := by simp; omega
  clear h
  go_enter Try.func32, Try.ntmps32
  go_wp2
  go_ret
  exact ⟨rfl, rfl⟩

/-- Is a node there? -/
def hasR (n : Nat) (R : Raw) (x : Int) : Bool := decide (0 ≤ x) && (decide (x < (n : Int)) && (R.M x.toNat).t)

set_option maxHeartbeats 1000000 in
theorem has_is {w : World} {f lb n lc : Nat} {R : Raw} {fv : Value} (h : PF w f lb n lc R fv) (x : Int) : Calls Try.prog 24 #[.pointer (some ⟨f, 0, none⟩), .int .i64 x] w fun e w' => e = .returned (.bool (hasR n R x)) ∧ w = w' := by
  have CN := nothing_is h
  obtain ⟨c0, _, _, _⟩ := h.cells
  have hn := h.n1
  have hn2 := h.n2
  by_cases h0 : 0 ≤ x
  · by_cases hlt : x < (n : Int)
    · obtain ⟨k, rfl⟩ := Int.eq_ofNat_of_zero_le h0
      have hk : k < n := by omega
      have d0 := (h.at_ k hk).c0
      have hr : hasR n R (k : Int) = (R.M k).t := by simp [hasR, hk]
      rw [hr]
      have e1 : decide ((0 : Int) ≤ (k : Int)) = true := by simp
      have e2 : decide ((k : Int) < (n : Int)) = true := by simpa using hlt
      generalize (R.M k).t = b at *
      clear h hr
      go_enter Try.func24, Try.ntmps24
      go_wp2_with (go_at_call 32; refine CN.mono ?_; rintro e w' ⟨rfl, rfl⟩)
      go_ret
      exact ⟨rfl, rfl⟩
    · have hr : hasR n R x = false := by simp [hasR, hlt]
      rw [hr]
      have e1 : decide ((0 : Int) ≤ x) = true := by simpa using h0
      have e2 : decide (x < (n : Int)) = false := by simpa using hlt
      clear h hr
      go_enter Try.func24, Try.ntmps24
      go_wp2_with (go_at_call 32; refine CN.mono ?_; rintro e w' ⟨rfl, rfl⟩)
      go_ret
      exact ⟨rfl, rfl⟩
  · have hr : hasR n R x = false := by simp [hasR, h0]
    rw [hr]
    have e1 : decide ((0 : Int) ≤ x) = false := by simpa using h0
    clear h hr
    go_enter Try.func24, Try.ntmps24
    go_wp2_with (go_at_call 32; refine CN.mono ?_; rintro e w' ⟨rfl, rfl⟩)
    go_ret
    exact ⟨rfl, rfl⟩

/-- Where a row begins. -/
def headA (f lb : Nat) (p : Int) : Addr := if p < 0 then ⟨f, 1, none⟩ else ⟨lb, p.toNat * 5 + 2, none⟩

set_option maxHeartbeats 400000 in
theorem head_is {w : World} {f lb n lc : Nat} {R : Raw} {fv : Value} (h : PF w f lb n lc R fv) (p : Int) (hp : p < (n : Int)) : Calls Try.prog 33 #[.pointer (some ⟨f, 0, none⟩), .int .i64 p] w fun e w' => e = .returned (.pointer (some (headA f lb p))) ∧ w = w' := by
  obtain ⟨c0, _, _, _⟩ := h.cells
  have hn2 := h.n2
  unfold headA
  by_cases h0 : p < 0
  · rw [if_pos h0]
    clear h
    go_enter Try.func33, Try.ntmps33
    go_wp2
    go_ret
    exact ⟨rfl, rfl⟩
  · rw [if_neg h0]
    obtain ⟨k, rfl⟩ := Int.eq_ofNat_of_zero_le (show 0 ≤ p by omega)
    have hk : k < n := by omega
    rw [Int.toNat_natCast]
    clear h
    go_enter Try.func33, Try.ntmps33
    go_wp2
    go_ret
    exact ⟨rfl, rfl⟩

theorem head_cell {w : World} {f lb n lc : Nat} {R : Raw} {fv : Value} (h : PF w f lb n lc R fv) (p : Int) (hp : p < (n : Int)) : w.cell? (headA f lb p) = some (.int .i64 (R.head p)) ∧ w.frozen? (headA f lb p) = false := by
  unfold headA Raw.head
  by_cases h0 : p < 0
  · rw [if_pos h0, if_pos h0]
    exact ⟨h.cells.2.1, h.cells.2.2.2 1⟩
  · rw [if_neg h0, if_neg h0]
    exact ⟨(h.at_ p.toNat (by omega)).c2, h.fr _⟩
theorem head_set {w : World} {f lb n lc : Nat} {R : Raw} {fv : Value} (h : PF w f lb n lc R fv) (p v : Int) (hp : p < (n : Int)) : PF (w.setCell (headA f lb p) (.int .i64 v)) f lb n lc (R.setHead p v) fv := by
  unfold headA Raw.setHead
  by_cases h0 : p < 0
  · rw [if_pos h0, if_pos h0]
    exact h.setFirst v
  · rw [if_neg h0, if_neg h0]
    exact h.setD p.toNat (by omega) v
theorem head_own (f lb : Nat) (p : Int) : own2 f lb (headA f lb p).block := by
  unfold headA
  by_cases h0 : p < 0
  · rw [if_pos h0]; exact .inl rfl
  · rw [if_neg h0]; exact .inr rfl
end Go.Proofs.Ytoihldagpnkfoaa
