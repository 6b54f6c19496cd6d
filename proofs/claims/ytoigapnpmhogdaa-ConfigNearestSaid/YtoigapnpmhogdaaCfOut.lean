/- Set for any part, Out of the reference, by walks. -/
import Derived.Test.YtoigapnpmhogdaaCfSet
namespace Go.Proofs.Ytoigapnpmhogdaa
open Go.RowKit
set_option linter.unusedVariables false
set_option linter.unusedSimpArgs false

theorem set_is (c : Nat → Int) (A : Option Addr) (m cap : Nat) (n : Int) (w : World) : ∀ i : Nat, i < 14 → Calls Try.prog 19 #[.agg (cfV c (.slice A m cap)), .int .i64 i, .int .u64 n] w fun e w' => e = .returned (.agg (cfV (upd c i n) (.slice A m cap))) ∧ Below w.heap.size w w'
  | 0, _ => set0_is c A m cap n w
  | 1, _ => set1_is c A m cap n w
  | 2, _ => set2_is c A m cap n w
  | 3, _ => set3_is c A m cap n w
  | 4, _ => set4_is c A m cap n w
  | 5, _ => set5_is c A m cap n w
  | 6, _ => set6_is c A m cap n w
  | 7, _ => set7_is c A m cap n w
  | 8, _ => set8_is c A m cap n w
  | 9, _ => set9_is c A m cap n w
  | 10, _ => set10_is c A m cap n w
  | 11, _ => set11_is c A m cap n w
  | 12, _ => set12_is c A m cap n w
  | 13, _ => set13_is c A m cap n w
  | k + 14, h => absurd h (by omega)

/-- Below (-1), above (1), or within (0). -/
def outN (k : Nat) (x : Int) : Int := if x < lo k then -1 else if hi k < x then 1 else 0
theorem outN_in (k : Nat) (x : Int) : decide (outN k x = 0) = inB k x := by
  unfold outN inB
  by_cases h1 : x < lo k
  · rw [if_pos h1, decide_eq_false (by omega : ¬ lo k ≤ x)]; simp
  · rw [if_neg h1, decide_eq_true (by omega : lo k ≤ x)]
    by_cases h2 : hi k < x
    · rw [if_pos h2, decide_eq_false (by omega : ¬ x ≤ hi k)]; simp
    · rw [if_neg h2, decide_eq_true (by omega : x ≤ hi k)]; simp
theorem loRow : ∀ k, k < 14 → ((loL.map (Value.int .u64)).toArray)[k]? = some (.int .u64 (lo k))
  | 0, _ => rfl
  | 1, _ => rfl
  | 2, _ => rfl
  | 3, _ => rfl
  | 4, _ => rfl
  | 5, _ => rfl
  | 6, _ => rfl
  | 7, _ => rfl
  | 8, _ => rfl
  | 9, _ => rfl
  | 10, _ => rfl
  | 11, _ => rfl
  | 12, _ => rfl
  | 13, _ => rfl
  | k + 14, h => absurd h (by omega)
theorem hiRow : ∀ k, k < 14 → ((hiL.map (Value.int .u64)).toArray)[k]? = some (.int .u64 (hi k))
  | 0, _ => rfl
  | 1, _ => rfl
  | 2, _ => rfl
  | 3, _ => rfl
  | 4, _ => rfl
  | 5, _ => rfl
  | 6, _ => rfl
  | 7, _ => rfl
  | 8, _ => rfl
  | 9, _ => rfl
  | 10, _ => rfl
  | 11, _ => rfl
  | 12, _ => rfl
  | 13, _ => rfl
  | k + 14, h => absurd h (by omega)
theorem leastC (k : Nat) (hk : k < 14) (w : World) : Calls Try.prog 16 #[] w fun e w' => ∃ g, e = .returned (.slice (some ⟨g, 0, none⟩) 14 14) ∧ g < w'.heap.size ∧ w'.cell? ⟨g, k, none⟩ = some (.int .u64 (lo k)) ∧ Below w.heap.size w w' :=
  (least_is w).mono fun e w' ⟨g, h1, h2, h3, h4⟩ => ⟨g, h1, h3.lt, (h3.cell k).trans (loRow k hk), h4⟩
theorem mostC (k : Nat) (hk : k < 14) (w : World) : Calls Try.prog 17 #[] w fun e w' => ∃ g, e = .returned (.slice (some ⟨g, 0, none⟩) 14 14) ∧ g < w'.heap.size ∧ w'.cell? ⟨g, k, none⟩ = some (.int .u64 (hi k)) ∧ Below w.heap.size w w' :=
  (most_is w).mono fun e w' ⟨g, h1, h2, h3, h4⟩ => ⟨g, h1, h3.lt, (h3.cell k).trans (hiRow k hk), h4⟩
end Go.Proofs.Ytoigapnpmhogdaa
