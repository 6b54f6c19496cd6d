/- The places of a forest, in plain Lean: that Drop and Prune do on the places what they do on the forest. No program in sight. -/
import Derived.Test.YtoihldagpnkfoaaTreeR
namespace Go.Proofs.Ytoihldagpnkfoaa
set_option linter.unusedVariables false
set_option linter.unusedSimpArgs false

theorem hd_neg {l : List Nat} : hd l = -1 ↔ l = [] := by
  cases l with
  | nil => simp [hd]
  | cons x l =>
    simp [hd]
theorem nxt_not_mem {i : Nat} : ∀ {l : List Nat}, i ∉ l → nxt i l = -1
  | [], _ => rfl
  | x :: l, h => by
    have h1 : ¬ x = i := fun e => h (by simp [e])
    simp only [nxt, if_neg h1]
    exact nxt_not_mem fun e => h (by simp [e])

theorem join_first (R : Raw) (p a b : Int) : (R.join p a b).first = if a = -1 ∧ p < 0 then b else R.first := by
  unfold Raw.join
  by_cases ha : a = -1
  · by_cases hp : p < 0
    · simp [ha, hp, Raw.setHead]
      split <;> rfl
    · simp [ha, hp, Raw.setHead]
      split <;> rfl
  · simp [ha]
    split <;> rfl

/-- What join leaves at a place. -/
theorem join_at (R : Raw) {p a b : Int} (i : Nat) (ha : a = -1 ∨ 0 ≤ a) (hb : b = -1 ∨ 0 ≤ b) (hab : a ≠ b ∨ a = -1) (hpb : p ≠ b ∨ p < 0) :
    (R.join p a b).M i = ⟨(R.M i).t, (R.M i).u, if a = -1 ∧ 0 ≤ p ∧ (i : Int) = p then b else (R.M i).d, if b ≠ -1 ∧ (i : Int) = b then a else (R.M i).l, if a ≠ -1 ∧ (i : Int) = a then b else (R.M i).r⟩ := by
  unfold Raw.join
  have hbT : b ≠ -1 → ((b.toNat : Nat) : Int) = b := fun h => by omega
  have haT : a ≠ -1 → ((a.toNat : Nat) : Int) = a := fun h => by omega
  by_cases h1 : a = -1
  · by_cases h2 : b = -1
    · by_cases h3 : p < 0
      · have h3' : ¬ (0 ≤ p) := by omega
        simp [h1, h2, Raw.setHead, h3, h3']
      · have h3' : 0 ≤ p := by omega
        simp only [h1, h2, if_true, Raw.setHead, h3, if_false, true_and, h3', ne_eq, not_true, false_and]
        by_cases h4 : (i : Int) = p
        · have : i = p.toNat := by omega
          subst this
          simp [setN, h4]
        · have : i ≠ p.toNat := by omega
          simp [setN, h4, this]
    · have hb' := hbT h2
      by_cases h3 : p < 0
      · have h3' : ¬ (0 ≤ p) := by omega
        simp only [h1, h2, if_true, if_false, Raw.setHead, h3, Raw.setL, true_and, h3', false_and, and_false, ne_eq, not_true, not_false_eq_true]
        by_cases h4 : (i : Int) = b
        · have : i = b.toNat := by omega
          subst this
          simp [setN, hb']
        · have : i ≠ b.toNat := by omega
          simp [setN, h4, this]
      · have h3' : 0 ≤ p := by omega
        have hpb' : p ≠ b := by omega
        have hne : b.toNat ≠ p.toNat := by omega
        have hne' : p.toNat ≠ b.toNat := fun e => hne e.symm
        simp only [h1, h2, if_true, if_false, Raw.setHead, h3, Raw.setL, true_and, h3', ne_eq, not_true, not_false_eq_true, false_and]
        by_cases h4 : (i : Int) = b
        · have hi : i = b.toNat := by omega
          have h5 : ¬ (i : Int) = p := by omega
          have h6 : i ≠ p.toNat := by omega
          rw [hi]
          simp [setN, hb', hne]
          intro e
          omega
        · have hi : i ≠ b.toNat := by omega
          by_cases h5 : (i : Int) = p
          · have h6 : i = p.toNat := by omega
            have hpT : ((p.toNat : Nat) : Int) = p := by omega
            rw [h6]
            simp [setN, hne', hpT, hpb']
          · have h6 : i ≠ p.toNat := by omega
            simp [setN, h4, hi, h5, h6]
  · have ha' := haT h1
    by_cases h2 : b = -1
    · simp only [h1, h2, if_false, if_true, Raw.setR, false_and, ne_eq, not_true, not_false_eq_true, true_and]
      by_cases h4 : (i : Int) = a
      · have : i = a.toNat := by omega
        subst this
        simp [setN, ha']
      · have : i ≠ a.toNat := by omega
        simp [setN, h4, this]
    · have hb' := hbT h2
      have hab' : a ≠ b := by omega
      have hne : b.toNat ≠ a.toNat := by omega
      have hne' : a.toNat ≠ b.toNat := fun e => hne e.symm
      simp only [h1, h2, if_false, Raw.setR, Raw.setL, false_and, ne_eq, not_false_eq_true, true_and]
      by_cases h4 : (i : Int) = b
      · have hi : i = b.toNat := by omega
        have h5 : ¬ (i : Int) = a := by omega
        have h6 : i ≠ a.toNat := by omega
        rw [hi]
        simp [setN, hb', hne]
        intro e
        omega
      · have hi : i ≠ b.toNat := by omega
        by_cases h5 : (i : Int) = a
        · have h6 : i = a.toNat := by omega
          rw [h6]
          simp [setN, hne', ha', hab']
        · have h6 : i ≠ a.toNat := by omega
          simp [setN, h4, hi, h5, h6]
end Go.Proofs.Ytoihldagpnkfoaa
