/- The places of a forest, in plain Lean: that Drop and Prune do on the places what they do on the forest. No program in sight. -/
import Derived.Test.YtoihldagpnkfoaaTreeS
namespace Go.Proofs.Ytoihldagpnkfoaa
set_option linter.unusedVariables false
set_option linter.unusedSimpArgs false

theorem lastOr_cases (l : List Nat) : l = [] ∨ ∃ z ∈ l, ∀ a, lastOr a l = (z : Int) := by
  induction l with
  | nil => exact .inl rfl
  | cons x l ih =>
    right
    rcases ih with rfl | ⟨z, hz, h⟩
    · exact ⟨x, by simp, fun a => rfl⟩
    · exact ⟨z, by simp [hz], fun a => h _⟩
theorem hd_cases (l : List Nat) : l = [] ∨ ∃ z ∈ l, hd l = (z : Int) := by
  cases l with
  | nil => exact .inl rfl
  | cons x l => exact .inr ⟨x, by simp, rfl⟩

theorem setU_at (R : Raw) (c i : Nat) (p : Int) : (R.setU c p).M i = if i = c then ⟨(R.M i).t, p, (R.M i).d, (R.M i).l, (R.M i).r⟩ else R.M i := by
  unfold Raw.setU setN
  by_cases h : i = c
  · subst h; simp
  · simp [h]

theorem dropL_first (p : Int) : ∀ (K : List Nat) (R : Raw) (last : Int), (dropL p R last K).first = if last = -1 ∧ K ≠ [] ∧ p < 0 then hd K else R.first
  | [], R, last => by simp [dropL]
  | c :: K, R, last => by
    rw [dropL, dropL_first p K, join_first]
    have hc : ((c : Nat) : Int) ≠ -1 := by omega
    rw [if_neg (fun e => hc e.1)]
    simp only [ne_eq, reduceCtorEq, not_false_eq_true, true_and, hd_cons]
    rfl

theorem dropL_at (p : Int) (hp : p = -1 ∨ 0 ≤ p) : ∀ (K : List Nat) (R : Raw) (last : Int) (i : Nat), (last = -1 ∨ 0 ≤ last) → (∀ c ∈ K, (c : Int) ≠ last) → (∀ c ∈ K, (c : Int) ≠ p) → K.Nodup →
    (dropL p R last K).M i = if i ∈ K then ⟨(R.M i).t, p, (R.M i).d, prvF last i K, if nxt i K = -1 then (R.M i).r else nxt i K⟩
      else ⟨(R.M i).t, (R.M i).u, if last = -1 ∧ K ≠ [] ∧ 0 ≤ p ∧ (i : Int) = p then hd K else (R.M i).d, (R.M i).l, if K ≠ [] ∧ last ≠ -1 ∧ (i : Int) = last then hd K else (R.M i).r⟩
  | [], R, last, i, _, _, _, _ => by simp [dropL]
  | c :: K, R, last, i, hl, hcl, hcp, hn => by
    rw [List.nodup_cons] at hn
    have hc1 : ((c : Nat) : Int) ≠ -1 := by omega
    have hcl' := hcl c (by simp)
    have hcp' := hcp c (by simp)
    have hdc : ∀ e ∈ K, ((e : Nat) : Int) ≠ (c : Int) := fun e he ee => by
      have : e = c := by omega
      exact hn.1 (this ▸ he)
    rw [dropL, dropL_at p hp K _ (c : Int) i (.inr (by omega)) hdc (fun e he => hcp e (by simp [he])) hn.2]
    have hj := join_at (R.setU c p) (p := p) (a := last) (b := (c : Int)) i hl (.inr (by omega)) (.inl (fun e => hcl' e.symm)) (.inl (fun e => hcp' e.symm))
    rw [hj, setU_at]
    by_cases hic : i = c
    · subst hic
      have hiK : i ∉ K := hn.1
      have h1 : ¬ ((i : Nat) : Int) = p := hcp'
      have h2 : ¬ ((i : Nat) : Int) = last := hcl'
      simp only [hiK, if_false, List.mem_cons, true_or, if_true, hc1, false_and, h1, h2, and_false, ne_eq, not_false_eq_true, true_and, and_true, prvF, nxt]
      congr 1
      by_cases hK : K = []
      · subst hK
        simp [hd]
      · have : hd K ≠ -1 := fun e => hK (hd_neg.1 e)
        simp [hK, this]
    · have hic' : ¬ (i : Int) = (c : Int) := by omega
      have hci : ¬ c = i := fun e => hic e.symm
      by_cases hiK : i ∈ K
      · have h1 : ¬ ((i : Nat) : Int) = p := hcp i (by simp [hiK])
        have h2 : ¬ ((i : Nat) : Int) = last := hcl i (by simp [hiK])
        simp only [hiK, if_true, List.mem_cons, or_true, hic, if_false, hic', and_false, h1, h2, prvF, nxt, if_neg hci]
      · simp only [hiK, if_false, List.mem_cons, hic, or_self, hic', and_false, hc1, false_and, ne_eq, not_false_eq_true, true_and, reduceCtorEq, hd_cons]
end Go.Proofs.Ytoihldagpnkfoaa
