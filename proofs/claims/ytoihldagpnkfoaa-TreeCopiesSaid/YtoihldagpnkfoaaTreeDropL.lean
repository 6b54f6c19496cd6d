/- Drop's loop over the children, a child at a time: plain. No program in sight. -/
import Derived.Test.YtoihldagpnkfoaaTreeU
namespace Go.Proofs.Ytoihldagpnkfoaa
set_option linter.unusedVariables false
set_option linter.unusedSimpArgs false

theorem dropL_snoc (p : Int) : ∀ (a : List Nat) (R : Raw) (last : Int) (c : Nat), dropL p R last (a ++ [c]) = ((dropL p R last a).setU c p).join p (lastOr last a) (c : Int)
  | [], R, last, c => rfl
  | x :: a, R, last, c => by
    rw [List.cons_append, dropL, dropL_snoc p a]
    rfl
/-- Behind a child's round its own link onward is as it was. -/
theorem dropL_next (p : Int) (hp : p = -1 ∨ 0 ≤ p) (a b : List Nat) (c : Nat) (R : Raw) (last : Int) (hl : last = -1 ∨ 0 ≤ last) (h1 : ∀ i ∈ a ++ c :: b, (i : Int) ≠ last) (h2 : ∀ i ∈ a ++ c :: b, (i : Int) ≠ p) (hn : (a ++ c :: b).Nodup) :
    ((dropL p R last (a ++ [c])).M c).r = (R.M c).r := by
  have hca : c ∉ a := fun hm => (List.nodup_append.1 hn).2.2 c hm c (by simp) rfl
  have hsub : ∀ i ∈ a ++ [c], i ∈ a ++ c :: b := by
    intro i hi
    simp at hi ⊢
    rcases hi with h | h
    · exact .inl h
    · exact .inr (.inl h)
  have hn' : (a ++ [c]).Nodup := by
    rw [show a ++ c :: b = (a ++ [c]) ++ b by simp] at hn
    exact (List.nodup_append.1 hn).1
  rw [dropL_at p hp (a ++ [c]) R last c hl (fun i hi => h1 i (hsub i hi)) (fun i hi => h2 i (hsub i hi)) hn', if_pos (by simp)]
  have hx : nxt c (a ++ [c]) = -1 := by rw [nxt_at [] hca]; rfl
  simp [hx]
/-- Ahead of a child's round its place is as it was. -/
theorem dropL_ahead (p : Int) (hp : p = -1 ∨ 0 ≤ p) (a b : List Nat) (c : Nat) (R : Raw) (last : Int) (hl : last = -1 ∨ 0 ≤ last) (h1 : ∀ i ∈ a ++ c :: b, (i : Int) ≠ last) (h2 : ∀ i ∈ a ++ c :: b, (i : Int) ≠ p) (hn : (a ++ c :: b).Nodup) :
    (dropL p R last a).M c = R.M c := by
  have hca : c ∉ a := fun hm => (List.nodup_append.1 hn).2.2 c hm c (by simp) rfl
  have hn' : a.Nodup := (List.nodup_append.1 hn).1
  have e1 := h1 c (by simp)
  have e2 := h2 c (by simp)
  rw [dropL_at p hp a R last c hl (fun i hi => h1 i (by simp [hi])) (fun i hi => h2 i (by simp [hi])) hn', if_neg hca]
  simp [e1, e2]
end Go.Proofs.Ytoihldagpnkfoaa
