/- Of the following, one behind the other: Plain laws on rights, numbers below 256, as sets of eight bits: bit, inclusion, text, reading a text. No program in sight. Conditions: each number is below 256. -/
import Derived.WalkKit
/- Plain laws on rights, numbers below 256, as sets of eight bits: bit, inclusion, text, reading a text. No program in sight. Conditions: each number is below 256. -/
namespace Go.Proofs.Ytbknmfegckeogaa
open Go.RowKit

/-- Is bit k of r set? -/
def bitB (r k : Nat) : Bool := r / 2 ^ k % 2 == 1
/-- Are all bits of r among o's? -/
def among (r o : Nat) : Bool := (List.range 8).all fun k => !bitB r k || bitB o k
def letters : List UInt8 := [115, 119, 107, 117, 97, 100, 109, 114]
def letter (k : Nat) : UInt8 := letters.getD k 0
def textL (r : Nat) : List UInt8 := (List.range 8).map fun k => if bitB r k then letter k else 45
/-- What a text's letters at their places give, the first k places. -/
def rUp (s : List UInt8) : Nat → Nat
  | 0 => 0
  | k + 1 => rUp s k + if k < s.length ∧ s.getD k 0 = letter k then 2 ^ k else 0
def rOf (s : List UInt8) : Nat := rUp s 8

theorem bitB_eq (r k : Nat) : bitB r k = r.testBit k := by
  rw [Nat.testBit_eq_decide_div_mod_eq, bitB]
  cases h : decide (r / 2 ^ k % 2 = 1) <;> simp at h ⊢ <;> omega

theorem comp_bit (a k : Nat) (ha : a < 256) (hk : k < 8) : (255 - a).testBit k = !bitB a k := by
  have h : ∀ a : Fin 256, ∀ k : Fin 8, (255 - a.val).testBit k.val = !bitB a.val k.val := by decide +kernel
  exact h ⟨a, ha⟩ ⟨k, hk⟩

theorem among_and (a b : Nat) (ha : a < 256) (hb : b < 256) : (b &&& (255 - a) == 0) = among b a := by
  rw [Bool.eq_iff_iff, beq_iff_eq, among, List.all_eq_true]
  constructor
  · intro h k hk
    have hk8 : k < 8 := List.mem_range.1 hk
    have e : (b &&& (255 - a)).testBit k = false := by rw [h]; exact Nat.zero_testBit k
    rw [Nat.testBit_and, comp_bit a k ha hk8, ← bitB_eq] at e
    cases h1 : bitB b k <;> cases h2 : bitB a k <;> simp_all
  · intro h
    refine Nat.eq_of_testBit_eq fun i => ?_
    rw [Nat.testBit_and, Nat.zero_testBit]
    by_cases hi : i < 8
    · have := h i (List.mem_range.2 hi)
      rw [comp_bit a i ha hi, ← bitB_eq]
      cases h1 : bitB b i <;> cases h2 : bitB a i <;> simp_all
    · have : b.testBit i = false := Nat.testBit_lt_two_pow (Nat.lt_of_lt_of_le hb (by have : 2 ^ 8 ≤ 2 ^ i := Nat.pow_le_pow_right (by decide) (by omega); simpa using this))
      simp [this]

theorem narrow_ne (a b : Int) (h1 : 0 ≤ a) (h2 : a < 256) (h3 : 0 ≤ b) (h4 : b < 256) : (bits .andNot .u8 b a != 0) = !among b.toNat a.toNat := by
  rw [u8_andNot b a h3 h4 h1 h2, ← among_and a.toNat b.toNat (by omega) (by omega)]
  generalize b.toNat &&& (255 - a.toNat) = n
  cases n <;> rfl

theorem rUp_lt (s : List UInt8) (k : Nat) : rUp s k < 2 ^ k := by
  induction k with
  | zero => simp [rUp]
  | succ k ih => rw [rUp, Nat.pow_succ]; split <;> omega

theorem rOf_textL (n : Nat) (hn : n < 256) : rOf (textL n) = n := by
  have h : ∀ n : Fin 256, rOf (textL n.val) = n.val := by decide +kernel
  exact h ⟨n, hn⟩
end Go.Proofs.Ytbknmfegckeogaa
