/- A number's text in plain Lean, by so many digits: what the library's Itoa tells of small numbers. -/
import Derived.Test.YtnbkpminecoddaaDoorCodeVals
import Derived.Test.YtnbkpminecoddaaDoorCodeLine
import Derived.Lib.ItoaMem
namespace Go.Proofs.YtnbkpminecoddaaDoor
open Go.RowKit
set_option linter.unusedVariables false

/-- A number's digits, at most so many. -/
def dd : Nat → Nat → List UInt8
  | 0, _ => []
  | f + 1, u => if u < 10 then [UInt8.ofNat (48 + u)] else dd f (u / 10) ++ [UInt8.ofNat (48 + u % 10)]
theorem dd_eq : ∀ (f u : Nat), u < 10 ^ f → dd f u = if f = 0 then [] else Lib.decDigits u
  | 0, u, h => by simp [dd]
  | f + 1, u, h => by
    rw [if_neg (by omega)]
    unfold dd
    split
    · rename_i h10; exact (Lib.decDigits_one h10).symm
    · rename_i h10
      have hf : f ≠ 0 := by rintro rfl; simp at h; omega
      rw [dd_eq f (u / 10) (by rw [Nat.pow_succ] at h; omega), if_neg hf]
      exact (by rw [Lib.decDigits, dif_neg h10] : Lib.decDigits u = _).symm
theorem dd_len : ∀ f u, (dd f u).length ≤ f
  | 0, _ => by simp [dd]
  | f + 1, u => by
    unfold dd
    split
    · simp
    · have := dd_len f (u / 10); simp; omega
/-- A number's text. -/
def numT (z : Int) : List UInt8 := if z < 0 then 45 :: dd 6 z.natAbs else dd 6 z.toNat
def tI (z : Int) : ByteArray := ⟨(numT z).toArray⟩
theorem numT_itoa {z : Int} (h : z.natAbs < 1000000) : numT z = Lib.itoa z := by
  unfold numT Lib.itoa
  split
  · rw [dd_eq 6 _ (by omega), if_neg (by omega)]
  · rw [dd_eq 6 _ (by omega), if_neg (by omega)]
theorem tI_size (z : Int) : (tI z).size ≤ 100 := by
  show ((numT z).toArray).size ≤ 100
  unfold numT
  split
  · have := dd_len 6 z.natAbs; simp; omega
  · have := dd_len 6 z.toNat; simp; omega
/-- What a letter names is small. -/
theorem valL_small {k a b c : Int} (hk : 0 ≤ k ∧ k < 256) (ha : 0 ≤ a ∧ a < 256) (hb : 0 ≤ b ∧ b < 256) (hc : 0 ≤ c ∧ c < 256) (q : Int) : -32768 ≤ valL k a b c q ∧ valL k a b c q ≤ 65535 := by
  have hw : ∀ z : Int, 0 ≤ z → z < 65536 → IntKind.i64.wrap z = z := fun z h0 h1 => by rw [IntKind.wrap_i64]; omega
  unfold valL
  split
  · rw [hw a (by omega) (by omega)]; omega
  · split
    · rw [hw b (by omega) (by omega)]; omega
    · split
      · rw [hw c (by omega) (by omega)]; omega
      · split
        · rw [numR_val hb.1 hb.2 hc.1 hc.2]; omega
        · split
          · rw [jmpR_val hb.1 hb.2 hc.1 hc.2]; split <;> omega
          · split
            · have : 0 ≤ IntKind.u8.wrap (k - 16) ∧ IntKind.u8.wrap (k - 16) < 256 := by rw [IntKind.wrap_u8]; omega
              rw [hw _ this.1 (by omega)]; omega
            · omega
end Go.Proofs.YtnbkpminecoddaaDoor
