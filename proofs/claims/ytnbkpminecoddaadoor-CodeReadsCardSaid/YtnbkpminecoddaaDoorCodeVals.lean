/- The numbers that an instruction's bytes spell, in plain arithmetic. -/
import Derived.Test.YtnbkpminecoddaaDoorCodeNum
namespace Go.Proofs.YtnbkpminecoddaaDoor
open Go.RowKit
set_option linter.unusedVariables false
set_option linter.unusedSimpArgs false

theorem numR_val {b c : Int} (hb0 : 0 ≤ b) (hb : b < 256) (hc0 : 0 ≤ c) (hc : c < 256) : numR b c = 256 * b + c := by
  have hw : ∀ z : Int, 0 ≤ z → z < 65536 → wrap64 z = z := fun z h0 h1 => by unfold wrap64; omega
  unfold numR
  rw [hw b hb0 (by omega), hw c hc0 (by omega), hw (b * 256) (by omega) (by omega)]
  obtain ⟨x, rfl⟩ : ∃ x : Nat, b = (x : Int) := ⟨b.toNat, by omega⟩
  obtain ⟨y, rfl⟩ : ∃ y : Nat, c = (y : Int) := ⟨c.toNat, by omega⟩
  have hx : x < 256 := by omega
  have hy : y < 256 := by omega
  have key : (BitVec.ofInt 64 ((x : Int) * 256) ||| BitVec.ofInt 64 (y : Int)).toNat = 256 * x + y := by
    have e1 : BitVec.ofInt 64 ((x : Int) * 256) = BitVec.ofNat 64 (x * 256) := by
      rw [show ((x : Int) * 256) = ((x * 256 : Nat) : Int) from by omega]; exact BitVec.ofInt_natCast ..
    have e2 : BitVec.ofInt 64 (y : Int) = BitVec.ofNat 64 y := BitVec.ofInt_natCast ..
    rw [e1, e2, BitVec.toNat_or, BitVec.toNat_ofNat, BitVec.toNat_ofNat, Nat.mod_eq_of_lt (by omega), Nat.mod_eq_of_lt (by omega), Nat.mul_comm x 256]
    have := Nat.two_pow_add_eq_or_of_lt (i := 8) hy x
    simpa using this.symm
  show IntKind.i64.wrap ((BitVec.ofInt 64 ((x : Int) * 256) ||| BitVec.ofInt 64 (y : Int)).toNat : Int) = _
  rw [key, IntKind.wrap_i64]
  omega
theorem jmpR_val {b c : Int} (hb0 : 0 ≤ b) (hb : b < 256) (hc0 : 0 ≤ c) (hc : c < 256) : jmpR b c = if 256 * b + c < 32768 then 256 * b + c else 256 * b + c - 65536 := by
  unfold jmpR
  rw [numR_val hb0 hb hc0 hc]
  have e : IntKind.i16.wrap (256 * b + c) = if 256 * b + c < 32768 then 256 * b + c else 256 * b + c - 65536 := by
    unfold IntKind.wrap
    simp only [IntKind.bits, IntKind.signed, Bool.true_and, Nat.add_one_sub_one]
    have e1 : (2 : Int) ^ 16 = 65536 := by decide
    have e2 : (2 : Int) ^ 15 = 32768 := by decide
    simp only [e1, e2, decide_eq_true_eq, ge_iff_le]
    split <;> split <;> omega
  rw [e]
  unfold wrap64
  split <;> omega
end Go.Proofs.YtnbkpminecoddaaDoor
