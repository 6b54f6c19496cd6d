/- code.shape with its word. -/
import Derived.Test.YtnbkpminecoddaaDoorStepShape
namespace Go.Proofs.YtnbkpminecoddaaDoor
open Go.RowKit
set_option linter.unusedVariables false
set_option linter.unusedSimpArgs false

/-- An operation's word. -/
def wordOf (k : Int) : ByteArray :=
  if k = 0 then ⟨#[110, 111, 112]⟩ else if k = 1 then ⟨#[99, 111, 110, 115, 116]⟩ else if k = 2 then ⟨#[97, 100, 100]⟩ else if k = 3 then ⟨#[115, 117, 98]⟩ else if k = 4 then ⟨#[109, 117, 108]⟩ else if k = 5 then ⟨#[106, 117, 109, 112]⟩
  else if k = 6 then ⟨#[122, 101, 114, 111]⟩ else if k = 7 then ⟨#[99, 111, 100, 101]⟩ else if 16 < k ∧ k ≤ 38 then ⟨#[99, 97, 108, 108]⟩ else ⟨#[]⟩
theorem shape_w (k : Int) (h0 : 0 ≤ k) (w : World) : Calls Tryd.prog 22 #[.int .u8 k] w fun e w' => e = .returned (.tuple #[.string (wordOf k), .string (argsOf k), .bool (okOf k)]) ∧ Below w.heap.size w w' := by
  by_cases h8 : k < 8
  · have hk : k = 0 ∨ k = 1 ∨ k = 2 ∨ k = 3 ∨ k = 4 ∨ k = 5 ∨ k = 6 ∨ k = 7 := by omega
    rcases hk with rfl | rfl | rfl | rfl | rfl | rfl | rfl | rfl
    · exact (shape_other 0 (by rfl) ⟨#[110, 111, 112, 32]⟩ ⟨#[110, 111, 112]⟩ ⟨#[]⟩ true true rfl rfl (cut_hit _ _ _ 3 (by kernel_rfl) (by kernel_rfl) (by decide) (by decide) (by kernel_rfl) (by kernel_rfl)) w)
    · exact (shape_other 1 (by rfl) ⟨#[99, 111, 110, 115, 116, 32, 97, 110]⟩ ⟨#[99, 111, 110, 115, 116]⟩ ⟨#[97, 110]⟩ true true rfl rfl (cut_hit _ _ _ 5 (by kernel_rfl) (by kernel_rfl) (by decide) (by decide) (by kernel_rfl) (by kernel_rfl)) w)
    · exact (shape_other 2 (by rfl) ⟨#[97, 100, 100, 32, 97, 98, 99]⟩ ⟨#[97, 100, 100]⟩ ⟨#[97, 98, 99]⟩ true true rfl rfl (cut_hit _ _ _ 3 (by kernel_rfl) (by kernel_rfl) (by decide) (by decide) (by kernel_rfl) (by kernel_rfl)) w)
    · exact (shape_other 3 (by rfl) ⟨#[115, 117, 98, 32, 97, 98, 99]⟩ ⟨#[115, 117, 98]⟩ ⟨#[97, 98, 99]⟩ true true rfl rfl (cut_hit _ _ _ 3 (by kernel_rfl) (by kernel_rfl) (by decide) (by decide) (by kernel_rfl) (by kernel_rfl)) w)
    · exact (shape_other 4 (by rfl) ⟨#[109, 117, 108, 32, 97, 98, 99]⟩ ⟨#[109, 117, 108]⟩ ⟨#[97, 98, 99]⟩ true true rfl rfl (cut_hit _ _ _ 3 (by kernel_rfl) (by kernel_rfl) (by decide) (by decide) (by kernel_rfl) (by kernel_rfl)) w)
    · exact (shape_other 5 (by rfl) ⟨#[106, 117, 109, 112, 32, 100]⟩ ⟨#[106, 117, 109, 112]⟩ ⟨#[100]⟩ true true rfl rfl (cut_hit _ _ _ 4 (by kernel_rfl) (by kernel_rfl) (by decide) (by decide) (by kernel_rfl) (by kernel_rfl)) w)
    · exact (shape_other 6 (by rfl) ⟨#[122, 101, 114, 111, 32, 97, 100]⟩ ⟨#[122, 101, 114, 111]⟩ ⟨#[97, 100]⟩ true true rfl rfl (cut_hit _ _ _ 4 (by kernel_rfl) (by kernel_rfl) (by decide) (by decide) (by kernel_rfl) (by kernel_rfl)) w)
    · exact (shape_other 7 (by rfl) ⟨#[99, 111, 100, 101, 32, 97]⟩ ⟨#[99, 111, 100, 101]⟩ ⟨#[97]⟩ true true rfl rfl (cut_hit _ _ _ 4 (by kernel_rfl) (by kernel_rfl) (by decide) (by decide) (by kernel_rfl) (by kernel_rfl)) w)
  · by_cases hc : 16 < k ∧ k ≤ 38
    · have e1 : argsOf k = ⟨#[107]⟩ := by
        unfold argsOf
        rw [if_neg (by omega), if_neg (by omega), if_neg (by omega), if_neg (by omega), if_neg (by omega), if_pos hc]
      have e2 : okOf k = true := by simp [okOf, hc.1, hc.2]
      have e4 : wordOf k = ⟨#[99, 97, 108, 108]⟩ := by
        unfold wordOf
        rw [if_neg (by omega), if_neg (by omega), if_neg (by omega), if_neg (by omega), if_neg (by omega), if_neg (by omega), if_neg (by omega), if_neg (by omega), if_pos hc]
      rw [e1, e2, e4]
      exact (shape_call k hc.1 hc.2 w)
    · have e1 : argsOf k = ⟨#[]⟩ := by
        unfold argsOf
        rw [if_neg (by omega), if_neg (by omega), if_neg (by omega), if_neg (by omega), if_neg (by omega), if_neg hc]
      have e3 : (decide (16 < k) && decide (k ≤ 38)) = false := by simpa using fun h => Int.not_le.1 fun h' => hc ⟨h, h'⟩
      have e2 : okOf k = false := by simp [okOf, e3]; omega
      have e4 : wordOf k = ⟨#[]⟩ := by
        unfold wordOf
        rw [if_neg (by omega), if_neg (by omega), if_neg (by omega), if_neg (by omega), if_neg (by omega), if_neg (by omega), if_neg (by omega), if_neg (by omega), if_neg hc]
      rw [e1, e2, e4]
      have hl := look_none k (by omega)
      exact (shape_other k e3 ⟨#[]⟩ ⟨#[]⟩ ⟨#[]⟩ false false (by rw [hl]; rfl) (by rw [hl]; rfl) (fun w => cut_of _ _ _ false w (cutL_miss _ (by kernel_rfl) (by kernel_rfl) w)) w)
end Go.Proofs.YtnbkpminecoddaaDoor
