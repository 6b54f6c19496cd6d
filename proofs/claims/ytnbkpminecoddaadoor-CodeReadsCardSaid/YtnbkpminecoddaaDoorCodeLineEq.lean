/- The program's line and the reference's are one text. -/
import Derived.Test.YtnbkpminecoddaaDoorCodeRefL
namespace Go.Proofs.YtnbkpminecoddaaDoor
open Go.RowKit
set_option linter.unusedVariables false
set_option linter.unusedSimpArgs false

/-- The reference's line; nothing: there is none. -/
def refLineL (k a b c : Int) : List UInt8 :=
  if k = 0 then (if a = 0 ∧ b = 0 ∧ c = 0 then [110, 111, 112] else [])
  else if k = 1 then [99, 111, 110, 115, 116, 32] ++ Lib.itoa a ++ [32] ++ Lib.itoa (256 * b + c)
  else if k = 2 then [97, 100, 100] ++ threeL a b c
  else if k = 3 then [115, 117, 98] ++ threeL a b c
  else if k = 4 then [109, 117, 108] ++ threeL a b c
  else if k = 5 then (if a = 0 then [106, 117, 109, 112, 32] ++ Lib.itoa (jmpN (256 * b + c)) else [])
  else if k = 6 then [122, 101, 114, 111, 32] ++ Lib.itoa a ++ [32] ++ Lib.itoa (jmpN (256 * b + c))
  else if k = 7 then (if b = 0 ∧ c = 0 then [99, 111, 100, 101, 32] ++ Lib.itoa a else [])
  else if 17 ≤ k ∧ k ≤ 38 then (if a = 0 ∧ b = 0 ∧ c = 0 then [99, 97, 108, 108, 32] ++ Lib.itoa (k - 16) else [])
  else []
theorem refLine_is (k a b c : Int) (hk : 0 ≤ k ∧ k < 256) (ha : 0 ≤ a ∧ a < 256) (hb : 0 ≤ b ∧ b < 256) (hc : 0 ≤ c ∧ c < 256) (w : World) :
    Calls Tryd.prog 31 #[insV k a b c] w fun e w' => e = .returned (.string (strL (refLineL k a b c))) ∧ Below w.heap.size w w' := by
  by_cases h8 : k < 8
  · have hk' : k = 0 ∨ k = 1 ∨ k = 2 ∨ k = 3 ∨ k = 4 ∨ k = 5 ∨ k = 6 ∨ k = 7 := by omega
    rcases hk' with rfl | rfl | rfl | rfl | rfl | rfl | rfl | rfl
    · unfold refLineL
      rw [if_pos rfl]
      by_cases h : a = 0 ∧ b = 0 ∧ c = 0
      · rw [if_pos h]; exact rl_nop a b c ha hb hc h.1 h.2.1 h.2.2 w
      · rw [if_neg h]; exact rl_nopn a b c ha hb hc h w
    · exact rl_const a b c ha hb hc w
    · exact rl_add a b c ha hb hc w
    · exact rl_sub a b c ha hb hc w
    · exact rl_mul a b c ha hb hc w
    · show Calls _ _ _ _ fun e w' => e = .returned (.string (strL (if a = 0 then _ else _))) ∧ _
      by_cases h : a = 0
      · rw [if_pos h]; exact rl_jump a b c ha hb hc h w
      · rw [if_neg h]; exact rl_jumpn a b c ha hb hc h w
    · exact rl_zero a b c ha hb hc w
    · show Calls _ _ _ _ fun e w' => e = .returned (.string (strL (if b = 0 ∧ c = 0 then _ else _))) ∧ _
      by_cases h : b = 0 ∧ c = 0
      · rw [if_pos h]; exact rl_code a b c ha hb hc h.1 h.2 w
      · rw [if_neg h]; exact rl_coden a b c ha hb hc h w
  · unfold refLineL
    rw [if_neg (by omega), if_neg (by omega), if_neg (by omega), if_neg (by omega), if_neg (by omega), if_neg (by omega), if_neg (by omega), if_neg (by omega)]
    by_cases hc' : 17 ≤ k ∧ k ≤ 38
    · rw [if_pos hc']
      by_cases h : a = 0 ∧ b = 0 ∧ c = 0
      · rw [if_pos h]; exact rl_call k a b c ha hb hc h.1 h.2.1 h.2.2 hc' w
      · rw [if_neg h]; exact rl_calln k a b c ha hb hc hc' h w
    · rw [if_neg hc']
      by_cases h : k < 17
      · exact rl_lo k a b c ha hb hc ⟨by omega, h⟩ w
      · exact rl_hi k a b c ha hb hc ⟨by omega, hk.2⟩ w

theorem i64_id {z : Int} (h : 0 ≤ z ∧ z < 65536) : IntKind.i64.wrap z = z := by rw [IntKind.wrap_i64]; omega
/-- An instruction's line by the program, if it is plain. -/
def lineP (k a b c : Int) : Option ByteArray := if plF a b c (argsOf k) (argsOf k).size = (a, b, c) then some (lineS tI k a b c) else none
theorem line_eq (k a b c : Int) (hk : 0 ≤ k ∧ k < 256) (ha : 0 ≤ a ∧ a < 256) (hb : 0 ≤ b ∧ b < 256) (hc : 0 ≤ c ∧ c < 256) (hok : okOf k = true) :
    lineP k a b c = if refLineL k a b c = [] then none else some (strL (refLineL k a b c)) := by
  have va : ∀ k, valL k a b c 97 = a := fun k => i64_id (by omega)
  have vb : ∀ k, valL k a b c 98 = b := fun k => i64_id (by omega)
  have vc : ∀ k, valL k a b c 99 = c := fun k => i64_id (by omega)
  have vn : ∀ k, valL k a b c 110 = 256 * b + c := fun k => numR_val hb.1 hb.2 hc.1 hc.2
  have vd : ∀ k, valL k a b c 100 = jmpN (256 * b + c) := fun k => jmpR_val hb.1 hb.2 hc.1 hc.2
  have ta := tI_str (z := a) (by omega)
  have tb := tI_str (z := b) (by omega)
  have tc := tI_str (z := c) (by omega)
  have tn := tI_str (z := 256 * b + c) (by omega)
  have td := tI_str (z := jmpN (256 * b + c)) (by unfold jmpN; split <;> omega)
  have sp : (⟨#[32]⟩ : ByteArray) = strL [32] := rfl
  by_cases h8 : k < 8
  · have hk' : k = 0 ∨ k = 1 ∨ k = 2 ∨ k = 3 ∨ k = 4 ∨ k = 5 ∨ k = 6 ∨ k = 7 := by omega
    rcases hk' with rfl | rfl | rfl | rfl | rfl | rfl | rfl | rfl
    · have e : plF a b c (argsOf 0) (argsOf 0).size = (0, 0, 0) := rfl
      unfold lineP refLineL
      rw [e, if_pos rfl]
      by_cases h : a = 0 ∧ b = 0 ∧ c = 0
      · rw [if_pos h, if_pos (by rw [h.1, h.2.1, h.2.2]), if_neg (by decide)]; rfl
      · rw [if_neg h, if_neg (fun he => h (by injection he with e1 e2; injection e2 with e2 e3; exact ⟨e1.symm, e2.symm, e3.symm⟩)), if_pos rfl]
    · have e : plF a b c (argsOf 1) (argsOf 1).size = (a, b, c) := rfl
      have el : lineS tI 1 a b c = strL [99, 111, 110, 115, 116] ++ (⟨#[32]⟩ ++ tI (valL 1 a b c 97)) ++ (⟨#[32]⟩ ++ tI (valL 1 a b c 110)) := rfl
      unfold lineP
      rw [if_pos e, el, va, vn, ta, tn, sp]
      show _ = if ([99, 111, 110, 115, 116, 32] ++ Lib.itoa a ++ [32] ++ Lib.itoa (256 * b + c)) = [] then none else some (strL ([99, 111, 110, 115, 116, 32] ++ Lib.itoa a ++ [32] ++ Lib.itoa (256 * b + c)))
      rw [if_neg (by simp)]
      simp only [str_add]
      simp
    · have e : plF a b c (argsOf 2) (argsOf 2).size = (a, b, c) := rfl
      have el : lineS tI 2 a b c = strL [97, 100, 100] ++ (⟨#[32]⟩ ++ tI (valL 2 a b c 97)) ++ (⟨#[32]⟩ ++ tI (valL 2 a b c 98)) ++ (⟨#[32]⟩ ++ tI (valL 2 a b c 99)) := rfl
      unfold lineP
      rw [if_pos e, el, va, vb, vc, ta, tb, tc, sp]
      show _ = if ([97, 100, 100] ++ threeL a b c) = [] then none else some (strL ([97, 100, 100] ++ threeL a b c))
      rw [if_neg (by simp)]
      simp only [str_add, threeL]
      simp
    · have e : plF a b c (argsOf 3) (argsOf 3).size = (a, b, c) := rfl
      have el : lineS tI 3 a b c = strL [115, 117, 98] ++ (⟨#[32]⟩ ++ tI (valL 3 a b c 97)) ++ (⟨#[32]⟩ ++ tI (valL 3 a b c 98)) ++ (⟨#[32]⟩ ++ tI (valL 3 a b c 99)) := rfl
      unfold lineP
      rw [if_pos e, el, va, vb, vc, ta, tb, tc, sp]
      show _ = if ([115, 117, 98] ++ threeL a b c) = [] then none else some (strL ([115, 117, 98] ++ threeL a b c))
      rw [if_neg (by simp)]
      simp only [str_add, threeL]
      simp
    · have e : plF a b c (argsOf 4) (argsOf 4).size = (a, b, c) := rfl
      have el : lineS tI 4 a b c = strL [109, 117, 108] ++ (⟨#[32]⟩ ++ tI (valL 4 a b c 97)) ++ (⟨#[32]⟩ ++ tI (valL 4 a b c 98)) ++ (⟨#[32]⟩ ++ tI (valL 4 a b c 99)) := rfl
      unfold lineP
      rw [if_pos e, el, va, vb, vc, ta, tb, tc, sp]
      show _ = if ([109, 117, 108] ++ threeL a b c) = [] then none else some (strL ([109, 117, 108] ++ threeL a b c))
      rw [if_neg (by simp)]
      simp only [str_add, threeL]
      simp
    · have e : plF a b c (argsOf 5) (argsOf 5).size = (0, b, c) := rfl
      have el : lineS tI 5 a b c = strL [106, 117, 109, 112] ++ (⟨#[32]⟩ ++ tI (valL 5 a b c 100)) := rfl
      unfold lineP
      rw [e, el, vd, td, sp]
      show _ = if (if a = 0 then [106, 117, 109, 112, 32] ++ Lib.itoa (jmpN (256 * b + c)) else []) = [] then none else some (strL (if a = 0 then [106, 117, 109, 112, 32] ++ Lib.itoa (jmpN (256 * b + c)) else []))
      by_cases h : a = 0
      · rw [if_pos h, if_pos (by rw [h]), if_neg (by simp)]
        simp only [str_add]
        simp
      · rw [if_neg h, if_neg (fun he => h (by injection he with e1 e2; exact e1.symm)), if_pos rfl]
    · have e : plF a b c (argsOf 6) (argsOf 6).size = (a, b, c) := rfl
      have el : lineS tI 6 a b c = strL [122, 101, 114, 111] ++ (⟨#[32]⟩ ++ tI (valL 6 a b c 97)) ++ (⟨#[32]⟩ ++ tI (valL 6 a b c 100)) := rfl
      unfold lineP
      rw [if_pos e, el, va, vd, ta, td, sp]
      show _ = if ([122, 101, 114, 111, 32] ++ Lib.itoa a ++ [32] ++ Lib.itoa (jmpN (256 * b + c))) = [] then none else some (strL ([122, 101, 114, 111, 32] ++ Lib.itoa a ++ [32] ++ Lib.itoa (jmpN (256 * b + c))))
      rw [if_neg (by simp)]
      simp only [str_add]
      simp
    · have e : plF a b c (argsOf 7) (argsOf 7).size = (a, 0, 0) := rfl
      have el : lineS tI 7 a b c = strL [99, 111, 100, 101] ++ (⟨#[32]⟩ ++ tI (valL 7 a b c 97)) := rfl
      unfold lineP
      rw [e, el, va, ta, sp]
      show _ = if (if b = 0 ∧ c = 0 then [99, 111, 100, 101, 32] ++ Lib.itoa a else []) = [] then none else some (strL (if b = 0 ∧ c = 0 then [99, 111, 100, 101, 32] ++ Lib.itoa a else []))
      by_cases h : b = 0 ∧ c = 0
      · rw [if_pos h, if_pos (by rw [h.1, h.2]), if_neg (by simp)]
        simp only [str_add]
        simp
      · rw [if_neg h, if_neg (fun he => h (by injection he with e1 e2; injection e2 with e2 e3; exact ⟨e2.symm, e3.symm⟩)), if_pos rfl]
  · have hc' : 17 ≤ k ∧ k ≤ 38 := by
      unfold okOf at hok
      simp at hok
      omega
    have e1 : argsOf k = ⟨#[107]⟩ := by
      unfold argsOf
      rw [if_neg (by omega), if_neg (by omega), if_neg (by omega), if_neg (by omega), if_neg (by omega), if_pos (by omega)]
    have e2 : wordOf k = ⟨#[99, 97, 108, 108]⟩ := by
      unfold wordOf
      rw [if_neg (by omega), if_neg (by omega), if_neg (by omega), if_neg (by omega), if_neg (by omega), if_neg (by omega), if_neg (by omega), if_neg (by omega), if_pos (by omega)]
    have e : plF a b c (argsOf k) (argsOf k).size = (0, 0, 0) := by rw [e1]; rfl
    have el : lineS tI k a b c = wordOf k ++ (⟨#[32]⟩ ++ tI (valL k a b c 107)) := by
      unfold lineS
      rw [e1]
      rfl
    have vk : valL k a b c 107 = k - 16 := by
      show IntKind.i64.wrap (IntKind.u8.wrap (k - 16)) = k - 16
      rw [IntKind.wrap_u8, show (k - 16) % 256 = k - 16 from by omega]
      exact i64_id (by omega)
    have tk := tI_str (z := k - 16) (by omega)
    have hR : refLineL k a b c = if a = 0 ∧ b = 0 ∧ c = 0 then [99, 97, 108, 108, 32] ++ Lib.itoa (k - 16) else [] := by
      unfold refLineL
      rw [if_neg (by omega), if_neg (by omega), if_neg (by omega), if_neg (by omega), if_neg (by omega), if_neg (by omega), if_neg (by omega), if_neg (by omega), if_pos hc']
    unfold lineP
    rw [hR, e, el, vk, tk, e2, sp]
    by_cases h : a = 0 ∧ b = 0 ∧ c = 0
    · rw [if_pos h, if_pos (by rw [h.1, h.2.1, h.2.2]), if_neg (by simp)]
      rw [show (⟨#[99, 97, 108, 108]⟩ : ByteArray) = strL [99, 97, 108, 108] from rfl]
      simp only [str_add]
      simp
    · rw [if_neg h, if_neg (fun he => h (by injection he with e1 e2; injection e2 with e2 e3; exact ⟨e1.symm, e2.symm, e3.symm⟩)), if_pos rfl]
end Go.Proofs.YtnbkpminecoddaaDoor
