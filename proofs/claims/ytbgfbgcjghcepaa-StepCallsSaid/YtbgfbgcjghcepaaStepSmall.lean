/- code.Len, code.Number, code.Jump, step.jump, step.reckon, by walk. -/
import Derived.Test.YtbgfbgcjghcepaaStepDecodeD
namespace Go.Proofs.Ytbgfbgcjghcepaa
open Go.RowKit
set_option linter.unusedVariables false
set_option linter.unusedSimpArgs false

set_option maxHeartbeats 1000000 in
theorem len_is (A : Option Addr) (n cap : Nat) (hn : n < 1000000000) (w : World) : Calls Try.prog 13 #[.slice A n cap] w fun e w' => e = .returned (.int .i64 ((n / 4 : Nat) : Int)) ∧ w' = w := by
  go_enter Try.func13, Try.ntmps13
  go_wp2
  go_ret
  exact ⟨rfl, rfl⟩

/-- The number in an instruction's last two bytes. -/
def numR (b c : Int) : Int := bits .or .i64 (wrap64 (wrap64 b * 256)) (wrap64 c)

set_option maxHeartbeats 1000000 in
theorem number_is (k a b c : Int) (w : World) : Calls Try.prog 17 #[insV k a b c] w fun e w' => e = .returned (.int .i64 (numR b c)) ∧ Below w.heap.size w w' := by
  unfold insV
  go_enter Try.func17, Try.ntmps17
  go_wp2
  go_ret
  exact ⟨rfl, (Below.refl _ _).alloc (Nat.le_refl _) _⟩
/-- How far a jump goes. -/
def jmpR (b c : Int) : Int := wrap64 (IntKind.i16.wrap (numR b c))

set_option maxHeartbeats 1000000 in
theorem jumpc_is (k a b c : Int) (w : World) : Calls Try.prog 26 #[insV k a b c] w fun e w' => e = .returned (.int .i64 (jmpR b c)) ∧ Below w.heap.size w w' := by
  have N := number_is k a b c
  unfold jmpR
  generalize numR b c = z at *
  unfold insV at *
  go_enter Try.func26, Try.ntmps26
  go_wp2_with (go_at_call 17; refine (N _).mono ?_; rintro e w2 ⟨rfl, hb⟩)
  go_ret
  exact ⟨rfl, ((Below.refl w.heap.size w).alloc (Nat.le_refl _) (.cells #[.int .u8 k, .int .u8 a, .int .u8 b, .int .u8 c] 45)).trans (hb.mono (by simp))⟩

/-- Where a jump leads. -/
def toR (pc b c : Int) : Int := wrap64 (wrap64 (pc + 1) + jmpR b c)

set_option maxHeartbeats 2000000 in
theorem jump_in (A : Option Addr) (n cap : Nat) (hn : n < 1000000000) (pc k a b c : Int) (h : ¬ (toR pc b c < 0 ∨ ((n / 4 : Nat) : Int) < toR pc b c)) (w : World) : Calls Try.prog 19 #[.slice A n cap, .int .i64 pc, insV k a b c] w fun e w' => e = .returned (.int .i64 (toR pc b c)) ∧ Below w.heap.size w w' := by
  have N := jumpc_is k a b c
  have LN := len_is A n cap hn
  obtain ⟨t, ht⟩ : ∃ t, t = toR pc b c := ⟨_, rfl⟩
  have ht2 : wrap64 (wrap64 (pc + 1) + jmpR b c) = t := ht.symm
  rw [← ht] at h ⊢
  have h1 : ¬ t < 0 := fun e => h (.inl e)
  have h2 : ¬ ((n / 4 : Nat) : Int) < t := fun e => h (.inr e)
  generalize jmpR b c = z at *
  generalize ((n / 4 : Nat) : Int) = m at *
  clear ht h
  unfold insV at *
  go_enter Try.func19, Try.ntmps19
  go_wp2_with (first | (go_at_call 26; refine (N _).mono ?_; rintro e w2 ⟨rfl, hb⟩) | (go_at_call 13; refine (LN _).mono ?_; rintro e w3 ⟨rfl, rfl⟩))
  go_ret
  exact ⟨rfl, ((Below.refl w.heap.size w).alloc (Nat.le_refl _) (.cells #[.int .u8 k, .int .u8 a, .int .u8 b, .int .u8 c] 45)).trans (hb.mono (by simp))⟩

/-- A fault as a panic carries it. -/
def faultP (z : Int) : List PanicEntry := [{ v := .iface 28 (.int .i64 z), recovered := false }]

set_option maxHeartbeats 2000000 in
theorem jump_out (A : Option Addr) (n cap : Nat) (hn : n < 1000000000) (pc k a b c : Int) (h : toR pc b c < 0 ∨ ((n / 4 : Nat) : Int) < toR pc b c) (w : World) : Calls Try.prog 19 #[.slice A n cap, .int .i64 pc, insV k a b c] w fun e w' => e = .panicked (faultP 7) ∧ Below w.heap.size w w' := by
  have N := jumpc_is k a b c
  have LN := len_is A n cap hn
  obtain ⟨t, ht⟩ : ∃ t, t = toR pc b c := ⟨_, rfl⟩
  have ht2 : wrap64 (wrap64 (pc + 1) + jmpR b c) = t := ht.symm
  rw [← ht] at h
  generalize jmpR b c = z at *
  generalize ((n / 4 : Nat) : Int) = m at *
  clear ht
  unfold insV at *
  by_cases h1 : t < 0
  all_goals
    have h2 : ¬ t < 0 → m < t := fun e => h.resolve_left e
    have h3 := Lib.hid h2
    clear h h2
    try have h4 := h3.out h1
    go_enter Try.func19, Try.ntmps19
    go_wp2_with (first | (go_at_call 26; refine (N _).mono ?_; rintro e w2 ⟨rfl, hb⟩) | (go_at_call 13; refine (LN _).mono ?_; rintro e w3 ⟨rfl, rfl⟩))
    exact ⟨rfl, rfl, ((Below.refl w.heap.size w).alloc (Nat.le_refl _) (.cells #[.int .u8 k, .int .u8 a, .int .u8 b, .int .u8 c] 45)).trans (hb.mono (by simp))⟩
end Go.Proofs.Ytbgfbgcjghcepaa
