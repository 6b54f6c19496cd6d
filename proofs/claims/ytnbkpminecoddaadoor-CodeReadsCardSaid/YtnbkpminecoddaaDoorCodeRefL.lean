/- The reference's line, by walk: case by case. -/
import Derived.Test.YtnbkpminecoddaaDoorCodeRefN
import Derived.Test.YtnbkpminecoddaaDoorCodeRefD
namespace Go.Proofs.YtnbkpminecoddaaDoor
open Go.RowKit
set_option linter.unusedVariables false
set_option linter.unusedSimpArgs false

theorem itoa_len {z : Int} (h : z.natAbs < 1000000000) : (Lib.itoa z).length ≤ 10 := by
  unfold Lib.itoa
  split
  · have := dec_len 8 z.natAbs (by omega); simp; omega
  · have := dec_len 8 z.toNat (by omega); omega
def threeL (a b c : Int) : List UInt8 := [32] ++ Lib.itoa a ++ [32] ++ Lib.itoa b ++ [32] ++ Lib.itoa c
theorem threeL_len {a b c : Int} (ha : 0 ≤ a ∧ a < 256) (hb : 0 ≤ b ∧ b < 256) (hc : 0 ≤ c ∧ c < 256) : (threeL a b c).length ≤ 33 := by
  have h1 := itoa_len (z := a) (by omega)
  have h2 := itoa_len (z := b) (by omega)
  have h3 := itoa_len (z := c) (by omega)
  unfold threeL
  simp
  omega
set_option maxRecDepth 100000 in
set_option maxHeartbeats 1000000 in
theorem three_is (a b c : Int) (ha : 0 ≤ a ∧ a < 256) (hb : 0 ≤ b ∧ b < 256) (hc : 0 ≤ c ∧ c < 256) (w : World) : Calls Tryd.prog 45 #[.int .u8 a, .int .u8 b, .int .u8 c] w fun e w' => e = .returned (.string (strL (threeL a b c))) ∧ Below w.heap.size w w' := by
  have N1 := refNum_is a (by omega)
  have N2 := refNum_is b (by omega)
  have N3 := refNum_is c (by omega)
  have h1 := itoa_len (z := a) (by omega)
  have h2 := itoa_len (z := b) (by omega)
  have h3 := itoa_len (z := c) (by omega)
  have e : strL (threeL a b c) = strL [32] ++ strL (Lib.itoa a) ++ strL [32] ++ strL (Lib.itoa b) ++ strL [32] ++ strL (Lib.itoa c) := by simp only [str_add]; rfl
  rw [e]
  clear e
  generalize Lib.itoa a = T1 at *
  generalize Lib.itoa b = T2 at *
  generalize Lib.itoa c = T3 at *
  have s1 : (strL T1).size ≤ 10 := by rw [strL_size]; exact h1
  have s2 : (strL T2).size ≤ 10 := by rw [strL_size]; exact h2
  have s3 : (strL T3).size ≤ 10 := by rw [strL_size]; exact h3
  show Calls _ _ _ _ fun e w' => e = .returned (.string ((⟨#[32]⟩ : ByteArray) ++ strL T1 ++ (⟨#[32]⟩ : ByteArray) ++ strL T2 ++ (⟨#[32]⟩ : ByteArray) ++ strL T3)) ∧ Below w.heap.size w w'
  generalize strL T1 = S1 at *
  generalize strL T2 = S2 at *
  generalize strL T3 = S3 at *
  obtain ⟨ha0, ha1⟩ := ha
  obtain ⟨hb0, hb1⟩ := hb
  obtain ⟨hc0, hc1⟩ := hc
  have n1 : ¬ 9223372036854775807 < 1 + S1.size := by omega
  have n2 : ¬ 9223372036854775807 < 1 + S1.size + 1 := by omega
  have n3 : ¬ 9223372036854775807 < 1 + S1.size + 1 + S2.size := by omega
  have n4 : ¬ 9223372036854775807 < 1 + S1.size + 1 + S2.size + 1 := by omega
  have n5 : ¬ 9223372036854775807 < 1 + S1.size + 1 + S2.size + 1 + S3.size := by omega
  clear h1 h2 h3 s1 s2 s3
  go_enter Tryd.func45, Tryd.ntmps45
  go_wp2_with (first | ((fail_if_success have := k1); go_at_call 44; refine (N1 _).mono ?_; rintro e2 w2 ⟨rfl, hb2⟩; have k1 := trivial) | ((fail_if_success have := k2); go_at_call 44; refine (N2 _).mono ?_; rintro e3 w3 ⟨rfl, hb3⟩; have k2 := trivial) | (go_at_call 44; refine (N3 _).mono ?_; rintro e4 w4 ⟨rfl, hb4⟩))
  go_ret
  exact ⟨rfl, (hb2.trans (hb3.mono hb2.size)).trans (hb4.mono (Nat.le_trans hb2.size hb3.size))⟩
set_option maxRecDepth 100000 in
set_option maxHeartbeats 2000000 in
theorem rl_nop (a b c : Int) (ha : 0 ≤ a ∧ a < 256) (hb : 0 ≤ b ∧ b < 256) (hc : 0 ≤ c ∧ c < 256) (h1 : a = 0) (h2 : b = 0) (h3 : c = 0) (w : World) : Calls Tryd.prog 31 #[insV 0 a b c] w fun e w' => e = .returned (.string (strL ([110, 111, 112]))) ∧ Below w.heap.size w w' := by
  subst h1 h2 h3
  have B0 := (Below.refl w.heap.size w).alloc (Nat.le_refl _) (.cells #[.int .u8 (0 : Int), .int .u8 0, .int .u8 0, .int .u8 0] 26)
  have s0 : w.heap.size ≤ (w.alloc (.cells #[.int .u8 (0 : Int), .int .u8 0, .int .u8 0, .int .u8 0] 26)).heap.size := B0.size
  unfold insV
  obtain ⟨ha0, ha1⟩ := ha
  obtain ⟨hb0, hb1⟩ := hb
  obtain ⟨hc0, hc1⟩ := hc
  go_enter Tryd.func31, Tryd.ntmps31
  go_wp2
  all_goals first
    | (subst_vars; go_ret; exact ⟨rfl, B0⟩)
    | (exfalso; omega)
    | go_wall
set_option maxRecDepth 100000 in
set_option maxHeartbeats 2000000 in
theorem rl_nopn (a b c : Int) (ha : 0 ≤ a ∧ a < 256) (hb : 0 ≤ b ∧ b < 256) (hc : 0 ≤ c ∧ c < 256) (h : ¬ (a = 0 ∧ b = 0 ∧ c = 0)) (w : World) : Calls Tryd.prog 31 #[insV 0 a b c] w fun e w' => e = .returned (.string (strL ([]))) ∧ Below w.heap.size w w' := by
  have B0 := (Below.refl w.heap.size w).alloc (Nat.le_refl _) (.cells #[.int .u8 (0 : Int), .int .u8 a, .int .u8 b, .int .u8 c] 26)
  have s0 : w.heap.size ≤ (w.alloc (.cells #[.int .u8 (0 : Int), .int .u8 a, .int .u8 b, .int .u8 c] 26)).heap.size := B0.size
  unfold insV
  obtain ⟨ha0, ha1⟩ := ha
  obtain ⟨hb0, hb1⟩ := hb
  obtain ⟨hc0, hc1⟩ := hc
  have h' : (a == 0) = false ∨ (b == 0) = false ∨ (c == 0) = false := by simp; omega
  clear h
  rcases h' with h' | h' | h'
  all_goals
    go_enter Tryd.func31, Tryd.ntmps31
    go_wp2
  all_goals first
    | (subst_vars; go_ret; exact ⟨rfl, B0⟩)
    | (exfalso; omega)
    | go_wall
set_option maxRecDepth 100000 in
set_option maxHeartbeats 2000000 in
theorem rl_add (a b c : Int) (ha : 0 ≤ a ∧ a < 256) (hb : 0 ≤ b ∧ b < 256) (hc : 0 ≤ c ∧ c < 256)  (w : World) : Calls Tryd.prog 31 #[insV 2 a b c] w fun e w' => e = .returned (.string (strL ([97, 100, 100] ++ threeL a b c))) ∧ Below w.heap.size w w' := by
  have T1 := three_is a b c ha hb hc
  have h1 := threeL_len ha hb hc
  have e : strL ([97, 100, 100] ++ threeL a b c) = strL [97, 100, 100] ++ strL (threeL a b c) := (str_add _ _).symm
  rw [e]
  clear e
  have s1 : (strL (threeL a b c)).size ≤ 33 := by rw [strL_size]; exact h1
  show Calls _ _ _ _ fun e w' => e = .returned (.string ((⟨#[97, 100, 100]⟩ : ByteArray) ++ strL (threeL a b c))) ∧ Below w.heap.size w w'
  generalize strL (threeL a b c) = S1 at *
  have n1 : ¬ 9223372036854775807 < 3 + S1.size := by omega
  clear h1 s1
  have B0 := (Below.refl w.heap.size w).alloc (Nat.le_refl _) (.cells #[.int .u8 (2 : Int), .int .u8 a, .int .u8 b, .int .u8 c] 26)
  have s0 : w.heap.size ≤ (w.alloc (.cells #[.int .u8 (2 : Int), .int .u8 a, .int .u8 b, .int .u8 c] 26)).heap.size := B0.size
  unfold insV
  obtain ⟨ha0, ha1⟩ := ha
  obtain ⟨hb0, hb1⟩ := hb
  obtain ⟨hc0, hc1⟩ := hc
  go_enter Tryd.func31, Tryd.ntmps31
  go_wp2_with (go_at_call 45; subst_vars; refine (T1 _).mono ?_; rintro e2 w2 ⟨rfl, hb2⟩)
  all_goals
    subst_vars
    go_ret
    exact ⟨rfl, B0.trans (hb2.mono s0)⟩
set_option maxRecDepth 100000 in
set_option maxHeartbeats 2000000 in
theorem rl_sub (a b c : Int) (ha : 0 ≤ a ∧ a < 256) (hb : 0 ≤ b ∧ b < 256) (hc : 0 ≤ c ∧ c < 256)  (w : World) : Calls Tryd.prog 31 #[insV 3 a b c] w fun e w' => e = .returned (.string (strL ([115, 117, 98] ++ threeL a b c))) ∧ Below w.heap.size w w' := by
  have T1 := three_is a b c ha hb hc
  have h1 := threeL_len ha hb hc
  have e : strL ([115, 117, 98] ++ threeL a b c) = strL [115, 117, 98] ++ strL (threeL a b c) := (str_add _ _).symm
  rw [e]
  clear e
  have s1 : (strL (threeL a b c)).size ≤ 33 := by rw [strL_size]; exact h1
  show Calls _ _ _ _ fun e w' => e = .returned (.string ((⟨#[115, 117, 98]⟩ : ByteArray) ++ strL (threeL a b c))) ∧ Below w.heap.size w w'
  generalize strL (threeL a b c) = S1 at *
  have n1 : ¬ 9223372036854775807 < 3 + S1.size := by omega
  clear h1 s1
  have B0 := (Below.refl w.heap.size w).alloc (Nat.le_refl _) (.cells #[.int .u8 (3 : Int), .int .u8 a, .int .u8 b, .int .u8 c] 26)
  have s0 : w.heap.size ≤ (w.alloc (.cells #[.int .u8 (3 : Int), .int .u8 a, .int .u8 b, .int .u8 c] 26)).heap.size := B0.size
  unfold insV
  obtain ⟨ha0, ha1⟩ := ha
  obtain ⟨hb0, hb1⟩ := hb
  obtain ⟨hc0, hc1⟩ := hc
  go_enter Tryd.func31, Tryd.ntmps31
  go_wp2_with (go_at_call 45; subst_vars; refine (T1 _).mono ?_; rintro e2 w2 ⟨rfl, hb2⟩)
  all_goals
    subst_vars
    go_ret
    exact ⟨rfl, B0.trans (hb2.mono s0)⟩
set_option maxRecDepth 100000 in
set_option maxHeartbeats 2000000 in
theorem rl_mul (a b c : Int) (ha : 0 ≤ a ∧ a < 256) (hb : 0 ≤ b ∧ b < 256) (hc : 0 ≤ c ∧ c < 256)  (w : World) : Calls Tryd.prog 31 #[insV 4 a b c] w fun e w' => e = .returned (.string (strL ([109, 117, 108] ++ threeL a b c))) ∧ Below w.heap.size w w' := by
  have T1 := three_is a b c ha hb hc
  have h1 := threeL_len ha hb hc
  have e : strL ([109, 117, 108] ++ threeL a b c) = strL [109, 117, 108] ++ strL (threeL a b c) := (str_add _ _).symm
  rw [e]
  clear e
  have s1 : (strL (threeL a b c)).size ≤ 33 := by rw [strL_size]; exact h1
  show Calls _ _ _ _ fun e w' => e = .returned (.string ((⟨#[109, 117, 108]⟩ : ByteArray) ++ strL (threeL a b c))) ∧ Below w.heap.size w w'
  generalize strL (threeL a b c) = S1 at *
  have n1 : ¬ 9223372036854775807 < 3 + S1.size := by omega
  clear h1 s1
  have B0 := (Below.refl w.heap.size w).alloc (Nat.le_refl _) (.cells #[.int .u8 (4 : Int), .int .u8 a, .int .u8 b, .int .u8 c] 26)
  have s0 : w.heap.size ≤ (w.alloc (.cells #[.int .u8 (4 : Int), .int .u8 a, .int .u8 b, .int .u8 c] 26)).heap.size := B0.size
  unfold insV
  obtain ⟨ha0, ha1⟩ := ha
  obtain ⟨hb0, hb1⟩ := hb
  obtain ⟨hc0, hc1⟩ := hc
  go_enter Tryd.func31, Tryd.ntmps31
  go_wp2_with (go_at_call 45; subst_vars; refine (T1 _).mono ?_; rintro e2 w2 ⟨rfl, hb2⟩)
  all_goals
    subst_vars
    go_ret
    exact ⟨rfl, B0.trans (hb2.mono s0)⟩
set_option maxRecDepth 100000 in
set_option maxHeartbeats 2000000 in
theorem rl_code (a b c : Int) (ha : 0 ≤ a ∧ a < 256) (hb : 0 ≤ b ∧ b < 256) (hc : 0 ≤ c ∧ c < 256) (h2 : b = 0) (h3 : c = 0) (w : World) : Calls Tryd.prog 31 #[insV 7 a b c] w fun e w' => e = .returned (.string (strL ([99, 111, 100, 101, 32] ++ Lib.itoa a))) ∧ Below w.heap.size w w' := by
  subst h2 h3
  have N1 := refNum_is a (by omega)
  have h1 := itoa_len (z := a) (by omega)
  have e : strL ([99, 111, 100, 101, 32] ++ Lib.itoa a) = strL [99, 111, 100, 101, 32] ++ strL (Lib.itoa a) := (str_add _ _).symm
  rw [e]
  clear e
  have s1 : (strL (Lib.itoa a)).size ≤ 10 := by rw [strL_size]; exact h1
  show Calls _ _ _ _ fun e w' => e = .returned (.string ((⟨#[99, 111, 100, 101, 32]⟩ : ByteArray) ++ strL (Lib.itoa a))) ∧ Below w.heap.size w w'
  generalize strL (Lib.itoa a) = S1 at *
  have n1 : ¬ 9223372036854775807 < 5 + S1.size := by omega
  clear h1 s1
  have B0 := (Below.refl w.heap.size w).alloc (Nat.le_refl _) (.cells #[.int .u8 (7 : Int), .int .u8 a, .int .u8 0, .int .u8 0] 26)
  have s0 : w.heap.size ≤ (w.alloc (.cells #[.int .u8 (7 : Int), .int .u8 a, .int .u8 0, .int .u8 0] 26)).heap.size := B0.size
  unfold insV
  obtain ⟨ha0, ha1⟩ := ha
  obtain ⟨hb0, hb1⟩ := hb
  obtain ⟨hc0, hc1⟩ := hc
  go_enter Tryd.func31, Tryd.ntmps31
  go_wp2_with (go_at_call 44; subst_vars; refine (N1 _).mono ?_; rintro e2 w2 ⟨rfl, hb2⟩)
  all_goals
    subst_vars
    go_ret
    exact ⟨rfl, B0.trans (hb2.mono s0)⟩
set_option maxRecDepth 100000 in
set_option maxHeartbeats 2000000 in
theorem rl_coden (a b c : Int) (ha : 0 ≤ a ∧ a < 256) (hb : 0 ≤ b ∧ b < 256) (hc : 0 ≤ c ∧ c < 256) (h : ¬ (b = 0 ∧ c = 0)) (w : World) : Calls Tryd.prog 31 #[insV 7 a b c] w fun e w' => e = .returned (.string (strL ([]))) ∧ Below w.heap.size w w' := by
  have B0 := (Below.refl w.heap.size w).alloc (Nat.le_refl _) (.cells #[.int .u8 (7 : Int), .int .u8 a, .int .u8 b, .int .u8 c] 26)
  have s0 : w.heap.size ≤ (w.alloc (.cells #[.int .u8 (7 : Int), .int .u8 a, .int .u8 b, .int .u8 c] 26)).heap.size := B0.size
  unfold insV
  obtain ⟨ha0, ha1⟩ := ha
  obtain ⟨hb0, hb1⟩ := hb
  obtain ⟨hc0, hc1⟩ := hc
  have h' : (b == 0) = false ∨ (c == 0) = false := by simp; omega
  clear h
  rcases h' with h' | h'
  all_goals
    go_enter Tryd.func31, Tryd.ntmps31
    go_wp2
  all_goals first
    | (subst_vars; go_ret; exact ⟨rfl, B0⟩)
    | (exfalso; omega)
    | go_wall
set_option maxRecDepth 100000 in
set_option maxHeartbeats 2000000 in
theorem rl_jump (a b c : Int) (ha : 0 ≤ a ∧ a < 256) (hb : 0 ≤ b ∧ b < 256) (hc : 0 ≤ c ∧ c < 256) (h1 : a = 0) (w : World) : Calls Tryd.prog 31 #[insV 5 a b c] w fun e w' => e = .returned (.string (strL ([106, 117, 109, 112, 32] ++ Lib.itoa (jmpN (256 * b + c))))) ∧ Below w.heap.size w w' := by
  subst h1
  have J1 := refJump_is 5 0 b c hb hc
  simp only [insV] at J1
  have N1 := refNum_is (jmpN (256 * b + c)) (by unfold jmpN; split <;> omega)
  have h1 := itoa_len (z := (jmpN (256 * b + c))) (by unfold jmpN; split <;> omega)
  have e : strL ([106, 117, 109, 112, 32] ++ Lib.itoa (jmpN (256 * b + c))) = strL [106, 117, 109, 112, 32] ++ strL (Lib.itoa (jmpN (256 * b + c))) := (str_add _ _).symm
  rw [e]
  clear e
  have s1 : (strL (Lib.itoa (jmpN (256 * b + c)))).size ≤ 10 := by rw [strL_size]; exact h1
  show Calls _ _ _ _ fun e w' => e = .returned (.string ((⟨#[106, 117, 109, 112, 32]⟩ : ByteArray) ++ strL (Lib.itoa (jmpN (256 * b + c))))) ∧ Below w.heap.size w w'
  generalize strL (Lib.itoa (jmpN (256 * b + c))) = S1 at *
  have n1 : ¬ 9223372036854775807 < 5 + S1.size := by omega
  clear h1 s1
  have B0 := (Below.refl w.heap.size w).alloc (Nat.le_refl _) (.cells #[.int .u8 (5 : Int), .int .u8 0, .int .u8 b, .int .u8 c] 26)
  have s0 : w.heap.size ≤ (w.alloc (.cells #[.int .u8 (5 : Int), .int .u8 0, .int .u8 b, .int .u8 c] 26)).heap.size := B0.size
  unfold insV
  obtain ⟨ha0, ha1⟩ := ha
  obtain ⟨hb0, hb1⟩ := hb
  obtain ⟨hc0, hc1⟩ := hc
  generalize jmpN (256 * b + c) = z at *
  go_enter Tryd.func31, Tryd.ntmps31
  go_wp2_with (first | (go_at_call 17; subst_vars; refine (J1 _).mono ?_; rintro e3 w3 ⟨rfl, hb3⟩) | (go_at_call 44; refine (N1 _).mono ?_; rintro e2 w2 ⟨rfl, hb2⟩))
  all_goals
    subst_vars
    go_ret
    exact ⟨rfl, B0.trans ((hb3.trans (hb2.mono hb3.size)).mono s0)⟩
set_option maxRecDepth 100000 in
set_option maxHeartbeats 2000000 in
theorem rl_jumpn (a b c : Int) (ha : 0 ≤ a ∧ a < 256) (hb : 0 ≤ b ∧ b < 256) (hc : 0 ≤ c ∧ c < 256) (h : ¬ a = 0) (w : World) : Calls Tryd.prog 31 #[insV 5 a b c] w fun e w' => e = .returned (.string (strL ([]))) ∧ Below w.heap.size w w' := by
  have B0 := (Below.refl w.heap.size w).alloc (Nat.le_refl _) (.cells #[.int .u8 (5 : Int), .int .u8 a, .int .u8 b, .int .u8 c] 26)
  have s0 : w.heap.size ≤ (w.alloc (.cells #[.int .u8 (5 : Int), .int .u8 a, .int .u8 b, .int .u8 c] 26)).heap.size := B0.size
  unfold insV
  obtain ⟨ha0, ha1⟩ := ha
  obtain ⟨hb0, hb1⟩ := hb
  obtain ⟨hc0, hc1⟩ := hc
  have h' : (a == 0) = false := by simp; omega
  clear h
  go_enter Tryd.func31, Tryd.ntmps31
  go_wp2
  all_goals first
    | (subst_vars; go_ret; exact ⟨rfl, B0⟩)
    | (exfalso; omega)
    | go_wall
set_option maxRecDepth 100000 in
set_option maxHeartbeats 2000000 in
theorem rl_call (k a b c : Int) (ha : 0 ≤ a ∧ a < 256) (hb : 0 ≤ b ∧ b < 256) (hc : 0 ≤ c ∧ c < 256) (h1 : a = 0) (h2 : b = 0) (h3 : c = 0) (hk : 17 ≤ k ∧ k ≤ 38) (w : World) : Calls Tryd.prog 31 #[insV k a b c] w fun e w' => e = .returned (.string (strL ([99, 97, 108, 108, 32] ++ Lib.itoa (k - 16)))) ∧ Below w.heap.size w w' := by
  subst h1 h2 h3
  have N1 := refNum_is (k - 16) (by omega)
  have h1 := itoa_len (z := (k - 16)) (by omega)
  have e : strL ([99, 97, 108, 108, 32] ++ Lib.itoa (k - 16)) = strL [99, 97, 108, 108, 32] ++ strL (Lib.itoa (k - 16)) := (str_add _ _).symm
  rw [e]
  clear e
  have s1 : (strL (Lib.itoa (k - 16))).size ≤ 10 := by rw [strL_size]; exact h1
  show Calls _ _ _ _ fun e w' => e = .returned (.string ((⟨#[99, 97, 108, 108, 32]⟩ : ByteArray) ++ strL (Lib.itoa (k - 16)))) ∧ Below w.heap.size w w'
  generalize strL (Lib.itoa (k - 16)) = S1 at *
  have n1 : ¬ 9223372036854775807 < 5 + S1.size := by omega
  clear h1 s1
  have B0 := (Below.refl w.heap.size w).alloc (Nat.le_refl _) (.cells #[.int .u8 (k : Int), .int .u8 0, .int .u8 0, .int .u8 0] 26)
  have s0 : w.heap.size ≤ (w.alloc (.cells #[.int .u8 (k : Int), .int .u8 0, .int .u8 0, .int .u8 0] 26)).heap.size := B0.size
  unfold insV
  obtain ⟨ha0, ha1⟩ := ha
  obtain ⟨hb0, hb1⟩ := hb
  obtain ⟨hc0, hc1⟩ := hc
  obtain ⟨hk0, hk1⟩ := hk
  go_enter Tryd.func31, Tryd.ntmps31
  go_wp2_with (go_at_call 44; subst_vars; refine (N1 _).mono ?_; rintro e2 w2 ⟨rfl, hb2⟩)
  all_goals
    subst_vars
    go_ret
    exact ⟨rfl, B0.trans (hb2.mono s0)⟩
set_option maxRecDepth 100000 in
set_option maxHeartbeats 2000000 in
theorem rl_calln (k a b c : Int) (ha : 0 ≤ a ∧ a < 256) (hb : 0 ≤ b ∧ b < 256) (hc : 0 ≤ c ∧ c < 256) (hk : 17 ≤ k ∧ k ≤ 38) (h : ¬ (a = 0 ∧ b = 0 ∧ c = 0)) (w : World) : Calls Tryd.prog 31 #[insV k a b c] w fun e w' => e = .returned (.string (strL ([]))) ∧ Below w.heap.size w w' := by
  have B0 := (Below.refl w.heap.size w).alloc (Nat.le_refl _) (.cells #[.int .u8 (k : Int), .int .u8 a, .int .u8 b, .int .u8 c] 26)
  have s0 : w.heap.size ≤ (w.alloc (.cells #[.int .u8 (k : Int), .int .u8 a, .int .u8 b, .int .u8 c] 26)).heap.size := B0.size
  unfold insV
  obtain ⟨ha0, ha1⟩ := ha
  obtain ⟨hb0, hb1⟩ := hb
  obtain ⟨hc0, hc1⟩ := hc
  obtain ⟨hk0, hk1⟩ := hk
  have h' : (a == 0) = false ∨ (b == 0) = false ∨ (c == 0) = false := by simp; omega
  clear h
  rcases h' with h' | h' | h'
  all_goals
    go_enter Tryd.func31, Tryd.ntmps31
    go_wp2
  all_goals first
    | (subst_vars; go_ret; exact ⟨rfl, B0⟩)
    | (exfalso; omega)
    | go_wall
set_option maxRecDepth 100000 in
set_option maxHeartbeats 2000000 in
theorem rl_lo (k a b c : Int) (ha : 0 ≤ a ∧ a < 256) (hb : 0 ≤ b ∧ b < 256) (hc : 0 ≤ c ∧ c < 256) (hk : 8 ≤ k ∧ k < 17) (w : World) : Calls Tryd.prog 31 #[insV k a b c] w fun e w' => e = .returned (.string (strL ([]))) ∧ Below w.heap.size w w' := by
  have B0 := (Below.refl w.heap.size w).alloc (Nat.le_refl _) (.cells #[.int .u8 (k : Int), .int .u8 a, .int .u8 b, .int .u8 c] 26)
  have s0 : w.heap.size ≤ (w.alloc (.cells #[.int .u8 (k : Int), .int .u8 a, .int .u8 b, .int .u8 c] 26)).heap.size := B0.size
  unfold insV
  obtain ⟨ha0, ha1⟩ := ha
  obtain ⟨hb0, hb1⟩ := hb
  obtain ⟨hc0, hc1⟩ := hc
  have g0 : (k == 0) = false := by simp; omega
  have g1 : (k == 1) = false := by simp; omega
  have g2 : (k == 2) = false := by simp; omega
  have g3 : (k == 3) = false := by simp; omega
  have g4 : (k == 4) = false := by simp; omega
  have g5 : (k == 5) = false := by simp; omega
  have g6 : (k == 6) = false := by simp; omega
  have g7 : (k == 7) = false := by simp; omega
  have g17 : ¬ 17 ≤ k := by omega
  have gk0 : 0 ≤ k := by omega
  have gk : k < 17 := by omega
  clear hk
  go_enter Tryd.func31, Tryd.ntmps31
  go_wp2
  all_goals first
    | (subst_vars; go_ret; exact ⟨rfl, B0⟩)
    | (exfalso; omega)
    | go_wall
set_option maxRecDepth 100000 in
set_option maxHeartbeats 2000000 in
theorem rl_hi (k a b c : Int) (ha : 0 ≤ a ∧ a < 256) (hb : 0 ≤ b ∧ b < 256) (hc : 0 ≤ c ∧ c < 256) (hk : 39 ≤ k ∧ k < 256) (w : World) : Calls Tryd.prog 31 #[insV k a b c] w fun e w' => e = .returned (.string (strL ([]))) ∧ Below w.heap.size w w' := by
  have B0 := (Below.refl w.heap.size w).alloc (Nat.le_refl _) (.cells #[.int .u8 (k : Int), .int .u8 a, .int .u8 b, .int .u8 c] 26)
  have s0 : w.heap.size ≤ (w.alloc (.cells #[.int .u8 (k : Int), .int .u8 a, .int .u8 b, .int .u8 c] 26)).heap.size := B0.size
  unfold insV
  obtain ⟨ha0, ha1⟩ := ha
  obtain ⟨hb0, hb1⟩ := hb
  obtain ⟨hc0, hc1⟩ := hc
  have g0 : (k == 0) = false := by simp; omega
  have g1 : (k == 1) = false := by simp; omega
  have g2 : (k == 2) = false := by simp; omega
  have g3 : (k == 3) = false := by simp; omega
  have g4 : (k == 4) = false := by simp; omega
  have g5 : (k == 5) = false := by simp; omega
  have g6 : (k == 6) = false := by simp; omega
  have g7 : (k == 7) = false := by simp; omega
  have g17 : 17 ≤ k := by omega
  have g39 : decide (k ≤ 38) = false := by simp; omega
  have gk : k < 256 := by omega
  clear hk
  go_enter Tryd.func31, Tryd.ntmps31
  go_wp2
  all_goals first
    | (subst_vars; go_ret; exact ⟨rfl, B0⟩)
    | (exfalso; omega)
    | go_wall
set_option maxRecDepth 100000 in
set_option maxHeartbeats 2000000 in
theorem rl_const (a b c : Int) (ha : 0 ≤ a ∧ a < 256) (hb : 0 ≤ b ∧ b < 256) (hc : 0 ≤ c ∧ c < 256)  (w : World) : Calls Tryd.prog 31 #[insV 1 a b c] w fun e w' => e = .returned (.string (strL ([99, 111, 110, 115, 116, 32] ++ Lib.itoa a ++ [32] ++ Lib.itoa (256 * b + c)))) ∧ Below w.heap.size w w' := by
  have N1 := refNum_is a (by omega)
  have N2 := refNum_is (256 * b + c) (by omega)
  have Q1 := refNumber_is 1 a b c hb hc
  simp only [insV] at Q1
  have h1 := itoa_len (z := a) (by omega)
  have h2 := itoa_len (z := (256 * b + c)) (by omega)
  have e : strL ([99, 111, 110, 115, 116, 32] ++ Lib.itoa a ++ [32] ++ Lib.itoa (256 * b + c)) = strL [99, 111, 110, 115, 116, 32] ++ strL (Lib.itoa a) ++ strL [32] ++ strL (Lib.itoa (256 * b + c)) := by simp only [str_add]
  rw [e]
  clear e
  have s1 : (strL (Lib.itoa a)).size ≤ 10 := by rw [strL_size]; exact h1
  have s2 : (strL (Lib.itoa (256 * b + c))).size ≤ 10 := by rw [strL_size]; exact h2
  show Calls _ _ _ _ fun e w' => e = .returned (.string ((⟨#[99, 111, 110, 115, 116, 32]⟩ : ByteArray) ++ strL (Lib.itoa a) ++ (⟨#[32]⟩ : ByteArray) ++ strL (Lib.itoa (256 * b + c)))) ∧ Below w.heap.size w w'
  generalize strL (Lib.itoa (256 * b + c)) = S2 at *
  generalize strL (Lib.itoa a) = S1 at *
  generalize (256 * b + c) = z at *
  have n1 : ¬ 9223372036854775807 < 6 + S1.size := by omega
  have n2 : ¬ 9223372036854775807 < 6 + S1.size + 1 := by omega
  have n3 : ¬ 9223372036854775807 < 6 + S1.size + 1 + S2.size := by omega
  have m1 : IntKind.i64.wrap a = a := by rw [IntKind.wrap_i64]; omega
  clear h1 h2 s1 s2
  have B0 := (Below.refl w.heap.size w).alloc (Nat.le_refl _) (.cells #[.int .u8 (1 : Int), .int .u8 a, .int .u8 b, .int .u8 c] 26)
  have s0 : w.heap.size ≤ (w.alloc (.cells #[.int .u8 (1 : Int), .int .u8 a, .int .u8 b, .int .u8 c] 26)).heap.size := B0.size
  unfold insV
  obtain ⟨ha0, ha1⟩ := ha
  obtain ⟨hb0, hb1⟩ := hb
  obtain ⟨hc0, hc1⟩ := hc
  have R0 := (Blk.new w 26 #[.int .u8 (1 : Int), .int .u8 a, .int .u8 b, .int .u8 c]).drew
  have hgx := R0.lt
  have HM := Lib.hid m1
  clear m1
  have h' : (a == 0) = false ∨ ((a == 0) = true ∧ (b == 0) = false) ∨ ((a == 0) = true ∧ (b == 0) = true) := by cases (a == 0) <;> cases (b == 0) <;> simp
  rcases h' with h' | ⟨h', h''⟩ | ⟨h', h''⟩
  all_goals
    go_enter Tryd.func31, Tryd.ntmps31
    go_wp2_with fail
    have m1 := HM.out
    have hB := Lib.hid B0.drew
    generalize w.alloc (.cells #[.int .u8 (1 : Int), .int .u8 a, .int .u8 b, .int .u8 c] 26) = w1 at *
    obtain ⟨gx, hgx'⟩ : ∃ gx, gx = w.heap.size := ⟨_, rfl⟩
    simp only [← hgx'] at R0 hgx ⊢
    have q0 := R0.cell 0
    have q1 := R0.cell 1
    have q2 := R0.cell 2
    have q3 := R0.cell 3
    simp only [List.getElem?_toArray, List.getElem?_cons_zero, List.getElem?_cons_succ] at q0 q1 q2 q3
    have hS0 : (fun w' => w'.cell? ⟨gx, 0, none⟩ = some (.int .u8 1) ∧ w'.cell? ⟨gx, 1, none⟩ = some (.int .u8 a) ∧ w'.cell? ⟨gx, 2, none⟩ = some (.int .u8 b) ∧ w'.cell? ⟨gx, 3, none⟩ = some (.int .u8 c)) w1.drew := ⟨q0, q1, q2, q3⟩
    have HS := Lib.hid (show ∀ w', Below w1.drew.heap.size w1.drew w' → (fun w' => w'.cell? ⟨gx, 0, none⟩ = some (.int .u8 1) ∧ w'.cell? ⟨gx, 1, none⟩ = some (.int .u8 a) ∧ w'.cell? ⟨gx, 2, none⟩ = some (.int .u8 b) ∧ w'.cell? ⟨gx, 3, none⟩ = some (.int .u8 c)) w' from fun w' hb' => ⟨(hb'.cell (p := ⟨gx, 0, none⟩) hgx).trans q0, (hb'.cell (p := ⟨gx, 1, none⟩) hgx).trans q1, (hb'.cell (p := ⟨gx, 2, none⟩) hgx).trans q2, (hb'.cell (p := ⟨gx, 3, none⟩) hgx).trans q3⟩)
    have HX := Lib.hid (And.intro hgx' s0)
    clear q0 q1 q2 q3 hgx' R0 s0 hgx
    refine wp_region_held_drew (S := (fun w' => w'.cell? ⟨gx, 0, none⟩ = some (.int .u8 1) ∧ w'.cell? ⟨gx, 1, none⟩ = some (.int .u8 a) ∧ w'.cell? ⟨gx, 2, none⟩ = some (.int .u8 b) ∧ w'.cell? ⟨gx, 3, none⟩ = some (.int .u8 c))) (by kernel_rfl) hS0 (fun hHeld => ?_)
    refine wpAnyH_take (i := 0) (v := ?_) rfl (by kernel_rfl) (by kernel_rfl) (by kernel_rfl) (fun _ _ _ h => h) (Or.inl ⟨by kernel_rfl, by (intro w' hSw; obtain ⟨e0, e1, e2, e3⟩ := hSw; go_simp; first | done | (with_reducible rfl) | rfl)⟩) hHeld ?_
    (try simp only [Act.put, List.getElem_toArray, List.getElem_cons_zero, List.getElem_cons_succ, List.setIfInBounds_toArray, List.set_cons_zero, List.set_cons_succ])
    refine wpAnyH_take (i := 1) (v := ?_) rfl (by kernel_rfl) (by kernel_rfl) (by kernel_rfl) (fun _ _ _ h => h) (Or.inl ⟨by kernel_rfl, by (intro w' hSw; obtain ⟨e0, e1, e2, e3⟩ := hSw; go_simp; first | done | (with_reducible rfl) | rfl)⟩) hHeld ?_
    (try simp only [Act.put, List.getElem_toArray, List.getElem_cons_zero, List.getElem_cons_succ, List.setIfInBounds_toArray, List.set_cons_zero, List.set_cons_succ])
    refine wpAnyH_take (i := 2) (v := ?_) rfl (by kernel_rfl) (by kernel_rfl) (by kernel_rfl) (fun _ _ _ h => h) (Or.inl ⟨by kernel_rfl, by (intro w' hSw; obtain ⟨e0, e1, e2, e3⟩ := hSw; go_simp; first | done | (with_reducible rfl) | rfl)⟩) hHeld ?_
    (try simp only [Act.put, List.getElem_toArray, List.getElem_cons_zero, List.getElem_cons_succ, List.setIfInBounds_toArray, List.set_cons_zero, List.set_cons_succ])
    refine wpAnyH_take (i := 6) (v := (.agg #[.int .u8 1, .int .u8 a, .int .u8 b, .int .u8 c])) rfl (by kernel_rfl) (by kernel_rfl) (by kernel_rfl) (fun _ _ _ h => h) (Or.inl ⟨by kernel_rfl, by (intro w' hSw; obtain ⟨e0, e1, e2, e3⟩ := hSw; go_simp; first | done | (with_reducible rfl) | rfl)⟩) hHeld ?_
    (try simp only [Act.put, List.getElem_toArray, List.getElem_cons_zero, List.getElem_cons_succ, List.setIfInBounds_toArray, List.set_cons_zero, List.set_cons_succ])
    refine wpAnyH_ready (rs := [3]) (by kernel_rfl) (by simp) ?_
    refine AllReadyH.cons rfl (fun K hK => ?_) AllReadyH.nil
    go_simp
    go_at_call 44; refine (N1 _).mono ?_; rintro eA wA ⟨rfl, hbA⟩
    dsimp only
    clear hHeld
    refine hK.out _ _ (HS.out _ hbA) (fun hHeld => ?_)
    clear hK K
    (try simp only [Act.put, List.getElem_toArray, List.getElem_cons_zero, List.getElem_cons_succ, List.setIfInBounds_toArray, List.set_cons_zero, List.set_cons_succ])
    refine wpAnyH_take (i := 4) (v := ?_) rfl (by kernel_rfl) (by kernel_rfl) (by kernel_rfl) (fun _ _ _ h => h) (Or.inl ⟨by kernel_rfl, by (intro w' hSw; obtain ⟨e0, e1, e2, e3⟩ := hSw; go_simp; first | done | (with_reducible rfl) | rfl)⟩) hHeld ?_
    (try simp only [Act.put, List.getElem_toArray, List.getElem_cons_zero, List.getElem_cons_succ, List.setIfInBounds_toArray, List.set_cons_zero, List.set_cons_succ])
    refine wpAnyH_take (i := 5) (v := ?_) rfl (by kernel_rfl) (by kernel_rfl) (by kernel_rfl) (fun _ _ _ h => h) (Or.inl ⟨by kernel_rfl, by (intro w' hSw; obtain ⟨e0, e1, e2, e3⟩ := hSw; go_simp; first | done | (with_reducible rfl) | rfl)⟩) hHeld ?_
    (try simp only [Act.put, List.getElem_toArray, List.getElem_cons_zero, List.getElem_cons_succ, List.setIfInBounds_toArray, List.set_cons_zero, List.set_cons_succ])
    refine wpAnyH_ready (rs := [7]) (by kernel_rfl) (by simp) ?_
    refine AllReadyH.cons rfl (fun K hK => ?_) AllReadyH.nil
    go_simp
    go_at_call 15; refine (Q1 _).mono ?_; rintro eB wB ⟨rfl, hbB⟩; (have hbB := hbA.trans (hbB.mono hbA.size))
    dsimp only
    clear hHeld
    refine hK.out _ _ (HS.out _ hbB) (fun hHeld => ?_)
    clear hK K
    (try simp only [Act.put, List.getElem_toArray, List.getElem_cons_zero, List.getElem_cons_succ, List.setIfInBounds_toArray, List.set_cons_zero, List.set_cons_succ])
    refine wpAnyH_ready (rs := [8]) (by kernel_rfl) (by simp) ?_
    refine AllReadyH.cons rfl (fun K hK => ?_) AllReadyH.nil
    go_simp
    go_at_call 44; refine (N2 _).mono ?_; rintro eC wC ⟨rfl, hbC⟩; (have hbC := hbB.trans (hbC.mono hbB.size))
    dsimp only
    clear hHeld
    refine hK.out _ _ (HS.out _ hbC) (fun hHeld => ?_)
    clear hK K
    (try simp only [Act.put, List.getElem_toArray, List.getElem_cons_zero, List.getElem_cons_succ, List.setIfInBounds_toArray, List.set_cons_zero, List.set_cons_succ])
    refine wpAnyH_take (i := 9) (v := ?_) rfl (by kernel_rfl) (by kernel_rfl) (by kernel_rfl) (fun _ _ _ h => h) (Or.inl ⟨by kernel_rfl, by (intro w' hSw; obtain ⟨e0, e1, e2, e3⟩ := hSw; go_simp; first | done | (with_reducible rfl) | rfl)⟩) hHeld ?_
    (try simp only [Act.put, List.getElem_toArray, List.getElem_cons_zero, List.getElem_cons_succ, List.setIfInBounds_toArray, List.set_cons_zero, List.set_cons_succ])
    refine wpAnyH_take (i := 10) (v := ?_) rfl (by kernel_rfl) (by kernel_rfl) (by kernel_rfl) (fun _ _ _ h => h) (Or.inl ⟨by kernel_rfl, by (intro w' hSw; obtain ⟨e0, e1, e2, e3⟩ := hSw; go_simp; first | done | (with_reducible rfl) | rfl)⟩) hHeld ?_
    (try simp only [Act.put, List.getElem_toArray, List.getElem_cons_zero, List.getElem_cons_succ, List.setIfInBounds_toArray, List.set_cons_zero, List.set_cons_succ])
    refine wpAnyH_done (by kernel_rfl) ?_ _
    clear hHeld HS
    go_wp2_with fail
    go_ret
    exact ⟨rfl, by have hh := hB.out.trans (hbC.mono hB.out.size); first | exact hh | (rw [HX.out.1]; exact hh)⟩
set_option maxRecDepth 100000 in
set_option maxHeartbeats 2000000 in
theorem rl_zero (a b c : Int) (ha : 0 ≤ a ∧ a < 256) (hb : 0 ≤ b ∧ b < 256) (hc : 0 ≤ c ∧ c < 256)  (w : World) : Calls Tryd.prog 31 #[insV 6 a b c] w fun e w' => e = .returned (.string (strL ([122, 101, 114, 111, 32] ++ Lib.itoa a ++ [32] ++ Lib.itoa (jmpN (256 * b + c))))) ∧ Below w.heap.size w w' := by
  have N1 := refNum_is a (by omega)
  have N2 := refNum_is (jmpN (256 * b + c)) (by unfold jmpN; split <;> omega)
  have Q1 := refJump_is 6 a b c hb hc
  simp only [insV] at Q1
  have h1 := itoa_len (z := a) (by omega)
  have h2 := itoa_len (z := (jmpN (256 * b + c))) (by unfold jmpN; split <;> omega)
  have e : strL ([122, 101, 114, 111, 32] ++ Lib.itoa a ++ [32] ++ Lib.itoa (jmpN (256 * b + c))) = strL [122, 101, 114, 111, 32] ++ strL (Lib.itoa a) ++ strL [32] ++ strL (Lib.itoa (jmpN (256 * b + c))) := by simp only [str_add]
  rw [e]
  clear e
  have s1 : (strL (Lib.itoa a)).size ≤ 10 := by rw [strL_size]; exact h1
  have s2 : (strL (Lib.itoa (jmpN (256 * b + c)))).size ≤ 10 := by rw [strL_size]; exact h2
  show Calls _ _ _ _ fun e w' => e = .returned (.string ((⟨#[122, 101, 114, 111, 32]⟩ : ByteArray) ++ strL (Lib.itoa a) ++ (⟨#[32]⟩ : ByteArray) ++ strL (Lib.itoa (jmpN (256 * b + c))))) ∧ Below w.heap.size w w'
  generalize strL (Lib.itoa (jmpN (256 * b + c))) = S2 at *
  generalize strL (Lib.itoa a) = S1 at *
  generalize (jmpN (256 * b + c)) = z at *
  have n1 : ¬ 9223372036854775807 < 5 + S1.size := by omega
  have n2 : ¬ 9223372036854775807 < 5 + S1.size + 1 := by omega
  have n3 : ¬ 9223372036854775807 < 5 + S1.size + 1 + S2.size := by omega
  have m1 : IntKind.i64.wrap a = a := by rw [IntKind.wrap_i64]; omega
  clear h1 h2 s1 s2
  have B0 := (Below.refl w.heap.size w).alloc (Nat.le_refl _) (.cells #[.int .u8 (6 : Int), .int .u8 a, .int .u8 b, .int .u8 c] 26)
  have s0 : w.heap.size ≤ (w.alloc (.cells #[.int .u8 (6 : Int), .int .u8 a, .int .u8 b, .int .u8 c] 26)).heap.size := B0.size
  unfold insV
  obtain ⟨ha0, ha1⟩ := ha
  obtain ⟨hb0, hb1⟩ := hb
  obtain ⟨hc0, hc1⟩ := hc
  have R0 := (Blk.new w 26 #[.int .u8 (6 : Int), .int .u8 a, .int .u8 b, .int .u8 c]).drew
  have hgx := R0.lt
  have HM := Lib.hid m1
  clear m1
  have h' : (a == 0) = false ∨ ((a == 0) = true ∧ (b == 0) = false) ∨ ((a == 0) = true ∧ (b == 0) = true) := by cases (a == 0) <;> cases (b == 0) <;> simp
  rcases h' with h' | ⟨h', h''⟩ | ⟨h', h''⟩
  all_goals
    go_enter Tryd.func31, Tryd.ntmps31
    go_wp2_with fail
    have m1 := HM.out
    have hB := Lib.hid B0.drew
    generalize w.alloc (.cells #[.int .u8 (6 : Int), .int .u8 a, .int .u8 b, .int .u8 c] 26) = w1 at *
    obtain ⟨gx, hgx'⟩ : ∃ gx, gx = w.heap.size := ⟨_, rfl⟩
    simp only [← hgx'] at R0 hgx ⊢
    have q0 := R0.cell 0
    have q1 := R0.cell 1
    have q2 := R0.cell 2
    have q3 := R0.cell 3
    simp only [List.getElem?_toArray, List.getElem?_cons_zero, List.getElem?_cons_succ] at q0 q1 q2 q3
    have hS0 : (fun w' => w'.cell? ⟨gx, 0, none⟩ = some (.int .u8 6) ∧ w'.cell? ⟨gx, 1, none⟩ = some (.int .u8 a) ∧ w'.cell? ⟨gx, 2, none⟩ = some (.int .u8 b) ∧ w'.cell? ⟨gx, 3, none⟩ = some (.int .u8 c)) w1.drew := ⟨q0, q1, q2, q3⟩
    have HS := Lib.hid (show ∀ w', Below w1.drew.heap.size w1.drew w' → (fun w' => w'.cell? ⟨gx, 0, none⟩ = some (.int .u8 6) ∧ w'.cell? ⟨gx, 1, none⟩ = some (.int .u8 a) ∧ w'.cell? ⟨gx, 2, none⟩ = some (.int .u8 b) ∧ w'.cell? ⟨gx, 3, none⟩ = some (.int .u8 c)) w' from fun w' hb' => ⟨(hb'.cell (p := ⟨gx, 0, none⟩) hgx).trans q0, (hb'.cell (p := ⟨gx, 1, none⟩) hgx).trans q1, (hb'.cell (p := ⟨gx, 2, none⟩) hgx).trans q2, (hb'.cell (p := ⟨gx, 3, none⟩) hgx).trans q3⟩)
    have HX := Lib.hid (And.intro hgx' s0)
    clear q0 q1 q2 q3 hgx' R0 s0 hgx
    refine wp_region_held_drew (S := (fun w' => w'.cell? ⟨gx, 0, none⟩ = some (.int .u8 6) ∧ w'.cell? ⟨gx, 1, none⟩ = some (.int .u8 a) ∧ w'.cell? ⟨gx, 2, none⟩ = some (.int .u8 b) ∧ w'.cell? ⟨gx, 3, none⟩ = some (.int .u8 c))) (by kernel_rfl) hS0 (fun hHeld => ?_)
    refine wpAnyH_take (i := 0) (v := ?_) rfl (by kernel_rfl) (by kernel_rfl) (by kernel_rfl) (fun _ _ _ h => h) (Or.inl ⟨by kernel_rfl, by (intro w' hSw; obtain ⟨e0, e1, e2, e3⟩ := hSw; go_simp; first | done | (with_reducible rfl) | rfl)⟩) hHeld ?_
    (try simp only [Act.put, List.getElem_toArray, List.getElem_cons_zero, List.getElem_cons_succ, List.setIfInBounds_toArray, List.set_cons_zero, List.set_cons_succ])
    refine wpAnyH_take (i := 1) (v := ?_) rfl (by kernel_rfl) (by kernel_rfl) (by kernel_rfl) (fun _ _ _ h => h) (Or.inl ⟨by kernel_rfl, by (intro w' hSw; obtain ⟨e0, e1, e2, e3⟩ := hSw; go_simp; first | done | (with_reducible rfl) | rfl)⟩) hHeld ?_
    (try simp only [Act.put, List.getElem_toArray, List.getElem_cons_zero, List.getElem_cons_succ, List.setIfInBounds_toArray, List.set_cons_zero, List.set_cons_succ])
    refine wpAnyH_take (i := 2) (v := ?_) rfl (by kernel_rfl) (by kernel_rfl) (by kernel_rfl) (fun _ _ _ h => h) (Or.inl ⟨by kernel_rfl, by (intro w' hSw; obtain ⟨e0, e1, e2, e3⟩ := hSw; go_simp; first | done | (with_reducible rfl) | rfl)⟩) hHeld ?_
    (try simp only [Act.put, List.getElem_toArray, List.getElem_cons_zero, List.getElem_cons_succ, List.setIfInBounds_toArray, List.set_cons_zero, List.set_cons_succ])
    refine wpAnyH_take (i := 6) (v := (.agg #[.int .u8 6, .int .u8 a, .int .u8 b, .int .u8 c])) rfl (by kernel_rfl) (by kernel_rfl) (by kernel_rfl) (fun _ _ _ h => h) (Or.inl ⟨by kernel_rfl, by (intro w' hSw; obtain ⟨e0, e1, e2, e3⟩ := hSw; go_simp; first | done | (with_reducible rfl) | rfl)⟩) hHeld ?_
    (try simp only [Act.put, List.getElem_toArray, List.getElem_cons_zero, List.getElem_cons_succ, List.setIfInBounds_toArray, List.set_cons_zero, List.set_cons_succ])
    refine wpAnyH_ready (rs := [3]) (by kernel_rfl) (by simp) ?_
    refine AllReadyH.cons rfl (fun K hK => ?_) AllReadyH.nil
    go_simp
    go_at_call 44; refine (N1 _).mono ?_; rintro eA wA ⟨rfl, hbA⟩
    dsimp only
    clear hHeld
    refine hK.out _ _ (HS.out _ hbA) (fun hHeld => ?_)
    clear hK K
    (try simp only [Act.put, List.getElem_toArray, List.getElem_cons_zero, List.getElem_cons_succ, List.setIfInBounds_toArray, List.set_cons_zero, List.set_cons_succ])
    refine wpAnyH_take (i := 4) (v := ?_) rfl (by kernel_rfl) (by kernel_rfl) (by kernel_rfl) (fun _ _ _ h => h) (Or.inl ⟨by kernel_rfl, by (intro w' hSw; obtain ⟨e0, e1, e2, e3⟩ := hSw; go_simp; first | done | (with_reducible rfl) | rfl)⟩) hHeld ?_
    (try simp only [Act.put, List.getElem_toArray, List.getElem_cons_zero, List.getElem_cons_succ, List.setIfInBounds_toArray, List.set_cons_zero, List.set_cons_succ])
    refine wpAnyH_take (i := 5) (v := ?_) rfl (by kernel_rfl) (by kernel_rfl) (by kernel_rfl) (fun _ _ _ h => h) (Or.inl ⟨by kernel_rfl, by (intro w' hSw; obtain ⟨e0, e1, e2, e3⟩ := hSw; go_simp; first | done | (with_reducible rfl) | rfl)⟩) hHeld ?_
    (try simp only [Act.put, List.getElem_toArray, List.getElem_cons_zero, List.getElem_cons_succ, List.setIfInBounds_toArray, List.set_cons_zero, List.set_cons_succ])
    refine wpAnyH_ready (rs := [7]) (by kernel_rfl) (by simp) ?_
    refine AllReadyH.cons rfl (fun K hK => ?_) AllReadyH.nil
    go_simp
    go_at_call 17; refine (Q1 _).mono ?_; rintro eB wB ⟨rfl, hbB⟩; (have hbB := hbA.trans (hbB.mono hbA.size))
    dsimp only
    clear hHeld
    refine hK.out _ _ (HS.out _ hbB) (fun hHeld => ?_)
    clear hK K
    (try simp only [Act.put, List.getElem_toArray, List.getElem_cons_zero, List.getElem_cons_succ, List.setIfInBounds_toArray, List.set_cons_zero, List.set_cons_succ])
    refine wpAnyH_ready (rs := [8]) (by kernel_rfl) (by simp) ?_
    refine AllReadyH.cons rfl (fun K hK => ?_) AllReadyH.nil
    go_simp
    go_at_call 44; refine (N2 _).mono ?_; rintro eC wC ⟨rfl, hbC⟩; (have hbC := hbB.trans (hbC.mono hbB.size))
    dsimp only
    clear hHeld
    refine hK.out _ _ (HS.out _ hbC) (fun hHeld => ?_)
    clear hK K
    (try simp only [Act.put, List.getElem_toArray, List.getElem_cons_zero, List.getElem_cons_succ, List.setIfInBounds_toArray, List.set_cons_zero, List.set_cons_succ])
    refine wpAnyH_take (i := 9) (v := ?_) rfl (by kernel_rfl) (by kernel_rfl) (by kernel_rfl) (fun _ _ _ h => h) (Or.inl ⟨by kernel_rfl, by (intro w' hSw; obtain ⟨e0, e1, e2, e3⟩ := hSw; go_simp; first | done | (with_reducible rfl) | rfl)⟩) hHeld ?_
    (try simp only [Act.put, List.getElem_toArray, List.getElem_cons_zero, List.getElem_cons_succ, List.setIfInBounds_toArray, List.set_cons_zero, List.set_cons_succ])
    refine wpAnyH_take (i := 10) (v := ?_) rfl (by kernel_rfl) (by kernel_rfl) (by kernel_rfl) (fun _ _ _ h => h) (Or.inl ⟨by kernel_rfl, by (intro w' hSw; obtain ⟨e0, e1, e2, e3⟩ := hSw; go_simp; first | done | (with_reducible rfl) | rfl)⟩) hHeld ?_
    (try simp only [Act.put, List.getElem_toArray, List.getElem_cons_zero, List.getElem_cons_succ, List.setIfInBounds_toArray, List.set_cons_zero, List.set_cons_succ])
    refine wpAnyH_done (by kernel_rfl) ?_ _
    clear hHeld HS
    go_wp2_with fail
    go_ret
    exact ⟨rfl, by have hh := hB.out.trans (hbC.mono hB.out.size); first | exact hh | (rw [HX.out.1]; exact hh)⟩
end Go.Proofs.YtnbkpminecoddaaDoor
