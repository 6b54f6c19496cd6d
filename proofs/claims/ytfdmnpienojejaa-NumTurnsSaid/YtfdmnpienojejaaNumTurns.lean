/- The walk of the law NumTurns: it returns true. Conditions: each number is below 2 to the 64. -/
import Derived.Test.YtfdmnpienojejaaNumLaws
namespace Go.Proofs.Ytfdmnpienojejaa
open Go.RowKit
set_option linter.unusedVariables false

theorem addR_comm (a b : Nat) : addR a b = addR b a := by unfold addR addV; rw [Nat.add_comm a b]
theorem mulR_comm (a b : Nat) : mulR a b = mulR b a := by unfold mulR mulV; rw [Nat.mul_comm a b]

set_option maxRecDepth 100000 in
set_option maxHeartbeats 800000 in
theorem turns_gt (a b : Nat) (ha : a < M64) (hb : b < M64) (hlt : b < a) (w : World) : Calls Try.prog 6 #[.int .u64 a, .int .u64 b] w fun e w' => e = .returned (.bool true) ∧ Below w.heap.size w w' := by
  have hle : b ≤ a := by omega
  have h1 := add_any a b w ha hb
  have h2 := add_any b a w hb ha
  have h3 := mul_any a b w ha hb
  have h4 := mul_any b a w hb ha
  rw [addR_comm b a] at h2
  rw [mulR_comm b a] at h4
  obtain ⟨v1, c1, e1⟩ := addR_form a b
  obtain ⟨v3, c3, e3⟩ := mulR_form a b
  rw [e1] at h1 h2
  rw [e3] at h3 h4
  have hd : a - b < M64 := by unfold M64 at *; omega
  have h5 := sub_any a b w ha hb
  rw [subR_yes hle] at h5
  have h6 := add_any (a - b) b w hd hb
  rw [addR_yes (by rw [Nat.sub_add_cancel hle]; exact ha), Nat.sub_add_cancel hle] at h6
  have h7 := subSat_any a b w ha hb
  have h8 := subSat_any b a w hb ha
  have h9 := addSat_any (a - b) 0 w hd (by decide)
  rw [show subS a b = a - b from rfl] at h7
  rw [show subS b a = 0 from by unfold subS; omega] at h8
  rw [show addS (a - b) 0 = a - b from by unfold addS; rw [if_pos (by simpa using hd)]; rfl] at h9
  have hba : (b : Int) < a := by omega
  have hbb : (a : Int) ≤ 18446744073709551615 := by unfold M64 at ha; omega
  have HE := Lib.hid (show ((a - b : Nat) : Int) = (a : Int) - (b : Int) from by omega)
  generalize a - b = d at *
  have H1 := Lib.hid h1
  have H2 := Lib.hid h2
  have H3 := Lib.hid h3
  have H4 := Lib.hid h4
  have H5 := Lib.hid h5
  have H6 := Lib.hid h6
  have H7 := Lib.hid h7
  have H8 := Lib.hid h8
  have H9 := Lib.hid h9
  clear h1 h2 h3 h4 h5 h6 h7 h8 h9 e1 e3 ha hb hd hle hlt
  have heq : ((d : Int) == (a : Int) - (b : Int)) = true := by rw [beq_iff_eq]; exact HE.out
  go_enter Try.func6, Try.ntmps6
  go_wp2_with fail
  refine H1.out.mono ?_
  rintro e w1 ⟨rfl, rfl⟩
  go_wp2_with fail
  refine H2.out.mono ?_
  rintro e w1 ⟨rfl, rfl⟩
  go_wp2_with fail
  refine H3.out.mono ?_
  rintro e w1 ⟨rfl, rfl⟩
  go_wp2_with fail
  refine H4.out.mono ?_
  rintro e w1 ⟨rfl, rfl⟩
  go_wp2_with fail
  refine H5.out.mono ?_
  rintro e w1 ⟨rfl, rfl⟩
  go_wp2_with fail
  refine H6.out.mono ?_
  rintro e w1 ⟨rfl, rfl⟩
  go_wp2_with fail
  refine H7.out.mono ?_
  rintro e w1 ⟨rfl, rfl⟩
  go_wp2_with fail
  refine H8.out.mono ?_
  rintro e w1 ⟨rfl, rfl⟩
  go_wp2_with fail
  refine H9.out.mono ?_
  rintro e w1 ⟨rfl, rfl⟩
  go_wp2_with fail
  refine (known_any _).mono ?_
  rintro e w1 ⟨rfl, hb⟩
  go_wp2_with fail
  go_ret
  exact ⟨rfl, hb⟩

set_option maxRecDepth 100000 in
set_option maxHeartbeats 800000 in
theorem turns_eq (a : Nat) (ha : a < M64) (w : World) : Calls Try.prog 6 #[.int .u64 a, .int .u64 a] w fun e w' => e = .returned (.bool true) ∧ Below w.heap.size w w' := by
  have hle : a ≤ a := Nat.le_refl a
  have h1 := add_any a a w ha ha
  have h2 := add_any a a w ha ha
  have h3 := mul_any a a w ha ha
  have h4 := mul_any a a w ha ha
  obtain ⟨v1, c1, e1⟩ := addR_form a a
  obtain ⟨v3, c3, e3⟩ := mulR_form a a
  rw [e1] at h1 h2
  rw [e3] at h3 h4
  have h5 := sub_any a a w ha ha
  rw [subR_yes hle, Nat.sub_self] at h5
  have h6 := add_any 0 a w (by decide) ha
  rw [addR_yes (by rw [Nat.zero_add]; exact ha), Nat.zero_add] at h6
  have h7 := subSat_any a a w ha ha
  rw [show subS a a = 0 from by unfold subS; omega] at h7
  have h9 := addSat_any 0 0 w (by decide) (by decide)
  rw [show addS 0 0 = 0 from by decide +kernel] at h9
  have hab : (a : Int) ≤ 18446744073709551615 := by unfold M64 at ha; omega
  have H1 := Lib.hid h1
  have H2 := Lib.hid h2
  have H3 := Lib.hid h3
  have H4 := Lib.hid h4
  have H5 := Lib.hid h5
  have H6 := Lib.hid h6
  have H7 := Lib.hid h7
  have H8 := Lib.hid h7
  have H9 := Lib.hid h9
  clear h1 h2 h3 h4 h5 h6 h7 h9 e1 e3 ha hle
  go_enter Try.func6, Try.ntmps6
  go_wp2_with fail
  refine H1.out.mono ?_
  rintro e w1 ⟨rfl, rfl⟩
  go_wp2_with fail
  refine H2.out.mono ?_
  rintro e w1 ⟨rfl, rfl⟩
  go_wp2_with fail
  refine H3.out.mono ?_
  rintro e w1 ⟨rfl, rfl⟩
  go_wp2_with fail
  refine H4.out.mono ?_
  rintro e w1 ⟨rfl, rfl⟩
  go_wp2_with fail
  refine H5.out.mono ?_
  rintro e w1 ⟨rfl, rfl⟩
  go_wp2_with fail
  refine H6.out.mono ?_
  rintro e w1 ⟨rfl, rfl⟩
  go_wp2_with fail
  refine H7.out.mono ?_
  rintro e w1 ⟨rfl, rfl⟩
  go_wp2_with fail
  refine H8.out.mono ?_
  rintro e w1 ⟨rfl, rfl⟩
  go_wp2_with fail
  refine H9.out.mono ?_
  rintro e w1 ⟨rfl, rfl⟩
  go_wp2_with fail
  refine (known_any _).mono ?_
  rintro e w1 ⟨rfl, hb⟩
  go_wp2_with fail
  go_ret
  exact ⟨rfl, hb⟩

set_option maxRecDepth 100000 in
set_option maxHeartbeats 800000 in
theorem turns_lt (a b : Nat) (ha : a < M64) (hb : b < M64) (hlt : a < b) (w : World) : Calls Try.prog 6 #[.int .u64 a, .int .u64 b] w fun e w' => e = .returned (.bool true) ∧ Below w.heap.size w w' := by
  have h1 := add_any a b w ha hb
  have h2 := add_any b a w hb ha
  have h3 := mul_any a b w ha hb
  have h4 := mul_any b a w hb ha
  rw [addR_comm b a] at h2
  rw [mulR_comm b a] at h4
  obtain ⟨v1, c1, e1⟩ := addR_form a b
  obtain ⟨v3, c3, e3⟩ := mulR_form a b
  rw [e1] at h1 h2
  rw [e3] at h3 h4
  have hd : b - a < M64 := by unfold M64 at *; omega
  have h5 := sub_any a b w ha hb
  rw [subR_no (by omega)] at h5
  have h7 := subSat_any a b w ha hb
  have h8 := subSat_any b a w hb ha
  have h9 := addSat_any 0 (b - a) w (by decide) hd
  rw [show subS b a = b - a from rfl] at h8
  rw [show subS a b = 0 from by unfold subS; omega] at h7
  rw [show addS 0 (b - a) = b - a from by unfold addS; rw [Nat.zero_add, if_pos hd]] at h9
  have hba : (a : Int) < b := by omega
  have hbb : (b : Int) ≤ 18446744073709551615 := by unfold M64 at hb; omega
  have HE := Lib.hid (show ((b - a : Nat) : Int) = (b : Int) - (a : Int) from by omega)
  generalize b - a = d at *
  have H1 := Lib.hid h1
  have H2 := Lib.hid h2
  have H3 := Lib.hid h3
  have H4 := Lib.hid h4
  have H5 := Lib.hid h5
  have H7 := Lib.hid h7
  have H8 := Lib.hid h8
  have H9 := Lib.hid h9
  clear h1 h2 h3 h4 h5 h7 h8 h9 e1 e3 ha hb hd hlt
  have heq : ((d : Int) == (b : Int) - (a : Int)) = true := by rw [beq_iff_eq]; exact HE.out
  go_enter Try.func6, Try.ntmps6
  go_wp2_with fail
  refine H1.out.mono ?_
  rintro e w1 ⟨rfl, rfl⟩
  go_wp2_with fail
  refine H2.out.mono ?_
  rintro e w1 ⟨rfl, rfl⟩
  go_wp2_with fail
  refine H3.out.mono ?_
  rintro e w1 ⟨rfl, rfl⟩
  go_wp2_with fail
  refine H4.out.mono ?_
  rintro e w1 ⟨rfl, rfl⟩
  go_wp2_with fail
  refine H5.out.mono ?_
  rintro e w1 ⟨rfl, rfl⟩
  go_wp2_with fail
  refine H7.out.mono ?_
  rintro e w1 ⟨rfl, rfl⟩
  go_wp2_with fail
  refine H8.out.mono ?_
  rintro e w1 ⟨rfl, rfl⟩
  go_wp2_with fail
  refine H9.out.mono ?_
  rintro e w1 ⟨rfl, rfl⟩
  go_wp2_with fail
  refine (known_any _).mono ?_
  rintro e w1 ⟨rfl, hb⟩
  go_wp2_with fail
  go_ret
  exact ⟨rfl, hb⟩

theorem numTurns_walk (a b : Nat) (ha : a < M64) (hb : b < M64) (w : World) : Calls Try.prog 6 #[.int .u64 a, .int .u64 b] w fun e w' => e = .returned (.bool true) ∧ Below w.heap.size w w' := by
  rcases (show b < a ∨ a = b ∨ a < b from by omega) with h | rfl | h
  · exact turns_gt a b ha hb h w
  · exact turns_eq a ha w
  · exact turns_lt a b ha hb h w
end Go.Proofs.Ytfdmnpienojejaa
