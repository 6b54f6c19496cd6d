/- Of of the reference (the set of some places), With, Without, Mask of the program, by walks. Conditions: a set is from 0 to 255; a list lies in memory of its own. -/
import Derived.Test.YtfdmnpienojejaaNumSets
import Derived.Deep.QuietTactic
import Derived.BigQuiet
namespace Go.Proofs.Ytfdmnpienojejaa
open Go.RowKit
set_option linter.unusedVariables false

/-- The set of a list, after the places 7 down to 8 - k. -/
def ofDn (zs : List Int) : Nat → Nat
  | 0 => 0
  | k + 1 => 2 * ofDn zs k + if (7 - (k : Int)) ∈ zs then 1 else 0
def ofN (zs : List Int) : Nat := ofDn zs 8
theorem ofDn_lt (zs : List Int) (k : Nat) : ofDn zs k < 2 ^ k := by
  induction k with
  | zero => simp [ofDn]
  | succ k ih => rw [ofDn, Nat.pow_succ]; split <;> omega
theorem ofDn_bit (zs : List Int) (k j : Nat) (hj : j < k) : (ofDn zs k).testBit j = decide (((8 - (k : Int)) + j) ∈ zs) := by
  induction k generalizing j with
  | zero => omega
  | succ k ih =>
    rw [ofDn]
    cases j with
    | zero =>
      rw [Nat.testBit_zero]
      have e : (8 - ((k + 1 : Nat) : Int)) + ((0 : Nat) : Int) = 7 - (k : Int) := by omega
      rw [e]
      by_cases h : (7 - (k : Int)) ∈ zs
      · rw [if_pos h, decide_eq_true h]; simp
      · rw [if_neg h, decide_eq_false h]; simp
    | succ j =>
      rw [Nat.testBit_succ]
      have e : (2 * ofDn zs k + if (7 - (k : Int)) ∈ zs then 1 else 0) / 2 = ofDn zs k := by split <;> omega
      rw [e, ih j (by omega)]
      congr 2
      omega
theorem ofN_bit (zs : List Int) (j : Nat) (hj : j < 8) : (ofN zs).testBit j = decide ((j : Int) ∈ zs) := by
  rw [ofN, ofDn_bit zs 8 j hj]
  congr 2
  omega
theorem ofN_lt (zs : List Int) : ofN zs < 256 := ofDn_lt zs 8
theorem eq_of_bits (a b : Nat) (ha : a < 256) (hb : b < 256) (h : ∀ j, j < 8 → a.testBit j = b.testBit j) : a = b := by
  refine Nat.eq_of_testBit_eq fun j => ?_
  by_cases hj : j < 8
  · exact h j hj
  · have hp : (2 : Nat) ^ 8 ≤ 2 ^ j := Nat.pow_le_pow_right (by decide) (by omega)
    have e1 : a.testBit j = false := Nat.testBit_lt_two_pow (Nat.lt_of_lt_of_le ha (by simpa using hp))
    have e2 : b.testBit j = false := Nat.testBit_lt_two_pow (Nat.lt_of_lt_of_le hb (by simpa using hp))
    rw [e1, e2]

theorem mem_take_succ (zs : List Int) (j : Nat) (hj : j < zs.length) (p : Int) : p ∈ zs.take (j + 1) ↔ p ∈ zs.take j ∨ zs[j] = p := by
  rw [List.take_succ_eq_append_getElem hj, List.mem_append, List.mem_singleton, eq_comm (a := p)]

set_option maxRecDepth 100000 in
set_option maxHeartbeats 800000 in
theorem refOf_row (zs : List Int) (g cap : Nat) (w : World) (hn : zs.length ≤ 1000) (hc : ∀ j (h : j < zs.length), w.cell? ⟨g, j, none⟩ = some (.int .i64 (zs[j]'h))) :
    Calls Try.prog 16 #[.slice (some ⟨g, 0, none⟩) zs.length cap] w fun e w' => e = .returned (.int .u8 (ofN zs : Nat)) ∧ w = w' := by
  have HO : Hid (ofN zs = ofDn zs 8) := rfl
  generalize ofN zs = res at *
  go_enter Try.func16, Try.ntmps16
  go_wp2
  go_loop [3, 4] (fun n p => ∃ k : Nat, k ≤ 8 ∧ p = .int .i64 (7 - (k : Int)) ∧ n = .int .i64 (ofDn zs k : Nat)) (fun _ p => (intOf p + 1).toNat)
  case atStart => exact ⟨0, by omega, rfl, rfl⟩
  case round =>
    obtain ⟨k, hk, rfl, rfl⟩ := hrel
    have hlt := ofDn_lt zs k
    have hle : 2 ^ k ≤ 256 := by
      have : 2 ^ k ≤ 2 ^ 8 := Nat.pow_le_pow_right (by decide) hk
      simpa using this
    by_cases hk8 : k < 8
    · have HS : Hid (ofDn zs (k + 1) = 2 * ofDn zs k + if (7 - (k : Int)) ∈ zs then 1 else 0) := rfl
      generalize hD : ofDn zs k = d at *
      have hd : d < 256 := by omega
      clear hlt hle hD
      go_wp2
      go_loop [5, 6] (fun b i => ∃ j : Nat, j ≤ zs.length ∧ i = .int .i64 j ∧ b = .bool (decide ((7 - (k : Int)) ∈ zs.take j))) (fun _ i => zs.length - (intOf i).toNat)
      case atStart => exact ⟨0, Nat.zero_le _, rfl, by simp⟩
      case round =>
        obtain ⟨j, hj, rfl, rfl⟩ := hrel
        by_cases hjl : j < zs.length
        · have hcj := hc j hjl
          have hm := mem_take_succ zs j hjl (7 - (k : Int))
          cases hb : decide ((7 - (k : Int)) ∈ zs.take j)
          · by_cases he : zs[j] = 7 - (k : Int)
            · have hbe : ((zs[j] : Int) == 7 - (k : Int)) = true := beq_iff_eq.2 he
              have hnew : Hid (decide ((7 - (k : Int)) ∈ zs.take (j + 1)) = true) := by show _ = _; rw [decide_eq_true_iff, hm]; exact .inr he
              clear he hm hb
              go_wp2
              go_round
              case rel => exact ⟨j + 1, by omega, by go_num, by rw [hnew.out]⟩
              case measure => simp [intOf]; omega
            · have hbe : ((zs[j] : Int) == 7 - (k : Int)) = false := beq_eq_false_iff_ne.2 he
              have hnew : Hid (decide ((7 - (k : Int)) ∈ zs.take (j + 1)) = false) := by
                show _ = _
                rw [decide_eq_false_iff_not] at hb ⊢
                rw [hm]
                exact fun h => h.elim hb he
              clear he hm hb
              go_wp2
              go_round
              case rel => exact ⟨j + 1, by omega, by go_num, by rw [hnew.out]⟩
              case measure => simp [intOf]; omega
          · have hnew : Hid (decide ((7 - (k : Int)) ∈ zs.take (j + 1)) = true) := by
              show _ = _
              rw [decide_eq_true_iff] at hb ⊢
              rw [hm]
              exact .inl hb
            clear hm hb
            go_wp2
            go_round
            case rel => exact ⟨j + 1, by omega, by go_num, by rw [hnew.out]⟩
            case measure => simp [intOf]; omega
        · have hje : j = zs.length := by omega
          subst hje
          rw [List.take_length]
          cases hb : decide ((7 - (k : Int)) ∈ zs)
          · have hnew : Hid (ofDn zs (k + 1) = 2 * d) := by
              show _ = _
              rw [HS.out, if_neg (of_decide_eq_false hb)]
              rfl
            clear hb
            go_wp2
            go_round
            case rel => exact ⟨k + 1, by omega, by go_num, by rw [hnew.out]; go_num⟩
            case measure => simp [intOf]; omega
          · have hnew : Hid (ofDn zs (k + 1) = 2 * d + 1) := by
              show _ = _
              rw [HS.out, if_pos (of_decide_eq_true hb)]
            clear hb
            go_wp2
            go_round
            case rel => exact ⟨k + 1, by omega, by go_num, by rw [hnew.out]; go_num⟩
            case measure => simp [intOf]; omega
    · have h8 : k = 8 := by omega
      subst h8
      generalize hD : ofDn zs 8 = d at *
      have hd : d < 256 := by omega
      clear hlt hle
      go_wp2
      go_ret
      exact ⟨by rw [HO.out]; rfl, rfl⟩

set_option maxRecDepth 100000 in
set_option maxHeartbeats 400000 in
theorem refOf_nil (w : World) : Calls Try.prog 16 #[.slice none 0 0] w fun e w' => e = .returned (.int .u8 0) ∧ w = w' := by
  go_enter Try.func16, Try.ntmps16
  go_wp2
  go_loop [3, 4] (fun n p => ∃ k : Nat, k ≤ 8 ∧ p = .int .i64 (7 - (k : Int)) ∧ n = .int .i64 0) (fun _ p => (intOf p + 1).toNat)
  case atStart => exact ⟨0, by omega, rfl, rfl⟩
  case round =>
    obtain ⟨k, hk, rfl, rfl⟩ := hrel
    by_cases hk8 : k < 8
    · go_wp2
      go_loop [5, 6] (fun b i => b = .bool false ∧ i = .int .i64 0) (fun _ i => 0)
      case atStart => exact ⟨rfl, rfl⟩
      case round =>
        obtain ⟨rfl, rfl⟩ := hrel
        go_wp2
        go_round
        case rel => exact ⟨k + 1, by omega, by go_num, rfl⟩
        case measure => simp [intOf]; omega
    · have h8 : k = 8 := by omega
      subst h8
      go_wp2
      go_ret
      exact ⟨rfl, rfl⟩

/-- Of of a list that the call owns, nil or not. -/
theorem refOf_any (zs : List Int) (v : Value) (base : Nat) (w : World) (hn : zs.length ≤ 1000) (hown : w.ownsRow base 3 1 v zs.length (zs.map (Value.int .i64))) :
    Calls Try.prog 16 #[v] w fun e w' => e = .returned (.int .u8 (ofN zs : Nat)) ∧ w = w' := by
  have hown0 := hown
  obtain ⟨_, ⟨rfl, h0⟩ | ⟨g, cap, cur, rfl, hg, hh, hnc, hcap, hsz, htake⟩⟩ := hown0
  · obtain rfl := List.length_eq_zero_iff.1 h0
    exact refOf_nil w
  · exact refOf_row zs g cap w hn (fun j h => by rw [hown.cellAt j (by omega)]; simp [h])

def bitN (p : Int) : Nat := if 0 ≤ p ∧ p ≤ 7 then 2 ^ p.toNat else 0
theorem bitN_lt (p : Int) : bitN p < 256 := by
  unfold bitN
  split
  · have : p.toNat < 8 := by omega
    have : 2 ^ p.toNat ≤ 2 ^ 7 := Nat.pow_le_pow_right (by decide) (by omega)
    omega
  · decide
theorem bit_any (p : Int) (w : World) : Calls Try.prog 30 #[.int .i64 p] w fun e w' => e = .returned (.int .u8 (bitN p : Nat)) ∧ w = w' := by
  by_cases hp : 0 ≤ p ∧ p ≤ 7
  · obtain ⟨k, rfl⟩ := Int.eq_ofNat_of_zero_le hp.1
    have hk : k < 8 := by omega
    have e : ((bitN k : Nat) : Int) = 2 ^ k % 256 := by
      unfold bitN
      rw [if_pos hp]
      have h : ∀ k : Fin 8, ((2 ^ ((k.val : Int)).toNat : Nat) : Int) = 2 ^ k.val % 256 := by decide +kernel
      exact h ⟨k, hk⟩
    rw [e]
    exact bit_in k w hk
  · have e : bitN p = 0 := by unfold bitN; rw [if_neg hp]
    rw [e]
    exact bit_out p w (by omega)

set_option maxHeartbeats 400000 in
theorem with_any (s : Nat) (p : Int) (w : World) (hs : s < 256) : Calls Try.prog 15 #[.int .u8 s, .int .i64 p] w fun e w' => e = .returned (.int .u8 ((s ||| bitN p : Nat) : Int)) ∧ w = w' := by
  have hb := u8_or_nat s (bitN p) hs (bitN_lt p)
  have h1 := bit_any p w
  generalize s ||| bitN p = r at *
  generalize bitN p = b at *
  have H1 := Lib.hid h1
  clear h1
  go_enter Try.func15, Try.ntmps15
  go_wp2_with (go_at_call 30; refine H1.out.mono ?_; rintro e w' ⟨rfl, rfl⟩)
  go_ret
  exact ⟨rfl, rfl⟩
set_option maxHeartbeats 400000 in
theorem without_any (s : Nat) (p : Int) (w : World) (hs : s < 256) : Calls Try.prog 17 #[.int .u8 s, .int .i64 p] w fun e w' => e = .returned (.int .u8 ((s &&& (255 - bitN p) : Nat) : Int)) ∧ w = w' := by
  have hb := u8_andNot_nat s (bitN p) hs (bitN_lt p)
  have h1 := bit_any p w
  generalize s &&& (255 - bitN p) = r at *
  generalize bitN p = b at *
  have H1 := Lib.hid h1
  clear h1
  go_enter Try.func17, Try.ntmps17
  go_wp2_with (go_at_call 30; refine H1.out.mono ?_; rintro e w' ⟨rfl, rfl⟩)
  go_ret
  exact ⟨rfl, rfl⟩

theorem mask_step (k : Nat) (hk : k < 8) : (2 ^ k - 1) ||| bitN k = 2 ^ (k + 1) - 1 := by
  have h : ∀ k : Fin 8, (2 ^ k.val - 1) ||| bitN k.val = 2 ^ (k.val + 1) - 1 := by decide +kernel
  exact h ⟨k, hk⟩
theorem mask_lt (k : Nat) (hk : k ≤ 8) : 2 ^ k - 1 < 256 := by
  have : 2 ^ k ≤ 2 ^ 8 := Nat.pow_le_pow_right (by decide) hk
  omega
/-- How many are in Mask's set. -/
def maskM (ps : Int) : Nat := if ps < 0 then 0 else if 8 < ps then 8 else ps.toNat

set_option maxRecDepth 100000 in
set_option maxHeartbeats 800000 in
theorem mask_any (ps : Int) (w : World) : Calls Try.prog 19 #[.int .i64 ps] w fun e w' => e = .returned (.int .u8 ((2 ^ maskM ps - 1 : Nat) : Int)) ∧ w = w' := by
  obtain ⟨m, hm⟩ : ∃ m, maskM ps = m := ⟨_, rfl⟩
  have hm8 : m ≤ 8 := by rw [← hm]; unfold maskM; split <;> (try split) <;> omega
  have hcases : (ps < 0 ∧ m = 0) ∨ (ps = 0 ∧ m = 0) ∨ (0 < ps ∧ ps < 8 ∧ ps = m) ∨ (ps = 8 ∧ m = 8) ∨ (8 < ps ∧ m = 8) := by
    unfold maskM at hm
    split at hm <;> (try split at hm) <;> omega
  rw [hm]
  clear hm
  generalize hr : 2 ^ m - 1 = r
  have HR := Lib.hid hr
  clear hr
  rcases hcases with ⟨h1, rfl⟩ | ⟨rfl, rfl⟩ | ⟨h1, h2, rfl⟩ | ⟨rfl, rfl⟩ | ⟨h1, rfl⟩
  · go_enter Try.func19, Try.ntmps19
    go_wp2
    go_loop [3, 8] (fun v i => ∃ k : Nat, k ≤ 0 ∧ i = .int .i64 k ∧ v = .int .u8 ((2 ^ k - 1 : Nat) : Int)) (fun _ i => 0 - (intOf i).toNat)
    case atStart => exact ⟨0, by omega, rfl, rfl⟩
    case round =>
      obtain ⟨k, hk, rfl, rfl⟩ := hrel
      by_cases hlt : k < 0
      · exact absurd hlt (by omega)
      · have he : k = 0 := by omega
        subst he
        go_wp2
        go_ret
        exact ⟨by rw [← HR.out]; rfl, rfl⟩
  · go_enter Try.func19, Try.ntmps19
    go_wp2
    go_loop [3, 8] (fun v i => ∃ k : Nat, k ≤ 0 ∧ i = .int .i64 k ∧ v = .int .u8 ((2 ^ k - 1 : Nat) : Int)) (fun _ i => 0 - (intOf i).toNat)
    case atStart => exact ⟨0, by omega, rfl, rfl⟩
    case round =>
      obtain ⟨k, hk, rfl, rfl⟩ := hrel
      by_cases hlt : k < 0
      · exact absurd hlt (by omega)
      · have he : k = 0 := by omega
        subst he
        go_wp2
        go_ret
        exact ⟨by rw [← HR.out]; rfl, rfl⟩
  · go_enter Try.func19, Try.ntmps19
    go_wp2
    go_loop [3, 8] (fun v i => ∃ k : Nat, k ≤ m ∧ i = .int .i64 k ∧ v = .int .u8 ((2 ^ k - 1 : Nat) : Int)) (fun _ i => m - (intOf i).toNat)
    case atStart => exact ⟨0, by omega, rfl, rfl⟩
    case round =>
      obtain ⟨k, hk, rfl, rfl⟩ := hrel
      by_cases hlt : k < m
      · have hst := Lib.hid (mask_step k (by omega))
        have hlt2 := mask_lt k (by omega)
        generalize 2 ^ k - 1 = z at *
        go_wp2_with (go_at_call 15; refine (with_any z k _ hlt2).mono ?_; rintro e w' ⟨rfl, rfl⟩)
        go_round
        case rel => exact ⟨k + 1, by omega, by go_num, by rw [hst.out]⟩
        case measure => simp [intOf]; omega
      · have he : k = m := by omega
        subst he
        go_wp2
        go_ret
        exact ⟨by rw [← HR.out]; rfl, rfl⟩
  · go_enter Try.func19, Try.ntmps19
    go_wp2
    go_loop [3, 8] (fun v i => ∃ k : Nat, k ≤ 8 ∧ i = .int .i64 k ∧ v = .int .u8 ((2 ^ k - 1 : Nat) : Int)) (fun _ i => 8 - (intOf i).toNat)
    case atStart => exact ⟨0, by omega, rfl, rfl⟩
    case round =>
      obtain ⟨k, hk, rfl, rfl⟩ := hrel
      by_cases hlt : k < 8
      · have hst := Lib.hid (mask_step k (by omega))
        have hlt2 := mask_lt k (by omega)
        generalize 2 ^ k - 1 = z at *
        go_wp2_with (go_at_call 15; refine (with_any z k _ hlt2).mono ?_; rintro e w' ⟨rfl, rfl⟩)
        go_round
        case rel => exact ⟨k + 1, by omega, by go_num, by rw [hst.out]⟩
        case measure => simp [intOf]; omega
      · have he : k = 8 := by omega
        subst he
        go_wp2
        go_ret
        exact ⟨by rw [← HR.out]; rfl, rfl⟩
  · go_enter Try.func19, Try.ntmps19
    go_wp2
    go_loop [3, 8] (fun v i => ∃ k : Nat, k ≤ 8 ∧ i = .int .i64 k ∧ v = .int .u8 ((2 ^ k - 1 : Nat) : Int)) (fun _ i => 8 - (intOf i).toNat)
    case atStart => exact ⟨0, by omega, rfl, rfl⟩
    case round =>
      obtain ⟨k, hk, rfl, rfl⟩ := hrel
      by_cases hlt : k < 8
      · have hst := Lib.hid (mask_step k (by omega))
        have hlt2 := mask_lt k (by omega)
        generalize 2 ^ k - 1 = z at *
        go_wp2_with (go_at_call 15; refine (with_any z k _ hlt2).mono ?_; rintro e w' ⟨rfl, rfl⟩)
        go_round
        case rel => exact ⟨k + 1, by omega, by go_num, by rw [hst.out]⟩
        case measure => simp [intOf]; omega
      · have he : k = 8 := by omega
        subst he
        go_wp2
        go_ret
        exact ⟨by rw [← HR.out]; rfl, rfl⟩
end Go.Proofs.Ytfdmnpienojejaa
