/- What OfText of both sides returns, by walks, and the chapter's rows. Conditions: a text of any length that fits in memory. -/
import Derived.Test.YtcgmcmnjgimflaaRightsText
import Derived.Deep.QuietTactic
import Derived.BigQuiet
import Derived.Lib.Strings
namespace Go.Proofs.Ytcgmcmnjgimflaa
open Go.RowKit
set_option linter.unusedVariables false

def rdN (s : ByteArray) : Nat := if textL (rOf s.data.toList) = s.data.toList then rOf s.data.toList else 0
def rdB (s : ByteArray) : Bool := textL (rOf s.data.toList) == s.data.toList

theorem str_eq (l : List UInt8) (s : ByteArray) : ((str l).toList == s.toList) = (l == s.data.toList) := by
  rw [Lib.toList_data, Lib.toList_data]
  rfl
theorem rOf_lt (s : List UInt8) : rOf s < 256 := rUp_lt s 8
theorem read_hit (k : Nat) (s : ByteArray) (hk : k < 256) (h : ((str (textL k)).toList == s.toList) = true) : rdN s = k ∧ rdB s = true := by
  rw [str_eq, beq_iff_eq] at h
  unfold rdN rdB
  rw [← h, rOf_textL k hk]
  simp
theorem read_miss (k : Nat) (s : ByteArray) (h : ((str (textL k)).toList == s.toList) = false) : textL k ≠ s.data.toList := by
  rw [str_eq] at h
  intro e
  rw [e] at h
  simp at h
theorem read_none (s : ByteArray) (h : ∀ j, j < 256 → textL j ≠ s.data.toList) : rdN s = 0 ∧ rdB s = false := by
  have := h _ (rOf_lt s.data.toList)
  unfold rdN rdB
  simp [this]

set_option maxRecDepth 100000 in
set_option maxHeartbeats 400000 in
theorem refOfText_any (s : ByteArray) (w : World) (hs : s.size ≤ 1000) :
    Calls Try.prog 15 #[.string s] w fun e w' => e = .returned (.tuple #[.int .u8 ((rdN s : Nat) : Int), .bool (rdB s)]) ∧ Below w.heap.size w w' := by
  go_enter Try.func15, Try.ntmps15
  go_wp2
  go_loopw [4] (fun i wr => ∃ k : Nat, k ≤ 256 ∧ i = .int .i64 k ∧ Hid (∀ j, j < k → textL j ≠ s.data.toList) ∧ Below w.heap.size w wr) (fun i _ => 256 - (intOf i).toNat)
  case atStart => exact ⟨0, by omega, rfl, fun j hj => absurd hj (by omega), Below.refl _ _⟩
  case round =>
    obtain ⟨k, hk, rfl, hno, hb⟩ := hrel
    by_cases hlt : k < 256
    · go_wp2_with (go_at_call 14; refine (refText_any _ _ (by omega) (by omega)).mono ?_; rintro e w1 ⟨rfl, hb1⟩)
      · have he : ((str (textL k)).toList == s.toList) = true := by assumption
        obtain ⟨e1, e2⟩ := read_hit k s hlt he
        go_ret2
        exact ⟨by rw [e1, e2]; rfl, hb.trans (hb1.mono hb.size)⟩
      · have he : ((str (textL k)).toList == s.toList) = false := by assumption
        go_roundw
        case rel => exact ⟨k + 1, by omega, by go_num, fun j hj => by
                      by_cases hjk : j = k
                      · subst hjk; exact read_miss j s he
                      · exact hno.out j (by omega), hb.trans (hb1.mono hb.size)⟩
        case measure => simp [intOf]; omega
    · have h8 : k = 256 := by omega
      subst h8
      obtain ⟨e1, e2⟩ := read_none s hno.out
      go_wp2
      go_ret2
      exact ⟨by rw [e1, e2]; rfl, hb⟩

theorem rdN_no (s : ByteArray) (h : rdB s = false) : rdN s = 0 := by
  unfold rdB at h; unfold rdN; simp at h; simp [h]
theorem rdN_yes (s : ByteArray) (h : rdB s = true) : rdN s = rUp s.data.toList 8 := by
  unfold rdB at h; unfold rdN; simp at h; rw [if_pos h]; rfl
theorem at_letter (k : Nat) (s : ByteArray) (hk : k < 8) (hs : k < s.size) (hk2 : k < (⟨#[115, 119, 107, 117, 97, 100, 109, 114]⟩ : ByteArray).size) :
    ((s[k].toNat : Int) == ((⟨#[115, 119, 107, 117, 97, 100, 109, 114]⟩ : ByteArray)[k].toNat : Int)) = decide (k < s.data.toList.length ∧ s.data.toList.getD k 0 = letter k) := by
  rw [letter_at]
  have hl : k < s.data.toList.length := by simpa using hs
  have e : s.data.toList.getD k 0 = s[k] := by
    rw [List.getD, List.getElem?_eq_getElem hl]; rfl
  rw [e, Bool.eq_iff_iff, beq_iff_eq, decide_eq_true_iff]
  constructor
  · intro h
    exact ⟨hl, UInt8.toNat_inj.1 (by omega)⟩
  · rintro ⟨_, h⟩
    rw [h]
theorem up_yes (k : Nat) (s : ByteArray) (hk : k < 8) (hs : k < s.size) {hk2 : k < (⟨#[115, 119, 107, 117, 97, 100, 109, 114]⟩ : ByteArray).size}
    (h : ((s[k].toNat : Int) == ((⟨#[115, 119, 107, 117, 97, 100, 109, 114]⟩ : ByteArray)[k].toNat : Int)) = true) :
    Value.int IntKind.u8 (bits BinOp.or IntKind.u8 (rUp s.data.toList k : Nat) (2 ^ k % 256)) = .int .u8 (rUp s.data.toList (k + 1) : Nat) := by
  rw [at_letter k s hk hs hk2, decide_eq_true_iff] at h
  have hlt := rUp_lt s.data.toList k
  have hp : 2 ^ k ≤ 128 := by
    have : 2 ^ k ≤ 2 ^ 7 := Nat.pow_le_pow_right (by decide) (by omega)
    simpa using this
  have e2 : ((2 : Int) ^ k) = ((2 ^ k : Nat) : Int) := by rw [Int.natCast_pow]; rfl
  have e : ((2 : Int) ^ k % 256) = ((2 ^ k : Nat) : Int) := by
    rw [e2]
    generalize 2 ^ k = n at hp
    omega
  rw [e, u8_or_nat _ _ (by omega) (by omega), rUp, if_pos h, Nat.or_comm, nat_join k _ _ (by simp) hlt, Nat.add_comm]
theorem up_no (k : Nat) (s : ByteArray) (hk : k < 8) (hs : k < s.size) {hk2 : k < (⟨#[115, 119, 107, 117, 97, 100, 109, 114]⟩ : ByteArray).size}
    (h : ((s[k].toNat : Int) == ((⟨#[115, 119, 107, 117, 97, 100, 109, 114]⟩ : ByteArray)[k].toNat : Int)) = false) :
    Value.int IntKind.u8 (rUp s.data.toList k : Nat) = .int .u8 (rUp s.data.toList (k + 1) : Nat) := by
  rw [at_letter k s hk hs hk2, decide_eq_false_iff_not] at h
  rw [rUp, if_neg h, Nat.add_zero]
theorem up_end (k : Nat) (s : ByteArray) (hs : ¬ k < s.size) : Value.int IntKind.u8 (rUp s.data.toList k : Nat) = .int .u8 (rUp s.data.toList (k + 1) : Nat) := by
  rw [rUp, if_neg (fun h => hs (by simpa using h.1)), Nat.add_zero]

set_option maxRecDepth 100000 in
set_option maxHeartbeats 400000 in
theorem ofText_any (s : ByteArray) (w : World) (hs : s.size ≤ 1000) :
    Calls Try.prog 13 #[.string s] w fun e w' => e = .returned (.tuple #[.int .u8 ((rdN s : Nat) : Int), .bool (rdB s)]) ∧ Below w.heap.size w w' := by
  have HL := rUp_lt s.data.toList
  go_enter Try.func13, Try.ntmps13
  go_wp2
  go_loopw [2] (fun r wr => ∃ k : Nat, k ≤ 8 ∧ r = .int .u8 (rUp s.data.toList k) ∧ wr.heap[w.heap.size]? = some (.stringIter Ls k) ∧ Below w.heap.size w wr) (fun _ wr => 8 - wr.iterPos w.heap.size)
  case atStart => exact ⟨0, by omega, rfl, World.iter_heap _ _ _, (Below.refl _ w).alloc (Nat.le_refl _) _⟩
  case round =>
    obtain ⟨k, hk, rfl, hit, hb⟩ := hrel
    by_cases hlt : k < 8
    · have hnx0 := fun ty => Lib.run_next_ascii_at (P := Try.prog) wr w.heap.size Ls k ty hit hlt (letter_small k hlt)
      have hnx : ∀ ty, (Instr.next (.pointer (some ⟨w.heap.size, 0, none⟩)) true ty).run Try.prog wr = .ok (.tuple #[.bool true, .int .i64 k, .int .i32 (letter k).toNat]) (wr.iterAt w.heap.size Ls (k + 1)) := fun ty => by rw [hnx0 ty]; unfold Ls; rw [letter_at]
      clear hnx0
      have hpos : Hid (wr.iterPos w.heap.size = k) := iterPos_of hit
      have hit2 := Lib.iterAt_heap wr w.heap.size Ls k (k + 1) hit
      have hb2 := Lib.below_iterAt hb (Nat.le_refl _) Ls (k + 1)
      have hl := HL k
      clear hit hb HL
      have hk8 : (k : Int) < 8 := by omega
      have hk0 : (0 : Int) ≤ (k : Int) := by omega
      have hlL : k < (⟨#[115, 119, 107, 117, 97, 100, 109, 114]⟩ : ByteArray).size := hlt
      by_cases hks : k < s.size
      · go_wp2_with fail
        go_quiet (fail)
        go_wp2_with fail
        · have ht : ((s[k].toNat : Int) == ((⟨#[115, 119, 107, 117, 97, 100, 109, 114]⟩ : ByteArray)[k].toNat : Int)) = true := by assumption
          go_roundw
          case rel => exact ⟨k + 1, by omega, up_yes k s hlt hks ht, hit2, below_drewN hb2 _⟩
          case measure =>
            rw [hpos.out, show ((wr.iterAt w.heap.size Ls (k + 1)).drewN nq).iterPos w.heap.size = k + 1 from iterPos_of hit2]
            omega
        · have ht : ((s[k].toNat : Int) == ((⟨#[115, 119, 107, 117, 97, 100, 109, 114]⟩ : ByteArray)[k].toNat : Int)) = false := by assumption
          go_roundw
          case rel => exact ⟨k + 1, by omega, up_no k s hlt hks ht, hit2, below_drewN hb2 _⟩
          case measure =>
            rw [hpos.out, show ((wr.iterAt w.heap.size Ls (k + 1)).drewN nq).iterPos w.heap.size = k + 1 from iterPos_of hit2]
            omega
      · have hd : decide ((k : Int) < (s.size : Int)) = false := by simp; omega
        have hd2 : decide (k < s.size) = false := by simp; omega
        go_wp2_with fail
        go_quiet (fail)
        go_wp2_with fail
        go_roundw
        case rel => exact ⟨k + 1, by omega, up_end k s hks, hit2, below_drewN hb2 _⟩
        case measure =>
          rw [hpos.out, show ((wr.iterAt w.heap.size Ls (k + 1)).drewN nq).iterPos w.heap.size = k + 1 from iterPos_of hit2]
          omega
    · have h8 : k = 8 := by omega
      subst h8
      have hnx := fun ty => Lib.run_next_end_at (P := Try.prog) wr w.heap.size Ls 8 ty hit (by show ¬ 8 < 8; omega)
      have hl := HL 8
      clear hit HL
      cases hr : rdB s
      · have h2 : Hid (rdN s = 0) := rdN_no s hr
        have h3 : ((str (textL (rUp s.data.toList 8))).toList == s.toList) = false := by rw [str_eq]; exact hr
        go_wp2_with (go_at_call 12; refine (text_any _ _ (by omega) (by omega)).mono ?_; rintro e w1 ⟨rfl, hb1⟩)
        go_ret2
        exact ⟨by rw [h2.out, hr]; rfl, hb.trans (hb1.mono hb.size)⟩
      · have h2 : Hid (rdN s = rUp s.data.toList 8) := rdN_yes s hr
        have h3 : ((str (textL (rUp s.data.toList 8))).toList == s.toList) = true := by rw [str_eq]; exact hr
        go_wp2_with (go_at_call 12; refine (text_any _ _ (by omega) (by omega)).mono ?_; rintro e w1 ⟨rfl, hb1⟩)
        go_ret2
        exact ⟨by rw [h2.out, hr]; rfl, hb.trans (hb1.mono hb.size)⟩
end Go.Proofs.Ytcgmcmnjgimflaa
