/- The reference's parse, small parts, by walk: nibble, value. -/
import Derived.Test.YtnbkpminecoddaaDoorCodeRefT
import Derived.Test.YtnbkpminecoddaaDoorCodeParse
import Derived.Test.YtnbkpminecoddaaDoorCodeSplit
import Derived.Test.YtnbkpminecoddaaDoorCodeUnhex
namespace Go.Proofs.YtnbkpminecoddaaDoor
open Go.RowKit
set_option linter.unusedVariables false
set_option linter.unusedSimpArgs false

/-- A hexadecimal digit's value from so many on; below 0: none. -/
def nibF (c : UInt8) : Nat → Nat → Int
  | 0, _ => -1
  | f + 1, i => if UInt8.ofNat (digN i) = c then (i : Int) else nibF c f (i + 1)
def nibR (c : UInt8) : Int := nibF c 16 0
theorem nibF_step (c : UInt8) (i : Nat) (h : i < 16) : nibF c (16 - i) i = if UInt8.ofNat (digN i) = c then (i : Int) else nibF c (16 - (i + 1)) (i + 1) := by
  obtain ⟨f, hf⟩ : ∃ f, 16 - i = f + 1 := ⟨15 - i, by omega⟩
  rw [hf, show 16 - (i + 1) = f from by omega]
  rfl
set_option maxRecDepth 100000 in
set_option maxHeartbeats 1000000 in
theorem nibble_is (c : UInt8) (w : World) : Calls Tryd.prog 47 #[.int .u8 (c.toNat : Int)] w fun e w' => e = .returned (.int .i64 (nibR c)) ∧ w' = w := by
  obtain ⟨x, hx⟩ : ∃ x, x = c.toNat := ⟨_, rfl⟩
  rw [← hx]
  have hdig : ∀ i, i < 16 → ((digN i = x) ↔ UInt8.ofNat (digN i) = c) := by
    intro i hi
    have hl : digN i < 256 := by unfold digN; split <;> omega
    subst hx
    constructor
    · intro h; rw [h]; simp
    · intro h; rw [← h, UInt8.toNat_ofNat', Nat.mod_eq_of_lt hl]
  have HD := Lib.hid hdig
  clear hx hdig
  unfold nibR
  obtain ⟨R, hR⟩ : ∃ R, R = nibF c 16 0 := ⟨_, rfl⟩
  rw [← hR]
  have HR := Lib.hid hR
  clear hR
  go_enter Tryd.func47, Tryd.ntmps47
  go_wp2_with fail
  go_loop [3] (fun v => ∃ i : Nat, v = .int .i64 (i : Int) ∧ i ≤ 16 ∧ R = nibF c (16 - i) i) (fun v => 16 - (intOf v).toNat)
  case atStart => exact ⟨0, rfl, by omega, HR.out⟩
  case round =>
    obtain ⟨i, rfl, hi, hRi⟩ := hrel
    by_cases hlt : i < 16
    · have hlt1 : (i : Int) < 16 := by omega
      have hst := nibF_step c i hlt
      have DG := fun w => digit_is i hlt w
      have hiff := HD.out i hlt
      rw [hst] at hRi
      by_cases hd : UInt8.ofNat (digN i) = c
      · rw [if_pos hd] at hRi
        have hq : ((digN i : Int) == (x : Int)) = true := by have := hiff.2 hd; simp; omega
        have HRi := Lib.hid hRi
        clear hRi hst hiff hd hlt
        generalize digN i = d at *
        go_wp2_with (go_at_call 32; refine (DG _).mono ?_; rintro e2 w2 ⟨rfl, hw2⟩; subst w2)
        go_ret
        exact ⟨by rw [HRi.out]; rfl, rfl⟩
      · rw [if_neg hd] at hRi
        have hq : ((digN i : Int) == (x : Int)) = false := by
          have : ¬ digN i = x := fun h => hd (hiff.1 h)
          simp
          omega
        have HRi := Lib.hid hRi
        clear hRi hst hiff hd hlt
        generalize digN i = d at *
        go_wp2_with (go_at_call 32; refine (DG _).mono ?_; rintro e2 w2 ⟨rfl, hw2⟩; subst w2)
        go_round
        case rel => exact ⟨i + 1, by go_num, by omega, HRi.out⟩
        case measure => simp [intOf]; omega
    · have hlt1 : ¬ (i : Int) < 16 := by omega
      obtain rfl : i = 16 := by omega
      have HRi := Lib.hid hRi
      clear hRi hlt
      go_wp2_with fail
      go_ret
      exact ⟨by rw [HRi.out]; rfl, rfl⟩
end Go.Proofs.YtnbkpminecoddaaDoor

/- The reference's parse: value, by walk; plain laws of decimal numbers. -/
namespace Go.Proofs.YtnbkpminecoddaaDoor
open Go.RowKit
set_option linter.unusedVariables false
set_option linter.unusedSimpArgs false

def atV (l : List UInt8) : Nat := if 1 < l.length ∧ l.getD 0 0 = 45 then 1 else 0
def decV (l : List UInt8) : Nat := l.foldl (fun n c => 10 * n + (c.toNat - 48)) 0
theorem decV_snoc (l : List UInt8) (c : UInt8) : decV (l ++ [c]) = 10 * decV l + (c.toNat - 48) := by simp [decV]
theorem decV_dec : ∀ (n u : Nat), u ≤ n → decV (Lib.decDigits u) = u
  | n, u, hn => by
    by_cases h : u < 10
    · rw [Lib.decDigits_one h]
      have e : (UInt8.ofNat (48 + u)).toNat = 48 + u := by rw [UInt8.toNat_ofNat', Nat.mod_eq_of_lt (by omega)]
      show 10 * 0 + ((UInt8.ofNat (48 + u)).toNat - 48) = u
      rw [e]
      omega
    · rw [Lib.decDigits, dif_neg h]
      cases n with
      | zero => omega
      | succ n =>
        have e : (UInt8.ofNat (48 + u % 10)).toNat = 48 + u % 10 := by rw [UInt8.toNat_ofNat', Nat.mod_eq_of_lt (by omega)]
        rw [decV_snoc, decV_dec n (u / 10) (by omega), e]
        omega
/-- What is known of a number's text. -/
theorem itoa_form {z : Int} {l : List UInt8} (hz : z.natAbs < 10000000) (h : Lib.itoa z = l) :
    l.length ≤ 8 ∧ atV l < l.length ∧ (∀ i, atV l ≤ i → i < l.length → 48 ≤ (l.getD i 0).toNat ∧ (l.getD i 0).toNat ≤ 57) ∧
    (atV l = 1 → z = -(decV (l.drop 1) : Int)) ∧ (atV l = 0 → z = (decV l : Int)) := by
  unfold Lib.itoa at h
  split at h
  · rename_i hn
    obtain ⟨c, r, he, hc1, hc2⟩ := dec_ne z.natAbs
    have hlen := dec_len 6 z.natAbs (by omega)
    have hch := dec_chars z.natAbs z.natAbs (Nat.le_refl _)
    have hdv := decV_dec z.natAbs z.natAbs (Nat.le_refl _)
    generalize Lib.decDigits z.natAbs = D at *
    subst h
    have ha : atV (45 :: D) = 1 := by
      unfold atV
      rw [if_pos]
      exact ⟨by rw [he]; simp, rfl⟩
    rw [ha]
    refine ⟨by simp; omega, by rw [he]; simp, fun i h1 h2 => ?_, fun _ => ?_, fun h => by omega⟩
    · obtain ⟨j, rfl⟩ : ∃ j, i = j + 1 := ⟨i - 1, by omega⟩
      have hj : j < D.length := by simpa using h2
      have e : (45 :: D).getD (j + 1) 0 = D[j]'hj := by simp [List.getD_eq_getElem?_getD, hj]
      rw [e]
      exact hch _ (List.getElem_mem _)
    · show z = -(decV D : Int)
      omega
  · rename_i hn
    obtain ⟨c, r, he, hc1, hc2⟩ := dec_ne z.toNat
    have hlen := dec_len 6 z.toNat (by omega)
    have hch := dec_chars z.toNat z.toNat (Nat.le_refl _)
    have hdv := decV_dec z.toNat z.toNat (Nat.le_refl _)
    generalize Lib.decDigits z.toNat = D at *
    subst h
    have ha : atV D = 0 := by
      unfold atV
      rw [if_neg]
      rintro ⟨_, h2⟩
      rw [he] at h2
      have h3 : c = 45 := h2
      rw [h3] at hc1
      exact absurd hc1 (by decide)
    rw [ha]
    refine ⟨by omega, by rw [he]; simp, fun i h1 h2 => ?_, fun h => by omega, fun _ => by omega⟩
    have e : D.getD i 0 = D[i]'h2 := by simp [List.getD_eq_getElem?_getD, h2]
    rw [e]
    exact hch _ (List.getElem_mem _)
/-- What value answers. -/
def VP (l : List UInt8) (z : Int) (ok : Bool) : Prop := (ok = true → Lib.itoa z = l) ∧ ∀ z0 : Int, z0.natAbs < 10000000 → Lib.itoa z0 = l → z = z0 ∧ ok = true
theorem VP_none {l : List UInt8} (h : ∀ z0 : Int, z0.natAbs < 10000000 → ¬ Lib.itoa z0 = l) : VP l 0 false := ⟨fun h => (by cases h), fun z0 h1 h2 => absurd h2 (h z0 h1)⟩
theorem VP_some {l : List UInt8} {z : Int} (h1 : atV l = 1 → z = -(decV (l.drop 1) : Int)) (h0 : atV l = 0 → z = (decV l : Int)) : VP l z (decide (Lib.itoa z = l)) := by
  refine ⟨fun h => by simpa using h, fun z0 hz he => ?_⟩
  obtain ⟨_, _, _, g1, g0⟩ := itoa_form hz he
  have ha : atV l = 0 ∨ atV l = 1 := by unfold atV; split <;> simp
  have e : z = z0 := by
    rcases ha with ha | ha
    · rw [h0 ha, g0 ha]
    · rw [h1 ha, g1 ha]
  subst e
  exact ⟨rfl, by simpa using he⟩
theorem decV_take {l : List UInt8} {a k : Nat} (h : a + k < l.length) : decV ((l.drop a).take (k + 1)) = 10 * decV ((l.drop a).take k) + ((l.getD (a + k) 0).toNat - 48) := by
  have hk : k < (l.drop a).length := by simp; omega
  rw [List.take_succ_eq_append_getElem hk, decV_snoc]
  congr 2
  simp [List.getD_eq_getElem?_getD, h]
theorem decV_all {l : List UInt8} {a k : Nat} (h : a + k = l.length) : (l.drop a).take k = l.drop a := List.take_of_length_le (by simp; omega)

def VPost (l : List UInt8) (w : World) (e : Ending) (w' : World) : Prop := ∃ z ok, e = .returned (.tuple #[.int .i64 z, .bool ok]) ∧ Below w.heap.size w w' ∧ VP l z ok
theorem pow_le8 {k : Nat} (h : k ≤ 8) : 10 ^ k ≤ 100000000 := by
  have := Nat.pow_le_pow_right (n := 10) (by omega) h
  exact this
theorem val_head (l : List UInt8) : (¬ (1 : Int) < ((strL l).size : Int) ∧ atV l = 0) ∨ (∃ h : 0 < (strL l).size, (1 : Int) < ((strL l).size : Int) ∧ ((((strL l)[0]'h).toNat : Int) == 45) = true ∧ atV l = 1) ∨
    (∃ h : 0 < (strL l).size, (1 : Int) < ((strL l).size : Int) ∧ ((((strL l)[0]'h).toNat : Int) == 45) = false ∧ atV l = 0) := by
  have hsz : (strL l).size = l.length := strL_size l
  have ea : atV l = if 1 < l.length ∧ l.getD 0 0 = 45 then 1 else 0 := rfl
  by_cases h1 : 1 < l.length
  · have h0 : 0 < (strL l).size := by omega
    have e0 : (strL l)[0]'h0 = l.getD 0 0 := by rw [List.getD_eq_getElem?_getD, List.getElem?_eq_getElem (by omega)]; rfl
    by_cases h2 : l.getD 0 0 = 45
    · refine .inr (.inl ⟨h0, by omega, ?_, by rw [ea, if_pos ⟨h1, h2⟩]⟩)
      rw [e0, h2]
      rfl
    · refine .inr (.inr ⟨h0, by omega, ?_, by rw [ea, if_neg (fun h => h2 h.2)]⟩)
      rw [e0]
      have h3 : ¬ (l.getD 0 0).toNat = 45 := fun h => h2 (UInt8.toNat_inj.1 h)
      exact beq_eq_false_iff_ne.2 (fun h => h3 (Int.ofNat_inj.1 h))
  · exact .inl ⟨by omega, by rw [ea, if_neg (fun h => h1 h.1)]⟩
set_option maxRecDepth 100000 in
set_option maxHeartbeats 4000000 in
theorem value_is (l : List UInt8) (hl : l.length ≤ 100000) (w : World) : Calls Tryd.prog 48 #[.string (strL l)] w (VPost l w) := by
  have NM := fun (z : Int) (h : z.natAbs < 1000000000) (w : World) => refNum_is z h w
  have hsz : (strL l).size = l.length := strL_size l
  have hget : ∀ (i : Nat) (h : i < (strL l).size), (strL l)[i]'h = l.getD i 0 := by
    intro i h
    rw [List.getD_eq_getElem?_getD, List.getElem?_eq_getElem (by omega)]
    rfl
  have HG := Lib.hid hget
  have HF := Lib.hid (fun (z : Int) (hz : z.natAbs < 10000000) (h : Lib.itoa z = l) => itoa_form hz h)
  clear hget
  rcases val_head l with ⟨hh1, hat⟩ | ⟨hh0, hh1, hh2, hat⟩ | ⟨hh0, hh1, hh2, hat⟩
  · have HA := Lib.hid hat
    clear hat
    by_cases hcut : 0 = l.length ∨ 8 < l.length
    · have HN := Lib.hid (show ∀ z0 : Int, z0.natAbs < 10000000 → ¬ Lib.itoa z0 = l from fun z0 hz he => by
        obtain ⟨h1, h2, _⟩ := HF.out z0 hz he
        have := HA.out
        omega)
      by_cases hc1 : 0 = l.length
      · have hq : ((0 : Int) == ((strL l).size : Int)) = true := by simp; omega
        clear hcut hc1 hsz hl
        go_enter Tryd.func48, Tryd.ntmps48
        go_wp2_with fail
        go_ret2
        exact ⟨0, false, rfl, Below.refl _ _, VP_none HN.out⟩
      · have hq : ((0 : Int) == ((strL l).size : Int)) = false := by simp; omega
        have hq8 : (8 : Int) < ((strL l).size : Int) := by omega
        clear hcut hc1 hsz hl
        go_enter Tryd.func48, Tryd.ntmps48
        go_wp2_with fail
        go_ret2
        exact ⟨0, false, rfl, Below.refl _ _, VP_none HN.out⟩
    · have hq : ((0 : Int) == ((strL l).size : Int)) = false := by simp; omega
      have hq8 : ¬ (8 : Int) < ((strL l).size : Int) := by omega
      have hl8 : l.length ≤ 8 := by omega
      have hl1 : 0 ≤ l.length := by first | omega | exact Nat.zero_le _
      have HSZ := Lib.hid hsz
      clear hcut hl hsz
      go_enter Tryd.func48, Tryd.ntmps48
      go_wp2_with fail
      go_loop [4, 6] (fun n i => ∃ (k m : Nat), i = .int .i64 ((0 + k : Nat) : Int) ∧ n = .int .i64 (m : Int) ∧ 0 + k ≤ l.length ∧ m < 10 ^ k ∧ Hid (m = decV ((l.drop 0).take k))) (fun _ i => l.length + 1 - (intOf i).toNat)
      case atStart => exact ⟨0, 0, rfl, rfl, hl1, by decide, Lib.hid rfl⟩
      case round =>
        obtain ⟨k, m, rfl, rfl, hk, hm, HM⟩ := hrel
        have hsz := HSZ.out
        have hp8 := pow_le8 (k := k) (by omega)
        have hm8 : m < 100000000 := by omega
        have hm10 : 10 * m + 10 ≤ 10 ^ (k + 1) := by rw [Nat.pow_succ]; omega
        obtain ⟨q, hqk⟩ : ∃ q, q = 0 + k := ⟨_, rfl⟩
        rw [← hqk] at hk ⊢
        by_cases hlt : q < l.length
        · have h0 : q < (strL l).size := by omega
          have hlt1 : (q : Int) < ((strL l).size : Int) := by omega
          have e0 := HG.out q h0
          obtain ⟨d, hd⟩ : ∃ d, d = ((strL l)[q]'h0).toNat := ⟨_, rfl⟩
          have hd9 : d < 256 := by rw [hd]; exact UInt8.toNat_lt _
          have hd2 : d = (l.getD q 0).toNat := by rw [hd, e0]
          have HK := Lib.hid (And.intro hqk (And.intro hlt (And.intro hm (And.intro hm8 (And.intro hm10 hd2)))))
          have HX := Lib.hid hd
          by_cases hlow : d < 48
          · have g1 : (((strL l)[q]'h0).toNat : Int) < 48 := by omega
            have HN := Lib.hid (show ∀ z0 : Int, z0.natAbs < 10000000 → ¬ Lib.itoa z0 = l from fun z0 hz he => by
              have := (HF.out z0 hz he).2.2.1 q (by have := HA.out; omega) hlt
              omega)
            clear hsz hqk hlt hm hm8 hm10 hd2 hk hp8 hd e0
            go_wp2_with fail
            go_ret2
            exact ⟨0, false, rfl, Below.refl _ _, VP_none HN.out⟩
          · have g1 : ¬ (((strL l)[q]'h0).toNat : Int) < 48 := by omega
            by_cases hhigh : 57 < d
            · have g2 : (57 : Int) < (((strL l)[q]'h0).toNat : Int) := by omega
              have HN := Lib.hid (show ∀ z0 : Int, z0.natAbs < 10000000 → ¬ Lib.itoa z0 = l from fun z0 hz he => by
                have := (HF.out z0 hz he).2.2.1 q (by have := HA.out; omega) hlt
                omega)
              clear hsz hqk hlt hm hm8 hm10 hd2 hk hp8 hd e0
              go_wp2_with fail
              go_ret2
              exact ⟨0, false, rfl, Below.refl _ _, VP_none HN.out⟩
            · have g2 : ¬ (57 : Int) < (((strL l)[q]'h0).toNat : Int) := by omega
              have g3 : IntKind.u8.wrap ((((strL l)[q]'h0).toNat : Int) - 48) = ((((strL l)[q]'h0).toNat : Int) - 48) := by rw [IntKind.wrap_u8]; omega
              clear hsz hqk hlt hm hm10 hd2 hk hp8 hd e0
              go_wp2_with fail
              go_round
              case rel =>
                obtain ⟨hqk, hlt, hm, hm8, hm10, hd2⟩ := HK.out
                have hd := HX.out
                refine ⟨k + 1, 10 * m + (d - 48), ?_, ?_, by omega, by omega, Lib.hid ?_⟩
                · congr 1; omega
                · congr 1
                  skip
                  omega
                · rw [decV_take (by omega), ← HM.out, ← hqk, ← hd2]
              case measure => 
                obtain ⟨hqk, hlt, hm, hm8, hm10, hd2⟩ := HK.out
                simp [intOf]; omega
        · obtain rfl : q = l.length := by omega
          have hlt1 : ¬ ((l.length : Nat) : Int) < ((strL l).size : Int) := by omega
          have hmv : m = decV (l.drop 0) := by rw [HM.out, decV_all hqk.symm]
          have HV := Lib.hid hmv
          clear hsz hp8 hm10 hm hqk hmv HM hk hlt
          have HW : VP l (m : Int) (decide (Lib.itoa (m : Int) = l)) := by
            have hA := HA.out
            have hV := HV.out
            exact VP_some (fun h => by rw [hA] at h; cases h) (fun h => by rw [hV]; rfl)
          have hcmp : ((strL (Lib.itoa (m : Int))).toList == (strL l).toList) = decide (Lib.itoa (m : Int) = l) := by rw [strL_toList, strL_toList, Bool.eq_iff_iff, beq_iff_eq, decide_eq_true_eq]
          have NMz := NM (m : Int) (by omega)
          by_cases hzl : Lib.itoa (m : Int) = l
          · rw [decide_eq_true hzl] at hcmp HW
            have HW := Lib.hid HW
            generalize Lib.itoa (m : Int) = T at *
            clear hzl HV
            go_wp2_with (go_at_call 44; refine (NMz _).mono ?_; rintro e2 w2 ⟨rfl, hb2⟩)
            go_ret2
            exact ⟨_, true, rfl, hb2, HW.out⟩
          · rw [decide_eq_false hzl] at hcmp HW
            have HW := Lib.hid HW
            generalize Lib.itoa (m : Int) = T at *
            clear hzl HV
            go_wp2_with (go_at_call 44; refine (NMz _).mono ?_; rintro e2 w2 ⟨rfl, hb2⟩)
            go_ret2
            exact ⟨_, false, rfl, hb2, HW.out⟩
  · have HA := Lib.hid hat
    clear hat
    by_cases hcut : 1 = l.length ∨ 8 < l.length
    · have HN := Lib.hid (show ∀ z0 : Int, z0.natAbs < 10000000 → ¬ Lib.itoa z0 = l from fun z0 hz he => by
        obtain ⟨h1, h2, _⟩ := HF.out z0 hz he
        have := HA.out
        omega)
      by_cases hc1 : 1 = l.length
      · have hq : ((1 : Int) == ((strL l).size : Int)) = true := by simp; omega
        clear hcut hc1 hsz hl
        go_enter Tryd.func48, Tryd.ntmps48
        go_wp2_with fail
        go_ret2
        exact ⟨0, false, rfl, Below.refl _ _, VP_none HN.out⟩
      · have hq : ((1 : Int) == ((strL l).size : Int)) = false := by simp; omega
        have hq8 : (8 : Int) < ((strL l).size : Int) := by omega
        clear hcut hc1 hsz hl
        go_enter Tryd.func48, Tryd.ntmps48
        go_wp2_with fail
        go_ret2
        exact ⟨0, false, rfl, Below.refl _ _, VP_none HN.out⟩
    · have hq : ((1 : Int) == ((strL l).size : Int)) = false := by simp; omega
      have hq8 : ¬ (8 : Int) < ((strL l).size : Int) := by omega
      have hl8 : l.length ≤ 8 := by omega
      have hl1 : 1 ≤ l.length := by first | omega | exact Nat.zero_le _
      have HSZ := Lib.hid hsz
      clear hcut hl hsz
      go_enter Tryd.func48, Tryd.ntmps48
      go_wp2_with fail
      go_loop [4, 6] (fun n i => ∃ (k m : Nat), i = .int .i64 ((1 + k : Nat) : Int) ∧ n = .int .i64 (m : Int) ∧ 1 + k ≤ l.length ∧ m < 10 ^ k ∧ Hid (m = decV ((l.drop 1).take k))) (fun _ i => l.length + 1 - (intOf i).toNat)
      case atStart => exact ⟨0, 0, rfl, rfl, hl1, by decide, Lib.hid rfl⟩
      case round =>
        obtain ⟨k, m, rfl, rfl, hk, hm, HM⟩ := hrel
        have hsz := HSZ.out
        have hp8 := pow_le8 (k := k) (by omega)
        have hm8 : m < 100000000 := by omega
        have hm10 : 10 * m + 10 ≤ 10 ^ (k + 1) := by rw [Nat.pow_succ]; omega
        obtain ⟨q, hqk⟩ : ∃ q, q = 1 + k := ⟨_, rfl⟩
        rw [← hqk] at hk ⊢
        by_cases hlt : q < l.length
        · have h0 : q < (strL l).size := by omega
          have hlt1 : (q : Int) < ((strL l).size : Int) := by omega
          have e0 := HG.out q h0
          obtain ⟨d, hd⟩ : ∃ d, d = ((strL l)[q]'h0).toNat := ⟨_, rfl⟩
          have hd9 : d < 256 := by rw [hd]; exact UInt8.toNat_lt _
          have hd2 : d = (l.getD q 0).toNat := by rw [hd, e0]
          have HK := Lib.hid (And.intro hqk (And.intro hlt (And.intro hm (And.intro hm8 (And.intro hm10 hd2)))))
          have HX := Lib.hid hd
          by_cases hlow : d < 48
          · have g1 : (((strL l)[q]'h0).toNat : Int) < 48 := by omega
            have HN := Lib.hid (show ∀ z0 : Int, z0.natAbs < 10000000 → ¬ Lib.itoa z0 = l from fun z0 hz he => by
              have := (HF.out z0 hz he).2.2.1 q (by have := HA.out; omega) hlt
              omega)
            clear hsz hqk hlt hm hm8 hm10 hd2 hk hp8 hd e0
            go_wp2_with fail
            go_ret2
            exact ⟨0, false, rfl, Below.refl _ _, VP_none HN.out⟩
          · have g1 : ¬ (((strL l)[q]'h0).toNat : Int) < 48 := by omega
            by_cases hhigh : 57 < d
            · have g2 : (57 : Int) < (((strL l)[q]'h0).toNat : Int) := by omega
              have HN := Lib.hid (show ∀ z0 : Int, z0.natAbs < 10000000 → ¬ Lib.itoa z0 = l from fun z0 hz he => by
                have := (HF.out z0 hz he).2.2.1 q (by have := HA.out; omega) hlt
                omega)
              clear hsz hqk hlt hm hm8 hm10 hd2 hk hp8 hd e0
              go_wp2_with fail
              go_ret2
              exact ⟨0, false, rfl, Below.refl _ _, VP_none HN.out⟩
            · have g2 : ¬ (57 : Int) < (((strL l)[q]'h0).toNat : Int) := by omega
              have g3 : IntKind.u8.wrap ((((strL l)[q]'h0).toNat : Int) - 48) = ((((strL l)[q]'h0).toNat : Int) - 48) := by rw [IntKind.wrap_u8]; omega
              clear hsz hqk hlt hm hm10 hd2 hk hp8 hd e0
              go_wp2_with fail
              go_round
              case rel =>
                obtain ⟨hqk, hlt, hm, hm8, hm10, hd2⟩ := HK.out
                have hd := HX.out
                refine ⟨k + 1, 10 * m + (d - 48), ?_, ?_, by omega, by omega, Lib.hid ?_⟩
                · congr 1; omega
                · congr 1
                  skip
                  omega
                · rw [decV_take (by omega), ← HM.out, ← hqk, ← hd2]
              case measure => 
                obtain ⟨hqk, hlt, hm, hm8, hm10, hd2⟩ := HK.out
                simp [intOf]; omega
        · obtain rfl : q = l.length := by omega
          have hlt1 : ¬ ((l.length : Nat) : Int) < ((strL l).size : Int) := by omega
          have hmv : m = decV (l.drop 1) := by rw [HM.out, decV_all hqk.symm]
          have HV := Lib.hid hmv
          clear hsz hp8 hm10 hm hqk hmv HM hk hlt
          have HW : VP l (-(m : Int)) (decide (Lib.itoa (-(m : Int)) = l)) := by
            have hA := HA.out
            have hV := HV.out
            exact VP_some (fun h => by rw [hV]) (fun h => by rw [hA] at h; cases h)
          have hcmp : ((strL (Lib.itoa (-(m : Int)))).toList == (strL l).toList) = decide (Lib.itoa (-(m : Int)) = l) := by rw [strL_toList, strL_toList, Bool.eq_iff_iff, beq_iff_eq, decide_eq_true_eq]
          have NMz := NM (-(m : Int)) (by omega)
          by_cases hzl : Lib.itoa (-(m : Int)) = l
          · rw [decide_eq_true hzl] at hcmp HW
            have HW := Lib.hid HW
            generalize Lib.itoa (-(m : Int)) = T at *
            clear hzl HV
            go_wp2_with (go_at_call 44; refine (NMz _).mono ?_; rintro e2 w2 ⟨rfl, hb2⟩)
            go_ret2
            exact ⟨_, true, rfl, hb2, HW.out⟩
          · rw [decide_eq_false hzl] at hcmp HW
            have HW := Lib.hid HW
            generalize Lib.itoa (-(m : Int)) = T at *
            clear hzl HV
            go_wp2_with (go_at_call 44; refine (NMz _).mono ?_; rintro e2 w2 ⟨rfl, hb2⟩)
            go_ret2
            exact ⟨_, false, rfl, hb2, HW.out⟩
  · have HA := Lib.hid hat
    clear hat
    by_cases hcut : 0 = l.length ∨ 8 < l.length
    · have HN := Lib.hid (show ∀ z0 : Int, z0.natAbs < 10000000 → ¬ Lib.itoa z0 = l from fun z0 hz he => by
        obtain ⟨h1, h2, _⟩ := HF.out z0 hz he
        have := HA.out
        omega)
      by_cases hc1 : 0 = l.length
      · have hq : ((0 : Int) == ((strL l).size : Int)) = true := by simp; omega
        clear hcut hc1 hsz hl
        go_enter Tryd.func48, Tryd.ntmps48
        go_wp2_with fail
        go_ret2
        exact ⟨0, false, rfl, Below.refl _ _, VP_none HN.out⟩
      · have hq : ((0 : Int) == ((strL l).size : Int)) = false := by simp; omega
        have hq8 : (8 : Int) < ((strL l).size : Int) := by omega
        clear hcut hc1 hsz hl
        go_enter Tryd.func48, Tryd.ntmps48
        go_wp2_with fail
        go_ret2
        exact ⟨0, false, rfl, Below.refl _ _, VP_none HN.out⟩
    · have hq : ((0 : Int) == ((strL l).size : Int)) = false := by simp; omega
      have hq8 : ¬ (8 : Int) < ((strL l).size : Int) := by omega
      have hl8 : l.length ≤ 8 := by omega
      have hl1 : 0 ≤ l.length := by first | omega | exact Nat.zero_le _
      have HSZ := Lib.hid hsz
      clear hcut hl hsz
      go_enter Tryd.func48, Tryd.ntmps48
      go_wp2_with fail
      go_loop [4, 6] (fun n i => ∃ (k m : Nat), i = .int .i64 ((0 + k : Nat) : Int) ∧ n = .int .i64 (m : Int) ∧ 0 + k ≤ l.length ∧ m < 10 ^ k ∧ Hid (m = decV ((l.drop 0).take k))) (fun _ i => l.length + 1 - (intOf i).toNat)
      case atStart => exact ⟨0, 0, rfl, rfl, hl1, by decide, Lib.hid rfl⟩
      case round =>
        obtain ⟨k, m, rfl, rfl, hk, hm, HM⟩ := hrel
        have hsz := HSZ.out
        have hp8 := pow_le8 (k := k) (by omega)
        have hm8 : m < 100000000 := by omega
        have hm10 : 10 * m + 10 ≤ 10 ^ (k + 1) := by rw [Nat.pow_succ]; omega
        obtain ⟨q, hqk⟩ : ∃ q, q = 0 + k := ⟨_, rfl⟩
        rw [← hqk] at hk ⊢
        by_cases hlt : q < l.length
        · have h0 : q < (strL l).size := by omega
          have hlt1 : (q : Int) < ((strL l).size : Int) := by omega
          have e0 := HG.out q h0
          obtain ⟨d, hd⟩ : ∃ d, d = ((strL l)[q]'h0).toNat := ⟨_, rfl⟩
          have hd9 : d < 256 := by rw [hd]; exact UInt8.toNat_lt _
          have hd2 : d = (l.getD q 0).toNat := by rw [hd, e0]
          have HK := Lib.hid (And.intro hqk (And.intro hlt (And.intro hm (And.intro hm8 (And.intro hm10 hd2)))))
          have HX := Lib.hid hd
          by_cases hlow : d < 48
          · have g1 : (((strL l)[q]'h0).toNat : Int) < 48 := by omega
            have HN := Lib.hid (show ∀ z0 : Int, z0.natAbs < 10000000 → ¬ Lib.itoa z0 = l from fun z0 hz he => by
              have := (HF.out z0 hz he).2.2.1 q (by have := HA.out; omega) hlt
              omega)
            clear hsz hqk hlt hm hm8 hm10 hd2 hk hp8 hd e0
            go_wp2_with fail
            go_ret2
            exact ⟨0, false, rfl, Below.refl _ _, VP_none HN.out⟩
          · have g1 : ¬ (((strL l)[q]'h0).toNat : Int) < 48 := by omega
            by_cases hhigh : 57 < d
            · have g2 : (57 : Int) < (((strL l)[q]'h0).toNat : Int) := by omega
              have HN := Lib.hid (show ∀ z0 : Int, z0.natAbs < 10000000 → ¬ Lib.itoa z0 = l from fun z0 hz he => by
                have := (HF.out z0 hz he).2.2.1 q (by have := HA.out; omega) hlt
                omega)
              clear hsz hqk hlt hm hm8 hm10 hd2 hk hp8 hd e0
              go_wp2_with fail
              go_ret2
              exact ⟨0, false, rfl, Below.refl _ _, VP_none HN.out⟩
            · have g2 : ¬ (57 : Int) < (((strL l)[q]'h0).toNat : Int) := by omega
              have g3 : IntKind.u8.wrap ((((strL l)[q]'h0).toNat : Int) - 48) = ((((strL l)[q]'h0).toNat : Int) - 48) := by rw [IntKind.wrap_u8]; omega
              clear hsz hqk hlt hm hm10 hd2 hk hp8 hd e0
              go_wp2_with fail
              go_round
              case rel =>
                obtain ⟨hqk, hlt, hm, hm8, hm10, hd2⟩ := HK.out
                have hd := HX.out
                refine ⟨k + 1, 10 * m + (d - 48), ?_, ?_, by omega, by omega, Lib.hid ?_⟩
                · congr 1; omega
                · congr 1
                  skip
                  omega
                · rw [decV_take (by omega), ← HM.out, ← hqk, ← hd2]
              case measure => 
                obtain ⟨hqk, hlt, hm, hm8, hm10, hd2⟩ := HK.out
                simp [intOf]; omega
        · obtain rfl : q = l.length := by omega
          have hlt1 : ¬ ((l.length : Nat) : Int) < ((strL l).size : Int) := by omega
          have hmv : m = decV (l.drop 0) := by rw [HM.out, decV_all hqk.symm]
          have HV := Lib.hid hmv
          clear hsz hp8 hm10 hm hqk hmv HM hk hlt
          have HW : VP l (m : Int) (decide (Lib.itoa (m : Int) = l)) := by
            have hA := HA.out
            have hV := HV.out
            exact VP_some (fun h => by rw [hA] at h; cases h) (fun h => by rw [hV]; rfl)
          have hcmp : ((strL (Lib.itoa (m : Int))).toList == (strL l).toList) = decide (Lib.itoa (m : Int) = l) := by rw [strL_toList, strL_toList, Bool.eq_iff_iff, beq_iff_eq, decide_eq_true_eq]
          have NMz := NM (m : Int) (by omega)
          by_cases hzl : Lib.itoa (m : Int) = l
          · rw [decide_eq_true hzl] at hcmp HW
            have HW := Lib.hid HW
            generalize Lib.itoa (m : Int) = T at *
            clear hzl HV
            go_wp2_with (go_at_call 44; refine (NMz _).mono ?_; rintro e2 w2 ⟨rfl, hb2⟩)
            go_ret2
            exact ⟨_, true, rfl, hb2, HW.out⟩
          · rw [decide_eq_false hzl] at hcmp HW
            have HW := Lib.hid HW
            generalize Lib.itoa (m : Int) = T at *
            clear hzl HV
            go_wp2_with (go_at_call 44; refine (NMz _).mono ?_; rintro e2 w2 ⟨rfl, hb2⟩)
            go_ret2
            exact ⟨_, false, rfl, hb2, HW.out⟩
end Go.Proofs.YtnbkpminecoddaaDoor

/- The reference's parse: cut, by walk: the words of a line as an own row. -/
section
namespace Go.Proofs.YtnbkpminecoddaaDoor
open Go.RowKit
set_option linter.unusedVariables false
set_option linter.unusedSimpArgs false

theorem infoStr : (Tryd.prog.info? 9).map (fun i => (i.zero, i.size, i.bytes)) = some (some (.string ⟨#[]⟩), 1, 16) := by kernel_rfl
theorem underStr : Tryd.prog.underlying 62 = some (.slice 9) := by kernel_rfl
/-- Words as values. -/
def wV (ws : List (List UInt8)) : List Value := ws.map fun x => .string (strL x)
theorem extract_L (l : List UInt8) (a b : Nat) : (strL l).extract a b = strL ((l.drop a).take (b - a)) := by
  apply ByteArray.ext
  apply Array.ext'
  simp [strL, ByteArray.data_extract, Array.toList_extract, List.extract_eq_take_drop]
/-- What is cut so far. -/
def CutR (l : List UInt8) (out : List (List UInt8)) (fr i : Nat) : Prop :=
  (i ≤ l.length ∧ fr ≤ i ∧ splitL 32 l = out ++ splitL 32 (l.drop fr) ∧ (32 : UInt8) ∉ (l.drop fr).take (i - fr)) ∨ (i = l.length + 1 ∧ splitL 32 l = out)
theorem cut_start (l : List UInt8) : CutR l [] 0 0 := .inl ⟨by omega, by omega, rfl, by simp⟩
theorem take_up {l : List UInt8} {fr i : Nat} (h : fr ≤ i) (hi : i < l.length) : (l.drop fr).take (i + 1 - fr) = (l.drop fr).take (i - fr) ++ [l.getD i 0] := by
  have hk : i - fr < (l.drop fr).length := by simp; omega
  rw [show i + 1 - fr = (i - fr) + 1 from by omega, List.take_succ_eq_append_getElem hk]
  congr 2
  rw [List.getElem_drop, List.getD_eq_getElem?_getD, List.getElem?_eq_getElem hi]
  simp [show fr + (i - fr) = i from by omega]
theorem cut_no {l out fr i} (h : CutR l out fr i) (hi : i < l.length) (hc : ¬ l.getD i 0 = 32) : CutR l out fr (i + 1) := by
  rcases h with ⟨h1, h2, h3, h4⟩ | ⟨h1, _⟩
  · refine .inl ⟨by omega, by omega, h3, ?_⟩
    rw [take_up h2 hi]
    intro hm
    rcases List.mem_append.1 hm with hm | hm
    · exact h4 hm
    · rw [List.mem_singleton] at hm
      exact hc hm.symm
  · omega
theorem cut_yes {l out fr i} (h : CutR l out fr i) (hi : i < l.length) (hc : l.getD i 0 = 32) : CutR l (out ++ [(l.drop fr).take (i - fr)]) (i + 1) (i + 1) := by
  rcases h with ⟨h1, h2, h3, h4⟩ | ⟨h1, _⟩
  · refine .inl ⟨by omega, by omega, ?_, by simp⟩
    have e : l.drop fr = (l.drop fr).take (i - fr) ++ 32 :: l.drop (i + 1) := by
      have h5 := List.take_append_drop (i + 1 - fr) (l.drop fr)
      rw [take_up h2 hi, hc, List.drop_drop, show fr + (i + 1 - fr) = i + 1 from by omega] at h5
      refine h5.symm.trans ?_
      simp
    rw [h3]
    conv => lhs; rw [e, splitL_cons _ h4]
    simp
  · omega
theorem cut_end {l out fr i} (h : CutR l out fr i) (hi : i = l.length) : CutR l (out ++ [(l.drop fr).take (i - fr)]) (i + 1) (i + 1) := by
  rcases h with ⟨h1, h2, h3, h4⟩ | ⟨h1, _⟩
  · refine .inr ⟨by omega, ?_⟩
    have e : (l.drop fr).take (i - fr) = l.drop fr := List.take_of_length_le (by simp; omega)
    rw [e] at h4 ⊢
    rw [h3, splitL_none h4]
  · omega
theorem cut_fr {l out fr i} (h : CutR l out fr i) (hi : i ≤ l.length) : fr ≤ i := by
  rcases h with ⟨h1, h2, h3, h4⟩ | ⟨h1, _⟩ <;> omega
theorem cut_le {l out fr i} (h : CutR l out fr i) : out.length ≤ l.length + 1 := by
  have hs := splitL_sum 32 l.length l (Nat.le_refl _)
  rcases h with ⟨h1, h2, h3, h4⟩ | ⟨h1, h3⟩
  · rw [h3] at hs
    simp at hs
    omega
  · rw [h3] at hs
    omega
set_option maxRecDepth 100000 in
set_option maxHeartbeats 4000000 in
theorem cut_is (l : List UInt8) (hl : l.length ≤ 100000) (w : World) : Calls Tryd.prog 46 #[.string (strL l)] w fun e w' => ∃ v, e = .returned v ∧ w'.ownsRow w.heap.size 9 1 v (splitL 32 l).length (wV (splitL 32 l)) ∧ Below w.heap.size w w' := by
  obtain ⟨i0, hi, hz0, hz1, hz2⟩ := info_parts infoStr
  have hget : ∀ (i : Nat) (h : i < (strL l).size), (strL l)[i]'h = l.getD i 0 := by
    intro i h
    rw [List.getD_eq_getElem?_getD, List.getElem?_eq_getElem (by have := strL_size l; omega)]
    rfl
  have HG := Lib.hid hget
  have HSZ := Lib.hid (strL_size l)
  clear hget
  go_enter Tryd.func46, Tryd.ntmps46
  go_wp2_with fail
  go_loopw [3, 4, 5] (fun v f i wr => ∃ (k fr : Nat) (out : List (List UInt8)), i = .int .i64 (k : Int) ∧ f = .int .i64 (fr : Int) ∧ Hid (CutR l out fr k) ∧ k ≤ l.length + 1 ∧ fr ≤ l.length + 1 ∧ out.length ≤ l.length + 1 ∧ wr.ownsRow w.heap.size 9 1 v out.length (wV out) ∧ Below w.heap.size w wr) (fun _ _ i _ => l.length + 2 - (intOf i).toNat)
  case atStart => exact ⟨0, 0, [], rfl, rfl, Lib.hid (cut_start l), by omega, by omega, by simp, World.ownsRow_nil _ _ _ _, Below.refl _ _⟩
  case round =>
    obtain ⟨k, fr, out, rfl, rfl, HC, hk, hfr, hout, hown, hb⟩ := hrel
    by_cases hlt : k ≤ l.length
    · have hlt1 : (k : Int) ≤ ((strL l).size : Int) := by have := HSZ.out; omega
      have hfk := cut_fr HC.out hlt
      have hx := extract_L l fr k
      obtain ⟨pc, hpc⟩ : ∃ pc, pc = (l.drop fr).take (k - fr) := ⟨_, rfl⟩
      rw [← hpc] at hx
      have hfk1 : (fr : Int) ≤ (k : Int) := by omega
      have go_app : k < l.length ∧ l.getD k 0 = 32 ∨ k = l.length → CutR l (out ++ [pc]) (k + 1) (k + 1) := by
        intro h
        rw [hpc]
        rcases h with ⟨h1, h2⟩ | h1
        · exact cut_yes HC.out h1 h2
        · exact cut_end HC.out h1
      have HP := Lib.hid hpc
      have HX := Lib.hid hx
      clear hpc
      obtain ⟨A', cap', rfl⟩ := own_slice hown
      have hbl := hb.size
      by_cases hend : k = l.length
      · have hq : ((k : Int) == ((strL l).size : Int)) = true := by have := HSZ.out; simp; omega
        have HCn := Lib.hid (go_app (.inr hend))
        have HE := Lib.hid hend
        clear go_app hend
        go_wp2_with (at_builtin; refine wpList_append_own _ rfl _ _ 62 rfl w.heap.size 9 i0 (.string ⟨#[]⟩) 1 16 underStr hi hz0 hz1 hz2 rfl (by decide) _ _ _ rfl (hown.alloc _) ⟨wr.heap.size, 0, none⟩ 1 1 [.string (strL pc)] rfl rfl (fun j u hu => news_new wr 9 #[.string (strL pc)] j u hu) (by simp [Value.oneCell']) (by unfold maxLen; omega) (by omega) (by simp; omega) ?_; intro v' w2 hown' hgrow _)
        go_roundw
        case rel => exact ⟨k + 1, k + 1, out ++ [pc], by go_num, by go_num, HCn, by omega, by omega, cut_le HCn.out, by simpa [wV] using hown', (hb.alloc hb.size _).grown hgrow (by simp; omega) (fun j hj => (hown.lt j hj).1)⟩
        case measure => simp [intOf]; omega
      · have hq : ((k : Int) == ((strL l).size : Int)) = false := by have := HSZ.out; simp; omega
        have hkl : k < l.length := by omega
        have h0 : k < (strL l).size := by have := HSZ.out; omega
        have hlt2 : (k : Int) < ((strL l).size : Int) := by omega
        have e0 := HG.out k h0
        by_cases hc : l.getD k 0 = 32
        · have hq2 : ((((strL l)[k]'h0).toNat : Int) == 32) = true := by rw [e0, hc]; rfl
          have HCn := Lib.hid (go_app (.inl ⟨hkl, hc⟩))
          clear go_app hend hkl e0 hc
          go_wp2_with (at_builtin; refine wpList_append_own _ rfl _ _ 62 rfl w.heap.size 9 i0 (.string ⟨#[]⟩) 1 16 underStr hi hz0 hz1 hz2 rfl (by decide) _ _ _ rfl (hown.alloc _) ⟨wr.heap.size, 0, none⟩ 1 1 [.string (strL pc)] rfl rfl (fun j u hu => news_new wr 9 #[.string (strL pc)] j u hu) (by simp [Value.oneCell']) (by unfold maxLen; omega) (by omega) (by simp; omega) ?_; intro v' w2 hown' hgrow _)
          go_roundw
          case rel => exact ⟨k + 1, k + 1, out ++ [pc], by go_num, by go_num, HCn, by omega, by omega, cut_le HCn.out, by simpa [wV] using hown', (hb.alloc hb.size _).grown hgrow (by simp; omega) (fun j hj => (hown.lt j hj).1)⟩
          case measure => simp [intOf]; omega
        · have hq2 : ((((strL l)[k]'h0).toNat : Int) == 32) = false := by
            rw [e0]
            exact beq_eq_false_iff_ne.2 (fun h => hc (UInt8.toNat_inj.1 (Int.ofNat_inj.1 h)))
          have HCn := Lib.hid (cut_no HC.out hkl hc)
          clear go_app hend hkl e0 hc
          go_wp2_with fail
          go_roundw
          case rel => exact ⟨k + 1, fr, out, by go_num, rfl, HCn, by omega, by omega, hout, hown, hb⟩
          case measure => simp [intOf]; omega
    · have hlt1 : ¬ (k : Int) ≤ ((strL l).size : Int) := by have := HSZ.out; omega
      have he : splitL 32 l = out := by
        rcases HC.out with ⟨h1, _⟩ | ⟨_, h2⟩
        · omega
        · exact h2
      have HE := Lib.hid he
      clear he
      obtain ⟨A', cap', rfl⟩ := own_slice hown
      go_wp2_with fail
      go_ret
      exact ⟨_, rfl, by rw [HE.out]; exact hown, hb⟩
end Go.Proofs.YtnbkpminecoddaaDoor
end
