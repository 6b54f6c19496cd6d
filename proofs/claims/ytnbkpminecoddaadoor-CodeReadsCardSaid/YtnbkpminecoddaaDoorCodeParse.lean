/- An instruction's line is parsed to just it: plain lists. -/
import Derived.Test.YtnbkpminecoddaaDoorCodeInsI
import Derived.Test.YtnbkpminecoddaaDoorCodeRefT
import Derived.Test.YtnbkpminecoddaaDoorCodeUnhex
import Derived.Test.YtnbkpminecoddaaDoorCodeOfW
namespace Go.Proofs.YtnbkpminecoddaaDoor
open Go.RowKit
set_option linter.unusedVariables false
set_option linter.unusedSimpArgs false

/-! Numerals. -/
theorem dec_chars : ∀ (n u : Nat), u ≤ n → ∀ c ∈ Lib.decDigits u, 48 ≤ c.toNat ∧ c.toNat ≤ 57
  | n, u, hn => by
    intro c hc
    by_cases h : u < 10
    · rw [Lib.decDigits_one h] at hc
      simp only [List.mem_singleton] at hc
      subst hc
      rw [UInt8.toNat_ofNat', Nat.mod_eq_of_lt (by omega)]
      omega
    · rw [Lib.decDigits, dif_neg h] at hc
      rcases List.mem_append.1 hc with hc | hc
      · cases n with
        | zero => omega
        | succ n => exact dec_chars n (u / 10) (by omega) c hc
      · simp only [List.mem_singleton] at hc
        subst hc
        rw [UInt8.toNat_ofNat', Nat.mod_eq_of_lt (by omega)]
        omega
theorem itoa_chars (z : Int) : ∀ c ∈ Lib.itoa z, c.toNat = 45 ∨ (48 ≤ c.toNat ∧ c.toNat ≤ 57) := by
  intro c hc
  unfold Lib.itoa at hc
  split at hc
  · rcases List.mem_cons.1 hc with rfl | hc
    · exact .inl rfl
    · exact .inr (dec_chars _ _ (Nat.le_refl _) c hc)
  · exact .inr (dec_chars _ _ (Nat.le_refl _) c hc)
theorem itoa_no (z : Int) (c : UInt8) (h : c.toNat < 45) : c ∉ Lib.itoa z := fun hc => by have := itoa_chars z c hc; omega
theorem parse_snoc : ∀ (l : List UInt8) (acc m : Nat) (c : UInt8), Lib.parseUint10 acc l = .ok m → m < 1000000000000 → 48 ≤ c.toNat → c.toNat ≤ 57 → Lib.parseUint10 acc (l ++ [c]) = .ok (m * 10 + (c.toNat - 48))
  | [], acc, m, c, h, hm, h1, h2 => by
    simp only [Lib.parseUint10] at h
    injection h with h
    subst h
    simp only [List.nil_append, Lib.parseUint10]
    rw [if_pos ⟨h1, h2⟩, if_neg (by omega), if_neg (by omega)]
  | a :: l, acc, m, c, h, hm, h1, h2 => by
    simp only [List.cons_append, Lib.parseUint10] at h ⊢
    split at h
    · rename_i hd
      rw [if_pos hd]
      split at h
      · cases h
      · rename_i h3
        rw [if_neg h3]
        split at h
        · cases h
        · rename_i h4
          rw [if_neg h4]
          exact parse_snoc l _ m c h hm h1 h2
    · cases h
theorem parse_dec : ∀ (n u : Nat), u ≤ n → u < 1000000000000 → Lib.parseUint10 0 (Lib.decDigits u) = .ok u
  | n, u, hn, hu => by
    by_cases h : u < 10
    · rw [Lib.decDigits_one h]
      have e : (UInt8.ofNat (48 + u)).toNat = 48 + u := by rw [UInt8.toNat_ofNat', Nat.mod_eq_of_lt (by omega)]
      simp only [Lib.parseUint10, e]
      rw [if_pos (by omega), if_neg (by omega), if_neg (by omega)]
      congr 1
      omega
    · rw [Lib.decDigits, dif_neg h]
      cases n with
      | zero => omega
      | succ n =>
        have e : (UInt8.ofNat (48 + u % 10)).toNat = 48 + u % 10 := by rw [UInt8.toNat_ofNat', Nat.mod_eq_of_lt (by omega)]
        rw [parse_snoc _ 0 (u / 10) _ (parse_dec n (u / 10) (by omega) (by omega)) (by omega) (by omega) (by omega), e]
        congr 1
        omega
theorem dec_ne (u : Nat) : ∃ c r, Lib.decDigits u = c :: r ∧ 48 ≤ c.toNat ∧ c.toNat ≤ 57 := by
  cases h : Lib.decDigits u with
  | nil =>
    exfalso
    by_cases h10 : u < 10
    · rw [Lib.decDigits_one h10] at h; cases h
    · rw [Lib.decDigits, dif_neg h10] at h; simp at h
  | cons c r => exact ⟨c, r, rfl, dec_chars u u (Nat.le_refl _) c (by rw [h]; simp)⟩
theorem atoi_itoa (z : Int) (h : z.natAbs < 1000000000) : atoiV (Lib.itoa z) = z := by
  apply atoiV_ok
  unfold Lib.itoa
  split
  · rename_i hz
    have hp := parse_dec z.natAbs z.natAbs (Nat.le_refl _) (by omega)
    obtain ⟨c, r, he, _, _⟩ := dec_ne z.natAbs
    have hm : Lib.parseMag (Lib.decDigits z.natAbs) = .ok z.natAbs := by
      unfold Lib.parseMag
      rw [if_neg (by rw [he]; simp)]
      exact hp
    unfold Lib.atoiAll
    dsimp only
    rw [if_pos (.inr rfl), hm]
    dsimp only
    rw [if_neg (fun h => h.1 rfl), if_neg (fun h => by have := h.2; omega), if_pos (show UInt8.toNat 45 = 45 from rfl)]
    congr 1
    omega
  · rename_i hz
    have hp := parse_dec z.toNat z.toNat (Nat.le_refl _) (by omega)
    obtain ⟨c, r, he, h1, h2⟩ := dec_ne z.toNat
    have hm : Lib.parseMag (Lib.decDigits z.toNat) = .ok z.toNat := by
      unfold Lib.parseMag
      rw [if_neg (by rw [he]; simp)]
      exact hp
    rw [he] at hm ⊢
    unfold Lib.atoiAll
    dsimp only
    rw [if_neg (by omega), hm]
    dsimp only
    rw [if_neg (by omega), if_neg (by omega), if_neg (by omega)]
    congr 1
    omega

/-! Words. -/
theorem words2 {w a : List UInt8} (hw : (32 : UInt8) ∉ w) (ha : (32 : UInt8) ∉ a) : splitL 32 (w ++ 32 :: a) = [w, a] := by
  rw [splitL_cons a hw, splitL_none ha]
theorem words3 {w a b : List UInt8} (hw : (32 : UInt8) ∉ w) (ha : (32 : UInt8) ∉ a) (hb : (32 : UInt8) ∉ b) : splitL 32 (w ++ 32 :: (a ++ 32 :: b)) = [w, a, b] := by
  rw [splitL_cons _ hw, words2 ha hb]
theorem words4 {w a b c : List UInt8} (hw : (32 : UInt8) ∉ w) (ha : (32 : UInt8) ∉ a) (hb : (32 : UInt8) ∉ b) (hc : (32 : UInt8) ∉ c) : splitL 32 (w ++ 32 :: (a ++ 32 :: (b ++ 32 :: c))) = [w, a, b, c] := by
  rw [splitL_cons _ hw, words3 ha hb hc]
theorem zW_at {ws : List (List UInt8)} {i : Nat} {z : Int} (hz : z.natAbs < 1000000000) (h : ws[i]? = some (Lib.itoa z)) : zW ws i = z := by
  have hi := (List.getElem?_eq_some_iff.1 h).1
  have he := (List.getElem?_eq_some_iff.1 h).2
  unfold zW
  rw [dif_pos hi, he]
  exact atoi_itoa z hz
/-- The words of an instruction's line. -/
def wordsL (k a b c : Int) : List (List UInt8) :=
  if k = 0 then [[110, 111, 112]]
  else if k = 1 then [[99, 111, 110, 115, 116], Lib.itoa a, Lib.itoa (256 * b + c)]
  else if k = 2 then [[97, 100, 100], Lib.itoa a, Lib.itoa b, Lib.itoa c]
  else if k = 3 then [[115, 117, 98], Lib.itoa a, Lib.itoa b, Lib.itoa c]
  else if k = 4 then [[109, 117, 108], Lib.itoa a, Lib.itoa b, Lib.itoa c]
  else if k = 5 then [[106, 117, 109, 112], Lib.itoa (jmpN (256 * b + c))]
  else if k = 6 then [[122, 101, 114, 111], Lib.itoa a, Lib.itoa (jmpN (256 * b + c))]
  else if k = 7 then [[99, 111, 100, 101], Lib.itoa a]
  else [[99, 97, 108, 108], Lib.itoa (k - 16)]
theorem words_line {k a b c : Int} (h : ¬ refLineL k a b c = []) : splitL 32 (refLineL k a b c) = wordsL k a b c := by
  have n32 : ∀ z, (32 : UInt8) ∉ Lib.itoa z := fun z => itoa_no z 32 (by decide)
  unfold refLineL at h ⊢
  unfold wordsL
  split
  · rename_i hk
    rw [if_pos hk] at h
    split
    · exact splitL_none (by decide)
    · rename_i h2; rw [if_neg h2] at h; exact absurd rfl h
  · rename_i h0
    rw [if_neg h0] at h
    split
    · have := words3 (w := [99, 111, 110, 115, 116]) (by decide) (n32 a) (n32 (256 * b + c))
      simpa using this
    · rename_i h1
      rw [if_neg h1] at h
      split
      · have := words4 (w := [97, 100, 100]) (by decide) (n32 a) (n32 b) (n32 c)
        simpa [threeL] using this
      · rename_i h2
        rw [if_neg h2] at h
        split
        · have := words4 (w := [115, 117, 98]) (by decide) (n32 a) (n32 b) (n32 c)
          simpa [threeL] using this
        · rename_i h3
          rw [if_neg h3] at h
          split
          · have := words4 (w := [109, 117, 108]) (by decide) (n32 a) (n32 b) (n32 c)
            simpa [threeL] using this
          · rename_i h4
            rw [if_neg h4] at h
            split
            · rename_i h5
              rw [if_pos h5] at h
              split
              · have := words2 (w := [106, 117, 109, 112]) (by decide) (n32 (jmpN (256 * b + c)))
                simpa using this
              · rename_i h6; rw [if_neg h6] at h; exact absurd rfl h
            · rename_i h5
              rw [if_neg h5] at h
              split
              · have := words3 (w := [122, 101, 114, 111]) (by decide) (n32 a) (n32 (jmpN (256 * b + c)))
                simpa using this
              · rename_i h6
                rw [if_neg h6] at h
                split
                · rename_i h7
                  rw [if_pos h7] at h
                  split
                  · have := words2 (w := [99, 111, 100, 101]) (by decide) (n32 a)
                    simpa using this
                  · rename_i h8; rw [if_neg h8] at h; exact absurd rfl h
                · rename_i h7
                  rw [if_neg h7] at h
                  split
                  · rename_i h8
                    rw [if_pos h8] at h
                    split
                    · have := words2 (w := [99, 97, 108, 108]) (by decide) (n32 (k - 16))
                      simpa using this
                    · rename_i h9; rw [if_neg h9] at h; exact absurd rfl h
                  · rename_i h8; rw [if_neg h8] at h; exact absurd rfl h
/-- An instruction's words tell it. -/
theorem ins_words {k a b c : Int} (hk : 0 ≤ k ∧ k < 256) (ha : 0 ≤ a ∧ a < 256) (hb : 0 ≤ b ∧ b < 256) (hc : 0 ≤ c ∧ c < 256) (h : ¬ refLineL k a b c = []) : insM (wordsL k a b c) = (k, a, b, c) := by
  have hj : (jmpN (256 * b + c)).natAbs < 1000000000 := by unfold jmpN; split <;> omega
  have j1 : jmpN (256 * b + c) / 256 % 256 = b := by unfold jmpN; split <;> omega
  have j2 : jmpN (256 * b + c) % 256 = c := by unfold jmpN; split <;> omega
  have nm : ∀ (ws : List (List UInt8)) (o : Int) (w0 : List UInt8), ws.getD 0 [] = w0 → ¬ strL w0 = ⟨#[99, 97, 108, 108]⟩ → opOf (strL w0) = o → insM ws = insO ws o := fun ws o w0 h0 h1 h2 => by subst h0; unfold insM; rw [if_neg h1, h2]
  unfold refLineL at h
  by_cases h8 : k < 8
  · obtain rfl | rfl | rfl | rfl | rfl | rfl | rfl | rfl : k = 0 ∨ k = 1 ∨ k = 2 ∨ k = 3 ∨ k = 4 ∨ k = 5 ∨ k = 6 ∨ k = 7 := by omega
    · have hz : a = 0 ∧ b = 0 ∧ c = 0 := Classical.byContradiction fun hn => h (by rw [if_pos rfl, if_neg hn])
      obtain ⟨rfl, rfl, rfl⟩ := hz
      rw [nm (wordsL 0 0 0 0) 0 [110, 111, 112] rfl (by decide) (by decide)]
      rfl
    · rw [nm (wordsL 1 a b c) 1 [99, 111, 110, 115, 116] rfl (by decide) (by decide)]
      have z1 : zW (wordsL 1 a b c) 1 = a := zW_at (by omega) rfl
      have z2 : zW (wordsL 1 a b c) 2 = 256 * b + c := zW_at (by omega) rfl
      show ((1 : Int), zW (wordsL 1 a b c) 1 % 256, zW (wordsL 1 a b c) 2 / 256 % 256, zW (wordsL 1 a b c) 2 % 256) = _
      rw [z1, z2, show a % 256 = a by omega, show (256 * b + c) / 256 % 256 = b by omega, show (256 * b + c) % 256 = c by omega]
    · rw [nm (wordsL 2 a b c) 2 [97, 100, 100] rfl (by decide) (by decide)]
      have z1 : zW (wordsL 2 a b c) 1 = a := zW_at (by omega) rfl
      have z2 : zW (wordsL 2 a b c) 2 = b := zW_at (by omega) rfl
      have z3 : zW (wordsL 2 a b c) 3 = c := zW_at (by omega) rfl
      show ((2 : Int), zW (wordsL 2 a b c) 1 % 256, zW (wordsL 2 a b c) 2 % 256, zW (wordsL 2 a b c) 3 % 256) = _
      rw [z1, z2, z3, show a % 256 = a by omega, show b % 256 = b by omega, show c % 256 = c by omega]
    · rw [nm (wordsL 3 a b c) 3 [115, 117, 98] rfl (by decide) (by decide)]
      have z1 : zW (wordsL 3 a b c) 1 = a := zW_at (by omega) rfl
      have z2 : zW (wordsL 3 a b c) 2 = b := zW_at (by omega) rfl
      have z3 : zW (wordsL 3 a b c) 3 = c := zW_at (by omega) rfl
      show ((3 : Int), zW (wordsL 3 a b c) 1 % 256, zW (wordsL 3 a b c) 2 % 256, zW (wordsL 3 a b c) 3 % 256) = _
      rw [z1, z2, z3, show a % 256 = a by omega, show b % 256 = b by omega, show c % 256 = c by omega]
    · rw [nm (wordsL 4 a b c) 4 [109, 117, 108] rfl (by decide) (by decide)]
      have z1 : zW (wordsL 4 a b c) 1 = a := zW_at (by omega) rfl
      have z2 : zW (wordsL 4 a b c) 2 = b := zW_at (by omega) rfl
      have z3 : zW (wordsL 4 a b c) 3 = c := zW_at (by omega) rfl
      show ((4 : Int), zW (wordsL 4 a b c) 1 % 256, zW (wordsL 4 a b c) 2 % 256, zW (wordsL 4 a b c) 3 % 256) = _
      rw [z1, z2, z3, show a % 256 = a by omega, show b % 256 = b by omega, show c % 256 = c by omega]
    · have hz : a = 0 := Classical.byContradiction fun hn => h (by simp [hn])
      subst hz
      rw [nm (wordsL 5 0 b c) 5 [106, 117, 109, 112] rfl (by decide) (by decide)]
      have z1 : zW (wordsL 5 0 b c) 1 = jmpN (256 * b + c) := zW_at hj rfl
      show ((5 : Int), (0 : Int), zW (wordsL 5 0 b c) 1 / 256 % 256, zW (wordsL 5 0 b c) 1 % 256) = _
      rw [z1, j1, j2]
    · rw [nm (wordsL 6 a b c) 6 [122, 101, 114, 111] rfl (by decide) (by decide)]
      have z1 : zW (wordsL 6 a b c) 1 = a := zW_at (by omega) rfl
      have z2 : zW (wordsL 6 a b c) 2 = jmpN (256 * b + c) := zW_at hj rfl
      show ((6 : Int), zW (wordsL 6 a b c) 1 % 256, zW (wordsL 6 a b c) 2 / 256 % 256, zW (wordsL 6 a b c) 2 % 256) = _
      rw [z1, z2, j1, j2, show a % 256 = a by omega]
    · have hz : b = 0 ∧ c = 0 := Classical.byContradiction fun hn => h (by simp [hn])
      obtain ⟨rfl, rfl⟩ := hz
      rw [nm (wordsL 7 a 0 0) 7 [99, 111, 100, 101] rfl (by decide) (by decide)]
      have z1 : zW (wordsL 7 a 0 0) 1 = a := zW_at (by omega) rfl
      show ((7 : Int), zW (wordsL 7 a 0 0) 1 % 256, (0 : Int), (0 : Int)) = _
      rw [z1, show a % 256 = a by omega]
  · rw [if_neg (by omega), if_neg (by omega), if_neg (by omega), if_neg (by omega), if_neg (by omega), if_neg (by omega), if_neg (by omega), if_neg (by omega)] at h
    have hkc : 17 ≤ k ∧ k ≤ 38 := Classical.byContradiction fun hn => h (by rw [if_neg hn])
    have hz : a = 0 ∧ b = 0 ∧ c = 0 := Classical.byContradiction fun hn => h (by rw [if_pos hkc, if_neg hn])
    obtain ⟨rfl, rfl, rfl⟩ := hz
    have hw : wordsL k 0 0 0 = [[99, 97, 108, 108], Lib.itoa (k - 16)] := by
      unfold wordsL
      rw [if_neg (by omega), if_neg (by omega), if_neg (by omega), if_neg (by omega), if_neg (by omega), if_neg (by omega), if_neg (by omega), if_neg (by omega)]
    rw [hw]
    have z1 : zW [[99, 97, 108, 108], Lib.itoa (k - 16)] 1 = k - 16 := zW_at (by omega) rfl
    unfold insM
    rw [if_pos (show strL ([[99, 97, 108, 108], Lib.itoa (k - 16)].getD 0 []) = ⟨#[99, 97, 108, 108]⟩ from rfl), z1, show (16 + (k - 16)) % 256 = k by omega]
end Go.Proofs.YtnbkpminecoddaaDoor

/- The text of any bytes is parsed to just these: plain lists. -/
section
namespace Go.Proofs.YtnbkpminecoddaaDoor
open Go.RowKit
set_option linter.unusedVariables false
set_option linter.unusedSimpArgs false

/-- Lines joined are split again. -/
theorem lines_split : ∀ (rows : List (List UInt8)), (∀ r ∈ rows, (10 : UInt8) ∉ r) → splitL 10 (rows.flatMap fun r => r ++ [10]) = rows ++ [[]]
  | [], _ => splitL_none (by simp)
  | r :: rows, h => by
    have h1 := lines_split rows (fun x hx => h x (List.mem_cons_of_mem _ hx))
    have e : ((r :: rows).flatMap fun r => r ++ [10]) = r ++ 10 :: (rows.flatMap fun r => r ++ [10]) := by simp
    rw [e, splitL_cons _ (h r (by simp)), h1]
    rfl
/-! Lines of bytes. -/
theorem dig_hv (n : Nat) (h : n < 16) : hv (UInt8.ofNat (digN n)) = n := by
  have : ∀ i : Fin 16, hv (UInt8.ofNat (digN i.val)) = i.val := by decide +kernel
  exact this ⟨n, h⟩
theorem unhex_hex : ∀ q : List UInt8, unhex (q.flatMap hexL) = q
  | [] => rfl
  | c :: q => by
    have h1 := unhex_hex q
    show UInt8.ofNat (16 * hv (UInt8.ofNat (digN (c.toNat / 16))) + hv (UInt8.ofNat (digN (c.toNat % 16)))) :: unhex (q.flatMap hexL) = _
    have hc := c.toNat_lt
    rw [h1, dig_hv _ (by omega), dig_hv _ (by omega), show 16 * (c.toNat / 16) + c.toNat % 16 = c.toNat by omega]
    simp
theorem hexL_chars : ∀ (q : List UInt8), ∀ x ∈ q.flatMap hexL, 48 ≤ x.toNat := by
  have key : ∀ n, n < 16 → 48 ≤ (UInt8.ofNat (digN n)).toNat := by
    intro n hn
    have : ∀ i : Fin 16, 48 ≤ (UInt8.ofNat (digN i.val)).toNat := by decide +kernel
    exact this ⟨n, hn⟩
  intro q x hx
  obtain ⟨c, _, hc⟩ := List.mem_flatMap.1 hx
  have hcl := c.toNat_lt
  simp only [hexL, List.mem_cons, List.not_mem_nil, or_false] at hc
  rcases hc with rfl | rfl
  · exact key _ (by omega)
  · exact key _ (by omega)
theorem lineB_raw (q : List UInt8) : lineB (rawL q) = q := by
  have hn : (32 : UInt8) ∉ q.flatMap hexL := fun h => by have := hexL_chars q 32 h; revert this; decide
  have hw := words2 (w := [114, 97, 119]) (a := q.flatMap hexL) (by decide) hn
  have e : rawL q = [114, 97, 119] ++ 32 :: q.flatMap hexL := by simp [rawL]
  unfold lineB
  rw [e, if_neg (by simp), hw, if_pos ⟨rfl, rfl⟩]
  exact unhex_hex q
/-! Lines of instructions. -/
theorem words_len (k a b c : Int) : ¬ ((wordsL k a b c).getD 0 [] = [114, 97, 119] ∧ (wordsL k a b c).length = 2) := by
  rintro ⟨h, _⟩
  unfold wordsL at h
  repeat' split at h
  all_goals simp at h
theorem lineB_line {k a b c : Int} (hk : 0 ≤ k ∧ k < 256) (ha : 0 ≤ a ∧ a < 256) (hb : 0 ≤ b ∧ b < 256) (hc : 0 ≤ c ∧ c < 256) (h : ¬ refLineL k a b c = []) : lineB (refLineL k a b c) = insB (k, a, b, c) := by
  unfold lineB
  rw [if_neg h, words_line h, if_neg (words_len k a b c), ins_words hk ha hb hc h]
theorem line_no10 {k a b c : Int} : (10 : UInt8) ∉ refLineL k a b c := by
  have n10 : ∀ z, (10 : UInt8) ∉ Lib.itoa z := fun z => itoa_no z 10 (by decide)
  unfold refLineL threeL
  repeat' split
  all_goals simp [n10]
theorem raw_no10 (q : List UInt8) : (10 : UInt8) ∉ rawL q := by
  intro h
  unfold rawL at h
  rcases List.mem_append.1 h with h | h
  · revert h; decide
  · have := hexL_chars q 10 h
    revert this
    decide
/-- Where an instruction is decoded its bytes lie. -/
theorem decR_zero {n : Nat} {D : Nat → Int} {i : Nat} (h : (decR n D (i : Int)).e = 0) : 4 * i + 4 ≤ n ∧ decR n D (i : Int) = ⟨D (4 * i), D (4 * i + 1), D (4 * i + 2), D (4 * i + 3), 0⟩ := by
  unfold decR at h ⊢
  dsimp only at h ⊢
  split at h
  · cases h
  · split at h
    · cases h
    · rename_i h1 h2
      rw [if_neg h1, if_neg h2]
      split at h
      · cases h
      · rename_i h3
        rw [if_neg h3]
        split at h
        · cases h
        · rename_i h4
          rw [if_neg h4]
          exact ⟨by omega, rfl⟩
theorem chunk_four (l : List UInt8) (i : Nat) (h : 4 * i + 4 ≤ l.length) : (l.drop (4 * i)).take 4 = [l.getD (4 * i) 0, l.getD (4 * i + 1) 0, l.getD (4 * i + 2) 0, l.getD (4 * i + 3) 0] := by
  apply List.ext_getElem
  · simp; omega
  · intro j h1 h2
    simp at h2
    rcases j with _ | _ | _ | _ | j
    · simp [List.getD_eq_getElem?_getD, List.getElem?_eq_getElem (show 4 * i < l.length by omega)]
    · simp [List.getD_eq_getElem?_getD, List.getElem?_eq_getElem (show 4 * i + 1 < l.length by omega)]
    · simp [List.getD_eq_getElem?_getD, List.getElem?_eq_getElem (show 4 * i + 2 < l.length by omega)]
    · simp [List.getD_eq_getElem?_getD, List.getElem?_eq_getElem (show 4 * i + 3 < l.length by omega)]
    · omega
theorem lineB_row (l : List UInt8) (i : Nat) : lineB (rowL l.length (dOf l) l i) = (l.drop (4 * i)).take 4 := by
  unfold rowL
  split
  · rename_i h
    obtain ⟨he, hk, ha, hb, hc⟩ := decR_bd (n := l.length) (dOf_bd l) (i : Int)
    obtain ⟨hl, hd⟩ := decR_zero h.1
    rw [lineB_line hk ha hb hc h.2, hd, chunk_four l i hl]
    simp [insB, dOf]
  · exact lineB_raw _
theorem row_no10 (l : List UInt8) (i : Nat) : (10 : UInt8) ∉ rowL l.length (dOf l) l i := by
  unfold rowL
  split
  · exact line_no10
  · exact raw_no10 _
theorem chunks : ∀ (k : Nat) (l : List UInt8), l.length ≤ 4 * k → ((List.range k).flatMap fun i => (l.drop (4 * i)).take 4) = l := by
  have key : ∀ (k : Nat) (l : List UInt8), ((List.range k).flatMap fun i => (l.drop (4 * i)).take 4) = l.take (4 * k) := by
    intro k
    induction k with
    | zero => intro l; simp
    | succ k ih =>
      intro l
      rw [List.range_succ, List.flatMap_append, ih]
      simp only [List.flatMap_cons, List.flatMap_nil, List.append_nil]
      rw [show 4 * (k + 1) = 4 * k + 4 from by omega, List.take_add]
  intro k l h
  rw [key, List.take_of_length_le h]
/-- THE LAW: the text of any bytes is parsed to these. -/
theorem parse_text (l : List UInt8) : parseC (textL l) = l := by
  have e : textL l = ((List.range ((l.length + 3) / 4)).map (rowL l.length (dOf l) l)).flatMap (fun r => r ++ [10]) := by
    rw [text_eq, textF, List.flatMap_map]
  unfold parseC
  rw [e, lines_split _ (fun r hr => by obtain ⟨i, _, rfl⟩ := List.mem_map.1 hr; exact row_no10 l i)]
  rw [List.flatMap_append, List.flatMap_map]
  have h0 : ([[]] : List (List UInt8)).flatMap lineB = [] := by simp [lineB]
  rw [h0, List.append_nil]
  have h1 : ((List.range ((l.length + 3) / 4)).flatMap fun i => lineB (rowL l.length (dOf l) l i)) = ((List.range ((l.length + 3) / 4)).flatMap fun i => (l.drop (4 * i)).take 4) := by
    congr 1
    funext i
    exact lineB_row l i
  exact h1.trans (chunks _ l (by omega))
theorem itoa_small {z : Int} (h0 : -100000 < z) (h : z < 100000) : (Lib.itoa z).length ≤ 6 := by
  unfold Lib.itoa
  split
  · have := dec_len 4 z.natAbs (by omega); simp; omega
  · have := dec_len 4 z.toNat (by omega); omega
theorem row_len (l : List UInt8) (i : Nat) : (rowL l.length (dOf l) l i).length ≤ 30 := by
  unfold rowL
  split
  · obtain ⟨he, hk, ha, hb, hc⟩ := decR_bd (n := l.length) (dOf_bd l) (i : Int)
    generalize decR l.length (dOf l) (i : Int) = d at *
    have ia := itoa_small (z := d.a) (by omega) (by omega)
    have ib := itoa_small (z := d.b) (by omega) (by omega)
    have ic := itoa_small (z := d.c) (by omega) (by omega)
    have ik := itoa_small (z := d.k - 16) (by omega) (by omega)
    have iN := itoa_small (z := 256 * d.b + d.c) (by omega) (by omega)
    have iJ := itoa_small (z := jmpN (256 * d.b + d.c)) (by unfold jmpN; split <;> omega) (by unfold jmpN; split <;> omega)
    unfold refLineL threeL
    repeat' split
    all_goals simp; try omega
  · rw [rawL_len]; simp; omega
theorem text_len (l : List UInt8) : (textL l).length ≤ 31 * ((l.length + 3) / 4) := by
  have key : ∀ k, (textF l.length (dOf l) l k).length ≤ 31 * k := by
    intro k
    induction k with
    | zero => simp [textF]
    | succ k ih =>
      rw [textF_succ]
      have := row_len l k
      simp
      omega
  rw [text_eq]
  exact key _
end Go.Proofs.YtnbkpminecoddaaDoor
end
