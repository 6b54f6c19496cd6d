/- The text of any bytes is parsed to just these: plain lists. -/
import Derived.Test.YtnbkpminecoddaaDoorCodeOfW
import Derived.Test.YtnbkpminecoddaaDoorCodeWords
namespace Go.Proofs.YtnbkpminecoddaaDoor
open Go.RowKit
set_option linter.unusedVariables false
set_option linter.unusedSimpArgs false

/-- Lines joined are split again. -/
theorem lines_split : ∀ (rows : List (List UInt8)), (∀ r ∈ rows, (10 : UInt8) ∉ r) → splitL 10 (rows.flatMap fun r => r ++ [10]) = rows ++ [[]]
  | [], _ => splitL_none (by simp)
  | r :: rows, h => by
    have h1 := lines_split rows (fun x hx => h x (List.mem_cons_of_mem _ hx))
    have e : ((r :: rows).flatMap fun r => r ++ [10]) = r ++ 10 :: (rows.flatMap fun r => r ++ [10]) := by simp
    rw [e, splitL_cons _ (h r (by simp)), h1]
    rfl
/-! Lines of bytes. -/
theorem dig_hv (n : Nat) (h : n < 16) : hv (UInt8.ofNat (digN n)) = n := by
  have : ∀ i : Fin 16, hv (UInt8.ofNat (digN i.val)) = i.val := by decide +kernel
  exact this ⟨n, h⟩
theorem unhex_hex : ∀ q : List UInt8, unhex (q.flatMap hexL) = q
  | [] => rfl
  | c :: q => by
    have h1 := unhex_hex q
    show UInt8.ofNat (16 * hv (UInt8.ofNat (digN (c.toNat / 16))) + hv (UInt8.ofNat (digN (c.toNat % 16)))) :: unhex (q.flatMap hexL) = _
    have hc := c.toNat_lt
    rw [h1, dig_hv _ (by omega), dig_hv _ (by omega), show 16 * (c.toNat / 16) + c.toNat % 16 = c.toNat by omega]
    simp
theorem hexL_chars : ∀ (q : List UInt8), ∀ x ∈ q.flatMap hexL, 48 ≤ x.toNat := by
  have key : ∀ n, n < 16 → 48 ≤ (UInt8.ofNat (digN n)).toNat := by
    intro n hn
    have : ∀ i : Fin 16, 48 ≤ (UInt8.ofNat (digN i.val)).toNat := by decide +kernel
    exact this ⟨n, hn⟩
  intro q x hx
  obtain ⟨c, _, hc⟩ := List.mem_flatMap.1 hx
  have hcl := c.toNat_lt
  simp only [hexL, List.mem_cons, List.not_mem_nil, or_false] at hc
  rcases hc with rfl | rfl
  · exact key _ (by omega)
  · exact key _ (by omega)
theorem lineB_raw (q : List UInt8) : lineB (rawL q) = q := by
  have hn : (32 : UInt8) ∉ q.flatMap hexL := fun h => by have := hexL_chars q 32 h; revert this; decide
  have hw := words2 (w := [114, 97, 119]) (a := q.flatMap hexL) (by decide) hn
  have e : rawL q = [114, 97, 119] ++ 32 :: q.flatMap hexL := by simp [rawL]
  unfold lineB
  rw [e, if_neg (by simp), hw, if_pos ⟨rfl, rfl⟩]
  exact unhex_hex q
/-! Lines of instructions. -/
theorem words_len (k a b c : Int) : ¬ ((wordsL k a b c).getD 0 [] = [114, 97, 119] ∧ (wordsL k a b c).length = 2) := by
  rintro ⟨h, _⟩
  unfold wordsL at h
  repeat' split at h
  all_goals simp at h
theorem lineB_line {k a b c : Int} (hk : 0 ≤ k ∧ k < 256) (ha : 0 ≤ a ∧ a < 256) (hb : 0 ≤ b ∧ b < 256) (hc : 0 ≤ c ∧ c < 256) (h : ¬ refLineL k a b c = []) : lineB (refLineL k a b c) = insB (k, a, b, c) := by
  unfold lineB
  rw [if_neg h, words_line h, if_neg (words_len k a b c), ins_words hk ha hb hc h]
theorem line_no10 {k a b c : Int} : (10 : UInt8) ∉ refLineL k a b c := by
  have n10 : ∀ z, (10 : UInt8) ∉ Lib.itoa z := fun z => itoa_no z 10 (by decide)
  unfold refLineL threeL
  repeat' split
  all_goals simp [n10]
theorem raw_no10 (q : List UInt8) : (10 : UInt8) ∉ rawL q := by
  intro h
  unfold rawL at h
  rcases List.mem_append.1 h with h | h
  · revert h; decide
  · have := hexL_chars q 10 h
    revert this
    decide
/-- Where an instruction is decoded its bytes lie. -/
theorem decR_zero {n : Nat} {D : Nat → Int} {i : Nat} (h : (decR n D (i : Int)).e = 0) : 4 * i + 4 ≤ n ∧ decR n D (i : Int) = ⟨D (4 * i), D (4 * i + 1), D (4 * i + 2), D (4 * i + 3), 0⟩ := by
  unfold decR at h ⊢
  dsimp only at h ⊢
  split at h
  · cases h
  · split at h
    · cases h
    · rename_i h1 h2
      rw [if_neg h1, if_neg h2]
      split at h
      · cases h
      · rename_i h3
        rw [if_neg h3]
        split at h
        · cases h
        · rename_i h4
          rw [if_neg h4]
          exact ⟨by omega, rfl⟩
theorem chunk_four (l : List UInt8) (i : Nat) (h : 4 * i + 4 ≤ l.length) : (l.drop (4 * i)).take 4 = [l.getD (4 * i) 0, l.getD (4 * i + 1) 0, l.getD (4 * i + 2) 0, l.getD (4 * i + 3) 0] := by
  apply List.ext_getElem
  · simp; omega
  · intro j h1 h2
    simp at h2
    rcases j with _ | _ | _ | _ | j
    · simp [List.getD_eq_getElem?_getD, List.getElem?_eq_getElem (show 4 * i < l.length by omega)]
    · simp [List.getD_eq_getElem?_getD, List.getElem?_eq_getElem (show 4 * i + 1 < l.length by omega)]
    · simp [List.getD_eq_getElem?_getD, List.getElem?_eq_getElem (show 4 * i + 2 < l.length by omega)]
    · simp [List.getD_eq_getElem?_getD, List.getElem?_eq_getElem (show 4 * i + 3 < l.length by omega)]
    · omega
theorem lineB_row (l : List UInt8) (i : Nat) : lineB (rowL l.length (dOf l) l i) = (l.drop (4 * i)).take 4 := by
  unfold rowL
  split
  · rename_i h
    obtain ⟨he, hk, ha, hb, hc⟩ := decR_bd (n := l.length) (dOf_bd l) (i : Int)
    obtain ⟨hl, hd⟩ := decR_zero h.1
    rw [lineB_line hk ha hb hc h.2, hd, chunk_four l i hl]
    simp [insB, dOf]
  · exact lineB_raw _
theorem row_no10 (l : List UInt8) (i : Nat) : (10 : UInt8) ∉ rowL l.length (dOf l) l i := by
  unfold rowL
  split
  · exact line_no10
  · exact raw_no10 _
theorem chunks : ∀ (k : Nat) (l : List UInt8), l.length ≤ 4 * k → ((List.range k).flatMap fun i => (l.drop (4 * i)).take 4) = l := by
  have key : ∀ (k : Nat) (l : List UInt8), ((List.range k).flatMap fun i => (l.drop (4 * i)).take 4) = l.take (4 * k) := by
    intro k
    induction k with
    | zero => intro l; simp
    | succ k ih =>
      intro l
      rw [List.range_succ, List.flatMap_append, ih]
      simp only [List.flatMap_cons, List.flatMap_nil, List.append_nil]
      rw [show 4 * (k + 1) = 4 * k + 4 from by omega, List.take_add]
  intro k l h
  rw [key, List.take_of_length_le h]
/-- THE LAW: the text of any bytes is parsed to these. -/
theorem parse_text (l : List UInt8) : parseC (textL l) = l := by
  have e : textL l = ((List.range ((l.length + 3) / 4)).map (rowL l.length (dOf l) l)).flatMap (fun r => r ++ [10]) := by
    rw [text_eq, textF, List.flatMap_map]
  unfold parseC
  rw [e, lines_split _ (fun r hr => by obtain ⟨i, _, rfl⟩ := List.mem_map.1 hr; exact row_no10 l i)]
  rw [List.flatMap_append, List.flatMap_map]
  have h0 : ([[]] : List (List UInt8)).flatMap lineB = [] := by simp [lineB]
  rw [h0, List.append_nil]
  have h1 : ((List.range ((l.length + 3) / 4)).flatMap fun i => lineB (rowL l.length (dOf l) l i)) = ((List.range ((l.length + 3) / 4)).flatMap fun i => (l.drop (4 * i)).take 4) := by
    congr 1
    funext i
    exact lineB_row l i
  exact h1.trans (chunks _ l (by omega))
theorem itoa_small {z : Int} (h0 : -100000 < z) (h : z < 100000) : (Lib.itoa z).length ≤ 6 := by
  unfold Lib.itoa
  split
  · have := dec_len 4 z.natAbs (by omega); simp; omega
  · have := dec_len 4 z.toNat (by omega); omega
theorem row_len (l : List UInt8) (i : Nat) : (rowL l.length (dOf l) l i).length ≤ 30 := by
  unfold rowL
  split
  · obtain ⟨he, hk, ha, hb, hc⟩ := decR_bd (n := l.length) (dOf_bd l) (i : Int)
    generalize decR l.length (dOf l) (i : Int) = d at *
    have ia := itoa_small (z := d.a) (by omega) (by omega)
    have ib := itoa_small (z := d.b) (by omega) (by omega)
    have ic := itoa_small (z := d.c) (by omega) (by omega)
    have ik := itoa_small (z := d.k - 16) (by omega) (by omega)
    have iN := itoa_small (z := 256 * d.b + d.c) (by omega) (by omega)
    have iJ := itoa_small (z := jmpN (256 * d.b + d.c)) (by unfold jmpN; split <;> omega) (by unfold jmpN; split <;> omega)
    unfold refLineL threeL
    repeat' split
    all_goals simp; try omega
  · rw [rawL_len]; simp; omega
theorem text_len (l : List UInt8) : (textL l).length ≤ 31 * ((l.length + 3) / 4) := by
  have key : ∀ k, (textF l.length (dOf l) l k).length ≤ 31 * k := by
    intro k
    induction k with
    | zero => simp [textF]
    | succ k ih =>
      rw [textF_succ]
      have := row_len l k
      simp
      omega
  rw [text_eq]
  exact key _
end Go.Proofs.YtnbkpminecoddaaDoor
