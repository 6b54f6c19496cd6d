/- Words and lines: strings.Split at one byte, in plain lists, and its contract. -/
import Derived.Test.YtnbkpminecoddaaDoorCodeIns
import Derived.Lib.SplitLaws
namespace Go.Proofs.YtnbkpminecoddaaDoor
open Go.RowKit
set_option linter.unusedVariables false
set_option linter.unusedSimpArgs false

/-- What lies between the bytes c. -/
def splitL (c : UInt8) (l : List UInt8) : List (List UInt8) := Lib.splitK [c] 0 (l.count c) l
theorem index_no : ∀ (l : List UInt8) (c : UInt8), c ∉ l → Lib.indexByte l c = -1
  | [], _, _ => rfl
  | a :: l, c, h => by
    have h1 : a ≠ c := fun e => h (by simp [e])
    have h2 := index_no l c (fun hh => h (List.mem_cons_of_mem _ hh))
    unfold Lib.indexByte
    rw [if_neg (by simpa using h1), h2]
    rfl
theorem index_yes : ∀ (w r : List UInt8) (c : UInt8), c ∉ w → Lib.indexByte (w ++ c :: r) c = (w.length : Int)
  | [], r, c, _ => by simp [Lib.indexByte]
  | a :: w, r, c, h => by
    have h1 : a ≠ c := fun e => h (by simp [e])
    have h2 := index_yes w r c (fun hh => h (List.mem_cons_of_mem _ hh))
    rw [List.cons_append]
    unfold Lib.indexByte
    rw [if_neg (by simpa using h1), h2, if_neg (by simp)]
    simp
theorem splitK_succ (sep : List UInt8) (k : Nat) (s : List UInt8) : Lib.splitK sep 0 (k + 1) s = if Lib.index s sep == -1 then [s] else s.take ((Lib.index s sep).toNat + 0) :: Lib.splitK sep 0 k (s.drop ((Lib.index s sep).toNat + sep.length)) := rfl
theorem splitL_none {c : UInt8} {l : List UInt8} (h : c ∉ l) : splitL c l = [l] := by
  unfold splitL
  rw [List.count_eq_zero_of_not_mem h]
  rfl
theorem splitL_cons {c : UInt8} {w : List UInt8} (r : List UInt8) (h : c ∉ w) : splitL c (w ++ c :: r) = w :: splitL c r := by
  unfold splitL
  rw [List.count_append, List.count_eq_zero_of_not_mem h, List.count_cons_self, Nat.zero_add]
  rw [splitK_succ, Lib.index_one, index_yes w r c h, if_neg (by simp)]
  simp
theorem splitL_len (c : UInt8) (l : List UInt8) : (splitL c l).length = l.count c + 1 := by
  have key : ∀ (n : Nat) (l : List UInt8), l.count c = n → (Lib.splitK [c] 0 n l).length = n + 1 := by
    intro n
    induction n with
    | zero => intro l _; rfl
    | succ n ih =>
      intro l hl
      have hm : c ∈ l := List.count_pos_iff.1 (by omega)
      obtain ⟨w, r, rfl, hw⟩ := List.eq_append_cons_of_mem hm
      rw [List.count_append, List.count_eq_zero_of_not_mem hw, List.count_cons_self] at hl
      rw [splitK_succ, Lib.index_one, index_yes w r c hw, if_neg (by simp)]
      simp
      exact ih r (by omega)
  exact key _ l rfl
theorem splitL_ne (c : UInt8) (l : List UInt8) : 0 < (splitL c l).length := by rw [splitL_len]; omega
theorem splitL_sum (c : UInt8) : ∀ (n : Nat) (l : List UInt8), l.length ≤ n → ((splitL c l).map List.length).sum + (splitL c l).length ≤ l.length + 1
  | n, l, hn => by
    by_cases hm : c ∈ l
    · obtain ⟨w, r, rfl, hw⟩ := List.eq_append_cons_of_mem hm
      rw [splitL_cons r hw]
      cases n with
      | zero => simp at hn
      | succ n =>
        have := splitL_sum c n r (by simp at hn; omega)
        simp at this ⊢
        omega
    · rw [splitL_none hm]; simp
theorem le_sum_mem : ∀ (l : List Nat) (x : Nat), x ∈ l → x ≤ l.sum
  | a :: l, x, h => by
    rcases List.mem_cons.1 h with rfl | h
    · simp
    · have := le_sum_mem l x h
      simp
      omega
theorem splitL_piece (c : UInt8) (l : List UInt8) {w : List UInt8} (h : w ∈ splitL c l) : w.length ≤ l.length := by
  have h1 := splitL_sum c l.length l (Nat.le_refl _)
  have h2 : w.length ≤ ((splitL c l).map List.length).sum := le_sum_mem _ _ (List.mem_map.2 ⟨w, h, rfl⟩)
  have h3 := splitL_ne c l
  omega
/-- All that the library's functions ask of the world. -/
def Env (w : World) : Prop := Errs w ∧ Tab w ∧ ∃ m, w.cell? ⟨0, 0, none⟩ = some (.int .i64 m)
theorem Env.below {B : Nat} {w w' : World} (h : Env w) (hb : Below w.heap.size w w') : Env w' := by
  obtain ⟨h1, h2, m, h3⟩ := h
  have h0 : 0 < w.heap.size := by obtain ⟨_, _, h, _⟩ := h1; omega
  exact ⟨h1.below (B := 0) hb, h2.below (B := 0) hb, m, (hb.cell (p := ⟨0, 0, none⟩) h0).trans h3⟩
theorem splitB_L (c : UInt8) (l : List UInt8) : Lib.splitB ⟨#[c]⟩ 0 (Lib.countB (strL l) ⟨#[c]⟩) (strL l) = (splitL c l).map strL := by
  have e1 : Lib.countB (strL l) ⟨#[c]⟩ = l.count c := by
    show Lib.count (strL l).data.toList [c] = _
    rw [strL_data, Lib.count_one]
  have h := Lib.splitB_data ⟨#[c]⟩ 0 (l.count c) (strL l)
  rw [strL_data] at h
  rw [e1]
  have h2 : ((Lib.splitB ⟨#[c]⟩ 0 (l.count c) (strL l)).map (·.data.toList)).map strL = (splitL c l).map strL := by rw [h]; rfl
  rw [List.map_map] at h2
  rw [← h2]
  conv => lhs; rw [← List.map_id (Lib.splitB ⟨#[c]⟩ 0 (l.count c) (strL l))]
  apply List.map_congr_left
  intro s _
  cases s
  simp [strL]
theorem split_is (c : UInt8) (l : List UInt8) (hl : l.length ≤ 100000) (w : World) (he : Env w) : Calls Tryd.prog 28 #[.string (strL l), .string ⟨#[c]⟩] w fun e w' =>
    e = .returned (.slice (some ⟨w.heap.size, 0, none⟩) (splitL c l).length (splitL c l).length) ∧ WordsAt w' w.heap.size (splitL c l) ∧ Below w.heap.size w w' := by
  obtain ⟨_, _, m, hm⟩ := he
  refine (Tryd.strings_Split (strL l) ⟨#[c]⟩ m w (by rw [strL_size]; omega) hm (Nat.le_refl 1)).mono fun e w' ⟨h1, h2⟩ => ?_
  have e1 : Lib.countB (strL l) ⟨#[c]⟩ + 1 = (splitL c l).length := by
    rw [splitL_len]
    congr 1
    show Lib.count (strL l).data.toList [c] = _
    rw [strL_data, Lib.count_one]
  rw [e1] at h1
  rw [splitB_L] at h2
  subst h2
  refine ⟨h1, ⟨by simp, fun i hi => ?_⟩, (Below.refl _ _).alloc (Nat.le_refl _) _⟩
  rw [(Blk.new w 9 _).cell i]
  simp [hi]
end Go.Proofs.YtnbkpminecoddaaDoor
