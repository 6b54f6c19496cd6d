/- code.Text, by walk: its lines, or its bytes where it has no line. -/
import Derived.Test.YtnbkpminecoddaaDoorCodeText
import Derived.LoopTactic
namespace Go.Proofs.YtnbkpminecoddaaDoor
open Go.RowKit
set_option linter.unusedVariables false
set_option linter.unusedSimpArgs false

/-- The text of the instruction at a place: the line's, or the bytes. -/
def rowS (LS : Nat → Option ByteArray) (l : List UInt8) (i : Nat) : ByteArray := match LS i with | some t => t | none => strOfNums (rawI ((l.drop (4 * i)).take 4))
def textS (LS : Nat → Option ByteArray) (l : List UInt8) (k : Nat) : List UInt8 := (List.range k).flatMap fun i => (rowS LS l i).data.toList ++ [10]
theorem textS_len (LS : Nat → Option ByteArray) (l : List UInt8) (hR : ∀ i, (rowS LS l i).size ≤ 1000) : ∀ i, (textS LS l i).length ≤ i * 1001
  | 0 => by simp [textS]
  | i + 1 => by
    have h := textS_len LS l hR i
    have h2 := hR i
    have e : textS LS l (i + 1) = textS LS l i ++ ((rowS LS l i).data.toList ++ [10]) := by
      unfold textS
      rw [List.range_succ, List.flatMap_append]
      simp
    rw [e]
    have h3 : (rowS LS l i).data.toList.length = (rowS LS l i).size := by simp
    simp only [List.length_append, h3, List.length_cons, List.length_nil]
    omega
set_option maxRecDepth 100000 in
set_option maxHeartbeats 2000000 in
theorem text_is (g o cap : Nat) (l : List UInt8) (h4 : l.length ≤ 100000) (hcap : l.length ≤ cap) (LS : Nat → Option ByteArray) (hR : ∀ i, (rowS LS l i).size ≤ 1000) (w : World) (hg : g < w.heap.size) (hc : ∀ i (hi : i < l.length), w.cell? ⟨g, o + i, none⟩ = some (.int .u8 ((l[i]'hi).toNat : Int)))
    (LN : ∀ (i : Nat) w', i * 4 < l.length → Below w.heap.size w w' → Calls Tryd.prog 24 #[.slice (some ⟨g, o, none⟩) l.length cap, .int .i64 i] w' fun e w'' => e = .returned (.tuple #[.string ((LS i).getD ⟨#[]⟩), .bool (LS i).isSome]) ∧ Below w'.heap.size w' w'')
    (ST : ∀ B b (L : List UInt8) w', Lib.IsBuilder 54 5 B b (Lib.byteCells L) w' → B ≤ w'.heap.size → Calls Tryd.prog 27 #[.pointer (some ⟨b, 0, none⟩)] w' fun e w'' => e = .returned (.string ⟨L.toArray⟩) ∧ Below B w' w'') :
    Calls Tryd.prog 18 #[.slice (some ⟨g, o, none⟩) l.length cap] w fun e w' => e = .returned (.string ⟨(textS LS l ((l.length + 3) / 4)).toArray⟩) ∧ Below w.heap.size w w' := by
  have HC := Lib.hid hc
  clear hc
  go_enter Tryd.func18, Tryd.ntmps18
  go_wp2_with fail
  go_loopw [4] (fun v wr => ∃ i : Nat, v = .int .i64 i ∧ i * 4 < l.length + 4 ∧ Lib.IsBuilder 54 5 w.heap.size w.heap.size (Lib.byteCells (textS LS l i)) wr ∧ Below w.heap.size w wr) (fun v wr => l.length + 4 - (intOf v).toNat)
  case atStart => exact ⟨0, rfl, by omega, builder_new w, (Below.refl _ w).alloc (Nat.le_refl _) _⟩
  case round =>
    obtain ⟨i, rfl, hi, hbu, hB⟩ := hrel
    have hi1 : i < 30000 := by omega
    by_cases hlt : i * 4 < l.length
    · have hlt' : (i : Int) * 4 < (l.length : Int) := by omega
      have CL := LN i wr hlt hB
      cases hLS : LS i with
      | some t =>
        rw [hLS] at CL
        simp only [Option.getD_some, Option.isSome_some] at CL
        have hts := hR i
        simp only [rowS, hLS] at hts
        have hn1 : ¬ 9223372036854775807 < t.size + 1 := by omega
        have hLB : (textS LS l i).length ≤ 30000 * 1001 := by have := textS_len LS l hR i; omega
        have hup : textS LS l (i + 1) = textS LS l i ++ (t.data.toList ++ [10]) := by
          unfold textS
          rw [List.range_succ, List.flatMap_append]
          simp [rowS, hLS]
        go_wp2_with (first | (go_at_call 24; refine CL.mono ?_; rintro e w2 ⟨rfl, hb2⟩; (have hbu2 := builder_below hbu hb2); (have hB2 := hB.trans (hb2.mono hB.size))) | (go_at_call 26; refine (writeString_is _ _ _ _ _ hbu2 ?_ hB2.size).mono ?_; (simp [Lib.byteCells, ByteArray.size_append]; have h3 : (⟨#[10]⟩ : ByteArray).size = 1 := rfl; omega); rintro e w3 ⟨rfl, hbu3, hb3⟩))
        go_roundw
        case rel => exact ⟨i + 1, by go_num, by omega, by rw [hup]; exact Or.inr (by simpa [Lib.byteCells, Lib.strCells] using hbu3), hB2.trans hb3⟩
        case measure => simp [intOf]; omega
      | none =>
        rw [hLS] at CL
        simp only [Option.getD_none, Option.isSome_none] at CL
        have hts := hR i
        simp only [rowS, hLS] at hts
        have hlen : (min ((i : Int) * 4 + 4) (l.length : Int)).toNat - i * 4 = ((l.drop (4 * i)).take 4).length := by simp; omega
        have hl1 : 1 ≤ ((l.drop (4 * i)).take 4).length := by simp; omega
        have hl4 : ((l.drop (4 * i)).take 4).length ≤ 4 := by simp; omega
        have hcl : ∀ j (hj : j < ((l.drop (4 * i)).take 4).length), w.cell? ⟨g, o + i * 4 + j, none⟩ = some (.int .u8 ((((l.drop (4 * i)).take 4)[j]'hj).toNat : Int)) := by
          intro j hj
          have hj' : i * 4 + j < l.length := by simp at hj; omega
          have := HC.out (i * 4 + j) hj'
          rw [show o + i * 4 + j = o + (i * 4 + j) from by omega, this]
          simp [Nat.mul_comm]
        have hup : textS LS l (i + 1) = textS LS l i ++ ((strOfNums (rawI ((l.drop (4 * i)).take 4))).data.toList ++ [10]) := by
          unfold textS
          rw [List.range_succ, List.flatMap_append]
          simp [rowS, hLS]
        have hLB : (textS LS l i).length ≤ 30000 * 1001 := by have := textS_len LS l hR i; omega
        generalize (l.drop (4 * i)).take 4 = q at *
        have hn1 : ¬ 9223372036854775807 < (strOfNums (rawI q)).size + 1 := by omega
        go_wp2_with (first | (go_at_call 24; refine CL.mono ?_; rintro e w2 ⟨rfl, hb2⟩; (have hbu2 := builder_below hbu hb2); (have hB2 := hB.trans (hb2.mono hB.size))) | (go_at_call 25; rw [hlen]; refine (raw_is g (o + i * 4) (cap - i * 4) q hl1 hl4 w2 (Nat.lt_of_lt_of_le hg hB2.size) (fun j hj => (hB2.cell (p := ⟨g, o + i * 4 + j, none⟩) hg).trans (hcl j hj))).mono ?_; rintro e w4 ⟨rfl, hb4⟩; (have hbu4 := builder_below hbu2 hb4); (have hB4 := hB2.trans (hb4.mono hB2.size))) | (go_at_call 26; refine (writeString_is _ _ _ _ _ hbu4 ?_ hB4.size).mono ?_; (simp [Lib.byteCells, ByteArray.size_append]; have h3 : (⟨#[10]⟩ : ByteArray).size = 1 := rfl; omega); rintro e w3 ⟨rfl, hbu3, hb3⟩))
        go_roundw
        case rel => exact ⟨i + 1, by go_num, by omega, by rw [hup]; exact Or.inr (by simpa [Lib.byteCells, Lib.strCells] using hbu3), hB4.trans hb3⟩
        case measure => simp [intOf]; omega
    · have hlt' : ¬ (i : Int) * 4 < (l.length : Int) := by omega
      go_wp2_with (first | (go_at_call 27; refine (ST _ _ _ _ hbu hB.size).mono ?_; rintro e w2 ⟨rfl, hb2⟩))
      go_ret
      refine ⟨?_, hB.trans hb2⟩
      rw [show (l.length + 3) / 4 = i from by omega]
      rfl
end Go.Proofs.YtnbkpminecoddaaDoor
