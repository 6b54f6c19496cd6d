/- The law CodeTexts, by walk. -/
import Derived.Test.YtnbkpminecoddaaDoorCodeParse
import Derived.Test.YtnbkpminecoddaaDoorCodeKnown2
namespace Go.Proofs.YtnbkpminecoddaaDoor
open Go.RowKit
set_option linter.unusedVariables false
set_option linter.unusedSimpArgs false

/-- code.Of at a text: the bytes, or that they are too many. -/
theorem of_big (l : List UInt8) (hl : l.length ≤ 2000) (hb : 1024 < l.length) (w : World) (he : Env w) : Calls Tryd.prog 19 #[.string (strL (textL l))] w fun e w' => e = .returned (.tuple #[.slice none 0 0, .int .i64 17]) ∧ Below w.heap.size w w' := by
  have h := text_len l
  refine (of_is (textL l) (by omega) w he).mono fun e w' hp => ?_
  unfold OfPost at hp
  rw [parse_text] at hp
  exact ⟨hp.2.1 rfl hb, hp.2.2.2⟩
theorem of_small (l : List UInt8) (hb : ¬ 1024 < l.length) (w : World) (he : Env w) : Calls Tryd.prog 19 #[.string (strL (textL l))] w fun e w' => ∃ A cap, e = .returned (.tuple #[.slice A l.length cap, .int .i64 0]) ∧ BytesAt w' A l cap ∧ (A = none → cap = 0) ∧ Below w.heap.size w w' := by
  have h := text_len l
  refine (of_is (textL l) (by omega) w he).mono fun e w' hp => ?_
  unfold OfPost at hp
  rw [parse_text] at hp
  obtain ⟨A, cap, h1, h2, h3⟩ := hp.2.2.1 rfl hb
  exact ⟨A, cap, h1, h2, h3, hp.2.2.2⟩
set_option maxRecDepth 100000 in
set_option maxHeartbeats 4000000 in
theorem texts_walk (A : Option Addr) (l : List UInt8) (cap : Nat) (w : World) (hA : A = none → cap = 0) (h : BytesAt w A l cap) (he : Env w) :
    Calls Tryd.prog 5 #[.slice A l.length cap] w fun e w' => e = .returned (.bool true) ∧ Below w.heap.size w w' := by
  by_cases hbig : l.length ≤ 2000
  · have T1 := fun (A' : Option Addr) (cap' : Nat) (w' : World) (h : BytesAt w' A' l cap') (ht : Tab w') => text_any A' l cap' (by omega) w' h ht
    have T2 := fun (w' : World) (hb : Below w.heap.size w w') => refText_is A l cap (by omega) w' (h.below hb)
    have ht : Tab w := he.2.1
    have hl2 : ¬ (2000 : Int) < (l.length : Int) := by omega
    by_cases h1024 : 1024 < l.length
    · have O := of_big l hbig h1024
      have hl1 : (1024 : Int) < (l.length : Int) := by omega
      have T1' : ∀ (A' : Option Addr) (cap' : Nat) (w' : World), BytesAt w' A' l cap' → Tab w' → Calls Tryd.prog 18 #[.slice A' l.length cap'] w' fun e w'' => e = .returned (.string (strL (textL l))) ∧ Below w'.heap.size w' w'' := T1
      clear T1
      generalize strL (textL l) = s at *
      go_enter Tryd.func5, Tryd.ntmps5
      go_wp2_with (first | (at_builtin; refine wpList_append_bytes rfl (.tmp 11) rfl (by omega) rfl hA h ?_; intro A' cap' w1 hb1 hge1 hB1) | (go_at_call 18; refine (T1' A' cap' w1 hb1 (ht.below (B := 0) hB1)).mono ?_; rintro e2 w2 ⟨rfl, hb2⟩; (have hB2 := hB1.trans (hb2.mono hB1.size))) | (go_at_call 19; refine (O w2 (he.below (B := 0) hB2)).mono ?_; rintro e3 w3 ⟨rfl, hb3⟩; (have hB3 := hB2.trans (hb3.mono hB2.size))) | (go_at_call 20; refine (T2 w3 hB3).mono ?_; rintro e4 w4 ⟨rfl, hb4⟩; (have hB4 := hB3.trans (hb4.mono hB3.size)); (have c1 := conv_bytes (((hb1.below hb2).below hb3).below hb4)); (have c2 := conv_bytes (h.below hB4))) | (go_at_call 9; refine (known_is _ (ht.below (B := 0) hB4)).mono ?_; rintro eK wK ⟨rfl, hbK⟩))
      go_ret
      exact ⟨rfl, hB4.trans (hbK.mono hB4.size)⟩
    · have O := of_small l h1024
      have hl1 : ¬ (1024 : Int) < (l.length : Int) := by omega
      have T1' : ∀ (A' : Option Addr) (cap' : Nat) (w' : World), BytesAt w' A' l cap' → Tab w' → Calls Tryd.prog 18 #[.slice A' l.length cap'] w' fun e w'' => e = .returned (.string (strL (textL l))) ∧ Below w'.heap.size w' w'' := T1
      clear T1
      generalize strL (textL l) = s at *
      go_enter Tryd.func5, Tryd.ntmps5
      go_wp2_with (first | (at_builtin; refine wpList_append_bytes rfl (.tmp 11) rfl (by omega) rfl hA h ?_; intro A' cap' w1 hb1 hge1 hB1) | (go_at_call 18; refine (T1' A' cap' w1 hb1 (ht.below (B := 0) hB1)).mono ?_; rintro e2 w2 ⟨rfl, hb2⟩; (have hB2 := hB1.trans (hb2.mono hB1.size))) | (go_at_call 19; refine (O w2 (he.below (B := 0) hB2)).mono ?_; rintro e3 w3 ⟨A3, cap3, rfl, hby3, -, hb3⟩; (have hB3 := hB2.trans (hb3.mono hB2.size))) | (go_at_call 20; refine (T2 w3 hB3).mono ?_; rintro e4 w4 ⟨rfl, hb4⟩; (have hB4 := hB3.trans (hb4.mono hB3.size)); (have c1 := conv_bytes (((hb1.below hb2).below hb3).below hb4)); (have c2 := conv_bytes (h.below hB4)); (have c3 := conv_bytes (hby3.below hb4))) | (go_at_call 9; refine (known_is _ (ht.below (B := 0) hB4)).mono ?_; rintro eK wK ⟨rfl, hbK⟩))
      go_ret
      exact ⟨rfl, hB4.trans (hbK.mono hB4.size)⟩
  · have hl : (2000 : Int) < (l.length : Int) := by omega
    have ht : Tab w := he.2.1
    clear h
    go_enter Tryd.func5, Tryd.ntmps5
    go_wp2_with (go_at_call 9; refine (known_is _ ht).mono ?_; rintro e w2 ⟨rfl, hb2⟩)
    go_ret
    exact ⟨rfl, hb2⟩
end Go.Proofs.YtnbkpminecoddaaDoor
