/- The chapter's row: known. -/
import Derived.Test.YtnbkpminecoddaaDoorCodeKnown
namespace Go.Proofs.YtnbkpminecoddaaDoor
open Go.RowKit
set_option linter.unusedVariables false
set_option linter.unusedSimpArgs false

def knownL : List UInt8 := [1, 2, 1, 0, 6, 3, 255, 254, 21, 0, 0, 0, 9, 9]
set_option maxRecDepth 100000 in
theorem known_text : textL knownL = [99, 111, 110, 115, 116, 32, 50, 32, 50, 53, 54, 10, 122, 101, 114, 111, 32, 51, 32, 45, 50, 10, 99, 97, 108, 108, 32, 53, 10, 114, 97, 119, 32, 48, 57, 48, 57, 10] := by kernel_rfl
theorem known_bytes (w : World) : BytesAt (w.alloc (.cells #[.int .u8 1, .int .u8 2, .int .u8 1, .int .u8 0, .int .u8 6, .int .u8 3, .int .u8 255, .int .u8 254, .int .u8 21, .int .u8 0, .int .u8 0, .int .u8 0, .int .u8 9, .int .u8 9] 5)) (some ⟨w.heap.size, 0, none⟩) knownL 14 := by
  refine ⟨by decide, .inr ⟨_, _, rfl, by simp, fun i hi => ?_⟩⟩
  have h := news_new w 5 #[.int .u8 1, .int .u8 2, .int .u8 1, .int .u8 0, .int .u8 6, .int .u8 3, .int .u8 255, .int .u8 254, .int .u8 21, .int .u8 0, .int .u8 0, .int .u8 0, .int .u8 9, .int .u8 9] i (.int .u8 ((knownL[i]'hi).toNat : Int)) (by
    have key : ∀ j : Fin 14, ([.int .u8 1, .int .u8 2, .int .u8 1, .int .u8 0, .int .u8 6, .int .u8 3, .int .u8 255, .int .u8 254, .int .u8 21, .int .u8 0, .int .u8 0, .int .u8 0, .int .u8 9, .int .u8 9] : List Value)[j.val]? = some (.int .u8 ((knownL[j.val]'(by show j.val < 14; exact j.isLt)).toNat : Int)) := by
      intro j
      obtain ⟨j, hj⟩ := j
      rcases j with _ | _ | _ | _ | _ | _ | _ | _ | _ | _ | _ | _ | _ | _ | j
      all_goals first | rfl | omega
    exact key ⟨i, hi⟩)
  rw [Addr.add_lit] at h
  exact h
set_option maxRecDepth 100000 in
set_option maxHeartbeats 1000000 in
theorem known_is (w : World) (ht : Tab w) : Calls Tryd.prog 9 #[] w fun e w' => e = .returned (.bool true) ∧ Below w.heap.size w w' := by
  have hb1 : Below w.heap.size w (w.alloc (.cells #[.int .u8 1, .int .u8 2, .int .u8 1, .int .u8 0, .int .u8 6, .int .u8 3, .int .u8 255, .int .u8 254, .int .u8 21, .int .u8 0, .int .u8 0, .int .u8 0, .int .u8 9, .int .u8 9] 5)) := (Below.refl _ w).alloc (Nat.le_refl _) _
  have C := text_any _ _ 14 (by decide) _ (known_bytes w) (ht.below (B := 0) hb1)
  rw [known_text] at C
  have C' : Calls Tryd.prog 18 #[.slice (some ⟨w.heap.size, 0, none⟩) 14 14] (w.alloc (.cells #[.int .u8 1, .int .u8 2, .int .u8 1, .int .u8 0, .int .u8 6, .int .u8 3, .int .u8 255, .int .u8 254, .int .u8 21, .int .u8 0, .int .u8 0, .int .u8 0, .int .u8 9, .int .u8 9] 5)) _ := C
  clear C
  go_enter Tryd.func9, Tryd.ntmps9
  go_wp2_with (first | (go_at_call 18; refine C'.mono ?_; rintro e w2 ⟨rfl, hb2⟩))
  go_ret
  exact ⟨rfl, hb1.trans (hb2.mono hb1.size)⟩
end Go.Proofs.YtnbkpminecoddaaDoor
