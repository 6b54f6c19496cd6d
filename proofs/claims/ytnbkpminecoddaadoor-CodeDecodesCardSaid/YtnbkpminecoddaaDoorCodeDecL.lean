/- The law CodeDecodes, by walk. -/
import Derived.Test.YtnbkpminecoddaaDoorCodeOwn
import Derived.Test.YtnbkpminecoddaaDoorCodeRefD
import Derived.Test.YtnbkpminecoddaaDoorCodeKnown2
import Derived.Deep.RegionHeld3
import Derived.OrdersHeld
namespace Go.Proofs.YtnbkpminecoddaaDoor
open Go.RowKit
set_option linter.unusedVariables false
set_option linter.unusedSimpArgs false

set_option maxRecDepth 100000 in
set_option maxHeartbeats 4000000 in
theorem decodes_walk (A : Option Addr) (l : List UInt8) (cap : Nat) (pc : Int) (w : World) (hA : A = none → cap = 0) (h : l.length ≤ 2000 → BytesAt w A l cap) (ht : Tab w) :
    Calls Tryd.prog 3 #[.slice A l.length cap, .int .i64 pc] w fun e w' => e = .returned (.bool true) ∧ Below w.heap.size w w' := by
  by_cases hbig : l.length ≤ 2000
  · have hb := h hbig
    have hcode := hb.code (by omega)
    clear h
    have D1 := fun (A' : Option Addr) (cap' : Nat) (w' : World) (pc : Int) (h : BytesAt w' A' l cap') => decode_is _ _ _ pc w' (h.code (by omega))
    have D2 := fun (w' : World) (pc : Int) (hb2 : Below w.heap.size w w') => refDecode_is A l.length cap (dOf l) (dOf_bd l) pc w' (hcode.below (B := 0) hb2)
    have hgd : Tryd.prog.eqGuardType Tryd.prog.depth 26 = false := by kernel_rfl
    go_enter Tryd.func3, Tryd.ntmps3
    go_wp2_with (at_builtin; refine wpList_append_bytes rfl (.tmp 19) rfl (by omega) rfl hA hb ?_; intro A' cap' w1 hb1 hge1 hB1)
    go_loopw [6] (fun v wr => ∃ j : Nat, v = .int .i64 ((j : Int) - 1) ∧ j ≤ l.length / 4 + 3 ∧ Below w1.heap.size w1 wr) (fun v wr => l.length / 4 + 3 - (intOf v + 1).toNat)
    case atStart => exact ⟨0, rfl, by omega, Below.refl _ _⟩
    case round =>
      obtain ⟨j, rfl, hj, hB⟩ := hrel
      by_cases hlt : (j : Int) - 1 ≤ (l.length : Int) / 4 + 1
      · have C1 := D1 A' cap' wr ((j : Int) - 1) (hb1.below hB)
        have C2 := fun (w2 : World) (hb2 : Below wr.heap.size wr w2) => D2 w2 ((j : Int) - 1) ((hB1.trans (hB.mono hB1.size)).trans (hb2.mono (Nat.le_trans hB1.size hB.size)))
        generalize decR l.length (dOf l) ((j : Int) - 1) = d at C1 C2
        obtain ⟨k, a, b, c, e⟩ := d
        simp only [Dec.v, insV] at C1 C2
        have HNE := fun w => ins_neq k a b c k a b c w
        rw [show (decide (k = k ∧ a = a ∧ b = b ∧ c = c)) = true from by simp] at HNE
        go_wp2_with (first | (go_at_call 10; refine C1.mono ?_; rintro e2 w2 ⟨rfl, hb2⟩) | (go_at_call 11; refine (C2 _ (hb2.alloc hb2.size (.cells #[.int .u8 k, .int .u8 a, .int .u8 b, .int .u8 c] 26))).mono ?_; rintro e3 w3 ⟨rfl, hb3⟩; (have I7 := ((Blk.new w2 26 #[.int .u8 k, .int .u8 a, .int .u8 b, .int .u8 c]).below hb3 (by simp)).alloc (.cells #[.int .u8 k, .int .u8 a, .int .u8 b, .int .u8 c] 26)); (have I9 := Blk.new w3 26 #[.int .u8 k, .int .u8 a, .int .u8 b, .int .u8 c]); (have X := hB.trans (hb2.mono hB.size)); (have Y := ((Below.refl w2.heap.size w2).alloc (Nat.le_refl _) (.cells #[.int .u8 k, .int .u8 a, .int .u8 b, .int .u8 c] 26)).trans (hb3.mono (by simp))); (have B4 := Lib.hid (X.trans (Y.mono (Nat.le_trans hB.size hb2.size)))); clear X Y) | ((with_reducible refine load_ins (o := ⟨some 41, .load 26 (.tmp 7), _, _, _, _⟩) (I7) ?_ (.tmp 7) ?_ ?_ ?_); exact rfl; exact rfl; exact rfl; simp only [insV]) | ((with_reducible refine load_ins (o := ⟨some 42, .load 26 (.tmp 9), _, _, _, _⟩) (I9) ?_ (.tmp 9) ?_ ?_ ?_); exact rfl; exact rfl; exact rfl; simp only [insV]))
        go_roundw
        case rel => exact ⟨j + 1, by go_num, by omega, B4.out.alloc (Nat.le_trans hB.size (Nat.le_trans hb2.size (by have := hb3.size; simp at this; omega))) _⟩
        case measure => simp [intOf]; omega
      · have C1 := D1 A' cap' wr pc (hb1.below hB)
        have C2 := fun (w2 : World) (hb2 : Below wr.heap.size wr w2) => D2 w2 pc ((hB1.trans (hB.mono hB1.size)).trans (hb2.mono (Nat.le_trans hB1.size hB.size)))
        generalize decR l.length (dOf l) pc = d at C1 C2
        obtain ⟨k, a, b, c, e⟩ := d
        simp only [Dec.v, insV] at C1 C2
        have HEQ := fun w => ins_eql k a b c k a b c w
        rw [show (decide (k = k ∧ a = a ∧ b = b ∧ c = c)) = true from by simp] at HEQ
        have LN := fun w => len_is A' l.length cap' (by omega) w
        have eL : ((l.length / 4 : Nat) : Int) = (l.length : Int) / 4 := by omega
        simp only [eL] at LN
        clear eL
        go_wp2_with (first | (go_at_call 10; refine C1.mono ?_; rintro e2 w2 ⟨rfl, hb2⟩) | (go_at_call 11; refine (C2 _ (hb2.alloc hb2.size (.cells #[.int .u8 k, .int .u8 a, .int .u8 b, .int .u8 c] 26))).mono ?_; rintro e3 w3 ⟨rfl, hb3⟩; (have I7 := ((Blk.new w2 26 #[.int .u8 k, .int .u8 a, .int .u8 b, .int .u8 c]).below hb3 (by simp)).alloc (.cells #[.int .u8 k, .int .u8 a, .int .u8 b, .int .u8 c] 26)); (have I9 := Blk.new w3 26 #[.int .u8 k, .int .u8 a, .int .u8 b, .int .u8 c]); (have X := hB.trans (hb2.mono hB.size)); (have Y := ((Below.refl w2.heap.size w2).alloc (Nat.le_refl _) (.cells #[.int .u8 k, .int .u8 a, .int .u8 b, .int .u8 c] 26)).trans (hb3.mono (by simp))); (have B4 := Lib.hid (X.trans (Y.mono (Nat.le_trans hB.size hb2.size)))); clear X Y) | ((with_reducible refine load_ins (o := ⟨some 61, .load 26 (.tmp 11), _, _, _, _⟩) (I7) ?_ (.tmp 11) ?_ ?_ ?_); exact rfl; exact rfl; exact rfl; simp only [insV]; (have B5 := Lib.hid (B4.out.alloc (Nat.le_trans hB.size (Nat.le_trans hb2.size (by have := hb3.size; simp at this; omega))) (.cells #[.int .u8 k, .int .u8 a, .int .u8 b, .int .u8 c] 26))); (have hT5 := (ht.below (B := 0) hB1).below (B := 0) B5.out); (have cv1 := conv_bytes (hb1.below B5.out)); (have cv2 := conv_bytes (hb.below (hB1.trans (B5.out.mono hB1.size))))) | ((with_reducible refine load_ins (o := ⟨some 62, .load 26 (.tmp 13), _, _, _, _⟩) (I9) ?_ (.tmp 13) ?_ ?_ ?_); exact rfl; exact rfl; exact rfl; simp only [insV]) | (go_at_call 12; refine (LN _).mono ?_; rintro eL wL ⟨rfl, rfl⟩) | (go_at_call 9; refine (known_is _ hT5).mono ?_; rintro eK wK ⟨rfl, hbK⟩))
        go_ret
        exact ⟨rfl, (hB1.trans (B5.out.mono hB1.size)).trans (hbK.mono (Nat.le_trans hB1.size B5.out.size))⟩
  · clear h
    have hl : (2000 : Int) < (l.length : Int) := by omega
    go_enter Tryd.func3, Tryd.ntmps3
    go_wp2_with (go_at_call 9; refine (known_is _ ht).mono ?_; rintro e w2 ⟨rfl, hb2⟩)
    go_ret
    exact ⟨rfl, hb2⟩
end Go.Proofs.YtnbkpminecoddaaDoor
