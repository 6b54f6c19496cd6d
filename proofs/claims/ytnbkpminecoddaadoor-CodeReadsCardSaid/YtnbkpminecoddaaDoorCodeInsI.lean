/- code.instr, whatever the words, by walk. -/
import Derived.Test.YtnbkpminecoddaaDoorCodeInsM
import Derived.Test.YtnbkpminecoddaaDoorCodeSplit
namespace Go.Proofs.YtnbkpminecoddaaDoor
open Go.RowKit
set_option linter.unusedVariables false
set_option linter.unusedSimpArgs false

/-- The operation that a word names; below 0: none. -/
def opOf (W : ByteArray) : Int := if W = wordOf 0 then 0 else if W = wordOf 1 then 1 else if W = wordOf 2 then 2 else if W = wordOf 3 then 3 else if W = wordOf 4 then 4 else if W = wordOf 5 then 5 else if W = wordOf 6 then 6 else if W = wordOf 7 then 7 else -1
theorem opOf_word (W : ByteArray) : ∀ q, 0 ≤ q → q < 8 → (wordOf q = W ↔ q = opOf W) := by
  have key : ∀ q, 0 ≤ q → q < 8 → opOf (wordOf q) = q := by
    intro q h0 h8
    obtain rfl | rfl | rfl | rfl | rfl | rfl | rfl | rfl : q = 0 ∨ q = 1 ∨ q = 2 ∨ q = 3 ∨ q = 4 ∨ q = 5 ∨ q = 6 ∨ q = 7 := by omega
    all_goals decide
  intro q h0 h8
  constructor
  · rintro rfl
    exact (key q h0 h8).symm
  · intro h
    subst h
    by_cases h1 : W = wordOf 0 ∨ W = wordOf 1 ∨ W = wordOf 2 ∨ W = wordOf 3 ∨ W = wordOf 4 ∨ W = wordOf 5 ∨ W = wordOf 6 ∨ W = wordOf 7
    · rcases h1 with rfl | rfl | rfl | rfl | rfl | rfl | rfl | rfl
      all_goals decide
    · have : opOf W = -1 := by
        unfold opOf
        simp only [not_or] at h1
        rw [if_neg h1.1, if_neg h1.2.1, if_neg h1.2.2.1, if_neg h1.2.2.2.1, if_neg h1.2.2.2.2.1, if_neg h1.2.2.2.2.2.1, if_neg h1.2.2.2.2.2.2.1, if_neg h1.2.2.2.2.2.2.2]
      omega
/-- The instruction of a line's words. -/
def insM (ws : List (List UInt8)) : Int × Int × Int × Int :=
  if strL (ws.getD 0 []) = ⟨#[99, 97, 108, 108]⟩ then ((16 + zW ws 1) % 256, 0, 0, 0) else insO ws (opOf (strL (ws.getD 0 [])))
theorem fillA_bd (z : Nat → Int) : ∀ (l : List UInt8) (i : Nat) (x : Int × Int × Int), (0 ≤ x.1 ∧ x.1 < 256) → (0 ≤ x.2.1 ∧ x.2.1 < 256) → (0 ≤ x.2.2 ∧ x.2.2 < 256) → (0 ≤ (fillA z l i x).1 ∧ (fillA z l i x).1 < 256) ∧ (0 ≤ (fillA z l i x).2.1 ∧ (fillA z l i x).2.1 < 256) ∧ (0 ≤ (fillA z l i x).2.2 ∧ (fillA z l i x).2.2 < 256)
  | [], _, _, h1, h2, h3 => ⟨h1, h2, h3⟩
  | a :: l, i, x, h1, h2, h3 => by
    have hm : ∀ n : Int, 0 ≤ n % 256 ∧ n % 256 < 256 := fun n => by omega
    show (0 ≤ (fillA z l (i + 1) (setA x (a.toNat : Int) (z (i + 1)))).1 ∧ _) ∧ _
    refine fillA_bd z l (i + 1) _ ?_ ?_ ?_
    · unfold setA; repeat' split
      all_goals first | exact hm _ | exact h1
    · unfold setA; repeat' split
      all_goals first | exact hm _ | exact h2
    · unfold setA; repeat' split
      all_goals first | exact hm _ | exact h3
theorem insM_bd (ws : List (List UInt8)) : (0 ≤ (insM ws).1 ∧ (insM ws).1 < 256) ∧ (0 ≤ (insM ws).2.1 ∧ (insM ws).2.1 < 256) ∧ (0 ≤ (insM ws).2.2.1 ∧ (insM ws).2.2.1 < 256) ∧ (0 ≤ (insM ws).2.2.2 ∧ (insM ws).2.2.2 < 256) := by
  have hz : (0 : Int) ≤ 0 ∧ (0 : Int) < 256 := ⟨by decide, by decide⟩
  unfold insM
  split
  · exact ⟨by constructor <;> dsimp only <;> omega, hz, hz, hz⟩
  · unfold insO
    split
    · rename_i h
      obtain ⟨h1, h2, h3⟩ := fillA_bd (zW ws) ((argsOf (opOf (strL (ws.getD 0 [])))).data.toList.take (argsOf (opOf (strL (ws.getD 0 [])))).size) 0 (0, 0, 0) hz hz hz
      exact ⟨⟨h.1, by dsimp only; omega⟩, h1, h2, h3⟩
    · exact ⟨hz, hz, hz, hz⟩
set_option maxRecDepth 100000 in
set_option maxHeartbeats 2000000 in
theorem instr_call (gw : Nat) (ws : List (List UInt8)) (hne : 0 < ws.length) (hc : strL (ws[0]'hne) = ⟨#[99, 97, 108, 108]⟩) (w : World) (hw : WordsAt w gw ws) (hs : ∀ j (hj : j < ws.length), (ws[j]'hj).length ≤ 100000) (he : Errs w) :
    Calls Tryd.prog 30 #[.slice (some ⟨gw, 0, none⟩) ws.length ws.length] w fun e w' => e = .returned (insV ((16 + zW ws 1) % 256) 0 0 0) ∧ Below w.heap.size w w' := by
  have hc0 := hw.2 0 hne
  rw [hc] at hc0
  have hgw := hw.1
  have NF : ∀ w', Below w.heap.size w w' → Blk w' w.heap.size 62 #[.slice (some ⟨gw, 0, none⟩) ws.length ws.length] → Calls Tryd.prog 42 #[.int .i64 1, .pointer (some ⟨w.heap.size, 0, none⟩)] w' fun e w'' => e = .returned (.int .i64 (zW ws 1)) ∧ Below w'.heap.size w' w'' := fun w' hb hx =>
    number_fn w.heap.size gw ws 1 (by omega) w' (hx.cell 0) (hw.below hb) hs (he.below (B := 0) hb)
  have hzb := zW_bd ws 1
  obtain ⟨n, hn⟩ : ∃ n, n = ws.length := ⟨_, rfl⟩
  have hn0 : 0 < n := by omega
  simp only [← hn] at NF ⊢
  clear hn hw hs he hc
  generalize zW ws 1 = z at *
  obtain ⟨hz0, hz1⟩ := hzb
  have hmf : ∀ (fn : Fn) (first cap : Array Value) (w : World), (Instr.makeFunc fn first cap).run Tryd.prog w = .ok (.func fn first cap) w := fun _ _ _ _ => rfl
  have B2 := ((Below.refl w.heap.size w).alloc (Nat.le_refl _) (.cells #[.slice (some ⟨gw, 0, none⟩) n n] 62)).alloc (by simp) (.cells #[.int .u8 0, .int .u8 0, .int .u8 0, .int .u8 0] 26)
  have R1 := (Blk.new w 62 #[.slice (some ⟨gw, 0, none⟩) n n]).alloc (.cells #[.int .u8 0, .int .u8 0, .int .u8 0, .int .u8 0] 26)
  have R2 : Blk ((w.alloc (.cells #[.slice (some ⟨gw, 0, none⟩) n n] 62)).alloc (.cells #[.int .u8 0, .int .u8 0, .int .u8 0, .int .u8 0] 26)) (w.heap.size + 1) 26 #[.int .u8 0, .int .u8 0, .int .u8 0, .int .u8 0] := by
    have := Blk.new (w.alloc (.cells #[.slice (some ⟨gw, 0, none⟩) n n] 62)) 26 #[.int .u8 0, .int .u8 0, .int .u8 0, .int .u8 0]
    simpa using this
  have NF2 := NF _ B2 R1
  go_enter Tryd.func30, Tryd.ntmps30
  go_wp2_with (first | (go_at_call 42; refine NF2.mono ?_; rintro e3 w3 ⟨rfl, hb3⟩; (have I4 := R2.below hb3 R2.lt); (have B4 := Lib.hid (B2.trans (hb3.mono B2.size)))) | (refine wpList_store_row (by exact rfl) 26 (.tmp 2) (.tmp 20) (by exact rfl) (w.heap.size + 1) #[.int .u8 ((16 + z) % 256), .int .u8 0, .int .u8 0, .int .u8 0] (by exact rfl) (by exact rfl) 26 _ I4 (by kernel_rfl) (by exact rfl) (by simp [Value.oneCell']) ?_))
  exact bodyPost_ret (results_one (p := 2) (by kernel_rfl) _ _ rfl (I4.put_ _)) rfl ⟨rfl, below_setRow B4.out (Nat.le_succ _) _⟩
theorem instr_is (gw : Nat) (ws : List (List UInt8)) (hne : 0 < ws.length) (w : World) (hw : WordsAt w gw ws) (hs : ∀ j (hj : j < ws.length), (ws[j]'hj).length ≤ 100000) (he : Errs w) :
    Calls Tryd.prog 30 #[.slice (some ⟨gw, 0, none⟩) ws.length ws.length] w fun e w' => e = .returned (insV (insM ws).1 (insM ws).2.1 (insM ws).2.2.1 (insM ws).2.2.2) ∧ Below w.heap.size w w' := by
  have e0 : ws.getD 0 [] = ws[0]'hne := by rw [List.getD_eq_getElem?_getD, List.getElem?_eq_getElem hne]; rfl
  unfold insM
  rw [e0]
  by_cases hc : strL (ws[0]'hne) = ⟨#[99, 97, 108, 108]⟩
  · rw [if_pos hc]
    exact instr_call gw ws hne hc w hw hs he
  · rw [if_neg hc]
    exact instr_map gw ws _ hne rfl _ (opOf_word _) hc w hw hs he
end Go.Proofs.YtnbkpminecoddaaDoor
