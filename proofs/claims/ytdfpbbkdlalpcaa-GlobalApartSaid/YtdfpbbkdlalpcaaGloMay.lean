/- Who may run on a P: the program's closure and the reference's May, by walks. Condition: the affinities are bytes. -/
import Derived.Test.YtdfpbbkdlalpcaaGloHas
import Derived.Test.YtdfpbbkdlalpcaaGloLists
import Derived.Deep.QuietTactic
import Derived.BigQuiet
namespace Go.Proofs.Ytdfpbbkdlalpcaa
open Go.RowKit
set_option linter.unusedVariables false

set_option maxHeartbeats 400000 in
theorem may_is (p : Int) (A : Option Addr) (n cap : Nat) (w : World) : Calls Try.prog 26 #[.int .i64 p, .slice A n cap] w fun e w' =>
    e = .returned (.func (.func 32) #[] #[.pointer (some ⟨w.heap.size + 1, 0, none⟩), .pointer (some ⟨w.heap.size, 0, none⟩)]) ∧ w' = (w.alloc (.cells #[.int .i64 p] 3)).alloc (.cells #[.slice A n cap] 32) := by
  go_enter Try.func26, Try.ntmps26
  go_wp2
  go_ret
  exact ⟨rfl, rfl⟩

theorem quiet_left {P : Program} {f : FuncId} {args : Array Value} {w : World} {n : Nat} {v : Value}
    (h : Calls P f args (w.drewN n) fun e w' => e = .returned v ∧ w.drewN n = w') : Calls P f args (w.drewN n) fun e w'' => e = .returned v ∧ ∃ m, w'' = w.drewN m :=
  h.mono fun _ _ ⟨he, hm⟩ => ⟨he, n, hm.symm⟩

set_option maxHeartbeats 1000000 in
theorem may1_is (p : Int) (aff : List Nat) (A : Option Addr) (cap : Nat) (g : Int) (b1 b2 B : Nat) (w : World) (h1 : Blk w b1 32 #[.slice A aff.length cap]) (h2 : Blk w b2 3 #[.int .i64 p])
    (hA : Bytes w B A aff) (hl : aff.length ≤ maxLen) (h8 : ∀ x ∈ aff, x < 256) :
    Calls Try.prog 32 #[.int .i64 g, .pointer (some ⟨b1, 0, none⟩), .pointer (some ⟨b2, 0, none⟩)] w fun e w' => e = .returned (.bool (mayB p aff g)) ∧ ∃ n, w' = w.drewN n := by
  have c1 := h1.cell 0
  have c2 := h2.cell 0
  simp only [List.getElem?_toArray, List.getElem?_cons_zero] at c1 c2
  unfold maxLen at hl
  by_cases h0 : 0 ≤ g
  · by_cases hlt : g < (aff.length : Int)
    · obtain ⟨k, rfl⟩ := Int.eq_ofNat_of_zero_le h0
      have hk : k < aff.length := by omega
      obtain ⟨ad, rfl, hb, hc⟩ := hA.at_ hk
      have hx := h8 _ (List.getElem_mem hk)
      have hm := mayB_in p aff hk
      rw [hm]
      clear hm h8 hA
      generalize aff[k] = x at *
      have C := fun w => has_any x p w hx
      generalize hasP (x : Int) p = r at *
      have hd1 : decide ((0 : Int) ≤ (k : Int)) = true := by simp
      have hd2 : decide ((k : Int) < (aff.length : Int)) = true := by simpa using hlt
      go_enter Try.func32, Try.ntmps32
      go_wp2_with fail
      go_quiet ((go_at_call 33; exact quiet_left (C _)))
      go_wp2
      go_ret
      exact ⟨rfl, _, rfl⟩
    · have hm := mayB_far p aff hlt
      rw [hm]
      clear hm h8 hA
      have hd1 : decide ((0 : Int) ≤ g) = true := by simpa using h0
      have hd2 : decide (g < (aff.length : Int)) = false := by simpa using hlt
      go_enter Try.func32, Try.ntmps32
      go_wp2_with fail
      go_quiet (fail)
      go_wp2
      go_ret
      exact ⟨rfl, _, rfl⟩
  · have hm := mayB_neg p aff h0
    rw [hm]
    clear hm h8 hA
    have hd1 : decide ((0 : Int) ≤ g) = false := by simpa using h0
    go_enter Try.func32, Try.ntmps32
    go_wp2_with fail
    go_quiet (fail)
    go_wp2
    go_ret
    exact ⟨rfl, _, rfl⟩

set_option maxHeartbeats 1000000 in
theorem refMay_is (p : Int) (aff : List Nat) (A : Option Addr) (cap : Nat) (g : Int) (B : Nat) (w : World) (hA : Bytes w B A aff) (hl : aff.length ≤ maxLen) (h8 : ∀ x ∈ aff, x < 256) :
    Calls Try.prog 11 #[.int .i64 g, .int .i64 p, .slice A aff.length cap] w fun e w' => e = .returned (.bool (mayB p aff g)) ∧ w = w' := by
  unfold maxLen at hl
  by_cases h0 : 0 ≤ g
  · by_cases hlt : g < (aff.length : Int)
    · obtain ⟨k, rfl⟩ := Int.eq_ofNat_of_zero_le h0
      have hk : k < aff.length := by omega
      obtain ⟨ad, rfl, hb, hc⟩ := hA.at_ hk
      have hx := h8 _ (List.getElem_mem hk)
      have hm := mayB_in p aff hk
      rw [hm]
      clear hm h8 hA
      generalize aff[k] = x at *
      have C := fun w => refHas_any x p w hx
      generalize hasP (x : Int) p = r at *
      have hd1 : decide ((0 : Int) ≤ (k : Int)) = true := by simp
      have hd2 : decide ((k : Int) < (aff.length : Int)) = true := by simpa using hlt
      go_enter Try.func11, Try.ntmps11
      go_wp2_with (go_at_call 25; refine (C _).mono ?_; rintro e w' ⟨rfl, rfl⟩)
      go_ret
      exact ⟨rfl, rfl⟩
    · have hm := mayB_far p aff hlt
      rw [hm]
      clear hm h8 hA
      have hd1 : decide ((0 : Int) ≤ g) = true := by simpa using h0
      have hd2 : decide (g < (aff.length : Int)) = false := by simpa using hlt
      go_enter Try.func11, Try.ntmps11
      go_wp2_with fail
      go_ret
      exact ⟨rfl, rfl⟩
  · have hm := mayB_neg p aff h0
    rw [hm]
    clear hm h8 hA
    have hd1 : decide ((0 : Int) ≤ g) = false := by simpa using h0
    go_enter Try.func11, Try.ntmps11
    go_wp2_with fail
    go_ret
    exact ⟨rfl, rfl⟩
end Go.Proofs.Ytdfpbbkdlalpcaa
