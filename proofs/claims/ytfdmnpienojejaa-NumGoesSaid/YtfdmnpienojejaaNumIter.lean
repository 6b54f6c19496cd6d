/- Has and the iterator All of the program, by walks inside the wide fence: All hands on those in the set, rising, as long as the loop's body goes on. Condition: a set is from 0 to 255. -/
import Derived.RangeFuncNested
import Derived.RangeFuncBound
import Derived.RangeFuncCalls
import Derived.RangeFuncLeaves
import Derived.Shelf.Abstract
import Derived.WalkKit
import Derived.OwnWalkIn
import Derived.TacticsInMore
import Derived.LoopNIn
import Derived.LoopIn
import Derived.WalkSpells
import Derived.WalkLawsBesides
import Derived.Lib.Hide
import Derived.Test.YtfdmnpienojejaaRows
import Derived.Test.YtfdmnpienojejaaNumPlain
namespace Go.Proofs.Ytfdmnpienojejaa
open Go.RowKit Go.Shelf
attribute [local go_sem] Oper.semAt_some
set_option linter.unusedVariables false

theorem ret_bool {a b : Bool} (h : a = b) : Ending.returned (.bool a) = .returned (.bool b) := by rw [h]
theorem ret_int {k : IntKind} {a b : Int} (h : a = b) : Ending.returned (.int k a) = .returned (.int k b) := by rw [h]

set_option maxHeartbeats 400000 in
theorem bit_in (k : Nat) (w : World) (hk : k < 8) : Calls Try.prog 30 #[.int .i64 k] w fun e w' => e = .returned (.int .u8 (2 ^ k % 256)) ∧ w = w' := by
  go_enter Try.func30, Try.ntmps30
  go_wp2
  go_ret
  exact ⟨rfl, rfl⟩
set_option maxHeartbeats 400000 in
theorem bit_out (p : Int) (w : World) (hp : p < 0 ∨ 7 < p) : Calls Try.prog 30 #[.int .i64 p] w fun e w' => e = .returned (.int .u8 0) ∧ w = w' := by
  rcases hp with h | h
  all_goals
    go_enter Try.func30, Try.ntmps30
    go_wp2
    go_ret
    exact ⟨rfl, rfl⟩
theorem and_zero (s : Nat) (hs : s < 256) : (bits .and .u8 (s : Int) 0 != 0) = false := by
  have h : ∀ s : Fin 256, (bits .and .u8 (s.val : Int) 0 != 0) = false := by decide +kernel
  exact h ⟨s, hs⟩

set_option maxHeartbeats 400000 in
theorem has_any (s : Nat) (p : Int) (w : World) (hs : s < 256) : Calls Try.prog 13 #[.int .u8 s, .int .i64 p] w fun e w' => e = .returned (.bool (hasP s p)) ∧ w = w' := by
  by_cases hp : 0 ≤ p ∧ p ≤ 7
  · obtain ⟨k, rfl⟩ := Int.eq_ofNat_of_zero_le hp.1
    have hk : k < 8 := by omega
    have hb := and_bit s k hs hk
    have hh : Hid (hasP s k = s.testBit k) := by
      show _ = _
      unfold hasP
      rw [decide_eq_true hp]; simp
    generalize hasP s k = r at *
    clear hp
    go_enter Try.func13, Try.ntmps13
    go_wp2_with (go_at_call 30; refine (bit_in k _ hk).mono ?_; rintro e w' ⟨rfl, rfl⟩)
    go_ret
    exact ⟨ret_bool hh.out.symm, rfl⟩
  · have hb := and_zero s hs
    have hh : Hid (hasP s p = false) := by
      show _ = _
      unfold hasP
      rw [decide_eq_false hp]; rfl
    generalize hasP s p = r at *
    go_enter Try.func13, Try.ntmps13
    go_wp2_with (go_at_call 30; refine (bit_out p _ (by omega)).mono ?_; rintro e w' ⟨rfl, rfl⟩)
    go_ret
    exact ⟨ret_bool hh.out.symm, rfl⟩
theorem hasP_nat (s k : Nat) (hk : k < 8) : hasP s k = s.testBit k := by
  unfold hasP
  rw [decide_eq_true (by omega)]; simp

/-- What a round that goes on keeps: the set's own cell. -/
def SameCell (Bn : Nat) (A B : World) : Prop := B.cell? ⟨Bn, 0, none⟩ = A.cell? ⟨Bn, 0, none⟩
theorem sameCell_t (Bn : Nat) {A B C : World} (h : SameCell Bn A B) (k : SameCell Bn B C) : SameCell Bn A C := Eq.trans k h
theorem sameCell_b {Bn B : Nat} (hB : Bn < B) (W : World) (l : Nat) (o o' : Obj) (hl : B ≤ l) (_ : W.heap[l]? = some o) (_ : o.isCells = false) (_ : o.isWalk = false) : SameCell Bn W (W.putObj l o') :=
  World.cell?_of_block (World.putObj_heap_other (show Bn ≠ l by omega))

set_option maxHeartbeats 1000000 in
theorem all1_in (n : Nat) (hn : 1 ≤ n) (l Bn s : Nat) (hs : s < 256) (J Jx : List Nat → World → Prop)
    (hY : ∀ (pre : List Nat) (x : Nat) (W : World), J pre W → pre.length < 8 → YieldAt Fence.wide (n - 1) Try.prog l #[.int .i64 x] W fun e W' =>
      (e = .returned (.bool true) ∧ J (pre ++ [x]) W' ∧ SameCell Bn W W') ∨ (e = .returned (.bool false) ∧ Jx (pre ++ [x]) W'))
    (W : World) (hBn : W.cell? ⟨Bn, 0, none⟩ = some (.int .u8 s)) (h0 : J [] W) :
    CallsIn Fence.wide n Try.prog 29 #[.func (.yield l) #[] #[], .pointer (some ⟨Bn, 0, none⟩)] W fun e W' => (∃ v, e = .returned v) ∧
      ((∃ ys, ys = allN s ∧ J ys W') ∨ (∃ pre, pre <+: allN s ∧ Jx pre W')) := by
  refine callsIn_of_wp Try.func29 rfl trivial ?_ rfl
  simp only [Try.ntmps29, List.size_toArray, List.length_cons, List.length_nil, Nat.reduceAdd, Nat.reduceSub, Array.replicate_succ, Array.replicate_zero, List.push_toArray, List.append_toArray, List.nil_append, List.cons_append]
  gi_wp2
  gi_loopw [4] (fun p wr => ∃ k : Nat, k ≤ 8 ∧ p = .int .i64 k ∧ J ((List.range k).filter fun k => s.testBit k) wr ∧ wr.cell? ⟨Bn, 0, none⟩ = some (.int .u8 s)) (fun p _ => 8 - (intOf p).toNat)
  case atStart => exact ⟨0, by omega, rfl, h0, hBn⟩
  case round =>
    obtain ⟨k, hk, rfl, hJ, hc⟩ := hrel
    by_cases hlt : k < 8
    · have hh := hasP_nat s k hlt
      cases hb : s.testBit k
      · rw [hb] at hh
        have hJ2 : Hid (J ((List.range (k + 1)).filter fun k => s.testBit k) wr) := by show J _ _; rw [allN_upto_no s k hb]; exact hJ
        gi_wp2_with (refine ⟨trivial, ?_⟩; gi_at_call 13; refine (callsIn_wide.2 (has_any s k _ hs)).mono ?_; rintro e w' ⟨rfl, rfl⟩)
        refine ⟨fun _ _ => trivial, ?_⟩
        gi_wp2
        go_roundw
        case rel => exact ⟨k + 1, by omega, by go_num, hJ2.out, hc⟩
        case measure => simp [intOf]; omega
      · rw [hb] at hh
        obtain ⟨fn, tmps, assign, body, hy, hR⟩ := hY _ k wr hJ (by have := allN_upto_len s k; omega)
        rw [← allN_upto_yes s k hb] at hR
        have hpre := Lib.hid (allN_prefix s (k + 1) (by omega))
        gi_wp2_with (refine ⟨trivial, ?_⟩; gi_at_call 13; refine (callsIn_wide.2 (has_any s k _ hs)).mono ?_; rintro e w' ⟨rfl, rfl⟩)
        refine hR.mono ?_
        rintro e W3 (⟨rfl, hJ3, hk3⟩ | ⟨rfl, hJx3⟩)
        · have hc3 : W3.cell? ⟨Bn, 0, none⟩ = some (.int .u8 s) := Eq.trans hk3 hc
          clear hk3
          gi_wp2
          go_roundw
          case rel => exact ⟨k + 1, by omega, by go_num, hJ3, hc3⟩
          case measure => simp [intOf]; omega
        · gi_wp2
          refine bodyPost_ret (results_none rfl _ _ _) rfl ?_
          exact ⟨⟨_, rfl⟩, .inr ⟨_, hpre.out, hJx3⟩⟩
    · have h8 : k = 8 := by omega
      subst h8
      gi_wp2
      go_end0
      exact ⟨⟨_, rfl⟩, .inl ⟨_, rfl, hJ⟩⟩

theorem all_stops (n : Nat) (hn : 1 ≤ n) (Bn s : Nat) (hs : s < 256) (w : World) (hBn : Bn < w.heap.size) (hc : w.cell? ⟨Bn, 0, none⟩ = some (.int .u8 s)) :
    SeqStopsK Fence.wide n Try.prog 29 #[.pointer (some ⟨Bn, 0, none⟩)] (fun x : Nat => #[Value.int .i64 x]) (SameCell Bn) (fun ys => ys = allN s) (fun pre => pre <+: allN s) 8 w := fun l J Jx W hW _ _ hY h0 =>
  all1_in n hn l Bn s hs J Jx hY W ((hW.cell (p := ⟨Bn, 0, none⟩) hBn).trans hc) h0

set_option maxHeartbeats 400000 in
theorem all_any (s : Nat) (w : World) : Calls Try.prog 11 #[.int .u8 s] w fun e w' => e = .returned (.func (.func 29) #[] #[.pointer (some ⟨w.heap.size, 0, none⟩)]) ∧ w' = w.alloc (.cells #[.int .u8 s] 5) := by
  go_enter Try.func11, Try.ntmps11
  go_wp2
  go_ret
  exact ⟨rfl, rfl⟩
end Go.Proofs.Ytfdmnpienojejaa
