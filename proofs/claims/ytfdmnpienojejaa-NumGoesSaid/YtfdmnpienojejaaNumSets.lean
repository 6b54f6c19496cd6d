/- Has, All, Of of the reference, With, Without, Mask of the program, by walks. Conditions: a set is from 0 to 255; a list lies in memory of its own. -/
import Derived.Test.YtfdmnpienojejaaNumNth
namespace Go.Proofs.Ytfdmnpienojejaa
open Go.RowKit
set_option linter.unusedVariables false

theorem below_own {w w' : World} {base : Nat} {e : TypeId} {size : Nat} {v : Value} {n : Nat} {xs : List Value} (h : w.ownsRow base e size v n xs) (hb : Below w.heap.size w w') : w'.ownsRow base e size v n xs := by
  refine ⟨h.1, ?_⟩
  rcases h.2 with hn | ⟨g, cap, cur, hv, hbg, hg, rest⟩
  · exact .inl hn
  · exact .inr ⟨g, cap, cur, hv, hbg, (hb.block g (Array.getElem?_eq_some_iff.1 hg).1).trans hg, rest⟩

theorem div_cast (s k : Nat) : (((s : Int) / 2 ^ k % 2 == 1)) = s.testBit k := by
  rw [Nat.testBit_eq_decide_div_mod_eq]
  have e : ((s : Int) / 2 ^ k % 2) = ((s / 2 ^ k % 2 : Nat) : Int) := by simp
  rw [e]
  generalize s / 2 ^ k % 2 = x
  rw [Bool.eq_iff_iff, beq_iff_eq, decide_eq_true_iff]
  omega

set_option maxHeartbeats 400000 in
theorem refHas_any (s : Nat) (p : Int) (w : World) (hs : s < 256) : Calls Try.prog 14 #[.int .u8 s, .int .i64 p] w fun e w' => e = .returned (.bool (hasP s p)) ∧ w = w' := by
  by_cases hp : 0 ≤ p ∧ p ≤ 7
  · obtain ⟨k, rfl⟩ := Int.eq_ofNat_of_zero_le hp.1
    have hk : k < 8 := by omega
    have hh : Hid (hasP s k = ((s : Int) / 2 ^ k % 2 == 1)) := by
      show _ = _
      rw [hasP_nat s k hk, div_cast]
    generalize hasP s k = r at *
    clear hp
    go_enter Try.func14, Try.ntmps14
    go_wp2
    go_loop [0, 5] (fun v i => ∃ (j : Nat) (m : Int), j ≤ k ∧ i = .int .i64 j ∧ v = .int .u8 m ∧ 0 ≤ m ∧ m ≤ 255 ∧ Hid (m / 2 ^ (k - j) = (s : Int) / 2 ^ k)) (fun _ i => k - (intOf i).toNat)
    case atStart => exact ⟨0, s, Nat.zero_le _, rfl, rfl, by omega, by omega, rfl⟩
    case round =>
      obtain ⟨j, m, hj, rfl, rfl, hm, hm', he⟩ := hrel
      by_cases hlt : j < k
      · go_wp2
        go_round
        case rel => exact ⟨j + 1, m / 2, by omega, by go_num, rfl, by omega, by omega, by
                      show _ = _
                      rw [← he.out, Int.ediv_ediv_of_nonneg (by decide), show k - j = (k - (j + 1)) + 1 from by omega, Int.pow_succ, Int.mul_comm]⟩
        case measure => simp [intOf]; omega
      · have h0 : j = k := by omega
        subst h0
        go_wp2
        go_ret
        refine ⟨ret_bool ?_, rfl⟩
        rw [hh.out, ← he.out]
        simp
  · have hh : Hid (hasP s p = false) := by
      show _ = _
      unfold hasP
      rw [decide_eq_false hp]; rfl
    generalize hasP s p = r at *
    rcases (show p < 0 ∨ 7 < p from by omega) with hp | hp
    all_goals
      go_enter Try.func14, Try.ntmps14
      go_wp2
      go_ret
      exact ⟨ret_bool hh.out.symm, rfl⟩

theorem Try.info3 : (Try.prog.info? 3).map (fun i => (i.zero, i.size, i.bytes)) = some (some (.int .i64 0), 1, 8) := by kernel_rfl
/-- The cells of a list of natural numbers. -/
def natV (l : List Nat) : List Value := l.map fun (k : Nat) => Value.int .i64 (k : Int)

set_option maxHeartbeats 400000 in
theorem refAll_any (s : Nat) (w : World) (hs : s < 256) : Calls Try.prog 10 #[.int .u8 s] w fun e w' => (∃ v, e = .returned v ∧ w'.ownsRow w.heap.size 3 1 v (allN s).length (natV (allN s))) ∧ Below w.heap.size w w' := by
  obtain ⟨i0, hi, hz0, hz1, hz2⟩ := info_parts Try.info3
  go_enter Try.func10, Try.ntmps10
  go_wp2
  go_loopw [3, 4] (fun v i wr => ∃ k : Nat, k ≤ 8 ∧ i = .int .i64 k ∧ wr.ownsRow w.heap.size 3 1 v ((List.range k).filter fun k => s.testBit k).length (natV ((List.range k).filter fun k => s.testBit k)) ∧ Below w.heap.size w wr) (fun _ i _ => 8 - (intOf i).toNat)
  case atStart => exact ⟨0, by omega, rfl, World.ownsRow_nil _ _ _ _, Below.refl _ _⟩
  case round =>
    obtain ⟨k, hk, rfl, hown, hb⟩ := hrel
    have hlen := allN_upto_len s k
    by_cases hlt : k < 8
    · have hh := hasP_nat s k hlt
      cases hbit : s.testBit k
      · rw [hbit] at hh
        have hup := Lib.hid (allN_upto_no s k hbit)
        go_wp2_with (go_at_call 14; refine (refHas_any s k _ hs).mono ?_; rintro e w' ⟨rfl, rfl⟩)
        go_roundw
        case rel => exact ⟨k + 1, by omega, by go_num, by rw [hup.out]; exact hown, hb⟩
        case measure => simp [intOf]; omega
      · rw [hbit] at hh
        have hup := Lib.hid (allN_upto_yes s k hbit)
        generalize hL : ((List.range k).filter fun k => s.testBit k) = L at *
        have HL := Lib.hid hL
        clear hL
        go_wp2_with (first | (go_at_call 14; refine (refHas_any s k _ hs).mono ?_; rintro e w' ⟨rfl, rfl⟩) | (at_builtin; refine wpList_append_own _ rfl _ _ 24 rfl w.heap.size 3 i0 (.int .i64 0) 1 8 Try.underlying24 hi hz0 hz1 hz2 rfl (by decide) _ _ _ rfl (hown.alloc _) ⟨wr.heap.size, 0, none⟩ 1 1 [.int .i64 k] rfl rfl (cell_one_new _ _ _) (by simp [Value.oneCell']) (by unfold maxLen; omega) (by omega) (by have := hb.size; simp; omega) ?_; intro v' w1 hown' hgrow _))
        go_roundw
        case rel => exact ⟨k + 1, by omega, by go_num, by rw [hup.out]; simpa [natV] using hown', (hb.alloc hb.size _).grown hgrow (by have := hb.size; simp; omega) (fun j hj => (hown.lt j hj).1)⟩
        case measure => simp [intOf]; omega
    · have h8 : k = 8 := by omega
      subst h8
      go_wp2
      go_ret
      exact ⟨⟨_, rfl, hown⟩, hb⟩
end Go.Proofs.Ytfdmnpienojejaa
