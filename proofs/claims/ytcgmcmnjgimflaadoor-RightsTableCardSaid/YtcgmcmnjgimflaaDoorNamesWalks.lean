/- What Of, Name, is of the program and Of of the reference return, by walks. Conditions: the table of names (the package's variable) holds what the program lays; a call's number is from 1 to 22 where said. -/
import Derived.Test.YtcgmcmnjgimflaaDoorKnown
import Derived.Test.YtcgmcmnjgimflaaDoorNamesPlain
import Derived.Laws.Rows
namespace Go.Proofs.YtcgmcmnjgimflaaDoor
open Go.RowKit
set_option linter.unusedVariables false

/-- The names' variable is block 0 and holds the names. -/
def NamesIn (w : World) : Prop := ∃ t fr, w.heap[0]? = some (.cells namesV t fr)
theorem NamesIn.lt {w : World} (h : NamesIn w) : 0 < w.heap.size := by
  obtain ⟨t, fr, h⟩ := h
  exact (Array.getElem?_eq_some_iff.1 h).1
theorem NamesIn.below {w w' : World} (h : NamesIn w) (hb : Below w.heap.size w w') : NamesIn w' := by
  have hl := h.lt
  obtain ⟨t, fr, h⟩ := h
  exact ⟨t, fr, (hb.block 0 hl).trans h⟩
theorem namesV_get (k : Nat) (hk : k < 23) : namesV[k]? = some (.string (nm k)) := by
  simp [namesV, hk]
theorem NamesIn.cell {w : World} (h : NamesIn w) (k : Nat) (hk : k < 23) : w.cell? ⟨0, k, none⟩ = some (.string (nm k)) := by
  obtain ⟨t, fr, h⟩ := h
  simp [World.cell?, h, namesV_get k hk]

theorem index_names (w : World) : ∀ (k : Nat) (hk : k < 23), (Instr.index 45 (.agg namesV) (.int .i64 k)).run Tryd.prog w = .ok (.string (nm k)) w
  | 0, _ => by kernel_rfl
  | 1, _ => by kernel_rfl
  | 2, _ => by kernel_rfl
  | 3, _ => by kernel_rfl
  | 4, _ => by kernel_rfl
  | 5, _ => by kernel_rfl
  | 6, _ => by kernel_rfl
  | 7, _ => by kernel_rfl
  | 8, _ => by kernel_rfl
  | 9, _ => by kernel_rfl
  | 10, _ => by kernel_rfl
  | 11, _ => by kernel_rfl
  | 12, _ => by kernel_rfl
  | 13, _ => by kernel_rfl
  | 14, _ => by kernel_rfl
  | 15, _ => by kernel_rfl
  | 16, _ => by kernel_rfl
  | 17, _ => by kernel_rfl
  | 18, _ => by kernel_rfl
  | 19, _ => by kernel_rfl
  | 20, _ => by kernel_rfl
  | 21, _ => by kernel_rfl
  | 22, _ => by kernel_rfl
  | n + 23, h => absurd h (by omega)

theorem str_cmp (a b : ByteArray) : (a.toList == b.toList) = decide (a = b) := by
  rw [Lib.toList_data, Lib.toList_data, Bool.eq_iff_iff, beq_iff_eq, decide_eq_true_iff]
  constructor
  · intro h
    cases a with
    | mk a => cases b with
      | mk b => simp at h; rw [h]
  · intro h; rw [h]

set_option maxRecDepth 100000 in
set_option maxHeartbeats 400000 in
theorem of_any (s : ByteArray) (w : World) (hN : NamesIn w) :
    Calls Tryd.prog 6 #[.string s] w fun e w' => e = .returned (.tuple #[.int .i64 (ofN s : Nat), .bool (decide (0 < ofN s))]) ∧ w = w' := by
  obtain ⟨t, fr, hg⟩ := hN
  generalize hres : ofN s = res
  have HR := Lib.hid hres
  clear hres
  have hN' := Lib.hid hg
  go_enter Tryd.func6, Tryd.ntmps6
  go_wp2_with (refine wpList_load_row rfl 45 _ rfl 0 rfl t _ fr _ hN'.out Tryd.underlying45 rfl (by kernel_rfl) ?_)
  clear hg
  go_loop [7] (fun i => ∃ k : Nat, k ≤ 23 ∧ i = .int .i64 k ∧ Hid (∀ j, 0 < j → j < k → nm j ≠ s)) (fun i => 23 - (intOf i).toNat)
  case atStart => exact ⟨0, by omega, rfl, fun j _ hj => absurd hj (by omega)⟩
  case round =>
    obtain ⟨k, hk, rfl, hno⟩ := hrel
    by_cases hlt : k < 23
    · have hix := fun w => index_names w k hlt
      by_cases h0 : 0 < k
      · by_cases he : nm k = s
        · have hc : ((nm k).toList == s.toList) = true := by rw [str_cmp]; simp [he]
          have hr : Hid (res = k) := by show res = k; rw [← HR.out, ← he]; exact ofN_hit k h0 hlt
          clear he
          go_wp2_with fail
          go_ret2
          exact ⟨by rw [hr.out, decide_eq_true h0]; rfl, rfl⟩
        · have hc : ((nm k).toList == s.toList) = false := by rw [str_cmp]; simp [he]
          have he' := Lib.hid he
          clear he
          go_wp2_with fail
          go_round
          case rel => exact ⟨k + 1, by omega, by go_num, fun j hj0 hj => by
                        by_cases hjk : j = k
                        · subst hjk; exact he'.out
                        · exact hno.out j hj0 (by omega)⟩
          case measure => simp [intOf]; omega
      · have hz : k = 0 := by omega
        subst hz
        have hix0 : ∀ w, (Instr.index 45 (.agg namesV) (.int .i64 0)).run Tryd.prog w = .ok (.string (nm 0)) w := fun w => index_names w 0 (by omega)
        clear hix
        go_wp2_with fail
        go_round
        case rel => exact ⟨1, by omega, by go_num, fun j hj0 hj => absurd hj (by omega)⟩
        case measure => simp [intOf]
    · have h8 : k = 23 := by omega
      subst h8
      have hr : Hid (res = 0) := by show res = 0; rw [← HR.out]; exact ofN_none s hno.out
      go_wp2_with fail
      go_ret2
      exact ⟨by rw [hr.out]; rfl, rfl⟩

set_option maxHeartbeats 400000 in
theorem is_any (k : Int) (w : World) : Calls Tryd.prog 15 #[.int .i64 k] w fun e w' => e = .returned (.bool (decide (1 ≤ k ∧ k < 23))) ∧ w = w' := by
  generalize hb : decide (1 ≤ k ∧ k < 23) = b
  have HB := Lib.hid hb
  clear hb
  rcases (show k < 1 ∨ (1 ≤ k ∧ k < 23) ∨ 23 ≤ k from by omega) with h | ⟨h, h'⟩ | h
  all_goals
    go_enter Tryd.func15, Tryd.ntmps15
    go_wp2
    go_ret
    refine ⟨ret_bool ?_, rfl⟩
    rw [← HB.out, Bool.eq_iff_iff]
    simp
    try omega

set_option maxHeartbeats 400000 in
theorem name_yes (k : Nat) (w : World) (hN : NamesIn w) (h0 : 0 < k) (hk : k < 23) : Calls Tryd.prog 8 #[.int .i64 k] w fun e w' => e = .returned (.string (nm k)) ∧ w = w' := by
  have hc := hN.cell k hk
  have hd : decide ((1 : Int) ≤ (k : Int) ∧ (k : Int) < 23) = true := by apply decide_eq_true; omega
  go_enter Tryd.func8, Tryd.ntmps8
  go_wp2_with fail
  refine (is_any _ _).mono ?_
  rintro e w' ⟨rfl, rfl⟩
  rw [hd]
  go_wp2_with fail
  go_ret
  exact ⟨rfl, rfl⟩

set_option maxHeartbeats 400000 in
theorem name_no (k : Int) (w : World) (hk : k < 1 ∨ 23 ≤ k) : Calls Tryd.prog 8 #[.int .i64 k] w fun e w' => e = .returned (.string (nm 0)) ∧ w = w' := by
  have hd : decide ((1 : Int) ≤ k ∧ k < 23) = false := by apply decide_eq_false; omega
  go_enter Tryd.func8, Tryd.ntmps8
  go_wp2_with fail
  refine (is_any _ _).mono ?_
  rintro e w' ⟨rfl, rfl⟩
  rw [hd]
  go_wp2_with fail
  go_ret
  exact ⟨rfl, rfl⟩
end Go.Proofs.YtcgmcmnjgimflaaDoor
