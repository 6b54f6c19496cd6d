/- none, at, Size, Seq, Len, Lost of a ring that is there, by walks. Conditions: it has 1 to 256 places. -/
import Derived.Test.YthmjhepjlgcgfaaRows
import Derived.Test.YthmjhepjlgcgfaaAuditPlain
import Derived.WalkKit
import Derived.WalkSpells
import Derived.WalkLawsBesides
import Derived.Deep.QuietTactic
import Derived.BigQuiet
namespace Go.Proofs.Ythmjhepjlgcgfaa
open Go.RowKit
set_option linter.unusedVariables false

/-- The ring's own two cells: its places' row, and the last Seq. -/
structure Head (w : World) (b g n m : Nat) : Prop where
  s : ∃ kc, w.cell? ⟨b, 0, none⟩ = some (.slice (some ⟨g, 0, none⟩) n kc)
  q : w.cell? ⟨b, 1, none⟩ = some (.int .u64 m)

set_option maxHeartbeats 400000 in
theorem none_is (b g n m : Nat) (w : World) (h : Head w b g n m) (h1 : 1 ≤ n) (h2 : n ≤ 256) : Calls Try.prog 31 #[.pointer (some ⟨b, 0, none⟩)] w fun e w' => e = .returned (.bool false) ∧ w = w' := by
  obtain ⟨⟨kc, hs⟩, hq⟩ := h
  have hz : ((n : Int) == 0) = false := by simp; omega
  go_enter Try.func31, Try.ntmps31
  go_wp2
  go_ret
  exact ⟨rfl, rfl⟩

set_option maxHeartbeats 400000 in
theorem at_is (b g n m s : Nat) (w : World) (h : Head w b g n m) (h1 : 1 ≤ n) (h2 : n ≤ 256) (hs' : s < 2 ^ 63) : Calls Try.prog 30 #[.pointer (some ⟨b, 0, none⟩), .int .u64 s] w fun e w' => e = .returned (.int .i64 ((s % n : Nat) : Int)) ∧ w = w' := by
  obtain ⟨⟨kc, hs⟩, hq⟩ := h
  have hz : ((n : Int) == 0) = false := by simp; omega
  have hlt : s % n < n := Nat.mod_lt _ (by omega)
  have hm : (s : Int) % n = ((s % n : Nat) : Int) := by simp
  generalize s % n = p at *
  go_enter Try.func30, Try.ntmps30
  go_wp2
  go_ret
  exact ⟨rfl, rfl⟩

set_option maxHeartbeats 400000 in
theorem seq_is (b g n m : Nat) (w : World) (h : Head w b g n m) (h1 : 1 ≤ n) (h2 : n ≤ 256) : Calls Try.prog 17 #[.pointer (some ⟨b, 0, none⟩)] w fun e w' => e = .returned (.int .u64 m) ∧ w = w' := by
  have C := none_is b g n m w h h1 h2
  obtain ⟨⟨kc, hs⟩, hq⟩ := h
  go_enter Try.func17, Try.ntmps17
  go_wp2_with fail
  refine C.mono ?_
  rintro e w1 ⟨rfl, rfl⟩
  go_wp2
  go_ret
  exact ⟨rfl, rfl⟩

set_option maxHeartbeats 400000 in
theorem size_is (b g n m : Nat) (w : World) (h : Head w b g n m) (h1 : 1 ≤ n) (h2 : n ≤ 256) : Calls Try.prog 28 #[.pointer (some ⟨b, 0, none⟩)] w fun e w' => e = .returned (.int .i64 n) ∧ w = w' := by
  have C := none_is b g n m w h h1 h2
  obtain ⟨⟨kc, hs⟩, hq⟩ := h
  go_enter Try.func28, Try.ntmps28
  go_wp2_with fail
  refine C.mono ?_
  rintro e w1 ⟨rfl, rfl⟩
  go_wp2
  go_ret
  exact ⟨rfl, rfl⟩

set_option maxHeartbeats 400000 in
theorem len_is (b g n m : Nat) (w : World) (h : Head w b g n m) (h1 : 1 ≤ n) (h2 : n ≤ 256) (h3 : m < 2 ^ 63) : Calls Try.prog 16 #[.pointer (some ⟨b, 0, none⟩)] w fun e w' => e = .returned (.int .i64 ((min m n : Nat) : Int)) ∧ w = w' := by
  have C := seq_is b g n m w h h1 h2
  have D := size_is b g n m w h h1 h2
  have hx : (n < m ∧ min m n = n) ∨ (¬ n < m ∧ min m n = m) := by omega
  generalize min m n = x at *
  go_enter Try.func16, Try.ntmps16
  go_wp2_with fail
  refine C.mono ?_
  rintro e w1 ⟨rfl, rfl⟩
  go_wp2_with fail
  refine D.mono ?_
  rintro e w1 ⟨rfl, rfl⟩
  rcases hx with ⟨hlt, rfl⟩ | ⟨hlt, rfl⟩
  all_goals
    go_wp2
    go_ret
    exact ⟨rfl, rfl⟩

set_option maxHeartbeats 400000 in
theorem lost_is (b g n m : Nat) (w : World) (h : Head w b g n m) (h1 : 1 ≤ n) (h2 : n ≤ 256) (h3 : m < 2 ^ 63) : Calls Try.prog 15 #[.pointer (some ⟨b, 0, none⟩)] w fun e w' => e = .returned (.int .u64 ((m - min m n : Nat) : Int)) ∧ w = w' := by
  have C := seq_is b g n m w h h1 h2
  have D := len_is b g n m w h h1 h2 h3
  have hmn : min m n ≤ 256 := by omega
  have hle : min m n ≤ m := by omega
  generalize min m n = x at *
  have e : ((m - x : Nat) : Int) = (m : Int) - x := by omega
  rw [e]
  clear e
  go_enter Try.func15, Try.ntmps15
  go_wp2_with fail
  refine C.mono ?_
  rintro e w1 ⟨rfl, rfl⟩
  go_wp2_with fail
  refine D.mono ?_
  rintro e w1 ⟨rfl, rfl⟩
  go_wp2
  go_ret
  exact ⟨rfl, rfl⟩
end Go.Proofs.Ythmjhepjlgcgfaa
