/- Lost and There of the reference, New of the program, by walks. -/
import Derived.Test.YthmjhepjlgcgfaaAuditSame
namespace Go.Proofs.Ythmjhepjlgcgfaa
open Go.RowKit
set_option linter.unusedVariables false
set_option linter.unusedSimpArgs false

theorem drewN_two (w : World) (a b : Nat) : ∃ k, (w.drewN a).drewN b = w.drewN k := ⟨a + b, by simp [World.drewN, Nat.add_assoc]⟩

set_option maxHeartbeats 1000000 in
theorem refLost_row (c n len cap : Nat) (A : Option Addr) (w : World) (h0 : w.cell? ⟨c, 0, none⟩ = some (.slice A len cap)) (h1 : w.cell? ⟨c, 1, none⟩ = some (.int .i64 n)) (hn : n ≤ 256) (hl : len ≤ 1000) :
    Calls Try.prog 14 #[.pointer (some ⟨c, 0, none⟩)] w fun e w' => e = .returned (.int .i64 ((len - n : Nat) : Int)) ∧ ∃ k, w' = w.drewN k := by
  by_cases hlt : n < len
  · have e : ((len - n : Nat) : Int) = (len : Int) - n := by omega
    have hw : IntKind.i64.wrap ((len : Int) - n) = (len : Int) - n := by rw [IntKind.wrap_i64]; omega
    rw [e]
    clear e
    have hc : decide ((n : Int) < (len : Int)) = true := by simp; omega
    go_enter Try.func14, Try.ntmps14
    go_wp2_with fail
    go_quiet (fail)
    go_wp2_with fail
    go_quiet (fail)
    go_wp2
    go_ret
    exact ⟨rfl, drewN_two _ _ _⟩
  · have e : ((len - n : Nat) : Int) = 0 := by omega
    rw [e]
    clear e
    have hc : decide ((n : Int) < (len : Int)) = false := by simp; omega
    go_enter Try.func14, Try.ntmps14
    go_wp2_with fail
    go_quiet (fail)
    go_wp2
    go_ret
    exact ⟨rfl, _, rfl⟩

set_option maxHeartbeats 1000000 in
theorem there_row (c n len cap : Nat) (A : Option Addr) (w : World) (h0 : w.cell? ⟨c, 0, none⟩ = some (.slice A len cap)) (h1 : w.cell? ⟨c, 1, none⟩ = some (.int .i64 n)) (hn : n ≤ 256) (hl : len ≤ 1000) (hc : len ≤ cap) :
    Calls Try.prog 18 #[.pointer (some ⟨c, 0, none⟩)] w fun e w' => e = .returned (.slice (if cap = len - n then A else A.map (·.add ((len - n) * 12))) (len - (len - n)) (cap - (len - n))) ∧ ∃ k, w' = w.drewN k := by
  have C := fun w' g0 g1 => refLost_row c n len cap A w' g0 g1 hn hl
  obtain ⟨k, hk⟩ : ∃ k, k = len - n := ⟨_, rfl⟩
  have hkl : k ≤ len := by omega
  simp only [← hk] at C ⊢
  clear hk
  go_enter Try.func18, Try.ntmps18
  go_wp2_with fail
  go_quiet ((go_at_call 14; exact Calls.quiet_of (C _ h0 h1)))
  go_wp2
  all_goals
    go_ret
    exact ⟨rfl, _, rfl⟩

def zrec : Rec := ⟨0, 0, 0, 0, 0, 0, 0, 0, 0, 0, 0, 0⟩

set_option maxHeartbeats 1000000 in
theorem new_row (n : Nat) (w : World) (h1 : 1 ≤ n) (h2 : n ≤ 256) :
    Calls Try.prog 10 #[.int .i64 n] w fun e w' => ∃ b g L, e = .returned (.tuple #[.pointer (some ⟨b, 0, none⟩), .int .i64 0]) ∧ Ring w' b g n L 0 ∧ w.heap.size ≤ b ∧ w.heap.size ≤ g ∧ Below w.heap.size w w' := by
  obtain ⟨i0, hi, hz0, hz1, hz2⟩ := info_parts infoRec
  go_enter Try.func10, Try.ntmps10
  go_wp2_with (at_make; refine wpList_make_full _ rfl _ _ 22 rfl w.heap.size 42 i0 (.agg #[.int .u64 0, .int .u64 0, .int .i64 0, .int .u64 0, .int .i64 0, .int .i64 0, .int .u64 0, .int .u64 0, .int .u64 0, .int .u64 0, .int .u64 0, .int .i64 0]) 12 Try.underlying22 hi hz0 hz1 .i64 .i64 n n n rfl rfl rfl rfl (by rw [hz2]; omega) (by unfold maxLen; omega) (Nat.le_refl _) ?_; intro w1 hown1 hg1)
  go_ret2
  have hz : w.heap.size < w1.heap.size := by
    rcases hown1.2 with ⟨hv, _⟩ | ⟨g, cap, cur, hv, _, hg, _⟩
    · cases hv
    · have hgg : g = w.heap.size := by injection hv with hv1; injection hv1 with hv2; injection hv2 with hv3; exact hv3.symm
      subst hgg
      exact (Array.getElem?_eq_some_iff.1 hg).1
  obtain ⟨w2, hw2⟩ : ∃ w2 : World, w2 = (w1.alloc (.cells #[.slice (some ⟨w.heap.size, 0, none⟩) n n, .int .u64 0] 59)) := ⟨_, rfl⟩
  have hb1 : Below w.heap.size w w1 := (Below.refl _ w).grown hg1 (Nat.le_refl _) (fun k e => by cases e)
  have hb2 : Below w1.heap.size w1 w2 := by rw [hw2]; exact (Below.refl _ w1).alloc (Nat.le_refl _) _
  have hblk : Blk w2 w1.heap.size 59 #[.slice (some ⟨w.heap.size, 0, none⟩) n n, .int .u64 0] := by rw [hw2]; exact Blk.new _ _ _
  rw [← hw2]
  clear hw2
  have hc := hown1.cells (g := w.heap.size) rfl
  have hadd : ∀ j, (⟨w.heap.size, 0, none⟩ : Addr).add j = ⟨w.heap.size, j, none⟩ := fun j => by unfold Addr.add; split <;> simp_all
  refine ⟨_, _, fun _ => zrec, rfl, ⟨⟨⟨n, hblk.cell 0⟩, hblk.cell 1⟩, fun i hi => ?_, by omega, h1, h2, by omega, hblk.frozen, fun o => ?_⟩, by omega, Nat.le_refl _, hb1.trans (hb2.mono (by omega))⟩
  · refine RecAt.block (w := w1) (recAt_of fun j hj => ?_) (hb2.block _ hz)
    have hj' : j < 12 := by simpa [Rec.vs] using hj
    have q := hc (i * 12 + j) (zrec.vs[j]) ?_
    · rw [hadd] at q; exact q
    · simp only [madeCells, Value.cells, Array.toList_map, List.getElem?_map]
      rw [show (Array.range (n * 12)).toList[i * 12 + j]? = some (i * 12 + j) from by rw [Array.toList_range, List.getElem?_range (by omega)]]
      have e : (i * 12 + j) % 12 = j := by omega
      rcases j with _ | _ | _ | _ | _ | _ | _ | _ | _ | _ | _ | _ | j
      all_goals first
        | omega
        | (simp [zrec, Rec.vs, Nat.add_mod]; done)
        | (simp only [Option.map_some, Option.some.injEq]; show _ = _; rw [show (#[Value.int .u64 0, .int .u64 0, .int .i64 0, .int .u64 0, .int .i64 0, .int .i64 0, .int .u64 0, .int .u64 0, .int .u64 0, .int .u64 0, .int .u64 0, .int .i64 0] : Array Value).size = 12 from rfl, e]; rfl)
  · have q := hown1.2
    rcases q with ⟨hv, _⟩ | ⟨g, cap, cur, hv, _, hg, _⟩
    · cases hv
    · have hgg : g = w.heap.size := by injection hv with hv1; injection hv1 with hv2; injection hv2 with hv3; exact hv3.symm
      subst hgg
      rw [World.frozen?_of_block (w := w1) (hb2.block _ hz)]
      simp [World.frozen?, hg]
end Go.Proofs.Ythmjhepjlgcgfaa
