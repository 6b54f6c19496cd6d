/- GlobalPlays, by a walk: true at each row of acts. -/
import Derived.Test.YtdfpbbkdlalpcaaGloDo3
namespace Go.Proofs.Ytdfpbbkdlalpcaa
open Go.RowKit
set_option linter.unusedVariables false
set_option linter.unusedSimpArgs false

/-- The two new queues. -/
theorem both_begin (w : World) : Both ((w.alloc (.cells #[.pointer none, .pointer none, .int .i64 0] 49)).alloc (.cells #[.slice none 0 0] 30)) w.heap.size w.heap.size (w.heap.size + 1) [] none 0 := by
  refine ⟨(qu_new w).below ((Below.refl _ _).alloc (Nat.le_refl _) _), ⟨?_, World.ownsRow_nil _ _ _ _, by omega⟩, fun k hk => ?_, by simp; omega⟩
  · have h := Blk.new (w.alloc (.cells #[.pointer none, .pointer none, .int .i64 0] 49)) 30 #[.slice none 0 0]
    rw [World.size_alloc] at h
    exact h
  · rcases hk with rfl | ⟨i, hi, _⟩
    · exact Nat.le_refl _
    · simp at hi
theorem below_begin (w : World) : Below w.heap.size w ((w.alloc (.cells #[.pointer none, .pointer none, .int .i64 0] 49)).alloc (.cells #[.slice none 0 0] 30)) := ((Below.refl _ w).alloc (Nat.le_refl _) _).alloc (by simp) _

set_option maxRecDepth 100000 in
set_option maxHeartbeats 2000000 in
theorem plays_walk (l : List ActD) (A : Option Addr) (cap : Nat) (w : World) (hA : Acts w w.heap.size A l) (hl : l.length ≤ maxLen) :
    Calls Try.prog 3 #[.slice A l.length cap] w fun e w' => e = .returned (.bool true) ∧ Below w.heap.size w w' := by
  by_cases hf : Few l 120
  · have CF := few_yes l A cap 120 w.heap.size w hA hl (by omega) hf
    obtain ⟨hl2, hf2⟩ := hf
    have HF := Lib.hid hf2
    have hbo := both_begin w
    have hbb := below_begin w
    clear hf2 hl
    go_enter Try.func3, Try.ntmps3
    go_wp2_with (first | (go_at_call 6; refine CF.mono ?_; rintro e w' ⟨rfl, rfl⟩) | (go_at_call 8; refine (new_is w).mono ?_; rintro e w' ⟨rfl, rfl⟩))
    generalize (w.alloc (.cells #[.pointer none, .pointer none, .int .i64 0] 49)).alloc (.cells #[.slice none 0 0] 30) = w2 at *
    go_loopw [5] (fun i wr => ∃ (j : Nat) (N : List (Nat × Int)) (A' : Option Addr) (cap' : Nat), j ≤ l.length ∧ i = .int .i64 j ∧ Both wr w.heap.size w.heap.size (w.heap.size + 1) N A' cap' ∧ N.length ≤ 50 * j ∧ Below w.heap.size w wr) (fun i _ => l.length - (intOf i).toNat)
    case atStart => exact ⟨0, [], none, 0, Nat.zero_le _, rfl, hbo, by simp, hbb⟩
    case round =>
      obtain ⟨j, N, A', cap', hj, rfl, hBo, hN, hbr⟩ := hrel
      by_cases hlt : j < l.length
      · have hAr := hA.below hbr
        obtain ⟨g, o, rfl, hg, hc⟩ := hAr.1 (fun e => by rw [e] at hlt; simp at hlt)
        have hR := hAr.2 _ (List.getElem_mem hlt)
        obtain ⟨_, hxs⟩ := HF.out j hlt
        have c0 : wr.cell? ⟨g, o + j * 5, none⟩ = some (.int .i64 (l[j]).k) := hc j hlt 0 _ rfl
        have c1 := hc j hlt 1 _ rfl
        have c2 := hc j hlt 2 _ rfl
        have c3 := hc j hlt 3 _ rfl
        have c4 := hc j hlt 4 _ rfl
        have CD := do_is l[j] w.heap.size w.heap.size (w.heap.size + 1) N A' cap' wr hBo (by omega) hR hxs
        generalize l[j] = a at *
        dsimp only [ActD.vs] at CD
        have HAA := Lib.hid hA
        have HBR := Lib.hid hbr
        have hj1 : (j : Int) < l.length := by omega
        have hj0 : (0 : Int) ≤ (j : Int) := by omega
        clear hc hA hAr hBo hbo hbb hR CF hbr
        go_wp2_with (first | (go_at_call 9; refine CD.mono ?_; rintro e w3 ⟨rfl, ⟨N3, A3, cap3, hB3, hl3⟩, hb3⟩; (have HB3 := Lib.hid hB3); (have HBB3 := Lib.hid hb3); clear hB3 hb3) | (go_at_call 10; refine (same_is _ _ _ _ _ _ w3 HB3.out (by omega)).mono ?_; rintro e w4 ⟨rfl, hb4⟩))
        go_roundw
        case rel => exact ⟨j + 1, N3, A3, cap3, by omega, by go_num, HB3.out.below hb4, by omega, (HBR.out.trans HBB3.out).trans (hb4.mono HB3.out.hB)⟩
        case measure => simp [intOf]; omega
      · have HBR := Lib.hid hbr
        have hjl : j = l.length := by omega
        subst hjl
        clear hA hBo hbo hbb CF hbr
        go_wp2_with (go_at_call 7; refine (known_is _).mono ?_; rintro e w1 ⟨rfl, hb⟩)
        go_ret
        exact ⟨rfl, HBR.out.trans (hb.mono HBR.out.size)⟩
  · have CF := few_no l A cap 120 w.heap.size w hA hl (by omega) hf
    clear hA hf hl
    go_enter Try.func3, Try.ntmps3
    go_wp2_with (first | (go_at_call 6; refine CF.mono ?_; rintro e w' ⟨rfl, rfl⟩) | (go_at_call 7; refine (known_is w).mono ?_; rintro e w1 ⟨rfl, hb⟩))
    go_ret
    exact ⟨rfl, hb⟩
end Go.Proofs.Ytdfpbbkdlalpcaa
