/- The law's own known, by a walk. No condition. -/
import Derived.Test.YtdfpbbkdlalpcaaGloFew
namespace Go.Proofs.Ytdfpbbkdlalpcaa
open Go.RowKit
set_option linter.unusedVariables false
set_option linter.unusedSimpArgs false

theorem vals_erase (N : List (Nat × Int)) (i : Nat) : vals (N.eraseIdx i) = (vals N).eraseIdx i := by
  unfold vals
  rw [List.eraseIdx_eq_take_drop_succ, List.eraseIdx_eq_take_drop_succ, List.map_append, List.map_take, List.map_drop]
theorem hit_1 : Hit (mayB 0 [1, 2, 1, 3]) [1, 2, 3] 1 := ⟨by decide, by decide +kernel, fun j hj => by
  obtain rfl : j = 0 := by omega
  show mayB 0 [1, 2, 1, 3] 1 = false
  decide +kernel⟩
theorem hit_2 : Hit (mayB 0 [1, 2, 1, 3]) [1, 3] 1 := ⟨by decide, by decide +kernel, fun j hj => by
  obtain rfl : j = 0 := by omega
  show mayB 0 [1, 2, 1, 3] 1 = false
  decide +kernel⟩

theorem cells_row {w : World} {g : Nat} {t : TypeId} {cs : Array Value} (h : Blk w g t cs) (n : Nat) (hn : cs.size = n) : Reads w (g + 1) 1 (some ⟨g, 0, none⟩) n cs.toList :=
  ⟨by simpa using hn, fun _ => ⟨_, rfl, by simp, fun j u hu => by
    have e : ((⟨g, 0, none⟩ : Addr).add j) = ⟨g, j, none⟩ := by unfold Addr.add; split <;> simp_all
    rw [e, h.cell j]
    simpa using hu⟩⟩

theorem bl_erase {q : Nat} {N : List (Nat × Int)} {i k : Nat} (h : bl q (N.eraseIdx i) k) : bl q N k := by
  rcases h with rfl | ⟨j, hj, rfl⟩
  · exact .inl rfl
  · right
    by_cases hi : i < N.length
    · have hl : (N.eraseIdx i).length = N.length - 1 := List.length_eraseIdx_of_lt hi
      rw [List.getElem_eraseIdx]
      split
      · exact ⟨j, by omega, rfl⟩
      · exact ⟨j + 1, by omega, rfl⟩
    · rw [List.eraseIdx_of_length_le (by omega)] at hj
      refine ⟨j, hj, ?_⟩
      congr 2
      rw [List.eraseIdx_of_length_le (by omega)]

/-- Who is told by Take, as a number. -/
theorem take_at (p : Int) (aff : List Nat) (A : Option Addr) (cap B : Nat) (q i : Nat) (N : List (Nat × Int)) (w : World) (h : Qu w q N) (hn : N.length ≤ 100000)
    (hA : Bytes w B A aff) (hB : B ≤ w.heap.size) (hl : aff.length ≤ maxLen) (h8 : ∀ x ∈ aff, x < 256) (L : List Int) (hL : vals N = L) (hi : Hit (mayB p aff) L i) (y : Int) (hy : L[i]? = some y) :
    Calls Try.prog 13 #[.pointer (some ⟨q, 0, none⟩), .int .i64 p, .slice A aff.length cap] w fun e W' => e = .returned (.tuple #[.int .i64 y, .bool true]) ∧ Qu W' q (N.eraseIdx i) ∧ Apart (bl q N) w W' :=
  (take_hit p aff A cap B q i N w h hn hA hB hl h8 (hL ▸ hi)).mono fun e W' ⟨⟨hil, he⟩, hq, ha⟩ => by
    refine ⟨?_, hq, ha⟩
    rw [he]
    have e1 : (N[i]).2 = y := by
      rw [← hL] at hy
      unfold vals at hy
      rw [List.getElem?_map, List.getElem?_eq_getElem hil] at hy
      simpa using hy
    rw [e1]

set_option maxRecDepth 100000 in
set_option maxHeartbeats 2000000 in
theorem known_is (w : World) : Calls Try.prog 7 #[] w fun e w' => e = .returned (.bool true) ∧ Below w.heap.size w w' := by
  go_enter Try.func7, Try.ntmps7
  go_wp2_with fail
  refine (new_is w).mono ?_
  rintro e w1 ⟨rfl, rfl⟩
  go_wp2_with fail
  have hq0 := (qu_new w).below ((Below.refl _ _).alloc (Nat.le_refl _) (.cells #[.int .i64 1, .int .i64 2, .int .i64 3] 3))
  have hr0 := Blk.new (w.alloc (.cells #[.pointer none, .pointer none, .int .i64 0] 49)) 3 #[.int .i64 1, .int .i64 2, .int .i64 3]
  have hb0 : Below w.heap.size w ((w.alloc (.cells #[.pointer none, .pointer none, .int .i64 0] 49)).alloc (.cells #[.int .i64 1, .int .i64 2, .int .i64 3] 3)) := ((Below.refl _ w).alloc (Nat.le_refl _) _).alloc (by simp) _
  have hs0 : ((w.alloc (.cells #[.pointer none, .pointer none, .int .i64 0] 49)).alloc (.cells #[.int .i64 1, .int .i64 2, .int .i64 3] 3)).heap.size = w.heap.size + 1 + 1 := by simp
  rw [World.size_alloc] at hr0
  generalize (w.alloc (.cells #[.pointer none, .pointer none, .int .i64 0] 49)).alloc (.cells #[.int .i64 1, .int .i64 2, .int .i64 3] 3) = w2 at *
  have hI : Ints w2 (w.heap.size + 1 + 1) (some ⟨w.heap.size + 1, 0, none⟩) [1, 2, 3] := cells_row hr0 3 rfl
  refine (put_is w.heap.size [] [1, 2, 3] (some ⟨w.heap.size + 1, 0, none⟩) 3 (w.heap.size + 1 + 1) w2 hq0 (by simp) (by simp) hI (by omega) (fun ad he _ hbl => ?_)).mono ?_
  · injection he with he
    subst he
    rcases hbl with hbl | ⟨i, hi, _⟩
    · have : w.heap.size + 1 = w.heap.size := hbl
      omega
    · simp at hi
  rintro e w3 ⟨⟨v, rfl⟩, M, hM⟩
  have hq3 := hM.qu
  have hv3 : vals M = [1, 2, 3] := by rw [hM.vals]; rfl
  have hl3 : M.length = 3 := by rw [hM.len]; rfl
  have hlo : ∀ k, bl w.heap.size M k → w.heap.size ≤ k := fun k hk => by
    rcases coming_bl hM k hk with h1 | h1
    · rcases h1 with rfl | ⟨i, hi, _⟩
      · exact Nat.le_refl _
      · simp at hi
    · omega
  have hb3 : Below w.heap.size w w3 := hb0.trans (hM.apart.below (by omega) (fun k hk => by
    rcases hk with rfl | ⟨i, hi, _⟩
    · exact Nat.le_refl _
    · simp at hi))
  have H := Lib.hid (show Qu w3 w.heap.size M ∧ vals M = [1, 2, 3] ∧ M.length = 3 ∧ (∀ k, bl w.heap.size M k → w.heap.size ≤ k) ∧ Below w.heap.size w w3 from ⟨hq3, hv3, hl3, hlo, hb3⟩)
  clear hM hq3 hv3 hl3 hlo hb3 hq0 hr0 hb0 hI hs0
  go_wp2_with fail
  obtain ⟨hq3, hv3, hl3, hlo, hb3⟩ := H.out
  have hr4 := Blk.new w3 5 #[.int .u8 1, .int .u8 2, .int .u8 1, .int .u8 3]
  have hq4 := hq3.below ((Below.refl _ w3).alloc (Nat.le_refl _) (.cells #[.int .u8 1, .int .u8 2, .int .u8 1, .int .u8 3] 5))
  have hb4 : Below w.heap.size w (w3.alloc (.cells #[.int .u8 1, .int .u8 2, .int .u8 1, .int .u8 3] 5)) := hb3.alloc hb3.size _
  have hs4 : (w3.alloc (.cells #[.int .u8 1, .int .u8 2, .int .u8 1, .int .u8 3] 5)).heap.size = w3.heap.size + 1 := by simp
  generalize w3.alloc (.cells #[.int .u8 1, .int .u8 2, .int .u8 1, .int .u8 3] 5) = w4 at *
  have hI4 : Bytes w4 (w3.heap.size + 1) (some ⟨w3.heap.size, 0, none⟩) [1, 2, 1, 3] := cells_row hr4 4 rfl
  refine (take_at 0 [1, 2, 1, 3] (some ⟨w3.heap.size, 0, none⟩) 4 (w3.heap.size + 1) w.heap.size 1 M w4 hq4 (by omega) hI4 (by omega) (by decide) (by decide) [1, 2, 3] hv3 hit_1 2 rfl).mono ?_
  rintro e w5 ⟨rfl, hq5, ha5⟩
  have hb5 : Below w.heap.size w w5 := hb4.trans (ha5.below hb4.size hlo)
  have hv5 : vals (M.eraseIdx 1) = [1, 3] := by rw [vals_erase, hv3]; rfl
  have hl5 : (M.eraseIdx 1).length = 2 := by rw [List.length_eraseIdx_of_lt (by omega), hl3]
  have hlo5 : ∀ k, bl w.heap.size (M.eraseIdx 1) k → w.heap.size ≤ k := fun k hk => hlo k (bl_erase hk)
  generalize M.eraseIdx 1 = M' at *
  have H := Lib.hid (show Qu w5 w.heap.size M' ∧ vals M' = [1, 3] ∧ M'.length = 2 ∧ (∀ k, bl w.heap.size M' k → w.heap.size ≤ k) ∧ Below w.heap.size w w5 from ⟨hq5, hv5, hl5, hlo5, hb5⟩)
  clear hq5 hv5 hl5 hlo5 hb5 hq3 hv3 hl3 hlo hb3 hr4 hq4 hb4 hs4 hI4 ha5
  go_wp2_with fail
  obtain ⟨hq3, hv3, hl3, hlo, hb3⟩ := H.out
  have hr4 := Blk.new w5 5 #[.int .u8 1, .int .u8 2, .int .u8 1, .int .u8 3]
  have hq4 := hq3.below ((Below.refl _ w5).alloc (Nat.le_refl _) (.cells #[.int .u8 1, .int .u8 2, .int .u8 1, .int .u8 3] 5))
  have hb4 : Below w.heap.size w (w5.alloc (.cells #[.int .u8 1, .int .u8 2, .int .u8 1, .int .u8 3] 5)) := hb3.alloc hb3.size _
  have hs4 : (w5.alloc (.cells #[.int .u8 1, .int .u8 2, .int .u8 1, .int .u8 3] 5)).heap.size = w5.heap.size + 1 := by simp
  generalize w5.alloc (.cells #[.int .u8 1, .int .u8 2, .int .u8 1, .int .u8 3] 5) = w6 at *
  have hI4 : Bytes w6 (w5.heap.size + 1) (some ⟨w5.heap.size, 0, none⟩) [1, 2, 1, 3] := cells_row hr4 4 rfl
  refine (take_at 0 [1, 2, 1, 3] (some ⟨w5.heap.size, 0, none⟩) 4 (w5.heap.size + 1) w.heap.size 1 M' w6 hq4 (by omega) hI4 (by omega) (by decide) (by decide) [1, 3] hv3 hit_2 3 rfl).mono ?_
  rintro e w7 ⟨rfl, hq5, ha5⟩
  have hb5 : Below w.heap.size w w7 := hb4.trans (ha5.below hb4.size hlo)
  have hl5 : (M'.eraseIdx 1).length = 1 := by rw [List.length_eraseIdx_of_lt (by omega), hl3]
  have CL := len_is w.heap.size (M'.eraseIdx 1) w7 hq5
  rw [hl5] at CL
  have HB := Lib.hid hb5
  clear hq5 hl5 hb5 hq3 hv3 hl3 hlo hb3 hr4 hq4 hb4 hs4 hI4 ha5
  go_wp2_with (go_at_call 16; refine CL.mono ?_; rintro e w8 ⟨rfl, rfl⟩)
  go_ret
  exact ⟨rfl, HB.out⟩
end Go.Proofs.Ytdfpbbkdlalpcaa
