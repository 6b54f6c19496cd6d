/- slices.Equal at records, Same and Copy of rings that are there, Copy of the reference, by walks. -/
import Derived.Test.YthmjhepjlgcgfaaAuditBo
import Derived.Test.YthmjhepjlgcgfaaAuditLast
namespace Go.Proofs.Ythmjhepjlgcgfaa
open Go.RowKit
set_option linter.unusedVariables false
set_option linter.unusedSimpArgs false

set_option maxRecDepth 100000 in
set_option maxHeartbeats 2000000 in
theorem equal_loop (g1 o1 c1 g2 o2 c2 : Nat) (A B : List Rec) (w : World) (h1 : A.length ≤ 1000) (h0 : 0 < A.length)
    (hA : ∀ i (h : i < A.length), RecAt w g1 (o1 + i * 12) (A[i]'h)) (hB : ∀ i (h : i < B.length), RecAt w g2 (o2 + i * 12) (B[i]'h)) (hl : A.length = B.length) :
    Calls Try.prog 35 #[.slice (some ⟨g1, o1, none⟩) A.length c1, .slice (some ⟨g2, o2, none⟩) B.length c2] w fun e w' => e = .returned (.bool (decide (A = B))) ∧ ∃ n, w' = w.drewN n := by
  have HL := Lib.hid hl
  have hle : ((A.length : Int) != (B.length : Int)) = false := by rw [hl]; simp
  obtain ⟨res, hres⟩ : ∃ res, res = decide (A = B) := ⟨_, rfl⟩
  rw [← hres]
  have HRES := Lib.hid hres
  clear hl hres
  go_enter Try.func35, Try.ntmps35
  go_wp2
  go_loopw [13] (fun i wr => ∃ k : Nat, k ≤ A.length ∧ i = .int .i64 k ∧ (∃ n, wr = w.drewN n) ∧ A.take k = B.take k) (fun i _ => A.length - (intOf i).toNat)
  case atStart => exact ⟨0, Nat.zero_le _, rfl, ⟨0, rfl⟩, by simp⟩
  case round =>
    obtain ⟨k, hk, rfl, ⟨n, rfl⟩, htake⟩ := hrel
    have HT := Lib.hid htake
    clear htake
    by_cases hlt : k < A.length
    · have hlb : k < B.length := by rw [← HL.out]; exact hlt
      have ha := hA k hlt
      have hb := hB k hlb
      clear hA hB
      obtain ⟨x, hx⟩ : ∃ x, x = A[k]'hlt := ⟨_, rfl⟩
      obtain ⟨y, hy⟩ : ∃ y, y = B[k]'hlb := ⟨_, rfl⟩
      rw [← hx] at ha
      rw [← hy] at hb
      have HX := Lib.hid hx
      have HY := Lib.hid hy
      clear hx hy
      obtain ⟨a0, a1, a2, a3, a4, a5, a6, a7, a8, a9, a10, a11⟩ := ha
      obtain ⟨b0, b1, b2, b3, b4, b5, b6, b7, b8, b9, b10, b11⟩ := hb
      have hlt' : (k : Int) < A.length := by omega
      have hlb' : (k : Int) < B.length := by omega
      have hk0 : (0 : Int) ≤ (k : Int) := by omega
      by_cases hxy : x = y
      · have hq : ∀ w', (binOp .neq 42 (.agg #[.int .u64 x.sq, .int .u64 x.tm, .int .i64 x.gi, .int .u64 x.gg, .int .i64 x.p, .int .i64 x.kd, .int .u64 x.a0, .int .u64 x.a1, .int .u64 x.a2, .int .u64 x.a3, .int .u64 x.a4, .int .i64 x.cd]) (.agg #[.int .u64 y.sq, .int .u64 y.tm, .int .i64 y.gi, .int .u64 y.gg, .int .i64 y.p, .int .i64 y.kd, .int .u64 y.a0, .int .u64 y.a1, .int .u64 y.a2, .int .u64 y.a3, .int .u64 y.a4, .int .i64 y.cd])).run Try.prog w' = .ok (.bool false) w' := fun w' => by
          have := rec_neq x y w'
          rw [decide_eq_true hxy] at this
          exact this
        have HXY := Lib.hid hxy
        clear hxy
        go_wp2_with fail
        go_quiet (fail)
        go_wp2
        go_roundw
        case rel =>
          refine ⟨k + 1, by omega, by go_num, ⟨n + nq, by simp [World.drewN, Nat.add_assoc]⟩, ?_⟩
          rw [List.take_succ_eq_append_getElem hlt, List.take_succ_eq_append_getElem hlb, HT.out, ← HX.out, ← HY.out, HXY.out]
        case measure => simp [intOf]; omega
      · have hq : ∀ w', (binOp .neq 42 (.agg #[.int .u64 x.sq, .int .u64 x.tm, .int .i64 x.gi, .int .u64 x.gg, .int .i64 x.p, .int .i64 x.kd, .int .u64 x.a0, .int .u64 x.a1, .int .u64 x.a2, .int .u64 x.a3, .int .u64 x.a4, .int .i64 x.cd]) (.agg #[.int .u64 y.sq, .int .u64 y.tm, .int .i64 y.gi, .int .u64 y.gg, .int .i64 y.p, .int .i64 y.kd, .int .u64 y.a0, .int .u64 y.a1, .int .u64 y.a2, .int .u64 y.a3, .int .u64 y.a4, .int .i64 y.cd])).run Try.prog w' = .ok (.bool true) w' := fun w' => by
          have := rec_neq x y w'
          rw [decide_eq_false hxy] at this
          exact this
        have hr : res = false := by
          rw [HRES.out, decide_eq_false_iff_not]
          intro e
          apply hxy
          rw [HX.out, HY.out]
          subst e
          rfl
        have HXY := Lib.hid hxy
        clear hxy HRES
        subst hr
        go_wp2_with fail
        go_quiet (fail)
        go_wp2
        go_ret
        exact ⟨rfl, n + nq, by simp [World.drewN, Nat.add_assoc]⟩
    · have hkl : k = A.length := by omega
      have hr : res = true := by
        rw [HRES.out, decide_eq_true_iff]
        have q := HT.out
        rw [hkl, List.take_length, HL.out, List.take_length] at q
        exact q
      clear HRES
      subst hr
      subst hkl
      clear hA hB
      go_wp2
      go_ret
      exact ⟨rfl, n, rfl⟩

set_option maxRecDepth 100000 in
set_option maxHeartbeats 1000000 in
theorem equal_row (B1 B2 : Nat) (A1 A2 : Option Addr) (c1 c2 : Nat) (A B : List Rec) (w : World) (h1 : A.length ≤ 1000) (hB1 : B.length ≤ 1000) (hA : RowAt w B1 A1 A) (hB : RowAt w B2 A2 B) :
    Calls Try.prog 35 #[.slice A1 A.length c1, .slice A2 B.length c2] w fun e w' => e = .returned (.bool (decide (A = B))) ∧ ∃ n, w' = w.drewN n := by
  by_cases hl : A.length = B.length
  · by_cases h0 : 0 < A.length
    · obtain ⟨g1, o1, rfl, _, hr1⟩ := hA (fun e => by rw [e] at h0; simp at h0)
      obtain ⟨g2, o2, rfl, _, hr2⟩ := hB (fun e => by rw [hl, e] at h0; simp at h0)
      exact equal_loop g1 o1 c1 g2 o2 c2 A B w h1 h0 hr1 hr2 hl
    · have eA : A = [] := List.eq_nil_of_length_eq_zero (by omega)
      have eB : B = [] := List.eq_nil_of_length_eq_zero (by omega)
      subst eA
      subst eB
      clear hA hB
      rw [decide_eq_true rfl]
      go_enter Try.func35, Try.ntmps35
      go_wp2
      go_loopw [13] (fun i wr => i = .int .i64 0 ∧ wr = w) (fun i _ => 0)
      case atStart => exact ⟨rfl, rfl⟩
      case round =>
        obtain ⟨rfl, rfl⟩ := hrel
        go_wp2
        go_ret
        exact ⟨rfl, 0, rfl⟩
  · have hne : decide (A = B) = false := by rw [decide_eq_false_iff_not]; intro e; exact hl (by rw [e])
    rw [hne]
    have hle : ((A.length : Int) != (B.length : Int)) = true := by simp; omega
    clear hA hB hne hl
    go_enter Try.func35, Try.ntmps35
    go_wp2
    go_ret
    exact ⟨rfl, 0, rfl⟩

/-- What Same says of two rings. -/
def sameR (L L' : Nat → Rec) (n m n' m' : Nat) : Bool := decide (n = n') && decide (m - min m n = m' - min m' n') && decide (live L n m = live L' n' m')

set_option maxRecDepth 100000 in
set_option maxHeartbeats 2000000 in
theorem same_ring (b g n : Nat) (L : Nat → Rec) (m : Nat) (b' g' n' : Nat) (L' : Nat → Rec) (m' : Nat) (w : World) (h : Ring w b g n L m) (h' : Ring w b' g' n' L' m') :
    Calls Try.prog 25 #[.pointer (some ⟨b, 0, none⟩), .pointer (some ⟨b', 0, none⟩)] w fun e w' => e = .returned (.bool (sameR L L' n m n' m')) ∧ Below w.heap.size w w' := by
  have S1 := size_is b g n m w h.head h.lo h.hi
  have S2 := size_is b' g' n' m' w h'.head h'.lo h'.hi
  have K1 := lost_is b g n m w h.head h.lo h.hi (by have := h.seq; omega)
  have K2 := lost_is b' g' n' m' w h'.head h'.lo h'.hi (by have := h'.seq; omega)
  have A1 := all_row b g n L m w h (ring_lt h)
  have A2 := fun w' (hb : Below w.heap.size w w') => all_row b' g' n' L' m' w' (h'.below hb (ring_lt h').1 (ring_lt h').2) ⟨Nat.lt_of_lt_of_le (ring_lt h').1 hb.size, Nat.lt_of_lt_of_le (ring_lt h').2 hb.size⟩
  unfold sameR
  have l1 := live_len L n m
  have l2 := live_len L' n' m'
  have hx : min m n ≤ 256 := by have := h.hi; omega
  have hx' : min m' n' ≤ 256 := by have := h'.hi; omega
  rw [← l1] at A1 hx
  simp only [← l2] at A2
  rw [← l2] at hx'
  obtain ⟨y, hy⟩ : ∃ y, y = m - min m n := ⟨_, rfl⟩
  obtain ⟨y', hy'⟩ : ∃ y', y' = m' - min m' n' := ⟨_, rfl⟩
  rw [← hy] at K1 ⊢
  rw [← hy'] at K2 ⊢
  clear hy hy' l1 l2
  generalize live L n m = X at *
  generalize live L' n' m' = X' at *
  clear h h'
  by_cases hn : n = n'
  · rw [decide_eq_true hn, Bool.true_and]
    subst hn
    by_cases hz : y = y'
    · rw [decide_eq_true hz, Bool.true_and]
      subst hz
      obtain ⟨res, hres⟩ : ∃ res, res = decide (X = X') := ⟨_, rfl⟩
      rw [← hres]
      have HR := Lib.hid hres
      clear hres
      go_enter Try.func25, Try.ntmps25
      go_wp2_with fail
      refine S1.mono ?_
      rintro e w1 ⟨rfl, rfl⟩
      go_wp2_with fail
      refine S2.mono ?_
      rintro e w1 ⟨rfl, rfl⟩
      go_wp2_with fail
      refine K1.mono ?_
      rintro e w1 ⟨rfl, rfl⟩
      go_wp2_with fail
      refine K2.mono ?_
      rintro e w1 ⟨rfl, rfl⟩
      go_wp2_with fail
      refine A1.mono ?_
      rintro e w1 ⟨v1, rfl, ho1, hb1⟩
      obtain ⟨Ad, cap, rfl, hcap⟩ := own_slice ho1
      go_wp2_with fail
      refine (A2 _ hb1).mono ?_
      rintro e w2 ⟨v2, rfl, ho2, hb2⟩
      obtain ⟨Ad2, cap2, rfl, hcap2⟩ := own_slice ho2
      have q := equal_row w1.heap.size w2.heap.size Ad Ad2 cap cap2 X X' w2 (by omega) (by omega) ((rowAt_own ho1).below hb2) (rowAt_own ho2)
      rw [← HR.out] at q
      go_wp2_with fail
      refine q.mono ?_
      rintro e w3 ⟨rfl, k3, rfl⟩
      go_wp2
      go_ret
      exact ⟨rfl, hb1.trans ((hb2.mono hb1.size).trans (below_drew _ _ _))⟩
    · rw [decide_eq_false hz, Bool.false_and]
      have hyb : ((y : Int) == (y' : Int)) = false := by simp; omega
      clear hz
      go_enter Try.func25, Try.ntmps25
      go_wp2_with fail
      refine S1.mono ?_
      rintro e w1 ⟨rfl, rfl⟩
      go_wp2_with fail
      refine S2.mono ?_
      rintro e w1 ⟨rfl, rfl⟩
      go_wp2_with fail
      refine K1.mono ?_
      rintro e w1 ⟨rfl, rfl⟩
      go_wp2_with fail
      refine K2.mono ?_
      rintro e w1 ⟨rfl, rfl⟩
      go_wp2
      go_ret
      exact ⟨rfl, Below.refl _ _⟩
  · rw [decide_eq_false hn, Bool.false_and, Bool.false_and]
    have hnb : ((n : Int) == (n' : Int)) = false := by simp; omega
    clear hn
    go_enter Try.func25, Try.ntmps25
    go_wp2_with fail
    refine S1.mono ?_
    rintro e w1 ⟨rfl, rfl⟩
    go_wp2_with fail
    refine S2.mono ?_
    rintro e w1 ⟨rfl, rfl⟩
    go_wp2
    go_ret
    exact ⟨rfl, Below.refl _ _⟩

theorem ring_rows {w : World} {b g n m : Nat} {L : Nat → Rec} (h : Ring w b g n L m) : RowAt w w.heap.size (some ⟨g, 0, none⟩) ((List.range n).map L) := fun _ =>
  ⟨g, 0, rfl, (ring_lt h).2, fun i hi => by
    have hi' : i < n := by simpa using hi
    have q := h.at' i hi'
    simpa using q⟩

set_option maxRecDepth 100000 in
set_option maxHeartbeats 2000000 in
theorem copy_ring (b g n : Nat) (L : Nat → Rec) (m : Nat) (w : World) (h : Ring w b g n L m) :
    Calls Try.prog 23 #[.pointer (some ⟨b, 0, none⟩)] w fun e w' => ∃ b' g', e = .returned (.pointer (some ⟨b', 0, none⟩)) ∧ Ring w' b' g' n L m ∧ w.heap.size ≤ b' ∧ w.heap.size ≤ g' ∧ Below w.heap.size w w' := by
  have N1 := none_is b g n m w h.head h.lo h.hi
  have hrd := reads_rowAt (ring_rows h)
  have hlen : ((List.range n).map L).length = n := by simp
  rw [hlen] at hrd
  have hn2 := h.hi
  have hn1 := h.lo
  have hsq := h.seq
  obtain ⟨⟨kc, hs⟩, hq⟩ := h.head
  have CC := fun w' (hr : Reads w' w.heap.size 12 (some ⟨g, 0, none⟩) n (((List.range n).map L).flatMap Rec.vs)) (hz : w.heap.size ≤ w'.heap.size) => clone_row (some ⟨g, 0, none⟩) w.heap.size n kc _ w' hr (fun e => by cases e) hz (flat_one _) (by omega)
  have hRow := Lib.hid hlen
  clear hlen
  have hb : b < w.heap.size := (ring_lt h).1
  go_enter Try.func23, Try.ntmps23
  go_wp2_with fail
  refine N1.mono ?_
  rintro e w1 ⟨rfl, rfl⟩
  go_wp2_with fail
  go_region_held3 (fun w' => w'.cell? ⟨b, 0, none⟩ = some (.slice (some ⟨g, 0, none⟩) n kc) ∧ w'.cell? ⟨b, 1, none⟩ = some (.int .u64 m)) (go_keep) (first | (go_at_call 32; (refine (CC w.drew hrd (Nat.le_refl _)).mono ?_; rintro e w2 ⟨v, rfl, ho, hb2⟩; (have hrow : w2.ownsRow w.drew.heap.size 42 12 v ((List.range n).map L).length (((List.range n).map L).flatMap Rec.vs) := by rw [hRow.out]; exact ho); (obtain ⟨g', cap', rfl, hg', hg2⟩ := ho.form hn1); (have hx0 := (hb2.cell (p := ⟨b, 0, none⟩) hb).trans hs); (have hx1 := (hb2.cell (p := ⟨b, 1, none⟩) hb).trans hq))))
  all_goals
    rw [show (.slice (some ⟨g', 0, none⟩) n cap' : Value) = .slice (some ⟨g', 0, none⟩) ((List.range n).map L).length cap' from by rw [hRow.out]] at hrow
    obtain ⟨g3, hA3, hg3, hrec, hfz⟩ := own_recs hrow (fun e => by have := congrArg List.length e; rw [hRow.out] at this; simp at this; omega)
    have hgg : g' = g3 := by injection hA3 with h1; injection h1
    subst hgg
    go_wp2
    go_ret
    have hb3 := (Below.refl w2.heap.size w2).alloc (Nat.le_refl _) (.cells #[.slice (some ⟨g', 0, none⟩) n cap', .int .u64 m] 59)
    have hblk : Blk (w2.alloc (.cells #[.slice (some ⟨g', 0, none⟩) n cap', .int .u64 m] 59)) w2.heap.size 59 #[.slice (some ⟨g', 0, none⟩) n cap', .int .u64 m] := Blk.new _ _ _
    have hz : w.heap.size ≤ w2.heap.size := hb2.size
    refine ⟨_, rfl, g', ⟨⟨⟨cap', hblk.cell 0⟩, hblk.cell 1⟩, fun i hi => ?_, by omega, hn1, hn2, hsq, hblk.frozen, fun o => (hb3.frozen (p := ⟨g', o, none⟩) hg2).trans (hfz o)⟩, hz, hg3, ?_⟩
    · have q := (hrec i (by rw [hRow.out]; exact hi)).block (hb3.block g' hg2)
      simpa using q
    · exact (below_drew w w.heap.size 1).trans (hb2.trans (hb3.mono hz))

set_option maxHeartbeats 1000000 in
theorem refCopy_row (c : Nat) (v u : Value) (w : World) (h0 : w.cell? ⟨c, 0, none⟩ = some v) (h1 : w.cell? ⟨c, 1, none⟩ = some u) (hv : ∃ A n k, v = .slice A n k) (hu : ∃ z, u = .int .i64 z) :
    Calls Try.prog 24 #[.pointer (some ⟨c, 0, none⟩)] w fun e w' => e = .returned (.pointer (some ⟨w.heap.size, 0, none⟩)) ∧ Blk w' w.heap.size 31 #[v, u] ∧ Below w.heap.size w w' := by
  obtain ⟨A, n, k, rfl⟩ := hv
  obtain ⟨z, rfl⟩ := hu
  have hc : c < w.heap.size := World.block_lt_of_cell? w ⟨c, 0, none⟩ h0
  go_enter Try.func24, Try.ntmps24
  go_wp2_with fail
  go_region_held3 (fun w' => w'.cell? ⟨c, 0, none⟩ = some (.slice A n k) ∧ w'.cell? ⟨c, 1, none⟩ = some (.int .i64 z)) (go_keep) (fail)
  all_goals
    go_wp2
    go_ret
    refine ⟨rfl, ?_, ?_⟩
    · first | exact Blk.new w _ _ | exact Blk.new w.drew _ _
    · first | exact ((Below.refl w.heap.size w).alloc (Nat.le_refl _) _).drew | exact (Below.refl w.heap.size w).drew.alloc (Nat.le_refl _) _
end Go.Proofs.Ythmjhepjlgcgfaa
