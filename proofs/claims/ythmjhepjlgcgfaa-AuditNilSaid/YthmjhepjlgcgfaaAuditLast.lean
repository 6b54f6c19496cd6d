/- AuditLast, by a walk: true at each size, each row of records, each number, each goroutine. -/
import Derived.Test.YthmjhepjlgcgfaaAuditPlays
import Derived.Test.YthmjhepjlgcgfaaAuditClone
import Derived.Test.YthmjhepjlgcgfaaAuditBy
namespace Go.Proofs.Ythmjhepjlgcgfaa
open Go.RowKit
set_option linter.unusedVariables false
set_option linter.unusedSimpArgs false

theorem setP {w : World} {g o : Nat} {r : Rec} (h : RecAt w g o r) (t : Int) : RecAt (w.setCell ⟨g, o + 4, none⟩ (.int .i64 t)) g o { r with p := t } := by
  obtain ⟨h0, h1, h2, h3, h4, h5, h6, h7, h8, h9, h10, h11⟩ := h
  have e : ∀ j, j ≠ o + 4 → (w.setCell ⟨g, o + 4, none⟩ (.int .i64 t)).cell? ⟨g, j, none⟩ = w.cell? ⟨g, j, none⟩ := fun j hj => World.cell?_setCell_other _ _ _ _ (fun e => hj (by injection e with _ e2; exact e2.symm))
  have e1 : (w.setCell ⟨g, o + 4, none⟩ (.int .i64 t)).cell? ⟨g, o + 4, none⟩ = some (.int .i64 t) := World.cell?_setCell_same _ _ _ h4
  exact ⟨(e _ (by omega)).trans h0, (e _ (by omega)).trans h1, (e _ (by omega)).trans h2, (e _ (by omega)).trans h3, e1, (e _ (by omega)).trans h5, (e _ (by omega)).trans h6, (e _ (by omega)).trans h7, (e _ (by omega)).trans h8, (e _ (by omega)).trans h9, (e _ (by omega)).trans h10, (e _ (by omega)).trans h11⟩
theorem setP_other {w : World} {g i p : Nat} {r : Rec} (h : RecAt w g (i * 12) r) (hip : i ≠ p) (u : Value) : RecAt (w.setCell ⟨g, p * 12 + 4, none⟩ u) g (i * 12) r := by
  have e : ∀ j, j < 12 → (w.setCell ⟨g, p * 12 + 4, none⟩ u).cell? ⟨g, i * 12 + j, none⟩ = w.cell? ⟨g, i * 12 + j, none⟩ := fun j hj => World.cell?_setCell_other _ _ _ _ (fun e => by injection e with _ e2; omega)
  exact recAt_of fun j hj => (e j (by simpa [Rec.vs] using hj)).trans (rec_cell h j _ (by rw [List.getElem?_eq_getElem hj]))

theorem own_recs {w : World} {B cap : Nat} {A : Option Addr} {X : List Rec} (h : w.ownsRow B 42 12 (.slice A X.length cap) X.length (X.flatMap Rec.vs)) :
    X ≠ [] → ∃ g1, A = some ⟨g1, 0, none⟩ ∧ B ≤ g1 ∧ (∀ i (hi : i < X.length), RecAt w g1 (i * 12) (X[i]'hi)) ∧ ∀ o, w.frozen? ⟨g1, o, none⟩ = false := by
  intro hne
  obtain ⟨g1, o1, hA1, _, hr⟩ := rowAt_own h hne
  rcases h.2 with ⟨hv, h0⟩ | ⟨g2, cap2, cur, hv, hg2, hhg, _⟩
  · injection hv with hv1
    rw [hv1] at hA1
    cases hA1
  · injection hv with hv1
    rw [hv1] at hA1
    injection hA1 with hA2
    injection hA2 with hA3 hA4
    subst hA3
    subst hA4
    refine ⟨_, hv1, hg2, fun i hi => ?_, fun o => ?_⟩
    · have q := hr i hi
      rw [Nat.zero_add] at q
      exact q
    · simp [World.frozen?, hhg]

set_option maxRecDepth 100000 in
set_option maxHeartbeats 4000000 in
theorem last_walk (size : Int) (A : Option Addr) (cap : Nat) (l : List Rec) (z ga gb : Int) (w : World) (hl : l.length < 2 ^ 63) (hA : RowAt w w.heap.size A l) (hz1 : - 2 ^ 63 ≤ z) (hz2 : z < 2 ^ 63) :
    Calls Try.prog 5 #[.int .i64 size, .slice A l.length cap, .int .i64 z, .agg #[.int .i64 ga, .int .u64 gb]] w fun e w' => e = .returned (.bool true) ∧ Below w.heap.size w w' := by
  have hb0 := (Below.refl w.heap.size w).alloc (Nat.le_refl _) (.cells #[.int .i64 ga, .int .u64 gb] 36)
  have hblk0 : Blk (w.alloc (.cells #[.int .i64 ga, .int .u64 gb] 36)) w.heap.size 36 #[.int .i64 ga, .int .u64 gb] := Blk.new _ _ _
  have CM := much_is size A l.length cap 150 (w.alloc (.cells #[.int .i64 ga, .int .u64 gb] 36)) hl
  by_cases hm : ((decide (60 < size) && decide (size ≤ 256)) || decide (150 < (l.length : Int))) = true
  · rw [hm] at CM
    clear hm
    go_enter Try.func5, Try.ntmps5
    go_wp2_with fail
    refine CM.mono ?_
    rintro e w' ⟨rfl, rfl⟩
    go_wp2_with fail
    refine (known_is _).mono ?_
    rintro e w' ⟨rfl, hb⟩
    go_wp2
    go_ret
    exact ⟨rfl, hb0.trans (hb.mono hb0.size)⟩
  · have hmf := Bool.eq_false_iff.2 hm
    rw [hmf] at CM
    have hlen : l.length ≤ 150 := by
      simp only [Bool.or_eq_true, Bool.and_eq_true, decide_eq_true_eq, not_or] at hm
      omega
    clear hm hmf
    by_cases hs : size < 1 ∨ 256 < size
    · clear hA
      rcases (show size < 1 ∨ (¬ size < 1 ∧ 256 < size) from by omega) with h1 | ⟨h1, h2⟩
      all_goals
        clear hs
        go_enter Try.func5, Try.ntmps5
        go_wp2_with fail
        refine CM.mono ?_
        rintro e w' ⟨rfl, rfl⟩
        go_wp2_with (go_at_call 9; refine (known_is _).mono ?_; rintro e w' ⟨rfl, hb⟩)
        go_ret
        exact ⟨rfl, hb0.trans (hb.mono hb0.size)⟩
    · obtain ⟨n, rfl⟩ := Int.eq_ofNat_of_zero_le (show 0 ≤ size by omega)
      have hn1 : 1 ≤ n := by omega
      have hn2 : n ≤ 256 := by omega
      clear hs
      have CN := new_row n (w.alloc (.cells #[.int .i64 ga, .int .u64 gb] 36)) hn1 hn2
      have h1 : ¬ (n : Int) < 1 := by omega
      have h2 : ¬ 256 < (n : Int) := by omega
      go_enter Try.func5, Try.ntmps5
      go_wp2_with fail
      refine CM.mono ?_
      rintro e w' ⟨rfl, rfl⟩
      go_wp2_with fail
      refine CN.mono ?_
      rintro e w1 ⟨b, g, L, rfl, hR1, hb', hg', hB1'⟩
      have hB1 := hb0.trans (hB1'.mono hb0.size)
      have hb := Nat.le_trans hb0.size hb'
      have hg := Nat.le_trans hb0.size hg'
      have hx0 : w1.cell? ⟨w.heap.size, 0, none⟩ = some (.int .i64 ga) := (hB1'.cell (p := ⟨w.heap.size, 0, none⟩) (by simp)).trans (hblk0.cell 0)
      have hx1 : w1.cell? ⟨w.heap.size, 1, none⟩ = some (.int .u64 gb) := (hB1'.cell (p := ⟨w.heap.size, 1, none⟩) (by simp)).trans (hblk0.cell 1)
      have hbw1 : w.heap.size < b ∧ w.heap.size < g := by simp at hb' hg'; omega
      clear hB1' hb' hg'
      go_wp2
      have hBo := both_new hR1
      have hx0' : (w1.alloc (.cells #[.slice none 0 0, .int .i64 n] 31)).cell? ⟨w.heap.size, 0, none⟩ = some (.int .i64 ga) := (World.cell?_alloc_lt _ _ _ (World.block_lt_of_cell? _ _ hx0)).trans hx0
      have hx1' : (w1.alloc (.cells #[.slice none 0 0, .int .i64 n] 31)).cell? ⟨w.heap.size, 1, none⟩ = some (.int .u64 gb) := (World.cell?_alloc_lt _ _ _ (World.block_lt_of_cell? _ _ hx1)).trans hx1
      have hcw1 : w.heap.size < w1.heap.size := World.block_lt_of_cell? _ ⟨_, _, none⟩ hx0
      clear hx0 hx1
      have hb2 : Below w.heap.size w (w1.alloc (.cells #[.slice none 0 0, .int .i64 n] 31)) := hB1.alloc hB1.size _
      generalize w1.alloc (.cells #[.slice none 0 0, .int .i64 n] 31) = w2 at *
      have hbc : b ≠ w1.heap.size ∧ g ≠ w1.heap.size := ⟨by have := (ring_lt hR1).1; omega, by have := (ring_lt hR1).2; omega⟩
      have hcw : w.heap.size ≤ w1.heap.size := hB1.size
      generalize w1.heap.size = c at *
      clear hR1 hB1 CM CN hb0 hblk0
      go_loopw [12] (fun i wr => ∃ j : Nat, j ≤ l.length ∧ i = .int .i64 j ∧ Below w.heap.size w wr ∧ wr.cell? ⟨w.heap.size, 0, none⟩ = some (.int .i64 ga) ∧ wr.cell? ⟨w.heap.size, 1, none⟩ = some (.int .u64 gb) ∧ ∃ L' v' W, Both wr b g c (c + 1) n L' v' W ∧ W.length = j) (fun i _ => l.length - (intOf i).toNat)
      case atStart => exact ⟨0, Nat.zero_le _, rfl, hb2, hx0', hx1', L, _, [], hBo, rfl⟩
      case round =>
        obtain ⟨j, hj, rfl, hbr, hx0, hx1, L', v', W, hBr, hWj⟩ := hrel
        by_cases hlt : j < l.length
        · obtain ⟨g0, o0, rfl, hg0, hrec⟩ := hA (fun e => by rw [e] at hlt; simp at hlt)
          have hrj := (hrec j hlt).block (hbr.block g0 hg0)
          generalize l[j]'hlt = r at hrj
          obtain ⟨r0, r1, r2, r3, r4, r5, r6, r7, r8, r9, r10, r11⟩ := hrj
          have hj1 : (j : Int) < l.length := by omega
          have hj0 : (0 : Int) ≤ (j : Int) := by omega
          have HREC := Lib.hid hrec
          clear hrec hA hb2 hBo hx0' hx1'
          go_wp2_with fail
          refine (put_both b g c (c + 1) n L' v' W r wr hBr (by omega) hbc).mono ?_
          rintro e w4 ⟨rfl, ⟨L4, v4, hB4⟩, hA4⟩
          have hbw4 := hbr.trans (hA4.below hbr.size (fun k hk => by rcases hk with rfl | rfl | rfl; exact hb; exact hg; exact hcw))
          go_wp2
          go_roundw
          case rel => exact ⟨j + 1, by omega, by go_num, hbw4, (World.cell?_of_block (w := wr) (a := ⟨w.heap.size, 0, none⟩) (hA4.block w.heap.size (World.block_lt_of_cell? _ ⟨_, _, none⟩ hx0) (by omega))).trans hx0, (World.cell?_of_block (w := wr) (a := ⟨w.heap.size, 1, none⟩) (hA4.block w.heap.size (World.block_lt_of_cell? _ ⟨_, _, none⟩ hx0) (by omega))).trans hx1, L4, v4, _, hB4, by simp; omega⟩
          case measure => simp [intOf]; omega
        · have hjl : j = l.length := by omega
          clear hA hb2 hBo hx0' hx1'
          subst hjl
          obtain ⟨A5, cap5, hv5, hcap5⟩ := own_slice hBr.ref.own
          subst hv5
          have hWl := hWj
          have hWn : W.length - (W.length - n) = min W.length n := by omega
          have CT := there_row c n W.length cap5 A5 wr (hBr.ref.blk.cell 0) (hBr.ref.blk.cell 1) hn2 hBr.small hcap5
          have hrow5 := rowAt_cut (k := W.length - n) (rowAt_own hBr.ref.own) (by omega) hcap5
          have HAG := Lib.hid hBr.agree
          obtain ⟨D, hD⟩ : ∃ D, D = W.drop (W.length - n) := ⟨_, rfl⟩
          have CLast := fun w' (hh : Both w' b g c (c + 1) n L' (.slice A5 W.length cap5) W) => last_row b g n L' W.length z w' hh.ring hz2 hz1
          have CBy := fun w' (hh : Both w' b g c (c + 1) n L' (.slice A5 W.length cap5) W) => by_row b g n L' W.length ga gb w' hh.ring
          have CRBy := fun w' (hh : Both w' b g c (c + 1) n L' (.slice A5 W.length cap5) W) => refBy_row c n cap5 A5 W ga gb w' (hh.ref.blk.cell 0) (hh.ref.blk.cell 1) (rowAt_own hh.ref.own) hn2 hh.small hcap5
          simp only [HAG.out] at CLast CBy
          rw [← hD] at hrow5
          simp only [← hD] at CLast CBy CRBy
          have hDl : D.length = min W.length n := by rw [hD, List.length_drop]; exact hWn
          rw [hWn] at CT
          obtain ⟨K, hK⟩ : ∃ K, K = min W.length n := ⟨_, rfl⟩
          rw [← hK] at CT hDl
          simp only [← hK] at CLast
          have hK2 : K ≤ 256 := by omega
          obtain ⟨A', hA'⟩ : ∃ A', A' = (if cap5 = W.length - n then A5 else A5.map (·.add ((W.length - n) * 12))) := ⟨_, rfl⟩
          rw [← hA'] at hrow5 CT
          obtain ⟨cap', hcap'⟩ : ∃ cap', cap' = cap5 - (W.length - n) := ⟨_, rfl⟩
          have hKc : K ≤ cap' := by omega
          rw [← hcap'] at CT
          have HW := Lib.hid hWl
          have CSame := fun w' (hh : Both w' b g c (c + 1) n L' (.slice A5 W.length cap5) W) => same_row b g c (c + 1) n L' (.slice A5 W.length cap5) W w' hh
          clear hD hA' hcap' hWl hWj hWn HAG hK
          go_wp2_with fail
          refine CT.mono ?_
          rintro e w5 ⟨rfl, q5, hw5⟩
          have hb5 : Below wr.heap.size wr w5 := by rw [hw5]; exact below_drew _ _ _
          have hB5 := hBr.below hb5
          have hbw5 := hbr.trans (hb5.mono hbr.size)
          have hrow := hrow5.below hb5
          have hy0 := (hb5.cell (p := ⟨w.heap.size, 0, none⟩) (World.block_lt_of_cell? _ _ hx0)).trans hx0
          have hy1 := (hb5.cell (p := ⟨w.heap.size, 1, none⟩) (World.block_lt_of_cell? _ _ hx1)).trans hx1
          clear hw5 CT hrow5 hx0 hx1 hBr hbr
          have CL5 := CLast w5 hB5
          obtain ⟨f, hf⟩ : ∃ f, f = K - z.toNat := ⟨_, rfl⟩
          have hfK : f ≤ K := by omega
          have hm : min K z.toNat = K - f := by omega
          rw [← hf, hm] at CL5
          have hcut := rowAt_cut (cap := cap') (k := f) hrow (by omega) (by omega)
          have hX : (D.drop f).length = K - f := by rw [List.length_drop, hDl]
          generalize D.drop f = X at *
          obtain ⟨F, hF⟩ : ∃ F, F = D.filter (isG ga gb) := ⟨_, rfl⟩
          have hFl : F.length ≤ 256 := by rw [hF]; have := List.length_filter_le (isG ga gb) D; omega
          simp only [← hF] at CBy CRBy
          obtain ⟨d, hd⟩ : ∃ d, d = K - f := ⟨_, rfl⟩
          have hKf : K - f = d := hd.symm
          rw [← hd] at CL5 hX
          have hdK : d ≤ 256 := by omega
          have HDD := Lib.hid hd
          clear hF hd
          have CX : ∀ w' B1 B2 Aa Ab ca cb, RowAt w' B1 Aa X → RowAt w' B2 Ab X → Calls Try.prog 20 #[.slice Aa d ca, .slice Ab d cb] w' fun e w'' => e = .returned (.bool true) ∧ ∃ q, w'' = w'.drewN q := by
            intro w' B1 B2 Aa Ab ca cb r1 r2
            have q := refSame_row B1 B2 Aa Ab ca cb X X w' (by omega) (by omega) r1 r2
            rw [decide_eq_true rfl, hX] at q
            exact q
          have CF : ∀ w' B1 B2 Aa Ab ca cb, RowAt w' B1 Aa F → RowAt w' B2 Ab F → Calls Try.prog 20 #[.slice Aa F.length ca, .slice Ab F.length cb] w' fun e w'' => e = .returned (.bool true) ∧ ∃ q, w'' = w'.drewN q := by
            intro w' B1 B2 Aa Ab ca cb r1 r2
            have q := refSame_row B1 B2 Aa Ab ca cb F F w' (by omega) (by omega) r1 r2
            rw [decide_eq_true rfl] at q
            exact q
          have hz : (z < 0 ∧ f = K) ∨ (0 ≤ z ∧ (K : Int) - z ≤ 0 ∧ f = 0) ∨ (0 ≤ z ∧ 0 < (K : Int) - z ∧ (K : Int) - z = f) := by omega
          have hzm : z ≤ 9223372036854775807 ∧ -9223372036854775808 ≤ z := by omega
          have HM := Lib.hid hm
          have HF := Lib.hid hf
          clear hm hf hz1 hz2 CLast
          obtain ⟨w6, hw6⟩ : ∃ w6, w6 = w5 := ⟨_, rfl⟩
          have hcase : cap' = f ∨ ¬ cap' = f := by omega
          have hfi : (0 : Int) ≤ (f : Int) ∧ (f : Int) ≤ (K : Int) := by omega
          have hKi : (K : Int) ≤ (cap' : Int) := by omega
          have hmain : ∀ Q : Prop, (∀ f0 : Int, True → Q) → Q := fun _ h => h 0 trivial
          clear hmain hw6
          rcases hz with ⟨hz1, hz2⟩ | ⟨hz1, hz2, hz3⟩ | ⟨hz1, hz2, hz3⟩
          · obtain rfl : d = 0 := by have := HDD.out; omega
            subst hz2
            clear hKf
            go_wp2_with fail
            refine CL5.mono ?_
            rintro e w6 ⟨v6, rfl, ho6, hb6⟩
            obtain ⟨A6, cap6, rfl, hcap6⟩ := own_slice ho6
            have hB6 := hB5.below hb6
            have hbw6 := hbw5.trans (hb6.mono hbw5.size)
            have hwl5 : w.heap.size < w5.heap.size := World.block_lt_of_cell? _ ⟨_, _, none⟩ hy0
            have hx0 := (hb6.cell (p := ⟨w.heap.size, 0, none⟩) hwl5).trans hy0
            have hx1 := (hb6.cell (p := ⟨w.heap.size, 1, none⟩) hwl5).trans hy1
            have hR6 : RowAt w6 w6.heap.size A6 X := by rw [← hX] at ho6; exact rowAt_own ho6
            have hcut6 := hcut.below (hb6.mono (show wr.heap.size ≤ w5.heap.size from hb5.size))
            rcases hcase with hcase | hcase
            · rw [if_pos hcase] at hcut6
              go_wp2_with fail
              go_region_held3 (fun w' => w'.cell? ⟨w.heap.size, 0, none⟩ = some (.int .i64 ga) ∧ w'.cell? ⟨w.heap.size, 1, none⟩ = some (.int .u64 gb)) (go_keep) (first | (go_at_call 20; ((with_reducible refine (CX _ w6.heap.size wr.heap.size _ _ _ _ ?_ ?_).mono ?_); (exact hR6); (exact hcut6); rintro e w7 ⟨rfl, q7, hw7⟩; (have hb7 : Below w6.heap.size w6 w7 := by rw [hw7]; exact ⟨rfl, rfl, rfl, Nat.le_refl _, fun _ _ => rfl⟩); clear hw7; (have hB7 := hB6.below hb7); (have hwl6 : w.heap.size < w6.heap.size := Nat.lt_of_lt_of_le hwl5 hb6.size); (have hx07 := (hb7.cell (p := ⟨w.heap.size, 0, none⟩) hwl6).trans hx0); (have hx17 := (hb7.cell (p := ⟨w.heap.size, 1, none⟩) hwl6).trans hx1))) | (go_at_call 21; ((refine (CBy _ hB7).mono ?_); rintro e w8 ⟨v8, rfl, ho8, hb8⟩; (obtain ⟨A8, cap8, rfl, hcap8⟩ := own_slice ho8); (have hB8 := hB7.below hb8); (have hwl7 : w.heap.size < w7.heap.size := Nat.lt_of_lt_of_le hwl6 hb7.size); (have hx08 := (hb8.cell (p := ⟨w.heap.size, 0, none⟩) hwl7).trans hx07); (have hx18 := (hb8.cell (p := ⟨w.heap.size, 1, none⟩) hwl7).trans hx17))) | (go_at_call 22; ((refine (CRBy _ hB8).mono ?_); rintro e w9 ⟨v9, rfl, ho9, hb9⟩; (obtain ⟨A9, cap9, rfl, hcap9⟩ := own_slice ho9); (have hB9 := hB8.below hb9); (have hwl8 : w.heap.size < w8.heap.size := Nat.lt_of_lt_of_le hwl7 hb8.size); (have hx09 := (hb9.cell (p := ⟨w.heap.size, 0, none⟩) hwl8).trans hx08); (have hx19 := (hb9.cell (p := ⟨w.heap.size, 1, none⟩) hwl8).trans hx18))) | (go_at_call 20; ((refine (CF _ w8.heap.size w9.heap.size _ _ _ _ ((rowAt_own ho8).below hb9) (rowAt_own ho9)).mono ?_); rintro e w10 ⟨rfl, q10, hw10⟩; (have hb10 : Below w9.heap.size w9 w10 := by rw [hw10]; exact ⟨rfl, rfl, rfl, Nat.le_refl _, fun _ _ => rfl⟩); clear hw10; (have hwl9 : w.heap.size < w9.heap.size := Nat.lt_of_lt_of_le hwl8 hb9.size); (have hx010 := (hb10.cell (p := ⟨w.heap.size, 0, none⟩) hwl9).trans hx09); (have hx110 := (hb10.cell (p := ⟨w.heap.size, 1, none⟩) hwl9).trans hx19))))
              all_goals
                have hb610 := hb7.trans ((hb8.mono hb7.size).trans ((hb9.mono (Nat.le_trans hb7.size hb8.size)).trans (hb10.mono (Nat.le_trans hb7.size (Nat.le_trans hb8.size hb9.size)))))
                have hb510 : Below w5.heap.size w5 w10 := hb6.trans (hb610.mono hb6.size)
                have ho10 := below_own ho6 hb610
                rw [← hX] at ho10
                have hrow := own_recs ho10
                clear hb610 ho6 ho8 ho9 ho10 hb7 hb8 hb9 hb10 hB6 hB7 hB8 hB9 hx07 hx17 hx08 hx18 hx09 hx19 hx010 hx110 hcut hcut6 hR6 CX CF CBy CRBy hb6 hbw6 hx0 hx1 CL5 hcase hfi hKi hKc
                go_wp2
                go_loopw [16] (fun i wr => ∃ j : Nat, j ≤ 0 ∧ i = .int .i64 j ∧ Below w5.heap.size w5 wr ∧ ∃ X' : List Rec, X'.length = 0 ∧ (X' ≠ [] → ∃ g1, A6 = some ⟨g1, 0, none⟩ ∧ w5.heap.size ≤ g1 ∧ (∀ i (hi : i < X'.length), RecAt wr g1 (i * 12) (X'[i]'hi)) ∧ ∀ o, wr.frozen? ⟨g1, o, none⟩ = false)) (fun i _ => 0 - (intOf i).toNat)
                case atStart => exact ⟨0, Nat.zero_le _, rfl, hb510, X, hX, hrow⟩
                case round =>
                  obtain ⟨j, hj, rfl, hbr, X', hX', hrw⟩ := hrel
                  have hjK : j = 0 := by omega
                  subst hjK
                  have hr := hB5.below hbr
                  have hbw := hbw5.trans (hbr.mono hbw5.size)
                  clear hrw hrow
                  go_wp2_with fail
                  refine (CSame _ hr).mono ?_
                  rintro e w11 ⟨rfl, hb11⟩
                  go_wp2_with fail
                  refine (known_is _).mono ?_
                  rintro e w12 ⟨rfl, hb12⟩
                  go_wp2
                  go_ret
                  exact ⟨rfl, hbw.trans ((hb11.mono hbw.size).trans (hb12.mono (Nat.le_trans hbw.size hb11.size)))⟩
            · rw [if_neg hcase] at hcut6
              go_wp2_with fail
              go_region_held3 (fun w' => w'.cell? ⟨w.heap.size, 0, none⟩ = some (.int .i64 ga) ∧ w'.cell? ⟨w.heap.size, 1, none⟩ = some (.int .u64 gb)) (go_keep) (first | (go_at_call 20; ((with_reducible refine (CX _ w6.heap.size wr.heap.size _ _ _ _ ?_ ?_).mono ?_); (exact hR6); (exact hcut6); rintro e w7 ⟨rfl, q7, hw7⟩; (have hb7 : Below w6.heap.size w6 w7 := by rw [hw7]; exact ⟨rfl, rfl, rfl, Nat.le_refl _, fun _ _ => rfl⟩); clear hw7; (have hB7 := hB6.below hb7); (have hwl6 : w.heap.size < w6.heap.size := Nat.lt_of_lt_of_le hwl5 hb6.size); (have hx07 := (hb7.cell (p := ⟨w.heap.size, 0, none⟩) hwl6).trans hx0); (have hx17 := (hb7.cell (p := ⟨w.heap.size, 1, none⟩) hwl6).trans hx1))) | (go_at_call 21; ((refine (CBy _ hB7).mono ?_); rintro e w8 ⟨v8, rfl, ho8, hb8⟩; (obtain ⟨A8, cap8, rfl, hcap8⟩ := own_slice ho8); (have hB8 := hB7.below hb8); (have hwl7 : w.heap.size < w7.heap.size := Nat.lt_of_lt_of_le hwl6 hb7.size); (have hx08 := (hb8.cell (p := ⟨w.heap.size, 0, none⟩) hwl7).trans hx07); (have hx18 := (hb8.cell (p := ⟨w.heap.size, 1, none⟩) hwl7).trans hx17))) | (go_at_call 22; ((refine (CRBy _ hB8).mono ?_); rintro e w9 ⟨v9, rfl, ho9, hb9⟩; (obtain ⟨A9, cap9, rfl, hcap9⟩ := own_slice ho9); (have hB9 := hB8.below hb9); (have hwl8 : w.heap.size < w8.heap.size := Nat.lt_of_lt_of_le hwl7 hb8.size); (have hx09 := (hb9.cell (p := ⟨w.heap.size, 0, none⟩) hwl8).trans hx08); (have hx19 := (hb9.cell (p := ⟨w.heap.size, 1, none⟩) hwl8).trans hx18))) | (go_at_call 20; ((refine (CF _ w8.heap.size w9.heap.size _ _ _ _ ((rowAt_own ho8).below hb9) (rowAt_own ho9)).mono ?_); rintro e w10 ⟨rfl, q10, hw10⟩; (have hb10 : Below w9.heap.size w9 w10 := by rw [hw10]; exact ⟨rfl, rfl, rfl, Nat.le_refl _, fun _ _ => rfl⟩); clear hw10; (have hwl9 : w.heap.size < w9.heap.size := Nat.lt_of_lt_of_le hwl8 hb9.size); (have hx010 := (hb10.cell (p := ⟨w.heap.size, 0, none⟩) hwl9).trans hx09); (have hx110 := (hb10.cell (p := ⟨w.heap.size, 1, none⟩) hwl9).trans hx19))))
              all_goals
                have hb610 := hb7.trans ((hb8.mono hb7.size).trans ((hb9.mono (Nat.le_trans hb7.size hb8.size)).trans (hb10.mono (Nat.le_trans hb7.size (Nat.le_trans hb8.size hb9.size)))))
                have hb510 : Below w5.heap.size w5 w10 := hb6.trans (hb610.mono hb6.size)
                have ho10 := below_own ho6 hb610
                rw [← hX] at ho10
                have hrow := own_recs ho10
                clear hb610 ho6 ho8 ho9 ho10 hb7 hb8 hb9 hb10 hB6 hB7 hB8 hB9 hx07 hx17 hx08 hx18 hx09 hx19 hx010 hx110 hcut hcut6 hR6 CX CF CBy CRBy hb6 hbw6 hx0 hx1 CL5 hcase hfi hKi hKc
                go_wp2
                go_loopw [16] (fun i wr => ∃ j : Nat, j ≤ 0 ∧ i = .int .i64 j ∧ Below w5.heap.size w5 wr ∧ ∃ X' : List Rec, X'.length = 0 ∧ (X' ≠ [] → ∃ g1, A6 = some ⟨g1, 0, none⟩ ∧ w5.heap.size ≤ g1 ∧ (∀ i (hi : i < X'.length), RecAt wr g1 (i * 12) (X'[i]'hi)) ∧ ∀ o, wr.frozen? ⟨g1, o, none⟩ = false)) (fun i _ => 0 - (intOf i).toNat)
                case atStart => exact ⟨0, Nat.zero_le _, rfl, hb510, X, hX, hrow⟩
                case round =>
                  obtain ⟨j, hj, rfl, hbr, X', hX', hrw⟩ := hrel
                  have hjK : j = 0 := by omega
                  subst hjK
                  have hr := hB5.below hbr
                  have hbw := hbw5.trans (hbr.mono hbw5.size)
                  clear hrw hrow
                  go_wp2_with fail
                  refine (CSame _ hr).mono ?_
                  rintro e w11 ⟨rfl, hb11⟩
                  go_wp2_with fail
                  refine (known_is _).mono ?_
                  rintro e w12 ⟨rfl, hb12⟩
                  go_wp2
                  go_ret
                  exact ⟨rfl, hbw.trans ((hb11.mono hbw.size).trans (hb12.mono (Nat.le_trans hbw.size hb11.size)))⟩
          · obtain rfl : d = K := by have := HDD.out; omega
            subst hz3
            clear hKf
            have hz4 : (d : Int) - z = 0 ∨ (d : Int) - z < 0 := by omega
            clear hz2
            rcases hz4 with hz4 | hz4
            · go_wp2_with fail
              refine CL5.mono ?_
              rintro e w6 ⟨v6, rfl, ho6, hb6⟩
              obtain ⟨A6, cap6, rfl, hcap6⟩ := own_slice ho6
              have hB6 := hB5.below hb6
              have hbw6 := hbw5.trans (hb6.mono hbw5.size)
              have hwl5 : w.heap.size < w5.heap.size := World.block_lt_of_cell? _ ⟨_, _, none⟩ hy0
              have hx0 := (hb6.cell (p := ⟨w.heap.size, 0, none⟩) hwl5).trans hy0
              have hx1 := (hb6.cell (p := ⟨w.heap.size, 1, none⟩) hwl5).trans hy1
              have hR6 : RowAt w6 w6.heap.size A6 X := by rw [← hX] at ho6; exact rowAt_own ho6
              have hcut6 := hcut.below (hb6.mono (show wr.heap.size ≤ w5.heap.size from hb5.size))
              have ef : (if cap' = 0 then A' else A'.map (·.add (0 * 12))) = A' := by
                split
                · rfl
                · cases A' with
                  | none => rfl
                  | some a => simp [Addr.add]
              rw [ef] at hcut6
              clear ef
              go_wp2_with fail
              go_region_held3 (fun w' => w'.cell? ⟨w.heap.size, 0, none⟩ = some (.int .i64 ga) ∧ w'.cell? ⟨w.heap.size, 1, none⟩ = some (.int .u64 gb)) (go_keep) (first | (go_at_call 20; ((with_reducible refine (CX _ w6.heap.size wr.heap.size _ _ _ _ ?_ ?_).mono ?_); (exact hR6); (exact hcut6); rintro e w7 ⟨rfl, q7, hw7⟩; (have hb7 : Below w6.heap.size w6 w7 := by rw [hw7]; exact ⟨rfl, rfl, rfl, Nat.le_refl _, fun _ _ => rfl⟩); clear hw7; (have hB7 := hB6.below hb7); (have hwl6 : w.heap.size < w6.heap.size := Nat.lt_of_lt_of_le hwl5 hb6.size); (have hx07 := (hb7.cell (p := ⟨w.heap.size, 0, none⟩) hwl6).trans hx0); (have hx17 := (hb7.cell (p := ⟨w.heap.size, 1, none⟩) hwl6).trans hx1))) | (go_at_call 21; ((refine (CBy _ hB7).mono ?_); rintro e w8 ⟨v8, rfl, ho8, hb8⟩; (obtain ⟨A8, cap8, rfl, hcap8⟩ := own_slice ho8); (have hB8 := hB7.below hb8); (have hwl7 : w.heap.size < w7.heap.size := Nat.lt_of_lt_of_le hwl6 hb7.size); (have hx08 := (hb8.cell (p := ⟨w.heap.size, 0, none⟩) hwl7).trans hx07); (have hx18 := (hb8.cell (p := ⟨w.heap.size, 1, none⟩) hwl7).trans hx17))) | (go_at_call 22; ((refine (CRBy _ hB8).mono ?_); rintro e w9 ⟨v9, rfl, ho9, hb9⟩; (obtain ⟨A9, cap9, rfl, hcap9⟩ := own_slice ho9); (have hB9 := hB8.below hb9); (have hwl8 : w.heap.size < w8.heap.size := Nat.lt_of_lt_of_le hwl7 hb8.size); (have hx09 := (hb9.cell (p := ⟨w.heap.size, 0, none⟩) hwl8).trans hx08); (have hx19 := (hb9.cell (p := ⟨w.heap.size, 1, none⟩) hwl8).trans hx18))) | (go_at_call 20; ((refine (CF _ w8.heap.size w9.heap.size _ _ _ _ ((rowAt_own ho8).below hb9) (rowAt_own ho9)).mono ?_); rintro e w10 ⟨rfl, q10, hw10⟩; (have hb10 : Below w9.heap.size w9 w10 := by rw [hw10]; exact ⟨rfl, rfl, rfl, Nat.le_refl _, fun _ _ => rfl⟩); clear hw10; (have hwl9 : w.heap.size < w9.heap.size := Nat.lt_of_lt_of_le hwl8 hb9.size); (have hx010 := (hb10.cell (p := ⟨w.heap.size, 0, none⟩) hwl9).trans hx09); (have hx110 := (hb10.cell (p := ⟨w.heap.size, 1, none⟩) hwl9).trans hx19))))
              all_goals
                have hb610 := hb7.trans ((hb8.mono hb7.size).trans ((hb9.mono (Nat.le_trans hb7.size hb8.size)).trans (hb10.mono (Nat.le_trans hb7.size (Nat.le_trans hb8.size hb9.size)))))
                have hb510 : Below w5.heap.size w5 w10 := hb6.trans (hb610.mono hb6.size)
                have ho10 := below_own ho6 hb610
                rw [← hX] at ho10
                have hrow := own_recs ho10
                clear hb610 ho6 ho8 ho9 ho10 hb7 hb8 hb9 hb10 hB6 hB7 hB8 hB9 hx07 hx17 hx08 hx18 hx09 hx19 hx010 hx110 hcut hcut6 hR6 CX CF CBy CRBy hb6 hbw6 hx0 hx1 CL5 hcase hfi hKi hKc
                go_wp2
                go_loopw [16] (fun i wr => ∃ j : Nat, j ≤ d ∧ i = .int .i64 j ∧ Below w5.heap.size w5 wr ∧ ∃ X' : List Rec, X'.length = d ∧ (X' ≠ [] → ∃ g1, A6 = some ⟨g1, 0, none⟩ ∧ w5.heap.size ≤ g1 ∧ (∀ i (hi : i < X'.length), RecAt wr g1 (i * 12) (X'[i]'hi)) ∧ ∀ o, wr.frozen? ⟨g1, o, none⟩ = false)) (fun i _ => d - (intOf i).toNat)
                case atStart => exact ⟨0, Nat.zero_le _, rfl, hb510, X, hX, hrow⟩
                case round =>
                  obtain ⟨j, hj, rfl, hbr, X', hX', hrw⟩ := hrel
                  by_cases hlt : j < d
                  · obtain ⟨g1, rfl, hg1, hrec, hfz⟩ := hrw (fun e => by rw [e] at hX'; simp at hX'; omega)
                    have hjX : j < X'.length := by omega
                    obtain ⟨r0, r1, r2, r3, r4, _⟩ := hrec j hjX
                    have hjK : (j : Int) < d := by omega
                    have hj0 : (0 : Int) ≤ (j : Int) := by omega
                    have hf1 := hfz (j * 12 + 4)
                    have HREC := Lib.hid hrec
                    have HFZ := Lib.hid hfz
                    clear hrec hfz hrow
                    go_wp2
                    go_roundw
                    case rel =>
                      refine ⟨j + 1, by omega, by go_num, hbr.setCell hg1 _, X'.set j { (X'[j]'hjX) with p := wrap64 ((X'[j]'hjX).p + 1) }, by simpa using hX', fun _ => ⟨g1, rfl, hg1, fun i hi => ?_, fun o => by rw [World.frozen?_setCell]; exact HFZ.out o⟩⟩
                      rw [List.getElem_set]
                      by_cases hij : j = i
                      · subst hij
                        rw [if_pos rfl]
                        exact setP (HREC.out j hjX) _
                      · rw [if_neg hij]
                        exact setP_other (HREC.out i (by simpa using hi)) (fun e => hij e.symm) _
                    case measure => simp [intOf]; omega
                  · have hjK : j = d := by omega
                    subst hjK
                    have hr := hB5.below hbr
                    have hbw := hbw5.trans (hbr.mono hbw5.size)
                    clear hrw hrow
                    go_wp2_with fail
                    refine (CSame _ hr).mono ?_
                    rintro e w11 ⟨rfl, hb11⟩
                    go_wp2_with fail
                    refine (known_is _).mono ?_
                    rintro e w12 ⟨rfl, hb12⟩
                    go_wp2
                    go_ret
                    exact ⟨rfl, hbw.trans ((hb11.mono hbw.size).trans (hb12.mono (Nat.le_trans hbw.size hb11.size)))⟩
            · go_wp2_with fail
              refine CL5.mono ?_
              rintro e w6 ⟨v6, rfl, ho6, hb6⟩
              obtain ⟨A6, cap6, rfl, hcap6⟩ := own_slice ho6
              have hB6 := hB5.below hb6
              have hbw6 := hbw5.trans (hb6.mono hbw5.size)
              have hwl5 : w.heap.size < w5.heap.size := World.block_lt_of_cell? _ ⟨_, _, none⟩ hy0
              have hx0 := (hb6.cell (p := ⟨w.heap.size, 0, none⟩) hwl5).trans hy0
              have hx1 := (hb6.cell (p := ⟨w.heap.size, 1, none⟩) hwl5).trans hy1
              have hR6 : RowAt w6 w6.heap.size A6 X := by rw [← hX] at ho6; exact rowAt_own ho6
              have hcut6 := hcut.below (hb6.mono (show wr.heap.size ≤ w5.heap.size from hb5.size))
              have ef : (if cap' = 0 then A' else A'.map (·.add (0 * 12))) = A' := by
                split
                · rfl
                · cases A' with
                  | none => rfl
                  | some a => simp [Addr.add]
              rw [ef] at hcut6
              clear ef
              go_wp2_with fail
              go_region_held3 (fun w' => w'.cell? ⟨w.heap.size, 0, none⟩ = some (.int .i64 ga) ∧ w'.cell? ⟨w.heap.size, 1, none⟩ = some (.int .u64 gb)) (go_keep) (first | (go_at_call 20; ((with_reducible refine (CX _ w6.heap.size wr.heap.size _ _ _ _ ?_ ?_).mono ?_); (exact hR6); (exact hcut6); rintro e w7 ⟨rfl, q7, hw7⟩; (have hb7 : Below w6.heap.size w6 w7 := by rw [hw7]; exact ⟨rfl, rfl, rfl, Nat.le_refl _, fun _ _ => rfl⟩); clear hw7; (have hB7 := hB6.below hb7); (have hwl6 : w.heap.size < w6.heap.size := Nat.lt_of_lt_of_le hwl5 hb6.size); (have hx07 := (hb7.cell (p := ⟨w.heap.size, 0, none⟩) hwl6).trans hx0); (have hx17 := (hb7.cell (p := ⟨w.heap.size, 1, none⟩) hwl6).trans hx1))) | (go_at_call 21; ((refine (CBy _ hB7).mono ?_); rintro e w8 ⟨v8, rfl, ho8, hb8⟩; (obtain ⟨A8, cap8, rfl, hcap8⟩ := own_slice ho8); (have hB8 := hB7.below hb8); (have hwl7 : w.heap.size < w7.heap.size := Nat.lt_of_lt_of_le hwl6 hb7.size); (have hx08 := (hb8.cell (p := ⟨w.heap.size, 0, none⟩) hwl7).trans hx07); (have hx18 := (hb8.cell (p := ⟨w.heap.size, 1, none⟩) hwl7).trans hx17))) | (go_at_call 22; ((refine (CRBy _ hB8).mono ?_); rintro e w9 ⟨v9, rfl, ho9, hb9⟩; (obtain ⟨A9, cap9, rfl, hcap9⟩ := own_slice ho9); (have hB9 := hB8.below hb9); (have hwl8 : w.heap.size < w8.heap.size := Nat.lt_of_lt_of_le hwl7 hb8.size); (have hx09 := (hb9.cell (p := ⟨w.heap.size, 0, none⟩) hwl8).trans hx08); (have hx19 := (hb9.cell (p := ⟨w.heap.size, 1, none⟩) hwl8).trans hx18))) | (go_at_call 20; ((refine (CF _ w8.heap.size w9.heap.size _ _ _ _ ((rowAt_own ho8).below hb9) (rowAt_own ho9)).mono ?_); rintro e w10 ⟨rfl, q10, hw10⟩; (have hb10 : Below w9.heap.size w9 w10 := by rw [hw10]; exact ⟨rfl, rfl, rfl, Nat.le_refl _, fun _ _ => rfl⟩); clear hw10; (have hwl9 : w.heap.size < w9.heap.size := Nat.lt_of_lt_of_le hwl8 hb9.size); (have hx010 := (hb10.cell (p := ⟨w.heap.size, 0, none⟩) hwl9).trans hx09); (have hx110 := (hb10.cell (p := ⟨w.heap.size, 1, none⟩) hwl9).trans hx19))))
              all_goals
                have hb610 := hb7.trans ((hb8.mono hb7.size).trans ((hb9.mono (Nat.le_trans hb7.size hb8.size)).trans (hb10.mono (Nat.le_trans hb7.size (Nat.le_trans hb8.size hb9.size)))))
                have hb510 : Below w5.heap.size w5 w10 := hb6.trans (hb610.mono hb6.size)
                have ho10 := below_own ho6 hb610
                rw [← hX] at ho10
                have hrow := own_recs ho10
                clear hb610 ho6 ho8 ho9 ho10 hb7 hb8 hb9 hb10 hB6 hB7 hB8 hB9 hx07 hx17 hx08 hx18 hx09 hx19 hx010 hx110 hcut hcut6 hR6 CX CF CBy CRBy hb6 hbw6 hx0 hx1 CL5 hcase hfi hKi hKc
                go_wp2
                go_loopw [16] (fun i wr => ∃ j : Nat, j ≤ d ∧ i = .int .i64 j ∧ Below w5.heap.size w5 wr ∧ ∃ X' : List Rec, X'.length = d ∧ (X' ≠ [] → ∃ g1, A6 = some ⟨g1, 0, none⟩ ∧ w5.heap.size ≤ g1 ∧ (∀ i (hi : i < X'.length), RecAt wr g1 (i * 12) (X'[i]'hi)) ∧ ∀ o, wr.frozen? ⟨g1, o, none⟩ = false)) (fun i _ => d - (intOf i).toNat)
                case atStart => exact ⟨0, Nat.zero_le _, rfl, hb510, X, hX, hrow⟩
                case round =>
                  obtain ⟨j, hj, rfl, hbr, X', hX', hrw⟩ := hrel
                  by_cases hlt : j < d
                  · obtain ⟨g1, rfl, hg1, hrec, hfz⟩ := hrw (fun e => by rw [e] at hX'; simp at hX'; omega)
                    have hjX : j < X'.length := by omega
                    obtain ⟨r0, r1, r2, r3, r4, _⟩ := hrec j hjX
                    have hjK : (j : Int) < d := by omega
                    have hj0 : (0 : Int) ≤ (j : Int) := by omega
                    have hf1 := hfz (j * 12 + 4)
                    have HREC := Lib.hid hrec
                    have HFZ := Lib.hid hfz
                    clear hrec hfz hrow
                    go_wp2
                    go_roundw
                    case rel =>
                      refine ⟨j + 1, by omega, by go_num, hbr.setCell hg1 _, X'.set j { (X'[j]'hjX) with p := wrap64 ((X'[j]'hjX).p + 1) }, by simpa using hX', fun _ => ⟨g1, rfl, hg1, fun i hi => ?_, fun o => by rw [World.frozen?_setCell]; exact HFZ.out o⟩⟩
                      rw [List.getElem_set]
                      by_cases hij : j = i
                      · subst hij
                        rw [if_pos rfl]
                        exact setP (HREC.out j hjX) _
                      · rw [if_neg hij]
                        exact setP_other (HREC.out i (by simpa using hi)) (fun e => hij e.symm) _
                    case measure => simp [intOf]; omega
                  · have hjK : j = d := by omega
                    subst hjK
                    have hr := hB5.below hbr
                    have hbw := hbw5.trans (hbr.mono hbw5.size)
                    clear hrw hrow
                    go_wp2_with fail
                    refine (CSame _ hr).mono ?_
                    rintro e w11 ⟨rfl, hb11⟩
                    go_wp2_with fail
                    refine (known_is _).mono ?_
                    rintro e w12 ⟨rfl, hb12⟩
                    go_wp2
                    go_ret
                    exact ⟨rfl, hbw.trans ((hb11.mono hbw.size).trans (hb12.mono (Nat.le_trans hbw.size hb11.size)))⟩
          · go_wp2_with fail
            refine CL5.mono ?_
            rintro e w6 ⟨v6, rfl, ho6, hb6⟩
            obtain ⟨A6, cap6, rfl, hcap6⟩ := own_slice ho6
            have hB6 := hB5.below hb6
            have hbw6 := hbw5.trans (hb6.mono hbw5.size)
            have hwl5 : w.heap.size < w5.heap.size := World.block_lt_of_cell? _ ⟨_, _, none⟩ hy0
            have hx0 := (hb6.cell (p := ⟨w.heap.size, 0, none⟩) hwl5).trans hy0
            have hx1 := (hb6.cell (p := ⟨w.heap.size, 1, none⟩) hwl5).trans hy1
            have hR6 : RowAt w6 w6.heap.size A6 X := by rw [← hX] at ho6; exact rowAt_own ho6
            have hcut6 := hcut.below (hb6.mono (show wr.heap.size ≤ w5.heap.size from hb5.size))
            rcases hcase with hcase | hcase
            · rw [if_pos hcase] at hcut6
              go_wp2_with fail
              go_region_held3 (fun w' => w'.cell? ⟨w.heap.size, 0, none⟩ = some (.int .i64 ga) ∧ w'.cell? ⟨w.heap.size, 1, none⟩ = some (.int .u64 gb)) (go_keep) (first | (go_at_call 20; ((with_reducible refine (CX _ w6.heap.size wr.heap.size _ _ _ _ ?_ ?_).mono ?_); (exact hR6); (exact hcut6); rintro e w7 ⟨rfl, q7, hw7⟩; (have hb7 : Below w6.heap.size w6 w7 := by rw [hw7]; exact ⟨rfl, rfl, rfl, Nat.le_refl _, fun _ _ => rfl⟩); clear hw7; (have hB7 := hB6.below hb7); (have hwl6 : w.heap.size < w6.heap.size := Nat.lt_of_lt_of_le hwl5 hb6.size); (have hx07 := (hb7.cell (p := ⟨w.heap.size, 0, none⟩) hwl6).trans hx0); (have hx17 := (hb7.cell (p := ⟨w.heap.size, 1, none⟩) hwl6).trans hx1))) | (go_at_call 21; ((refine (CBy _ hB7).mono ?_); rintro e w8 ⟨v8, rfl, ho8, hb8⟩; (obtain ⟨A8, cap8, rfl, hcap8⟩ := own_slice ho8); (have hB8 := hB7.below hb8); (have hwl7 : w.heap.size < w7.heap.size := Nat.lt_of_lt_of_le hwl6 hb7.size); (have hx08 := (hb8.cell (p := ⟨w.heap.size, 0, none⟩) hwl7).trans hx07); (have hx18 := (hb8.cell (p := ⟨w.heap.size, 1, none⟩) hwl7).trans hx17))) | (go_at_call 22; ((refine (CRBy _ hB8).mono ?_); rintro e w9 ⟨v9, rfl, ho9, hb9⟩; (obtain ⟨A9, cap9, rfl, hcap9⟩ := own_slice ho9); (have hB9 := hB8.below hb9); (have hwl8 : w.heap.size < w8.heap.size := Nat.lt_of_lt_of_le hwl7 hb8.size); (have hx09 := (hb9.cell (p := ⟨w.heap.size, 0, none⟩) hwl8).trans hx08); (have hx19 := (hb9.cell (p := ⟨w.heap.size, 1, none⟩) hwl8).trans hx18))) | (go_at_call 20; ((refine (CF _ w8.heap.size w9.heap.size _ _ _ _ ((rowAt_own ho8).below hb9) (rowAt_own ho9)).mono ?_); rintro e w10 ⟨rfl, q10, hw10⟩; (have hb10 : Below w9.heap.size w9 w10 := by rw [hw10]; exact ⟨rfl, rfl, rfl, Nat.le_refl _, fun _ _ => rfl⟩); clear hw10; (have hwl9 : w.heap.size < w9.heap.size := Nat.lt_of_lt_of_le hwl8 hb9.size); (have hx010 := (hb10.cell (p := ⟨w.heap.size, 0, none⟩) hwl9).trans hx09); (have hx110 := (hb10.cell (p := ⟨w.heap.size, 1, none⟩) hwl9).trans hx19))))
              all_goals
                have hb610 := hb7.trans ((hb8.mono hb7.size).trans ((hb9.mono (Nat.le_trans hb7.size hb8.size)).trans (hb10.mono (Nat.le_trans hb7.size (Nat.le_trans hb8.size hb9.size)))))
                have hb510 : Below w5.heap.size w5 w10 := hb6.trans (hb610.mono hb6.size)
                have ho10 := below_own ho6 hb610
                rw [← hX] at ho10
                have hrow := own_recs ho10
                clear hb610 ho6 ho8 ho9 ho10 hb7 hb8 hb9 hb10 hB6 hB7 hB8 hB9 hx07 hx17 hx08 hx18 hx09 hx19 hx010 hx110 hcut hcut6 hR6 CX CF CBy CRBy hb6 hbw6 hx0 hx1 CL5 hcase hfi hKi hKc
                go_wp2
                go_loopw [16] (fun i wr => ∃ j : Nat, j ≤ d ∧ i = .int .i64 j ∧ Below w5.heap.size w5 wr ∧ ∃ X' : List Rec, X'.length = d ∧ (X' ≠ [] → ∃ g1, A6 = some ⟨g1, 0, none⟩ ∧ w5.heap.size ≤ g1 ∧ (∀ i (hi : i < X'.length), RecAt wr g1 (i * 12) (X'[i]'hi)) ∧ ∀ o, wr.frozen? ⟨g1, o, none⟩ = false)) (fun i _ => d - (intOf i).toNat)
                case atStart => exact ⟨0, Nat.zero_le _, rfl, hb510, X, hX, hrow⟩
                case round =>
                  obtain ⟨j, hj, rfl, hbr, X', hX', hrw⟩ := hrel
                  by_cases hlt : j < d
                  · obtain ⟨g1, rfl, hg1, hrec, hfz⟩ := hrw (fun e => by rw [e] at hX'; simp at hX'; omega)
                    have hjX : j < X'.length := by omega
                    obtain ⟨r0, r1, r2, r3, r4, _⟩ := hrec j hjX
                    have hjK : (j : Int) < d := by omega
                    have hj0 : (0 : Int) ≤ (j : Int) := by omega
                    have hf1 := hfz (j * 12 + 4)
                    have HREC := Lib.hid hrec
                    have HFZ := Lib.hid hfz
                    clear hrec hfz hrow
                    go_wp2
                    go_roundw
                    case rel =>
                      refine ⟨j + 1, by omega, by go_num, hbr.setCell hg1 _, X'.set j { (X'[j]'hjX) with p := wrap64 ((X'[j]'hjX).p + 1) }, by simpa using hX', fun _ => ⟨g1, rfl, hg1, fun i hi => ?_, fun o => by rw [World.frozen?_setCell]; exact HFZ.out o⟩⟩
                      rw [List.getElem_set]
                      by_cases hij : j = i
                      · subst hij
                        rw [if_pos rfl]
                        exact setP (HREC.out j hjX) _
                      · rw [if_neg hij]
                        exact setP_other (HREC.out i (by simpa using hi)) (fun e => hij e.symm) _
                    case measure => simp [intOf]; omega
                  · have hjK : j = d := by omega
                    subst hjK
                    have hr := hB5.below hbr
                    have hbw := hbw5.trans (hbr.mono hbw5.size)
                    clear hrw hrow
                    go_wp2_with fail
                    refine (CSame _ hr).mono ?_
                    rintro e w11 ⟨rfl, hb11⟩
                    go_wp2_with fail
                    refine (known_is _).mono ?_
                    rintro e w12 ⟨rfl, hb12⟩
                    go_wp2
                    go_ret
                    exact ⟨rfl, hbw.trans ((hb11.mono hbw.size).trans (hb12.mono (Nat.le_trans hbw.size hb11.size)))⟩
            · rw [if_neg hcase] at hcut6
              go_wp2_with fail
              go_region_held3 (fun w' => w'.cell? ⟨w.heap.size, 0, none⟩ = some (.int .i64 ga) ∧ w'.cell? ⟨w.heap.size, 1, none⟩ = some (.int .u64 gb)) (go_keep) (first | (go_at_call 20; ((with_reducible refine (CX _ w6.heap.size wr.heap.size _ _ _ _ ?_ ?_).mono ?_); (exact hR6); (exact hcut6); rintro e w7 ⟨rfl, q7, hw7⟩; (have hb7 : Below w6.heap.size w6 w7 := by rw [hw7]; exact ⟨rfl, rfl, rfl, Nat.le_refl _, fun _ _ => rfl⟩); clear hw7; (have hB7 := hB6.below hb7); (have hwl6 : w.heap.size < w6.heap.size := Nat.lt_of_lt_of_le hwl5 hb6.size); (have hx07 := (hb7.cell (p := ⟨w.heap.size, 0, none⟩) hwl6).trans hx0); (have hx17 := (hb7.cell (p := ⟨w.heap.size, 1, none⟩) hwl6).trans hx1))) | (go_at_call 21; ((refine (CBy _ hB7).mono ?_); rintro e w8 ⟨v8, rfl, ho8, hb8⟩; (obtain ⟨A8, cap8, rfl, hcap8⟩ := own_slice ho8); (have hB8 := hB7.below hb8); (have hwl7 : w.heap.size < w7.heap.size := Nat.lt_of_lt_of_le hwl6 hb7.size); (have hx08 := (hb8.cell (p := ⟨w.heap.size, 0, none⟩) hwl7).trans hx07); (have hx18 := (hb8.cell (p := ⟨w.heap.size, 1, none⟩) hwl7).trans hx17))) | (go_at_call 22; ((refine (CRBy _ hB8).mono ?_); rintro e w9 ⟨v9, rfl, ho9, hb9⟩; (obtain ⟨A9, cap9, rfl, hcap9⟩ := own_slice ho9); (have hB9 := hB8.below hb9); (have hwl8 : w.heap.size < w8.heap.size := Nat.lt_of_lt_of_le hwl7 hb8.size); (have hx09 := (hb9.cell (p := ⟨w.heap.size, 0, none⟩) hwl8).trans hx08); (have hx19 := (hb9.cell (p := ⟨w.heap.size, 1, none⟩) hwl8).trans hx18))) | (go_at_call 20; ((refine (CF _ w8.heap.size w9.heap.size _ _ _ _ ((rowAt_own ho8).below hb9) (rowAt_own ho9)).mono ?_); rintro e w10 ⟨rfl, q10, hw10⟩; (have hb10 : Below w9.heap.size w9 w10 := by rw [hw10]; exact ⟨rfl, rfl, rfl, Nat.le_refl _, fun _ _ => rfl⟩); clear hw10; (have hwl9 : w.heap.size < w9.heap.size := Nat.lt_of_lt_of_le hwl8 hb9.size); (have hx010 := (hb10.cell (p := ⟨w.heap.size, 0, none⟩) hwl9).trans hx09); (have hx110 := (hb10.cell (p := ⟨w.heap.size, 1, none⟩) hwl9).trans hx19))))
              all_goals
                have hb610 := hb7.trans ((hb8.mono hb7.size).trans ((hb9.mono (Nat.le_trans hb7.size hb8.size)).trans (hb10.mono (Nat.le_trans hb7.size (Nat.le_trans hb8.size hb9.size)))))
                have hb510 : Below w5.heap.size w5 w10 := hb6.trans (hb610.mono hb6.size)
                have ho10 := below_own ho6 hb610
                rw [← hX] at ho10
                have hrow := own_recs ho10
                clear hb610 ho6 ho8 ho9 ho10 hb7 hb8 hb9 hb10 hB6 hB7 hB8 hB9 hx07 hx17 hx08 hx18 hx09 hx19 hx010 hx110 hcut hcut6 hR6 CX CF CBy CRBy hb6 hbw6 hx0 hx1 CL5 hcase hfi hKi hKc
                go_wp2
                go_loopw [16] (fun i wr => ∃ j : Nat, j ≤ d ∧ i = .int .i64 j ∧ Below w5.heap.size w5 wr ∧ ∃ X' : List Rec, X'.length = d ∧ (X' ≠ [] → ∃ g1, A6 = some ⟨g1, 0, none⟩ ∧ w5.heap.size ≤ g1 ∧ (∀ i (hi : i < X'.length), RecAt wr g1 (i * 12) (X'[i]'hi)) ∧ ∀ o, wr.frozen? ⟨g1, o, none⟩ = false)) (fun i _ => d - (intOf i).toNat)
                case atStart => exact ⟨0, Nat.zero_le _, rfl, hb510, X, hX, hrow⟩
                case round =>
                  obtain ⟨j, hj, rfl, hbr, X', hX', hrw⟩ := hrel
                  by_cases hlt : j < d
                  · obtain ⟨g1, rfl, hg1, hrec, hfz⟩ := hrw (fun e => by rw [e] at hX'; simp at hX'; omega)
                    have hjX : j < X'.length := by omega
                    obtain ⟨r0, r1, r2, r3, r4, _⟩ := hrec j hjX
                    have hjK : (j : Int) < d := by omega
                    have hj0 : (0 : Int) ≤ (j : Int) := by omega
                    have hf1 := hfz (j * 12 + 4)
                    have HREC := Lib.hid hrec
                    have HFZ := Lib.hid hfz
                    clear hrec hfz hrow
                    go_wp2
                    go_roundw
                    case rel =>
                      refine ⟨j + 1, by omega, by go_num, hbr.setCell hg1 _, X'.set j { (X'[j]'hjX) with p := wrap64 ((X'[j]'hjX).p + 1) }, by simpa using hX', fun _ => ⟨g1, rfl, hg1, fun i hi => ?_, fun o => by rw [World.frozen?_setCell]; exact HFZ.out o⟩⟩
                      rw [List.getElem_set]
                      by_cases hij : j = i
                      · subst hij
                        rw [if_pos rfl]
                        exact setP (HREC.out j hjX) _
                      · rw [if_neg hij]
                        exact setP_other (HREC.out i (by simpa using hi)) (fun e => hij e.symm) _
                    case measure => simp [intOf]; omega
                  · have hjK : j = d := by omega
                    subst hjK
                    have hr := hB5.below hbr
                    have hbw := hbw5.trans (hbr.mono hbw5.size)
                    clear hrw hrow
                    go_wp2_with fail
                    refine (CSame _ hr).mono ?_
                    rintro e w11 ⟨rfl, hb11⟩
                    go_wp2_with fail
                    refine (known_is _).mono ?_
                    rintro e w12 ⟨rfl, hb12⟩
                    go_wp2
                    go_ret
                    exact ⟨rfl, hbw.trans ((hb11.mono hbw.size).trans (hb12.mono (Nat.le_trans hbw.size hb11.size)))⟩
end Go.Proofs.Ythmjhepjlgcgfaa
