/- code.Decode of a known operation, by walk: the loop over its argument letters. -/
import Derived.Test.YtnbkpminecoddaaDoorStepDecodeB
import Derived.Test.YtnbkpminecoddaaDoorIntMap
import Derived.LoopTactic
namespace Go.Proofs.YtnbkpminecoddaaDoor
open Go.RowKit
set_option linter.unusedVariables false
set_option linter.unusedSimpArgs false

/-- The register that an argument letter names. -/
def valR (a b c : Int) (l : Int) : Int := if l = 97 then a else if l = 98 then b else if l = 99 then c else 0
/-- Does a letter name a register that is not there. -/
def badArgs (s : ByteArray) (a b c : Int) : Bool := s.data.toList.any fun l => decide (8 ≤ valR a b c (l.toNat : Int))

theorem look_ins (a b c l : Int) : (look [(97, .int .u8 a), (98, .int .u8 b), (99, .int .u8 c)] l).getD (.int .u8 0) = .int .u8 (valR a b c l) := by
  unfold look valR
  by_cases h1 : l = 97
  · subst h1; rfl
  · by_cases h2 : l = 98
    · subst h2; rfl
    · by_cases h3 : l = 99
      · subst h3; rfl
      · have e1 : ((97 : Int) == l) = false := by simpa using fun e => h1 e.symm
        have e2 : ((98 : Int) == l) = false := by simpa using fun e => h2 e.symm
        have e3 : ((99 : Int) == l) = false := by simpa using fun e => h3 e.symm
        simp only [List.find?_cons, e1, e2, e3, List.find?_nil, Option.map_none, Option.getD_none, h1, h2, h3, if_false]
theorem bad_at {s : ByteArray} {a b c : Int} {k : Nat} (hk : k < s.size) (h : 8 ≤ valR a b c ((s[k]'hk).toNat : Int)) : badArgs s a b c = true :=
  List.any_eq_true.2 ⟨s[k]'hk, by
    rw [Array.mem_toList_iff]
    exact Array.getElem_mem _, by simpa using h⟩
theorem bad_not {s : ByteArray} {a b c : Int} (h : ∀ j (hj : j < s.size), valR a b c ((s[j]'hj).toNat : Int) < 8) : badArgs s a b c = false := by
  unfold badArgs
  rw [List.any_eq_false]
  intro x hx
  rw [Array.mem_toList_iff, Array.mem_iff_getElem] at hx
  obtain ⟨j, hj, rfl⟩ := hx
  have := h j hj
  simp only [decide_eq_true_eq, Int.not_le]
  exact this
theorem Blk.iterAt_ {w : World} {g : Nat} {t : TypeId} {cs : Array Value} (h : Blk w g t cs) {k : Nat} {s : ByteArray} {p : Nat} (hk : w.heap[k]? = some (.stringIter s p)) (p' : Nat) : Blk (w.iterAt k s p') g t cs := by
  have hkg : g ≠ k := by
    intro e1
    unfold Blk at h
    rw [e1, hk] at h
    cases h
  exact (Lib.iterAt_other w k g s p' hkg).trans h
theorem step_heap {x y : World} {m g : Nat} {o : Obj} (G : x.grownBy y (some m)) (h : x.heap[g]? = some o) (hne : g ≠ m) : y.heap[g]? = some o :=
  (G.block g (Array.getElem?_eq_some_iff.1 h).1 (fun e => hne (Option.some.inj e))).trans h
theorem fill_heap {wn x1 x2 x3 : World} (G1 : (wn.alloc (.map #[] 0)).grownBy x1 (some wn.heap.size)) (G2 : x1.grownBy x2 (some wn.heap.size)) (G3 : x2.grownBy x3 (some wn.heap.size)) {g : Nat} {o : Obj} (h : wn.heap[g]? = some o) : x3.heap[g]? = some o := by
  have lt := (Array.getElem?_eq_some_iff.1 h).1
  have ne : g ≠ wn.heap.size := Nat.ne_of_lt lt
  exact step_heap G3 (step_heap G2 (step_heap G1 ((Below.heap_alloc wn _ g lt).trans h) ne) ne) ne
theorem fill_below {w wn x1 x2 x3 : World} {B : Nat} (G1 : (wn.alloc (.map #[] 0)).grownBy x1 (some wn.heap.size)) (G2 : x1.grownBy x2 (some wn.heap.size)) (G3 : x2.grownBy x3 (some wn.heap.size)) (h : Below B w wn) (hB : B ≤ wn.heap.size) : Below B w x3 := by
  have h0 := h.alloc hB (.map #[] 0)
  have s0 : B ≤ (wn.alloc (.map #[] 0)).heap.size := by simp; omega
  have h1 := h0.grown G1 s0 (fun j e => by cases e; exact hB)
  have s1 := Nat.le_trans s0 G1.size
  have h2 := h1.grown G2 s1 (fun j e => by cases e; exact hB)
  have s2 := Nat.le_trans s1 G2.size
  exact h2.grown G3 s2 (fun j e => by cases e; exact hB)
theorem zero_u8 (w : World) : (zeroValue 5).run Tryd.prog w = .ok (.int .u8 0) w := by kernel_rfl

set_option maxRecDepth 100000 in
set_option maxHeartbeats 4000000 in
theorem decode_loop (g o n cap p : Nat) (k a b c : Int) (hn : n < 1000000000) (hcap : n ≤ cap) (hp : p < n / 4) (hk : 0 ≤ k) (hok : okOf k = true) (s : ByteArray) (hs : argsOf k = s) (hs8 : ∀ i (hi : i < s.size), (s[i]'hi).toNat < 128) (V : Value) (E : Int) (hV1 : badArgs s a b c = true → V = insV 0 0 0 0 ∧ E = 7) (hV0 : badArgs s a b c = false → V = insV k a b c ∧ E = 0) (w : World) (hg : g < w.heap.size)
    (x0 : w.cell? ⟨g, o + 4 * p, none⟩ = some (.int .u8 k)) (x1 : w.cell? ⟨g, o + 4 * p + 1, none⟩ = some (.int .u8 a)) (x2 : w.cell? ⟨g, o + 4 * p + 2, none⟩ = some (.int .u8 b)) (x3 : w.cell? ⟨g, o + 4 * p + 3, none⟩ = some (.int .u8 c)) :
    Calls Tryd.prog 10 #[.slice (some ⟨g, o, none⟩) n cap, .int .i64 p] w fun e w' => e = .returned (.tuple #[V, .int .i64 E]) ∧ Below w.heap.size w w' := by
  have SH := shape_is k hk
  rw [hok, hs] at SH
  have H8 := Lib.hid hs8
  have HV := Lib.hid (And.intro hV1 hV0)
  clear hs8 hs hV1 hV0
  have e1 : ¬ ((p : Int) < 0) := by omega
  have e2 : ((p : Int) == (n : Int) / 4) = false := by simp; omega
  have e3 : ¬ ((n : Int) / 4 ≤ (p : Int)) := by omega
  obtain ⟨q, hq⟩ : ∃ q, q = o + 4 * p := ⟨_, rfl⟩
  obtain ⟨L, hL⟩ : ∃ L, L = n - 4 * p := ⟨_, rfl⟩
  obtain ⟨C, hC⟩ : ∃ C, C = cap - 4 * p := ⟨_, rfl⟩
  rw [← hq] at x0 x1 x2 x3
  have l0 : 0 < L := by omega
  have l1 : (1 : Int) < (L : Int) := by omega
  have l2 : (2 : Int) < (L : Int) := by omega
  have l3 : (3 : Int) < (L : Int) := by omega
  have HQ := Lib.hid (And.intro hq (And.intro hL hC))
  have B1 := (Below.refl w.heap.size w).alloc (Nat.le_refl _) (.cells #[.int .u8 0, .int .u8 0, .int .u8 0, .int .u8 0] 26)
  have R1 := Blk.new w 26 #[.int .u8 0, .int .u8 0, .int .u8 0, .int .u8 0]
  have y0 := (B1.cell (p := ⟨g, q, none⟩) hg).trans x0
  have y1 := (B1.cell (p := ⟨g, q + 1, none⟩) hg).trans x1
  have y2 := (B1.cell (p := ⟨g, q + 2, none⟩) hg).trans x2
  have y3 := (B1.cell (p := ⟨g, q + 3, none⟩) hg).trans x3
  by_cases h4 : (n : Int) % 4 = 0
  all_goals
    go_enter Tryd.func10, Tryd.ntmps10
    go_wp2_with fail
    simp only [← hq, ← hL, ← hC]
    clear hq hL hC
    generalize w.alloc (.cells #[.int .u8 0, .int .u8 0, .int .u8 0, .int .u8 0] 26) = w1 at *
    go_region_held3 (fun w' => w'.cell? ⟨g, q, none⟩ = some (.int .u8 k) ∧ w'.cell? ⟨g, q + 1, none⟩ = some (.int .u8 a) ∧ w'.cell? ⟨g, q + 2, none⟩ = some (.int .u8 b) ∧ w'.cell? ⟨g, q + 3, none⟩ = some (.int .u8 c)) (go_keep) (fail)
    have hW := And.intro ((B1.alloc B1.size (.cells #[.int .u8 k, .int .u8 a, .int .u8 b, .int .u8 c] 26)).drew) (And.intro ((R1.alloc (.cells #[.int .u8 k, .int .u8 a, .int .u8 b, .int .u8 c] 26)).drew) (Blk.new w1 26 #[.int .u8 k, .int .u8 a, .int .u8 b, .int .u8 c]).drew)
    clear y0 y1 y2 y3 x0 x1 x2 x3
    have hlt : w1.heap.size < (w1.alloc (.cells #[.int .u8 k, .int .u8 a, .int .u8 b, .int .u8 c] 26)).drew.heap.size := hW.2.2.lt
    generalize (w1.alloc (.cells #[.int .u8 k, .int .u8 a, .int .u8 b, .int .u8 c] 26)).drew = w2 at *
    generalize w1.heap.size = ib at *
    obtain ⟨B2, R2, I2⟩ := hW
    have i0 := I2.cell 0
    simp only [List.getElem?_toArray, List.getElem?_cons_zero] at i0
    have R3 := Lib.hid R2
    have B3 := Lib.hid B2
    have I3 := Lib.hid I2
    have L3 := Lib.hid hlt
    clear R2 B2 R1 B1 I2 hlt
    go_wp2_with (go_at_call 22; refine (SH w2).mono ?_; rintro e w3 ⟨nm, rfl, hb3⟩; (have B4 := Lib.hid (And.intro (R3.out.below hb3 R3.out.lt) (And.intro (I3.out.below hb3 I3.out.lt) (B3.out.trans (hb3.mono B3.out.size))))); clear hb3)
    go_loopw [5] (fun v wr => v = .int .i64 0 ∧ ∃ j : Nat, j ≤ s.size ∧ wr.heap[w3.heap.size]? = some (.stringIter s j) ∧ Blk wr w.heap.size 26 #[.int .u8 0, .int .u8 0, .int .u8 0, .int .u8 0] ∧ Blk wr ib 26 #[.int .u8 k, .int .u8 a, .int .u8 b, .int .u8 c] ∧ Below w.heap.size w wr ∧ ∀ i (hi : i < s.size), i < j → valR a b c ((s[i]'hi).toNat : Int) < 8) (fun _ wr => s.size - wr.iterPos w3.heap.size)
    case atStart => exact ⟨rfl, 0, Nat.zero_le _, World.iter_heap _ _ _, B4.out.1.alloc _, B4.out.2.1.alloc _, B4.out.2.2.alloc B4.out.2.2.size _, fun i hi h0 => absurd h0 (Nat.not_lt_zero _)⟩
    case round =>
      obtain ⟨rfl, j, hj, hit, hR, hI, hB, hgood⟩ := hrel
      by_cases hlt : j < s.size
      · have hnx := fun ty => Lib.run_next_ascii_at (P := Tryd.prog) wr w3.heap.size s j ty hit hlt (H8.out j hlt)
        have hit2 := Lib.iterAt_heap wr w3.heap.size s j (j + 1) hit
        have hR2 := hR.iterAt_ hit (j + 1)
        have hI2 := hI.iterAt_ hit (j + 1)
        have hB2 := Lib.below_iterAt hB B4.out.2.2.size s (j + 1)
        have hm2 : (wr.iterAt w3.heap.size s (j + 1)).iterPos w3.heap.size = j + 1 := by unfold World.iterPos; rw [hit2]
        obtain ⟨wn, hwn⟩ : ∃ wn, wn = wr.iterAt w3.heap.size s (j + 1) := ⟨_, rfl⟩
        rw [← hwn] at hit2 hR2 hI2 hB2
        simp only [← hwn] at hnx
        have hpos : wr.iterPos w3.heap.size = j := by unfold World.iterPos; rw [hit]
        clear hwn hit hR hI hB hm2
        obtain ⟨l, hl⟩ : ∃ l : Int, l = ((s[j]'hlt).toNat : Int) := ⟨_, rfl⟩
        simp only [← hl] at hnx
        have hmm := @run_makeMap Tryd.prog
        have M0 : MapAt (wn.alloc (.map #[] 0)) wn.heap.size .i32 [] := MapAt.new wn .i32
        have hne : ib ≠ wn.heap.size := Nat.ne_of_lt hI2.lt
        have J0 := hI2.alloc (.map #[] 0)
        have c1 := J0.cell 1
        simp only [List.getElem?_toArray, List.getElem?_cons_zero, List.getElem?_cons_succ] at c1
        have HL := Lib.hid hl
        have HP := Lib.hid hpos
        have HK := Lib.hid (And.intro hit2 (And.intro hR2 (And.intro hI2 hB2)))
        have HG := Lib.hid hgood
        have J0 := Lib.hid J0
        have HN := Lib.hid hne
        clear hl hpos hit2 hR2 hI2 hB2 hgood hne
        by_cases hv : 8 ≤ valR a b c l
        all_goals
          go_wp2_with (first
            | (refine wpList_plain rfl fun K hK => ?_; refine wp_insert_int Tryd.underlying48 Tryd.underlying21 (.tmp 70) _ (.tmp 72) rfl (m := wn.heap.size) rfl rfl rfl M0 (by rfl) ?_; intro x1 M1 G1; simp only [List.nil_append] at M1; (have J1 : Blk x1 ib 26 _ := step_heap G1 J0.out HN.out); (have c2 := J1.cell 2); simp only [List.getElem?_toArray, List.getElem?_cons_zero, List.getElem?_cons_succ] at c2; refine hK _ _ ?_)
            | (refine wpList_plain rfl fun K hK => ?_; refine wp_insert_int Tryd.underlying48 Tryd.underlying21 (.tmp 70) _ (.tmp 74) rfl (m := wn.heap.size) rfl rfl rfl M1 (by rfl) ?_; intro x2 M2 G2; simp only [List.cons_append, List.nil_append] at M2; (have J2 : Blk x2 ib 26 _ := step_heap G2 J1 HN.out); (have c3 := J2.cell 3); simp only [List.getElem?_toArray, List.getElem?_cons_zero, List.getElem?_cons_succ] at c3; refine hK _ _ ?_)
            | (refine wpList_plain rfl fun K hK => ?_; refine wp_insert_int Tryd.underlying48 Tryd.underlying21 (.tmp 70) _ (.tmp 76) rfl (m := wn.heap.size) rfl rfl rfl M2 (by rfl) ?_; intro x3 M3 G3; simp only [List.cons_append, List.nil_append] at M3; (have M4 : MapAt x3 wn.heap.size .i32 [(97, .int .u8 a), (98, .int .u8 b), (99, .int .u8 c)] := M3); (have hlk : (Instr.lookup 48 (.map (some wn.heap.size)) (.int .i32 l) false).run Tryd.prog x3 = .ok (.int .u8 (valR a b c l)) x3 := by (have h := run_lookup_int Tryd.underlying48 Tryd.underlying21 M4 l false (.int .u8 0) (zero_u8 x3)); (rw [if_neg Bool.false_ne_true, look_ins] at h); exact h); (have R5 : Blk x3 w.heap.size 26 _ := fill_heap G1 G2 G3 HK.out.2.1); refine hK _ _ ?_)
            | (refine wpList_store_row (by exact rfl) 26 (.tmp 4) (.tmp 82) (by exact rfl) w.heap.size #[.int .u8 0, .int .u8 0, .int .u8 0, .int .u8 0] (by exact rfl) (by exact rfl) 26 _ R5 (by kernel_rfl) (by exact rfl) (by simp [Value.oneCell']) ?_))
        · have hb := bad_at (a := a) (b := b) (c := c) hlt (by rw [← HL.out]; exact hv)
          exact bodyPost_ret (results_ins (p := 4) (u := 5) (by kernel_rfl) _ _ rfl (Blk.put_ R5 _)) rfl ⟨by rw [(HV.out.1 hb).1, (HV.out.1 hb).2]; rfl, below_setRow (fill_below G1 G2 G3 HK.out.2.2.2 HK.out.2.2.2.size) (Nat.le_refl _) _⟩
        · go_roundw
          case rel =>
            exact ⟨rfl, j + 1, by omega, fill_heap G1 G2 G3 HK.out.1, R5, fill_heap G1 G2 G3 HK.out.2.2.1, fill_below G1 G2 G3 HK.out.2.2.2 HK.out.2.2.2.size, fun i hi h => by
              rcases Nat.lt_succ_iff_lt_or_eq.1 h with h | rfl
              · exact HG.out i hi h
              · rw [← HL.out]
                omega⟩
          case measure =>
            have e1 : x3.iterPos w3.heap.size = j + 1 := by unfold World.iterPos; rw [fill_heap G1 G2 G3 HK.out.1]
            have e2 := HP.out
            omega
      · have hjs : j = s.size := by omega
        have hnx := fun ty => Lib.run_next_end_at (P := Tryd.prog) wr w3.heap.size s j ty hit hlt
        have hb := bad_not (s := s) (a := a) (b := b) (c := c) (fun i hi => hgood i hi (by omega))
        have HX := Lib.hid (And.intro hb hB)
        clear hit hb hB hgood hjs
        go_wp2_with (first
          | (refine load_ins hI (by exact rfl) (.tmp 7) (by exact rfl) (by exact rfl) ?_)
          | (refine wpList_store_row (by exact rfl) 26 (.tmp 4) (.tmp 83) (by exact rfl) w.heap.size #[.int .u8 k, .int .u8 a, .int .u8 b, .int .u8 c] (by exact rfl) (by exact rfl) 26 _ hR (by kernel_rfl) (by exact rfl) (by simp [Value.oneCell']) ?_))
        exact bodyPost_ret (results_ins (p := 4) (u := 5) (by kernel_rfl) _ _ rfl (Blk.put_ hR _)) rfl ⟨by rw [(HV.out.2 HX.out.1).1, (HV.out.2 HX.out.1).2]; rfl, below_setRow HX.out.2 (Nat.le_refl _) _⟩
end Go.Proofs.YtnbkpminecoddaaDoor
