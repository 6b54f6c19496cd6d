/- Clone and Copy, by walks. -/
import Derived.Test.YtoigapnpmhogdaaCfOwn
import Derived.Deep.RegionLaw
namespace Go.Proofs.Ytoigapnpmhogdaa
open Go.RowKit
set_option linter.unusedVariables false
set_option linter.unusedSimpArgs false

theorem own_blk0 (w : World) (t : TypeId) : (w.alloc (.cells #[] t)).ownsRow w.heap.size t 1 (.slice (some ⟨w.heap.size, 0, none⟩) 0 0) 0 [] := World.ownsRow_made w #[] 0 (Nat.le_refl _) (Nat.zero_le _) rfl
theorem byte_one (l : List UInt8) : ∀ u ∈ l.map byteV, u.oneCell' = true := by intro u hu; obtain ⟨b, _, rfl⟩ := List.mem_map.1 hu; rfl

set_option maxHeartbeats 2000000 in
theorem clone_is (B : Nat) (A : Option Addr) (l : List UInt8) (cap : Nat) (w : World) (h : Reads w B 1 A l.length (l.map byteV)) (hB : B ≤ w.heap.size) (hn : A = none → l = [] ∧ cap = 0) (hl : l.length < 2 ^ 46) :
    Calls Try.prog 37 #[.slice A l.length cap] w fun e w' => ∃ v, e = .returned v ∧ w'.ownsRow w.heap.size 5 1 v l.length (l.map byteV) ∧ Below w.heap.size w w' := by
  obtain ⟨i0, hi0, hz0, hz1, hz2⟩ := info_parts infoU8
  have h1 := byte_one l
  have hown0 := own_blk0 w 5
  obtain ⟨n, hn0⟩ : ∃ n, n = l.length := ⟨_, rfl⟩
  obtain ⟨xs, hxs⟩ : ∃ xs, xs = l.map byteV := ⟨_, rfl⟩
  cases A with
  | none =>
    obtain ⟨rfl, rfl⟩ := hn rfl
    clear h1 hown0 h hn hxs hn0
    have hnil : ∀ w', (binOp .eql 43 (.slice none 0 0) (.slice none 0 0)).run Try.prog w' = .ok (.bool true) w' := fun w' => by
      rw [Lib.run_eql_slice_nil w' _ _ _ _ _ _ _ Try.underlying43]; rfl
    go_enter Try.func37, Try.ntmps37
    go_wp2
    go_ret
    exact ⟨_, rfl, World.ownsRow_nil _ _ _ _, Below.refl _ _⟩
  | some ad =>
    rw [← hxs] at h h1 ⊢
    rw [← hn0] at h hl ⊢
    clear hn hxs hn0
    have hnil : ∀ w', (binOp .eql 43 (.slice (some ad) n cap) (.slice none 0 0)).run Try.prog w' = .ok (.bool false) w' := fun w' => by
      rw [Lib.run_eql_slice_nil w' _ _ _ _ _ _ _ Try.underlying43]; rfl
    have HR := Lib.hid (h.alloc hB (.cells #[] 5))
    have H1 := Lib.hid h1
    clear h h1
    go_enter Try.func37, Try.ntmps37
    go_wp2_with (at_builtin; refine wpList_append_any _ rfl (.tmp 5) (.tmp 6) 43 rfl w.heap.size 5 i0 _ 1 1 Try.underlying43 hi0 hz0 hz1 hz2 rfl (by decide) (.slice (some ⟨w.heap.size, 0, none⟩) 0 0) 0 [] rfl hown0 B (some ad) n cap xs rfl HR.out H1.out (by unfold maxLen; omega) (by omega) (by simp) ?_; intro v1 w1 hown1 hg1 hat1)
    go_ret
    rw [Nat.zero_add, List.nil_append] at hown1
    exact ⟨v1, rfl, hown1, ((Below.refl _ w).alloc (Nat.le_refl _) _).grown hg1 (by simp) (fun j hj => by simp [Value.ownBlock] at hj; omega)⟩

/-- One more row, by a call and an append onto the rows. -/
theorem RowsIn.moreB {wr w1 w3 : World} {base : Nat} {v x1 : Value} {n : Nat} {xs : List Value} {L : List (List UInt8)} {x : List UInt8} {cs : Array Value} {t : TypeId} (h : RowsIn wr base xs L) (hown : wr.ownsRow base 43 1 v n xs) (hb : base ≤ wr.heap.size)
    (hz : Below wr.heap.size wr w1) (h1 : w1.ownsRow wr.heap.size 5 1 x1 x.length (x.map byteV)) (hg2 : (w1.alloc (.cells cs t)).grownBy w3 v.ownBlock) : RowsIn w3 base (xs ++ [x1]) (L ++ [x]) := by
  have o1 := (own_below hown hz).alloc (.cells cs t)
  have r1 := ((h.keep fun _ _ _ ho => (own_below ho hz).alloc (.cells cs t)).grown o1 hg2)
  exact r1.snoc (B := wr.heap.size) (fun j y hj k hk => (h.lt j y hj k hk).2) ((h1.alloc (.cells cs t)).kept hg2 (own_ne (h1.alloc _) o1 (by decide))) hb
theorem reads_one (w : World) (t : TypeId) (x : Value) : Reads (w.alloc (.cells #[x] t)) (w.heap.size + 1) 1 (some ⟨w.heap.size, 0, none⟩) 1 [x] :=
  ⟨rfl, fun _ => ⟨_, rfl, Nat.lt_succ_self _, fun j u hu => by
    have hj : j = 0 := by
      rcases Nat.eq_zero_or_pos j with e | e
      · exact e
      · rw [List.getElem?_eq_none (by rw [List.length_singleton]; exact e)] at hu; cases hu
    subst hj
    simp at hu
    subst hu
    exact (Blk.new w t #[x]).cell 0⟩⟩

set_option maxRecDepth 100000 in
set_option maxHeartbeats 8000000 in
theorem copy_is (c : Nat → Int) (A : Option Addr) (cap : Nat) (L : List (List UInt8)) (w : World) (h : PrAt w w.heap.size A L) (hl : L.length ≤ 40) (hl2 : ∀ x ∈ L, x.length ≤ 40000) :
    Calls Try.prog 26 #[.agg (cfV c (.slice A L.length cap))] w fun e w' => ∃ A' cap' xs, e = .returned (.agg (cfV c (.slice A' L.length cap'))) ∧ w'.ownsRow w.heap.size 43 1 (.slice A' L.length cap') L.length xs ∧ RowsIn w' w.heap.size xs L ∧ Below w.heap.size w w' := by
  obtain ⟨i1, hi1, hy0, hy1, hy2⟩ := info_parts infoRowU8
  obtain ⟨zz, hzz⟩ : ∃ z : Array Value, z = #[.int .i64 0, .int .i64 0, .int .i64 0, .int .i64 0, .int .i64 0, .int .i64 0, .int .i64 0, .int .i64 0, .int .i64 0, .int .i64 0, .int .u64 0, .int .u64 0, .int .u64 0, .int .u64 0, .slice none 0 0] := ⟨_, rfl⟩
  have hb2 := below2 w (.cells (cfV c (.slice none 0 0)) 25) (.cells zz 25)
  have B1 : Blk ((w.alloc (.cells (cfV c (.slice none 0 0)) 25)).alloc (.cells zz 25)) w.heap.size 25 (cfV c (.slice none 0 0)) := (Blk.new _ _ _).alloc _
  have B2 : Blk ((w.alloc (.cells (cfV c (.slice none 0 0)) 25)).alloc (.cells zz 25)) (w.heap.size + 1) 25 zz := new2 _ _ _ _
  have hs2 : ((w.alloc (.cells (cfV c (.slice none 0 0)) 25)).alloc (.cells zz 25)).heap.size = w.heap.size + 2 := by simp
  have H := Lib.hid h
  have HL2 := Lib.hid hl2
  clear h hl2
  obtain ⟨w2, hw2⟩ : ∃ w2, w2 = ((w.alloc (.cells (cfV c (.slice none 0 0)) 25)).alloc (.cells zz 25)) := ⟨_, rfl⟩
  rw [← hw2] at hb2 B1 B2 hs2
  obtain ⟨n, hn⟩ : ∃ n, n = L.length := ⟨_, rfl⟩
  rw [← hn] at hl ⊢
  have HN := Lib.hid hn
  rw [hzz] at hw2
  clear hn
  have HZ := Lib.hid hzz
  clear hzz
  unfold cfV at hw2
  go_enter Try.func26, Try.ntmps26
  unfold cfV
  go_wp2_with fail
  rw [← hw2]
  clear hw2
  go_loopw [11] (fun i wr => ∃ (k : Nat) (xs : List Value) (v : Value), k ≤ n ∧ i = .int .i64 k ∧ wr.ownsRow w2.heap.size 43 1 v k xs ∧ RowsIn wr w2.heap.size xs (L.take k) ∧ Below w.heap.size w wr ∧ w2.heap.size ≤ wr.heap.size ∧ Blk wr w.heap.size 25 (cfV c v) ∧ Blk wr (w.heap.size + 1) 25 zz) (fun i _ => n - (intOf i).toNat)
  case atStart => exact ⟨0, [], .slice none 0 0, Nat.zero_le _, rfl, World.ownsRow_nil _ _ _ _, RowsIn.none_ _ _, hb2, Nat.le_refl _, B1, B2⟩
  case round =>
    obtain ⟨k, xs, v, hk, rfl, hown, hrows, hbr, hsr, B1r, B2r⟩ := hrel
    obtain ⟨Av, cv, rfl, _, _⟩ := own_form hown
    have HR := Lib.hid hrows
    have hlb : w.heap.size < wr.heap.size := B1r.lt
    have X14 : wr.cell? ⟨w.heap.size, 14, none⟩ = some (.slice Av k cv) := (B1r.cell 14).trans (cfV_last c _)
    clear hrows
    by_cases hlt : k < n
    · have hkL : k < L.length := by rw [← HN.out]; exact hlt
      obtain ⟨g, o, rfl, hg, hr⟩ := (H.out.below hbr) (fun e => by rw [e] at hkL; simp at hkL)
      obtain ⟨Ai, ci, q1, q2, q3, q4⟩ := hr k hkL
      have hxl := HL2.out _ (List.getElem_mem hkL)
      have ht : Hid (L.take (k + 1) = L.take k ++ [L[k]'hkL]) := Lib.hid (by rw [List.take_add_one, List.getElem?_eq_getElem hkL]; rfl)
      obtain ⟨x, hx⟩ : ∃ x, x = L[k]'hkL := ⟨_, rfl⟩
      rw [← hx] at q1 q2 q3 q4 hxl ht
      have CC := clone_is w.heap.size Ai x ci wr.drew q3 (Nat.le_of_lt hlb) q4 (by omega)
      obtain ⟨xl, hxl0⟩ : ∃ n, n = x.length := ⟨_, rfl⟩
      rw [← hxl0] at q1 hxl CC
      have HXL := Lib.hid hxl0
      have HT := ht
      have HB1 := Lib.hid B1r
      have HB2 := Lib.hid B2r
      have HO := Lib.hid hown
      have F14 := B1r.frozen 14
      have hd : wr.drew.heap.size = wr.heap.size := rfl
      clear hx hr q2 q3 q4 hxl0 ht B1 B2 B1r B2r
      have hk0 : (0 : Int) ≤ (k : Int) := by omega
      have hk1 : (k : Int) < n := by omega
      go_wp2_with fail
      go_region_law (first | (refine step_append_any _ rfl (.tmp 16) (.tmp 19) 23 rfl w2.heap.size 43 i1 _ 1 24 Try.underlying23 hi1 hy0 hy1 hy2 rfl (by decide) (.slice Av k cv) k xs rfl (hown1'.alloc _) (w1.heap.size + 1) (some ⟨w1.heap.size, 0, none⟩) 1 1 [.slice A1 xl c1] rfl (reads_one _ _ _) (by simp [Value.oneCell']) (by unfold maxLen; omega) (by omega) (by have := hz.size; simp; omega) ?_; intro v2 w3 hown2 hg2 hat2; obtain ⟨A2, c2, rfl, h20, h2c⟩ := own_form hown2; clear h20 h2c hat2; (have hne1 : some w.heap.size ≠ (Value.slice Av k cv).ownBlock := fun e => by have := (hown1'.lt _ e.symm).1; omega); (have HB1a := Blk.below (w := wr.drew) HB1.out hz hlb); (have HB1b := (HB1a.alloc (.cells #[.slice A1 xl c1] 43)).grown hg2 hne1); (have hne2 : some (w.heap.size + 1) ≠ (Value.slice Av k cv).ownBlock := fun e => by have := (hown1'.lt _ e.symm).1; omega); (have HB2a := Blk.below (w := wr.drew) HB2.out hz (by have := HB2.out.lt; exact this)); (have HB2b := (HB2a.alloc (.cells #[.slice A1 xl c1] 43)).grown hg2 hne2); (have f14 := HB1b.frozen 14); (have x14 : w3.cell? ⟨w.heap.size, 14, none⟩ = some (.slice Av k cv) := (HB1b.cell 14).trans (cfV_last c _))) | (go_simp; go_at_call 37; refine CC.mono ?_; rintro e w1 ⟨v1, rfl, hown1, hz⟩; obtain ⟨A1, c1, rfl, h10, h1c⟩ := own_form hown1; clear h10 h1c; (have hown1' := own_below (w := wr.drew) HO.out hz); (have hbx1 := (hz.cell (p := ⟨w.heap.size, 14, none⟩) hlb).trans X14); (have hbx2 : (w1.alloc (.cells #[.slice A1 xl c1] 43)).cell? ⟨w.heap.size, 14, none⟩ = some (.slice Av k cv) := (((Blk.below (w := wr.drew) HB1.out hz hlb).alloc (.cells #[.slice A1 xl c1] 43)).cell 14).trans (cfV_last c _))))
      all_goals
        have hrl := RowsIn.moreB (wr := wr.drew) HR.out HO.out hsr hz (by rw [← HXL.out]; exact hown1) hg2
        have hfin : ∀ g, w2.heap.size ≤ g → g < w3.heap.size → (w3.setCell ⟨w.heap.size, 14, none⟩ (.slice A2 (k + 1) c2)).heap[g]? = w3.heap[g]? := fun g h1 h2 => Below.heap_setCell w3 _ _ g (by show g ≠ w.heap.size; omega)
        have hbr3 := (((hbr.drew.trans (hz.mono (Nat.le_of_lt hlb))).alloc (by have := hz.size; omega) (.cells #[.slice A1 xl c1] 43)).grown hg2 (by have := hz.size; simp; omega) (fun j hj => by have := (hown1'.lt j hj).1; omega)).setCell (p := ⟨w.heap.size, 14, none⟩) (Nat.le_refl _) (.slice A2 (k + 1) c2)
        have hsz3 : w2.heap.size ≤ (w3.setCell ⟨w.heap.size, 14, none⟩ (.slice A2 (k + 1) c2)).heap.size := by
          have h1 := hz.size
          have h2 := hg2.size
          have h3 : (w3.setCell ⟨w.heap.size, 14, none⟩ (.slice A2 (k + 1) c2)).heap.size = w3.heap.size := by simp [World.setCell]
          have h4 : (w1.alloc (.cells #[.slice A1 xl c1] 43)).heap.size = w1.heap.size + 1 := by simp
          omega
        go_wp2_with fail
        go_roundw
        case rel => exact ⟨k + 1, xs ++ [.slice A1 xl c1], .slice A2 (k + 1) c2, by omega, by go_num, own_far hown2 hfin, by rw [HT.out]; exact hrl.keep fun _ _ _ ho => own_far ho hfin, hbr3, hsz3, HB1b.set_ 14 (.slice A2 (k + 1) c2), HB2b.far (p := ⟨w.heap.size, 14, none⟩) (by show w.heap.size + 1 ≠ w.heap.size; omega) _⟩
        case measure => simp [intOf]; omega
    · obtain rfl : k = n := by omega
      have hrows : RowsIn wr w2.heap.size xs L := by have := HR.out; rwa [List.take_of_length_le (by rw [HN.out]; exact Nat.le_refl _)] at this
      have HRW := Lib.hid hrows
      obtain ⟨y0, y1, y2, y3, y4, y5, y6, y7, y8, y9, y10, y11, y12, y13, y14⟩ := cells15 B1r
      have B2s := B2r
      rw [HZ.out] at B2s
      have E2 := B2s.put_ (cfV c (.slice Av k cv))
      clear HR hrows HN H HL2 hlt hk
      go_wp2_with (refine wpList_store_row rfl 25 (.tmp 2) (.tmp 23) rfl (w.heap.size + 1) (cfV c (.slice Av k cv)) rfl rfl 25 _ B2s (by kernel_rfl) rfl (by simp [cfV, Value.oneCell']) ?_)
      have hfin : ∀ g, w2.heap.size ≤ g → g < wr.heap.size → (wr.setRow (w.heap.size + 1) (cfV c (.slice Av k cv))).heap[g]? = wr.heap[g]? := fun g h1 h2 => setRow_other _ _ g _ (by omega)
      have hbf := below_setRow hbr (g := w.heap.size + 1) (by omega) (cfV c (.slice Av k cv))
      obtain ⟨d, hu1, hu2⟩ := underCf
      exact bodyPost_ret (results_cell_row (P := Try.prog) rfl _ _ (w.heap.size + 1) 25 _ (0, 0) d rfl E2 hu1 (by cases d <;> first | rfl | exact absurd hu2 Bool.false_ne_true) (by kernel_rfl)) rfl ⟨Av, cv, xs, rfl, own_base (own_far hown hfin) (by omega), (HRW.out.keep fun _ _ _ ho => own_far ho hfin).base (by omega), hbf⟩
end Go.Proofs.Ytoigapnpmhogdaa
