/- By of a ring that is there, and of the reference, by walks: those of one goroutine. -/
import Derived.Test.YthmjhepjlgcgfaaAuditKnown
namespace Go.Proofs.Ythmjhepjlgcgfaa
open Go.RowKit
set_option linter.unusedVariables false
set_option linter.unusedSimpArgs false

/-- Is a record of a goroutine? -/
def isG (a b : Int) (r : Rec) : Bool := decide (r.gi = a ∧ r.gg = b)

set_option maxHeartbeats 1000000 in
theorem by1_is (r : Rec) (bx : Nat) (a b : Int) (w : World) (h0 : w.cell? ⟨bx, 0, none⟩ = some (.int .i64 a)) (h1 : w.cell? ⟨bx, 1, none⟩ = some (.int .u64 b)) :
    Calls Try.prog 34 #[.agg #[.int .u64 r.sq, .int .u64 r.tm, .int .i64 r.gi, .int .u64 r.gg, .int .i64 r.p, .int .i64 r.kd, .int .u64 r.a0, .int .u64 r.a1, .int .u64 r.a2, .int .u64 r.a3, .int .u64 r.a4, .int .i64 r.cd], .pointer (some ⟨bx, 0, none⟩)] w fun e w' => e = .returned (.bool (isG a b r)) ∧ w.heap.size < w'.heap.size ∧ Below w.heap.size w w' := by
  have hq : ∀ w', (binOp .eql 36 (.agg #[.int .i64 r.gi, .int .u64 r.gg]) (.agg #[.int .i64 a, .int .u64 b])).run Try.prog w' = .ok (.bool (isG a b r)) w' := fun w' => ref_eql _ _ _ _ w'
  generalize isG a b r = res at *
  have hlt : bx < w.heap.size := World.block_lt_of_cell? w ⟨bx, 0, none⟩ h0
  go_enter Try.func34, Try.ntmps34
  go_wp2
  go_ret
  refine ⟨rfl, by simp, ?_⟩
  exact (Below.refl _ w).alloc (by omega) _

set_option maxRecDepth 100000 in
set_option maxHeartbeats 2000000 in
theorem pickBy_row (b g n : Nat) (L : Nat → Rec) (m : Nat) (bx : Nat) (ga gb : Int) (w : World) (h : Ring w b g n L m) (hbg : b < w.heap.size ∧ g < w.heap.size) (hx0 : w.cell? ⟨bx, 0, none⟩ = some (.int .i64 ga)) (hx1 : w.cell? ⟨bx, 1, none⟩ = some (.int .u64 gb)) :
    Calls Try.prog 33 #[.pointer (some ⟨b, 0, none⟩), .func (.func 34) #[] #[.pointer (some ⟨bx, 0, none⟩)]] w fun e w' => ∃ v, e = .returned v ∧ w'.ownsRow w.heap.size 42 12 v ((live L n m).filter (isG ga gb)).length (((live L n m).filter (isG ga gb)).flatMap Rec.vs) ∧ Below w.heap.size w w' := by
  obtain ⟨hh, hat, hne, hlo, hhi, hseq, hfrb, hfrg⟩ := h
  have hbx : bx < w.heap.size := World.block_lt_of_cell? w ⟨bx, 0, none⟩ hx0
  obtain ⟨i0, hi, hz0, hz1, hz2⟩ := info_parts infoRec
  have CL := lost_is b g n m w hh hlo hhi (by omega)
  have CN := len_is b g n m w hh hlo hhi (by omega)
  have hx : min m n ≤ m ∧ min m n ≤ n := by omega
  unfold live
  generalize min m n = x at *
  obtain ⟨hxm, hxn⟩ := hx
  obtain ⟨y, hye, hy⟩ : ∃ y, m - x = y ∧ y < 2 ^ 62 := ⟨_, rfl, by omega⟩
  simp only [hye] at CL CN ⊢
  clear hye
  obtain ⟨⟨kc, hs⟩, hq⟩ := hh
  go_enter Try.func33, Try.ntmps33
  go_wp2_with fail
  refine CL.mono ?_
  rintro e w1 ⟨rfl, rfl⟩
  go_wp2_with fail
  refine CN.mono ?_
  rintro e w1 ⟨rfl, rfl⟩
  go_wp2
  go_loopw [4, 13] (fun v i wr => ∃ k : Nat, k ≤ x ∧ i = .int .i64 k ∧ wr.ownsRow w.heap.size 42 12 v ((((List.range k).map fun i => L ((y + 1 + i) % n)).filter (isG ga gb))).length (((((List.range k).map fun i => L ((y + 1 + i) % n)).filter (isG ga gb))).flatMap Rec.vs) ∧ Below w.heap.size w wr) (fun _ i _ => x - (intOf i).toNat)
  case atStart => exact ⟨0, Nat.zero_le _, rfl, World.ownsRow_nil _ _ _ _, Below.refl _ _⟩
  case round =>
    obtain ⟨k, hk, rfl, hown, hb⟩ := hrel
    by_cases hlt : k < x
    · have C := fun w' (h0 : w'.cell? ⟨b, 0, none⟩ = some (.slice (some ⟨g, 0, none⟩) n kc)) (h1 : w'.cell? ⟨b, 1, none⟩ = some (.int .u64 m)) => at_is b g n m (y + 1 + k) w' ⟨⟨kc, h0⟩, h1⟩ hlo hhi (by omega)
      have hup : Hid (((((List.range (k + 1)).map fun i => L ((y + 1 + i) % n)).filter (isG ga gb))) = ((((List.range k).map fun i => L ((y + 1 + i) % n)).filter (isG ga gb))) ++ (if isG ga gb (L ((y + 1 + k) % n)) then [L ((y + 1 + k) % n)] else [])) := by
        show _ = _
        rw [List.range_succ, List.map_append, List.filter_append]
        simp [List.filter_cons]
      have hlk : (((((List.range k).map fun i => L ((y + 1 + i) % n)).filter (isG ga gb)))).length ≤ k := by have := List.length_filter_le (isG ga gb) ((List.range k).map fun i => L ((y + 1 + i) % n)); simpa using this
      have hp : (y + 1 + k) % n < n := Nat.mod_lt _ (by omega)
      generalize hpe : (y + 1 + k) % n = p at *
      clear hpe
      have e1 : ((y + 1 + k : Nat) : Int) = IntKind.u64.wrap ((y : Int) + 1 + IntKind.u64.wrap (k : Int)) := by rw [IntKind.wrap_u64, IntKind.wrap_u64]; omega
      rw [e1] at C
      clear e1
      obtain ⟨r0, r1, r2, r3, r4, r5, r6, r7, r8, r9, r10, r11⟩ := (hat p hp).block (hb.block g hbg.2)
      clear hat
      have hq' : wr.cell? ⟨b, 1, none⟩ = some (.int .u64 m) := (hb.cell (p := ⟨b, 1, none⟩) hbg.1).trans hq
      have hs' : wr.cell? ⟨b, 0, none⟩ = some (.slice (some ⟨g, 0, none⟩) n kc) := (hb.cell (p := ⟨b, 0, none⟩) hbg.1).trans hs
      have hpn : (p : Int) < n := by omega
      have hx4 : x ≤ 256 := by omega
      have hp0 : (0 : Int) ≤ (p : Int) := by omega
      have hn1 := World.new_ne wr _ hs'
      have hn2 := World.new_ne wr _ r0
      go_wp2_with fail
      go_region_held3 (fun w' => w'.cell? ⟨b, 0, none⟩ = some (.slice (some ⟨g, 0, none⟩) n kc) ∧ w'.cell? ⟨b, 1, none⟩ = some (.int .u64 m) ∧ w'.cell? ⟨g, p * 12, none⟩ = some (.int .u64 (L p).sq) ∧ w'.cell? ⟨g, p * 12 + 1, none⟩ = some (.int .u64 (L p).tm) ∧ w'.cell? ⟨g, p * 12 + 2, none⟩ = some (.int .i64 (L p).gi) ∧ w'.cell? ⟨g, p * 12 + 3, none⟩ = some (.int .u64 (L p).gg) ∧ w'.cell? ⟨g, p * 12 + 4, none⟩ = some (.int .i64 (L p).p) ∧ w'.cell? ⟨g, p * 12 + 5, none⟩ = some (.int .i64 (L p).kd) ∧ w'.cell? ⟨g, p * 12 + 6, none⟩ = some (.int .u64 (L p).a0) ∧ w'.cell? ⟨g, p * 12 + 7, none⟩ = some (.int .u64 (L p).a1) ∧ w'.cell? ⟨g, p * 12 + 8, none⟩ = some (.int .u64 (L p).a2) ∧ w'.cell? ⟨g, p * 12 + 9, none⟩ = some (.int .u64 (L p).a3) ∧ w'.cell? ⟨g, p * 12 + 10, none⟩ = some (.int .u64 (L p).a4) ∧ w'.cell? ⟨g, p * 12 + 11, none⟩ = some (.int .i64 (L p).cd)) (go_keep) (first | (go_at_call 30; refine (C _ ?_ ?_).mono ?_; (simp [*]); (simp [*]); rintro e w' ⟨rfl, rfl⟩))
      all_goals
        have hw : ∃ w2 : World, w2 = (wr.alloc (.cells #[.int .u64 (L p).sq, .int .u64 (L p).tm, .int .i64 (L p).gi, .int .u64 (L p).gg, .int .i64 (L p).p, .int .i64 (L p).kd, .int .u64 (L p).a0, .int .u64 (L p).a1, .int .u64 (L p).a2, .int .u64 (L p).a3, .int .u64 (L p).a4, .int .i64 (L p).cd] 42)).drew := ⟨_, rfl⟩
        obtain ⟨w2, hw⟩ := hw
        have hsz2 : w2.heap.size = wr.heap.size + 1 := by rw [hw]; simp [World.drew]
        have hb2 : Below wr.heap.size wr w2 := by rw [hw]; exact ((Below.refl _ wr).alloc (by omega) _).drew
        have hr2 : RecAt w2 wr.heap.size 0 (L p) := by rw [hw]; exact recAt_new wr (L p)
        rw [← hw]
        clear hw
        have hown2 := below_own hown hb2
        obtain ⟨c0, c1, c2, c3, c4, c5, c6, c7, c8, c9, c10, c11⟩ := rec0 hr2
        have hb2' := hb.trans (hb2.mono (B' := w.heap.size) hb.size)
        have hx02 : w2.cell? ⟨bx, 0, none⟩ = some (.int .i64 ga) := (hb2'.cell (p := ⟨bx, 0, none⟩) hbx).trans hx0
        have hx12 : w2.cell? ⟨bx, 1, none⟩ = some (.int .u64 gb) := (hb2'.cell (p := ⟨bx, 1, none⟩) hbx).trans hx1
        by_cases hg : isG ga gb (L p) = true
        · rw [if_pos hg] at hup
          have C1 := by1_is (L p) bx ga gb w2 hx02 hx12
          rw [hg] at C1
          generalize hQ : ((((List.range k).map fun i => L ((y + 1 + i) % n)).filter (isG ga gb))) = Q at *
          go_wp2_with (first | (go_at_call 34; refine C1.mono ?_; rintro e w3 ⟨rfl, hsz3, hb3⟩; (obtain ⟨d0, d1, d2, d3, d4, d5, d6, d7, d8, d9, d10, d11⟩ := rec0 (hr2.block (hb3.block wr.heap.size (by omega)))); (have hown3 := below_own hown2 hb3); (have hb3' := hb2'.trans (hb3.mono (B' := w.heap.size) (by have := hb.size; omega)))) | (at_builtin; refine wpList_append_own _ rfl _ _ 22 rfl w.heap.size 42 i0 (.agg #[.int .u64 0, .int .u64 0, .int .i64 0, .int .u64 0, .int .i64 0, .int .i64 0, .int .u64 0, .int .u64 0, .int .u64 0, .int .u64 0, .int .u64 0, .int .i64 0]) 12 96 Try.underlying22 hi hz0 hz1 hz2 rfl (by decide) _ _ _ rfl (hown3.alloc _) ⟨w3.heap.size, 0, none⟩ 1 1 (L p).vs rfl rfl (rec_news (recAt_new w3 (L p))) (rec_one _) (by unfold maxLen; omega) (by omega) (by have := hb3'.size; simp; omega) ?_; intro v' w1 hown' hgrow _))
          go_roundw
          case rel => exact ⟨k + 1, by omega, by go_num, by rw [hup.out]; simpa [List.flatMap_append] using hown', (hb3'.alloc (by have := hb3'.size; omega) _).grown hgrow (by have := hb3'.size; simp; omega) (fun j hj => (hown3.lt j hj).1)⟩
          case measure => simp [intOf]; omega
        · rw [if_neg hg] at hup
          have C1 := by1_is (L p) bx ga gb w2 hx02 hx12
          rw [Bool.eq_false_iff.2 hg] at C1
          generalize hQ : ((((List.range k).map fun i => L ((y + 1 + i) % n)).filter (isG ga gb))) = Q at *
          go_wp2_with (go_at_call 34; refine C1.mono ?_; rintro e w3 ⟨rfl, hsz3, hb3⟩; (have hown3 := below_own hown2 hb3); (have hb3' := hb2'.trans (hb3.mono (B' := w.heap.size) (by have := hb.size; omega))))
          go_roundw
          case rel => exact ⟨k + 1, by omega, by go_num, by rw [hup.out]; simpa using hown3, hb3'⟩
          case measure => simp [intOf]; omega
    · have h8 : k = x := by omega
      subst h8
      go_wp2
      go_ret
      exact ⟨_, rfl, hown, hb⟩

set_option maxHeartbeats 400000 in
theorem by_row (b g n : Nat) (L : Nat → Rec) (m : Nat) (ga gb : Int) (w : World) (h : Ring w b g n L m) :
    Calls Try.prog 21 #[.pointer (some ⟨b, 0, none⟩), .agg #[.int .i64 ga, .int .u64 gb]] w fun e w' => ∃ v, e = .returned v ∧ w'.ownsRow w.heap.size 42 12 v ((live L n m).filter (isG ga gb)).length (((live L n m).filter (isG ga gb)).flatMap Rec.vs) ∧ Below w.heap.size w w' := by
  have hlt := ring_lt h
  have hb := (Below.refl w.heap.size w).alloc (Nat.le_refl _) (.cells #[.int .i64 ga, .int .u64 gb] 36)
  have hblk : Blk (w.alloc (.cells #[.int .i64 ga, .int .u64 gb] 36)) w.heap.size 36 #[.int .i64 ga, .int .u64 gb] := Blk.new _ _ _
  have C := pickBy_row b g n L m w.heap.size ga gb _ (h.below hb hlt.1 hlt.2) ⟨by simp; omega, by simp; omega⟩ (hblk.cell 0) (hblk.cell 1)
  go_enter Try.func21, Try.ntmps21
  go_wp2_with fail
  refine C.mono ?_
  rintro e w1 ⟨v, rfl, ho, hb1⟩
  go_wp2
  go_ret
  exact ⟨_, rfl, own_mono ho (by simp), hb.trans (hb1.mono (by simp))⟩

theorem filt_snoc (q : Rec → Bool) (D : List Rec) (k : Nat) (h : k < D.length) : (D.take (k + 1)).filter q = (D.take k).filter q ++ (if q (D[k]'h) then [D[k]'h] else []) := by
  rw [List.take_succ_eq_append_getElem h, List.filter_append]
  simp [List.filter_cons]

set_option maxRecDepth 100000 in
set_option maxHeartbeats 2000000 in
theorem refBy_row (c n cap : Nat) (A : Option Addr) (W : List Rec) (ga gb : Int) (w : World) (h0 : w.cell? ⟨c, 0, none⟩ = some (.slice A W.length cap)) (h1 : w.cell? ⟨c, 1, none⟩ = some (.int .i64 n)) (hr : RowAt w w.heap.size A W) (hn : n ≤ 256) (hl : W.length ≤ 1000) (hcap : W.length ≤ cap) :
    Calls Try.prog 22 #[.pointer (some ⟨c, 0, none⟩), .agg #[.int .i64 ga, .int .u64 gb]] w fun e w' => ∃ v, e = .returned v ∧ w'.ownsRow w.heap.size 42 12 v ((W.drop (W.length - n)).filter (isG ga gb)).length (((W.drop (W.length - n)).filter (isG ga gb)).flatMap Rec.vs) ∧ Below w.heap.size w w' := by
  obtain ⟨i0, hi, hz0, hz1, hz2⟩ := info_parts infoRec
  have hc : c < w.heap.size := World.block_lt_of_cell? w ⟨c, 0, none⟩ h0
  have hrow := rowAt_cut (k := W.length - n) hr (by omega) hcap
  have CT := fun w' g0 g1 => there_row c n W.length cap A w' g0 g1 hn hl hcap
  obtain ⟨D, hD⟩ : ∃ D, D = W.drop (W.length - n) := ⟨_, rfl⟩
  have hDl : D.length = W.length - (W.length - n) := by rw [hD, List.length_drop]
  rw [← hD] at hrow ⊢
  simp only [← hDl] at CT
  obtain ⟨A', hA'⟩ : ∃ A', A' = (if cap = W.length - n then A else A.map (·.add ((W.length - n) * 12))) := ⟨_, rfl⟩
  rw [← hA'] at hrow
  simp only [← hA'] at CT
  obtain ⟨cap', hcap'⟩ : ∃ cap', cap' = cap - (W.length - n) := ⟨_, rfl⟩
  simp only [← hcap'] at CT
  have hDm : D.length ≤ 1000 := by omega
  clear hD hDl hA' hcap' hr hcap hl
  have hb1 := (Below.refl w.heap.size w).alloc (Nat.le_refl _) (.cells #[.int .i64 ga, .int .u64 gb] 36)
  have hblk : Blk (w.alloc (.cells #[.int .i64 ga, .int .u64 gb] 36)) w.heap.size 36 #[.int .i64 ga, .int .u64 gb] := Blk.new _ _ _
  have hsz : (w.alloc (.cells #[.int .i64 ga, .int .u64 gb] 36)).heap.size = w.heap.size + 1 := by simp
  have HS := Lib.hid hsz
  clear hsz
  go_enter Try.func22, Try.ntmps22
  go_wp2_with fail
  refine (CT _ ((hb1.cell (p := ⟨c, 0, none⟩) hc).trans h0) ((hb1.cell (p := ⟨c, 1, none⟩) hc).trans h1)).mono ?_
  rintro e w1 ⟨rfl, q, rfl⟩
  have hb2 := hb1.trans (below_drew _ w.heap.size q)
  have hx0 := hblk.cell 0
  have hx1 := hblk.cell 1
  have hrow2 : RowAt ((w.alloc (.cells #[.int .i64 ga, .int .u64 gb] 36)).drewN q) w.heap.size A' D := (hrow.below hb2)
  replace hx0 : ((w.alloc (.cells #[.int .i64 ga, .int .u64 gb] 36)).drewN q).cell? ⟨w.heap.size, 0, none⟩ = some (.int .i64 ga) := hx0
  replace hx1 : ((w.alloc (.cells #[.int .i64 ga, .int .u64 gb] 36)).drewN q).cell? ⟨w.heap.size, 1, none⟩ = some (.int .u64 gb) := hx1
  have hs2 : ((w.alloc (.cells #[.int .i64 ga, .int .u64 gb] 36)).drewN q).heap.size = w.heap.size + 1 := HS.out
  have HS2 := Lib.hid hs2
  clear hs2 hblk hb1 hrow CT h0 h1 HS
  generalize (w.alloc (.cells #[.int .i64 ga, .int .u64 gb] 36)).drewN q = w2 at *
  go_wp2
  go_loopw [5, 7] (fun v i wr => ∃ k : Nat, k ≤ D.length ∧ i = .int .i64 k ∧ wr.ownsRow w2.heap.size 42 12 v ((D.take k).filter (isG ga gb)).length (((D.take k).filter (isG ga gb)).flatMap Rec.vs) ∧ Below w2.heap.size w2 wr) (fun _ i _ => D.length - (intOf i).toNat)
  case atStart => exact ⟨0, Nat.zero_le _, rfl, World.ownsRow_nil _ _ _ _, Below.refl _ _⟩
  case round =>
    obtain ⟨k, hk, rfl, hown, hb⟩ := hrel
    have hwl : w.heap.size < w2.heap.size := by rw [HS2.out]; omega
    by_cases hlt : k < D.length
    · have hup := Lib.hid (filt_snoc (isG ga gb) D k hlt)
      have hlk : ((D.take k).filter (isG ga gb)).length ≤ k := by have := List.length_filter_le (isG ga gb) (D.take k); have h2 := List.length_take_le k D; omega
      obtain ⟨g3, o3, rfl, hg3, hr3⟩ := hrow2 (fun e => by rw [e] at hlt; simp at hlt)
      have hrk := (hr3 k hlt).block (hb.block g3 (by omega))
      obtain ⟨x, hx⟩ : ∃ x, x = D[k]'hlt := ⟨_, rfl⟩
      rw [← hx] at hrk hup
      have HX := Lib.hid hx
      clear hx hr3 hrow2
      have hnews := rec_news hrk
      have HN := Lib.hid hnews
      clear hnews
      obtain ⟨r0, r1, r2, r3, r4, r5, r6, r7, r8, r9, r10, r11⟩ := hrk
      have hy0 := (hb.cell (p := ⟨w.heap.size, 0, none⟩) hwl).trans hx0
      have hy1 := (hb.cell (p := ⟨w.heap.size, 1, none⟩) hwl).trans hx1
      have hkD : (k : Int) < D.length := by omega
      have hk0 : (0 : Int) ≤ (k : Int) := by omega
      have hq : ∀ w', (binOp .eql 36 (.agg #[.int .i64 x.gi, .int .u64 x.gg]) (.agg #[.int .i64 ga, .int .u64 gb])).run Try.prog w' = .ok (.bool (isG ga gb x)) w' := fun w' => ref_eql _ _ _ _ w'
      generalize hQ : (D.take k).filter (isG ga gb) = Q at *
      by_cases hgx : isG ga gb x = true
      · rw [if_pos hgx] at hup
        rw [hgx] at hq
        go_wp2_with fail
        go_quiet (fail)
        go_wp2_with (at_builtin; refine wpList_append_own _ rfl _ _ 22 rfl w2.heap.size 42 i0 (.agg #[.int .u64 0, .int .u64 0, .int .i64 0, .int .u64 0, .int .i64 0, .int .i64 0, .int .u64 0, .int .u64 0, .int .u64 0, .int .u64 0, .int .u64 0, .int .i64 0]) 12 96 Try.underlying22 hi hz0 hz1 hz2 rfl (by decide) _ _ _ rfl ((below_own hown (below_drew wr _ nq)).alloc _) ⟨wr.heap.size, 0, none⟩ 1 1 x.vs rfl rfl (rec_news (recAt_new (wr.drewN nq) x)) (rec_one _) (by unfold maxLen; omega) (by omega) (by have := hb.size; simp; omega) ?_; intro v' w1 hown' hgrow _)
        go_roundw
        case rel => exact ⟨k + 1, by omega, by go_num, by rw [hup.out]; simpa [List.flatMap_append] using hown', ((hb.trans (below_drew wr _ nq)).alloc (by have := hb.size; simp; omega) _).grown hgrow (by have := hb.size; simp; omega) (fun j hj => (hown.lt j hj).1)⟩
        case measure => simp [intOf]; omega
      · rw [if_neg hgx] at hup
        rw [Bool.eq_false_iff.2 hgx] at hq
        go_wp2_with fail
        go_quiet (fail)
        go_wp2
        go_roundw
        case rel => exact ⟨k + 1, by omega, by go_num, by rw [hup.out]; simpa using (below_own hown (below_drew wr _ nq)), hb.trans (below_drew wr _ nq)⟩
        case measure => simp [intOf]; omega
    · have h8 : k = D.length := by omega
      subst h8
      clear hrow2
      rw [List.take_length] at hown
      go_wp2
      go_ret
      exact ⟨_, rfl, own_mono hown (by omega), hb2.trans (hb.mono (by omega))⟩
end Go.Proofs.Ythmjhepjlgcgfaa
