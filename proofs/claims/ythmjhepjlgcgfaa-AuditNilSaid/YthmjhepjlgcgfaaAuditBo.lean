/- A ring and the reference's ring whose row of records may be shared with another one: put and same of the law, by walks. -/
import Derived.Test.YthmjhepjlgcgfaaAuditKnown
namespace Go.Proofs.Ythmjhepjlgcgfaa
open Go.RowKit
set_option linter.unusedVariables false
set_option linter.unusedSimpArgs false

/-- Both rings, and that they agree; the reference's row is only read. -/
structure Bo (w : World) (b g c n : Nat) (L : Nat → Rec) (A : Option Addr) (cap : Nat) (W : List Rec) : Prop where
  ring : Ring w b g n L W.length
  blk : Blk w c 31 #[.slice A W.length cap, .int .i64 n]
  row : RowAt w w.heap.size A W
  hcap : W.length ≤ cap
  agree : live L n W.length = W.drop (W.length - n)
  small : W.length ≤ 1000
  bc : b ≠ c ∧ g ≠ c
  ac : W ≠ [] → ∀ g5 o5, A = some ⟨g5, o5, none⟩ → g5 ≠ b ∧ g5 ≠ g ∧ g5 ≠ c

theorem RowAt.apart {S : Nat → Prop} {w w' : World} {A : Option Addr} {L : List Rec} (h : RowAt w w.heap.size A L) (ha : Apart S w w') (hS : L ≠ [] → ∀ g5 o5, A = some ⟨g5, o5, none⟩ → ¬ S g5) : RowAt w' w'.heap.size A L := fun hne => by
  obtain ⟨g, o, hA, hg, hr⟩ := h hne
  exact ⟨g, o, hA, Nat.lt_of_lt_of_le hg ha.size, fun i hi => (hr i hi).block (ha.block g hg (hS hne g o hA))⟩

theorem Bo.apart {S : Nat → Prop} {w w' : World} {b g c n : Nat} {L : Nat → Rec} {A : Option Addr} {cap : Nat} {W : List Rec} (h : Bo w b g c n L A cap W) (ha : Apart S w w') (hS : ¬ S b ∧ ¬ S g ∧ ¬ S c) (hA : W ≠ [] → ∀ g5 o5, A = some ⟨g5, o5, none⟩ → ¬ S g5) : Bo w' b g c n L A cap W :=
  ⟨ring_blocks h.ring (ha.block b (ring_lt h.ring).1 hS.1) (ha.block g (ring_lt h.ring).2 hS.2.1), (ha.block c h.blk.lt hS.2.2).trans h.blk, h.row.apart ha hA, h.hcap, h.agree, h.small, h.bc, h.ac⟩

theorem below_apart {w w' : World} (h : Below w.heap.size w w') : Apart (fun _ => False) w w' := ⟨h.os, h.tape, h.output, h.size, fun k hk _ => h.block k hk⟩
theorem Bo.below {w w' : World} {b g c n : Nat} {L : Nat → Rec} {A : Option Addr} {cap : Nat} {W : List Rec} (h : Bo w b g c n L A cap W) (hb : Below w.heap.size w w') : Bo w' b g c n L A cap W :=
  h.apart (below_apart hb) ⟨id, id, id⟩ (fun _ _ _ _ => id)
theorem Bo.drewN {w : World} {b g c n : Nat} {L : Nat → Rec} {A : Option Addr} {cap : Nat} {W : List Rec} (h : Bo w b g c n L A cap W) (k : Nat) : Bo (w.drewN k) b g c n L A cap W := h.below (below_drew w _ k)

theorem reads_rowAt {w : World} {B : Nat} {A : Option Addr} {L : List Rec} (h : RowAt w B A L) : Reads w B 12 A L.length (L.flatMap Rec.vs) := by
  refine ⟨flat_len L, fun hn => ?_⟩
  obtain ⟨g, o, rfl, hg, hr⟩ := h (fun e => by rw [e] at hn; simp at hn)
  have hadd : ∀ j, (⟨g, o, none⟩ : Addr).add j = ⟨g, o + j, none⟩ := fun j => by unfold Addr.add; split <;> simp_all
  refine ⟨_, rfl, hg, fun j u hu => ?_⟩
  have hj : j < L.length * 12 := by rw [← flat_len]; exact (List.getElem?_eq_some_iff.1 hu).1
  have hi : j / 12 < L.length := by omega
  have q := flat_get L (j / 12) hi (j % 12) (by omega)
  rw [show j / 12 * 12 + j % 12 = j from by omega, hu] at q
  rw [hadd]
  have := rec_cell (hr (j / 12) hi) (j % 12) u q.symm
  rw [show o + j / 12 * 12 + j % 12 = o + j from by omega] at this
  exact this

set_option maxRecDepth 100000 in
set_option maxHeartbeats 2000000 in
theorem refPut_bo (c n : Nat) (A : Option Addr) (cap : Nat) (W : List Rec) (r : Rec) (w : World) (hblk : Blk w c 31 #[.slice A W.length cap, .int .i64 n]) (hRd : Reads w w.heap.size 12 A W.length (W.flatMap Rec.vs)) (hcap : W.length ≤ cap) (hW : W.length ≤ 1000) :
    Calls Try.prog 29 #[.pointer (some ⟨c, 0, none⟩), .agg #[.int .u64 r.sq, .int .u64 r.tm, .int .i64 r.gi, .int .u64 r.gg, .int .i64 r.p, .int .i64 r.kd, .int .u64 r.a0, .int .u64 r.a1, .int .u64 r.a2, .int .u64 r.a3, .int .u64 r.a4, .int .i64 r.cd]] w fun e w' =>
      e = .returned (.int .u64 ((W.length + 1 : Nat) : Int)) ∧ (∃ A' cap', Blk w' c 31 #[.slice A' (W.length + 1) cap', .int .i64 n] ∧ w'.ownsRow (w.heap.size + 1) 42 12 (.slice A' (W ++ [{ r with sq := ((W.length + 1 : Nat) : Int) }]).length cap') (W ++ [{ r with sq := ((W.length + 1 : Nat) : Int) }]).length ((W ++ [{ r with sq := ((W.length + 1 : Nat) : Int) }]).flatMap Rec.vs) ∧ W.length + 1 ≤ cap') ∧ Apart (fun k => k = c) w w' := by
  have hlt : c < w.heap.size := hblk.lt
  obtain ⟨i0, hi, hz0, hz1, hz2⟩ := info_parts infoRec
  have hc0 := hblk.cell 0
  have hc1 := hblk.cell 1
  have hcf := hblk.frozen 0
  simp only [List.getElem?_toArray, List.getElem?_cons_zero, List.getElem?_cons_succ] at hc0 hc1
  go_enter Try.func29, Try.ntmps29
  have hcl : c < w.heap.size := by omega
  go_wp2_with fail
  obtain ⟨r', hr'⟩ : ∃ r' : Rec, r' = { r with sq := (W.length : Int) + 1 } := ⟨_, rfl⟩
  obtain ⟨w2, hw2⟩ : ∃ w2 : World, w2 = w.alloc (.cells #[.int .u64 r'.sq, .int .u64 r'.tm, .int .i64 r'.gi, .int .u64 r'.gg, .int .i64 r'.p, .int .i64 r'.kd, .int .u64 r'.a0, .int .u64 r'.a1, .int .u64 r'.a2, .int .u64 r'.a3, .int .u64 r'.a4, .int .i64 r'.cd] 42) := ⟨_, rfl⟩
  have hb2 : Below w.heap.size w w2 := by rw [hw2]; exact (Below.refl _ w).alloc (by omega) _
  have hr2 : RecAt w2 w.heap.size 0 r' := by rw [hw2]; exact recAt_new w r'
  obtain ⟨H, hH⟩ : ∃ H, H = w2.heap.size := ⟨_, rfl⟩
  have hHw : H = w.heap.size + 1 := by rw [hH, hw2]; simp
  have HR2 := hRd.below hb2
  have hd0 := (hb2.cell (p := ⟨c, 0, none⟩) hcl).trans hc0
  have hdf := (hb2.frozen (p := ⟨c, 0, none⟩) hcl).trans hcf
  obtain ⟨b0, b1, b2, b3, b4, b5, b6, b7, b8, b9, b10, b11⟩ := rec0 hr2
  have e1 : Rec.sq r' = (W.length : Int) + 1 := by rw [hr']
  have hw2' : w2 = w.alloc (.cells #[.int .u64 ((W.length : Int) + 1), .int .u64 r.tm, .int .i64 r.gi, .int .u64 r.gg, .int .i64 r.p, .int .i64 r.kd, .int .u64 r.a0, .int .u64 r.a1, .int .u64 r.a2, .int .u64 r.a3, .int .u64 r.a4, .int .i64 r.cd] 42) := by rw [hw2, hr']
  rw [← hw2']
  clear hw2 hw2'
  have HR' := Lib.hid hr'
  have HH := Lib.hid hH
  have HE := Lib.hid e1
  clear hr' hH e1 hc0 hcf hc1
  have hn1 := World.new_ne w2 _ hd0
  have hn2 := World.new_ne w2 _ b0
  have hcH : c < H := by omega
  have hbH : w.heap.size < H := by omega
  have hcw2 : c < w2.heap.size := by rw [← HH.out]; exact hcH
  have hbw2 : w.heap.size < w2.heap.size := by rw [← HH.out]; exact hbH
  go_region_law (first | (refine step_append_any _ rfl (.const (.slice none 0 0)) (.tmp 17) 22 rfl H 42 i0 _ 12 96 Try.underlying22 hi hz0 hz1 hz2 rfl (by decide) (.slice none 0 0) 0 [] rfl (World.ownsRow_nil _ _ _ _) w.heap.size A W.length cap (W.flatMap Rec.vs) rfl (by first | exact HR2 | exact HR2.alloc (by have := hb2.size; simp; omega) _) (flat_one W) (by unfold maxLen; omega) (by omega) (by rw [HH.out]; simp) ?_; intro v1 w1 hown1 hg1 hat1; (have hB1 : Below H w2 w1 := (by first | exact ((Below.refl _ w2).drew).grown hg1 (by rw [HH.out]; simp) (fun k e => by cases e) | exact (((Below.refl H w2).drew).alloc (by rw [HH.out]; simp) _).grown hg1 (by rw [HH.out]; simp) (fun k e => by cases e) | exact (((Below.refl H w2).alloc (by rw [HH.out]; simp) _).drew).grown hg1 (by rw [HH.out]; simp) (fun k e => by cases e))); (obtain ⟨d0, d1, d2, d3, d4, d5, d6, d7, d8, d9, d10, d11⟩ := rec0 (hr2.block (hB1.block w.heap.size hbH))); (have hn3 := World.new_ne w1 _ d0); (have hsz1 : H ≤ w1.heap.size := by have := hB1.size; rw [HH.out]; exact this)) | (refine step_append_any _ rfl (.tmp 18) (.tmp 20) 22 rfl H 42 i0 _ 12 96 Try.underlying22 hi hz0 hz1 hz2 rfl (by decide) v1 (0 + W.length) ([] ++ W.flatMap Rec.vs) rfl (hown1.alloc _) (w1.heap.size + 1) (some ⟨w1.heap.size, 0, none⟩) 1 1 r'.vs rfl (reads_rec (recAt_new w1 r') (by omega)) (rec_one _) (by unfold maxLen; omega) (by omega) (by simp; omega) ?_; intro v2 w3 hown2 hg2 hat2; (obtain ⟨A2, cap2, rfl, hcap2⟩ := own_slice hown2); (have hB2 : Below H w2 w3 := (hB1.alloc hsz1 _).grown hg2 (by simp; omega) (fun k e => (hown1.lt k e).1)); (have hd3 := (hB2.cell (p := ⟨c, 0, none⟩) hcH).trans hd0); (have hf3 := (hB2.frozen (p := ⟨c, 0, none⟩) hcH).trans hdf)) | (refine step_append_any _ rfl (.tmp 18) (.tmp 20) 22 rfl H 42 i0 _ 12 96 Try.underlying22 hi hz0 hz1 hz2 rfl (by decide) v1 (0 + W.length) ([] ++ W.flatMap Rec.vs) rfl hown1 (w2.heap.size + 1) (some ⟨w2.heap.size, 0, none⟩) 1 1 r'.vs rfl (by first | exact reads_rec ((recAt_new w2.drew r').block (hg1.block w2.heap.size (by simp [World.drew]) (fun k => by cases k))) (by omega) | exact reads_rec ((recAt_new w2 r').block (hg1.block w2.heap.size (by simp [World.drew]) (fun k => by cases k))) (by omega)) (rec_one _) (by unfold maxLen; omega) (by omega) (by omega) ?_; intro v2 w3 hown2 hg2 hat2; (obtain ⟨A2, cap2, rfl, hcap2⟩ := own_slice hown2); (have hB2 : Below H w2 w3 := hB1.grown hg2 hsz1 (fun k e => (hown1.lt k e).1)); (have hd3 := (hB2.cell (p := ⟨c, 0, none⟩) hcH).trans hd0); (have hf3 := (hB2.frozen (p := ⟨c, 0, none⟩) hcH).trans hdf)))
  all_goals
    obtain ⟨w5, hw5⟩ : ∃ w5 : World, w5 = w3.setCell ⟨c, 0, none⟩ (.slice A2 (W.length + 1) cap2) := ⟨_, rfl⟩
    have hb5 : Blk w5 c 31 #[.slice A2 (W.length + 1) cap2, .int .i64 n] := by
      rw [hw5]
      exact (((hblk.below hb2 hcl).below hB2 hcH)).set_ 0 _
    have ho5 : w5.ownsRow (w.heap.size + 1) 42 12 (.slice A2 (W.length + 1) cap2) (W ++ [r']).length ((W ++ [r']).flatMap Rec.vs) := by
      rw [hw5]
      have q := ownsRow_setCell_below (own_mono hown2 (show w.heap.size + 1 ≤ H by omega)) (a := ⟨c, 0, none⟩) (show c < w.heap.size + 1 by omega) (.slice A2 (W.length + 1) cap2)
      simpa [Nat.zero_add] using q
    have hA5 : Apart (fun k => k = c) w w5 := by
      rw [hw5]
      exact ⟨hB2.os.trans hb2.os, hB2.tape.trans hb2.tape, hB2.output.trans hb2.output, by have h1 := hb2.size; have h2 := hB2.size; simp [World.setCell]; omega, fun k hk hS => (Below.heap_setCell _ _ _ _ hS).trans ((hB2.block k (by omega)).trans (hb2.block k hk))⟩
    have hx5 : w5.cell? ⟨w.heap.size, 0, none⟩ = some (.int .u64 r'.sq) := by
      rw [hw5]
      exact (World.cell?_setCell_far _ _ _ _ (show c ≠ w.heap.size by omega)).trans ((hB2.cell (p := ⟨w.heap.size, 0, none⟩) hbH).trans b0)
    rw [← hw5]
    clear hw5
    go_wp2
    go_ret
    refine ⟨?_, ⟨A2, cap2, by rw [← HR'.out]; exact ⟨hb5, by simpa using ho5, by omega⟩⟩, hA5⟩
    rw [← HE.out]
    rfl

set_option maxRecDepth 100000 in
set_option maxHeartbeats 2000000 in
theorem put_bo (b g c n : Nat) (L : Nat → Rec) (A : Option Addr) (cap : Nat) (W : List Rec) (r : Rec) (w : World) (h : Bo w b g c n L A cap W) (hW : W.length < 1000) :
    Calls Try.prog 12 #[.pointer (some ⟨b, 0, none⟩), .pointer (some ⟨c, 0, none⟩), .agg #[.int .u64 r.sq, .int .u64 r.tm, .int .i64 r.gi, .int .u64 r.gg, .int .i64 r.p, .int .i64 r.kd, .int .u64 r.a0, .int .u64 r.a1, .int .u64 r.a2, .int .u64 r.a3, .int .u64 r.a4, .int .i64 r.cd]] w fun e w' =>
      e = .returned (.bool true) ∧ (∃ L' A' cap', Bo w' b g c n L' A' cap' (W ++ [{ r with sq := ((W.length + 1 : Nat) : Int) }]) ∧ ∀ g5 o5, A' = some ⟨g5, o5, none⟩ → w.heap.size ≤ g5) ∧ Apart (fun k => k = b ∨ k = g ∨ k = c) w w' := by
  have hbc := h.bc
  have hbs : b < w.heap.size := (ring_lt h.ring).1
  have hgs : g < w.heap.size := (ring_lt h.ring).2
  have hcs : c < w.heap.size := h.blk.lt
  go_enter Try.func12, Try.ntmps12
  go_wp2_with fail
  obtain ⟨w2, hw2⟩ : ∃ w2 : World, w2 = w.alloc (.cells #[.int .u64 r.sq, .int .u64 r.tm, .int .i64 r.gi, .int .u64 r.gg, .int .i64 r.p, .int .i64 r.kd, .int .u64 r.a0, .int .u64 r.a1, .int .u64 r.a2, .int .u64 r.a3, .int .u64 r.a4, .int .i64 r.cd] 42) := ⟨_, rfl⟩
  have hb2 : Below w.heap.size w w2 := by rw [hw2]; exact (Below.refl _ w).alloc (Nat.le_refl _) _
  have hr2 : RecAt w2 w.heap.size 0 r := by rw [hw2]; exact recAt_new w r
  have hz2 : w2.heap.size = w.heap.size + 1 := by rw [hw2]; simp
  rw [← hw2]
  clear hw2
  have HZ := Lib.hid hz2
  clear hz2
  have h2 : Bo w2.drew b g c n L A cap W := h.below hb2.drew
  obtain ⟨b0, b1, b2, b3, b4, b5, b6, b7, b8, b9, b10, b11⟩ := rec0 hr2
  have hsz2 : w.heap.size < w2.drew.heap.size := by show _ < w2.heap.size; rw [HZ.out]; omega
  have HS := Lib.hid hsz2
  clear hsz2
  go_region_held3 (fun w' => w'.cell? ⟨w.heap.size, 0, none⟩ = some (.int .u64 r.sq) ∧ w'.cell? ⟨w.heap.size, 1, none⟩ = some (.int .u64 r.tm) ∧ w'.cell? ⟨w.heap.size, 2, none⟩ = some (.int .i64 r.gi) ∧ w'.cell? ⟨w.heap.size, 3, none⟩ = some (.int .u64 r.gg) ∧ w'.cell? ⟨w.heap.size, 4, none⟩ = some (.int .i64 r.p) ∧ w'.cell? ⟨w.heap.size, 5, none⟩ = some (.int .i64 r.kd) ∧ w'.cell? ⟨w.heap.size, 6, none⟩ = some (.int .u64 r.a0) ∧ w'.cell? ⟨w.heap.size, 7, none⟩ = some (.int .u64 r.a1) ∧ w'.cell? ⟨w.heap.size, 8, none⟩ = some (.int .u64 r.a2) ∧ w'.cell? ⟨w.heap.size, 9, none⟩ = some (.int .u64 r.a3) ∧ w'.cell? ⟨w.heap.size, 10, none⟩ = some (.int .u64 r.a4) ∧ w'.cell? ⟨w.heap.size, 11, none⟩ = some (.int .i64 r.cd)) (go_keep) (first | (go_at_call 26; refine (put_row b g n L W.length r _ h2.ring ⟨Nat.lt_trans hbs HS.out, Nat.lt_trans hgs HS.out⟩ (by omega)).mono ?_; rintro e w3 ⟨rfl, hR3, hA3⟩; (obtain ⟨d0, d1, d2, d3, d4, d5, d6, d7, d8, d9, d10, d11⟩ := rec0 (hr2.block (hA3.block w.heap.size HS.out (by omega)))); (have hblk3 := (hA3.block c (Nat.lt_trans hcs HS.out) (by omega)).trans h2.blk); (have hrow3 := h2.row.apart hA3 (fun hne g5 o5 e => by have := h2.ac hne g5 o5 e; omega))) | (go_at_call 29; refine (refPut_bo c n A cap W r _ hblk3 (reads_rowAt hrow3) h2.hcap (by omega)).mono ?_; rintro e w4 ⟨rfl, ⟨A4, cap4, hblk4, hown4, hcap4⟩, hA4⟩; (obtain ⟨f0, f1, f2, f3, f4, f5, f6, f7, f8, f9, f10, f11⟩ := rec0 ((hr2.block (hA3.block w.heap.size HS.out (by omega))).block (hA4.block w.heap.size (Nat.lt_of_lt_of_le HS.out hA3.size) (by omega))))))
  go_wp2
  go_ret
  have hcw3 : w2.drew.heap.size ≤ w3.heap.size := hA3.size
  have hb3 : b < w3.heap.size := Nat.lt_of_lt_of_le (Nat.lt_trans hbs HS.out) hcw3
  have hg3 : g < w3.heap.size := Nat.lt_of_lt_of_le (Nat.lt_trans hgs HS.out) hcw3
  have hR4 := ring_blocks hR3 (hA4.block b hb3 hbc.1) (hA4.block g hg3 hbc.2)
  have hfar : ∀ g5 o5, A4 = some ⟨g5, o5, none⟩ → w3.heap.size < g5 := by
    intro g5 o5 e
    obtain ⟨g6, c6, hv, hg6, _⟩ := hown4.form (by simp)
    injection hv with hv1
    rw [hv1] at e
    injection e with e2
    injection e2 with e3
    omega
  have hw23 : w.heap.size < w3.heap.size := Nat.lt_of_lt_of_le HS.out hcw3
  refine ⟨rfl, ⟨_, A4, cap4, ⟨by simpa using hR4, by simpa using hblk4, rowAt_own hown4, by simpa using hcap4, by simpa using live_upd L n W _ h.ring.lo h.agree, by simp; omega, hbc, fun _ g5 o5 e => by have := hfar g5 o5 e; omega⟩, fun g5 o5 e => by have := hfar g5 o5 e; omega⟩, ?_⟩
  refine ⟨hA4.os.trans (hA3.os.trans hb2.os), hA4.tape.trans (hA3.tape.trans hb2.tape), hA4.output.trans (hA3.output.trans hb2.output), Nat.le_trans hb2.size (Nat.le_trans hA3.size hA4.size), fun k hk hS => ?_⟩
  have hk2 : k < w2.drew.heap.size := Nat.lt_trans hk HS.out
  exact (hA4.block k (Nat.lt_of_lt_of_le hk2 hcw3) (fun e => hS (.inr (.inr e)))).trans ((hA3.block k hk2 (fun e => hS (by rcases e with e | e; exact .inl e; exact .inr (.inl e)))).trans (hb2.block k hk))

set_option maxRecDepth 100000 in
set_option maxHeartbeats 2000000 in
theorem same_bo (b g c n : Nat) (L : Nat → Rec) (A : Option Addr) (cap : Nat) (W : List Rec) (w : World) (h : Bo w b g c n L A cap W) :
    Calls Try.prog 11 #[.pointer (some ⟨b, 0, none⟩), .pointer (some ⟨c, 0, none⟩)] w fun e w' => e = .returned (.bool true) ∧ Below w.heap.size w w' := by
  have hcap := h.hcap
  obtain ⟨k, hk⟩ : ∃ k, k = W.length - n := ⟨_, rfl⟩
  have hn1 := h.ring.lo
  have hn2 := h.ring.hi
  have hsm := h.small
  have e1 : W.length - min W.length n = k := by omega
  obtain ⟨K, hK⟩ : ∃ K, K = W.length - k := ⟨_, rfl⟩
  have e2 : min W.length n = K := by omega
  have CAll := fun w' (hh : Bo w' b g c n L A cap W) => all_row b g n L W.length w' hh.ring (ring_lt hh.ring)
  have CThere := fun w' (hh : Bo w' b g c n L A cap W) => there_row c n W.length cap A w' (hh.blk.cell 0) (hh.blk.cell 1) hn2 hsm hcap
  have CSeq := fun w' (hh : Bo w' b g c n L A cap W) => seq_is b g n W.length w' hh.ring.head hn1 hn2
  have CLost := fun w' (hh : Bo w' b g c n L A cap W) => lost_is b g n W.length w' hh.ring.head hn1 hn2 (by omega)
  have CLen := fun w' (hh : Bo w' b g c n L A cap W) => len_is b g n W.length w' hh.ring.head hn1 hn2 (by omega)
  have CSize := fun w' (hh : Bo w' b g c n L A cap W) => size_is b g n W.length w' hh.ring.head hn1 hn2
  have CRLost := fun w' (hh : Bo w' b g c n L A cap W) => refLost_row c n W.length cap A w' (hh.blk.cell 0) (hh.blk.cell 1) hn2 hsm
  have HAG := Lib.hid h.agree
  have hll := live_len L n W.length
  rw [e2] at hll CAll CLen
  rw [e1] at CLost
  simp only [← hk] at CThere CRLost
  simp only [← hK] at CThere
  rw [← hk] at HAG
  generalize live L n W.length = X at *
  have hkW : k ≤ W.length := by omega
  clear e1 e2
  have hKle : K ≤ 1000 := by omega
  have HKn := Lib.hid hk
  obtain ⟨A', hA'⟩ : ∃ A', A' = (if cap = k then A else A.map (·.add (k * 12))) := ⟨_, rfl⟩
  simp only [← hA'] at CThere
  have CSame : ∀ w' Bx Ax cx, RowAt w' Bx Ax X → RowAt w' w'.heap.size A W → Calls Try.prog 20 #[.slice Ax K cx, .slice A' K (cap - k)] w' fun e w'' => e = .returned (.bool true) ∧ ∃ q, w'' = w'.drewN q := by
    intro w' Bx Ax cx r1 r2
    have r3 := rowAt_cut (k := k) r2 hkW hcap
    rw [← hA'] at r3
    have q := refSame_row Bx w'.heap.size Ax A' cx (cap - k) X (W.drop k) w' (by omega) (by simp; omega) r1 r3
    rw [hll, List.length_drop, ← hK, decide_eq_true HAG.out] at q
    exact q
  have HA' := Lib.hid hA'
  clear hA' hk
  have HKK := Lib.hid hK
  clear hK
  have HH := h
  have hw1 : IntKind.u64.wrap (W.length : Int) = W.length := by rw [IntKind.wrap_u64]; omega
  have hw2 : IntKind.u64.wrap (k : Int) = k := by rw [IntKind.wrap_u64]; omega
  clear hw1 hw2
  go_enter Try.func11, Try.ntmps11
  go_wp2_with fail
  refine (CAll w h).mono ?_
  rintro e w1 ⟨v1, rfl, ho1, hb1⟩
  obtain ⟨A1, cap1, rfl, hcap1⟩ := own_slice ho1
  have h1 := h.below hb1
  have hR1 : RowAt w1 w1.heap.size A1 X := by rw [← hll] at ho1; exact rowAt_own ho1
  have hRA := h1.row
  have hd0 := h1.blk.cell 0
  have hd1 := h1.blk.cell 1
  simp only [List.getElem?_toArray, List.getElem?_cons_zero, List.getElem?_cons_succ] at hd0 hd1
  have hw1 : IntKind.u64.wrap (W.length : Int) = W.length := by rw [IntKind.wrap_u64]; omega
  have hw2 : IntKind.u64.wrap (k : Int) = k := by rw [IntKind.wrap_u64]; omega
  go_wp2_with fail
  go_quiet ((first | (go_at_call 18; exact Calls.quiet_of (CThere _ (h1.drewN _))) | (go_at_call 20; exact Calls.quiet_of (CSame _ _ _ _ (hR1.below (below_drew w1 _ _)) (hRA.below (below_drew w1 _ _)))) | (go_at_call 17; exact quiet_left (CSeq _ (h1.drewN _))) | (go_at_call 15; exact quiet_left (CLost _ (h1.drewN _))) | (go_at_call 14; exact Calls.quiet_of (CRLost _ (h1.drewN _))) | (go_at_call 16; exact quiet_left (CLen _ (h1.drewN _))) | (go_at_call 28; exact quiet_left (CSize _ (h1.drewN _)))))
  have h2 := h1.drewN nq
  have hbw2 : Below w.heap.size w (w1.drewN nq) := hb1.trans (below_drew w1 _ nq)
  have hrow : X ≠ [] → ∃ g1, A1 = some ⟨g1, 0, none⟩ ∧ w.heap.size ≤ g1 ∧ (∀ i (hi : i < X.length), RecAt (w1.drewN nq) g1 (i * 12) (X[i]'hi)) ∧ ∀ o, (w1.drewN nq).frozen? ⟨g1, o, none⟩ = false := by
    intro hne
    obtain ⟨g1, o1, hA1, _, hr⟩ := hR1 hne
    rcases ho1.2 with ⟨hv, h0⟩ | ⟨g2, cap2, cur, hv, hg2, hhg, _⟩
    · injection hv with hv1
      rw [hv1] at hA1
      cases hA1
    · injection hv with hv1
      rw [hv1] at hA1
      injection hA1 with hA2
      injection hA2 with hA3 hA4
      subst hA3
      subst hA4
      refine ⟨_, hv1, hg2, fun i hi => ?_, fun o => ?_⟩
      · have q := hr i hi
        rw [Nat.zero_add] at q
        exact q.block rfl
      · show World.frozen? w1 _ = false
        simp [World.frozen?, hhg]
  generalize w1.drewN nq = w2 at *
  clear hR1 hRA hd0 hd1 hb1 h1 ho1
  go_wp2
  go_loopw [6] (fun i wr => ∃ j : Nat, j ≤ K ∧ i = .int .i64 j ∧ Below w.heap.size w wr ∧ ∃ X' : List Rec, X'.length = K ∧ (X' ≠ [] → ∃ g1, A1 = some ⟨g1, 0, none⟩ ∧ w.heap.size ≤ g1 ∧ (∀ i (hi : i < X'.length), RecAt wr g1 (i * 12) (X'[i]'hi)) ∧ ∀ o, wr.frozen? ⟨g1, o, none⟩ = false)) (fun i _ => K - (intOf i).toNat)
  case atStart => exact ⟨0, Nat.zero_le _, rfl, hbw2, X, hll, hrow⟩
  case round =>
    obtain ⟨j, hj, rfl, hbr, X', hX', hrw⟩ := hrel
    by_cases hlt : j < K
    · obtain ⟨g1, rfl, hg1, hrec, hfz⟩ := hrw (fun e => by rw [e] at hX'; simp at hX'; omega)
      have hjX : j < X'.length := by omega
      have hrj := hrec j hjX
      obtain ⟨r0, r1, _⟩ := hrj
      have hjK : (j : Int) < K := by omega
      have hj0 : (0 : Int) ≤ (j : Int) := by omega
      have hf1 := hfz (j * 12 + 1)
      have HREC := Lib.hid hrec
      have HFZ := Lib.hid hfz
      clear hrec hfz hrow
      go_wp2
      go_roundw
      case rel =>
        refine ⟨j + 1, by omega, by go_num, hbr.setCell hg1 _, X'.set j { (X'[j]'hjX) with tm := IntKind.u64.wrap ((X'[j]'hjX).tm + 1) }, by simpa using hX', fun _ => ⟨g1, rfl, hg1, fun i hi => ?_, fun o => by rw [World.frozen?_setCell]; exact HFZ.out o⟩⟩
        rw [List.getElem_set]
        by_cases hij : j = i
        · subst hij
          rw [if_pos rfl]
          exact setTm (HREC.out j hjX) _
        · rw [if_neg hij]
          exact setTm_other (HREC.out i (by simpa using hi)) (fun e => hij e.symm) _
      case measure => simp [intOf]; omega
    · have hjK : j = K := by omega
      subst hjK
      have hr := h.below hbr
      clear hrw hrow
      go_wp2_with fail
      refine (CAll wr hr).mono ?_
      rintro e w3 ⟨v3, rfl, ho3, hb3⟩
      obtain ⟨A3, cap3, rfl, hcap3⟩ := own_slice ho3
      have h3 := hr.below hb3
      have hR3 : RowAt w3 w3.heap.size A3 X := by rw [← hll] at ho3; exact rowAt_own ho3
      have hbw3 : Below w.heap.size w w3 := hbr.trans (hb3.mono hbr.size)
      go_wp2_with fail
      refine (CThere w3 h3).mono ?_
      rintro e w4 ⟨rfl, q1, rfl⟩
      go_wp2_with fail
      refine (CSame _ _ _ _ (hR3.below (below_drew w3 _ _)) (h3.row.below (below_drew w3 _ _))).mono ?_
      rintro e w5 ⟨rfl, q2, rfl⟩
      go_wp2
      go_ret
      exact ⟨rfl, hbw3.trans (below_drew w3 _ _)⟩
end Go.Proofs.Ythmjhepjlgcgfaa
