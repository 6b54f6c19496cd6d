/- Put of the reference's ring, by a walk. -/
import Derived.Test.YthmjhepjlgcgfaaAuditPut
import Derived.Test.YthmjhepjlgcgfaaWords
import Derived.Deep.RegionLaw
namespace Go.Proofs.Ythmjhepjlgcgfaa
open Go.RowKit
set_option linter.unusedVariables false

/-- The reference's ring: all records, in a row of the call's own. -/
structure RefR (w : World) (c B n : Nat) (v : Value) (W : List Rec) : Prop where
  blk : Blk w c 31 #[v, .int .i64 n]
  own : w.ownsRow B 42 12 v W.length (W.flatMap Rec.vs)
  lt : c < B

theorem own_slice {w : World} {B n : Nat} {e : TypeId} {v : Value} {xs : List Value} (h : w.ownsRow B e 12 v n xs) : ∃ A cap, v = .slice A n cap ∧ n ≤ cap := by
  rcases h.2 with ⟨rfl, rfl⟩ | ⟨g, cap, cur, hv, _, _, hc, _⟩
  · exact ⟨none, 0, rfl, Nat.le_refl _⟩
  · exact ⟨_, cap, hv, hc⟩

theorem own_mono {w : World} {B B' n : Nat} {e : TypeId} {v : Value} {xs : List Value} (h : w.ownsRow B' e 12 v n xs) (hB : B ≤ B') : w.ownsRow B e 12 v n xs := by
  refine ⟨h.1, ?_⟩
  rcases h.2 with h0 | ⟨g, cap, cur, hv, hg, rest⟩
  · exact .inl h0
  · exact .inr ⟨g, cap, cur, hv, Nat.le_trans hB hg, rest⟩

theorem flat_one (W : List Rec) : ∀ u ∈ W.flatMap Rec.vs, u.oneCell' = true := by
  intro u hu
  obtain ⟨r, _, hr⟩ := List.mem_flatMap.1 hu
  exact rec_one r u hr

theorem reads_rec {w : World} {B g : Nat} {r : Rec} (h : RecAt w g 0 r) (hB : g < B) : Reads w B 12 (some ⟨g, 0, none⟩) 1 r.vs :=
  ⟨by simp [Rec.vs], fun _ => ⟨_, rfl, hB, rec_news h⟩⟩

set_option maxRecDepth 100000 in
set_option maxHeartbeats 2000000 in
theorem refPut_row (c B n : Nat) (v : Value) (W : List Rec) (r : Rec) (w : World) (h : RefR w c B n v W) (hB : B ≤ w.heap.size) (hW : W.length ≤ 1000) :
    Calls Try.prog 29 #[.pointer (some ⟨c, 0, none⟩), .agg #[.int .u64 r.sq, .int .u64 r.tm, .int .i64 r.gi, .int .u64 r.gg, .int .i64 r.p, .int .i64 r.kd, .int .u64 r.a0, .int .u64 r.a1, .int .u64 r.a2, .int .u64 r.a3, .int .u64 r.a4, .int .i64 r.cd]] w fun e w' =>
      e = .returned (.int .u64 ((W.length + 1 : Nat) : Int)) ∧ (∃ v', RefR w' c B n v' (W ++ [{ r with sq := ((W.length + 1 : Nat) : Int) }])) ∧ Apart (fun k => k = c) w w' := by
  obtain ⟨hblk, hown, hlt⟩ := h
  obtain ⟨A, cap, rfl, hcap⟩ := own_slice hown
  obtain ⟨i0, hi, hz0, hz1, hz2⟩ := info_parts infoRec
  have hc0 := hblk.cell 0
  have hc1 := hblk.cell 1
  have hcf := hblk.frozen 0
  simp only [List.getElem?_toArray, List.getElem?_cons_zero, List.getElem?_cons_succ] at hc0 hc1
  go_enter Try.func29, Try.ntmps29
  have hcl : c < w.heap.size := by omega
  go_wp2_with fail
  obtain ⟨r', hr'⟩ : ∃ r' : Rec, r' = { r with sq := (W.length : Int) + 1 } := ⟨_, rfl⟩
  obtain ⟨w2, hw2⟩ : ∃ w2 : World, w2 = w.alloc (.cells #[.int .u64 r'.sq, .int .u64 r'.tm, .int .i64 r'.gi, .int .u64 r'.gg, .int .i64 r'.p, .int .i64 r'.kd, .int .u64 r'.a0, .int .u64 r'.a1, .int .u64 r'.a2, .int .u64 r'.a3, .int .u64 r'.a4, .int .i64 r'.cd] 42) := ⟨_, rfl⟩
  have hb2 : Below w.heap.size w w2 := by rw [hw2]; exact (Below.refl _ w).alloc (by omega) _
  have hr2 : RecAt w2 w.heap.size 0 r' := by rw [hw2]; exact recAt_new w r'
  obtain ⟨H, hH⟩ : ∃ H, H = w2.heap.size := ⟨_, rfl⟩
  have hHw : H = w.heap.size + 1 := by rw [hH, hw2]; simp
  have HR2 := (Reads.of_own hown).below hb2
  have hd0 := (hb2.cell (p := ⟨c, 0, none⟩) hcl).trans hc0
  have hdf := (hb2.frozen (p := ⟨c, 0, none⟩) hcl).trans hcf
  obtain ⟨b0, b1, b2, b3, b4, b5, b6, b7, b8, b9, b10, b11⟩ := rec0 hr2
  have e1 : Rec.sq r' = (W.length : Int) + 1 := by rw [hr']
  have hw2' : w2 = w.alloc (.cells #[.int .u64 ((W.length : Int) + 1), .int .u64 r.tm, .int .i64 r.gi, .int .u64 r.gg, .int .i64 r.p, .int .i64 r.kd, .int .u64 r.a0, .int .u64 r.a1, .int .u64 r.a2, .int .u64 r.a3, .int .u64 r.a4, .int .i64 r.cd] 42) := by rw [hw2, hr']
  rw [← hw2']
  clear hw2 hw2'
  have HR' := Lib.hid hr'
  have HH := Lib.hid hH
  have HE := Lib.hid e1
  clear hr' hH e1 hc0 hcf hc1
  have hn1 := World.new_ne w2 _ hd0
  have hn2 := World.new_ne w2 _ b0
  have hcH : c < H := by omega
  have hbH : w.heap.size < H := by omega
  have hcw2 : c < w2.heap.size := by rw [← HH.out]; exact hcH
  have hbw2 : w.heap.size < w2.heap.size := by rw [← HH.out]; exact hbH
  go_region_law (first | (refine step_append_any _ rfl (.const (.slice none 0 0)) (.tmp 17) 22 rfl H 42 i0 _ 12 96 Try.underlying22 hi hz0 hz1 hz2 rfl (by decide) (.slice none 0 0) 0 [] rfl (World.ownsRow_nil _ _ _ _) w.heap.size A W.length cap (W.flatMap Rec.vs) rfl (by first | exact HR2 | exact HR2.alloc (by have := hb2.size; simp; omega) _) (flat_one W) (by unfold maxLen; omega) (by omega) (by rw [HH.out]; simp) ?_; intro v1 w1 hown1 hg1 hat1; (have hB1 : Below H w2 w1 := (by first | exact ((Below.refl _ w2).drew).grown hg1 (by rw [HH.out]; simp) (fun k e => by cases e) | exact (((Below.refl H w2).drew).alloc (by rw [HH.out]; simp) _).grown hg1 (by rw [HH.out]; simp) (fun k e => by cases e) | exact (((Below.refl H w2).alloc (by rw [HH.out]; simp) _).drew).grown hg1 (by rw [HH.out]; simp) (fun k e => by cases e))); (obtain ⟨d0, d1, d2, d3, d4, d5, d6, d7, d8, d9, d10, d11⟩ := rec0 (hr2.block (hB1.block w.heap.size hbH))); (have hn3 := World.new_ne w1 _ d0); (have hsz1 : H ≤ w1.heap.size := by have := hB1.size; rw [HH.out]; exact this)) | (refine step_append_any _ rfl (.tmp 18) (.tmp 20) 22 rfl H 42 i0 _ 12 96 Try.underlying22 hi hz0 hz1 hz2 rfl (by decide) v1 (0 + W.length) ([] ++ W.flatMap Rec.vs) rfl (hown1.alloc _) (w1.heap.size + 1) (some ⟨w1.heap.size, 0, none⟩) 1 1 r'.vs rfl (reads_rec (recAt_new w1 r') (by omega)) (rec_one _) (by unfold maxLen; omega) (by omega) (by simp; omega) ?_; intro v2 w3 hown2 hg2 hat2; (obtain ⟨A2, cap2, rfl, hcap2⟩ := own_slice hown2); (have hB2 : Below H w2 w3 := (hB1.alloc hsz1 _).grown hg2 (by simp; omega) (fun k e => (hown1.lt k e).1)); (have hd3 := (hB2.cell (p := ⟨c, 0, none⟩) hcH).trans hd0); (have hf3 := (hB2.frozen (p := ⟨c, 0, none⟩) hcH).trans hdf)) | (refine step_append_any _ rfl (.tmp 18) (.tmp 20) 22 rfl H 42 i0 _ 12 96 Try.underlying22 hi hz0 hz1 hz2 rfl (by decide) v1 (0 + W.length) ([] ++ W.flatMap Rec.vs) rfl hown1 (w2.heap.size + 1) (some ⟨w2.heap.size, 0, none⟩) 1 1 r'.vs rfl (by first | exact reads_rec ((recAt_new w2.drew r').block (hg1.block w2.heap.size (by simp [World.drew]) (fun k => by cases k))) (by omega) | exact reads_rec ((recAt_new w2 r').block (hg1.block w2.heap.size (by simp [World.drew]) (fun k => by cases k))) (by omega)) (rec_one _) (by unfold maxLen; omega) (by omega) (by omega) ?_; intro v2 w3 hown2 hg2 hat2; (obtain ⟨A2, cap2, rfl, hcap2⟩ := own_slice hown2); (have hB2 : Below H w2 w3 := hB1.grown hg2 hsz1 (fun k e => (hown1.lt k e).1)); (have hd3 := (hB2.cell (p := ⟨c, 0, none⟩) hcH).trans hd0); (have hf3 := (hB2.frozen (p := ⟨c, 0, none⟩) hcH).trans hdf)))
  all_goals
    obtain ⟨w5, hw5⟩ : ∃ w5 : World, w5 = w3.setCell ⟨c, 0, none⟩ (.slice A2 (W.length + 1) cap2) := ⟨_, rfl⟩
    have hb5 : Blk w5 c 31 #[.slice A2 (W.length + 1) cap2, .int .i64 n] := by
      rw [hw5]
      exact (((hblk.below hb2 hcl).below hB2 hcH)).set_ 0 _
    have ho5 : w5.ownsRow B 42 12 (.slice A2 (W.length + 1) cap2) (W ++ [r']).length ((W ++ [r']).flatMap Rec.vs) := by
      rw [hw5]
      have q := ownsRow_setCell_below (own_mono hown2 (show B ≤ H by omega)) (a := ⟨c, 0, none⟩) hlt (.slice A2 (W.length + 1) cap2)
      simpa [Nat.zero_add] using q
    have hA5 : Apart (fun k => k = c) w w5 := by
      rw [hw5]
      exact ⟨hB2.os.trans hb2.os, hB2.tape.trans hb2.tape, hB2.output.trans hb2.output, by have h1 := hb2.size; have h2 := hB2.size; simp [World.setCell]; omega, fun k hk hS => (Below.heap_setCell _ _ _ _ hS).trans ((hB2.block k (by omega)).trans (hb2.block k hk))⟩
    have hx5 : w5.cell? ⟨w.heap.size, 0, none⟩ = some (.int .u64 r'.sq) := by
      rw [hw5]
      exact (World.cell?_setCell_far _ _ _ _ (show c ≠ w.heap.size by omega)).trans ((hB2.cell (p := ⟨w.heap.size, 0, none⟩) hbH).trans b0)
    rw [← hw5]
    clear hw5
    go_wp2
    go_ret
    refine ⟨?_, ⟨_, by rw [← HR'.out]; exact ⟨hb5, ho5, hlt⟩⟩, hA5⟩
    rw [← HE.out]
    rfl
end Go.Proofs.Ythmjhepjlgcgfaa
