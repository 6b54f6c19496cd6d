/- The law's own put: both rings take one more record, and agree as before, by a walk; what becomes of the rings by it. -/
import Derived.Test.YthmjhepjlgcgfaaAuditLawSame
namespace Go.Proofs.Ythmjhepjlgcgfaa
open Go.RowKit
set_option linter.unusedVariables false
set_option linter.unusedSimpArgs false

theorem apart_own {S : Nat → Prop} {w w' : World} {B : Nat} {e : TypeId} {size : Nat} {v : Value} {n : Nat} {xs : List Value} (h : w.ownsRow B e size v n xs) (hA : Apart S w w') (hS : ∀ k, S k → k < B) : w'.ownsRow B e size v n xs := by
  refine ⟨h.1, ?_⟩
  rcases h.2 with hn | ⟨g, cap, cur, hv, hbg, hg, rest⟩
  · exact .inl hn
  · exact .inr ⟨g, cap, cur, hv, hbg, (hA.block g (Array.getElem?_eq_some_iff.1 hg).1 (fun hs => by have := hS g hs; omega)).trans hg, rest⟩

theorem ring_blocks {w w' : World} {b g n m : Nat} {L : Nat → Rec} (h : Ring w b g n L m) (h1 : w'.heap[b]? = w.heap[b]?) (h2 : w'.heap[g]? = w.heap[g]?) : Ring w' b g n L m :=
  ⟨h.head.block h1, fun i hi => (h.at' i hi).block h2, h.ne, h.lo, h.hi, h.seq, fun o => (World.frozen?_of_block (w := w) (a := ⟨b, o, none⟩) h1).trans (h.frb o), fun o => (World.frozen?_of_block (w := w) (a := ⟨g, o, none⟩) h2).trans (h.frg o)⟩

theorem live_upd (L : Nat → Rec) (n : Nat) (W : List Rec) (r : Rec) (hn : 1 ≤ n) (h : live L n W.length = W.drop (W.length - n)) : live (updR L ((W.length + 1) % n) r) n (W.length + 1) = (W ++ [r]).drop ((W ++ [r]).length - n) := by
  apply List.ext_getElem
  · simp [live]; omega
  · intro i h1 h2
    have hi : i < min (W.length + 1) n := by simpa [live] using h1
    simp only [live, List.getElem_map, List.getElem_range, List.getElem_drop, List.length_append, List.length_singleton]
    have hm : W.length + 1 - min (W.length + 1) n = W.length + 1 - n := by omega
    rw [hm]
    by_cases hl : W.length + 1 - n + i = W.length
    · rw [show W.length + 1 - n + 1 + i = W.length + 1 from by omega]
      rw [List.getElem_append_right (by omega)]
      simp [updR, hl]
    · rw [List.getElem_append_left (by omega)]
      have hne : (W.length + 1 - n + 1 + i) % n ≠ (W.length + 1) % n := by
        intro e
        have hd := Nat.sub_mod_eq_zero_of_mod_eq e.symm
        rw [Nat.mod_eq_of_lt (by omega)] at hd
        omega
      unfold updR
      rw [if_neg hne]
      obtain ⟨k, hk⟩ : ∃ k, W.length - n + k = W.length + 1 - n + i ∧ k < min W.length n := by
        by_cases hw : n ≤ W.length
        · exact ⟨i + 1, by omega, by omega⟩
        · exact ⟨i, by omega, by omega⟩
      have q : (live L n W.length)[k]'(by simp [live]; omega) = (W.drop (W.length - n))[k]'(by simp; omega) := by simp only [h]
      simp only [live, List.getElem_map, List.getElem_range, List.getElem_drop] at q
      rw [show W.length - min W.length n = W.length - n from by omega] at q
      rw [show W.length + 1 - n + 1 + i = W.length - n + 1 + k from by omega, q]
      congr 1
      omega

set_option maxRecDepth 100000 in
set_option maxHeartbeats 2000000 in
theorem put_both (b g c B n : Nat) (L : Nat → Rec) (v : Value) (W : List Rec) (r : Rec) (w : World) (h : Both w b g c B n L v W) (hW : W.length < 1000) (hbc : b ≠ c ∧ g ≠ c) :
    Calls Try.prog 12 #[.pointer (some ⟨b, 0, none⟩), .pointer (some ⟨c, 0, none⟩), .agg #[.int .u64 r.sq, .int .u64 r.tm, .int .i64 r.gi, .int .u64 r.gg, .int .i64 r.p, .int .i64 r.kd, .int .u64 r.a0, .int .u64 r.a1, .int .u64 r.a2, .int .u64 r.a3, .int .u64 r.a4, .int .i64 r.cd]] w fun e w' =>
      e = .returned (.bool true) ∧ (∃ L' v', Both w' b g c B n L' v' (W ++ [{ r with sq := ((W.length + 1 : Nat) : Int) }])) ∧ Apart (fun k => k = b ∨ k = g ∨ k = c) w w' := by
  have hbs : b < w.heap.size := Nat.lt_of_lt_of_le h.hb h.hB
  have hgs : g < w.heap.size := Nat.lt_of_lt_of_le h.hg h.hB
  have hcs : c < w.heap.size := Nat.lt_of_lt_of_le h.ref.lt h.hB
  go_enter Try.func12, Try.ntmps12
  go_wp2_with fail
  obtain ⟨w2, hw2⟩ : ∃ w2 : World, w2 = w.alloc (.cells #[.int .u64 r.sq, .int .u64 r.tm, .int .i64 r.gi, .int .u64 r.gg, .int .i64 r.p, .int .i64 r.kd, .int .u64 r.a0, .int .u64 r.a1, .int .u64 r.a2, .int .u64 r.a3, .int .u64 r.a4, .int .i64 r.cd] 42) := ⟨_, rfl⟩
  have hb2 : Below w.heap.size w w2 := by rw [hw2]; exact (Below.refl _ w).alloc (Nat.le_refl _) _
  have hr2 : RecAt w2 w.heap.size 0 r := by rw [hw2]; exact recAt_new w r
  have hz2 : w2.heap.size = w.heap.size + 1 := by rw [hw2]; simp
  rw [← hw2]
  clear hw2
  have HZ := Lib.hid hz2
  clear hz2
  have h2 : Both w2.drew b g c B n L v W := h.below hb2.drew
  obtain ⟨b0, b1, b2, b3, b4, b5, b6, b7, b8, b9, b10, b11⟩ := rec0 hr2
  have hsz2 : w.heap.size < w2.drew.heap.size := by show _ < w2.heap.size; rw [HZ.out]; omega
  have HS := Lib.hid hsz2
  clear hsz2
  go_region_held3 (fun w' => w'.cell? ⟨w.heap.size, 0, none⟩ = some (.int .u64 r.sq) ∧ w'.cell? ⟨w.heap.size, 1, none⟩ = some (.int .u64 r.tm) ∧ w'.cell? ⟨w.heap.size, 2, none⟩ = some (.int .i64 r.gi) ∧ w'.cell? ⟨w.heap.size, 3, none⟩ = some (.int .u64 r.gg) ∧ w'.cell? ⟨w.heap.size, 4, none⟩ = some (.int .i64 r.p) ∧ w'.cell? ⟨w.heap.size, 5, none⟩ = some (.int .i64 r.kd) ∧ w'.cell? ⟨w.heap.size, 6, none⟩ = some (.int .u64 r.a0) ∧ w'.cell? ⟨w.heap.size, 7, none⟩ = some (.int .u64 r.a1) ∧ w'.cell? ⟨w.heap.size, 8, none⟩ = some (.int .u64 r.a2) ∧ w'.cell? ⟨w.heap.size, 9, none⟩ = some (.int .u64 r.a3) ∧ w'.cell? ⟨w.heap.size, 10, none⟩ = some (.int .u64 r.a4) ∧ w'.cell? ⟨w.heap.size, 11, none⟩ = some (.int .i64 r.cd)) (go_keep) (first | (go_at_call 26; refine (put_row b g n L W.length r _ h2.ring ⟨Nat.lt_trans hbs HS.out, Nat.lt_trans hgs HS.out⟩ (by omega)).mono ?_; rintro e w3 ⟨rfl, hR3, hA3⟩; (obtain ⟨d0, d1, d2, d3, d4, d5, d6, d7, d8, d9, d10, d11⟩ := rec0 (hr2.block (hA3.block w.heap.size HS.out (by omega)))); (have hRef3 : RefR w3 c B n v W := ⟨(hA3.block c (Nat.lt_trans hcs HS.out) (by omega)).trans h2.ref.blk, apart_own h2.ref.own hA3 (fun k hk => by rcases hk with rfl | rfl; exact h.hb; exact h.hg), h2.ref.lt⟩); (have hB3 : B ≤ w3.heap.size := Nat.le_trans h2.hB hA3.size)) | (go_at_call 29; refine (refPut_row c B n v W r _ hRef3 hB3 (by omega)).mono ?_; rintro e w4 ⟨rfl, ⟨v', hRef4⟩, hA4⟩; (obtain ⟨f0, f1, f2, f3, f4, f5, f6, f7, f8, f9, f10, f11⟩ := rec0 ((hr2.block (hA3.block w.heap.size HS.out (by omega))).block (hA4.block w.heap.size (Nat.lt_of_lt_of_le HS.out hA3.size) (by omega))))))
  go_wp2
  go_ret
  have hcw3 : w2.drew.heap.size ≤ w3.heap.size := hA3.size
  have hb3 : b < w3.heap.size := Nat.lt_of_lt_of_le (Nat.lt_trans hbs HS.out) hcw3
  have hg3 : g < w3.heap.size := Nat.lt_of_lt_of_le (Nat.lt_trans hgs HS.out) hcw3
  have hR4 := ring_blocks hR3 (hA4.block b hb3 hbc.1) (hA4.block g hg3 hbc.2)
  refine ⟨rfl, ⟨_, v', ⟨by simpa using hR4, by simpa using hRef4, by simpa using live_upd L n W _ h.ring.lo h.agree, h.hb, h.hg, Nat.le_trans hB3 hA4.size, by simp; omega⟩⟩, ?_⟩
  refine ⟨hA4.os.trans (hA3.os.trans hb2.os), hA4.tape.trans (hA3.tape.trans hb2.tape), hA4.output.trans (hA3.output.trans hb2.output), Nat.le_trans hb2.size (Nat.le_trans hA3.size hA4.size), fun k hk hS => ?_⟩
  have hk2 : k < w2.drew.heap.size := Nat.lt_trans hk HS.out
  exact (hA4.block k (Nat.lt_of_lt_of_le hk2 hcw3) (fun e => hS (.inr (.inr e)))).trans ((hA3.block k hk2 (fun e => hS (by rcases e with e | e; exact .inl e; exact .inr (.inl e)))).trans (hb2.block k hk))
end Go.Proofs.Ythmjhepjlgcgfaa
