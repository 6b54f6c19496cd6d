/- Of the following, one behind the other: Capability tables: Move, by walk. Capability tables: New, Len, Room, by walks. Capability tables: Parent, by walk. slices.Contains over whole numbers, by walk. Capability tables: Under, by walk. The reference's May, by walk. -/
import Derived.Test.YtbknmfegckeogaaPk9
import Derived.Deep.CutRange
import Derived.Test.YtbknmfegckeogaaPk7
/- Capability tables: Move, by walk. -/
namespace Go.Proofs.Ytbknmfegckeogaa
open Go.RowKit Go.Maps
set_option linter.unusedVariables false
set_option linter.unusedSimpArgs false

section
variable {w : World} {A : Ad} {S : Sp}
def moveFs (n : Nat) : List (Nat × Array Value) := [(63, #[.pointer (some ⟨n, 0, none⟩), .pointer (some ⟨n + 1, 0, none⟩), .pointer (some ⟨n + 2, 0, none⟩)]), (64, #[.pointer (some ⟨n, 0, none⟩), .pointer (some ⟨n + 1, 0, none⟩), .pointer (some ⟨n + 3, 0, none⟩)])]
structure MoveBox (A : Ad) (n : Nat) (g s tq : Int) (W : World) : Prop where
  b0 : Blk W n 23 #[.pointer (some ⟨A.b, 0, none⟩)]
  b1 : Blk W (n + 1) 3 #[.int .i64 g]
  b2 : Blk W (n + 2) 3 #[.int .i64 s]
  b3 : Blk W (n + 3) 3 #[.int .i64 tq]
  fs : FnsAt W (n + 4) (moveFs n)
  lt : n + 4 < W.heap.size
def movePre (S : Sp) (A : Ad) (g s tq : Int) (w : World) (z : Int) (w' : World) : Prop := Below w.heap.size w w' ∧ MoveBox A w.heap.size g s tq w' ∧ ((z = S.full g s ∧ z ≠ 0) ∨ (S.full g s = 0 ∧ z = S.freeE g tq))
def moveInv (S : Sp) (A : Ad) (g s tq : Int) (w : World) (i : Nat) (W : World) : Prop := Below w.heap.size w W ∧ MoveBox A w.heap.size g s tq W ∧ (1 ≤ i → S.full g s = 0) ∧ (2 ≤ i → S.freeE g tq = 0)
theorem move_first (h : SpAt w A S) (hl : Lim S) (g s tq : Int) (W : World) (hb : Below w.heap.size w W) (hx : MoveBox A w.heap.size g s tq W) :
    Calls Try.prog 62 #[.slice (some ⟨w.heap.size + 4, 0, none⟩) 2 2] W fun e w' => ∃ z, e = .returned (.int .i64 z) ∧ movePre S A g s tq w z w' := by
  refine first_is (moveFs w.heap.size) (by show 2 ≤ 10; omega) (w.heap.size + 4) 2 (moveInv S A g s tq w) (fun z w' => movePre S A g s tq w z w') ?_ ?_ ?_ ?_ W ⟨hb, hx, fun h => by omega, fun h => by omega⟩
  · intro i w' hi hI
    exact hI.2.1.fs
  · intro i hi w'
    have hi3 : i < 2 := hi
    rcases i with _ | _ | i
    · exact run_callFunc_plain Try.func63 (by kernel_rfl) (by kernel_rfl) _ _
    · exact run_callFunc_plain Try.func64 (by kernel_rfl) (by kernel_rfl) _ _
    · omega
  · intro i hi w' hI
    have hi3 : i < 2 := hi
    obtain ⟨hbw, hB, hf1, hf2⟩ := hI
    have hS := h.below hbw
    rcases i with _ | _ | i
    · refine (move1 hS hl (hB.b0.cell 0) (hB.b1.cell 0) (hB.b2.cell 0)).mono ?_
      rintro e w2 ⟨rfl, rfl⟩
      exact ⟨_, rfl, fun hz => ⟨hbw, hB, .inl ⟨rfl, hz⟩⟩, fun hz => ⟨hbw, hB, fun _ => hz, fun h2 => by omega⟩⟩
    · refine (move2 hS hl (hB.b0.cell 0) (hB.b1.cell 0) (hB.b3.cell 0)).mono ?_
      rintro e w2 ⟨rfl, rfl⟩
      exact ⟨_, rfl, fun hz => ⟨hbw, hB, .inr ⟨hf1 (by omega), rfl⟩⟩, fun hz => ⟨hbw, hB, fun _ => hf1 (by omega), fun _ => hz⟩⟩
    · omega
  · intro w' hI
    exact ⟨hI.1, hI.2.1, .inr ⟨hI.2.2.1 (by show 1 ≤ 2; omega), (hI.2.2.2 (Nat.le_refl 2)).symm⟩⟩
theorem move_mem {g s tq : Int} {P : En → Prop} : (∃ e ∈ (S.move g s tq).L, P e) ↔ ∃ e ∈ S.L, P (if e.isAt g s = true then { e with s := tq } else e) := by
  constructor
  · rintro ⟨e, he, hp⟩
    obtain ⟨a, ha, rfl⟩ := List.mem_map.1 he
    exact ⟨a, ha, hp⟩
  · rintro ⟨a, ha, hp⟩
    exact ⟨_, List.mem_map_of_mem ha, hp⟩
/-- What the three statements behind the tests do tq the maps. -/
theorem move_maps {W : World} (h : SpAt W A S) (hl : Lim S) (hJ : J S) {g s tq : Int} (ht : S.there g s = true) {x : En} (hf : fnd S.L g s = some x) (hfr : S.freeE g tq = 0) : ∃ (c1 c2 : Nat) (w2 w3 w4 w5 w6 : World),
    ((Builtin.delete_ #[70, 91] 0 #[.map (some A.mi), spotV g s]).run Try.prog W.drew = .ok (.tuple #[]) w2 ∧
     (Instr.mapEntry 70 (.map (some A.mi)) (spotV g tq)).run Try.prog w2.drew = .ok (.tuple #[.int .i64 0, goInt c1]) w3 ∧
     (Instr.entryStore 70 (.map (some A.mi)) (goInt c1) (.int .i64 (x.nd : Int))).run Try.prog w3 = .ok () w4 ∧
     (Instr.mapEntry 71 (.map (some A.ma)) (.int .i64 (x.nd : Int))).run Try.prog w4 = .ok (.tuple #[spotV g s, goInt c2]) w5 ∧
     (Instr.entryStore 71 (.map (some A.ma)) (goInt c2) (spotV g tq)).run Try.prog w5 = .ok () w6) ∧
    (W.drew.grownBy w2 (some A.mi) ∧ w2.drew.grownBy w3 (some A.mi) ∧ w3.grownBy w4 (some A.mi) ∧ w4.grownBy w5 (some A.ma) ∧ w5.grownBy w6 (some A.ma)) ∧ SpAt w6 A (S.move g s tq) := by
  obtain ⟨hx, hxg, hxs⟩ := fnd_mem hf
  have hfr2 : S.there g tq = true ∧ fnd S.L g tq = none := by
    unfold Sp.freeE at hfr
    split at hfr
    · rename_i h1
      split at hfr
      · cases hfr
      · rename_i h2
        exact ⟨h1, by simpa using h2⟩
    · cases hfr
  have hto : tq ≠ s := fun e => by rw [e, hf] at hfr2; cases hfr2.2
  have k1 := there_key hl ht
  have k2 := there_key hl hfr2.1
  have k3 := nd_key hl hJ hx
  have hd : SpAt W.drew A S := h.keep (fun _ _ => rfl) (Nat.le_refl _)
  have at1 : x.isAt g s = true := (isAt_iff _ _ _).2 ⟨hxg, hxs⟩
  have uni : ∀ e ∈ S.L, e.isAt g s = true → e = x := fun e he hh => by
    have := (isAt_iff _ _ _).1 hh
    exact hJ.same_pl he hx (this.1.trans hxg.symm) (this.2.trans hxs.symm)
  obtain ⟨w2, r2, e2, g2, z2⟩ := run_delete (R' := fun a y => inR S.L a y ∧ a ≠ spotV g s) spotKeyed Try.underlying70 hd.mi 0 k1 ⟨x, hx, by rw [hxg, hxs], rfl⟩
    (fun y hh => hh.2 rfl) (fun a ha y => ⟨fun hh => hh.1, fun hh => ⟨hh, ha⟩⟩)
  have e2' : MapR Try.prog 91 w2.drew A.mi (fun a y => inR S.L a y ∧ a ≠ spotV g s) (S.L.length - 1) := e2.block rfl
  obtain ⟨c1, w3, r3, e3, g3, z3⟩ := run_entry_new spotKeyed Try.underlying70 e2' k2
    (fun y hh => by
      obtain ⟨⟨e, he, h1, _⟩, _⟩ := hh
      obtain ⟨h2, h3⟩ := spot_inj h1
      exact fnd_none hfr2.2 e he ⟨h2.symm, h3.symm⟩) (zero_int _)
  obtain ⟨w4, r4, e4, g4, z4⟩ := run_estore (R' := inR (S.move g s tq).L) (v := .int .i64 (x.nd : Int)) e3 70
    (fun y => by
      unfold inR
      rw [move_mem]
      constructor
      · rintro ⟨e, he, h1, h2⟩
        by_cases hh : e.isAt g s = true
        · rw [if_pos hh] at h2
          rw [h2, uni e he hh]
        · rw [if_neg hh] at h1
          obtain ⟨h3, h4⟩ := spot_inj h1
          exact absurd ⟨h3.symm, h4.symm⟩ (fnd_none hfr2.2 e he)
      · rintro rfl
        exact ⟨x, hx, by rw [if_pos at1, ← hxg], by rw [if_pos at1]⟩)
    (fun a ha y => by
      unfold inR
      rw [move_mem]
      constructor
      · rintro ⟨e, he, h1, h2⟩
        by_cases hh : e.isAt g s = true
        · rw [if_pos hh] at h1
          have := (isAt_iff _ _ _).1 hh
          exact absurd (by rw [h1, this.1]) ha
        · rw [if_neg hh] at h1 h2
          refine ⟨⟨e, he, h1, h2⟩, fun hq => hh ?_⟩
          rw [h1] at hq
          exact (isAt_iff _ _ _).2 (spot_inj hq)
      · rintro ⟨⟨e, he, h1, h2⟩, hq⟩
        have hh : ¬ e.isAt g s = true := fun hh => by
          have := (isAt_iff _ _ _).1 hh
          exact hq (by rw [h1, this.1, this.2])
        exact ⟨e, he, by rw [if_neg hh]; exact h1, by rw [if_neg hh]; exact h2⟩)
  have lm := hd.ma.lt
  have lc := hd.mc.lt
  have li := hd.mi.lt
  have zd : w2.drew.heap.size = w2.heap.size := rfl
  have ne1 : A.ma ≠ A.mi := fun e => hd.sm.1 e.symm
  have m2 : MapR Try.prog 3 w2.drew A.ma (atR S.L) S.L.length := MapR.block (w := w2) (hd.ma.block (w' := w2) (grown_blk g2 ne1 lm)) rfl
  have m4 := (m2.block (grown_blk g3 ne1 (by omega))).block (grown_blk g4 ne1 (by omega))
  obtain ⟨c2, w5, r5, e5, g5, z5⟩ := run_entry_old intKeyed Try.underlying71 m4 k3 ⟨x, hx, rfl, rfl⟩
  obtain ⟨w6, r6, e6, g6, z6⟩ := run_estore (R' := atR (S.move g s tq).L) (v := spotV g tq) e5 71
    (fun y => by
      unfold atR
      rw [move_mem]
      constructor
      · rintro ⟨e, he, h1, h2⟩
        have hen : e.nd = x.nd := by
          by_cases hh : e.isAt g s = true
          · rw [uni e he hh]
          · rw [if_neg hh] at h1
            have := int_inj h1
            omega
        have hex := hJ.same_nd he hx hen
        rw [hex, if_pos at1] at h2
        rw [h2, hxg]
      · rintro rfl
        exact ⟨x, hx, by rw [if_pos at1], by rw [if_pos at1, hxg]⟩)
    (fun a ha y => by
      unfold atR
      rw [move_mem]
      constructor
      · rintro ⟨e, he, h1, h2⟩
        by_cases hh : e.isAt g s = true
        · rw [if_pos hh] at h1
          rw [uni e he hh] at h1
          exact absurd h1 ha
        · rw [if_neg hh] at h1 h2
          exact ⟨e, he, h1, h2⟩
      · rintro ⟨e, he, h1, h2⟩
        have hh : ¬ e.isAt g s = true := fun hh => ha (by rw [h1, uni e he hh])
        exact ⟨e, he, by rw [if_neg hh]; exact h1, by rw [if_neg hh]; exact h2⟩)
  have far : ∀ k, k < W.heap.size → k ≠ A.mi → k ≠ A.ma → w6.heap[k]? = W.heap[k]? := by
    intro k hk d1 d2
    have hk1 : k < W.drew.heap.size := hk
    rw [grown_blk g6 d2 (by omega), grown_blk g5 d2 (by omega), grown_blk g4 d1 (by omega), grown_blk g3 d1 (by omega)]
    have q := grown_blk g2 d1 hk
    exact q
  have zw : W.drew.heap.size = W.heap.size := rfl
  have hlen : (S.move g s tq).L.length = S.L.length := by simp [Sp.move]
  have hpos : 0 < S.L.length := List.length_pos_of_mem hx
  rw [hxg, hxs] at r5
  refine ⟨c1, c2, w2, w3, w4, w5, w6, ⟨r2, r3, r4, r5, r6⟩, ⟨g2, g3, g4, g5, g6⟩, ⟨?_, ?_, ?_, ?_, ?_, h.sep, h.sb, h.sm⟩⟩
  · exact (far A.b h.head.lt h.sb.1 h.sb.2.1).trans h.head
  · exact h.prg.keep (fun k hk => far k (own3_lt h.prg hk) (h.sep k hk).2.1 (h.sep k hk).2.2.1) (by omega)
  · rw [hlen]
    have e : S.L.length - 1 + 1 = S.L.length := by omega
    rw [e] at e4
    exact (e4.block (grown_blk g5 h.sm.1 (by omega))).block (grown_blk g6 h.sm.1 (by omega))
  · rw [hlen]
    exact e6
  · rw [hlen]
    refine (h.mc.block (far A.mc h.mc.lt (fun e => h.sm.2.1 e.symm) (fun e => h.sm.2.2 e.symm))).ext fun a y => ?_
    unfold capR
    rw [move_mem]
    constructor
    · rintro ⟨e, he, h1, h2⟩
      refine ⟨e, he, ?_, ?_⟩
      · split at h1 <;> exact h1
      · split at h2 <;> exact h2
    · rintro ⟨e, he, h1, h2⟩
      exact ⟨e, he, by split <;> exact h1, by split <;> exact h2⟩
set_option maxRecDepth 100000 in
set_option maxHeartbeats 4000000 in
theorem move_is (h : SpAt w A S) (hl : Lim S) (hJ : J S) (g s tq : Int) :
    Calls Try.prog 25 #[.pointer (some ⟨A.b, 0, none⟩), .int .i64 g, .int .i64 s, .int .i64 tq] w fun e w' => ∃ z, e = .returned (.int .i64 z) ∧ Apart A.own w w' ∧ ((z = S.full g s ∧ z ≠ 0 ∧ SpAt w' A S) ∨ (S.full g s = 0 ∧ z = S.freeE g tq ∧ z ≠ 0 ∧ SpAt w' A S) ∨ (S.full g s = 0 ∧ S.freeE g tq = 0 ∧ z = 0 ∧ SpAt w' A (S.move g s tq))) := by
  have hF := Lib.hid (move_first h hl g s tq)
  have hmf : ∀ (fn : Fn) (first cap : Array Value) (w : World), (Instr.makeFunc fn first cap).run Try.prog w = .ok (.func fn first cap) w := fun _ _ _ _ => rfl
  have HH := Lib.hid (And.intro h (And.intro hl hJ))
  clear h hl hJ
  go_enter Try.func25, Try.ntmps25
  go_upto_if 16 with (go_at_call 62; refine (hF.out _ (((((Below.refl _ _).alloc (Nat.le_refl _) _).alloc (by simp) _).alloc (by simp; omega) _).alloc (by simp; omega) _ |>.alloc (by simp; omega) _) ⟨((((Blk.new_ rfl _ _).alloc _).alloc _).alloc _).alloc _, (((Blk.new_ (by simp) _ _).alloc _).alloc _).alloc _, ((Blk.new_ (by simp) _ _).alloc _).alloc _, (Blk.new_ (by simp) _ _).alloc _, fns_of (Blk.new_ (by simp) _ _), by simp⟩).mono ?_; rintro e w1 ⟨z, rfl, hp⟩; (have HP := Lib.hid hp); clear hp)
  clear hmf hF
  by_cases hz : z = 0
  · subst z
    obtain ⟨hb1, hB1, hc1⟩ := HP.out
    have hff : S.full g s = 0 ∧ S.freeE g tq = 0 := by
      rcases hc1 with ⟨_, h2⟩ | ⟨h1, h2⟩
      · exact absurd rfl h2
      · exact ⟨h1, h2.symm⟩
    obtain ⟨ht, x, hfx⟩ := full_zero hff.1
    have KEY := fun n => move_maps (W := w1.drewN n) ((HH.out.1.below hb1).drewN n) HH.out.2.1 HH.out.2.2 ht hfx hff.2
    have hS1 := HH.out.1.below hb1
    have lk := fun n => in_yes (hS1.drewN n) HH.out.2.1 ht hfx false
    obtain ⟨-, -, -, -, c4, c5, -⟩ := hS1.cells
    have b0 := hB1.b0.cell 0
    have b1 := hB1.b1.cell 0
    have b2 := hB1.b2.cell 0
    have b3 := hB1.b3.cell 0
    simp only [List.getElem?_toArray, List.getElem?_cons_zero] at b0 b1 b2 b3
    simp only [Bool.false_eq_true, if_false, spotV] at lk
    have hlt5 : A.mi < w.heap.size ∧ A.ma < w.heap.size ∧ A.b ≠ A.mi ∧ A.b ≠ A.ma := ⟨HH.out.1.mi.lt, HH.out.1.ma.lt, HH.out.1.sb.1, HH.out.1.sb.2.1⟩
    have H5 := Lib.hid hlt5
    have HF := Lib.hid (And.intro hff hb1)
    have HKEY := Lib.hid KEY
    clear KEY hlt5 hff hS1 hB1 hb1 hc1 ht hfx HP
    go_wp2_with fail
    go_quiet (fail)
    go_wp2_with fail
    obtain ⟨k1, k2, w2, w3, w4, w5, w6, ⟨r2, r3, r4, r5, r6⟩, ⟨g2, g3, g4, g5, g6⟩, hfin⟩ := HKEY.out nq
    clear HKEY lk
    have HFIN := Lib.hid hfin
    clear hfin
    have st : ∀ {wa wb : World} {m : Nat}, wa.grownBy wb (some m) → (m = A.mi ∨ m = A.ma) → ((wa.cell? ⟨A.b, 4, none⟩ = some (.map (some A.mi)) ∧ wa.cell? ⟨A.b, 5, none⟩ = some (.map (some A.ma))) ∧ wa.cell? ⟨w.heap.size, 0, none⟩ = some (.pointer (some ⟨A.b, 0, none⟩)) ∧ wa.cell? ⟨w.heap.size + 1, 0, none⟩ = some (.int .i64 g) ∧ wa.cell? ⟨w.heap.size + 3, 0, none⟩ = some (.int .i64 tq)) → ((wb.cell? ⟨A.b, 4, none⟩ = some (.map (some A.mi)) ∧ wb.cell? ⟨A.b, 5, none⟩ = some (.map (some A.ma))) ∧ wb.cell? ⟨w.heap.size, 0, none⟩ = some (.pointer (some ⟨A.b, 0, none⟩)) ∧ wb.cell? ⟨w.heap.size + 1, 0, none⟩ = some (.int .i64 g) ∧ wb.cell? ⟨w.heap.size + 3, 0, none⟩ = some (.int .i64 tq)) := by
      intro wa wb m hg hm hh
      obtain ⟨⟨h4, h5⟩, j0, j1, j2⟩ := hh
      have h9 := H5.out
      have nb : A.b ≠ m := by rcases hm with rfl | rfl <;> omega
      have n0 : w.heap.size ≠ m := by rcases hm with rfl | rfl <;> omega
      have n1 : w.heap.size + 1 ≠ m := by rcases hm with rfl | rfl <;> omega
      have n3 : w.heap.size + 3 ≠ m := by rcases hm with rfl | rfl <;> omega
      exact ⟨⟨grown_cell hg nb h4, grown_cell hg nb h5⟩, grown_cell hg n0 j0, grown_cell hg n1 j1, grown_cell hg n3 j2⟩
    have s1 : ((((w1.drewN nq).drew).cell? ⟨A.b, 4, none⟩ = some (.map (some A.mi)) ∧ ((w1.drewN nq).drew).cell? ⟨A.b, 5, none⟩ = some (.map (some A.ma))) ∧ ((w1.drewN nq).drew).cell? ⟨w.heap.size, 0, none⟩ = some (.pointer (some ⟨A.b, 0, none⟩)) ∧ ((w1.drewN nq).drew).cell? ⟨w.heap.size + 1, 0, none⟩ = some (.int .i64 g) ∧ ((w1.drewN nq).drew).cell? ⟨w.heap.size + 3, 0, none⟩ = some (.int .i64 tq)) := ⟨⟨c4, c5⟩, b0, b1, b3⟩
    have s2' := st g2 (.inl rfl) s1
    have s2 : ((w2.drew.cell? ⟨A.b, 4, none⟩ = some (.map (some A.mi)) ∧ w2.drew.cell? ⟨A.b, 5, none⟩ = some (.map (some A.ma))) ∧ w2.drew.cell? ⟨w.heap.size, 0, none⟩ = some (.pointer (some ⟨A.b, 0, none⟩)) ∧ w2.drew.cell? ⟨w.heap.size + 1, 0, none⟩ = some (.int .i64 g) ∧ w2.drew.cell? ⟨w.heap.size + 3, 0, none⟩ = some (.int .i64 tq)) := s2'
    clear s2'
    have s3 : ((w3.cell? ⟨A.b, 4, none⟩ = some (.map (some A.mi)) ∧ w3.cell? ⟨A.b, 5, none⟩ = some (.map (some A.ma))) ∧ w3.cell? ⟨w.heap.size, 0, none⟩ = some (.pointer (some ⟨A.b, 0, none⟩)) ∧ w3.cell? ⟨w.heap.size + 1, 0, none⟩ = some (.int .i64 g) ∧ w3.cell? ⟨w.heap.size + 3, 0, none⟩ = some (.int .i64 tq)) := st g3 (.inl rfl) s2
    have s4 : ((w4.cell? ⟨A.b, 4, none⟩ = some (.map (some A.mi)) ∧ w4.cell? ⟨A.b, 5, none⟩ = some (.map (some A.ma))) ∧ w4.cell? ⟨w.heap.size, 0, none⟩ = some (.pointer (some ⟨A.b, 0, none⟩)) ∧ w4.cell? ⟨w.heap.size + 1, 0, none⟩ = some (.int .i64 g) ∧ w4.cell? ⟨w.heap.size + 3, 0, none⟩ = some (.int .i64 tq)) := st g4 (.inl rfl) s3
    have s5 : ((w5.cell? ⟨A.b, 4, none⟩ = some (.map (some A.mi)) ∧ w5.cell? ⟨A.b, 5, none⟩ = some (.map (some A.ma))) ∧ w5.cell? ⟨w.heap.size, 0, none⟩ = some (.pointer (some ⟨A.b, 0, none⟩)) ∧ w5.cell? ⟨w.heap.size + 1, 0, none⟩ = some (.int .i64 g) ∧ w5.cell? ⟨w.heap.size + 3, 0, none⟩ = some (.int .i64 tq)) := st g5 (.inr rfl) s4
    have s6 : ((w6.cell? ⟨A.b, 4, none⟩ = some (.map (some A.mi)) ∧ w6.cell? ⟨A.b, 5, none⟩ = some (.map (some A.ma))) ∧ w6.cell? ⟨w.heap.size, 0, none⟩ = some (.pointer (some ⟨A.b, 0, none⟩)) ∧ w6.cell? ⟨w.heap.size + 1, 0, none⟩ = some (.int .i64 g) ∧ w6.cell? ⟨w.heap.size + 3, 0, none⟩ = some (.int .i64 tq)) := st g6 (.inr rfl) s5
    have HG := Lib.hid (And.intro g2 (And.intro g3 (And.intro g4 (And.intro g5 g6))))
    simp only [spotV, goInt] at r2 r3 r4 r5 r6
    clear st g2 g3 g4 g5 g6
    have q4 : (w1.drewN nq).cell? ⟨A.b, 4, none⟩ = some (.map (some A.mi)) := c4
    have p0 : (w1.drewN nq).cell? ⟨w.heap.size, 0, none⟩ = some (.pointer (some ⟨A.b, 0, none⟩)) := b0
    have p1 : (w1.drewN nq).cell? ⟨w.heap.size + 1, 0, none⟩ = some (.int .i64 g) := b1
    have p2 : (w1.drewN nq).cell? ⟨w.heap.size + 2, 0, none⟩ = some (.int .i64 s) := b2
    have HB1 := Lib.hid (show Below w.heap.size w (w1.drewN nq) from ⟨HF.out.2.os, HF.out.2.tape, HF.out.2.output, HF.out.2.size, HF.out.2.block⟩)
    clear c4 c5 b0 b1 b2 b3 s1
    generalize w1.drewN nq = w9 at *
    go_still_tail 7, (by kernel_rfl)
    change wpList _ _ _ _ _ w9.drew
    clear q4 p0 p1 p2
    go_wp2
    refine wp_region_held_drew (S := fun wx => (wx.cell? ⟨A.b, 4, none⟩ = some (.map (some A.mi)) ∧ wx.cell? ⟨A.b, 5, none⟩ = some (.map (some A.ma))) ∧ wx.cell? ⟨w.heap.size, 0, none⟩ = some (.pointer (some ⟨A.b, 0, none⟩)) ∧ wx.cell? ⟨w.heap.size + 1, 0, none⟩ = some (.int .i64 g) ∧ wx.cell? ⟨w.heap.size + 3, 0, none⟩ = some (.int .i64 tq)) (by kernel_rfl) s2 (fun hHeld => ?_)
    refine wpAnyH_take (i := 0) (v := ?_) rfl (by kernel_rfl) (by kernel_rfl) (by kernel_rfl) (fun _ _ _ h => h) (Or.inl ⟨by kernel_rfl, by (intro w' hSw; obtain ⟨⟨hSa, hSb⟩, hSc, hSd, hSe⟩ := hSw; go_simp; first | done | (with_reducible rfl) | rfl)⟩) hHeld ?_
    (try simp only [Act.put, List.getElem_toArray, List.getElem_cons_zero, List.getElem_cons_succ, List.setIfInBounds_toArray, List.set_cons_zero, List.set_cons_succ])
    refine wpAnyH_take (i := 1) (v := ?_) rfl (by kernel_rfl) (by kernel_rfl) (by kernel_rfl) (fun _ _ _ h => h) (Or.inl ⟨by kernel_rfl, by (intro w' hSw; obtain ⟨⟨hSa, hSb⟩, hSc, hSd, hSe⟩ := hSw; go_simp; first | done | (with_reducible rfl) | rfl)⟩) hHeld ?_
    (try simp only [Act.put, List.getElem_toArray, List.getElem_cons_zero, List.getElem_cons_succ, List.setIfInBounds_toArray, List.set_cons_zero, List.set_cons_succ])
    refine wpAnyH_take (i := 2) (v := ?_) rfl (by kernel_rfl) (by kernel_rfl) (by kernel_rfl) (fun _ _ _ h => h) (Or.inl ⟨by kernel_rfl, by (intro w' hSw; obtain ⟨⟨hSa, hSb⟩, hSc, hSd, hSe⟩ := hSw; go_simp; first | done | (with_reducible rfl) | rfl)⟩) hHeld ?_
    (try simp only [Act.put, List.getElem_toArray, List.getElem_cons_zero, List.getElem_cons_succ, List.setIfInBounds_toArray, List.set_cons_zero, List.set_cons_succ])
    refine wpAnyH_take (i := 3) (v := ?_) rfl (by kernel_rfl) (by kernel_rfl) (by kernel_rfl) (fun _ _ _ h => h) (Or.inl ⟨by kernel_rfl, by (intro w' hSw; obtain ⟨⟨hSa, hSb⟩, hSc, hSd, hSe⟩ := hSw; go_simp; first | done | (with_reducible rfl) | rfl)⟩) hHeld ?_
    (try simp only [Act.put, List.getElem_toArray, List.getElem_cons_zero, List.getElem_cons_succ, List.setIfInBounds_toArray, List.set_cons_zero, List.set_cons_succ])
    refine wpAnyH_take (i := 4) (v := ?_) rfl (by kernel_rfl) (by kernel_rfl) (by kernel_rfl) (fun _ _ _ h => h) (Or.inl ⟨by kernel_rfl, by (intro w' hSw; obtain ⟨⟨hSa, hSb⟩, hSc, hSd, hSe⟩ := hSw; go_simp; first | done | (with_reducible rfl) | rfl)⟩) hHeld ?_
    (try simp only [Act.put, List.getElem_toArray, List.getElem_cons_zero, List.getElem_cons_succ, List.setIfInBounds_toArray, List.set_cons_zero, List.set_cons_succ])
    refine wpAnyH_take (i := 5) (v := ?_) rfl (by kernel_rfl) (by kernel_rfl) (by kernel_rfl) (fun _ _ _ h => h) (Or.inl ⟨by kernel_rfl, by (intro w' hSw; obtain ⟨⟨hSa, hSb⟩, hSc, hSd, hSe⟩ := hSw; go_simp; first | done | (with_reducible rfl) | rfl)⟩) hHeld ?_
    (try simp only [Act.put, List.getElem_toArray, List.getElem_cons_zero, List.getElem_cons_succ, List.setIfInBounds_toArray, List.set_cons_zero, List.set_cons_succ])
    refine wpAnyH_take (i := 6) (v := ?_) rfl (by kernel_rfl) (by kernel_rfl) (by kernel_rfl) (fun _ _ _ h => h) (Or.inl ⟨by kernel_rfl, by (intro w' hSw; obtain ⟨⟨hSa, hSb⟩, hSc, hSd, hSe⟩ := hSw; go_simp; first | done | (with_reducible rfl) | rfl)⟩) hHeld ?_
    (try simp only [Act.put, List.getElem_toArray, List.getElem_cons_zero, List.getElem_cons_succ, List.setIfInBounds_toArray, List.set_cons_zero, List.set_cons_succ])
    refine wpAnyH_take (i := 7) (v := ?_) rfl (by kernel_rfl) (by kernel_rfl) (by kernel_rfl) (fun _ _ _ h => h) (Or.inl ⟨by kernel_rfl, by (intro w' hSw; obtain ⟨⟨hSa, hSb⟩, hSc, hSd, hSe⟩ := hSw; go_simp; first | done | (with_reducible rfl) | rfl)⟩) hHeld ?_
    (try simp only [Act.put, List.getElem_toArray, List.getElem_cons_zero, List.getElem_cons_succ, List.setIfInBounds_toArray, List.set_cons_zero, List.set_cons_succ])
    refine wpAnyH_take (i := 8) (v := ?_) rfl (by kernel_rfl) (by kernel_rfl) (by kernel_rfl) (fun _ _ _ h => h) (Or.inl ⟨by kernel_rfl, by (intro w' hSw; obtain ⟨⟨hSa, hSb⟩, hSc, hSd, hSe⟩ := hSw; go_simp; first | done | (with_reducible rfl) | rfl)⟩) hHeld ?_
    (try simp only [Act.put, List.getElem_toArray, List.getElem_cons_zero, List.getElem_cons_succ, List.setIfInBounds_toArray, List.set_cons_zero, List.set_cons_succ])
    refine wpAnyH_take (i := 9) (v := ?_) rfl (by kernel_rfl) (by kernel_rfl) (by kernel_rfl) (fun _ _ _ h => h) (Or.inl ⟨by kernel_rfl, by (intro w' hSw; obtain ⟨⟨hSa, hSb⟩, hSc, hSd, hSe⟩ := hSw; go_simp; first | done | (with_reducible rfl) | rfl)⟩) hHeld ?_
    (try simp only [Act.put, List.getElem_toArray, List.getElem_cons_zero, List.getElem_cons_succ, List.setIfInBounds_toArray, List.set_cons_zero, List.set_cons_succ])
    refine wpAnyH_take (i := 10) (v := ?_) rfl (by kernel_rfl) (by kernel_rfl) (by kernel_rfl) (fun _ _ _ h => h) (Or.inl ⟨by kernel_rfl, by (intro w' hSw; obtain ⟨⟨hSa, hSb⟩, hSc, hSd, hSe⟩ := hSw; go_simp; first | done | (with_reducible rfl) | rfl)⟩) hHeld ?_
    (try simp only [Act.put, List.getElem_toArray, List.getElem_cons_zero, List.getElem_cons_succ, List.setIfInBounds_toArray, List.set_cons_zero, List.set_cons_succ])
    refine wpAnyH_take (i := 11) (v := ?_) rfl (by kernel_rfl) (by kernel_rfl) (by kernel_rfl) (fun _ _ _ h => h) (Or.inl ⟨by kernel_rfl, by (intro w' hSw; obtain ⟨⟨hSa, hSb⟩, hSc, hSd, hSe⟩ := hSw; go_simp; first | done | (with_reducible rfl) | rfl)⟩) hHeld ?_
    (try simp only [Act.put, List.getElem_toArray, List.getElem_cons_zero, List.getElem_cons_succ, List.setIfInBounds_toArray, List.set_cons_zero, List.set_cons_succ])
    refine wpAnyH_take (i := 12) (v := ?_) rfl (by kernel_rfl) (by kernel_rfl) (by kernel_rfl) (fun _ _ _ h => h) (Or.inl ⟨by kernel_rfl, by (intro w' hSw; obtain ⟨⟨hSa, hSb⟩, hSc, hSd, hSe⟩ := hSw; go_simp; first | done | (with_reducible rfl) | rfl)⟩) hHeld ?_
    (try simp only [Act.put, List.getElem_toArray, List.getElem_cons_zero, List.getElem_cons_succ, List.setIfInBounds_toArray, List.set_cons_zero, List.set_cons_succ])
    refine wpAnyH_take (i := 13) (v := ?_) rfl (by kernel_rfl) (by kernel_rfl) (by kernel_rfl) (fun _ _ _ h => h) (Or.inl ⟨by kernel_rfl, by (intro w' hSw; obtain ⟨⟨hSa, hSb⟩, hSc, hSd, hSe⟩ := hSw; go_simp; first | done | (with_reducible rfl) | rfl)⟩) hHeld ?_
    (try simp only [Act.put, List.getElem_toArray, List.getElem_cons_zero, List.getElem_cons_succ, List.setIfInBounds_toArray, List.set_cons_zero, List.set_cons_succ])
    refine wpAnyH_take (i := 14) (v := ?_) rfl (by kernel_rfl) (by kernel_rfl) (by kernel_rfl) (fun _ _ _ h => h) (Or.inl ⟨by kernel_rfl, by (intro w' hSw; obtain ⟨⟨hSa, hSb⟩, hSc, hSd, hSe⟩ := hSw; go_simp; first | done | (with_reducible rfl) | rfl)⟩) hHeld ?_
    (try simp only [Act.put, List.getElem_toArray, List.getElem_cons_zero, List.getElem_cons_succ, List.setIfInBounds_toArray, List.set_cons_zero, List.set_cons_succ])
    refine wpAnyH_take (i := 15) (v := ?_) rfl (by kernel_rfl) (by kernel_rfl) (by kernel_rfl) (fun _ _ _ h => h) (Or.inl ⟨by kernel_rfl, by (intro w' hSw; obtain ⟨⟨hSa, hSb⟩, hSc, hSd, hSe⟩ := hSw; go_simp; first | done | (with_reducible rfl) | rfl)⟩) hHeld ?_
    (try simp only [Act.put, List.getElem_toArray, List.getElem_cons_zero, List.getElem_cons_succ, List.setIfInBounds_toArray, List.set_cons_zero, List.set_cons_succ])
    refine wpAnyH_ready (rs := [16]) (by kernel_rfl) (by simp) ?_
    refine AllReadyH.cons rfl (fun K hK => ?_) AllReadyH.nil
    go_simp
    
    try dsimp only
    clear hHeld
    refine hK.out _ _ s3 (fun hHeld => ?_)
    clear hK K
    (try simp only [Act.put, List.getElem_toArray, List.getElem_cons_zero, List.getElem_cons_succ, List.setIfInBounds_toArray, List.set_cons_zero, List.set_cons_succ])
    refine wpAnyH_take (i := 17) (v := ?_) rfl (by kernel_rfl) (by kernel_rfl) (by kernel_rfl) (fun _ _ _ h => h) (Or.inl ⟨by kernel_rfl, by (intro w' hSw; obtain ⟨⟨hSa, hSb⟩, hSc, hSd, hSe⟩ := hSw; go_simp; first | done | (with_reducible rfl) | rfl)⟩) hHeld ?_
    (try simp only [Act.put, List.getElem_toArray, List.getElem_cons_zero, List.getElem_cons_succ, List.setIfInBounds_toArray, List.set_cons_zero, List.set_cons_succ])
    refine wpAnyH_ready (rs := [18]) (by kernel_rfl) (by simp) ?_
    refine AllReadyH.cons rfl (fun K hK => ?_) AllReadyH.nil
    go_simp
    
    try dsimp only
    clear hHeld
    refine hK.out _ _ s4 (fun hHeld => ?_)
    clear hK K
    (try simp only [Act.put, List.getElem_toArray, List.getElem_cons_zero, List.getElem_cons_succ, List.setIfInBounds_toArray, List.set_cons_zero, List.set_cons_succ])
    refine wpAnyH_ready (rs := [19]) (by kernel_rfl) (by simp) ?_
    refine AllReadyH.cons rfl (fun K hK => ?_) AllReadyH.nil
    go_simp
    
    try dsimp only
    clear hHeld
    refine hK.out _ _ s5 (fun hHeld => ?_)
    clear hK K
    (try simp only [Act.put, List.getElem_toArray, List.getElem_cons_zero, List.getElem_cons_succ, List.setIfInBounds_toArray, List.set_cons_zero, List.set_cons_succ])
    refine wpAnyH_take (i := 20) (v := ?_) rfl (by kernel_rfl) (by kernel_rfl) (by kernel_rfl) (fun _ _ _ h => h) (Or.inl ⟨by kernel_rfl, by (intro w' hSw; obtain ⟨⟨hSa, hSb⟩, hSc, hSd, hSe⟩ := hSw; go_simp; first | done | (with_reducible rfl) | rfl)⟩) hHeld ?_
    (try simp only [Act.put, List.getElem_toArray, List.getElem_cons_zero, List.getElem_cons_succ, List.setIfInBounds_toArray, List.set_cons_zero, List.set_cons_succ])
    refine wpAnyH_ready (rs := [21]) (by kernel_rfl) (by simp) ?_
    refine AllReadyH.cons rfl (fun K hK => ?_) AllReadyH.nil
    go_simp
    
    try dsimp only
    clear hHeld
    refine hK.out _ _ s6 (fun hHeld => ?_)
    clear hK K
    (try simp only [Act.put, List.getElem_toArray, List.getElem_cons_zero, List.getElem_cons_succ, List.setIfInBounds_toArray, List.set_cons_zero, List.set_cons_succ])
    refine wpAnyH_done (by kernel_rfl) ?_ _
    go_wp2
    go_ret
    refine ⟨0, rfl, ?_, .inr (.inr ⟨HF.out.1.1, HF.out.1.2, rfl, HFIN.out⟩)⟩
    obtain ⟨g2, g3, g4, g5, g6⟩ := HG.out
    have o1 : A.own A.mi := .inr (.inr (.inl rfl))
    have o2 : A.own A.ma := .inr (.inr (.inr (.inl rfl)))
    exact ((((((Apart.of_below HB1.out).drew.grown g2 (fun r e => by injection e with e; exact .inl (e ▸ o1))).drew.grown g3 (fun r e => by injection e with e; exact .inl (e ▸ o1))).grown g4 (fun r e => by injection e with e; exact .inl (e ▸ o1))).grown g5 (fun r e => by injection e with e; exact .inl (e ▸ o2))).grown g6 (fun r e => by injection e with e; exact .inl (e ▸ o2)))
  · have hq : (z != 0) = true := by simpa using hz
    have HZ := Lib.hid hz
    clear hz
    go_wp2_with fail
    go_ret
    obtain ⟨hb, -, hc⟩ := HP.out
    refine ⟨z, rfl, Apart.of_below hb, ?_⟩
    rcases hc with ⟨h1, h2⟩ | ⟨h1, h2⟩
    · exact .inl ⟨h1, h2, HH.out.1.below hb⟩
    · exact .inr (.inl ⟨h1, h2, HZ.out, HH.out.1.below hb⟩)
end
end Go.Proofs.Ytbknmfegckeogaa

/- Capability tables: New, Len, Room, by walks. -/
namespace Go.Proofs.Ytbknmfegckeogaa
open Go.RowKit Go.Maps
set_option linter.unusedVariables false
set_option linter.unusedSimpArgs false

theorem run_mk (t : TypeId) (w : World) : (Instr.makeMap t none).run Try.prog w = .ok (.map (some w.heap.size)) (w.alloc (.map #[] 0)) := rfl
theorem run_len_map {w : World} {m : Nat} {es : Array MapEntry} {c : Nat} (h : w.heap[m]? = some (.map es c)) (ty : TypeId) : (Builtin.len_ #[72] ty #[.map (some m)]).run Try.prog w = .ok (.int .i64 (es.size : Int)) w := by
  simp [Builtin.len_, run_underlying Try.underlying72, MapKept.run_getObj_map h, Result.andThen, goInt]
theorem MapR.alloc {P : Program} {k : TypeId} {w : World} {m n : Nat} {R : Value → Value → Prop} (h : MapR P k w m R n) (o : Obj) : MapR P k (w.alloc o) m R n := h.block (Below.heap_alloc w o m h.lt)
theorem MapR.new_ {P : Program} {w : World} {m : Nat} (h : m = w.heap.size) (k : TypeId) : MapR P k (w.alloc (.map #[] 0)) m (fun _ _ => False) 0 := by rw [h]; exact MapR.new w k
/-- May there be such tables? -/
def mayN (gs sl n : Int) : Prop := (1 ≤ gs ∧ gs ≤ 64) ∧ (1 ≤ sl ∧ sl ≤ 32) ∧ (1 ≤ n ∧ n ≤ 512)
def Sp.new (gs sl : Int) (n : Nat) : Sp := ⟨gs, sl, chain n 0, [], 0⟩
theorem J_new (gs sl : Int) (n : Nat) : J (Sp.new gs sl n) :=
  { wf := wf_empty n, nd := List.nodup_nil, thr := fun i => by simp [Sp.new, chain], idn := List.nodup_nil, idp := fun e he => absurd he List.not_mem_nil, pl := List.nodup_nil, rng := fun e he => absurd he List.not_mem_nil, up := fun e he => absurd he List.not_mem_nil, rts := fun e he => absurd he List.not_mem_nil, okc := fun e he => absurd he List.not_mem_nil, lt := fun e he => absurd he List.not_mem_nil }
set_option maxRecDepth 100000 in
set_option maxHeartbeats 1000000 in
theorem New_no (gs sl n : Int) (h : ¬ mayN gs sl n) (w : World) : Calls Try.prog 18 #[.int .i64 gs, .int .i64 sl, .int .i64 n] w fun e w' => e = .returned (.tuple #[.pointer none, .int .i64 2]) ∧ w = w' := by
  unfold mayN at h
  have hcs : gs < 1 ∨ (¬ gs < 1 ∧ 64 < gs) ∨ (¬ gs < 1 ∧ ¬ 64 < gs ∧ sl < 1) ∨ (¬ gs < 1 ∧ ¬ 64 < gs ∧ ¬ sl < 1 ∧ 32 < sl) ∨ (¬ gs < 1 ∧ ¬ 64 < gs ∧ ¬ sl < 1 ∧ ¬ 32 < sl ∧ n < 1) ∨ (¬ gs < 1 ∧ ¬ 64 < gs ∧ ¬ sl < 1 ∧ ¬ 32 < sl ∧ ¬ n < 1 ∧ 512 < n) := by omega
  clear h
  rcases hcs with h1 | ⟨h1, h2⟩ | ⟨h1, h2, h3⟩ | ⟨h1, h2, h3, h4⟩ | ⟨h1, h2, h3, h4, h5⟩ | ⟨h1, h2, h3, h4, h5, h6⟩
  all_goals
    go_enter Try.func18, Try.ntmps18
    go_wp2
    go_ret2
    exact ⟨rfl, rfl⟩
set_option maxRecDepth 100000 in
set_option maxHeartbeats 1000000 in
theorem New_yes (gs sl : Int) (n : Nat) (h : mayN gs sl n) (w : World) : Calls Try.prog 18 #[.int .i64 gs, .int .i64 sl, .int .i64 (n : Int)] w fun e w' => ∃ A : Ad, e = .returned (.tuple #[.pointer (some ⟨A.b, 0, none⟩), .int .i64 0]) ∧ SpAt w' A (Sp.new gs sl n) ∧ (∀ k, A.own k → w.heap.size ≤ k) ∧ Below w.heap.size w w' := by
  unfold mayN at h
  have h1 : ¬ gs < 1 := by omega
  have h2 : ¬ 64 < gs := by omega
  have h3 : ¬ sl < 1 := by omega
  have h4 : ¬ 32 < sl := by omega
  have h5 : ¬ (n : Int) < 1 := by omega
  have h6 : ¬ (512 : Int) < (n : Int) := by omega
  have CN := new_is n w (by omega) (by omega)
  have hmk : ∀ (t : TypeId) (w' : World), (Instr.makeMap t none).run Try.prog w' = .ok (.map (some w'.heap.size)) (w'.alloc (.map #[] 0)) := run_mk
  clear h
  go_enter Try.func18, Try.ntmps18
  go_wp2_with (go_at_call 50; refine CN.mono ?_; rintro e w1 ⟨f, lb, v, rfl, hp, hown, hb⟩; (have HP := Lib.hid (And.intro hp (And.intro hown hb))); clear hp hown hb CN)
  go_ret2
  have hs := HP.out.2.2.size
  have hbw : Below w1.heap.size w1 ((((w1.alloc (.map #[] 0)).alloc (.map #[] 0)).alloc (.map #[] 0)).alloc (.cells #[.int .i64 gs, .int .i64 sl, .int .i64 (n : Int), .pointer (some ⟨f, 0, none⟩), .map (some w1.heap.size), .map (some (w1.heap.size + 1)), .map (some (w1.heap.size + 1 + 1))] 74)) :=
    ((((Below.refl _ _).alloc (Nat.le_refl _) _).alloc (by simp) _).alloc (by simp; omega) _).alloc (by simp; omega) _
  refine ⟨⟨w1.heap.size + 1 + 1 + 1, f, lb, w1.heap.size, w1.heap.size + 1, w1.heap.size + 1 + 1, v⟩, rfl, ⟨Blk.new_ (by simp) _ _, HP.out.1.below hbw, ?_, ?_, ?_, ?_, ?_, ?_⟩, ?_, HP.out.2.2.trans (hbw.mono hs)⟩
  · exact (((((MapR.new_ rfl _).alloc _).alloc _).alloc _)).ext fun x y => by simp [inR, Sp.new]
  · exact ((((MapR.new_ (by simp) _).alloc _).alloc _)).ext fun x y => by simp [atR, Sp.new]
  · exact (((MapR.new_ (by simp) _).alloc _)).ext fun x y => by simp [capR, Sp.new]
  · intro k hk
    have := own3_lt HP.out.1 hk
    dsimp only
    omega
  · dsimp only
    omega
  · dsimp only
    omega
  · intro k hk
    rcases hk with hk | hk | hk | hk | hk
    · exact HP.out.2.1 k hk
    all_goals
      dsimp only at hk
      omega
section
variable {w : World} {A : Ad} {S : Sp}
theorem len_map (h : SpAt w A S) (m : Nat) (hm : m = A.mc) : ∃ es c, w.heap[m]? = some (.map es c) ∧ es.size = S.L.length := by
  obtain ⟨es, c, h1, _, _, _, h5⟩ := h.mc
  exact ⟨es, c, by rw [hm]; exact h1, h5⟩
set_option maxRecDepth 100000 in
set_option maxHeartbeats 1000000 in
theorem room_sp (h : SpAt w A S) (hl : Lim S) (hn : S.L.length ≤ S.F.n) : Calls Try.prog 36 #[.pointer (some ⟨A.b, 0, none⟩)] w fun e w' => e = .returned (.int .i64 ((S.F.n : Int) - (S.L.length : Int))) ∧ ∃ k, w' = w.drewN k := by
  have CN := none_is h
  obtain ⟨es, c, hm, hs⟩ := len_map h A.mc rfl
  obtain ⟨-, -, c2, -, -, -, c6⟩ := h.cells
  have hl2 := hl.n
  have hln := fun k => run_len_map (w := w.drewN k) (m := A.mc) hm
  rw [← hs] at hn ⊢
  clear h hs hl
  generalize S.F.n = n at *
  have hz : IntKind.i64.wrap ((n : Int) - (es.size : Int)) = (n : Int) - (es.size : Int) := by rw [IntKind.wrap_i64]; omega
  go_enter Try.func36, Try.ntmps36
  go_wp2_with (go_at_call 47; refine CN.mono ?_; rintro e w' ⟨rfl, rfl⟩)
  go_quiet (fail)
  go_wp2
  go_ret
  exact ⟨rfl, _, rfl⟩
end
end Go.Proofs.Ytbknmfegckeogaa

/- Capability tables: Parent, by walk. -/
namespace Go.Proofs.Ytbknmfegckeogaa
open Go.RowKit Go.Maps
set_option linter.unusedVariables false
set_option linter.unusedSimpArgs false

/-- Where the one is from which it was derived. -/
def Sp.parE (S : Sp) (g s : Int) : Option En := (fnd S.L g s).bind fun x => byId S.L x.up
def parV : Option En → Value
  | some p => .tuple #[.int .i64 p.g, .int .i64 p.s, .bool true]
  | none => .tuple #[.int .i64 0, .int .i64 0, .bool false]
section
variable {w : World} {A : Ad} {S : Sp}
set_option maxRecDepth 100000 in
set_option maxHeartbeats 1000000 in
theorem parent_no (h : SpAt w A S) (hl : Lim S) (g s : Int) (hf : S.full g s ≠ 0) :
    Calls Try.prog 14 #[.pointer (some ⟨A.b, 0, none⟩), .int .i64 g, .int .i64 s] w fun e w' => e = .returned (.tuple #[.int .i64 0, .int .i64 0, .bool false]) ∧ w = w' := by
  have CF := full_is h hl g s
  have hq : (S.full g s != 0) = true := by simpa using hf
  generalize S.full g s = E at *
  clear hf h
  go_enter Try.func14, Try.ntmps14
  go_wp2_with (go_at_call 48; refine CF.mono ?_; rintro e w2 ⟨rfl, rfl⟩)
  go_ret3
  exact ⟨rfl, rfl⟩
set_option maxRecDepth 100000 in
set_option maxHeartbeats 1000000 in
theorem parent_yes (h : SpAt w A S) (hl : Lim S) (hJ : J S) (g s : Int) (ht : S.there g s = true) {x : En} (hf : fnd S.L g s = some x) :
    Calls Try.prog 14 #[.pointer (some ⟨A.b, 0, none⟩), .int .i64 g, .int .i64 s] w fun e w' => e = .returned (parV (byId S.L x.up)) ∧ Below w.heap.size w w' := by
  have CF := full_is h hl g s
  have hE : S.full g s = 0 := by simp [Sp.full, ht, hf]
  rw [hE] at CF
  have hx := (fnd_mem hf).1
  have lk := fun n => in_yes (h.drewN n) hl ht hf false
  have CP := fun n => prg_parent (h.drewN n).prg (x.nd : Int)
  obtain ⟨-, -, -, c3, c4, c5, -⟩ := h.cells
  simp only [Bool.false_eq_true, if_false, spotV] at lk
  have hthere := hJ.there_of hx
  have hhas : S.F.has (x.nd : Int) = true := by simp [Fo.has, hthere]
  rcases hJ.par_of hx with ⟨h1, h2⟩ | ⟨p, hp, h1, h2⟩
  · have hup : S.F.up? (x.nd : Int) = (0, false) := by simp [Fo.up?, hhas, h2]
    rw [h1]
    have CQ := fun n => (CP n).mono (fun e w'' hh => And.intro hh.1 hh.2.symm)
    rw [hup] at CQ
    unfold parV
    clear h hJ hE hf ht hx hthere hhas h1 h2 hup CP
    go_enter Try.func14, Try.ntmps14
    go_wp2_with (go_at_call 48; refine CF.mono ?_; rintro e w2 ⟨rfl, hw2⟩; subst w2)
    go_quiet ((go_at_call 49; exact Calls.quiet_of_same (CQ _)))
    go_wp2
    go_ret3
    exact ⟨rfl, below_drewN_ _ _ _⟩
  · have hup : S.F.up? (x.nd : Int) = ((p.nd : Int), true) := by
      have : ¬ (p.nd : Int) = -1 := by omega
      simp [Fo.up?, hhas, h2, this]
    rw [h1]
    have CQ := fun n => (CP n).mono (fun e w'' hh => And.intro hh.1 hh.2.symm)
    rw [hup] at CQ
    have la := fun n => at_yes (h.drewN n) hl hJ hp false
    simp only [Bool.false_eq_true, if_false, spotV] at la
    unfold parV
    clear h hJ hE hf ht hx hthere hhas h1 h2 hup CP hp
    go_enter Try.func14, Try.ntmps14
    go_wp2_with (go_at_call 48; refine CF.mono ?_; rintro e w2 ⟨rfl, hw2⟩; subst w2)
    go_quiet ((go_at_call 49; exact Calls.quiet_of_same (CQ _)))
    have hR3 : ((w.drewN nq).alloc (.cells #[.int .i64 0, .int .i64 0] 91)).heap[w.heap.size]? = some (.cells #[.int .i64 0, .int .i64 0] 91 (0, 0)) := heap_alloc_new (w.drewN nq) _
    have hB9 : Below w.heap.size w (((w.drewN nq).alloc (.cells #[.int .i64 0, .int .i64 0] 91)).setRow w.heap.size #[.int .i64 p.g, .int .i64 p.s]) := below_setRow ((below_drewN_ w _ nq).alloc (Nat.le_refl _) _) (Nat.le_refl _) _
    have hR9 := Blk.put_ (w := (w.drewN nq).alloc (.cells #[.int .i64 0, .int .i64 0] 91)) (g := w.heap.size) (t := 91) hR3 #[.int .i64 p.g, .int .i64 p.s]
    have q0 := hR9.cell 0
    have q1 := hR9.cell 1
    simp only [List.getElem?_toArray, List.getElem?_cons_zero, List.getElem?_cons_succ] at q0 q1
    have HB := Lib.hid hB9
    clear hB9 hR9 lk CQ CF c3 c4
    go_wp2_with ((with_reducible refine wpList_store_row (o := ⟨none, .store 91 (.tmp 11) (.tmp 40), _, _, _, _⟩) rfl 91 (.tmp 11) (.tmp 40) ?_ w.heap.size #[.int .i64 p.g, .int .i64 p.s] ?_ ?_ 91 _ hR3 (by kernel_rfl) rfl ?_ ?_); exact rfl; exact rfl; exact rfl; simp [Value.oneCell']; clear hR3 la c5; generalize ((w.drewN nq).alloc (.cells #[.int .i64 0, .int .i64 0] 91)).setRow w.heap.size #[.int .i64 p.g, .int .i64 p.s] = w9 at *)
    go_quiet (fail)
    go_wp2
    go_ret3
    exact ⟨rfl, HB.out.trans (below_drewN_ _ _ _)⟩
end
end Go.Proofs.Ytbknmfegckeogaa

/- slices.Contains over whole numbers, by walk. -/
namespace Go.Proofs.Ytbknmfegckeogaa
open Go.RowKit
set_option linter.unusedVariables false
set_option linter.unusedSimpArgs false

set_option maxRecDepth 100000 in
set_option maxHeartbeats 1000000 in
theorem index_any {w : World} {B : Nat} {A : Option Addr} {cap : Nat} (L : List Int) (x : Int) (hL : L.length ≤ 100000) (h : Ints w B A L) :
    Calls Try.prog 87 #[.slice A L.length cap, .int .i64 x] w fun e w' => (∃ z : Int, e = .returned (.int .i64 z) ∧ (0 ≤ z ↔ x ∈ L)) ∧ w' = w := by
  have HI := Lib.hid h
  clear h
  go_enter Try.func87, Try.ntmps87
  go_wp2_with fail
  go_loop [8] (fun i => ∃ k : Nat, i = .int .i64 (k : Int) ∧ k ≤ L.length ∧ Hid (x ∉ L.take k)) (fun i => L.length + 1 - (intOf i).toNat)
  case atStart => exact ⟨0, rfl, Nat.zero_le _, Lib.hid (by simp)⟩
  case round =>
    obtain ⟨k, rfl, hk, HN⟩ := hrel
    by_cases hlt : k < L.length
    · have hlt1 : (k : Int) < (L.length : Int) := by omega
      obtain ⟨ad, rfl, hb, hc⟩ := HI.out.at_ hlt
      have hk9 : (k : Int) < 200000 := by omega
      have HK := Lib.hid (And.intro hk hlt)
      have htk := Lib.hid (List.take_succ_eq_append_getElem hlt)
      have hmem := Lib.hid (List.getElem_mem hlt)
      generalize L[k]'hlt = y at *
      clear hk hlt
      by_cases hxy : x = y
      · subst hxy
        go_wp2_with fail
        go_ret
        exact ⟨⟨_, rfl, ⟨fun _ => hmem.out, fun _ => by omega⟩⟩, rfl⟩
      · have hq : (x == y) = false := by simpa using hxy
        have HX := Lib.hid hxy
        clear hxy
        go_wp2_with fail
        go_round
        case rel => exact ⟨k + 1, by go_num, HK.out.2, Lib.hid (by rw [htk.out]; intro hm; rcases List.mem_append.1 hm with hm | hm; exact HN.out hm; exact HX.out (List.mem_singleton.1 hm))⟩
        case measure =>
          have := HK.out
          simp [intOf]
          omega
    · have hlt1 : ¬ (k : Int) < (L.length : Int) := by omega
      obtain rfl : k = L.length := by omega
      have hn := HN.out
      rw [List.take_length] at hn
      have HNo := Lib.hid hn
      clear hk hlt hn
      go_wp2_with fail
      go_ret
      exact ⟨⟨-1, rfl, ⟨fun h => by omega, fun h => absurd h HNo.out⟩⟩, rfl⟩
set_option maxRecDepth 100000 in
theorem contains_any {w : World} {B : Nat} {A : Option Addr} {cap : Nat} (L : List Int) (x : Int) (hL : L.length ≤ 100000) (h : Ints w B A L) :
    Calls Try.prog 59 #[.slice A L.length cap, .int .i64 x] w fun e w' => e = .returned (.bool (decide (x ∈ L))) ∧ w' = w := by
  have CI := index_any (cap := cap) L x hL h
  go_enter Try.func59, Try.ntmps59
  by_cases hm : x ∈ L
  · rw [decide_eq_true hm]
    have CJ := CI.mono (R' := fun e w' => (∃ z : Int, e = .returned (.int .i64 z) ∧ 0 ≤ z) ∧ w' = w) (fun e w' hh => ⟨hh.1.imp fun z hz => ⟨hz.1, hz.2.2 hm⟩, hh.2⟩)
    clear CI hm
    go_wp2_with (go_at_call 87; refine CJ.mono ?_; rintro e w' ⟨⟨z, rfl, hz⟩, hw⟩; subst w')
    go_ret
    exact ⟨rfl, rfl⟩
  · rw [decide_eq_false hm]
    have CJ := CI.mono (R' := fun e w' => (∃ z : Int, e = .returned (.int .i64 z) ∧ ¬ 0 ≤ z) ∧ w' = w) (fun e w' hh => ⟨hh.1.imp fun z hz => ⟨hz.1, fun h9 => hm (hz.2.1 h9)⟩, hh.2⟩)
    clear CI hm
    go_wp2_with (go_at_call 87; refine CJ.mono ?_; rintro e w' ⟨⟨z, rfl, hz⟩, hw⟩; subst w')
    go_ret
    exact ⟨by show Ending.returned (.bool (decide (0 ≤ z))) = _; rw [decide_eq_false (by omega)], rfl⟩
end Go.Proofs.Ytbknmfegckeogaa

/- Capability tables: Under, by walk. -/
namespace Go.Proofs.Ytbknmfegckeogaa
open Go.RowKit Go.Maps
set_option linter.unusedVariables false
set_option linter.unusedSimpArgs false

theorem contains_row {w : World} {B : Nat} {A : Option Addr} {cap : Nat} {ds : List Nat} (x : Nat) (hL : ds.length ≤ 100000) (h : w.ownsRow B 3 1 (.slice A ds.length cap) ds.length (intV (nats ds))) :
    Calls Try.prog 59 #[.slice A ds.length cap, .int .i64 (x : Int)] w fun e w' => e = .returned (.bool (decide (x ∈ ds))) ∧ w' = w := by
  have hr := Reads.of_own h
  have hi : Ints w w.heap.size A (nats ds) := by
    unfold Ints
    rw [nats_len]
    exact hr
  have := contains_any (cap := cap) (nats ds) (x : Int) (by rw [nats_len]; exact hL) hi
  rw [nats_len] at this
  have e : decide ((x : Int) ∈ nats ds) = decide (x ∈ ds) := by
    rw [Bool.eq_iff_iff, decide_eq_true_eq, decide_eq_true_eq]
    unfold nats
    rw [List.mem_map]
    constructor
    · rintro ⟨a, ha, hh⟩
      have : a = x := by omega
      exact this ▸ ha
    · exact fun h => ⟨x, h, rfl⟩
  rwa [e] at this
section
variable {w : World} {A : Ad} {S : Sp}
set_option maxRecDepth 100000 in
set_option maxHeartbeats 2000000 in
theorem under_yes (h : SpAt w A S) (hl : Lim S) (hJ : J S) {g s g' s' : Int} (ht : S.there g s = true) (ht' : S.there g' s' = true) {x y : En} (hf : fnd S.L g s = some x) (hf' : fnd S.L g' s' = some y) {ds : List Nat} (hd : Flat S.F (S.F.kids (y.nd : Int)) ds) (hdl : ds.length ≤ 100000) :
    Calls Try.prog 23 #[.pointer (some ⟨A.b, 0, none⟩), .int .i64 g, .int .i64 s, .int .i64 g', .int .i64 s'] w fun e w' => e = .returned (.bool (decide (x.nd ∈ ds))) ∧ Below w.heap.size w w' := by
  have CF := full_is h hl g s
  have CG := full_is h hl g' s'
  have hE : S.full g s = 0 := by simp [Sp.full, ht, hf]
  have hE' : S.full g' s' = 0 := by simp [Sp.full, ht', hf']
  rw [hE] at CF
  rw [hE'] at CG
  have hx := fnd_mem hf
  have hy := fnd_mem hf'
  have LK : ∀ w' : World, w'.heap[A.mi]? = w.heap[A.mi]? → (Instr.lookup 70 (.map (some A.mi)) (.agg #[.int .i64 g, .int .i64 s]) false).run Try.prog w' = .ok (.int .i64 (x.nd : Int)) w' := fun w' hb => run_lookup_yes spotKeyed Try.underlying70 (h.mi.block hb) (there_key hl ht) ⟨x, hx.1, by rw [hx.2.1, hx.2.2], rfl⟩ false
  have LM : ∀ w' : World, w'.heap[A.mi]? = w.heap[A.mi]? → (Instr.lookup 70 (.map (some A.mi)) (.agg #[.int .i64 g', .int .i64 s']) false).run Try.prog w' = .ok (.int .i64 (y.nd : Int)) w' := fun w' hb => run_lookup_yes spotKeyed Try.underlying70 (h.mi.block hb) (there_key hl ht') ⟨y, hy.1, by rw [hy.2.1, hy.2.2], rfl⟩ false
  have CD := prg_desc (h.keep (w' := w.drew) (fun _ _ => rfl) (Nat.le_refl _)).prg y.nd (hJ.there_of hy.1) hd
  unfold RowPost at CD
  have LB : A.b < w.drew.heap.size ∧ A.mi < w.drew.heap.size := ⟨h.head.lt, h.mi.lt⟩
  obtain ⟨-, -, -, c3, c4, -, -⟩ := h.cells
  clear h hJ hE hE' hf hf' ht ht' hx hy hd
  go_enter Try.func23, Try.ntmps23
  go_wp2_with (first | ((with_reducible refine CF.mono ?_); rintro e w2 ⟨rfl, hw2⟩; subst w2) | ((with_reducible refine CG.mono ?_); rintro e w2 ⟨rfl, hw2⟩; subst w2))
  clear CF CG
  refine wp_region_held_drew (S := fun wx => wx.heap[A.b]? = w.heap[A.b]? ∧ wx.heap[A.mi]? = w.heap[A.mi]?) (by kernel_rfl) ⟨rfl, rfl⟩ (fun hHeld => ?_)
  refine wpAnyH_take (i := 0) (v := ?_) rfl (by kernel_rfl) (by kernel_rfl) (by kernel_rfl) (fun _ _ _ h => h) (Or.inl ⟨by kernel_rfl, by (intro w' hSw; obtain ⟨hSa, hSb⟩ := hSw; have q3 := (World.cell?_of_block (w := w) (a := ⟨A.b, 3, none⟩) hSa).trans c3; have q4 := (World.cell?_of_block (w := w) (a := ⟨A.b, 4, none⟩) hSa).trans c4; have ql := LK _ hSb; have qm := LM _ hSb; go_simp; first | done | (with_reducible rfl) | rfl)⟩) hHeld ?_
  (try simp only [Act.put, List.getElem_toArray, List.getElem_cons_zero, List.getElem_cons_succ, List.setIfInBounds_toArray, List.set_cons_zero, List.set_cons_succ])
  refine wpAnyH_take (i := 1) (v := ?_) rfl (by kernel_rfl) (by kernel_rfl) (by kernel_rfl) (fun _ _ _ h => h) (Or.inl ⟨by kernel_rfl, by (intro w' hSw; obtain ⟨hSa, hSb⟩ := hSw; have q3 := (World.cell?_of_block (w := w) (a := ⟨A.b, 3, none⟩) hSa).trans c3; have q4 := (World.cell?_of_block (w := w) (a := ⟨A.b, 4, none⟩) hSa).trans c4; have ql := LK _ hSb; have qm := LM _ hSb; go_simp; first | done | (with_reducible rfl) | rfl)⟩) hHeld ?_
  (try simp only [Act.put, List.getElem_toArray, List.getElem_cons_zero, List.getElem_cons_succ, List.setIfInBounds_toArray, List.set_cons_zero, List.set_cons_succ])
  refine wpAnyH_take (i := 2) (v := ?_) rfl (by kernel_rfl) (by kernel_rfl) (by kernel_rfl) (fun _ _ _ h => h) (Or.inl ⟨by kernel_rfl, by (intro w' hSw; obtain ⟨hSa, hSb⟩ := hSw; have q3 := (World.cell?_of_block (w := w) (a := ⟨A.b, 3, none⟩) hSa).trans c3; have q4 := (World.cell?_of_block (w := w) (a := ⟨A.b, 4, none⟩) hSa).trans c4; have ql := LK _ hSb; have qm := LM _ hSb; go_simp; first | done | (with_reducible rfl) | rfl)⟩) hHeld ?_
  (try simp only [Act.put, List.getElem_toArray, List.getElem_cons_zero, List.getElem_cons_succ, List.setIfInBounds_toArray, List.set_cons_zero, List.set_cons_succ])
  refine wpAnyH_take (i := 3) (v := ?_) rfl (by kernel_rfl) (by kernel_rfl) (by kernel_rfl) (fun _ _ _ h => h) (Or.inl ⟨by kernel_rfl, by (intro w' hSw; obtain ⟨hSa, hSb⟩ := hSw; have q3 := (World.cell?_of_block (w := w) (a := ⟨A.b, 3, none⟩) hSa).trans c3; have q4 := (World.cell?_of_block (w := w) (a := ⟨A.b, 4, none⟩) hSa).trans c4; have ql := LK _ hSb; have qm := LM _ hSb; go_simp; first | done | (with_reducible rfl) | rfl)⟩) hHeld ?_
  (try simp only [Act.put, List.getElem_toArray, List.getElem_cons_zero, List.getElem_cons_succ, List.setIfInBounds_toArray, List.set_cons_zero, List.set_cons_succ])
  refine wpAnyH_take (i := 4) (v := ?_) rfl (by kernel_rfl) (by kernel_rfl) (by kernel_rfl) (fun _ _ _ h => h) (Or.inl ⟨by kernel_rfl, by (intro w' hSw; obtain ⟨hSa, hSb⟩ := hSw; have q3 := (World.cell?_of_block (w := w) (a := ⟨A.b, 3, none⟩) hSa).trans c3; have q4 := (World.cell?_of_block (w := w) (a := ⟨A.b, 4, none⟩) hSa).trans c4; have ql := LK _ hSb; have qm := LM _ hSb; go_simp; first | done | (with_reducible rfl) | rfl)⟩) hHeld ?_
  (try simp only [Act.put, List.getElem_toArray, List.getElem_cons_zero, List.getElem_cons_succ, List.setIfInBounds_toArray, List.set_cons_zero, List.set_cons_succ])
  refine wpAnyH_take (i := 5) (v := ?_) rfl (by kernel_rfl) (by kernel_rfl) (by kernel_rfl) (fun _ _ _ h => h) (Or.inl ⟨by kernel_rfl, by (intro w' hSw; obtain ⟨hSa, hSb⟩ := hSw; have q3 := (World.cell?_of_block (w := w) (a := ⟨A.b, 3, none⟩) hSa).trans c3; have q4 := (World.cell?_of_block (w := w) (a := ⟨A.b, 4, none⟩) hSa).trans c4; have ql := LK _ hSb; have qm := LM _ hSb; go_simp; first | done | (with_reducible rfl) | rfl)⟩) hHeld ?_
  (try simp only [Act.put, List.getElem_toArray, List.getElem_cons_zero, List.getElem_cons_succ, List.setIfInBounds_toArray, List.set_cons_zero, List.set_cons_succ])
  refine wpAnyH_take (i := 6) (v := ?_) rfl (by kernel_rfl) (by kernel_rfl) (by kernel_rfl) (fun _ _ _ h => h) (Or.inl ⟨by kernel_rfl, by (intro w' hSw; obtain ⟨hSa, hSb⟩ := hSw; have q3 := (World.cell?_of_block (w := w) (a := ⟨A.b, 3, none⟩) hSa).trans c3; have q4 := (World.cell?_of_block (w := w) (a := ⟨A.b, 4, none⟩) hSa).trans c4; have ql := LK _ hSb; have qm := LM _ hSb; go_simp; first | done | (with_reducible rfl) | rfl)⟩) hHeld ?_
  (try simp only [Act.put, List.getElem_toArray, List.getElem_cons_zero, List.getElem_cons_succ, List.setIfInBounds_toArray, List.set_cons_zero, List.set_cons_succ])
  refine wpAnyH_take (i := 7) (v := ?_) rfl (by kernel_rfl) (by kernel_rfl) (by kernel_rfl) (fun _ _ _ h => h) (Or.inl ⟨by kernel_rfl, by (intro w' hSw; obtain ⟨hSa, hSb⟩ := hSw; have q3 := (World.cell?_of_block (w := w) (a := ⟨A.b, 3, none⟩) hSa).trans c3; have q4 := (World.cell?_of_block (w := w) (a := ⟨A.b, 4, none⟩) hSa).trans c4; have ql := LK _ hSb; have qm := LM _ hSb; go_simp; first | done | (with_reducible rfl) | rfl)⟩) hHeld ?_
  (try simp only [Act.put, List.getElem_toArray, List.getElem_cons_zero, List.getElem_cons_succ, List.setIfInBounds_toArray, List.set_cons_zero, List.set_cons_succ])
  refine wpAnyH_take (i := 8) (v := ?_) rfl (by kernel_rfl) (by kernel_rfl) (by kernel_rfl) (fun _ _ _ h => h) (Or.inl ⟨by kernel_rfl, by (intro w' hSw; obtain ⟨hSa, hSb⟩ := hSw; have q3 := (World.cell?_of_block (w := w) (a := ⟨A.b, 3, none⟩) hSa).trans c3; have q4 := (World.cell?_of_block (w := w) (a := ⟨A.b, 4, none⟩) hSa).trans c4; have ql := LK _ hSb; have qm := LM _ hSb; go_simp; first | done | (with_reducible rfl) | rfl)⟩) hHeld ?_
  (try simp only [Act.put, List.getElem_toArray, List.getElem_cons_zero, List.getElem_cons_succ, List.setIfInBounds_toArray, List.set_cons_zero, List.set_cons_succ])
  refine wpAnyH_take (i := 9) (v := ?_) rfl (by kernel_rfl) (by kernel_rfl) (by kernel_rfl) (fun _ _ _ h => h) (Or.inl ⟨by kernel_rfl, by (intro w' hSw; obtain ⟨hSa, hSb⟩ := hSw; have q3 := (World.cell?_of_block (w := w) (a := ⟨A.b, 3, none⟩) hSa).trans c3; have q4 := (World.cell?_of_block (w := w) (a := ⟨A.b, 4, none⟩) hSa).trans c4; have ql := LK _ hSb; have qm := LM _ hSb; go_simp; first | done | (with_reducible rfl) | rfl)⟩) hHeld ?_
  (try simp only [Act.put, List.getElem_toArray, List.getElem_cons_zero, List.getElem_cons_succ, List.setIfInBounds_toArray, List.set_cons_zero, List.set_cons_succ])
  refine wpAnyH_take (i := 10) (v := ?_) rfl (by kernel_rfl) (by kernel_rfl) (by kernel_rfl) (fun _ _ _ h => h) (Or.inl ⟨by kernel_rfl, by (intro w' hSw; obtain ⟨hSa, hSb⟩ := hSw; have q3 := (World.cell?_of_block (w := w) (a := ⟨A.b, 3, none⟩) hSa).trans c3; have q4 := (World.cell?_of_block (w := w) (a := ⟨A.b, 4, none⟩) hSa).trans c4; have ql := LK _ hSb; have qm := LM _ hSb; go_simp; first | done | (with_reducible rfl) | rfl)⟩) hHeld ?_
  (try simp only [Act.put, List.getElem_toArray, List.getElem_cons_zero, List.getElem_cons_succ, List.setIfInBounds_toArray, List.set_cons_zero, List.set_cons_succ])
  refine wpAnyH_take (i := 11) (v := ?_) rfl (by kernel_rfl) (by kernel_rfl) (by kernel_rfl) (fun _ _ _ h => h) (Or.inl ⟨by kernel_rfl, by (intro w' hSw; obtain ⟨hSa, hSb⟩ := hSw; have q3 := (World.cell?_of_block (w := w) (a := ⟨A.b, 3, none⟩) hSa).trans c3; have q4 := (World.cell?_of_block (w := w) (a := ⟨A.b, 4, none⟩) hSa).trans c4; have ql := LK _ hSb; have qm := LM _ hSb; go_simp; first | done | (with_reducible rfl) | rfl)⟩) hHeld ?_
  (try simp only [Act.put, List.getElem_toArray, List.getElem_cons_zero, List.getElem_cons_succ, List.setIfInBounds_toArray, List.set_cons_zero, List.set_cons_succ])
  refine wpAnyH_take (i := 13) (v := ?_) rfl (by kernel_rfl) (by kernel_rfl) (by kernel_rfl) (fun _ _ _ h => h) (Or.inl ⟨by kernel_rfl, by (intro w' hSw; obtain ⟨hSa, hSb⟩ := hSw; have q3 := (World.cell?_of_block (w := w) (a := ⟨A.b, 3, none⟩) hSa).trans c3; have q4 := (World.cell?_of_block (w := w) (a := ⟨A.b, 4, none⟩) hSa).trans c4; have ql := LK _ hSb; have qm := LM _ hSb; go_simp; first | done | (with_reducible rfl) | rfl)⟩) hHeld ?_
  (try simp only [Act.put, List.getElem_toArray, List.getElem_cons_zero, List.getElem_cons_succ, List.setIfInBounds_toArray, List.set_cons_zero, List.set_cons_succ])
  refine wpAnyH_take (i := 14) (v := ?_) rfl (by kernel_rfl) (by kernel_rfl) (by kernel_rfl) (fun _ _ _ h => h) (Or.inl ⟨by kernel_rfl, by (intro w' hSw; obtain ⟨hSa, hSb⟩ := hSw; have q3 := (World.cell?_of_block (w := w) (a := ⟨A.b, 3, none⟩) hSa).trans c3; have q4 := (World.cell?_of_block (w := w) (a := ⟨A.b, 4, none⟩) hSa).trans c4; have ql := LK _ hSb; have qm := LM _ hSb; go_simp; first | done | (with_reducible rfl) | rfl)⟩) hHeld ?_
  (try simp only [Act.put, List.getElem_toArray, List.getElem_cons_zero, List.getElem_cons_succ, List.setIfInBounds_toArray, List.set_cons_zero, List.set_cons_succ])
  refine wpAnyH_take (i := 15) (v := ?_) rfl (by kernel_rfl) (by kernel_rfl) (by kernel_rfl) (fun _ _ _ h => h) (Or.inl ⟨by kernel_rfl, by (intro w' hSw; obtain ⟨hSa, hSb⟩ := hSw; have q3 := (World.cell?_of_block (w := w) (a := ⟨A.b, 3, none⟩) hSa).trans c3; have q4 := (World.cell?_of_block (w := w) (a := ⟨A.b, 4, none⟩) hSa).trans c4; have ql := LK _ hSb; have qm := LM _ hSb; go_simp; first | done | (with_reducible rfl) | rfl)⟩) hHeld ?_
  (try simp only [Act.put, List.getElem_toArray, List.getElem_cons_zero, List.getElem_cons_succ, List.setIfInBounds_toArray, List.set_cons_zero, List.set_cons_succ])
  refine wpAnyH_take (i := 16) (v := ?_) rfl (by kernel_rfl) (by kernel_rfl) (by kernel_rfl) (fun _ _ _ h => h) (Or.inl ⟨by kernel_rfl, by (intro w' hSw; obtain ⟨hSa, hSb⟩ := hSw; have q3 := (World.cell?_of_block (w := w) (a := ⟨A.b, 3, none⟩) hSa).trans c3; have q4 := (World.cell?_of_block (w := w) (a := ⟨A.b, 4, none⟩) hSa).trans c4; have ql := LK _ hSb; have qm := LM _ hSb; go_simp; first | done | (with_reducible rfl) | rfl)⟩) hHeld ?_
  (try simp only [Act.put, List.getElem_toArray, List.getElem_cons_zero, List.getElem_cons_succ, List.setIfInBounds_toArray, List.set_cons_zero, List.set_cons_succ])
  refine wpAnyH_take (i := 17) (v := ?_) rfl (by kernel_rfl) (by kernel_rfl) (by kernel_rfl) (fun _ _ _ h => h) (Or.inl ⟨by kernel_rfl, by (intro w' hSw; obtain ⟨hSa, hSb⟩ := hSw; have q3 := (World.cell?_of_block (w := w) (a := ⟨A.b, 3, none⟩) hSa).trans c3; have q4 := (World.cell?_of_block (w := w) (a := ⟨A.b, 4, none⟩) hSa).trans c4; have ql := LK _ hSb; have qm := LM _ hSb; go_simp; first | done | (with_reducible rfl) | rfl)⟩) hHeld ?_
  (try simp only [Act.put, List.getElem_toArray, List.getElem_cons_zero, List.getElem_cons_succ, List.setIfInBounds_toArray, List.set_cons_zero, List.set_cons_succ])
  refine wpAnyH_take (i := 18) (v := ?_) rfl (by kernel_rfl) (by kernel_rfl) (by kernel_rfl) (fun _ _ _ h => h) (Or.inl ⟨by kernel_rfl, by (intro w' hSw; obtain ⟨hSa, hSb⟩ := hSw; have q3 := (World.cell?_of_block (w := w) (a := ⟨A.b, 3, none⟩) hSa).trans c3; have q4 := (World.cell?_of_block (w := w) (a := ⟨A.b, 4, none⟩) hSa).trans c4; have ql := LK _ hSb; have qm := LM _ hSb; go_simp; first | done | (with_reducible rfl) | rfl)⟩) hHeld ?_
  (try simp only [Act.put, List.getElem_toArray, List.getElem_cons_zero, List.getElem_cons_succ, List.setIfInBounds_toArray, List.set_cons_zero, List.set_cons_succ])
  refine wpAnyH_take (i := 19) (v := ?_) rfl (by kernel_rfl) (by kernel_rfl) (by kernel_rfl) (fun _ _ _ h => h) (Or.inl ⟨by kernel_rfl, by (intro w' hSw; obtain ⟨hSa, hSb⟩ := hSw; have q3 := (World.cell?_of_block (w := w) (a := ⟨A.b, 3, none⟩) hSa).trans c3; have q4 := (World.cell?_of_block (w := w) (a := ⟨A.b, 4, none⟩) hSa).trans c4; have ql := LK _ hSb; have qm := LM _ hSb; go_simp; first | done | (with_reducible rfl) | rfl)⟩) hHeld ?_
  (try simp only [Act.put, List.getElem_toArray, List.getElem_cons_zero, List.getElem_cons_succ, List.setIfInBounds_toArray, List.set_cons_zero, List.set_cons_succ])
  refine wpAnyH_take (i := 20) (v := ?_) rfl (by kernel_rfl) (by kernel_rfl) (by kernel_rfl) (fun _ _ _ h => h) (Or.inl ⟨by kernel_rfl, by (intro w' hSw; obtain ⟨hSa, hSb⟩ := hSw; have q3 := (World.cell?_of_block (w := w) (a := ⟨A.b, 3, none⟩) hSa).trans c3; have q4 := (World.cell?_of_block (w := w) (a := ⟨A.b, 4, none⟩) hSa).trans c4; have ql := LK _ hSb; have qm := LM _ hSb; go_simp; first | done | (with_reducible rfl) | rfl)⟩) hHeld ?_
  (try simp only [Act.put, List.getElem_toArray, List.getElem_cons_zero, List.getElem_cons_succ, List.setIfInBounds_toArray, List.set_cons_zero, List.set_cons_succ])
  refine wpAnyH_ready (rs := [12]) (by kernel_rfl) (by simp) ?_
  refine AllReadyH.cons rfl (fun K hK => ?_) AllReadyH.nil
  go_simp
  go_at_call 60; refine CD.mono ?_; rintro e w1 ⟨⟨A1, cap1, rfl, hown⟩, hb1⟩; (have hSS : w1.heap[A.b]? = w.heap[A.b]? ∧ w1.heap[A.mi]? = w.heap[A.mi]? := ⟨hb1.block A.b LB.1, hb1.block A.mi LB.2⟩); (have CC := contains_row x.nd hdl hown); clear CD
  try dsimp only
  clear hHeld
  refine hK.out _ _ hSS (fun hHeld => ?_)
  clear hK K
  (try simp only [Act.put, List.getElem_toArray, List.getElem_cons_zero, List.getElem_cons_succ, List.setIfInBounds_toArray, List.set_cons_zero, List.set_cons_succ])
  refine wpAnyH_ready (rs := [21]) (by kernel_rfl) (by simp) ?_
  refine AllReadyH.cons rfl (fun K hK => ?_) AllReadyH.nil
  go_simp
  go_at_call 59; refine CC.mono ?_; rintro e w3 ⟨rfl, hw3⟩; subst w3
  try dsimp only
  clear hHeld
  refine hK.out _ _ hSS (fun hHeld => ?_)
  clear hK K
  (try simp only [Act.put, List.getElem_toArray, List.getElem_cons_zero, List.getElem_cons_succ, List.setIfInBounds_toArray, List.set_cons_zero, List.set_cons_succ])
  refine wpAnyH_take (i := 22) (v := ?_) rfl (by kernel_rfl) (by kernel_rfl) (by kernel_rfl) (fun _ _ _ h => h) (Or.inl ⟨by kernel_rfl, by (intro w' hSw; obtain ⟨hSa, hSb⟩ := hSw; have q3 := (World.cell?_of_block (w := w) (a := ⟨A.b, 3, none⟩) hSa).trans c3; have q4 := (World.cell?_of_block (w := w) (a := ⟨A.b, 4, none⟩) hSa).trans c4; have ql := LK _ hSb; have qm := LM _ hSb; go_simp; first | done | (with_reducible rfl) | rfl)⟩) hHeld ?_
  (try simp only [Act.put, List.getElem_toArray, List.getElem_cons_zero, List.getElem_cons_succ, List.setIfInBounds_toArray, List.set_cons_zero, List.set_cons_succ])
  refine wpAnyH_done (by kernel_rfl) ?_ _
  clear LK LM c3 c4
  go_wp2_with fail
  go_ret
  exact ⟨rfl, (⟨hb1.os, hb1.tape, hb1.output, hb1.size, hb1.block⟩ : Below w.heap.size w w1)⟩
end
end Go.Proofs.Ytbknmfegckeogaa

/- The reference's May, by walk. -/
namespace Go.Proofs.Ytbknmfegckeogaa
open Go.RowKit Go.Maps
set_option linter.unusedVariables false
set_option linter.unusedSimpArgs false

set_option maxRecDepth 100000 in
set_option maxHeartbeats 1000000 in
theorem refMay_is (c : Cp) (w : World) : Calls Try.prog 77 #[capV c] w fun e w' => e = .returned (.bool (mayC c)) ∧ Below w.heap.size w w' := by
  obtain ⟨k, i, n, r⟩ := c
  obtain ⟨E, hE⟩ : ∃ E, E = mayC ⟨k, i, n, r⟩ := ⟨_, rfl⟩
  rw [← hE]
  have hb : mayC ⟨k, i, n, r⟩ = true ↔ (1 ≤ k ∧ k ≤ 3 ∧ 0 ≤ i ∧ 0 < n) := by simp [mayC, and_assoc]
  have hcs : ((k ≠ 1 ∧ k ≠ 2 ∧ k ≠ 3) ∧ E = false) ∨ ((k = 1 ∨ k = 2 ∨ k = 3) ∧ ¬ 0 ≤ i ∧ E = false) ∨ ((k = 1 ∨ k = 2 ∨ k = 3) ∧ 0 ≤ i ∧ ¬ 0 < n ∧ E = false) ∨ ((k = 1 ∨ k = 2 ∨ k = 3) ∧ 0 ≤ i ∧ 0 < n ∧ E = true) := by
    cases hm : mayC ⟨k, i, n, r⟩
    · rw [hm] at hE hb
      simp only [Bool.false_eq_true, false_iff] at hb
      subst hE
      simp only [and_true, Bool.false_eq_true, and_false, or_false]
      omega
    · rw [hm] at hE hb
      simp only [true_iff] at hb
      subst hE
      simp only [and_true, Bool.true_eq_false, and_false, false_or]
      omega
  clear hE hb
  unfold capV
  rcases hcs with ⟨⟨h1, h2, h3⟩, rfl⟩ | ⟨hk, h2, rfl⟩ | ⟨hk, h2, h3, rfl⟩ | ⟨hk, h2, h3, rfl⟩
  · have b1 : (k == 1) = false := by simpa using h1
    have b2 : (k == 2) = false := by simpa using h2
    have b3 : (k == 3) = false := by simpa using h3
    clear h1 h2 h3
    go_enter Try.func77, Try.ntmps77
    go_wp2
    go_ret
    exact ⟨rfl, (Below.refl _ _).alloc (Nat.le_refl _) _⟩
  all_goals
    rcases hk with rfl | rfl | rfl
    all_goals
      go_enter Try.func77, Try.ntmps77
      go_wp2
      go_ret
      exact ⟨rfl, (Below.refl _ _).alloc (Nat.le_refl _) _⟩
end Go.Proofs.Ytbknmfegckeogaa
