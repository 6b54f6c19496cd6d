/- Put of a ring that is there, by a walk. -/
import Derived.Test.YthmjhepjlgcgfaaAuditAll
import Derived.Laws.IdiomCopy
import Derived.Deep.Upon
namespace Go.Proofs.Ythmjhepjlgcgfaa
open Go.RowKit
set_option linter.unusedVariables false

/-- Only blocks in S, of those that were there, may have changed. -/
structure Apart (S : Nat → Prop) (w w' : World) : Prop where
  os : w'.os = w.os
  tape : w'.tape = w.tape
  output : w'.output = w.output
  size : w.heap.size ≤ w'.heap.size
  block : ∀ k, k < w.heap.size → ¬ S k → w'.heap[k]? = w.heap[k]?

theorem Apart.below {S : Nat → Prop} {w w' : World} (h : Apart S w w') {B : Nat} (hB : B ≤ w.heap.size) (hS : ∀ k, S k → B ≤ k) : Below B w w' :=
  ⟨h.os, h.tape, h.output, h.size, fun k hk => h.block k (by omega) (fun hs => by have := hS k hs; omega)⟩

theorem size_setCells_r (b : Nat) : ∀ (vs : List Value) (o : Nat) (w : World), (w.setCells b o vs).heap.size = w.heap.size
  | [], _, _ => rfl
  | v :: r, o, w => by
    rw [World.setCells, size_setCells_r b r (o + 1)]
    simp [World.setCell]

theorem setCells_rest (b : Nat) : ∀ (vs : List Value) (o : Nat) (w : World), (w.setCells b o vs).os = w.os ∧ (w.setCells b o vs).tape = w.tape ∧ (w.setCells b o vs).output = w.output
  | [], _, _ => ⟨rfl, rfl, rfl⟩
  | v :: r, o, w => by
    rw [World.setCells]
    exact setCells_rest b r (o + 1) _

/-- A store of a row of cells, and a draw: what stays. -/
theorem stored (w : World) (g o : Nat) (vs : List Value) : Apart (fun k => k = g) w (w.setCells g o vs).drew ∧ (∀ a, (w.setCells g o vs).drew.frozen? a = w.frozen? a) ∧ (w.setCells g o vs).drew.heap.size = w.heap.size :=
  ⟨⟨(setCells_rest g vs o w).1, (setCells_rest g vs o w).2.1, (setCells_rest g vs o w).2.2, Nat.le_of_eq (size_setCells_r g vs o w).symm, fun k hk hS => World.heap_setCells_other w g o vs hk hS⟩, fun a => World.frozen?_setCells g vs o w a, size_setCells_r g vs o w⟩

theorem rec_cell {w : World} {g o : Nat} {r : Rec} (h : RecAt w g o r) : ∀ j u, r.vs[j]? = some u → w.cell? ⟨g, o + j, none⟩ = some u := by
  obtain ⟨h0, h1, h2, h3, h4, h5, h6, h7, h8, h9, h10, h11⟩ := h
  intro j u hj
  have hl : j < 12 := by have := (List.getElem?_eq_some_iff.1 hj).1; simpa [Rec.vs] using this
  rcases j with _ | _ | _ | _ | _ | _ | _ | _ | _ | _ | _ | _ | j
  all_goals first
    | (simp only [Rec.vs, List.getElem?_cons_zero, List.getElem?_cons_succ, Option.some.injEq] at hj; subst hj; assumption)
    | omega

theorem rec_isSome {w : World} {g o : Nat} {r : Rec} (h : RecAt w g o r) : ∀ j, j < 12 → (w.cell? ⟨g, o + j, none⟩).isSome = true := by
  intro j hj
  have hl : j < r.vs.length := by simpa [Rec.vs] using hj
  rw [rec_cell h j (r.vs[j]) (by rw [List.getElem?_eq_getElem hl])]
  rfl

theorem recAt_of {w : World} {g o : Nat} {r : Rec} (h : ∀ j (hj : j < r.vs.length), w.cell? ⟨g, o + j, none⟩ = some r.vs[j]) : RecAt w g o r :=
  ⟨h 0 (by simp [Rec.vs]), h 1 (by simp [Rec.vs]), h 2 (by simp [Rec.vs]), h 3 (by simp [Rec.vs]), h 4 (by simp [Rec.vs]), h 5 (by simp [Rec.vs]), h 6 (by simp [Rec.vs]), h 7 (by simp [Rec.vs]), h 8 (by simp [Rec.vs]), h 9 (by simp [Rec.vs]), h 10 (by simp [Rec.vs]), h 11 (by simp [Rec.vs])⟩

theorem drew_cell (w : World) (a : Addr) : w.drew.cell? a = w.cell? a := rfl

theorem setRec {w : World} {g o : Nat} {r r0 : Rec} (h : RecAt w g o r0) : RecAt (w.setCells g o r.vs).drew g o r :=
  recAt_of (fun j hj => by
    rw [drew_cell]
    exact World.cell?_setCells_in g r.vs o w (fun j hj => rec_isSome h j (by simpa [Rec.vs] using hj)) j hj)

theorem setRec_other {w : World} {g i p : Nat} {r r0 : Rec} (h : RecAt w g (i * 12) r0) (hip : i ≠ p) : RecAt (w.setCells g (p * 12) r.vs).drew g (i * 12) r0 := by
  refine recAt_of fun j hj => ?_
  have hj' : j < 12 := by simpa [Rec.vs] using hj
  have hl : r.vs.length = 12 := by simp [Rec.vs]
  rw [drew_cell]
  exact (World.cell?_setCells_out g r.vs _ w ⟨g, i * 12 + j, none⟩ (fun _ _ => by rw [hl]; simp only; omega)).trans (rec_cell h j _ (by rw [List.getElem?_eq_getElem hj]))

def updR (L : Nat → Rec) (p : Nat) (r : Rec) : Nat → Rec := fun i => if i = p then r else L i

set_option maxRecDepth 100000 in
set_option maxHeartbeats 2000000 in
theorem put_row (b g n : Nat) (L : Nat → Rec) (m : Nat) (r : Rec) (w : World) (h : Ring w b g n L m) (hbg : b < w.heap.size ∧ g < w.heap.size) (hm : m + 1 < 2 ^ 62) :
    Calls Try.prog 26 #[.pointer (some ⟨b, 0, none⟩), .int .u64 r.tm, .agg #[.int .i64 r.gi, .int .u64 r.gg], .int .i64 r.p, .agg #[.int .i64 r.kd, .int .u64 r.a0, .int .u64 r.a1, .int .u64 r.a2, .int .u64 r.a3, .int .u64 r.a4], .int .i64 r.cd] w fun e w' =>
      e = .returned (.int .u64 ((m + 1 : Nat) : Int)) ∧ Ring w' b g n (updR L ((m + 1) % n) { r with sq := ((m + 1 : Nat) : Int) }) (m + 1) ∧ Apart (fun k => k = b ∨ k = g) w w' := by
  obtain ⟨hh, hat, hne, hlo, hhi, hseq, hfrb, hfrg⟩ := h
  obtain ⟨⟨kc, hs⟩, hq⟩ := hh
  have CN := fun w' (h0 : w'.cell? ⟨b, 0, none⟩ = some (.slice (some ⟨g, 0, none⟩) n kc)) (h1 : w'.cell? ⟨b, 1, none⟩ = some (.int .u64 m)) => none_is b g n m w' ⟨⟨kc, h0⟩, h1⟩ hlo hhi
  have CA := fun w' (h0 : w'.cell? ⟨b, 0, none⟩ = some (.slice (some ⟨g, 0, none⟩) n kc)) (h1 : w'.cell? ⟨b, 1, none⟩ = some (.int .u64 ((m + 1 : Nat) : Int))) => at_is b g n (m + 1) (m + 1) w' ⟨⟨kc, h0⟩, h1⟩ hlo hhi (by omega)
  have hp : (m + 1) % n < n := Nat.mod_lt _ (by omega)
  generalize hpe : (m + 1) % n = p at *
  clear hpe
  have hat0 := hat p hp
  obtain ⟨r0, r1, r2, r3, r4, r5, r6, r7, r8, r9, r10, r11⟩ := hat0
  have hcast : ((m + 1 : Nat) : Int) = (m : Int) + 1 := by omega
  rw [hcast] at *
  clear hcast
  have hpn : (p : Int) < n := by omega
  have hp0 : (0 : Int) ≤ (p : Int) := by omega
  have hn1 := World.new_ne w _ hs
  have hn2 := World.new_ne w _ r0
  have HA := Lib.hid hat
  clear hat
  go_enter Try.func26, Try.ntmps26
  go_wp2_with fail
  obtain ⟨w2, hw2⟩ : ∃ w2 : World, w2 = ((w.alloc (.cells #[.int .i64 r.gi, .int .u64 r.gg] 36)).alloc (.cells #[.int .i64 r.kd, .int .u64 r.a0, .int .u64 r.a1, .int .u64 r.a2, .int .u64 r.a3, .int .u64 r.a4] 40)) := ⟨_, rfl⟩
  have hA2 : Below w.heap.size w w2 := by rw [hw2]; exact ((Below.refl _ w).alloc (by omega) _).alloc (by simp) _
  have hz2 : w2.heap.size = w.heap.size + 2 := by rw [hw2]; simp
  obtain ⟨x0, x1⟩ : w2.cell? ⟨w.heap.size, 0, none⟩ = some (.int .i64 r.gi) ∧ w2.cell? ⟨w.heap.size, 1, none⟩ = some (.int .u64 r.gg) := by
    rw [hw2]
    refine ⟨(World.cell?_alloc_lt _ _ _ (by simp)).trans ?_, (World.cell?_alloc_lt _ _ _ (by simp)).trans ?_⟩ <;> (unfold World.cell?; rw [World.alloc_heap_new]; rfl)
  obtain ⟨y0, y1, y2, y3, y4, y5⟩ : w2.cell? ⟨w.heap.size + 1, 0, none⟩ = some (.int .i64 r.kd) ∧ w2.cell? ⟨w.heap.size + 1, 1, none⟩ = some (.int .u64 r.a0) ∧ w2.cell? ⟨w.heap.size + 1, 2, none⟩ = some (.int .u64 r.a1) ∧ w2.cell? ⟨w.heap.size + 1, 3, none⟩ = some (.int .u64 r.a2) ∧ w2.cell? ⟨w.heap.size + 1, 4, none⟩ = some (.int .u64 r.a3) ∧ w2.cell? ⟨w.heap.size + 1, 5, none⟩ = some (.int .u64 r.a4) := by
    rw [hw2]
    have e : w.heap.size + 1 = (w.alloc (.cells #[.int .i64 r.gi, .int .u64 r.gg] 36)).heap.size := by simp
    rw [e]
    unfold World.cell?
    rw [World.alloc_heap_new]
    exact ⟨rfl, rfl, rfl, rfl, rfl, rfl⟩
  rw [← hw2]
  clear hw2
  have hs2 := (hA2.cell (p := ⟨b, 0, none⟩) hbg.1).trans hs
  have hq2 := (hA2.cell (p := ⟨b, 1, none⟩) hbg.1).trans hq
  refine (CN _ hs2 hq2).mono ?_
  rintro e w' ⟨rfl, rfl⟩
  have hf2 : w2.frozen? ⟨b, 1, none⟩ = false := (hA2.frozen (p := ⟨b, 1, none⟩) hbg.1).trans (hfrb 1)
  go_wp2_with fail
  obtain ⟨w3, hw3⟩ : ∃ w3 : World, w3 = w2.setCell ⟨b, 1, none⟩ (.int .u64 ((m : Int) + 1)) := ⟨_, rfl⟩
  have hfar : ∀ k o, k ≠ b → w3.cell? ⟨k, o, none⟩ = w2.cell? ⟨k, o, none⟩ := fun k o hk => by rw [hw3]; exact World.cell?_setCell_far _ _ _ _ (fun e => hk e.symm)
  have hs3 : w3.cell? ⟨b, 0, none⟩ = some (.slice (some ⟨g, 0, none⟩) n kc) := by rw [hw3]; refine Eq.trans ?_ hs2; apply World.cell?_setCell_other; simp
  have hq3 : w3.cell? ⟨b, 1, none⟩ = some (.int .u64 ((m : Int) + 1)) := by rw [hw3]; apply World.cell?_setCell_same; exact hq2
  have hfz3 : ∀ o, w3.frozen? ⟨g, o, none⟩ = false := fun o => by rw [hw3, World.frozen?_setCell]; exact (hA2.frozen (p := ⟨g, o, none⟩) hbg.2).trans (hfrg o)
  have hfb3 : ∀ o, w3.frozen? ⟨b, o, none⟩ = false := fun o => by rw [hw3, World.frozen?_setCell]; exact (hA2.frozen (p := ⟨b, o, none⟩) hbg.1).trans (hfrb o)
  have hA3 : Apart (fun k => k = b) w w3 := by
    rw [hw3]
    exact ⟨hA2.os, hA2.tape, hA2.output, by simp [World.setCell]; have := hA2.size; omega, fun k hk hS => (Below.heap_setCell _ _ _ _ hS).trans (hA2.block k hk)⟩
  have hz3 : w3.heap.size = w.heap.size + 2 := by rw [hw3]; simpa [World.setCell] using hz2
  have hg3 : w3.heap[g]? = w.heap[g]? := hA3.block g hbg.2 (fun e => hne e.symm)
  rw [← hfar _ _ (by omega)] at x0 x1 y0 y1 y2 y3 y4 y5
  obtain ⟨s0, s1, s2, s3, s4, s5, s6, s7, s8, s9, s10, s11⟩ := (show RecAt w g (p * 12) (L p) from ⟨r0, r1, r2, r3, r4, r5, r6, r7, r8, r9, r10, r11⟩).block hg3
  rw [← hw3]
  clear hw3 hfar r0 r1 r2 r3 r4 r5 r6 r7 r8 r9 r10 r11 hs2 hq2 hf2 hs hq
  have HZ := Lib.hid hz3
  clear hz3 hz2
  have hgb : ¬ g = b := fun e => hne e.symm
  have hgs : ¬ g = w.heap.size := by omega
  have hgs1 : ¬ g = w.heap.size + 1 := by omega
  go_region_held3 (fun w' => w'.cell? ⟨b, 0, none⟩ = some (.slice (some ⟨g, 0, none⟩) n kc) ∧ w'.cell? ⟨b, 1, none⟩ = some (.int .u64 ((m : Int) + 1)) ∧ w'.cell? ⟨w.heap.size, 0, none⟩ = some (.int .i64 r.gi) ∧ w'.cell? ⟨w.heap.size, 1, none⟩ = some (.int .u64 r.gg) ∧ w'.cell? ⟨w.heap.size + 1, 0, none⟩ = some (.int .i64 r.kd) ∧ w'.cell? ⟨w.heap.size + 1, 1, none⟩ = some (.int .u64 r.a0) ∧ w'.cell? ⟨w.heap.size + 1, 2, none⟩ = some (.int .u64 r.a1) ∧ w'.cell? ⟨w.heap.size + 1, 3, none⟩ = some (.int .u64 r.a2) ∧ w'.cell? ⟨w.heap.size + 1, 4, none⟩ = some (.int .u64 r.a3) ∧ w'.cell? ⟨w.heap.size + 1, 5, none⟩ = some (.int .u64 r.a4)) (go_keep) (first | (go_at_call 30; refine (CA _ ?_ ?_).mono ?_; (simp [*]); (simp [*]); rintro e w' ⟨rfl, rfl⟩))
  have hr3 : RecAt w3 g (p * 12) (L p) := ⟨s0, s1, s2, s3, s4, s5, s6, s7, s8, s9, s10, s11⟩
  show Exit.then _ _ Exit.normal _ ((w3.setCells g (p * 12) (Rec.vs { r with sq := (m : Int) + 1 })).drew)
  obtain ⟨w4, hw4⟩ : ∃ w4 : World, w4 = (w3.setCells g (p * 12) (Rec.vs { r with sq := (m : Int) + 1 })).drew := ⟨_, rfl⟩
  obtain ⟨hst, hfz, hsz⟩ := stored w3 g (p * 12) (Rec.vs { r with sq := (m : Int) + 1 })
  have hsr := setRec (r := { r with sq := (m : Int) + 1 }) hr3
  have hso := fun i (hi : i < n) (hip : i ≠ p) => setRec_other (r := { r with sq := (m : Int) + 1 }) ((HA.out i hi).block hg3) hip
  rw [← hw4] at hst hfz hsz hsr hso ⊢
  clear hw4
  have hblk : ∀ k, k < w3.heap.size → k ≠ g → w4.heap[k]? = w3.heap[k]? := hst.block
  have hb3' : b < w3.heap.size := by rw [HZ.out]; omega
  have hA4 : Apart (fun k => k = b ∨ k = g) w w4 :=
    ⟨hst.os.trans hA3.os, hst.tape.trans hA3.tape, hst.output.trans hA3.output, by rw [hsz]; exact hA3.size, fun k hk hS => (hblk k (Nat.lt_of_lt_of_le hk hA3.size) (fun e => hS (.inr e))).trans (hA3.block k hk (fun e => hS (.inl e)))⟩
  have hR4 : Ring w4 b g n (updR L p { r with sq := (m : Int) + 1 }) (m + 1) := by
    refine ⟨⟨?_, ?_⟩, ?_, hne, hlo, hhi, hm, ?_, ?_⟩
    · exact ⟨kc, (World.cell?_of_block (w := w3) (a := ⟨b, 0, none⟩) (hblk b hb3' hne)).trans hs3⟩
    · exact (World.cell?_of_block (w := w3) (a := ⟨b, 1, none⟩) (hblk b hb3' hne)).trans hq3
    · intro i hi
      unfold updR
      by_cases hip : i = p
      · subst hip
        rw [if_pos rfl]
        exact hsr
      · rw [if_neg hip]
        exact hso i hi hip
    · exact fun o => (World.frozen?_of_block (w := w3) (a := ⟨b, o, none⟩) (hblk b hb3' hne)).trans (hfb3 o)
    · exact fun o => (hfz _).trans (hfz3 o)
  have hq4 : w4.cell? ⟨b, 1, none⟩ = some (.int .u64 ((m : Int) + 1)) := hR4.head.q
  go_wp2
  go_ret
  exact ⟨rfl, hR4, hA4⟩
end Go.Proofs.Ythmjhepjlgcgfaa
