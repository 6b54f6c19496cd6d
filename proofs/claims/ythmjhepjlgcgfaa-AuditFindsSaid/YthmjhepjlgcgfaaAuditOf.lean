/- Of of a ring that is there, by walks: the record of a Seq that is there; none of another. -/
import Derived.Test.YthmjhepjlgcgfaaAuditKnown
namespace Go.Proofs.Ythmjhepjlgcgfaa
open Go.RowKit
set_option linter.unusedVariables false
set_option linter.unusedSimpArgs false

set_option maxRecDepth 100000 in
set_option maxHeartbeats 1000000 in
theorem of_out (b g n m : Nat) (L : Nat → Rec) (s : Int) (w : World) (h : Ring w b g n L m) (h0 : 0 ≤ s) (h1 : s ≤ ((m - min m n : Nat) : Int) ∨ (m : Int) < s) :
    Calls Try.prog 13 #[.pointer (some ⟨b, 0, none⟩), .int .u64 s] w fun e w' => e = .returned (.tuple #[.agg zrec.arr, .bool false]) ∧ Below w.heap.size w w' := by
  have hlt := ring_lt h
  have CL := fun w' (hh : Ring w' b g n L m) => lost_is b g n m w' hh.head hh.lo hh.hi (by have := hh.seq; omega)
  have CS := fun w' (hh : Ring w' b g n L m) => seq_is b g n m w' hh.head hh.lo hh.hi
  obtain ⟨y, hy⟩ : ∃ y, y = m - min m n := ⟨_, rfl⟩
  simp only [← hy] at CL h1
  have hym : y ≤ m := by omega
  clear hy
  have hcase : s ≤ (y : Int) ∨ (¬ s ≤ (y : Int) ∧ (m : Int) < s) := by omega
  clear h1
  rcases hcase with h1 | ⟨h1, h2⟩
  all_goals
    go_enter Try.func13, Try.ntmps13
    go_wp2_with (first | (go_at_call 15; refine (CL _ (h.below ((Below.refl _ w).alloc (Nat.le_refl _) _) hlt.1 hlt.2)).mono ?_; rintro e w' ⟨rfl, rfl⟩) | (go_at_call 17; refine (CS _ (h.below ((Below.refl _ w).alloc (Nat.le_refl _) _) hlt.1 hlt.2)).mono ?_; rintro e w' ⟨rfl, rfl⟩))
    refine bodyPost_ret (v := .tuple #[.agg zrec.arr, .bool false]) (by simp [results, Try.results13, go_sem, zrec, Rec.arr]) rfl ⟨rfl, ?_⟩
    exact (Below.refl _ w).alloc (Nat.le_refl _) _

set_option maxRecDepth 100000 in
set_option maxHeartbeats 2000000 in
theorem of_in (b g n m s : Nat) (L : Nat → Rec) (w : World) (h : Ring w b g n L m) (h1 : m - min m n < s) (h2 : s ≤ m) :
    Calls Try.prog 13 #[.pointer (some ⟨b, 0, none⟩), .int .u64 s] w fun e w' => e = .returned (.tuple #[.agg (L (s % n)).arr, .bool true]) ∧ Below w.heap.size w w' := by
  have hlt := ring_lt h
  have hseq := h.seq
  have CL := fun w' (hh : Ring w' b g n L m) => lost_is b g n m w' hh.head hh.lo hh.hi (by omega)
  have CS := fun w' (hh : Ring w' b g n L m) => seq_is b g n m w' hh.head hh.lo hh.hi
  have CA := fun w' (h0 : w'.cell? ⟨b, 0, none⟩ = some (.slice (some ⟨g, 0, none⟩) n n)) (hq : w'.cell? ⟨b, 1, none⟩ = some (.int .u64 m)) => at_is b g n m s w' ⟨h0, hq⟩ h.lo h.hi (by omega)
  have hp : s % n < n := Nat.mod_lt _ h.lo
  generalize s % n = p at *
  obtain ⟨y, hy⟩ : ∃ y, y = m - min m n := ⟨_, rfl⟩
  simp only [← hy] at CL h1
  have hym : y ≤ m := by omega
  clear hy
  have h1' : ¬ (s : Int) ≤ (y : Int) := by omega
  have h2' : ¬ (m : Int) < (s : Int) := by omega
  have hpn : (p : Int) < n := by omega
  have hp0 : (0 : Int) ≤ (p : Int) := by omega
  obtain ⟨x, hx⟩ : ∃ x, x = L p := ⟨_, rfl⟩
  have hrec := h.at' p hp
  rw [← hx] at hrec ⊢
  obtain ⟨r0, r1, r2, r3, r4, r5, r6, r7, r8, r9, r10, r11⟩ := hrec
  have hs := h.head.s
  have hq := h.head.q
  have hn1 := World.new_ne w _ hs
  have hn2 := World.new_ne w _ r0
  have hbs : b < w.heap.size := hlt.1
  have hgs : g < w.heap.size := hlt.2
  have hws : ¬ w.heap.size = b := by omega
  have hwg : ¬ w.heap.size = g := by omega
  have HX := Lib.hid hx
  clear hx
  go_enter Try.func13, Try.ntmps13
  go_wp2_with (first | (go_at_call 15; refine (CL _ (h.below ((Below.refl _ w).alloc (Nat.le_refl _) _) hlt.1 hlt.2)).mono ?_; rintro e w' ⟨rfl, rfl⟩) | (go_at_call 17; refine (CS _ (h.below ((Below.refl _ w).alloc (Nat.le_refl _) _) hlt.1 hlt.2)).mono ?_; rintro e w' ⟨rfl, rfl⟩))
  go_region_held3 (fun w' => w'.cell? ⟨b, 0, none⟩ = some (.slice (some ⟨g, 0, none⟩) n n) ∧ w'.cell? ⟨b, 1, none⟩ = some (.int .u64 m) ∧ w'.cell? ⟨g, p * 12, none⟩ = some (.int .u64 x.sq) ∧ w'.cell? ⟨g, p * 12 + 1, none⟩ = some (.int .u64 x.tm) ∧ w'.cell? ⟨g, p * 12 + 2, none⟩ = some (.int .i64 x.gi) ∧ w'.cell? ⟨g, p * 12 + 3, none⟩ = some (.int .u64 x.gg) ∧ w'.cell? ⟨g, p * 12 + 4, none⟩ = some (.int .i64 x.p) ∧ w'.cell? ⟨g, p * 12 + 5, none⟩ = some (.int .i64 x.kd) ∧ w'.cell? ⟨g, p * 12 + 6, none⟩ = some (.int .u64 x.a0) ∧ w'.cell? ⟨g, p * 12 + 7, none⟩ = some (.int .u64 x.a1) ∧ w'.cell? ⟨g, p * 12 + 8, none⟩ = some (.int .u64 x.a2) ∧ w'.cell? ⟨g, p * 12 + 9, none⟩ = some (.int .u64 x.a3) ∧ w'.cell? ⟨g, p * 12 + 10, none⟩ = some (.int .u64 x.a4) ∧ w'.cell? ⟨g, p * 12 + 11, none⟩ = some (.int .i64 x.cd)) (go_keep) (first | (go_at_call 30; refine (CA _ ?_ ?_).mono ?_; (simp [*]); (simp [*]); rintro e w' ⟨rfl, rfl⟩))
  all_goals
    go_wp2
    refine bodyPost_ret (v := .tuple #[.agg x.arr, .bool true]) (by simp [results, Try.results13, go_sem, Rec.arr]) rfl ⟨rfl, ?_⟩
    exact ((Below.refl _ w).alloc (Nat.le_refl _) _).drew
end Go.Proofs.Ythmjhepjlgcgfaa
