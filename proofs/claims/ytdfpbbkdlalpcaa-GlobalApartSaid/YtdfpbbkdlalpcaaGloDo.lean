/- The law's own do, act by act, by walks: both queues answer alike, and agree as before. Conditions: both agree, of at most 90000; the act's rows are small. -/
import Derived.Test.YtdfpbbkdlalpcaaGloKnown
namespace Go.Proofs.Ytdfpbbkdlalpcaa
open Go.RowKit
set_option linter.unusedVariables false
set_option linter.unusedSimpArgs false

/-- What an act comes to. -/
def DoPost (w : World) (B q c n : Nat) (e : Ending) (w' : World) : Prop :=
  e = .returned (.bool true) ∧ (∃ N' A' cap', Both w' B q c N' A' cap' ∧ N'.length ≤ n) ∧ Below B w w'

theorem both_new {w : World} {B q c : Nat} {N : List (Nat × Int)} {A : Option Addr} {cap : Nat} (h : Both w B q c N A cap) (o : Obj) : Both (w.alloc o) B q c N A cap := h.below ((Below.refl _ w).alloc (Nat.le_refl _) o)

/-- The program's queue has turned, as the reference's is to turn. -/
theorem both_step {w w1 w2 : World} {B q c : Nat} {N N' : List (Nat × Int)} {A A' : Option Addr} {cap cap' : Nat} (h : Both w B q c N A cap) (hA1 : Apart (bl q N) w w1) (hq : Qu w1 q N') (hlo : ∀ k, bl q N' k → B ≤ k)
    (hA2 : Apart (fun k => k = c) w1 w2) (hr : RQ w2 c B (vals N') A' cap') : Both w2 B q c N' A' cap' ∧ Below B w w2 := by
  have hne : ∀ k, bl q N' k → k ≠ c := fun k hk e => by
    subst e
    have hb := hA1.block k h.rq.blk.lt h.ne
    have hb2 : w1.heap[k]? = some (.cells _ _ (0, 0)) := hb.trans h.rq.blk
    rcases bl_types hq hk hb2 with e | e <;> exact absurd e (by decide)
  refine ⟨⟨hq.keep fun k hk => hA2.block k (hq.lt k hk) (hne k hk), hr, hlo, Nat.le_trans h.hB (Nat.le_trans hA1.size hA2.size)⟩, ?_⟩
  exact (hA1.below h.hB h.lo).trans ((hA2.below (B := B) (Nat.le_trans h.hB hA1.size) (fun k e => by have := h.rq.lo; omega)))

set_option maxRecDepth 100000 in
set_option maxHeartbeats 2000000 in
theorem do_2 (X : Option Addr) (xs : List Int) (xc : Nat) (g p : Int) (F : Option Addr) (aff : List Nat) (fc : Nat) (B q c : Nat) (N : List (Nat × Int)) (A : Option Addr) (cap : Nat) (w : World) (h : Both w B q c N A cap) (hn : N.length ≤ 90000)
    (hF : Bytes w B F aff) (h8 : ∀ x ∈ aff, x < 256) (hla : aff.length ≤ maxLen) :
    Calls Try.prog 9 #[.pointer (some ⟨q, 0, none⟩), .pointer (some ⟨c, 0, none⟩), .agg #[.int .i64 2, .slice X xs.length xc, .int .i64 g, .int .i64 p, .slice F aff.length fc]] w (DoPost w B q c N.length) := by
  have hb1 : Below w.heap.size w (w.alloc (.cells #[.int .i64 2, .slice X xs.length xc, .int .i64 g, .int .i64 p, .slice F aff.length fc] 34)) := (Below.refl _ w).alloc (Nat.le_refl _) _
  have hbx := Blk.new w 34 #[.int .i64 2, .slice X xs.length xc, .int .i64 g, .int .i64 p, .slice F aff.length fc]
  have H1 := h.below hb1
  have hF1 := (hF.below (hb1.mono h.hB))
  have hvl : (vals N).length ≤ 100000 := by rw [vals_len]; omega
  go_enter Try.func9, Try.ntmps9
  go_wp2_with fail
  generalize hw1 : w.alloc (.cells #[.int .i64 2, .slice X xs.length xc, .int .i64 g, .int .i64 p, .slice F aff.length fc] 34) = w1 at *
  clear hw1
  rcases hit_or_miss (mayB p aff) (vals N) with ⟨i, hit⟩ | miss
  · have hil : i < (vals N).length := hit.1
    obtain ⟨y, hy⟩ : ∃ y, (vals N)[i]? = some y := ⟨_, List.getElem?_eq_getElem hil⟩
    refine (take_at p aff F fc B q i N w1 H1.qu (by omega) hF1 H1.hB hla h8 _ rfl hit y hy).mono ?_
    rintro e w2 ⟨rfl, hq2, ha2⟩
    have hbx2 : Blk w2 w.heap.size 34 #[.int .i64 2, .slice X xs.length xc, .int .i64 g, .int .i64 p, .slice F aff.length fc] := (ha2.block _ hbx.lt (fun hk => by have := h.qu.lt _ hk; omega)).trans hbx
    have hF2 : Bytes w2 B F aff := hF1.below (ha2.below H1.hB H1.lo)
    have d3 := hbx2.cell 3
    have d4 := hbx2.cell 4
    simp only [List.getElem?_toArray, List.getElem?_cons_zero, List.getElem?_cons_succ] at d3 d4
    have hr2 := H1.rq_apart ha2
    have CT := refTake_hit p aff F fc B c B i (vals N) A cap w2 hr2 hvl hF2 hla h8 (Nat.le_trans H1.hB ha2.size) hit
    have CT2 := CT.mono (R' := fun e w' => (∃ z, e = .returned (.slice (some ⟨z, 0, none⟩) 1 1) ∧ w'.cell? ⟨z, 0, none⟩ = some (.int .i64 y)) ∧ (∃ A' cap', RQ w' c B ((vals N).eraseIdx i) A' cap') ∧ Apart (fun k => k = c) w2 w') fun e w' ⟨⟨z, _, he, hi', hz⟩, hr, ha⟩ => ⟨⟨z, he, by
      rw [hz]
      rw [List.getElem?_eq_getElem hi'] at hy
      injection hy with hy
      rw [hy]⟩, hr, ha⟩
    have HH := Lib.hid (show Both w1 B q c N A cap ∧ Apart (bl q N) w1 w2 ∧ Qu w2 q (N.eraseIdx i) ∧ Below B w w1 from ⟨H1, ha2, hq2, hb1.mono h.hB⟩)
    have HIL := Lib.hid hil
    clear CT hbx hF1 H1 hq2 ha2 hbx2 hF2 hr2 h hF h8 hit hy hb1 hil
    go_wp2_with (go_at_call 19; refine CT2.mono ?_; rintro e w3 ⟨⟨z, rfl, hz⟩, hr3, ha3⟩; (have HR3 := Lib.hid hr3); (have HA3 := Lib.hid ha3); clear hr3 ha3)
    go_ret
    obtain ⟨H1, ha2, hq2, hb1⟩ := HH.out
    obtain ⟨A', cap', hr3⟩ := HR3.out
    have hb := both_step H1 ha2 hq2 (fun k hk => H1.lo k (bl_erase hk)) HA3.out (by rw [vals_erase]; exact hr3)
    exact ⟨rfl, ⟨_, _, _, hb.1, by have := List.length_eraseIdx_le N i; omega⟩, hb1.trans hb.2⟩
  · refine (take_miss p aff F fc B q N w1 H1.qu (by omega) hF1 H1.hB hla h8 miss).mono ?_
    rintro e w2 ⟨rfl, ha2⟩
    have H2 := H1.below ha2
    have hbx2 := hbx.below ha2 hbx.lt
    have hF2 : Bytes w2 B F aff := hF1.below (ha2.mono H1.hB)
    have d3 := hbx2.cell 3
    have d4 := hbx2.cell 4
    simp only [List.getElem?_toArray, List.getElem?_cons_zero, List.getElem?_cons_succ] at d3 d4
    have CT := refTake_miss p aff F fc B c B (vals N) A cap w2 H2.rq hvl hF2 hla h8 miss
    have HH := Lib.hid (show Both w2 B q c N A cap ∧ Below B w w2 from ⟨H2, (hb1.mono h.hB).trans (ha2.mono H1.hB)⟩)
    clear hbx hF1 H1 H2 ha2 hbx2 hF2 h hF h8 miss hb1
    go_wp2_with (go_at_call 19; refine CT.mono ?_; rintro e w3 ⟨rfl, rfl⟩)
    go_ret
    exact ⟨rfl, ⟨_, _, _, HH.out.1, Nat.le_refl _⟩, HH.out.2⟩
end Go.Proofs.Ytdfpbbkdlalpcaa
