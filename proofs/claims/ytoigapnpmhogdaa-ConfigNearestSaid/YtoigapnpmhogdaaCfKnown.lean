/- The law's known, by a walk. -/
import Derived.Test.YtoigapnpmhogdaaCfOutI
namespace Go.Proofs.Ytoigapnpmhogdaa
open Go.RowKit
set_option linter.unusedVariables false
set_option linter.unusedSimpArgs false

theorem plP_len : plP.length = 8 := rfl
/-- The plain programs in memory. -/
theorem pl_at {w : World} {g g' cap B : Nat} {cur : Array Value} (h1 : Blk w g 43 #[.slice (some ⟨g', 0, none⟩) 8 cap]) (h2 : Blk w g' 5 cur) (hc : 8 ≤ cap) (ht : cur.toList.take 8 = plP.map byteV) (hg : g < B) (hg' : g' < B) : PrAt w B (some ⟨g, 0, none⟩) [plP] := fun _ => by
  refine ⟨g, 0, rfl, hg, fun i hi => ?_⟩
  obtain rfl : i = 0 := by simp at hi; exact hi
  refine ⟨some ⟨g', 0, none⟩, cap, h1.cell 0, hc, ⟨rfl, fun _ => ⟨_, rfl, hg', fun j u hu => ?_⟩⟩, fun h => nomatch h⟩
  have hj : j < 8 := by
    rcases Nat.lt_or_ge j 8 with h | h
    · exact h
    · rw [List.getElem?_eq_none (by simpa [plP] using h)] at hu; cases hu
  have e : (⟨g', 0, none⟩ : Addr).add j = ⟨g', j, none⟩ := by unfold Addr.add; split <;> simp_all
  rw [e, h2.cell j, ← Array.getElem?_toList, ← List.getElem?_take_of_lt hj, ht]
  exact hu

def kc (k : Nat) : Int := if k = 1 then 1 else if k = 9 then 0 else plc k
theorem may_pl : mayN plc [plP] = 0 := by decide +kernel
theorem wrong_pl : wrongS plc [plP] = (⟨#[]⟩, -1) := by decide +kernel
theorem may_kc : mayN kc [plP] = 2 := by decide +kernel
theorem wrong_kc : wrongS kc [plP] = (⟨#[82, 105, 110, 103]⟩, -1) := by decide +kernel

theorem wrongPl (c : Nat → Int) (A : Option Addr) (w : World) (h : PrAt w w.heap.size A [plP]) : Calls Try.prog 11 #[.agg (cfV c (.slice A 1 1))] w fun e w' => e = .returned (.tuple #[.string (wrongS c [plP]).1, .int .i64 (wrongS c [plP]).2]) ∧ Below w.heap.size w w' :=
  wrong_is c A 1 [plP] w h (by decide) (by intro x hx; rw [List.mem_singleton.1 hx]; decide)
theorem mayPl (c : Nat → Int) (A : Option Addr) (w : World) (h : PrAt w w.heap.size A [plP]) : Calls Try.prog 13 #[.agg (cfV c (.slice A 1 1))] w fun e w' => e = .returned (.int .i64 (mayN c [plP])) ∧ Below w.heap.size w w' :=
  may_is c A 1 [plP] w h (by decide) (by intro x hx; rw [List.mem_singleton.1 hx]; decide)

set_option maxHeartbeats 2000000 in
theorem known_is (w : World) : Calls Try.prog 9 #[] w fun e w' => e = .returned (.bool true) ∧ Below w.heap.size w w' := by
  have CP := plain_is w
  go_enter Try.func9, Try.ntmps9
  go_wp2_with (go_at_call 18; refine CP.mono ?_; rintro e w1 ⟨g, g', cap, cur, rfl, hg, hg', hne, hB, hB', hcap, htake, hbel⟩; unfold cfV)
  have hp1 : PrAt w1 w1.heap.size (some ⟨g, 0, none⟩) [plP] := pl_at hB hB' hcap htake hB.lt hB'.lt
  clear CP hg hg' hne hB hB' hcap htake
  have HB2 := Blk.new w1 25 (cfV plc (.slice (some ⟨g, 0, none⟩) 1 1))
  have hb2 := (Below.refl w1.heap.size w1).alloc (Nat.le_refl _) (.cells (cfV plc (.slice (some ⟨g, 0, none⟩) 1 1)) 25)
  obtain ⟨w2, hw2⟩ : ∃ w2, w2 = w1.alloc (.cells (cfV plc (.slice (some ⟨g, 0, none⟩) 1 1)) 25) := ⟨_, rfl⟩
  rw [← hw2] at HB2 hb2
  unfold cfV at hw2
  rw [← hw2]
  have C2 := wrongPl plc (some ⟨g, 0, none⟩) w2 ((hp1.below hb2).more hb2.size)
  rw [wrong_pl] at C2
  clear hw2
  unfold cfV at C2
  refine C2.mono ?_
  rintro e w3 ⟨rfl, hb3⟩
  have HB3 := HB2.below hb3 HB2.lt
  have hbb3 := hb2.trans (hb3.mono hb2.size)
  have C3 := mayPl plc (some ⟨g, 0, none⟩) w3 ((hp1.below hbb3).more hbb3.size)
  rw [may_pl] at C3
  clear C2 hb2 hb3
  obtain ⟨y0, y1, y2, y3, y4, y5, y6, y7, y8, y9, y10, y11, y12, y13, y14⟩ := cells15 HB3
  unfold cfV at C3
  go_wp2_with fail
  refine C3.mono ?_
  rintro e w4 ⟨rfl, hb4⟩
  have HB4 := HB3.below hb4 HB3.lt
  have hbb4 := hbb3.trans (hb4.mono hbb3.size)
  clear C3 hb4 hbb3 y0 y1 y2 y3 y4 y5 y6 y7 y8 y9 y10 y11 y12 y13 y14
  have f1 := HB4.frozen 1
  have f9 := HB4.frozen 9
  have HB5 : Blk ((w4.setCell ⟨w1.heap.size, 1, none⟩ (.int .i64 1)).setCell ⟨w1.heap.size, 9, none⟩ (.int .i64 0)) w1.heap.size 25 (cfV kc (.slice (some ⟨g, 0, none⟩) 1 1)) := (HB4.set_ 1 (.int .i64 1)).set_ 9 (.int .i64 0)
  have hbb5 := (hbb4.setCell (p := ⟨w1.heap.size, 1, none⟩) (Nat.le_refl _) (.int .i64 1)).setCell (p := ⟨w1.heap.size, 9, none⟩) (Nat.le_refl _) (.int .i64 0)
  obtain ⟨y0, y1, y2, y3, y4, y5, y6, y7, y8, y9, y10, y11, y12, y13, y14⟩ := cells15 HB4
  go_wp2_with fail
  obtain ⟨w5, hw5⟩ : ∃ w5, w5 = (w4.setCell ⟨w1.heap.size, 1, none⟩ (.int .i64 1)).setCell ⟨w1.heap.size, 9, none⟩ (.int .i64 0) := ⟨_, rfl⟩
  rw [← hw5]
  rw [← hw5] at HB5 hbb5
  clear hw5 HB4 HB3 HB2 hbb4 y0 y1 y2 y3 y4 y5 y6 y7 y8 y9 y10 y11 y12 y13 y14 f1 f9
  have C5 := wrongPl kc (some ⟨g, 0, none⟩) w5 ((hp1.below hbb5).more hbb5.size)
  rw [wrong_kc] at C5
  refine C5.mono ?_
  rintro e w6 ⟨rfl, hb6⟩
  have HB6 := HB5.below hb6 HB5.lt
  have hbb6 := hbb5.trans (hb6.mono hbb5.size)
  have C6 := mayPl kc (some ⟨g, 0, none⟩) w6 ((hp1.below hbb6).more hbb6.size)
  rw [may_kc] at C6
  clear C5 hb6 HB5 hbb5
  obtain ⟨y0, y1, y2, y3, y4, y5, y6, y7, y8, y9, y10, y11, y12, y13, y14⟩ := cells15 HB6
  unfold cfV at C6
  go_wp2_with (go_at_call 13; refine C6.mono ?_; rintro e w7 ⟨rfl, hb7⟩)
  go_ret
  exact ⟨rfl, hbel.trans ((hbb6.trans (hb7.mono hbb6.size)).mono hbel.size)⟩
end Go.Proofs.Ytoigapnpmhogdaa
