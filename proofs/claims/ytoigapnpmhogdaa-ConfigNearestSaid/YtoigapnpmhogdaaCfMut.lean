/- Rows of bytes that may be written. No program's walk. -/
import Derived.Test.YtoigapnpmhogdaaCfCopy
namespace Go.Proofs.Ytoigapnpmhogdaa
open Go.RowKit
set_option linter.unusedVariables false

/-- Each row of a row of rows: its length; where it has bytes, a block of its own beyond H. -/
def MutX (w : World) (H : Nat) (cs : Array Value) (ls : List Nat) : Prop :=
  ∀ (i : Nat) (m : Nat), ls[i]? = some m → ∃ Ai ci, cs[i]? = some (.slice Ai m ci) ∧ (0 < m → ∃ gi cur, Ai = some ⟨gi, 0, none⟩ ∧ H ≤ gi ∧ Blk w gi 5 cur ∧ ∀ k, k < m → ∃ b, cur[k]? = some (.int .u8 b))
theorem MutX.keep {w w' : World} {H : Nat} {cs : Array Value} {ls : List Nat} (h : MutX w H cs ls) (hk : ∀ g cur, Blk w g 5 cur → Blk w' g 5 cur) : MutX w' H cs ls := fun i m hi => by
  obtain ⟨Ai, ci, h1, h2⟩ := h i m hi
  exact ⟨Ai, ci, h1, fun hm => by
    obtain ⟨gi, cur, a, b, c, d⟩ := h2 hm
    exact ⟨gi, cur, a, b, hk _ _ c, d⟩⟩
theorem MutX.below {w w' : World} {H : Nat} {cs : Array Value} {ls : List Nat} (h : MutX w H cs ls) (hb : Below w.heap.size w w') : MutX w' H cs ls := h.keep fun g cur hg => hg.below hb hg.lt
theorem MutX.set {w : World} {H : Nat} {cs : Array Value} {ls : List Nat} (h : MutX w H cs ls) (g k : Nat) (b : Int) : MutX (w.setCell ⟨g, k, none⟩ (.int .u8 b)) H cs ls := fun i m hi => by
  obtain ⟨Ai, ci, h1, h2⟩ := h i m hi
  refine ⟨Ai, ci, h1, fun hm => ?_⟩
  obtain ⟨gi, cur, a, b', c, d⟩ := h2 hm
  by_cases e : gi = g
  · subst e
    refine ⟨gi, cur.setIfInBounds k (.int .u8 b), a, b', c.set_ k _, fun k' hk' => ?_⟩
    obtain ⟨x, hx⟩ := d k' hk'
    rw [Array.getElem?_setIfInBounds]
    split
    · rename_i e2
      subst e2
      have : k < cur.size := by
        rcases Nat.lt_or_ge k cur.size with h3 | h3
        · exact h3
        · rw [Array.getElem?_eq_none h3] at hx; cases hx
      rw [if_pos this]
      exact ⟨_, rfl⟩
    · exact ⟨x, hx⟩
  · exact ⟨gi, cur, a, b', c.far (p := ⟨g, k, none⟩) e _, d⟩
/-- Rows of the call's own may be written. -/
theorem MutX.of_own {w : World} {H n cap : Nat} {A : Option Addr} {xs : List Value} {L : List (List UInt8)} (h : w.ownsRow H 43 1 (.slice A n cap) n xs) (hr : RowsIn w H xs L) (hn : 0 < n) :
    ∃ g cs, A = some ⟨g, 0, none⟩ ∧ H ≤ g ∧ Blk w g 43 cs ∧ MutX w H cs (L.map List.length) := by
  rcases h.2 with ⟨_, h0⟩ | ⟨g, cap', cur, hv, hg, hh, hnc, hm, hsz, htake⟩
  · omega
  · refine ⟨g, cur, by injection hv, hg, hh, fun i m hi => ?_⟩
    rw [List.getElem?_map] at hi
    obtain ⟨l, hl, rfl⟩ := Option.map_eq_some_iff.1 hi
    have hil : i < xs.length := by
      rw [hr.1]
      rcases Nat.lt_or_ge i L.length with h3 | h3
      · exact h3
      · rw [List.getElem?_eq_none h3] at hl; cases hl
    have hxn := h.1
    have hx := hr.2.1 i (xs[i]'hil) l (List.getElem?_eq_getElem hil) hl
    obtain ⟨Ai, ci, e, h0, hle⟩ := own_form hx
    refine ⟨Ai, ci, ?_, fun hm => ?_⟩
    · rw [← Array.getElem?_toList, ← List.getElem?_take_of_lt (show i < n * 1 by omega), htake, List.getElem?_eq_getElem hil, e]
    · rcases hx.2 with ⟨_, h0'⟩ | ⟨gi, ci', cu, hv', hgi, hhi, hnc', hm', hsz', htake'⟩
      · omega
      · rw [e] at hv'
        refine ⟨gi, cu, by injection hv', hgi, hhi, fun k hk => ⟨((l[k]'hk).toNat : Int), ?_⟩⟩
        rw [← Array.getElem?_toList, ← List.getElem?_take_of_lt (show k < l.length * 1 by omega), htake', List.getElem?_map, List.getElem?_eq_getElem hk]
        rfl
end Go.Proofs.Ytoigapnpmhogdaa
