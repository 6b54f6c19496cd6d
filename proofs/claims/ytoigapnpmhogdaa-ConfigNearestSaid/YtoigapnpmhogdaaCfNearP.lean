/- The nearest configuration; rows that are read and may be written. No program's walk. -/
import Derived.Test.YtoigapnpmhogdaaCfMut
import Derived.Test.YtoigapnpmhogdaaCfKnown
namespace Go.Proofs.Ytoigapnpmhogdaa
open Go.RowKit
set_option linter.unusedVariables false

def nearC (c : Nat → Int) (k : Nat) : Int := cl k (c k)
def nearL (L : List (List UInt8)) : List (List UInt8) := if L = [] then [plP] else (L.take 16).map fun l => l.take 1024
/-- Brought within bounds up to a part. -/
def clN (c : Nat → Int) (k j : Nat) : Int := if j < k then cl j (c j) else c j
theorem clN_at (c : Nat → Int) (k : Nat) : clN c k k = c k := if_neg (by omega)
theorem clN_set (c : Nat → Int) (P : Value) (k : Nat) (hk : k < 14) : (cfV (clN c k) P).setIfInBounds k (part' k (cl k (c k))) = cfV (clN c (k + 1)) P := by
  apply Array.ext_getElem?
  intro i
  rw [Array.getElem?_setIfInBounds]
  have hs : (cfV (clN c k) P).size = 15 := rfl
  rcases Nat.lt_or_ge i 14 with h14 | h14
  · rw [cfV_get (clN c (k + 1)) P i h14]
    split
    · rename_i h
      subst h
      rw [if_pos (by omega)]
      unfold clN
      rw [if_pos (by omega)]
    · rename_i h
      rw [cfV_get (clN c k) P i h14]
      unfold clN
      by_cases h2 : i < k
      · rw [if_pos h2, if_pos (by omega)]
      · rw [if_neg h2, if_neg (by omega)]
  · rw [if_neg (by omega)]
    rcases Nat.eq_or_lt_of_le h14 with e | e
    · subst e; rfl
    · rw [Array.getElem?_eq_none (by rw [hs]; omega), Array.getElem?_eq_none (by show 15 ≤ i; omega)]
theorem clN_zero (c : Nat → Int) : clN c 0 = c := by funext j; exact if_neg (by omega)
theorem clN_end (c : Nat → Int) (P : Value) : cfV (clN c 14) P = cfV (nearC c) P := rfl

/-- Rows that are read as bytes, each where it has bytes in a block of its own beyond H. -/
def RowsAt (w : World) (H : Nat) (cs : Array Value) (L : List (List UInt8)) : Prop :=
  ∀ (i : Nat) (l : List UInt8), L[i]? = some l → ∃ Ai ci, cs[i]? = some (.slice Ai l.length ci) ∧ l.length ≤ ci ∧ (Ai = none → l = [] ∧ ci = 0) ∧
    (0 < l.length → ∃ gi cur, Ai = some ⟨gi, 0, none⟩ ∧ H ≤ gi ∧ Blk w gi 5 cur ∧ cur.toList.take l.length = l.map byteV)
theorem RowsAt.keep {w w' : World} {H : Nat} {cs : Array Value} {L : List (List UInt8)} (h : RowsAt w H cs L) (hk : ∀ g cur, H ≤ g → Blk w g 5 cur → Blk w' g 5 cur) : RowsAt w' H cs L := fun i l hi => by
  obtain ⟨Ai, ci, h1, h2, h3, h4⟩ := h i l hi
  exact ⟨Ai, ci, h1, h2, h3, fun hm => by
    obtain ⟨gi, cur, a, b, c, d⟩ := h4 hm
    exact ⟨gi, cur, a, b, hk _ _ b c, d⟩⟩
theorem RowsAt.mut {w : World} {H : Nat} {cs : Array Value} {L : List (List UInt8)} (h : RowsAt w H cs L) : MutX w H cs (L.map List.length) := fun i m hi => by
  rw [List.getElem?_map] at hi
  obtain ⟨l, hl, rfl⟩ := Option.map_eq_some_iff.1 hi
  obtain ⟨Ai, ci, h1, h2, h3, h4⟩ := h i l hl
  refine ⟨Ai, ci, h1, fun hm => ?_⟩
  obtain ⟨gi, cur, a, b, c, d⟩ := h4 hm
  refine ⟨gi, cur, a, b, c, fun k hk => ⟨((l[k]'hk).toNat : Int), ?_⟩⟩
  rw [← Array.getElem?_toList, ← List.getElem?_take_of_lt hk, d, List.getElem?_map, List.getElem?_eq_getElem hk]
  rfl
theorem RowsAt.pr {w : World} {H g : Nat} {cs : Array Value} {L : List (List UInt8)} (h : RowsAt w H cs L) (hg : Blk w g 43 cs) : PrAt w w.heap.size (some ⟨g, 0, none⟩) L := fun _ => by
  refine ⟨g, 0, rfl, hg.lt, fun i hi => ?_⟩
  obtain ⟨Ai, ci, h1, h2, h3, h4⟩ := h i (L[i]'hi) (List.getElem?_eq_getElem hi)
  refine ⟨Ai, ci, by rw [Nat.zero_add]; exact (hg.cell i).trans h1, h2, ⟨by simp, fun hp => ?_⟩, h3⟩
  obtain ⟨gi, cur, rfl, b, c, d⟩ := h4 hp
  refine ⟨_, rfl, c.lt, fun j u hu => ?_⟩
  have hj : j < (L[i]'hi).length := by
    rcases Nat.lt_or_ge j (L[i]'hi).length with h5 | h5
    · exact h5
    · rw [List.getElem?_eq_none (by rw [List.length_map]; exact h5)] at hu; cases hu
  have e : (⟨gi, 0, none⟩ : Addr).add j = ⟨gi, j, none⟩ := by unfold Addr.add; split <;> simp_all
  rw [e, c.cell j, ← Array.getElem?_toList, ← List.getElem?_take_of_lt hj, d]
  exact hu
theorem RowsAt.of_own {w : World} {H n cap : Nat} {A : Option Addr} {xs : List Value} {L : List (List UInt8)} (h : w.ownsRow H 43 1 (.slice A n cap) n xs) (hr : RowsIn w H xs L) (hn : 0 < n) :
    ∃ g cs, A = some ⟨g, 0, none⟩ ∧ H ≤ g ∧ Blk w g 43 cs ∧ RowsAt w H cs L ∧ n ≤ cap := by
  rcases h.2 with ⟨_, h0⟩ | ⟨g, cap', cur, hv, hg, hh, hnc, hm, hsz, htake⟩
  · omega
  · refine ⟨g, cur, by injection hv, hg, hh, fun i l hl => ?_, by injection hv with _ _ e; omega⟩
    have hil : i < xs.length := by
      rw [hr.1]
      rcases Nat.lt_or_ge i L.length with h3 | h3
      · exact h3
      · rw [List.getElem?_eq_none h3] at hl; cases hl
    have hxn := h.1
    have hx := hr.2.1 i (xs[i]'hil) l (List.getElem?_eq_getElem hil) hl
    obtain ⟨Ai, ci, e, h0, hle⟩ := own_form hx
    refine ⟨Ai, ci, ?_, hle, fun hn => ⟨List.length_eq_zero_iff.1 (h0 hn).1, (h0 hn).2⟩, fun hm => ?_⟩
    · rw [← Array.getElem?_toList, ← List.getElem?_take_of_lt (show i < n * 1 by omega), htake, List.getElem?_eq_getElem hil, e]
    · rcases hx.2 with ⟨_, h0'⟩ | ⟨gi, ci', cu, hv', hgi, hhi, hnc', hm', hsz', htake'⟩
      · omega
      · rw [e] at hv'
        exact ⟨gi, cu, by injection hv', hgi, hhi, by rw [← Nat.mul_one l.length, htake']⟩
theorem RowsAt.of_plain {w : World} {H g' cap : Nat} {cur : Array Value} (h2 : Blk w g' 5 cur) (hg : H ≤ g') (hc : 8 ≤ cap) (ht : cur.toList.take 8 = plP.map byteV) : RowsAt w H #[.slice (some ⟨g', 0, none⟩) 8 cap] [plP] := fun i l hi => by
  have h0 : i = 0 := by
    rcases Nat.eq_zero_or_pos i with e | e
    · exact e
    · rw [List.getElem?_eq_none (by rw [List.length_singleton]; exact e)] at hi; cases hi
  subst h0
  simp at hi
  subst hi
  exact ⟨_, cap, rfl, hc, (fun h => by cases h), fun _ => ⟨g', cur, rfl, hg, h2, ht⟩⟩
/-- A shorter row of rows. -/
theorem RowsAt.take {w : World} {H : Nat} {cs : Array Value} {L : List (List UInt8)} (h : RowsAt w H cs L) (n : Nat) : RowsAt w H cs (L.take n) := fun i l hi => by
  refine h i l ?_
  have hin : i < n := by
    rcases Nat.lt_or_ge i n with h3 | h3
    · exact h3
    · rw [List.getElem?_eq_none (by rw [List.length_take]; omega)] at hi; cases hi
  rwa [List.getElem?_take_of_lt hin] at hi
/-- The rows up to k cut short. -/
def mix (k : Nat) (L : List (List UInt8)) : List (List UInt8) := L.mapIdx fun i l => if i < k then l.take 1024 else l
theorem mix_at (k : Nat) (L : List (List UInt8)) (i : Nat) : (mix k L)[i]? = (L[i]?).map fun l => if i < k then l.take 1024 else l := by
  unfold mix
  rw [List.getElem?_mapIdx]
theorem mix_zero (L : List (List UInt8)) : mix 0 L = L := by
  apply List.ext_getElem?
  intro i
  rw [mix_at]
  cases L[i]? <;> simp
theorem mix_end (L : List (List UInt8)) : mix L.length L = L.map fun l => l.take 1024 := by
  apply List.ext_getElem?
  intro i
  rw [mix_at, List.getElem?_map]
  rcases Nat.lt_or_ge i L.length with h | h
  · rw [List.getElem?_eq_getElem h]; simp [h]
  · rw [List.getElem?_eq_none h]; rfl
theorem RowsAt.cut {w w' : World} {H k : Nat} {cs : Array Value} {L : List (List UInt8)} {l : List UInt8} {Ai : Option Addr} {ci : Nat} (h : RowsAt w H cs (mix k L)) (hl : L[k]? = some l) (hc : cs[k]? = some (.slice Ai l.length ci))
    (hk : ∀ g cur, H ≤ g → Blk w g 5 cur → Blk w' g 5 cur) (m : Nat) (hm : m = (l.take 1024).length) : RowsAt w' H (cs.setIfInBounds k (.slice Ai m ci)) (mix (k + 1) L) := fun i l' hi => by
  subst hm
  rw [mix_at] at hi
  by_cases e : k = i
  · subst e
    rw [hl] at hi
    simp only [Option.map_some, Option.some.injEq] at hi
    rw [if_pos (by omega)] at hi
    subst hi
    obtain ⟨A', c', h1, h2, h3, h4⟩ := h k l (by rw [mix_at, hl]; simp)
    rw [hc] at h1
    simp only [Option.some.injEq, Value.slice.injEq, true_and] at h1
    obtain ⟨rfl, rfl⟩ := h1
    have hks : k < cs.size := by
      rcases Nat.lt_or_ge k cs.size with h5 | h5
      · exact h5
      · rw [Array.getElem?_eq_none h5] at hc; cases hc
    refine ⟨Ai, ci, by rw [Array.getElem?_setIfInBounds, if_pos rfl, if_pos hks], by rw [List.length_take]; omega, fun hn => ⟨by rw [(h3 hn).1]; rfl, (h3 hn).2⟩, fun hp => ?_⟩
    obtain ⟨gi, cur, a, b, c, d⟩ := h4 (by rw [List.length_take] at hp; omega)
    refine ⟨gi, cur, a, b, hk _ _ b c, ?_⟩
    have : cur.toList.take (l.take 1024).length = (cur.toList.take l.length).take (l.take 1024).length := by rw [List.take_take]; congr 1; rw [List.length_take]; omega
    rw [this, d, ← List.map_take]
    congr 1
    rw [List.length_take, List.take_eq_take_iff]
    omega
  · obtain ⟨A', c', h1, h2, h3, h4⟩ := h i l' (by
      rw [mix_at, ← hi]
      congr 1
      funext x
      by_cases h5 : i < k
      · rw [if_pos h5, if_pos (by omega)]
      · rw [if_neg h5, if_neg (by omega)])
    refine ⟨A', c', by rw [Array.getElem?_setIfInBounds, if_neg e]; exact h1, h2, h3, fun hp => ?_⟩
    obtain ⟨gi, cur, a, b, c, d⟩ := h4 hp
    exact ⟨gi, cur, a, b, hk _ _ b c, d⟩
end Go.Proofs.Ytoigapnpmhogdaa
