/- The nearest configuration may be, and is its own nearest; rows that may be written, between two marks. No program's walk. -/
import Derived.Test.YtoigapnpmhogdaaCfNearP
namespace Go.Proofs.Ytoigapnpmhogdaa
open Go.RowKit
set_option linter.unusedVariables false

theorem lo_le_hi (k : Nat) (hk : k < 14) : lo k ≤ hi k := (lo_hi k hk).1
theorem near_in (c : Nat → Int) (k : Nat) (hk : k < 14) : inB k (nearC c k) = true := by
  have := lo_le_hi k hk
  unfold inB nearC cl
  rw [Bool.and_eq_true, decide_eq_true_eq, decide_eq_true_eq]
  split
  · exact ⟨Int.le_refl _, this⟩
  · split
    · exact ⟨this, Int.le_refl _⟩
    · omega
theorem near_near (c : Nat → Int) (k : Nat) (hk : k < 14) : nearC (nearC c) k = nearC c k := cl_in (near_in c k hk)
theorem nearL_ne (L : List (List UInt8)) : nearL L ≠ [] := by
  unfold nearL
  split
  · simp
  · rename_i h
    intro e
    rw [List.map_eq_nil_iff, List.take_eq_nil_iff] at e
    rcases e with e | e
    · omega
    · exact h e
theorem nearL_len (L : List (List UInt8)) : (nearL L).length ≤ 16 := by
  unfold nearL
  split
  · simp
  · rw [List.length_map, List.length_take]; omega
theorem nearL_row (L : List (List UInt8)) : ∀ l ∈ nearL L, l.length ≤ 1024 := by
  unfold nearL
  split
  · intro l hl; rw [List.mem_singleton.1 hl]; decide
  · intro l hl
    obtain ⟨x, _, rfl⟩ := List.mem_map.1 hl
    rw [List.length_take]; omega
theorem nearL_fix {L : List (List UInt8)} (h0 : L ≠ []) (h1 : L.length ≤ 16) (h2 : ∀ l ∈ L, l.length ≤ 1024) : nearL L = L := by
  unfold nearL
  rw [if_neg h0, List.take_of_length_le h1]
  conv => rhs; rw [← List.map_id L]
  refine List.map_congr_left fun l hl => ?_
  exact List.take_of_length_le (h2 l hl)
theorem nearL_near (L : List (List UInt8)) : nearL (nearL L) = nearL L := nearL_fix (nearL_ne L) (nearL_len L) (nearL_row L)
theorem longI_short {L : List (List UInt8)} (h : ∀ l ∈ L, l.length ≤ 1024) : longI L = -1 := longI_none fun i hi => by have := h _ (List.getElem_mem hi); omega
theorem near_may (c : Nat → Int) (L : List (List UInt8)) : mayN (nearC c) (nearL L) = 0 := by
  have hb : firstBad (nearC c) = none := bad_none _ fun j hj => near_in c j hj
  have hw : wrongS (nearC c) (nearL L) = (⟨#[]⟩, -1) := by
    have h1 := nearL_len L
    have h2 : 0 < (nearL L).length := by
      rcases Nat.eq_zero_or_pos (nearL L).length with e | e
      · exact absurd (List.length_eq_zero_iff.1 e) (nearL_ne L)
      · exact e
    simp only [wrongS, hb]
    rw [if_neg (by omega), longI_short (nearL_row L), if_pos (by omega)]
  unfold mayN
  rw [hw]
  decide
theorem may_near {c : Nat → Int} {L : List (List UInt8)} (h : mayN c L = 0) : (∀ k, k < 14 → nearC c k = c k) ∧ nearL L = L := by
  unfold mayN at h
  cases hb : firstBad c with
  | some k =>
    exfalso
    simp only [wrongS, hb] at h
    rw [if_neg (by omega)] at h
    have hk : k < 14 := by
      unfold firstBad at hb
      rw [List.find?_range_eq_some] at hb
      have := hb.2.1
      simpa using this
    rw [if_pos] at h
    · omega
    · intro e
      have := (by decide +kernel : ∀ k, k < 14 → cn k ≠ ⟨#[]⟩) k hk
      exact this e
  | none =>
    have hin : ∀ k, k < 14 → inB k (c k) = true := by
      unfold firstBad at hb
      rw [List.find?_range_eq_none] at hb
      intro k hk
      simpa using hb k hk
    refine ⟨fun k hk => cl_in (hin k hk), ?_⟩
    simp only [wrongS, hb] at h
    by_cases h1 : L.length < 1 ∨ 16 < L.length
    · rw [if_pos h1] at h
      exact absurd h (by decide)
    · rw [if_neg h1] at h
      by_cases h2 : longI L < 0
      · refine nearL_fix (by intro e; rw [e] at h1; simp at h1) (by omega) fun l hl => ?_
        rcases Nat.lt_or_ge 1024 l.length with h3 | h3
        · exfalso
          unfold longI at h2
          split at h2
          · omega
          · rename_i e
            rw [List.findIdx?_eq_none_iff] at e
            have := e l hl
            simp at this
            omega
        · exact h3
      · rw [if_neg h2] at h
        rw [if_pos (by show 0 ≤ longI L; omega)] at h
        omega

/-- As MutX, the blocks between two marks. -/
def MutU (w : World) (H H1 : Nat) (cs : Array Value) (ls : List Nat) : Prop :=
  ∀ (i : Nat) (m : Nat), ls[i]? = some m → ∃ Ai ci, cs[i]? = some (.slice Ai m ci) ∧ (0 < m → ∃ gi cur, Ai = some ⟨gi, 0, none⟩ ∧ H ≤ gi ∧ gi < H1 ∧ Blk w gi 5 cur ∧ ∀ k, k < m → ∃ b, cur[k]? = some (.int .u8 b))
theorem MutU.of (w : World) (H : Nat) (cs : Array Value) (ls : List Nat) (h : MutX w H cs ls) (H1 : Nat) (h1 : w.heap.size ≤ H1) : MutU w H H1 cs ls := fun i m hi => by
  obtain ⟨Ai, ci, a, b⟩ := h i m hi
  exact ⟨Ai, ci, a, fun hm => by
    obtain ⟨gi, cur, x, y, z, u⟩ := b hm
    exact ⟨gi, cur, x, y, Nat.lt_of_lt_of_le z.lt h1, z, u⟩⟩
theorem MutU.below {w w' : World} {H H1 : Nat} {cs : Array Value} {ls : List Nat} (h : MutU w H H1 cs ls) (hb : Below w.heap.size w w') : MutU w' H H1 cs ls := fun i m hi => by
  obtain ⟨Ai, ci, a, b⟩ := h i m hi
  exact ⟨Ai, ci, a, fun hm => by
    obtain ⟨gi, cur, x, y, v, z, u⟩ := b hm
    exact ⟨gi, cur, x, y, v, z.below hb z.lt, u⟩⟩
theorem MutU.set {w : World} {H H1 : Nat} {cs : Array Value} {ls : List Nat} (h : MutU w H H1 cs ls) (g k : Nat) (b : Int) : MutU (w.setCell ⟨g, k, none⟩ (.int .u8 b)) H H1 cs ls := fun i m hi => by
  obtain ⟨Ai, ci, h1, h2⟩ := h i m hi
  refine ⟨Ai, ci, h1, fun hm => ?_⟩
  obtain ⟨gi, cur, a, b', e1, c, d⟩ := h2 hm
  by_cases e : gi = g
  · subst e
    refine ⟨gi, cur.setIfInBounds k (.int .u8 b), a, b', e1, c.set_ k _, fun k' hk' => ?_⟩
    obtain ⟨x, hx⟩ := d k' hk'
    rw [Array.getElem?_setIfInBounds]
    split
    · rename_i e2
      subst e2
      have : k < cur.size := by
        rcases Nat.lt_or_ge k cur.size with h3 | h3
        · exact h3
        · rw [Array.getElem?_eq_none h3] at hx; cases hx
      rw [if_pos this]
      exact ⟨_, rfl⟩
    · exact ⟨x, hx⟩
  · exact ⟨gi, cur, a, b', e1, c.far (p := ⟨g, k, none⟩) e _, d⟩
end Go.Proofs.Ytoigapnpmhogdaa
