/- Plain laws on a list from which the first of a kind are taken one by one. No program in sight. -/
import Derived.Test.YtdfpbbkdlalpcaaGloModel
namespace Go.Proofs.Ytdfpbbkdlalpcaa
set_option linter.unusedVariables false

theorem filter_hit (f : Int → Bool) : ∀ (L : List Int) (x : Int) (r : List Int), L.filter f = x :: r → ∃ j, Hit f L j ∧ L[j]? = some x ∧ (L.eraseIdx j).filter f = r
  | [], x, r, h => by simp at h
  | y :: L, x, r, h => by
    by_cases hy : f y = true
    · rw [List.filter_cons_of_pos hy] at h
      injection h with h1 h2
      exact ⟨0, ⟨by simp, by simpa using hy, fun j hj => by omega⟩, by simp [h1], by simpa using h2⟩
    · have hyf : f y = false := by simpa using hy
      rw [List.filter_cons_of_neg hy] at h
      obtain ⟨j, ⟨h1, h2, h3⟩, h4, h5⟩ := filter_hit f L x r h
      refine ⟨j + 1, ⟨by simpa using h1, by simpa using h2, fun i hi => ?_⟩, by simpa using h4, ?_⟩
      · cases i with
        | zero => simpa using hyf
        | succ i => simpa using h3 i (by omega)
      · rw [List.eraseIdx_cons_succ, List.filter_cons_of_neg hy]
        exact h5
theorem filter_nil_miss {f : Int → Bool} {L : List Int} (h : L.filter f = []) : Miss f L := fun j hj => by
  rw [List.filter_eq_nil_iff] at h
  simpa using h _ (List.getElem_mem hj)
theorem hit_filter {f : Int → Bool} {L : List Int} {k : Nat} (h : Hit f L k) : L.filter f = (L[k]'h.1) :: (L.eraseIdx k).filter f := by
  cases hl : L.filter f with
  | nil => exact (h.not_miss (filter_nil_miss hl)).elim
  | cons x r =>
    obtain ⟨j, hj, hx, hr⟩ := filter_hit f L x r hl
    obtain rfl := h.uniq hj
    rw [List.getElem?_eq_getElem h.1] at hx
    injection hx with hx
    rw [hx, hr]

/-- The one of whom it is asked how many are ahead: where it stands. -/
theorem ahead_at {p : Int} {aff : List Nat} {g : Int} {M : List Int} {m : Nat} (h : ahead p aff g M = (m, true)) : ∃ j, Hit (· == g) M j ∧ mayB p aff g = true ∧ many (mayB p aff) (M.take j) = m := by
  rcases hit_or_miss (· == g) M with ⟨j, hj⟩ | hm
  · by_cases hg : mayB p aff g = true
    · rw [ahead_yes hj hg] at h
      injection h with h1
      exact ⟨j, hj, hg, h1⟩
    · rw [ahead_no (by simpa using hg)] at h
      injection h with _ h2
      cases h2
  · rw [ahead_miss hm] at h
    injection h with _ h2
    cases h2

theorem hit_take {f : Int → Bool} {L : List Int} {k j : Nat} (h : Hit f L k) (hk : k < j) : Hit f (L.take j) k := by
  obtain ⟨h1, h2, h3⟩ := h
  refine ⟨by simp; omega, by simpa using h2, fun i hi => by simpa using h3 i hi⟩
theorem many_zero {f : Int → Bool} {L : List Int} (h : many f L = 0) : Miss f L := filter_nil_miss (List.eq_nil_of_length_eq_zero h)

theorem next_turn {p : Int} {aff : List Nat} {g : Int} {M : List Int} {k : Nat} (h : ahead p aff g M = (0, true)) (hk : Hit (mayB p aff) M k) : M[k]'hk.1 = g := by
  obtain ⟨j, hj, hg, hm⟩ := ahead_at h
  have hmiss := many_zero hm
  have hjg : M[j]'hj.1 = g := by have := hj.2.1; simpa using this
  have hjm : Hit (mayB p aff) M j := ⟨hj.1, by rw [hjg]; exact hg, fun i hi => by
    have := hmiss i (by simp; have := hj.1; omega)
    simpa using this⟩
  obtain rfl := hk.uniq hjm
  exact hjg

theorem one_fewer {p : Int} {aff : List Nat} {g : Int} {M : List Int} {k m : Nat} (h : ahead p aff g M = (m + 1, true)) (hk : Hit (mayB p aff) M k) : ahead p aff g (M.eraseIdx k) = (m, true) := by
  obtain ⟨j, hj, hg, hm⟩ := ahead_at h
  have hjg : M[j]'hj.1 = g := by have := hj.2.1; simpa using this
  have hkj : k < j := by
    rcases Nat.lt_or_ge k j with hlt | hge
    · exact hlt
    · have hmiss : many (mayB p aff) (M.take j) = 0 := by
        unfold many
        rw [List.length_eq_zero_iff, List.filter_eq_nil_iff]
        intro x hx
        obtain ⟨i, hi, rfl⟩ := List.getElem_of_mem hx
        have hij : i < j := by simp at hi; omega
        have := hk.2.2 i (by omega)
        simp [this]
      omega
  have hjl := hj.1
  have hlen : (M.eraseIdx k).length = M.length - 1 := List.length_eraseIdx_of_lt hk.1
  have hge : ∀ i (hi : i < (M.eraseIdx k).length), (M.eraseIdx k)[i] = if h : i < k then M[i]'(by omega) else M[i + 1]'(by omega) := fun i hi => by rw [List.getElem_eraseIdx]
  have hit' : Hit (· == g) (M.eraseIdx k) (j - 1) := by
    refine ⟨by omega, ?_, fun i hi => ?_⟩
    · rw [hge, dif_neg (by omega)]
      simp only [show j - 1 + 1 = j by omega]
      simpa using hjg
    · rw [hge]
      split
      · exact hj.2.2 i (by omega)
      · exact hj.2.2 (i + 1) (by omega)
  rw [ahead_yes hit' hg]
  have htk : (M.eraseIdx k).take (j - 1) = (M.take j).eraseIdx k := by
    apply List.ext_getElem
    · rw [List.length_take, hlen, List.length_eraseIdx_of_lt (by simp; omega), List.length_take]
      omega
    · intro i h1 h2
      rw [List.getElem_take, hge, List.getElem_eraseIdx]
      split <;> simp
  have hf := hit_filter (hit_take hk hkj)
  have hc : many (mayB p aff) (M.take j) = many (mayB p aff) ((M.take j).eraseIdx k) + 1 := by
    unfold many
    rw [hf]
    simp
  rw [htk]
  congr 1
  omega
end Go.Proofs.Ytdfpbbkdlalpcaa
