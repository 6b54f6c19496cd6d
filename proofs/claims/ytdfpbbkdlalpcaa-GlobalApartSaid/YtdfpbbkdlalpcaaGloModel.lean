/- What Ahead of a queue tells, in plain lists. No program in sight. -/
import Derived.Test.YtdfpbbkdlalpcaaGloLists
namespace Go.Proofs.Ytdfpbbkdlalpcaa
set_option linter.unusedVariables false

/-- What Ahead tells. -/
def ahead (p : Int) (aff : List Nat) (g : Int) (L : List Int) : Nat × Bool :=
  match L.findIdx? (· == g) with
  | some i => if mayB p aff g then (many (mayB p aff) (L.take i), true) else (0, false)
  | none => (0, false)
theorem ahead_yes {p : Int} {aff : List Nat} {g : Int} {L : List Int} {i : Nat} (h : Hit (· == g) L i) (hm : mayB p aff g = true) : ahead p aff g L = (many (mayB p aff) (L.take i), true) := by
  unfold ahead
  have e : L.findIdx? (· == g) = some i := by
    rw [List.findIdx?_eq_some_iff_getElem]
    obtain ⟨h1, h2, h3⟩ := h
    exact ⟨h1, h2, fun j hj => by simpa using h3 j hj⟩
  rw [e]
  simp [hm]
theorem ahead_no {p : Int} {aff : List Nat} {g : Int} {L : List Int} (hm : mayB p aff g = false) : ahead p aff g L = (0, false) := by
  unfold ahead
  split
  · simp [hm]
  · rfl
theorem ahead_miss {p : Int} {aff : List Nat} {g : Int} {L : List Int} (h : Miss (· == g) L) : ahead p aff g L = (0, false) := by
  unfold ahead
  have e : L.findIdx? (· == g) = none := by
    rw [List.findIdx?_eq_none_iff]
    intro x hx
    obtain ⟨i, hi, rfl⟩ := List.getElem_of_mem hx
    exact h i hi
  rw [e]

end Go.Proofs.Ytdfpbbkdlalpcaa
