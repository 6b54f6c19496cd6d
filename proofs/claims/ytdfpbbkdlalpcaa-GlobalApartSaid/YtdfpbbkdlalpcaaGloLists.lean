/- Plain lists: the first one of a kind, how many of a kind are ahead; a list of whole numbers, and of bytes, in memory. No program walked. -/
import Derived.Test.YtdfpbbkdlalpcaaWords
import Derived.Test.YtdfpbbkdlalpcaaNumPlain
import Derived.Lib.Hide
namespace Go.Proofs.Ytdfpbbkdlalpcaa
open Go.RowKit
set_option linter.unusedVariables false

/-- The first of a kind stands at a place. -/
def Hit (f : Int → Bool) (L : List Int) (i : Nat) : Prop := ∃ h : i < L.length, f L[i] = true ∧ ∀ j (hj : j < i), f (L[j]'(by omega)) = false
/-- There is none of a kind. -/
def Miss (f : Int → Bool) (L : List Int) : Prop := ∀ j (h : j < L.length), f L[j] = false

theorem hit_or_miss (f : Int → Bool) (L : List Int) : (∃ i, Hit f L i) ∨ Miss f L := by
  cases h : L.findIdx? f with
  | none =>
    right
    intro j hj
    rw [List.findIdx?_eq_none_iff] at h
    exact h _ (List.getElem_mem hj)
  | some i =>
    left
    rw [List.findIdx?_eq_some_iff_getElem] at h
    obtain ⟨h1, h2, h3⟩ := h
    exact ⟨i, h1, h2, fun j hj => by simpa using h3 j hj⟩
theorem Hit.uniq {f : Int → Bool} {L : List Int} {i j : Nat} (h : Hit f L i) (k : Hit f L j) : i = j := by
  obtain ⟨h1, h2, h3⟩ := h
  obtain ⟨k1, k2, k3⟩ := k
  rcases Nat.lt_trichotomy i j with hij | hij | hij
  · have := k3 i hij; rw [h2] at this; cases this
  · exact hij
  · have := h3 j hij; rw [k2] at this; cases this
theorem Hit.not_miss {f : Int → Bool} {L : List Int} {i : Nat} (h : Hit f L i) (k : Miss f L) : False := by
  obtain ⟨h1, h2, _⟩ := h
  have := k i h1
  rw [h2] at this
  cases this

/-- How many of a kind. -/
def many (f : Int → Bool) (L : List Int) : Nat := (L.filter f).length
theorem many_le (f : Int → Bool) (L : List Int) : many f L ≤ L.length := List.length_filter_le _ _
theorem many_yes {f : Int → Bool} {L : List Int} {k : Nat} (h : k < L.length) (hf : f L[k] = true) : many f (L.take (k + 1)) = many f (L.take k) + 1 := by
  unfold many
  rw [List.take_succ_eq_append_getElem h, List.filter_append]
  simp [hf]
theorem many_no {f : Int → Bool} {L : List Int} {k : Nat} (h : k < L.length) (hf : f L[k] = false) : many f (L.take (k + 1)) = many f (L.take k) := by
  unfold many
  rw [List.take_succ_eq_append_getElem h, List.filter_append]
  simp [hf]

/-- Whole numbers as values. -/
def intV (L : List Int) : List Value := L.map fun x => Value.int .i64 x
theorem intV_len (L : List Int) : (intV L).length = L.length := by simp [intV]
theorem intV_one (L : List Int) : ∀ u ∈ intV L, u.oneCell' = true := by
  intro u hu
  obtain ⟨x, _, rfl⟩ := List.mem_map.1 hu
  rfl
theorem intV_app (a b : List Int) : intV (a ++ b) = intV a ++ intV b := by simp [intV]
/-- Bytes as values. -/
def byteV (L : List Nat) : List Value := L.map fun (x : Nat) => Value.int .u8 (x : Int)

/-- A slice of whole numbers. -/
def Ints (w : World) (B : Nat) (A : Option Addr) (L : List Int) : Prop := Reads w B 1 A L.length (intV L)
/-- A slice of bytes. -/
def Bytes (w : World) (B : Nat) (A : Option Addr) (L : List Nat) : Prop := Reads w B 1 A L.length (byteV L)

theorem Ints.at_ {w : World} {B : Nat} {A : Option Addr} {L : List Int} (h : Ints w B A L) {k : Nat} (hk : k < L.length) : ∃ ad : Addr, A = some ad ∧ ad.block < B ∧ w.cell? (ad.add k) = some (.int .i64 (L[k]'hk)) := by
  obtain ⟨ad, u, e, hb, hu, hc⟩ := Reads.at_ h hk
  have hu' : u = .int .i64 (L[k]'hk) := by
    rw [intV, List.getElem?_map, List.getElem?_eq_getElem hk] at hu
    simpa using hu.symm
  exact ⟨ad, e, hb, hu' ▸ hc⟩
theorem Bytes.at_ {w : World} {B : Nat} {A : Option Addr} {L : List Nat} (h : Bytes w B A L) {k : Nat} (hk : k < L.length) : ∃ ad : Addr, A = some ad ∧ ad.block < B ∧ w.cell? (ad.add k) = some (.int .u8 ((L[k]'hk : Nat) : Int)) := by
  obtain ⟨ad, u, e, hb, hu, hc⟩ := Reads.at_ h hk
  have hu' : u = .int .u8 ((L[k]'hk : Nat) : Int) := by
    rw [byteV, List.getElem?_map, List.getElem?_eq_getElem hk] at hu
    simpa using hu.symm
  exact ⟨ad, e, hb, hu' ▸ hc⟩

theorem Ints.drewN {w : World} {B : Nat} {A : Option Addr} {L : List Int} (h : Ints w B A L) (k : Nat) : Ints (w.drewN k) B A L := Reads.drewN h k
theorem Ints.below {w w' : World} {B : Nat} {A : Option Addr} {L : List Int} (h : Ints w B A L) (hb : Below B w w') : Ints w' B A L := Reads.below h hb
theorem Ints.more {w : World} {B B' : Nat} {A : Option Addr} {L : List Int} (h : Ints w B A L) (hB : B ≤ B') : Ints w B' A L := Reads.more h hB
theorem Bytes.drewN {w : World} {B : Nat} {A : Option Addr} {L : List Nat} (h : Bytes w B A L) (k : Nat) : Bytes (w.drewN k) B A L := Reads.drewN h k
theorem Bytes.below {w w' : World} {B : Nat} {A : Option Addr} {L : List Nat} (h : Bytes w B A L) (hb : Below B w w') : Bytes w' B A L := Reads.below h hb
theorem Bytes.more {w : World} {B B' : Nat} {A : Option Addr} {L : List Nat} (h : Bytes w B A L) (hB : B ≤ B') : Bytes w B' A L := Reads.more h hB

/-- What is owned is a slice. -/
theorem own_slice {w : World} {base : Nat} {e : TypeId} {size n : Nat} {v : Value} {xs : List Value} (h : w.ownsRow base e size v n xs) : ∃ A cap, v = .slice A n cap := by
  rcases h.2 with ⟨rfl, rfl⟩ | ⟨g, cap, cur, rfl, _⟩
  · exact ⟨none, 0, rfl⟩
  · exact ⟨_, cap, rfl⟩
theorem below_own {w w' : World} {base : Nat} {e : TypeId} {size : Nat} {v : Value} {n : Nat} {xs : List Value} (h : w.ownsRow base e size v n xs) (hb : Below w.heap.size w w') : w'.ownsRow base e size v n xs := by
  refine ⟨h.1, ?_⟩
  rcases h.2 with hn | ⟨g, cap, cur, hv, hbg, hg, rest⟩
  · exact .inl hn
  · exact .inr ⟨g, cap, cur, hv, hbg, (hb.block g (Array.getElem?_eq_some_iff.1 hg).1).trans hg, rest⟩

/-- May g run on p? -/
def mayB (p : Int) (aff : List Nat) (g : Int) : Bool := decide (0 ≤ g) && (decide (g < (aff.length : Int)) && hasP ((aff.getD g.toNat 0 : Nat) : Int) p)
theorem mayB_neg (p : Int) (aff : List Nat) {g : Int} (h : ¬ 0 ≤ g) : mayB p aff g = false := by simp [mayB, h]
theorem mayB_far (p : Int) (aff : List Nat) {g : Int} (h : ¬ g < (aff.length : Int)) : mayB p aff g = false := by simp [mayB, h]
theorem mayB_in (p : Int) (aff : List Nat) {k : Nat} (h : k < aff.length) : mayB p aff k = hasP ((aff[k] : Nat) : Int) p := by
  simp [mayB, h]
end Go.Proofs.Ytdfpbbkdlalpcaa
