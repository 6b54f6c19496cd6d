/- code.Decode, the whole contract. -/
import Derived.Test.YtnbkpminecoddaaDoorStepDecodeC
namespace Go.Proofs.YtnbkpminecoddaaDoor
open Go.RowKit
set_option linter.unusedVariables false
set_option linter.unusedSimpArgs false

theorem args_small (k : Int) : (argsOf k).data.toList.all (fun l => decide (l.toNat < 128)) = true := by
  unfold argsOf
  repeat' split
  all_goals rfl
theorem args_at (k : Int) (i : Nat) (hi : i < (argsOf k).size) : ((argsOf k)[i]'hi).toNat < 128 := by
  have h := List.all_eq_true.1 (args_small k) ((argsOf k)[i]'hi) (by
    rw [Array.mem_toList_iff]
    exact Array.getElem_mem _)
  simpa using h

/-- What Decode answers: the instruction and the fault. -/
structure Dec where
  k : Int
  a : Int
  b : Int
  c : Int
  e : Int
def Dec.v (d : Dec) : Value := insV d.k d.a d.b d.c
def decR (n : Nat) (D : Nat → Int) (pc : Int) : Dec :=
  if n % 4 = 0 ∧ pc = ((n / 4 : Nat) : Int) then ⟨0, 0, 0, 0, 4⟩
  else if pc < 0 ∨ ((n / 4 : Nat) : Int) ≤ pc then ⟨0, 0, 0, 0, 7⟩
  else
    let p := 4 * pc.toNat
    if okOf (D p) = false then ⟨0, 0, 0, 0, 7⟩
    else if badArgs (argsOf (D p)) (D (p + 1)) (D (p + 2)) (D (p + 3)) = true then ⟨0, 0, 0, 0, 7⟩
    else ⟨D p, D (p + 1), D (p + 2), D (p + 3), 0⟩

/-- A program's bytes in memory. -/
def CodeAt (w : World) (v : Value) (n : Nat) (D : Nat → Int) : Prop :=
  n < 1000000000 ∧ (∀ i, 0 ≤ D i) ∧ ∃ A cap, v = .slice A n cap ∧ n ≤ cap ∧ (0 < n → ∃ g o, A = some ⟨g, o, none⟩ ∧ g < w.heap.size ∧ ∀ i, i < n → w.cell? ⟨g, o + i, none⟩ = some (.int .u8 (D i)))
theorem CodeAt.below {w w' : World} {B : Nat} {v : Value} {n : Nat} {D : Nat → Int} (h : CodeAt w v n D) (hb : Below w.heap.size w w') : CodeAt w' v n D := by
  obtain ⟨h1, h2, A, cap, h3, h4, h5⟩ := h
  refine ⟨h1, h2, A, cap, h3, h4, fun h0 => ?_⟩
  obtain ⟨g, o, h6, h7, h8⟩ := h5 h0
  exact ⟨g, o, h6, Nat.lt_of_lt_of_le h7 hb.size, fun i hi => (hb.cell (p := ⟨g, o + i, none⟩) h7).trans (h8 i hi)⟩

theorem decode_is (v : Value) (n : Nat) (D : Nat → Int) (pc : Int) (w : World) (h : CodeAt w v n D) : Calls Tryd.prog 10 #[v, .int .i64 pc] w fun e w' => e = .returned (.tuple #[(decR n D pc).v, .int .i64 (decR n D pc).e]) ∧ Below w.heap.size w w' := by
  obtain ⟨hn, hD, A, cap, rfl, hcap, hc⟩ := h
  unfold decR
  by_cases h1 : n % 4 = 0 ∧ pc = ((n / 4 : Nat) : Int)
  · rw [if_pos h1, h1.2]
    exact decode_end A n cap hn h1.1 w
  · rw [if_neg h1]
    by_cases h2 : pc < 0 ∨ ((n / 4 : Nat) : Int) ≤ pc
    · rw [if_pos h2]
      exact decode_out A n cap pc hn h1 h2 w
    · rw [if_neg h2]
      obtain ⟨p, rfl⟩ : ∃ p : Nat, pc = (p : Int) := ⟨pc.toNat, by omega⟩
      have hp : p < n / 4 := by omega
      obtain ⟨g, o, rfl, hg, hx⟩ := hc (by omega)
      have x0 := hx (4 * p) (by omega)
      have x1 := hx (4 * p + 1) (by omega)
      have x2 := hx (4 * p + 2) (by omega)
      have x3 := hx (4 * p + 3) (by omega)
      simp only [← Nat.add_assoc] at x1 x2 x3
      simp only [Int.toNat_natCast]
      by_cases h3 : okOf (D (4 * p)) = false
      · rw [if_pos h3]
        exact decode_bad g o n cap p _ _ _ _ hn hcap hp (hD _) h3 w hg x0 x1 x2 x3
      · rw [if_neg h3]
        have h3' : okOf (D (4 * p)) = true := by simpa using h3
        by_cases h4 : badArgs (argsOf (D (4 * p))) (D (4 * p + 1)) (D (4 * p + 2)) (D (4 * p + 3)) = true
        · rw [if_pos h4]
          exact decode_loop g o n cap p _ _ _ _ hn hcap hp (hD _) h3' _ rfl (args_at _) _ _ (fun _ => ⟨rfl, rfl⟩) (fun h => absurd (h.symm.trans h4) (by decide)) w hg x0 x1 x2 x3
        · rw [if_neg h4]
          exact decode_loop g o n cap p _ _ _ _ hn hcap hp (hD _) h3' _ rfl (args_at _) _ _ (fun h => absurd h h4) (fun _ => ⟨rfl, rfl⟩) w hg x0 x1 x2 x3
end Go.Proofs.YtnbkpminecoddaaDoor
