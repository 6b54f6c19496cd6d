/- Only some blocks, of those that were there, may have changed. No program in sight. -/
import Derived.Test.YtnbkpminecoddaaDoorWords
namespace Go.Proofs.YtnbkpminecoddaaDoor
open Go.RowKit
set_option linter.unusedVariables false

structure Apart (S : Nat → Prop) (w w' : World) : Prop where
  os : w'.os = w.os
  tape : w'.tape = w.tape
  output : w'.output = w.output
  size : w.heap.size ≤ w'.heap.size
  block : ∀ k, k < w.heap.size → ¬ S k → w'.heap[k]? = w.heap[k]?
theorem Apart.below {S : Nat → Prop} {w w' : World} (h : Apart S w w') {B : Nat} (hB : B ≤ w.heap.size) (hS : ∀ k, S k → B ≤ k) : Below B w w' :=
  ⟨h.os, h.tape, h.output, h.size, fun k hk => h.block k (by omega) (fun hs => by have := hS k hs; omega)⟩
theorem Apart.of_below {S : Nat → Prop} {w w' : World} (h : Below w.heap.size w w') : Apart S w w' := ⟨h.os, h.tape, h.output, h.size, fun k hk _ => h.block k hk⟩
theorem Apart.refl (S : Nat → Prop) (w : World) : Apart S w w := ⟨rfl, rfl, rfl, Nat.le_refl _, fun _ _ _ => rfl⟩
theorem Apart.trans {S S' : Nat → Prop} {a b c : World} (h : Apart S a b) (k : Apart S' b c) (hS : ∀ k, k < a.heap.size → S' k → S k) : Apart S a c :=
  ⟨k.os.trans h.os, k.tape.trans h.tape, k.output.trans h.output, Nat.le_trans h.size k.size, fun i hi hs => (k.block i (Nat.lt_of_lt_of_le hi h.size) (fun hs' => hs (hS i hi hs'))).trans (h.block i hi hs)⟩
theorem Apart.setCell {S : Nat → Prop} {a w : World} (h : Apart S a w) {p : Addr} (hp : S p.block ∨ a.heap.size ≤ p.block) (u : Value) : Apart S a (w.setCell p u) :=
  ⟨h.os, h.tape, h.output, by simpa [World.setCell] using h.size, fun k hk hs => (Below.heap_setCell w p u k (fun e => by
    subst e
    rcases hp with hp | hp
    · exact hs hp
    · omega)).trans (h.block k hk hs)⟩
theorem Apart.drew {S : Nat → Prop} {a w : World} (h : Apart S a w) : Apart S a w.drew := ⟨h.os, h.tape, h.output, h.size, h.block⟩
theorem Apart.drewN {S : Nat → Prop} {a w : World} (h : Apart S a w) (n : Nat) : Apart S a (w.drewN n) := ⟨h.os, h.tape, h.output, h.size, h.block⟩
theorem Apart.alloc {S : Nat → Prop} {a w : World} (h : Apart S a w) (o : Obj) : Apart S a (w.alloc o) :=
  ⟨h.os, h.tape, h.output, by have := h.size; simp; omega, fun k hk hs => (Below.heap_alloc _ _ _ (by have := h.size; omega)).trans (h.block k hk hs)⟩
theorem Apart.grown {S : Nat → Prop} {a w w' : World} {row : Option Nat} (h : Apart S a w) (hg : w.grownBy w' row) (hr : ∀ r, row = some r → S r ∨ a.heap.size ≤ r) : Apart S a w' :=
  ⟨hg.os.trans h.os, hg.tape.trans h.tape, hg.output.trans h.output, Nat.le_trans h.size hg.size, fun k hk hs => (hg.block k (by have := h.size; omega) (fun e => by
    rcases hr k e.symm with hq | hq
    · exact hs hq
    · omega)).trans (h.block k hk hs)⟩
theorem Apart.mono {S S' : Nat → Prop} {a w : World} (h : Apart S a w) (hS : ∀ k, S k → S' k) : Apart S' a w := ⟨h.os, h.tape, h.output, h.size, fun k hk hs => h.block k hk (fun hk' => hs (hS k hk'))⟩
end Go.Proofs.YtnbkpminecoddaaDoor
