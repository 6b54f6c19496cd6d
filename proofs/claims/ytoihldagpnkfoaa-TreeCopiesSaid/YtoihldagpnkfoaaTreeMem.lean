/- A forest's places in memory; what becomes of them by stores. No program walked. -/
import Derived.Test.YtoihldagpnkfoaaRows
import Derived.Test.YtoihldagpnkfoaaApart
import Derived.Test.YtoihldagpnkfoaaTreeU
namespace Go.Proofs.Ytoihldagpnkfoaa
open Go.RowKit
set_option linter.unusedVariables false

/-- A place lies in memory. -/
structure NdAt (w : World) (g o : Nat) (x : Nd) : Prop where
  c0 : w.cell? ⟨g, o, none⟩ = some (.bool x.t)
  c1 : w.cell? ⟨g, o + 1, none⟩ = some (.int .i64 x.u)
  c2 : w.cell? ⟨g, o + 2, none⟩ = some (.int .i64 x.d)
  c3 : w.cell? ⟨g, o + 3, none⟩ = some (.int .i64 x.l)
  c4 : w.cell? ⟨g, o + 4, none⟩ = some (.int .i64 x.r)
theorem NdAt.block {w w' : World} {g o : Nat} {x : Nd} (h : NdAt w g o x) (hb : w'.heap[g]? = w.heap[g]?) : NdAt w' g o x :=
  ⟨(World.cell?_of_block (w := w) (a := ⟨g, o, none⟩) hb).trans h.c0, (World.cell?_of_block (w := w) (a := ⟨g, o + 1, none⟩) hb).trans h.c1, (World.cell?_of_block (w := w) (a := ⟨g, o + 2, none⟩) hb).trans h.c2, (World.cell?_of_block (w := w) (a := ⟨g, o + 3, none⟩) hb).trans h.c3, (World.cell?_of_block (w := w) (a := ⟨g, o + 4, none⟩) hb).trans h.c4⟩
theorem cell_off (w : World) (g o k : Nat) (u : Value) (h : k ≠ o) : (w.setCell ⟨g, o, none⟩ u).cell? ⟨g, k, none⟩ = w.cell? ⟨g, k, none⟩ :=
  World.cell?_setCell_other _ _ _ _ (fun e => h (by injection e with _ e2; exact e2.symm))
theorem NdAt.other {w : World} {g i k : Nat} {x : Nd} (h : NdAt w g (i * 5) x) (j : Nat) (hj : j < 5) (hik : i ≠ k) (u : Value) : NdAt (w.setCell ⟨g, k * 5 + j, none⟩ u) g (i * 5) x :=
  ⟨(cell_off w g _ _ u (by omega)).trans h.c0, (cell_off w g _ _ u (by omega)).trans h.c1, (cell_off w g _ _ u (by omega)).trans h.c2, (cell_off w g _ _ u (by omega)).trans h.c3, (cell_off w g _ _ u (by omega)).trans h.c4⟩
theorem NdAt.setU {w : World} {g o : Nat} {x : Nd} (h : NdAt w g o x) (v : Int) : NdAt (w.setCell ⟨g, o + 1, none⟩ (.int .i64 v)) g o { x with u := v } :=
  ⟨(cell_off w g _ _ _ (by omega)).trans h.c0, World.cell?_setCell_same _ _ _ h.c1, (cell_off w g _ _ _ (by omega)).trans h.c2, (cell_off w g _ _ _ (by omega)).trans h.c3, (cell_off w g _ _ _ (by omega)).trans h.c4⟩
theorem NdAt.setD {w : World} {g o : Nat} {x : Nd} (h : NdAt w g o x) (v : Int) : NdAt (w.setCell ⟨g, o + 2, none⟩ (.int .i64 v)) g o { x with d := v } :=
  ⟨(cell_off w g _ _ _ (by omega)).trans h.c0, (cell_off w g _ _ _ (by omega)).trans h.c1, World.cell?_setCell_same _ _ _ h.c2, (cell_off w g _ _ _ (by omega)).trans h.c3, (cell_off w g _ _ _ (by omega)).trans h.c4⟩
theorem NdAt.setL {w : World} {g o : Nat} {x : Nd} (h : NdAt w g o x) (v : Int) : NdAt (w.setCell ⟨g, o + 3, none⟩ (.int .i64 v)) g o { x with l := v } :=
  ⟨(cell_off w g _ _ _ (by omega)).trans h.c0, (cell_off w g _ _ _ (by omega)).trans h.c1, (cell_off w g _ _ _ (by omega)).trans h.c2, World.cell?_setCell_same _ _ _ h.c3, (cell_off w g _ _ _ (by omega)).trans h.c4⟩
theorem NdAt.setR {w : World} {g o : Nat} {x : Nd} (h : NdAt w g o x) (v : Int) : NdAt (w.setCell ⟨g, o + 4, none⟩ (.int .i64 v)) g o { x with r := v } :=
  ⟨(cell_off w g _ _ _ (by omega)).trans h.c0, (cell_off w g _ _ _ (by omega)).trans h.c1, (cell_off w g _ _ _ (by omega)).trans h.c2, (cell_off w g _ _ _ (by omega)).trans h.c3, World.cell?_setCell_same _ _ _ h.c4⟩

/-- The program's forest in memory: n places in block lb. -/
structure PF (w : World) (f lb n lc : Nat) (R : Raw) (fv : Value) : Prop where
  head : Blk w f 57 #[.slice (some ⟨lb, 0, none⟩) n lc, .int .i64 R.first, fv]
  at_ : ∀ i, i < n → NdAt w lb (i * 5) (R.M i)
  fr : ∀ o, w.frozen? ⟨lb, o, none⟩ = false
  ne : lb ≠ f
  lt : lb < w.heap.size
  n1 : 1 ≤ n
  n2 : n ≤ 4096

/-- The blocks of its own. -/
def own2 (f lb : Nat) (k : Nat) : Prop := k = f ∨ k = lb

section
variable {w w' : World} {f lb n lc : Nat} {R : Raw} {fv : Value}
theorem PF.keep (h : PF w f lb n lc R fv) (h1 : w'.heap[f]? = w.heap[f]?) (h2 : w'.heap[lb]? = w.heap[lb]?) (hs : w.heap.size ≤ w'.heap.size) : PF w' f lb n lc R fv :=
  ⟨h1.trans h.head, fun i hi => (h.at_ i hi).block h2, fun o => (World.frozen?_of_block (w := w) (a := ⟨lb, o, none⟩) h2).trans (h.fr o), h.ne, Nat.lt_of_lt_of_le h.lt hs, h.n1, h.n2⟩
theorem PF.below (h : PF w f lb n lc R fv) (hb : Below w.heap.size w w') : PF w' f lb n lc R fv := h.keep (hb.block f h.head.lt) (hb.block lb h.lt) hb.size
theorem PF.drewN (h : PF w f lb n lc R fv) (k : Nat) : PF (w.drewN k) f lb n lc R fv := h.keep rfl rfl (Nat.le_refl _)
theorem PF.size_set (p : Addr) (u : Value) : (w.setCell p u).heap.size = w.heap.size := by simp [World.setCell]

theorem PF.store (h : PF w f lb n lc R fv) (a j : Nat) (u : Value) (x : Nd) (hj : j < 5) (ha : a < n) (hx : NdAt (w.setCell ⟨lb, a * 5 + j, none⟩ u) lb (a * 5) x) :
    PF (w.setCell ⟨lb, a * 5 + j, none⟩ u) f lb n lc (R.put a x) fv := by
  refine ⟨(Below.heap_setCell _ _ _ _ h.ne.symm).trans h.head, fun i hi => ?_, fun o => by rw [World.frozen?_setCell]; exact h.fr o, h.ne, by rw [PF.size_set]; exact h.lt, h.n1, h.n2⟩
  unfold Raw.put setN
  by_cases e : i = a
  · subst e
    simpa using hx
  · simp only [e, if_false]
    exact (h.at_ i hi).other j hj e u
theorem PF.setU (h : PF w f lb n lc R fv) (a : Nat) (ha : a < n) (v : Int) : PF (w.setCell ⟨lb, a * 5 + 1, none⟩ (.int .i64 v)) f lb n lc (R.setU a v) fv := h.store a 1 _ _ (by omega) ha ((h.at_ a ha).setU v)
theorem PF.setD (h : PF w f lb n lc R fv) (a : Nat) (ha : a < n) (v : Int) : PF (w.setCell ⟨lb, a * 5 + 2, none⟩ (.int .i64 v)) f lb n lc (R.setD a v) fv := h.store a 2 _ _ (by omega) ha ((h.at_ a ha).setD v)
theorem PF.setL (h : PF w f lb n lc R fv) (a : Nat) (ha : a < n) (v : Int) : PF (w.setCell ⟨lb, a * 5 + 3, none⟩ (.int .i64 v)) f lb n lc (R.setL a v) fv := h.store a 3 _ _ (by omega) ha ((h.at_ a ha).setL v)
theorem PF.setR (h : PF w f lb n lc R fv) (a : Nat) (ha : a < n) (v : Int) : PF (w.setCell ⟨lb, a * 5 + 4, none⟩ (.int .i64 v)) f lb n lc (R.setR a v) fv := h.store a 4 _ _ (by omega) ha ((h.at_ a ha).setR v)
theorem PF.setFirst (h : PF w f lb n lc R fv) (v : Int) : PF (w.setCell ⟨f, 1, none⟩ (.int .i64 v)) f lb n lc { R with first := v } fv := by
  refine ⟨?_, fun i hi => (h.at_ i hi).block (Below.heap_setCell _ _ _ _ h.ne), fun o => by rw [World.frozen?_setCell]; exact h.fr o, h.ne, by rw [PF.size_set]; exact h.lt, h.n1, h.n2⟩
  exact h.head.set_ 1 (.int .i64 v)
theorem PF.setFree (h : PF w f lb n lc R fv) (v : Value) : PF (w.setCell ⟨f, 2, none⟩ v) f lb n lc R v := by
  refine ⟨?_, fun i hi => (h.at_ i hi).block (Below.heap_setCell _ _ _ _ h.ne), fun o => by rw [World.frozen?_setCell]; exact h.fr o, h.ne, by rw [PF.size_set]; exact h.lt, h.n1, h.n2⟩
  exact h.head.set_ 2 v
theorem PF.cells (h : PF w f lb n lc R fv) : w.cell? ⟨f, 0, none⟩ = some (.slice (some ⟨lb, 0, none⟩) n lc) ∧ w.cell? ⟨f, 1, none⟩ = some (.int .i64 R.first) ∧ w.cell? ⟨f, 2, none⟩ = some fv ∧ (∀ o, w.frozen? ⟨f, o, none⟩ = false) := by
  refine ⟨?_, ?_, ?_, fun o => h.head.frozen o⟩
  · exact h.head.cell 0
  · exact h.head.cell 1
  · exact h.head.cell 2
end
end Go.Proofs.Ytoihldagpnkfoaa
