/- The reference's forest in memory; what becomes of it by stores. No program walked. -/
import Derived.Test.YtoihldagpnkfoaaTreeGone
namespace Go.Proofs.Ytoihldagpnkfoaa
open Go.RowKit
set_option linter.unusedVariables false

/-- A place of the reference: its row of children lies at A with room c. -/
structure Qd where
  t : Bool
  p : Int
  A : Option Addr
  c : Nat
  K : List Nat
  fr : Int
/-- A row that is never written to: where it lies, its room, its numbers. -/
structure Rw where
  A : Option Addr
  c : Nat
  K : List Nat
def Rw.v (x : Rw) : Value := .slice x.A x.K.length x.c
def Qd.row (x : Qd) : Rw := ⟨x.A, x.c, x.K⟩
def Rw.blk (x : Rw) (k : Nat) : Prop := x.v.ownBlock = some k

structure QAt (w : World) (g o : Nat) (x : Qd) : Prop where
  c0 : w.cell? ⟨g, o, none⟩ = some (.bool x.t)
  c1 : w.cell? ⟨g, o + 1, none⟩ = some (.int .i64 x.p)
  c2 : w.cell? ⟨g, o + 2, none⟩ = some x.row.v
  c3 : w.cell? ⟨g, o + 3, none⟩ = some (.int .i64 x.fr)
theorem QAt.block {w w' : World} {g o : Nat} {x : Qd} (h : QAt w g o x) (hb : w'.heap[g]? = w.heap[g]?) : QAt w' g o x :=
  ⟨(World.cell?_of_block (w := w) (a := ⟨g, o, none⟩) hb).trans h.c0, (World.cell?_of_block (w := w) (a := ⟨g, o + 1, none⟩) hb).trans h.c1, (World.cell?_of_block (w := w) (a := ⟨g, o + 2, none⟩) hb).trans h.c2, (World.cell?_of_block (w := w) (a := ⟨g, o + 3, none⟩) hb).trans h.c3⟩
theorem QAt.other {w : World} {g i k : Nat} {x : Qd} (h : QAt w g (i * 4) x) (j : Nat) (hj : j < 4) (hik : i ≠ k) (u : Value) : QAt (w.setCell ⟨g, k * 4 + j, none⟩ u) g (i * 4) x :=
  ⟨(cell_off w g _ _ u (by omega)).trans h.c0, (cell_off w g _ _ u (by omega)).trans h.c1, (cell_off w g _ _ u (by omega)).trans h.c2, (cell_off w g _ _ u (by omega)).trans h.c3⟩
theorem QAt.setP {w : World} {g o : Nat} {x : Qd} (h : QAt w g o x) (v : Int) : QAt (w.setCell ⟨g, o + 1, none⟩ (.int .i64 v)) g o { x with p := v } :=
  ⟨(cell_off w g _ _ _ (by omega)).trans h.c0, World.cell?_setCell_same _ _ _ h.c1, (cell_off w g _ _ _ (by omega)).trans h.c2, (cell_off w g _ _ _ (by omega)).trans h.c3⟩
theorem QAt.setK {w : World} {g o : Nat} {x : Qd} (h : QAt w g o x) (r : Rw) : QAt (w.setCell ⟨g, o + 2, none⟩ r.v) g o { x with A := r.A, c := r.c, K := r.K } :=
  ⟨(cell_off w g _ _ _ (by omega)).trans h.c0, (cell_off w g _ _ _ (by omega)).trans h.c1, World.cell?_setCell_same _ _ _ h.c2, (cell_off w g _ _ _ (by omega)).trans h.c3⟩

/-- All places of the reference, its roots, how many were freed. -/
structure Qw where
  M : Nat → Qd
  rt : Rw
  T : Int
def setQ (M : Nat → Qd) (i : Nat) (x : Qd) : Nat → Qd := fun k => if k = i then x else M k
def Qw.put (Q : Qw) (a : Nat) (x : Qd) : Qw := { Q with M := setQ Q.M a x }
def Qw.setP (Q : Qw) (a : Nat) (v : Int) : Qw := Q.put a { Q.M a with p := v }
def Qw.setK (Q : Qw) (a : Nat) (r : Rw) : Qw := Q.put a { Q.M a with A := r.A, c := r.c, K := r.K }
def Qw.row (Q : Qw) (p : Int) : Rw := if p < 0 then Q.rt else (Q.M p.toNat).row
def Qw.setRow (Q : Qw) (p : Int) (r : Rw) : Qw := if p < 0 then { Q with rt := r } else Q.setK p.toNat r
/-- The rows' blocks. -/
def Qw.blk (Q : Qw) (n : Nat) (k : Nat) : Prop := Q.rt.blk k ∨ ∃ i, i < n ∧ (Q.M i).row.blk k

/-- The reference's forest in memory: n places in block qb. -/
structure QF (w : World) (g qb n lc : Nat) (Q : Qw) : Prop where
  head : Blk w g 66 #[.slice (some ⟨qb, 0, none⟩) n lc, Q.rt.v, .int .i64 Q.T]
  at_ : ∀ i, i < n → QAt w qb (i * 4) (Q.M i)
  fr : ∀ o, w.frozen? ⟨qb, o, none⟩ = false
  ne : qb ≠ g
  lt : qb < w.heap.size
  n1 : 1 ≤ n
  n2 : n ≤ 4096
  rt : Cut w Q.rt.v (nats Q.rt.K)
  rows : ∀ i, i < n → Cut w (Q.M i).row.v (nats (Q.M i).K)
  ng : ∀ k, Q.blk n k → k ≠ g ∧ k ≠ qb

section
variable {w w' : World} {g qb n lc : Nat} {Q : Qw}
/-- The blocks of the reference. -/
def qfoot (g qb n : Nat) (Q : Qw) (k : Nat) : Prop := own2 g qb k ∨ Q.blk n k
theorem QF.keep (h : QF w g qb n lc Q) (hk : ∀ k, qfoot g qb n Q k → w'.heap[k]? = w.heap[k]?) (hs : w.heap.size ≤ w'.heap.size) : QF w' g qb n lc Q :=
  ⟨(hk g (.inl (.inl rfl))).trans h.head, fun i hi => (h.at_ i hi).block (hk qb (.inl (.inr rfl))), fun o => (World.frozen?_of_block (w := w) (a := ⟨qb, o, none⟩) (hk qb (.inl (.inr rfl)))).trans (h.fr o), h.ne, Nat.lt_of_lt_of_le h.lt hs, h.n1, h.n2,
    h.rt.keep fun k hh => hk k (.inr (.inl hh)), fun i hi => (h.rows i hi).keep fun k hh => hk k (.inr (.inr ⟨i, hi, hh⟩)), h.ng⟩
theorem QF.foot_lt (h : QF w g qb n lc Q) {k : Nat} (hk : qfoot g qb n Q k) : k < w.heap.size := by
  rcases hk with (rfl | rfl) | (hk | ⟨i, hi, hk⟩)
  · exact h.head.lt
  · exact h.lt
  · exact h.rt.lt k hk
  · exact (h.rows i hi).lt k hk
theorem QF.below (h : QF w g qb n lc Q) (hb : Below w.heap.size w w') : QF w' g qb n lc Q := h.keep (fun k hk => hb.block k (h.foot_lt hk)) hb.size
theorem QF.apart {S : Nat → Prop} (h : QF w g qb n lc Q) (ha : Apart S w w') (hS : ∀ k, qfoot g qb n Q k → ¬ S k) : QF w' g qb n lc Q := h.keep (fun k hk => ha.block k (h.foot_lt hk) (hS k hk)) ha.size
theorem QF.drewN (h : QF w g qb n lc Q) (k : Nat) : QF (w.drewN k) g qb n lc Q := h.keep (fun _ _ => rfl) (Nat.le_refl _)
theorem QF.cells (h : QF w g qb n lc Q) : w.cell? ⟨g, 0, none⟩ = some (.slice (some ⟨qb, 0, none⟩) n lc) ∧ w.cell? ⟨g, 1, none⟩ = some Q.rt.v ∧ w.cell? ⟨g, 2, none⟩ = some (.int .i64 Q.T) ∧ (∀ o, w.frozen? ⟨g, o, none⟩ = false) := by
  refine ⟨?_, ?_, ?_, fun o => h.head.frozen o⟩
  · exact h.head.cell 0
  · exact h.head.cell 1
  · exact h.head.cell 2

theorem blk_put {Q : Qw} {n a : Nat} {x : Qd} {k : Nat} (h : (Q.put a x).blk n k) : Q.blk n k ∨ x.row.blk k := by
  rcases h with h | ⟨i, hi, h⟩
  · exact .inl (.inl h)
  · simp only [Qw.put, setQ] at h
    by_cases e : i = a
    · rw [if_pos e] at h
      exact .inr h
    · rw [if_neg e] at h
      exact .inl (.inr ⟨i, hi, h⟩)
/-- A store into a place: whatever the place is behind it. -/
theorem QF.store (h : QF w g qb n lc Q) (a : Nat) (ha : a < n) (x : Qd) (hx : QAt w' qb (a * 4) x) (ho : ∀ i, i < n → i ≠ a → QAt w' qb (i * 4) (Q.M i)) (hf : ∀ o, w'.frozen? ⟨qb, o, none⟩ = false) (hs : w.heap.size ≤ w'.heap.size)
    (hk : ∀ k, k ≠ qb → k < w.heap.size → w'.heap[k]? = w.heap[k]?) (hr : Cut w x.row.v (nats x.K)) (hn : ∀ k, x.row.blk k → k ≠ g ∧ k ≠ qb) : QF w' g qb n lc (Q.put a x) := by
  have hq : ∀ k, Q.blk n k → w'.heap[k]? = w.heap[k]? := fun k hb => hk k (h.ng k hb).2 (h.foot_lt (.inr hb))
  refine ⟨(hk g h.ne.symm h.head.lt).trans h.head, fun i hi => ?_, hf, h.ne, Nat.lt_of_lt_of_le h.lt hs, h.n1, h.n2, h.rt.keep fun k hh => hq k (.inl hh), fun i hi => ?_, fun k hb => ?_⟩
  · simp only [Qw.put, setQ]
    by_cases e : i = a
    · rw [if_pos e, e]; exact hx
    · rw [if_neg e]; exact ho i hi e
  · simp only [Qw.put, setQ]
    by_cases e : i = a
    · simp only [if_pos e]
      exact hr.keep fun k hh => hk k (hn k hh).2 (hr.lt k hh)
    · simp only [if_neg e]
      exact (h.rows i hi).keep fun k hh => hq k (.inr ⟨i, hi, hh⟩)
  · rcases blk_put hb with hb | hb
    · exact h.ng k hb
    · exact hn k hb
theorem QF.setP (h : QF w g qb n lc Q) (a : Nat) (ha : a < n) (v : Int) : QF (w.setCell ⟨qb, a * 4 + 1, none⟩ (.int .i64 v)) g qb n lc (Q.setP a v) :=
  h.store a ha _ ((h.at_ a ha).setP v) (fun i hi e => (h.at_ i hi).other 1 (by omega) e _) (fun o => by rw [World.frozen?_setCell]; exact h.fr o) (by rw [PF.size_set]; exact Nat.le_refl _) (fun k hk _ => Below.heap_setCell _ _ _ _ hk) (h.rows a ha) (fun k hk => h.ng k (.inr ⟨a, ha, hk⟩))
theorem QF.setK (h : QF w g qb n lc Q) (a : Nat) (ha : a < n) (r : Rw) (hr : Cut w r.v (nats r.K)) (hn : ∀ k, r.blk k → k ≠ g ∧ k ≠ qb) : QF (w.setCell ⟨qb, a * 4 + 2, none⟩ r.v) g qb n lc (Q.setK a r) :=
  h.store a ha _ ((h.at_ a ha).setK r) (fun i hi e => (h.at_ i hi).other 2 (by omega) e _) (fun o => by rw [World.frozen?_setCell]; exact h.fr o) (by rw [PF.size_set]; exact Nat.le_refl _) (fun k hk _ => Below.heap_setCell _ _ _ _ hk) hr hn
theorem QF.setRt (h : QF w g qb n lc Q) (r : Rw) (hr : Cut w r.v (nats r.K)) (hn : ∀ k, r.blk k → k ≠ g ∧ k ≠ qb) : QF (w.setCell ⟨g, 1, none⟩ r.v) g qb n lc { Q with rt := r } := by
  have hk : ∀ k, k ≠ g → (w.setCell ⟨g, 1, none⟩ r.v).heap[k]? = w.heap[k]? := fun k hk => Below.heap_setCell _ _ _ _ hk
  refine ⟨h.head.set_ 1 r.v, fun i hi => (h.at_ i hi).block (hk _ h.ne), fun o => by rw [World.frozen?_setCell]; exact h.fr o, h.ne, by rw [PF.size_set]; exact h.lt, h.n1, h.n2, hr.keep fun k hh => hk k (hn k hh).1, fun i hi => (h.rows i hi).keep fun k hh => hk k (h.ng k (.inr ⟨i, hi, hh⟩)).1, fun k hb => ?_⟩
  rcases hb with hb | hb
  · exact hn k hb
  · exact h.ng k (.inr hb)
theorem QF.setT (h : QF w g qb n lc Q) (T : Int) : QF (w.setCell ⟨g, 2, none⟩ (.int .i64 T)) g qb n lc { Q with T := T } := by
  have hk : ∀ k, k ≠ g → (w.setCell ⟨g, 2, none⟩ (.int .i64 T)).heap[k]? = w.heap[k]? := fun k hk => Below.heap_setCell _ _ _ _ hk
  exact ⟨h.head.set_ 2 _, fun i hi => (h.at_ i hi).block (hk _ h.ne), fun o => by rw [World.frozen?_setCell]; exact h.fr o, h.ne, by rw [PF.size_set]; exact h.lt, h.n1, h.n2, h.rt.keep fun k hh => hk k (h.ng k (.inl hh)).1, fun i hi => (h.rows i hi).keep fun k hh => hk k (h.ng k (.inr ⟨i, hi, hh⟩)).1, h.ng⟩
end

/-- A place written whole. -/
def putQ (w : World) (g o : Nat) (x : Qd) : World :=
  (((w.setCell ⟨g, o, none⟩ (.bool x.t)).setCell ⟨g, o + 1, none⟩ (.int .i64 x.p)).setCell ⟨g, o + 2, none⟩ x.row.v).setCell ⟨g, o + 3, none⟩ (.int .i64 x.fr)
def Qd.cs (x : Qd) : Array Value := #[.bool x.t, .int .i64 x.p, x.row.v, .int .i64 x.fr]
theorem putQ_cells (w : World) (g o : Nat) (x : Qd) : w.setCells g o x.cs.toList = putQ w g o x := rfl
theorem QAt.putQ {w : World} {g o : Nat} {x : Qd} (h : QAt w g o x) (y : Qd) : QAt (putQ w g o y) g o y := by
  unfold Go.Proofs.Ytoihldagpnkfoaa.putQ
  refine ⟨?_, ?_, ?_, ?_⟩
  · rw [cell_off _ g _ _ _ (by omega), cell_off _ g _ _ _ (by omega), cell_off _ g _ _ _ (by omega)]
    exact World.cell?_setCell_same _ _ _ h.c0
  · rw [cell_off _ g _ _ _ (by omega), cell_off _ g _ _ _ (by omega)]
    exact World.cell?_setCell_same _ _ _ ((cell_off _ g _ _ _ (by omega)).trans h.c1)
  · rw [cell_off _ g _ _ _ (by omega)]
    exact World.cell?_setCell_same _ _ _ ((cell_off _ g _ _ _ (by omega)).trans ((cell_off _ g _ _ _ (by omega)).trans h.c2))
  · exact World.cell?_setCell_same _ _ _ ((cell_off _ g _ _ _ (by omega)).trans ((cell_off _ g _ _ _ (by omega)).trans ((cell_off _ g _ _ _ (by omega)).trans h.c3)))
theorem putQ_size (w : World) (g o : Nat) (x : Qd) : (putQ w g o x).heap.size = w.heap.size := by unfold putQ; simp only [PF.size_set]
theorem putQ_far (w : World) (g o : Nat) (x : Qd) (k : Nat) (hk : k ≠ g) : (putQ w g o x).heap[k]? = w.heap[k]? := by
  unfold putQ
  rw [Below.heap_setCell _ _ _ _ hk, Below.heap_setCell _ _ _ _ hk, Below.heap_setCell _ _ _ _ hk, Below.heap_setCell _ _ _ _ hk]
theorem QF.putQ {w : World} {g qb n lc : Nat} {Q : Qw} (h : QF w g qb n lc Q) (a : Nat) (ha : a < n) (y : Qd) (hr : Cut w y.row.v (nats y.K)) (hn : ∀ k, y.row.blk k → k ≠ g ∧ k ≠ qb) : QF (putQ w qb (a * 4) y) g qb n lc (Q.put a y) := by
  refine h.store a ha y ((h.at_ a ha).putQ y) (fun i hi e => ?_) (fun o => ?_) (by rw [putQ_size]; exact Nat.le_refl _) (fun k hk _ => putQ_far _ _ _ _ _ hk) hr hn
  · exact ((((h.at_ i hi).other 0 (by omega) e (.bool y.t)).other 1 (by omega) e (.int .i64 y.p)).other 2 (by omega) e y.row.v).other 3 (by omega) e (.int .i64 y.fr)
  · unfold Go.Proofs.Ytoihldagpnkfoaa.putQ
    simp only [World.frozen?_setCell]
    exact h.fr o
theorem putQ_apart {S : Nat → Prop} {a w : World} {g : Nat} (h : Apart S a w) (hg : S g ∨ a.heap.size ≤ g) (o : Nat) (y : Qd) : Apart S a (putQ w g o y) :=
  (((h.setCell (p := ⟨g, _, none⟩) hg _).setCell (p := ⟨g, _, none⟩) hg _).setCell (p := ⟨g, _, none⟩) hg _).setCell (p := ⟨g, _, none⟩) hg _
theorem QAt.there {w : World} {g o : Nat} {x : Qd} (h : QAt w g o x) (hf : ∀ o, w.frozen? ⟨g, o, none⟩ = false) (m : Nat) (hm : m = 4) : w.there g o m := by
  subst hm
  intro j hj
  refine ⟨?_, hf _⟩
  rcases j with _ | _ | _ | _ | j
  · exact Option.isSome_iff_exists.2 ⟨_, h.c0⟩
  · exact Option.isSome_iff_exists.2 ⟨_, h.c1⟩
  · exact Option.isSome_iff_exists.2 ⟨_, h.c2⟩
  · exact Option.isSome_iff_exists.2 ⟨_, h.c3⟩
  · omega
end Go.Proofs.Ytoihldagpnkfoaa
