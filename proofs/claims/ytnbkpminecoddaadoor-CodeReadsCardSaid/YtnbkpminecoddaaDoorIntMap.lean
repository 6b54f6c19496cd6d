/- A map with integers for keys, entry by entry: what it is to lie in memory, a store of a new key, a look-up. No program in sight. -/
import Derived.WalkKit
import Derived.Below
import Derived.Lib.Hide
import Derived.RangeFuncRecord
import Derived.OwnWalk
namespace Go.Proofs.YtnbkpminecoddaaDoor
open Go.RowKit

/-- Block m is a map of just these entries, in this order. -/
def MapAt (w : World) (m : Nat) (kd : IntKind) (L : List (Int × Value)) : Prop :=
  ∃ es clock, w.heap[m]? = some (.map es clock) ∧ es.toList.map (fun e => (e.key, e.val)) = L.map fun p => (Value.int kd p.1, p.2)

theorem MapAt.lt {w : World} {m : Nat} {kd : IntKind} {L : List (Int × Value)} (h : MapAt w m kd L) : m < w.heap.size := by
  obtain ⟨es, c, h1, _⟩ := h
  exact (Array.getElem?_eq_some_iff.1 h1).1
theorem MapAt.block {w w' : World} {m : Nat} {kd : IntKind} {L : List (Int × Value)} (h : MapAt w m kd L) (hb : w'.heap[m]? = w.heap[m]?) : MapAt w' m kd L := by
  obtain ⟨es, c, h1, h2⟩ := h
  exact ⟨es, c, hb.trans h1, h2⟩
theorem MapAt.below {w w' : World} {m B : Nat} {kd : IntKind} {L : List (Int × Value)} (h : MapAt w m kd L) (hb : Below B w w') (hm : m < B) : MapAt w' m kd L := h.block (hb.block m hm)
theorem MapAt.new (w : World) (kd : IntKind) : MapAt (w.alloc (.map #[] 0)) w.heap.size kd [] := ⟨#[], 0, heap_alloc_new w _, rfl⟩

/-- What is found at a key. -/
def look (L : List (Int × Value)) (k : Int) : Option Value := (L.find? fun p => p.1 == k).map (·.2)

theorem findNow_int {kd : IntKind} (k : Int) : ∀ (es : List MapEntry) (L : List (Int × Value)) (i : Nat), es.map (fun e => (e.key, e.val)) = L.map (fun p => (Value.int kd p.1, p.2)) →
    ∃ j, Instr.findNow (.int kd) (.int kd k) es i = some ((look L k).map fun v => (j, v))
  | [], L, i, h => by
    have hL : L = [] := by simpa using h.symm
    subst hL
    exact ⟨0, rfl⟩
  | e :: es, [], i, h => by simp at h
  | e :: es, p :: L, i, h => by
    simp only [List.map_cons, List.cons.injEq, Prod.mk.injEq] at h
    obtain ⟨⟨h1, h2⟩, h3⟩ := h
    unfold Instr.findNow
    rw [h1]
    simp only [Instr.sameNow, if_true]
    by_cases hk : k = p.1
    · subst hk
      simp [look, h2]
    · have e1 : (k == p.1) = false := by simpa using hk
      have e2 : (p.1 == k) = false := by simpa using fun e => hk e.symm
      rw [e1]
      obtain ⟨j, hj⟩ := findNow_int k es L (i + 1) h3
      refine ⟨j, ?_⟩
      simp only [hj, look, List.find?_cons, e2]

section
variable {P : Program} {t key elem : TypeId} {kd : IntKind}

theorem run_checkKey_int (b : Bool) (n : Nat) (hk : P.underlying key = some (.int kd)) (k : Int) (w : World) : (Instr.checkKey b (n + 1) key (.int kd k)).run P w = .ok () w := by
  simp [Instr.checkKey, run_underlying hk]

theorem run_lookup_int (ht : P.underlying t = some (.map key elem)) (hk : P.underlying key = some (.int kd)) {w : World} {m : Nat} {L : List (Int × Value)} (h : MapAt w m kd L) (k : Int) (ok : Bool) (z : Value)
    (hz : (zeroValue elem).run P w = .ok z w) : (Instr.lookup t (.map (some m)) (.int kd k) ok).run P w = .ok (if ok then .tuple #[(look L k).getD z, .bool (look L k).isSome] else (look L k).getD z) w := by
  obtain ⟨es, c, h1, h2⟩ := h
  obtain ⟨j, hj⟩ := findNow_int (kd := kd) k es.toList L 0 h2
  cases hl : look L k with
  | none =>
    rw [hl] at hj
    simp only [Instr.lookup, Sem.run_bind, run_underlying ht, Result.andThen_ok, getObj, Sem.run, h1, run_checkKey_int _ 9999 hk, Instr.findKey, run_underlying hk, hj, Option.map_none, hz, Sem.run_pure]
    cases ok <;> rfl
  | some v =>
    rw [hl] at hj
    simp only [Instr.lookup, Sem.run_bind, run_underlying ht, Result.andThen_ok, getObj, Sem.run, h1, run_checkKey_int _ 9999 hk, Instr.findKey, run_underlying hk, hj, Option.map_some, Sem.run_pure]
    cases ok <;> rfl

theorem run_insert_int (ht : P.underlying t = some (.map key elem)) (hk : P.underlying key = some (.int kd)) {w : World} {m : Nat} {L : List (Int × Value)} (h : MapAt w m kd L) (k : Int) (v : Value) (hl : look L k = none) :
    ∃ w', (Instr.mapUpdate t (.map (some m)) (.int kd k) v).run P w = .ok () w' ∧ MapAt w' m kd (L ++ [(k, v)]) ∧ w.grownBy w' (some m) := by
  obtain ⟨es, c, h1, h2⟩ := h
  obtain ⟨j, hj⟩ := findNow_int (kd := kd) k es.toList L 0 h2
  have hm : m < w.heap.size := (Array.getElem?_eq_some_iff.1 h1).1
  rw [hl] at hj
  have hrun : (Instr.mapUpdate t (.map (some m)) (.int kd k) v).run P w = .ok () { w with heap := w.heap.setIfInBounds m (.map (es.push { key := .int kd k, val := v, born := c }) (c + 1)) } := by
    simp only [Instr.mapUpdate, Sem.run_bind, run_underlying ht, Result.andThen_ok, getObj, setObj, Sem.run, h1, run_checkKey_int _ 9999 hk, Instr.findKey, run_underlying hk, hj, Option.map_none, Sem.run_pure, Result.andThen_ok]
  refine ⟨_, hrun, ⟨es.push { key := .int kd k, val := v, born := c }, c + 1, ?_, ?_⟩, ⟨rfl, rfl, rfl, by simp, fun q hq hne => ?_⟩⟩
  · simp [hm]
  · simp [h2]
  · have hqm : m ≠ q := fun e => hne (by rw [e])
    simp [hqm]

theorem wp_insert_int {o : Oper} {a : Act} {w : World} {K : Act → World → Prop} {Q : Exit → Act → World → Prop} (ht : P.underlying t = some (.map key elem)) (hk : P.underlying key = some (.int kd)) (mo xo vo : Operand) (ho : o.op = .insert t mo xo vo)
    {m : Nat} {L : List (Int × Value)} (hm : a.eval mo = .map (some m)) {k : Int} (hx : a.eval xo = .int kd k) {v : Value} (hv : a.eval vo = v) (h : MapAt w m kd L) (hl : look L k = none)
    (hK : ∀ w', MapAt w' m kd (L ++ [(k, v)]) → w.grownBy w' (some m) → K (a.put o.dst undef) w') : o.wp P a w K Q := by
  obtain ⟨w', hrun, h1, h2⟩ := run_insert_int ht hk h k v hl
  unfold Oper.wp execOp
  simp only [ho, Sem.run_bind, hm, hx, hv, hrun, Result.andThen_ok]
  exact hK w' h1 h2
end
end Go.Proofs.YtnbkpminecoddaaDoor
