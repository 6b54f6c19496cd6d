/- code.instr, by walk: the instruction of a line's words. -/
import Derived.Test.YtnbkpminecoddaaDoorCodeIns
import Derived.Test.YtnbkpminecoddaaDoorCodePlain
import Derived.Maps.Range
namespace Go.Proofs.YtnbkpminecoddaaDoor
open Go.RowKit
open Go.ChangeMaps (setBlock)
set_option linter.unusedVariables false
set_option linter.unusedSimpArgs false

/-- A letter's register, or number, laid. -/
def setA (x : Int × Int × Int) (q : Int) (n : Int) : Int × Int × Int :=
  if q = 97 then (n % 256, x.2.1, x.2.2) else if q = 98 then (x.1, n % 256, x.2.2) else if q = 99 then (x.1, x.2.1, n % 256) else (x.1, n / 256 % 256, n % 256)
def fillA (z : Nat → Int) : List UInt8 → Nat → Int × Int × Int → Int × Int × Int
  | [], _, x => x
  | l :: r, i, x => fillA z r (i + 1) (setA x (l.toNat : Int) (z (i + 1)))
def fillF (z : Nat → Int) (s : ByteArray) (j : Nat) : Int × Int × Int := fillA z (s.data.toList.take j) 0 (0, 0, 0)
theorem fillA_snoc (z : Nat → Int) : ∀ (l : List UInt8) (c : UInt8) (i : Nat) (x : Int × Int × Int), fillA z (l ++ [c]) i x = setA (fillA z l i x) (c.toNat : Int) (z (i + l.length + 1))
  | [], c, i, x => rfl
  | a :: l, c, i, x => by
    show fillA z (l ++ [c]) (i + 1) _ = _
    rw [fillA_snoc z l c (i + 1)]
    simp only [List.length_cons]
    rw [show i + 1 + l.length + 1 = i + (l.length + 1) + 1 from by omega]
    rfl
theorem fillF_succ (z : Nat → Int) (s : ByteArray) (j : Nat) (hj : j < s.size) : fillF z s (j + 1) = setA (fillF z s j) ((s[j]'hj).toNat : Int) (z (j + 1)) := by
  unfold fillF
  rw [List.take_succ_eq_append_getElem (by simpa using hj), fillA_snoc]
  have hsz : s.data.toList.length = s.size := by simp
  have : (s.data.toList.take j).length = j := by rw [List.length_take, hsz]; omega
  rw [this, Nat.zero_add]
  rfl
theorem below_setBlock {B : Nat} {a w : World} (h : Below B a w) {r : Nat} (hr : B ≤ r) (o : Obj) : Below B a (setBlock w r o) :=
  ⟨h.os, h.tape, h.output, by unfold setBlock; simpa using h.size, fun k hk => by
    unfold setBlock
    rw [Array.getElem?_setIfInBounds_ne (by omega)]
    exact h.block k hk⟩
theorem setBlock_at {w : World} {r : Nat} (o : Obj) (hr : r < w.heap.size) : (setBlock w r o).heap[r]? = some o := by
  unfold setBlock
  simp [hr]
theorem setBlock_ne {w : World} {r k : Nat} (o : Obj) (h : k ≠ r) : (setBlock w r o).heap[k]? = w.heap[k]? := by
  unfold setBlock
  rw [Array.getElem?_setIfInBounds_ne (fun e => h e.symm)]

/-- How things lie in the round: the box of words, the instruction, the table and its iterator. -/
def InsW (w : World) (bx x2 m r : Nat) (fv : Value) (es : Array MapEntry) (clock : Nat) (seen : Array Nat) (row : Array Value) (wr : World) : Prop :=
  (∃ c0, clock ≤ c0 ∧ wr.heap[r]? = some (.mapIter (some m) clock seen c0)) ∧ wr.heap[m]? = some (.map es clock) ∧ Blk wr bx 62 #[fv] ∧ Blk wr x2 26 row ∧ Below w.heap.size w wr
theorem InsW.below {w wr w' : World} {bx x2 m r clock : Nat} {fv : Value} {es : Array MapEntry} {seen : Array Nat} {row : Array Value} (h : InsW w bx x2 m r fv es clock seen row wr) (hb : Below wr.heap.size wr w') : InsW w bx x2 m r fv es clock seen row w' := by
  obtain ⟨⟨c0, hc, h1⟩, h2, h3, h4, h5⟩ := h
  exact ⟨⟨c0, hc, (hb.block r (Array.getElem?_eq_some_iff.1 h1).1).trans h1⟩, (hb.block m (Array.getElem?_eq_some_iff.1 h2).1).trans h2, h3.below hb h3.lt, h4.below hb h4.lt, h5.trans (hb.mono h5.size)⟩
theorem InsW.set {w wr : World} {bx x2 m r clock : Nat} {fv : Value} {es : Array MapEntry} {seen : Array Nat} {row : Array Value} (h : InsW w bx x2 m r fv es clock seen row wr) (ht : bx = w.heap.size ∧ x2 = bx + 1 ∧ x2 < m ∧ m < r) (i : Nat) (u : Value) :
    InsW w bx x2 m r fv es clock seen (row.setIfInBounds i u) (wr.setCell ⟨x2, i, none⟩ u) := by
  obtain ⟨⟨c0, hc, h1⟩, h2, h3, h4, h5⟩ := h
  refine ⟨⟨c0, hc, (Below.heap_setCell wr ⟨x2, i, none⟩ _ r (by show r ≠ x2; omega)).trans h1⟩, (Below.heap_setCell wr ⟨x2, i, none⟩ _ m (by show m ≠ x2; omega)).trans h2, h3.far (p := ⟨x2, i, none⟩) (by show bx ≠ x2; omega) _, h4.set_ i u, h5.setCell (p := ⟨x2, i, none⟩) (by show _ ≤ x2; omega) _⟩
theorem InsW.next {w wr w1 : World} {bx x2 m r clock : Nat} {fv : Value} {es : Array MapEntry} {seen : Array Nat} {row : Array Value} (h : InsW w bx x2 m r fv es clock seen row wr) (ht : bx = w.heap.size ∧ x2 = bx + 1 ∧ x2 < m ∧ m < r) (h1 : w1 = wr ∨ w1 = wr.drew) (b : Nat) :
    InsW w bx x2 m r fv es clock (seen.push b) row (setBlock w1 r (.mapIter (some m) clock (seen.push b) clock)) := by
  have h' : InsW w bx x2 m r fv es clock seen row w1 := by
    rcases h1 with rfl | rfl
    · exact h
    · exact h.below (Below.refl _ _).drew
  obtain ⟨⟨c0, hc, h1⟩, h2, h3, h4, h5⟩ := h'
  exact ⟨⟨clock, Nat.le_refl _, setBlock_at _ (Array.getElem?_eq_some_iff.1 h1).1⟩, (setBlock_ne _ (by omega)).trans h2, (setBlock_ne _ (by omega)).trans h3, (setBlock_ne _ (by omega)).trans h4, below_setBlock h5 (by omega) _⟩
theorem InsW.seen {w wr : World} {bx x2 m r clock : Nat} {fv : Value} {es : Array MapEntry} {seen : Array Nat} {row : Array Value} (h : InsW w bx x2 m r fv es clock seen row wr) : wr.iterSeen r = seen := by
  obtain ⟨⟨c0, hc, h1⟩, _⟩ := h
  unfold World.iterSeen
  rw [h1]
theorem InsW.iter {w wr : World} {bx x2 m r clock r2 : Nat} {fv : Value} {es : Array MapEntry} {seen : Array Nat} {row : Array Value} (h : InsW w bx x2 m r fv es clock seen row wr) (ht : bx = w.heap.size ∧ x2 = bx + 1 ∧ x2 < m ∧ m < r) (hr : r < r2) (s : ByteArray) (p' : Nat) :
    InsW w bx x2 m r fv es clock seen row (wr.iterAt r2 s p') := by
  obtain ⟨⟨c0, hc, h1⟩, h2, h3, h4, h5⟩ := h
  exact ⟨⟨c0, hc, (Lib.iterAt_other wr r2 r s p' (by omega)).trans h1⟩, (Lib.iterAt_other wr r2 m s p' (by omega)).trans h2, (Lib.iterAt_other wr r2 bx s p' (by omega)).trans h3, (Lib.iterAt_other wr r2 x2 s p' (by omega)).trans h4, Lib.below_iterAt h5 (by omega) s p'⟩
/-- The table's entries: their keys. -/
theorem shape_keys {es : Array MapEntry} (h : es.toList.map (fun e => (e.key, e.val)) = shapeL.map (fun p => (Value.int .u8 p.1, p.2))) : es.toList.map (·.key) = [.int .u8 0, .int .u8 1, .int .u8 2, .int .u8 3, .int .u8 4, .int .u8 5, .int .u8 6, .int .u8 7] := by
  have : es.toList.map (·.key) = (es.toList.map (fun e => (e.key, e.val))).map (·.1) := by rw [List.map_map]; rfl
  rw [this, h]
  rfl
theorem key_of {es : Array MapEntry} (h : es.toList.map (·.key) = [.int .u8 0, .int .u8 1, .int .u8 2, .int .u8 3, .int .u8 4, .int .u8 5, .int .u8 6, .int .u8 7]) {e : MapEntry} (he : e ∈ es.toList) : ∃ q : Int, 0 ≤ q ∧ q < 8 ∧ e.key = .int .u8 q := by
  have : e.key ∈ es.toList.map (·.key) := List.mem_map.2 ⟨e, he, rfl⟩
  rw [h] at this
  simp only [List.mem_cons, List.not_mem_nil, or_false] at this
  rcases this with h | h | h | h | h | h | h | h
  all_goals exact ⟨_, by decide, by decide, h⟩
theorem key_is {es : Array MapEntry} (h : es.toList.map (·.key) = [.int .u8 0, .int .u8 1, .int .u8 2, .int .u8 3, .int .u8 4, .int .u8 5, .int .u8 6, .int .u8 7]) {q : Int} (h0 : 0 ≤ q) (h8 : q < 8) : ∃ e ∈ es.toList, e.key = .int .u8 q := by
  have : Value.int .u8 q ∈ es.toList.map (·.key) := by
    rw [h]
    obtain rfl | rfl | rfl | rfl | rfl | rfl | rfl | rfl : q = 0 ∨ q = 1 ∨ q = 2 ∨ q = 3 ∨ q = 4 ∨ q = 5 ∨ q = 6 ∨ q = 7 := by omega
    all_goals simp
  obtain ⟨e, he, hk⟩ := List.mem_map.1 this
  exact ⟨e, he, hk⟩
theorem key_inj {es : Array MapEntry} (h : es.toList.map (·.key) = [.int .u8 0, .int .u8 1, .int .u8 2, .int .u8 3, .int .u8 4, .int .u8 5, .int .u8 6, .int .u8 7]) {x e : MapEntry} (hx : x ∈ es.toList) (he : e ∈ es.toList) (hk : x.key = e.key) : x = e := by
  have hp : es.toList.Pairwise (fun x y => x.key ≠ y.key) := by
    have h2 : (es.toList.map (·.key)).Pairwise (· ≠ ·) := by
      rw [h]
      simp
    exact List.pairwise_map.1 h2
  exact entry_eq_of_key hp hx he hk
end Go.Proofs.YtnbkpminecoddaaDoor
