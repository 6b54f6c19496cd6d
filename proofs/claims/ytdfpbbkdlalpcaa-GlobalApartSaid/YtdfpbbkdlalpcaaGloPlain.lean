/- The global queue in memory: a row of nodes, each of which points at the next one; what becomes of it if a node goes or comes. No program walked. -/
import Derived.Test.YtdfpbbkdlalpcaaRows
import Derived.Test.YtdfpbbkdlalpcaaWords
import Derived.RangeFuncFrom
import Derived.RangeFuncBox
import Derived.Lib.Hide
namespace Go.Proofs.Ytdfpbbkdlalpcaa
open Go.RowKit
set_option linter.unusedVariables false

def pt : Option Nat → Value
  | none => .pointer none
  | some b => .pointer (some ⟨b, 0, none⟩)

theorem pt_some (b : Nat) : pt (some b) = .pointer (some ⟨b, 0, none⟩) := rfl
theorem pt_none : pt none = .pointer none := rfl
theorem pt_one (o : Option Nat) : (pt o).oneCell' = true := by cases o <;> rfl

/-- The node at a place: its block. -/
def nd (N : List (Nat × Int)) (k : Nat) : Option Nat := (N[k]?).map (·.1)
/-- The node ahead of a place. -/
def bf (N : List (Nat × Int)) (k : Nat) : Option Nat := if k = 0 then none else nd N (k - 1)

theorem nd_lt {N : List (Nat × Int)} {k : Nat} (h : k < N.length) : nd N k = some (N[k]).1 := by simp [nd, h]
theorem nd_ge {N : List (Nat × Int)} {k : Nat} (h : N.length ≤ k) : nd N k = none := by simp [nd, h]
theorem bf_succ (N : List (Nat × Int)) (k : Nat) : bf N (k + 1) = nd N k := by simp [bf]
theorem bf_zero (N : List (Nat × Int)) : bf N 0 = none := rfl

/-- The row of nodes. -/
structure Row (w : World) (N : List (Nat × Int)) : Prop where
  at_ : ∀ i (h : i < N.length), Blk w (N[i]).1 60 #[.int .i64 (N[i]).2, pt (nd N (i + 1))]
  inj : ∀ i j (h : i < N.length) (k : j < N.length), (N[i]).1 = (N[j]).1 → i = j

/-- The queue. -/
structure Qu (w : World) (q : Nat) (N : List (Nat × Int)) : Prop where
  head : Blk w q 49 #[pt (nd N 0), pt (nd N (N.length - 1)), .int .i64 N.length]
  row : Row w N

/-- The blocks of a queue. -/
def bl (q : Nat) (N : List (Nat × Int)) (k : Nat) : Prop := k = q ∨ ∃ i, ∃ h : i < N.length, (N[i]).1 = k

theorem Qu.keep {w w' : World} {q : Nat} {N : List (Nat × Int)} (h : Qu w q N) (hk : ∀ k, bl q N k → w'.heap[k]? = w.heap[k]?) : Qu w' q N :=
  ⟨(hk q (.inl rfl)).trans h.head, fun i hi => (hk _ (.inr ⟨i, hi, rfl⟩)).trans (h.row.at_ i hi), h.row.inj⟩
theorem Qu.lt {w : World} {q : Nat} {N : List (Nat × Int)} (h : Qu w q N) (k : Nat) (hk : bl q N k) : k < w.heap.size := by
  rcases hk with rfl | ⟨i, hi, rfl⟩
  · exact h.head.lt
  · exact (h.row.at_ i hi).lt
theorem Qu.below {w w' : World} {q : Nat} {N : List (Nat × Int)} (h : Qu w q N) (hb : Below w.heap.size w w') : Qu w' q N := h.keep fun k hk => hb.block k (h.lt k hk)
theorem Qu.drewN {w : World} {q : Nat} {N : List (Nat × Int)} (h : Qu w q N) (n : Nat) : Qu (w.drewN n) q N := ⟨h.head, h.row.at_, h.row.inj⟩
theorem Qu.ne {w : World} {q : Nat} {N : List (Nat × Int)} (h : Qu w q N) (i : Nat) (hi : i < N.length) : (N[i]).1 ≠ q := Blk.ne_ (h.row.at_ i hi) h.head (by decide)

/-- A node goes. -/
theorem Qu.gone {w w' : World} {q : Nat} {N : List (Nat × Int)} (h : Qu w q N) (i : Nat) (hi : i < N.length)
    (hq : Blk w' q 49 #[pt (if i = 0 then nd N 1 else nd N 0), pt (if i + 1 = N.length then bf N i else nd N (N.length - 1)), .int .i64 (N.length - 1 : Nat)])
    (hp : ∀ k, i = k + 1 → ∀ hk : k < N.length, Blk w' (N[k]).1 60 #[.int .i64 (N[k]).2, pt (nd N (i + 1))])
    (ho : ∀ j (hj : j < N.length), j + 1 ≠ i → j ≠ i → w'.heap[(N[j]).1]? = w.heap[(N[j]).1]?) : Qu w' q (N.eraseIdx i) := by
  have hl : (N.eraseIdx i).length = N.length - 1 := List.length_eraseIdx_of_lt hi
  have hnd : ∀ j, nd (N.eraseIdx i) j = if j < i then nd N j else nd N (j + 1) := by
    intro j
    unfold nd
    rw [List.getElem?_eraseIdx]
    split <;> rfl
  have hge : ∀ j (hj : j < (N.eraseIdx i).length), (N.eraseIdx i)[j] = if h : j < i then N[j]'(by omega) else N[j + 1]'(by omega) := by
    intro j hj
    rw [List.getElem_eraseIdx]
  refine ⟨?_, fun j hj => ?_, fun a b ha hb hab => ?_⟩
  · rw [hnd, hnd, hl]
    have e1 : (if 0 < i then nd N 0 else nd N (0 + 1)) = if i = 0 then nd N 1 else nd N 0 := by
      by_cases h0 : i = 0
      · simp [h0]
      · simp [h0, show 0 < i by omega]
    have e2 : (if N.length - 1 - 1 < i then nd N (N.length - 1 - 1) else nd N (N.length - 1 - 1 + 1)) = if i + 1 = N.length then bf N i else nd N (N.length - 1) := by
      by_cases h1 : i + 1 = N.length
      · rw [if_pos h1]
        by_cases h0 : i = 0
        · have hn : N.length = 1 := by omega
          rw [hn, if_neg (by omega), h0]
          exact nd_ge (by omega)
        · rw [if_pos (by omega)]
          unfold bf
          rw [if_neg h0, show N.length - 1 - 1 = i - 1 by omega]
      · rw [if_neg h1]
        by_cases h2 : N.length - 1 - 1 < i
        · exact absurd h2 (by omega)
        · rw [if_neg h2, show N.length - 1 - 1 + 1 = N.length - 1 by omega]
    rw [e1, e2]
    exact hq
  · rw [hl] at hj
    rw [hge j (by omega), hnd]
    by_cases hji : j < i
    · rw [dif_pos hji]
      by_cases hj1 : j + 1 < i
      · rw [if_pos hj1]
        exact (ho j (by omega) (by omega) (by omega)).trans (h.row.at_ j (by omega))
      · rw [if_neg hj1]
        have : i = j + 1 := by omega
        subst this
        exact hp j rfl (by omega)
    · rw [dif_neg hji, if_neg (by omega)]
      exact (ho (j + 1) (by omega) (by omega) (by omega)).trans (h.row.at_ (j + 1) (by omega))
  · rw [hl] at ha hb
    rw [hge a (by omega), hge b (by omega)] at hab
    split at hab <;> split at hab
    · exact h.row.inj _ _ _ _ hab
    · have := h.row.inj _ _ _ _ hab; omega
    · have := h.row.inj _ _ _ _ hab; omega
    · have := h.row.inj _ _ _ _ hab; omega

/-- A node comes. -/
theorem Qu.came {w w' : World} {q b : Nat} {g : Int} {N : List (Nat × Int)} (h : Qu w q N) (hb : w.heap.size ≤ b)
    (hq : Blk w' q 49 #[pt (if N.length = 0 then some b else nd N 0), pt (some b), .int .i64 (N.length + 1 : Nat)])
    (hn : Blk w' b 60 #[.int .i64 g, .pointer none])
    (hl : ∀ k, k + 1 = N.length → ∀ hk : k < N.length, Blk w' (N[k]).1 60 #[.int .i64 (N[k]).2, pt (some b)])
    (ho : ∀ j (hj : j < N.length), j + 1 ≠ N.length → w'.heap[(N[j]).1]? = w.heap[(N[j]).1]?) : Qu w' q (N ++ [(b, g)]) := by
  have hlen : (N ++ [(b, g)]).length = N.length + 1 := by simp
  have hnd : ∀ j, j < N.length → nd (N ++ [(b, g)]) j = nd N j := by
    intro j hj
    unfold nd
    rw [List.getElem?_append_left hj]
  have hnl : nd (N ++ [(b, g)]) N.length = some b := by simp [nd]
  have hng : ∀ j, N.length < j → nd (N ++ [(b, g)]) j = none := fun j hj => nd_ge (by simp; omega)
  refine ⟨?_, fun j hj => ?_, fun i j hi hj hij => ?_⟩
  · rw [hlen, Nat.add_sub_cancel, hnl]
    have e : nd (N ++ [(b, g)]) 0 = if N.length = 0 then some b else nd N 0 := by
      by_cases h0 : N.length = 0
      · rw [if_pos h0, ← h0, hnl]
      · rw [if_neg h0, hnd 0 (by omega)]
    rw [e]
    exact hq
  · rw [hlen] at hj
    by_cases hjl : j < N.length
    · rw [List.getElem_append_left hjl]
      by_cases hl1 : j + 1 = N.length
      · rw [hl1, hnl]
        exact hl j hl1 hjl
      · rw [hnd (j + 1) (by omega)]
        exact (ho j hjl hl1).trans (h.row.at_ j hjl)
    · have : j = N.length := by omega
      subst this
      rw [hng _ (by omega)]
      simpa [pt] using hn
  · have hlt : ∀ k (hk : k < N.length), (N[k]).1 < b := fun k hk => Nat.lt_of_lt_of_le (h.row.at_ k hk).lt hb
    rw [hlen] at hi hj
    by_cases hi' : i < N.length <;> by_cases hj' : j < N.length
    · rw [List.getElem_append_left hi', List.getElem_append_left hj'] at hij
      exact h.row.inj i j hi' hj' hij
    · have : j = N.length := by omega
      subst this
      rw [List.getElem_append_left hi'] at hij
      have h1 := hlt i hi'
      simp at hij
      omega
    · have : i = N.length := by omega
      subst this
      rw [List.getElem_append_left hj'] at hij
      have h1 := hlt j hj'
      simp at hij
      omega
    · omega

/-- Only blocks in S, of those that were there, may have changed. -/
structure Apart (S : Nat → Prop) (w w' : World) : Prop where
  os : w'.os = w.os
  tape : w'.tape = w.tape
  output : w'.output = w.output
  size : w.heap.size ≤ w'.heap.size
  block : ∀ k, k < w.heap.size → ¬ S k → w'.heap[k]? = w.heap[k]?
theorem Apart.below {S : Nat → Prop} {w w' : World} (h : Apart S w w') {B : Nat} (hB : B ≤ w.heap.size) (hS : ∀ k, S k → B ≤ k) : Below B w w' :=
  ⟨h.os, h.tape, h.output, h.size, fun k hk => h.block k (by omega) (fun hs => by have := hS k hs; omega)⟩
theorem Apart.of_below {S : Nat → Prop} {w w' : World} (h : Below w.heap.size w w') : Apart S w w' := ⟨h.os, h.tape, h.output, h.size, fun k hk _ => h.block k hk⟩
theorem Apart.refl (S : Nat → Prop) (w : World) : Apart S w w := ⟨rfl, rfl, rfl, Nat.le_refl _, fun _ _ _ => rfl⟩
theorem Apart.trans {S S' : Nat → Prop} {a b c : World} (h : Apart S a b) (k : Apart S' b c) (hS : ∀ k, k < a.heap.size → S' k → S k) : Apart S a c :=
  ⟨k.os.trans h.os, k.tape.trans h.tape, k.output.trans h.output, Nat.le_trans h.size k.size, fun i hi hs => (k.block i (Nat.lt_of_lt_of_le hi h.size) (fun hs' => hs (hS i hi hs'))).trans (h.block i hi hs)⟩
theorem Apart.setCell {S : Nat → Prop} {a w : World} (h : Apart S a w) {p : Addr} (hp : S p.block ∨ a.heap.size ≤ p.block) (u : Value) : Apart S a (w.setCell p u) :=
  ⟨h.os, h.tape, h.output, by simpa [World.setCell] using h.size, fun k hk hs => (Below.heap_setCell w p u k (fun e => by
    subst e
    rcases hp with hp | hp
    · exact hs hp
    · omega)).trans (h.block k hk hs)⟩
theorem Apart.drew {S : Nat → Prop} {a w : World} (h : Apart S a w) : Apart S a w.drew := ⟨h.os, h.tape, h.output, h.size, h.block⟩
theorem Apart.drewN {S : Nat → Prop} {a w : World} (h : Apart S a w) (n : Nat) : Apart S a (w.drewN n) := ⟨h.os, h.tape, h.output, h.size, h.block⟩
theorem Apart.alloc {S : Nat → Prop} {a w : World} (h : Apart S a w) (o : Obj) : Apart S a (w.alloc o) :=
  ⟨h.os, h.tape, h.output, by have := h.size; simp; omega, fun k hk hs => (Below.heap_alloc _ _ _ (by have := h.size; omega)).trans (h.block k hk hs)⟩
theorem Apart.grown {S : Nat → Prop} {a w w' : World} {row : Option Nat} (h : Apart S a w) (hg : w.grownBy w' row) (hr : ∀ r, row = some r → a.heap.size ≤ r) : Apart S a w' :=
  ⟨hg.os.trans h.os, hg.tape.trans h.tape, hg.output.trans h.output, Nat.le_trans h.size hg.size, fun k hk hs => (hg.block k (by have := h.size; omega) (fun e => by have := hr k e.symm; omega)).trans (h.block k hk hs)⟩
theorem Apart.mono {S S' : Nat → Prop} {a w : World} (h : Apart S a w) (hS : ∀ k, S k → S' k) : Apart S' a w := ⟨h.os, h.tape, h.output, h.size, fun k hk hs => h.block k hk (fun hk' => hs (hS k hk'))⟩

theorem blk_kept {W W' : World} {row : Option Nat} {b : Nat} {t : TypeId} {cs : Array Value} (h : Blk W b t cs) (hg : W.grownBy W' row) (hr : ∀ r, row = some r → ∃ o : Obj, W.heap[r]? = some o ∧ o.isCells = false) : Blk W' b t cs :=
  h.grown hg (fun e => by
    obtain ⟨o, ho, hc⟩ := hr b e.symm
    unfold Blk at h
    rw [h] at ho
    cases ho
    cases hc)
theorem ownFrom_apart {β : Type} {S : Nat → Prop} {w₀ : World} {B : Nat} (hB : w₀.heap.size ≤ B) : OwnFrom B (fun (_ : β) W => Apart S w₀ W) :=
  fun _ _ _ _ hs hg hr => hs.grown hg (fun r e => Nat.le_trans hB (hr r e).1)
theorem ownFrom_blk {β : Type} {B : Nat} (b : Nat) (t : TypeId) (cs : β → Array Value) : OwnFrom B (fun (s : β) W => Blk W b t (cs s)) :=
  fun _ _ _ _ hs hg hr => blk_kept hs hg (fun r e => (hr r e).2)
theorem ownFrom_qu {β : Type} {B : Nat} (q : Nat) (N : β → List (Nat × Int)) : OwnFrom B (fun (s : β) W => Qu W q (N s)) :=
  fun _ _ _ _ hs hg hr => ⟨blk_kept hs.head hg (fun r e => (hr r e).2), fun i hi => blk_kept (hs.row.at_ i hi) hg (fun r e => (hr r e).2), hs.row.inj⟩

/-- What a round that goes on keeps: blocks of S. -/
def KeepS (S : Nat → Prop) (A B : World) : Prop := ∀ k, S k → B.heap[k]? = A.heap[k]?
theorem keepS_t (S : Nat → Prop) {A B C : World} (h : KeepS S A B) (k : KeepS S B C) : KeepS S A C := fun i hi => (k i hi).trans (h i hi)
theorem keepS_b {S : Nat → Prop} {B : Nat} (hB : ∀ k, S k → k < B) (W : World) (l : Nat) (o o' : Obj) (hl : B ≤ l) (_ : W.heap[l]? = some o) (_ : o.isCells = false) (_ : o.isWalk = false) : KeepS S W (W.putObj l o') :=
  fun k hk => World.putObj_heap_other (show k ≠ l by have := hB k hk; omega)

/-- The number of a node, by its pointer. -/
noncomputable def ixN (N : List (Nat × Int)) (v : Value) : Nat := open Classical in if h : ∃ k, k ≤ N.length ∧ v = pt (nd N k) then h.choose else 0
theorem pt_inj {a b : Option Nat} (h : pt a = pt b) : a = b := by
  cases a <;> cases b <;> simp [pt] at h ⊢
  exact h
theorem ixN_eq {w : World} {N : List (Nat × Int)} (h : Row w N) (k : Nat) (hk : k ≤ N.length) : ixN N (pt (nd N k)) = k := by
  unfold ixN
  have hex : ∃ j, j ≤ N.length ∧ pt (nd N k) = pt (nd N j) := ⟨k, hk, rfl⟩
  rw [dif_pos hex]
  obtain ⟨h1, h2⟩ := hex.choose_spec
  generalize hex.choose = j at *
  have e := pt_inj h2
  by_cases hj : j < N.length
  · rw [nd_lt hj] at e
    by_cases hk' : k < N.length
    · rw [nd_lt hk'] at e
      injection e with e
      exact (h.inj k j hk' hj e).symm
    · rw [nd_ge (by omega)] at e
      cases e
  · by_cases hk' : k < N.length
    · rw [nd_lt hk', nd_ge (by omega)] at e
      cases e
    · omega
end Go.Proofs.Ytdfpbbkdlalpcaa
