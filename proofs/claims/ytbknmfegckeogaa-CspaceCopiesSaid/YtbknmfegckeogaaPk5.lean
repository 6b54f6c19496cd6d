/- Of the following, one behind the other: Rows of whole numbers that may have more cells behind their room (of a slice cut with a bound): what an append makes of them. No program walked. A place written whole, in memory; gone of the program's forest, by a walk. Condition: 1 to 4096 places. Add of the program's forest, by a walk. Conditions: 1 to 4096 places; a number is free; the parent is there, or none is asked for. Add of the program's forest, whole: what it answers and what the places are behind it. Condition: the places are a forest's. Drop's loop over the children, a child at a time: plain. No program in sight. Drop of the program's forest, by a walk. Condition: the places are a forest's. Descendants of the program's forest, by a walk: in preorder. Condition: the places are a forest's. The reference's forest in memory; what becomes of it by stores. No program walked. -/
import Derived.Test.YtbknmfegckeogaaPk1
import Derived.Deep.MidRow
import Derived.StillTailTactics
/- Rows of whole numbers that may have more cells behind their room (of a slice cut with a bound): what an append makes of them. No program walked. -/
namespace Go.Proofs.Ytbknmfegckeogaa
open Go.RowKit
set_option linter.unusedVariables false

/-- The value is a slice of these numbers, on a block that is written to. -/
def Cut (w : World) (v : Value) (L : List Int) : Prop :=
  (v = .slice none 0 0 ∧ L = []) ∨ ∃ g cap cur, v = .slice (some ⟨g, 0, none⟩) L.length cap ∧ Blk w g 3 cur ∧ L.length ≤ cap ∧ cap ≤ maxLen ∧ cap ≤ cur.size ∧ cur.toList.take L.length = intV L

theorem Cut.nil (w : World) : Cut w (.slice none 0 0) [] := .inl ⟨rfl, rfl⟩
theorem Cut.slice {w : World} {v : Value} {L : List Int} (h : Cut w v L) : ∃ A cap, v = .slice A L.length cap := by
  rcases h with ⟨rfl, rfl⟩ | ⟨g, cap, cur, rfl, _⟩
  · exact ⟨none, 0, rfl⟩
  · exact ⟨_, cap, rfl⟩
theorem Cut.lt {w : World} {v : Value} {L : List Int} (h : Cut w v L) : ∀ k, v.ownBlock = some k → k < w.heap.size := by
  intro k hk
  rcases h with ⟨rfl, rfl⟩ | ⟨g, cap, cur, rfl, hg, _⟩
  · simp [Value.ownBlock] at hk
  · simp [Value.ownBlock] at hk
    subst hk
    exact hg.lt
theorem Cut.keep {w w' : World} {v : Value} {L : List Int} (h : Cut w v L) (hk : ∀ k, v.ownBlock = some k → w'.heap[k]? = w.heap[k]?) : Cut w' v L := by
  rcases h with hn | ⟨g, cap, cur, rfl, hg, rest⟩
  · exact .inl hn
  · exact .inr ⟨g, cap, cur, rfl, (hk g rfl).trans hg, rest⟩
theorem Cut.apart {S : Nat → Prop} {w w' : World} {v : Value} {L : List Int} (h : Cut w v L) (hA : Apart S w w') (hS : ∀ k, v.ownBlock = some k → ¬ S k) : Cut w' v L :=
  h.keep fun k hk => hA.block k (h.lt k hk) (hS k hk)
theorem Cut.below {w w' : World} {v : Value} {L : List Int} (h : Cut w v L) (hb : Below w.heap.size w w') : Cut w' v L := h.keep fun k hk => hb.block k (h.lt k hk)
theorem Cut.cells {w : World} {A : Option Addr} {n cap : Nat} {L : List Int} (h : Cut w (.slice A n cap) L) (k : Nat) (hk : k < L.length) : ∃ g, A = some ⟨g, 0, none⟩ ∧ w.cell? ⟨g, k, none⟩ = some (.int .i64 (L[k]'hk)) := by
  rcases h with ⟨_, rfl⟩ | ⟨g, cap', cur, hv, hg, h1, h2, h3, h4⟩
  · simp at hk
  · injection hv with hA
    refine ⟨g, hA, ?_⟩
    rw [hg.cell k]
    have e1 : cur.toList[k]? = (cur.toList.take L.length)[k]? := by rw [List.getElem?_take, if_pos hk]
    rw [← Array.getElem?_toList, e1, h4, intV, List.getElem?_map, List.getElem?_eq_getElem hk]
    rfl
/-- The end cut off, and the room behind with it. -/
theorem Cut.cut {w : World} {A : Option Addr} {n cap : Nat} {L : List Int} {x : Int} (h : Cut w (.slice A n cap) (L ++ [x])) : Cut w (.slice A L.length L.length) L := by
  rcases h with ⟨_, hL⟩ | ⟨g, cap', cur, hv, hg, h1, h2, h3, h4⟩
  · simp at hL
  · injection hv with hA
    subst hA
    rw [List.length_append, List.length_singleton] at h1 h4
    refine .inr ⟨g, L.length, cur, rfl, hg, Nat.le_refl _, by omega, by omega, ?_⟩
    have e1 : cur.toList.take L.length = (cur.toList.take (L.length + 1)).take L.length := by rw [List.take_take, Nat.min_eq_left (by omega)]
    rw [e1, h4, intV_app, ← intV_len L, List.take_left]
theorem Cut.own {w : World} {B : Nat} {v : Value} {L : List Int} (h : w.ownsRow B 3 1 v L.length (intV L)) : Cut w v L := by
  rcases h.2 with ⟨rfl, h0⟩ | ⟨g, cap, cur, rfl, hb, hg, h1, h2, h3, h4⟩
  · exact .inl ⟨rfl, List.eq_nil_of_length_eq_zero h0⟩
  · exact .inr ⟨g, cap, cur, rfl, hg, h1, h2, by omega, by rw [Nat.mul_one] at h4; exact h4⟩

section
variable {P : Program} (w : World)
theorem run_append_cut (t ty : TypeId) (i : TypeInfo) (ht : P.underlying t = some (.slice 3)) (hi : P.info? 3 = some i) (hz : i.zero = some (.int .i64 0)) (hs : i.size = 1) (hb : i.bytes = 8)
    {v : Value} {L : List Int} (h : Cut w v L) (ad : Addr) (c : Nat) (x : Int) (hx : w.cell? (ad.add 0) = some (.int .i64 x)) (hL : L.length < 1000000) :
    ∃ v' w', (Builtin.append_ #[t, t] ty #[v, .slice (some ad) 1 c]).run P w = .ok v' w' ∧ Cut w' v' (L ++ [x]) ∧ w.grownBy w' v.ownBlock ∧ (v'.ownBlock = v.ownBlock ∨ v'.ownBlock = some w.heap.size) := by
  have hnews : ∀ j u, ([Value.int .i64 x] : List Value)[j]? = some u → w.cell? (ad.add j) = some u := by
    intro j u hu
    rcases j with _ | j
    · simp at hu
      subst hu
      exact hx
    · simp at hu
  have hl : ([Value.int .i64 x] : List Value).length = 1 * i.size := by rw [hs]; rfl
  have hLL : (intV L).length = L.length * i.size := by rw [hs, intV_len, Nat.mul_one]
  have happ : intV (L ++ [x]) = intV L ++ [.int .i64 x] := by rw [intV_app]; rfl
  have grown : ∀ (old : Nat), ∀ (row : Option Nat),
      Cut (w.drew.alloc (.cells ((intV L).toArray ++ [Value.int .i64 x].toArray ++ Builtin.zeroCells (Value.int .i64 0).cells (grownCap w (L.length + 1) old 3 - (L.length + 1))) 3))
        (.slice (some ⟨w.heap.size, 0, none⟩) (L.length + 1) (grownCap w (L.length + 1) old 3)) (L ++ [x]) ∧
      w.grownBy (w.drew.alloc (.cells ((intV L).toArray ++ [Value.int .i64 x].toArray ++ Builtin.zeroCells (Value.int .i64 0).cells (grownCap w (L.length + 1) old 3 - (L.length + 1))) 3)) row := by
    intro old row
    have hge := grownCap_ge w (L.length + 1) old 3
    have hcm := grownCap_le_maxLen w (L.length + 1) old 3 (by unfold maxLen; omega)
    refine ⟨.inr ⟨w.heap.size, _, _, by rw [List.length_append]; rfl, heap_alloc_new w.drew _, by rw [List.length_append, List.length_singleton]; exact hge, hcm, ?_, ?_⟩, ⟨rfl, rfl, rfl, by simp, fun k hk _ => Below.heap_alloc w.drew _ k hk⟩⟩
    · simp only [Array.size_append, List.size_toArray, size_zeroCells, intV_len, List.length_singleton, show (Value.int .i64 0).cells.size = 1 from rfl]
      omega
    · rw [happ]
      simp only [Array.toList_append]
      rw [List.length_append, List.length_singleton]
      have e : L.length + 1 = (intV L ++ [Value.int .i64 x]).length := by rw [List.length_append, intV_len]; rfl
      rw [e]
      exact List.take_left
  rcases h with ⟨rfl, rfl⟩ | ⟨g, cap, cur, rfl, hg, h1, h2, h3, h4⟩
  · have hr := run_append_nil (P := P) w t ty 3 i _ ht hi hz ad 1 c [.int .i64 x] hl hnews (by omega) (by omega) (by rw [hb]; omega)
    have hgr := grown 0 (Value.ownBlock (.slice none 0 0))
    simp only [List.length_nil, Nat.zero_add, List.nil_append, intV, List.map_nil] at hgr
    refine ⟨_, _, hr, ?_, ?_, .inr rfl⟩
    · simpa using hgr.1
    · simpa using hgr.2
  · by_cases hroom : L.length + 1 ≤ cap
    · have hr := run_append_room (P := P) w t ty 3 i ht hi g L.length cap cur hg ad 1 c [.int .i64 x] hl hnews (by simp [Value.oneCell']) hroom (by rw [hs]; simp; omega)
      refine ⟨_, _, hr, .inr ⟨g, cap, _, by rw [List.length_append]; rfl, setRow_heap w g cur _ 3 _ hg, by rw [List.length_append, List.length_singleton]; exact hroom, h2, ?_, ?_⟩, ⟨rfl, rfl, rfl, by simp, fun k _ hk => setRow_other w g k _ (fun e => hk (by simp [Value.ownBlock, e]))⟩, .inl rfl⟩
      · simp only [List.size_toArray, List.length_append, List.length_take, List.length_drop, Array.length_toList, hs, List.length_singleton]
        omega
      · rw [happ, hs, Nat.mul_one, h4]
        have e : (L ++ [x]).length = (intV L ++ [Value.int .i64 x]).length := by simp [intV_len]
        rw [e]
        exact List.take_left
    · have holds : ∀ j u, (intV L)[j]? = some u → w.cell? ((⟨g, 0, none⟩ : Addr).add j) = some u := by
        intro j u hu
        have hadd : (⟨g, 0, none⟩ : Addr).add j = ⟨g, j, none⟩ := by unfold Addr.add; split <;> simp_all
        rw [hadd, hg.cell j]
        rw [← h4, List.getElem?_take] at hu
        split at hu
        · simpa using hu
        · cases hu
      have hr := run_append_grow (P := P) w t ty 3 i _ ht hi hz ⟨g, 0, none⟩ L.length cap (intV L) hLL holds ad 1 c [.int .i64 x] hl hnews (by omega) (by omega) (growslice_fits (by omega) (by rw [hb]; omega))
      have hgr := grown cap (Value.ownBlock (.slice (some ⟨g, 0, none⟩) L.length cap))
      exact ⟨_, _, hr, hgr.1, hgr.2, .inr rfl⟩

theorem wpList_append_cut {ops : Array Oper} {rest : List Oper} {o : Oper} {a : Act} {Q : Exit → Act → World → Prop} (hgd : o.guard = none) (s y : Operand) (t : TypeId)
    (ho : o.op = .call { callee := .builtin .append, args := #[s, y], argTypes := #[t, t] })
    (i : TypeInfo) (ht : P.underlying t = some (.slice 3)) (hi : P.info? 3 = some i) (hz : i.zero = some (.int .i64 0)) (hsz : i.size = 1) (hb : i.bytes = 8)
    (v : Value) (L : List Int) (hs : a.eval s = v) (h : Cut w v L) (ad : Addr) (c : Nat) (x : Int) (hy : a.eval y = .slice (some ad) 1 c) (hx : w.cell? (ad.add 0) = some (.int .i64 x)) (hL : L.length < 1000000)
    (hK : ∀ v' w', Cut w' v' (L ++ [x]) → w.grownBy w' v.ownBlock → (v'.ownBlock = v.ownBlock ∨ v'.ownBlock = some w.heap.size) → wpList P ops Q rest (a.put o.dst v') w') : wpList P ops Q (o :: rest) a w := by
  refine wpList_plain hgd fun _ hK' => ?_
  obtain ⟨v', w', hr, h2, h3, h4⟩ := run_append_cut (P := P) w t o.type i ht hi hz hsz hb h ad c x hx hL
  unfold Oper.wp execOp
  simp only [ho, resolve, invoke, builtin, Sem.run_bind, Sem.run_pure, Result.andThen_ok, List.map_toArray, List.map_cons, List.map_nil, hs, hy, hr]
  exact hK' _ _ (hK v' w' h2 h3 h4)
end
end Go.Proofs.Ytbknmfegckeogaa

/- A place written whole, in memory; gone of the program's forest, by a walk. Condition: 1 to 4096 places. -/
namespace Go.Proofs.Ytbknmfegckeogaa
open Go.RowKit
set_option linter.unusedVariables false
set_option linter.unusedSimpArgs false

/-- A place written whole. -/
def putW (w : World) (g o : Nat) (x : Nd) : World :=
  ((((w.setCell ⟨g, o, none⟩ (.bool x.t)).setCell ⟨g, o + 1, none⟩ (.int .i64 x.u)).setCell ⟨g, o + 2, none⟩ (.int .i64 x.d)).setCell ⟨g, o + 3, none⟩ (.int .i64 x.l)).setCell ⟨g, o + 4, none⟩ (.int .i64 x.r)

theorem NdAt.putW {w : World} {g o : Nat} {x : Nd} (h : NdAt w g o x) (y : Nd) : NdAt (putW w g o y) g o y := by
  have k0 : (w.setCell ⟨g, o, none⟩ (.bool y.t)).cell? ⟨g, o, none⟩ = some (.bool y.t) := World.cell?_setCell_same _ _ _ h.c0
  have k1 : (w.setCell ⟨g, o, none⟩ (.bool y.t)).cell? ⟨g, o + 1, none⟩ = some (.int .i64 x.u) := (cell_off w g _ _ _ (by omega)).trans h.c1
  have k2 : (w.setCell ⟨g, o, none⟩ (.bool y.t)).cell? ⟨g, o + 2, none⟩ = some (.int .i64 x.d) := (cell_off w g _ _ _ (by omega)).trans h.c2
  have k3 : (w.setCell ⟨g, o, none⟩ (.bool y.t)).cell? ⟨g, o + 3, none⟩ = some (.int .i64 x.l) := (cell_off w g _ _ _ (by omega)).trans h.c3
  have k4 : (w.setCell ⟨g, o, none⟩ (.bool y.t)).cell? ⟨g, o + 4, none⟩ = some (.int .i64 x.r) := (cell_off w g _ _ _ (by omega)).trans h.c4
  have h1 : NdAt (w.setCell ⟨g, o, none⟩ (.bool y.t)) g o { x with t := y.t } := ⟨k0, k1, k2, k3, k4⟩
  exact (((h1.setU y.u).setD y.d).setL y.l).setR y.r
theorem PF.putW {w : World} {f lb n lc : Nat} {R : Raw} {fv : Value} (h : PF w f lb n lc R fv) (a : Nat) (ha : a < n) (y : Nd) : PF (putW w lb (a * 5) y) f lb n lc (R.put a y) fv := by
  have hx := (h.at_ a ha).putW y
  refine ⟨?_, fun i hi => ?_, fun o => ?_, h.ne, ?_, h.n1, h.n2⟩
  · unfold Go.Proofs.Ytbknmfegckeogaa.putW
    exact ((((h.head.far h.ne.symm _).far h.ne.symm _).far h.ne.symm _).far h.ne.symm _).far h.ne.symm _
  · by_cases e : i = a
    · subst e
      simpa [Raw.put, setN] using hx
    · have hi' := (((((h.at_ i hi).other 0 (by omega) e (.bool y.t)).other 1 (by omega) e (.int .i64 y.u)).other 2 (by omega) e (.int .i64 y.d)).other 3 (by omega) e (.int .i64 y.l)).other 4 (by omega) e (.int .i64 y.r)
      have e2 : (R.put a y).M i = R.M i := by simp [Raw.put, setN, e]
      rw [e2]
      exact hi'
  · unfold Go.Proofs.Ytbknmfegckeogaa.putW
    simp only [World.frozen?_setCell]
    exact h.fr o
  · unfold Go.Proofs.Ytbknmfegckeogaa.putW
    simp only [PF.size_set]
    exact h.lt
theorem putW_apart {S : Nat → Prop} {a w : World} {g : Nat} (h : Apart S a w) (hg : S g ∨ a.heap.size ≤ g) (o : Nat) (y : Nd) : Apart S a (putW w g o y) :=
  ((((h.setCell (p := ⟨g, _, none⟩) hg _).setCell (p := ⟨g, _, none⟩) hg _).setCell (p := ⟨g, _, none⟩) hg _).setCell (p := ⟨g, _, none⟩) hg _).setCell (p := ⟨g, _, none⟩) hg _

theorem PF.alloc_ {w : World} {f lb n lc : Nat} {R : Raw} {fv : Value} (h : PF w f lb n lc R fv) (o : Obj) : PF (w.alloc o) f lb n lc R fv :=
  h.keep (Below.heap_alloc w o f h.head.lt) (Below.heap_alloc w o lb h.lt) (by simp)
theorem PF.grown_ {w w' : World} {f lb n lc : Nat} {R : Raw} {fv : Value} {row : Option Nat} (h : PF w f lb n lc R fv) (hg : w.grownBy w' row) (h1 : row ≠ some f) (h2 : row ≠ some lb) : PF w' f lb n lc R fv :=
  h.keep (hg.block f h.head.lt (fun e => h1 e.symm)) (hg.block lb h.lt (fun e => h2 e.symm)) hg.size
/-- The forest with its free numbers. -/
structure PS (w : World) (f lb n lc : Nat) (R : Raw) (v : Value) (L : List Int) : Prop where
  pf : PF w f lb n lc R v
  cut : Cut w v L
  nf : v.ownBlock ≠ some f
  nl : v.ownBlock ≠ some lb
/-- The blocks of the forest. -/
def own3 (f lb : Nat) (v : Value) (k : Nat) : Prop := k = f ∨ k = lb ∨ v.ownBlock = some k
/-- The free numbers lie where they lay, or on a new block. -/
def Fresh (w : World) (v v' : Value) : Prop := ∀ r, v'.ownBlock = some r → v.ownBlock = some r ∨ w.heap.size ≤ r

theorem putW_size (w : World) (g o : Nat) (x : Nd) : (putW w g o x).heap.size = w.heap.size := by unfold putW; simp only [PF.size_set]
def Nd.cs (x : Nd) : Array Value := #[.bool x.t, .int .i64 x.u, .int .i64 x.d, .int .i64 x.l, .int .i64 x.r]
theorem putW_cells (w : World) (g o : Nat) (x : Nd) : w.setCells g o x.cs.toList = putW w g o x := rfl
theorem NdAt.there {w : World} {g o : Nat} {x : Nd} (h : NdAt w g o x) (hf : ∀ o, w.frozen? ⟨g, o, none⟩ = false) (m : Nat) (hm : m = 5) : w.there g o m := by
  subst hm
  intro j hj
  refine ⟨?_, hf _⟩
  rcases j with _ | _ | _ | _ | _ | j
  · exact Option.isSome_iff_exists.2 ⟨_, h.c0⟩
  · exact Option.isSome_iff_exists.2 ⟨_, h.c1⟩
  · exact Option.isSome_iff_exists.2 ⟨_, h.c2⟩
  · exact Option.isSome_iff_exists.2 ⟨_, h.c3⟩
  · exact Option.isSome_iff_exists.2 ⟨_, h.c4⟩
  · omega

/-- A new block's row is no block of these. -/
theorem fresh_ne {w : World} {v v' : Value} (h : Fresh w v v') {b : Nat} (hb : b < w.heap.size) (hv : v.ownBlock ≠ some b) : v'.ownBlock ≠ some b := by
  intro e
  rcases h b e with h1 | h1
  · exact hv h1
  · omega

set_option maxRecDepth 100000 in
set_option maxHeartbeats 1000000 in
theorem gone_is {w : World} {f lb n lc : Nat} {R : Raw} {v : Value} {L : List Int} (h : PS w f lb n lc R v L) (k : Nat) (hk : k < n) (hL : L.length ≤ 4096) :
    Calls Try.prog 86 #[.pointer (some ⟨f, 0, none⟩), .int .i64 k] w fun e w' => (∃ z, e = .returned z) ∧ ∃ v', PS w' f lb n lc (R.put k Nd.zero) v' (L ++ [(k : Int)]) ∧ Fresh w v v' ∧ Apart (own3 f lb v) w w' := by
  obtain ⟨i0, hi0, hz0, hz1, hz2⟩ := info_parts infoInt
  obtain ⟨A, cap, rfl⟩ := h.cut.slice
  have hp := h.pf
  have hn2 := hp.n2
  have d0 := hp.cells.1
  have ht := (hp.at_ k hk).there hp.fr
  have q := hp.putW k hk Nd.zero
  have qa : Apart (own3 f lb (.slice A L.length cap)) w (putW w lb (k * 5) Nd.zero) := putW_apart (Apart.refl _ w) (.inl (.inr (.inl rfl))) _ _
  have qa' : Apart (fun k => k = lb) w (putW w lb (k * 5) Nd.zero) := putW_apart (S := fun k => k = lb) (Apart.refl _ w) (.inl rfl) _ _
  have qc : Cut (putW w lb (k * 5) Nd.zero) (.slice A L.length cap) L := h.cut.apart qa' (fun b hb e => h.nl (by rw [hb, e]))
  have qs := putW_size w lb (k * 5) Nd.zero
  obtain ⟨W, hW⟩ : ∃ W, W = putW w lb (k * 5) Nd.zero := ⟨_, rfl⟩
  rw [← hW] at q qa qc qs
  have e0 := q.cells.1
  have e2 := q.cells.2.2.1
  have ef := q.cells.2.2.2
  have HW := Lib.hid hW
  have HQ := Lib.hid (And.intro q (And.intro qa (And.intro qc qs)))
  have HL := Lib.hid (And.intro h.nf h.nl)
  have t1 : (Try.prog.info? 116).map (·.size) = some Nd.zero.cs.size := by kernel_rfl
  have t2 : Nd.zero.cs.all (·.oneCell') = true := by simp [Nd.cs, Value.oneCell']
  have hL' := Lib.hid hL
  clear h hp qa' hW q qa qc qs
  go_enter Try.func86, Try.ntmps86
  go_wp2_with (first | (refine wpList_store_mid rfl 116 (.tmp 10) (.tmp 9) rfl lb (k * 5) Nd.zero.cs (by exact rfl) (by exact rfl) (by exact ht _ rfl) t1 t2 ?_; rw [putW_cells, ← HW.out]; clear d0) | (at_builtin; refine wpList_append_cut _ rfl (.tmp 15) (.tmp 17) 99 rfl i0 rfl hi0 hz0 hz1 hz2 (.slice A L.length cap) L rfl (HQ.out.2.2.1.keep fun r hr => Below.heap_alloc _ _ r (HQ.out.2.2.1.lt r hr)) ⟨W.heap.size, 0, none⟩ 1 k rfl ((Blk.new W 3 #[.int .i64 k]).cell 0) (by have := hL'.out; omega) ?_; intro v' w7 hcut hgrow hat; obtain ⟨A7, c7, rfl⟩ := hcut.slice; (have q7 := (HQ.out.1.alloc_ (.cells #[.int .i64 k] 3)).grown_ hgrow HL.out.1 HL.out.2); (have g0 := q7.cells.1); (have g2 := q7.cells.2.2.1); (have gf := q7.cells.2.2.2); (have H7 := Lib.hid (And.intro q7 (And.intro hcut (And.intro hgrow hat)))); clear q7 hcut hgrow hat e0 e2))
  go_end0
  obtain ⟨q7, hcut, hgrow, hat⟩ := H7.out
  obtain ⟨q, qa, qc, qs⟩ := HQ.out
  have hll : (L ++ [(k : Int)]).length = L.length + 1 := by simp
  rw [hll] at hcut hat
  have hlt := q.head.lt
  have hlb := q.lt
  have hat' : Fresh w (.slice A L.length cap) (.slice A7 (L.length + 1) c7) := by
    intro r hr
    rcases hat with e | e
    · rw [e] at hr
      exact .inl hr
    · rw [e] at hr
      simp at hr
      omega
  have n1 := fresh_ne hat' (b := f) (by omega) HL.out.1
  have n2 := fresh_ne hat' (b := lb) (by omega) HL.out.2
  refine ⟨⟨_, rfl⟩, _, ⟨q7.setFree _, hcut.keep fun r hr => Below.heap_setCell _ ⟨f, 2, none⟩ _ r (fun e => n1 (by rw [hr, e])), n1, n2⟩, hat', ?_⟩
  have h1 := (qa.alloc (.cells #[.int .i64 k] 3)).grown hgrow (fun r hr => .inl (.inr (.inr hr)))
  exact h1.setCell (p := ⟨f, 2, none⟩) (.inl (.inl rfl)) _
end Go.Proofs.Ytbknmfegckeogaa

/- Add of the program's forest, by a walk. Conditions: 1 to 4096 places; a number is free; the parent is there, or none is asked for. -/
namespace Go.Proofs.Ytbknmfegckeogaa
open Go.RowKit
set_option linter.unusedVariables false
set_option linter.unusedSimpArgs false

/-- The new place. -/
def newN (q : Int) : Nd := ⟨true, q, -1, -1, -1⟩

theorem add_fin {w W2 w3 w4 : World} {f lb n lc g m cap k : Nat} {R' : Raw} {L : List Int} (ha : Apart (own3 f lb (.slice (some ⟨g, 0, none⟩) m cap)) w W2) (hc : Cut W2 (.slice (some ⟨g, 0, none⟩) k k) L) (hgf : g ≠ f) (hgl : g ≠ lb)
    (a3 : Apart (own2 f lb) W2 w3) (q4 : PF w4 f lb n lc R' (.slice (some ⟨g, 0, none⟩) k k)) (a4 : Apart (own2 f lb) w3 w4) :
    ∃ v', PS w4 f lb n lc R' v' L ∧ Fresh w (.slice (some ⟨g, 0, none⟩) m cap) v' ∧ Apart (own3 f lb (.slice (some ⟨g, 0, none⟩) m cap)) w w4 := by
  have hno : ∀ r, (Value.slice (some ⟨g, 0, none⟩) k k).ownBlock = some r → ¬ own2 f lb r := by
    intro r hr
    simp [Value.ownBlock] at hr
    subst hr
    rintro (e | e)
    · exact hgf e
    · exact hgl e
  have hsub : ∀ r, own2 f lb r → own3 f lb (.slice (some ⟨g, 0, none⟩) m cap) r := by
    rintro r (e | e)
    · exact .inl e
    · exact .inr (.inl e)
  refine ⟨_, ⟨q4, (hc.apart a3 hno).apart a4 hno, ?_, ?_⟩, fun r hr => .inl hr, (ha.trans a3 fun r _ hr => hsub r hr).trans a4 fun r _ hr => hsub r hr⟩
  · simp [Value.ownBlock, hgf]
  · simp [Value.ownBlock, hgl]

set_option maxRecDepth 100000 in
set_option maxHeartbeats 2000000 in
theorem add_ok {w : World} {f lb n lc : Nat} {R : Raw} {v : Value} {L : List Int} {x : Nat} (h : PS w f lb n lc R v (L ++ [(x : Int)])) (hx : x < n) (hL : L.length < 4096) (p q : Int) (hq : (p < -1 ∧ q = -1) ∨ (¬ p < -1 ∧ q = p)) (hp : 0 ≤ p → hasR n R p = true) (hpn : p < (n : Int)) (hd : inF n (R.head p)) :
    Calls Try.prog 88 #[.pointer (some ⟨f, 0, none⟩), .int .i64 p] w fun e w' => e = .returned (.tuple #[.int .i64 x, .int .i64 0]) ∧ ∃ v', PS w' f lb n lc (((R.put x (newN q)).join p (-1) x).join p x (R.head p)) v' L ∧ Fresh w v v' ∧ Apart (own3 f lb v) w w' := by
  obtain ⟨A, cap, rfl⟩ := h.cut.slice
  have hll : (L ++ [(x : Int)]).length = L.length + 1 := by simp
  rw [hll] at h
  have hpf := h.pf
  have hn2 := hpf.n2
  have CN := nothing_is hpf
  have CH := has_is hpf p
  have d2 := hpf.cells.2.2.1
  have df := hpf.cells.2.2.2
  obtain ⟨g, rfl, hc⟩ := h.cut.cells L.length (by simp)
  rw [List.getElem_append_right (Nat.le_refl _)] at hc
  simp only [Nat.sub_self, List.getElem_cons_zero] at hc
  have hcap : L.length + 1 ≤ cap := by
    rcases h.cut with ⟨h0, _⟩ | ⟨_, cap', _, h1, _, h2, _⟩
    · cases h0
    · injection h1 with _ _ h4
      subst h4
      rw [hll] at h2
      exact h2
  have hgf : g ≠ f := fun e => h.nf (by rw [e]; rfl)
  have hgl : g ≠ lb := fun e => h.nl (by rw [e]; rfl)
  have hq1 := hpf.setFree (.slice (some ⟨g, 0, none⟩) L.length L.length)
  have ha1 : Apart (own3 f lb (.slice (some ⟨g, 0, none⟩) (L.length + 1) cap)) w (w.setCell ⟨f, 2, none⟩ (.slice (some ⟨g, 0, none⟩) L.length L.length)) := (Apart.refl _ w).setCell (p := ⟨f, 2, none⟩) (.inl (.inl rfl)) _
  have hcut1 : Cut (w.setCell ⟨f, 2, none⟩ (.slice (some ⟨g, 0, none⟩) L.length L.length)) (.slice (some ⟨g, 0, none⟩) L.length L.length) L := h.cut.cut.keep fun r hr => Below.heap_setCell _ ⟨f, 2, none⟩ _ r (fun e => hgf (by simp [Value.ownBlock] at hr; simp only at e; omega))
  obtain ⟨W1, hW1⟩ : ∃ W1, W1 = w.setCell ⟨f, 2, none⟩ (.slice (some ⟨g, 0, none⟩) L.length L.length) := ⟨_, rfl⟩
  rw [← hW1] at hq1 ha1 hcut1
  have CD := head_is hq1 p hpn
  obtain ⟨hdc, hdf⟩ := head_cell hq1 p hpn
  have e0 := hq1.cells.1
  have ht := (hq1.at_ x hx).there hq1.fr
  have hq2 := hq1.putW x hx (newN q)
  have ha2 := putW_apart ha1 (.inl (.inr (.inl rfl))) (x * 5) (newN q)
  have hcut2 : Cut (putW W1 lb (x * 5) (newN q)) (.slice (some ⟨g, 0, none⟩) L.length L.length) L := hcut1.apart (S := fun k => k = lb) (putW_apart (S := fun k => k = lb) (Apart.refl _ W1) (.inl rfl) _ _) (fun r hr e => hgl (by simp [Value.ownBlock] at hr; omega))
  obtain ⟨W2, hW2⟩ : ∃ W2, W2 = putW W1 lb (x * 5) (newN q) := ⟨_, rfl⟩
  rw [← hW2] at hq2 ha2 hcut2
  have C1 := join_is hq2 p (-1) x hpn (.inl rfl) (.inr ⟨x, rfl, hx⟩)
  have HW1 := Lib.hid hW1
  have HW2 := Lib.hid hW2
  have HA := Lib.hid (And.intro ha2 hcut2)
  have HN := Lib.hid (And.intro hgf hgl)
  have HD := Lib.hid hd
  have HX := Lib.hid (And.intro hx hpn)
  have t1 : (Try.prog.info? 116).map (·.size) = some (newN q).cs.size := by kernel_rfl
  have t2 : (newN q).cs.all (·.oneCell') = true := by simp [Nd.cs, Value.oneCell']
  generalize headA f lb p = ad at *
  generalize R.head p = z at *
  clear h hpf hW1 hW2 hq1 ha1 hcut1 hq2 ha2 hcut2 hd hgf hgl hll
  by_cases h0 : 0 ≤ p
  · have b0 : decide (0 ≤ p) = true := by simpa using h0
    have hm : ¬ p < -1 := by omega
    rcases hq with ⟨hq1, _⟩ | ⟨_, rfl⟩
    · omega
    rw [hp h0] at CH
    clear hp h0 hpn
    go_enter Try.func88, Try.ntmps88
    go_wp2_with (first | (go_at_call 81; refine CN.mono ?_; rintro e w' ⟨rfl, rfl⟩) | (go_at_call 80; refine CH.mono ?_; rintro e w' ⟨rfl, rfl⟩) | (go_at_call 90; rw [← HW1.out]; refine CD.mono ?_; rintro e w' ⟨rfl, rfl⟩) | (refine wpList_store_mid rfl 116 (.tmp 64) (.tmp 63) rfl lb (x * 5) (newN q).cs (by exact rfl) (by exact rfl) (by exact ht _ rfl) t1 t2 ?_; rw [putW_cells, ← HW2.out]; clear ht) | (go_at_call 89; (have := mk1); (have C2 := join_is q3 q x z HX.out.2 (.inr ⟨x, rfl, HX.out.1⟩) HD.out); refine C2.mono ?_; clear C2; rintro e w4 ⟨⟨z2, rfl⟩, q4, a4⟩) | (go_at_call 89; (fail_if_success have := mk1); refine C1.mono ?_; clear C1; rintro e w3 ⟨⟨z1, rfl⟩, q3, a3⟩; have mk1 := trivial))
    go_ret2
    exact ⟨rfl, add_fin HA.out.1 HA.out.2 HN.out.1 HN.out.2 a3 q4 a4⟩
  · have b0 : decide (0 ≤ p) = false := by simpa using h0
    clear hp h0 hpn CH
    rcases hq with ⟨hm, rfl⟩ | ⟨hm, rfl⟩
    · skip
      go_enter Try.func88, Try.ntmps88
      go_wp2_with (first | (go_at_call 81; refine CN.mono ?_; rintro e w' ⟨rfl, rfl⟩) | (go_at_call 80; refine CH.mono ?_; rintro e w' ⟨rfl, rfl⟩) | (go_at_call 90; rw [← HW1.out]; refine CD.mono ?_; rintro e w' ⟨rfl, rfl⟩) | (refine wpList_store_mid rfl 116 (.tmp 64) (.tmp 63) rfl lb (x * 5) (newN (-1)).cs (by exact rfl) (by exact rfl) (by exact ht _ rfl) t1 t2 ?_; rw [putW_cells, ← HW2.out]; clear ht) | (go_at_call 89; (have := mk1); (have C2 := join_is q3 p x z HX.out.2 (.inr ⟨x, rfl, HX.out.1⟩) HD.out); refine C2.mono ?_; clear C2; rintro e w4 ⟨⟨z2, rfl⟩, q4, a4⟩) | (go_at_call 89; (fail_if_success have := mk1); refine C1.mono ?_; clear C1; rintro e w3 ⟨⟨z1, rfl⟩, q3, a3⟩; have mk1 := trivial))
      go_ret2
      exact ⟨rfl, add_fin HA.out.1 HA.out.2 HN.out.1 HN.out.2 a3 q4 a4⟩
    · skip
      go_enter Try.func88, Try.ntmps88
      go_wp2_with (first | (go_at_call 81; refine CN.mono ?_; rintro e w' ⟨rfl, rfl⟩) | (go_at_call 80; refine CH.mono ?_; rintro e w' ⟨rfl, rfl⟩) | (go_at_call 90; rw [← HW1.out]; refine CD.mono ?_; rintro e w' ⟨rfl, rfl⟩) | (refine wpList_store_mid rfl 116 (.tmp 64) (.tmp 63) rfl lb (x * 5) (newN q).cs (by exact rfl) (by exact rfl) (by exact ht _ rfl) t1 t2 ?_; rw [putW_cells, ← HW2.out]; clear ht) | (go_at_call 89; (have := mk1); (have C2 := join_is q3 q x z HX.out.2 (.inr ⟨x, rfl, HX.out.1⟩) HD.out); refine C2.mono ?_; clear C2; rintro e w4 ⟨⟨z2, rfl⟩, q4, a4⟩) | (go_at_call 89; (fail_if_success have := mk1); refine C1.mono ?_; clear C1; rintro e w3 ⟨⟨z1, rfl⟩, q3, a3⟩; have mk1 := trivial))
      go_ret2
      exact ⟨rfl, add_fin HA.out.1 HA.out.2 HN.out.1 HN.out.2 a3 q4 a4⟩
end Go.Proofs.Ytbknmfegckeogaa

/- Add of the program's forest, whole: what it answers and what the places are behind it. Condition: the places are a forest's. -/
namespace Go.Proofs.Ytbknmfegckeogaa
open Go.RowKit
set_option linter.unusedVariables false
set_option linter.unusedSimpArgs false

set_option maxRecDepth 100000 in
set_option maxHeartbeats 400000 in
theorem add_no {w : World} {f lb n lc : Nat} {R : Raw} {fv : Value} (h : PF w f lb n lc R fv) (p : Int) (h0 : 0 ≤ p) (hp : hasR n R p = false) :
    Calls Try.prog 88 #[.pointer (some ⟨f, 0, none⟩), .int .i64 p] w fun e w' => e = .returned (.tuple #[.int .i64 0, .int .i64 4]) ∧ w = w' := by
  have CN := nothing_is h
  have CH := has_is h p
  rw [hp] at CH
  have b0 : decide (0 ≤ p) = true := by simpa using h0
  clear h h0 hp
  go_enter Try.func88, Try.ntmps88
  go_wp2_with (first | (go_at_call 81; refine CN.mono ?_; rintro e w' ⟨rfl, rfl⟩) | (go_at_call 80; refine CH.mono ?_; rintro e w' ⟨rfl, rfl⟩))
  go_ret2
  exact ⟨rfl, rfl⟩

set_option maxRecDepth 100000 in
set_option maxHeartbeats 400000 in
theorem add_full {w : World} {f lb n lc : Nat} {R : Raw} {A : Option Addr} {c : Nat} (h : PF w f lb n lc R (.slice A 0 c)) (p : Int) (hp : 0 ≤ p → hasR n R p = true) :
    Calls Try.prog 88 #[.pointer (some ⟨f, 0, none⟩), .int .i64 p] w fun e w' => e = .returned (.tuple #[.int .i64 0, .int .i64 3]) ∧ w = w' := by
  have CN := nothing_is h
  have CH := has_is h p
  have d2 := h.cells.2.2.1
  clear h
  by_cases h0 : 0 ≤ p
  · rw [hp h0] at CH
    have b0 : decide (0 ≤ p) = true := by simpa using h0
    clear h0 hp
    go_enter Try.func88, Try.ntmps88
    go_wp2_with (first | (go_at_call 81; refine CN.mono ?_; rintro e w' ⟨rfl, rfl⟩) | (go_at_call 80; refine CH.mono ?_; rintro e w' ⟨rfl, rfl⟩))
    go_ret2
    exact ⟨rfl, rfl⟩
  · have b0 : decide (0 ≤ p) = false := by simpa using h0
    clear h0 hp CH
    go_enter Try.func88, Try.ntmps88
    go_wp2_with (go_at_call 81; refine CN.mono ?_; rintro e w' ⟨rfl, rfl⟩)
    go_ret2
    exact ⟨rfl, rfl⟩

theorem join_neg (R : Raw) {p : Int} (hp : p < 0) (a b : Int) : R.join p a b = R.join (-1) a b := by simp [Raw.join, Raw.setHead, hp]
theorem head_neg (R : Raw) {p : Int} (hp : p < 0) : R.head p = R.head (-1) := by simp [Raw.head, hp]
theorem hd_in {n : Nat} {l : List Nat} (h : ∀ i ∈ l, i < n) : inF n (hd l) := by
  rcases l with _ | ⟨x, l⟩
  · exact .inl rfl
  · exact .inr ⟨x, rfl, h x (by simp)⟩
/-- Who is asked to be the parent. -/
def norm (p : Int) : Int := if p < 0 then -1 else p
theorem nats_app (a b : List Nat) : nats (a ++ b) = nats a ++ nats b := by simp [nats]

theorem add_is {w : World} {f lb lc : Nat} {R : Raw} {v : Value} {F : Fo} (h : PS w f lb F.n lc R v (nats F.free)) (hR : Rep R F) (hF : WF F) {x : Nat} (hx : F.free.getLast? = some x) (p : Int) (hp : 0 ≤ p → F.has p = true) :
    Calls Try.prog 88 #[.pointer (some ⟨f, 0, none⟩), .int .i64 p] w fun e w' => e = .returned (.tuple #[.int .i64 x, .int .i64 0]) ∧ ∃ R' v', PS w' f lb F.n lc R' v' (nats (F.add (norm p) x).free) ∧ Rep R' (F.add (norm p) x) ∧ Fresh w v v' ∧ Apart (own3 f lb v) w w' := by
  have hfree := last_split hx
  obtain ⟨hxn, hxt⟩ := (hF.fr x).1 (last_mem hx)
  have hok : F.ok (norm p) := by
    unfold norm
    by_cases h0 : p < 0
    · rw [if_pos h0]; exact .inl rfl
    · rw [if_neg h0]
      obtain ⟨j, rfl, hj⟩ := has_nat (hp (by omega))
      exact .inr ⟨j, rfl, hj⟩
  have hpn : p < (F.n : Int) := by
    by_cases h0 : p < 0
    · omega
    · obtain ⟨j, rfl, hj⟩ := has_nat (hp (by omega))
      have := hF.lt j hj
      omega
  have hhead : R.head p = R.head (norm p) := by
    unfold norm
    by_cases h0 : p < 0
    · rw [if_pos h0, head_neg R h0]
    · rw [if_neg h0]
  have hjoin : ∀ (S : Raw) (a b : Int), S.join p a b = S.join (norm p) a b := by
    intro S a b
    unfold norm
    by_cases h0 : p < 0
    · rw [if_pos h0, join_neg S h0]
    · rw [if_neg h0]
  have hd1 : inF F.n (R.head p) := by
    rw [hhead, hR.head hF hok]
    exact hd_in fun i hi => hF.lt i ((hF.kin _ _).1 hi).1
  have hlen : F.free.length ≤ F.n := nodup_le _ _ hF.fnd fun i hi => ((hF.fr i).1 hi).1
  have hn2 := h.pf.n2
  rw [hfree, nats_app] at h
  have hl : (nats F.free.dropLast).length < 4096 := by
    rw [nats_len, List.length_dropLast]
    have : 0 < F.free.length := List.length_pos_of_mem (last_mem hx)
    omega
  have hq : (p < -1 ∧ norm p = -1) ∨ (¬ p < -1 ∧ norm p = p) := by
    unfold norm
    by_cases h0 : p < -1
    · exact .inl ⟨h0, if_pos (by omega)⟩
    · refine .inr ⟨h0, ?_⟩
      by_cases h1 : p < 0
      · rw [if_pos h1]; omega
      · rw [if_neg h1]
  refine (add_ok h hxn hl p (norm p) hq (fun h0 => by rw [has_rep hR hF]; exact hp h0) hpn hd1).mono ?_
  rintro e w' ⟨rfl, v', h', hfr, ha⟩
  rw [hjoin, hjoin, hhead] at h'
  exact ⟨rfl, _, v', h', rep_add hR hF hok hx, hfr, ha⟩
end Go.Proofs.Ytbknmfegckeogaa

/- Drop's loop over the children, a child at a time: plain. No program in sight. -/
namespace Go.Proofs.Ytbknmfegckeogaa
set_option linter.unusedVariables false
set_option linter.unusedSimpArgs false

theorem dropL_snoc (p : Int) : ∀ (a : List Nat) (R : Raw) (last : Int) (c : Nat), dropL p R last (a ++ [c]) = ((dropL p R last a).setU c p).join p (lastOr last a) (c : Int)
  | [], R, last, c => rfl
  | x :: a, R, last, c => by
    rw [List.cons_append, dropL, dropL_snoc p a]
    rfl
/-- Behind a child's round its own link onward is as it was. -/
theorem dropL_next (p : Int) (hp : p = -1 ∨ 0 ≤ p) (a b : List Nat) (c : Nat) (R : Raw) (last : Int) (hl : last = -1 ∨ 0 ≤ last) (h1 : ∀ i ∈ a ++ c :: b, (i : Int) ≠ last) (h2 : ∀ i ∈ a ++ c :: b, (i : Int) ≠ p) (hn : (a ++ c :: b).Nodup) :
    ((dropL p R last (a ++ [c])).M c).r = (R.M c).r := by
  have hca : c ∉ a := fun hm => (List.nodup_append.1 hn).2.2 c hm c (by simp) rfl
  have hsub : ∀ i ∈ a ++ [c], i ∈ a ++ c :: b := by
    intro i hi
    simp at hi ⊢
    rcases hi with h | h
    · exact .inl h
    · exact .inr (.inl h)
  have hn' : (a ++ [c]).Nodup := by
    rw [show a ++ c :: b = (a ++ [c]) ++ b by simp] at hn
    exact (List.nodup_append.1 hn).1
  rw [dropL_at p hp (a ++ [c]) R last c hl (fun i hi => h1 i (hsub i hi)) (fun i hi => h2 i (hsub i hi)) hn', if_pos (by simp)]
  have hx : nxt c (a ++ [c]) = -1 := by rw [nxt_at [] hca]; rfl
  simp [hx]
/-- Ahead of a child's round its place is as it was. -/
theorem dropL_ahead (p : Int) (hp : p = -1 ∨ 0 ≤ p) (a b : List Nat) (c : Nat) (R : Raw) (last : Int) (hl : last = -1 ∨ 0 ≤ last) (h1 : ∀ i ∈ a ++ c :: b, (i : Int) ≠ last) (h2 : ∀ i ∈ a ++ c :: b, (i : Int) ≠ p) (hn : (a ++ c :: b).Nodup) :
    (dropL p R last a).M c = R.M c := by
  have hca : c ∉ a := fun hm => (List.nodup_append.1 hn).2.2 c hm c (by simp) rfl
  have hn' : a.Nodup := (List.nodup_append.1 hn).1
  have e1 := h1 c (by simp)
  have e2 := h2 c (by simp)
  rw [dropL_at p hp a R last c hl (fun i hi => h1 i (by simp [hi])) (fun i hi => h2 i (by simp [hi])) hn', if_neg hca]
  simp [e1, e2]
end Go.Proofs.Ytbknmfegckeogaa

/- Drop of the program's forest, by a walk. Condition: the places are a forest's. -/
namespace Go.Proofs.Ytbknmfegckeogaa
open Go.RowKit
set_option linter.unusedVariables false
set_option linter.unusedSimpArgs false

set_option maxRecDepth 100000 in
set_option maxHeartbeats 400000 in
theorem drop_no {w : World} {f lb n lc : Nat} {R : Raw} {fv : Value} (h : PF w f lb n lc R fv) (x : Int) (hx : hasR n R x = false) :
    Calls Try.prog 76 #[.pointer (some ⟨f, 0, none⟩), .int .i64 x] w fun e w' => e = .returned (.int .i64 4) ∧ w = w' := by
  have CK := check_is h x
  rw [hx] at CK
  clear h hx
  go_enter Try.func76, Try.ntmps76
  go_wp2_with (go_at_call 85; refine CK.mono ?_; rintro e w' ⟨rfl, rfl⟩)
  go_ret
  exact ⟨rfl, rfl⟩

/-- The world at the head of Drop's loop. -/
def DropAt (w : World) (f lb n lc : Nat) (fv : Value) (R : Raw) (y : Nd) (K : List Nat) (l c : Value) (wr : World) : Prop :=
  ∃ a b : List Nat, K = a ++ b ∧ c = .int .i64 (hd b) ∧ l = .int .i64 (lastOr y.l a) ∧ PF wr f lb n lc (dropL y.u R y.l a) fv ∧ Apart (own2 f lb) w wr ∧ Blk wr w.heap.size 116 y.cs

theorem own2_3 {f lb k : Nat} {v : Value} (h : own2 f lb k) : own3 f lb v k := by
  rcases h with h | h
  · exact .inl h
  · exact .inr (.inl h)
theorem drop_ps {w w4 : World} {f lb n lc : Nat} {R R' : Raw} {v : Value} {L : List Int} (h : PS w f lb n lc R v L) (ha : Apart (own2 f lb) w w4) (q : PF w4 f lb n lc R' v) : PS w4 f lb n lc R' v L :=
  ⟨q, h.cut.apart ha (fun k hk hs => by
    rcases hs with e | e
    · exact h.nf (by rw [hk, e])
    · exact h.nl (by rw [hk, e])), h.nf, h.nl⟩
/-- How many are still to come. -/
def restV (K : List Nat) (v : Value) : Nat := match v with | .int _ z => if z < 0 then 0 else K.length - K.idxOf z.toNat | _ => 0
theorem restV_hd {K a b : List Nat} (h : K = a ++ b) (hn : K.Nodup) : restV K (.int .i64 (hd b)) = b.length := by
  rcases b with _ | ⟨x, b⟩
  · simp [restV, hd]
  · subst h
    have hx : x ∉ a := fun hm => (List.nodup_append.1 hn).2.2 x hm x (by simp) rfl
    have h0 : ¬ ((x : Nat) : Int) < 0 := by omega
    have hi : (a ++ x :: b).idxOf x = a.length := by rw [List.idxOf_append, if_neg hx, List.idxOf_cons_self]; omega
    simp only [restV, hd_cons, h0, if_false, Int.toNat_natCast, hi, List.length_append, List.length_cons]
    omega

set_option maxRecDepth 100000 in
set_option maxHeartbeats 4000000 in
theorem drop_loop {w : World} {f lb n lc : Nat} {R : Raw} {v : Value} {L : List Int} (h : PS w f lb n lc R v L) (x : Nat) (hx : x < n) (K : List Nat) (hL : L.length ≤ 4096) (y : Nd) (hy : R.M x = y) (ht : y.t = true)
    (hd0 : y.d = hd K) (hK : ∀ i ∈ K, i < n) (hp : y.u = -1 ∨ (0 ≤ y.u ∧ y.u < (n : Int))) (hl : y.l = -1 ∨ (0 ≤ y.l ∧ y.l < (n : Int))) (hr : inF n y.r)
    (h1 : ∀ i ∈ K, (i : Int) ≠ y.l) (h2 : ∀ i ∈ K, (i : Int) ≠ y.u) (hn : K.Nodup) (hlk : ∀ a i b, K = a ++ i :: b → (R.M i).r = hd b) :
    Calls Try.prog 76 #[.pointer (some ⟨f, 0, none⟩), .int .i64 x] w fun e w' => e = .returned (.int .i64 0) ∧ ∃ v', PS w' f lb n lc (((dropL y.u R y.l K).join y.u (lastOr y.l K) y.r).put x Nd.zero) v' (L ++ [(x : Int)]) ∧ Fresh w v v' ∧ Apart (own3 f lb v) w w' := by
  have CK := check_is h.pf x
  have hh : hasR n R (x : Int) = true := by simp [hasR, hx, hy, ht]
  rw [hh] at CK
  have hpf := h.pf
  have hn2 := hpf.n2
  have d0 := hpf.cells.1
  obtain ⟨c0, c1, c2, c3, c4⟩ := hpf.at_ x hx
  rw [hy] at c0 c1 c2 c3 c4
  rw [hd0] at c2
  have hb0 : Below w.heap.size w (w.alloc (.cells y.cs 116)) := (Below.refl _ w).alloc (Nat.le_refl _) _
  have HI := Lib.hid (And.intro (hpf.below hb0) (And.intro (Blk.new w 116 y.cs) ((Apart.refl (own2 f lb) w).alloc (.cells y.cs 116))))
  have HPS := Lib.hid h
  obtain ⟨yt, yu, yd, yl, yr⟩ := y
  simp only at ht hd0 hp hl hr h1 h2 c0 c1 c2 c3 c4 HI ⊢
  subst ht hd0
  have HY := Lib.hid hy
  have HLK := Lib.hid hlk
  have HN := Lib.hid (And.intro h1 (And.intro h2 hn))
  have HP := Lib.hid hp
  have HL := Lib.hid hl
  have HR := Lib.hid hr
  have HK := Lib.hid hK
  clear h hh hpf hb0 hy hlk h1 h2 hn hp hl hr hK
  go_enter Try.func76, Try.ntmps76
  go_wp2_with (go_at_call 85; refine CK.mono ?_; rintro e w' ⟨rfl, rfl⟩)
  go_loopw [7, 8] (fun l c wr => DropAt w f lb n lc v R ⟨true, yu, hd K, yl, yr⟩ K l c wr) (fun _ c _ => restV K c)
  case atStart => exact ⟨[], K, rfl, rfl, rfl, HI.out.1, HI.out.2.2, HI.out.2.1⟩
  case round =>
    obtain ⟨a, b, hab, rfl, rfl, hP, hA, hB⟩ := hrel
    simp only at hP hB ⊢
    have b1 := hB.cell 1
    have b4 := hB.cell 4
    simp only [Nd.cs, List.getElem?_toArray, List.getElem?_cons_zero, List.getElem?_cons_succ] at b1 b4
    have e0 := hP.cells.1
    have HAB := Lib.hid hab
    have HA := Lib.hid hA
    have HB := Lib.hid hB
    have HPP := Lib.hid hP
    have hlast : inF n (lastOr yl a) := by
      rcases lastOr_cases a with rfl | ⟨z, hz, hh⟩
      · rcases HL.out with e | ⟨e1, e2⟩
        · exact .inl e
        · exact .inr ⟨yl.toNat, by simp only [lastOr]; omega, by omega⟩
      · exact .inr ⟨z, hh _, HK.out z (by rw [hab]; simp [hz])⟩
    have HLA := Lib.hid hlast
    have hpn : yu < (n : Int) := by rcases HP.out with e | e <;> omega
    obtain ⟨la, hla⟩ : ∃ la, la = lastOr yl a := ⟨_, rfl⟩
    rw [← hla]
    have HLL := Lib.hid hla
    clear hab hA hB hP hlast hla
    rcases b with _ | ⟨c, b⟩
    · have hKa : K = a := by rw [HAB.out]; simp
      subst hKa
      rw [show hd ([] : List Nat) = -1 from rfl]
      have CJ := join_is HPP.out yu la yr hpn (by rw [HLL.out]; exact HLA.out) HR.out
      go_wp2_with (first | (go_at_call 89; refine CJ.mono ?_; rintro e w4 ⟨⟨z2, rfl⟩, q4, a4⟩; clear e0 b1 b4; (have HQ4 := Lib.hid q4); (have HA4 := Lib.hid a4); clear q4 a4) | (go_at_call 86; refine (gone_is (drop_ps HPS.out (HA.out.trans HA4.out (fun k _ hk => hk)) HQ4.out) x hx hL).mono ?_; rintro e w5 ⟨⟨z3, rfl⟩, v5, h5, f5, a5⟩; (have HF5 := Lib.hid (And.intro h5 (And.intro f5 a5))); clear h5 f5 a5))
      go_ret
      obtain ⟨h5, f5, a5⟩ := HF5.out
      rw [HLL.out] at h5
      have hat := HA.out.trans HA4.out (fun k _ hk => hk)
      exact ⟨rfl, v5, h5, fun r hr => (f5 r hr).imp id (fun e => Nat.le_trans hat.size e), (hat.mono (fun k hk => own2_3 hk)).trans a5 (fun k _ hk => hk)⟩
    · have hcK : c ∈ K := by rw [HAB.out]; simp
      have hcn := HK.out c hcK
      rw [show hd (c :: b) = (c : Int) from rfl]
      have hb1 : ((c : Int) != -1) = true := by simp
      have hsnoc := dropL_snoc yu a R yl c
      rw [← HLL.out] at hsnoc
      have hnext := dropL_next yu (by rcases HP.out with e | e; exact .inl e; exact .inr e.1) a b c R yl (by rcases HL.out with e | e; exact .inl e; exact .inr e.1) (fun i hi => HN.out.1 i (by rw [HAB.out]; exact hi)) (fun i hi => HN.out.2.1 i (by rw [HAB.out]; exact hi)) (by rw [← HAB.out]; exact HN.out.2.2)
      rw [HLK.out a c b HAB.out] at hnext
      have HSN := Lib.hid (And.intro hsnoc hnext)
      have hm1 := restV_hd HAB.out HN.out.2.2
      have hAB2 : K = (a ++ [c]) ++ b := by rw [HAB.out]; simp
      have hm2 := restV_hd hAB2 HN.out.2.2
      have HM := Lib.hid (And.intro hm1 (And.intro hm2 hAB2))
      have hwf : ¬ own2 f lb w.heap.size := fun e => by
        rcases e with e | e
        · have := HPS.out.pf.head.lt; omega
        · have := HPS.out.pf.lt; omega
      have HWF := Lib.hid hwf
      have hlr : lb ≠ w.heap.size := fun e => hwf (.inr e.symm)
      clear hsnoc hnext hm1 hm2 hAB2 hwf
      go_wp2_with fail
      go_still_tail 9, (by kernel_rfl)
      change wpList _ _ _ _ _ wr.drew
      have p2 : PF wr.drew f lb n lc (dropL yu R yl a) v := HPP.out.keep rfl rfl (Nat.le_refl _)
      have B2 : Blk wr.drew w.heap.size 116 _ := HB.out.drew
      have A2 : Apart (own2 f lb) w wr.drew := HA.out.drew
      clear e0 b1 b4 HPP HB HA
      generalize wr.drew = w2 at *
      have b1 := B2.cell 1
      simp only [Nd.cs, List.getElem?_toArray, List.getElem?_cons_zero, List.getElem?_cons_succ] at b1
      have e0 := p2.cells.1
      have f2 := p2.fr (c * 5 + 1)
      have u2 := (p2.at_ c hcn).c1
      have p3 := p2.setU c hcn yu
      have CJ := join_is p3 yu la c hpn (by rw [HLL.out]; exact HLA.out) (.inr ⟨c, rfl, hcn⟩)
      have A3 : Apart (own2 f lb) w (w2.setCell ⟨lb, c * 5 + 1, none⟩ (.int .i64 yu)) := A2.setCell (p := ⟨lb, c * 5 + 1, none⟩) (.inl (.inr rfl)) _
      have B3 : Blk (w2.setCell ⟨lb, c * 5 + 1, none⟩ (.int .i64 yu)) w.heap.size 116 _ := B2.far (p := ⟨lb, c * 5 + 1, none⟩) (fun e => hlr e.symm) (.int .i64 yu)
      have b1' := B3.cell 1
      simp only [Nd.cs, List.getElem?_toArray, List.getElem?_cons_zero, List.getElem?_cons_succ] at b1'
      have HH := Lib.hid (And.intro A3 B3)
      clear p2 B2 A2 p3 A3 B3
      go_wp2_with (go_at_call 89; refine CJ.mono ?_; rintro e w4 ⟨⟨z2, rfl⟩, q4, a4⟩; clear e0 b1 b1' u2 f2; rw [← HSN.out.1] at q4; (have e0 := q4.cells.1); (have e4 := (q4.at_ c hcn).c4); rw [HSN.out.2] at e4; (have HQ4 := Lib.hid q4); (have HA4 := Lib.hid a4); clear q4 a4)
      go_roundw
      case rel =>
        refine ⟨a ++ [c], b, HM.out.2.2, rfl, by simp only [lastOr_snoc], HQ4.out, HH.out.1.trans HA4.out (fun k _ hk => hk), (HA4.out.block _ ?_ HWF.out).trans HH.out.2⟩
        exact HH.out.2.lt
      case measure => first | (rw [show Value.int .i64 (c : Int) = .int .i64 (hd (c :: b)) from rfl, HM.out.1, HM.out.2.1]; simp) | (simp only [HM.out.2.1]; have := HM.out.1; simp [hd_cons] at this; omega)
end Go.Proofs.Ytbknmfegckeogaa

/- Descendants of the program's forest, by a walk: in preorder. Condition: the places are a forest's. -/
namespace Go.Proofs.Ytbknmfegckeogaa
open Go.RowKit
set_option linter.unusedVariables false
set_option linter.unusedSimpArgs false

/-- The descendants, on memory of the call's own. -/
def DescPost (w : World) (ds : List Nat) (e : Ending) (w' : World) : Prop :=
  (∃ A cap, e = .returned (.slice A ds.length cap) ∧ w'.ownsRow w.heap.size 3 1 (.slice A ds.length cap) ds.length (intV (nats ds))) ∧ Below w.heap.size w w'
/-- Where the walk stands. -/
def DescAt (F : Fo) (x : Nat) (ds : List Nat) (w : World) (v o : Value) (wr : World) : Prop :=
  ∃ (i : Nat) (a t : List Nat), ds = a ++ t ∧ v = .int .i64 i ∧ At F x i t ∧ wr.ownsRow w.heap.size 3 1 o a.length (intV (nats a)) ∧ Below w.heap.size w wr
theorem desc_len {F : Fo} (hF : WF F) {x : Nat} {ds : List Nat} (hd : Flat F (F.kids (x : Int)) ds) : ds.length ≤ F.n :=
  nodup_le _ _ (hd.nodup hF (x : Int) (fun _ hh => hh) (hF.nd _)) fun i hi => hF.lt i ((desc_mem hF hd i).1 hi).there

set_option maxRecDepth 100000 in
set_option maxHeartbeats 4000000 in
theorem desc_is {w : World} {f lb lc : Nat} {R : Raw} {fv : Value} {F : Fo} (h : PF w f lb F.n lc R fv) (hR : Rep R F) (hF : WF F) (x : Nat) (hx : F.there x = true) {ds : List Nat} (hfl : Flat F (F.kids (x : Int)) ds) :
    Calls Try.prog 60 #[.pointer (some ⟨f, 0, none⟩), .int .i64 x] w (DescPost w ds) := by
  obtain ⟨i0, hi0, hz0, hz1, hz2⟩ := info_parts infoInt
  have CX := has_is h x
  rw [has_rep hR hF, show F.has (x : Int) = true by simp [Fo.has, hx]] at CX
  obtain ⟨ht, hht⟩ := hF.ht
  obtain ⟨H, hH⟩ := bounded ht F.n
  have hn2 := h.n2
  have hl := desc_len hF hfl
  have hcell : ∀ (W : World), Below w.heap.size w W → W.cell? ⟨f, 0, none⟩ = some (.slice (some ⟨lb, 0, none⟩) F.n lc) ∧ ∀ i, F.there i = true → i < F.n ∧ W.cell? ⟨lb, i * 5 + 1, none⟩ = some (.int .i64 (F.par i)) ∧ W.cell? ⟨lb, i * 5 + 2, none⟩ = some (.int .i64 (hd (F.kids (i : Int)))) ∧ W.cell? ⟨lb, i * 5 + 4, none⟩ = some (.int .i64 (nxt i (F.kids (F.par i)))) := by
    intro W hW
    have hP := h.below hW
    refine ⟨hP.cells.1, fun i hi => ?_⟩
    have hin := hF.lt i hi
    have hq := hP.at_ i hin
    rw [hR.at_ i hin] at hq
    have e : F.nod i = ⟨true, F.par i, hd (F.kids (i : Int)), prv i (F.kids (F.par i)), nxt i (F.kids (F.par i))⟩ := by simp [Fo.nod, hi]
    rw [e] at hq
    exact ⟨hin, hq.c1, hq.c2, hq.c4⟩
  have HC := Lib.hid hcell
  have HF := Lib.hid hF
  have hst := at_start hx hfl
  have HS := Lib.hid hst
  have HHT := Lib.hid hht
  have HHH := Lib.hid hH
  have hxt : F.there x = true := hx
  have HX := Lib.hid hxt
  clear h hR hcell hF hst hfl hht hH hx hxt
  go_enter Try.func60, Try.ntmps60
  go_wp2_with fail
  go_step3
  go_wp2_with (go_at_call 80; refine CX.mono ?_; rintro e w' ⟨rfl, rfl⟩)
  go_step3
  go_wp2
  go_loopw [5, 4] (fun v o wr => DescAt F x ds w v o wr) (fun _ o _ => match o with | .slice _ k _ => ds.length - k | _ => 0)
  case atStart => exact ⟨x, [], ds, rfl, rfl, HS.out, World.ownsRow_nil _ _ _ _, Below.refl _ _⟩
  case round =>
    obtain ⟨i, a, t, hat, rfl, hA, hown, hbr⟩ := hrel
    obtain ⟨A, cap, rfl⟩ := own_slice hown
    obtain ⟨c0, hcs⟩ := HC.out wr hbr
    obtain ⟨hin, c1, c2, c4⟩ := hcs i hA.1
    have HCS := Lib.hid hcs
    have hlen : a.length ≤ ds.length := by rw [hat]; simp
    have HAT := Lib.hid hat
    have HAA := Lib.hid hA
    have HO := Lib.hid hown
    have HB := Lib.hid hbr
    have hcase : F.kids (i : Int) = [] ∨ ∃ k s, F.kids (i : Int) = k :: s := by
      cases F.kids (i : Int) with
      | nil => exact .inl rfl
      | cons k s => exact .inr ⟨k, s, rfl⟩
    clear hcs hat hA hown hbr
    rcases hcase with hk | ⟨k, s, hk⟩
    · have hAf := at_leaf HAA.out hk
      rw [hk] at c2
      have HAF := Lib.hid hAf
      clear hAf hk
      rw [show hd ([] : List Nat) = -1 from rfl] at c2
      have hit := HAA.out.1
      have HIT := Lib.hid hit
      clear hit
      go_wp2_with fail
      clear c0 c1 c2 c4
      go_loopw [5] (fun v wv => ∃ j : Nat, v = .int .i64 j ∧ F.there j = true ∧ After F x j t ∧ wv = wr) (fun v _ => climbs ht H v)
      case atStart => exact ⟨i, rfl, HIT.out, HAF.out, rfl⟩
      case round =>
        obtain ⟨j, rfl, hj, hAj, rfl⟩ := hrel
        obtain ⟨hjn, d1, d2, d4⟩ := HCS.out j hj
        obtain ⟨d0, -⟩ := HC.out _ HB.out
        have HJ := Lib.hid hj
        have HAJ := Lib.hid hAj
        clear hj hAj
        by_cases hjx : j = x
        · subst hjx
          have ht0 := after_top HAJ.out
          have hds : ds = a := by rw [HAT.out, ht0]; simp
          have HDS := Lib.hid hds
          clear ht0 hds d0 d1 d2 d4
          go_wp2_with fail
          try rw [Exit.noGoto_ret]
          go_ret
          refine ⟨⟨A, cap, by rw [HDS.out]; rfl, by rw [HDS.out]; exact HO.out⟩, HB.out⟩
        · by_cases hnx : nxt j (F.kids (F.par j)) = -1
          · obtain ⟨q, hq1, -, hqt, hqA⟩ := after_up HF.out HAJ.out hjx hnx
            rw [hnx] at d4
            rw [hq1] at d1
            have hjx' : ¬ (j : Int) = (x : Int) := by omega
            have HQ := Lib.hid (And.intro hq1 (And.intro hqt hqA))
            clear hq1 hqt hqA hnx hjx
            go_wp2_with fail
            go_roundw
            case rel => exact ⟨q, rfl, HQ.out.2.1, HQ.out.2.2, trivial⟩
            case measure =>
              have h1 := HHT.out j q HJ.out HQ.out.1
              have h2 := HHH.out q (HC.out _ HB.out |>.2 q HQ.out.2.1).1
              have h3 := HHH.out j hjn
              have k1 : ¬ ((j : Nat) : Int) < 0 := by omega
              have k2 : ¬ ((q : Nat) : Int) < 0 := by omega
              simp only [climbs, k1, k2, if_false, Int.toNat_natCast]
              omega
          · obtain ⟨k, t', hk1, ht', hkA⟩ := after_next' HF.out HAJ.out hjx hnx
            rw [hk1] at d4
            have hjx' : ¬ (j : Int) = (x : Int) := by omega
            have hjx2 : ((j : Int) == (x : Int)) = false := by simpa using hjx'
            have hjx3 : ((j : Int) != (x : Int)) = true := by simpa using hjx'
            have hk0 : ((k : Int) == -1) = false := by simp
            have hab' : ds = (a ++ [k]) ++ t' := by rw [HAT.out, ht']; simp
            have hlen2 : a.length + 1 ≤ ds.length := by rw [hab']; simp
            have HAB := Lib.hid hab'
            have HA' := Lib.hid hkA
            have HRD := Lib.hid (reads_one_ wr k)
            have m1 := Lib.hid (show a.length + 1 ≤ maxLen from by unfold maxLen; omega)
            have m2 := Lib.hid (show (a.length + 1) * 8 ≤ 140737488355328 from by omega)
            clear hab' hkA ht' hk1 hnx hjx
            go_wp2_with (at_builtin; refine wpList_append_any _ rfl (.tmp 65) (.tmp 67) 99 rfl w.heap.size 3 i0 (.int .i64 0) 1 8 Try.underlying99 hi0 hz0 hz1 hz2 rfl (by decide) (.slice A a.length cap) a.length (intV (nats a)) rfl (HO.out.alloc _) (wr.heap.size + 1) (some ⟨wr.heap.size, 0, none⟩) 1 1 [.int .i64 k] rfl HRD.out (by simp [Value.oneCell']) m1.out m2.out (by have := HB.out.size; simp; omega) ?_; intro v' w7 hown' hgrow hat; (have HB7 := Lib.hid (show Below w.heap.size w w7 from (HB.out.alloc HB.out.size _).grown hgrow (by have := HB.out.size; simp; omega) (fun j e => ((HO.out.alloc (.cells #[.int .i64 k] 3)).lt j e).1))); clear hgrow hat d0 d1 d2 d4)
            obtain ⟨A7, c7, rfl⟩ := own_slice hown'
            go_roundw
            case rel => exact ⟨k, a ++ [k], t', HAB.out, rfl, HA'.out, by rw [nats_snoc, intV_app, List.length_append]; exact hown', HB7.out⟩
            case measure => simp; omega
    · obtain ⟨t', ht', hA'⟩ := at_down' HF.out HAA.out hk
      rw [hk] at c2
      rw [show hd (k :: s) = (k : Int) from rfl] at c2
      have hab' : ds = (a ++ [k]) ++ t' := by rw [HAT.out, ht']; simp
      have hlen2 : a.length + 1 ≤ ds.length := by rw [hab']; simp
      have HAB := Lib.hid hab'
      have HA' := Lib.hid hA'
      have HRD := Lib.hid (reads_one_ wr k)
      have m1 := Lib.hid (show a.length + 1 ≤ maxLen from by unfold maxLen; omega)
      have m2 := Lib.hid (show (a.length + 1) * 8 ≤ 140737488355328 from by omega)
      clear hab' hA' ht' hk
      go_wp2_with (at_builtin; refine wpList_append_any _ rfl (.tmp 28) (.tmp 30) 99 rfl w.heap.size 3 i0 (.int .i64 0) 1 8 Try.underlying99 hi0 hz0 hz1 hz2 rfl (by decide) (.slice A a.length cap) a.length (intV (nats a)) rfl (HO.out.alloc _) (wr.heap.size + 1) (some ⟨wr.heap.size, 0, none⟩) 1 1 [.int .i64 k] rfl HRD.out (by simp [Value.oneCell']) m1.out m2.out (by have := HB.out.size; simp; omega) ?_; intro v' w7 hown' hgrow hat; (have HB7 := Lib.hid (show Below w.heap.size w w7 from (HB.out.alloc HB.out.size _).grown hgrow (by have := HB.out.size; simp; omega) (fun j e => ((HO.out.alloc (.cells #[.int .i64 k] 3)).lt j e).1))); clear hgrow hat c0 c1 c2 c4)
      obtain ⟨A7, c7, rfl⟩ := own_slice hown'
      go_roundw
      case rel => exact ⟨k, a ++ [k], t', HAB.out, rfl, HA'.out, by rw [nats_snoc, intV_app, List.length_append]; exact hown', HB7.out⟩
      case measure => simp; omega
end Go.Proofs.Ytbknmfegckeogaa

/- The reference's forest in memory; what becomes of it by stores. No program walked. -/
namespace Go.Proofs.Ytbknmfegckeogaa
open Go.RowKit
set_option linter.unusedVariables false

/-- A place of the reference: its row of children lies at A with room c. -/
structure Qd where
  t : Bool
  p : Int
  A : Option Addr
  c : Nat
  K : List Nat
  fr : Int
/-- A row that is never written to: where it lies, its room, its numbers. -/
structure Rw where
  A : Option Addr
  c : Nat
  K : List Nat
def Rw.v (x : Rw) : Value := .slice x.A x.K.length x.c
def Qd.row (x : Qd) : Rw := ⟨x.A, x.c, x.K⟩
def Rw.blk (x : Rw) (k : Nat) : Prop := x.v.ownBlock = some k

structure QAt (w : World) (g o : Nat) (x : Qd) : Prop where
  c0 : w.cell? ⟨g, o, none⟩ = some (.bool x.t)
  c1 : w.cell? ⟨g, o + 1, none⟩ = some (.int .i64 x.p)
  c2 : w.cell? ⟨g, o + 2, none⟩ = some x.row.v
  c3 : w.cell? ⟨g, o + 3, none⟩ = some (.int .i64 x.fr)
theorem QAt.block {w w' : World} {g o : Nat} {x : Qd} (h : QAt w g o x) (hb : w'.heap[g]? = w.heap[g]?) : QAt w' g o x :=
  ⟨(World.cell?_of_block (w := w) (a := ⟨g, o, none⟩) hb).trans h.c0, (World.cell?_of_block (w := w) (a := ⟨g, o + 1, none⟩) hb).trans h.c1, (World.cell?_of_block (w := w) (a := ⟨g, o + 2, none⟩) hb).trans h.c2, (World.cell?_of_block (w := w) (a := ⟨g, o + 3, none⟩) hb).trans h.c3⟩
theorem QAt.other {w : World} {g i k : Nat} {x : Qd} (h : QAt w g (i * 4) x) (j : Nat) (hj : j < 4) (hik : i ≠ k) (u : Value) : QAt (w.setCell ⟨g, k * 4 + j, none⟩ u) g (i * 4) x :=
  ⟨(cell_off w g _ _ u (by omega)).trans h.c0, (cell_off w g _ _ u (by omega)).trans h.c1, (cell_off w g _ _ u (by omega)).trans h.c2, (cell_off w g _ _ u (by omega)).trans h.c3⟩
theorem QAt.setP {w : World} {g o : Nat} {x : Qd} (h : QAt w g o x) (v : Int) : QAt (w.setCell ⟨g, o + 1, none⟩ (.int .i64 v)) g o { x with p := v } :=
  ⟨(cell_off w g _ _ _ (by omega)).trans h.c0, World.cell?_setCell_same _ _ _ h.c1, (cell_off w g _ _ _ (by omega)).trans h.c2, (cell_off w g _ _ _ (by omega)).trans h.c3⟩
theorem QAt.setK {w : World} {g o : Nat} {x : Qd} (h : QAt w g o x) (r : Rw) : QAt (w.setCell ⟨g, o + 2, none⟩ r.v) g o { x with A := r.A, c := r.c, K := r.K } :=
  ⟨(cell_off w g _ _ _ (by omega)).trans h.c0, (cell_off w g _ _ _ (by omega)).trans h.c1, World.cell?_setCell_same _ _ _ h.c2, (cell_off w g _ _ _ (by omega)).trans h.c3⟩

/-- All places of the reference, its roots, how many were freed. -/
structure Qw where
  M : Nat → Qd
  rt : Rw
  T : Int
def setQ (M : Nat → Qd) (i : Nat) (x : Qd) : Nat → Qd := fun k => if k = i then x else M k
def Qw.put (Q : Qw) (a : Nat) (x : Qd) : Qw := { Q with M := setQ Q.M a x }
def Qw.setP (Q : Qw) (a : Nat) (v : Int) : Qw := Q.put a { Q.M a with p := v }
def Qw.setK (Q : Qw) (a : Nat) (r : Rw) : Qw := Q.put a { Q.M a with A := r.A, c := r.c, K := r.K }
def Qw.row (Q : Qw) (p : Int) : Rw := if p < 0 then Q.rt else (Q.M p.toNat).row
def Qw.setRow (Q : Qw) (p : Int) (r : Rw) : Qw := if p < 0 then { Q with rt := r } else Q.setK p.toNat r
/-- The rows' blocks. -/
def Qw.blk (Q : Qw) (n : Nat) (k : Nat) : Prop := Q.rt.blk k ∨ ∃ i, i < n ∧ (Q.M i).row.blk k

section
variable {w w' : World} {g qb n lc : Nat} {Q : Qw}
/-- The blocks of the reference. -/
def qfoot (g qb n : Nat) (Q : Qw) (k : Nat) : Prop := own2 g qb k ∨ Q.blk n k
theorem blk_put {Q : Qw} {n a : Nat} {x : Qd} {k : Nat} (h : (Q.put a x).blk n k) : Q.blk n k ∨ x.row.blk k := by
  rcases h with h | ⟨i, hi, h⟩
  · exact .inl (.inl h)
  · simp only [Qw.put, setQ] at h
    by_cases e : i = a
    · rw [if_pos e] at h
      exact .inr h
    · rw [if_neg e] at h
      exact .inl (.inr ⟨i, hi, h⟩)
end

/-- A place written whole. -/
def putQ (w : World) (g o : Nat) (x : Qd) : World :=
  (((w.setCell ⟨g, o, none⟩ (.bool x.t)).setCell ⟨g, o + 1, none⟩ (.int .i64 x.p)).setCell ⟨g, o + 2, none⟩ x.row.v).setCell ⟨g, o + 3, none⟩ (.int .i64 x.fr)
def Qd.cs (x : Qd) : Array Value := #[.bool x.t, .int .i64 x.p, x.row.v, .int .i64 x.fr]
theorem putQ_cells (w : World) (g o : Nat) (x : Qd) : w.setCells g o x.cs.toList = putQ w g o x := rfl
theorem QAt.putQ {w : World} {g o : Nat} {x : Qd} (h : QAt w g o x) (y : Qd) : QAt (putQ w g o y) g o y := by
  unfold Go.Proofs.Ytbknmfegckeogaa.putQ
  refine ⟨?_, ?_, ?_, ?_⟩
  · rw [cell_off _ g _ _ _ (by omega), cell_off _ g _ _ _ (by omega), cell_off _ g _ _ _ (by omega)]
    exact World.cell?_setCell_same _ _ _ h.c0
  · rw [cell_off _ g _ _ _ (by omega), cell_off _ g _ _ _ (by omega)]
    exact World.cell?_setCell_same _ _ _ ((cell_off _ g _ _ _ (by omega)).trans h.c1)
  · rw [cell_off _ g _ _ _ (by omega)]
    exact World.cell?_setCell_same _ _ _ ((cell_off _ g _ _ _ (by omega)).trans ((cell_off _ g _ _ _ (by omega)).trans h.c2))
  · exact World.cell?_setCell_same _ _ _ ((cell_off _ g _ _ _ (by omega)).trans ((cell_off _ g _ _ _ (by omega)).trans ((cell_off _ g _ _ _ (by omega)).trans h.c3)))
theorem putQ_size (w : World) (g o : Nat) (x : Qd) : (putQ w g o x).heap.size = w.heap.size := by unfold putQ; simp only [PF.size_set]
theorem putQ_far (w : World) (g o : Nat) (x : Qd) (k : Nat) (hk : k ≠ g) : (putQ w g o x).heap[k]? = w.heap[k]? := by
  unfold putQ
  rw [Below.heap_setCell _ _ _ _ hk, Below.heap_setCell _ _ _ _ hk, Below.heap_setCell _ _ _ _ hk, Below.heap_setCell _ _ _ _ hk]
theorem putQ_apart {S : Nat → Prop} {a w : World} {g : Nat} (h : Apart S a w) (hg : S g ∨ a.heap.size ≤ g) (o : Nat) (y : Qd) : Apart S a (putQ w g o y) :=
  (((h.setCell (p := ⟨g, _, none⟩) hg _).setCell (p := ⟨g, _, none⟩) hg _).setCell (p := ⟨g, _, none⟩) hg _).setCell (p := ⟨g, _, none⟩) hg _
theorem QAt.there {w : World} {g o : Nat} {x : Qd} (h : QAt w g o x) (hf : ∀ o, w.frozen? ⟨g, o, none⟩ = false) (m : Nat) (hm : m = 4) : w.there g o m := by
  subst hm
  intro j hj
  refine ⟨?_, hf _⟩
  rcases j with _ | _ | _ | _ | j
  · exact Option.isSome_iff_exists.2 ⟨_, h.c0⟩
  · exact Option.isSome_iff_exists.2 ⟨_, h.c1⟩
  · exact Option.isSome_iff_exists.2 ⟨_, h.c2⟩
  · exact Option.isSome_iff_exists.2 ⟨_, h.c3⟩
  · omega
end Go.Proofs.Ytbknmfegckeogaa
