/- A place written whole, in memory; gone of the program's forest, by a walk. Condition: 1 to 4096 places. -/
import Derived.Test.YtoihldagpnkfoaaTreeKids
import Derived.Test.YtoihldagpnkfoaaOwnCut
import Derived.Deep.MidRow
namespace Go.Proofs.Ytoihldagpnkfoaa
open Go.RowKit
set_option linter.unusedVariables false
set_option linter.unusedSimpArgs false

/-- A place written whole. -/
def putW (w : World) (g o : Nat) (x : Nd) : World :=
  ((((w.setCell ⟨g, o, none⟩ (.bool x.t)).setCell ⟨g, o + 1, none⟩ (.int .i64 x.u)).setCell ⟨g, o + 2, none⟩ (.int .i64 x.d)).setCell ⟨g, o + 3, none⟩ (.int .i64 x.l)).setCell ⟨g, o + 4, none⟩ (.int .i64 x.r)

theorem NdAt.putW {w : World} {g o : Nat} {x : Nd} (h : NdAt w g o x) (y : Nd) : NdAt (putW w g o y) g o y := by
  have k0 : (w.setCell ⟨g, o, none⟩ (.bool y.t)).cell? ⟨g, o, none⟩ = some (.bool y.t) := World.cell?_setCell_same _ _ _ h.c0
  have k1 : (w.setCell ⟨g, o, none⟩ (.bool y.t)).cell? ⟨g, o + 1, none⟩ = some (.int .i64 x.u) := (cell_off w g _ _ _ (by omega)).trans h.c1
  have k2 : (w.setCell ⟨g, o, none⟩ (.bool y.t)).cell? ⟨g, o + 2, none⟩ = some (.int .i64 x.d) := (cell_off w g _ _ _ (by omega)).trans h.c2
  have k3 : (w.setCell ⟨g, o, none⟩ (.bool y.t)).cell? ⟨g, o + 3, none⟩ = some (.int .i64 x.l) := (cell_off w g _ _ _ (by omega)).trans h.c3
  have k4 : (w.setCell ⟨g, o, none⟩ (.bool y.t)).cell? ⟨g, o + 4, none⟩ = some (.int .i64 x.r) := (cell_off w g _ _ _ (by omega)).trans h.c4
  have h1 : NdAt (w.setCell ⟨g, o, none⟩ (.bool y.t)) g o { x with t := y.t } := ⟨k0, k1, k2, k3, k4⟩
  exact (((h1.setU y.u).setD y.d).setL y.l).setR y.r
theorem PF.putW {w : World} {f lb n lc : Nat} {R : Raw} {fv : Value} (h : PF w f lb n lc R fv) (a : Nat) (ha : a < n) (y : Nd) : PF (putW w lb (a * 5) y) f lb n lc (R.put a y) fv := by
  have hx := (h.at_ a ha).putW y
  refine ⟨?_, fun i hi => ?_, fun o => ?_, h.ne, ?_, h.n1, h.n2⟩
  · unfold Go.Proofs.Ytoihldagpnkfoaa.putW
    exact ((((h.head.far h.ne.symm _).far h.ne.symm _).far h.ne.symm _).far h.ne.symm _).far h.ne.symm _
  · by_cases e : i = a
    · subst e
      simpa [Raw.put, setN] using hx
    · have hi' := (((((h.at_ i hi).other 0 (by omega) e (.bool y.t)).other 1 (by omega) e (.int .i64 y.u)).other 2 (by omega) e (.int .i64 y.d)).other 3 (by omega) e (.int .i64 y.l)).other 4 (by omega) e (.int .i64 y.r)
      have e2 : (R.put a y).M i = R.M i := by simp [Raw.put, setN, e]
      rw [e2]
      exact hi'
  · unfold Go.Proofs.Ytoihldagpnkfoaa.putW
    simp only [World.frozen?_setCell]
    exact h.fr o
  · unfold Go.Proofs.Ytoihldagpnkfoaa.putW
    simp only [PF.size_set]
    exact h.lt
theorem putW_apart {S : Nat → Prop} {a w : World} {g : Nat} (h : Apart S a w) (hg : S g ∨ a.heap.size ≤ g) (o : Nat) (y : Nd) : Apart S a (putW w g o y) :=
  ((((h.setCell (p := ⟨g, _, none⟩) hg _).setCell (p := ⟨g, _, none⟩) hg _).setCell (p := ⟨g, _, none⟩) hg _).setCell (p := ⟨g, _, none⟩) hg _).setCell (p := ⟨g, _, none⟩) hg _

theorem PF.alloc_ {w : World} {f lb n lc : Nat} {R : Raw} {fv : Value} (h : PF w f lb n lc R fv) (o : Obj) : PF (w.alloc o) f lb n lc R fv :=
  h.keep (Below.heap_alloc w o f h.head.lt) (Below.heap_alloc w o lb h.lt) (by simp)
theorem PF.grown_ {w w' : World} {f lb n lc : Nat} {R : Raw} {fv : Value} {row : Option Nat} (h : PF w f lb n lc R fv) (hg : w.grownBy w' row) (h1 : row ≠ some f) (h2 : row ≠ some lb) : PF w' f lb n lc R fv :=
  h.keep (hg.block f h.head.lt (fun e => h1 e.symm)) (hg.block lb h.lt (fun e => h2 e.symm)) hg.size
/-- The forest with its free numbers. -/
structure PS (w : World) (f lb n lc : Nat) (R : Raw) (v : Value) (L : List Int) : Prop where
  pf : PF w f lb n lc R v
  cut : Cut w v L
  nf : v.ownBlock ≠ some f
  nl : v.ownBlock ≠ some lb
/-- The blocks of the forest. -/
def own3 (f lb : Nat) (v : Value) (k : Nat) : Prop := k = f ∨ k = lb ∨ v.ownBlock = some k
/-- The free numbers lie where they lay, or on a new block. -/
def Fresh (w : World) (v v' : Value) : Prop := ∀ r, v'.ownBlock = some r → v.ownBlock = some r ∨ w.heap.size ≤ r

theorem putW_size (w : World) (g o : Nat) (x : Nd) : (putW w g o x).heap.size = w.heap.size := by unfold putW; simp only [PF.size_set]
def Nd.cs (x : Nd) : Array Value := #[.bool x.t, .int .i64 x.u, .int .i64 x.d, .int .i64 x.l, .int .i64 x.r]
theorem putW_cells (w : World) (g o : Nat) (x : Nd) : w.setCells g o x.cs.toList = putW w g o x := rfl
theorem NdAt.there {w : World} {g o : Nat} {x : Nd} (h : NdAt w g o x) (hf : ∀ o, w.frozen? ⟨g, o, none⟩ = false) (m : Nat) (hm : m = 5) : w.there g o m := by
  subst hm
  intro j hj
  refine ⟨?_, hf _⟩
  rcases j with _ | _ | _ | _ | _ | j
  · exact Option.isSome_iff_exists.2 ⟨_, h.c0⟩
  · exact Option.isSome_iff_exists.2 ⟨_, h.c1⟩
  · exact Option.isSome_iff_exists.2 ⟨_, h.c2⟩
  · exact Option.isSome_iff_exists.2 ⟨_, h.c3⟩
  · exact Option.isSome_iff_exists.2 ⟨_, h.c4⟩
  · omega

/-- A new block's row is no block of these. -/
theorem fresh_ne {w : World} {v v' : Value} (h : Fresh w v v') {b : Nat} (hb : b < w.heap.size) (hv : v.ownBlock ≠ some b) : v'.ownBlock ≠ some b := by
  intro e
  rcases h b e with h1 | h1
  · exact hv h1
  · omega

set_option maxHeartbeats 1000000 in
theorem gone_is {w : World} {f lb n lc : Nat} {R : Raw} {v : Value} {L : List Int} (h : PS w f lb n lc R v L) (k : Nat) (hk : k < n) (hL : L.length ≤ 4096) :
    Calls Try.prog 36 #[.pointer (some ⟨f, 0, none⟩), .int .i64 k] w fun e w' => (∃ z, e = .returned z) ∧ ∃ v', PS w' f lb n lc (R.put k Nd.zero) v' (L ++ [(k : Int)]) ∧ Fresh w v v' ∧ Apart (own3 f lb v) w w' := by
  obtain ⟨i0, hi0, hz0, hz1, hz2⟩ := info_parts infoInt
  obtain ⟨A, cap, rfl⟩ := h.cut.slice
  have hp := h.pf
  have hn2 := hp.n2
  have d0 := hp.cells.1
  have ht := (hp.at_ k hk).there hp.fr
  have q := hp.putW k hk Nd.zero
  have qa : Apart (own3 f lb (.slice A L.length cap)) w (putW w lb (k * 5) Nd.zero) := putW_apart (Apart.refl _ w) (.inl (.inr (.inl rfl))) _ _
  have qa' : Apart (fun k => k = lb) w (putW w lb (k * 5) Nd.zero) := putW_apart (S := fun k => k = lb) (Apart.refl _ w) (.inl rfl) _ _
  have qc : Cut (putW w lb (k * 5) Nd.zero) (.slice A L.length cap) L := h.cut.apart qa' (fun b hb e => h.nl (by rw [hb, e]))
  have qs := putW_size w lb (k * 5) Nd.zero
  obtain ⟨W, hW⟩ : ∃ W, W = putW w lb (k * 5) Nd.zero := ⟨_, rfl⟩
  rw [← hW] at q qa qc qs
  have e0 := q.cells.1
  have e2 := q.cells.2.2.1
  have ef := q.cells.2.2.2
  have HW := Lib.hid hW
  have HQ := Lib.hid (And.intro q (And.intro qa (And.intro qc qs)))
  have HL := Lib.hid (And.intro h.nf h.nl)
  have t1 : (Try.prog.info? 61).map (·.size) = some Nd.zero.cs.size := by kernel_rfl
  have t2 : Nd.zero.cs.all (·.oneCell') = true := by simp [Nd.cs, Value.oneCell']
  have hL' := Lib.hid hL
  clear h hp qa' hW q qa qc qs
  go_enter Try.func36, Try.ntmps36
  go_wp2_with (first | (refine wpList_store_mid rfl 61 (.tmp 10) (.tmp 9) rfl lb (k * 5) Nd.zero.cs (by exact rfl) (by exact rfl) (by exact ht _ rfl) t1 t2 ?_; rw [putW_cells, ← HW.out]; clear d0) | (at_builtin; refine wpList_append_cut _ rfl (.tmp 15) (.tmp 17) 29 rfl i0 rfl hi0 hz0 hz1 hz2 (.slice A L.length cap) L rfl (HQ.out.2.2.1.keep fun r hr => Below.heap_alloc _ _ r (HQ.out.2.2.1.lt r hr)) ⟨W.heap.size, 0, none⟩ 1 k rfl ((Blk.new W 3 #[.int .i64 k]).cell 0) (by have := hL'.out; omega) ?_; intro v' w7 hcut hgrow hat; obtain ⟨A7, c7, rfl⟩ := hcut.slice; (have q7 := (HQ.out.1.alloc_ (.cells #[.int .i64 k] 3)).grown_ hgrow HL.out.1 HL.out.2); (have g0 := q7.cells.1); (have g2 := q7.cells.2.2.1); (have gf := q7.cells.2.2.2); (have H7 := Lib.hid (And.intro q7 (And.intro hcut (And.intro hgrow hat)))); clear q7 hcut hgrow hat e0 e2))
  go_end0
  obtain ⟨q7, hcut, hgrow, hat⟩ := H7.out
  obtain ⟨q, qa, qc, qs⟩ := HQ.out
  have hll : (L ++ [(k : Int)]).length = L.length + 1 := by simp
  rw [hll] at hcut hat
  have hlt := q.head.lt
  have hlb := q.lt
  have hat' : Fresh w (.slice A L.length cap) (.slice A7 (L.length + 1) c7) := by
    intro r hr
    rcases hat with e | e
    · rw [e] at hr
      exact .inl hr
    · rw [e] at hr
      simp at hr
      omega
  have n1 := fresh_ne hat' (b := f) (by omega) HL.out.1
  have n2 := fresh_ne hat' (b := lb) (by omega) HL.out.2
  refine ⟨⟨_, rfl⟩, _, ⟨q7.setFree _, hcut.keep fun r hr => Below.heap_setCell _ ⟨f, 2, none⟩ _ r (fun e => n1 (by rw [hr, e])), n1, n2⟩, hat', ?_⟩
  have h1 := (qa.alloc (.cells #[.int .i64 k] 3)).grown hgrow (fun r hr => .inl (.inr (.inr hr)))
  exact h1.setCell (p := ⟨f, 2, none⟩) (.inl (.inl rfl)) _
end Go.Proofs.Ytoihldagpnkfoaa
