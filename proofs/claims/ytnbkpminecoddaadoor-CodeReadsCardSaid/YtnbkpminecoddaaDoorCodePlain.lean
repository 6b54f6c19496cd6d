/- code.plain, by walk: an instruction whose words beside its letters are nothing. -/
import Derived.Test.YtnbkpminecoddaaDoorStepDecodeD
import Derived.Test.YtnbkpminecoddaaDoorCodeShape
namespace Go.Proofs.YtnbkpminecoddaaDoor
open Go.RowKit
set_option linter.unusedVariables false
set_option linter.unusedSimpArgs false

/-- What a letter lays. -/
def plS (a b c : Int) (x : Int × Int × Int) (l : Int) : Int × Int × Int :=
  if l = 97 then (a, x.2.1, x.2.2) else if l = 98 then (x.1, b, x.2.2) else if l = 99 then (x.1, x.2.1, c) else if l = 110 then (x.1, b, c) else if l = 100 then (x.1, b, c) else x
def plF (a b c : Int) (s : ByteArray) (j : Nat) : Int × Int × Int := (s.data.toList.take j).foldl (fun x l => plS a b c x (l.toNat : Int)) (0, 0, 0)
def plV (k : Int) (x : Int × Int × Int) : Value := insV k x.1 x.2.1 x.2.2
theorem plF_succ (a b c : Int) (s : ByteArray) (j : Nat) (hj : j < s.size) : plF a b c s (j + 1) = plS a b c (plF a b c s j) ((s[j]'hj).toNat : Int) := by
  unfold plF
  rw [List.take_succ_eq_append_getElem (by simpa using hj), List.foldl_append]
  rfl

def PlW (k a b c : Int) (s : ByteArray) (w : World) (t0 t1 t2 j : Nat) (x : Int × Int × Int) (wr : World) : Prop :=
  wr.heap[t2]? = some (.stringIter s j) ∧ Blk wr w.heap.size 26 #[.int .u8 k, .int .u8 a, .int .u8 b, .int .u8 c] ∧ Blk wr t0 26 #[.int .u8 0, .int .u8 0, .int .u8 0, .int .u8 0] ∧ Blk wr t1 26 #[.int .u8 k, .int .u8 x.1, .int .u8 x.2.1, .int .u8 x.2.2] ∧ Below w.heap.size w wr
theorem PlW.set {k a b c : Int} {s : ByteArray} {w : World} {t0 t1 t2 j : Nat} {x : Int × Int × Int} {wr : World} (h : PlW k a b c s w t0 t1 t2 j x wr) (ht : t0 = w.heap.size + 1 ∧ t1 = t0 + 1 ∧ t2 = t1 + 1) (x' : Int × Int × Int) (i : Nat) (u : Int)
    (hx : (#[.int .u8 k, .int .u8 x.1, .int .u8 x.2.1, .int .u8 x.2.2] : Array Value).setIfInBounds i (.int .u8 u) = #[.int .u8 k, .int .u8 x'.1, .int .u8 x'.2.1, .int .u8 x'.2.2]) : PlW k a b c s w t0 t1 t2 j x' (wr.setCell ⟨t1, i, none⟩ (.int .u8 u)) := by
  obtain ⟨h1, h2, h3, h4, h5⟩ := h
  refine ⟨(Below.heap_setCell wr ⟨t1, i, none⟩ _ t2 (by show t2 ≠ t1; omega)).trans h1, h2.far (p := ⟨t1, i, none⟩) (by show _ ≠ t1; omega) _, h3.far (p := ⟨t1, i, none⟩) (by show _ ≠ t1; omega) _, ?_, h5.setCell (p := ⟨t1, i, none⟩) (by show _ ≤ t1; omega) _⟩
  have := h4.set_ i (.int .u8 u)
  rwa [hx] at this
theorem PlW.pos {k a b c : Int} {s : ByteArray} {w : World} {t0 t1 t2 j : Nat} {x : Int × Int × Int} {wr : World} (h : PlW k a b c s w t0 t1 t2 j x wr) : wr.iterPos t2 = j := by
  unfold World.iterPos; rw [h.1]
theorem PlW.drew {k a b c : Int} {s : ByteArray} {w : World} {t0 t1 t2 j : Nat} {x : Int × Int × Int} {wr : World} (h : PlW k a b c s w t0 t1 t2 j x wr) : PlW k a b c s w t0 t1 t2 j x wr.drew :=
  ⟨h.1, h.2.1.drew, h.2.2.1.drew, h.2.2.2.1.drew, h.2.2.2.2.drew⟩
theorem results_one {p : Tmp} {k x y z : Int} {g : Nat} {fn : Func} (h : fn.results = #[.cell p 26]) (tmps : Array Value) (w : World) (hp : tmps.getD p undef = .pointer (some ⟨g, 0, none⟩)) (hB : Blk w g 26 #[.int .u8 k, .int .u8 x, .int .u8 y, .int .u8 z]) :
    (results fn tmps).run Tryd.prog w = .ok (insV k x y z) w := by
  obtain ⟨d, hu1, hu2⟩ := underIns
  exact results_cell_row h tmps w g 26 _ (0, 0) d hp hB hu1 (by cases d <;> first | rfl | exact absurd hu2 Bool.false_ne_true) (by kernel_rfl)

set_option maxRecDepth 100000 in
set_option maxHeartbeats 2000000 in
theorem plain_is (k a b c : Int) (s : ByteArray) (hs8 : ∀ i (hi : i < s.size), (s[i]'hi).toNat < 128) (w : World) :
    Calls Tryd.prog 37 #[insV k a b c, .string s] w fun e w' => e = .returned (plV k (plF a b c s s.size)) ∧ Below w.heap.size w w' := by
  have H8 := Lib.hid hs8
  clear hs8
  rw [show insV k a b c = .agg #[.int .u8 k, .int .u8 a, .int .u8 b, .int .u8 c] from rfl]
  go_enter Tryd.func37, Tryd.ntmps37
  go_wp2_with fail
  have Bw : Below w.heap.size w (((w.alloc (.cells #[.int .u8 k, .int .u8 a, .int .u8 b, .int .u8 c] 26)).alloc (.cells #[.int .u8 0, .int .u8 0, .int .u8 0, .int .u8 0] 26)).alloc (.cells #[.int .u8 k, .int .u8 0, .int .u8 0, .int .u8 0] 26)) := (((Below.refl _ w).alloc (Nat.le_refl _) _).alloc (by simp) _).alloc (by simp; omega) _
  have I1 : Blk (((w.alloc (.cells #[.int .u8 k, .int .u8 a, .int .u8 b, .int .u8 c] 26)).alloc (.cells #[.int .u8 0, .int .u8 0, .int .u8 0, .int .u8 0] 26)).alloc (.cells #[.int .u8 k, .int .u8 0, .int .u8 0, .int .u8 0] 26)) w.heap.size 26 #[.int .u8 k, .int .u8 a, .int .u8 b, .int .u8 c] := ((Blk.new w 26 _).alloc _).alloc _
  have I2 : Blk (((w.alloc (.cells #[.int .u8 k, .int .u8 a, .int .u8 b, .int .u8 c] 26)).alloc (.cells #[.int .u8 0, .int .u8 0, .int .u8 0, .int .u8 0] 26)).alloc (.cells #[.int .u8 k, .int .u8 0, .int .u8 0, .int .u8 0] 26)) (w.heap.size + 1) 26 #[.int .u8 0, .int .u8 0, .int .u8 0, .int .u8 0] := by
    have := (Blk.new (w.alloc (.cells #[.int .u8 k, .int .u8 a, .int .u8 b, .int .u8 c] 26)) 26 #[.int .u8 0, .int .u8 0, .int .u8 0, .int .u8 0]).alloc (.cells #[.int .u8 k, .int .u8 0, .int .u8 0, .int .u8 0] 26)
    simpa using this
  have I3 : Blk (((w.alloc (.cells #[.int .u8 k, .int .u8 a, .int .u8 b, .int .u8 c] 26)).alloc (.cells #[.int .u8 0, .int .u8 0, .int .u8 0, .int .u8 0] 26)).alloc (.cells #[.int .u8 k, .int .u8 0, .int .u8 0, .int .u8 0] 26)) (w.heap.size + 1 + 1) 26 #[.int .u8 k, .int .u8 0, .int .u8 0, .int .u8 0] := by
    have := Blk.new ((w.alloc (.cells #[.int .u8 k, .int .u8 a, .int .u8 b, .int .u8 c] 26)).alloc (.cells #[.int .u8 0, .int .u8 0, .int .u8 0, .int .u8 0] 26)) 26 #[.int .u8 k, .int .u8 0, .int .u8 0, .int .u8 0]
    simpa using this
  have hz : w.heap.size + 1 + 1 + 1 = (((w.alloc (.cells #[.int .u8 k, .int .u8 a, .int .u8 b, .int .u8 c] 26)).alloc (.cells #[.int .u8 0, .int .u8 0, .int .u8 0, .int .u8 0] 26)).alloc (.cells #[.int .u8 k, .int .u8 0, .int .u8 0, .int .u8 0] 26)).heap.size := by simp
  have IT := World.iter_heap (((w.alloc (.cells #[.int .u8 k, .int .u8 a, .int .u8 b, .int .u8 c] 26)).alloc (.cells #[.int .u8 0, .int .u8 0, .int .u8 0, .int .u8 0] 26)).alloc (.cells #[.int .u8 k, .int .u8 0, .int .u8 0, .int .u8 0] 26)) s 0
  rw [← hz] at IT
  obtain ⟨t0, ht0⟩ : ∃ n, n = w.heap.size + 1 := ⟨_, rfl⟩
  obtain ⟨t1, ht1⟩ : ∃ n, n = t0 + 1 := ⟨_, rfl⟩
  obtain ⟨t2, ht2⟩ : ∃ n, n = t1 + 1 := ⟨_, rfl⟩
  have I1' := I1.alloc (.stringIter s 0)
  have I2' := I2.alloc (.stringIter s 0)
  have I3' := I3.alloc (.stringIter s 0)
  have B' := Bw.alloc Bw.size (.stringIter s 0)
  clear I1 I2 I3 Bw hz
  simp only [World.iter, ← ht0, ← ht1, ← ht2] at IT I2' I3' ⊢
  generalize ((((w.alloc (.cells #[.int .u8 k, .int .u8 a, .int .u8 b, .int .u8 c] 26)).alloc (.cells #[.int .u8 0, .int .u8 0, .int .u8 0, .int .u8 0] 26)).alloc (.cells #[.int .u8 k, .int .u8 0, .int .u8 0, .int .u8 0] 26)).alloc (.stringIter s 0)) = w1 at *
  have HT := Lib.hid (And.intro ht0 (And.intro ht1 ht2))
  have HS := Lib.hid (And.intro IT (And.intro I1' (And.intro I2' (And.intro I3' B'))))
  clear ht0 ht1 ht2 IT I1' I2' I3' B'
  go_loopw [13] (fun v wr => ∃ j : Nat, j ≤ s.size ∧ wr.heap[t2]? = some (.stringIter s j) ∧ Blk wr w.heap.size 26 #[.int .u8 k, .int .u8 a, .int .u8 b, .int .u8 c] ∧ Blk wr t0 26 #[.int .u8 0, .int .u8 0, .int .u8 0, .int .u8 0] ∧ Blk wr t1 26 #[.int .u8 k, .int .u8 (plF a b c s j).1, .int .u8 (plF a b c s j).2.1, .int .u8 (plF a b c s j).2.2] ∧ Below w.heap.size w wr) (fun _ wr => s.size + 1 - wr.iterPos t2)
  case atStart => exact ⟨0, Nat.zero_le _, HS.out.1, HS.out.2.1, HS.out.2.2.1, HS.out.2.2.2.1, HS.out.2.2.2.2⟩
  case round =>
    obtain ⟨j, hj, hit, hK, hZ, hX, hB⟩ := hrel
    by_cases hlt : j < s.size
    · have hnx := fun ty => Lib.run_next_ascii_at (P := Tryd.prog) wr t2 s j ty hit hlt (H8.out j hlt)
      have hit2 := Lib.iterAt_heap wr t2 s j (j + 1) hit
      have hK2 := hK.iterAt_ hit (j + 1)
      have hZ2 := hZ.iterAt_ hit (j + 1)
      have hX2 := hX.iterAt_ hit (j + 1)
      have hB2 := Lib.below_iterAt hB (show w.heap.size ≤ t2 by have := HT.out; omega) s (j + 1)
      have hpos : wr.iterPos t2 = j := by unfold World.iterPos; rw [hit]
      obtain ⟨wn, hwn⟩ : ∃ wn, wn = wr.iterAt t2 s (j + 1) := ⟨_, rfl⟩
      rw [← hwn] at hit2 hK2 hZ2 hX2 hB2
      simp only [← hwn] at hnx
      clear hwn hit hK hZ hX hB
      have hup := plF_succ a b c s j hlt
      obtain ⟨l, hl⟩ : ∃ l : Int, l = ((s[j]'hlt).toNat : Int) := ⟨_, rfl⟩
      simp only [← hl] at hnx hup
      generalize plF a b c s j = x at *
      obtain ⟨x1, x2, x3⟩ := x
      have c1 := hK2.cell 1
      have c2 := hK2.cell 2
      have c3 := hK2.cell 3
      have d1 := hX2.cell 1
      have d2 := hX2.cell 2
      have d3 := hX2.cell 3
      have f1 := hX2.frozen 1
      have f2 := hX2.frozen 2
      have f3 := hX2.frozen 3
      simp only [List.getElem?_toArray, List.getElem?_cons_zero, List.getElem?_cons_succ] at c1 c2 c3 d1 d2 d3
      have HH : Hid (PlW k a b c s w t0 t1 t2 (j + 1) (x1, x2, x3) wn) := Lib.hid ⟨hit2, hK2, hZ2, hX2, hB2⟩
      have HU := Lib.hid hup
      have HP := Lib.hid hpos
      have hn1 : w.heap.size ≠ t1 := by have := HT.out; omega
      have hn2 : t1 ≠ w.heap.size := by have := HT.out; omega
      clear hit2 hK2 hZ2 hX2 hB2 hup hpos hl
      by_cases e97 : l = 97
      · subst e97
        go_wp2_with fail
        have H2 := HH.out.set HT.out (a, x2, x3) 1 a rfl
        exact ⟨⟨j + 1, by omega, by rw [show plF a b c s (j + 1) = (a, x2, x3) from HU.out]; exact H2⟩, by rw [H2.pos, HP.out]; omega⟩
      have h97 : (l == 97) = false := by simpa using e97
      by_cases e98 : l = 98
      · subst e98
        go_wp2_with fail
        have H2 := HH.out.set HT.out (x1, b, x3) 2 b rfl
        exact ⟨⟨j + 1, by omega, by rw [show plF a b c s (j + 1) = (x1, b, x3) from HU.out]; exact H2⟩, by rw [H2.pos, HP.out]; omega⟩
      have h98 : (l == 98) = false := by simpa using e98
      by_cases e99 : l = 99
      · subst e99
        go_wp2_with fail
        have H2 := HH.out.set HT.out (x1, x2, c) 3 c rfl
        exact ⟨⟨j + 1, by omega, by rw [show plF a b c s (j + 1) = (x1, x2, c) from HU.out]; exact H2⟩, by rw [H2.pos, HP.out]; omega⟩
      have h99 : (l == 99) = false := by simpa using e99
      by_cases e110 : l = 110
      · subst e110
        go_wp2_with fail
        go_region_held3 (fun w' => w'.cell? ⟨w.heap.size, 2, none⟩ = some (.int .u8 b) ∧ w'.cell? ⟨w.heap.size, 3, none⟩ = some (.int .u8 c)) (go_keep) (fail)
        go_wp2_with fail
        have H2 := ((HH.out.set HT.out (x1, b, x3) 2 b rfl).set HT.out (x1, b, c) 3 c rfl).drew
        exact ⟨⟨j + 1, by omega, by rw [show plF a b c s (j + 1) = (x1, b, c) from HU.out]; exact H2⟩, by rw [H2.pos, HP.out]; omega⟩
      have h110 : (l == 110) = false := by simpa using e110
      by_cases e100 : l = 100
      · subst e100
        go_wp2_with fail
        go_region_held3 (fun w' => w'.cell? ⟨w.heap.size, 2, none⟩ = some (.int .u8 b) ∧ w'.cell? ⟨w.heap.size, 3, none⟩ = some (.int .u8 c)) (go_keep) (fail)
        go_wp2_with fail
        have H2 := ((HH.out.set HT.out (x1, b, x3) 2 b rfl).set HT.out (x1, b, c) 3 c rfl).drew
        exact ⟨⟨j + 1, by omega, by rw [show plF a b c s (j + 1) = (x1, b, c) from HU.out]; exact H2⟩, by rw [H2.pos, HP.out]; omega⟩
      have h100 : (l == 100) = false := by simpa using e100
      go_wp2_with fail
      have H2 := HH.out
      have hu : plS a b c (x1, x2, x3) l = (x1, x2, x3) := by simp [plS, e97, e98, e99, e110, e100]
      exact ⟨⟨j + 1, by omega, by rw [HU.out.trans hu]; exact H2⟩, by rw [H2.pos, HP.out]; omega⟩
    · have hjs : j = s.size := by omega
      have hnx := fun ty => Lib.run_next_end_at (P := Tryd.prog) wr t2 s j ty hit hlt
      have HX := Lib.hid (And.intro hZ hB)
      go_wp2_with (first
        | (refine load_ins hX (by exact rfl) (.tmp 5) (by exact rfl) (by exact rfl) ?_)
        | (refine wpList_store_row (by exact rfl) 26 (.tmp 4) (.tmp 41) (by exact rfl) t0 #[.int .u8 k, .int .u8 (plF a b c s j).1, .int .u8 (plF a b c s j).2.1, .int .u8 (plF a b c s j).2.2] (by exact rfl) (by exact rfl) 26 _ hZ (by kernel_rfl) (by exact rfl) (by simp [Value.oneCell']) ?_))
      exact bodyPost_ret (results_one (p := 4) (by kernel_rfl) _ _ rfl (Blk.put_ hZ _)) rfl ⟨by rw [← hjs]; rfl, below_setRow HX.out.2 (by have := HT.out; omega) _⟩
end Go.Proofs.YtnbkpminecoddaaDoor
