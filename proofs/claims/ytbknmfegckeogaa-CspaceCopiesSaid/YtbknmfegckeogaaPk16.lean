/- Of the following, one behind the other: Same of the program's tables, by walk: the map is gone over in whatever order. The acts of both sides, each answer and each new table by one plain function. -/
import Derived.Test.YtbknmfegckeogaaPk15
import Derived.Maps.RangeRun
/- Same of the program's tables, by walk: the map is gone over in whatever order. -/
namespace Go.Proofs.Ytbknmfegckeogaa
open Go.RowKit Go.Maps Go.MapKept
open Go.ChangeMaps (setBlock)
set_option linter.unusedVariables false
set_option linter.unusedSimpArgs false

/-- Where the one above is, and is there one? -/
def pOf (S : Sp) (g s : Int) : Int × Int × Bool := match S.parE g s with
  | some p => (p.g, p.s, true)
  | none => (0, 0, false)
theorem parV_p (S : Sp) (g s : Int) : parV (S.parE g s) = .tuple #[.int .i64 (pOf S g s).1, .int .i64 (pOf S g s).2.1, .bool (pOf S g s).2.2] := by
  unfold pOf parV
  cases S.parE g s <;> rfl
theorem parent_any {w : World} {A : Ad} {S : Sp} (h : SpAt w A S) (hl : Lim S) (hJ : J S) (g s : Int) :
    Calls Try.prog 14 #[.pointer (some ⟨A.b, 0, none⟩), .int .i64 g, .int .i64 s] w fun e w' => e = .returned (.tuple #[.int .i64 (pOf S g s).1, .int .i64 (pOf S g s).2.1, .bool (pOf S g s).2.2]) ∧ Below w.heap.size w w' := by
  rw [← parV_p]
  unfold Sp.parE
  cases hf : fnd S.L g s with
  | none =>
    refine (parent_no h hl g s (full_none hf)).mono ?_
    rintro e w' ⟨rfl, rfl⟩
    exact ⟨rfl, Below.refl _ _⟩
  | some x => exact parent_yes h hl hJ g s (hJ.there_fnd hf) hf
theorem rfParent_any {w : World} {R : Rd} {S : Sp} (h : RfAt w R S) (hn : S.L.length ≤ 512) (g s : Int) :
    Calls Try.prog 28 #[.pointer (some ⟨R.b, 0, none⟩), .int .i64 g, .int .i64 s] w fun e w' => e = .returned (.tuple #[.int .i64 (pOf S g s).1, .int .i64 (pOf S g s).2.1, .bool (pOf S g s).2.2]) ∧ Below w.heap.size w w' := by
  rw [← parV_p]
  exact rfParent_is h hn g s
/-- Both have the same at this one. -/
def SameE (S T : Sp) (e : En) : Prop := ∃ f, fnd T.L e.g e.s = some f ∧ e.c = f.c ∧ pOf S e.g e.s = pOf T e.g e.s
def SameP (S T : Sp) : Prop := S.gs = T.gs ∧ S.sl = T.sl ∧ S.F.n = T.F.n ∧ S.L.length = T.L.length ∧ ∀ e ∈ S.L, SameE S T e
theorem setBlock_is {w : World} {r : Nat} (o : Obj) (hr : r < w.heap.size) : (setBlock w r o).heap[r]? = some o := by
  unfold setBlock
  simp [hr]
theorem setBlock_below {w1 w : World} {B r : Nat} (o : Obj) (h : Below B w w1) (hr : B ≤ r) : Below B w (setBlock w1 r o) :=
  ⟨h.os, h.tape, h.output, by have := h.size; simpa [setBlock] using this, fun k hk => by
    have hkr : r ≠ k := by omega
    have : (setBlock w1 r o).heap[k]? = w1.heap[k]? := by simp [setBlock, hkr]
    exact this.trans (h.block k hk)⟩
theorem run_len_mi {w : World} {m : Nat} {es : Array MapEntry} {c : Nat} (h : w.heap[m]? = some (.map es c)) (ty : TypeId) : (Builtin.len_ #[70] ty #[.map (some m)]).run Try.prog w = .ok (.int .i64 (es.size : Int)) w := by
  simp [Builtin.len_, run_underlying Try.underlying70, MapKept.run_getObj_map h, Result.andThen, goInt]
section
variable {w : World} {A A' : Ad} {S T : Sp}
theorem mi_map (h : SpAt w A S) : ∃ es c, w.heap[A.mi]? = some (.map es c) ∧ Stamped es c ∧ (∀ x y, inR S.L x y ↔ ∃ e ∈ es.toList, e.key = x ∧ e.val = y) ∧ es.size = S.L.length := by
  obtain ⟨es, c, h1, h2, _, h4, h5⟩ := h.mi
  exact ⟨es, c, h1, h2, h4, h5⟩
/-- What Same answers. -/
def SpSamePost (S T : Sp) (w : World) (e : Ending) (w' : World) : Prop := ∃ b, e = .returned (.bool b) ∧ (b = true ↔ SameP S T) ∧ Below w.heap.size w w'
theorem sp_no {w' : World} (h : ¬ SameP S T) (hb : Below w.heap.size w w') : SpSamePost S T w (.returned (.bool false)) w' := ⟨false, rfl, by simp [h], hb⟩
theorem sp_yes {w' : World} (h : SameP S T) (hb : Below w.heap.size w w') : SpSamePost S T w (.returned (.bool true)) w' := ⟨true, rfl, by simp [h], hb⟩
set_option maxRecDepth 100000 in
set_option maxHeartbeats 8000000 in
theorem same_is (h : SpAt w A S) (h' : SpAt w A' T) (hl : Lim S) (hl' : Lim T) (hJ : J S) (hJ' : J T) :
    Calls Try.prog 22 #[.pointer (some ⟨A.b, 0, none⟩), .pointer (some ⟨A'.b, 0, none⟩)] w (SpSamePost S T w) := by
  have CN := none_is h
  have CN' := none_is h'
  obtain ⟨c0, c1, c2, -, c4, -, -⟩ := h.cells
  obtain ⟨d0, d1, d2, -, d4, -, -⟩ := h'.cells
  obtain ⟨es, clock, hm, hst, hin, hsz⟩ := mi_map h
  obtain ⟨es', clock', hm', -, -, hsz'⟩ := mi_map h'
  have ln := fun n => run_len_mi (w := w.drewN n) (m := A.mi) hm
  have ln' := fun n => run_len_mi (w := w.drewN n) (m := A'.mi) hm'
  have HH := Lib.hid (And.intro h (And.intro h' (And.intro hl (And.intro hl' (And.intro hJ hJ')))))
  have HM := Lib.hid (And.intro hm (And.intro hst (And.intro hin (And.intro hsz hsz'))))
  clear h h' hl hl' hJ hJ' hm hm' hst hin
  by_cases e0 : S.gs = T.gs
  · have e0' : (S.gs != T.gs) = false := by simp [e0]
    by_cases e1 : S.sl = T.sl
    · have e1' : (S.sl != T.sl) = false := by simp [e1]
      by_cases e2 : S.F.n = T.F.n
      · have e2' : ((S.F.n : Int) != (T.F.n : Int)) = false := by simp; omega
        by_cases e3 : S.L.length = T.L.length
        · have e3' : ((es.size : Int) != (es'.size : Int)) = false := by simp; omega
          have HE := Lib.hid (And.intro e0 (And.intro e1 (And.intro e2 e3)))
          clear e0 e1 e2 e3 hsz hsz'
          go_enter Try.func22, Try.ntmps22
          go_wp2_with (first | ((with_reducible refine CN.mono ?_); rintro e w2 ⟨rfl, hw2⟩; subst w2) | ((with_reducible refine CN'.mono ?_); rintro e w2 ⟨rfl, hw2⟩; subst w2))
          go_quiet (fail)
          clear d0 d1 d2 d4 c0 c1 c2 ln ln' e0' e1' e2' e3' CN CN'
          have hrg := run_range_map (P := Try.prog) (w.drewN nq) 70 _ _ A.mi es clock Try.underlying70 HM.out.1
          go_wp2_with fail
          clear hrg
          have hlm : A.mi < w.heap.size := HH.out.1.mi.lt
          have hb4 : Below w.heap.size w ((w.drewN nq).alloc (.mapIter (some A.mi) clock #[] clock)) := (below_drewN_ _ _ _).alloc (Nat.le_refl _) _
          have hit4 : ((w.drewN nq).alloc (.mapIter (some A.mi) clock #[] clock)).heap[w.heap.size]? = some (.mapIter (some A.mi) clock #[] clock) := heap_alloc_new (w.drewN nq) _
          obtain ⟨r, hr⟩ : ∃ r, r = w.heap.size := ⟨_, rfl⟩
          have HR := Lib.hid hr
          generalize (w.drewN nq).alloc (.mapIter (some A.mi) clock #[] clock) = w4 at *
          rw [← hr] at hit4 ⊢
          clear hr
          go_loopw [] (fun wr => ∃ (seen : Array Nat) (c0 : Nat), clock ≤ c0 ∧ wr.heap[r]? = some (.mapIter (some A.mi) clock seen c0) ∧ Below w.heap.size w wr ∧ Hid (∀ x ∈ es.toList, seen.contains x.born = true → ∀ e ∈ S.L, x.key = spotV e.g e.s → SameE S T e)) (fun wr => (leftOf es (wr.iterSeen r)).size)
          case atStart => exact ⟨#[], clock, Nat.le_refl _, hit4, hb4, Lib.hid (fun x _ h => by simp at h)⟩
          case round =>
            clear hit4 hb4
            obtain ⟨seen, c0, hc0, hit, hbr, HS⟩ := hrel
            have hmr : wr.heap[A.mi]? = some (.map es clock) := (hbr.block _ hlm).trans HM.out.1
            have hlaw := run_next_at (P := Try.prog) wr 0 r A.mi clock c0 seen es clock hit hmr HM.out.2.1.1 hc0
            have hsn : wr.iterSeen r = seen := by unfold World.iterSeen; rw [hit]
            have HSN := Lib.hid hsn
            rcases hlaw with ⟨h0, hrun⟩ | ⟨x, hxl, w1, hw1, hrun⟩
            · have hnx : ∀ ty, (Instr.next (.pointer (some ⟨r, 0, none⟩)) false ty).run Try.prog wr = .ok (.tuple #[.bool false]) wr := fun _ => hrun
              have hall := all_seen es seen h0
              have HP : Hid (SameP S T) := Lib.hid ⟨HE.out.1, HE.out.2.1, HE.out.2.2.1, HE.out.2.2.2, fun e he => by
                obtain ⟨x, hx, hk, _⟩ := (HM.out.2.2.1 (spotV e.g e.s) (.int .i64 (e.nd : Int))).1 ⟨e, he, rfl, rfl⟩
                exact HS.out x hx (hall x hx) e he hk⟩
              have HB := Lib.hid hbr
              clear hit hmr hrun hall h0 hsn hbr
              go_wp2_with fail
              go_ret
              exact sp_yes HP.out HB.out
            · have hmem := mem_left hxl
              have hshr := left_shrinks es seen x hxl
              obtain ⟨en, hen, hk, hv⟩ := (HM.out.2.2.1 x.key x.val).2 ⟨x, hmem.1, rfl, rfl⟩
              have hrl : r < w1.heap.size := by
                have := (Array.getElem?_eq_some_iff.1 hit).1
                rcases hw1 with rfl | rfl
                · exact this
                · exact this
              have hb1 : Below w.heap.size w w1 := by
                rcases hw1 with rfl | rfl
                · exact hbr
                · exact hbr.drew
              have hsb := setBlock_is (.mapIter (some A.mi) clock (seen.push x.born) clock) hrl
              have hbn := setBlock_below (r := r) (.mapIter (some A.mi) clock (seen.push x.born) clock) hb1 (by rw [HR.out]; exact Nat.le_refl _)
              generalize setBlock w1 r (.mapIter (some A.mi) clock (seen.push x.born) clock) = wn at *
              have hnx : ∀ ty, (Instr.next (.pointer (some ⟨r, 0, none⟩)) false ty).run Try.prog wr = .ok (.tuple #[.bool true, .agg #[.int .i64 en.g, .int .i64 en.s], .int .i64 (en.nd : Int)]) wn := fun _ => by have h9 := hrun; rw [hk, hv] at h9; exact h9
              have hent : (Instr.entry (.pointer (some ⟨r, 0, none⟩))).run Try.prog wn = .ok (.tuple #[.agg #[.int .i64 en.g, .int .i64 en.s], .int .i64 (en.nd : Int)]) wn := by
                have := run_entry_at (P := Try.prog) wn r A.mi clock seen es clock x hsb ((hbn.block _ hlm).trans HM.out.1) hmem.1 HM.out.2.1.2.1
                rw [this, hk, hv]
                rfl
              have HX := Lib.hid (And.intro hmem (And.intro hshr (And.intro hk hen)))
              have hrn : r < wn.heap.size := (Array.getElem?_eq_some_iff.1 hsb).1
              -- the world with the key's box
              obtain ⟨w5, hw5⟩ : ∃ w5, w5 = wn.alloc (.cells #[.int .i64 en.g, .int .i64 en.s] 91) := ⟨_, rfl⟩
              have hb5 : Below w.heap.size w w5 := by rw [hw5]; exact hbn.alloc hbn.size _
              have hblk : Blk w5 wn.heap.size 91 #[.int .i64 en.g, .int .i64 en.s] := by rw [hw5]; exact Blk.new wn _ _
              have hit5 : w5.heap[r]? = some (.mapIter (some A.mi) clock (seen.push x.born) clock) := by rw [hw5]; exact (Below.heap_alloc wn _ _ hrn).trans hsb
              have H5 := Lib.hid (And.intro hb5 (And.intro hblk hit5))
              -- behind a mismatch
              have NO := Lib.hid (show ¬ SameE S T en → ¬ SameP S T from fun h hs => h (hs.2.2.2.2 en hen))
              -- the round's end
              have GO := Lib.hid (show SameE S T en → ∀ W, Below w5.heap.size w5 W → (∃ (seen : Array Nat) (c0 : Nat), clock ≤ c0 ∧ W.heap[r]? = some (.mapIter (some A.mi) clock seen c0) ∧ Below w.heap.size w W ∧ Hid (∀ x ∈ es.toList, seen.contains x.born = true → ∀ e ∈ S.L, x.key = spotV e.g e.s → SameE S T e)) ∧ (leftOf es (W.iterSeen r)).size < (leftOf es (wr.iterSeen r)).size from by
                intro hs W hW
                have hitW : W.heap[r]? = some (.mapIter (some A.mi) clock (seen.push x.born) clock) := (hW.block r (Array.getElem?_eq_some_iff.1 hit5).1).trans hit5
                refine ⟨⟨seen.push x.born, clock, Nat.le_refl _, hitW, hb5.trans (hW.mono hb5.size), Lib.hid fun y hy hse e he hke => ?_⟩, ?_⟩
                · rw [contains_push, Bool.or_eq_true] at hse
                  rcases hse with hse | hse
                  · exact HS.out y hy hse e he hke
                  · have hyx := born_inj HM.out.2.1.2.1 hy hmem.1 (beq_iff_eq.1 hse)
                    rw [hyx, hk] at hke
                    obtain ⟨k1, k2⟩ := spot_inj hke
                    have := HH.out.2.2.2.2.1.same_pl hen he k1 k2
                    rw [← this]
                    exact hs
                · rw [HSN.out]
                  have : W.iterSeen r = seen.push x.born := by unfold World.iterSeen; rw [hitW]
                  rw [this]
                  exact hshr)
              obtain ⟨hS0, hT0, hlS, hlT, hJS, hJT⟩ := HH.out
              have hS5 := hS0.below (hb5.mono (Nat.le_refl _))
              have hT5 := hT0.below (hb5.mono (Nat.le_refl _))
              have htS := hJS.rng en hen
              have htT : T.there en.g en.s = true := by
                have h9 := htS
                unfold Sp.there at h9 ⊢
                rw [← HE.out.1, ← HE.out.2.1]
                exact h9
              have fS := hJS.fnd_of hen
              obtain ⟨-, -, -, -, -, -, a6⟩ := hS5.cells
              obtain ⟨-, -, -, -, b4, -, b6⟩ := hT5.cells
              have x0 := hblk.cell 0
              have x1 := hblk.cell 1
              simp only [List.getElem?_toArray, List.getElem?_cons_zero, List.getElem?_cons_succ] at x0 x1
              have PS := fun W (hW : Below w5.heap.size w5 W) => parent_any (hS5.below hW) hlS hJS en.g en.s
              have PT := fun W (hW : Below w5.heap.size w5 W) => parent_any (hT5.below hW) hlT hJT en.g en.s
              have LCS := fun W (hW : Below w5.heap.size w5 W) => cap_yes (hS5.below hW) hlS hJS hen false
              simp only [Bool.false_eq_true, if_false, capV] at LCS
              have XW := Lib.hid (fun W (hW : Below w5.heap.size w5 W) => (And.intro ((hW.cell (p := ⟨wn.heap.size, 0, none⟩) hblk.lt).trans x0) ((hW.cell (p := ⟨wn.heap.size, 1, none⟩) hblk.lt).trans x1)))
              have CW := Lib.hid (fun W (hW : Below w5.heap.size w5 W) => (And.intro ((hW.cell (p := ⟨A.b, 6, none⟩) hS5.head.lt).trans a6) ((hW.cell (p := ⟨A'.b, 6, none⟩) hT5.head.lt).trans b6)))
              obtain ⟨⟨sg, ss, sb⟩, hPS⟩ : ∃ p, p = pOf S en.g en.s := ⟨_, rfl⟩
              obtain ⟨⟨tg, ts, tb⟩, hPT⟩ : ∃ p, p = pOf T en.g en.s := ⟨_, rfl⟩
              rw [← hPS] at PS
              rw [← hPT] at PT
              have HPP := Lib.hid (And.intro hPS hPT)
              have HPS := Lib.hid PS
              have HPT := Lib.hid PT
              have HLS := Lib.hid LCS
              have htail : True := trivial
              clear hmem hshr hk hv hrun hsb hbn hrn hb1 hw1 hrl hS0 hT0 htS fS hPS hPT PS PT LCS hmr hit hbr hsn hxl
              dsimp only at HPS HPT
              cases fT : fnd T.L en.g en.s with
              | none =>
                have lk := fun n => in_no (hT5.drewN n) hlT htT fT true
                simp only [if_true, spotV] at lk
                have HNE := Lib.hid (show ¬ SameE S T en from by rintro ⟨f, hf, _⟩; rw [fT] at hf; cases hf)
                clear fT hS5 hT5 hlS hlT hJS hJT htT hblk hit5 hb5
                go_wp2_with fail
                rw [← hw5]
                clear hw5 hnx hent
                go_quiet (fail)
                clear lk
                go_wp2_with (first | ((with_reducible refine (HPS.out _ (below_drewN_ _ _ _)).mono ?_); rintro e w6 ⟨rfl, hb6⟩; (have B6 := Lib.hid ((below_drewN_ w5 w5.heap.size _).trans (hb6.mono (Nat.le_refl _)))); (have x60 := (XW.out _ B6.out).1); (have x61 := (XW.out _ B6.out).2); clear hb6 x0 x1) | ((with_reducible refine (HPT.out _ B6.out).mono ?_); rintro e w7 ⟨rfl, hb7⟩; (have B7 := Lib.hid (B6.out.trans (hb7.mono B6.out.size))); (have y6 := (CW.out _ B7.out).1); (have z6 := (CW.out _ B7.out).2); clear hb7 x60 x61 a6 b6))
                go_quiet (fail)
                go_wp2_with fail
                go_ret
                exact sp_no (NO.out HNE.out) (H5.out.1.trans ((B7.out.trans (below_drewN_ _ _ _)).mono H5.out.1.size))
              | some f =>
                have hfm := (fnd_mem fT).1
                have lk := fun n => in_yes (hT5.drewN n) hlT htT fT true
                simp only [if_true, spotV] at lk
                have LCT := fun W (hW : Below w5.heap.size w5 W) => cap_yes (hT5.below hW) hlT hJT hfm false
                simp only [Bool.false_eq_true, if_false, capV] at LCT
                have HLT := Lib.hid LCT
                have EQ := fun W => cap_neq en.c f.c W
                have HSE := Lib.hid (show SameE S T en ↔ en.c = f.c ∧ sg = tg ∧ ss = ts ∧ sb = tb from by
                  unfold SameE
                  rw [← HPP.out.1, ← HPP.out.2]
                  constructor
                  · rintro ⟨f', hf', h1, h2⟩
                    rw [fT] at hf'
                    injection hf' with hf'
                    subst hf'
                    injection h2 with h2 h3
                    injection h3 with h3 h4
                    exact ⟨h1, h2, h3, h4⟩
                  · rintro ⟨h1, rfl, rfl, rfl⟩
                    exact ⟨f, fT, h1, rfl⟩)
                clear fT hS5 hT5 hlS hlT hJS hJT htT hblk hit5 hb5 LCT hfm
                go_wp2_with fail
                rw [← hw5]
                clear hw5 hnx hent
                go_quiet (fail)
                clear lk
                go_wp2_with (first | ((with_reducible refine (HPS.out _ (below_drewN_ _ _ _)).mono ?_); rintro e w6 ⟨rfl, hb6⟩; (have B6 := Lib.hid ((below_drewN_ w5 w5.heap.size _).trans (hb6.mono (Nat.le_refl _)))); (have x60 := (XW.out _ B6.out).1); (have x61 := (XW.out _ B6.out).2); clear hb6 x0 x1) | ((with_reducible refine (HPT.out _ B6.out).mono ?_); rintro e w7 ⟨rfl, hb7⟩; (have B7 := Lib.hid (B6.out.trans (hb7.mono B6.out.size))); (have y6 := (CW.out _ B7.out).1); (have z6 := (CW.out _ B7.out).2); clear hb7 x60 x61 a6 b6))
                have ls := fun n => HLS.out (w7.drewN n) (B7.out.trans (below_drewN_ _ _ _))
                have lt := fun n => HLT.out (w7.drewN n) (B7.out.trans (below_drewN_ _ _ _))
                by_cases q0 : en.c = f.c
                · rw [decide_eq_true q0] at EQ
                  simp only [Bool.not_true] at EQ
                  by_cases q1 : sg = tg
                  · have q1' : (sg != tg) = false := by simp [q1]
                    by_cases q2 : ss = ts
                    · have q2' : (ss != ts) = false := by simp [q2]
                      by_cases q3 : sb = tb
                      · have HNE := Lib.hid (HSE.out.2 ⟨q0, q1, q2, q3⟩)
                        subst q3
                        clear q0 q1 q2
                        cases sb
                        · go_quiet (fail)
                          go_wp2_with fail
                          exact GO.out HNE.out _ (B7.out.trans (below_drewN_ _ _ _))
                        · go_quiet (fail)
                          go_wp2_with fail
                          exact GO.out HNE.out _ (B7.out.trans (below_drewN_ _ _ _))
                      · have HNE := Lib.hid (fun h => q3 (HSE.out.1 h).2.2.2)
                        clear q0 q1 q2
                        cases sb <;> cases tb
                        · exact absurd rfl q3
                        · clear q3
                          go_quiet (fail)
                          go_wp2_with fail
                          go_ret
                          exact sp_no (NO.out HNE.out) (H5.out.1.trans ((B7.out.trans (below_drewN_ _ _ _)).mono H5.out.1.size))
                        · clear q3
                          go_quiet (fail)
                          go_wp2_with fail
                          go_ret
                          exact sp_no (NO.out HNE.out) (H5.out.1.trans ((B7.out.trans (below_drewN_ _ _ _)).mono H5.out.1.size))
                        · exact absurd rfl q3
                    · have q2' : (ss != ts) = true := by simp [q2]
                      have HNE := Lib.hid (fun h => q2 (HSE.out.1 h).2.2.1)
                      clear q0 q1 q2
                      go_quiet (fail)
                      go_wp2_with fail
                      go_ret
                      exact sp_no (NO.out HNE.out) (H5.out.1.trans ((B7.out.trans (below_drewN_ _ _ _)).mono H5.out.1.size))
                  · have q1' : (sg != tg) = true := by simp [q1]
                    have HNE := Lib.hid (fun h => q1 (HSE.out.1 h).2.1)
                    clear q0 q1
                    go_quiet (fail)
                    go_wp2_with fail
                    go_ret
                    exact sp_no (NO.out HNE.out) (H5.out.1.trans ((B7.out.trans (below_drewN_ _ _ _)).mono H5.out.1.size))
                · rw [decide_eq_false q0] at EQ
                  simp only [Bool.not_false] at EQ
                  have HNE := Lib.hid (fun h => q0 (HSE.out.1 h).1)
                  clear q0
                  go_quiet (fail)
                  go_wp2_with fail
                  go_ret
                  exact sp_no (NO.out HNE.out) (H5.out.1.trans ((B7.out.trans (below_drewN_ _ _ _)).mono H5.out.1.size))
        · have e3' : ((es.size : Int) != (es'.size : Int)) = true := by simp; omega
          have HNE := Lib.hid (show ¬ SameP S T from fun h => e3 h.2.2.2.1)
          clear e3 hsz hsz'
          go_enter Try.func22, Try.ntmps22
          go_wp2_with (first | ((with_reducible refine CN.mono ?_); rintro e w2 ⟨rfl, hw2⟩; subst w2) | ((with_reducible refine CN'.mono ?_); rintro e w2 ⟨rfl, hw2⟩; subst w2))
          go_quiet (fail)
          go_wp2_with fail
          go_ret
          exact sp_no HNE.out (below_drewN_ _ _ _)
      · have e2' : ((S.F.n : Int) != (T.F.n : Int)) = true := by simp; omega
        have HNE := Lib.hid (show ¬ SameP S T from fun h => e2 h.2.2.1)
        clear e2 hsz hsz'
        go_enter Try.func22, Try.ntmps22
        go_wp2_with (first | ((with_reducible refine CN.mono ?_); rintro e w2 ⟨rfl, hw2⟩; subst w2) | ((with_reducible refine CN'.mono ?_); rintro e w2 ⟨rfl, hw2⟩; subst w2))
        go_quiet (fail)
        go_wp2_with fail
        go_ret
        exact sp_no HNE.out (below_drewN_ _ _ _)
    · have e1' : (S.sl != T.sl) = true := by simp [e1]
      have HNE := Lib.hid (show ¬ SameP S T from fun h => e1 h.2.1)
      clear e1 hsz hsz'
      go_enter Try.func22, Try.ntmps22
      go_wp2_with (first | ((with_reducible refine CN.mono ?_); rintro e w2 ⟨rfl, hw2⟩; subst w2) | ((with_reducible refine CN'.mono ?_); rintro e w2 ⟨rfl, hw2⟩; subst w2))
      go_quiet (fail)
      go_wp2_with fail
      go_ret
      exact sp_no HNE.out (below_drewN_ _ _ _)
  · have e0' : (S.gs != T.gs) = true := by simp [e0]
    have HNE := Lib.hid (show ¬ SameP S T from fun h => e0 h.1)
    clear e0 hsz hsz'
    go_enter Try.func22, Try.ntmps22
    go_wp2_with (first | ((with_reducible refine CN.mono ?_); rintro e w2 ⟨rfl, hw2⟩; subst w2) | ((with_reducible refine CN'.mono ?_); rintro e w2 ⟨rfl, hw2⟩; subst w2))
    go_quiet (fail)
    go_wp2_with fail
    go_ret
    exact sp_no HNE.out (below_drewN_ _ _ _)
end
end Go.Proofs.Ytbknmfegckeogaa

/- The acts of both sides, each answer and each new table by one plain function. -/
namespace Go.Proofs.Ytbknmfegckeogaa
open Go.RowKit Go.Maps
set_option linter.unusedVariables false
set_option linter.unusedSimpArgs false

/-- What becomes of tables by an act. -/
structure Both (S S' : Sp) : Prop where
  j : J S'
  lim : Lim S'
  came : S'.came ≤ S.came + 1
  gs : S'.gs = S.gs
  sl : S'.sl = S.sl
  n : S'.F.n = S.F.n
theorem Both.refl {S : Sp} (h : J S) (hl : Lim S) : Both S S := ⟨h, hl, Nat.le_succ _, rfl, rfl, rfl⟩
def Sp.putR (S : Sp) (up : Nat) (pn g s : Int) (c : Cp) : Int × Sp := match S.F.free.getLast? with
  | some x => (0, S.put up pn x g s c)
  | none => (3, S)
def Sp.rootR (S : Sp) (g s : Int) (c : Cp) : Int × Sp := if S.freeE g s = 0 then (if mayC c = true then S.putR 0 (-1) g s c else (2, S)) else (S.freeE g s, S)
def Sp.deriveR (S : Sp) (g s g' s' : Int) (c : Cp) : Int × Sp := match fnd S.L g s with
  | some x => if S.freeE g' s' = 0 then (if mayC c = true then (if amongI c.r x.c.r = true then S.putR x.id (x.nd : Int) g' s' c else (13, S)) else (2, S)) else (S.freeE g' s', S)
  | none => (S.full g s, S)
def Sp.moveR (S : Sp) (g s z : Int) : Int × Sp := if S.full g s = 0 then (if S.freeE g z = 0 then (0, S.move g s z) else (S.freeE g z, S)) else (S.full g s, S)
noncomputable def Sp.ds (S : Sp) (x : En) : List Nat := open Classical in if h : ∃ a, Flat S.F (S.F.kids (x.nd : Int)) a then h.choose else []
theorem J.ds {S : Sp} (h : J S) {x : En} (hx : x ∈ S.L) : Flat S.F (S.F.kids (x.nd : Int)) (S.ds x) := by
  have he : ∃ a, Flat S.F (S.F.kids (x.nd : Int)) a := flat_ex h.wf _ (fun i hi => ((h.wf.kin _ _).1 hi).1)
  unfold Sp.ds
  rw [dif_pos he]
  exact he.choose_spec
noncomputable def Sp.revR (S : Sp) (g s : Int) : Int × Int × Sp := match fnd S.L g s with
  | some x => (((S.ds x).length : Int), 0, S.rev x (S.ds x))
  | none => (0, S.full g s, S)
theorem J.rev_L {S : Sp} (h : J S) {x : En} (hx : x ∈ S.L) {ds : List Nat} (hd : Flat S.F (S.F.kids (x.nd : Int)) ds) : S.offL x.id = (S.rev x ds).L := by
  show S.L.filter _ = S.L.filter _
  refine List.filter_congr fun e he => ?_
  congr 1
  rw [Bool.eq_iff_iff, h.abv hx he, ← desc_mem h.wf hd]
  simp
theorem full_some {S : Sp} (h : J S) {g s : Int} {x : En} (hf : fnd S.L g s = some x) : S.full g s = 0 := by simp [Sp.full, h.there_fnd hf, hf]
theorem full_ne {S : Sp} {g s : Int} (h : S.full g s ≠ 0) : fnd S.L g s = none ∨ S.there g s = false := by
  unfold Sp.full at h
  split at h
  · split at h
    · exact absurd rfl h
    · rename_i h2; exact .inl (by simpa using h2)
  · rename_i h2; exact .inr (by simpa using h2)
theorem J.full_none {S : Sp} (h : J S) {g s : Int} (hf : S.full g s ≠ 0) : fnd S.L g s = none := by
  cases hx : fnd S.L g s with
  | none => rfl
  | some x => exact absurd (full_some h hx) hf
theorem both_put {S : Sp} (h : J S) (hl : Lim S) {up : Nat} {pn g s : Int} {c : Cp} (hup : (up = 0 ∧ pn = -1) ∨ ∃ p ∈ S.L, up = p.id ∧ pn = (p.nd : Int) ∧ amongI c.r p.c.r = true) (hf : S.freeE g s = 0) (hc : okC c) : Both S (S.putR up pn g s c).2 := by
  unfold Sp.putR
  cases hx : S.F.free.getLast? with
  | none => exact .refl h hl
  | some x => exact ⟨h.put hx hup hf hc, ⟨hl.gs, hl.sl, hl.n⟩, Nat.le_refl _, rfl, rfl, rfl⟩
theorem both_root {S : Sp} (h : J S) (hl : Lim S) (g s : Int) (c : Cp) (hr : 0 ≤ c.r ∧ c.r < 256) : Both S (S.rootR g s c).2 := by
  unfold Sp.rootR
  split
  · split
    · rename_i h1 h2
      exact both_put h hl (.inl ⟨rfl, rfl⟩) h1 ⟨h2, hr⟩
    · exact .refl h hl
  · exact .refl h hl
theorem both_derive {S : Sp} (h : J S) (hl : Lim S) (g s g' s' : Int) (c : Cp) (hr : 0 ≤ c.r ∧ c.r < 256) : Both S (S.deriveR g s g' s' c).2 := by
  unfold Sp.deriveR
  split
  · rename_i x hx
    split
    · split
      · split
        · rename_i h1 h2 h3
          exact both_put h hl (.inr ⟨x, (fnd_mem hx).1, rfl, rfl, h3⟩) h1 ⟨h2, hr⟩
        · exact .refl h hl
      · exact .refl h hl
    · exact .refl h hl
  · exact .refl h hl
theorem both_move {S : Sp} (h : J S) (hl : Lim S) (g s z : Int) : Both S (S.moveR g s z).2 := by
  unfold Sp.moveR
  split
  · split
    · rename_i h1 h2
      exact ⟨h.move h2, ⟨hl.gs, hl.sl, hl.n⟩, Nat.le_succ _, rfl, rfl, rfl⟩
    · exact .refl h hl
  · exact .refl h hl
theorem del1_keep (S : Sp) (g s : Int) : (S.del1 g s).came = S.came ∧ (S.del1 g s).gs = S.gs ∧ (S.del1 g s).sl = S.sl ∧ (S.del1 g s).F.n = S.F.n := by
  unfold Sp.del1
  split <;> exact ⟨rfl, rfl, rfl, rfl⟩
theorem clr_keep (g : Int) : ∀ (l : List (Int × Cp)) (S : Sp), (S.clr g l).came = S.came ∧ (S.clr g l).gs = S.gs ∧ (S.clr g l).sl = S.sl ∧ (S.clr g l).F.n = S.F.n
  | [], S => ⟨rfl, rfl, rfl, rfl⟩
  | x :: l, S => by
    have h1 := clr_keep g l (S.del1 g x.1)
    have h2 := del1_keep S g x.1
    have e : S.clr g (x :: l) = (S.del1 g x.1).clr g l := rfl
    rw [e]
    exact ⟨h1.1.trans h2.1, h1.2.1.trans h2.2.1, h1.2.2.1.trans h2.2.2.1, h1.2.2.2.trans h2.2.2.2⟩
theorem both_del1 {S : Sp} (h : J S) (hl : Lim S) (g s : Int) : Both S (S.del1 g s) :=
  ⟨h.del1 g s, hl.del1 g s, by rw [(del1_keep S g s).1]; exact Nat.le_succ _, (del1_keep S g s).2.1, (del1_keep S g s).2.2.1, (del1_keep S g s).2.2.2⟩
theorem both_clr {S : Sp} (h : J S) (hl : Lim S) (g : Int) (l : List (Int × Cp)) : Both S (S.clr g l) :=
  ⟨h.clr g l, hl.clr g l, by rw [(clr_keep g l S).1]; exact Nat.le_succ _, (clr_keep g l S).2.1, (clr_keep g l S).2.2.1, (clr_keep g l S).2.2.2⟩
theorem both_rev {S : Sp} (h : J S) (hl : Lim S) (g s : Int) : Both S (S.revR g s).2.2 := by
  unfold Sp.revR
  split
  · rename_i x hx
    exact ⟨h.rev (fnd_mem hx).1 (h.ds (fnd_mem hx).1), ⟨hl.gs, hl.sl, hl.n⟩, Nat.le_succ _, rfl, rfl, rfl⟩
  · exact .refl h hl

section
variable {w w' : World} {R : Rd} {A : Ad} {S : Sp}
theorem onesV_nd (L : List En) (a b : En) (h : oneV a = oneV b) : onesV (L ++ [a]) = onesV (L ++ [b]) := by rw [onesV_app, onesV_app, onesV_one, onesV_one, h]
theorem RfAt.nd {up : Nat} {pn g s : Int} {c : Cp} {x : Nat} (h : RfAt w R { S with L := S.L ++ [⟨S.came + 1, up, 0, g, s, c⟩], came := S.came + 1 }) : RfAt w R (S.put up pn x g s c) := by
  have e : onesV (S.L ++ [⟨S.came + 1, up, 0, g, s, c⟩]) = onesV (S.L ++ [⟨S.came + 1, up, x, g, s, c⟩]) := onesV_nd _ _ _ rfl
  have e2 : (S.L ++ [(⟨S.came + 1, up, x, g, s, c⟩ : En)]).length = (S.L ++ [(⟨S.came + 1, up, 0, g, s, c⟩ : En)]).length := by simp
  refine ⟨?_, ?_⟩
  · have := h.head
    show Blk w R.b _ #[.int .i64 S.gs, .int .i64 S.sl, .int .i64 (S.F.n : Int), .slice R.A (S.L ++ [(⟨S.came + 1, up, x, g, s, c⟩ : En)]).length R.c, .int .i64 ((S.came + 1 : Nat) : Int)]
    rw [e2]
    exact this
  · have := h.row
    show w.ownsRow 0 _ 8 (.slice R.A (S.L ++ [(⟨S.came + 1, up, x, g, s, c⟩ : En)]).length R.c) (S.L ++ [(⟨S.came + 1, up, x, g, s, c⟩ : En)]).length (onesV (S.L ++ [(⟨S.came + 1, up, x, g, s, c⟩ : En)]))
    rw [e2, ← e]
    exact this
/-- An act of the program came to this. -/
def SpRes (w : World) (A : Ad) (S' : Sp) (w' : World) : Prop := ∃ v', SpAt w' { A with v := v' } S' ∧ SpGo w w' A v'
/-- An act of the reference came to this. -/
def RfRes (w : World) (R : Rd) (S' : Sp) (w' : World) : Prop := ∃ R', RfAt w' R' S' ∧ RfGo w w' R R'
theorem SpRes.stay (h : SpAt w A S) (hb : Below w.heap.size w w') : SpRes w A S w' := ⟨A.v, h.below hb, SpGo.of_below A hb⟩
theorem RfRes.stay (h : RfAt w R S) (hb : Below w.heap.size w w') : RfRes w R S w' := ⟨R, h.below hb, RfGo.of_below R hb⟩
theorem putR_sp (h : SpAt w A S) (hJ : J S) {up : Nat} {p g s : Int} {c : Cp} {z : Int} (hp : PutPost S A up p g s c w z w') : z = (S.putR up p g s c).1 ∧ SpRes w A (S.putR up p g s c).2 w' := by
  unfold Sp.putR
  rcases hp with ⟨h1, h2, h3⟩ | ⟨h1, h2, x, v', h3, h4, h5, h6⟩
  · rw [hJ.free_nil h2]
    exact ⟨h1, SpRes.stay h h3⟩
  · rw [h3]
    exact ⟨h1, v', h4, h5, h6⟩
theorem putR_rf (h : RfAt w R S) (hJ : J S) {up : Nat} {p g s : Int} {c : Cp} {z : Int} (hp : (¬ S.L.length < S.F.n ∧ z = 3 ∧ Below w.heap.size w w') ∨ (S.L.length < S.F.n ∧ z = 0 ∧ ∃ R', RfAt w' R' { S with L := S.L ++ [⟨S.came + 1, up, 0, g, s, c⟩], came := S.came + 1 } ∧ RfGo w w' R R')) : z = (S.putR up p g s c).1 ∧ RfRes w R (S.putR up p g s c).2 w' := by
  unfold Sp.putR
  rcases hp with ⟨h2, h1, h3⟩ | ⟨h2, h1, R', h3, h4⟩
  · rw [hJ.free_nil h2]
    exact ⟨h1, RfRes.stay h h3⟩
  · obtain ⟨x, hx⟩ := hJ.free_ne h2
    rw [hx]
    exact ⟨h1, R', h3.nd, h4⟩
theorem root_c (h : SpAt w A S) (hl : Lim S) (hJ : J S) (g s : Int) (c : Cp) (hn : 0 ≤ c.n) :
    Calls Try.prog 29 #[.pointer (some ⟨A.b, 0, none⟩), .int .i64 g, .int .i64 s, capV c] w fun e w' => e = .returned (.int .i64 (S.rootR g s c).1) ∧ SpRes w A (S.rootR g s c).2 w' := by
  refine (root_is h hl hJ g s c hn).mono ?_
  rintro e w' ⟨z, rfl, hp⟩
  unfold Sp.rootR
  rcases hp with ⟨h1, h2, h3⟩ | ⟨h1, h2, h3, h4⟩ | ⟨h1, h2, h3⟩
  · rw [if_neg (by rw [← h1]; exact h2), h1]
    exact ⟨rfl, SpRes.stay h h3⟩
  · rw [if_pos h1, if_neg (by rw [h2]; decide), h3]
    exact ⟨rfl, SpRes.stay h h4⟩
  · rw [if_pos h1, if_pos h2]
    obtain ⟨e1, e2⟩ := putR_sp h hJ h3
    exact ⟨by rw [e1], e2⟩
theorem derive_c (h : SpAt w A S) (hl : Lim S) (hJ : J S) (g s g' s' : Int) (c : Cp) (hn : 0 ≤ c.n) (hr : 0 ≤ c.r ∧ c.r < 256) :
    Calls Try.prog 31 #[.pointer (some ⟨A.b, 0, none⟩), .int .i64 g, .int .i64 s, .int .i64 g', .int .i64 s', capV c] w fun e w' => e = .returned (.int .i64 (S.deriveR g s g' s' c).1) ∧ SpRes w A (S.deriveR g s g' s' c).2 w' := by
  refine (derive_is h hl hJ g s g' s' c hn hr).mono ?_
  rintro e w' ⟨z, rfl, hp⟩
  unfold Sp.deriveR
  rcases hp with ⟨h1, h2, h3⟩ | ⟨h0, h1, h2, h3⟩ | ⟨h0, h1, h2, h3, h4⟩ | ⟨h0, h1, h2, x, hx, ⟨h3, h4, h5⟩ | ⟨h3, h4⟩⟩
  · rw [hJ.full_none (by rw [← h1]; exact h2), h1]
    exact ⟨rfl, SpRes.stay h h3⟩
  · obtain ⟨_, x, hx⟩ := full_zero h0
    rw [hx]
    dsimp only
    rw [if_neg (by rw [← h1]; exact h2), h1]
    exact ⟨rfl, SpRes.stay h h3⟩
  · obtain ⟨_, x, hx⟩ := full_zero h0
    rw [hx]
    dsimp only
    rw [if_pos h1, if_neg (by rw [h2]; decide), h3]
    exact ⟨rfl, SpRes.stay h h4⟩
  · rw [hx]
    dsimp only
    rw [if_pos h1, if_pos h2, if_neg (by rw [h3]; decide), h4]
    exact ⟨rfl, SpRes.stay h h5⟩
  · rw [hx]
    dsimp only
    rw [if_pos h1, if_pos h2, if_pos h3]
    obtain ⟨e1, e2⟩ := putR_sp h hJ h4
    exact ⟨by rw [e1], e2⟩
theorem rfPut_c (h : RfAt w R S) (hl : Lim S) (hJ : J S) (hcm : S.came ≤ 1000000) (g s : Int) (c : Cp) (hr : 0 ≤ c.r ∧ c.r < 256) :
    Calls Try.prog 39 #[.pointer (some ⟨R.b, 0, none⟩), .int .i64 0, .int .i64 g, .int .i64 s, capV c] w fun e w' => e = .returned (.int .i64 (S.rootR g s c).1) ∧ RfRes w R (S.rootR g s c).2 w' := by
  refine (rfPut_is h (hJ.few hl) (by have := hl.n; omega) hcm (fun e he => (hJ.okc e he).2) 0 g s c hr).mono ?_
  rintro e w' ⟨z, rfl, hp⟩
  unfold Sp.rootR
  rcases hp with ⟨h1, h2, h3⟩ | ⟨h1, h2, h3, h4⟩ | ⟨h1, h2, ⟨p, hp, hp0, _⟩, _, _⟩ | ⟨h1, h2, _, h3⟩
  · rw [if_neg (by rw [← h1]; exact h2), h1]
    exact ⟨rfl, RfRes.stay h h3⟩
  · rw [if_pos h1, if_neg (by rw [h2]; decide), h3]
    exact ⟨rfl, RfRes.stay h h4⟩
  · have := (hJ.idp p hp).1
    omega
  · rw [if_pos h1, if_pos h2]
    obtain ⟨e1, e2⟩ := putR_rf (p := -1) h hJ h3
    exact ⟨by rw [e1], e2⟩
theorem rfDerive_c (h : RfAt w R S) (hl : Lim S) (hJ : J S) (hcm : S.came ≤ 1000000) (g s g' s' : Int) (c : Cp) (hr : 0 ≤ c.r ∧ c.r < 256) :
    Calls Try.prog 40 #[.pointer (some ⟨R.b, 0, none⟩), .int .i64 g, .int .i64 s, .int .i64 g', .int .i64 s', capV c] w fun e w' => e = .returned (.int .i64 (S.deriveR g s g' s' c).1) ∧ RfRes w R (S.deriveR g s g' s' c).2 w' := by
  refine (rfDerive_is h (hJ.few hl) (by have := hl.n; omega) hcm (fun e he => (hJ.okc e he).2) g s g' s' c hr).mono ?_
  rintro e w' ⟨z, rfl, hp⟩
  unfold Sp.deriveR
  rcases hp with ⟨h1, h2, h3⟩ | ⟨h0, x, hx, hp⟩
  · rw [hJ.full_none (by rw [← h1]; exact h2), h1]
    exact ⟨rfl, RfRes.stay h h3⟩
  · rw [hx]
    dsimp only
    have hxm := (fnd_mem hx).1
    rcases hp with ⟨h1, h2, h3⟩ | ⟨h1, h2, h3, h4⟩ | ⟨h1, h2, ⟨p, hp, hp0, hpa⟩, h3, h4⟩ | ⟨h1, h2, hall, h3⟩
    · rw [if_neg (by rw [← h1]; exact h2), h1]
      exact ⟨rfl, RfRes.stay h h3⟩
    · rw [if_pos h1, if_neg (by rw [h2]; decide), h3]
      exact ⟨rfl, RfRes.stay h h4⟩
    · rw [hJ.same_id hp hxm hp0] at hpa
      rw [if_pos h1, if_pos h2, if_neg (by rw [hpa]; decide), h3]
      exact ⟨rfl, RfRes.stay h h4⟩
    · rw [if_pos h1, if_pos h2, if_pos (hall x hxm rfl)]
      obtain ⟨e1, e2⟩ := putR_rf (p := (x.nd : Int)) h hJ h3
      exact ⟨by rw [e1], e2⟩
theorem move_c (h : SpAt w A S) (hl : Lim S) (hJ : J S) (g s z : Int) :
    Calls Try.prog 25 #[.pointer (some ⟨A.b, 0, none⟩), .int .i64 g, .int .i64 s, .int .i64 z] w fun e w' => e = .returned (.int .i64 (S.moveR g s z).1) ∧ SpRes w A (S.moveR g s z).2 w' := by
  refine (move_is h hl hJ g s z).mono ?_
  rintro e w' ⟨y, rfl, ha, hp⟩
  unfold Sp.moveR
  rcases hp with ⟨h1, h2, h3⟩ | ⟨h0, h1, h2, h3⟩ | ⟨h0, h1, h2, h3⟩
  · rw [if_neg (by rw [← h1]; exact h2), h1]
    exact ⟨rfl, A.v, h3, fun k hk => .inl hk, ha⟩
  · rw [if_pos h0, if_neg (by rw [← h1]; exact h2), h1]
    exact ⟨rfl, A.v, h3, fun k hk => .inl hk, ha⟩
  · rw [if_pos h0, if_pos h1, h2]
    exact ⟨rfl, A.v, h3, fun k hk => .inl hk, ha⟩
theorem rfMove_c (h : RfAt w R S) (hl : Lim S) (hJ : J S) (g s z : Int) :
    Calls Try.prog 43 #[.pointer (some ⟨R.b, 0, none⟩), .int .i64 g, .int .i64 s, .int .i64 z] w fun e w' => e = .returned (.int .i64 (S.moveR g s z).1) ∧ RfRes w R (S.moveR g s z).2 w' := by
  unfold Sp.moveR
  by_cases hf : S.full g s = 0
  · rw [if_pos hf]
    by_cases hb : S.freeE g z = 0
    · rw [if_pos hb]
      refine (rfMove_yes h (hJ.few hl) hJ.pl g s z hf hb).mono ?_
      rintro e w' ⟨rfl, R', h1, h2⟩
      exact ⟨rfl, R', h1, h2⟩
    · rw [if_neg hb]
      refine (rfMove_busy h (hJ.few hl) g s z hf hb).mono ?_
      rintro e w' ⟨rfl, rfl⟩
      exact ⟨rfl, RfRes.stay h (Below.refl _ _)⟩
  · rw [if_neg hf]
    refine (rfMove_no h (hJ.few hl) g s z hf).mono ?_
    rintro e w' ⟨rfl, rfl⟩
    exact ⟨rfl, RfRes.stay h (Below.refl _ _)⟩
theorem revoke_c (h : SpAt w A S) (hl : Lim S) (hJ : J S) (g s : Int) :
    Calls Try.prog 21 #[.pointer (some ⟨A.b, 0, none⟩), .int .i64 g, .int .i64 s] w fun e w' => e = .returned (.tuple #[.int .i64 (S.revR g s).1, .int .i64 (S.revR g s).2.1]) ∧ SpRes w A (S.revR g s).2.2 w' := by
  unfold Sp.revR
  cases hf : fnd S.L g s with
  | none =>
    refine (revoke_no h hl g s (Go.Proofs.Ytbknmfegckeogaa.full_none hf)).mono ?_
    rintro e w' ⟨rfl, rfl⟩
    exact ⟨rfl, SpRes.stay h (Below.refl _ _)⟩
  | some x =>
    refine (revoke_yes h hl hJ g s (hJ.there_fnd hf) hf (hJ.ds (fnd_mem hf).1)).mono ?_
    rintro e w' ⟨rfl, v', h1, h2, h3⟩
    exact ⟨rfl, v', h1, h2, h3⟩
theorem rfRevoke_c (h : RfAt w R S) (hl : Lim S) (hJ : J S) (g s : Int) :
    Calls Try.prog 45 #[.pointer (some ⟨R.b, 0, none⟩), .int .i64 g, .int .i64 s] w fun e w' => e = .returned (.tuple #[.int .i64 (S.revR g s).1, .int .i64 (S.revR g s).2.1]) ∧ RfRes w R (S.revR g s).2.2 w' := by
  unfold Sp.revR
  cases hf : fnd S.L g s with
  | none =>
    refine (rfRevoke_no h (hJ.few hl) g s (Go.Proofs.Ytbknmfegckeogaa.full_none hf)).mono ?_
    rintro e w' ⟨rfl, rfl⟩
    exact ⟨rfl, RfRes.stay h (Below.refl _ _)⟩
  | some x =>
    have hx := (fnd_mem hf).1
    refine (rfRevoke_yes h (hJ.few hl) g s (hJ.there_fnd hf) hf).mono ?_
    rintro e w' ⟨rfl, R', h1, h2⟩
    have hg := hJ.gone hx (hJ.ds hx)
    have he := hJ.rev_L hx (hJ.ds hx)
    refine ⟨?_, R', h1.ext rfl rfl rfl he.symm rfl, h2⟩
    rw [he, show (S.L.length : Int) - ((S.rev x (S.ds x)).L.length : Int) = ((S.ds x).length : Int) by omega]
theorem del_c (h : SpAt w A S) (hl : Lim S) (hJ : J S) (g s : Int) :
    Calls Try.prog 33 #[.pointer (some ⟨A.b, 0, none⟩), .int .i64 g, .int .i64 s] w fun e w' => e = .returned (.int .i64 (S.full g s)) ∧ SpRes w A (S.del1 g s) w' := del1_is h hl hJ g s
theorem rfDel_c (h : RfAt w R S) (hl : Lim S) (hJ : J S) (g s : Int) :
    Calls Try.prog 44 #[.pointer (some ⟨R.b, 0, none⟩), .int .i64 g, .int .i64 s] w fun e w' => e = .returned (.int .i64 (S.full g s)) ∧ RfRes w R (S.del1 g s) w' := rfDel1_is h hl hJ g s
theorem clr_c (h : SpAt w A S) (hl : Lim S) (hJ : J S) (g : Int) :
    Calls Try.prog 34 #[.pointer (some ⟨A.b, 0, none⟩), .int .i64 g] w fun e w' => e = .returned (.int .i64 ((S.caps g).length : Int)) ∧ SpRes w A (S.clr g (S.caps g)) w' := clear_is h hl hJ g
theorem rfClr_c (h : RfAt w R S) (hl : Lim S) (hJ : J S) (g : Int) :
    Calls Try.prog 46 #[.pointer (some ⟨R.b, 0, none⟩), .int .i64 g] w fun e w' => e = .returned (.int .i64 ((S.caps g).length : Int)) ∧ RfRes w R (S.clr g (S.caps g)) w' := rfClear_is h hl hJ g
/-- What is in a slot. -/
def Sp.getC (S : Sp) (g s : Int) : Cp := match fnd S.L g s with
  | some x => x.c
  | none => Cp.zero
theorem get_c (h : SpAt w A S) (hl : Lim S) (hJ : J S) (g s : Int) :
    Calls Try.prog 15 #[.pointer (some ⟨A.b, 0, none⟩), .int .i64 g, .int .i64 s] w fun e w' => e = .returned (.tuple #[capV (S.getC g s), .int .i64 (S.full g s)]) ∧ Below w.heap.size w w' := by
  unfold Sp.getC
  cases hf : fnd S.L g s with
  | none => exact get_no h hl g s (Go.Proofs.Ytbknmfegckeogaa.full_none hf)
  | some x =>
    rw [full_some hJ hf]
    exact get_yes h hl hJ g s (hJ.there_fnd hf) hf
theorem under_c (h : SpAt w A S) (hl : Lim S) (hJ : J S) (g s g' s' : Int) :
    Calls Try.prog 23 #[.pointer (some ⟨A.b, 0, none⟩), .int .i64 g, .int .i64 s, .int .i64 g', .int .i64 s'] w fun e w' => e = .returned (.bool (S.undE g s g' s')) ∧ Below w.heap.size w w' := by
  cases hf : fnd S.L g s with
  | none =>
    rw [undE_no1 hf]
    refine (under_no h hl (.inl (Go.Proofs.Ytbknmfegckeogaa.full_none hf))).mono ?_
    rintro e w' ⟨rfl, rfl⟩
    exact ⟨rfl, Below.refl _ _⟩
  | some x =>
    cases hf' : fnd S.L g' s' with
    | none =>
      rw [undE_no2 hf']
      refine (under_no h hl (.inr (Go.Proofs.Ytbknmfegckeogaa.full_none hf'))).mono ?_
      rintro e w' ⟨rfl, rfl⟩
      exact ⟨rfl, Below.refl _ _⟩
    | some y =>
      have hx := (fnd_mem hf).1
      have hy := (fnd_mem hf').1
      have hd := hJ.ds hy
      have hdl : (S.ds y).length ≤ 100000 := by
        have h1 := hJ.gone hy hd
        have h2 := hJ.few hl
        omega
      rw [undE_yes hf hf']
      refine (under_yes h hl hJ (hJ.there_fnd hf) (hJ.there_fnd hf') hf hf' hd hdl).mono ?_
      rintro e w' ⟨rfl, hb⟩
      refine ⟨?_, hb⟩
      have : S.abv y.id x = decide (x.nd ∈ S.ds y) := by
        rw [Bool.eq_iff_iff, hJ.abv hy hx, decide_eq_true_eq, desc_mem hJ.wf hd]
      rw [this]
end
end Go.Proofs.Ytbknmfegckeogaa
