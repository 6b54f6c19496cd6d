/- Same of the references, by a walk: true just if both stand for the same. Condition: both are there, of one size. -/
import Derived.Test.YtoihldagpnkfoaaTreeInts
namespace Go.Proofs.Ytoihldagpnkfoaa
open Go.RowKit
set_option linter.unusedVariables false
set_option linter.unusedSimpArgs false

/-- The place is the same in both. -/
def sameAt (x y : Qd) : Prop := x.t = y.t ∧ x.p = y.p ∧ x.K = y.K
def SameQ (n : Nat) (Q Q' : Qw) : Prop := Q.rt.K = Q'.rt.K ∧ ∀ i, i < n → sameAt (Q.M i) (Q'.M i)
theorem nats_inj {a b : List Nat} : nats a = nats b ↔ a = b := by
  constructor
  · intro h
    induction a generalizing b with
    | nil => cases b with
      | nil => rfl
      | cons y b => simp [nats] at h
    | cons x a ih => cases b with
      | nil => simp [nats] at h
      | cons y b =>
        simp [nats] at h
        have h2 := ih (b := b) (by simp [nats]; exact h.2)
        have h3 : x = y := by have := h.1; omega
        rw [h3, h2]
  · intro h; rw [h]
/-- The references are the same just if the forests are. -/
theorem sameQ_iff {Q Q' : Qw} {F G : Fo} (h : QRep Q F) (k : QRep Q' G) (hF : WF F) (hG : WF G) (hn : F.n = G.n) : SameQ F.n Q Q' ↔ Alike F G := by
  constructor
  · rintro ⟨h1, h2⟩
    refine ⟨by rw [← h.rt, ← k.rt, h1], fun i hi => ?_⟩
    obtain ⟨e1, e2, e3⟩ := h2 i hi
    rw [h.t i hi, k.t i (by omega)] at e1
    rw [h.p i hi, k.p i (by omega), ← e1] at e2
    rw [h.K i hi, k.K i (by omega)] at e3
    exact ⟨e1, fun ht => by rw [if_pos ht, if_pos ht] at e2; exact e2, e3⟩
  · rintro ⟨h1, h2⟩
    refine ⟨by rw [h.rt, k.rt, h1], fun i hi => ?_⟩
    obtain ⟨e1, e2, e3⟩ := h2 i hi
    refine ⟨by rw [h.t i hi, k.t i (by omega), e1], ?_, by rw [h.K i hi, k.K i (by omega), e3]⟩
    rw [h.p i hi, k.p i (by omega), ← e1]
    by_cases ht : F.there i = true
    · rw [if_pos ht, if_pos ht, e2 ht]
    · rw [if_neg ht, if_neg ht]

/-- What Same answers. -/
def SameQPost (w : World) (n : Nat) (Q Q' : Qw) (e : Ending) (w' : World) : Prop := (∃ b, e = .returned (.bool b) ∧ (b = true ↔ SameQ n Q Q')) ∧ Below w.heap.size w w'

theorem sq_no {w w' : World} {n : Nat} {Q Q' : Qw} (h : ¬ SameQ n Q Q') (hb : Below w.heap.size w w') : SameQPost w n Q Q' (.returned (.bool false)) w' := ⟨⟨false, rfl, by simp [h]⟩, hb⟩
theorem sq_yes {w w' : World} {n : Nat} {Q Q' : Qw} (h : SameQ n Q Q') (hb : Below w.heap.size w w') : SameQPost w n Q Q' (.returned (.bool true)) w' := ⟨⟨true, rfl, by simp [h]⟩, hb⟩

set_option maxRecDepth 100000 in
set_option maxHeartbeats 2000000 in
theorem refSame_rows {w : World} {g qb n lc g' qb' lc' : Nat} {Q Q' : Qw} (h : QF w g qb n lc Q) (h' : QF w g' qb' n lc' Q') (hk : KLen n Q) (hk' : KLen n Q') :
    Calls Try.prog 30 #[.pointer (some ⟨g, 0, none⟩), .pointer (some ⟨g', 0, none⟩)] w (SameQPost w n Q Q') := by
  obtain ⟨c0, c1, -, -⟩ := h.cells
  obtain ⟨d0, d1, -, -⟩ := h'.cells
  have hn2 := h.n2
  have CI : ∀ W, Below w.heap.size w W → Calls Try.prog 26 #[.slice Q.rt.A Q.rt.K.length Q.rt.c, .slice Q'.rt.A Q'.rt.K.length Q'.rt.c] W fun e w' => e = .returned (.bool (decide (Q.rt.K = Q'.rt.K))) ∧ ∃ m, w' = W.drewN m := by
    intro W hW
    obtain ⟨-, r1, -⟩ := Cut.reads (A := Q.rt.A) (n := Q.rt.K.length) (c := Q.rt.c) (h.below hW).rt
    obtain ⟨-, r2, -⟩ := Cut.reads (A := Q'.rt.A) (n := Q'.rt.K.length) (c := Q'.rt.c) (h'.below hW).rt
    have := ints_is Q.rt.A Q'.rt.A Q.rt.c Q'.rt.c W.heap.size W.heap.size (nats Q.rt.K) (nats Q'.rt.K) W (by unfold Ints; rw [nats_len]; exact r1) (by unfold Ints; rw [nats_len]; exact r2) (by rw [nats_len]; have := hk.1; omega) (by rw [nats_len]; have := hk'.1; omega)
    rw [nats_len, nats_len] at this
    refine this.mono ?_
    rintro e w' ⟨rfl, hw⟩
    refine ⟨?_, hw⟩
    congr 2
    exact decide_eq_decide.2 nats_inj
  unfold Rw.v at c1 d1
  have HH := Lib.hid (And.intro h (And.intro h' (And.intro hk hk')))
  have HCI := Lib.hid CI
  clear h h' hk hk' CI
  have HR := Lib.hid (show ∀ i, i < n → ∀ W, Below w.heap.size w W → Calls Try.prog 26 #[.slice (Q.M i).A (Q.M i).K.length (Q.M i).c, .slice (Q'.M i).A (Q'.M i).K.length (Q'.M i).c] W fun e w' => e = .returned (.bool (decide ((Q.M i).K = (Q'.M i).K))) ∧ ∃ m, w' = W.drewN m from by
    intro i hi W hW
    obtain ⟨-, r1, -⟩ := Cut.reads (A := (Q.M i).A) (n := (Q.M i).K.length) (c := (Q.M i).c) ((HH.out.1.below hW).rows i hi)
    obtain ⟨-, r2, -⟩ := Cut.reads (A := (Q'.M i).A) (n := (Q'.M i).K.length) (c := (Q'.M i).c) ((HH.out.2.1.below hW).rows i hi)
    have := ints_is (Q.M i).A (Q'.M i).A (Q.M i).c (Q'.M i).c W.heap.size W.heap.size (nats (Q.M i).K) (nats (Q'.M i).K) W (by unfold Ints; rw [nats_len]; exact r1) (by unfold Ints; rw [nats_len]; exact r2) (by rw [nats_len]; have := HH.out.2.2.1.2 i hi; omega) (by rw [nats_len]; have := HH.out.2.2.2.2 i hi; omega)
    rw [nats_len, nats_len] at this
    refine this.mono ?_
    rintro e w' ⟨rfl, hw⟩
    refine ⟨?_, hw⟩
    congr 2
    exact decide_eq_decide.2 nats_inj)
  have hnn : ((n : Int) != (n : Int)) = false := by simp
  cases hb : decide (Q.rt.K = Q'.rt.K)
  · rw [hb] at HCI
    have hne : Q.rt.K ≠ Q'.rt.K := by simpa using hb
    have HNE := Lib.hid hne
    clear hb hne
    go_enter Try.func30, Try.ntmps30
    go_wp2_with fail
    go_quiet ((go_at_call 26; exact Calls.quiet_of (HCI.out _ (below_drewN w _ _))))
    go_wp2
    go_ret
    exact sq_no (fun hs => HNE.out hs.1) (below_drewN w _ _)
  · rw [hb] at HCI
    have hne : Q.rt.K = Q'.rt.K := by simpa using hb
    have HEQ := Lib.hid hne
    clear hb hne
    go_enter Try.func30, Try.ntmps30
    go_wp2_with fail
    go_quiet ((go_at_call 26; exact Calls.quiet_of (HCI.out _ (below_drewN w _ _))))
    go_wp2
    clear c0 c1 d0 d1
    go_loopw [5] (fun i wr => ∃ k : Nat, k ≤ n ∧ i = .int .i64 k ∧ (∀ j, j < k → sameAt (Q.M j) (Q'.M j)) ∧ Below w.heap.size w wr) (fun i _ => n - (intOf i).toNat)
    case atStart => exact ⟨0, Nat.zero_le _, rfl, fun j hj => absurd hj (Nat.not_lt_zero _), below_drewN w _ _⟩
    case round =>
      obtain ⟨k, hk, rfl, hall, hbr⟩ := hrel
      have HA := Lib.hid hall
      have HB := Lib.hid hbr
      have hq := HH.out.1.below hbr
      have hq' := HH.out.2.1.below hbr
      have c0 := hq.cells.1
      have d0 := hq'.cells.1
      by_cases hlt : k < n
      · obtain ⟨a0, a1, a2, a3⟩ := hq.at_ k hlt
        obtain ⟨b0, b1, b2, b3⟩ := hq'.at_ k hlt
        have CK := HR.out k hlt
        have hn1 := World.new_ne wr _ a0
        have hn2' := World.new_ne wr _ b0
        have HKK := Lib.hid (show ∀ b : Bool, b = true ↔ b = true from fun _ => Iff.rfl)
        obtain ⟨x, hx⟩ : ∃ x, x = Q.M k := ⟨_, rfl⟩
        obtain ⟨y, hy⟩ : ∃ y, y = Q'.M k := ⟨_, rfl⟩
        rw [← hx] at a0 a1 a2 a3 CK
        rw [← hy] at b0 b1 b2 b3 CK
        have HX := Lib.hid (And.intro hx hy)
        obtain ⟨xt, xp, xA, xc, xK, xf⟩ := x
        obtain ⟨yt, yp, yA, yc, yK, yf⟩ := y
        unfold Qd.row Rw.v at a2 b2
        simp only at a0 a1 a2 a3 b0 b1 b2 b3 CK
        have hk1 : (k : Int) < (n : Int) := by omega
        have hk0 : (0 : Int) ≤ (k : Int) := by omega
        have HCK := Lib.hid CK
        clear hq hq' hall hx hy CK hbr
        go_wp2_with fail
        go_region_held3 (fun w' => w'.cell? ⟨g, 0, none⟩ = some (.slice (some ⟨qb, 0, none⟩) n lc) ∧ w'.cell? ⟨g', 0, none⟩ = some (.slice (some ⟨qb', 0, none⟩) n lc') ∧ w'.cell? ⟨qb, k * 4, none⟩ = some (.bool xt) ∧ w'.cell? ⟨qb, k * 4 + 1, none⟩ = some (.int .i64 xp) ∧ w'.cell? ⟨qb, k * 4 + 2, none⟩ = some (.slice xA xK.length xc) ∧ w'.cell? ⟨qb, k * 4 + 3, none⟩ = some (.int .i64 xf) ∧ w'.cell? ⟨qb', k * 4, none⟩ = some (.bool yt) ∧ w'.cell? ⟨qb', k * 4 + 1, none⟩ = some (.int .i64 yp) ∧ w'.cell? ⟨qb', k * 4 + 2, none⟩ = some (.slice yA yK.length yc) ∧ w'.cell? ⟨qb', k * 4 + 3, none⟩ = some (.int .i64 yf)) (go_keep) (fail)
        all_goals
          clear a0 a1 a2 a3 b0 b1 b2 b3 c0 d0
          first
          | (obtain ⟨W, hW, hbx, hby, hbW⟩ : ∃ W, W = ((wr.alloc (.cells #[.bool xt, .int .i64 xp, .slice xA xK.length xc, .int .i64 xf] 68)).alloc (.cells #[.bool yt, .int .i64 yp, .slice yA yK.length yc, .int .i64 yf] 68)).drew ∧ Blk W (wr.heap.size) 68 #[.bool xt, .int .i64 xp, .slice xA xK.length xc, .int .i64 xf] ∧ Blk W (wr.heap.size + 1) 68 #[.bool yt, .int .i64 yp, .slice yA yK.length yc, .int .i64 yf] ∧ Below wr.heap.size wr W := ⟨_, rfl, (((Blk.new wr 68 #[.bool xt, .int .i64 xp, .slice xA xK.length xc, .int .i64 xf]).alloc (.cells #[.bool yt, .int .i64 yp, .slice yA yK.length yc, .int .i64 yf] 68)).drew), (by have h := Blk.new (wr.alloc (.cells #[.bool xt, .int .i64 xp, .slice xA xK.length xc, .int .i64 xf] 68)) 68 #[.bool yt, .int .i64 yp, .slice yA yK.length yc, .int .i64 yf]; rw [World.size_alloc] at h; exact h.drew), ((((Below.refl _ wr).alloc (Nat.le_refl _) (.cells #[.bool xt, .int .i64 xp, .slice xA xK.length xc, .int .i64 xf] 68)).alloc (by simp) (.cells #[.bool yt, .int .i64 yp, .slice yA yK.length yc, .int .i64 yf] 68)).drew)⟩
             rw [← hW])
          | (obtain ⟨W, hW, hbx, hby, hbW⟩ : ∃ W, W = ((wr.alloc (.cells #[.bool yt, .int .i64 yp, .slice yA yK.length yc, .int .i64 yf] 68)).alloc (.cells #[.bool xt, .int .i64 xp, .slice xA xK.length xc, .int .i64 xf] 68)).drew ∧ Blk W (wr.heap.size + 1) 68 #[.bool xt, .int .i64 xp, .slice xA xK.length xc, .int .i64 xf] ∧ Blk W (wr.heap.size) 68 #[.bool yt, .int .i64 yp, .slice yA yK.length yc, .int .i64 yf] ∧ Below wr.heap.size wr W := ⟨_, rfl, (by have h := Blk.new (wr.alloc (.cells #[.bool yt, .int .i64 yp, .slice yA yK.length yc, .int .i64 yf] 68)) 68 #[.bool xt, .int .i64 xp, .slice xA xK.length xc, .int .i64 xf]; rw [World.size_alloc] at h; exact h.drew), (((Blk.new wr 68 #[.bool yt, .int .i64 yp, .slice yA yK.length yc, .int .i64 yf]).alloc (.cells #[.bool xt, .int .i64 xp, .slice xA xK.length xc, .int .i64 xf] 68)).drew), ((((Below.refl _ wr).alloc (Nat.le_refl _) (.cells #[.bool yt, .int .i64 yp, .slice yA yK.length yc, .int .i64 yf] 68)).alloc (by simp) (.cells #[.bool xt, .int .i64 xp, .slice xA xK.length xc, .int .i64 xf] 68)).drew)⟩
             rw [← hW])
          clear hW
          have x0 := hbx.cell 0
          have x1 := hbx.cell 1
          have x2 := hbx.cell 2
          have y0 := hby.cell 0
          have y1 := hby.cell 1
          have y2 := hby.cell 2
          simp only [List.getElem?_toArray, List.getElem?_cons_zero, List.getElem?_cons_succ] at x0 x1 x2 y0 y1 y2
          have HBW := Lib.hid (HB.out.trans (hbW.mono HB.out.size))
          clear hbx hby hbW
          by_cases e1 : xt = yt
          · subst e1
            have f1 : (xt != xt) = false := by simp
            by_cases e2 : xp = yp
            · have f2 : (xp != yp) = false := by simpa using e2
              cases e3 : decide (xK = yK)
              · rw [e3] at HCK
                have e4 : ¬ xK = yK := by simpa using e3
                have HE := Lib.hid e4
                clear e2 e3 e4
                go_wp2_with (go_at_call 26; refine (HCK.out _ HBW.out).mono ?_; rintro e w' ⟨rfl, m, rfl⟩)
                go_ret
                refine sq_no (fun hs => HE.out ?_) (HBW.out.trans (below_drewN _ _ _))
                have := (hs.2 k hlt).2.2
                rw [← HX.out.1, ← HX.out.2] at this
                exact this
              · rw [e3] at HCK
                have e4 : xK = yK := by simpa using e3
                have HE := Lib.hid (And.intro e2 e4)
                clear e2 e3 e4
                go_wp2_with (go_at_call 26; refine (HCK.out _ HBW.out).mono ?_; rintro e w' ⟨rfl, m, rfl⟩)
                go_roundw
                case rel =>
                  refine ⟨k + 1, by omega, by go_num, fun j hj => ?_, HBW.out.trans (below_drewN _ _ _)⟩
                  by_cases ej : j = k
                  · rw [ej, ← HX.out.1, ← HX.out.2]
                    exact ⟨rfl, HE.out.1, HE.out.2⟩
                  · exact HA.out j (by omega)
                case measure => simp [intOf]; omega
            · have f2 : (xp != yp) = true := by simpa using e2
              have HE := Lib.hid e2
              clear e2
              go_wp2
              go_ret
              refine sq_no (fun hs => HE.out ?_) HBW.out
              have := (hs.2 k hlt).2.1
              rw [← HX.out.1, ← HX.out.2] at this
              exact this
          · have HE := Lib.hid e1
            cases xt <;> cases yt
            all_goals first
              | exact absurd rfl e1
              | (clear e1
                 go_wp2
                 go_ret
                 refine sq_no (fun hs => HE.out ?_) HBW.out
                 have := (hs.2 k hlt).1
                 rw [← HX.out.1, ← HX.out.2] at this
                 exact this)
      · have hkn : k = n := by omega
        subst hkn
        clear hq hq' hall hbr
        go_wp2
        go_ret
        exact sq_yes ⟨HEQ.out, HA.out⟩ HB.out

theorem refSame_is {w : World} {g qb g' qb' : Nat} {Q Q' : Qw} {F G : Fo} {T T' : Nat} (h : Ref w g qb Q F T) (h' : Ref w g' qb' Q' G T') (hF : WF F) (hG : WF G) (hn : F.n = G.n) :
    Calls Try.prog 30 #[.pointer (some ⟨g, 0, none⟩), .pointer (some ⟨g', 0, none⟩)] w fun e w' => (∃ b, e = .returned (.bool b) ∧ (b = true ↔ Alike F G)) ∧ Below w.heap.size w w' := by
  obtain ⟨lc, hq⟩ := h.qf
  obtain ⟨lc', hq'⟩ := h'.qf
  have k2 := klen h'.rep hG hq'.n2
  have h1 := hq'
  rw [← hn] at h1 k2
  refine (refSame_rows hq h1 (klen h.rep hF hq.n2) k2).mono ?_
  rintro e w' ⟨⟨b, rfl, hb⟩, hw⟩
  exact ⟨⟨b, rfl, hb.trans (sameQ_iff h.rep h'.rep hF hG hn)⟩, hw⟩
end Go.Proofs.Ytoihldagpnkfoaa
