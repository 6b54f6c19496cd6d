/- Drop of the program's forest, by a walk. Condition: the places are a forest's. -/
import Derived.Test.YtoihldagpnkfoaaTreeAdd2
import Derived.Test.YtoihldagpnkfoaaTreeDropL
import Derived.StillTailTactics
namespace Go.Proofs.Ytoihldagpnkfoaa
open Go.RowKit
set_option linter.unusedVariables false
set_option linter.unusedSimpArgs false

set_option maxHeartbeats 400000 in
theorem drop_no {w : World} {f lb n lc : Nat} {R : Raw} {fv : Value} (h : PF w f lb n lc R fv) (x : Int) (hx : hasR n R x = false) :
    Calls Try.prog 21 #[.pointer (some ⟨f, 0, none⟩), .int .i64 x] w fun e w' => e = .returned (.int .i64 4) ∧ w = w' := by
  have CK := check_is h x
  rw [hx] at CK
  clear h hx
  go_enter Try.func21, Try.ntmps21
  go_wp2_with (go_at_call 35; refine CK.mono ?_; rintro e w' ⟨rfl, rfl⟩)
  go_ret
  exact ⟨rfl, rfl⟩

/-- The world at the head of Drop's loop. -/
def DropAt (w : World) (f lb n lc : Nat) (fv : Value) (R : Raw) (y : Nd) (K : List Nat) (l c : Value) (wr : World) : Prop :=
  ∃ a b : List Nat, K = a ++ b ∧ c = .int .i64 (hd b) ∧ l = .int .i64 (lastOr y.l a) ∧ PF wr f lb n lc (dropL y.u R y.l a) fv ∧ Apart (own2 f lb) w wr ∧ Blk wr w.heap.size 61 y.cs

theorem own2_3 {f lb k : Nat} {v : Value} (h : own2 f lb k) : own3 f lb v k := by
  rcases h with h | h
  · exact .inl h
  · exact .inr (.inl h)
theorem drop_ps {w w4 : World} {f lb n lc : Nat} {R R' : Raw} {v : Value} {L : List Int} (h : PS w f lb n lc R v L) (ha : Apart (own2 f lb) w w4) (q : PF w4 f lb n lc R' v) : PS w4 f lb n lc R' v L :=
  ⟨q, h.cut.apart ha (fun k hk hs => by
    rcases hs with e | e
    · exact h.nf (by rw [hk, e])
    · exact h.nl (by rw [hk, e])), h.nf, h.nl⟩
/-- How many are still to come. -/
def restV (K : List Nat) (v : Value) : Nat := match v with | .int _ z => if z < 0 then 0 else K.length - K.idxOf z.toNat | _ => 0
theorem restV_hd {K a b : List Nat} (h : K = a ++ b) (hn : K.Nodup) : restV K (.int .i64 (hd b)) = b.length := by
  rcases b with _ | ⟨x, b⟩
  · simp [restV, hd]
  · subst h
    have hx : x ∉ a := fun hm => (List.nodup_append.1 hn).2.2 x hm x (by simp) rfl
    have h0 : ¬ ((x : Nat) : Int) < 0 := by omega
    have hi : (a ++ x :: b).idxOf x = a.length := by rw [List.idxOf_append, if_neg hx, List.idxOf_cons_self]; omega
    simp only [restV, hd_cons, h0, if_false, Int.toNat_natCast, hi, List.length_append, List.length_cons]
    omega

set_option maxRecDepth 100000 in
set_option maxHeartbeats 4000000 in
theorem drop_loop {w : World} {f lb n lc : Nat} {R : Raw} {v : Value} {L : List Int} (h : PS w f lb n lc R v L) (x : Nat) (hx : x < n) (K : List Nat) (hL : L.length ≤ 4096) (y : Nd) (hy : R.M x = y) (ht : y.t = true)
    (hd0 : y.d = hd K) (hK : ∀ i ∈ K, i < n) (hp : y.u = -1 ∨ (0 ≤ y.u ∧ y.u < (n : Int))) (hl : y.l = -1 ∨ (0 ≤ y.l ∧ y.l < (n : Int))) (hr : inF n y.r)
    (h1 : ∀ i ∈ K, (i : Int) ≠ y.l) (h2 : ∀ i ∈ K, (i : Int) ≠ y.u) (hn : K.Nodup) (hlk : ∀ a i b, K = a ++ i :: b → (R.M i).r = hd b) :
    Calls Try.prog 21 #[.pointer (some ⟨f, 0, none⟩), .int .i64 x] w fun e w' => e = .returned (.int .i64 0) ∧ ∃ v', PS w' f lb n lc (((dropL y.u R y.l K).join y.u (lastOr y.l K) y.r).put x Nd.zero) v' (L ++ [(x : Int)]) ∧ Fresh w v v' ∧ Apart (own3 f lb v) w w' := by
  have CK := check_is h.pf x
  have hh : hasR n R (x : Int) = true := by simp [hasR, hx, hy, ht]
  rw [hh] at CK
  have hpf := h.pf
  have hn2 := hpf.n2
  have d0 := hpf.cells.1
  obtain ⟨c0, c1, c2, c3, c4⟩ := hpf.at_ x hx
  rw [hy] at c0 c1 c2 c3 c4
  rw [hd0] at c2
  have hb0 : Below w.heap.size w (w.alloc (.cells y.cs 61)) := (Below.refl _ w).alloc (Nat.le_refl _) _
  have HI := Lib.hid (And.intro (hpf.below hb0) (And.intro (Blk.new w 61 y.cs) ((Apart.refl (own2 f lb) w).alloc (.cells y.cs 61))))
  have HPS := Lib.hid h
  obtain ⟨yt, yu, yd, yl, yr⟩ := y
  simp only at ht hd0 hp hl hr h1 h2 c0 c1 c2 c3 c4 HI ⊢
  subst ht hd0
  have HY := Lib.hid hy
  have HLK := Lib.hid hlk
  have HN := Lib.hid (And.intro h1 (And.intro h2 hn))
  have HP := Lib.hid hp
  have HL := Lib.hid hl
  have HR := Lib.hid hr
  have HK := Lib.hid hK
  clear h hh hpf hb0 hy hlk h1 h2 hn hp hl hr hK
  go_enter Try.func21, Try.ntmps21
  go_wp2_with (go_at_call 35; refine CK.mono ?_; rintro e w' ⟨rfl, rfl⟩)
  go_loopw [7, 8] (fun l c wr => DropAt w f lb n lc v R ⟨true, yu, hd K, yl, yr⟩ K l c wr) (fun _ c _ => restV K c)
  case atStart => exact ⟨[], K, rfl, rfl, rfl, HI.out.1, HI.out.2.2, HI.out.2.1⟩
  case round =>
    obtain ⟨a, b, hab, rfl, rfl, hP, hA, hB⟩ := hrel
    simp only at hP hB ⊢
    have b1 := hB.cell 1
    have b4 := hB.cell 4
    simp only [Nd.cs, List.getElem?_toArray, List.getElem?_cons_zero, List.getElem?_cons_succ] at b1 b4
    have e0 := hP.cells.1
    have HAB := Lib.hid hab
    have HA := Lib.hid hA
    have HB := Lib.hid hB
    have HPP := Lib.hid hP
    have hlast : inF n (lastOr yl a) := by
      rcases lastOr_cases a with rfl | ⟨z, hz, hh⟩
      · rcases HL.out with e | ⟨e1, e2⟩
        · exact .inl e
        · exact .inr ⟨yl.toNat, by simp only [lastOr]; omega, by omega⟩
      · exact .inr ⟨z, hh _, HK.out z (by rw [hab]; simp [hz])⟩
    have HLA := Lib.hid hlast
    have hpn : yu < (n : Int) := by rcases HP.out with e | e <;> omega
    obtain ⟨la, hla⟩ : ∃ la, la = lastOr yl a := ⟨_, rfl⟩
    rw [← hla]
    have HLL := Lib.hid hla
    clear hab hA hB hP hlast hla
    rcases b with _ | ⟨c, b⟩
    · have hKa : K = a := by rw [HAB.out]; simp
      subst hKa
      rw [show hd ([] : List Nat) = -1 from rfl]
      have CJ := join_is HPP.out yu la yr hpn (by rw [HLL.out]; exact HLA.out) HR.out
      go_wp2_with (first | (go_at_call 34; refine CJ.mono ?_; rintro e w4 ⟨⟨z2, rfl⟩, q4, a4⟩; clear e0 b1 b4; (have HQ4 := Lib.hid q4); (have HA4 := Lib.hid a4); clear q4 a4) | (go_at_call 36; refine (gone_is (drop_ps HPS.out (HA.out.trans HA4.out (fun k _ hk => hk)) HQ4.out) x hx hL).mono ?_; rintro e w5 ⟨⟨z3, rfl⟩, v5, h5, f5, a5⟩; (have HF5 := Lib.hid (And.intro h5 (And.intro f5 a5))); clear h5 f5 a5))
      go_ret
      obtain ⟨h5, f5, a5⟩ := HF5.out
      rw [HLL.out] at h5
      have hat := HA.out.trans HA4.out (fun k _ hk => hk)
      exact ⟨rfl, v5, h5, fun r hr => (f5 r hr).imp id (fun e => Nat.le_trans hat.size e), (hat.mono (fun k hk => own2_3 hk)).trans a5 (fun k _ hk => hk)⟩
    · have hcK : c ∈ K := by rw [HAB.out]; simp
      have hcn := HK.out c hcK
      rw [show hd (c :: b) = (c : Int) from rfl]
      have hb1 : ((c : Int) != -1) = true := by simp
      have hsnoc := dropL_snoc yu a R yl c
      rw [← HLL.out] at hsnoc
      have hnext := dropL_next yu (by rcases HP.out with e | e; exact .inl e; exact .inr e.1) a b c R yl (by rcases HL.out with e | e; exact .inl e; exact .inr e.1) (fun i hi => HN.out.1 i (by rw [HAB.out]; exact hi)) (fun i hi => HN.out.2.1 i (by rw [HAB.out]; exact hi)) (by rw [← HAB.out]; exact HN.out.2.2)
      rw [HLK.out a c b HAB.out] at hnext
      have HSN := Lib.hid (And.intro hsnoc hnext)
      have hm1 := restV_hd HAB.out HN.out.2.2
      have hAB2 : K = (a ++ [c]) ++ b := by rw [HAB.out]; simp
      have hm2 := restV_hd hAB2 HN.out.2.2
      have HM := Lib.hid (And.intro hm1 (And.intro hm2 hAB2))
      have hwf : ¬ own2 f lb w.heap.size := fun e => by
        rcases e with e | e
        · have := HPS.out.pf.head.lt; omega
        · have := HPS.out.pf.lt; omega
      have HWF := Lib.hid hwf
      have hlr : lb ≠ w.heap.size := fun e => hwf (.inr e.symm)
      clear hsnoc hnext hm1 hm2 hAB2 hwf
      go_wp2_with fail
      go_still_tail 9, (by kernel_rfl)
      change wpList _ _ _ _ _ wr.drew
      have p2 : PF wr.drew f lb n lc (dropL yu R yl a) v := HPP.out.keep rfl rfl (Nat.le_refl _)
      have B2 : Blk wr.drew w.heap.size 61 _ := HB.out.drew
      have A2 : Apart (own2 f lb) w wr.drew := HA.out.drew
      clear e0 b1 b4 HPP HB HA
      generalize wr.drew = w2 at *
      have b1 := B2.cell 1
      simp only [Nd.cs, List.getElem?_toArray, List.getElem?_cons_zero, List.getElem?_cons_succ] at b1
      have e0 := p2.cells.1
      have f2 := p2.fr (c * 5 + 1)
      have u2 := (p2.at_ c hcn).c1
      have p3 := p2.setU c hcn yu
      have CJ := join_is p3 yu la c hpn (by rw [HLL.out]; exact HLA.out) (.inr ⟨c, rfl, hcn⟩)
      have A3 : Apart (own2 f lb) w (w2.setCell ⟨lb, c * 5 + 1, none⟩ (.int .i64 yu)) := A2.setCell (p := ⟨lb, c * 5 + 1, none⟩) (.inl (.inr rfl)) _
      have B3 : Blk (w2.setCell ⟨lb, c * 5 + 1, none⟩ (.int .i64 yu)) w.heap.size 61 _ := B2.far (p := ⟨lb, c * 5 + 1, none⟩) (fun e => hlr e.symm) (.int .i64 yu)
      have b1' := B3.cell 1
      simp only [Nd.cs, List.getElem?_toArray, List.getElem?_cons_zero, List.getElem?_cons_succ] at b1'
      have HH := Lib.hid (And.intro A3 B3)
      clear p2 B2 A2 p3 A3 B3
      go_wp2_with (go_at_call 34; refine CJ.mono ?_; rintro e w4 ⟨⟨z2, rfl⟩, q4, a4⟩; clear e0 b1 b1' u2 f2; rw [← HSN.out.1] at q4; (have e0 := q4.cells.1); (have e4 := (q4.at_ c hcn).c4); rw [HSN.out.2] at e4; (have HQ4 := Lib.hid q4); (have HA4 := Lib.hid a4); clear q4 a4)
      go_roundw
      case rel =>
        refine ⟨a ++ [c], b, HM.out.2.2, rfl, by simp only [lastOr_snoc], HQ4.out, HH.out.1.trans HA4.out (fun k _ hk => hk), (HA4.out.block _ ?_ HWF.out).trans HH.out.2⟩
        exact HH.out.2.lt
      case measure => first | (rw [show Value.int .i64 (c : Int) = .int .i64 (hd (c :: b)) from rfl, HM.out.1, HM.out.2.1]; simp) | (simp only [HM.out.2.1]; have := HM.out.1; simp [hd_cons] at this; omega)
end Go.Proofs.Ytoihldagpnkfoaa
