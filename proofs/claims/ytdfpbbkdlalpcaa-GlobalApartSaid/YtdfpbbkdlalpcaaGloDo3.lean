/- The law's own do, a Put, by a walk; and do of any act. Conditions: both agree, of at most 90000; the act's rows are small. -/
import Derived.Test.YtdfpbbkdlalpcaaGloDo2
namespace Go.Proofs.Ytdfpbbkdlalpcaa
open Go.RowKit
set_option linter.unusedVariables false
set_option linter.unusedSimpArgs false

theorem own_apart {S : Nat → Prop} {w w' : World} {B : Nat} {e : TypeId} {size : Nat} {v : Value} {n : Nat} {xs : List Value} (h : w.ownsRow B e size v n xs) (hA : Apart S w w') (hS : ∀ k, v.ownBlock = some k → ¬ S k) : w'.ownsRow B e size v n xs := by
  refine ⟨h.1, ?_⟩
  rcases h.2 with hn | ⟨g, cap, cur, hv, hbg, hg, rest⟩
  · exact .inl hn
  · exact .inr ⟨g, cap, cur, hv, hbg, (hA.block g (Array.getElem?_eq_some_iff.1 hg).1 (hS g (by rw [hv]; rfl))).trans hg, rest⟩
theorem own_form {w : World} {B : Nat} {e : TypeId} {size : Nat} {O : Option Addr} {n c : Nat} {xs : List Value} (h : w.ownsRow B e size (.slice O n c) n xs) (hn : 0 < n) : ∃ g, O = some ⟨g, 0, none⟩ := by
  rcases h.2 with ⟨hv, h0⟩ | ⟨g, cap, cur, hv, _⟩
  · omega
  · injection hv with hO
    exact ⟨g, hO⟩

set_option maxRecDepth 100000 in
set_option maxHeartbeats 4000000 in
theorem do_1 (X : Option Addr) (xs : List Int) (xc : Nat) (g p : Int) (F : Option Addr) (aff : List Nat) (fc : Nat) (B q c : Nat) (N : List (Nat × Int)) (A : Option Addr) (cap : Nat) (w : World) (h : Both w B q c N A cap) (hn : N.length ≤ 90000)
    (hX : Ints w B X xs) (hx : xs.length ≤ 50) :
    Calls Try.prog 9 #[.pointer (some ⟨q, 0, none⟩), .pointer (some ⟨c, 0, none⟩), .agg #[.int .i64 1, .slice X xs.length xc, .int .i64 g, .int .i64 p, .slice F aff.length fc]] w (DoPost w B q c (N.length + 50)) := by
  obtain ⟨i0, hi0, hz0, hz1, hz2⟩ := info_parts infoInt
  have hb1 : Below w.heap.size w (w.alloc (.cells #[.int .i64 1, .slice X xs.length xc, .int .i64 g, .int .i64 p, .slice F aff.length fc] 34)) := (Below.refl _ w).alloc (Nat.le_refl _) _
  have hbx := Blk.new w 34 #[.int .i64 1, .slice X xs.length xc, .int .i64 g, .int .i64 p, .slice F aff.length fc]
  have H1 := h.below hb1
  have hvl : (vals N).length ≤ 100000 := by rw [vals_len]; omega
  have hX1 := hX.below (hb1.mono h.hB)
  obtain ⟨w1, hw1⟩ : ∃ w1, w1 = w.alloc (.cells #[.int .i64 1, .slice X xs.length xc, .int .i64 g, .int .i64 p, .slice F aff.length fc] 34) := ⟨_, rfl⟩
  have hsz1 : (w.alloc (.cells #[.int .i64 1, .slice X xs.length xc, .int .i64 g, .int .i64 p, .slice F aff.length fc] 34)).heap.size = w.heap.size + 1 := by simp
  rw [← hw1] at hb1 hbx H1 hX1 hsz1
  have HW1 := Lib.hid hw1
  have o1 := Lib.hid (intV_one xs)
  have m1 := Lib.hid (show 0 + xs.length ≤ maxLen from by unfold maxLen; omega)
  have m2 := Lib.hid (show (0 + xs.length) * 8 ≤ 140737488355328 from by omega)
  have HX1 := Lib.hid (show Reads (w.alloc (.cells #[.int .i64 1, .slice X xs.length xc, .int .i64 g, .int .i64 p, .slice F aff.length fc] 34)) B 1 X xs.length (intV xs) from by rw [← hw1]; exact hX1)
  have HH := Lib.hid (show Both w1 B q c N A cap ∧ Blk w1 w.heap.size 34 #[.int .i64 1, .slice X xs.length xc, .int .i64 g, .int .i64 p, .slice F aff.length fc] ∧ Ints w1 B X xs ∧ Below B w w1 ∧ w1.heap.size = w.heap.size + 1 from ⟨H1, hbx, hX1, hb1.mono h.hB, hsz1⟩)
  have hbn : ¬ bl q N w.heap.size := fun hk => by have := h.qu.lt _ hk; omega
  have hbc : w.heap.size ≠ c := fun hk => by have := h.rq.blk.lt; omega
  have HBN := Lib.hid hbn
  clear hb1 hbx H1 hX hX1 h hw1 hsz1 hbn
  go_enter Try.func9, Try.ntmps9
  go_wp2_with (at_builtin; refine wpList_append_any _ rfl (.const (.slice none 0 0)) (.tmp 21) 28 rfl (w.heap.size + 1) 3 i0 (.int .i64 0) 1 8 Try.underlying28 hi0 hz0 hz1 hz2 rfl (by decide) (.slice none 0 0) 0 [] rfl (World.ownsRow_nil _ _ _ _) B X xs.length xc (intV xs) rfl HX1.out o1.out m1.out m2.out (by simp) ?_; rw [← HW1.out]; intro v2 w2 hown2 hg2 hat2; (obtain ⟨O, oc, rfl⟩ := own_slice hown2); rw [Nat.zero_add, List.nil_append] at hown2; rw [Nat.zero_add]; (have HO2 := Lib.hid hown2); (have HG2 := Lib.hid hg2); clear hown2 hg2 hat2)
  obtain ⟨H1, hbx1, hX1, hb1, hs1⟩ := HH.out
  have hb2 : Below w1.heap.size w1 w2 := (Below.refl _ w1).grown HG2.out (Nat.le_refl _) (fun k e => by cases e)
  have H2 := H1.below hb2
  have hO : ∀ k, (Value.slice O xs.length oc).ownBlock = some k → w1.heap.size ≤ k ∧ k < w2.heap.size := fun k e => by
    have := HO2.out.lt k e
    omega
  have hOb : ∀ k, (Value.slice O xs.length oc).ownBlock = some k → ¬ bl q N k := fun k e hk => by
    have := hO k e
    have := H1.qu.lt k hk
    omega
  refine (put_is q N xs O oc w2.heap.size w2 H2.qu (by omega) (by omega) (Reads.of_own HO2.out) (Nat.le_refl _) (fun ad he _ => hOb ad.block (by rw [he]; rfl))).mono ?_
  rintro e w3 ⟨⟨v3, rfl⟩, M, hM⟩
  have hvM : vals M = vals N ++ xs := by rw [hM.vals, List.take_length]
  have hlM : M.length = N.length + xs.length := hM.len
  have hbx3 : Blk w3 w.heap.size 34 #[.int .i64 1, .slice X xs.length xc, .int .i64 g, .int .i64 p, .slice F aff.length fc] := (hM.apart.block _ (hbx1.below hb2 hbx1.lt).lt HBN.out).trans (hbx1.below hb2 hbx1.lt)
  have hX3 : Ints w3 B X xs := (hX1.below (hb2.mono H1.hB)).below (hM.apart.below H2.hB H2.lo)
  have hO3 := own_apart HO2.out hM.apart hOb
  have CP := refPut_is c B (vals N) xs A X cap xc B w3 (H2.rq_apart hM.apart) hvl (by omega) hX3 (Nat.le_trans H2.hB hM.apart.size) (Nat.le_trans H2.hB hM.apart.size)
  have d1 := hbx3.cell 1
  simp only [List.getElem?_toArray, List.getElem?_cons_zero, List.getElem?_cons_succ] at d1
  have hlo3 : ∀ k, bl q M k → B ≤ k := fun k hk => by
    rcases coming_bl hM k hk with h1 | h1
    · exact H2.lo k h1
    · have := H2.hB
      omega
  have HK := Lib.hid (show Both w2 B q c N A cap ∧ Apart (bl q N) w2 w3 ∧ Qu w3 q M ∧ (∀ k, bl q M k → B ≤ k) ∧ Below B w w2 from ⟨H2, hM.apart, hM.qu, hlo3, hb1.trans (hb2.mono H1.hB)⟩)
  have HO := Lib.hid hO
  have HO3 := Lib.hid hO3
  have HVM := Lib.hid hvM
  have HLM := Lib.hid hlM
  have HS3 := Lib.hid hM.apart.size
  clear H1 hbx1 hX1 hb1 hs1 hb2 H2 hO hOb hvM hlM hbx3 hX3 hO3 hlo3 hM
  go_wp2_with fail
  refine CP.mono ?_
  rintro e w4 ⟨⟨v4, rfl⟩, ⟨A4, cap4, hr4, ho4⟩, ha4⟩
  obtain ⟨H2, ha3, hq3, hlo3, hb2⟩ := HK.out
  rw [← HVM.out] at hr4 ho4
  obtain ⟨hB4, hbw4⟩ := both_step H2 ha3 hq3 hlo3 ha4 hr4
  have hOc : ∀ k, (Value.slice O xs.length oc).ownBlock = some k → k ≠ c := fun k e hk => by
    have h1 := own_blk_ne HO2.out H2.rq.blk (by decide)
    rw [hk] at e
    exact h1 e
  have hO4 := own_apart HO3.out ha4 hOc
  have HB4 := Lib.hid hB4
  have HBW := Lib.hid (hb2.trans hbw4)
  have HR4 := Lib.hid ho4
  have HA4 := Lib.hid ha4.size
  clear H2 ha3 hq3 hlo3 hb2 hB4 hbw4 hOc d1 CP hr4 ho4 ha4 HO3
  go_wp2
  go_loopw [8] (fun v wr => ∃ (k : Nat) (ys : List Int), k ≤ xs.length ∧ v = .int .i64 k ∧ ys.length = xs.length ∧ wr.ownsRow (w.heap.size + 1) 3 1 (.slice O xs.length oc) xs.length (intV ys) ∧ Apart (fun b => (Value.slice O xs.length oc).ownBlock = some b) w4 wr) (fun v _ => xs.length - (intOf v).toNat)
  case atStart => exact ⟨0, xs, Nat.zero_le _, rfl, rfl, hO4, Apart.refl _ _⟩
  case round =>
    obtain ⟨k, ys, hk, rfl, hyl, hown, hap⟩ := hrel
    have HYL := Lib.hid hyl
    have HAP := Lib.hid hap
    by_cases hlt : k < xs.length
    · obtain ⟨b, rfl⟩ := own_form hown (by omega)
      have hcell := hown.cellAt k (by omega)
      have hky : k < ys.length := by omega
      rw [intV, List.getElem?_map, List.getElem?_eq_getElem hky] at hcell
      have hfr := hown.frozenAt k
      have hst := hown.stored k (.int .i64 (wrap64 (ys[k] + 1)))
      have hset : (intV ys).set k (.int .i64 (wrap64 (ys[k] + 1))) = intV (ys.set k (wrap64 (ys[k] + 1))) := by simp [intV, List.map_set]
      rw [hset] at hst
      have HST := Lib.hid hst
      simp only [Option.map_some] at hcell
      obtain ⟨y, hy⟩ : ∃ y, y = ys[k] := ⟨_, rfl⟩
      rw [← hy] at hcell
      have HY := Lib.hid hy
      clear hst hset hy hown hap hyl
      go_wp2
      go_roundw
      case rel => exact ⟨k + 1, ys.set k (wrap64 (ys[k] + 1)), by omega, by go_num, by rw [List.length_set, HYL.out], by rw [HY.out]; exact HST.out.1, HAP.out.setCell (p := ⟨b, k, none⟩) (.inl rfl) _⟩
      case measure => simp [intOf]; omega
    · clear hyl
      have hOl : ∀ j, (Value.slice O xs.length oc).ownBlock = some j → j < w3.heap.size := fun j e => by
        have := (HO.out j e).2
        have := HS3.out
        omega
      have hfin : Both wr B q c M A4 cap4 := by
        have hB4 := HB4.out
        refine ⟨hB4.qu.keep fun j hj => HAP.out.block j (hB4.qu.lt j hj) (fun e => ?_), ⟨(HAP.out.block c hB4.rq.blk.lt (fun e => ?_)).trans hB4.rq.blk, own_mono (own_apart HR4.out HAP.out (fun j e1 e2 => ?_)) (Nat.le_trans HK.out.1.hB HK.out.2.1.size), hB4.rq.lo⟩, hB4.lo, Nat.le_trans hB4.hB HAP.out.size⟩
        · obtain ⟨b, rfl⟩ : ∃ b, O = some b := by
            cases O with
            | none => cases e
            | some b => exact ⟨b, rfl⟩
          rcases hown.2 with ⟨hv, _⟩ | ⟨g', cap', cur, hv, _, hg', _⟩
          · cases hv
          · injection hv with hO
            injection hO with hO
            subst hO
            have e' : g' = j := by injection e
            subst e'
            have hb' := own_apart hO4 (Apart.refl (fun _ => False) w4) (fun _ _ => id)
            rcases hO4.2 with ⟨hv, _⟩ | ⟨g2, _, cur2, hv2, _, hg2, _⟩
            · cases hv
            · injection hv2 with hO2
              injection hO2 with hO2
              injection hO2 with hO2
              subst hO2
              rcases bl_types hB4.qu hj hg2 with e | e <;> exact absurd e (by decide)
        · exact own_blk_ne hO4 hB4.rq.blk (by decide) e
        · have h1 := (HR4.out.lt j e1).1
          have h2 := hOl j e2
          omega
      have HF := Lib.hid hfin
      have HBF := Lib.hid (HBW.out.trans (HAP.out.below (B := B) HB4.out.hB (fun j e => by
        have h1 := (HO.out j e).1
        have h2 := HH.out.1.hB
        omega)))
      clear hown hap hfin hOl
      go_wp2
      go_ret
      exact ⟨rfl, ⟨_, _, _, HF.out, by rw [HLM.out]; omega⟩, HBF.out⟩

/-- Any act. -/
theorem do_is (a : ActD) (B q c : Nat) (N : List (Nat × Int)) (A : Option Addr) (cap : Nat) (w : World) (h : Both w B q c N A cap) (hn : N.length ≤ 90000) (hR : ActR w B a) (hx : a.xs.length ≤ 50) :
    Calls Try.prog 9 #[.pointer (some ⟨q, 0, none⟩), .pointer (some ⟨c, 0, none⟩), .agg a.vs.toArray] w (DoPost w B q c (N.length + 50)) := by
  have wk : ∀ e w', DoPost w B q c N.length e w' → DoPost w B q c (N.length + 50) e w' := fun e w' ⟨h1, ⟨N', A', cap', h2, h3⟩, h4⟩ => ⟨h1, ⟨N', A', cap', h2, by omega⟩, h4⟩
  obtain ⟨k, X, xs, xc, g, p, F, aff, fc⟩ := a
  by_cases k1 : k = 1
  · subst k1
    exact do_1 X xs xc g p F aff fc B q c N A cap w h hn hR.xs hx
  by_cases k2 : k = 2
  · subst k2
    exact (do_2 X xs xc g p F aff fc B q c N A cap w h hn hR.aff hR.b8 hR.la).mono wk
  by_cases k3 : k = 3
  · subst k3
    exact (do_3 X xs xc g p F aff fc B q c N A cap w h hn).mono wk
  by_cases k4 : k = 4
  · subst k4
    exact (do_4 X xs xc g p F aff fc B q c N A cap w h hn).mono wk
  by_cases k5 : k = 5
  · subst k5
    exact (do_5 X xs xc g p F aff fc B q c N A cap w h hn hR.aff hR.b8 hR.la).mono wk
  exact (do_0 k X xs xc g p F aff fc B q c N A cap w h hn k1 k2 k3 k4 k5).mono wk
end Go.Proofs.Ytdfpbbkdlalpcaa
