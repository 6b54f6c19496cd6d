/- ConfigEdges, by a walk. -/
import Derived.Test.YtoigapnpmhogdaaCfOutU
import Derived.Test.YtoigapnpmhogdaaCfKnown
import Derived.Deep.RegionHeld3
import Derived.Deep.CutRange
namespace Go.Proofs.Ytoigapnpmhogdaa
open Go.RowKit
set_option linter.unusedVariables false
set_option linter.unusedSimpArgs false

theorem out_is (c : Nat → Int) (P : Value) (i : Nat) (hi : i < 14) (w : World) : Calls Try.prog 20 #[.agg (cfV c P), .int .i64 i] w fun e w' => e = .returned (.int .i64 (outN i (c i))) ∧ Below w.heap.size w w' := by
  by_cases h : i < 10
  · exact outI_is c P i h w
  · exact outU_is c P i (by omega) hi w

theorem plain_in : ∀ k, k < 14 → inB k (plc k) = true := by decide +kernel
theorem upd_self (c : Nat → Int) (k : Nat) (n : Int) : upd c k n k = toN k n := if_pos rfl
theorem upd_in (k : Nat) (n : Int) (h : inB k (toN k n) = true) : wrongS (upd plc k n) [plP] = (⟨#[]⟩, -1) := by
  have hb : firstBad (upd plc k n) = none := bad_none _ fun j hj => by
    unfold upd
    split
    · rename_i e; subst e; exact h
    · exact plain_in j hj
  have hl : longI [plP] = -1 := by decide +kernel
  simp only [wrongS, hb, hl]
  decide
theorem upd_out (k : Nat) (hk : k < 14) (n : Int) (h : inB k (toN k n) = false) : wrongS (upd plc k n) [plP] = (cn k, -1) := by
  have hb : firstBad (upd plc k n) = some k := bad_hit _ k hk (by rw [upd_self]; exact h) fun j hj => by
    unfold upd
    rw [if_neg (by omega)]
    exact plain_in j (by omega)
  simp only [wrongS, hb]
theorem may_lo : ∀ k, k < 14 → mayN (upd plc k (lo k)) [plP] = 0 := by decide +kernel
theorem may_hi : ∀ k, k < 14 → mayN (upd plc k (hi k)) [plP] = 0 := by decide +kernel
theorem may_hi1 : ∀ k, k < 14 → mayN (upd plc k (hi k + 1)) [plP] = 2 := by decide +kernel
theorem may_lo1 : ∀ k, k < 14 → mayN (upd plc k (lo k - 1)) [plP] = 2 := by decide +kernel
theorem lo_pos : ∀ k, k < 14 → 1 ≤ lo k := by decide +kernel
theorem cn_ne : ∀ k, k < 14 → (cn k).toList.isEmpty = false := by
  intro k hk
  rw [ByteArray.toList_eq]
  revert k
  decide +kernel
theorem nameRow : ∀ k, k < 14 → ((cnL.map strV).toArray)[k]? = some (.string (cn k))
  | 0, _ => rfl
  | 1, _ => rfl
  | 2, _ => rfl
  | 3, _ => rfl
  | 4, _ => rfl
  | 5, _ => rfl
  | 6, _ => rfl
  | 7, _ => rfl
  | 8, _ => rfl
  | 9, _ => rfl
  | 10, _ => rfl
  | 11, _ => rfl
  | 12, _ => rfl
  | 13, _ => rfl
  | k + 14, h => absurd h (by omega)
theorem namesC (k : Nat) (hk : k < 14) (w : World) : Calls Try.prog 21 #[] w fun e w' => ∃ g, e = .returned (.slice (some ⟨g, 0, none⟩) 14 14) ∧ g < w'.heap.size ∧ w'.cell? ⟨g, k, none⟩ = some (.string (cn k)) ∧ Below w.heap.size w w' :=
  (names_is w).mono fun e w' ⟨g, h1, h2, h3, h4⟩ => ⟨g, h1, h3.lt, (h3.cell k).trans (nameRow k hk), h4⟩

set_option maxHeartbeats 4000000 in
theorem edgesOut_is (i n : Int) (hi0 : i < 0 ∨ 13 < i) (w : World) : Calls Try.prog 4 #[.int .i64 i, .int .u64 n] w fun e w' => e = .returned (.bool true) ∧ Below w.heap.size w w' := by
  have K := known_is w
  rcases hi0 with h | h
  · go_enter Try.func4, Try.ntmps4
    go_wp2_with (go_at_call 9; refine K.mono ?_; rintro e w1 ⟨rfl, hb⟩)
    go_ret
    exact ⟨rfl, hb⟩
  · have h0 : ¬ i < 0 := by omega
    go_enter Try.func4, Try.ntmps4
    go_wp2_with (go_at_call 9; refine K.mono ?_; rintro e w1 ⟨rfl, hb⟩)
    go_ret
    exact ⟨rfl, hb⟩

set_option maxHeartbeats 20000000 in
theorem edges_is (i : Nat) (n : Int) (hi14 : i < 14) (w : World) : Calls Try.prog 4 #[.int .i64 i, .int .u64 n] w fun e w' => e = .returned (.bool true) ∧ Below w.heap.size w w' := by
  have hb0 := Below.refl w.heap.size w
  have hi1 : (i : Int) < 14 := by omega
  have hi2 : ¬ (13 : Int) < (i : Int) := by omega
  have hi0 : ¬ (i : Int) < 0 := by omega
  have CL := leastC i hi14
  have CM := mostC i hi14
  have q1 := lo_hi i hi14
  have q2 := lo_pos i hi14
  have S1 := fun g wx => set_is plc (some ⟨g, 0, none⟩) 1 1 (lo i) wx i hi14
  have S2 := fun g wx => set_is plc (some ⟨g, 0, none⟩) 1 1 (hi i) wx i hi14
  have S3 := fun g wx => set_is plc (some ⟨g, 0, none⟩) 1 1 (hi i + 1) wx i hi14
  have S4 := fun g wx => set_is plc (some ⟨g, 0, none⟩) 1 1 (lo i - 1) wx i hi14
  have S5 := fun g wx => set_is plc (some ⟨g, 0, none⟩) 1 1 n wx i hi14
  have U1 := Lib.hid (upd_in i n)
  have U2 := Lib.hid (upd_out i hi14 n)
  have U3 := Lib.hid (outN_in i (toN i n))
  have U4 := Lib.hid (upd_self plc i n)
  have CO := fun P => out_is (upd plc i n) P i hi14
  have CN := namesC i hi14
  have HE := Lib.hid (cn_ne i hi14)
  have M1 := may_lo i hi14
  have M2 := may_hi i hi14
  have M3 := may_hi1 i hi14
  have M4 := may_lo1 i hi14
  obtain ⟨c1, e1⟩ : ∃ c1, c1 = upd plc i (lo i) := ⟨_, rfl⟩
  obtain ⟨c2, e2⟩ : ∃ c1, c1 = upd plc i (hi i) := ⟨_, rfl⟩
  obtain ⟨c3, e3⟩ : ∃ c1, c1 = upd plc i (hi i + 1) := ⟨_, rfl⟩
  obtain ⟨c4, e4⟩ : ∃ c1, c1 = upd plc i (lo i - 1) := ⟨_, rfl⟩
  obtain ⟨c5, e5⟩ : ∃ c1, c1 = upd plc i n := ⟨_, rfl⟩
  rw [← e5] at U1 U2 S5 U4 CO
  rw [← e1] at M1 S1
  rw [← e2] at M2 S2
  rw [← e3] at M3 S3
  rw [← e4] at M4 S4
  clear e1 e2 e3 e4 e5
  obtain ⟨l, hl⟩ : ∃ l, l = lo i := ⟨_, rfl⟩
  obtain ⟨h, hh⟩ : ∃ h, h = hi i := ⟨_, rfl⟩
  rw [← hl] at CL q1 q2 S1 S4
  rw [← hh] at CM q1 S2 S3
  clear hl hh
  have pe : ∀ P, cfV plc P = #[.int .i64 (plc 0), .int .i64 (plc 1), .int .i64 (plc 2), .int .i64 (plc 3), .int .i64 (plc 4), .int .i64 (plc 5), .int .i64 (plc 6), .int .i64 (plc 7), .int .i64 (plc 8), .int .i64 (plc 9), .int .u64 (plc 10), .int .u64 (plc 11), .int .u64 (plc 12), .int .u64 (plc 13), P] := fun _ => rfl
  simp only [pe] at S1 S2 S3 S4 S5
  clear pe
  obtain ⟨r1, r2, r3⟩ := q1
  have HM1 := Lib.hid M1
  have HM2 := Lib.hid M2
  have HM3 := Lib.hid M3
  have HM4 := Lib.hid M4
  clear M1 M2 M3 M4
  go_enter Try.func4, Try.ntmps4
  go_upto_region 3 with fail
  go_cut [5, 6] from 17 to 24 (fun a b wx => a = .int .u64 l ∧ b = .int .u64 h ∧ Below w.heap.size w wx)
  case first =>
    go_region_with (first | (go_at_call 16; refine (CL _).mono ?_; rintro e wa ⟨g1, rfl, hga, hca, hba⟩; (have hta : Below w.heap.size w wa := hb0.drew.trans hba)) | (go_at_call 17; refine (CM _).mono ?_; rintro e wb ⟨g2, rfl, hgb, hcb, hbb⟩; (have htb : Below w.heap.size w wb := hta.trans (hbb.mono hta.size)); (have hca2 := (hbb.cell (p := ⟨g1, i, none⟩) hga).trans hca)))
    all_goals
      go_wp2_with fail
      go_meet
      exact ⟨rfl, rfl, htb⟩
  case rest =>
    obtain ⟨rfl, rfl, htb⟩ := hcut
    clear CL CM
    go_wp2_with (go_at_call 18; refine (plain_is _).mono ?_; rintro e w1 ⟨g, g', cap, cur, rfl, hg, hg', hne, hB, hB', hcap, htake, hbel⟩; unfold cfV)
    have hp1 : PrAt w1 w1.heap.size (some ⟨g, 0, none⟩) [plP] := pl_at hB hB' hcap htake hB.lt hB'.lt
    replace hbel := htb.trans (hbel.mono htb.size)
    clear hg hg' hne hB hB' hcap htake htb
    have HB := Blk.new w1 25 (cfV plc (.slice (some ⟨g, 0, none⟩) 1 1))
    have hB := (Below.refl w1.heap.size w1).alloc (Nat.le_refl _) (.cells (cfV plc (.slice (some ⟨g, 0, none⟩) 1 1)) 25)
    obtain ⟨w2, hw2⟩ : ∃ w2, w2 = w1.alloc (.cells (cfV plc (.slice (some ⟨g, 0, none⟩) 1 1)) 25) := ⟨_, rfl⟩
    rw [← hw2] at HB hB
    unfold cfV at hw2
    rw [← hw2]
    clear hw2
    have CW := fun c wx (hx : Below w1.heap.size w1 wx) => wrongPl c (some ⟨g, 0, none⟩) wx ((hp1.below hx).more hx.size)
    have CY := fun c wx (hx : Below w1.heap.size w1 wx) => mayPl c (some ⟨g, 0, none⟩) wx ((hp1.below hx).more hx.size)
    have CY1 := CY c1; rw [HM1.out] at CY1
    have CY2 := CY c2; rw [HM2.out] at CY2
    have CY3 := CY c3; rw [HM3.out] at CY3
    have CY4 := CY c4; rw [HM4.out] at CY4
    obtain ⟨y0, y1, y2, y3, y4, y5, y6, y7, y8, y9, y10, y11, y12, y13, y14⟩ := cells15 HB
    refine (S1 _ _).mono ?_
    rintro e w3 ⟨rfl, hz⟩
    (clear y0 y1 y2 y3 y4 y5 y6 y7 y8 y9 y10 y11 y12 y13 y14; replace HB := HB.below hz HB.lt; replace hB := hB.trans (hz.mono hB.size); clear hz; obtain ⟨y0, y1, y2, y3, y4, y5, y6, y7, y8, y9, y10, y11, y12, y13, y14⟩ := cells15 HB)
    go_upto_region 7 with (first | (go_at_call 19; (first | ((fail_if_success have := k2); refine (S2 _ _).mono ?_; have k2 := trivial) | ((fail_if_success have := k3); refine (S3 _ _).mono ?_; have k3 := trivial) | (refine (S4 _ _).mono ?_)); rintro e wy ⟨rfl, hz⟩; clear y0 y1 y2 y3 y4 y5 y6 y7 y8 y9 y10 y11 y12 y13 y14; replace HB := HB.below hz HB.lt; replace hB := hB.trans (hz.mono hB.size); clear hz; obtain ⟨y0, y1, y2, y3, y4, y5, y6, y7, y8, y9, y10, y11, y12, y13, y14⟩ := cells15 HB) | (go_at_call 13; (first | ((fail_if_success have := j1); refine (CY1 _ hB).mono ?_; have j1 := trivial) | ((fail_if_success have := j2); refine (CY2 _ hB).mono ?_; have j2 := trivial) | ((fail_if_success have := j3); refine (CY3 _ hB).mono ?_; have j3 := trivial) | (refine (CY4 _ hB).mono ?_)); rintro e wy ⟨rfl, hz⟩; clear y0 y1 y2 y3 y4 y5 y6 y7 y8 y9 y10 y11 y12 y13 y14; replace HB := HB.below hz HB.lt; replace hB := hB.trans (hz.mono hB.size); clear hz; obtain ⟨y0, y1, y2, y3, y4, y5, y6, y7, y8, y9, y10, y11, y12, y13, y14⟩ := cells15 HB))
    clear S1 S2 S3 S4 CY CY1 CY2 CY3 CY4 HM1 HM2 HM3 HM4
    have CW5 := CW c5
    have CO5 := CO (.slice (some ⟨g, 0, none⟩) 1 1)
    clear CW CO
    obtain ⟨s, hs⟩ : ∃ s, s = cn i := ⟨_, rfl⟩
    rw [← hs] at U2 CN HE
    obtain ⟨ro, hro⟩ : ∃ r, r = outN i (c5 i) := ⟨_, rfl⟩
    rw [U4.out] at hro
    rw [U4.out, ← hro] at CO5
    rw [← hro] at U3
    clear hs hro U4
    cases hin : inB i (toN i n) with
    | true =>
      rw [U1.out hin] at CW5
      have hr0 : ro = 0 := of_decide_eq_true (by rw [U3.out, hin])
      subst hr0
      clear U1 U2 U3 HE hin CN
      go_wp2_with (first | (go_at_call 19; refine (S5 _ _).mono ?_; rintro e wy ⟨rfl, hz⟩; clear y0 y1 y2 y3 y4 y5 y6 y7 y8 y9 y10 y11 y12 y13 y14; replace HB := HB.below hz HB.lt; replace hB := hB.trans (hz.mono hB.size); clear hz; obtain ⟨y0, y1, y2, y3, y4, y5, y6, y7, y8, y9, y10, y11, y12, y13, y14⟩ := cells15 HB) | (go_at_call 11; refine (CW5 _ hB).mono ?_; rintro e wy ⟨rfl, hz⟩; clear y0 y1 y2 y3 y4 y5 y6 y7 y8 y9 y10 y11 y12 y13 y14; replace HB := HB.below hz HB.lt; replace hB := hB.trans (hz.mono hB.size); clear hz; obtain ⟨y0, y1, y2, y3, y4, y5, y6, y7, y8, y9, y10, y11, y12, y13, y14⟩ := cells15 HB) | (go_at_call 20; refine (CO5 _).mono ?_; rintro e wy ⟨rfl, hz⟩; clear y0 y1 y2 y3 y4 y5 y6 y7 y8 y9 y10 y11 y12 y13 y14; replace HB := HB.below hz HB.lt; replace hB := hB.trans (hz.mono hB.size); clear hz; obtain ⟨y0, y1, y2, y3, y4, y5, y6, y7, y8, y9, y10, y11, y12, y13, y14⟩ := cells15 HB) | (go_at_call 9; refine (known_is _).mono ?_; rintro e wy ⟨rfl, hz⟩; clear y0 y1 y2 y3 y4 y5 y6 y7 y8 y9 y10 y11 y12 y13 y14; replace HB := HB.below hz HB.lt; replace hB := hB.trans (hz.mono hB.size); clear hz; obtain ⟨y0, y1, y2, y3, y4, y5, y6, y7, y8, y9, y10, y11, y12, y13, y14⟩ := cells15 HB))
      go_ret
      exact ⟨rfl, hbel.trans (hB.mono hbel.size)⟩
    | false =>
      rw [U2.out hin] at CW5
      have hr0 : ro ≠ 0 := of_decide_eq_false (by rw [U3.out, hin])
      have hr1 : (ro == 0) = false := by simp [hr0]
      have he := HE.out
      clear U1 U2 U3 HE hin
      go_wp2_with (first | (go_at_call 19; refine (S5 _ _).mono ?_; rintro e wy ⟨rfl, hz⟩; clear y0 y1 y2 y3 y4 y5 y6 y7 y8 y9 y10 y11 y12 y13 y14; replace HB := HB.below hz HB.lt; replace hB := hB.trans (hz.mono hB.size); clear hz; obtain ⟨y0, y1, y2, y3, y4, y5, y6, y7, y8, y9, y10, y11, y12, y13, y14⟩ := cells15 HB) | (go_at_call 11; refine (CW5 _ hB).mono ?_; rintro e wy ⟨rfl, hz⟩; clear y0 y1 y2 y3 y4 y5 y6 y7 y8 y9 y10 y11 y12 y13 y14; replace HB := HB.below hz HB.lt; replace hB := hB.trans (hz.mono hB.size); clear hz; obtain ⟨y0, y1, y2, y3, y4, y5, y6, y7, y8, y9, y10, y11, y12, y13, y14⟩ := cells15 HB) | (go_at_call 20; refine (CO5 _).mono ?_; rintro e wy ⟨rfl, hz⟩; clear y0 y1 y2 y3 y4 y5 y6 y7 y8 y9 y10 y11 y12 y13 y14; replace HB := HB.below hz HB.lt; replace hB := hB.trans (hz.mono hB.size); clear hz; obtain ⟨y0, y1, y2, y3, y4, y5, y6, y7, y8, y9, y10, y11, y12, y13, y14⟩ := cells15 HB) | (go_at_call 9; refine (known_is _).mono ?_; rintro e wy ⟨rfl, hz⟩; clear y0 y1 y2 y3 y4 y5 y6 y7 y8 y9 y10 y11 y12 y13 y14; replace HB := HB.below hz HB.lt; replace hB := hB.trans (hz.mono hB.size); clear hz; obtain ⟨y0, y1, y2, y3, y4, y5, y6, y7, y8, y9, y10, y11, y12, y13, y14⟩ := cells15 HB) | (go_at_call 21; refine (CN _).mono ?_; rintro e wy ⟨gn, rfl, hgn, hcn, hz⟩; clear y0 y1 y2 y3 y4 y5 y6 y7 y8 y9 y10 y11 y12 y13 y14; replace HB := HB.below hz HB.lt; replace hB := hB.trans (hz.mono hB.size); clear hz; obtain ⟨y0, y1, y2, y3, y4, y5, y6, y7, y8, y9, y10, y11, y12, y13, y14⟩ := cells15 HB))
      go_ret
      exact ⟨rfl, hbel.trans (hB.mono hbel.size)⟩
end Go.Proofs.Ytoigapnpmhogdaa
