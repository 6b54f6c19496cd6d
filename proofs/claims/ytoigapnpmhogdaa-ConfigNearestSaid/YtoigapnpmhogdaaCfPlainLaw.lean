/- ConfigPlain, by a walk. -/
import Derived.Test.YtoigapnpmhogdaaCfSame3
import Derived.Test.YtoigapnpmhogdaaCfKnown
import Derived.Deep.CutRange
namespace Go.Proofs.Ytoigapnpmhogdaa
open Go.RowKit
set_option linter.unusedVariables false
set_option linter.unusedSimpArgs false

theorem three (w : World) (o : Obj) (cb cc : Array Value) (tb tc : TypeId) :
    Blk (((w.alloc o).alloc (.cells cb tb)).alloc (.cells cc tc)) (w.heap.size + 1) tb cb ∧ Blk (((w.alloc o).alloc (.cells cb tb)).alloc (.cells cc tc)) (w.heap.size + 1 + 1) tc cc ∧ Below w.heap.size w (((w.alloc o).alloc (.cells cb tb)).alloc (.cells cc tc)) := by
  refine ⟨Blk.alloc (new2 w o tb cb) _, ?_, (below2 w _ _).alloc (by simp; omega) _⟩
  have := Blk.new ((w.alloc o).alloc (.cells cb tb)) tc cc
  rwa [show ((w.alloc o).alloc (.cells cb tb)).heap.size = w.heap.size + 1 + 1 from by simp] at this

set_option maxHeartbeats 1000000 in
theorem refPlain_is (w : World) :
    Calls Try.prog 24 #[] w fun e w' => ∃ g, e = .returned (.agg (cfV plc (.slice (some ⟨g, 0, none⟩) 1 1))) ∧ PrAt w' w'.heap.size (some ⟨g, 0, none⟩) [plP] ∧ Below w.heap.size w w' := by
  obtain ⟨d, hu1, hu2⟩ := underCf
  go_enter Try.func24, Try.ntmps24
  go_wp2_with fail
  obtain ⟨t1, t2, t3⟩ := three w (.cells (cfV plc (.slice (some ⟨w.heap.size + 1 + 1, 0, none⟩) 1 1)) 25) (plP.map byteV).toArray #[.slice (some ⟨w.heap.size + 1, 0, none⟩) 8 8] 5 43
  exact bodyPost_ret (results_cell_row (P := Try.prog) rfl _ _ w.heap.size 25 (cfV plc (.slice (some ⟨w.heap.size + 1 + 1, 0, none⟩) 1 1)) (0, 0) d rfl (((Blk.new w 25 (cfV plc (.slice (some ⟨w.heap.size + 1 + 1, 0, none⟩) 1 1))).alloc _).alloc _) hu1 (by cases d <;> first | rfl | exact absurd hu2 Bool.false_ne_true) (by kernel_rfl)) rfl ⟨_, rfl, pl_at t2 t1 (Nat.le_refl _) rfl t2.lt t1.lt, t3⟩

theorem plain_pr (w : World) : Calls Try.prog 18 #[] w fun e w' => ∃ g, e = .returned (.agg (cfV plc (.slice (some ⟨g, 0, none⟩) 1 1))) ∧ PrAt w' w'.heap.size (some ⟨g, 0, none⟩) [plP] ∧ Below w.heap.size w w' :=
  (plain_is w).mono fun e w' ⟨g, g', cap, cur, h1, _, _, _, h2, h3, h4, h5, h6⟩ => ⟨g, h1, pl_at h2 h3 h4 h5 h2.lt h3.lt, h6⟩

theorem one_small (x : List UInt8) (hx : x.length < 2 ^ 62) : ([x] : List (List UInt8)).length < 2 ^ 62 := by simp
theorem rsPl (A A' : Option Addr) (w : World) (h : PrAt w w.heap.size A [plP]) (h' : PrAt w w.heap.size A' [plP]) : Calls Try.prog 15 #[.agg (cfV plc (.slice A 1 1)), .agg (cfV plc (.slice A' 1 1))] w fun e w' => e = .returned (.bool true) ∧ Below w.heap.size w w' :=
  (refSame_is plc plc A A' 1 1 [plP] [plP] w h h' (by simp) (by simp)).mono fun e w' ⟨h1, h2⟩ => ⟨h1.trans (by rw [show (sameN plc plc && decide ([plP] = [plP])) = true from by decide +kernel]), h2⟩
theorem sPl (A A' : Option Addr) (w : World) (h : PrAt w w.heap.size A [plP]) (h' : PrAt w w.heap.size A' [plP]) : Calls Try.prog 25 #[.agg (cfV plc (.slice A 1 1)), .agg (cfV plc (.slice A' 1 1))] w fun e w' => e = .returned (.bool true) ∧ Below w.heap.size w w' :=
  (same_is plc plc A A' 1 1 [plP] [plP] w h h' (by simp) (by simp)).mono fun e w' ⟨h1, h2⟩ => ⟨h1.trans (by rw [show (sameN plc plc && decide ([plP] = [plP])) = true from by decide +kernel]), h2⟩

def plZ : List UInt8 := [0, 0, 0, 0, 5, 0, 255, 254]
def c9 (k : Nat) : Int := if k = 0 then 9 else plc k
theorem sZ (A A' : Option Addr) (w : World) (h : PrAt w w.heap.size A [plZ]) (h' : PrAt w w.heap.size A' [plP]) : Calls Try.prog 25 #[.agg (cfV c9 (.slice A 1 1)), .agg (cfV plc (.slice A' 1 1))] w fun e w' => e = .returned (.bool false) ∧ Below w.heap.size w w' :=
  (same_is c9 plc A A' 1 1 [plZ] [plP] w h h' (by simp) (by simp)).mono fun e w' ⟨h1, h2⟩ => ⟨h1.trans (by rw [show (sameN c9 plc && decide ([plZ] = [plP])) = false from by decide +kernel]), h2⟩
theorem mZ (w : World) : Calls Try.prog 13 #[.agg (cfV (fun _ => 0) (.slice none 0 0))] w fun e w' => e = .returned (.int .i64 2) ∧ Below w.heap.size w w' :=
  (may_is (fun _ => 0) none 0 [] w (fun h => absurd rfl h) (by simp) (by simp)).mono fun e w' ⟨h1, h2⟩ => ⟨h1.trans (by rw [show mayN (fun _ => 0) [] = 2 from by decide +kernel]), h2⟩

/-- The plain programs, the first byte away. -/
theorem plz_at {w : World} {g g' cap B : Nat} {cur : Array Value} (h1 : Blk w g 43 #[.slice (some ⟨g', 0, none⟩) 8 cap]) (h2 : Blk w g' 5 cur) (hc : 8 ≤ cap) (ht : cur.toList.take 8 = plZ.map byteV) (hg : g < B) (hg' : g' < B) : PrAt w B (some ⟨g, 0, none⟩) [plZ] := fun _ => by
  refine ⟨g, 0, rfl, hg, fun i hi => ?_⟩
  obtain rfl : i = 0 := by simp at hi; exact hi
  refine ⟨some ⟨g', 0, none⟩, cap, h1.cell 0, hc, ⟨rfl, fun _ => ⟨_, rfl, hg', fun j u hu => ?_⟩⟩, fun h => nomatch h⟩
  have hj : j < 8 := by
    rcases Nat.lt_or_ge j 8 with h | h
    · exact h
    · rw [List.getElem?_eq_none (by simpa [plZ] using h)] at hu; cases hu
  have e : (⟨g', 0, none⟩ : Addr).add j = ⟨g', j, none⟩ := by unfold Addr.add; split <;> simp_all
  rw [e, h2.cell j, ← Array.getElem?_toList, ← List.getElem?_take_of_lt hj, ht]
  exact hu
theorem cur_set {cur : Array Value} (ht : cur.toList.take 8 = plP.map byteV) : (cur.setIfInBounds 0 (.int .u8 0)).toList.take 8 = plZ.map byteV := by
  rw [Array.toList_setIfInBounds, List.take_set, ht]
  rfl
theorem cur_zero {cur : Array Value} (ht : cur.toList.take 8 = plP.map byteV) : cur[0]? = some (.int .u8 17) := by
  rw [← Array.getElem?_toList, ← List.getElem?_take_of_lt (show 0 < 8 by omega), ht]
  rfl

set_option maxRecDepth 100000 in
set_option maxHeartbeats 8000000 in
theorem plainLaw_walk (w : World) : Calls Try.prog 6 #[] w fun e w' => e = .returned (.bool true) ∧ Below w.heap.size w w' := by
  have CP := plain_is w
  have pe : ∀ P, cfV plc P = #[.int .i64 (plc 0), .int .i64 (plc 1), .int .i64 (plc 2), .int .i64 (plc 3), .int .i64 (plc 4), .int .i64 (plc 5), .int .i64 (plc 6), .int .i64 (plc 7), .int .i64 (plc 8), .int .i64 (plc 9), .int .u64 (plc 10), .int .u64 (plc 11), .int .u64 (plc 12), .int .u64 (plc 13), P] := fun _ => rfl
  have R1 := fun A A' w h h' => rsPl A A' w h h'
  go_enter Try.func6, Try.ntmps6
  go_upto_region 2 with (go_at_call 18; refine CP.mono ?_; rintro e w1 ⟨g, g', cap, cur, rfl, hg, hg', hne, hK, hK', hcap, htake, hbel⟩; unfold cfV)
  clear CP
  have HBn := Blk.new w1 25 (cfV plc (.slice (some ⟨g, 0, none⟩) 1 1))
  have hb1 := (Below.refl w1.heap.size w1).alloc (Nat.le_refl _) (.cells (cfV plc (.slice (some ⟨g, 0, none⟩) 1 1)) 25)
  have hK1 := hK.below hb1 hK.lt
  have hK1' := hK'.below hb1 hK'.lt
  have hKl := hK.lt
  have hKl' := hK'.lt
  obtain ⟨w2, hw2⟩ : ∃ w2, w2 = w1.alloc (.cells (cfV plc (.slice (some ⟨g, 0, none⟩) 1 1)) 25) := ⟨_, rfl⟩
  rw [← hw2] at HBn hb1 hK1 hK1'
  unfold cfV at hw2
  rw [← hw2]
  clear hw2 hK hK'
  go_cut [12] from 3 to 12 (fun v wx => v = .bool false ∧ Below w2.heap.size w2 wx)
  case first =>
    have pa : PrAt w2.drew w2.drew.heap.size (some ⟨g, 0, none⟩) [plP] := pl_at hK1 hK1' hcap htake hK1.lt hK1'.lt
    have HB : Blk w2.drew w1.heap.size 25 (cfV plc (.slice (some ⟨g, 0, none⟩) 1 1)) := HBn
    have hB : Below w2.heap.size w2 w2.drew := (Below.refl _ _).drew
    obtain ⟨y0, y1, y2, y3, y4, y5, y6, y7, y8, y9, y10, y11, y12, y13, y14⟩ := cells15 HB
    go_region_with (first | (go_at_call 24; refine (refPlain_is _).mono ?_; rintro e wy ⟨gb, rfl, pb, hz⟩; clear y0 y1 y2 y3 y4 y5 y6 y7 y8 y9 y10 y11 y12 y13 y14; (replace HB := HB.below hz HB.lt); (replace hB := hB.trans (hz.mono hB.size)); (try (replace pa := (pa.below hz).more hz.size)); clear hz; obtain ⟨y0, y1, y2, y3, y4, y5, y6, y7, y8, y9, y10, y11, y12, y13, y14⟩ := cells15 HB) | (go_at_call 15; refine (rsPl _ _ _ pa pb).mono ?_; rintro e wy ⟨rfl, hz⟩; clear y0 y1 y2 y3 y4 y5 y6 y7 y8 y9 y10 y11 y12 y13 y14; (replace HB := HB.below hz HB.lt); (replace hB := hB.trans (hz.mono hB.size)); (try (replace pa := (pa.below hz).more hz.size)); (try (replace pb := (pb.below hz).more hz.size)); clear hz; obtain ⟨y0, y1, y2, y3, y4, y5, y6, y7, y8, y9, y10, y11, y12, y13, y14⟩ := cells15 HB))
    all_goals
      go_wp2_with fail
      go_meet
      exact ⟨rfl, hB⟩
  case rest =>
    obtain ⟨rfl, hbc⟩ := hcut
    have HBc := HBn.below hbc HBn.lt
    have Kc := hK1.below hbc hK1.lt
    have Kc' := hK1'.below hbc hK1'.lt
    have hbc1 := hb1.trans (hbc.mono hb1.size)
    clear HBn hK1 hK1' hb1 hbc
    have HBc0 := Lib.hid HBc
    have X14 : wc.cell? ⟨w1.heap.size, 14, none⟩ = some (.slice (some ⟨g, 0, none⟩) 1 1) := HBc.cell 14
    have X0 : wc.cell? ⟨w1.heap.size, 0, none⟩ = some (.int .i64 (plc 0)) := HBc.cell 0
    have Xg : wc.cell? ⟨g, 0, none⟩ = some (.slice (some ⟨g', 0, none⟩) 8 cap) := Kc.cell 0
    have Xg' : wc.cell? ⟨g', 0, none⟩ = some (.int .u8 17) := (Kc'.cell 0).trans (cur_zero htake)
    have F1 := Kc'.frozen 0
    have F2 := HBc.frozen 0
    have N1 : g ≠ g' := hne
    have N2 : g' ≠ w1.heap.size := by omega
    have N3 : w1.heap.size ≠ g' := by omega
    have N4 : g ≠ w1.heap.size := by omega
    have HBz : Blk ((wc.setCell ⟨g', 0, none⟩ (.int .u8 0)).setCell ⟨w1.heap.size, 0, none⟩ (.int .i64 9)) w1.heap.size 25 (cfV c9 (.slice (some ⟨g, 0, none⟩) 1 1)) := (HBc.far N3 _).set_ 0 (.int .i64 9)
    have Kz : Blk ((wc.setCell ⟨g', 0, none⟩ (.int .u8 0)).setCell ⟨w1.heap.size, 0, none⟩ (.int .i64 9)) g 43 #[.slice (some ⟨g', 0, none⟩) 8 cap] := (Kc.far N1 _).far N4 _
    have Kz' : Blk ((wc.setCell ⟨g', 0, none⟩ (.int .u8 0)).setCell ⟨w1.heap.size, 0, none⟩ (.int .i64 9)) g' 5 (cur.setIfInBounds 0 (.int .u8 0)) := (Kc'.set_ 0 _).far N2 _
    have hb5 := ((hbel.trans (hbc1.mono hbel.size)).setCell (p := ⟨g', 0, none⟩) hg' (.int .u8 0)).setCell (p := ⟨w1.heap.size, 0, none⟩) hbel.size (.int .i64 9)
    clear HBc Kc Kc' hbc1
    go_upto_region 6 with fail
    obtain ⟨w5, hw5⟩ : ∃ w5, w5 = (wc.setCell ⟨g', 0, none⟩ (.int .u8 0)).setCell ⟨w1.heap.size, 0, none⟩ (.int .i64 9) := ⟨_, rfl⟩
    rw [← hw5] at HBz Kz Kz' hb5 ⊢
    clear hw5 X14 X0 Xg Xg' F1 F2 N1 N2 N3 N4 HBc0
    go_cut [0] from 19 to 40 (fun v wx => v = .bool true ∧ Below w5.heap.size w5 wx)
    case first =>
      have pz : PrAt w5.drew w5.drew.heap.size (some ⟨g, 0, none⟩) [plZ] := plz_at Kz Kz' hcap (cur_set htake) Kz.lt Kz'.lt
      have HB : Blk w5.drew w1.heap.size 25 (cfV c9 (.slice (some ⟨g, 0, none⟩) 1 1)) := HBz
      have hB : Below w5.heap.size w5 w5.drew := (Below.refl _ _).drew
      obtain ⟨y0, y1, y2, y3, y4, y5, y6, y7, y8, y9, y10, y11, y12, y13, y14⟩ := cells15 HB
      clear htake HBz Kz Kz' R1 pe
      go_region_with (first | (go_at_call 18; (fail_if_success have := pa); refine (plain_pr _).mono ?_; rintro e wy ⟨ga, rfl, pa, hz⟩; clear y0 y1 y2 y3 y4 y5 y6 y7 y8 y9 y10 y11 y12 y13 y14; (replace HB := HB.below hz HB.lt); (replace hB := hB.trans (hz.mono hB.size)); (try (replace pz := (pz.below hz).more hz.size)); clear hz; obtain ⟨y0, y1, y2, y3, y4, y5, y6, y7, y8, y9, y10, y11, y12, y13, y14⟩ := cells15 HB) | (go_at_call 24; refine (refPlain_is _).mono ?_; rintro e wy ⟨gb, rfl, pb, hz⟩; clear y0 y1 y2 y3 y4 y5 y6 y7 y8 y9 y10 y11 y12 y13 y14; (replace HB := HB.below hz HB.lt); (replace hB := hB.trans (hz.mono hB.size)); (try (replace pz := (pz.below hz).more hz.size)); (try (replace pa := (pa.below hz).more hz.size)); clear hz; obtain ⟨y0, y1, y2, y3, y4, y5, y6, y7, y8, y9, y10, y11, y12, y13, y14⟩ := cells15 HB) | (go_at_call 15; refine (rsPl _ _ _ pa pb).mono ?_; rintro e wy ⟨rfl, hz⟩; clear y0 y1 y2 y3 y4 y5 y6 y7 y8 y9 y10 y11 y12 y13 y14; (replace HB := HB.below hz HB.lt); (replace hB := hB.trans (hz.mono hB.size)); (try (replace pz := (pz.below hz).more hz.size)); (try (replace pa := (pa.below hz).more hz.size)); (try (replace pb := (pb.below hz).more hz.size)); clear hz; obtain ⟨y0, y1, y2, y3, y4, y5, y6, y7, y8, y9, y10, y11, y12, y13, y14⟩ := cells15 HB) | (go_at_call 18; (fail_if_success have := pc); refine (plain_pr _).mono ?_; rintro e wy ⟨gc, rfl, pc, hz⟩; clear y0 y1 y2 y3 y4 y5 y6 y7 y8 y9 y10 y11 y12 y13 y14; (replace HB := HB.below hz HB.lt); (replace hB := hB.trans (hz.mono hB.size)); (try (replace pz := (pz.below hz).more hz.size)); (try (replace pa := (pa.below hz).more hz.size)); (try (replace pb := (pb.below hz).more hz.size)); clear hz; obtain ⟨y0, y1, y2, y3, y4, y5, y6, y7, y8, y9, y10, y11, y12, y13, y14⟩ := cells15 HB) | (go_at_call 18; (fail_if_success have := pd); refine (plain_pr _).mono ?_; rintro e wy ⟨gd, rfl, pd, hz⟩; clear y0 y1 y2 y3 y4 y5 y6 y7 y8 y9 y10 y11 y12 y13 y14; (replace HB := HB.below hz HB.lt); (replace hB := hB.trans (hz.mono hB.size)); (try (replace pz := (pz.below hz).more hz.size)); (try (replace pc := (pc.below hz).more hz.size)); (try (replace pd := (pd.below hz).more hz.size)); (try (replace pf := (pf.below hz).more hz.size)); clear hz; obtain ⟨y0, y1, y2, y3, y4, y5, y6, y7, y8, y9, y10, y11, y12, y13, y14⟩ := cells15 HB) | (go_at_call 25; (fail_if_success have := k1); have k1 := trivial; refine (sPl _ _ _ pc pd).mono ?_; rintro e wy ⟨rfl, hz⟩; clear y0 y1 y2 y3 y4 y5 y6 y7 y8 y9 y10 y11 y12 y13 y14; (replace HB := HB.below hz HB.lt); (replace hB := hB.trans (hz.mono hB.size)); (try (replace pz := (pz.below hz).more hz.size)); (try (replace pc := (pc.below hz).more hz.size)); (try (replace pd := (pd.below hz).more hz.size)); (try (replace pf := (pf.below hz).more hz.size)); clear hz; obtain ⟨y0, y1, y2, y3, y4, y5, y6, y7, y8, y9, y10, y11, y12, y13, y14⟩ := cells15 HB) | (go_at_call 18; refine (plain_pr _).mono ?_; rintro e wy ⟨gf, rfl, pf, hz⟩; clear y0 y1 y2 y3 y4 y5 y6 y7 y8 y9 y10 y11 y12 y13 y14; (replace HB := HB.below hz HB.lt); (replace hB := hB.trans (hz.mono hB.size)); (try (replace pz := (pz.below hz).more hz.size)); (try (replace pc := (pc.below hz).more hz.size)); (try (replace pd := (pd.below hz).more hz.size)); (try (replace pf := (pf.below hz).more hz.size)); clear hz; obtain ⟨y0, y1, y2, y3, y4, y5, y6, y7, y8, y9, y10, y11, y12, y13, y14⟩ := cells15 HB) | (go_at_call 25; refine (sZ _ _ _ pz pf).mono ?_; rintro e wy ⟨rfl, hz⟩; clear y0 y1 y2 y3 y4 y5 y6 y7 y8 y9 y10 y11 y12 y13 y14; (replace HB := HB.below hz HB.lt); (replace hB := hB.trans (hz.mono hB.size)); (try (replace pz := (pz.below hz).more hz.size)); (try (replace pc := (pc.below hz).more hz.size)); (try (replace pd := (pd.below hz).more hz.size)); (try (replace pf := (pf.below hz).more hz.size)); clear hz; obtain ⟨y0, y1, y2, y3, y4, y5, y6, y7, y8, y9, y10, y11, y12, y13, y14⟩ := cells15 HB) | (go_at_call 13; refine (mZ _).mono ?_; rintro e wy ⟨rfl, hz⟩; clear y0 y1 y2 y3 y4 y5 y6 y7 y8 y9 y10 y11 y12 y13 y14; (replace HB := HB.below hz HB.lt); (replace hB := hB.trans (hz.mono hB.size)); (try (replace pz := (pz.below hz).more hz.size)); (try (replace pc := (pc.below hz).more hz.size)); (try (replace pd := (pd.below hz).more hz.size)); (try (replace pf := (pf.below hz).more hz.size)); clear hz; obtain ⟨y0, y1, y2, y3, y4, y5, y6, y7, y8, y9, y10, y11, y12, y13, y14⟩ := cells15 HB) | (go_at_call 9; refine (known_is _).mono ?_; rintro e wy ⟨rfl, hz⟩; clear y0 y1 y2 y3 y4 y5 y6 y7 y8 y9 y10 y11 y12 y13 y14; (replace HB := HB.below hz HB.lt); (replace hB := hB.trans (hz.mono hB.size)); (try (replace pz := (pz.below hz).more hz.size)); (try (replace pc := (pc.below hz).more hz.size)); (try (replace pd := (pd.below hz).more hz.size)); (try (replace pf := (pf.below hz).more hz.size)); clear hz; obtain ⟨y0, y1, y2, y3, y4, y5, y6, y7, y8, y9, y10, y11, y12, y13, y14⟩ := cells15 HB))
      all_goals
        go_wp2_with fail
        go_meet
        exact ⟨rfl, hB⟩
    case rest =>
      obtain ⟨rfl, hbc⟩ := hcut
      go_wp2_with fail
      go_ret
      exact ⟨rfl, hb5.trans (hbc.mono hb5.size)⟩
end Go.Proofs.Ytoigapnpmhogdaa
