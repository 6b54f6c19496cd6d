/- TreePrunes, by a walk: true at each size, each row of acts and each node. -/
import Derived.Test.YtoihldagpnkfoaaTreeDrops
namespace Go.Proofs.Ytoihldagpnkfoaa
open Go.RowKit
set_option linter.unusedVariables false
set_option linter.unusedSimpArgs false

theorem has_prune (F : Fo) (x i : Nat) (ds : List Nat) : (F.prune x ds).has (i : Int) = (F.has (i : Int) && !(ds.contains i)) := by
  unfold Fo.has
  rw [Int.toNat_natCast, prune_there]
  simp
theorem prune_len {F : Fo} (hF : WF F) {x : Nat} (hx : F.there x = true) {ds : List Nat} (hd : Flat F (F.kids (x : Int)) ds) : ((F.n - (F.prune x ds).free.length : Nat) : Int) = ((F.n - F.free.length : Nat) : Int) - (ds.length : Int) := by
  have h1 := free_le (hF.prune hx hd)
  have h2 : (F.prune x ds).free.length = F.free.length + ds.length := by simp [Fo.prune]
  have h3 : (F.prune x ds).n = F.n := rfl
  rw [h2, h3] at h1
  rw [h2]
  omega
/-- Both say the same of who is under whom. -/
theorem under_mem {F : Fo} (hF : WF F) {j : Nat} (hj : F.there j = true) {ds : List Nat} (hfl : Flat F (F.kids (j : Int)) ds) (k : Nat) : F.under (k : Int) (j : Int) ↔ k ∈ ds := by
  unfold Fo.under
  rw [Int.toNat_natCast, Int.toNat_natCast]
  constructor
  · rintro ⟨_, _, h⟩
    exact (desc_mem hF hfl k).2 h
  · intro h
    have ha := (desc_mem hF hfl k).1 h
    exact ⟨by simp [Fo.has, ha.there], by simp [Fo.has, hj], ha⟩
theorem prune_not_self {F : Fo} (hF : WF F) {x : Nat} (hx : F.there x = true) {ds : List Nat} (hd : Flat F (F.kids (x : Int)) ds) : x ∉ ds := fun e => by
  obtain ⟨g, hg⟩ := hF.ht
  have := above_ht ((desc_mem hF hd x).1 e) hg
  omega
theorem ref_has {w : World} {g qb : Nat} {Q : Qw} {F : Fo} {T : Nat} (h : Ref w g qb Q F T) (hF : WF F) (z : Int) : Calls Try.prog 22 #[.pointer (some ⟨g, 0, none⟩), .int .i64 z] w fun e w' => e = .returned (.bool (F.has z)) ∧ w = w' := by
  obtain ⟨lc, hq⟩ := h.qf
  have := refHas_is hq z
  rwa [has_qrep h.rep hF] at this
theorem up_prune {F : Fo} {x i : Nat} {ds : List Nat} (hi : F.there i = true) (hd : i ∉ ds) : (F.prune x ds).up? (i : Int) = F.up? (i : Int) := by
  unfold Fo.up?
  have h1 : (F.prune x ds).has (i : Int) = F.has (i : Int) := by rw [has_prune]; simp [hd]
  rw [h1]
  rfl

set_option maxRecDepth 100000 in
set_option maxHeartbeats 2000000 in
theorem prunes_walk (s z : Int) (A : Option Addr) (cap : Nat) (l : List (Int × Int)) (W : World) (hA : Acts W A l) :
    Calls Try.prog 6 #[.int .i64 s, .slice A l.length cap, .int .i64 z] W fun e w' => e = .returned (.bool true) ∧ Below W.heap.size W w' := by
  by_cases hm : Much s l.length 80
  · have CM := much_yes s A l.length cap 80 W hm
    clear hm hA
    go_enter Try.func6, Try.ntmps6
    go_wp2_with (first | (go_at_call 16; refine CM.mono ?_; rintro e w' ⟨rfl, rfl⟩) | (go_at_call 9; refine (known_is W).mono ?_; rintro e w1 ⟨rfl, hb⟩))
    go_ret
    exact ⟨rfl, hb⟩
  · have CM := much_no s A l.length cap 80 W hm
    unfold Much at hm
    obtain ⟨n, rfl⟩ := Int.eq_ofNat_of_zero_le (show 0 ≤ s by omega)
    have h1 : 1 ≤ n := by omega
    have h2 : n ≤ 24 := by omega
    have h3 : l.length ≤ 80 := by omega
    clear hm
    have HA := Lib.hid hA
    clear hA
    go_enter Try.func6, Try.ntmps6
    go_wp2_with (first | (go_at_call 16; refine CM.mono ?_; rintro e w' ⟨rfl, rfl⟩) | (go_at_call 10; refine (new_is n W h1 (by omega)).mono ?_; rintro e w1 ⟨f, lb, v, rfl, hp, hlo, hb⟩; (have HP := Lib.hid (And.intro hp (And.intro hlo hb))); clear hp hlo hb) | (go_at_call 17; refine (refNew_is n w1 h1 (by omega)).mono ?_; rintro e w2 ⟨g, qb, rfl, hr, hg, hq, hb⟩; (have HJ := Lib.hid (joint_new HP.out.1 HP.out.2.1 HP.out.2.2 hr hg hq hb)); (have HB2 := Lib.hid (HP.out.2.2.trans (hb.mono HP.out.2.2.size))); clear hr hg hq hb))
    go_loopw [10] (fun i wr => ∃ (j : Nat) (v' : Value) (Q' : Qw) (F' : Fo), j ≤ l.length ∧ i = .int .i64 j ∧ F'.n = n ∧ Joint wr W.heap.size f lb g qb v' Q' F' (4096 * j) ∧ Below W.heap.size W wr) (fun i _ => l.length - (intOf i).toNat)
    case atStart => exact ⟨0, v, newQw, chain n 0, Nat.zero_le _, rfl, rfl, HJ.out, HB2.out⟩
    case round =>
      obtain ⟨j, v', Q', F', hj, rfl, hFn, hJ, hbr⟩ := hrel
      have HJR := Lib.hid hJ
      have HBR := Lib.hid hbr
      have HFN := Lib.hid hFn
      by_cases hlt : j < l.length
      · obtain ⟨ga, o, rfl, hga, hc⟩ := (HA.out.below (Nat.le_refl _) hbr hbr.size) (fun e => by rw [e] at hlt; simp at hlt)
        obtain ⟨c0, c1⟩ := hc j hlt
        have CD := do_is (l[j]).1 (l[j]).2 W.heap.size f lb g qb v' Q' F' (4096 * j) (by omega) wr hJ
        generalize l[j] = a at *
        have hj1 : (j : Int) < l.length := by omega
        have hj0 : (0 : Int) ≤ (j : Int) := by omega
        clear hc hJ hbr CM hFn
        go_wp2_with (go_at_call 18; refine CD.mono ?_; rintro e w3 ⟨rfl, v3, Q3, F3, hJ3, hn3, ha3, -⟩; (have HJ3 := Lib.hid (And.intro hJ3 hn3)); (have HB3 := Lib.hid (HBR.out.trans (joint_below HJR.out ha3))); clear hJ3 ha3 hn3)
        go_roundw
        case rel => exact ⟨j + 1, v3, Q3, F3, by omega, by go_num, HJ3.out.2.trans HFN.out, HJ3.out.1.more (by omega), HB3.out⟩
        case measure => simp [intOf]; omega
      · clear hJ hbr CM hFn
        obtain ⟨w4, hw4⟩ : ∃ w4, w4 = wr := ⟨_, rfl⟩
        subst hw4
        have HPF := Lib.hid HJR.out.prg
        have HWF := Lib.hid HJR.out.prg.wf
        go_wp2_with (go_at_call 20; refine (copy_is HPF.out).mono ?_; rintro e w5 ⟨f2, lb2, v2, rfl, hp2, hlo2, hb5⟩; (have HC := Lib.hid (And.intro hp2 (And.intro hlo2 hb5))); clear hp2 hlo2 hb5)
        have HP5 := Lib.hid (HPF.out.below HC.out.2.2)
        have HB5 := Lib.hid (HBR.out.trans (HC.out.2.2.mono HBR.out.size))
        by_cases hz : F'.has z = true
        · obtain ⟨x, rfl, hx⟩ := has_nat hz
          have HX := Lib.hid hx
          obtain ⟨ds, hfl⟩ := flat_ex HWF.out (F'.kids (x : Int)) (fun i hi => ((HWF.out.kin _ _).1 hi).1)
          have hdl := desc_len HWF.out hfl
          have HFL := Lib.hid hfl
          have HDS := Lib.hid (under_mem HWF.out hx hfl)
          have CD := prune_is HP5.out x hx hfl
          have hdl2 : ds.length ≤ 24 := by rw [HFN.out] at hdl; omega
          have HJ5 := Lib.hid HJR.out.ref
          obtain ⟨lc, hq⟩ := HJR.out.ref.qf
          have HQ := Lib.hid hq
          have hLl := prune_len HWF.out hx hfl
          have hLb : F'.n - F'.free.length ≤ 24 := by have := HFN.out; omega
          obtain ⟨L, hL⟩ : ∃ L, L = F'.n - F'.free.length := ⟨_, rfl⟩
          rw [← hL] at hLl hLb
          have HLE := Lib.hid (And.intro hL hLl)
          have hll : ((L : Int) - (ds.length : Int) != (L : Int) - (ds.length : Int)) = false := by simp
          have hwp := HWF.out.prune hx hfl
          have HWP := Lib.hid hwp
          clear hz hx hfl hdl hq hLl hL hwp
          go_wp2_with (first | (go_at_call 14; refine CD.mono ?_; rintro e w6 ⟨pA, pc, rfl, -, v6, hp6, -, ha6, -⟩; (have HP6 := Lib.hid hp6); (have HC6 := Lib.hid (And.intro (HC.out.1.apart ha6 (fun k hk hk' => by have q1 := HC.out.2.1 k hk; have q2 := own3_lt HPF.out hk'; omega)) (And.intro (HB5.out.trans ((ha6.below (B := W.heap.size) HB5.out.size (fun k hk => HJR.out.lo k (.inl hk))))) ((HJ5.out.below HC.out.2.2).apart ha6 (fun k hk hk' => HJR.out.sep k hk' hk))))); clear hp6 ha6) | (go_at_call 22; refine (ref_has HC6.out.2.2 HWF.out (x : Int)).mono ?_; rw [show F'.has (x : Int) = true by simp [Fo.has, HX.out]]; rintro e w' ⟨rfl, rfl⟩) | (go_at_call 25; refine (prg_children HP6.out x (by rw [prune_there]; simp [HX.out]; exact prune_not_self HWF.out HX.out HFL.out)).mono ?_; rw [prune_kids_x]; rintro e w7 ⟨⟨cA, cc, rfl, -⟩, hb7⟩; (have HB7 := Lib.hid hb7); clear hb7) | (go_at_call 15; (have := mk3); refine (prg_len (HC6.out.1.below HB7.out)).mono ?_; rw [← HLE.out.1]; rintro e w' ⟨rfl, rfl⟩) | (go_at_call 15; refine (prg_len (HP6.out.below HB7.out)).mono ?_; rw [show (F'.prune x ds).n = F'.n from rfl, HLE.out.2]; rintro e w' ⟨rfl, rfl⟩; have mk3 := trivial) | (go_at_call 27; (have := mk4); refine (prg_roots ((HC6.out.1.below HB7.out).below HB8.out.1)).mono ?_; rintro e w9 ⟨⟨rA2, rc2, rfl, ho⟩, hb9⟩; (have HB9 := Lib.hid (And.intro hb9 (And.intro (do_lies ho) (HB8.out.2.below hb9)))); clear ho hb9) | (go_at_call 27; refine (prg_roots (HP6.out.below HB7.out)).mono ?_; rw [prune_roots]; rintro e w8 ⟨⟨rA, rc, rfl, ho⟩, hb8⟩; (have HB8 := Lib.hid (And.intro hb8 (do_lies ho))); clear ho hb8; have mk4 := trivial) | (go_at_call 26; refine (lies_ints rc rc2 HB9.out.2.2 HB9.out.2.1 (by have := kids_le HWF.out (-1); have := HFN.out; omega) (by have := kids_le HWF.out (-1); have := HFN.out; omega)).mono ?_; rintro e w10 ⟨rfl, m, rfl⟩))
          have HB6 := Lib.hid (((HB7.out.trans (HB8.out.1.mono HB7.out.size)).trans (HB9.out.1.mono (Nat.le_trans HB7.out.size HB8.out.1.size))).trans (below_drewN _ _ m))
          clear CD
          go_loopw [14] (fun i wx => ∃ q : Nat, q ≤ n ∧ i = .int .i64 q ∧ Below w6.heap.size w6 wx) (fun i _ => n - (intOf i).toNat)
          case atStart => exact ⟨0, Nat.zero_le _, rfl, HB6.out⟩
          case round =>
            obtain ⟨i, hi, rfl, hbx⟩ := hrel
            have HBX := Lib.hid hbx
            by_cases hin : i < n
            · have hin1 : (i : Int) < (n : Int) := by omega
              have CA := prg_has (HP6.out.below hbx) (i : Int)
              have CB := prg_has (HC6.out.1.below hbx) (i : Int)
              rw [has_prune] at CA
              clear hbx
              cases hhb : F'.has (i : Int)
              · rw [hhb, Bool.false_and] at CA
                rw [hhb] at CB
                clear hhb
                go_wp2_with (first | (go_at_call 24; (have := mkB); refine CA.mono ?_; rintro e w' ⟨rfl, rfl⟩) | (go_at_call 24; (have := mkA); refine CB.mono ?_; rintro e w' ⟨rfl, rfl⟩; have mkB := trivial) | (go_at_call 24; refine CA.mono ?_; rintro e w' ⟨rfl, rfl⟩; have mkA := trivial))
                go_roundw
                case rel => exact ⟨i + 1, by omega, by go_num, HBX.out⟩
                case measure => simp [intOf]; omega
              · have hit : F'.there i = true := by simpa [Fo.has] using hhb
                rw [hhb, Bool.true_and] at CA
                rw [hhb] at CB
                have CU := prg_under (HC6.out.1.below HBX.out) (i : Int) (x : Int)
                by_cases hid : i ∈ ds
                · have hcd : (!ds.contains i) = false := by simp [hid]
                  rw [hcd] at CA
                  have CU2 := CU.mono (R' := fun e w' => e = .returned (.bool true) ∧ wr = w') (by rintro e w' ⟨⟨b, rfl, hb⟩, rfl⟩; rw [hb.2 ((HDS.out i).2 hid)]; exact ⟨rfl, rfl⟩)
                  clear hhb hit hid hcd CU
                  go_wp2_with (first | (go_at_call 24; (have := mkB); refine CA.mono ?_; rintro e w' ⟨rfl, rfl⟩) | (go_at_call 24; (have := mkA); refine CB.mono ?_; rintro e w' ⟨rfl, rfl⟩; have mkB := trivial) | (go_at_call 24; refine CA.mono ?_; rintro e w' ⟨rfl, rfl⟩; have mkA := trivial) | (go_at_call 13; refine CU2.mono ?_; rintro e w' ⟨rfl, rfl⟩))
                  go_roundw
                  case rel => exact ⟨i + 1, by omega, by go_num, HBX.out⟩
                  case measure => simp [intOf]; omega
                · have hcd : (!ds.contains i) = true := by simp [hid]
                  rw [hcd] at CA
                  have CU2 := CU.mono (R' := fun e w' => e = .returned (.bool false) ∧ wr = w') (by rintro e w' ⟨⟨b, rfl, hb⟩, rfl⟩; cases b; exact ⟨rfl, rfl⟩; exact absurd ((HDS.out i).1 (hb.1 rfl)) hid)
                  have CP := prg_parent (HP6.out.below HBX.out) (i : Int)
                  rw [up_prune hit hid] at CP
                  have CQ := prg_parent (HC6.out.1.below HBX.out) (i : Int)
                  obtain ⟨up, hup⟩ : ∃ u, u = F'.up? (i : Int) := ⟨_, rfl⟩
                  rw [← hup] at CP CQ
                  obtain ⟨pv, pb⟩ := up
                  simp only at CP CQ
                  have hpp : (pv != pv) = false := by simp
                  have hbb : (pb != pb) = false := by simp
                  have hpt : (F'.prune x ds).there i = true := by rw [prune_there]; simp [hit, hid]
                  have HT := Lib.hid (And.intro hit (And.intro hid hpt))
                  clear hhb hit hid hcd CU hup hpt
                  by_cases hix : i = x
                  · have e1 : ((i : Int) == (x : Int)) = true := by simp; omega
                    clear hix
                    go_wp2_with (first | (go_at_call 24; (have := mkB); refine CA.mono ?_; rintro e w' ⟨rfl, rfl⟩) | (go_at_call 24; (have := mkA); refine CB.mono ?_; rintro e w' ⟨rfl, rfl⟩; have mkB := trivial) | (go_at_call 24; refine CA.mono ?_; rintro e w' ⟨rfl, rfl⟩; have mkA := trivial) | (go_at_call 13; refine CU2.mono ?_; rintro e w' ⟨rfl, rfl⟩))
                    go_roundw
                    case rel => exact ⟨i + 1, by omega, by go_num, HBX.out⟩
                    case measure => simp [intOf]; omega
                  · have e1 : ((i : Int) == (x : Int)) = false := by simp; omega
                    have HIX := Lib.hid hix
                    clear hix
                    go_wp2_with (first | (go_at_call 24; (have := mkB); refine CA.mono ?_; rintro e w' ⟨rfl, rfl⟩) | (go_at_call 24; (have := mkA); refine CB.mono ?_; rintro e w' ⟨rfl, rfl⟩; have mkB := trivial) | (go_at_call 24; refine CA.mono ?_; rintro e w' ⟨rfl, rfl⟩; have mkA := trivial) | (go_at_call 13; refine CU2.mono ?_; rintro e w' ⟨rfl, rfl⟩) | (go_at_call 28; (have := mkP); refine CQ.mono ?_; rintro e w' ⟨rfl, rfl⟩) | (go_at_call 28; refine CP.mono ?_; rintro e w' ⟨rfl, rfl⟩; have mkP := trivial) | (go_at_call 25; (have := mkC); refine (prg_children ((HC6.out.1.below HBX.out).below HY1.out.1) i HT.out.1).mono ?_; rintro e y2 ⟨⟨kA2, kc2, rfl, ho⟩, hb⟩; (have HY2 := Lib.hid (And.intro hb (And.intro (do_lies ho) (HY1.out.2.below hb)))); clear ho hb) | (go_at_call 25; refine (prg_children (HP6.out.below HBX.out) i HT.out.2.2).mono ?_; rw [prune_kids HIX.out HT.out.2.1]; rintro e y1 ⟨⟨kA, kc, rfl, ho⟩, hb⟩; (have HY1 := Lib.hid (And.intro hb (do_lies ho))); clear ho hb; have mkC := trivial) | (go_at_call 26; refine (lies_ints kc kc2 HY2.out.2.2 HY2.out.2.1 (by have := kids_le HWF.out (i : Int); have := HFN.out; omega) (by have := kids_le HWF.out (i : Int); have := HFN.out; omega)).mono ?_; rintro e y3 ⟨rfl, m2, rfl⟩))
                    go_roundw
                    case rel => exact ⟨i + 1, by omega, by go_num, ((HBX.out.trans (HY1.out.1.mono HBX.out.size)).trans (HY2.out.1.mono (Nat.le_trans HBX.out.size HY1.out.1.size))).trans (below_drewN _ _ m2)⟩
                    case measure => simp [intOf]; omega
            · clear hbx
              go_wp2_with (go_at_call 9; refine (known_is _).mono ?_; rintro e w11 ⟨rfl, hb⟩)
              go_ret
              have h1 := HC6.out.2.1.trans (HBX.out.mono HC6.out.2.1.size)
              exact ⟨rfl, h1.trans (hb.mono h1.size)⟩
        · have hz' : F'.has z = false := by simpa using hz
          have CD := prune_no HP5.out z hz'
          have HR5 := Lib.hid (HJR.out.ref.below HC.out.2.2)
          obtain ⟨lc, hq⟩ := HR5.out.qf
          have CH := refHas_is hq z
          rw [has_qrep HR5.out.rep HWF.out, hz'] at CH
          have CS := (same_is HP5.out HC.out.1 rfl).mono (R' := fun e w' => e = .returned (.bool true) ∧ Below w5.heap.size w5 w') (by rintro e w' ⟨⟨b, rfl, hb⟩, hw⟩; rw [hb.2 (alike_refl _)]; exact ⟨rfl, hw⟩)
          clear hz hz' hq
          go_wp2_with (first | (go_at_call 14; refine CD.mono ?_; rintro e w' ⟨rfl, rfl⟩) | (go_at_call 22; refine CH.mono ?_; rintro e w' ⟨rfl, rfl⟩) | (go_at_call 23; refine CS.mono ?_; rintro e w6 ⟨rfl, hb6⟩; (have HB6 := Lib.hid (HB5.out.trans (hb6.mono HB5.out.size))); clear hb6) | (go_at_call 9; refine (known_is _).mono ?_; rintro e w7 ⟨rfl, hb⟩))
          go_ret
          exact ⟨rfl, HB6.out.trans (hb.mono HB6.out.size)⟩
end Go.Proofs.Ytoihldagpnkfoaa
