/- TreeDrops, by a walk: true at each size, each row of acts and each node. -/
import Derived.Test.YtoihldagpnkfoaaTreeActs
namespace Go.Proofs.Ytoihldagpnkfoaa
open Go.RowKit
set_option linter.unusedVariables false
set_option linter.unusedSimpArgs false

theorem has_drop (F : Fo) (x i : Nat) : (F.drop x).has (i : Int) = (F.has (i : Int) && decide (i ≠ x)) := by
  unfold Fo.has
  rw [Int.toNat_natCast]
  by_cases h : i = x <;> simp [Fo.drop, h]
theorem drop_under {F : Fo} (hF : WF F) {x i k : Nat} (hx : F.there x = true) (hi : i ≠ x) (hk : k ≠ x) : (F.drop x).under (i : Int) (k : Int) ↔ F.under (i : Int) (k : Int) := by
  unfold Fo.under
  rw [has_drop, has_drop, Int.toNat_natCast, Int.toNat_natCast]
  simp only [hi, hk, ne_eq, not_false_eq_true, decide_true, Bool.and_true]
  constructor
  · rintro ⟨h1, h2, h3⟩
    have ht : F.there i = true := by simpa [Fo.has] using h1
    have htd : (F.drop x).there i = true := (drop_there F x i).2 ⟨ht, hi⟩
    exact ⟨h1, h2, (up_above hF ht).1 ((up_drop hF hx hk ht).1 ((up_above (hF.drop hx) htd).2 h3))⟩
  · rintro ⟨h1, h2, h3⟩
    have ht : F.there i = true := by simpa [Fo.has] using h1
    have htd : (F.drop x).there i = true := (drop_there F x i).2 ⟨ht, hi⟩
    exact ⟨h1, h2, (up_above (hF.drop hx) htd).1 ((up_drop hF hx hk ht).2 ((up_above hF ht).2 h3))⟩
theorem drop_under_x {F : Fo} {x i k : Nat} (h : i = x ∨ k = x) : ¬ (F.drop x).under (i : Int) (k : Int) := by
  rintro ⟨h1, h2, _⟩
  rw [has_drop] at h1 h2
  rcases h with rfl | rfl
  · simp at h1
  · simp at h2
theorem alike_refl (F : Fo) : Alike F F := ⟨rfl, fun _ _ => ⟨rfl, fun _ => rfl, rfl⟩⟩
theorem drop_len {F : Fo} (hF : WF F) {x : Nat} (hx : F.there x = true) : ((F.n - (F.drop x).free.length : Nat) : Int) = ((F.n - F.free.length : Nat) : Int) - 1 := by
  have h1 := free_le (hF.drop hx)
  have h2 : (F.drop x).free.length = F.free.length + 1 := by simp [Fo.drop]
  have h3 : (F.drop x).n = F.n := rfl
  rw [h2, h3] at h1
  rw [h2]
  omega

set_option maxRecDepth 100000 in
set_option maxHeartbeats 2000000 in
theorem drops_walk (s z : Int) (A : Option Addr) (cap : Nat) (l : List (Int × Int)) (W : World) (hA : Acts W A l) :
    Calls Try.prog 5 #[.int .i64 s, .slice A l.length cap, .int .i64 z] W fun e w' => e = .returned (.bool true) ∧ Below W.heap.size W w' := by
  by_cases hm : Much s l.length 80
  · have CM := much_yes s A l.length cap 80 W hm
    clear hm hA
    go_enter Try.func5, Try.ntmps5
    go_wp2_with (first | (go_at_call 16; refine CM.mono ?_; rintro e w' ⟨rfl, rfl⟩) | (go_at_call 9; refine (known_is W).mono ?_; rintro e w1 ⟨rfl, hb⟩))
    go_ret
    exact ⟨rfl, hb⟩
  · have CM := much_no s A l.length cap 80 W hm
    unfold Much at hm
    obtain ⟨n, rfl⟩ := Int.eq_ofNat_of_zero_le (show 0 ≤ s by omega)
    have h1 : 1 ≤ n := by omega
    have h2 : n ≤ 24 := by omega
    have h3 : l.length ≤ 80 := by omega
    clear hm
    have HA := Lib.hid hA
    clear hA
    go_enter Try.func5, Try.ntmps5
    go_wp2_with (first | (go_at_call 16; refine CM.mono ?_; rintro e w' ⟨rfl, rfl⟩) | (go_at_call 10; refine (new_is n W h1 (by omega)).mono ?_; rintro e w1 ⟨f, lb, v, rfl, hp, hlo, hb⟩; (have HP := Lib.hid (And.intro hp (And.intro hlo hb))); clear hp hlo hb) | (go_at_call 17; refine (refNew_is n w1 h1 (by omega)).mono ?_; rintro e w2 ⟨g, qb, rfl, hr, hg, hq, hb⟩; (have HJ := Lib.hid (joint_new HP.out.1 HP.out.2.1 HP.out.2.2 hr hg hq hb)); (have HB2 := Lib.hid (HP.out.2.2.trans (hb.mono HP.out.2.2.size))); clear hr hg hq hb))
    go_loopw [10] (fun i wr => ∃ (j : Nat) (v' : Value) (Q' : Qw) (F' : Fo), j ≤ l.length ∧ i = .int .i64 j ∧ F'.n = n ∧ Joint wr W.heap.size f lb g qb v' Q' F' (4096 * j) ∧ Below W.heap.size W wr) (fun i _ => l.length - (intOf i).toNat)
    case atStart => exact ⟨0, v, newQw, chain n 0, Nat.zero_le _, rfl, rfl, HJ.out, HB2.out⟩
    case round =>
      obtain ⟨j, v', Q', F', hj, rfl, hFn, hJ, hbr⟩ := hrel
      have HJR := Lib.hid hJ
      have HBR := Lib.hid hbr
      have HFN := Lib.hid hFn
      by_cases hlt : j < l.length
      · obtain ⟨ga, o, rfl, hga, hc⟩ := (HA.out.below (Nat.le_refl _) hbr hbr.size) (fun e => by rw [e] at hlt; simp at hlt)
        obtain ⟨c0, c1⟩ := hc j hlt
        have CD := do_is (l[j]).1 (l[j]).2 W.heap.size f lb g qb v' Q' F' (4096 * j) (by omega) wr hJ
        generalize l[j] = a at *
        have hj1 : (j : Int) < l.length := by omega
        have hj0 : (0 : Int) ≤ (j : Int) := by omega
        clear hc hJ hbr CM hFn
        go_wp2_with (go_at_call 18; refine CD.mono ?_; rintro e w3 ⟨rfl, v3, Q3, F3, hJ3, hn3, ha3, -⟩; (have HJ3 := Lib.hid (And.intro hJ3 hn3)); (have HB3 := Lib.hid (HBR.out.trans (joint_below HJR.out ha3))); clear hJ3 ha3 hn3)
        go_roundw
        case rel => exact ⟨j + 1, v3, Q3, F3, by omega, by go_num, HJ3.out.2.trans HFN.out, HJ3.out.1.more (by omega), HB3.out⟩
        case measure => simp [intOf]; omega
      · clear hJ hbr CM hFn
        obtain ⟨w4, hw4⟩ : ∃ w4, w4 = wr := ⟨_, rfl⟩
        subst hw4
        have HPF := Lib.hid HJR.out.prg
        have HWF := Lib.hid HJR.out.prg.wf
        go_wp2_with (go_at_call 20; refine (copy_is HPF.out).mono ?_; rintro e w5 ⟨f2, lb2, v2, rfl, hp2, hlo2, hb5⟩; (have HC := Lib.hid (And.intro hp2 (And.intro hlo2 hb5))); clear hp2 hlo2 hb5)
        have HP5 := Lib.hid (HPF.out.below HC.out.2.2)
        have HB5 := Lib.hid (HBR.out.trans (HC.out.2.2.mono HBR.out.size))
        by_cases hz : F'.has z = true
        · obtain ⟨x, rfl, hx⟩ := has_nat hz
          have HX := Lib.hid hx
          have CD := drop_is HP5.out x hx
          clear hz hx
          go_wp2_with (go_at_call 21; refine CD.mono ?_; rintro e w6 ⟨rfl, v6, hp6, -, ha6⟩; (have HP6 := Lib.hid hp6); (have HC6 := Lib.hid (And.intro (HC.out.1.apart ha6 (fun k hk hk' => by have q1 := HC.out.2.1 k hk; have q2 := own3_lt HPF.out hk'; omega)) (HB5.out.trans ((ha6.below (B := W.heap.size) HB5.out.size (fun k hk => HJR.out.lo k (.inl hk))))))); clear hp6 ha6)
          clear CD
          go_loopw [12] (fun i wx => ∃ q : Nat, q ≤ n ∧ i = .int .i64 q ∧ wx = w6) (fun i _ => n - (intOf i).toNat)
          case atStart => exact ⟨0, Nat.zero_le _, rfl, rfl⟩
          case round =>
            obtain ⟨i, hi, rfl, hwr⟩ := hrel
            subst hwr
            obtain ⟨w6, hw6⟩ : ∃ w6, w6 = wr := ⟨_, rfl⟩
            subst hw6
            by_cases hin : i < n
            · have CA := prg_has HP6.out (i : Int)
              have CB := prg_has HC6.out.1 (i : Int)
              rw [has_drop] at CA
              have hin1 : (i : Int) < (n : Int) := by omega
              obtain ⟨hb, hhb⟩ : ∃ hb, hb = F'.has (i : Int) := ⟨_, rfl⟩
              rw [← hhb] at CA CB
              have HHB := Lib.hid hhb
              clear hhb
              have key : ∀ (c d : Bool), c = (hb && decide (i ≠ x)) → d = ((i : Int) != (x : Int)) → ((hb && decide (i ≠ x)) != (if hb = true then d else false)) = false := by
                intro c d _ hd
                rw [hd]
                by_cases e : i = x
                · subst e; cases hb <;> simp
                · have : ((i : Int) != (x : Int)) = true := by simp; omega
                  rw [this]
                  cases hb <;> simp [e]
              have hdx : ((i : Int) != (x : Int)) = decide (i ≠ x) := by
                by_cases e : i = x
                · subst e; simp
                · simp [e]; omega
              clear key
              by_cases hix : i = x
              · have e1 : decide (i ≠ x) = false := by simp [hix]
                rw [e1, Bool.and_false] at CA
                have e2 : ((i : Int) != (x : Int)) = false := by rw [hdx, e1]
                have HIX := Lib.hid hix
                clear hdx e1 hix
                cases hb
                all_goals
                  go_wp2_with (first | (go_at_call 24; (have := mk1); refine CB.mono ?_; rintro e w' ⟨rfl, rfl⟩) | (go_at_call 24; refine CA.mono ?_; rintro e w' ⟨rfl, rfl⟩; have mk1 := trivial))
                  go_loopw [13] (fun k wx => ∃ q : Nat, q ≤ n ∧ k = .int .i64 q ∧ wx = w6) (fun k _ => n - (intOf k).toNat)
                  case atStart => exact ⟨0, Nat.zero_le _, rfl, rfl⟩
                  case round =>
                    obtain ⟨k, hk, rfl, hwr⟩ := hrel
                    subst hwr
                    obtain ⟨w6, hw6⟩ : ∃ w6, w6 = wr := ⟨_, rfl⟩
                    subst hw6
                    by_cases hkn : k < n
                    · have hkn1 : (k : Int) < (n : Int) := by omega
                      have hno := drop_under_x (F := F') (x := x) (i := i) (k := k) (.inl HIX.out)
                      have CU := (prg_under HP6.out (i : Int) (k : Int)).mono (R' := fun e w' => e = .returned (.bool false) ∧ w6 = w') (by rintro e w' ⟨⟨b, rfl, hb⟩, rfl⟩; cases b; exact ⟨rfl, rfl⟩; exact absurd (hb.1 rfl) hno)
                      clear hno
                      go_wp2_with (go_at_call 13; refine CU.mono ?_; rintro e w' ⟨rfl, rfl⟩)
                      go_roundw
                      case rel => exact ⟨k + 1, by omega, by go_num, trivial⟩
                      case measure => simp [intOf]; omega
                    · go_wp2_with fail
                      go_roundw
                      case rel => exact ⟨i + 1, by omega, by go_num, trivial⟩
                      case measure => simp [intOf]; omega
              · have e1 : decide (i ≠ x) = true := by simp [hix]
                rw [e1, Bool.and_true] at CA
                have e2 : ((i : Int) != (x : Int)) = true := by rw [hdx, e1]
                have HIX := Lib.hid hix
                clear hdx e1 hix
                cases hb
                all_goals
                  go_wp2_with (first | (go_at_call 24; (have := mk1); refine CB.mono ?_; rintro e w' ⟨rfl, rfl⟩) | (go_at_call 24; refine CA.mono ?_; rintro e w' ⟨rfl, rfl⟩; have mk1 := trivial))
                  go_loopw [13] (fun k wx => ∃ q : Nat, q ≤ n ∧ k = .int .i64 q ∧ wx = w6) (fun k _ => n - (intOf k).toNat)
                  case atStart => exact ⟨0, Nat.zero_le _, rfl, rfl⟩
                  case round =>
                    obtain ⟨k, hk, rfl, hwr⟩ := hrel
                    subst hwr
                    obtain ⟨w6, hw6⟩ : ∃ w6, w6 = wr := ⟨_, rfl⟩
                    subst hw6
                    by_cases hkn : k < n
                    · have hkn1 : (k : Int) < (n : Int) := by omega
                      by_cases hkx : k = x
                      · have hno := drop_under_x (F := F') (x := x) (i := i) (k := k) (.inr hkx)
                        have CU := (prg_under HP6.out (i : Int) (k : Int)).mono (R' := fun e w' => e = .returned (.bool false) ∧ w6 = w') (by rintro e w' ⟨⟨b, rfl, hb⟩, rfl⟩; cases b; exact ⟨rfl, rfl⟩; exact absurd (hb.1 rfl) hno)
                        have e3 : ((k : Int) != (x : Int)) = false := by rw [hkx]; simp
                        clear hno hkx
                        go_wp2_with (go_at_call 13; refine CU.mono ?_; rintro e w' ⟨rfl, rfl⟩)
                        go_roundw
                        case rel => exact ⟨k + 1, by omega, by go_num, trivial⟩
                        case measure => simp [intOf]; omega
                      · have e3 : ((k : Int) != (x : Int)) = true := by simp; omega
                        have HU := Lib.hid (drop_under HWF.out HX.out HIX.out hkx)
                        have CU := prg_under HP6.out (i : Int) (k : Int)
                        have CV := prg_under HC6.out.1 (i : Int) (k : Int)
                        clear hkx
                        go_wp2_with (first | (go_at_call 13; (have := mk2); refine CV.mono ?_; rintro e w' ⟨⟨b2, rfl, hb2⟩, rfl⟩; (have h12 : b1 = b2 := Bool.eq_iff_iff.2 ((HB1.out.trans HU.out).trans hb2.symm)); subst h12; (have hbb : (b1 != b1) = false := by simp); clear hb2) | (go_at_call 13; refine CU.mono ?_; rintro e w' ⟨⟨b1, rfl, hb1⟩, rfl⟩; (have HB1 := Lib.hid hb1); clear hb1; have mk2 := trivial))
                        go_roundw
                        case rel => exact ⟨k + 1, by omega, by go_num, trivial⟩
                        case measure => simp [intOf]; omega
                    · go_wp2_with fail
                      go_roundw
                      case rel => exact ⟨i + 1, by omega, by go_num, trivial⟩
                      case measure => simp [intOf]; omega
            · have CL := prg_len HP6.out
              have CL2 := prg_len HC6.out.1
              have hdl := drop_len HWF.out HX.out
              have hdn : (F'.drop x).n = F'.n := rfl
              rw [hdn, hdl] at CL
              have hLb : F'.n - F'.free.length ≤ 24 := by have := HFN.out; omega
              generalize F'.n - F'.free.length = L at *
              have hll : ((L : Int) - 1 == (L : Int) - 1) = true := by simp
              clear hdl hdn
              go_wp2_with (first | (go_at_call 15; (have := mk3); refine CL2.mono ?_; rintro e w' ⟨rfl, rfl⟩) | (go_at_call 15; refine CL.mono ?_; rintro e w' ⟨rfl, rfl⟩; have mk3 := trivial) | (go_at_call 9; refine (known_is _).mono ?_; rintro e w7 ⟨rfl, hb⟩))
              go_ret
              exact ⟨rfl, HC6.out.2.trans (hb.mono HC6.out.2.size)⟩
        · have hz' : F'.has z = false := by simpa using hz
          have CD := prg_drop_no HP5.out z hz'
          have HR5 := Lib.hid (HJR.out.ref.below HC.out.2.2)
          obtain ⟨lc, hq⟩ := HR5.out.qf
          have CH := refHas_is hq z
          rw [has_qrep HR5.out.rep HWF.out, hz'] at CH
          have CS := (same_is HP5.out HC.out.1 rfl).mono (R' := fun e w' => e = .returned (.bool true) ∧ Below w5.heap.size w5 w') (by rintro e w' ⟨⟨b, rfl, hb⟩, hw⟩; rw [hb.2 (alike_refl _)]; exact ⟨rfl, hw⟩)
          clear hz hz' hq
          go_wp2_with (first | (go_at_call 21; refine CD.mono ?_; rintro e w' ⟨rfl, rfl⟩) | (go_at_call 22; refine CH.mono ?_; rintro e w' ⟨rfl, rfl⟩) | (go_at_call 23; refine CS.mono ?_; rintro e w6 ⟨rfl, hb6⟩; (have HB6 := Lib.hid (HB5.out.trans (hb6.mono HB5.out.size))); clear hb6) | (go_at_call 9; refine (known_is _).mono ?_; rintro e w7 ⟨rfl, hb⟩))
          go_ret
          exact ⟨rfl, HB6.out.trans (hb.mono HB6.out.size)⟩
end Go.Proofs.Ytoihldagpnkfoaa
