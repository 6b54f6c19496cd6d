/- TreePlays, by a walk: true at each size and each row of acts. -/
import Derived.Test.YtoihldagpnkfoaaTreeLawSame
import Derived.Test.YtoihldagpnkfoaaTreeActs
namespace Go.Proofs.Ytoihldagpnkfoaa
open Go.RowKit
set_option linter.unusedVariables false
set_option linter.unusedSimpArgs false

set_option maxRecDepth 100000 in
set_option maxHeartbeats 2000000 in
theorem plays_walk (s : Int) (A : Option Addr) (cap : Nat) (l : List (Int × Int)) (W : World) (hA : Acts W A l) (hl : l.length ≤ maxLen) :
    Calls Try.prog 4 #[.int .i64 s, .slice A l.length cap] W fun e w' => e = .returned (.bool true) ∧ Below W.heap.size W w' := by
  by_cases hm : Much s l.length 80
  · have CM := much_yes s A l.length cap 80 W hm
    clear hm hA
    go_enter Try.func4, Try.ntmps4
    go_wp2_with (first | (go_at_call 16; refine CM.mono ?_; rintro e w' ⟨rfl, rfl⟩) | (go_at_call 9; refine (known_is W).mono ?_; rintro e w1 ⟨rfl, hb⟩))
    go_ret
    exact ⟨rfl, hb⟩
  · have CM := much_no s A l.length cap 80 W hm
    unfold Much at hm
    obtain ⟨n, rfl⟩ := Int.eq_ofNat_of_zero_le (show 0 ≤ s by omega)
    have h1 : 1 ≤ n := by omega
    have h2 : n ≤ 24 := by omega
    have h3 : l.length ≤ 80 := by omega
    clear hm
    have HA := Lib.hid hA
    clear hA hl
    go_enter Try.func4, Try.ntmps4
    go_wp2_with (first | (go_at_call 16; refine CM.mono ?_; rintro e w' ⟨rfl, rfl⟩) | (go_at_call 10; refine (new_is n W h1 (by omega)).mono ?_; rintro e w1 ⟨f, lb, v, rfl, hp, hlo, hb⟩; (have HP := Lib.hid (And.intro hp (And.intro hlo hb))); clear hp hlo hb) | (go_at_call 17; refine (refNew_is n w1 h1 (by omega)).mono ?_; rintro e w2 ⟨g, qb, rfl, hr, hg, hq, hb⟩; (have HJ := Lib.hid (joint_new HP.out.1 HP.out.2.1 HP.out.2.2 hr hg hq hb)); (have HB2 := Lib.hid (HP.out.2.2.trans (hb.mono HP.out.2.2.size))); clear hr hg hq hb))
    go_loopw [8] (fun i wr => ∃ (j : Nat) (v' : Value) (Q' : Qw) (F' : Fo), j ≤ l.length ∧ i = .int .i64 j ∧ Joint wr W.heap.size f lb g qb v' Q' F' (4096 * j) ∧ Below W.heap.size W wr) (fun i _ => l.length - (intOf i).toNat)
    case atStart => exact ⟨0, v, newQw, chain n 0, Nat.zero_le _, rfl, HJ.out, HB2.out⟩
    case round =>
      obtain ⟨j, v', Q', F', hj, rfl, hJ, hbr⟩ := hrel
      have HJR := Lib.hid hJ
      have HBR := Lib.hid hbr
      by_cases hlt : j < l.length
      · obtain ⟨ga, o, rfl, hga, hc⟩ := (HA.out.below (Nat.le_refl _) hbr hbr.size) (fun e => by rw [e] at hlt; simp at hlt)
        obtain ⟨c0, c1⟩ := hc j hlt
        have CD := do_is (l[j]).1 (l[j]).2 W.heap.size f lb g qb v' Q' F' (4096 * j) (by omega) wr hJ
        generalize l[j] = a at *
        have hj1 : (j : Int) < l.length := by omega
        have hj0 : (0 : Int) ≤ (j : Int) := by omega
        clear hc hJ hbr CM
        go_wp2_with (first | (go_at_call 18; refine CD.mono ?_; rintro e w3 ⟨rfl, v3, Q3, F3, hJ3, -, ha3, -⟩; (have HJ3 := Lib.hid hJ3); (have HB3 := Lib.hid (HBR.out.trans (joint_below HJR.out ha3))); clear hJ3 ha3) | (go_at_call 19; refine (same_law _ _ _ _ _ _ _ _ _ w3 HJ3.out).mono ?_; rintro e w4 ⟨rfl, hb4⟩; have HB4 := Lib.hid hb4; clear hb4))
        go_roundw
        case rel => exact ⟨j + 1, v3, Q3, F3, by omega, by go_num, (HJ3.out.below HB4.out).more (by omega), HB3.out.trans (HB4.out.mono HJ3.out.hB)⟩
        case measure => simp [intOf]; omega
      · clear hJ hbr CM
        go_wp2_with (go_at_call 9; refine (known_is _).mono ?_; rintro e w1 ⟨rfl, hb⟩)
        go_ret
        exact ⟨rfl, HBR.out.trans (hb.mono HBR.out.size)⟩
end Go.Proofs.Ytoihldagpnkfoaa
