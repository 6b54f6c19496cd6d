/- TreeCopies, by a walk: true at each size and each three rows of acts. -/
import Derived.Test.YtoihldagpnkfoaaTreeLawSame
import Derived.Test.YtoihldagpnkfoaaTreeActs
import Derived.Test.YtoihldagpnkfoaaTreeDrops
namespace Go.Proofs.Ytoihldagpnkfoaa
open Go.RowKit
set_option linter.unusedVariables false
set_option linter.unusedSimpArgs false

/-- Two pairs of forests, neither of which writes where the other one lies. -/
structure Two (w : World) (B f lb g qb f2 lb2 g2 qb2 : Nat) (v v2 : Value) (Q Q2 : Qw) (F F2 : Fo) (T T2 : Nat) : Prop where
  one : Joint w B f lb g qb v Q F T
  two : Joint w B f2 lb2 g2 qb2 v2 Q2 F2 T2
  d1 : ∀ k, jm f lb g qb v k → ¬ jf f2 lb2 g2 qb2 F2.n v2 Q2 k
  d2 : ∀ k, jm f2 lb2 g2 qb2 v2 k → ¬ jf f lb g qb F.n v Q k
section
variable {w w' : World} {B f lb g qb f2 lb2 g2 qb2 : Nat} {v v2 v' : Value} {Q Q2 Q' : Qw} {F F2 F' : Fo} {T T2 T' : Nat}
theorem Two.swap (h : Two w B f lb g qb f2 lb2 g2 qb2 v v2 Q Q2 F F2 T T2) : Two w B f2 lb2 g2 qb2 f lb g qb v2 v Q2 Q F2 F T2 T := ⟨h.two, h.one, h.d2, h.d1⟩
theorem Two.below (h : Two w B f lb g qb f2 lb2 g2 qb2 v v2 Q Q2 F F2 T T2) (hb : Below w.heap.size w w') : Two w' B f lb g qb f2 lb2 g2 qb2 v v2 Q Q2 F F2 T T2 := ⟨h.one.below hb, h.two.below hb, h.d1, h.d2⟩
theorem Two.more (h : Two w B f lb g qb f2 lb2 g2 qb2 v v2 Q Q2 F F2 T T2) (h1 : T ≤ T') : Two w B f lb g qb f2 lb2 g2 qb2 v v2 Q Q2 F F2 T' T2 := ⟨h.one.more h1, h.two, h.d1, h.d2⟩
/-- The first pair takes a step. -/
theorem Two.step (h : Two w B f lb g qb f2 lb2 g2 qb2 v v2 Q Q2 F F2 T T2) (hj : Joint w' B f lb g qb v' Q' F' T') (ha : Apart (jm f lb g qb v) w w')
    (hf : ∀ k, jf f lb g qb F'.n v' Q' k → jf f lb g qb F.n v Q k ∨ w.heap.size ≤ k) (hm : ∀ k, jm f lb g qb v' k → jm f lb g qb v k ∨ w.heap.size ≤ k) : Two w' B f lb g qb f2 lb2 g2 qb2 v' v2 Q' Q2 F' F2 T' T2 := by
  refine ⟨hj, h.two.apart ha fun k hk hk' => h.d1 k hk' hk, fun k hk hk' => ?_, fun k hk hk' => ?_⟩
  · have h1 := h.two.lt hk'
    rcases hm k hk with e | e
    · exact h.d1 k e hk'
    · omega
  · have h1 := h.two.lt (jm_jf (n := F2.n) (Q := Q2) hk)
    rcases hf k hk' with e | e
    · exact h.d2 k hk e
    · omega
end
theorem alike_symm {F G : Fo} (hn : F.n = G.n) (h : Alike F G) : Alike G F :=
  ⟨h.1.symm, fun i hi => by
    obtain ⟨e1, e2, e3⟩ := h.2 i (by omega)
    exact ⟨e1.symm, fun hg => (e2 (by rw [e1]; exact hg)).symm, e3.symm⟩⟩
/-- The copies agree, and lie apart. -/
theorem two_copy {w w1 w2 : World} {B f lb g qb f2 lb2 g2 qb2 : Nat} {v v2 : Value} {Q : Qw} {F : Fo} {T : Nat} (h : Joint w B f lb g qb v Q F T)
    (hp : Prg w1 f2 lb2 v2 F) (hlo : ∀ k, own3 f2 lb2 v2 k → w.heap.size ≤ k) (hb1 : Below w.heap.size w w1) (hr : Ref w2 g2 qb2 Q F T) (hg : w1.heap.size ≤ g2) (hq : w1.heap.size ≤ qb2) (hb2 : Below w1.heap.size w1 w2) :
    Two w2 B f lb g qb f2 lb2 g2 qb2 v v2 Q Q F F T T := by
  have hb := hb1.trans (hb2.mono hb1.size)
  have hs := hb1.size
  have hB := h.hB
  refine ⟨h.below hb, ⟨hp.below hb2, hr, fun k hk hk' => ?_, fun k hk => ?_, by have := hb2.size; omega⟩, fun k hk hk' => ?_, fun k hk hk' => ?_⟩
  · have q1 := hlo k hk
    have q2 := own3_lt hp hk
    rcases hk' with (e | e) | e
    · omega
    · omega
    · have := h.ref.lt (k := k) (.inr e); omega
  · rcases hk with e | e | e
    · have := hlo k e; omega
    · omega
    · omega
  · have q1 := h.lt (jm_jf (n := F.n) (Q := Q) hk)
    rcases hk' with e | (e | e) | e
    · have := hlo k e; omega
    · omega
    · omega
    · rcases hk with e2 | e2
      · exact h.sep k e2 (.inr e)
      · obtain ⟨lc, hq⟩ := h.ref.qf
        have := hq.ng k e
        rcases e2 with e2 | e2
        · exact this.1 e2
        · exact this.2 e2
  · have q1 := h.lt hk'
    rcases hk with e | e | e
    · have := hlo k e; omega
    · omega
    · omega

set_option maxRecDepth 100000 in
set_option maxHeartbeats 16000000 in
theorem copies_walk (s : Int) (A A1 A2 : Option Addr) (cap cap1 cap2 : Nat) (l l1 l2 : List (Int × Int)) (W : World) (hA : Acts W A l) (hA1 : Acts W A1 l1) (hA2 : Acts W A2 l2) :
    Calls Try.prog 7 #[.int .i64 s, .slice A l.length cap, .slice A1 l1.length cap1, .slice A2 l2.length cap2] W fun e w' => e = .returned (.bool true) ∧ Below W.heap.size W w' := by
  by_cases hm : Much s l.length 50
  · have CM := much_yes s A l.length cap 50 W hm
    clear hm hA hA1 hA2
    go_enter Try.func7, Try.ntmps7
    go_wp2_with (first | (go_at_call 16; refine CM.mono ?_; rintro e w' ⟨rfl, rfl⟩) | (go_at_call 9; refine (known_is W).mono ?_; rintro e w1 ⟨rfl, hb⟩))
    go_ret
    exact ⟨rfl, hb⟩
  · have CM := much_no s A l.length cap 50 W hm
    unfold Much at hm
    obtain ⟨n, rfl⟩ := Int.eq_ofNat_of_zero_le (show 0 ≤ s by omega)
    have h1 : 1 ≤ n := by omega
    have h2 : n ≤ 24 := by omega
    have h3 : l.length ≤ 50 := by omega
    clear hm
    by_cases hl1 : l1.length ≤ 25
    · by_cases hl2 : l2.length ≤ 25
      · have e1 : decide (25 < l1.length) = false := by simp; omega
        have e2 : decide (25 < l2.length) = false := by simp; omega
        have e1' : ¬ (25 : Int) < (l1.length : Int) := by omega
        have e2' : ¬ (25 : Int) < (l2.length : Int) := by omega
        have HA := Lib.hid (And.intro hA (And.intro hA1 hA2))
        clear hA hA1 hA2
        go_enter Try.func7, Try.ntmps7
        go_wp2_with (first | (go_at_call 16; refine CM.mono ?_; rintro e w' ⟨rfl, rfl⟩) | (go_at_call 10; refine (new_is n W h1 (by omega)).mono ?_; rintro e w1 ⟨f, lb, v, rfl, hp, hlo, hb⟩; (have HP := Lib.hid (And.intro hp (And.intro hlo hb))); clear hp hlo hb) | (go_at_call 17; refine (refNew_is n w1 h1 (by omega)).mono ?_; rintro e w2 ⟨g, qb, rfl, hr, hg, hq, hb⟩; (have HJ := Lib.hid (joint_new HP.out.1 HP.out.2.1 HP.out.2.2 hr hg hq hb)); (have HB2 := Lib.hid (HP.out.2.2.trans (hb.mono HP.out.2.2.size))); clear hr hg hq hb))
        clear CM e1 e2 e1' e2'
        go_loopw [12] (fun i wr => ∃ (j : Nat) (v' : Value) (Q' : Qw) (F' : Fo), j ≤ l.length ∧ i = .int .i64 j ∧ F'.n = n ∧ Joint wr W.heap.size f lb g qb v' Q' F' (4096 * j) ∧ Below W.heap.size W wr) (fun i _ => l.length - (intOf i).toNat)
        case atStart => exact ⟨0, v, newQw, chain n 0, Nat.zero_le _, rfl, rfl, HJ.out, HB2.out⟩
        case round =>
          obtain ⟨j, v', Q', F', hj, rfl, hFn, hJ, hbr⟩ := hrel
          have HJR := Lib.hid hJ
          have HBR := Lib.hid hbr
          have HFN := Lib.hid hFn
          by_cases hlt : j < l.length
          · obtain ⟨ga, o, rfl, hga, hc⟩ := (HA.out.1.below (Nat.le_refl _) hbr hbr.size) (fun e => by rw [e] at hlt; simp at hlt)
            obtain ⟨c0, c1⟩ := hc j hlt
            have CD := do_is (l[j]).1 (l[j]).2 W.heap.size f lb g qb v' Q' F' (4096 * j) (by omega) wr hJ
            generalize l[j] = a at *
            have hj1 : (j : Int) < l.length := by omega
            have hj0 : (0 : Int) ≤ (j : Int) := by omega
            clear hc hJ hbr hFn
            go_wp2_with (go_at_call 18; refine CD.mono ?_; rintro e w3 ⟨rfl, v3, Q3, F3, hJ3, hn3, ha3, -⟩; (have HJ3 := Lib.hid (And.intro hJ3 hn3)); (have HB3 := Lib.hid (HBR.out.trans (joint_below HJR.out ha3))); clear hJ3 ha3 hn3)
            go_roundw
            case rel => exact ⟨j + 1, v3, Q3, F3, by omega, by go_num, HJ3.out.2.trans HFN.out, HJ3.out.1.more (by omega), HB3.out⟩
            case measure => simp [intOf]; omega
          · clear hJ hbr hFn
            obtain ⟨w4, hw4⟩ : ∃ w4, w4 = wr := ⟨_, rfl⟩
            subst hw4
            have hjl : j = l.length := by omega
            go_wp2_with (first | (go_at_call 20; refine (copy_is HJR.out.prg).mono ?_; rintro e w5 ⟨f2, lb2, v2, rfl, hp2, hlo2, hb5⟩; (have HC := Lib.hid (And.intro hp2 (And.intro hlo2 hb5))); clear hp2 hlo2 hb5) | (go_at_call 29; refine (refCopy_is (HJR.out.ref.below HC.out.2.2)).mono ?_; rintro e w6 ⟨g2, qb2, rfl, hr2, hg2, hq2, hb6⟩; (have HT := Lib.hid (And.intro (two_copy HJR.out HC.out.1 HC.out.2.1 HC.out.2.2 hr2 hg2 hq2 hb6) (HBR.out.trans ((HC.out.2.2.trans (hb6.mono HC.out.2.2.size)).mono HBR.out.size)))); clear hr2 hg2 hq2 hb6) | (go_at_call 23; refine (same_is HT.out.1.two.prg HT.out.1.one.prg rfl).mono ?_; rintro e w7 ⟨⟨b, rfl, hb⟩, hw⟩; (have hbt : b = true := hb.2 (alike_refl _)); subst hbt; (have HT7 := Lib.hid (And.intro (HT.out.1.below hw) (HT.out.2.trans (hw.mono HT.out.1.one.hB)))); clear hb hw))
            clear hjl
            go_loopw [15] (fun i wr => ∃ (j : Nat) (v' : Value) (Q'' : Qw) (F'' : Fo), j ≤ l1.length ∧ i = .int .i64 j ∧ F''.n = n ∧ Two wr W.heap.size f lb g qb f2 lb2 g2 qb2 v' v2 Q'' Q' F'' F' (204800 + 4096 * j) 204800 ∧ Below W.heap.size W wr) (fun i _ => l1.length - (intOf i).toNat)
            case atStart => exact ⟨0, v', Q', F', Nat.zero_le _, rfl, HFN.out, ((HT7.out.1.more (T' := 204800) (by omega)).swap.more (T' := 204800) (by omega)).swap, HT7.out.2⟩
            case round =>
              obtain ⟨q, va, Qa, Fa, hq, rfl, hFa, hTw, hbr⟩ := hrel
              have HTW := Lib.hid hTw
              have HBA := Lib.hid hbr
              have HFA := Lib.hid hFa
              by_cases hlq : q < l1.length
              · obtain ⟨ga, o, rfl, hga, hc⟩ := (HA.out.2.1.below (Nat.le_refl _) hbr hbr.size) (fun e => by rw [e] at hlq; simp at hlq)
                obtain ⟨c0, c1⟩ := hc q hlq
                have CD := do_is (l1[q]).1 (l1[q]).2 W.heap.size f lb g qb va Qa Fa (204800 + 4096 * q) (by omega) wr hTw.one
                generalize l1[q] = a at *
                have hj1 : (q : Int) < l1.length := by omega
                have hj0 : (0 : Int) ≤ (q : Int) := by omega
                clear hc hTw hbr hFa
                go_wp2_with (go_at_call 18; refine CD.mono ?_; rintro e w8 ⟨rfl, v8, Q8, F8, hJ8, hn8, ha8, hf8, hm8⟩; (have HT8 := Lib.hid (And.intro (HTW.out.step hJ8 ha8 hf8 hm8) (And.intro hn8 (HBA.out.trans (joint_below HTW.out.one ha8))))); clear hJ8 ha8 hn8 hf8 hm8)
                go_roundw
                case rel => exact ⟨q + 1, v8, Q8, F8, by omega, by go_num, HT8.out.2.1.trans HFA.out, HT8.out.1.more (by omega), HT8.out.2.2⟩
                case measure => simp [intOf]; omega
              · clear hTw hbr hFa
                go_wp2_with fail
                go_loopw [16] (fun i wr => ∃ (j : Nat) (v' : Value) (Q'' : Qw) (F'' : Fo), j ≤ l2.length ∧ i = .int .i64 j ∧ F''.n = n ∧ Two wr W.heap.size f2 lb2 g2 qb2 f lb g qb v' va Q'' Qa F'' Fa (204800 + 4096 * j) (204800 + 4096 * q) ∧ Below W.heap.size W wr) (fun i _ => l2.length - (intOf i).toNat)
                case atStart => exact ⟨0, v2, Q', F', Nat.zero_le _, rfl, HFN.out, HTW.out.swap, HBA.out⟩
                case round =>
                  obtain ⟨p, vb, Qb, Fb, hp, rfl, hFb, hTw, hbr⟩ := hrel
                  have HTV := Lib.hid hTw
                  have HBB := Lib.hid hbr
                  have HFB := Lib.hid hFb
                  by_cases hlp : p < l2.length
                  · obtain ⟨ga, o, rfl, hga, hc⟩ := (HA.out.2.2.below (Nat.le_refl _) hbr hbr.size) (fun e => by rw [e] at hlp; simp at hlp)
                    obtain ⟨c0, c1⟩ := hc p hlp
                    have CD := do_is (l2[p]).1 (l2[p]).2 W.heap.size f2 lb2 g2 qb2 vb Qb Fb (204800 + 4096 * p) (by omega) wr hTw.one
                    generalize l2[p] = a at *
                    have hj1 : (p : Int) < l2.length := by omega
                    have hj0 : (0 : Int) ≤ (p : Int) := by omega
                    clear hc hTw hbr hFb
                    go_wp2_with (go_at_call 18; refine CD.mono ?_; rintro e w8 ⟨rfl, v8, Q8, F8, hJ8, hn8, ha8, hf8, hm8⟩; (have HT8 := Lib.hid (And.intro (HTV.out.step hJ8 ha8 hf8 hm8) (And.intro hn8 (HBB.out.trans (joint_below HTV.out.one ha8))))); clear hJ8 ha8 hn8 hf8 hm8)
                    go_roundw
                    case rel => exact ⟨p + 1, v8, Q8, F8, by omega, by go_num, HT8.out.2.1.trans HFB.out, HT8.out.1.more (by omega), HT8.out.2.2⟩
                    case measure => simp [intOf]; omega
                  · clear hTw hbr hFb
                    have hFF : Fa.n = Fb.n := HFA.out.trans HFB.out.symm
                    have HFF := Lib.hid hFF
                    obtain ⟨al, hal⟩ : ∃ al : Bool, (al = true ↔ Alike Fa Fb) := by
                      by_cases e : Alike Fa Fb
                      · exact ⟨true, by simp [e]⟩
                      · exact ⟨false, by simp [e]⟩
                    have HAL := Lib.hid hal
                    have hll : (al == al) = true := by simp
                    clear hal hFF
                    go_wp2_with (first | (go_at_call 30; refine (refSame_is HTV.out.two.ref HTV.out.one.ref HTV.out.two.prg.wf HTV.out.one.prg.wf HFF.out).mono ?_; rintro e x1 ⟨⟨b, rfl, hb⟩, hw⟩; (have hba : b = al := Bool.eq_iff_iff.2 (hb.trans HAL.out.symm)); subst b; (have HX1 := Lib.hid (And.intro (HTV.out.below hw) (HBB.out.trans (hw.mono HTV.out.one.hB)))); clear hb hw) | (go_at_call 19; (have := mk1); refine (same_law _ _ _ _ _ _ _ _ _ x2 HX2.out.1.one).mono ?_; rintro e x3 ⟨rfl, hw⟩; (have HX3 := Lib.hid (And.intro (HX2.out.1.below hw) (HX2.out.2.trans (hw.mono HX2.out.1.one.hB)))); clear hw) | (go_at_call 19; (fail_if_success have := mk1); refine (same_law _ _ _ _ _ _ _ _ _ x1 HX1.out.1.two).mono ?_; rintro e x2 ⟨rfl, hw⟩; (have HX2 := Lib.hid (And.intro (HX1.out.1.below hw) (HX1.out.2.trans (hw.mono HX1.out.1.one.hB)))); clear hw; have mk1 := trivial) | (go_at_call 23; (have := mk2); refine (same_is HX4.out.1.one.prg HX4.out.1.two.prg HFF.out.symm).mono ?_; rintro e x5 ⟨⟨b2, rfl, hb⟩, hw⟩; (have hba : b2 = al := Bool.eq_iff_iff.2 (hb.trans (Iff.trans ⟨fun hx => alike_symm HFF.out.symm hx, fun hx => alike_symm HFF.out hx⟩ HAL.out.symm))); subst b2; (have HX5 := Lib.hid (HX4.out.2.trans (hw.mono HX4.out.1.one.hB))); clear hb hw) | (go_at_call 23; (fail_if_success have := mk2); refine (same_is HX3.out.1.two.prg HX3.out.1.one.prg HFF.out).mono ?_; rintro e x4 ⟨⟨b1, rfl, hb⟩, hw⟩; (have hba : b1 = al := Bool.eq_iff_iff.2 (hb.trans HAL.out.symm)); subst b1; (have HX4 := Lib.hid (And.intro (HX3.out.1.below hw) (HX3.out.2.trans (hw.mono HX3.out.1.one.hB)))); clear hb hw; have mk2 := trivial) | (go_at_call 9; refine (known_is _).mono ?_; rintro e x6 ⟨rfl, hb⟩))
                    go_ret
                    exact ⟨rfl, HX5.out.trans (hb.mono HX5.out.size)⟩
      · have e1 : decide (25 < l1.length) = false := by simp; omega
        have e2 : decide (25 < l2.length) = true := by simp; omega
        have e1' : ¬ (25 : Int) < (l1.length : Int) := by omega
        have e2' : (25 : Int) < (l2.length : Int) := by omega
        clear hA hA1 hA2 hl1 hl2
        go_enter Try.func7, Try.ntmps7
        go_wp2_with (first | (go_at_call 16; refine CM.mono ?_; rintro e w' ⟨rfl, rfl⟩) | (go_at_call 9; refine (known_is W).mono ?_; rintro e w1 ⟨rfl, hb⟩))
        go_ret
        exact ⟨rfl, hb⟩
    · have e1 : decide (25 < l1.length) = true := by simp; omega
      have e1' : (25 : Int) < (l1.length : Int) := by omega
      clear hA hA1 hA2 hl1
      go_enter Try.func7, Try.ntmps7
      go_wp2_with (first | (go_at_call 16; refine CM.mono ?_; rintro e w' ⟨rfl, rfl⟩) | (go_at_call 9; refine (known_is W).mono ?_; rintro e w1 ⟨rfl, hb⟩))
      go_ret
      exact ⟨rfl, hb⟩
end Go.Proofs.Ytoihldagpnkfoaa
