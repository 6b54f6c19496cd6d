/- Of the following, one behind the other: CspaceCopies, by a walk: true at all sizes and each three rows of acts. -/
import Derived.Test.YtbknmfegckeogaaPk18
/- CspaceCopies, by a walk: true at all sizes and each three rows of acts. -/
namespace Go.Proofs.Ytbknmfegckeogaa
open Go.RowKit Go.Maps
set_option linter.unusedVariables false
set_option linter.unusedSimpArgs false
/-- Two pairs of tables that share nothing. -/
structure Duo (W w : World) (A : Ad) (R : Rd) (O : Ad) (V : Rd) (S : Sp) (j1 : Nat) (A1 : Ad) (R1 : Rd) (S1 : Sp) (j2 : Nat) (A2 : Ad) (R2 : Rd) (S2 : Sp) : Prop where
  l1 : Lw W w A R S j1 A1 R1 S1
  l2 : Lw W w O V S j2 A2 R2 S2
  d : ∀ k, A1.own k ∨ R1.foot k → ¬ (A2.own k ∨ R2.foot k)
section
variable {W w w' w2 w3 : World} {A A1 A2 O A' : Ad} {R R1 R2 V R' : Rd} {S S1 S2 S' : Sp} {j j1 j2 : Nat}
theorem Duo.swap (h : Duo W w A R O V S j1 A1 R1 S1 j2 A2 R2 S2) : Duo W w O V A R S j2 A2 R2 S2 j1 A1 R1 S1 := ⟨h.l2, h.l1, fun k hk hk2 => h.d k hk2 hk⟩
theorem Duo.more (h : Duo W w A R O V S j1 A1 R1 S1 j2 A2 R2 S2) (hb : Below w.heap.size w w') : Duo W w' A R O V S j1 A1 R1 S1 j2 A2 R2 S2 := ⟨h.l1.more hb, h.l2.more hb, h.d⟩
theorem Jt.lt (h : Jt w A R S) {k : Nat} (hk : A.own k ∨ R.foot k) : k < w.heap.size := by
  rcases hk with hk | hk
  · exact h.sp.lt hk
  · exact h.rf.lt hk
theorem Duo.step1 (h : Duo W w A R O V S j1 A1 R1 S1 j2 A2 R2 S2) (hl : Lw W w' A R S (j1 + 1) A' R' S') (hg : Gone w w' A1 R1 A' R') : Duo W w' A R O V S (j1 + 1) A' R' S' j2 A2 R2 S2 := by
  have hz := fun k (hk : A2.own k ∨ R2.foot k) => h.l2.jt.lt hk
  have hd := h.d
  refine ⟨hl, ⟨⟨h.l2.jt.sp.apart hg.apart fun k hk hk2 => ?_, h.l2.jt.rf.apart hg.apart fun k hk hk2 => ?_, h.l2.jt.j, h.l2.jt.lim, h.l2.jt.sep⟩, h.l2.came, h.l2.ab, h.l2.rb, h.l2.lo, hl.bel, h.l2.gs, h.l2.sl, h.l2.n⟩, fun k hk hk2 => ?_⟩
  · rcases hk2 with e | e
    · exact hd k (.inl e) (.inl hk)
    · exact hd k (.inr (.inl e)) (.inl hk)
  · rcases hk2 with e | e
    · exact hd k (.inl e) (.inr hk)
    · exact hd k (.inr (.inl e)) (.inr hk)
  · have hlt := hz k hk2
    rcases hk with hk | hk
    · rcases hg.fa k hk with e | e
      · exact hd k (.inl e) hk2
      · omega
    · rcases hg.fr k hk with e | e
      · exact hd k (.inr e) hk2
      · omega
theorem Duo.start (h : Lw W w A R S j A1 R1 S1) (h2 : SpAt w2 O S1) (ho : ∀ k, O.own k → w.heap.size ≤ k) (hb : Below w.heap.size w w2) (h3 : RfAt w3 V S1) (ho3 : ∀ k, V.foot k → w2.heap.size ≤ k) (hb3 : Below w2.heap.size w2 w3) : Duo W w3 A R O V S j A1 R1 S1 j O V S1 := by
  have hz := hb.size
  have hW := h.bel.size
  have hb' : Below w.heap.size w w3 := hb.trans (hb3.mono hz)
  refine ⟨h.more hb', ⟨⟨h2.below hb3, h3, h.jt.j, h.jt.lim, fun k hk hk2 => ?_⟩, h.came, rfl, rfl, fun k hk => ?_, h.bel.trans (hb'.mono hW), h.gs, h.sl, h.n⟩, fun k hk hk2 => ?_⟩
  · have := h2.lt hk
    have := ho3 k hk2
    omega
  · rcases hk with hk | hk
    · have := ho k hk
      omega
    · have := ho3 k hk
      omega
  · have := h.jt.lt hk
    rcases hk2 with hk2 | hk2
    · have := ho k hk2
      omega
    · have := ho3 k hk2
      omega
theorem Duo.same_ (h : Duo W w A R O V S j1 A1 R1 S1 j2 A2 R2 S2) : Calls Try.prog 22 #[.pointer (some ⟨A.b, 0, none⟩), .pointer (some ⟨O.b, 0, none⟩)] w (SpSamePost S1 S2 w) := by
  have := same_is h.l1.jt.sp h.l2.jt.sp h.l1.jt.lim h.l2.jt.lim h.l1.jt.j h.l2.jt.j
  rwa [h.l1.ab, h.l2.ab] at this
theorem Lw.find_ (h : Lw W w A R S j A1 R1 S1) (g s : Int) : Calls Try.prog 27 #[.pointer (some ⟨R.b, 0, none⟩), .int .i64 g, .int .i64 s] w fun e w' => e = .returned (.int .i64 (posI S1.L g s)) ∧ w = w' := by
  have := find_is h.jt.rf (h.jt.j.few h.jt.lim) g s
  rwa [h.rb] at this
theorem Lw.parent_ (h : Lw W w A R S j A1 R1 S1) (g s : Int) : Calls Try.prog 28 #[.pointer (some ⟨R.b, 0, none⟩), .int .i64 g, .int .i64 s] w fun e w' => e = .returned (.tuple #[.int .i64 (pOf S1 g s).1, .int .i64 (pOf S1 g s).2.1, .bool (pOf S1 g s).2.2]) ∧ Below w.heap.size w w' := by
  have := rfParent_any h.jt.rf (h.jt.j.few h.jt.lim) g s
  rwa [h.rb] at this
theorem Lw.list (h : Lw W w A R S j A1 R1 S1) : w.cell? ⟨R.b, 3, none⟩ = some (.slice R1.A S1.L.length R1.c) := by
  have := h.jt.rf.cells.2.2.2.1
  rwa [h.rb] at this
/-- So far alike. -/
def AlikeTo (S T : Sp) (k : Nat) : Prop := S.L.length = T.L.length ∧ ∀ j, j < k → ∀ h : j < S.L.length, SameE S T (S.L[j]'h)
theorem AlikeTo.next {S T : Sp} {k : Nat} (h : AlikeTo S T k) (hk : k < S.L.length) : AlikeTo S T (k + 1) ↔ SameE S T (S.L[k]'hk) := by
  refine ⟨fun h2 => h2.2 k (Nat.lt_succ_self _) hk, fun hs => ⟨h.1, fun j hj hl => ?_⟩⟩
  by_cases e : j < k
  · exact h.2 j e hl
  · have : j = k := by omega
    subst this
    exact hs
theorem Duo.alike (h : Duo W w A R O V S j1 A1 R1 S1 j2 A2 R2 S2) : SameP S1 S2 ↔ AlikeTo S1 S2 S1.L.length := by
  refine ⟨fun hs => ⟨hs.2.2.2.1, fun j _ hl => hs.2.2.2.2 _ (List.getElem_mem hl)⟩, fun ha => ⟨h.l1.gs.trans h.l2.gs.symm, h.l1.sl.trans h.l2.sl.symm, h.l1.n.trans h.l2.n.symm, ha.1, fun e he => ?_⟩⟩
  obtain ⟨j, hl, rfl⟩ := List.getElem_of_mem he
  exact ha.2 j hl hl
theorem AlikeTo.less {S T : Sp} {k m : Nat} (h : AlikeTo S T m) (hk : k ≤ m) : AlikeTo S T k := ⟨h.1, fun j hj => h.2 j (by omega)⟩
end
set_option maxRecDepth 100000 in
set_option maxHeartbeats 4000000 in
theorem copies_early (gs sl n : Int) (A3 A4 A5 : Option Addr) (k3 k4 k5 : Nat) (l la lb : List Ac) (W : World) (h : ¬ (smallB gs sl n = true ∧ l.length ≤ 60 ∧ la.length ≤ 30 ∧ lb.length ≤ 30)) :
    Calls Try.prog 7 #[.int .i64 gs, .int .i64 sl, .int .i64 n, .slice A3 l.length k3, .slice A4 la.length k4, .slice A5 lb.length k5] W fun e w' => e = .returned (.bool true) ∧ Below W.heap.size W w' := by
  have CS := small_is gs sl n
  cases hm : mayB gs sl n
  · have CB := begin_no gs sl n hm W
    have hs : smallB gs sl n = false := by unfold smallB; rw [hm]; rfl
    rw [hs] at CS
    clear hm h hs
    go_enter Try.func7, Try.ntmps7
    go_wp2_with (first | (go_at_call 9; refine CB.mono ?_; rintro e w' ⟨rfl, hw⟩; subst hw) | (go_at_call 10; refine (CS _).mono ?_; rintro e w' ⟨rfl, hw⟩; subst hw) | (go_at_call 11; refine (known_is _).mono ?_; rintro e w1 ⟨rfl, hb⟩; (have HB := Lib.hid hb); clear hb))
    go_ret
    exact ⟨rfl, HB.out⟩
  · have hn := (mayB_iff _ _ _).1 hm
    obtain ⟨n, rfl⟩ := Int.eq_ofNat_of_zero_le (show 0 ≤ n by have := hn.2.2; omega)
    have CB := begin_yes gs sl n hm W
    clear hm hn
    cases hs : smallB gs sl (n : Int)
    · rw [hs] at CS
      clear hs h
      go_enter Try.func7, Try.ntmps7
      go_wp2_with (first | (go_at_call 9; refine CB.mono ?_; rintro e w1 ⟨A, R, rfl, hj, hlo, hb⟩; (have HL := Lib.hid (Lw.start hj hlo hb)); clear hj hlo hb CB) | (go_at_call 10; refine (CS _).mono ?_; rintro e w' ⟨rfl, hw⟩; subst hw) | (go_at_call 11; refine (known_is _).mono ?_; rintro e w1 ⟨rfl, hb⟩; (have HB := Lib.hid hb); clear hb))
      go_ret
      exact ⟨rfl, HL.out.bel.trans (HB.out.mono HL.out.bel.size)⟩
    · rw [hs] at CS
      have hc : (60 : Int) < (l.length : Int) ∨ (¬ (60 : Int) < (l.length : Int) ∧ (30 : Int) < (la.length : Int)) ∨ (¬ (60 : Int) < (l.length : Int) ∧ ¬ (30 : Int) < (la.length : Int) ∧ (30 : Int) < (lb.length : Int)) := by
        have : ¬ (l.length ≤ 60 ∧ la.length ≤ 30 ∧ lb.length ≤ 30) := fun hh => h ⟨hs, hh⟩
        omega
      clear hs h
      rcases hc with h1 | ⟨h1, h2⟩ | ⟨h1, h2, h3⟩
      all_goals
        go_enter Try.func7, Try.ntmps7
        go_wp2_with (first | (go_at_call 9; refine CB.mono ?_; rintro e w1 ⟨A, R, rfl, hj, hlo, hb⟩; (have HL := Lib.hid (Lw.start hj hlo hb)); clear hj hlo hb CB) | (go_at_call 10; refine (CS _).mono ?_; rintro e w' ⟨rfl, hw⟩; subst hw) | (go_at_call 11; refine (known_is _).mono ?_; rintro e w1 ⟨rfl, hb⟩; (have HB := Lib.hid hb); clear hb))
        go_ret
        exact ⟨rfl, HL.out.bel.trans (HB.out.mono HL.out.bel.size)⟩
set_option maxRecDepth 100000 in
set_option maxHeartbeats 16000000 in
theorem copies_walk (gs sl n : Int) (A3 A4 A5 : Option Addr) (k3 k4 k5 : Nat) (l la lb : List Ac) (W : World) (hA : ActsAt W W.heap.size A3 l) (hA4 : ActsAt W W.heap.size A4 la) (hA5 : ActsAt W W.heap.size A5 lb) (hl : l.length ≤ maxLen) (hla : la.length ≤ maxLen) (hlb : lb.length ≤ maxLen) :
    Calls Try.prog 7 #[.int .i64 gs, .int .i64 sl, .int .i64 n, .slice A3 l.length k3, .slice A4 la.length k4, .slice A5 lb.length k5] W fun e w' => e = .returned (.bool true) ∧ Below W.heap.size W w' := by
  by_cases hsm : smallB gs sl n = true ∧ l.length ≤ 60 ∧ la.length ≤ 30 ∧ lb.length ≤ 30
  · skip
    obtain ⟨hs, hl2, hl3, hl4⟩ := hsm
    have hm := small_may hs
    have hn := (mayB_iff _ _ _).1 hm
    obtain ⟨n, rfl⟩ := Int.eq_ofNat_of_zero_le (show 0 ≤ n by have := hn.2.2; omega)
    have CB := begin_yes gs sl n hm W
    have CS := small_is gs sl (n : Int)
    rw [hs] at CS
    have HA := Lib.hid hA
    have HA4 := Lib.hid hA4
    have HA5 := Lib.hid hA5
    have HLS := Lib.hid (And.intro hl2 (And.intro hl3 hl4))
    have q3 : ¬ (60 : Int) < (l.length : Int) := by omega
    have q4 : ¬ (30 : Int) < (la.length : Int) := by omega
    have q5 : ¬ (30 : Int) < (lb.length : Int) := by omega
    clear hA hA4 hA5 hm hn hs hl hla hlb hl2 hl3 hl4
    go_enter Try.func7, Try.ntmps7
    go_wp2_with (first | (go_at_call 9; refine CB.mono ?_; rintro e w1 ⟨A, R, rfl, hj, hlo, hb⟩; (have HL := Lib.hid (Lw.start hj hlo hb)); clear hj hlo hb CB) | (go_at_call 10; refine (CS _).mono ?_; rintro e w' ⟨rfl, hw⟩; subst hw; clear CS))
    clear q3 q4 q5
    go_loopw [15] (fun i wr => ∃ (j : Nat) (A' : Ad) (R' : Rd) (S' : Sp), i = .int .i64 j ∧ j ≤ l.length ∧ Lw W wr A R (Sp.new gs sl n) j A' R' S') (fun i _ => l.length - (intOf i).toNat)
    case atStart => exact ⟨0, A, R, _, rfl, Nat.zero_le _, HL.out⟩
    case round =>
      obtain ⟨j, A', R', S', rfl, hj, hL⟩ := hrel
      have HLR := Lib.hid hL
      by_cases hlt : j < l.length
      · obtain ⟨ga, o, rfl, hga, hc⟩ := (HA.out.below hL.bel).2 (fun e => by rw [e] at hlt; simp at hlt)
        obtain ⟨c0, c1, c2, c3, c4, c5, c6, c7, c8⟩ := hc j hlt
        have CD := hL.do_ (by omega) _ (HA.out.1 _ (List.getElem_mem hlt))
        generalize l[j] = a at *
        have hj1 : (j : Int) < l.length := by omega
        unfold actC at CD
        clear hc hL
        go_wp2_with (go_at_call 12; refine CD.mono ?_; rintro e w3 ⟨rfl, A3, R3, S3, hL3, -⟩; (have HL3 := Lib.hid hL3); clear hL3 CD)
        go_roundw
        case rel => exact ⟨j + 1, A3, R3, S3, by go_num, by omega, HL3.out⟩
        case measure => simp [intOf]; omega
      · have hj1 : ¬ (j : Int) < (l.length : Int) := by omega
        have CP := spCopy_is hL.jt.sp
        rw [hL.ab] at CP
        have hlen := hL.jt.j.few hL.jt.lim
        have CQ := Lib.hid (fun w8 (hb : Below wr.heap.size wr w8) => rfCopy_is (hL.jt.rf.below hb) hlen)
        rw [hL.rb] at CQ
        have HJ := Lib.hid hL.jt.j
        have HJL := Lib.hid hj
        clear hL hlen hj
        go_upto_region 9 with (first
          | (go_at_call 20; refine CP.mono ?_; rintro e w8 ⟨O, rfl, hs8, ho8, hb8⟩; (have H8 := Lib.hid (And.intro hs8 (And.intro ho8 hb8))); clear hs8 ho8 hb8 CP)
          | (go_at_call 26; refine (CQ.out w8 H8.out.2.2).mono ?_; rintro e w9 ⟨V, rfl, hs9, ho9, hb9⟩; (have HD := Lib.hid (Duo.start HLR.out H8.out.1 H8.out.2.1 H8.out.2.2 hs9 ho9 hb9)); clear hs9 ho9 hb9 CQ H8))
        have CS := HD.out.swap.same_
        clear HLR
        go_upto_region 11 with (go_at_call 22; refine CS.mono ?_; rintro e w10 ⟨b, rfl, hb, hb10⟩; obtain rfl := hb.2 (same_refl HJ.out); (have HD0 := Lib.hid (HD.out.more hb10)); clear hb hb10 CS HD)
        go_wp2_with fail
        go_loopw [18] (fun i wr => ∃ (k1 : Nat) (A1 : Ad) (R1 : Rd) (S1 : Sp), i = .int .i64 k1 ∧ k1 ≤ la.length ∧ Duo W wr A R O V (Sp.new gs sl n) (j + k1) A1 R1 S1 j O V S') (fun i _ => la.length - (intOf i).toNat)
        case atStart => exact ⟨0, _, _, _, rfl, Nat.zero_le _, HD0.out⟩
        case round =>
          obtain ⟨k1, A1, R1, S1, rfl, hk, hL⟩ := hrel
          have HD1 := Lib.hid hL
          have HK1 := Lib.hid hk
          by_cases hlt : k1 < la.length
          · obtain ⟨ga, o, rfl, hga, hc⟩ := (HA4.out.below hL.l1.bel).2 (fun e => by rw [e] at hlt; simp at hlt)
            obtain ⟨c0, c1, c2, c3, c4, c5, c6, c7, c8⟩ := hc k1 hlt
            have CD := hL.l1.do_ (by have := HLS.out; have := HJL.out; omega) _ (HA4.out.1 _ (List.getElem_mem hlt))
            generalize la[k1] = a at *
            have hj1 : (k1 : Int) < la.length := by omega
            have HLT := Lib.hid hlt
            unfold actC at CD
            clear hc hL hk hlt hga
            go_wp2_with (go_at_call 12; refine CD.mono ?_; rintro e w3 ⟨rfl, A9, R9, S9, hL3, hg3⟩; (have HL3 := Lib.hid (And.intro hL3 hg3)); clear hL3 hg3 CD)
            go_roundw
            case rel => exact ⟨k1 + 1, A9, R9, S9, by go_num, by have := HLT.out; omega, HD1.out.step1 HL3.out.1 HL3.out.2⟩
            case measure => have := HLT.out; simp [intOf]; omega
          · have hj1 : ¬ (k1 : Int) < (la.length : Int) := by omega
            clear hL hk hlt
            go_wp2_with fail
            go_loopw [19] (fun i wr => ∃ (k2 : Nat) (A2 : Ad) (R2 : Rd) (S2 : Sp), i = .int .i64 k2 ∧ k2 ≤ lb.length ∧ Duo W wr A R O V (Sp.new gs sl n) (j + k1) A1 R1 S1 (j + k2) A2 R2 S2) (fun i _ => lb.length - (intOf i).toNat)
            case atStart => exact ⟨0, _, _, _, rfl, Nat.zero_le _, HD1.out⟩
            case round =>
              obtain ⟨k2, A2, R2, S2, rfl, hk, hL⟩ := hrel
              have HD2 := Lib.hid hL
              have HK2 := Lib.hid hk
              by_cases hlt : k2 < lb.length
              · obtain ⟨ga, o, rfl, hga, hc⟩ := (HA5.out.below hL.l1.bel).2 (fun e => by rw [e] at hlt; simp at hlt)
                obtain ⟨c0, c1, c2, c3, c4, c5, c6, c7, c8⟩ := hc k2 hlt
                have CD := hL.l2.do_ (by have := HLS.out; have := HJL.out; omega) _ (HA5.out.1 _ (List.getElem_mem hlt))
                generalize lb[k2] = a at *
                have hj1 : (k2 : Int) < lb.length := by omega
                have HLT := Lib.hid hlt
                unfold actC at CD
                clear hc hL hk hlt hga
                go_wp2_with (go_at_call 12; refine CD.mono ?_; rintro e w3 ⟨rfl, A9, R9, S9, hL3, hg3⟩; (have HL3 := Lib.hid (And.intro hL3 hg3)); clear hL3 hg3 CD)
                go_roundw
                case rel => exact ⟨k2 + 1, A9, R9, S9, by go_num, by have := HLT.out; omega, (HD2.out.swap.step1 HL3.out.1 HL3.out.2).swap⟩
                case measure => have := HLT.out; simp [intOf]; omega
              · have hj1 : ¬ (k2 : Int) < (lb.length : Int) := by omega
                clear hL hk hlt
                go_wp2_with fail
                have c3 := HD2.out.l1.list
                have d3 := HD2.out.l2.list
                have hn1 := HD2.out.l1.jt.j.few HD2.out.l1.jt.lim
                have hn2 := HD2.out.l2.jt.j.few HD2.out.l2.jt.lim
                go_quiet (fail)
                clear c3 d3
                have HD3 := Lib.hid (HD2.out.more (below_drewN_ wr _ nq))
                go_wp2_with fail
                clear HD0 HD1 HD2
                go_loopw [21, 20] (fun i al wr => ∃ (k : Nat) (b : Bool), i = .int .i64 k ∧ al = .bool b ∧ k ≤ S1.L.length ∧ (b = true ↔ AlikeTo S1 S2 k) ∧ Duo W wr A R O V (Sp.new gs sl n) (j + k1) A1 R1 S1 (j + k2) A2 R2 S2) (fun i _ _ => S1.L.length - (intOf i).toNat)
                case atStart => exact ⟨0, _, rfl, rfl, Nat.zero_le _, ⟨fun h => ⟨by have h2 : (S1.L.length : Int) = (S2.L.length : Int) := (by simpa using h); omega, fun j hj => absurd hj (Nat.not_lt_zero _)⟩, fun h => by have := h.1; simp; omega⟩, HD3.out⟩
                case round =>
                  obtain ⟨k, b, rfl, rfl, hk, hb, hL⟩ := hrel
                  have HD4 := Lib.hid hL
                  have c3 := hL.l1.list
                  by_cases hlt : k < S1.L.length
                  · have hj1 : (k : Int) < (S1.L.length : Int) := by omega
                    have HLT := Lib.hid hlt
                    cases b
                    · have NS := Lib.hid (show ¬ SameP S1 S2 from fun h => by have := hb.2 ((hL.alike.1 h).less hk); cases this)
                      clear hL hk hb hlt
                      go_wp2_with (first
                        | (go_at_call 19; (fail_if_success have := m1); have m1 := trivial; refine HD4.out.l1.same_.mono ?_; rintro e u1 ⟨rfl, h1⟩; (have E1 := Lib.hid (HD4.out.more h1)); clear h1)
                        | (go_at_call 19; refine E1.out.l2.same_.mono ?_; rintro e u2 ⟨rfl, h2⟩; (have E2 := Lib.hid (E1.out.more h2)); clear h2)
                        | (go_at_call 22; refine E2.out.same_.mono ?_; rintro e u3 ⟨b2, rfl, hb2, h3⟩; (have hb3 : b2 = false := (by cases b2 with | false => rfl | true => exact absurd (hb2.1 rfl) NS.out)); subst hb3; (have E3 := Lib.hid (E2.out.more h3)); clear hb2 h3)
                        | (go_at_call 11; refine (known_is _).mono ?_; rintro e u4 ⟨rfl, h4⟩; (have H4 := Lib.hid h4); clear h4))
                      go_ret
                      exact ⟨rfl, E3.out.l1.bel.trans (H4.out.mono E3.out.l1.bel.size)⟩
                    · have hal := hb.1 rfl
                      obtain ⟨qa, hqa, ho⟩ := hL.l1.jt.rf.one k hlt
                      have HN := hal.next hlt
                      obtain ⟨x, hx⟩ : ∃ x, x = S1.L[k]'hlt := ⟨_, rfl⟩
                      rw [← hx] at ho HN
                      have e0 := ho.c0
                      have e1 := ho.c1
                      have e2 := ho.c2
                      have e3 := ho.c3
                      have e4 := ho.c4
                      have e5 := ho.c5
                      have e6 := ho.c6
                      have e7 := ho.c7
                      rw [hqa] at c3
                      clear hL hk hb hlt hal ho hx hqa
                      go_upto_region 26 with fail
                      clear e0 e1 e2 e3 e4 e5 e6 e7 c3
                      have hbx := Blk.new wr 66 #[.int .i64 (x.id : Int), .int .i64 (x.up : Int), .int .i64 x.g, .int .i64 x.s, .int .i64 x.c.k, .int .i64 x.c.i, .int .u64 x.c.n, .int .u8 x.c.r]
                      have hda := HD4.out.more ((Below.refl _ _).alloc (Nat.le_refl _) (.cells #[.int .i64 (x.id : Int), .int .i64 (x.up : Int), .int .i64 x.g, .int .i64 x.s, .int .i64 x.c.k, .int .i64 x.c.i, .int .u64 x.c.n, .int .u8 x.c.r] 66))
                      obtain ⟨wa, hwa⟩ : ∃ wa, wa = wr.alloc (.cells #[.int .i64 (x.id : Int), .int .i64 (x.up : Int), .int .i64 x.g, .int .i64 x.s, .int .i64 x.c.k, .int .i64 x.c.i, .int .u64 x.c.n, .int .u8 x.c.r] 66) := ⟨_, rfl⟩
                      rw [← hwa] at hbx hda ⊢
                      obtain ⟨bx, hbe⟩ : ∃ bx, bx = wr.heap.size := ⟨_, rfl⟩
                      rw [← hbe] at hbx ⊢
                      clear hwa hbe HD4
                      have HBX := Lib.hid hbx
                      have x2 := hbx.cell 2
                      have x3 := hbx.cell 3
                      simp only [List.getElem?_toArray, List.getElem?_cons_zero, List.getElem?_cons_succ] at x2 x3
                      have HD5 := Lib.hid hda
                      have CF := hda.l2.find_ x.g x.s
                      have CP := hda.l1.parent_ x.g x.s
                      have CPV := Lib.hid (fun w6 (hb6 : Below wa.heap.size wa w6) => (hda.more hb6).l2.parent_ x.g x.s)
                      unfold SameE at HN
                      obtain ⟨⟨pg, ps, pb⟩, hP⟩ : ∃ p, p = pOf S1 x.g x.s := ⟨_, rfl⟩
                      obtain ⟨⟨qg, qs, qb⟩, hQ⟩ : ∃ p, p = pOf S2 x.g x.s := ⟨_, rfl⟩
                      rw [← hP] at CP HN
                      simp only [← hQ] at CPV HN
                      clear hP hQ hda
                      rcases posI_cases S2.L x.g x.s with ⟨hf, hp⟩ | ⟨i, hi, hf, hp⟩
                      · rw [hp] at CF
                        rw [hf] at HN
                        have HNO := Lib.hid (show ¬ AlikeTo S1 S2 (k + 1) from fun h => by obtain ⟨f, hf, _⟩ := HN.1 h; cases hf)
                        clear HN hf hp
                        go_wp2_with (first
                          | (go_at_call 27; refine CF.mono ?_; rintro e w5 ⟨rfl, hw5⟩; subst w5; clear CF)
                          | (go_at_call 28; (fail_if_success have := m1); have m1 := trivial; refine CP.mono ?_; rintro e w6 ⟨rfl, hb6⟩; (have hx6 := HBX.out.below hb6 HBX.out.lt); (have HX6 := Lib.hid hx6); (have x2 := hx6.cell 2); (have x3 := hx6.cell 3); simp only [List.getElem?_toArray, List.getElem?_cons_zero, List.getElem?_cons_succ] at x2 x3; (have HD6 := Lib.hid (HD5.out.more hb6)); (have CP2 := CPV.out w6 hb6); clear hb6 hx6 CP)
                          | (go_at_call 28; refine CP2.mono ?_; rintro e w7 ⟨rfl, hb7⟩; (have hx7 := HX6.out.below hb7 HX6.out.lt); (have x4 := hx7.cell 4); (have x5 := hx7.cell 5); (have x6 := hx7.cell 6); (have x7 := hx7.cell 7); simp only [List.getElem?_toArray, List.getElem?_cons_zero, List.getElem?_cons_succ] at x4 x5 x6 x7; (have HD7 := Lib.hid (HD6.out.more hb7)); (have HW7 := Lib.hid trivial); clear hb7 hx7 CP2 x2 x3))
                        go_quiet (fail)
                        go_wp2_with fail
                        go_roundw
                        case rel => exact ⟨k + 1, false, by go_num, rfl, HLT.out, ⟨fun h => (by cases h), fun h => (absurd h HNO.out)⟩, HD7.out.more (below_drewN_ _ _ _)⟩
                        case measure => have := HLT.out; simp [intOf]; omega
                      · rw [hp] at CF
                        rw [hf] at HN
                        have hi0 : (0 : Int) ≤ (i : Int) := by omega
                        have hi1 : (i : Int) < (S2.L.length : Int) := by omega
                        have HO := Lib.hid (fun W' (hw : Duo W W' A R O V (Sp.new gs sl n) (j + k1) A1 R1 S1 (j + k2) A2 R2 S2) => hw.l2.jt.rf.one i hi)
                        obtain ⟨y, hy⟩ : ∃ y, y = S2.L[i]'hi := ⟨_, rfl⟩
                        rw [← hy] at HN
                        simp only [← hy] at HO
                        have HAL := Lib.hid (show AlikeTo S1 S2 (k + 1) ↔ (y.c = x.c ∧ pg = qg ∧ ps = qs ∧ pb = qb) from HN.trans ⟨fun ⟨f, h1, h2, h3⟩ => by
                          injection h1 with h1
                          subst h1
                          injection h3 with h3 h4
                          injection h4 with h4 h5
                          exact ⟨h2.symm, h3, h4, h5⟩, fun ⟨h1, h2, h3, h4⟩ => ⟨y, rfl, h1.symm, by rw [h2, h3, h4]⟩⟩)
                        clear HN hf hp hy
                        go_wp2_with (first
                          | (go_at_call 27; refine CF.mono ?_; rintro e w5 ⟨rfl, hw5⟩; subst w5; clear CF)
                          | (go_at_call 28; (fail_if_success have := m1); have m1 := trivial; refine CP.mono ?_; rintro e w6 ⟨rfl, hb6⟩; (have hx6 := HBX.out.below hb6 HBX.out.lt); (have HX6 := Lib.hid hx6); (have x2 := hx6.cell 2); (have x3 := hx6.cell 3); simp only [List.getElem?_toArray, List.getElem?_cons_zero, List.getElem?_cons_succ] at x2 x3; (have HD6 := Lib.hid (HD5.out.more hb6)); (have CP2 := CPV.out w6 hb6); clear hb6 hx6 CP)
                          | (go_at_call 28; refine CP2.mono ?_; rintro e w7 ⟨rfl, hb7⟩; (have hx7 := HX6.out.below hb7 HX6.out.lt); (have x4 := hx7.cell 4); (have x5 := hx7.cell 5); (have x6 := hx7.cell 6); (have x7 := hx7.cell 7); simp only [List.getElem?_toArray, List.getElem?_cons_zero, List.getElem?_cons_succ] at x4 x5 x6 x7; (have HD7 := Lib.hid (HD6.out.more hb7)); (have HW7 := Lib.hid trivial); clear hb7 hx7 CP2 x2 x3))
                        have d3 := HD7.out.l2.list
                        obtain ⟨qb_, hqb, hoy⟩ := HO.out w7 HD7.out
                        rw [hqb] at d3
                        have y4 := hoy.c4
                        have y5 := hoy.c5
                        have y6 := hoy.c6
                        have y7 := hoy.c7
                        have EQ := fun W => cap_eql y.c x.c W
                        clear hqb hoy
                        by_cases q0 : y.c = x.c
                        · rw [decide_eq_true q0] at EQ
                          by_cases q1 : pg = qg
                          · have q1' : (pg == qg) = true := by simp [q1]
                            by_cases q2 : ps = qs
                            · have q2' : (ps == qs) = true := by simp [q2]
                              have Q := Lib.hid (And.intro q0 (And.intro q1 q2))
                              clear q0 q1 q2
                              cases pb <;> cases qb
                              · skip
                                go_quiet (fail)
                                go_wp2_with fail
                                go_roundw
                                case rel => exact ⟨k + 1, true, by go_num, rfl, HLT.out, ⟨fun _ => HAL.out.2 ⟨Q.out.1, Q.out.2.1, Q.out.2.2, rfl⟩, fun _ => rfl⟩, HD7.out.more (below_drewN_ _ _ _)⟩
                                case measure => have := HLT.out; simp [intOf]; omega
                              · skip
                                go_quiet (fail)
                                go_wp2_with fail
                                go_roundw
                                case rel => exact ⟨k + 1, false, by go_num, rfl, HLT.out, ⟨fun h => (by cases h), fun h => (by cases (HAL.out.1 h).2.2.2)⟩, HD7.out.more (below_drewN_ _ _ _)⟩
                                case measure => have := HLT.out; simp [intOf]; omega
                              · skip
                                go_quiet (fail)
                                go_wp2_with fail
                                go_roundw
                                case rel => exact ⟨k + 1, false, by go_num, rfl, HLT.out, ⟨fun h => (by cases h), fun h => (by cases (HAL.out.1 h).2.2.2)⟩, HD7.out.more (below_drewN_ _ _ _)⟩
                                case measure => have := HLT.out; simp [intOf]; omega
                              · skip
                                go_quiet (fail)
                                go_wp2_with fail
                                go_roundw
                                case rel => exact ⟨k + 1, true, by go_num, rfl, HLT.out, ⟨fun _ => HAL.out.2 ⟨Q.out.1, Q.out.2.1, Q.out.2.2, rfl⟩, fun _ => rfl⟩, HD7.out.more (below_drewN_ _ _ _)⟩
                                case measure => have := HLT.out; simp [intOf]; omega
                            · have q2' : (ps == qs) = false := by simp [q2]
                              have Q := Lib.hid (And.intro q1 q2)
                              clear q0 q1 q2
                              go_quiet (fail)
                              go_wp2_with fail
                              go_roundw
                              case rel => exact ⟨k + 1, false, by go_num, rfl, HLT.out, ⟨fun h => (by cases h), fun h => (absurd (HAL.out.1 h).2.2.1 Q.out.2)⟩, HD7.out.more (below_drewN_ _ _ _)⟩
                              case measure => have := HLT.out; simp [intOf]; omega
                          · have q1' : (pg == qg) = false := by simp [q1]
                            have Q := Lib.hid q1
                            clear q0 q1
                            go_quiet (fail)
                            go_wp2_with fail
                            go_roundw
                            case rel => exact ⟨k + 1, false, by go_num, rfl, HLT.out, ⟨fun h => (by cases h), fun h => (absurd (HAL.out.1 h).2.1 Q.out)⟩, HD7.out.more (below_drewN_ _ _ _)⟩
                            case measure => have := HLT.out; simp [intOf]; omega
                        · rw [decide_eq_false q0] at EQ
                          have Q := Lib.hid q0
                          clear q0
                          go_quiet (fail)
                          go_wp2_with fail
                          go_roundw
                          case rel => exact ⟨k + 1, false, by go_num, rfl, HLT.out, ⟨fun h => (by cases h), fun h => (absurd (HAL.out.1 h).1 Q.out)⟩, HD7.out.more (below_drewN_ _ _ _)⟩
                          case measure => have := HLT.out; simp [intOf]; omega
                  · have hkr : k = S1.L.length := by omega
                    have hj1 : ¬ (k : Int) < (S1.L.length : Int) := by omega
                    rw [hkr] at hb
                    have HB := hb.trans hL.alike.symm
                    cases b
                    · have NS := Lib.hid (show ¬ SameP S1 S2 from fun h => by have := HB.2 h; cases this)
                      clear hL hk hb hlt HB hkr
                      go_wp2_with (first
                        | (go_at_call 19; (fail_if_success have := m1); have m1 := trivial; refine HD4.out.l1.same_.mono ?_; rintro e u1 ⟨rfl, h1⟩; (have E1 := Lib.hid (HD4.out.more h1)); clear h1)
                        | (go_at_call 19; refine E1.out.l2.same_.mono ?_; rintro e u2 ⟨rfl, h2⟩; (have E2 := Lib.hid (E1.out.more h2)); clear h2)
                        | (go_at_call 22; refine E2.out.same_.mono ?_; rintro e u3 ⟨b2, rfl, hb2, h3⟩; (have hb3 : b2 = false := (by cases b2 with | false => rfl | true => exact absurd (hb2.1 rfl) NS.out)); subst hb3; (have E3 := Lib.hid (E2.out.more h3)); clear hb2 h3)
                        | (go_at_call 11; refine (known_is _).mono ?_; rintro e u4 ⟨rfl, h4⟩; (have H4 := Lib.hid h4); clear h4))
                      go_ret
                      exact ⟨rfl, E3.out.l1.bel.trans (H4.out.mono E3.out.l1.bel.size)⟩
                    · have NS := Lib.hid (HB.1 rfl)
                      clear hL hk hb hlt HB hkr
                      go_wp2_with (first
                        | (go_at_call 19; (fail_if_success have := m1); have m1 := trivial; refine HD4.out.l1.same_.mono ?_; rintro e u1 ⟨rfl, h1⟩; (have E1 := Lib.hid (HD4.out.more h1)); clear h1)
                        | (go_at_call 19; refine E1.out.l2.same_.mono ?_; rintro e u2 ⟨rfl, h2⟩; (have E2 := Lib.hid (E1.out.more h2)); clear h2)
                        | (go_at_call 22; refine E2.out.same_.mono ?_; rintro e u3 ⟨b2, rfl, hb2, h3⟩; (have hb3 : b2 = true := (hb2.2 NS.out)); subst hb3; (have E3 := Lib.hid (E2.out.more h3)); clear hb2 h3)
                        | (go_at_call 11; refine (known_is _).mono ?_; rintro e u4 ⟨rfl, h4⟩; (have H4 := Lib.hid h4); clear h4))
                      go_ret
                      exact ⟨rfl, E3.out.l1.bel.trans (H4.out.mono E3.out.l1.bel.size)⟩
  · exact copies_early gs sl n A3 A4 A5 k3 k4 k5 l la lb W hsm
end Go.Proofs.Ytbknmfegckeogaa
