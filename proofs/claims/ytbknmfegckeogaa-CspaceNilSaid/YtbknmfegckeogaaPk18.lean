/- Of the following, one behind the other: The law's same, may, small, begin, cap0, by walks. The law's known, by walk: true. CspaceNil, a closed sentence, by a walk: what is answered of a space that is not there, and of a zero one. CspaceNil, a closed sentence: the law's walk. -/
import Derived.Test.YtbknmfegckeogaaPk17
/- The law's same, may, small, begin, cap0, by walks. -/
namespace Go.Proofs.Ytbknmfegckeogaa
open Go.RowKit Go.Maps
set_option linter.unusedVariables false
set_option linter.unusedSimpArgs false

section
variable {w : World} {A : Ad} {R : Rd} {S : Sp}
set_option maxRecDepth 100000 in
set_option maxHeartbeats 1000000 in
theorem spLen_is (h : SpAt w A S) : Calls Try.prog 35 #[.pointer (some ⟨A.b, 0, none⟩)] w fun e w' => e = .returned (.int .i64 (S.L.length : Int)) ∧ w = w' := by
  have CN := none_is h
  obtain ⟨es, c, hm, hs⟩ := len_map h A.mc rfl
  obtain ⟨-, -, -, -, -, -, c6⟩ := h.cells
  have hln := run_len_map hm
  rw [← hs]
  clear h hs hm
  go_enter Try.func35, Try.ntmps35
  go_wp2_with (go_at_call 47; refine CN.mono ?_; rintro e w' ⟨rfl, rfl⟩)
  go_ret
  exact ⟨rfl, rfl⟩
set_option maxRecDepth 100000 in
set_option maxHeartbeats 4000000 in
theorem same_law (h : Jt w A R S) : Calls Try.prog 19 #[.pointer (some ⟨A.b, 0, none⟩), .pointer (some ⟨R.b, 0, none⟩)] w fun e w' => e = .returned (.bool true) ∧ Below w.heap.size w w' := by
  have hlen := h.j.few h.lim
  have hcnt := h.j.count
  have CL := fun n => (spLen_is (h.sp.drewN n)).mono (fun e w'' hh => And.intro hh.1 hh.2.symm)
  have CR := fun n => room_sp (h.sp.drewN n) h.lim (by omega)
  obtain ⟨c0, -, c2, c3, -⟩ := h.rf.cells
  have HJ := Lib.hid h
  have hz : IntKind.i64.wrap ((S.F.n : Int) - (S.L.length : Int)) = (S.F.n : Int) - (S.L.length : Int) := by rw [IntKind.wrap_i64]; have := h.lim.n; omega
  have hgs := h.lim.gs
  obtain ⟨ng, hng⟩ : ∃ n : Nat, (n : Int) = S.gs := ⟨S.gs.toNat, by omega⟩
  have hn64 : ng ≤ 64 := by omega
  have CC := Lib.hid (fun (g : Int) W (hW : Below w.heap.size w W) => caps_is (h.sp.below hW) h.lim h.j g)
  have CD := Lib.hid (fun (g : Int) W (hW : Below w.heap.size w W) => rfCaps_is (h.rf.below hW) hlen h.lim.sl g)
  have P1 := Lib.hid (fun (g s : Int) W (hW : Below w.heap.size w W) => parent_any (h.sp.below hW) h.lim h.j g s)
  have P2 := Lib.hid (fun (g s : Int) W (hW : Below w.heap.size w W) => rfParent_any (h.rf.below hW) hlen g s)
  have HCL := Lib.hid (fun (g : Int) => Nat.le_trans (capL_len S.L g S.sl.toNat) (show S.sl.toNat ≤ 1000 by have := h.lim.sl; omega))
  obtain ⟨ln, hln⟩ : ∃ ln, ln = S.L.length := ⟨_, rfl⟩
  rw [← hln] at CL CR c3 hz hlen
  have HLN := Lib.hid hln
  clear h hcnt hln
  go_enter Try.func19, Try.ntmps19
  go_wp2_with fail
  go_quiet (first | ((go_at_call 35; exact Calls.quiet_of_same (CL _))) | ((go_at_call 36; exact Calls.quiet_of (CR _))))
  clear CL CR c2 c3 hz
  go_wp2_with fail
  go_loopw [5] (fun i wr => ∃ k : Nat, i = .int .i64 k ∧ k ≤ ng ∧ Below w.heap.size w wr) (fun i _ => ng - (intOf i).toNat)
  case atStart => exact ⟨0, rfl, Nat.zero_le _, below_drewN_ _ _ _⟩
  case round =>
    clear c0
    obtain ⟨k, rfl, hk, hbr⟩ := hrel
    have HB := Lib.hid hbr
    obtain ⟨c0, -, -, c3, -⟩ := (HJ.out.rf.below hbr).cells
    rw [← hng] at c0
    clear hbr
    by_cases hlt : k < ng
    · have hk1 : (k : Int) < (ng : Int) := by omega
      have hll := HCL.out (k : Int)
      have hll2 : (S.caps (k : Int)).length ≤ 1000 := hll
      obtain ⟨l, hl⟩ : ∃ l, l = S.caps (k : Int) := ⟨_, rfl⟩
      have C1 := CC.out (k : Int) wr HB.out
      have C2 := CD.out (k : Int)
      unfold CapsPost at C1 C2
      rw [← hl] at C1 hll2
      simp only [← hl] at C2
      have HC2 := Lib.hid C2
      have HLL := Lib.hid hll2
      clear hl hll hll2 C2 c3
      go_wp2_with (first | (go_at_call 13; refine C1.mono ?_; rintro e w2 ⟨A1, k1, rfl, ho1, hb1⟩; (have hb12 := HB.out.trans (hb1.mono HB.out.size)); (have C2 := HC2.out w2 hb12); (have H1 := Lib.hid (And.intro ho1 hb12)); clear ho1 hb1 hb12 C1) | (go_at_call 52; refine C2.mono ?_; rintro e w3 ⟨A2, k2, rfl, ho2, hb2⟩; (have hb13 := H1.out.2.trans (hb2.mono H1.out.2.size)); (have ho1 := below_own H1.out.1 hb2); (have C3 := sameHeld_is l l ho1 ho2 HLL.out); (have H2 := Lib.hid hb13); simp only [decide_true] at C3; clear ho1 ho2 hb2 hb13 C2) | (go_at_call 51; refine C3.mono ?_; rintro e w4 ⟨rfl, nn, rfl⟩; clear C3))
      go_roundw
      case rel => exact ⟨k + 1, by go_num, by omega, H2.out.trans (below_drewN_ _ _ _)⟩
      case measure => simp [intOf]; omega
    · have hkr : k = ng := by omega
      subst hkr
      have hk1 : ¬ (k : Int) < (k : Int) := by omega
      clear hlt
      go_wp2_with fail
      clear c0 c3
      go_loopw [6] (fun i wr => ∃ j : Nat, i = .int .i64 j ∧ j ≤ ln ∧ Below w.heap.size w wr) (fun i _ => ln - (intOf i).toNat)
      case atStart => exact ⟨0, rfl, Nat.zero_le _, HB.out⟩
      case round =>
        obtain ⟨j, rfl, hj, hbr⟩ := hrel
        have HB2 := Lib.hid hbr
        have h1 := HJ.out.rf.below hbr
        obtain ⟨-, -, -, c3, -⟩ := h1.cells
        rw [← HLN.out] at c3
        clear hbr
        by_cases hlt : j < ln
        · have hj1 : (j : Int) < (ln : Int) := by omega
          obtain ⟨q, hq, ho⟩ := h1.one j (by rw [← HLN.out]; exact hlt)
          have d0 := ho.c0
          have d1 := ho.c1
          have d2 := ho.c2
          have d3 := ho.c3
          have d4 := ho.c4
          have d5 := ho.c5
          have d6 := ho.c6
          have d7 := ho.c7
          obtain ⟨x, hx⟩ : ∃ x, x = S.L[j]'(by rw [← HLN.out]; exact hlt) := ⟨_, rfl⟩
          rw [← hx] at d0 d1 d2 d3 d4 d5 d6 d7
          have HA := Lib.hid (fun o => HB2.out.alloc HB2.out.size o)
          obtain ⟨⟨pg, ps, pb⟩, hP⟩ : ∃ p, p = pOf S x.g x.s := ⟨_, rfl⟩
          have Q1 := P1.out x.g x.s
          have Q2 := P2.out x.g x.s
          simp only [← hP] at Q1 Q2
          have HQ1 := Lib.hid Q1
          have HQ2 := Lib.hid Q2
          rw [hq] at c3
          have hnew := Blk.new wr 66 #[.int .i64 (x.id : Int), .int .i64 (x.up : Int), .int .i64 x.g, .int .i64 x.s, .int .i64 x.c.k, .int .i64 x.c.i, .int .u64 x.c.n, .int .u8 x.c.r]
          have HNW := Lib.hid hnew
          clear hx ho hP Q1 Q2 h1 hq hnew
          cases pb
          all_goals
            go_wp2_with (first | (go_at_call 14; refine (HQ1.out _ (HA.out _)).mono ?_; rintro e w2 ⟨rfl, hb2⟩; (have hx2 := HNW.out.below hb2 HNW.out.lt); (have x2 := hx2.cell 2); (have x3 := hx2.cell 3); simp only [List.getElem?_toArray, List.getElem?_cons_zero, List.getElem?_cons_succ] at x2 x3; (have hb12 := (HA.out _).trans (hb2.mono (HA.out _).size)); (have H2 := Lib.hid hb12); clear hb2 hb12 hx2 d0 d1 d2 d3 d4 d5 d6 d7 c3) | (go_at_call 28; refine (HQ2.out _ H2.out).mono ?_; rintro e w3 ⟨rfl, hb3⟩; (have H3 := Lib.hid (H2.out.trans (hb3.mono H2.out.size))); clear hb3 x2 x3))
            go_roundw
            case rel => exact ⟨j + 1, by go_num, by omega, H3.out⟩
            case measure => simp [intOf]; omega
        · have hj1 : ¬ (j : Int) < (ln : Int) := by omega
          go_wp2_with fail
          go_ret
          exact ⟨rfl, HB2.out⟩
end
/-- May there be such tables? -/
def mayB (gs sl n : Int) : Bool := decide (1 ≤ gs) && decide (gs ≤ 64) && decide (1 ≤ sl) && decide (sl ≤ 32) && decide (1 ≤ n) && decide (n ≤ 512)
theorem mayB_iff (gs sl n : Int) : mayB gs sl n = true ↔ mayN gs sl n := by simp [mayB, mayN, and_assoc]
set_option maxRecDepth 100000 in
set_option maxHeartbeats 1000000 in
theorem mayL_is (gs sl n : Int) (w : World) : Calls Try.prog 17 #[.int .i64 gs, .int .i64 sl, .int .i64 n] w fun e w' => e = .returned (.bool (mayB gs sl n)) ∧ w' = w := by
  obtain ⟨E, hE⟩ : ∃ E, E = mayB gs sl n := ⟨_, rfl⟩
  rw [← hE]
  have hb := mayB_iff gs sl n
  unfold mayN at hb
  have hcs : (¬ 1 ≤ gs ∧ E = false) ∨ (1 ≤ gs ∧ ¬ gs ≤ 64 ∧ E = false) ∨ (1 ≤ gs ∧ gs ≤ 64 ∧ ¬ 1 ≤ sl ∧ E = false) ∨ (1 ≤ gs ∧ gs ≤ 64 ∧ 1 ≤ sl ∧ ¬ sl ≤ 32 ∧ E = false) ∨ (1 ≤ gs ∧ gs ≤ 64 ∧ 1 ≤ sl ∧ sl ≤ 32 ∧ ¬ 1 ≤ n ∧ E = false) ∨ (1 ≤ gs ∧ gs ≤ 64 ∧ 1 ≤ sl ∧ sl ≤ 32 ∧ 1 ≤ n ∧ ¬ n ≤ 512 ∧ E = false) ∨ (1 ≤ gs ∧ gs ≤ 64 ∧ 1 ≤ sl ∧ sl ≤ 32 ∧ 1 ≤ n ∧ n ≤ 512 ∧ E = true) := by
    rw [← hE] at hb
    cases E
    · simp only [Bool.false_eq_true, false_iff] at hb
      simp only [and_true, Bool.false_eq_true, and_false, or_false]
      omega
    · simp only [true_iff] at hb
      simp only [and_true, Bool.true_eq_false, and_false, false_or]
      omega
  clear hb hE
  rcases hcs with ⟨h1, rfl⟩ | ⟨h1, h2, rfl⟩ | ⟨h1, h2, h3, rfl⟩ | ⟨h1, h2, h3, h4, rfl⟩ | ⟨h1, h2, h3, h4, h5, rfl⟩ | ⟨h1, h2, h3, h4, h5, h6, rfl⟩ | ⟨h1, h2, h3, h4, h5, h6, rfl⟩
  all_goals
    go_enter Try.func17, Try.ntmps17
    go_wp2
    go_ret
    exact ⟨rfl, rfl⟩
def smallB (gs sl n : Int) : Bool := mayB gs sl n && decide (gs ≤ 8) && decide (sl ≤ 8)
set_option maxRecDepth 100000 in
set_option maxHeartbeats 1000000 in
theorem small_is (gs sl n : Int) (w : World) : Calls Try.prog 10 #[.int .i64 gs, .int .i64 sl, .int .i64 n] w fun e w' => e = .returned (.bool (smallB gs sl n)) ∧ w' = w := by
  have CM := mayL_is gs sl n
  unfold smallB
  cases hm : mayB gs sl n
  · rw [hm] at CM
    simp only [Bool.false_and]
    clear hm
    go_enter Try.func10, Try.ntmps10
    go_wp2_with (go_at_call 17; refine (CM _).mono ?_; rintro e w2 ⟨rfl, hw2⟩; subst w2)
    go_ret
    exact ⟨rfl, rfl⟩
  · rw [hm] at CM
    simp only [Bool.true_and]
    by_cases h1 : gs ≤ 8
    · by_cases h2 : sl ≤ 8
      · have e : (decide (gs ≤ 8) && decide (sl ≤ 8)) = true := by simp [h1, h2]
        rw [e]
        clear hm e
        go_enter Try.func10, Try.ntmps10
        go_wp2_with (go_at_call 17; refine (CM _).mono ?_; rintro e w2 ⟨rfl, hw2⟩; subst w2)
        go_ret
        exact ⟨rfl, rfl⟩
      · have e : (decide (gs ≤ 8) && decide (sl ≤ 8)) = false := by simp [h2]
        have h2' : decide (sl ≤ 8) = false := by simp [h2]
        rw [e]
        clear hm e h2
        go_enter Try.func10, Try.ntmps10
        go_wp2_with (go_at_call 17; refine (CM _).mono ?_; rintro e w2 ⟨rfl, hw2⟩; subst w2)
        go_ret
        exact ⟨rfl, rfl⟩
    · have e : (decide (gs ≤ 8) && decide (sl ≤ 8)) = false := by simp [h1]
      rw [e]
      clear hm e
      go_enter Try.func10, Try.ntmps10
      go_wp2_with (go_at_call 17; refine (CM _).mono ?_; rintro e w2 ⟨rfl, hw2⟩; subst w2)
      go_ret
      exact ⟨rfl, rfl⟩
set_option maxRecDepth 100000 in
set_option maxHeartbeats 1000000 in
theorem begin_no (gs sl n : Int) (h : mayB gs sl n = false) (w : World) : Calls Try.prog 9 #[.int .i64 gs, .int .i64 sl, .int .i64 n] w fun e w' => e = .returned (.tuple #[.pointer none, .pointer none]) ∧ w' = w := by
  have CN := New_no gs sl n (fun hh => by rw [(mayB_iff _ _ _).2 hh] at h; cases h) w
  clear h
  go_enter Try.func9, Try.ntmps9
  go_wp2_with (go_at_call 18; refine CN.mono ?_; rintro e w2 ⟨rfl, hw2⟩; subst w2)
  go_ret2
  exact ⟨rfl, rfl⟩
set_option maxRecDepth 100000 in
set_option maxHeartbeats 1000000 in
theorem begin_yes (gs sl : Int) (n : Nat) (h : mayB gs sl n = true) (w : World) : Calls Try.prog 9 #[.int .i64 gs, .int .i64 sl, .int .i64 (n : Int)] w fun e w' => ∃ (A : Ad) (R : Rd), e = .returned (.tuple #[.pointer (some ⟨A.b, 0, none⟩), .pointer (some ⟨R.b, 0, none⟩)]) ∧ Jt w' A R (Sp.new gs sl n) ∧ (∀ k, A.own k ∨ R.foot k → w.heap.size ≤ k) ∧ Below w.heap.size w w' := by
  have hm := (mayB_iff _ _ _).1 h
  have CN := New_yes gs sl n hm w
  have CR := Lib.hid (fun W => rfNew_is gs sl n W)
  have HM := Lib.hid hm
  clear h hm
  go_enter Try.func9, Try.ntmps9
  go_wp2_with (first | (go_at_call 18; refine CN.mono ?_; rintro e w2 ⟨A, rfl, hS, hO, hb⟩; (have H1 := Lib.hid (And.intro hS (And.intro hO hb))); clear hS hO hb) | (go_at_call 38; refine (CR.out _).mono ?_; rintro e w3 ⟨R, rfl, hR, hO, hb⟩; (have H2 := Lib.hid (And.intro hR (And.intro hO hb))); clear hR hO hb))
  go_ret2
  refine ⟨A, R, rfl, ⟨H1.out.1.below H2.out.2.2, H2.out.1, J_new _ _ _, ⟨HM.out.1, HM.out.2.1, ?_⟩, fun k hk hf => ?_⟩, ?_, H1.out.2.2.trans (H2.out.2.2.mono H1.out.2.2.size)⟩
  · have h9 := HM.out.2.2
    show 1 ≤ n ∧ n ≤ 512
    omega
  · have h1 := H1.out.1.lt hk
    have h2 := H2.out.2.1 k hf
    omega
  · rintro k (hk | hk)
    · exact H1.out.2.1 k hk
    · exact Nat.le_trans H1.out.2.2.size (H2.out.2.1 k hk)
def c0 : Cp := ⟨1, 1, 1, 255⟩
set_option maxRecDepth 100000 in
set_option maxHeartbeats 1000000 in
theorem cap0_is (w : World) : Calls Try.prog 30 #[] w fun e w' => e = .returned (capV c0) ∧ Below w.heap.size w w' := by
  obtain ⟨d, hu1, hu2⟩ := underCap
  go_enter Try.func30, Try.ntmps30
  go_wp2
  go_returns
  exact ⟨rfl, (Below.refl _ _).alloc (Nat.le_refl _) _⟩
end Go.Proofs.Ytbknmfegckeogaa

/- The law's known, by walk: true. -/
namespace Go.Proofs.Ytbknmfegckeogaa
open Go.RowKit Go.Maps
set_option linter.unusedVariables false
set_option linter.unusedSimpArgs false

/-- A space that lies from B on. -/
structure Kn_ (B : Nat) (w w' : World) (A : Ad) (S : Sp) : Prop where
  sp : SpAt w' A S
  lo : ∀ k, A.own k → B ≤ k
  bel : Below B w w'
theorem Kn_.more {B : Nat} {w w' w'' : World} {A : Ad} {S : Sp} (h : Kn_ B w w' A S) (hb : Below w'.heap.size w' w'') (hB : B ≤ w.heap.size) : Kn_ B w w'' A S :=
  ⟨h.sp.below hb, h.lo, h.bel.trans (hb.mono (Nat.le_trans hB h.bel.size))⟩
theorem Kn_.step {B : Nat} {w w' w'' : World} {A : Ad} {S S' : Sp} (h : Kn_ B w w' A S) (hr : SpRes w' A S' w'') (hB : B ≤ w.heap.size) : ∃ v', Kn_ B w w'' { A with v := v' } S' := by
  obtain ⟨v', h1, h2⟩ := hr
  have hz : B ≤ w'.heap.size := Nat.le_trans hB h.bel.size
  refine ⟨v', h1, fun k hk => ?_, h.bel.trans (h2.apart.below hz h.lo)⟩
  rcases own_ad h2.fresh hk with e | e
  · exact h.lo k e
  · omega
def k0 : Sp := Sp.new 2 4 9
def k1 : Sp := (k0.rootR 0 0 c0).2
def k2 : Sp := (k1.deriveR 0 0 1 3 c0).2
def k3 : Sp := (k2.deriveR 1 3 0 2 c0).2
theorem k1e : (k0.rootR 0 0 c0).1 = 0 := by kernel_rfl
theorem k2e : (k1.deriveR 0 0 1 3 c0).1 = 0 := by kernel_rfl
theorem k3e : (k2.deriveR 1 3 0 2 c0).1 = 0 := by kernel_rfl
theorem k3len : k3.L.length = 3 := by kernel_rfl
theorem k3f : ∃ x, fnd k3.L 0 0 = some x ∧ (k3.offL x.id).length = 1 := by
  have h1 : (fnd k3.L 0 0).isSome = true := by kernel_rfl
  obtain ⟨x, hx⟩ := Option.isSome_iff_exists.1 h1
  refine ⟨x, hx, ?_⟩
  have h2 : (fnd k3.L 0 0).map (fun x => (k3.offL x.id).length) = some 1 := by kernel_rfl
  rw [hx] at h2
  simpa using h2
theorem k4e : k3.full 1 3 = 0 := by kernel_rfl
theorem k5e : (k3.del1 1 3).undE 0 2 0 0 = true := by kernel_rfl
theorem b1 : J k0 ∧ Lim k0 := ⟨J_new _ _ _, ⟨by show (1 : Int) ≤ 2 ∧ (2 : Int) ≤ 64; omega, by show (1 : Int) ≤ 4 ∧ (4 : Int) ≤ 32; omega, by show 1 ≤ 9 ∧ 9 ≤ 512; omega⟩⟩
theorem b2 : J k1 ∧ Lim k1 := by have := both_root b1.1 b1.2 0 0 c0 (by decide); exact ⟨this.j, this.lim⟩
theorem b3 : J k2 ∧ Lim k2 := by have := both_derive b2.1 b2.2 0 0 1 3 c0 (by decide); exact ⟨this.j, this.lim⟩
theorem b4 : J k3 ∧ Lim k3 := by have := both_derive b3.1 b3.2 1 3 0 2 c0 (by decide); exact ⟨this.j, this.lim⟩
theorem k3r : (k3.revR 0 0).1 = 2 ∧ (k3.revR 0 0).2.1 = 0 := by
  obtain ⟨x, hx, hl⟩ := k3f
  have hxm := (fnd_mem hx).1
  have hg := b4.1.gone hxm (b4.1.ds hxm)
  have he := b4.1.rev_L hxm (b4.1.ds hxm)
  rw [← he, hl, k3len] at hg
  unfold Sp.revR
  rw [hx]
  refine ⟨?_, rfl⟩
  show ((k3.ds x).length : Int) = 2
  omega
theorem newK (w : World) : Calls Try.prog 18 #[.int .i64 2, .int .i64 4, .int .i64 9] w fun e w' => ∃ A : Ad, e = .returned (.tuple #[.pointer (some ⟨A.b, 0, none⟩), .int .i64 0]) ∧ Kn_ w.heap.size w w' A k0 := by
  refine (New_yes 2 4 9 (by unfold mayN; omega) w).mono ?_
  rintro e w' ⟨A, rfl, h1, h2, h3⟩
  exact ⟨A, rfl, h1, h2, h3⟩
set_option maxRecDepth 100000 in
set_option maxHeartbeats 4000000 in
theorem known_is (w : World) : Calls Try.prog 11 #[] w fun e w' => e = .returned (.bool true) ∧ Below w.heap.size w w' := by
  have CN := newK w
  have hB : w.heap.size ≤ w.heap.size := Nat.le_refl _
  go_enter Try.func11, Try.ntmps11
  go_wp2_with (first
    | (go_at_call 18; refine CN.mono ?_; rintro e w1 ⟨A0, rfl, hK⟩; (have K0 := Lib.hid hK); clear hK CN; have m0 := trivial)
    | (go_at_call 30; (fail_if_success have := m1); have m1 := trivial; refine (cap0_is _).mono ?_; rintro e w2 ⟨rfl, hb⟩; (have KA := Lib.hid (K0.out.more hb hB)); clear hb)
    | (go_at_call 29; (have CR := root_c KA.out.sp b1.2 b1.1 0 0 c0 (by decide)); rw [k1e] at CR; refine CR.mono ?_; rintro e w3 ⟨rfl, hr⟩; (have hK1 := KA.out.step hr hB); (obtain ⟨v1, hK1⟩ := hK1); (have K1 := Lib.hid (show Kn_ w.heap.size w w3 _ k1 from hK1)); clear hK1 hr CR)
    | (go_at_call 30; (fail_if_success have := m2); have m2 := trivial; refine (cap0_is _).mono ?_; rintro e w4 ⟨rfl, hb⟩; (have KB := Lib.hid (K1.out.more hb hB)); clear hb)
    | (go_at_call 31; (fail_if_success have := m3); have m3 := trivial; (have CR := derive_c KB.out.sp b2.2 b2.1 0 0 1 3 c0 (by decide) (by decide)); rw [k2e] at CR; refine CR.mono ?_; rintro e w5 ⟨rfl, hr⟩; (have hK1 := KB.out.step hr hB); (obtain ⟨v2, hK1⟩ := hK1); (have K2 := Lib.hid (show Kn_ w.heap.size w w5 _ k2 from hK1)); clear hK1 hr CR)
    | (go_at_call 30; (fail_if_success have := m4); have m4 := trivial; refine (cap0_is _).mono ?_; rintro e w6 ⟨rfl, hb⟩; (have KC := Lib.hid (K2.out.more hb hB)); clear hb)
    | (go_at_call 31; (have CR := derive_c KC.out.sp b3.2 b3.1 1 3 0 2 c0 (by decide) (by decide)); rw [k3e] at CR; refine CR.mono ?_; rintro e w7 ⟨rfl, hr⟩; (have hK1 := KC.out.step hr hB); (obtain ⟨v3, hK1⟩ := hK1); (have K3 := Lib.hid (show Kn_ w.heap.size w w7 _ k3 from hK1)); clear hK1 hr CR)
    | (go_at_call 20; refine (spCopy_is K3.out.sp).mono ?_; rintro e w8 ⟨A8, rfl, hs, ho, hb⟩; (have K4 := Lib.hid (K3.out.more hb hB)); (have KO := Lib.hid (And.intro hs (And.intro ho hb))); clear hs ho hb)
    | (go_at_call 21; (have CR := revoke_c K4.out.sp b4.2 b4.1 0 0); rw [k3r.1, k3r.2] at CR; refine CR.mono ?_; rintro e w9 ⟨rfl, hr⟩; (have hK1 := K4.out.step hr hB); (obtain ⟨v5, hK1⟩ := hK1); (have K5 := Lib.hid hK1); (have hO5 : SpAt w9 A8 k3 := by (obtain ⟨v', h1, h2⟩ := hr; exact KO.out.1.apart h2.apart fun k hk ho => by have h8 := KO.out.2.1 k hk; have h9 := K3.out.sp.lt ho; omega)); (have KP := Lib.hid (Kn_.mk hO5 (fun k hk => Nat.le_trans K3.out.bel.size (KO.out.2.1 k hk)) hK1.bel)); clear hK1 hr CR hO5)
    | (go_at_call 33; (have CR := del_c KP.out.sp b4.2 b4.1 1 3); rw [k4e] at CR; refine CR.mono ?_; rintro e w10 ⟨rfl, hr⟩; (have hK1 := KP.out.step hr hB); (obtain ⟨v6, hK1⟩ := hK1); (have K6 := Lib.hid hK1); clear hK1 hr CR)
    | (go_at_call 23; (have CR := under_c K6.out.sp (b4.2.del1 1 3) (b4.1.del1 1 3) 0 2 0 0); rw [k5e] at CR; refine CR.mono ?_; rintro e w11 ⟨rfl, hb⟩; (have K7 := Lib.hid (K6.out.more hb hB)); clear hb CR))
  go_ret
  exact ⟨rfl, K7.out.bel⟩
end Go.Proofs.Ytbknmfegckeogaa

/- CspaceNil, a closed sentence, by a walk: what is answered of a space that is not there, and of a zero one. -/
namespace Go.Proofs.Ytbknmfegckeogaa
open Go.RowKit Go.Maps
set_option linter.unusedVariables false
set_option linter.unusedSimpArgs false

/-- No space: none, or a zero one. -/
def NilS (w : World) (A : Option Addr) : Prop := A = none ∨ ∃ z, A = some ⟨z, 0, none⟩ ∧ z < w.heap.size ∧ w.cell? ⟨z, 3, none⟩ = some (.pointer none)
theorem NilS.below {w w' : World} {A : Option Addr} (h : NilS w A) (hb : Below w.heap.size w w') : NilS w' A := by
  rcases h with rfl | ⟨z, rfl, hz, hc⟩
  · exact .inl rfl
  · exact .inr ⟨z, rfl, Nat.lt_of_lt_of_le hz hb.size, (hb.cell (p := ⟨z, 3, none⟩) hz).trans hc⟩
set_option maxRecDepth 100000 in
theorem nil_none {w : World} (A : Option Addr) (h : NilS w A) : Calls Try.prog 47 #[.pointer A] w fun e w' => e = .returned (.bool true) ∧ w = w' := by
  rcases h with rfl | ⟨z, rfl, _, hz⟩
  all_goals
    go_enter Try.func47, Try.ntmps47
    go_wp2
    go_ret
    exact ⟨rfl, rfl⟩
section
variable {w : World} (A : Option Addr) (h : NilS w A)
include h
set_option maxRecDepth 100000 in
set_option maxHeartbeats 1000000 in
theorem nil_there (g s : Int) : Calls Try.prog 79 #[.pointer A, .int .i64 g, .int .i64 s] w fun e w' => e = .returned (.int .i64 1) ∧ w = w' := by
  have CN := nil_none A h
  clear h
  go_enter Try.func79, Try.ntmps79
  go_wp2_with (go_at_call 47; refine CN.mono ?_; rintro e w' ⟨rfl, rfl⟩)
  go_ret
  exact ⟨rfl, rfl⟩
set_option maxRecDepth 100000 in
set_option maxHeartbeats 1000000 in
theorem nil_full (g s : Int) : Calls Try.prog 48 #[.pointer A, .int .i64 g, .int .i64 s] w fun e w' => e = .returned (.int .i64 1) ∧ w = w' := by
  have CN := nil_there A h g s
  clear h
  go_enter Try.func48, Try.ntmps48
  go_wp2_with (go_at_call 79; refine CN.mono ?_; rintro e w' ⟨rfl, rfl⟩)
  go_ret
  exact ⟨rfl, rfl⟩
set_option maxRecDepth 100000 in
set_option maxHeartbeats 1000000 in
theorem nil_free (g s : Int) : Calls Try.prog 32 #[.pointer A, .int .i64 g, .int .i64 s] w fun e w' => e = .returned (.int .i64 1) ∧ w = w' := by
  have CN := nil_full A h g s
  clear h
  go_enter Try.func32, Try.ntmps32
  go_wp2_with (go_at_call 48; refine CN.mono ?_; rintro e w' ⟨rfl, rfl⟩)
  go_ret
  exact ⟨rfl, rfl⟩
set_option maxRecDepth 100000 in
set_option maxHeartbeats 1000000 in
theorem nil_get (g s : Int) : Calls Try.prog 15 #[.pointer A, .int .i64 g, .int .i64 s] w fun e w' => e = .returned (.tuple #[capV Cp.zero, .int .i64 1]) ∧ Below w.heap.size w w' := by
  have hb := (Below.refl w.heap.size w).alloc (Nat.le_refl _) (.cells #[.int .i64 0, .int .i64 0, .int .u64 0, .int .u8 0] 36)
  have CF := nil_full A (h.below hb) g s
  clear h
  go_enter Try.func15, Try.ntmps15
  go_wp2_with (go_at_call 48; refine CF.mono ?_; rintro e w2 ⟨rfl, hw2⟩; subst w2)
  exact bodyPost_ret (results_cap (p := 6) (u := 7) (c := Cp.zero) (by kernel_rfl) _ _ rfl (Blk.new w 36 _)) rfl ⟨rfl, hb⟩
set_option maxRecDepth 100000 in
set_option maxHeartbeats 1000000 in
theorem nil_delete (g s : Int) : Calls Try.prog 33 #[.pointer A, .int .i64 g, .int .i64 s] w fun e w' => e = .returned (.int .i64 1) ∧ w = w' := by
  have CN := nil_full A h g s
  clear h
  go_enter Try.func33, Try.ntmps33
  go_wp2_with (go_at_call 48; refine CN.mono ?_; rintro e w' ⟨rfl, rfl⟩)
  go_ret
  exact ⟨rfl, rfl⟩
set_option maxRecDepth 100000 in
set_option maxHeartbeats 1000000 in
theorem nil_revoke (g s : Int) : Calls Try.prog 21 #[.pointer A, .int .i64 g, .int .i64 s] w fun e w' => e = .returned (.tuple #[.int .i64 0, .int .i64 1]) ∧ w = w' := by
  have CN := nil_full A h g s
  clear h
  go_enter Try.func21, Try.ntmps21
  go_wp2_with (go_at_call 48; refine CN.mono ?_; rintro e w' ⟨rfl, rfl⟩)
  go_ret2
  exact ⟨rfl, rfl⟩
set_option maxRecDepth 100000 in
set_option maxHeartbeats 1000000 in
theorem nil_parent (g s : Int) : Calls Try.prog 14 #[.pointer A, .int .i64 g, .int .i64 s] w fun e w' => e = .returned (.tuple #[.int .i64 0, .int .i64 0, .bool false]) ∧ w = w' := by
  have CN := nil_full A h g s
  clear h
  go_enter Try.func14, Try.ntmps14
  go_wp2_with (go_at_call 48; refine CN.mono ?_; rintro e w' ⟨rfl, rfl⟩)
  go_ret3
  exact ⟨rfl, rfl⟩
set_option maxRecDepth 100000 in
set_option maxHeartbeats 1000000 in
theorem nil_caps (g : Int) : Calls Try.prog 13 #[.pointer A, .int .i64 g] w fun e w' => e = .returned (.slice none 0 0) ∧ w = w' := by
  have CN := nil_none A h
  clear h
  go_enter Try.func13, Try.ntmps13
  go_wp2_with (go_at_call 47; refine CN.mono ?_; rintro e w' ⟨rfl, rfl⟩)
  go_ret
  exact ⟨rfl, rfl⟩
set_option maxRecDepth 100000 in
set_option maxHeartbeats 1000000 in
theorem nil_clear (g : Int) : Calls Try.prog 34 #[.pointer A, .int .i64 g] w fun e w' => e = .returned (.int .i64 0) ∧ w = w' := by
  have CN := nil_caps A h g
  clear h
  go_enter Try.func34, Try.ntmps34
  go_wp2_with (go_at_call 13; refine CN.mono ?_; rintro e w' ⟨rfl, rfl⟩)
  go_loopw [13] (fun i wr => i = .int .i64 0 ∧ w = wr) (fun _ _ => 0)
  case atStart => exact ⟨rfl, rfl⟩
  case round =>
    obtain ⟨rfl, rfl⟩ := hrel
    go_wp2_with fail
    go_ret
    exact ⟨rfl, rfl⟩
set_option maxRecDepth 100000 in
theorem nil_len : Calls Try.prog 35 #[.pointer A] w fun e w' => e = .returned (.int .i64 0) ∧ w = w' := by
  have CN := nil_none A h
  clear h
  go_enter Try.func35, Try.ntmps35
  go_wp2_with (go_at_call 47; refine CN.mono ?_; rintro e w' ⟨rfl, rfl⟩)
  go_ret
  exact ⟨rfl, rfl⟩
set_option maxRecDepth 100000 in
theorem nil_room : Calls Try.prog 36 #[.pointer A] w fun e w' => e = .returned (.int .i64 0) ∧ w = w' := by
  have CN := nil_none A h
  clear h
  go_enter Try.func36, Try.ntmps36
  go_wp2_with (go_at_call 47; refine CN.mono ?_; rintro e w' ⟨rfl, rfl⟩)
  go_ret
  exact ⟨rfl, rfl⟩
set_option maxRecDepth 100000 in
theorem nil_copy : Calls Try.prog 20 #[.pointer A] w fun e w' => e = .returned (.pointer none) ∧ w = w' := by
  have CN := nil_none A h
  clear h
  go_enter Try.func20, Try.ntmps20
  go_wp2_with (go_at_call 47; refine CN.mono ?_; rintro e w' ⟨rfl, rfl⟩)
  go_ret
  exact ⟨rfl, rfl⟩
set_option maxRecDepth 100000 in
theorem nil_under (a b c d : Int) : Calls Try.prog 23 #[.pointer A, .int .i64 a, .int .i64 b, .int .i64 c, .int .i64 d] w fun e w' => e = .returned (.bool false) ∧ w = w' := by
  have CN := nil_full A h a b
  clear h
  go_enter Try.func23, Try.ntmps23
  go_wp2_with (go_at_call 48; refine CN.mono ?_; rintro e w' ⟨rfl, rfl⟩)
  go_ret
  exact ⟨rfl, rfl⟩
set_option maxRecDepth 100000 in
theorem nil_same (B : Option Addr) (h' : NilS w B) : Calls Try.prog 22 #[.pointer A, .pointer B] w fun e w' => e = .returned (.bool true) ∧ w = w' := by
  have CN := nil_none A h
  have CN' := nil_none B h'
  clear h h'
  go_enter Try.func22, Try.ntmps22
  go_wp2_with (first | ((with_reducible refine CN.mono ?_); rintro e w' ⟨rfl, rfl⟩) | ((with_reducible refine CN'.mono ?_); rintro e w' ⟨rfl, rfl⟩))
  go_ret
  exact ⟨rfl, rfl⟩
end
/-- The first closure tells it. -/
theorem first_one (fs : List (Nat × Array Value)) (hn : fs.length ≤ 10) (hp : 0 < fs.length) (q cap : Nat) (W : World) (hq : FnsAt W q fs) (hf : ∀ i (h : i < fs.length) w', (callFunc (fs[i]'h).1 (fs[i]'h).2).run Try.prog w' = .ok (.enter (fs[i]'h).1 (fs[i]'h).2) w')
    (hc : Calls Try.prog (fs[0]'hp).1 (fs[0]'hp).2 W fun e w' => e = .returned (.int .i64 1) ∧ W = w') :
    Calls Try.prog 62 #[.slice (some ⟨q, 0, none⟩) fs.length cap] W fun e w' => e = .returned (.int .i64 1) ∧ W = w' := by
  refine (first_is fs hn q cap (fun i w' => i = 0 ∧ W = w') (fun z w' => z = 1 ∧ W = w') ?_ hf ?_ ?_ W ⟨rfl, rfl⟩).mono ?_
  · rintro i w' hi ⟨_, rfl⟩
    exact hq
  · rintro i hi w' ⟨rfl, rfl⟩
    refine hc.mono ?_
    rintro e w' ⟨rfl, rfl⟩
    exact ⟨1, rfl, fun _ => ⟨rfl, rfl⟩, fun h => by cases h⟩
  · rintro w' ⟨h, _⟩
    omega
  · rintro e w' ⟨z, rfl, rfl, rfl⟩
    exact ⟨rfl, rfl⟩
section
variable {w : World} (A : Option Addr) (h : NilS w A)
include h
set_option maxRecDepth 100000 in
theorem nil_root1 {n0 n1 n2 : Nat} {g s : Int} (b0 : w.cell? ⟨n0, 0, none⟩ = some (.pointer A)) (b1 : w.cell? ⟨n1, 0, none⟩ = some (.int .i64 g)) (b2 : w.cell? ⟨n2, 0, none⟩ = some (.int .i64 s)) :
    Calls Try.prog 65 #[.pointer (some ⟨n0, 0, none⟩), .pointer (some ⟨n1, 0, none⟩), .pointer (some ⟨n2, 0, none⟩)] w fun e w' => e = .returned (.int .i64 1) ∧ w = w' := by
  have CF := nil_free A h g s
  clear h
  go_enter Try.func65, Try.ntmps65
  go_wp2_with (go_at_call 32; refine CF.mono ?_; rintro e w' ⟨rfl, rfl⟩)
  go_ret
  exact ⟨rfl, rfl⟩
set_option maxRecDepth 100000 in
theorem nil_derive1 {n0 n1 n2 : Nat} {g s : Int} (b0 : w.cell? ⟨n0, 0, none⟩ = some (.pointer A)) (b1 : w.cell? ⟨n1, 0, none⟩ = some (.int .i64 g)) (b2 : w.cell? ⟨n2, 0, none⟩ = some (.int .i64 s)) :
    Calls Try.prog 70 #[.pointer (some ⟨n0, 0, none⟩), .pointer (some ⟨n1, 0, none⟩), .pointer (some ⟨n2, 0, none⟩)] w fun e w' => e = .returned (.int .i64 1) ∧ w = w' := by
  have CF := nil_full A h g s
  clear h
  go_enter Try.func70, Try.ntmps70
  go_wp2_with (go_at_call 48; refine CF.mono ?_; rintro e w' ⟨rfl, rfl⟩)
  go_ret
  exact ⟨rfl, rfl⟩
set_option maxRecDepth 100000 in
theorem nil_move1 {n0 n1 n2 : Nat} {g s : Int} (b0 : w.cell? ⟨n0, 0, none⟩ = some (.pointer A)) (b1 : w.cell? ⟨n1, 0, none⟩ = some (.int .i64 g)) (b2 : w.cell? ⟨n2, 0, none⟩ = some (.int .i64 s)) :
    Calls Try.prog 63 #[.pointer (some ⟨n0, 0, none⟩), .pointer (some ⟨n1, 0, none⟩), .pointer (some ⟨n2, 0, none⟩)] w fun e w' => e = .returned (.int .i64 1) ∧ w = w' := by
  have CF := nil_full A h g s
  clear h
  go_enter Try.func63, Try.ntmps63
  go_wp2_with (go_at_call 48; refine CF.mono ?_; rintro e w' ⟨rfl, rfl⟩)
  go_ret
  exact ⟨rfl, rfl⟩
theorem nil_root_first (g s : Int) (W : World) (hb : Below w.heap.size w W) (b0 : W.cell? ⟨w.heap.size, 0, none⟩ = some (.pointer A)) (b1 : W.cell? ⟨w.heap.size + 1, 0, none⟩ = some (.int .i64 g)) (b2 : W.cell? ⟨w.heap.size + 2, 0, none⟩ = some (.int .i64 s)) (hq : FnsAt W (w.heap.size + 4) (rootFs w.heap.size)) :
    Calls Try.prog 62 #[.slice (some ⟨w.heap.size + 4, 0, none⟩) 3 3] W fun e w' => e = .returned (.int .i64 1) ∧ W = w' := by
  refine first_one (rootFs w.heap.size) (by show 3 ≤ 10; omega) (by show 0 < 3; omega) (w.heap.size + 4) 3 W hq ?_ (nil_root1 A (h.below hb) b0 b1 b2)
  intro i hi w'
  have hi3 : i < 3 := hi
  rcases i with _ | _ | _ | i
  · exact run_callFunc_plain Try.func65 (by kernel_rfl) (by kernel_rfl) _ _
  · exact run_callFunc_plain Try.func66 (by kernel_rfl) (by kernel_rfl) _ _
  · exact run_callFunc_plain Try.func68 (by kernel_rfl) (by kernel_rfl) _ _
  · omega
theorem nil_derive_first (g s : Int) (W : World) (hb : Below w.heap.size w W) (b0 : W.cell? ⟨w.heap.size, 0, none⟩ = some (.pointer A)) (b1 : W.cell? ⟨w.heap.size + 1, 0, none⟩ = some (.int .i64 g)) (b2 : W.cell? ⟨w.heap.size + 2, 0, none⟩ = some (.int .i64 s)) (hq : FnsAt W (w.heap.size + 6) (deriveFs w.heap.size)) :
    Calls Try.prog 62 #[.slice (some ⟨w.heap.size + 6, 0, none⟩) 5 5] W fun e w' => e = .returned (.int .i64 1) ∧ W = w' := by
  refine first_one (deriveFs w.heap.size) (by show 5 ≤ 10; omega) (by show 0 < 5; omega) (w.heap.size + 6) 5 W hq ?_ (nil_derive1 A (h.below hb) b0 b1 b2)
  intro i hi w'
  have hi3 : i < 5 := hi
  rcases i with _ | _ | _ | _ | _ | i
  · exact run_callFunc_plain Try.func70 (by kernel_rfl) (by kernel_rfl) _ _
  · exact run_callFunc_plain Try.func71 (by kernel_rfl) (by kernel_rfl) _ _
  · exact run_callFunc_plain Try.func72 (by kernel_rfl) (by kernel_rfl) _ _
  · exact run_callFunc_plain Try.func73 (by kernel_rfl) (by kernel_rfl) _ _
  · exact run_callFunc_plain Try.func75 (by kernel_rfl) (by kernel_rfl) _ _
  · omega
theorem nil_move_first (g s : Int) (W : World) (hb : Below w.heap.size w W) (b0 : W.cell? ⟨w.heap.size, 0, none⟩ = some (.pointer A)) (b1 : W.cell? ⟨w.heap.size + 1, 0, none⟩ = some (.int .i64 g)) (b2 : W.cell? ⟨w.heap.size + 2, 0, none⟩ = some (.int .i64 s)) (hq : FnsAt W (w.heap.size + 4) (moveFs w.heap.size)) :
    Calls Try.prog 62 #[.slice (some ⟨w.heap.size + 4, 0, none⟩) 2 2] W fun e w' => e = .returned (.int .i64 1) ∧ W = w' := by
  refine first_one (moveFs w.heap.size) (by show 2 ≤ 10; omega) (by show 0 < 2; omega) (w.heap.size + 4) 2 W hq ?_ (nil_move1 A (h.below hb) b0 b1 b2)
  intro i hi w'
  have hi3 : i < 2 := hi
  rcases i with _ | _ | i
  · exact run_callFunc_plain Try.func63 (by kernel_rfl) (by kernel_rfl) _ _
  · exact run_callFunc_plain Try.func64 (by kernel_rfl) (by kernel_rfl) _ _
  · omega
set_option maxRecDepth 100000 in
set_option maxHeartbeats 2000000 in
theorem nil_root (g s : Int) (c : Cp) :
    Calls Try.prog 29 #[.pointer A, .int .i64 g, .int .i64 s, capV c] w fun e w' => e = .returned (.int .i64 1) ∧ Below w.heap.size w w' := by
  have hF := Lib.hid (nil_root_first A h g s)
  have hmf : ∀ (fn : Fn) (first cap : Array Value) (w : World), (Instr.makeFunc fn first cap).run Try.prog w = .ok (.func fn first cap) w := fun _ _ _ _ => rfl
  clear h
  unfold capV
  go_enter Try.func29, Try.ntmps29
  go_wp2_with (go_at_call 62; refine (hF.out _ (((((Below.refl _ _).alloc (Nat.le_refl _) _).alloc (by simp) _).alloc (by simp; omega) _).alloc (by simp; omega) _ |>.alloc (by simp; omega) _) (Blk.cell (((((Blk.new_ rfl _ _).alloc _).alloc _).alloc _).alloc _) 0) (Blk.cell ((((Blk.new_ (by simp) _ _).alloc _).alloc _).alloc _) 0) (Blk.cell (((Blk.new_ (by simp) _ _).alloc _).alloc _) 0) (fns_of (Blk.new_ (by simp) _ _))).mono ?_; rintro e w' ⟨rfl, hw⟩; subst hw)
  go_ret
  exact ⟨rfl, ((((Below.refl _ _).alloc (Nat.le_refl _) _).alloc (by simp) _).alloc (by simp; omega) _).alloc (by simp; omega) _ |>.alloc (by simp; omega) _⟩
set_option maxRecDepth 100000 in
set_option maxHeartbeats 2000000 in
theorem nil_derive (g s g' s' : Int) (c : Cp) :
    Calls Try.prog 31 #[.pointer A, .int .i64 g, .int .i64 s, .int .i64 g', .int .i64 s', capV c] w fun e w' => e = .returned (.int .i64 1) ∧ Below w.heap.size w w' := by
  have hF := Lib.hid (nil_derive_first A h g s)
  have hmf : ∀ (fn : Fn) (first cap : Array Value) (w : World), (Instr.makeFunc fn first cap).run Try.prog w = .ok (.func fn first cap) w := fun _ _ _ _ => rfl
  clear h
  unfold capV
  go_enter Try.func31, Try.ntmps31
  go_wp2_with (go_at_call 62; refine (hF.out _ (((((((Below.refl _ _).alloc (Nat.le_refl _) _).alloc (by simp) _).alloc (by simp; omega) _).alloc (by simp; omega) _).alloc (by simp; omega) _).alloc (by simp; omega) _ |>.alloc (by simp; omega) _) (Blk.cell (((((((Blk.new_ rfl _ _).alloc _).alloc _).alloc _).alloc _).alloc _).alloc _) 0) (Blk.cell ((((((Blk.new_ (by simp) _ _).alloc _).alloc _).alloc _).alloc _).alloc _) 0) (Blk.cell (((((Blk.new_ (by simp) _ _).alloc _).alloc _).alloc _).alloc _) 0) (fns_of (Blk.new_ (by simp) _ _))).mono ?_; rintro e w' ⟨rfl, hw⟩; subst hw)
  go_ret
  exact ⟨rfl, ((((((Below.refl _ _).alloc (Nat.le_refl _) _).alloc (by simp) _).alloc (by simp; omega) _).alloc (by simp; omega) _).alloc (by simp; omega) _).alloc (by simp; omega) _ |>.alloc (by simp; omega) _⟩
set_option maxRecDepth 100000 in
set_option maxHeartbeats 2000000 in
theorem nil_move (g s z : Int) :
    Calls Try.prog 25 #[.pointer A, .int .i64 g, .int .i64 s, .int .i64 z] w fun e w' => e = .returned (.int .i64 1) ∧ Below w.heap.size w w' := by
  have hF := Lib.hid (nil_move_first A h g s)
  have hmf : ∀ (fn : Fn) (first cap : Array Value) (w : World), (Instr.makeFunc fn first cap).run Try.prog w = .ok (.func fn first cap) w := fun _ _ _ _ => rfl
  clear h
  go_enter Try.func25, Try.ntmps25
  go_wp2_with (go_at_call 62; refine (hF.out _ (((((Below.refl _ _).alloc (Nat.le_refl _) _).alloc (by simp) _).alloc (by simp; omega) _).alloc (by simp; omega) _ |>.alloc (by simp; omega) _) (Blk.cell (((((Blk.new_ rfl _ _).alloc _).alloc _).alloc _).alloc _) 0) (Blk.cell ((((Blk.new_ (by simp) _ _).alloc _).alloc _).alloc _) 0) (Blk.cell (((Blk.new_ (by simp) _ _).alloc _).alloc _) 0) (fns_of (Blk.new_ (by simp) _ _))).mono ?_; rintro e w' ⟨rfl, hw⟩; subst hw)
  go_ret
  exact ⟨rfl, ((((Below.refl _ _).alloc (Nat.le_refl _) _).alloc (by simp) _).alloc (by simp; omega) _).alloc (by simp; omega) _ |>.alloc (by simp; omega) _⟩
end
end Go.Proofs.Ytbknmfegckeogaa

/- CspaceNil, a closed sentence: the law's walk. -/
namespace Go.Proofs.Ytbknmfegckeogaa
open Go.RowKit Go.Maps
set_option linter.unusedVariables false
set_option linter.unusedSimpArgs false

theorem nil_get0 {w : World} (A : Option Addr) (h : NilS w A) (g s : Int) : Calls Try.prog 15 #[.pointer A, .int .i64 g, .int .i64 s] w fun e w' => e = .returned (.tuple #[.agg #[.int .i64 0, .int .i64 0, .int .u64 0, .int .u8 0], .int .i64 1]) ∧ Below w.heap.size w w' := nil_get A h g s
theorem may_at (c : Cp) (b : Bool) (hn : 0 ≤ c.n) (hb : mayC c = b) (w : World) : Calls Try.prog 37 #[capV c] w fun e w' => e = .returned (.bool b) ∧ Below w.heap.size w w' := by
  rw [← hb]
  exact May_is c hn w
set_option maxRecDepth 100000 in
set_option maxHeartbeats 8000000 in
theorem nil_walk (W : World) : Calls Try.prog 8 #[] W fun e w' => e = .returned (.bool true) ∧ Below W.heap.size W w' := by
  have k0 := (Below.refl W.heap.size W).alloc (Nat.le_refl _) (.cells #[.int .i64 0, .int .i64 0, .int .i64 0, .pointer none, .map none, .map none, .map none] 74)
  have k1 := (Blk.new W 74 #[.int .i64 0, .int .i64 0, .int .i64 0, .pointer none, .map none, .map none, .map none])
  have K0 := Lib.hid (And.intro (show NilS (W.alloc (.cells #[.int .i64 0, .int .i64 0, .int .i64 0, .pointer none, .map none, .map none, .map none] 74)) (some ⟨W.heap.size, 0, none⟩) from .inr ⟨_, rfl, k1.lt, k1.cell 3⟩) k0)
  clear k0 k1
  go_enter Try.func8, Try.ntmps8
  go_upto_region 3 with fail
  generalize W.alloc (.cells #[.int .i64 0, .int .i64 0, .int .i64 0, .pointer none, .map none, .map none, .map none] 74) = w0 at *
  have s0 := trivial
  go_upto_region 4 with ((go_at_call 15; (have := s0); (fail_if_success have := s1); have s1 := trivial; refine (nil_get0 none (.inl rfl) 0 0).mono ?_; rintro e v0 ⟨rfl, hb⟩; (have K1 := Lib.hid (And.intro (K0.out.1.below hb) (K0.out.2.trans (hb.mono K0.out.2.size)))); clear hb))
  have k := (Below.refl v0.heap.size v0).alloc (Nat.le_refl _) (.cells #[.int .i64 0, .int .i64 0, .int .u64 0, .int .u8 0] 36)
  have K1a := Lib.hid (And.intro (K1.out.1.below k) (K1.out.2.trans (k.mono K1.out.2.size)))
  clear k K1
  generalize v0.alloc (.cells #[.int .i64 0, .int .i64 0, .int .u64 0, .int .u8 0] 36) = v0a at *
  have K1 := K1a
  go_wp2_with (first
    | (go_at_call 21; (have := s1); (fail_if_success have := s2); have s2 := trivial; refine (nil_revoke (some ⟨W.heap.size, 0, none⟩) K1.out.1 0 0).mono ?_; rintro e v1 ⟨rfl, hw⟩; subst v1; have K2 := K1)
    | (go_at_call 14; (have := s2); (fail_if_success have := s3); have s3 := trivial; refine (nil_parent none (.inl rfl) 0 0).mono ?_; rintro e v2 ⟨rfl, hw⟩; subst v2; have K3 := K2)
    | (go_at_call 30; (have := s3); (fail_if_success have := s4); have s4 := trivial; refine (cap0_is _).mono ?_; rintro e v3 ⟨rfl, hb⟩; (have K4 := Lib.hid (And.intro (K3.out.1.below hb) (K3.out.2.trans (hb.mono K3.out.2.size)))); clear hb)
    | (go_at_call 29; (have := s4); (fail_if_success have := s5); have s5 := trivial; refine (nil_root none (.inl rfl) 0 0 c0).mono ?_; rintro e v4 ⟨rfl, hb⟩; (have K5 := Lib.hid (And.intro (K4.out.1.below hb) (K4.out.2.trans (hb.mono K4.out.2.size)))); clear hb)
    | (go_at_call 30; (have := s5); (fail_if_success have := s6); have s6 := trivial; refine (cap0_is _).mono ?_; rintro e v5 ⟨rfl, hb⟩; (have K6 := Lib.hid (And.intro (K5.out.1.below hb) (K5.out.2.trans (hb.mono K5.out.2.size)))); clear hb)
    | (go_at_call 31; (have := s6); (fail_if_success have := s7); have s7 := trivial; refine (nil_derive (some ⟨W.heap.size, 0, none⟩) K6.out.1 0 0 0 1 c0).mono ?_; rintro e v6 ⟨rfl, hb⟩; (have K7 := Lib.hid (And.intro (K6.out.1.below hb) (K6.out.2.trans (hb.mono K6.out.2.size)))); clear hb)
    | (go_at_call 32; (have := s7); (fail_if_success have := s8); have s8 := trivial; refine (nil_free none (.inl rfl) 0 0).mono ?_; rintro e v7 ⟨rfl, hw⟩; subst v7; have K8 := K7)
    | (go_at_call 25; (have := s8); (fail_if_success have := s9); have s9 := trivial; refine (nil_move (some ⟨W.heap.size, 0, none⟩) K8.out.1 0 0 1).mono ?_; rintro e v8 ⟨rfl, hb⟩; (have K9 := Lib.hid (And.intro (K8.out.1.below hb) (K8.out.2.trans (hb.mono K8.out.2.size)))); clear hb)
    | (go_at_call 33; (have := s9); (fail_if_success have := s10); have s10 := trivial; refine (nil_delete none (.inl rfl) 0 0).mono ?_; rintro e v9 ⟨rfl, hw⟩; subst v9; have K10 := K9)
    | (go_at_call 34; (have := s10); (fail_if_success have := s11); have s11 := trivial; refine (nil_clear none (.inl rfl) 0).mono ?_; rintro e v10 ⟨rfl, hw⟩; subst v10; have K11 := K10)
    | (go_at_call 34; (have := s11); (fail_if_success have := s12); have s12 := trivial; refine (nil_clear (some ⟨W.heap.size, 0, none⟩) K11.out.1 0).mono ?_; rintro e v11 ⟨rfl, hw⟩; subst v11; have K12 := K11)
    | (go_at_call 35; (have := s12); (fail_if_success have := s13); have s13 := trivial; refine (nil_len none (.inl rfl) ).mono ?_; rintro e v12 ⟨rfl, hw⟩; subst v12; have K13 := K12)
    | (go_at_call 35; (have := s13); (fail_if_success have := s14); have s14 := trivial; refine (nil_len (some ⟨W.heap.size, 0, none⟩) K13.out.1 ).mono ?_; rintro e v13 ⟨rfl, hw⟩; subst v13; have K14 := K13)
    | (go_at_call 36; (have := s14); (fail_if_success have := s15); have s15 := trivial; refine (nil_room none (.inl rfl) ).mono ?_; rintro e v14 ⟨rfl, hw⟩; subst v14; have K15 := K14)
    | (go_at_call 36; (have := s15); (fail_if_success have := s16); have s16 := trivial; refine (nil_room (some ⟨W.heap.size, 0, none⟩) K15.out.1 ).mono ?_; rintro e v15 ⟨rfl, hw⟩; subst v15; have K16 := K15)
    | (go_at_call 13; (have := s16); (fail_if_success have := s17); have s17 := trivial; refine (nil_caps none (.inl rfl) 0).mono ?_; rintro e v16 ⟨rfl, hw⟩; subst v16; have K17 := K16)
    | (go_at_call 23; (have := s17); (fail_if_success have := s18); have s18 := trivial; refine (nil_under none (.inl rfl) 0 0 0 1).mono ?_; rintro e v17 ⟨rfl, hw⟩; subst v17; have K18 := K17)
    | (go_at_call 20; (have := s18); (fail_if_success have := s19); have s19 := trivial; refine (nil_copy none (.inl rfl) ).mono ?_; rintro e v18 ⟨rfl, hw⟩; subst v18; have K19 := K18)
    | (go_at_call 22; (have := s19); (fail_if_success have := s20); have s20 := trivial; refine (nil_same none (.inl rfl) (some ⟨W.heap.size, 0, none⟩) K19.out.1).mono ?_; rintro e v19 ⟨rfl, hw⟩; subst v19; have K20 := K19)
    | (go_at_call 22; (have := s20); (fail_if_success have := s21); have s21 := trivial; refine (nil_same (some ⟨W.heap.size, 0, none⟩) K20.out.1 none (.inl rfl)).mono ?_; rintro e v20 ⟨rfl, hw⟩; subst v20; have K21 := K20)
    | (go_at_call 30; (have := s21); (fail_if_success have := s22); have s22 := trivial; refine (cap0_is _).mono ?_; rintro e v21 ⟨rfl, hb⟩; (have K22 := Lib.hid (And.intro (K21.out.1.below hb) (K21.out.2.trans (hb.mono K21.out.2.size)))); clear hb)
    | (go_at_call 37; (have := s22); (fail_if_success have := s23); have s23 := trivial; refine (may_at c0 true (by decide) (by rfl) _).mono ?_; rintro e v22 ⟨rfl, hb⟩; (have K23 := Lib.hid (And.intro (K22.out.1.below hb) (K22.out.2.trans (hb.mono K22.out.2.size)))); clear hb)
    | (go_at_call 37; (have := s23); (fail_if_success have := s24); have s24 := trivial; refine (may_at ⟨0, 0, 0, 0⟩ false (by decide) (by rfl) _).mono ?_; rintro e v23 ⟨rfl, hb⟩; (have K24 := Lib.hid (And.intro (K23.out.1.below hb) (K23.out.2.trans (hb.mono K23.out.2.size)))); clear hb)
    | (go_at_call 37; (have := s24); (fail_if_success have := s25); have s25 := trivial; refine (may_at ⟨4, 0, 1, 0⟩ false (by decide) (by rfl) _).mono ?_; rintro e v24 ⟨rfl, hb⟩; (have K25 := Lib.hid (And.intro (K24.out.1.below hb) (K24.out.2.trans (hb.mono K24.out.2.size)))); clear hb)
    | (go_at_call 37; (have := s25); (fail_if_success have := s26); have s26 := trivial; refine (may_at ⟨1, -1, 1, 0⟩ false (by decide) (by rfl) _).mono ?_; rintro e v25 ⟨rfl, hb⟩; (have K26 := Lib.hid (And.intro (K25.out.1.below hb) (K25.out.2.trans (hb.mono K25.out.2.size)))); clear hb)
    | (go_at_call 37; (have := s26); (fail_if_success have := s27); have s27 := trivial; refine (may_at ⟨1, 1, 0, 0⟩ false (by decide) (by rfl) _).mono ?_; rintro e v26 ⟨rfl, hb⟩; (have K27 := Lib.hid (And.intro (K26.out.1.below hb) (K26.out.2.trans (hb.mono K26.out.2.size)))); clear hb)
    | (go_at_call 11; (have := s27); (fail_if_success have := s28); have s28 := trivial; refine (known_is _).mono ?_; rintro e v27 ⟨rfl, hb⟩; (have K28 := Lib.hid (And.intro (K27.out.1.below hb) (K27.out.2.trans (hb.mono K27.out.2.size)))); clear hb))
  go_ret
  exact ⟨rfl, K28.out.2⟩
end Go.Proofs.Ytbknmfegckeogaa
