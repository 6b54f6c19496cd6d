/- Of the following, one behind the other: The law's same, may, small, begin, cap0, by walks. The law's known, by walk: true. An argument that is a slice of acts, opened: its acts lie in memory one behind the other. CspacePlays, by a walk: true at all sizes and each row of acts. CspaceMoves, by a walk: true at all sizes, each row of acts and each two slots. -/
import Derived.Test.YtbknmfegckeogaaPk17
import Derived.OpenShut
import Derived.Deep.Slices
import Derived.Deep.Fields
import Derived.ChangeSame
/- The law's same, may, small, begin, cap0, by walks. -/
namespace Go.Proofs.Ytbknmfegckeogaa
open Go.RowKit Go.Maps
set_option linter.unusedVariables false
set_option linter.unusedSimpArgs false

section
variable {w : World} {A : Ad} {R : Rd} {S : Sp}
set_option maxRecDepth 100000 in
set_option maxHeartbeats 1000000 in
theorem spLen_is (h : SpAt w A S) : Calls Try.prog 35 #[.pointer (some ⟨A.b, 0, none⟩)] w fun e w' => e = .returned (.int .i64 (S.L.length : Int)) ∧ w = w' := by
  have CN := none_is h
  obtain ⟨es, c, hm, hs⟩ := len_map h A.mc rfl
  obtain ⟨-, -, -, -, -, -, c6⟩ := h.cells
  have hln := run_len_map hm
  rw [← hs]
  clear h hs hm
  go_enter Try.func35, Try.ntmps35
  go_wp2_with (go_at_call 47; refine CN.mono ?_; rintro e w' ⟨rfl, rfl⟩)
  go_ret
  exact ⟨rfl, rfl⟩
set_option maxRecDepth 100000 in
set_option maxHeartbeats 4000000 in
theorem same_law (h : Jt w A R S) : Calls Try.prog 19 #[.pointer (some ⟨A.b, 0, none⟩), .pointer (some ⟨R.b, 0, none⟩)] w fun e w' => e = .returned (.bool true) ∧ Below w.heap.size w w' := by
  have hlen := h.j.few h.lim
  have hcnt := h.j.count
  have CL := fun n => (spLen_is (h.sp.drewN n)).mono (fun e w'' hh => And.intro hh.1 hh.2.symm)
  have CR := fun n => room_sp (h.sp.drewN n) h.lim (by omega)
  obtain ⟨c0, -, c2, c3, -⟩ := h.rf.cells
  have HJ := Lib.hid h
  have hz : IntKind.i64.wrap ((S.F.n : Int) - (S.L.length : Int)) = (S.F.n : Int) - (S.L.length : Int) := by rw [IntKind.wrap_i64]; have := h.lim.n; omega
  have hgs := h.lim.gs
  obtain ⟨ng, hng⟩ : ∃ n : Nat, (n : Int) = S.gs := ⟨S.gs.toNat, by omega⟩
  have hn64 : ng ≤ 64 := by omega
  have CC := Lib.hid (fun (g : Int) W (hW : Below w.heap.size w W) => caps_is (h.sp.below hW) h.lim h.j g)
  have CD := Lib.hid (fun (g : Int) W (hW : Below w.heap.size w W) => rfCaps_is (h.rf.below hW) hlen h.lim.sl g)
  have P1 := Lib.hid (fun (g s : Int) W (hW : Below w.heap.size w W) => parent_any (h.sp.below hW) h.lim h.j g s)
  have P2 := Lib.hid (fun (g s : Int) W (hW : Below w.heap.size w W) => rfParent_any (h.rf.below hW) hlen g s)
  have HCL := Lib.hid (fun (g : Int) => Nat.le_trans (capL_len S.L g S.sl.toNat) (show S.sl.toNat ≤ 1000 by have := h.lim.sl; omega))
  obtain ⟨ln, hln⟩ : ∃ ln, ln = S.L.length := ⟨_, rfl⟩
  rw [← hln] at CL CR c3 hz hlen
  have HLN := Lib.hid hln
  clear h hcnt hln
  go_enter Try.func19, Try.ntmps19
  go_wp2_with fail
  go_quiet (first | ((go_at_call 35; exact Calls.quiet_of_same (CL _))) | ((go_at_call 36; exact Calls.quiet_of (CR _))))
  clear CL CR c2 c3 hz
  go_wp2_with fail
  go_loopw [5] (fun i wr => ∃ k : Nat, i = .int .i64 k ∧ k ≤ ng ∧ Below w.heap.size w wr) (fun i _ => ng - (intOf i).toNat)
  case atStart => exact ⟨0, rfl, Nat.zero_le _, below_drewN_ _ _ _⟩
  case round =>
    clear c0
    obtain ⟨k, rfl, hk, hbr⟩ := hrel
    have HB := Lib.hid hbr
    obtain ⟨c0, -, -, c3, -⟩ := (HJ.out.rf.below hbr).cells
    rw [← hng] at c0
    clear hbr
    by_cases hlt : k < ng
    · have hk1 : (k : Int) < (ng : Int) := by omega
      have hll := HCL.out (k : Int)
      have hll2 : (S.caps (k : Int)).length ≤ 1000 := hll
      obtain ⟨l, hl⟩ : ∃ l, l = S.caps (k : Int) := ⟨_, rfl⟩
      have C1 := CC.out (k : Int) wr HB.out
      have C2 := CD.out (k : Int)
      unfold CapsPost at C1 C2
      rw [← hl] at C1 hll2
      simp only [← hl] at C2
      have HC2 := Lib.hid C2
      have HLL := Lib.hid hll2
      clear hl hll hll2 C2 c3
      go_wp2_with (first | (go_at_call 13; refine C1.mono ?_; rintro e w2 ⟨A1, k1, rfl, ho1, hb1⟩; (have hb12 := HB.out.trans (hb1.mono HB.out.size)); (have C2 := HC2.out w2 hb12); (have H1 := Lib.hid (And.intro ho1 hb12)); clear ho1 hb1 hb12 C1) | (go_at_call 52; refine C2.mono ?_; rintro e w3 ⟨A2, k2, rfl, ho2, hb2⟩; (have hb13 := H1.out.2.trans (hb2.mono H1.out.2.size)); (have ho1 := below_own H1.out.1 hb2); (have C3 := sameHeld_is l l ho1 ho2 HLL.out); (have H2 := Lib.hid hb13); simp only [decide_true] at C3; clear ho1 ho2 hb2 hb13 C2) | (go_at_call 51; refine C3.mono ?_; rintro e w4 ⟨rfl, nn, rfl⟩; clear C3))
      go_roundw
      case rel => exact ⟨k + 1, by go_num, by omega, H2.out.trans (below_drewN_ _ _ _)⟩
      case measure => simp [intOf]; omega
    · have hkr : k = ng := by omega
      subst hkr
      have hk1 : ¬ (k : Int) < (k : Int) := by omega
      clear hlt
      go_wp2_with fail
      clear c0 c3
      go_loopw [6] (fun i wr => ∃ j : Nat, i = .int .i64 j ∧ j ≤ ln ∧ Below w.heap.size w wr) (fun i _ => ln - (intOf i).toNat)
      case atStart => exact ⟨0, rfl, Nat.zero_le _, HB.out⟩
      case round =>
        obtain ⟨j, rfl, hj, hbr⟩ := hrel
        have HB2 := Lib.hid hbr
        have h1 := HJ.out.rf.below hbr
        obtain ⟨-, -, -, c3, -⟩ := h1.cells
        rw [← HLN.out] at c3
        clear hbr
        by_cases hlt : j < ln
        · have hj1 : (j : Int) < (ln : Int) := by omega
          obtain ⟨q, hq, ho⟩ := h1.one j (by rw [← HLN.out]; exact hlt)
          have d0 := ho.c0
          have d1 := ho.c1
          have d2 := ho.c2
          have d3 := ho.c3
          have d4 := ho.c4
          have d5 := ho.c5
          have d6 := ho.c6
          have d7 := ho.c7
          obtain ⟨x, hx⟩ : ∃ x, x = S.L[j]'(by rw [← HLN.out]; exact hlt) := ⟨_, rfl⟩
          rw [← hx] at d0 d1 d2 d3 d4 d5 d6 d7
          have HA := Lib.hid (fun o => HB2.out.alloc HB2.out.size o)
          obtain ⟨⟨pg, ps, pb⟩, hP⟩ : ∃ p, p = pOf S x.g x.s := ⟨_, rfl⟩
          have Q1 := P1.out x.g x.s
          have Q2 := P2.out x.g x.s
          simp only [← hP] at Q1 Q2
          have HQ1 := Lib.hid Q1
          have HQ2 := Lib.hid Q2
          rw [hq] at c3
          have hnew := Blk.new wr 66 #[.int .i64 (x.id : Int), .int .i64 (x.up : Int), .int .i64 x.g, .int .i64 x.s, .int .i64 x.c.k, .int .i64 x.c.i, .int .u64 x.c.n, .int .u8 x.c.r]
          have HNW := Lib.hid hnew
          clear hx ho hP Q1 Q2 h1 hq hnew
          cases pb
          all_goals
            go_wp2_with (first | (go_at_call 14; refine (HQ1.out _ (HA.out _)).mono ?_; rintro e w2 ⟨rfl, hb2⟩; (have hx2 := HNW.out.below hb2 HNW.out.lt); (have x2 := hx2.cell 2); (have x3 := hx2.cell 3); simp only [List.getElem?_toArray, List.getElem?_cons_zero, List.getElem?_cons_succ] at x2 x3; (have hb12 := (HA.out _).trans (hb2.mono (HA.out _).size)); (have H2 := Lib.hid hb12); clear hb2 hb12 hx2 d0 d1 d2 d3 d4 d5 d6 d7 c3) | (go_at_call 28; refine (HQ2.out _ H2.out).mono ?_; rintro e w3 ⟨rfl, hb3⟩; (have H3 := Lib.hid (H2.out.trans (hb3.mono H2.out.size))); clear hb3 x2 x3))
            go_roundw
            case rel => exact ⟨j + 1, by go_num, by omega, H3.out⟩
            case measure => simp [intOf]; omega
        · have hj1 : ¬ (j : Int) < (ln : Int) := by omega
          go_wp2_with fail
          go_ret
          exact ⟨rfl, HB2.out⟩
end
/-- May there be such tables? -/
def mayB (gs sl n : Int) : Bool := decide (1 ≤ gs) && decide (gs ≤ 64) && decide (1 ≤ sl) && decide (sl ≤ 32) && decide (1 ≤ n) && decide (n ≤ 512)
theorem mayB_iff (gs sl n : Int) : mayB gs sl n = true ↔ mayN gs sl n := by simp [mayB, mayN, and_assoc]
set_option maxRecDepth 100000 in
set_option maxHeartbeats 1000000 in
theorem mayL_is (gs sl n : Int) (w : World) : Calls Try.prog 17 #[.int .i64 gs, .int .i64 sl, .int .i64 n] w fun e w' => e = .returned (.bool (mayB gs sl n)) ∧ w' = w := by
  obtain ⟨E, hE⟩ : ∃ E, E = mayB gs sl n := ⟨_, rfl⟩
  rw [← hE]
  have hb := mayB_iff gs sl n
  unfold mayN at hb
  have hcs : (¬ 1 ≤ gs ∧ E = false) ∨ (1 ≤ gs ∧ ¬ gs ≤ 64 ∧ E = false) ∨ (1 ≤ gs ∧ gs ≤ 64 ∧ ¬ 1 ≤ sl ∧ E = false) ∨ (1 ≤ gs ∧ gs ≤ 64 ∧ 1 ≤ sl ∧ ¬ sl ≤ 32 ∧ E = false) ∨ (1 ≤ gs ∧ gs ≤ 64 ∧ 1 ≤ sl ∧ sl ≤ 32 ∧ ¬ 1 ≤ n ∧ E = false) ∨ (1 ≤ gs ∧ gs ≤ 64 ∧ 1 ≤ sl ∧ sl ≤ 32 ∧ 1 ≤ n ∧ ¬ n ≤ 512 ∧ E = false) ∨ (1 ≤ gs ∧ gs ≤ 64 ∧ 1 ≤ sl ∧ sl ≤ 32 ∧ 1 ≤ n ∧ n ≤ 512 ∧ E = true) := by
    rw [← hE] at hb
    cases E
    · simp only [Bool.false_eq_true, false_iff] at hb
      simp only [and_true, Bool.false_eq_true, and_false, or_false]
      omega
    · simp only [true_iff] at hb
      simp only [and_true, Bool.true_eq_false, and_false, false_or]
      omega
  clear hb hE
  rcases hcs with ⟨h1, rfl⟩ | ⟨h1, h2, rfl⟩ | ⟨h1, h2, h3, rfl⟩ | ⟨h1, h2, h3, h4, rfl⟩ | ⟨h1, h2, h3, h4, h5, rfl⟩ | ⟨h1, h2, h3, h4, h5, h6, rfl⟩ | ⟨h1, h2, h3, h4, h5, h6, rfl⟩
  all_goals
    go_enter Try.func17, Try.ntmps17
    go_wp2
    go_ret
    exact ⟨rfl, rfl⟩
def smallB (gs sl n : Int) : Bool := mayB gs sl n && decide (gs ≤ 8) && decide (sl ≤ 8)
set_option maxRecDepth 100000 in
set_option maxHeartbeats 1000000 in
theorem small_is (gs sl n : Int) (w : World) : Calls Try.prog 10 #[.int .i64 gs, .int .i64 sl, .int .i64 n] w fun e w' => e = .returned (.bool (smallB gs sl n)) ∧ w' = w := by
  have CM := mayL_is gs sl n
  unfold smallB
  cases hm : mayB gs sl n
  · rw [hm] at CM
    simp only [Bool.false_and]
    clear hm
    go_enter Try.func10, Try.ntmps10
    go_wp2_with (go_at_call 17; refine (CM _).mono ?_; rintro e w2 ⟨rfl, hw2⟩; subst w2)
    go_ret
    exact ⟨rfl, rfl⟩
  · rw [hm] at CM
    simp only [Bool.true_and]
    by_cases h1 : gs ≤ 8
    · by_cases h2 : sl ≤ 8
      · have e : (decide (gs ≤ 8) && decide (sl ≤ 8)) = true := by simp [h1, h2]
        rw [e]
        clear hm e
        go_enter Try.func10, Try.ntmps10
        go_wp2_with (go_at_call 17; refine (CM _).mono ?_; rintro e w2 ⟨rfl, hw2⟩; subst w2)
        go_ret
        exact ⟨rfl, rfl⟩
      · have e : (decide (gs ≤ 8) && decide (sl ≤ 8)) = false := by simp [h2]
        have h2' : decide (sl ≤ 8) = false := by simp [h2]
        rw [e]
        clear hm e h2
        go_enter Try.func10, Try.ntmps10
        go_wp2_with (go_at_call 17; refine (CM _).mono ?_; rintro e w2 ⟨rfl, hw2⟩; subst w2)
        go_ret
        exact ⟨rfl, rfl⟩
    · have e : (decide (gs ≤ 8) && decide (sl ≤ 8)) = false := by simp [h1]
      rw [e]
      clear hm e
      go_enter Try.func10, Try.ntmps10
      go_wp2_with (go_at_call 17; refine (CM _).mono ?_; rintro e w2 ⟨rfl, hw2⟩; subst w2)
      go_ret
      exact ⟨rfl, rfl⟩
set_option maxRecDepth 100000 in
set_option maxHeartbeats 1000000 in
theorem begin_no (gs sl n : Int) (h : mayB gs sl n = false) (w : World) : Calls Try.prog 9 #[.int .i64 gs, .int .i64 sl, .int .i64 n] w fun e w' => e = .returned (.tuple #[.pointer none, .pointer none]) ∧ w' = w := by
  have CN := New_no gs sl n (fun hh => by rw [(mayB_iff _ _ _).2 hh] at h; cases h) w
  clear h
  go_enter Try.func9, Try.ntmps9
  go_wp2_with (go_at_call 18; refine CN.mono ?_; rintro e w2 ⟨rfl, hw2⟩; subst w2)
  go_ret2
  exact ⟨rfl, rfl⟩
set_option maxRecDepth 100000 in
set_option maxHeartbeats 1000000 in
theorem begin_yes (gs sl : Int) (n : Nat) (h : mayB gs sl n = true) (w : World) : Calls Try.prog 9 #[.int .i64 gs, .int .i64 sl, .int .i64 (n : Int)] w fun e w' => ∃ (A : Ad) (R : Rd), e = .returned (.tuple #[.pointer (some ⟨A.b, 0, none⟩), .pointer (some ⟨R.b, 0, none⟩)]) ∧ Jt w' A R (Sp.new gs sl n) ∧ (∀ k, A.own k ∨ R.foot k → w.heap.size ≤ k) ∧ Below w.heap.size w w' := by
  have hm := (mayB_iff _ _ _).1 h
  have CN := New_yes gs sl n hm w
  have CR := Lib.hid (fun W => rfNew_is gs sl n W)
  have HM := Lib.hid hm
  clear h hm
  go_enter Try.func9, Try.ntmps9
  go_wp2_with (first | (go_at_call 18; refine CN.mono ?_; rintro e w2 ⟨A, rfl, hS, hO, hb⟩; (have H1 := Lib.hid (And.intro hS (And.intro hO hb))); clear hS hO hb) | (go_at_call 38; refine (CR.out _).mono ?_; rintro e w3 ⟨R, rfl, hR, hO, hb⟩; (have H2 := Lib.hid (And.intro hR (And.intro hO hb))); clear hR hO hb))
  go_ret2
  refine ⟨A, R, rfl, ⟨H1.out.1.below H2.out.2.2, H2.out.1, J_new _ _ _, ⟨HM.out.1, HM.out.2.1, ?_⟩, fun k hk hf => ?_⟩, ?_, H1.out.2.2.trans (H2.out.2.2.mono H1.out.2.2.size)⟩
  · have h9 := HM.out.2.2
    show 1 ≤ n ∧ n ≤ 512
    omega
  · have h1 := H1.out.1.lt hk
    have h2 := H2.out.2.1 k hf
    omega
  · rintro k (hk | hk)
    · exact H1.out.2.1 k hk
    · exact Nat.le_trans H1.out.2.2.size (H2.out.2.1 k hk)
def c0 : Cp := ⟨1, 1, 1, 255⟩
set_option maxRecDepth 100000 in
set_option maxHeartbeats 1000000 in
theorem cap0_is (w : World) : Calls Try.prog 30 #[] w fun e w' => e = .returned (capV c0) ∧ Below w.heap.size w w' := by
  obtain ⟨d, hu1, hu2⟩ := underCap
  go_enter Try.func30, Try.ntmps30
  go_wp2
  go_returns
  exact ⟨rfl, (Below.refl _ _).alloc (Nat.le_refl _) _⟩
end Go.Proofs.Ytbknmfegckeogaa

/- The law's known, by walk: true. -/
namespace Go.Proofs.Ytbknmfegckeogaa
open Go.RowKit Go.Maps
set_option linter.unusedVariables false
set_option linter.unusedSimpArgs false

/-- A space that lies from B on. -/
structure Kn_ (B : Nat) (w w' : World) (A : Ad) (S : Sp) : Prop where
  sp : SpAt w' A S
  lo : ∀ k, A.own k → B ≤ k
  bel : Below B w w'
theorem Kn_.more {B : Nat} {w w' w'' : World} {A : Ad} {S : Sp} (h : Kn_ B w w' A S) (hb : Below w'.heap.size w' w'') (hB : B ≤ w.heap.size) : Kn_ B w w'' A S :=
  ⟨h.sp.below hb, h.lo, h.bel.trans (hb.mono (Nat.le_trans hB h.bel.size))⟩
theorem Kn_.step {B : Nat} {w w' w'' : World} {A : Ad} {S S' : Sp} (h : Kn_ B w w' A S) (hr : SpRes w' A S' w'') (hB : B ≤ w.heap.size) : ∃ v', Kn_ B w w'' { A with v := v' } S' := by
  obtain ⟨v', h1, h2⟩ := hr
  have hz : B ≤ w'.heap.size := Nat.le_trans hB h.bel.size
  refine ⟨v', h1, fun k hk => ?_, h.bel.trans (h2.apart.below hz h.lo)⟩
  rcases own_ad h2.fresh hk with e | e
  · exact h.lo k e
  · omega
def k0 : Sp := Sp.new 2 4 9
def k1 : Sp := (k0.rootR 0 0 c0).2
def k2 : Sp := (k1.deriveR 0 0 1 3 c0).2
def k3 : Sp := (k2.deriveR 1 3 0 2 c0).2
theorem k1e : (k0.rootR 0 0 c0).1 = 0 := by kernel_rfl
theorem k2e : (k1.deriveR 0 0 1 3 c0).1 = 0 := by kernel_rfl
theorem k3e : (k2.deriveR 1 3 0 2 c0).1 = 0 := by kernel_rfl
theorem k3len : k3.L.length = 3 := by kernel_rfl
theorem k3f : ∃ x, fnd k3.L 0 0 = some x ∧ (k3.offL x.id).length = 1 := by
  have h1 : (fnd k3.L 0 0).isSome = true := by kernel_rfl
  obtain ⟨x, hx⟩ := Option.isSome_iff_exists.1 h1
  refine ⟨x, hx, ?_⟩
  have h2 : (fnd k3.L 0 0).map (fun x => (k3.offL x.id).length) = some 1 := by kernel_rfl
  rw [hx] at h2
  simpa using h2
theorem k4e : k3.full 1 3 = 0 := by kernel_rfl
theorem k5e : (k3.del1 1 3).undE 0 2 0 0 = true := by kernel_rfl
theorem b1 : J k0 ∧ Lim k0 := ⟨J_new _ _ _, ⟨by show (1 : Int) ≤ 2 ∧ (2 : Int) ≤ 64; omega, by show (1 : Int) ≤ 4 ∧ (4 : Int) ≤ 32; omega, by show 1 ≤ 9 ∧ 9 ≤ 512; omega⟩⟩
theorem b2 : J k1 ∧ Lim k1 := by have := both_root b1.1 b1.2 0 0 c0 (by decide); exact ⟨this.j, this.lim⟩
theorem b3 : J k2 ∧ Lim k2 := by have := both_derive b2.1 b2.2 0 0 1 3 c0 (by decide); exact ⟨this.j, this.lim⟩
theorem b4 : J k3 ∧ Lim k3 := by have := both_derive b3.1 b3.2 1 3 0 2 c0 (by decide); exact ⟨this.j, this.lim⟩
theorem k3r : (k3.revR 0 0).1 = 2 ∧ (k3.revR 0 0).2.1 = 0 := by
  obtain ⟨x, hx, hl⟩ := k3f
  have hxm := (fnd_mem hx).1
  have hg := b4.1.gone hxm (b4.1.ds hxm)
  have he := b4.1.rev_L hxm (b4.1.ds hxm)
  rw [← he, hl, k3len] at hg
  unfold Sp.revR
  rw [hx]
  refine ⟨?_, rfl⟩
  show ((k3.ds x).length : Int) = 2
  omega
theorem newK (w : World) : Calls Try.prog 18 #[.int .i64 2, .int .i64 4, .int .i64 9] w fun e w' => ∃ A : Ad, e = .returned (.tuple #[.pointer (some ⟨A.b, 0, none⟩), .int .i64 0]) ∧ Kn_ w.heap.size w w' A k0 := by
  refine (New_yes 2 4 9 (by unfold mayN; omega) w).mono ?_
  rintro e w' ⟨A, rfl, h1, h2, h3⟩
  exact ⟨A, rfl, h1, h2, h3⟩
set_option maxRecDepth 100000 in
set_option maxHeartbeats 4000000 in
theorem known_is (w : World) : Calls Try.prog 11 #[] w fun e w' => e = .returned (.bool true) ∧ Below w.heap.size w w' := by
  have CN := newK w
  have hB : w.heap.size ≤ w.heap.size := Nat.le_refl _
  go_enter Try.func11, Try.ntmps11
  go_wp2_with (first
    | (go_at_call 18; refine CN.mono ?_; rintro e w1 ⟨A0, rfl, hK⟩; (have K0 := Lib.hid hK); clear hK CN; have m0 := trivial)
    | (go_at_call 30; (fail_if_success have := m1); have m1 := trivial; refine (cap0_is _).mono ?_; rintro e w2 ⟨rfl, hb⟩; (have KA := Lib.hid (K0.out.more hb hB)); clear hb)
    | (go_at_call 29; (have CR := root_c KA.out.sp b1.2 b1.1 0 0 c0 (by decide)); rw [k1e] at CR; refine CR.mono ?_; rintro e w3 ⟨rfl, hr⟩; (have hK1 := KA.out.step hr hB); (obtain ⟨v1, hK1⟩ := hK1); (have K1 := Lib.hid (show Kn_ w.heap.size w w3 _ k1 from hK1)); clear hK1 hr CR)
    | (go_at_call 30; (fail_if_success have := m2); have m2 := trivial; refine (cap0_is _).mono ?_; rintro e w4 ⟨rfl, hb⟩; (have KB := Lib.hid (K1.out.more hb hB)); clear hb)
    | (go_at_call 31; (fail_if_success have := m3); have m3 := trivial; (have CR := derive_c KB.out.sp b2.2 b2.1 0 0 1 3 c0 (by decide) (by decide)); rw [k2e] at CR; refine CR.mono ?_; rintro e w5 ⟨rfl, hr⟩; (have hK1 := KB.out.step hr hB); (obtain ⟨v2, hK1⟩ := hK1); (have K2 := Lib.hid (show Kn_ w.heap.size w w5 _ k2 from hK1)); clear hK1 hr CR)
    | (go_at_call 30; (fail_if_success have := m4); have m4 := trivial; refine (cap0_is _).mono ?_; rintro e w6 ⟨rfl, hb⟩; (have KC := Lib.hid (K2.out.more hb hB)); clear hb)
    | (go_at_call 31; (have CR := derive_c KC.out.sp b3.2 b3.1 1 3 0 2 c0 (by decide) (by decide)); rw [k3e] at CR; refine CR.mono ?_; rintro e w7 ⟨rfl, hr⟩; (have hK1 := KC.out.step hr hB); (obtain ⟨v3, hK1⟩ := hK1); (have K3 := Lib.hid (show Kn_ w.heap.size w w7 _ k3 from hK1)); clear hK1 hr CR)
    | (go_at_call 20; refine (spCopy_is K3.out.sp).mono ?_; rintro e w8 ⟨A8, rfl, hs, ho, hb⟩; (have K4 := Lib.hid (K3.out.more hb hB)); (have KO := Lib.hid (And.intro hs (And.intro ho hb))); clear hs ho hb)
    | (go_at_call 21; (have CR := revoke_c K4.out.sp b4.2 b4.1 0 0); rw [k3r.1, k3r.2] at CR; refine CR.mono ?_; rintro e w9 ⟨rfl, hr⟩; (have hK1 := K4.out.step hr hB); (obtain ⟨v5, hK1⟩ := hK1); (have K5 := Lib.hid hK1); (have hO5 : SpAt w9 A8 k3 := by (obtain ⟨v', h1, h2⟩ := hr; exact KO.out.1.apart h2.apart fun k hk ho => by have h8 := KO.out.2.1 k hk; have h9 := K3.out.sp.lt ho; omega)); (have KP := Lib.hid (Kn_.mk hO5 (fun k hk => Nat.le_trans K3.out.bel.size (KO.out.2.1 k hk)) hK1.bel)); clear hK1 hr CR hO5)
    | (go_at_call 33; (have CR := del_c KP.out.sp b4.2 b4.1 1 3); rw [k4e] at CR; refine CR.mono ?_; rintro e w10 ⟨rfl, hr⟩; (have hK1 := KP.out.step hr hB); (obtain ⟨v6, hK1⟩ := hK1); (have K6 := Lib.hid hK1); clear hK1 hr CR)
    | (go_at_call 23; (have CR := under_c K6.out.sp (b4.2.del1 1 3) (b4.1.del1 1 3) 0 2 0 0); rw [k5e] at CR; refine CR.mono ?_; rintro e w11 ⟨rfl, hb⟩; (have K7 := Lib.hid (K6.out.more hb hB)); clear hb CR))
  go_ret
  exact ⟨rfl, K7.out.bel⟩
end Go.Proofs.Ytbknmfegckeogaa

/- An argument that is a slice of acts, opened: its acts lie in memory one behind the other. -/
namespace Go.Proofs.Ytbknmfegckeogaa
open Go.RowKit Go.ChangeShapes Go.WideShapes Go.Deep
set_option linter.unusedVariables false
set_option linter.unusedSimpArgs false

/-- The nine cells of an act. -/
structure ActAt (w : World) (g o : Nat) (a : Ac) : Prop where
  c0 : w.cell? ⟨g, o, none⟩ = some (.int .i64 a.k)
  c1 : w.cell? ⟨g, o + 1, none⟩ = some (.int .i64 a.g)
  c2 : w.cell? ⟨g, o + 2, none⟩ = some (.int .i64 a.s)
  c3 : w.cell? ⟨g, o + 3, none⟩ = some (.int .i64 a.tg)
  c4 : w.cell? ⟨g, o + 4, none⟩ = some (.int .i64 a.ts)
  c5 : w.cell? ⟨g, o + 5, none⟩ = some (.int .i64 a.c.k)
  c6 : w.cell? ⟨g, o + 6, none⟩ = some (.int .i64 a.c.i)
  c7 : w.cell? ⟨g, o + 7, none⟩ = some (.int .u64 a.c.n)
  c8 : w.cell? ⟨g, o + 8, none⟩ = some (.int .u8 a.c.r)
/-- Acts, as they lie in memory ahead of B. -/
def ActsAt (w : World) (B : Nat) (A : Option Addr) (l : List Ac) : Prop := (∀ a ∈ l, a.wf) ∧ (l ≠ [] → ∃ g o, A = some ⟨g, o, none⟩ ∧ g < B ∧ ∀ i (h : i < l.length), ActAt w g (o + i * 9) (l[i]'h))
theorem ActsAt.below {w w' : World} {A : Option Addr} {l : List Ac} {B : Nat} (h : ActsAt w B A l) (hb : Below B w w') : ActsAt w' B A l := ⟨h.1, fun hne => by
  obtain ⟨g, o, e, hg, hc⟩ := h.2 hne
  have k : ∀ j, w'.cell? ⟨g, j, none⟩ = w.cell? ⟨g, j, none⟩ := fun j => hb.cell (p := ⟨g, j, none⟩) hg
  exact ⟨g, o, e, hg, fun i hi => by
    obtain ⟨a0, a1, a2, a3, a4, a5, a6, a7, a8⟩ := hc i hi
    exact ⟨(k _).trans a0, (k _).trans a1, (k _).trans a2, (k _).trans a3, (k _).trans a4, (k _).trans a5, (k _).trans a6, (k _).trans a7, (k _).trans a8⟩⟩⟩

theorem ftAct : (Try.prog.fieldsOf 38).toList = [⟨"Kind", 3, 0, false, "", "", 0⟩, ⟨"G", 3, 1, false, "", "", 8⟩, ⟨"Slot", 3, 2, false, "", "", 16⟩, ⟨"ToG", 3, 3, false, "", "", 24⟩, ⟨"To", 3, 4, false, "", "", 32⟩, ⟨"Cap", 36, 5, false, "", "", 40⟩] := by kernel_rfl
theorem uAct : Try.prog.underlying 38 = some (.struct (Try.prog.fieldsOf 38)) := by kernel_rfl
theorem ccAct : Try.prog.cellsOf 38 = 9 := by kernel_rfl
theorem ccInt : Try.prog.cellsOf 3 = 1 := by kernel_rfl
theorem ccKind : Try.prog.cellsOf 30 = 1 := by kernel_rfl
theorem ccU64 : Try.prog.cellsOf 31 = 1 := by kernel_rfl
theorem ccRights : Try.prog.cellsOf 34 = 1 := by kernel_rfl

section
variable {H : Type} {enc : TypeId × Value → H} {w : World} {base : Nat} {spare : Nat → Bool} {held : Bool}
theorem at_some {xs : List (DataW H × List MemPlace)} {n i : Nat} (h : xs.length = n) (hi : i < n) : ∃ y, xs[i]? = some y := ⟨xs[i]'(by omega), List.getElem?_eq_getElem (by omega)⟩
theorem int_at {t : TypeId} {k : IntKind} {fuel : Nat} {c : Value} {y : DataW H × List MemPlace} (ht : Try.prog.underlying t = some (.int k)) (h : DataW.trod enc Try.prog w base spare held fuel t [c] = some y) : ∃ n, c = .int k n ∧ (Lit.int k n).wf = true := by
  obtain ⟨n, e, _, hw⟩ := DataW.trod_int ht h
  exact ⟨n, by injection e, hw⟩
theorem fRef {i : Nat} {f : Field} (h : [(⟨"Index", 3, 0, false, "", "", 0⟩ : Field), ⟨"Gen", 31, 1, false, "", "", 8⟩][i]? = some f) : (Try.prog.fieldsOf 33)[i]? = some f := by
  rw [← Array.getElem?_toList, ftRef]; exact h
theorem fCap {i : Nat} {f : Field} (h : [(⟨"Kind", 30, 0, false, "", "", 0⟩ : Field), ⟨"Object", 33, 1, false, "", "", 8⟩, ⟨"Rights", 34, 3, false, "", "", 24⟩][i]? = some f) : (Try.prog.fieldsOf 36)[i]? = some f := by
  rw [← Array.getElem?_toList, ftCap]; exact h
theorem fAct {i : Nat} {f : Field} (h : [(⟨"Kind", 3, 0, false, "", "", 0⟩ : Field), ⟨"G", 3, 1, false, "", "", 8⟩, ⟨"Slot", 3, 2, false, "", "", 16⟩, ⟨"ToG", 3, 3, false, "", "", 24⟩, ⟨"To", 3, 4, false, "", "", 32⟩, ⟨"Cap", 36, 5, false, "", "", 40⟩][i]? = some f) : (Try.prog.fieldsOf 38)[i]? = some f := by
  rw [← Array.getElem?_toList, ftAct]; exact h
theorem ref_of {fuel : Nat} {c0 c1 : Value} {y : DataW H × List MemPlace} (h : DataW.trod enc Try.prog w base spare held fuel 33 [c0, c1] = some y) : ∃ a b, c0 = .int .i64 a ∧ c1 = .int .u64 b ∧ 0 ≤ b := by
  obtain ⟨xs, n, _, _, _, hx, hf⟩ := DataW.trod_struct uRef h
  have hx' : xs.length = 2 := by rw [hx, ← Array.length_toList, ftRef]; rfl
  have f0 := hf 0 _ (fRef rfl)
  have f1 := hf 1 _ (fRef rfl)
  obtain ⟨y0, e0⟩ := at_some hx' (show 0 < 2 by omega)
  obtain ⟨y1, e1⟩ := at_some hx' (show 1 < 2 by omega)
  rw [e0] at f0
  rw [e1] at f1
  simp only [ccInt, ccU64, List.drop_zero, List.drop_succ_cons, List.take_succ_cons, List.take_zero] at f0 f1
  obtain ⟨a, rfl, _⟩ := int_at uInt_ f0
  obtain ⟨b, rfl, hb⟩ := int_at uU64 f1
  exact ⟨a, b, rfl, rfl, by have := bounds_u64 hb; omega⟩
theorem cap_of {fuel : Nat} {c0 c1 c2 c3 : Value} {y : DataW H × List MemPlace} (h : DataW.trod enc Try.prog w base spare held fuel 36 [c0, c1, c2, c3] = some y) : ∃ c : Cp, c0 = .int .i64 c.k ∧ c1 = .int .i64 c.i ∧ c2 = .int .u64 c.n ∧ c3 = .int .u8 c.r ∧ 0 ≤ c.n ∧ 0 ≤ c.r ∧ c.r < 256 := by
  obtain ⟨xs, n, _, _, _, hx, hf⟩ := DataW.trod_struct uCap h
  have hx' : xs.length = 3 := by rw [hx, ← Array.length_toList, ftCap]; rfl
  have f0 := hf 0 _ (fCap rfl)
  have f1 := hf 1 _ (fCap rfl)
  have f2 := hf 2 _ (fCap rfl)
  obtain ⟨y0, e0⟩ := at_some hx' (show 0 < 3 by omega)
  obtain ⟨y1, e1⟩ := at_some hx' (show 1 < 3 by omega)
  obtain ⟨y2, e2⟩ := at_some hx' (show 2 < 3 by omega)
  rw [e0] at f0
  rw [e1] at f1
  rw [e2] at f2
  simp only [ccKind, ccRights, cRef, List.drop_zero, List.drop_succ_cons, List.take_succ_cons, List.take_zero] at f0 f1 f2
  obtain ⟨k, rfl, _⟩ := int_at uKind f0
  obtain ⟨i, g, rfl, rfl, hg⟩ := ref_of f1
  obtain ⟨r, rfl, hr⟩ := int_at uRights f2
  have hb := bounds_u8 hr
  exact ⟨⟨k, i, g, r⟩, rfl, rfl, rfl, rfl, hg, by show 0 ≤ r; omega, by show r < 256; omega⟩
set_option maxRecDepth 100000 in
theorem act_of {fuel : Nat} {cs : List Value} {y : DataW H × List MemPlace} (h : DataW.trod enc Try.prog w base spare held fuel 38 cs = some y) : ∃ a : Ac, cs = (actC a).toList ∧ a.wf := by
  obtain ⟨xs, n, _, _, hl, hx, hf⟩ := DataW.trod_struct uAct h
  rw [ccAct] at hl
  have hx' : xs.length = 6 := by rw [hx, ← Array.length_toList, ftAct]; rfl
  match cs, hl with
  | [c0, c1, c2, c3, c4, c5, c6, c7, c8], _ =>
    have f0 := hf 0 _ (fAct rfl)
    have f1 := hf 1 _ (fAct rfl)
    have f2 := hf 2 _ (fAct rfl)
    have f3 := hf 3 _ (fAct rfl)
    have f4 := hf 4 _ (fAct rfl)
    have f5 := hf 5 _ (fAct rfl)
    obtain ⟨y0, e0⟩ := at_some hx' (show 0 < 6 by omega)
    obtain ⟨y1, e1⟩ := at_some hx' (show 1 < 6 by omega)
    obtain ⟨y2, e2⟩ := at_some hx' (show 2 < 6 by omega)
    obtain ⟨y3, e3⟩ := at_some hx' (show 3 < 6 by omega)
    obtain ⟨y4, e4⟩ := at_some hx' (show 4 < 6 by omega)
    obtain ⟨y5, e5⟩ := at_some hx' (show 5 < 6 by omega)
    rw [e0] at f0
    rw [e1] at f1
    rw [e2] at f2
    rw [e3] at f3
    rw [e4] at f4
    rw [e5] at f5
    simp only [ccInt, cCap, List.drop_zero, List.drop_succ_cons, List.take_succ_cons, List.take_zero] at f0 f1 f2 f3 f4 f5
    obtain ⟨z0, rfl, _⟩ := int_at uInt_ f0
    obtain ⟨z1, rfl, _⟩ := int_at uInt_ f1
    obtain ⟨z2, rfl, _⟩ := int_at uInt_ f2
    obtain ⟨z3, rfl, _⟩ := int_at uInt_ f3
    obtain ⟨z4, rfl, _⟩ := int_at uInt_ f4
    obtain ⟨c, rfl, rfl, rfl, rfl, h1, h2, h3⟩ := cap_of f5
    exact ⟨⟨z0, z1, z2, z3, z4, c⟩, rfl, h1, h2, h3⟩
theorem open_acts {fuel : Nat} {cs : List Value} {x : DataW H × List MemPlace} (h : DataW.trod enc Try.prog w base spare held fuel 22 cs = some x) :
    ∃ (A : Option Addr) (l : List Ac) (cap : Nat), cs = [.slice A l.length cap] ∧ ActsAt w w.heap.size A l ∧ l.length ≤ maxLen := by
  rcases open_slice Try.underlying22 h with ⟨rfl, _⟩ | ⟨a, len, cap, m, n, D, Pl, rfl, hb, hl, hm, hmm, _, hi⟩
  · exact ⟨none, [], 0, rfl, ⟨fun a ha => absurd ha List.not_mem_nil, fun e => absurd rfl e⟩, by simp⟩
  · have hlm : len ≤ m := by rw [hmm]; split <;> omega
    have hact : ∀ i, i < len → ∃ r : Ac, r.wf ∧ ∀ j v, (actC r)[j]? = some v → w.cell? ((a.add (i * 9)).add j) = some v := by
      intro i hil
      obtain ⟨cs', hc, ht⟩ := hi i (by omega)
      rw [ccAct] at hc
      obtain ⟨r, rfl, hwf⟩ := act_of ht
      obtain ⟨_, hcl, hat⟩ := World.cells?_some hc
      refine ⟨r, hwf, fun j v hv => ?_⟩
      have hj : j < 9 := by
        have := (Array.getElem?_eq_some_iff.1 hv).1
        simpa [actC] using this
      have := hat j (by simpa [actC] using hj)
      rw [this]
      simpa using hv
    have hadd : ∀ (g o k : Nat), (⟨g, o, none⟩ : Addr).add k = ⟨g, o + k, none⟩ := fun g o k => by unfold Addr.add; split <;> simp_all
    refine ⟨some a, (List.range len).attach.map fun i => (hact i.1 (by simpa using i.2)).choose, cap, by simp, ⟨fun r hr => ?_, fun hne => ?_⟩, by simp; omega⟩
    · obtain ⟨i, _, rfl⟩ := List.mem_map.1 hr
      exact (hact i.1 (by simpa using i.2)).choose_spec.1
    have hpos : 0 < len := by
      rcases Nat.eq_zero_or_pos len with h0 | h0
      · subst h0; simp at hne
      · exact h0
    obtain ⟨r0, _, hr0⟩ := hact 0 hpos
    have hr0 := hr0 0 _ rfl
    obtain ⟨g, o, sp⟩ := a
    have hsp : sp = none := by
      cases sp with
      | none => rfl
      | some s =>
        rw [show ((Addr.mk g o (some s)).add (0 * 9)).add 0 = Addr.mk g o (some s) from by simp [Addr.add]] at hr0
        unfold World.cell? at hr0
        simp only [Option.isSome_some, if_true] at hr0
        split at hr0 <;> simp at hr0
    subst hsp
    refine ⟨g, o, rfl, ?_, fun i hi' => ?_⟩
    · rw [hadd, hadd] at hr0
      exact World.block_lt_of_cell? w ⟨g, o + 0 * 9 + 0, none⟩ hr0
    · have hil : i < len := by simpa using hi'
      have hq : ∀ r : Ac, (∀ j v, (actC r)[j]? = some v → w.cell? (((⟨g, o, none⟩ : Addr).add (i * 9)).add j) = some v) → ActAt w g (o + i * 9) r := fun r q => by
        simp only [hadd] at q
        exact ⟨q 0 _ rfl, q 1 _ rfl, q 2 _ rfl, q 3 _ rfl, q 4 _ rfl, q 5 _ rfl, q 6 _ rfl, q 7 _ rfl, q 8 _ rfl⟩
      have q := hq _ (hact i hil).choose_spec.2
      simp only [List.getElem_map, List.getElem_attach, List.getElem_range]
      exact q
end
end Go.Proofs.Ytbknmfegckeogaa

/- CspacePlays, by a walk: true at all sizes and each row of acts. -/
namespace Go.Proofs.Ytbknmfegckeogaa
open Go.RowKit Go.Maps
set_option linter.unusedVariables false
set_option linter.unusedSimpArgs false

/-- Behind so many acts both sides agree, and lie from W on. -/
structure Lw (W w : World) (A : Ad) (R : Rd) (S : Sp) (j : Nat) (A' : Ad) (R' : Rd) (S' : Sp) : Prop where
  jt : Jt w A' R' S'
  came : S'.came ≤ j
  ab : A'.b = A.b
  rb : R'.b = R.b
  lo : ∀ k, A'.own k ∨ R'.foot k → W.heap.size ≤ k
  bel : Below W.heap.size W w
  gs : S'.gs = S.gs
  sl : S'.sl = S.sl
  n : S'.F.n = S.F.n
section
variable {W w w' : World} {A A' : Ad} {R R' : Rd} {S S' : Sp} {j : Nat}
theorem Lw.more (h : Lw W w A R S j A' R' S') (hb : Below w.heap.size w w') : Lw W w' A R S j A' R' S' :=
  ⟨h.jt.below hb, h.came, h.ab, h.rb, h.lo, h.bel.trans (hb.mono h.bel.size), h.gs, h.sl, h.n⟩
theorem Lw.step {e : Ending} (h : Lw W w A R S j A' R' S') (hd : DoPost S' A' R' w e w') : e = .returned (.bool true) ∧ ∃ A2 R2 S2, Lw W w' A R S (j + 1) A2 R2 S2 ∧ Gone w w' A' R' A2 R2 := by
  obtain ⟨rfl, A2, R2, S2, h1, h2, h3⟩ := hd
  have hz := h.bel.size
  refine ⟨rfl, A2, R2, S2, ⟨h1, by have := h2.came; have := h.came; omega, h3.ab.trans h.ab, h3.rb.trans h.rb, fun k hk => ?_, ?_, h2.gs.trans h.gs, h2.sl.trans h.sl, h2.n.trans h.n⟩, h3⟩
  · rcases hk with hk | hk
    · rcases h3.fa k hk with e | e
      · exact h.lo k (.inl e)
      · omega
    · rcases h3.fr k hk with e | e
      · exact h.lo k (.inr e)
      · omega
  · exact h.bel.trans (h3.apart.below hz fun k hk => by
      rcases hk with hk | hk
      · exact h.lo k (.inl hk)
      · exact h.lo k (.inr (.inl hk)))
theorem Lw.start {n : Nat} {gs sl : Int} (h : Jt w A R (Sp.new gs sl n)) (hlo : ∀ k, A.own k ∨ R.foot k → W.heap.size ≤ k) (hb : Below W.heap.size W w) : Lw W w A R (Sp.new gs sl n) 0 A R (Sp.new gs sl n) :=
  ⟨h, Nat.le_refl _, rfl, rfl, hlo, hb, rfl, rfl, rfl⟩
theorem Lw.do_ (h : Lw W w A R S j A' R' S') (hj : j ≤ 1000) (a : Ac) (ha : a.wf) :
    Calls Try.prog 12 #[.pointer (some ⟨A.b, 0, none⟩), .pointer (some ⟨R.b, 0, none⟩), .agg (actC a)] w fun e w' => e = .returned (.bool true) ∧ ∃ A2 R2 S2, Lw W w' A R S (j + 1) A2 R2 S2 ∧ Gone w w' A' R' A2 R2 := by
  have := do_is h.jt (by have := h.came; omega) a ha
  rw [h.ab, h.rb] at this
  exact this.mono fun e w' hd => h.step hd
theorem Lw.same_ (h : Lw W w A R S j A' R' S') : Calls Try.prog 19 #[.pointer (some ⟨A.b, 0, none⟩), .pointer (some ⟨R.b, 0, none⟩)] w fun e w' => e = .returned (.bool true) ∧ Below w.heap.size w w' := by
  have := same_law h.jt
  rwa [h.ab, h.rb] at this
end
theorem small_may {gs sl n : Int} (h : smallB gs sl n = true) : mayB gs sl n = true := by
  unfold smallB at h
  simp only [Bool.and_eq_true] at h
  exact h.1.1
set_option maxRecDepth 100000 in
set_option maxHeartbeats 4000000 in
theorem plays_walk (gs sl n : Int) (A0 : Option Addr) (cap : Nat) (l : List Ac) (W : World) (hA : ActsAt W W.heap.size A0 l) (hl : l.length ≤ maxLen) :
    Calls Try.prog 4 #[.int .i64 gs, .int .i64 sl, .int .i64 n, .slice A0 l.length cap] W fun e w' => e = .returned (.bool true) ∧ Below W.heap.size W w' := by
  have CM := mayL_is gs sl n
  cases hm : mayB gs sl n
  · have CB := begin_no gs sl n hm W
    have CN := New_no gs sl n (fun hh => by rw [(mayB_iff _ _ _).2 hh] at hm; cases hm) W
    rw [hm] at CM
    clear hm hA
    go_enter Try.func4, Try.ntmps4
    go_wp2_with (first | (go_at_call 9; refine CB.mono ?_; rintro e w' ⟨rfl, hw⟩; subst hw) | (go_at_call 17; refine (CM _).mono ?_; rintro e w' ⟨rfl, hw⟩; subst hw) | (go_at_call 18; refine CN.mono ?_; rintro e w' ⟨rfl, hw⟩; subst hw) | (go_at_call 11; refine (known_is _).mono ?_; rintro e w1 ⟨rfl, hb⟩; (have HB := Lib.hid hb); clear hb))
    go_ret
    exact ⟨rfl, HB.out⟩
  · rw [hm] at CM
    have hn := (mayB_iff _ _ _).1 hm
    obtain ⟨n, rfl⟩ := Int.eq_ofNat_of_zero_le (show 0 ≤ n by have := hn.2.2; omega)
    have CB := begin_yes gs sl n hm W
    have CS := small_is gs sl (n : Int)
    have HA := Lib.hid hA
    clear hA hm hn
    by_cases hsm : smallB gs sl (n : Int) = true ∧ l.length ≤ 120
    · obtain ⟨hs, hl2⟩ := hsm
      have hl3 : ¬ (120 : Int) < (l.length : Int) := by omega
      rw [hs] at CS
      clear hs hl
      go_enter Try.func4, Try.ntmps4
      go_wp2_with (first | (go_at_call 9; refine CB.mono ?_; rintro e w1 ⟨A, R, rfl, hj, hlo, hb⟩; (have HL := Lib.hid (Lw.start hj hlo hb)); clear hj hlo hb CB) | (go_at_call 17; refine (CM _).mono ?_; rintro e w' ⟨rfl, hw⟩; subst hw; clear CM) | (go_at_call 10; refine (CS _).mono ?_; rintro e w' ⟨rfl, hw⟩; subst hw; clear CS))
      go_loopw [13] (fun i wr => ∃ (j : Nat) (A' : Ad) (R' : Rd) (S' : Sp), i = .int .i64 j ∧ j ≤ l.length ∧ Lw W wr A R (Sp.new gs sl n) j A' R' S') (fun i _ => l.length - (intOf i).toNat)
      case atStart => exact ⟨0, A, R, _, rfl, Nat.zero_le _, HL.out⟩
      case round =>
        obtain ⟨j, A', R', S', rfl, hj, hL⟩ := hrel
        have HLR := Lib.hid hL
        by_cases hlt : j < l.length
        · obtain ⟨ga, o, rfl, hga, hc⟩ := (HA.out.below hL.bel).2 (fun e => by rw [e] at hlt; simp at hlt)
          obtain ⟨c0, c1, c2, c3, c4, c5, c6, c7, c8⟩ := hc j hlt
          have CD := hL.do_ (by omega) _ (HA.out.1 _ (List.getElem_mem hlt))
          generalize l[j] = a at *
          have hj1 : (j : Int) < l.length := by omega
          unfold actC at CD
          clear hc hL
          go_wp2_with (first | (go_at_call 12; refine CD.mono ?_; rintro e w3 ⟨rfl, A3, R3, S3, hL3, -⟩; (have HL3 := Lib.hid hL3); clear hL3 CD) | (go_at_call 19; refine HL3.out.same_.mono ?_; rintro e w4 ⟨rfl, hb4⟩; have HB4 := Lib.hid hb4; clear hb4))
          go_roundw
          case rel => exact ⟨j + 1, A3, R3, S3, by go_num, by omega, HL3.out.more HB4.out⟩
          case measure => simp [intOf]; omega
        · have hj1 : ¬ (j : Int) < (l.length : Int) := by omega
          clear hL
          go_wp2_with (go_at_call 11; refine (known_is _).mono ?_; rintro e w1 ⟨rfl, hb⟩; (have HB := Lib.hid hb); clear hb)
          go_ret
          exact ⟨rfl, HLR.out.bel.trans (HB.out.mono HLR.out.bel.size)⟩
    · cases hs : smallB gs sl (n : Int)
      · rw [hs] at CS
        clear hs hl hsm HA
        go_enter Try.func4, Try.ntmps4
        go_wp2_with (first | (go_at_call 9; refine CB.mono ?_; rintro e w1 ⟨A, R, rfl, hj, hlo, hb⟩; (have HL := Lib.hid (Lw.start hj hlo hb)); clear hj hlo hb CB) | (go_at_call 17; refine (CM _).mono ?_; rintro e w' ⟨rfl, hw⟩; subst hw; clear CM) | (go_at_call 10; refine (CS _).mono ?_; rintro e w' ⟨rfl, hw⟩; subst hw; clear CS) | (go_at_call 11; refine (known_is _).mono ?_; rintro e w1 ⟨rfl, hb⟩; (have HB := Lib.hid hb); clear hb))
        go_ret
        exact ⟨rfl, HL.out.bel.trans (HB.out.mono HL.out.bel.size)⟩
      · rw [hs] at CS
        have hl3 : (120 : Int) < (l.length : Int) := by
          have : ¬ l.length ≤ 120 := fun h => hsm ⟨hs, h⟩
          omega
        clear hs hl hsm HA
        go_enter Try.func4, Try.ntmps4
        go_wp2_with (first | (go_at_call 9; refine CB.mono ?_; rintro e w1 ⟨A, R, rfl, hj, hlo, hb⟩; (have HL := Lib.hid (Lw.start hj hlo hb)); clear hj hlo hb CB) | (go_at_call 17; refine (CM _).mono ?_; rintro e w' ⟨rfl, hw⟩; subst hw; clear CM) | (go_at_call 10; refine (CS _).mono ?_; rintro e w' ⟨rfl, hw⟩; subst hw; clear CS) | (go_at_call 11; refine (known_is _).mono ?_; rintro e w1 ⟨rfl, hb⟩; (have HB := Lib.hid hb); clear hb))
        go_ret
        exact ⟨rfl, HL.out.bel.trans (HB.out.mono HL.out.bel.size)⟩
end Go.Proofs.Ytbknmfegckeogaa

/- CspaceMoves, by a walk: true at all sizes, each row of acts and each two slots. -/
namespace Go.Proofs.Ytbknmfegckeogaa
open Go.RowKit Go.Maps
set_option linter.unusedVariables false
set_option linter.unusedSimpArgs false

theorem same_refl {S : Sp} (h : J S) : SameP S S := ⟨rfl, rfl, rfl, rfl, fun e he => ⟨e, h.fnd_of he, rfl, rfl⟩⟩
theorem move_ne {S : Sp} {g s z : Int} (h1 : S.full g s = 0) (h2 : S.freeE g z = 0) : s ≠ z ∧ fnd S.L g z = none ∧ S.there g z = true := by
  obtain ⟨ht, x, hx⟩ := full_zero h1
  unfold Sp.freeE at h2
  split at h2
  · rename_i hz
    split at h2
    · cases h2
    · rename_i hn
      have hn' : fnd S.L g z = none := by simpa using hn
      refine ⟨fun e => ?_, hn', hz⟩
      rw [← e, hx] at hn'
      cases hn'
  · cases h2
theorem move_differs {S : Sp} (h : J S) {g s z : Int} (h1 : S.full g s = 0) (h2 : S.freeE g z = 0) : ¬ SameP (S.move g s z) S := by
  rintro ⟨_, _, _, _, hall⟩
  obtain ⟨_, hn, _⟩ := move_ne h1 h2
  obtain ⟨ht, x, hx⟩ := full_zero h1
  have hm := fnd_mem hx
  have hmem : ({ x with s := z } : En) ∈ (S.move g s z).L := List.mem_map.2 ⟨x, hm.1, by rw [if_pos ((isAt_iff _ _ _).2 hm.2)]⟩
  obtain ⟨f, hf, _⟩ := hall _ hmem
  dsimp only at hf
  rw [hm.2.1, hn] at hf
  cases hf
theorem move_back {S : Sp} (h : J S) {g s z : Int} (h1 : S.full g s = 0) (h2 : S.freeE g z = 0) : ((S.move g s z).moveR g z s) = (0, S) := by
  obtain ⟨hne, hn, htz⟩ := move_ne h1 h2
  obtain ⟨ht, x, hx⟩ := full_zero h1
  have hm := fnd_mem hx
  have hJ := h.move (g := g) (s := s) h2
  have hmem : ({ x with s := z } : En) ∈ (S.move g s z).L := List.mem_map.2 ⟨x, hm.1, by rw [if_pos ((isAt_iff _ _ _).2 hm.2)]⟩
  have hf := hJ.fnd_of hmem
  dsimp only at hf
  rw [hm.2.1] at hf
  have hfull : (S.move g s z).full g z = 0 := full_some hJ hf
  have hno : fnd (S.move g s z).L g s = none := by
    cases hq : fnd (S.move g s z).L g s with
    | none => rfl
    | some y =>
      obtain ⟨y1, y2, y3⟩ := fnd_mem hq
      obtain ⟨a, ha, rfl⟩ := List.mem_map.1 y1
      by_cases hat : a.isAt g s = true
      · rw [if_pos hat] at y3
        exact absurd y3.symm hne
      · rw [if_neg hat] at y2 y3
        exact absurd ((isAt_iff _ _ _).2 ⟨y2, y3⟩) hat
  have hfree : (S.move g s z).freeE g s = 0 := by
    unfold Sp.freeE
    have : (S.move g s z).there g s = true := ht
    rw [if_pos this, hno]
    rfl
  have hL : ((S.move g s z).move g z s).L = S.L := by
    show (S.L.map _).map _ = S.L
    rw [List.map_map]
    conv => rhs; rw [← List.map_id S.L]
    refine List.map_congr_left fun e he => ?_
    simp only [Function.comp, id]
    by_cases hat : e.isAt g s = true
    · have h9 := (isAt_iff _ _ _).1 hat
      rw [if_pos hat]
      have : ({ e with s := z } : En).isAt g z = true := (isAt_iff _ _ _).2 ⟨h9.1, rfl⟩
      rw [if_pos this, ← h9.2]
    · rw [if_neg hat]
      have : ¬ e.isAt g z = true := fun hh => by
        have := (isAt_iff _ _ _).1 hh
        exact fnd_none hn e he this
      rw [if_neg this]
  unfold Sp.moveR
  rw [if_pos hfull, if_pos hfree]
  have : (S.move g s z).move g z s = S := by
    have e : (S.move g s z).move g z s = { S with L := ((S.move g s z).move g z s).L } := rfl
    rw [e, hL]
  rw [this]
/-- Two spaces that share nothing. -/
structure Two (W w : World) (A1 A2 : Ad) (S1 S2 : Sp) : Prop where
  s1 : SpAt w A1 S1
  s2 : SpAt w A2 S2
  d : ∀ k, A2.own k → ¬ A1.own k
  lo1 : ∀ k, A1.own k → W.heap.size ≤ k
  lo2 : ∀ k, A2.own k → W.heap.size ≤ k
  bel : Below W.heap.size W w
theorem Two.more {W w w' : World} {A1 A2 : Ad} {S1 S2 : Sp} (h : Two W w A1 A2 S1 S2) (hb : Below w.heap.size w w') : Two W w' A1 A2 S1 S2 :=
  ⟨h.s1.below hb, h.s2.below hb, h.d, h.lo1, h.lo2, h.bel.trans (hb.mono h.bel.size)⟩
theorem Two.step1 {W w w' : World} {A1 A2 : Ad} {S1 S2 S' : Sp} (h : Two W w A1 A2 S1 S2) (hr : SpRes w A1 S' w') : ∃ v', Two W w' { A1 with v := v' } A2 S' S2 := by
  obtain ⟨v', h1, h2⟩ := hr
  have hz := h.bel.size
  refine ⟨v', h1, h.s2.apart h2.apart h.d, fun k hk ho => ?_, fun k hk => ?_, h.lo2, h.bel.trans (h2.apart.below hz h.lo1)⟩
  · rcases own_ad h2.fresh ho with e | e
    · exact h.d k hk e
    · have := h.s2.lt hk
      omega
  · rcases own_ad h2.fresh hk with e | e
    · exact h.lo1 k e
    · omega
theorem Two.start {W w w' : World} {A1 A2 : Ad} {S : Sp} (h : SpAt w A1 S) (hlo : ∀ k, A1.own k → W.heap.size ≤ k) (hb : Below W.heap.size W w) (h2 : SpAt w' A2 S) (hlo2 : ∀ k, A2.own k → w.heap.size ≤ k) (hb2 : Below w.heap.size w w') : Two W w' A1 A2 S S :=
  ⟨h.below hb2, h2, fun k hk ho => by have := hlo2 k hk; have := h.lt ho; omega, hlo, fun k hk => Nat.le_trans hb.size (hlo2 k hk), hb.trans (hb2.mono hb.size)⟩
set_option maxRecDepth 100000 in
set_option maxHeartbeats 4000000 in
theorem moves_early (gs sl n : Int) (g s z : Int) (A0 : Option Addr) (cap : Nat) (l : List Ac) (W : World) (h : ¬ (smallB gs sl n = true ∧ l.length ≤ 100)) :
    Calls Try.prog 6 #[.int .i64 gs, .int .i64 sl, .int .i64 n, .slice A0 l.length cap, .int .i64 g, .int .i64 s, .int .i64 z] W fun e w' => e = .returned (.bool true) ∧ Below W.heap.size W w' := by
  have CS := small_is gs sl n
  cases hm : mayB gs sl n
  · have CB := begin_no gs sl n hm W
    have hs : smallB gs sl n = false := by unfold smallB; rw [hm]; rfl
    rw [hs] at CS
    clear hm h hs
    go_enter Try.func6, Try.ntmps6
    go_wp2_with (first | (go_at_call 9; refine CB.mono ?_; rintro e w' ⟨rfl, hw⟩; subst hw) | (go_at_call 10; refine (CS _).mono ?_; rintro e w' ⟨rfl, hw⟩; subst hw) | (go_at_call 11; refine (known_is _).mono ?_; rintro e w1 ⟨rfl, hb⟩; (have HB := Lib.hid hb); clear hb))
    go_ret
    exact ⟨rfl, HB.out⟩
  · have hn := (mayB_iff _ _ _).1 hm
    obtain ⟨n, rfl⟩ := Int.eq_ofNat_of_zero_le (show 0 ≤ n by have := hn.2.2; omega)
    have CB := begin_yes gs sl n hm W
    clear hm hn
    cases hs : smallB gs sl (n : Int)
    · rw [hs] at CS
      clear hs h
      go_enter Try.func6, Try.ntmps6
      go_wp2_with (first | (go_at_call 9; refine CB.mono ?_; rintro e w1 ⟨A, R, rfl, hj, hlo, hb⟩; (have HL := Lib.hid (Lw.start hj hlo hb)); clear hj hlo hb CB) | (go_at_call 10; refine (CS _).mono ?_; rintro e w' ⟨rfl, hw⟩; subst hw) | (go_at_call 11; refine (known_is _).mono ?_; rintro e w1 ⟨rfl, hb⟩; (have HB := Lib.hid hb); clear hb))
      go_ret
      exact ⟨rfl, HL.out.bel.trans (HB.out.mono HL.out.bel.size)⟩
    · rw [hs] at CS
      have hl3 : (100 : Int) < (l.length : Int) := by
        have : ¬ l.length ≤ 100 := fun hh => h ⟨hs, hh⟩
        omega
      clear hs h
      go_enter Try.func6, Try.ntmps6
      go_wp2_with (first | (go_at_call 9; refine CB.mono ?_; rintro e w1 ⟨A, R, rfl, hj, hlo, hb⟩; (have HL := Lib.hid (Lw.start hj hlo hb)); clear hj hlo hb CB) | (go_at_call 10; refine (CS _).mono ?_; rintro e w' ⟨rfl, hw⟩; subst hw) | (go_at_call 11; refine (known_is _).mono ?_; rintro e w1 ⟨rfl, hb⟩; (have HB := Lib.hid hb); clear hb))
      go_ret
      exact ⟨rfl, HL.out.bel.trans (HB.out.mono HL.out.bel.size)⟩
set_option maxRecDepth 100000 in
set_option maxHeartbeats 8000000 in
theorem moves_walk (gs sl n g s z : Int) (A0 : Option Addr) (cap : Nat) (l : List Ac) (W : World) (hA : ActsAt W W.heap.size A0 l) (hl : l.length ≤ maxLen) :
    Calls Try.prog 6 #[.int .i64 gs, .int .i64 sl, .int .i64 n, .slice A0 l.length cap, .int .i64 g, .int .i64 s, .int .i64 z] W fun e w' => e = .returned (.bool true) ∧ Below W.heap.size W w' := by
  by_cases hsm : smallB gs sl n = true ∧ l.length ≤ 100
  · skip
    obtain ⟨hs, hl2⟩ := hsm
    have hm := small_may hs
    have hn := (mayB_iff _ _ _).1 hm
    obtain ⟨n, rfl⟩ := Int.eq_ofNat_of_zero_le (show 0 ≤ n by have := hn.2.2; omega)
    have CB := begin_yes gs sl n hm W
    have CS := small_is gs sl (n : Int)
    rw [hs] at CS
    have HA := Lib.hid hA
    have hl3 : ¬ (100 : Int) < (l.length : Int) := by omega
    clear hA hm hn hs hl
    go_enter Try.func6, Try.ntmps6
    go_wp2_with (first | (go_at_call 9; refine CB.mono ?_; rintro e w1 ⟨A, R, rfl, hj, hlo, hb⟩; (have HL := Lib.hid (Lw.start hj hlo hb)); clear hj hlo hb CB) | (go_at_call 10; refine (CS _).mono ?_; rintro e w' ⟨rfl, hw⟩; subst hw; clear CS))
    go_loopw [17] (fun i wr => ∃ (j : Nat) (A' : Ad) (R' : Rd) (S' : Sp), i = .int .i64 j ∧ j ≤ l.length ∧ Lw W wr A R (Sp.new gs sl n) j A' R' S') (fun i _ => l.length - (intOf i).toNat)
    case atStart => exact ⟨0, A, R, _, rfl, Nat.zero_le _, HL.out⟩
    case round =>
      obtain ⟨j, A', R', S', rfl, hj, hL⟩ := hrel
      have HLR := Lib.hid hL
      by_cases hlt : j < l.length
      · obtain ⟨ga, o, rfl, hga, hc⟩ := (HA.out.below hL.bel).2 (fun e => by rw [e] at hlt; simp at hlt)
        obtain ⟨c0, c1, c2, c3, c4, c5, c6, c7, c8⟩ := hc j hlt
        have CD := hL.do_ (by omega) _ (HA.out.1 _ (List.getElem_mem hlt))
        generalize l[j] = a at *
        have hj1 : (j : Int) < l.length := by omega
        unfold actC at CD
        clear hc hL
        go_wp2_with (go_at_call 12; refine CD.mono ?_; rintro e w3 ⟨rfl, A3, R3, S3, hL3, -⟩; (have HL3 := Lib.hid hL3); clear hL3 CD)
        go_roundw
        case rel => exact ⟨j + 1, A3, R3, S3, by go_num, by omega, HL3.out⟩
        case measure => simp [intOf]; omega
      · have hj1 : ¬ (j : Int) < (l.length : Int) := by omega
        obtain ⟨ab, af, alb, ami, ama, amc, av⟩ := A'
        have hab : ab = A.b := hL.ab
        subst hab
        have CP := spCopy_is hL.jt.sp
        dsimp only at CP
        have HJ := Lib.hid hL.jt.j
        have HLM := Lib.hid hL.jt.lim
        have HO := Lib.hid (fun k (hk : (⟨A.b, af, alb, ami, ama, amc, av⟩ : Ad).own k) => hL.lo k (.inl hk))
        clear hL
        go_upto_region 9 with (go_at_call 20; refine CP.mono ?_; rintro e w8 ⟨A8, rfl, hs8, ho8, hb8⟩; (have T8 := Lib.hid (Two.start HLR.out.jt.sp HO.out HLR.out.bel hs8 ho8 hb8)); clear hs8 ho8 hb8 CP)
        have C1 := move_c T8.out.s1 HLM.out HJ.out g s z
        have NB := Lib.hid (both_move HJ.out HLM.out g s z)
        dsimp only at C1
        have C4 := Lib.hid (fun W' (A1 A2 : Ad) (hS : SpAt W' A1 S') (hT : SpAt W' A2 S') => (same_is hS hT HLM.out HLM.out HJ.out HJ.out).mono (fun e w'' hh => show e = .returned (.bool true) ∧ Below W'.heap.size W' w'' from by
          obtain ⟨b, rfl, hb, hbl⟩ := hh
          have : b = true := hb.2 (same_refl HJ.out)
          exact ⟨by rw [this], hbl⟩))
        by_cases hf : S'.full g s = 0
        · by_cases hfr : S'.freeE g z = 0
          · have hr : S'.moveR g s z = (0, S'.move g s z) := by unfold Sp.moveR; rw [if_pos hf, if_pos hfr]
            rw [hr] at C1 NB
            have C2 := Lib.hid (fun W' v' (hS : SpAt W' ⟨A.b, af, alb, ami, ama, amc, v'⟩ (S'.move g s z)) => move_c hS NB.out.lim NB.out.j g z s)
            have hback := move_back HJ.out hf hfr
            rw [hback] at C2
            have C3 := Lib.hid (fun W' v' (hS : SpAt W' ⟨A.b, af, alb, ami, ama, amc, v'⟩ (S'.move g s z)) (hT : SpAt W' A8 S') => (same_is hS hT NB.out.lim HLM.out NB.out.j HJ.out).mono (fun e w'' hh => show e = .returned (.bool false) ∧ Below W'.heap.size W' w'' from by
              obtain ⟨b, rfl, hb, hbl⟩ := hh
              have : b = false := by
                cases b with
                | false => rfl
                | true => exact absurd (hb.1 rfl) (move_differs HJ.out hf hfr)
              exact ⟨by rw [this], hbl⟩))
            have C4a := Lib.hid (fun W' v1 (hS : SpAt W' ⟨A.b, af, alb, ami, ama, amc, v1⟩ S') (hT : SpAt W' A8 S') => C4.out W' ⟨A.b, af, alb, ami, ama, amc, v1⟩ A8 hS hT)
            have C4b := Lib.hid (fun W' v1 (hS : SpAt W' ⟨A.b, af, alb, ami, ama, amc, v1⟩ S') (hT : SpAt W' A8 S') => C4.out W' A8 ⟨A.b, af, alb, ami, ama, amc, v1⟩ hT hS)
            dsimp only at C2 C3 C4a C4b
            clear hf hfr hr hback C4
            go_wp2_with (first
              | (go_at_call 25; (fail_if_success have := m1); have m1 := trivial; refine C1.mono ?_; rintro e w9 ⟨rfl, hr⟩; (have hT := T8.out.step1 hr); (obtain ⟨v9, hT⟩ := hT); (have T9 := Lib.hid hT); clear hT hr C1)
              | (go_at_call 22; (fail_if_success have := m2); have m2 := trivial; refine (C3.out _ v9 T9.out.s1 T9.out.s2).mono ?_; rintro e w10 ⟨rfl, hb⟩; (have T10 := Lib.hid (T9.out.more hb)); clear hb)
              | (go_at_call 25; refine (C2.out _ v9 T10.out.s1).mono ?_; rintro e w11 ⟨rfl, hr⟩; (have hT := T10.out.step1 hr); (obtain ⟨v11, hT⟩ := hT); (have T11 := Lib.hid hT); clear hT hr)
              | (go_at_call 22; (fail_if_success have := m3); have m3 := trivial; refine (C4a.out _ v11 T11.out.s1 T11.out.s2).mono ?_; rintro e w12 ⟨rfl, hb⟩; (have T12 := Lib.hid (T11.out.more hb)); clear hb)
              | (go_at_call 22; refine (C4b.out _ v11 T12.out.s1 T12.out.s2).mono ?_; rintro e w13 ⟨rfl, hb⟩; (have T13 := Lib.hid (T12.out.more hb)); clear hb)
              | (go_at_call 11; refine (known_is _).mono ?_; rintro e wk ⟨rfl, hbk⟩; (have HBK := Lib.hid hbk); clear hbk))
            go_ret
            exact ⟨rfl, T13.out.bel.trans (HBK.out.mono T13.out.bel.size)⟩
          · have hr : S'.moveR g s z = (S'.freeE g z, S') := by unfold Sp.moveR; rw [if_pos hf, if_neg hfr]
            have hne : (S'.freeE g z != 0) = true := by simpa using hfr
            rw [hr] at C1
            have C4a := Lib.hid (fun W' v1 (hS : SpAt W' ⟨A.b, af, alb, ami, ama, amc, v1⟩ S') (hT : SpAt W' A8 S') => C4.out W' ⟨A.b, af, alb, ami, ama, amc, v1⟩ A8 hS hT)
            dsimp only at C4a
            obtain ⟨E, hE⟩ : ∃ E, E = S'.freeE g z := ⟨_, rfl⟩
            rw [← hE] at C1 hne
            clear hf hfr hr C4 hE
            go_wp2_with (first
              | (go_at_call 25; refine C1.mono ?_; rintro e w9 ⟨rfl, hr⟩; (have hT := T8.out.step1 hr); (obtain ⟨v9, hT⟩ := hT); (have T9 := Lib.hid hT); clear hT hr C1)
              | (go_at_call 22; refine (C4a.out _ v9 T9.out.s1 T9.out.s2).mono ?_; rintro e w10 ⟨rfl, hb⟩; (have T10 := Lib.hid (T9.out.more hb)); clear hb)
              | (go_at_call 11; refine (known_is _).mono ?_; rintro e wk ⟨rfl, hbk⟩; (have HBK := Lib.hid hbk); clear hbk))
            go_ret
            exact ⟨rfl, T10.out.bel.trans (HBK.out.mono T10.out.bel.size)⟩
        · have hr : S'.moveR g s z = (S'.full g s, S') := by unfold Sp.moveR; rw [if_neg hf]
          have hne : (S'.full g s != 0) = true := by simpa using hf
          rw [hr] at C1
          have C4a := Lib.hid (fun W' v1 (hS : SpAt W' ⟨A.b, af, alb, ami, ama, amc, v1⟩ S') (hT : SpAt W' A8 S') => C4.out W' ⟨A.b, af, alb, ami, ama, amc, v1⟩ A8 hS hT)
          dsimp only at C4a
          obtain ⟨E, hE⟩ : ∃ E, E = S'.full g s := ⟨_, rfl⟩
          rw [← hE] at C1 hne
          clear hf  hr C4 hE
          go_wp2_with (first
            | (go_at_call 25; refine C1.mono ?_; rintro e w9 ⟨rfl, hr⟩; (have hT := T8.out.step1 hr); (obtain ⟨v9, hT⟩ := hT); (have T9 := Lib.hid hT); clear hT hr C1)
            | (go_at_call 22; refine (C4a.out _ v9 T9.out.s1 T9.out.s2).mono ?_; rintro e w10 ⟨rfl, hb⟩; (have T10 := Lib.hid (T9.out.more hb)); clear hb)
            | (go_at_call 11; refine (known_is _).mono ?_; rintro e wk ⟨rfl, hbk⟩; (have HBK := Lib.hid hbk); clear hbk))
          go_ret
          exact ⟨rfl, T10.out.bel.trans (HBK.out.mono T10.out.bel.size)⟩
  · exact moves_early gs sl n g s z A0 cap l W hsm
end Go.Proofs.Ytbknmfegckeogaa
