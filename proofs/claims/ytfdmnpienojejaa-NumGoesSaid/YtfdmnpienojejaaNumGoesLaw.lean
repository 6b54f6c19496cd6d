/- Nth of the reference; the law NumGoes, by walks inside the wide fence. -/
import Derived.Test.YtfdmnpienojejaaNumSets
import Derived.Test.YtfdmnpienojejaaNumNth
import Derived.Deep.AppendLies
namespace Go.Proofs.Ytfdmnpienojejaa
open Go.RowKit Go.Shelf
attribute [local go_sem] Oper.semAt_some
set_option linter.unusedVariables false
set_option linter.unusedSimpArgs false

theorem own_slice1 {w : World} {B n : Nat} {e : TypeId} {v : Value} {xs : List Value} (h : w.ownsRow B e 1 v n xs) : ∃ A cap, v = .slice A n cap ∧ n ≤ cap := by
  rcases h.2 with ⟨rfl, rfl⟩ | ⟨g, cap, cur, hv, _, _, hc, _⟩
  · exact ⟨none, 0, rfl, Nat.le_refl _⟩
  · exact ⟨_, cap, hv, hc⟩

theorem natV_get (l : List Nat) (m : Nat) (h : m < l.length) : (natV l)[m]? = some (.int .i64 ((l.getD m 0 : Nat) : Int)) := by
  simp [natV, List.getD, h]

theorem own_natV {w : World} {B : Nat} {A : Option Addr} {cap : Nat} {l : List Nat} (h : w.ownsRow B 3 1 (.slice A l.length cap) l.length (natV l)) (h0 : 0 < l.length) :
    ∃ g, A = some ⟨g, 0, none⟩ ∧ B ≤ g ∧ g < w.heap.size ∧ ∀ m, m < l.length → w.cell? ⟨g, m, none⟩ = some (.int .i64 ((l.getD m 0 : Nat) : Int)) := by
  obtain ⟨g, cap', hv, hg, hlt⟩ := h.form h0
  have hA : A = some ⟨g, 0, none⟩ := by injection hv
  subst hA
  refine ⟨g, rfl, hg, hlt, fun m hm => ?_⟩
  have q := h.cells (g := g) rfl m _ (natV_get l m hm)
  have hadd : ∀ j, (⟨g, 0, none⟩ : Addr).add j = ⟨g, j, none⟩ := fun j => by unfold Addr.add; split <;> simp_all
  rw [hadd] at q
  exact q

set_option maxRecDepth 100000 in
set_option maxHeartbeats 1000000 in
theorem refNth_yes (s : Nat) (n : Int) (w : World) (hs : s < 256) (c : Nat) (hc : c = (allN s).length) (hpos : 0 < c) (hn1 : -9223372036854775808 ≤ n) (hn2 : n ≤ 9223372036854775807) :
    Calls Try.prog 9 #[.int .u8 s, .int .i64 n] w fun e W' => e = .returned (.tuple #[.int .i64 ((allN s).getD (n % (c : Int)).toNat 0 : Nat), .bool true]) ∧ Below w.heap.size w W' := by
  have hc8 : c ≤ 8 := by rw [hc]; exact allN_len s
  obtain ⟨m, hm, hmc, hmn, t1, t2⟩ := tmod_mid n c hpos
  have CA := refAll_any s w hs
  rw [← hc] at CA
  rw [hmn]
  have hmod : n % (c : Int) = m := by have := Int.emod_nonneg n (show (c : Int) ≠ 0 by omega); omega
  have ht : (n.tmod c < 0 ∧ n.tmod c + c = m) ∨ (0 ≤ n.tmod c ∧ n.tmod c = m) := by
    have e : n.tmod c = if 0 ≤ n then n % c else -((-n) % c) := tmod_eq_if n c
    have h3 := Int.emod_nonneg (-n) (show (c : Int) ≠ 0 by omega)
    have h4 := Int.emod_lt_of_pos (-n) (show (0 : Int) < c by omega)
    by_cases h0 : 0 ≤ n
    · rw [if_pos h0] at e
      right
      omega
    · rw [if_neg h0] at e
      by_cases h5 : (-n) % (c : Int) = 0
      · right
        have h6 : n % (c : Int) = 0 := by
          have := Int.emod_emod_of_dvd
          have h7 : (c : Int) ∣ -n := Int.dvd_of_emod_eq_zero h5
          exact Int.emod_eq_zero_of_dvd ((Int.dvd_neg).1 h7)
        omega
      · left
        have h7 : n % (c : Int) = c - (-n) % c := by
          have h8 : n = (c : Int) - (-n) % c + c * (-((-n) / c) - 1) := by have := Int.emod_add_mul_ediv (-n) c; rw [Int.mul_sub, Int.mul_neg]; omega
          rw [h8, Int.add_mul_emod_self_left]
          rw [← h8]
          exact Int.emod_eq_of_lt (by omega) (by omega)
        omega
  have HA := Lib.hid hc
  have hmi : (m : Int) < c := by omega
  have hcne : ((c : Int) == 0) = false := by simp; omega
  clear hc hm hmn hmod
  go_enter Try.func9, Try.ntmps9
  go_wp2_with fail
  refine CA.mono ?_
  rintro e w1 ⟨⟨v, rfl, ho⟩, hb⟩
  obtain ⟨A, cap, rfl, hcap⟩ := own_slice1 ho
  rw [HA.out] at ho
  obtain ⟨g, rfl, _, _, hcell⟩ := own_natV ho (by rw [← HA.out]; exact hpos)
  have hcm := hcell m (by rw [← HA.out]; exact hmc)
  clear hcell ho
  rcases ht with ⟨ht1, ht2⟩ | ⟨ht1, ht2⟩
  · go_wp2_with fail
    go_ret2
    exact ⟨rfl, hb⟩
  · go_wp2_with fail
    go_ret2
    exact ⟨rfl, hb⟩

set_option maxHeartbeats 1000000 in
theorem refNth_none (s : Nat) (n : Int) (w : World) (hs : s < 256) (hc : 0 = (allN s).length) :
    Calls Try.prog 9 #[.int .u8 s, .int .i64 n] w fun e W' => e = .returned (.tuple #[.int .i64 0, .bool false]) ∧ Below w.heap.size w W' := by
  have CA := refAll_any s w hs
  rw [← hc] at CA
  clear hc
  go_enter Try.func9, Try.ntmps9
  go_wp2_with fail
  refine CA.mono ?_
  rintro e w1 ⟨⟨v, rfl, ho⟩, hb⟩
  obtain ⟨A, cap, rfl, hcap⟩ := own_slice1 ho
  go_wp2_with fail
  go_ret2
  exact ⟨rfl, hb⟩

/-- Both tell the same of a place. -/
theorem nths (s : Nat) (n : Int) (hs : s < 256) (hn1 : -9223372036854775808 ≤ n) (hn2 : n ≤ 9223372036854775807) : ∃ (x : Int) (y : Bool), (∀ w : World, Calls Try.prog 8 #[.int .u8 s, .int .i64 n] w fun e W' => e = .returned (.tuple #[.int .i64 x, .bool y]) ∧ Below w.heap.size w W') ∧
    (∀ w : World, Calls Try.prog 9 #[.int .u8 s, .int .i64 n] w fun e W' => e = .returned (.tuple #[.int .i64 x, .bool y]) ∧ Below w.heap.size w W') := by
  rcases Nat.eq_zero_or_pos (allN s).length with h | h
  · exact ⟨_, _, fun w => nth_none s n w hs h.symm, fun w => refNth_none s n w hs h.symm⟩
  · exact ⟨_, _, fun w => nth_yes s n w hs _ rfl h hn1 hn2, fun w => refNth_yes s n w hs _ rfl h hn1 hn2⟩

theorem func_nil (b : Nat) (w : World) : (binOp .eql 27 (.func (.func 29) #[] #[.pointer (some ⟨b, 0, none⟩)]) .nilFunc).run Try.prog w = .ok (.bool false) w := by kernel_rfl

/-- What stands still while a set is gone over. -/
structure Sta (B0 Bl Bs Bt N : Nat) (dd : Option Nat) (t leave : Int) (A : Option Addr) (c cap s : Nat) (W : World) : Prop where
  lv : W.cell? ⟨B0, 0, none⟩ = some (.int .i64 leave)
  rs : W.cell? ⟨B0 + 1, 0, none⟩ = some (.bool false)
  rf : W.frozen? ⟨B0 + 1, 0, none⟩ = false
  sl : W.cell? ⟨Bl, 0, none⟩ = some (.slice A c cap)
  el : 0 < c → ∃ g, A = some ⟨g, 0, none⟩ ∧ g < N ∧ ∀ m, m < c → W.cell? ⟨g, m, none⟩ = some (.int .i64 (((allN s).getD m 0 : Nat) : Int))
  cp : W.cell? ⟨Bs, 0, none⟩ = some (.int .u8 s)
  tc : W.cell? ⟨Bt, 0, none⟩ = some (.int .i64 t)
  n1 : B0 + 1 < N ∧ Bl < N ∧ Bs < N ∧ Bt < N
  df : ∀ D, dd = some D → D < N ∧ W.heap[D]? = some (.deferred (some []))

section
variable {B0 Bl Bs Bt N : Nat} {dd : Option Nat} {t leave : Int} {A : Option Addr} {c cap s : Nat} {W W' : World}
theorem Sta.own (h : Sta B0 Bl Bs Bt N dd t leave A c cap s W) {row : Option Nat} {B : Nat} (hg : W.grownBy W' row) (hr : ∀ r, row = some r → B ≤ r ∧ ∃ o : Obj, W.heap[r]? = some o ∧ o.isCells = false) (hB : N ≤ B) : Sta B0 Bl Bs Bt N dd t leave A c cap s W' :=
  have hr' := fun r e => (hr r e).2
  ⟨cell_kept h.lv hg hr', cell_kept h.rs hg hr', (frozen_kept h.rs hg hr').trans h.rf, cell_kept h.sl hg hr', fun h0 => (h.el h0).imp fun g hx => ⟨hx.1, hx.2.1, fun m hm => cell_kept (hx.2.2 m hm) hg hr'⟩, cell_kept h.cp hg hr', cell_kept h.tc hg hr', h.n1,
    fun D e => ⟨(h.df D e).1, (hg.block D (Array.getElem?_eq_some_iff.1 (h.df D e).2).1 (fun e' => by have := (hr _ e'.symm).1; have := (h.df D e).1; omega)).trans (h.df D e).2⟩⟩
theorem Sta.below (h : Sta B0 Bl Bs Bt N dd t leave A c cap s W) (hb : Below N W W') : Sta B0 Bl Bs Bt N dd t leave A c cap s W' :=
  have k : ∀ b, b < N → ∀ o, W'.cell? ⟨b, o, none⟩ = W.cell? ⟨b, o, none⟩ := fun b hbn o => hb.cell (p := ⟨b, o, none⟩) hbn
  ⟨(k _ (by have := h.n1; omega) _).trans h.lv, (k _ h.n1.1 _).trans h.rs, (hb.frozen (p := ⟨B0 + 1, 0, none⟩) h.n1.1).trans h.rf, (k _ h.n1.2.1 _).trans h.sl, fun h0 => (h.el h0).imp fun g hx => ⟨hx.1, hx.2.1, fun m hm => (k _ hx.2.1 _).trans (hx.2.2 m hm)⟩, (k _ h.n1.2.2.1 _).trans h.cp, (k _ h.n1.2.2.2 _).trans h.tc, h.n1, fun D e => ⟨(h.df D e).1, (hb.block D (h.df D e).1).trans (h.df D e).2⟩⟩
theorem Sta.mono (h : Sta B0 Bl Bs Bt N dd t leave A c cap s W) {M : Nat} (hM : N ≤ M) : Sta B0 Bl Bs Bt M dd t leave A c cap s W :=
  ⟨h.lv, h.rs, h.rf, h.sl, fun h0 => (h.el h0).imp fun g hx => ⟨hx.1, by have := hx.2.1; omega, hx.2.2⟩, h.cp, h.tc, by have := h.n1; omega, fun D e => ⟨by have := (h.df D e).1; omega, (h.df D e).2⟩⟩
theorem Sta.turn (h : Sta B0 Bl Bs Bt N dd t leave A c cap s W) {Bt' : Nat} {t' : Int} (hc : W.cell? ⟨Bt', 0, none⟩ = some (.int .i64 t')) (hN : Bt' < N) : Sta B0 Bl Bs Bt' N dd t' leave A c cap s W :=
  ⟨h.lv, h.rs, h.rf, h.sl, h.el, h.cp, hc, by have := h.n1; omega, h.df⟩
theorem Sta.mark (h : Sta B0 Bl Bs Bt N none t leave A c cap s W) {D : Nat} (hD : D < N) (hK : W.heap[D]? = some (.deferred (some []))) : Sta B0 Bl Bs Bt N (some D) t leave A c cap s W :=
  ⟨h.lv, h.rs, h.rf, h.sl, h.el, h.cp, h.tc, h.n1, fun D' e => by cases e; exact ⟨hD, hK⟩⟩
end

theorem Sta.next {B0 Bl Bs Bt N : Nat} {t leave : Int} {A : Option Addr} {c cap s : Nat} {W : World} (h : Sta B0 Bl Bs Bt N none t leave A c cap s W) (t' : Int) {D : Nat} (hK : W.heap[D]? = some (.deferred (some []))) (hN : N ≤ W.heap.size) :
    Sta B0 Bl Bs W.heap.size (W.heap.size + 1) (some D) t' leave A c cap s (W.alloc (.cells #[.int .i64 t'] 3)) := by
  have hD : D < W.heap.size := (Array.getElem?_eq_some_iff.1 hK).1
  have h1 := ((h.mono hN).mark hD hK).below ((Below.refl _ W).alloc (Nat.le_refl _) (.cells #[.int .i64 t'] 3))
  exact (h1.mono (Nat.le_succ _)).turn (cell_new_l W (.int .i64 t') 3).1 (Nat.lt_succ_self _)

theorem pre_no_len {a b : List Nat} (h : b.length ≤ a.length) (x : Nat) : ¬ (a ++ [x] <+: b) := fun hp => by have := hp.length_le; simp at this; omega
theorem pre_no_el {a b : List Nat} {x : Nat} (h : ¬ (b.getD a.length 0) = x) : ¬ (a ++ [x] <+: b) := fun hp => by
  have := prefix_getD hp a.length (by simp)
  apply h
  rw [← this]
  simp [List.getD]

set_option maxRecDepth 100000 in
set_option maxHeartbeats 4000000 in
theorem goes_in (s : Nat) (n leave : Int) (w : World) (hs : s < 256) (hn1 : -9223372036854775808 ≤ n) (hn2 : n ≤ 9223372036854775807) :
    CallsIn Fence.wide 6 Try.prog 3 #[.int .u8 s, .int .i64 n, .int .i64 leave] w fun e W' => e = .returned (.bool true) ∧ Below w.heap.size w W' := by
  obtain ⟨x, y, CN, CR⟩ := nths s n hs hn1 hn2
  have CA := fun w => refAll_any s w hs
  obtain ⟨c, hc⟩ : ∃ c, c = (allN s).length := ⟨_, rfl⟩
  have hc8 : c ≤ 8 := by rw [hc]; exact allN_len s
  simp only [← hc] at CA
  have HC := Lib.hid hc
  clear hc
  refine callsIn_of_wp_marks Try.func3 rfl trivial ?_ rfl
  simp only [Try.ntmps3, List.size_toArray, List.length_cons, List.length_nil, Nat.reduceAdd, Nat.reduceSub, Array.replicate_succ, Array.replicate_zero, List.push_toArray, List.append_toArray, List.nil_append, List.cons_append]
  gi_wp2_with fail
  refine ⟨trivial, ?_⟩
  obtain ⟨W1, hW1⟩ : ∃ W1 : World, W1 = (w.alloc (.cells #[.int .i64 leave] 3)).alloc (.cells #[.bool false] 4) := ⟨_, rfl⟩
  have hB1 : Below w.heap.size w W1 := by rw [hW1]; exact ((Below.refl _ w).alloc (Nat.le_refl _) _).alloc (by simp) _
  have hl1 : W1.cell? ⟨w.heap.size, 0, none⟩ = some (.int .i64 leave) := by rw [hW1]; exact cell_alloc_l _ (cell_new_l w (.int .i64 leave) 3).1
  have hr1 : W1.cell? ⟨w.heap.size + 1, 0, none⟩ = some (.bool false) ∧ W1.frozen? ⟨w.heap.size + 1, 0, none⟩ = false := by
    rw [hW1]
    have := cell_new_l (w.alloc (.cells #[.int .i64 leave] 3)) (.bool false) 4
    simpa only [World.size_alloc] using this
  have hz1 : W1.heap.size = w.heap.size + 2 := by rw [hW1]; simp
  rw [← hW1]
  clear hW1
  refine (callsIn_wide.2 (CN W1)).mono ?_
  rintro e W2 ⟨rfl, hb2⟩
  gi_wp2_with fail
  refine ⟨trivial, ?_⟩
  refine (callsIn_wide.2 (CR W2)).mono ?_
  rintro e W3 ⟨rfl, hb3⟩
  gi_wp2_with fail
  refine ⟨trivial, ?_⟩
  refine (callsIn_wide.2 (CA W3)).mono ?_
  rintro e W4 ⟨⟨v4, rfl, ho4⟩, hb4⟩
  obtain ⟨A, cap, rfl, hcap⟩ := own_slice1 ho4
  -- GOES
  gi_wp2_with fail
  refine ⟨trivial, ?_⟩
  refine (callsIn_wide.2 (all_any s _)).mono ?_
  rintro e W5 ⟨rfl, hw5⟩
  obtain ⟨W6, hW6⟩ : ∃ W6 : World, W6 = ((W4.alloc (.cells #[.slice A c cap] 24)).alloc (.cells #[.int .u8 s] 5)).alloc (.cells #[.int .i64 0] 3) := ⟨_, rfl⟩
  have hB14 : Below W1.heap.size W1 W4 := hb2.trans ((hb3.mono hb2.size).trans (hb4.mono (Nat.le_trans hb2.size hb3.size)))
  have hB46 : Below W4.heap.size W4 W6 := by rw [hW6]; exact (((Below.refl _ W4).alloc (Nat.le_refl _) _).alloc (by simp) _).alloc (by simp; omega) _
  have hS : Sta w.heap.size W4.heap.size (W4.heap.size + 1) (W4.heap.size + 2) (W4.heap.size + 3) none 0 leave A c cap s W6 := by
    have q0 := cell_new_l W4 (.slice A c cap) 24
    have q1 := cell_new_l (W4.alloc (.cells #[.slice A c cap] 24)) (.int .u8 s) 5
    have q2 := cell_new_l ((W4.alloc (.cells #[.slice A c cap] 24)).alloc (.cells #[.int .u8 s] 5)) (.int .i64 0) 3
    have hzz : w.heap.size + 1 < W1.heap.size := by omega
    have hB16 := hB14.trans (hB46.mono hB14.size)
    have hz4 := hB14.size
    simp only [World.size_alloc] at q1 q2
    refine ⟨(hB16.cell (p := ⟨w.heap.size, 0, none⟩) (by simp; omega)).trans hl1, (hB16.cell (p := ⟨w.heap.size + 1, 0, none⟩) hzz).trans hr1.1, (hB16.frozen (p := ⟨w.heap.size + 1, 0, none⟩) hzz).trans hr1.2, ?_, fun h0 => ?_, ?_, ?_, by omega, fun D e => by cases e⟩
    · rw [hW6]; exact cell_alloc_l _ (cell_alloc_l _ q0.1)
    · rw [HC.out] at ho4 h0
      obtain ⟨g, hA, _, hg, hcell⟩ := own_natV ho4 h0
      exact ⟨g, hA, by omega, fun m hm => (hB46.cell (p := ⟨g, m, none⟩) hg).trans (hcell m (by rw [← HC.out]; exact hm))⟩
    · rw [hW6]; exact cell_alloc_l _ q1.1
    · rw [hW6]; exact q2.1
  have hBw : Below w.heap.size w W6 := hB1.trans ((hB14.mono hB1.size).trans (hB46.mono (Nat.le_trans hB1.size hB14.size)))
  have hz6 : W6.heap.size = W4.heap.size + 3 := by rw [hW6]; simp
  have hft : W6.frozen? ⟨W4.heap.size + 2, 0, none⟩ = false := by
    rw [hW6]
    have := cell_new_l ((W4.alloc (.cells #[.slice A c cap] 24)).alloc (.cells #[.int .u8 s] 5)) (.int .i64 0) 3
    simpa only [World.size_alloc] using this.2
  have hw5' : W5.alloc (.cells #[.int .i64 0] 3) = W6 := by rw [hw5, hW6]
  have hz5 : W5.heap.size = W4.heap.size + 2 := by rw [hw5]; simp
  have hcv := func_nil (W4.heap.size + 1)
  clear hW6 hB46 hB14 hb2 hb3 hb4 hl1 hr1 hz1 ho4 hB1 CA CN CR hw5
  have HW5 := Lib.hid hw5'
  clear hw5'
  gi_wp2_with fail
  rw [HW5.out]
  obtain ⟨B0, hB0⟩ : ∃ B0, B0 = w.heap.size := ⟨_, rfl⟩
  obtain ⟨Bl, hBl⟩ : ∃ Bl, Bl = W4.heap.size := ⟨_, rfl⟩
  rw [← hBl] at hS hz6 hft hz5 hcv
  rw [← hB0] at hS
  have HB0 := Lib.hid hB0
  have HBl := Lib.hid hBl
  rw [← hB0] at hBw
  have HZ6 := Lib.hid hz6
  clear hz6
  refine wpIn_loop_rounds 3 ?_
  rw [roundsIn_succ]
  have hS0 := hS
  obtain ⟨lv, rs, rf, sl, el, cp, tc, n1, df⟩ := hS0
  simp only [← hBl, ← hB0]
  clear hBl hB0
  gi_wp2_with fail
  clear lv rs rf sl el cp tc n1 df
  obtain ⟨Wk0, hWk0⟩ : ∃ Wk0 : World, Wk0 = W6.alloc (.cells #[.int .i64 0] 3) := ⟨_, rfl⟩
  have hSk : Sta B0 Bl (Bl + 1) (Bl + 2) W6.heap.size none 0 leave A c cap s Wk0 := by
    rw [hWk0]
    exact (hS.mono (by have := HZ6.out; omega)).below ((Below.refl _ W6).alloc (Nat.le_refl _) _)
  obtain ⟨hk0, hkf⟩ : Wk0.cell? ⟨W6.heap.size, 0, none⟩ = some (.int .i64 0) ∧ Wk0.frozen? ⟨W6.heap.size, 0, none⟩ = false := by rw [hWk0]; exact cell_new_l W6 (.int .i64 0) 3
  have hBk : Below B0 w Wk0 := by rw [hWk0]; exact hBw.alloc (by have := hBw.size; have := HB0.out; omega) _
  have hzk : Wk0.heap.size = W6.heap.size + 1 := by rw [hWk0]; simp
  rw [← hWk0]
  obtain ⟨Bk0, hBk0⟩ : ∃ Bk0, Bk0 = W6.heap.size := ⟨_, rfl⟩
  rw [← hBk0] at hSk hk0 hkf hzk ⊢
  have HBk0 := Lib.hid hBk0
  have HWk0 := Lib.hid hWk0
  clear hBk0 hWk0
  refine wpIn_rangeFunc_ownF rfl (by omega) (gf := 29) (lb := #[.pointer (some ⟨Bl + 1, 0, none⟩)]) rfl trivial (enters_of Try.func29 (by kernel_rfl) rfl)
    (all_stops (6 - 1) (by omega) (Bl + 1) s hs Wk0 (by have := hSk.n1; omega) hSk.cp) (sameCell_t _) (sameCell_b (by have := hSk.n1; omega)) (Below.refl _ _) (fun _ => rfl)
    (fun pre W => (Sta B0 Bl (Bl + 1) (Bl + 2) Bk0 none 0 leave A c cap s W ∧ W.cell? ⟨Bk0, 0, none⟩ = some (.int .i64 (pre.length : Int)) ∧ W.frozen? ⟨Bk0, 0, none⟩ = false) ∧ Below B0 w W)
    (fun code pre W => ((code = .ret ∧ ¬ pre <+: allN s) ∨ (code = .exit 2 ∧ (pre.length : Int) = leave ∧ Sta B0 Bl (Bl + 1) (Bl + 2) Bk0 none 0 leave A c cap s W ∧ W.cell? ⟨Bk0, 0, none⟩ = some (.int .i64 (pre.length : Int)) ∧ W.frozen? ⟨Bk0, 0, none⟩ = false)) ∧ Below B0 w W)
    (OwnFrom.and (fun pre A' B row hs' hg hr => ⟨hs'.1.own hg hr (by omega), cell_kept hs'.2.1 hg (fun r e => (hr r e).2), (frozen_kept hs'.2.1 hg (fun r e => (hr r e).2)).trans hs'.2.2⟩) (ownFrom_below (by rw [HB0.out]; exact Nat.le_refl _) (by have := hSk.n1; omega)))
    (fun code => OwnFrom.and (fun pre A' B row hs' hg hr => hs'.imp id (fun hs' => ⟨hs'.1, hs'.2.1, hs'.2.2.1.own hg hr (by omega), cell_kept hs'.2.2.2.1 hg (fun r e => (hr r e).2), (frozen_kept hs'.2.2.2.1 hg (fun r e => (hr r e).2)).trans hs'.2.2.2.2⟩)) (ownFrom_below (by rw [HB0.out]; exact Nat.le_refl _) (by have := hSk.n1; omega)))
    ⟨⟨hSk, by simpa using hk0, hkf⟩, hBk⟩
    ?frame0 ?assign0 ?body0 ?done0 ?stop0
  case assign0 =>
    intro l x W K hK
    gi_wp2
    exact hK
  case body0 =>
    rintro l pre x' W ⟨⟨hs', hk, hkf'⟩, hB⟩ _
    have hn1 := hs'.n1
    have hBle : B0 ≤ Bk0 := by omega
    obtain ⟨lv, rs, rf, sl, el, cp, tc, n1, df⟩ := hs'
    have hs' := Lib.hid (show Sta B0 Bl (Bl + 1) (Bl + 2) Bk0 none 0 leave A c cap s W from ⟨lv, rs, rf, sl, el, cp, tc, n1, df⟩)
    have hlen : (((pre ++ [x']).length : Nat) : Int) = (pre.length : Int) + 1 := by simp
    have HLEN := Lib.hid hlen
    have hne : Bk0 ≠ Bl + 1 := by omega
    have e1 : ¬ Bk0 = Bl + 2 := by omega
    have e2 : ¬ Bl + 2 = Bk0 := by omega
    have e3 : ¬ Bk0 = B0 := by omega
    have e4 : ¬ B0 = Bk0 := by omega
    clear hlen df n1 hn1
    by_cases hc : pre.length < c
    · obtain ⟨g, rfl, hgN, hcell⟩ := el (by omega)
      have hm := hcell pre.length hc
      have hci : (pre.length : Int) < c := by omega
      have hci0 : (0 : Int) ≤ (pre.length : Int) := by omega
      obtain ⟨z, hz⟩ : ∃ z, z = (allN s).getD pre.length 0 := ⟨_, rfl⟩
      rw [← hz] at hm
      have HZZ := Lib.hid hz
      clear hz
      by_cases hx : z = x'
      · subst hx
        clear hcell el
        by_cases hl : (pre.length : Int) + 1 = leave
        · gi_wp2
          refine ⟨KeepsOthers.setCell _ _ _, .inr ⟨rfl, by simp; omega, hs'.out.below ((Below.refl _ W).setCell (p := ⟨Bk0, 0, none⟩) (Nat.le_refl _) _), ?_, by rw [World.frozen?_setCell]; exact hkf'⟩, hB.setCell (p := ⟨Bk0, 0, none⟩) hBle _⟩
          rw [HLEN.out, hl]
          exact World.cell?_setCell_same _ _ _ hk
        · gi_wp2
          refine ⟨KeepsOthers.setCell _ _ _, set_other W _ _ (by omega) _, ⟨hs'.out.below ((Below.refl _ W).setCell (p := ⟨Bk0, 0, none⟩) (Nat.le_refl _) _), ?_, by rw [World.frozen?_setCell]; exact hkf'⟩, hB.setCell (p := ⟨Bk0, 0, none⟩) hBle _⟩
          rw [HLEN.out]
          exact World.cell?_setCell_same _ _ _ hk
      · have hno := Lib.hid (pre_no_el (a := pre) (b := allN s) (x := x') (by rw [← HZZ.out]; exact hx))
        have hxi : ((x' : Int) != (z : Int)) = true := by simp only [bne_iff_ne, ne_eq]; omega
        clear hcell el hx
        gi_wp2
        exact ⟨KeepsOthers.setCell _ _ _, .inl ⟨rfl, hno.out⟩, hB.setCell (p := ⟨B0 + 1, 0, none⟩) (by simp) _⟩
    · have hno := Lib.hid (pre_no_len (a := pre) (b := allN s) (by rw [← HC.out]; omega) x')
      have hci : ¬ (pre.length : Int) < c := by omega
      clear el
      gi_wp2
      exact ⟨KeepsOthers.setCell _ _ _, .inl ⟨rfl, hno.out⟩, hB.setCell (p := ⟨B0 + 1, 0, none⟩) (by simp) _⟩
  case done0 =>
    rintro D ys W hD rfl ⟨⟨hs', hk, hkf'⟩, hB⟩ hK
    rw [← HC.out] at hk
    have hzW : Bk0 < W.heap.size := World.block_lt_of_cell? _ _ hk
    have hs0 := hs'
    obtain ⟨lv, rs, rf, sl, el, cp, tc, n1, df⟩ := hs0
    clear el df
    have HK := Lib.hid hK
    clear hK
    gi_wp2_with fail
    obtain ⟨W7, hW7⟩ : ∃ W7 : World, W7 = W.alloc (.cells #[.int .i64 1] 3) := ⟨_, rfl⟩
    obtain ⟨Bt, hBt⟩ : ∃ Bt, Bt = W.heap.size := ⟨_, rfl⟩
    have hS7 := hs'.next 1 HK.out (by omega)
    have hcn := cell_new_l W (.int .i64 1) 3
    have hBw7 := hB.alloc (by have := hB.size; have := HB0.out; omega) (.cells #[.int .i64 1] 3)
    have hZ7 : W7.heap.size = Bt + 1 := by rw [hW7, hBt]; simp
    have hDle : w.heap.size ≤ D := by have := hSk.n1; have := HB0.out; omega
    have hDW : D < Bt := by rw [hBt]; exact (Array.getElem?_eq_some_iff.1 HK.out).1
    rw [← hW7, ← hBt] at hS7 hcn
    rw [← hW7] at hBw7
    rw [← hW7]
    simp only [← hBt]
    clear hW7 hBt hs' hk hkf' hB lv rs rf sl cp tc n1 hS hSk hBw hk0 hkf hft HK hzW hzk
    have hS := hS7.mono (show Bt + 1 ≤ W7.heap.size by omega)
    obtain ⟨hct, hft⟩ := hcn
    have hBw := hBw7
    have HZ7 := Lib.hid hZ7
    clear hS7 hBw7 hZ7
    have hS0 := hS
    obtain ⟨lv, rs, rf, sl, el, cp, tc, n1, df⟩ := hS0
    clear el df
    rw [roundsIn_succ]
    gi_wp2_with fail
    clear lv rs rf sl cp tc n1 hct
    obtain ⟨Wk1, hWk1⟩ : ∃ Wk1 : World, Wk1 = W7.alloc (.cells #[.int .i64 0] 3) := ⟨_, rfl⟩
    have hSk : Sta B0 Bl (Bl + 1) Bt W7.heap.size (some D) 1 leave A c cap s Wk1 := by
      rw [hWk1]
      exact hS.below ((Below.refl _ W7).alloc (Nat.le_refl _) _)
    obtain ⟨hk0, hkf⟩ : Wk1.cell? ⟨W7.heap.size, 0, none⟩ = some (.int .i64 0) ∧ Wk1.frozen? ⟨W7.heap.size, 0, none⟩ = false := by rw [hWk1]; exact cell_new_l W7 (.int .i64 0) 3
    have hBk : Below B0 w Wk1 := by rw [hWk1]; exact hBw.alloc (by have := hBw.size; have := HB0.out; omega) _
    have hzk : Wk1.heap.size = W7.heap.size + 1 := by rw [hWk1]; simp
    rw [← hWk1]
    obtain ⟨Bk1, hBk1⟩ : ∃ Bk1, Bk1 = W7.heap.size := ⟨_, rfl⟩
    rw [← hBk1] at hSk hk0 hkf hzk ⊢
    have HBk1 := Lib.hid hBk1
    have HWk1 := Lib.hid hWk1
    clear hBk1 hWk1
    refine wpIn_rangeFunc_ownF rfl (by omega) (gf := 29) (lb := #[.pointer (some ⟨Bl + 1, 0, none⟩)]) rfl trivial (enters_of Try.func29 (by kernel_rfl) rfl)
      (all_stops (6 - 1) (by omega) (Bl + 1) s hs Wk1 (by have := hSk.n1; omega) hSk.cp) (sameCell_t _) (sameCell_b (by have := hSk.n1; omega)) (Below.refl _ _) (fun _ => rfl)
      (fun pre W => (Sta B0 Bl (Bl + 1) Bt Bk1 (some D) 1 leave A c cap s W ∧ W.cell? ⟨Bk1, 0, none⟩ = some (.int .i64 (pre.length : Int)) ∧ W.frozen? ⟨Bk1, 0, none⟩ = false) ∧ Below B0 w W)
      (fun code pre W => ((code = .ret ∧ ¬ pre <+: allN s) ∨ (code = .exit 2 ∧ False ∧ Sta B0 Bl (Bl + 1) Bt Bk1 (some D) 1 leave A c cap s W ∧ W.cell? ⟨Bk1, 0, none⟩ = some (.int .i64 (pre.length : Int)) ∧ W.frozen? ⟨Bk1, 0, none⟩ = false)) ∧ Below B0 w W)
      (OwnFrom.and (fun pre A' B row hs' hg hr => ⟨hs'.1.own hg hr (by omega), cell_kept hs'.2.1 hg (fun r e => (hr r e).2), (frozen_kept hs'.2.1 hg (fun r e => (hr r e).2)).trans hs'.2.2⟩) (ownFrom_below (by rw [HB0.out]; exact Nat.le_refl _) (by have := hSk.n1; omega)))
      (fun code => OwnFrom.and (fun pre A' B row hs' hg hr => hs'.imp id (fun hs' => ⟨hs'.1, hs'.2.1, hs'.2.2.1.own hg hr (by omega), cell_kept hs'.2.2.2.1 hg (fun r e => (hr r e).2), (frozen_kept hs'.2.2.2.1 hg (fun r e => (hr r e).2)).trans hs'.2.2.2.2⟩)) (ownFrom_below (by rw [HB0.out]; exact Nat.le_refl _) (by have := hSk.n1; omega)))
      ⟨⟨hSk, by simpa using hk0, hkf⟩, hBk⟩
      ?frame1 ?assign1 ?body1 ?done1 ?stop1
    case assign1 =>
      intro l x W K hK
      gi_wp2
      exact hK
    case body1 =>
      rintro l pre x' W ⟨⟨hs', hk, hkf'⟩, hB⟩ _
      have hn1 := hs'.n1
      have hBle : B0 ≤ Bk1 := by omega
      obtain ⟨lv, rs, rf, sl, el, cp, tc, n1, df⟩ := hs'
      have hs' := Lib.hid (show Sta B0 Bl (Bl + 1) Bt Bk1 (some D) 1 leave A c cap s W from ⟨lv, rs, rf, sl, el, cp, tc, n1, df⟩)
      have hlen : (((pre ++ [x']).length : Nat) : Int) = (pre.length : Int) + 1 := by simp
      have HLEN := Lib.hid hlen
      have hne : Bk1 ≠ Bl + 1 := by omega
      have e1 : ¬ Bk1 = Bt := by omega
      have e2 : ¬ Bt = Bk1 := by omega
      have e3 : ¬ Bk1 = B0 := by omega
      have e4 : ¬ B0 = Bk1 := by omega
      clear hlen df n1 hn1
      by_cases hc : pre.length < c
      · obtain ⟨g, rfl, hgN, hcell⟩ := el (by omega)
        have hm := hcell pre.length hc
        have hci : (pre.length : Int) < c := by omega
        have hci0 : (0 : Int) ≤ (pre.length : Int) := by omega
        obtain ⟨z, hz⟩ : ∃ z, z = (allN s).getD pre.length 0 := ⟨_, rfl⟩
        rw [← hz] at hm
        have HZZ := Lib.hid hz
        clear hz
        by_cases hx : z = x'
        · subst hx
          clear hcell el
          gi_wp2
          refine ⟨KeepsOthers.setCell _ _ _, set_other W _ _ (by omega) _, ⟨hs'.out.below ((Below.refl _ W).setCell (p := ⟨Bk1, 0, none⟩) (Nat.le_refl _) _), ?_, by rw [World.frozen?_setCell]; exact hkf'⟩, hB.setCell (p := ⟨Bk1, 0, none⟩) hBle _⟩
          rw [HLEN.out]
          exact World.cell?_setCell_same _ _ _ hk
        · have hno := Lib.hid (pre_no_el (a := pre) (b := allN s) (x := x') (by rw [← HZZ.out]; exact hx))
          have hxi : ((x' : Int) != (z : Int)) = true := by simp only [bne_iff_ne, ne_eq]; omega
          clear hcell el hx
          gi_wp2
          first | exact ⟨KeepsOthers.setCell _ _ _, .inl ⟨rfl, hno.out⟩, hB.setCell (p := ⟨B0 + 1, 0, none⟩) (by simp) _⟩ | exact ⟨KeepsOthers.setCell _ _ _, ⟨rfl, hno.out⟩, hB.setCell (p := ⟨B0 + 1, 0, none⟩) (by simp) _⟩
      · have hno := Lib.hid (pre_no_len (a := pre) (b := allN s) (by rw [← HC.out]; omega) x')
        have hci : ¬ (pre.length : Int) < c := by omega
        clear el
        gi_wp2
        first | exact ⟨KeepsOthers.setCell _ _ _, .inl ⟨rfl, hno.out⟩, hB.setCell (p := ⟨B0 + 1, 0, none⟩) (by simp) _⟩ | exact ⟨KeepsOthers.setCell _ _ _, ⟨rfl, hno.out⟩, hB.setCell (p := ⟨B0 + 1, 0, none⟩) (by simp) _⟩
    case done1 =>
      rintro D2 ys W hD2 rfl ⟨⟨hs', hk, hkf'⟩, hB⟩ hK2
      rw [← HC.out] at hk
      have hzW : Bk1 < W.heap.size := World.block_lt_of_cell? _ _ hk
      have hs0 := hs'
      obtain ⟨lv, rs, rf, sl, el, cp, tc, n1, df⟩ := hs0
      obtain ⟨hDN, hKD⟩ := df D rfl
      have HK2 := Lib.hid hK2
      have HKD := Lib.hid hKD
      clear el df hK2 hKD
      gi_wp2_with fail
      obtain ⟨W8, hW8⟩ : ∃ W8 : World, W8 = W.alloc (.cells #[.int .i64 2] 3) := ⟨_, rfl⟩
      have hb8 : Below W.heap.size W W8 := by rw [hW8]; exact (Below.refl _ W).alloc (Nat.le_refl _) _
      have hc8 : W8.cell? ⟨W.heap.size, 0, none⟩ = some (.int .i64 2) := by rw [hW8]; exact (cell_new_l W (.int .i64 2) 3).1
      rw [← hW8]
      clear hW8
      rw [roundsIn_succ]
      gi_wp2_with fail
      refine ⟨trivial, ?_⟩
      refine (callsIn_wide.2 (known_any W8)).mono ?_
      rintro e W9 ⟨rfl, hb9⟩
      have hb89 : Below W.heap.size W W9 := hb8.trans (hb9.mono hb8.size)
      have rs9 := (hb89.cell (p := ⟨B0 + 1, 0, none⟩) (by have := n1.1; simp; omega)).trans rs
      have rf9 := (hb89.frozen (p := ⟨B0 + 1, 0, none⟩) (by have := n1.1; simp; omega)).trans rf
      gi_wp2_with fail
      have hD2l : D2 < W.heap.size := (Array.getElem?_eq_some_iff.1 HK2.out).1
      have hDl : D < W.heap.size := (Array.getElem?_eq_some_iff.1 HKD.out).1
      have hne : D ≠ D2 := by omega
      have k1 : (W9.setCell ⟨B0 + 1, 0, none⟩ (.bool true)).heap[D2]? = some (.deferred (some [])) := by
        rw [Below.heap_setCell _ _ _ _ (by simp; omega)]
        exact (hb89.block D2 hD2l).trans HK2.out
      have k2 : (W9.setCell ⟨B0 + 1, 0, none⟩ (.bool true)).heap[D]? = some (.deferred (some [])) := by
        refine (Below.heap_setCell _ _ _ _ ?_).trans ((hb89.block D hDl).trans HKD.out)
        intro e
        have q := HKD.out
        simp only at e
        rw [e] at q
        have q2 := rs
        simp only [World.cell?, q] at q2
        cases q2
      have k3 : ((W9.setCell ⟨B0 + 1, 0, none⟩ (.bool true)).putObj D2 (.deferred none)).heap[D]? = some (.deferred (some [])) := (World.putObj_heap_other hne).trans k2
      have c1 : (W9.setCell ⟨B0 + 1, 0, none⟩ (.bool true)).cell? ⟨B0 + 1, 0, none⟩ = some (.bool true) := World.cell?_setCell_same _ _ _ rs9
      have c2 := cell_kept c1 (grownBy_putObj' _ D2 (.deferred none)) (fun r e => by cases e; exact ⟨_, k1, rfl⟩)
      have c3 := cell_kept c2 (grownBy_putObj' _ D (.deferred none)) (fun r e => by cases e; exact ⟨_, k3, rfl⟩)
      refine ⟨by simp, .inl ⟨_, _, rfl, run_takeDeferred k1, ?_⟩⟩
      refine ⟨by simp, .inl ⟨_, _, rfl, run_takeDeferred k3, ?_⟩⟩
      have hB9 : Below B0 w (W9.setCell ⟨B0 + 1, 0, none⟩ (.bool true)) := (hB.trans (hb89.mono (by have := hB.size; have := HB0.out; omega))).setCell (p := ⟨B0 + 1, 0, none⟩) (by simp) _
      have h0w : B0 ≤ w.heap.size := by rw [HB0.out]; exact Nat.le_refl _
      have hB10 := hB9.trans (belowK_b (w := w) h0w _ D2 _ (.deferred none) (by have := hSk.n1; omega) k1 rfl rfl)
      have hB11 := hB10.trans (belowK_b (w := w) h0w _ D _ (.deferred none) hDle k3 rfl rfl)
      refine ⟨.bool true, ?_, rfl, hB11.mono (by rw [HB0.out]; exact Nat.le_refl _)⟩
      simp [results, Try.f3, go_sem, c3]
    case stop1 =>
      rintro D2 c' pre W hD2 hpre ⟨hx, hB⟩ hK2
      rcases hx with ⟨_, hno⟩ | ⟨_, hf, _⟩
      · exact absurd hpre hno
      · exact hf.elim
  case stop0 =>
    rintro D c' pre W hD hpre ⟨hx, hB⟩ hK
    rcases hx with ⟨_, hno⟩ | ⟨rfl, hlv, hs', hk, hkf'⟩
    · exact absurd hpre hno
    · have hzW : Bk0 < W.heap.size := World.block_lt_of_cell? _ _ hk
      have hs0 := hs'
      obtain ⟨lv, rs, rf, sl, el, cp, tc, n1, df⟩ := hs0
      clear el df
      have HK := Lib.hid hK
      clear hK
      by_cases hkc : pre.length = c
      · rw [hkc] at hk
        clear hkc
        gi_wp2_with fail
        obtain ⟨W7, hW7⟩ : ∃ W7 : World, W7 = W.alloc (.cells #[.int .i64 1] 3) := ⟨_, rfl⟩
        obtain ⟨Bt, hBt⟩ : ∃ Bt, Bt = W.heap.size := ⟨_, rfl⟩
        have hS7 := hs'.next 1 HK.out (by omega)
        have hcn := cell_new_l W (.int .i64 1) 3
        have hBw7 := hB.alloc (by have := hB.size; have := HB0.out; omega) (.cells #[.int .i64 1] 3)
        have hZ7 : W7.heap.size = Bt + 1 := by rw [hW7, hBt]; simp
        have hDle : w.heap.size ≤ D := by have := hSk.n1; have := HB0.out; omega
        have hDW : D < Bt := by rw [hBt]; exact (Array.getElem?_eq_some_iff.1 HK.out).1
        rw [← hW7, ← hBt] at hS7 hcn
        rw [← hW7] at hBw7
        rw [← hW7]
        simp only [← hBt]
        clear hW7 hBt hs' hk hkf' hB lv rs rf sl cp tc n1 hS hSk hBw hk0 hkf hft HK hzW hzk
        have hS := hS7.mono (show Bt + 1 ≤ W7.heap.size by omega)
        obtain ⟨hct, hft⟩ := hcn
        have hBw := hBw7
        have HZ7 := Lib.hid hZ7
        clear hS7 hBw7 hZ7
        have hS0 := hS
        obtain ⟨lv, rs, rf, sl, el, cp, tc, n1, df⟩ := hS0
        clear el df
        rw [roundsIn_succ]
        gi_wp2_with fail
        clear lv rs rf sl cp tc n1 hct
        obtain ⟨Wk1, hWk1⟩ : ∃ Wk1 : World, Wk1 = W7.alloc (.cells #[.int .i64 0] 3) := ⟨_, rfl⟩
        have hSk : Sta B0 Bl (Bl + 1) Bt W7.heap.size (some D) 1 leave A c cap s Wk1 := by
          rw [hWk1]
          exact hS.below ((Below.refl _ W7).alloc (Nat.le_refl _) _)
        obtain ⟨hk0, hkf⟩ : Wk1.cell? ⟨W7.heap.size, 0, none⟩ = some (.int .i64 0) ∧ Wk1.frozen? ⟨W7.heap.size, 0, none⟩ = false := by rw [hWk1]; exact cell_new_l W7 (.int .i64 0) 3
        have hBk : Below B0 w Wk1 := by rw [hWk1]; exact hBw.alloc (by have := hBw.size; have := HB0.out; omega) _
        have hzk : Wk1.heap.size = W7.heap.size + 1 := by rw [hWk1]; simp
        rw [← hWk1]
        obtain ⟨Bk1, hBk1⟩ : ∃ Bk1, Bk1 = W7.heap.size := ⟨_, rfl⟩
        rw [← hBk1] at hSk hk0 hkf hzk ⊢
        have HBk1 := Lib.hid hBk1
        have HWk1 := Lib.hid hWk1
        clear hBk1 hWk1
        refine wpIn_rangeFunc_ownF rfl (by omega) (gf := 29) (lb := #[.pointer (some ⟨Bl + 1, 0, none⟩)]) rfl trivial (enters_of Try.func29 (by kernel_rfl) rfl)
          (all_stops (6 - 1) (by omega) (Bl + 1) s hs Wk1 (by have := hSk.n1; omega) hSk.cp) (sameCell_t _) (sameCell_b (by have := hSk.n1; omega)) (Below.refl _ _) (fun _ => rfl)
          (fun pre W => (Sta B0 Bl (Bl + 1) Bt Bk1 (some D) 1 leave A c cap s W ∧ W.cell? ⟨Bk1, 0, none⟩ = some (.int .i64 (pre.length : Int)) ∧ W.frozen? ⟨Bk1, 0, none⟩ = false) ∧ Below B0 w W)
          (fun code pre W => ((code = .ret ∧ ¬ pre <+: allN s) ∨ (code = .exit 2 ∧ False ∧ Sta B0 Bl (Bl + 1) Bt Bk1 (some D) 1 leave A c cap s W ∧ W.cell? ⟨Bk1, 0, none⟩ = some (.int .i64 (pre.length : Int)) ∧ W.frozen? ⟨Bk1, 0, none⟩ = false)) ∧ Below B0 w W)
          (OwnFrom.and (fun pre A' B row hs' hg hr => ⟨hs'.1.own hg hr (by omega), cell_kept hs'.2.1 hg (fun r e => (hr r e).2), (frozen_kept hs'.2.1 hg (fun r e => (hr r e).2)).trans hs'.2.2⟩) (ownFrom_below (by rw [HB0.out]; exact Nat.le_refl _) (by have := hSk.n1; omega)))
          (fun code => OwnFrom.and (fun pre A' B row hs' hg hr => hs'.imp id (fun hs' => ⟨hs'.1, hs'.2.1, hs'.2.2.1.own hg hr (by omega), cell_kept hs'.2.2.2.1 hg (fun r e => (hr r e).2), (frozen_kept hs'.2.2.2.1 hg (fun r e => (hr r e).2)).trans hs'.2.2.2.2⟩)) (ownFrom_below (by rw [HB0.out]; exact Nat.le_refl _) (by have := hSk.n1; omega)))
          ⟨⟨hSk, by simpa using hk0, hkf⟩, hBk⟩
          ?frame2 ?assign2 ?body2 ?done2 ?stop2
        case assign2 =>
          intro l x W K hK
          gi_wp2
          exact hK
        case body2 =>
          rintro l pre x' W ⟨⟨hs', hk, hkf'⟩, hB⟩ _
          have hn1 := hs'.n1
          have hBle : B0 ≤ Bk1 := by omega
          obtain ⟨lv, rs, rf, sl, el, cp, tc, n1, df⟩ := hs'
          have hs' := Lib.hid (show Sta B0 Bl (Bl + 1) Bt Bk1 (some D) 1 leave A c cap s W from ⟨lv, rs, rf, sl, el, cp, tc, n1, df⟩)
          have hlen : (((pre ++ [x']).length : Nat) : Int) = (pre.length : Int) + 1 := by simp
          have HLEN := Lib.hid hlen
          have hne : Bk1 ≠ Bl + 1 := by omega
          have e1 : ¬ Bk1 = Bt := by omega
          have e2 : ¬ Bt = Bk1 := by omega
          have e3 : ¬ Bk1 = B0 := by omega
          have e4 : ¬ B0 = Bk1 := by omega
          clear hlen df n1 hn1
          by_cases hc : pre.length < c
          · obtain ⟨g, rfl, hgN, hcell⟩ := el (by omega)
            have hm := hcell pre.length hc
            have hci : (pre.length : Int) < c := by omega
            have hci0 : (0 : Int) ≤ (pre.length : Int) := by omega
            obtain ⟨z, hz⟩ : ∃ z, z = (allN s).getD pre.length 0 := ⟨_, rfl⟩
            rw [← hz] at hm
            have HZZ := Lib.hid hz
            clear hz
            by_cases hx : z = x'
            · subst hx
              clear hcell el
              gi_wp2
              refine ⟨KeepsOthers.setCell _ _ _, set_other W _ _ (by omega) _, ⟨hs'.out.below ((Below.refl _ W).setCell (p := ⟨Bk1, 0, none⟩) (Nat.le_refl _) _), ?_, by rw [World.frozen?_setCell]; exact hkf'⟩, hB.setCell (p := ⟨Bk1, 0, none⟩) hBle _⟩
              rw [HLEN.out]
              exact World.cell?_setCell_same _ _ _ hk
            · have hno := Lib.hid (pre_no_el (a := pre) (b := allN s) (x := x') (by rw [← HZZ.out]; exact hx))
              have hxi : ((x' : Int) != (z : Int)) = true := by simp only [bne_iff_ne, ne_eq]; omega
              clear hcell el hx
              gi_wp2
              first | exact ⟨KeepsOthers.setCell _ _ _, .inl ⟨rfl, hno.out⟩, hB.setCell (p := ⟨B0 + 1, 0, none⟩) (by simp) _⟩ | exact ⟨KeepsOthers.setCell _ _ _, ⟨rfl, hno.out⟩, hB.setCell (p := ⟨B0 + 1, 0, none⟩) (by simp) _⟩
          · have hno := Lib.hid (pre_no_len (a := pre) (b := allN s) (by rw [← HC.out]; omega) x')
            have hci : ¬ (pre.length : Int) < c := by omega
            clear el
            gi_wp2
            first | exact ⟨KeepsOthers.setCell _ _ _, .inl ⟨rfl, hno.out⟩, hB.setCell (p := ⟨B0 + 1, 0, none⟩) (by simp) _⟩ | exact ⟨KeepsOthers.setCell _ _ _, ⟨rfl, hno.out⟩, hB.setCell (p := ⟨B0 + 1, 0, none⟩) (by simp) _⟩
        case done2 =>
          rintro D2 ys W hD2 rfl ⟨⟨hs', hk, hkf'⟩, hB⟩ hK2
          rw [← HC.out] at hk
          have hzW : Bk1 < W.heap.size := World.block_lt_of_cell? _ _ hk
          have hs0 := hs'
          obtain ⟨lv, rs, rf, sl, el, cp, tc, n1, df⟩ := hs0
          obtain ⟨hDN, hKD⟩ := df D rfl
          have HK2 := Lib.hid hK2
          have HKD := Lib.hid hKD
          clear el df hK2 hKD
          gi_wp2_with fail
          obtain ⟨W8, hW8⟩ : ∃ W8 : World, W8 = W.alloc (.cells #[.int .i64 2] 3) := ⟨_, rfl⟩
          have hb8 : Below W.heap.size W W8 := by rw [hW8]; exact (Below.refl _ W).alloc (Nat.le_refl _) _
          have hc8 : W8.cell? ⟨W.heap.size, 0, none⟩ = some (.int .i64 2) := by rw [hW8]; exact (cell_new_l W (.int .i64 2) 3).1
          rw [← hW8]
          clear hW8
          rw [roundsIn_succ]
          gi_wp2_with fail
          refine ⟨trivial, ?_⟩
          refine (callsIn_wide.2 (known_any W8)).mono ?_
          rintro e W9 ⟨rfl, hb9⟩
          have hb89 : Below W.heap.size W W9 := hb8.trans (hb9.mono hb8.size)
          have rs9 := (hb89.cell (p := ⟨B0 + 1, 0, none⟩) (by have := n1.1; simp; omega)).trans rs
          have rf9 := (hb89.frozen (p := ⟨B0 + 1, 0, none⟩) (by have := n1.1; simp; omega)).trans rf
          gi_wp2_with fail
          have hD2l : D2 < W.heap.size := (Array.getElem?_eq_some_iff.1 HK2.out).1
          have hDl : D < W.heap.size := (Array.getElem?_eq_some_iff.1 HKD.out).1
          have hne : D ≠ D2 := by omega
          have k1 : (W9.setCell ⟨B0 + 1, 0, none⟩ (.bool true)).heap[D2]? = some (.deferred (some [])) := by
            rw [Below.heap_setCell _ _ _ _ (by simp; omega)]
            exact (hb89.block D2 hD2l).trans HK2.out
          have k2 : (W9.setCell ⟨B0 + 1, 0, none⟩ (.bool true)).heap[D]? = some (.deferred (some [])) := by
            refine (Below.heap_setCell _ _ _ _ ?_).trans ((hb89.block D hDl).trans HKD.out)
            intro e
            have q := HKD.out
            simp only at e
            rw [e] at q
            have q2 := rs
            simp only [World.cell?, q] at q2
            cases q2
          have k3 : ((W9.setCell ⟨B0 + 1, 0, none⟩ (.bool true)).putObj D2 (.deferred none)).heap[D]? = some (.deferred (some [])) := (World.putObj_heap_other hne).trans k2
          have c1 : (W9.setCell ⟨B0 + 1, 0, none⟩ (.bool true)).cell? ⟨B0 + 1, 0, none⟩ = some (.bool true) := World.cell?_setCell_same _ _ _ rs9
          have c2 := cell_kept c1 (grownBy_putObj' _ D2 (.deferred none)) (fun r e => by cases e; exact ⟨_, k1, rfl⟩)
          have c3 := cell_kept c2 (grownBy_putObj' _ D (.deferred none)) (fun r e => by cases e; exact ⟨_, k3, rfl⟩)
          refine ⟨by simp, .inl ⟨_, _, rfl, run_takeDeferred k1, ?_⟩⟩
          refine ⟨by simp, .inl ⟨_, _, rfl, run_takeDeferred k3, ?_⟩⟩
          have hB9 : Below B0 w (W9.setCell ⟨B0 + 1, 0, none⟩ (.bool true)) := (hB.trans (hb89.mono (by have := hB.size; have := HB0.out; omega))).setCell (p := ⟨B0 + 1, 0, none⟩) (by simp) _
          have h0w : B0 ≤ w.heap.size := by rw [HB0.out]; exact Nat.le_refl _
          have hB10 := hB9.trans (belowK_b (w := w) h0w _ D2 _ (.deferred none) (by have := hSk.n1; omega) k1 rfl rfl)
          have hB11 := hB10.trans (belowK_b (w := w) h0w _ D _ (.deferred none) hDle k3 rfl rfl)
          refine ⟨.bool true, ?_, rfl, hB11.mono (by rw [HB0.out]; exact Nat.le_refl _)⟩
          simp [results, Try.f3, go_sem, c3]
        case stop2 =>
          rintro D2 c' pre W hD2 hpre ⟨hx, hB⟩ hK2
          rcases hx with ⟨_, hno⟩ | ⟨_, hf, _⟩
          · exact absurd hpre hno
          · exact hf.elim
      · have hkc' : ((pre.length : Int) != (c : Int)) = true := by simp only [bne_iff_ne, ne_eq]; omega
        rw [hlv] at hk hkc'
        clear hkc
        gi_wp2_with fail
        obtain ⟨W7, hW7⟩ : ∃ W7 : World, W7 = W.alloc (.cells #[.int .i64 1] 3) := ⟨_, rfl⟩
        obtain ⟨Bt, hBt⟩ : ∃ Bt, Bt = W.heap.size := ⟨_, rfl⟩
        have hS7 := hs'.next 1 HK.out (by omega)
        have hcn := cell_new_l W (.int .i64 1) 3
        have hBw7 := hB.alloc (by have := hB.size; have := HB0.out; omega) (.cells #[.int .i64 1] 3)
        have hZ7 : W7.heap.size = Bt + 1 := by rw [hW7, hBt]; simp
        have hDle : w.heap.size ≤ D := by have := hSk.n1; have := HB0.out; omega
        have hDW : D < Bt := by rw [hBt]; exact (Array.getElem?_eq_some_iff.1 HK.out).1
        rw [← hW7, ← hBt] at hS7 hcn
        rw [← hW7] at hBw7
        rw [← hW7]
        simp only [← hBt]
        clear hW7 hBt hs' hk hkf' hB lv rs rf sl cp tc n1 hS hSk hBw hk0 hkf hft HK hzW hzk
        have hS := hS7.mono (show Bt + 1 ≤ W7.heap.size by omega)
        obtain ⟨hct, hft⟩ := hcn
        have hBw := hBw7
        have HZ7 := Lib.hid hZ7
        clear hS7 hBw7 hZ7
        have hS0 := hS
        obtain ⟨lv, rs, rf, sl, el, cp, tc, n1, df⟩ := hS0
        clear el df
        rw [roundsIn_succ]
        gi_wp2_with fail
        clear lv rs rf sl cp tc n1 hct
        obtain ⟨Wk1, hWk1⟩ : ∃ Wk1 : World, Wk1 = W7.alloc (.cells #[.int .i64 0] 3) := ⟨_, rfl⟩
        have hSk : Sta B0 Bl (Bl + 1) Bt W7.heap.size (some D) 1 leave A c cap s Wk1 := by
          rw [hWk1]
          exact hS.below ((Below.refl _ W7).alloc (Nat.le_refl _) _)
        obtain ⟨hk0, hkf⟩ : Wk1.cell? ⟨W7.heap.size, 0, none⟩ = some (.int .i64 0) ∧ Wk1.frozen? ⟨W7.heap.size, 0, none⟩ = false := by rw [hWk1]; exact cell_new_l W7 (.int .i64 0) 3
        have hBk : Below B0 w Wk1 := by rw [hWk1]; exact hBw.alloc (by have := hBw.size; have := HB0.out; omega) _
        have hzk : Wk1.heap.size = W7.heap.size + 1 := by rw [hWk1]; simp
        rw [← hWk1]
        obtain ⟨Bk1, hBk1⟩ : ∃ Bk1, Bk1 = W7.heap.size := ⟨_, rfl⟩
        rw [← hBk1] at hSk hk0 hkf hzk ⊢
        have HBk1 := Lib.hid hBk1
        have HWk1 := Lib.hid hWk1
        clear hBk1 hWk1
        refine wpIn_rangeFunc_ownF rfl (by omega) (gf := 29) (lb := #[.pointer (some ⟨Bl + 1, 0, none⟩)]) rfl trivial (enters_of Try.func29 (by kernel_rfl) rfl)
          (all_stops (6 - 1) (by omega) (Bl + 1) s hs Wk1 (by have := hSk.n1; omega) hSk.cp) (sameCell_t _) (sameCell_b (by have := hSk.n1; omega)) (Below.refl _ _) (fun _ => rfl)
          (fun pre W => (Sta B0 Bl (Bl + 1) Bt Bk1 (some D) 1 leave A c cap s W ∧ W.cell? ⟨Bk1, 0, none⟩ = some (.int .i64 (pre.length : Int)) ∧ W.frozen? ⟨Bk1, 0, none⟩ = false) ∧ Below B0 w W)
          (fun code pre W => ((code = .ret ∧ ¬ pre <+: allN s) ∨ (code = .exit 2 ∧ False ∧ Sta B0 Bl (Bl + 1) Bt Bk1 (some D) 1 leave A c cap s W ∧ W.cell? ⟨Bk1, 0, none⟩ = some (.int .i64 (pre.length : Int)) ∧ W.frozen? ⟨Bk1, 0, none⟩ = false)) ∧ Below B0 w W)
          (OwnFrom.and (fun pre A' B row hs' hg hr => ⟨hs'.1.own hg hr (by omega), cell_kept hs'.2.1 hg (fun r e => (hr r e).2), (frozen_kept hs'.2.1 hg (fun r e => (hr r e).2)).trans hs'.2.2⟩) (ownFrom_below (by rw [HB0.out]; exact Nat.le_refl _) (by have := hSk.n1; omega)))
          (fun code => OwnFrom.and (fun pre A' B row hs' hg hr => hs'.imp id (fun hs' => ⟨hs'.1, hs'.2.1, hs'.2.2.1.own hg hr (by omega), cell_kept hs'.2.2.2.1 hg (fun r e => (hr r e).2), (frozen_kept hs'.2.2.2.1 hg (fun r e => (hr r e).2)).trans hs'.2.2.2.2⟩)) (ownFrom_below (by rw [HB0.out]; exact Nat.le_refl _) (by have := hSk.n1; omega)))
          ⟨⟨hSk, by simpa using hk0, hkf⟩, hBk⟩
          ?frame3 ?assign3 ?body3 ?done3 ?stop3
        case assign3 =>
          intro l x W K hK
          gi_wp2
          exact hK
        case body3 =>
          rintro l pre x' W ⟨⟨hs', hk, hkf'⟩, hB⟩ _
          have hn1 := hs'.n1
          have hBle : B0 ≤ Bk1 := by omega
          obtain ⟨lv, rs, rf, sl, el, cp, tc, n1, df⟩ := hs'
          have hs' := Lib.hid (show Sta B0 Bl (Bl + 1) Bt Bk1 (some D) 1 leave A c cap s W from ⟨lv, rs, rf, sl, el, cp, tc, n1, df⟩)
          have hlen : (((pre ++ [x']).length : Nat) : Int) = (pre.length : Int) + 1 := by simp
          have HLEN := Lib.hid hlen
          have hne : Bk1 ≠ Bl + 1 := by omega
          have e1 : ¬ Bk1 = Bt := by omega
          have e2 : ¬ Bt = Bk1 := by omega
          have e3 : ¬ Bk1 = B0 := by omega
          have e4 : ¬ B0 = Bk1 := by omega
          clear hlen df n1 hn1
          by_cases hc : pre.length < c
          · obtain ⟨g, rfl, hgN, hcell⟩ := el (by omega)
            have hm := hcell pre.length hc
            have hci : (pre.length : Int) < c := by omega
            have hci0 : (0 : Int) ≤ (pre.length : Int) := by omega
            obtain ⟨z, hz⟩ : ∃ z, z = (allN s).getD pre.length 0 := ⟨_, rfl⟩
            rw [← hz] at hm
            have HZZ := Lib.hid hz
            clear hz
            by_cases hx : z = x'
            · subst hx
              clear hcell el
              gi_wp2
              refine ⟨KeepsOthers.setCell _ _ _, set_other W _ _ (by omega) _, ⟨hs'.out.below ((Below.refl _ W).setCell (p := ⟨Bk1, 0, none⟩) (Nat.le_refl _) _), ?_, by rw [World.frozen?_setCell]; exact hkf'⟩, hB.setCell (p := ⟨Bk1, 0, none⟩) hBle _⟩
              rw [HLEN.out]
              exact World.cell?_setCell_same _ _ _ hk
            · have hno := Lib.hid (pre_no_el (a := pre) (b := allN s) (x := x') (by rw [← HZZ.out]; exact hx))
              have hxi : ((x' : Int) != (z : Int)) = true := by simp only [bne_iff_ne, ne_eq]; omega
              clear hcell el hx
              gi_wp2
              first | exact ⟨KeepsOthers.setCell _ _ _, .inl ⟨rfl, hno.out⟩, hB.setCell (p := ⟨B0 + 1, 0, none⟩) (by simp) _⟩ | exact ⟨KeepsOthers.setCell _ _ _, ⟨rfl, hno.out⟩, hB.setCell (p := ⟨B0 + 1, 0, none⟩) (by simp) _⟩
          · have hno := Lib.hid (pre_no_len (a := pre) (b := allN s) (by rw [← HC.out]; omega) x')
            have hci : ¬ (pre.length : Int) < c := by omega
            clear el
            gi_wp2
            first | exact ⟨KeepsOthers.setCell _ _ _, .inl ⟨rfl, hno.out⟩, hB.setCell (p := ⟨B0 + 1, 0, none⟩) (by simp) _⟩ | exact ⟨KeepsOthers.setCell _ _ _, ⟨rfl, hno.out⟩, hB.setCell (p := ⟨B0 + 1, 0, none⟩) (by simp) _⟩
        case done3 =>
          rintro D2 ys W hD2 rfl ⟨⟨hs', hk, hkf'⟩, hB⟩ hK2
          rw [← HC.out] at hk
          have hzW : Bk1 < W.heap.size := World.block_lt_of_cell? _ _ hk
          have hs0 := hs'
          obtain ⟨lv, rs, rf, sl, el, cp, tc, n1, df⟩ := hs0
          obtain ⟨hDN, hKD⟩ := df D rfl
          have HK2 := Lib.hid hK2
          have HKD := Lib.hid hKD
          clear el df hK2 hKD
          gi_wp2_with fail
          obtain ⟨W8, hW8⟩ : ∃ W8 : World, W8 = W.alloc (.cells #[.int .i64 2] 3) := ⟨_, rfl⟩
          have hb8 : Below W.heap.size W W8 := by rw [hW8]; exact (Below.refl _ W).alloc (Nat.le_refl _) _
          have hc8 : W8.cell? ⟨W.heap.size, 0, none⟩ = some (.int .i64 2) := by rw [hW8]; exact (cell_new_l W (.int .i64 2) 3).1
          rw [← hW8]
          clear hW8
          rw [roundsIn_succ]
          gi_wp2_with fail
          refine ⟨trivial, ?_⟩
          refine (callsIn_wide.2 (known_any W8)).mono ?_
          rintro e W9 ⟨rfl, hb9⟩
          have hb89 : Below W.heap.size W W9 := hb8.trans (hb9.mono hb8.size)
          have rs9 := (hb89.cell (p := ⟨B0 + 1, 0, none⟩) (by have := n1.1; simp; omega)).trans rs
          have rf9 := (hb89.frozen (p := ⟨B0 + 1, 0, none⟩) (by have := n1.1; simp; omega)).trans rf
          gi_wp2_with fail
          have hD2l : D2 < W.heap.size := (Array.getElem?_eq_some_iff.1 HK2.out).1
          have hDl : D < W.heap.size := (Array.getElem?_eq_some_iff.1 HKD.out).1
          have hne : D ≠ D2 := by omega
          have k1 : (W9.setCell ⟨B0 + 1, 0, none⟩ (.bool true)).heap[D2]? = some (.deferred (some [])) := by
            rw [Below.heap_setCell _ _ _ _ (by simp; omega)]
            exact (hb89.block D2 hD2l).trans HK2.out
          have k2 : (W9.setCell ⟨B0 + 1, 0, none⟩ (.bool true)).heap[D]? = some (.deferred (some [])) := by
            refine (Below.heap_setCell _ _ _ _ ?_).trans ((hb89.block D hDl).trans HKD.out)
            intro e
            have q := HKD.out
            simp only at e
            rw [e] at q
            have q2 := rs
            simp only [World.cell?, q] at q2
            cases q2
          have k3 : ((W9.setCell ⟨B0 + 1, 0, none⟩ (.bool true)).putObj D2 (.deferred none)).heap[D]? = some (.deferred (some [])) := (World.putObj_heap_other hne).trans k2
          have c1 : (W9.setCell ⟨B0 + 1, 0, none⟩ (.bool true)).cell? ⟨B0 + 1, 0, none⟩ = some (.bool true) := World.cell?_setCell_same _ _ _ rs9
          have c2 := cell_kept c1 (grownBy_putObj' _ D2 (.deferred none)) (fun r e => by cases e; exact ⟨_, k1, rfl⟩)
          have c3 := cell_kept c2 (grownBy_putObj' _ D (.deferred none)) (fun r e => by cases e; exact ⟨_, k3, rfl⟩)
          refine ⟨by simp, .inl ⟨_, _, rfl, run_takeDeferred k1, ?_⟩⟩
          refine ⟨by simp, .inl ⟨_, _, rfl, run_takeDeferred k3, ?_⟩⟩
          have hB9 : Below B0 w (W9.setCell ⟨B0 + 1, 0, none⟩ (.bool true)) := (hB.trans (hb89.mono (by have := hB.size; have := HB0.out; omega))).setCell (p := ⟨B0 + 1, 0, none⟩) (by simp) _
          have h0w : B0 ≤ w.heap.size := by rw [HB0.out]; exact Nat.le_refl _
          have hB10 := hB9.trans (belowK_b (w := w) h0w _ D2 _ (.deferred none) (by have := hSk.n1; omega) k1 rfl rfl)
          have hB11 := hB10.trans (belowK_b (w := w) h0w _ D _ (.deferred none) hDle k3 rfl rfl)
          refine ⟨.bool true, ?_, rfl, hB11.mono (by rw [HB0.out]; exact Nat.le_refl _)⟩
          simp [results, Try.f3, go_sem, c3]
        case stop3 =>
          rintro D2 c' pre W hD2 hpre ⟨hx, hB⟩ hK2
          rcases hx with ⟨_, hno⟩ | ⟨_, hf, _⟩
          · exact absurd hpre hno
          · exact hf.elim

theorem numGoes_walk (s : Nat) (n leave : Int) (hs : s < 256) (hn1 : -9223372036854775808 ≤ n) (hn2 : n ≤ 9223372036854775807) (_ : -9223372036854775808 ≤ leave) (_ : leave ≤ 9223372036854775807) (w : World) :
    Calls Try.prog 3 #[.int .u8 s, .int .i64 n, .int .i64 leave] w fun e W' => e = .returned (.bool true) ∧ Below w.heap.size w W' :=
  callsIn_wide.1 (goes_in s n leave w hs hn1 hn2)
end Go.Proofs.Ytfdmnpienojejaa
