/- Ints and Copy of the reference, by walks. Condition: rows of at most 100000 numbers; 1 to 4096 places. -/
import Derived.Test.YtoihldagpnkfoaaTreeRefNew
namespace Go.Proofs.Ytoihldagpnkfoaa
open Go.RowKit
set_option linter.unusedVariables false
set_option linter.unusedSimpArgs false

theorem take_all_eq {X Y : List Int} (h : X.length = Y.length) (ht : X.take X.length = Y.take X.length) : X = Y := by
  rw [List.take_length, h, List.take_length] at ht
  exact ht

set_option maxRecDepth 100000 in
set_option maxHeartbeats 1000000 in
theorem ints_is (A A' : Option Addr) (c c' B B' : Nat) (X Y : List Int) (w : World) (hA : Ints w B A X) (hB : Ints w B' A' Y) (hX : X.length ≤ 100000) (hY : Y.length ≤ 100000) :
    Calls Try.prog 26 #[.slice A X.length c, .slice A' Y.length c'] w fun e w' => e = .returned (.bool (decide (X = Y))) ∧ ∃ n, w' = w.drewN n := by
  obtain ⟨res, hres⟩ : ∃ res, res = decide (X = Y) := ⟨_, rfl⟩
  rw [← hres]
  have HRES := Lib.hid hres
  clear hres
  by_cases hl : X.length = Y.length
  · have hbl : ((X.length : Int) != (Y.length : Int)) = false := by rw [hl]; simp
    have HL := Lib.hid hl
    clear hl
    go_enter Try.func26, Try.ntmps26
    go_wp2
    go_loopw [5] (fun i wr => ∃ k : Nat, k ≤ X.length ∧ i = .int .i64 k ∧ X.take k = Y.take k ∧ ∃ n, wr = w.drewN n) (fun i _ => X.length - (intOf i).toNat)
    case atStart => exact ⟨0, Nat.zero_le _, rfl, by simp, 0, rfl⟩
    case round =>
      obtain ⟨k, hk, rfl, htk, n, rfl⟩ := hrel
      have HT := Lib.hid htk
      clear htk
      by_cases hlt : k < X.length
      · have hly : k < Y.length := by rw [← HL.out]; exact hlt
        obtain ⟨a, rfl, -, ha⟩ := hA.at_ hlt
        obtain ⟨b, rfl, -, hb⟩ := hB.at_ hly
        clear hA hB
        obtain ⟨x, hx⟩ : ∃ x, x = X[k] := ⟨_, rfl⟩
        obtain ⟨y, hy⟩ : ∃ y, y = Y[k] := ⟨_, rfl⟩
        rw [← hx] at ha
        rw [← hy] at hb
        have hk1 : (k : Int) < X.length := by omega
        have hk2 : (k : Int) < Y.length := by omega
        have hk0 : (0 : Int) ≤ (k : Int) := by omega
        have HX := Lib.hid (And.intro hx hy)
        clear hx hy
        by_cases hxy : x = y
        · have hb0 : (x != y) = false := by simpa using hxy
          have HXY := Lib.hid hxy
          clear hxy
          go_wp2_with fail
          go_quiet (fail)
          go_wp2
          go_roundw
          case rel =>
            refine ⟨k + 1, by omega, by go_num, ?_, n + nq, by simp [World.drewN, Nat.add_assoc]⟩
            rw [List.take_succ_eq_append_getElem hlt, List.take_succ_eq_append_getElem hly, HT.out, ← HX.out.1, ← HX.out.2, HXY.out]
          case measure => simp [intOf]; omega
        · have hb0 : (x != y) = true := by simpa using hxy
          have hr : res = false := by
            rw [HRES.out, decide_eq_false_iff_not]
            intro e
            apply hxy
            rw [HX.out.1, HX.out.2]
            subst e
            rfl
          clear hxy
          subst hr
          go_wp2_with fail
          go_quiet (fail)
          go_wp2
          go_ret
          exact ⟨rfl, n + nq, by simp [World.drewN, Nat.add_assoc]⟩
      · have hkl : k = X.length := by omega
        have hr : res = true := by
          rw [HRES.out, decide_eq_true_iff]
          exact take_all_eq HL.out (by rw [← hkl]; exact HT.out)
        subst hr
        subst hkl
        clear hA hB
        go_wp2
        go_ret
        exact ⟨rfl, n, rfl⟩
  · have hbl : ((X.length : Int) != (Y.length : Int)) = true := by simp; omega
    have hr : res = false := by
      rw [HRES.out, decide_eq_false_iff_not]
      intro e
      exact hl (by rw [e])
    subst hr
    clear hA hB hl
    go_enter Try.func26, Try.ntmps26
    go_wp2
    go_ret
    exact ⟨rfl, 0, rfl⟩

theorem reads_q {w : World} {g qb n lc : Nat} {Q : Qw} (h : QF w g qb n lc Q) : Reads w w.heap.size 4 (some ⟨qb, 0, none⟩) n (qvs Q.M n) := by
  refine ⟨qvs_len Q.M n, fun _ => ⟨_, rfl, h.lt, fun j u hu => ?_⟩⟩
  have hadd : (⟨qb, 0, none⟩ : Addr).add j = ⟨qb, j, none⟩ := by unfold Addr.add; split <;> simp_all
  rw [hadd]
  have hj : j < n * 4 := by
    rcases Nat.lt_or_ge j (n * 4) with h1 | h1
    · exact h1
    · rw [List.getElem?_eq_none (by rw [qvs_len]; exact h1)] at hu; cases hu
  have hi : j / 4 < n := by omega
  have e : j = j / 4 * 4 + j % 4 := by omega
  have hq := qvs_at Q.M n (j / 4) (j % 4) hi (Nat.mod_lt _ (by omega))
  rw [← e, hu] at hq
  obtain ⟨c0, c1, c2, c3⟩ := h.at_ (j / 4) hi
  rw [e]
  have hm : j % 4 = 0 ∨ j % 4 = 1 ∨ j % 4 = 2 ∨ j % 4 = 3 := by omega
  rcases hm with hm | hm | hm | hm <;> rw [hm] at hq ⊢ <;> simp only [Qd.vs, List.getElem?_cons_zero, List.getElem?_cons_succ, Option.some.injEq] at hq <;> subst hq <;> assumption

set_option maxRecDepth 100000 in
set_option maxHeartbeats 1000000 in
theorem refCopy_is {w : World} {g qb : Nat} {Q : Qw} {F : Fo} {T : Nat} (h : Ref w g qb Q F T) :
    Calls Try.prog 29 #[.pointer (some ⟨g, 0, none⟩)] w fun e w' => ∃ g' qb', e = .returned (.pointer (some ⟨g', 0, none⟩)) ∧ Ref w' g' qb' Q F T ∧ w.heap.size ≤ g' ∧ w.heap.size ≤ qb' ∧ Below w.heap.size w w' := by
  obtain ⟨lc, hq⟩ := h.qf
  obtain ⟨j0, hj0, hy0, hy1, hy2⟩ := info_parts infoQ
  have hn1 := hq.n1
  have hn2 := hq.n2
  obtain ⟨c0, c1, c2, -⟩ := hq.cells
  have HRD := Lib.hid (reads_q hq)
  have hone := Lib.hid (qvs_one Q.M F.n)
  have m1 := Lib.hid (show 0 + F.n ≤ maxLen from by unfold maxLen; omega)
  have m2 := Lib.hid (show (0 + F.n) * 48 ≤ 140737488355328 from by omega)
  have HQ := Lib.hid hq
  have HH := Lib.hid h
  have hglt := hq.head.lt
  unfold Rw.v at c1
  clear hq h
  obtain ⟨rA, hrA⟩ : ∃ z, z = Q.rt.A := ⟨_, rfl⟩
  obtain ⟨rc, hrc⟩ : ∃ z, z = Q.rt.c := ⟨_, rfl⟩
  obtain ⟨rn, hrn⟩ : ∃ z, z = Q.rt.K.length := ⟨_, rfl⟩
  obtain ⟨t, ht⟩ : ∃ z, z = Q.T := ⟨_, rfl⟩
  rw [← hrA, ← hrc, ← hrn] at c1
  rw [← ht] at c2
  have HE := Lib.hid (And.intro hrA (And.intro hrc (And.intro hrn ht)))
  clear hrA hrc hrn ht
  go_enter Try.func29, Try.ntmps29
  go_wp2_with fail
  go_region_held3 (fun w' => w'.cell? ⟨g, 0, none⟩ = some (.slice (some ⟨qb, 0, none⟩) F.n lc) ∧ w'.cell? ⟨g, 1, none⟩ = some (.slice rA rn rc) ∧ w'.cell? ⟨g, 2, none⟩ = some (.int .i64 t)) (go_keep) (first | (refine step_append_any _ rfl (.const (.slice none 0 0)) (.tmp 6) 64 rfl w.heap.size 68 j0 _ 4 48 Try.underlying64 hj0 hy0 hy1 hy2 rfl (by decide) (.slice none 0 0) 0 [] rfl (World.ownsRow_nil _ _ _ _) w.heap.size (some ⟨qb, 0, none⟩) F.n lc (qvs Q.M F.n) (by kernel_rfl) HRD.out.drew hone.out m1.out m2.out (Nat.le_refl _) ?_; intro v1 w1 hown1 hg1 hat1; (have hb1 : Below w.heap.size w w1 := ((Below.refl _ w).drew).grown hg1 (Nat.le_refl _) (fun k e => by cases e)); (have hx0 := (hb1.cell (p := ⟨g, 0, none⟩) hglt).trans c0); (have hx1 := (hb1.cell (p := ⟨g, 1, none⟩) hglt).trans c1); (have hx2 := (hb1.cell (p := ⟨g, 2, none⟩) hglt).trans c2); (rw [Nat.zero_add, List.nil_append] at hown1); (obtain ⟨A1, k1, rfl⟩ := own_slice hown1); (have HO := Lib.hid (And.intro hown1 hb1)); clear hown1 hat1 hb1 hg1))
  all_goals
    go_wp2
    go_ret
    obtain ⟨hown, hb⟩ := HO.out
    obtain ⟨qb', rfl⟩ := own_form hown (by omega)
    obtain ⟨hq1, hq2⟩ := places_own hown
    have hl := hown.lt qb' rfl
    obtain ⟨e1, e2, e3, e4⟩ := HE.out
    have hv : (Value.slice rA rn rc) = Q.rt.v := by unfold Rw.v; rw [e1, e2, e3]
    rw [hv, e4]
    have hb2 : Below w1.heap.size w1 (w1.alloc (.cells #[.slice (some ⟨qb', 0, none⟩) F.n k1, Q.rt.v, .int .i64 Q.T] 66)) := (Below.refl _ w1).alloc (Nat.le_refl _) _
    have hb3 : Below w.heap.size w (w1.alloc (.cells #[.slice (some ⟨qb', 0, none⟩) F.n k1, Q.rt.v, .int .i64 Q.T] 66)) := hb.trans (hb2.mono hb.size)
    have hq := HQ.out
    have hsz := hb.size
    refine ⟨w1.heap.size, qb', rfl, ⟨⟨k1, Blk.new w1 _ _, fun i hi => (hq1 i hi).block (hb2.block _ hl.2), fun o => (World.frozen?_of_block (w := w1) (a := ⟨qb', o, none⟩) (hb2.block _ hl.2)).trans (hq2 o), by omega, Nat.lt_of_lt_of_le hl.2 hb2.size, hn1, hn2, hq.rt.below hb3, fun i hi => (hq.rows i hi).below hb3, fun k hk => ?_⟩, HH.out.rep, HH.out.t0, HH.out.t1⟩, hsz, hl.1, hb3⟩
    have := hq.foot_lt (k := k) (.inr hk)
    omega
end Go.Proofs.Ytoihldagpnkfoaa
