/- Count and Nth of the program, by walks: how many are in a set, and who is at a place. Condition: a set is from 0 to 255. -/
import Derived.Test.YtfdmnpienojejaaNumMul
import Derived.RangeFuncFrom
import Derived.RangeFuncBox
import Derived.Lib.BitFns
namespace Go.Proofs.Ytfdmnpienojejaa
open Go.RowKit Go.Shelf
attribute [local go_sem] Oper.semAt_some
set_option linter.unusedVariables false

theorem pop_tab (s : Nat) (hs : s < 256) (h : s < Lib.pop8tab.size) : wrap64 ((Lib.pop8tab[s]'h).toNat : Int) = ((allN s).length : Nat) := by
  have e : ∀ s : Fin 256, ∀ h : s.val < Lib.pop8tab.size, wrap64 ((Lib.pop8tab[s.val]'h).toNat : Int) = ((allN s.val).length : Nat) := by decide +kernel
  exact e ⟨s, hs⟩ h

set_option maxRecDepth 100000 in
set_option maxHeartbeats 400000 in
theorem ones_any (s : Nat) (w : World) (hs : s < 256) : Calls Try.prog 31 #[.int .u8 s] w fun e w' => e = .returned (.int .i64 ((allN s).length : Nat)) ∧ w = w' := by
  generalize hr : (allN s).length = r
  have HR := Lib.hid hr
  clear hr
  go_enter Try.func31, Try.ntmps31
  go_wp2
  go_ret
  refine ⟨ret_int ?_, rfl⟩
  rw [← HR.out]
  exact pop_tab s hs _

set_option maxHeartbeats 400000 in
theorem count_any (s : Nat) (w : World) (hs : s < 256) : Calls Try.prog 18 #[.int .u8 s] w fun e w' => e = .returned (.int .i64 ((allN s).length : Nat)) ∧ w = w' := by
  go_enter Try.func18, Try.ntmps18
  go_wp2_with (go_at_call 31; refine (ones_any s _ hs).mono ?_; rintro e w' ⟨rfl, rfl⟩)
  go_ret
  exact ⟨rfl, rfl⟩

theorem cell_of_box_l {W : World} {B : Nat} {v : Value} {t : TypeId} (h : W.heap[B]? = some (.cells #[v] t (0, 0))) : W.cell? ⟨B, 0, none⟩ = some v ∧ W.frozen? ⟨B, 0, none⟩ = false := by
  constructor <;> simp [World.cell?, World.frozen?, h]
theorem cell_new_l (W : World) (v : Value) (t : TypeId) : (W.alloc (.cells #[v] t)).cell? ⟨W.heap.size, 0, none⟩ = some v ∧ (W.alloc (.cells #[v] t)).frozen? ⟨W.heap.size, 0, none⟩ = false :=
  cell_of_box_l (World.alloc_heap_new W _)
theorem cell_alloc_l {W : World} {a : Addr} {v : Value} (o : Obj) (h : W.cell? a = some v) : (W.alloc o).cell? a = some v := cell_kept h (World.grownBy_alloc W o none) (fun r e => by cases e)
theorem frozen_alloc_l {W : World} {a : Addr} {v : Value} (o : Obj) (h : W.cell? a = some v) (hf : W.frozen? a = false) : (W.alloc o).frozen? a = false := (frozen_kept h (World.grownBy_alloc W o none) (fun r e => by cases e)).trans hf

theorem two_sets (W : World) (b1 b2 : Nat) (hne : b1 ≠ b2) (v1 v2 u1 u2 : Value) (h1 : W.cell? ⟨b1, 0, none⟩ = some u1) (h2 : W.cell? ⟨b2, 0, none⟩ = some u2) :
    ((W.setCell ⟨b1, 0, none⟩ v1).setCell ⟨b2, 0, none⟩ v2).cell? ⟨b1, 0, none⟩ = some v1 ∧ ((W.setCell ⟨b1, 0, none⟩ v1).setCell ⟨b2, 0, none⟩ v2).cell? ⟨b2, 0, none⟩ = some v2 := by
  have hn : (⟨b2, 0, none⟩ : Addr) ≠ ⟨b1, 0, none⟩ := by intro e; exact hne (by injection e with e1; exact e1.symm)
  have hn' : (⟨b1, 0, none⟩ : Addr) ≠ ⟨b2, 0, none⟩ := fun e => hn e.symm
  constructor
  · rw [World.cell?_setCell_other _ _ _ _ hn]
    exact World.cell?_setCell_same _ _ _ h1
  · exact World.cell?_setCell_same _ _ _ ((World.cell?_setCell_other _ _ _ _ hn').trans h2)
theorem set_other (W : World) (b1 b2 : Nat) (hne : b1 ≠ b2) (v1 : Value) : (W.setCell ⟨b1, 0, none⟩ v1).cell? ⟨b2, 0, none⟩ = W.cell? ⟨b2, 0, none⟩ :=
  World.cell?_setCell_other _ _ _ _ (by intro e; exact hne (by injection e))
theorem prefix_getD {a b : List Nat} (h : a <+: b) (m : Nat) (hm : m < a.length) : a.getD m 0 = b.getD m 0 := by
  obtain ⟨t, rfl⟩ := h
  simp [List.getD, List.getElem?_append_left hm]

theorem tmod_mid (n : Int) (c : Nat) (hc : 0 < c) : ∃ m : Nat, n.tmod c % (c : Int) = (m : Int) ∧ m < c ∧ (n % (c : Int)).toNat = m ∧ -(c : Int) < n.tmod c ∧ n.tmod c < c := by
  have e : n.tmod c = if 0 ≤ n then n % c else -((-n) % c) := tmod_eq_if n c
  have h1 := Int.emod_nonneg n (show (c : Int) ≠ 0 by omega)
  have h2 := Int.emod_lt_of_pos n (show (0 : Int) < c by omega)
  have h3 := Int.emod_nonneg (-n) (show (c : Int) ≠ 0 by omega)
  have h4 := Int.emod_lt_of_pos (-n) (show (0 : Int) < c by omega)
  have hb : -(c : Int) < n.tmod c ∧ n.tmod c < c := by rw [e]; split <;> omega
  have e3 : n.tmod c % (c : Int) = n % c := by rw [Int.tmod_def, Int.sub_mul_emod_self_left]
  refine ⟨(n % (c : Int)).toNat, ?_, by omega, rfl, hb⟩
  rw [e3]
  omega

set_option maxRecDepth 100000 in
set_option maxHeartbeats 2000000 in
theorem nth_in (s : Nat) (n : Int) (w : World) (hs : s < 256) (c : Nat) (hc : c = (allN s).length) (hpos : 0 < c) (hn1 : -9223372036854775808 ≤ n) (hn2 : n ≤ 9223372036854775807) :
    CallsIn Fence.wide 6 Try.prog 8 #[.int .u8 s, .int .i64 n] w fun e W' => e = .returned (.tuple #[.int .i64 ((allN s).getD (n % (c : Int)).toNat 0 : Nat), .bool true]) ∧ Below w.heap.size w W' := by
  have HC := Lib.hid hc
  have hc8 : c ≤ 8 := by rw [hc]; exact allN_len s
  clear hc
  obtain ⟨m, hm, hmc, hmn, t1, t2⟩ := tmod_mid n c hpos
  rw [hmn]
  have HM := Lib.hid hm
  clear hm hmn
  refine callsIn_of_wp_marks Try.func8 rfl trivial ?_ rfl
  simp only [Try.ntmps8, List.size_toArray, List.length_cons, List.length_nil, Nat.reduceAdd, Nat.reduceSub, Array.replicate_succ, Array.replicate_zero, List.push_toArray, List.append_toArray, List.nil_append, List.cons_append]
  gi_wp2_with (refine ⟨trivial, ?_⟩; gi_at_call 18; refine (callsIn_wide.2 (count_any s _ hs)).mono ?_; rintro e w' ⟨rfl, rfl⟩; rw [← HC.out])
  refine ⟨trivial, ?_⟩
  refine (callsIn_wide.2 (all_any s _)).mono ?_
  rintro e w' ⟨rfl, rfl⟩
  gi_wp2_with fail
  rw [HM.out]
  have c0 := cell_new_l w (.int .i64 m) 3
  have c1 := cell_new_l (w.alloc (.cells #[.int .i64 m] 3)) (.int .i64 0) 3
  have c2 := cell_new_l ((w.alloc (.cells #[.int .i64 m] 3)).alloc (.cells #[.int .i64 0] 3)) (.bool false) 4
  have c3 := cell_new_l (((w.alloc (.cells #[.int .i64 m] 3)).alloc (.cells #[.int .i64 0] 3)).alloc (.cells #[.bool false] 4)) (.int .u8 s) 5
  have hB0 : Below w.heap.size w ((((w.alloc (.cells #[.int .i64 m] 3)).alloc (.cells #[.int .i64 0] 3)).alloc (.cells #[.bool false] 4)).alloc (.cells #[.int .u8 s] 5)) := ((((Below.refl _ w).alloc (Nat.le_refl _) _).alloc (by simp) _).alloc (by simp; omega) _).alloc (by simp; omega) _
  have d0 := cell_alloc_l (.cells #[.int .u8 s] 5) (cell_alloc_l (.cells #[.bool false] 4) (cell_alloc_l (.cells #[.int .i64 0] 3) c0.1))
  have f0 := frozen_alloc_l (.cells #[.int .u8 s] 5) (cell_alloc_l (.cells #[.bool false] 4) (cell_alloc_l (.cells #[.int .i64 0] 3) c0.1)) (frozen_alloc_l (.cells #[.bool false] 4) (cell_alloc_l (.cells #[.int .i64 0] 3) c0.1) (frozen_alloc_l (.cells #[.int .i64 0] 3) c0.1 c0.2))
  have d1 := cell_alloc_l (.cells #[.int .u8 s] 5) (cell_alloc_l (.cells #[.bool false] 4) c1.1)
  have f1 := frozen_alloc_l (.cells #[.int .u8 s] 5) (cell_alloc_l (.cells #[.bool false] 4) c1.1) (frozen_alloc_l (.cells #[.bool false] 4) c1.1 c1.2)
  have d2 := cell_alloc_l (.cells #[.int .u8 s] 5) c2.1
  have f2 := frozen_alloc_l (.cells #[.int .u8 s] 5) c2.1 c2.2
  simp only [World.size_alloc] at c3 d0 f0 d1 f1 d2 f2
  generalize hW0 : (((w.alloc (.cells #[.int .i64 m] 3)).alloc (.cells #[.int .i64 0] 3)).alloc (.cells #[.bool false] 4)).alloc (.cells #[.int .u8 s] 5) = W0 at *
  have hsz : W0.heap.size = w.heap.size + 1 + 1 + 1 + 1 := by rw [← hW0]; simp
  have HSZ := Lib.hid hsz
  have HW := Lib.hid hW0
  have hle : w.heap.size + 1 + 1 + 1 < W0.heap.size := by omega
  clear hsz hW0 c0 c1 c2
  refine wpIn_rangeFunc_ownF rfl (by omega) (gf := 29) (lb := #[.pointer (some ⟨w.heap.size + 1 + 1 + 1, 0, none⟩)]) rfl trivial (enters_of Try.func29 (by kernel_rfl) rfl)
    (all_stops (6 - 1) (by omega) (w.heap.size + 1 + 1 + 1) s hs W0 hle c3.1) (sameCell_t _) (sameCell_b hle) (Below.refl _ _) (fun _ => rfl)
    (fun pre W => (pre.length ≤ m ∧ W.cell? ⟨w.heap.size, 0, none⟩ = some (.int .i64 ((m : Int) - (pre.length : Int))) ∧ W.frozen? ⟨w.heap.size, 0, none⟩ = false ∧ W.cell? ⟨w.heap.size + 1, 0, none⟩ = some (.int .i64 0) ∧ W.frozen? ⟨w.heap.size + 1, 0, none⟩ = false ∧ W.cell? ⟨w.heap.size + 1 + 1, 0, none⟩ = some (.bool false) ∧ W.frozen? ⟨w.heap.size + 1 + 1, 0, none⟩ = false) ∧ Below w.heap.size w W)
    (fun c pre W => (c = .ret ∧ pre.length = m + 1 ∧ W.cell? ⟨w.heap.size + 1, 0, none⟩ = some (.int .i64 (pre.getD m 0 : Nat)) ∧ W.cell? ⟨w.heap.size + 1 + 1, 0, none⟩ = some (.bool true)) ∧ Below w.heap.size w W)
    (OwnFrom.and (Own.from (fun s A B row hs hg hr => ⟨hs.1, cell_kept hs.2.1 hg hr, (frozen_kept hs.2.1 hg hr).trans hs.2.2.1, cell_kept hs.2.2.2.1 hg hr, (frozen_kept hs.2.2.2.1 hg hr).trans hs.2.2.2.2.1, cell_kept hs.2.2.2.2.2.1 hg hr, (frozen_kept hs.2.2.2.2.2.1 hg hr).trans hs.2.2.2.2.2.2⟩) _) (ownFrom_below (Nat.le_refl _) (by omega)))
    (fun c => OwnFrom.and (Own.from (fun s A B row hs hg hr => ⟨hs.1, hs.2.1, cell_kept hs.2.2.1 hg hr, cell_kept hs.2.2.2 hg hr⟩) _) (ownFrom_below (Nat.le_refl _) (by omega)))
    ⟨⟨Nat.zero_le _, by simpa using d0, f0, d1, f1, d2, f2⟩, hB0⟩
    (fun x => { tmps := #[.int .u8 s, .int .i64 n, undef, .pointer (some ⟨w.heap.size, 0, none⟩), .pointer (some ⟨w.heap.size + 1, 0, none⟩), .pointer (some ⟨w.heap.size + 1 + 1, 0, none⟩), .int .i64 c, .int .i64 x, .int .u8 s, .int .i64 c, .int .i64 c, .bool false, .int .i64 n, .int .i64 c, .int .i64 (n.tmod c), .int .i64 c, .int .i64 (n.tmod c + c), .int .i64 c, .int .i64 m, .int .u8 s, .func (.func 29) #[] #[.pointer (some ⟨w.heap.size + 1 + 1 + 1, 0, none⟩)], .int .i64 x, undef, undef, undef, undef, undef], defers := [] }) ?assign ?body ?done ?stop
  case assign =>
    intro l x W K hK
    gi_wp2
    exact hK
  case body =>
    rintro l pre x W ⟨⟨hl, hc, hf, hc1, hf1, hc2, hf2⟩, hB⟩ _
    by_cases hlm : pre.length = m
    · have hz : (((m : Int) - (pre.length : Int)) == 0) = true := by rw [beq_iff_eq]; omega
      have hp : Hid ((pre ++ [x]).getD m 0 = x) := by show _ = _; rw [← hlm]; simp [List.getD]
      have hl2 : Hid ((pre ++ [x]).length = m + 1) := by show _ = _; simp; omega
      clear hlm
      gi_wp2
      have ht := two_sets W (w.heap.size + 1) (w.heap.size + 1 + 1) (by omega) (.int .i64 x) (.bool true) _ _ hc1 hc2
      exact ⟨(KeepsOthers.setCell _ _ _).trans (KeepsOthers.setCell _ _ _), ⟨rfl, hl2.out, by rw [hp.out]; exact ht.1, ht.2⟩, (hB.setCell (p := ⟨w.heap.size + 1, 0, none⟩) (by simp) _).setCell (p := ⟨w.heap.size + 1 + 1, 0, none⟩) (by simp; omega) _⟩
    · have hz : (((m : Int) - (pre.length : Int)) == 0) = false := by rw [beq_eq_false_iff_ne]; omega
      have hlt : pre.length < m := by omega
      have hv := Lib.hid (show ((m : Int) - ((pre ++ [x]).length : Int)) = (m : Int) - (pre.length : Int) - 1 from by simp; omega)
      have hl2 := Lib.hid (show (pre ++ [x]).length ≤ m from by simp; omega)
      gi_wp2
      exact ⟨KeepsOthers.setCell _ _ _, set_other W _ _ (by omega) _, ⟨hl2.out, by rw [hv.out]; exact World.cell?_setCell_same _ _ _ hc, by rw [World.frozen?_setCell]; exact hf, (set_other W _ _ (by omega) _).trans hc1, by rw [World.frozen?_setCell]; exact hf1, (set_other W _ _ (by omega) _).trans hc2, by rw [World.frozen?_setCell]; exact hf2⟩, hB.setCell (p := ⟨w.heap.size, 0, none⟩) (Nat.le_refl _) _⟩
  case done =>
    rintro D ys W hD rfl ⟨⟨hl, _⟩, _⟩ _
    have := HC.out
    omega
  case stop =>
    rintro D c' pre W hD hpre ⟨⟨rfl, hl, hc1, hc2⟩, hB⟩ hK
    gi_wp2
    refine ⟨by simp, .inl ⟨_, _, rfl, run_takeDeferred hK, ?_⟩⟩
    have e1 := cell_kept hc1 (grownBy_putObj' _ D (.deferred none)) (fun r e => by cases e; exact ⟨_, hK, rfl⟩)
    have e2 := cell_kept hc2 (grownBy_putObj' _ D (.deferred none)) (fun r e => by cases e; exact ⟨_, hK, rfl⟩)
    have e3 := prefix_getD hpre m (by omega)
    rw [e3] at e1
    refine ⟨.tuple #[.int .i64 ((allN s).getD m 0 : Nat), .bool true], ?_, rfl, hB.trans (belowK_b (w := w) (Nat.le_refl _) W D _ _ (by omega) hK rfl rfl)⟩
    simp [results, Try.f8, go_sem, e1, e2]

set_option maxRecDepth 100000 in
set_option maxHeartbeats 2000000 in
theorem nth_none (s : Nat) (n : Int) (w : World) (hs : s < 256) (hc : 0 = (allN s).length) :
    Calls Try.prog 8 #[.int .u8 s, .int .i64 n] w fun e W' => e = .returned (.tuple #[.int .i64 0, .bool false]) ∧ Below w.heap.size w W' := by
  have hcount := count_any s
  rw [← hc] at hcount
  have HC := Lib.hid hcount
  clear hc hcount
  go_enter Try.func8, Try.ntmps8
  go_wp2_with (go_at_call 18; refine (HC.out _ hs).mono ?_; rintro e w' ⟨rfl, rfl⟩)
  exact bodyPost_ret (v := .tuple #[.int .i64 0, .bool false]) (by simp [results, Try.results8, go_sem]) rfl ⟨rfl, (((Below.refl _ w).alloc (Nat.le_refl _) _).alloc (by simp) _).alloc (by simp; omega) _⟩

theorem nth_yes (s : Nat) (n : Int) (w : World) (hs : s < 256) (c : Nat) (hc : c = (allN s).length) (hpos : 0 < c) (hn1 : -9223372036854775808 ≤ n) (hn2 : n ≤ 9223372036854775807) :
    Calls Try.prog 8 #[.int .u8 s, .int .i64 n] w fun e W' => e = .returned (.tuple #[.int .i64 ((allN s).getD (n % (c : Int)).toNat 0 : Nat), .bool true]) ∧ Below w.heap.size w W' :=
  callsIn_wide.1 (nth_in s n w hs c hc hpos hn1 hn2)

theorem known_all : allN 74 = [1, 3, 6] := by decide +kernel

set_option maxRecDepth 100000 in
set_option maxHeartbeats 400000 in
theorem known_any (w : World) : Calls Try.prog 12 #[] w fun e w' => e = .returned (.bool true) ∧ Below w.heap.size w w' := by
  have h1 := add_any 18446744073709551615 1 w (by decide) (by decide)
  rw [addR_no (by decide)] at h1
  have h2 := fun w => nth_yes 74 4 w (by decide) 3 (by decide +kernel) (by decide) (by decide) (by decide)
  have h3 := fun w => nth_yes 74 (-1) w (by decide) 3 (by decide +kernel) (by decide) (by decide) (by decide)
  have h4 := fun w => addSat_any 18446744073709551615 1 w (by decide) (by decide)
  rw [show ((allN 74).getD ((4 : Int) % ((3 : Nat) : Int)).toNat 0) = 3 from by decide +kernel] at h2
  rw [show ((allN 74).getD ((-1 : Int) % ((3 : Nat) : Int)).toNat 0) = 6 from by decide +kernel] at h3
  rw [show addS 18446744073709551615 1 = 18446744073709551615 from by decide +kernel] at h4
  have H1 := Lib.hid h1
  have H2 := Lib.hid h2
  have H3 := Lib.hid h3
  have H4 := Lib.hid h4
  clear h1 h2 h3 h4
  go_enter Try.func12, Try.ntmps12
  go_wp2_with fail
  refine H1.out.mono ?_
  rintro e w1 ⟨rfl, rfl⟩
  go_wp2_with fail
  refine (H2.out _).mono ?_
  rintro e w1 ⟨rfl, hb1⟩
  go_wp2_with fail
  refine (H3.out _).mono ?_
  rintro e w2 ⟨rfl, hb2⟩
  go_wp2_with fail
  refine (H4.out _).mono ?_
  rintro e w3 ⟨rfl, rfl⟩
  go_wp2_with fail
  go_ret
  exact ⟨rfl, hb1.trans (hb2.mono hb1.size)⟩
end Go.Proofs.Ytfdmnpienojejaa
