/- Demands, Args, the reference's Demands, sameNeeds, by walks. -/
import Derived.Test.YtcgmcmnjgimflaaDoorTable
import Derived.Test.YtcgmcmnjgimflaaDoorNamesLaw
namespace Go.Proofs.YtcgmcmnjgimflaaDoor
open Go.RowKit
set_option linter.unusedVariables false
set_option linter.unusedSimpArgs false

/-- The row of a number: its own, or none's. -/
def kk (k : Int) : Nat := if 1 ≤ k ∧ k < 23 then k.toNat else 0
theorem kk_lt (k : Int) : kk k < 23 := by unfold kk; split <;> omega
def ra (k : Nat) : Int := (rowT k).getD 0 0
def rb (k : Nat) : Int := (rowT k).getD 1 0
def rc (k : Nat) : Int := (rowT k).getD 2 0
def rd (k : Nat) : Int := (rowT k).getD 3 0
def re (k : Nat) : Int := (rowT k).getD 4 0
theorem rowT_form : ∀ k, k < 23 → rowT k = [ra k, rb k, rc k, rd k, re k] ∧ 0 ≤ rc k ∧ rc k ≤ 255 ∧ 0 ≤ re k ∧ re k ≤ 255 ∧ (rb k < 0 → rd k < 0) ∧ (∀ x ∈ needs k, x.ar < ra k) ∧ (needs k).length ≤ 2 := by decide +kernel
theorem needs_low : ∀ k, k < 5 → needs k = [] := by decide +kernel

theorem look_spec (K : List Int) : ∀ (L : List (Int × Value)), L.map (·.1) = K → ∀ k, (k ∈ K → ∃ v, look L k = some v ∧ (k, v) ∈ L) ∧ (k ∉ K → look L k = none) := by
  intro L hL k
  subst hL
  induction L with
  | nil => simp [look]
  | cons p L ih =>
    unfold look at *
    by_cases h : p.1 = k
    · subst h
      simp only [List.find?_cons, beq_self_eq_true, Option.map_some, List.map_cons, List.mem_cons, true_or, not_true_eq_false, false_implies, and_true, forall_const]
      exact ⟨_, rfl, .inl rfl⟩
    · have e1 : (p.1 == k) = false := by simpa using h
      simp only [List.find?_cons, e1, List.map_cons, List.mem_cons, not_or]
      refine ⟨fun hk => ?_, fun hk => ih.2 hk.2⟩
      rcases hk with hk | hk
      · exact absurd hk.symm h
      · obtain ⟨v, h1, h2⟩ := ih.1 hk
        exact ⟨v, h1, .inr h2⟩

theorem nd_slice {w : World} {B : Nat} {v : Value} {L : List Nd} (h : NdOwn w B v L) : ∃ A cap, v = .slice A L.length cap := by
  rcases h.2 with ⟨rfl, h0⟩ | ⟨g, cap, cur, hv, _⟩
  · exact ⟨none, 0, by rw [h0]⟩
  · exact ⟨_, cap, hv⟩

theorem zero_needs (w : World) : (zeroValue 32).run Tryd.prog w = .ok (.slice none 0 0) w := by kernel_rfl

set_option maxHeartbeats 1000000 in
theorem demands_is (k : Int) (w : World) : Calls Tryd.prog 10 #[.int .i64 k] w fun e w' => ∃ v, e = .returned v ∧ NdOwn w' w.heap.size v (needs (kk k)) ∧ Below w.heap.size w w' := by
  have CT := table_is w
  go_enter Tryd.func10, Tryd.ntmps10
  go_wp2_with fail
  refine CT.mono ?_
  rintro e w1 ⟨m, L, rfl, T, hkeys, hb⟩
  have hrun := run_lookup_int Tryd.underlying47 Tryd.underlying23 T.1 k false (.slice none 0 0) (zero_needs w1)
  simp only [Bool.false_eq_true, if_false] at hrun
  have hv : NdOwn w1 w.heap.size ((look L k).getD (.slice none 0 0)) (needs (kk k)) := by
    have hs := look_spec _ L hkeys k
    by_cases hm : k ∈ ([5, 6, 7, 8, 9, 10, 11, 12, 13, 14, 15, 16, 17, 18, 19, 20, 21, 22] : List Int)
    · obtain ⟨v, h1, h2⟩ := hs.1 hm
      rw [h1]
      have q := T.2.2 _ h2
      have hk : kk k = k.toNat := by
        unfold kk
        rw [if_pos]
        simp only [List.mem_cons, List.not_mem_nil, or_false] at hm
        omega
      rw [hk]
      exact q
    · rw [hs.2 hm, needs_low (kk k) (by
        unfold kk
        simp only [List.mem_cons, List.not_mem_nil, or_false, not_or] at hm
        split <;> omega)]
      exact World.ownsRow_nil _ _ _ _
  generalize (look L k).getD (.slice none 0 0) = v at *
  clear T hkeys CT
  go_wp2_with fail
  go_ret
  exact ⟨_, rfl, hv, hb⟩

theorem args_1 (w : World) : Calls Tryd.prog 11 #[.int .i64 1] w fun e w' => e = .returned (.int .i64 0) ∧ w = w' := by
  have C := is_any 1 w
  rw [decide_eq_true (by omega)] at C
  go_enter Tryd.func11, Tryd.ntmps11
  go_wp2_with (go_at_call 15; refine C.mono ?_; rintro e w1 ⟨rfl, rfl⟩)
  go_ret
  exact ⟨rfl, rfl⟩
theorem args_2 (w : World) : Calls Tryd.prog 11 #[.int .i64 2] w fun e w' => e = .returned (.int .i64 0) ∧ w = w' := by
  have C := is_any 2 w
  rw [decide_eq_true (by omega)] at C
  go_enter Tryd.func11, Tryd.ntmps11
  go_wp2_with (go_at_call 15; refine C.mono ?_; rintro e w1 ⟨rfl, rfl⟩)
  go_ret
  exact ⟨rfl, rfl⟩
theorem args_3 (w : World) : Calls Tryd.prog 11 #[.int .i64 3] w fun e w' => e = .returned (.int .i64 0) ∧ w = w' := by
  have C := is_any 3 w
  rw [decide_eq_true (by omega)] at C
  go_enter Tryd.func11, Tryd.ntmps11
  go_wp2_with (go_at_call 15; refine C.mono ?_; rintro e w1 ⟨rfl, rfl⟩)
  go_ret
  exact ⟨rfl, rfl⟩
theorem args_4 (w : World) : Calls Tryd.prog 11 #[.int .i64 4] w fun e w' => e = .returned (.int .i64 1) ∧ w = w' := by
  have C := is_any 4 w
  rw [decide_eq_true (by omega)] at C
  go_enter Tryd.func11, Tryd.ntmps11
  go_wp2_with (go_at_call 15; refine C.mono ?_; rintro e w1 ⟨rfl, rfl⟩)
  go_ret
  exact ⟨rfl, rfl⟩
theorem args_5 (w : World) : Calls Tryd.prog 11 #[.int .i64 5] w fun e w' => e = .returned (.int .i64 4) ∧ w = w' := by
  have C := is_any 5 w
  rw [decide_eq_true (by omega)] at C
  go_enter Tryd.func11, Tryd.ntmps11
  go_wp2_with (go_at_call 15; refine C.mono ?_; rintro e w1 ⟨rfl, rfl⟩)
  go_ret
  exact ⟨rfl, rfl⟩
theorem args_6 (w : World) : Calls Tryd.prog 11 #[.int .i64 6] w fun e w' => e = .returned (.int .i64 1) ∧ w = w' := by
  have C := is_any 6 w
  rw [decide_eq_true (by omega)] at C
  go_enter Tryd.func11, Tryd.ntmps11
  go_wp2_with (go_at_call 15; refine C.mono ?_; rintro e w1 ⟨rfl, rfl⟩)
  go_ret
  exact ⟨rfl, rfl⟩
theorem args_7 (w : World) : Calls Tryd.prog 11 #[.int .i64 7] w fun e w' => e = .returned (.int .i64 1) ∧ w = w' := by
  have C := is_any 7 w
  rw [decide_eq_true (by omega)] at C
  go_enter Tryd.func11, Tryd.ntmps11
  go_wp2_with (go_at_call 15; refine C.mono ?_; rintro e w1 ⟨rfl, rfl⟩)
  go_ret
  exact ⟨rfl, rfl⟩
theorem args_8 (w : World) : Calls Tryd.prog 11 #[.int .i64 8] w fun e w' => e = .returned (.int .i64 1) ∧ w = w' := by
  have C := is_any 8 w
  rw [decide_eq_true (by omega)] at C
  go_enter Tryd.func11, Tryd.ntmps11
  go_wp2_with (go_at_call 15; refine C.mono ?_; rintro e w1 ⟨rfl, rfl⟩)
  go_ret
  exact ⟨rfl, rfl⟩
theorem args_9 (w : World) : Calls Tryd.prog 11 #[.int .i64 9] w fun e w' => e = .returned (.int .i64 1) ∧ w = w' := by
  have C := is_any 9 w
  rw [decide_eq_true (by omega)] at C
  go_enter Tryd.func11, Tryd.ntmps11
  go_wp2_with (go_at_call 15; refine C.mono ?_; rintro e w1 ⟨rfl, rfl⟩)
  go_ret
  exact ⟨rfl, rfl⟩
theorem args_10 (w : World) : Calls Tryd.prog 11 #[.int .i64 10] w fun e w' => e = .returned (.int .i64 2) ∧ w = w' := by
  have C := is_any 10 w
  rw [decide_eq_true (by omega)] at C
  go_enter Tryd.func11, Tryd.ntmps11
  go_wp2_with (go_at_call 15; refine C.mono ?_; rintro e w1 ⟨rfl, rfl⟩)
  go_ret
  exact ⟨rfl, rfl⟩
theorem args_11 (w : World) : Calls Tryd.prog 11 #[.int .i64 11] w fun e w' => e = .returned (.int .i64 2) ∧ w = w' := by
  have C := is_any 11 w
  rw [decide_eq_true (by omega)] at C
  go_enter Tryd.func11, Tryd.ntmps11
  go_wp2_with (go_at_call 15; refine C.mono ?_; rintro e w1 ⟨rfl, rfl⟩)
  go_ret
  exact ⟨rfl, rfl⟩
theorem args_12 (w : World) : Calls Tryd.prog 11 #[.int .i64 12] w fun e w' => e = .returned (.int .i64 3) ∧ w = w' := by
  have C := is_any 12 w
  rw [decide_eq_true (by omega)] at C
  go_enter Tryd.func11, Tryd.ntmps11
  go_wp2_with (go_at_call 15; refine C.mono ?_; rintro e w1 ⟨rfl, rfl⟩)
  go_ret
  exact ⟨rfl, rfl⟩
theorem args_13 (w : World) : Calls Tryd.prog 11 #[.int .i64 13] w fun e w' => e = .returned (.int .i64 2) ∧ w = w' := by
  have C := is_any 13 w
  rw [decide_eq_true (by omega)] at C
  go_enter Tryd.func11, Tryd.ntmps11
  go_wp2_with (go_at_call 15; refine C.mono ?_; rintro e w1 ⟨rfl, rfl⟩)
  go_ret
  exact ⟨rfl, rfl⟩
theorem args_14 (w : World) : Calls Tryd.prog 11 #[.int .i64 14] w fun e w' => e = .returned (.int .i64 2) ∧ w = w' := by
  have C := is_any 14 w
  rw [decide_eq_true (by omega)] at C
  go_enter Tryd.func11, Tryd.ntmps11
  go_wp2_with (go_at_call 15; refine C.mono ?_; rintro e w1 ⟨rfl, rfl⟩)
  go_ret
  exact ⟨rfl, rfl⟩
theorem args_15 (w : World) : Calls Tryd.prog 11 #[.int .i64 15] w fun e w' => e = .returned (.int .i64 1) ∧ w = w' := by
  have C := is_any 15 w
  rw [decide_eq_true (by omega)] at C
  go_enter Tryd.func11, Tryd.ntmps11
  go_wp2_with (go_at_call 15; refine C.mono ?_; rintro e w1 ⟨rfl, rfl⟩)
  go_ret
  exact ⟨rfl, rfl⟩
theorem args_16 (w : World) : Calls Tryd.prog 11 #[.int .i64 16] w fun e w' => e = .returned (.int .i64 1) ∧ w = w' := by
  have C := is_any 16 w
  rw [decide_eq_true (by omega)] at C
  go_enter Tryd.func11, Tryd.ntmps11
  go_wp2_with (go_at_call 15; refine C.mono ?_; rintro e w1 ⟨rfl, rfl⟩)
  go_ret
  exact ⟨rfl, rfl⟩
theorem args_17 (w : World) : Calls Tryd.prog 11 #[.int .i64 17] w fun e w' => e = .returned (.int .i64 3) ∧ w = w' := by
  have C := is_any 17 w
  rw [decide_eq_true (by omega)] at C
  go_enter Tryd.func11, Tryd.ntmps11
  go_wp2_with (go_at_call 15; refine C.mono ?_; rintro e w1 ⟨rfl, rfl⟩)
  go_ret
  exact ⟨rfl, rfl⟩
theorem args_18 (w : World) : Calls Tryd.prog 11 #[.int .i64 18] w fun e w' => e = .returned (.int .i64 3) ∧ w = w' := by
  have C := is_any 18 w
  rw [decide_eq_true (by omega)] at C
  go_enter Tryd.func11, Tryd.ntmps11
  go_wp2_with (go_at_call 15; refine C.mono ?_; rintro e w1 ⟨rfl, rfl⟩)
  go_ret
  exact ⟨rfl, rfl⟩
theorem args_19 (w : World) : Calls Tryd.prog 11 #[.int .i64 19] w fun e w' => e = .returned (.int .i64 3) ∧ w = w' := by
  have C := is_any 19 w
  rw [decide_eq_true (by omega)] at C
  go_enter Tryd.func11, Tryd.ntmps11
  go_wp2_with (go_at_call 15; refine C.mono ?_; rintro e w1 ⟨rfl, rfl⟩)
  go_ret
  exact ⟨rfl, rfl⟩
theorem args_20 (w : World) : Calls Tryd.prog 11 #[.int .i64 20] w fun e w' => e = .returned (.int .i64 5) ∧ w = w' := by
  have C := is_any 20 w
  rw [decide_eq_true (by omega)] at C
  go_enter Tryd.func11, Tryd.ntmps11
  go_wp2_with (go_at_call 15; refine C.mono ?_; rintro e w1 ⟨rfl, rfl⟩)
  go_ret
  exact ⟨rfl, rfl⟩
theorem args_21 (w : World) : Calls Tryd.prog 11 #[.int .i64 21] w fun e w' => e = .returned (.int .i64 1) ∧ w = w' := by
  have C := is_any 21 w
  rw [decide_eq_true (by omega)] at C
  go_enter Tryd.func11, Tryd.ntmps11
  go_wp2_with (go_at_call 15; refine C.mono ?_; rintro e w1 ⟨rfl, rfl⟩)
  go_ret
  exact ⟨rfl, rfl⟩
theorem args_22 (w : World) : Calls Tryd.prog 11 #[.int .i64 22] w fun e w' => e = .returned (.int .i64 1) ∧ w = w' := by
  have C := is_any 22 w
  rw [decide_eq_true (by omega)] at C
  go_enter Tryd.func11, Tryd.ntmps11
  go_wp2_with (go_at_call 15; refine C.mono ?_; rintro e w1 ⟨rfl, rfl⟩)
  go_ret
  exact ⟨rfl, rfl⟩
theorem args_no (k : Int) (w : World) (hk : k < 1 ∨ 23 ≤ k) : Calls Tryd.prog 11 #[.int .i64 k] w fun e w' => e = .returned (.int .i64 0) ∧ w = w' := by
  have C := is_any k w
  rw [decide_eq_false (by omega)] at C
  have n1 : (k == 1) = false := by rw [beq_eq_false_iff_ne]; omega
  have n2 : (k == 2) = false := by rw [beq_eq_false_iff_ne]; omega
  have n3 : (k == 3) = false := by rw [beq_eq_false_iff_ne]; omega
  have n5 : (k == 5) = false := by rw [beq_eq_false_iff_ne]; omega
  have n10 : (k == 10) = false := by rw [beq_eq_false_iff_ne]; omega
  have n11 : (k == 11) = false := by rw [beq_eq_false_iff_ne]; omega
  have n12 : (k == 12) = false := by rw [beq_eq_false_iff_ne]; omega
  have n13 : (k == 13) = false := by rw [beq_eq_false_iff_ne]; omega
  have n14 : (k == 14) = false := by rw [beq_eq_false_iff_ne]; omega
  have n17 : (k == 17) = false := by rw [beq_eq_false_iff_ne]; omega
  have n18 : (k == 18) = false := by rw [beq_eq_false_iff_ne]; omega
  have n19 : (k == 19) = false := by rw [beq_eq_false_iff_ne]; omega
  have n20 : (k == 20) = false := by rw [beq_eq_false_iff_ne]; omega
  go_enter Tryd.func11, Tryd.ntmps11
  go_wp2_with (go_at_call 15; refine C.mono ?_; rintro e w1 ⟨rfl, rfl⟩)
  go_ret
  exact ⟨rfl, rfl⟩
theorem args_yes : ∀ (k : Nat) (w : World), 0 < k → k < 23 → Calls Tryd.prog 11 #[.int .i64 k] w fun e w' => e = .returned (.int .i64 (ra k)) ∧ w = w'
  | 1, w, _, _ => args_1 w
  | 2, w, _, _ => args_2 w
  | 3, w, _, _ => args_3 w
  | 4, w, _, _ => args_4 w
  | 5, w, _, _ => args_5 w
  | 6, w, _, _ => args_6 w
  | 7, w, _, _ => args_7 w
  | 8, w, _, _ => args_8 w
  | 9, w, _, _ => args_9 w
  | 10, w, _, _ => args_10 w
  | 11, w, _, _ => args_11 w
  | 12, w, _, _ => args_12 w
  | 13, w, _, _ => args_13 w
  | 14, w, _, _ => args_14 w
  | 15, w, _, _ => args_15 w
  | 16, w, _, _ => args_16 w
  | 17, w, _, _ => args_17 w
  | 18, w, _, _ => args_18 w
  | 19, w, _, _ => args_19 w
  | 20, w, _, _ => args_20 w
  | 21, w, _, _ => args_21 w
  | 22, w, _, _ => args_22 w
  | 0, _, h, _ => absurd h (by omega)
  | k + 23, _, _, h => absurd h (by omega)
theorem args_is (k : Int) (w : World) : Calls Tryd.prog 11 #[.int .i64 k] w fun e w' => e = .returned (.int .i64 (ra (kk k))) ∧ w = w' := by
  unfold kk
  by_cases h : 1 ≤ k ∧ k < 23
  · rw [if_pos h]
    obtain ⟨j, rfl⟩ := Int.eq_ofNat_of_zero_le (show 0 ≤ k by omega)
    exact args_yes j w (by omega) (by omega)
  · rw [if_neg h]
    exact args_no k w (by omega)
theorem name_is (k : Int) (w : World) (hN : NamesIn w) : Calls Tryd.prog 8 #[.int .i64 k] w fun e w' => e = .returned (.string (nm (kk k))) ∧ w = w' := by
  unfold kk
  by_cases h : 1 ≤ k ∧ k < 23
  · rw [if_pos h]
    obtain ⟨j, rfl⟩ := Int.eq_ofNat_of_zero_le (show 0 ≤ k by omega)
    exact name_yes j w hN (by omega) (by omega)
  · rw [if_neg h]
    exact name_no k w (by omega)
theorem refOf_is (k : Int) (w : World) : ∃ y : Bool, Calls Tryd.prog 7 #[.int .i64 k] w fun e w' => e = .returned (.tuple #[.agg #[.string (nm (kk k)), .int .i64 (ra (kk k)), .int .i64 (rb (kk k)), .int .i64 (rc (kk k)), .int .i64 (rd (kk k)), .int .i64 (re (kk k))], .bool y]) ∧ Below w.heap.size w w' := by
  have hf : rowV (kk k) = .agg #[.string (nm (kk k)), .int .i64 (ra (kk k)), .int .i64 (rb (kk k)), .int .i64 (rc (kk k)), .int .i64 (rd (kk k)), .int .i64 (re (kk k))] := by
    unfold rowV
    rw [(rowT_form _ (kk_lt k)).1]
    rfl
  rw [← hf]
  unfold kk
  by_cases h : 1 ≤ k ∧ k < 23
  · rw [if_pos h]
    obtain ⟨j, rfl⟩ := Int.eq_ofNat_of_zero_le (show 0 ≤ k by omega)
    exact ⟨_, refOf_yes j w (by omega) (by omega)⟩
  · rw [if_neg h]
    exact ⟨_, refOf_no k w (by omega)⟩

theorem news3' (w : World) (n : Nat) (hn : w.heap.size = n) (a b c : Value) (t : TypeId) : ∀ j u, [a, b, c][j]? = some u → (w.alloc (.cells #[a, b, c] t)).cell? ((⟨n, 0, none⟩ : Addr).add j) = some u := by
  subst hn
  exact news3 w a b c t

set_option maxRecDepth 100000 in
set_option maxHeartbeats 2000000 in
theorem refDemands_is (k : Int) (w : World) : Calls Tryd.prog 9 #[.int .i64 k] w fun e w' => ∃ v, e = .returned v ∧ NdOwn w' w.heap.size v (needs (kk k)) ∧ Below w.heap.size w w' := by
  obtain ⟨i0, hi, hz0, hz1, hz2⟩ := info_parts infoNd
  obtain ⟨y, CR⟩ := refOf_is k w
  obtain ⟨hrow, c0, c1, e0, e1, hbd, _, _⟩ := rowT_form _ (kk_lt k)
  have hneeds : needs (kk k) = (if 0 ≤ rb (kk k) then [⟨0, rb (kk k), rc (kk k)⟩] else []) ++ (if 0 ≤ rd (kk k) then [⟨1, rd (kk k), re (kk k)⟩] else []) := by
    unfold needs
    rw [hrow]
  rw [hneeds]
  clear hneeds hrow
  generalize nm (kk k) = s at *
  generalize ra (kk k) = a at *
  generalize rb (kk k) = b at *
  generalize rc (kk k) = c at *
  generalize rd (kk k) = d at *
  generalize re (kk k) = f at *
  by_cases hb0 : 0 ≤ b
  · rw [if_pos hb0]
    by_cases hd0 : 0 ≤ d
    · rw [if_pos hd0]
      clear hbd
      go_enter Tryd.func9, Tryd.ntmps9
      go_wp2_with fail
      refine CR.mono ?_
      rintro e w1 ⟨rfl, hb1⟩
      have hcell : ∀ i, (w1.alloc (.cells #[.string s, .int .i64 a, .int .i64 b, .int .i64 c, .int .i64 d, .int .i64 f] 27)).cell? ⟨w1.heap.size, i, none⟩ = (#[.string s, .int .i64 a, .int .i64 b, .int .i64 c, .int .i64 d, .int .i64 f] : Array Value)[i]? := fun i => cell_of_row _ _ i _ _ (0, 0) (heap_alloc_new w1 _)
      have hsz : (w1.alloc (.cells #[.string s, .int .i64 a, .int .i64 b, .int .i64 c, .int .i64 d, .int .i64 f] 27)).heap.size = w1.heap.size + 1 := by simp
      have hb2 : Below w1.heap.size w1 (w1.alloc (.cells #[.string s, .int .i64 a, .int .i64 b, .int .i64 c, .int .i64 d, .int .i64 f] 27)) := (Below.refl _ _).alloc (Nat.le_refl _) _
      have p4 := hcell 4
      have p5 := hcell 5
      simp only [List.getElem?_toArray, List.getElem?_cons_zero, List.getElem?_cons_succ] at p4 p5
      have hlt : w1.heap.size < w1.heap.size + 1 := by omega
      clear hcell
      go_wp2_with (first | (at_builtin; refine wpList_append_own _ rfl (.tmp 14) (.tmp 21) 32 rfl (w1.heap.size + 1) 40 i0 (.agg #[.int .i64 0, .int .i64 0, .int .u8 0]) 3 24 Tryd.underlying32 hi hz0 hz1 hz2 rfl (by decide) (.slice none 0 0) 0 [] rfl (World.ownsRow_nil _ _ _ _) ⟨w1.heap.size + 1, 0, none⟩ 1 1 (Nd.vs ⟨0, b, c⟩) rfl rfl (news3' _ _ hsz _ _ _ _) (nd_one _) (by unfold maxLen; simp) (by simp) (by simp) ?_; intro v3 w3 hown3 hgrow3 _; (have hB3 : Below (w1.heap.size + 1) (w1.alloc (.cells #[.string s, .int .i64 a, .int .i64 b, .int .i64 c, .int .i64 d, .int .i64 f] 27)) w3 := ((Below.refl _ (w1.alloc (.cells #[.string s, .int .i64 a, .int .i64 b, .int .i64 c, .int .i64 d, .int .i64 f] 27))).alloc (by simp) _).grown hgrow3 (by simp) (fun j e => by cases e)); (have q4 := (hB3.cell (p := ⟨w1.heap.size, 4, none⟩) hlt).trans p4); (have q5 := (hB3.cell (p := ⟨w1.heap.size, 5, none⟩) hlt).trans p5)) | (at_builtin; refine wpList_append_own _ rfl (.tmp 26) (.tmp 33) 32 rfl (w1.heap.size + 1) 40 i0 (.agg #[.int .i64 0, .int .i64 0, .int .u8 0]) 3 24 Tryd.underlying32 hi hz0 hz1 hz2 rfl (by decide) v3 _ _ rfl (hown3.alloc _) ⟨w3.heap.size, 0, none⟩ 1 1 (Nd.vs ⟨1, d, f⟩) rfl rfl (news3 _ _ _ _ _) (nd_one _) (by unfold maxLen; simp) (by simp) (by have := hB3.size; simp at this; simp; omega) ?_; intro v4 w4 hown4 hgrow4 _; (have hB4 : Below (w1.heap.size + 1) (w1.alloc (.cells #[.string s, .int .i64 a, .int .i64 b, .int .i64 c, .int .i64 d, .int .i64 f] 27)) w4 := (hB3.alloc (by have := hB3.size; simp at this; omega) _).grown hgrow4 (by have := hB3.size; simp at this; simp; omega) (fun j e => (hown3.lt j e).1))))
      go_ret
      exact ⟨_, rfl, NdOwn.mono (B := w1.heap.size + 1) hown4 (by have := hb1.size; omega), hb1.trans ((hb2.trans (hB4.mono (by omega))).mono hb1.size)⟩
    · rw [if_neg hd0]
      clear hbd
      have hd1 : d < 0 := by omega
      go_enter Tryd.func9, Tryd.ntmps9
      go_wp2_with fail
      refine CR.mono ?_
      rintro e w1 ⟨rfl, hb1⟩
      have hcell : ∀ i, (w1.alloc (.cells #[.string s, .int .i64 a, .int .i64 b, .int .i64 c, .int .i64 d, .int .i64 f] 27)).cell? ⟨w1.heap.size, i, none⟩ = (#[.string s, .int .i64 a, .int .i64 b, .int .i64 c, .int .i64 d, .int .i64 f] : Array Value)[i]? := fun i => cell_of_row _ _ i _ _ (0, 0) (heap_alloc_new w1 _)
      have hsz : (w1.alloc (.cells #[.string s, .int .i64 a, .int .i64 b, .int .i64 c, .int .i64 d, .int .i64 f] 27)).heap.size = w1.heap.size + 1 := by simp
      have hb2 : Below w1.heap.size w1 (w1.alloc (.cells #[.string s, .int .i64 a, .int .i64 b, .int .i64 c, .int .i64 d, .int .i64 f] 27)) := (Below.refl _ _).alloc (Nat.le_refl _) _
      have p4 := hcell 4
      have p5 := hcell 5
      simp only [List.getElem?_toArray, List.getElem?_cons_zero, List.getElem?_cons_succ] at p4 p5
      have hlt : w1.heap.size < w1.heap.size + 1 := by omega
      clear hcell
      go_wp2_with (at_builtin; refine wpList_append_own _ rfl (.tmp 14) (.tmp 21) 32 rfl (w1.heap.size + 1) 40 i0 (.agg #[.int .i64 0, .int .i64 0, .int .u8 0]) 3 24 Tryd.underlying32 hi hz0 hz1 hz2 rfl (by decide) (.slice none 0 0) 0 [] rfl (World.ownsRow_nil _ _ _ _) ⟨w1.heap.size + 1, 0, none⟩ 1 1 (Nd.vs ⟨0, b, c⟩) rfl rfl (news3' _ _ hsz _ _ _ _) (nd_one _) (by unfold maxLen; simp) (by simp) (by simp) ?_; intro v3 w3 hown3 hgrow3 _; (have hB3 : Below (w1.heap.size + 1) (w1.alloc (.cells #[.string s, .int .i64 a, .int .i64 b, .int .i64 c, .int .i64 d, .int .i64 f] 27)) w3 := ((Below.refl _ (w1.alloc (.cells #[.string s, .int .i64 a, .int .i64 b, .int .i64 c, .int .i64 d, .int .i64 f] 27))).alloc (by simp) _).grown hgrow3 (by simp) (fun j e => by cases e)); (have q4 := (hB3.cell (p := ⟨w1.heap.size, 4, none⟩) hlt).trans p4); (have q5 := (hB3.cell (p := ⟨w1.heap.size, 5, none⟩) hlt).trans p5))
      go_ret
      exact ⟨_, rfl, NdOwn.mono (B := w1.heap.size + 1) hown3 (by have := hb1.size; omega), hb1.trans ((hb2.trans (hB3.mono (by omega))).mono hb1.size)⟩
  · rw [if_neg hb0, if_neg (by omega)]
    have hb2' : b < 0 := by omega
    have hd1 : d < 0 := by omega
    go_enter Tryd.func9, Tryd.ntmps9
    go_wp2_with fail
    refine CR.mono ?_
    rintro e w1 ⟨rfl, hb1⟩
    go_wp2_with fail
    go_ret
    exact ⟨_, rfl, World.ownsRow_nil _ _ _ _, hb1.alloc hb1.size _⟩
end Go.Proofs.YtcgmcmnjgimflaaDoor
