/- The reference's numbers as text, by walk: big, num, three, digit. -/
import Derived.Test.YtnbkpminecoddaaDoorCodeRef
import Derived.Test.YtnbkpminecoddaaDoorCodeOwn
import Derived.Deep.RegionHeld3
import Derived.Lib.ItoaMem
import Derived.OrdersHeld
namespace Go.Proofs.YtnbkpminecoddaaDoor
open Go.RowKit
set_option linter.unusedVariables false
set_option linter.unusedSimpArgs false

theorem str_add (a b : List UInt8) : strL a ++ strL b = strL (a ++ b) := by
  apply ByteArray.ext
  simp [strL, ByteArray.data_append]
theorem strL_size (a : List UInt8) : (strL a).size = a.length := by simp [strL, ByteArray.size]
theorem conv_one (g c : Nat) (b : Int) (w : World) (h : w.cell? ⟨g, 0, none⟩ = some (.int .u8 b)) (hb : 0 ≤ b ∧ b < 256) : (convert 22 9 (.slice (some ⟨g, 0, none⟩) 1 c)).run Tryd.prog w = .ok (.string (strL [UInt8.ofNat b.toNat])) w := by
  have := run_convert_bytes_arg (P := Tryd.prog) w 22 5 Tryd.underlying22 Tryd.underlying5 g 0 1 c [b] rfl (fun i hi => (by have e : i = 0 := (by omega); subst e; exact h)) 9 Tryd.underlying9
  rw [this]
  rfl
theorem small_digit (n : Nat) (h : n < 10) : IntKind.u8.wrap (48 + (n : Int)) = ((48 + n : Nat) : Int) := by rw [IntKind.wrap_u8]; omega
set_option maxRecDepth 100000 in
set_option maxHeartbeats 1000000 in
theorem big_small (n : Nat) (h : n < 10) (w : World) : Calls Tryd.prog 58 #[.int .u64 n] w fun e w' => e = .returned (.string (strL (Lib.decDigits n))) ∧ Below w.heap.size w w' := by
  have hd := Lib.decDigits_one h
  have h0 : (n : Int) < 10 := by omega
  have CV := conv_one w.heap.size 1 ((48 : Int) + (n : Int)) (w.alloc (.cells #[.int .u8 ((48 : Int) + (n : Int))] 5)) ((Blk.new w _ _).cell 0) (by omega)
  rw [show ((48 : Int) + (n : Int)).toNat = 48 + n from by omega, ← hd] at CV
  generalize Lib.decDigits n = T at *
  clear hd
  go_enter Tryd.func58, Tryd.ntmps58
  go_wp2
  go_ret
  exact ⟨rfl, (Below.refl _ _).alloc (Nat.le_refl _) _⟩
theorem dec_len : ∀ (f n : Nat), n < 10 ^ (f + 1) → (Lib.decDigits n).length ≤ f + 1
  | 0, n, h => by rw [Lib.decDigits_one (by simpa using h)]; simp
  | f + 1, n, h => by
    by_cases h10 : n < 10
    · rw [Lib.decDigits_one h10]; simp
    · rw [Lib.decDigits, dif_neg h10]
      have := dec_len f (n / 10) (by rw [Nat.pow_succ] at h; omega)
      simp
      omega
--BIGSTEP
set_option maxRecDepth 100000 in
set_option maxHeartbeats 1000000 in
theorem big_step (n : Nat) (h : ¬ n < 10) (h64 : n < 1000000000) (IH : ∀ w', Calls Tryd.prog 58 #[.int .u64 ((n / 10 : Nat) : Int)] w' fun e w'' => e = .returned (.string (strL (Lib.decDigits (n / 10)))) ∧ Below w'.heap.size w' w'') (w : World) :
    Calls Tryd.prog 58 #[.int .u64 n] w fun e w' => e = .returned (.string (strL (Lib.decDigits n))) ∧ Below w.heap.size w w' := by
  have hl : (Lib.decDigits (n / 10)).length ≤ 9 := dec_len 8 (n / 10) (by omega)
  have h0 : ¬ (n : Int) < 10 := by omega
  obtain ⟨q, hq⟩ : ∃ q, q = n / 10 := ⟨_, rfl⟩
  obtain ⟨c, hc⟩ : ∃ c, c = 48 + n % 10 := ⟨_, rfl⟩
  obtain ⟨d, hdd⟩ : ∃ d, d = n % 10 := ⟨_, rfl⟩
  have HD := Lib.hid (show Lib.decDigits n = Lib.decDigits q ++ [UInt8.ofNat c] by rw [Lib.decDigits, dif_neg h, hq, hc])
  rw [← hq] at IH hl
  have m0 : IntKind.u64.wrap ((n : Int) / 10) = (q : Int) := by rw [IntKind.wrap_u64]; omega
  have tm : (n : Int).tmod 10 = (d : Int) := by rw [hdd]; exact (Int.ofNat_tmod n 10).symm
  have m1 : IntKind.u64.wrap (48 + (d : Int)) = (c : Int) := by rw [IntKind.wrap_u64]; omega
  have m2 : IntKind.u8.wrap (c : Int) = (c : Int) := by rw [IntKind.wrap_u8]; omega
  have CV := fun g (w : World) (h : w.cell? ⟨g, 0, none⟩ = some (.int .u8 (c : Int))) => conv_one g 1 (c : Int) w h (by omega)
  simp only [Int.toNat_natCast] at CV
  generalize Lib.decDigits q = T at *
  have hn1 : ¬ 9223372036854775807 < (strL T).size + (strL [UInt8.ofNat c]).size := by rw [strL_size, strL_size]; simp; omega
  have HM := Lib.hid (And.intro m0 (And.intro tm (And.intro m1 m2)))
  clear m0 tm m1 m2 hq hc hdd h h64 hl
  go_enter Tryd.func58, Tryd.ntmps58
  go_wp2_with fail
  obtain ⟨m0, tm, m1, m2⟩ := HM.out
  refine wp_region_held_drew (S := (fun _ => True)) (by kernel_rfl) trivial (fun hHeld => ?_)
  refine wpAnyH_take (i := 0) (v := ?_) rfl (by kernel_rfl) (by kernel_rfl) (by kernel_rfl) (fun _ _ _ h => h) (Or.inl ⟨by kernel_rfl, by (intro w' hSw; go_simp; first | done | (with_reducible rfl) | rfl)⟩) hHeld ?_
  (try simp only [Act.put, List.getElem_toArray, List.getElem_cons_zero, List.getElem_cons_succ, List.setIfInBounds_toArray, List.set_cons_zero, List.set_cons_succ])
  refine wpAnyH_take (i := 1) (v := ?_) rfl (by kernel_rfl) (by kernel_rfl) (by kernel_rfl) (fun _ _ _ h => h) (Or.inl ⟨by kernel_rfl, by (intro w' hSw; go_simp; first | done | (with_reducible rfl) | rfl)⟩) hHeld ?_
  (try simp only [Act.put, List.getElem_toArray, List.getElem_cons_zero, List.getElem_cons_succ, List.setIfInBounds_toArray, List.set_cons_zero, List.set_cons_succ])
  refine wpAnyH_take (i := 3) (v := ?_) rfl (by kernel_rfl) (by kernel_rfl) (by kernel_rfl) (fun _ _ _ h => h) (Or.inl ⟨by kernel_rfl, by (intro w' hSw; go_simp; first | done | (with_reducible rfl) | rfl)⟩) hHeld ?_
  (try simp only [Act.put, List.getElem_toArray, List.getElem_cons_zero, List.getElem_cons_succ, List.setIfInBounds_toArray, List.set_cons_zero, List.set_cons_succ])
  refine wpAnyH_take (i := 4) (v := ?_) rfl (by kernel_rfl) (by kernel_rfl) (by kernel_rfl) (fun _ _ _ h => h) (Or.inl ⟨by kernel_rfl, by (intro w' hSw; go_simp; first | done | (with_reducible rfl) | rfl)⟩) hHeld ?_
  (try simp only [Act.put, List.getElem_toArray, List.getElem_cons_zero, List.getElem_cons_succ, List.setIfInBounds_toArray, List.set_cons_zero, List.set_cons_succ])
  refine wpAnyH_take (i := 5) (v := ?_) rfl (by kernel_rfl) (by kernel_rfl) (by kernel_rfl) (fun _ _ _ h => h) (Or.inl ⟨by kernel_rfl, by (intro w' hSw; go_simp; first | done | (with_reducible rfl) | rfl)⟩) hHeld ?_
  (try simp only [Act.put, List.getElem_toArray, List.getElem_cons_zero, List.getElem_cons_succ, List.setIfInBounds_toArray, List.set_cons_zero, List.set_cons_succ])
  refine wpAnyH_take (i := 6) (v := ?_) rfl (by kernel_rfl) (by kernel_rfl) (by kernel_rfl) (fun _ _ _ h => h) (Or.inl ⟨by kernel_rfl, by (intro w' hSw; go_simp; first | done | (with_reducible rfl) | rfl)⟩) hHeld ?_
  (try simp only [Act.put, List.getElem_toArray, List.getElem_cons_zero, List.getElem_cons_succ, List.setIfInBounds_toArray, List.set_cons_zero, List.set_cons_succ])
  refine wpAnyH_ready (rs := [2, 7]) (by kernel_rfl) (by simp) ?_
  refine AllReadyH.cons rfl (fun K hK => ?_) (AllReadyH.cons rfl (fun K hK => ?_) AllReadyH.nil)
  · go_simp
    go_at_call 58; refine (IH _).mono ?_; rintro e2 w2 ⟨rfl, hb2⟩
    try dsimp only
    clear hHeld
    refine hK.out _ _ trivial (fun hHeld => ?_)
    clear hK K
    (try simp only [Act.put, List.getElem_toArray, List.getElem_cons_zero, List.getElem_cons_succ, List.setIfInBounds_toArray, List.set_cons_zero, List.set_cons_succ])
    refine wpAnyH_ready (rs := [7]) (by kernel_rfl) (by simp) ?_
    refine AllReadyH.cons rfl (fun K hK => ?_) AllReadyH.nil
    go_simp
    have hx := Blk.new w2 5 #[.int .u8 (c : Int)]; have cv := CV _ _ (hx.cell 0)
    try dsimp only
    clear hHeld
    refine hK.out _ _ trivial (fun hHeld => ?_)
    clear hK K
    (try simp only [Act.put, List.getElem_toArray, List.getElem_cons_zero, List.getElem_cons_succ, List.setIfInBounds_toArray, List.set_cons_zero, List.set_cons_succ])
    refine wpAnyH_ready (rs := [8]) (by kernel_rfl) (by simp) ?_
    refine AllReadyH.cons rfl (fun K hK => ?_) AllReadyH.nil
    go_simp
    try dsimp only
    clear hHeld
    refine hK.out _ _ trivial (fun hHeld => ?_)
    clear hK K
    (try simp only [Act.put, List.getElem_toArray, List.getElem_cons_zero, List.getElem_cons_succ, List.setIfInBounds_toArray, List.set_cons_zero, List.set_cons_succ])
    refine wpAnyH_take (i := 9) (v := ?_) rfl (by kernel_rfl) (by kernel_rfl) (by kernel_rfl) (fun _ _ _ h => h) (Or.inl ⟨by kernel_rfl, by (intro w' hSw; go_simp; first | done | (with_reducible rfl) | rfl)⟩) hHeld ?_
    (try simp only [Act.put, List.getElem_toArray, List.getElem_cons_zero, List.getElem_cons_succ, List.setIfInBounds_toArray, List.set_cons_zero, List.set_cons_succ])
    refine wpAnyH_take (i := 10) (v := ?_) rfl (by kernel_rfl) (by kernel_rfl) (by kernel_rfl) (fun _ _ _ h => h) (Or.inl ⟨by kernel_rfl, by (intro w' hSw; go_simp; first | done | (with_reducible rfl) | rfl)⟩) hHeld ?_
    (try simp only [Act.put, List.getElem_toArray, List.getElem_cons_zero, List.getElem_cons_succ, List.setIfInBounds_toArray, List.set_cons_zero, List.set_cons_succ])
    refine wpAnyH_done (by kernel_rfl) ?_ _
    go_wp2_with fail
    go_ret
    exact ⟨by show Ending.returned (Value.string (strL T ++ strL [UInt8.ofNat c])) = _; rw [HD.out, str_add], ((((Below.refl w.heap.size w).drew).trans hb2).alloc (by first | exact hb2.size | simp) _)⟩
  · go_simp
    have hx : Blk (w.drew.alloc (.cells #[.int .u8 (c : Int)] 5)) w.heap.size 5 #[.int .u8 (c : Int)] := Blk.new w.drew 5 #[.int .u8 (c : Int)]; have cv := CV _ _ (hx.cell 0)
    try dsimp only
    clear hHeld
    refine hK.out _ _ trivial (fun hHeld => ?_)
    clear hK K
    (try simp only [Act.put, List.getElem_toArray, List.getElem_cons_zero, List.getElem_cons_succ, List.setIfInBounds_toArray, List.set_cons_zero, List.set_cons_succ])
    refine wpAnyH_ready (rs := [2, 8]) (by kernel_rfl) (by simp) ?_
    refine AllReadyH.cons rfl (fun K hK => ?_) (AllReadyH.cons rfl (fun K hK => ?_) AllReadyH.nil)
    · go_simp
      go_at_call 58; refine (IH _).mono ?_; rintro e2 w2 ⟨rfl, hb2⟩; (have hx := hx.below hb2 hx.lt); (have cv := CV _ _ (hx.cell 0))
      try dsimp only
      clear hHeld
      refine hK.out _ _ trivial (fun hHeld => ?_)
      clear hK K
      (try simp only [Act.put, List.getElem_toArray, List.getElem_cons_zero, List.getElem_cons_succ, List.setIfInBounds_toArray, List.set_cons_zero, List.set_cons_succ])
      refine wpAnyH_ready (rs := [8]) (by kernel_rfl) (by simp) ?_
      refine AllReadyH.cons rfl (fun K hK => ?_) AllReadyH.nil
      go_simp
      try dsimp only
      clear hHeld
      refine hK.out _ _ trivial (fun hHeld => ?_)
      clear hK K
      (try simp only [Act.put, List.getElem_toArray, List.getElem_cons_zero, List.getElem_cons_succ, List.setIfInBounds_toArray, List.set_cons_zero, List.set_cons_succ])
      refine wpAnyH_take (i := 9) (v := ?_) rfl (by kernel_rfl) (by kernel_rfl) (by kernel_rfl) (fun _ _ _ h => h) (Or.inl ⟨by kernel_rfl, by (intro w' hSw; go_simp; first | done | (with_reducible rfl) | rfl)⟩) hHeld ?_
      (try simp only [Act.put, List.getElem_toArray, List.getElem_cons_zero, List.getElem_cons_succ, List.setIfInBounds_toArray, List.set_cons_zero, List.set_cons_succ])
      refine wpAnyH_take (i := 10) (v := ?_) rfl (by kernel_rfl) (by kernel_rfl) (by kernel_rfl) (fun _ _ _ h => h) (Or.inl ⟨by kernel_rfl, by (intro w' hSw; go_simp; first | done | (with_reducible rfl) | rfl)⟩) hHeld ?_
      (try simp only [Act.put, List.getElem_toArray, List.getElem_cons_zero, List.getElem_cons_succ, List.setIfInBounds_toArray, List.set_cons_zero, List.set_cons_succ])
      refine wpAnyH_done (by kernel_rfl) ?_ _
      go_wp2_with fail
      go_ret
      exact ⟨by show Ending.returned (Value.string (strL T ++ strL [UInt8.ofNat c])) = _; rw [HD.out, str_add], ((((Below.refl w.heap.size w).drew).alloc (by first | exact hb2.size | simp) _).trans (hb2.mono (by simp)))⟩
    · go_simp
      try dsimp only
      clear hHeld
      refine hK.out _ _ trivial (fun hHeld => ?_)
      clear hK K
      (try simp only [Act.put, List.getElem_toArray, List.getElem_cons_zero, List.getElem_cons_succ, List.setIfInBounds_toArray, List.set_cons_zero, List.set_cons_succ])
      refine wpAnyH_ready (rs := [2]) (by kernel_rfl) (by simp) ?_
      refine AllReadyH.cons rfl (fun K hK => ?_) AllReadyH.nil
      go_simp
      go_at_call 58; refine (IH _).mono ?_; rintro e2 w2 ⟨rfl, hb2⟩; (have hx := hx.below hb2 hx.lt); (have cv := CV _ _ (hx.cell 0))
      try dsimp only
      clear hHeld
      refine hK.out _ _ trivial (fun hHeld => ?_)
      clear hK K
      (try simp only [Act.put, List.getElem_toArray, List.getElem_cons_zero, List.getElem_cons_succ, List.setIfInBounds_toArray, List.set_cons_zero, List.set_cons_succ])
      refine wpAnyH_take (i := 9) (v := ?_) rfl (by kernel_rfl) (by kernel_rfl) (by kernel_rfl) (fun _ _ _ h => h) (Or.inl ⟨by kernel_rfl, by (intro w' hSw; go_simp; first | done | (with_reducible rfl) | rfl)⟩) hHeld ?_
      (try simp only [Act.put, List.getElem_toArray, List.getElem_cons_zero, List.getElem_cons_succ, List.setIfInBounds_toArray, List.set_cons_zero, List.set_cons_succ])
      refine wpAnyH_take (i := 10) (v := ?_) rfl (by kernel_rfl) (by kernel_rfl) (by kernel_rfl) (fun _ _ _ h => h) (Or.inl ⟨by kernel_rfl, by (intro w' hSw; go_simp; first | done | (with_reducible rfl) | rfl)⟩) hHeld ?_
      (try simp only [Act.put, List.getElem_toArray, List.getElem_cons_zero, List.getElem_cons_succ, List.setIfInBounds_toArray, List.set_cons_zero, List.set_cons_succ])
      refine wpAnyH_done (by kernel_rfl) ?_ _
      go_wp2_with fail
      go_ret
      exact ⟨by show Ending.returned (Value.string (strL T ++ strL [UInt8.ofNat c])) = _; rw [HD.out, str_add], ((((Below.refl w.heap.size w).drew).alloc (by first | exact hb2.size | simp) _).trans (hb2.mono (by simp)))⟩
theorem big_is (n : Nat) (h : n < 1000000000) : ∀ w, Calls Tryd.prog 58 #[.int .u64 n] w fun e w' => e = .returned (.string (strL (Lib.decDigits n))) ∧ Below w.heap.size w w' := by
  induction n using Nat.strongRecOn with
  | _ n ih =>
    intro w
    by_cases h10 : n < 10
    · exact big_small n h10 w
    · exact big_step n h10 h (ih (n / 10) (by omega) (by omega)) w
theorem tI_str {z : Int} (h : z.natAbs < 1000000) : tI z = strL (Lib.itoa z) := by unfold tI strL; rw [numT_itoa h]
set_option maxRecDepth 100000 in
set_option maxHeartbeats 1000000 in
theorem refNum_is (z : Int) (h : z.natAbs < 1000000000) (w : World) : Calls Tryd.prog 44 #[.int .i64 z] w fun e w' => e = .returned (.string (strL (Lib.itoa z))) ∧ Below w.heap.size w w' := by
  obtain ⟨u, hu⟩ : ∃ u, u = z.natAbs := ⟨_, rfl⟩
  have BG := big_is u (by omega)
  by_cases hz : z < 0
  · have e : strL (Lib.itoa z) = (⟨#[45]⟩ : ByteArray) ++ strL (Lib.decDigits u) := by
      unfold Lib.itoa
      rw [if_pos hz, ← hu, show (⟨#[45]⟩ : ByteArray) = strL [45] from rfl, str_add]
      rfl
    rw [e]
    have hl := dec_len 8 u (by omega)
    have hn1 : ¬ 9223372036854775807 < 1 + (strL (Lib.decDigits u)).size := by rw [strL_size]; omega
    generalize Lib.decDigits u = T at *
    have m1 : IntKind.u64.wrap (-(z + 1)) + 1 = (u : Int) := by rw [IntKind.wrap_u64]; omega
    have m2 : (-(z + 1)) + 1 = (u : Int) := by omega
    have HU := Lib.hid (And.intro hu (And.intro m1 m2))
    have hb0 : -1000000000 < z := by omega
    clear hu m1 m2 h hl e
    go_enter Tryd.func44, Tryd.ntmps44
    go_wp2_with (go_at_call 58; rw [HU.out.2.2]; refine (BG _).mono ?_; rintro e2 w2 ⟨rfl, hb2⟩)
    go_ret
    exact ⟨rfl, hb2⟩
  · have e : strL (Lib.itoa z) = strL (Lib.decDigits u) := by
      unfold Lib.itoa
      rw [if_neg hz, show z.toNat = u from by omega]
    rw [e]
    obtain rfl : z = (u : Int) := by omega
    have hz' : ¬ (u : Int) < 0 := by omega
    clear hu e hz
    go_enter Tryd.func44, Tryd.ntmps44
    go_wp2_with (go_at_call 58; refine (BG _).mono ?_; rintro e2 w2 ⟨rfl, hb2⟩)
    go_ret
    exact ⟨rfl, hb2⟩
end Go.Proofs.YtnbkpminecoddaaDoor
