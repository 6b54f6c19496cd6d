/- The law CodeJumps, by walk. -/
import Derived.Test.YtnbkpminecoddaaDoorCodeTextsL
import Derived.Deep.RegionHeld3
import Derived.OrdersHeld
namespace Go.Proofs.YtnbkpminecoddaaDoor
open Go.RowKit
set_option linter.unusedVariables false
set_option linter.unusedSimpArgs false

theorem and255 (z : Int) : bits .and .i64 z 255 = z % 256 := by
  show IntKind.i64.wrap (((BitVec.ofInt 64 z &&& BitVec.ofInt 64 255).toNat : Nat) : Int) = _
  have h1 : (BitVec.ofInt 64 255).toNat = 2 ^ 8 - 1 := by decide
  rw [BitVec.toNat_and, h1, Nat.and_two_pow_sub_one_eq_mod, BitVec.toNat_ofInt, IntKind.wrap_i64]
  omega
theorem jump_dist {n : Int} (h0 : 0 ≤ n) (h1 : n < 65536) : -32768 ≤ jmpN n ∧ jmpN n ≤ 32767 := by unfold jmpN; split <;> omega
set_option maxRecDepth 100000 in
set_option maxHeartbeats 4000000 in
theorem jumps_walk (b c : Int) (w : World) (he : Env w) :
    Calls Tryd.prog 7 #[.int .i64 b, .int .i64 c] w fun e w' => e = .returned (.bool true) ∧ Below w.heap.size w w' := by
  obtain ⟨B, hB⟩ : ∃ B, B = b % 256 := ⟨_, rfl⟩
  obtain ⟨C, hC⟩ : ∃ C, C = c % 256 := ⟨_, rfl⟩
  have hb : bits .and .i64 b 255 = B := by rw [and255, hB]
  have hc : bits .and .i64 c 255 = C := by rw [and255, hC]
  have hB0 : 0 ≤ B := by omega
  have hB1 : B < 256 := by omega
  have hC0 : 0 ≤ C := by omega
  have hC1 : C < 256 := by omega
  clear hB hC
  have J1 := fun w => jumpc_is 5 0 B C w
  rw [jmp_same ⟨hB0, hB1⟩ ⟨hC0, hC1⟩] at J1
  have J2 := fun w => refJump_is 5 0 B C ⟨hB0, hB1⟩ ⟨hC0, hC1⟩ w
  have N1 := fun w => number_is 5 0 B C w
  rw [numR_val hB0 hB1 hC0 hC1] at N1
  have N2 := fun w => refNumber_is 5 0 B C ⟨hB0, hB1⟩ ⟨hC0, hC1⟩ w
  simp only [insV] at J1 J2 N1 N2
  obtain ⟨hd1, hd2⟩ := jump_dist (n := 256 * B + C) (by omega) (by omega)
  have hd1' : ¬ jmpN (256 * B + C) < -32768 := by omega
  have hd2' : ¬ 32767 < jmpN (256 * B + C) := by omega
  clear hd1 hd2
  generalize jmpN (256 * B + C) = N at *
  generalize 256 * B + C = M at *
  have h5b : (0 : Int) ≤ 5 ∧ (5 : Int) < 256 := ⟨by decide, by decide⟩
  have h0b : (0 : Int) ≤ 0 ∧ (0 : Int) < 256 := ⟨by decide, by decide⟩
  have IA := fun W => ins_at W (5, 0, B, C) ⟨h5b, h0b, ⟨hB0, hB1⟩, ⟨hC0, hC1⟩⟩
  simp only at IA
  obtain ⟨bl, hbl⟩ : ∃ bl, bl = insL (D4 (5, 0, B, C)) 1 := ⟨_, rfl⟩
  have BY := fun W => bytes_any _ 1 1 _ _ (by omega) (IA W)
  rw [← hbl] at BY
  replace hbl : bl = [5, 0, UInt8.ofNat B.toNat, UInt8.ofNat C.toNat] := hbl
  have HL4 := Lib.hid (And.intro (show ((bl.length : Int) == 4) = true by rw [hbl]; rfl) (And.intro (show (2 : Int) < (bl.length : Int) by rw [hbl]; simp) (show (3 : Int) < (bl.length : Int) by rw [hbl]; simp)))
  have hl1024 : ¬ 1024 < bl.length := by rw [hbl]; simp
  have hB2 : ((UInt8.ofNat B.toNat).toNat : Int) = B := by rw [UInt8.toNat_ofNat', Nat.mod_eq_of_lt (by omega)]; omega
  have hC2 : ((UInt8.ofNat C.toNat).toNat : Int) = C := by rw [UInt8.toNat_ofNat', Nat.mod_eq_of_lt (by omega)]; omega
  have HBL := Lib.hid (And.intro hbl (And.intro hB2 hC2))
  clear hbl hB2 hC2
  have ht : Tab w := he.2.1
  go_enter Tryd.func7, Tryd.ntmps7
  have B0 := (Below.refl w.heap.size w).alloc (Nat.le_refl _) (.cells #[.int .u8 5, .int .u8 0, .int .u8 B, .int .u8 C] 26)
  have I0 := Blk.new w 26 #[.int .u8 5, .int .u8 0, .int .u8 B, .int .u8 C]
  go_wp2_with (first | ((with_reducible refine load_ins (o := ⟨some 16, .load 26 (.tmp 5), _, _, _, _⟩) (I0) ?_ (.tmp 5) ?_ ?_ ?_); exact rfl; exact rfl; exact rfl; simp only [insV]) | (go_at_call 16; refine (J1 _).mono ?_; rintro e1 w1 ⟨rfl, hb1⟩))
  have I1 := (I0.below hb1 I0.lt).drew
  have BB1 := (B0.trans (hb1.mono B0.size)).drew
  obtain ⟨g5, hg5⟩ : ∃ g5, g5 = w.heap.size := ⟨_, rfl⟩
  simp only [← hg5] at I1 ⊢
  have hlt5 := I1.lt
  have q0 := I1.cell 0
  have q1 := I1.cell 1
  have q2 := I1.cell 2
  have q3 := I1.cell 3
  simp only [List.getElem?_toArray, List.getElem?_cons_zero, List.getElem?_cons_succ] at q0 q1 q2 q3
  have hS0 : (fun w' => w'.cell? ⟨g5, 0, none⟩ = some (.int .u8 5) ∧ w'.cell? ⟨g5, 1, none⟩ = some (.int .u8 0) ∧ w'.cell? ⟨g5, 2, none⟩ = some (.int .u8 B) ∧ w'.cell? ⟨g5, 3, none⟩ = some (.int .u8 C)) w1.drew := ⟨q0, q1, q2, q3⟩
  have HS := Lib.hid (show ∀ w', Below w1.drew.heap.size w1.drew w' → (fun w' => w'.cell? ⟨g5, 0, none⟩ = some (.int .u8 5) ∧ w'.cell? ⟨g5, 1, none⟩ = some (.int .u8 0) ∧ w'.cell? ⟨g5, 2, none⟩ = some (.int .u8 B) ∧ w'.cell? ⟨g5, 3, none⟩ = some (.int .u8 C)) w' from fun w' hb' => ⟨(hb'.cell (p := ⟨g5, 0, none⟩) hlt5).trans q0, (hb'.cell (p := ⟨g5, 1, none⟩) hlt5).trans q1, (hb'.cell (p := ⟨g5, 2, none⟩) hlt5).trans q2, (hb'.cell (p := ⟨g5, 3, none⟩) hlt5).trans q3⟩)
  have HX := Lib.hid (And.intro hg5 (And.intro I1 BB1))
  clear q0 q1 q2 q3 hlt5 hg5 I1 BB1 I0 B0 hb1
  refine wp_region_held_drew (S := (fun w' => w'.cell? ⟨g5, 0, none⟩ = some (.int .u8 5) ∧ w'.cell? ⟨g5, 1, none⟩ = some (.int .u8 0) ∧ w'.cell? ⟨g5, 2, none⟩ = some (.int .u8 B) ∧ w'.cell? ⟨g5, 3, none⟩ = some (.int .u8 C))) (by kernel_rfl) hS0 (fun hHeld => ?_)
  refine wpAnyH_take (i := 0) (v := ?_) rfl (by kernel_rfl) (by kernel_rfl) (by kernel_rfl) (fun _ _ _ h => h) (Or.inl ⟨by kernel_rfl, by (intro w' hSw; obtain ⟨e0, e1, e2, e3⟩ := hSw; go_simp; first | done | (with_reducible rfl) | rfl)⟩) hHeld ?_
  (try simp only [Act.put, List.getElem_toArray, List.getElem_cons_zero, List.getElem_cons_succ, List.setIfInBounds_toArray, List.set_cons_zero, List.set_cons_succ])
  refine wpAnyH_take (i := 1) (v := (.agg #[.int .u8 5, .int .u8 0, .int .u8 B, .int .u8 C])) rfl (by kernel_rfl) (by kernel_rfl) (by kernel_rfl) (fun _ _ _ h => h) (Or.inl ⟨by kernel_rfl, by (intro w' hSw; obtain ⟨e0, e1, e2, e3⟩ := hSw; go_simp; first | done | (with_reducible rfl) | rfl)⟩) hHeld ?_
  (try simp only [Act.put, List.getElem_toArray, List.getElem_cons_zero, List.getElem_cons_succ, List.setIfInBounds_toArray, List.set_cons_zero, List.set_cons_succ])
  refine wpAnyH_ready (rs := [2]) (by kernel_rfl) (by simp) ?_
  refine AllReadyH.cons rfl (fun K hK => ?_) AllReadyH.nil
  go_simp
  go_at_call 17; refine (J2 _).mono ?_; rintro eA wA ⟨rfl, hbA⟩
  dsimp only
  clear hHeld
  refine hK.out _ _ (HS.out _ hbA) (fun hHeld => ?_)
  clear hK K
  (try simp only [Act.put, List.getElem_toArray, List.getElem_cons_zero, List.getElem_cons_succ, List.setIfInBounds_toArray, List.set_cons_zero, List.set_cons_succ])
  refine wpAnyH_take (i := 3) (v := (.bool false)) rfl (by kernel_rfl) (by kernel_rfl) (by kernel_rfl) (fun _ _ _ h => h) (Or.inl ⟨by kernel_rfl, by (intro w' hSw; obtain ⟨e0, e1, e2, e3⟩ := hSw; go_simp; first | done | (with_reducible rfl) | rfl)⟩) hHeld ?_
  (try simp only [Act.put, List.getElem_toArray, List.getElem_cons_zero, List.getElem_cons_succ, List.setIfInBounds_toArray, List.set_cons_zero, List.set_cons_succ])
  refine wpAnyH_take (i := 4) (v := ?_) rfl (by kernel_rfl) (by kernel_rfl) (by kernel_rfl) (fun _ _ _ h => h) (Or.inl ⟨by kernel_rfl, by (intro w' hSw; obtain ⟨e0, e1, e2, e3⟩ := hSw; go_simp; first | done | (with_reducible rfl) | rfl)⟩) hHeld ?_
  (try simp only [Act.put, List.getElem_toArray, List.getElem_cons_zero, List.getElem_cons_succ, List.setIfInBounds_toArray, List.set_cons_zero, List.set_cons_succ])
  refine wpAnyH_take (i := 5) (v := ?_) rfl (by kernel_rfl) (by kernel_rfl) (by kernel_rfl) (fun _ _ _ h => h) (Or.inl ⟨by kernel_rfl, by (intro w' hSw; obtain ⟨e0, e1, e2, e3⟩ := hSw; go_simp; first | done | (with_reducible rfl) | rfl)⟩) hHeld ?_
  (try simp only [Act.put, List.getElem_toArray, List.getElem_cons_zero, List.getElem_cons_succ, List.setIfInBounds_toArray, List.set_cons_zero, List.set_cons_succ])
  refine wpAnyH_take (i := 6) (v := (.bool false)) rfl (by kernel_rfl) (by kernel_rfl) (by kernel_rfl) (fun _ _ _ h => h) (Or.inl ⟨by kernel_rfl, by (intro w' hSw; obtain ⟨e0, e1, e2, e3⟩ := hSw; go_simp; first | done | (with_reducible rfl) | rfl)⟩) hHeld ?_
  (try simp only [Act.put, List.getElem_toArray, List.getElem_cons_zero, List.getElem_cons_succ, List.setIfInBounds_toArray, List.set_cons_zero, List.set_cons_succ])
  refine wpAnyH_take (i := 7) (v := (.bool false)) rfl (by kernel_rfl) (by kernel_rfl) (by kernel_rfl) (fun _ _ _ h => h) (Or.inl ⟨by kernel_rfl, by (intro w' hSw; obtain ⟨e0, e1, e2, e3⟩ := hSw; go_simp; first | done | (with_reducible rfl) | rfl)⟩) hHeld ?_
  (try simp only [Act.put, List.getElem_toArray, List.getElem_cons_zero, List.getElem_cons_succ, List.setIfInBounds_toArray, List.set_cons_zero, List.set_cons_succ])
  refine wpAnyH_take (i := 8) (v := ?_) rfl (by kernel_rfl) (by kernel_rfl) (by kernel_rfl) (fun _ _ _ h => h) (Or.inl ⟨by kernel_rfl, by (intro w' hSw; obtain ⟨e0, e1, e2, e3⟩ := hSw; go_simp; first | done | (with_reducible rfl) | rfl)⟩) hHeld ?_
  (try simp only [Act.put, List.getElem_toArray, List.getElem_cons_zero, List.getElem_cons_succ, List.setIfInBounds_toArray, List.set_cons_zero, List.set_cons_succ])
  refine wpAnyH_take (i := 9) (v := ?_) rfl (by kernel_rfl) (by kernel_rfl) (by kernel_rfl) (fun _ _ _ h => h) (Or.inl ⟨by kernel_rfl, by (intro w' hSw; obtain ⟨e0, e1, e2, e3⟩ := hSw; go_simp; first | done | (with_reducible rfl) | rfl)⟩) hHeld ?_
  (try simp only [Act.put, List.getElem_toArray, List.getElem_cons_zero, List.getElem_cons_succ, List.setIfInBounds_toArray, List.set_cons_zero, List.set_cons_succ])
  refine wpAnyH_take (i := 10) (v := (.bool false)) rfl (by kernel_rfl) (by kernel_rfl) (by kernel_rfl) (fun _ _ _ h => h) (Or.inl ⟨by kernel_rfl, by (intro w' hSw; obtain ⟨e0, e1, e2, e3⟩ := hSw; go_simp; first | done | (with_reducible rfl) | rfl)⟩) hHeld ?_
  (try simp only [Act.put, List.getElem_toArray, List.getElem_cons_zero, List.getElem_cons_succ, List.setIfInBounds_toArray, List.set_cons_zero, List.set_cons_succ])
  refine wpAnyH_take (i := 11) (v := (.bool false)) rfl (by kernel_rfl) (by kernel_rfl) (by kernel_rfl) (fun _ _ _ h => h) (Or.inl ⟨by kernel_rfl, by (intro w' hSw; obtain ⟨e0, e1, e2, e3⟩ := hSw; go_simp; first | done | (with_reducible rfl) | rfl)⟩) hHeld ?_
  (try simp only [Act.put, List.getElem_toArray, List.getElem_cons_zero, List.getElem_cons_succ, List.setIfInBounds_toArray, List.set_cons_zero, List.set_cons_succ])
  refine wpAnyH_take (i := 12) (v := ?_) rfl (by kernel_rfl) (by kernel_rfl) (by kernel_rfl) (fun _ _ _ h => h) (Or.inl ⟨by kernel_rfl, by (intro w' hSw; obtain ⟨e0, e1, e2, e3⟩ := hSw; go_simp; first | done | (with_reducible rfl) | rfl)⟩) hHeld ?_
  (try simp only [Act.put, List.getElem_toArray, List.getElem_cons_zero, List.getElem_cons_succ, List.setIfInBounds_toArray, List.set_cons_zero, List.set_cons_succ])
  refine wpAnyH_take (i := 13) (v := (.agg #[.int .u8 5, .int .u8 0, .int .u8 B, .int .u8 C])) rfl (by kernel_rfl) (by kernel_rfl) (by kernel_rfl) (fun _ _ _ h => h) (Or.inl ⟨by kernel_rfl, by (intro w' hSw; obtain ⟨e0, e1, e2, e3⟩ := hSw; go_simp; first | done | (with_reducible rfl) | rfl)⟩) hHeld ?_
  (try simp only [Act.put, List.getElem_toArray, List.getElem_cons_zero, List.getElem_cons_succ, List.setIfInBounds_toArray, List.set_cons_zero, List.set_cons_succ])
  refine wpAnyH_take (i := 15) (v := (.agg #[.int .u8 5, .int .u8 0, .int .u8 B, .int .u8 C])) rfl (by kernel_rfl) (by kernel_rfl) (by kernel_rfl) (fun _ _ _ h => h) (Or.inl ⟨by kernel_rfl, by (intro w' hSw; obtain ⟨e0, e1, e2, e3⟩ := hSw; go_simp; first | done | (with_reducible rfl) | rfl)⟩) hHeld ?_
  (try simp only [Act.put, List.getElem_toArray, List.getElem_cons_zero, List.getElem_cons_succ, List.setIfInBounds_toArray, List.set_cons_zero, List.set_cons_succ])
  refine wpAnyH_ready (rs := [14]) (by kernel_rfl) (by simp) ?_
  refine AllReadyH.cons rfl (fun K hK => ?_) AllReadyH.nil
  go_simp
  go_at_call 14; refine (N1 _).mono ?_; rintro eB wB ⟨rfl, hbB⟩; (have hbB := hbA.trans (hbB.mono hbA.size))
  dsimp only
  clear hHeld
  refine hK.out _ _ (HS.out _ hbB) (fun hHeld => ?_)
  clear hK K
  (try simp only [Act.put, List.getElem_toArray, List.getElem_cons_zero, List.getElem_cons_succ, List.setIfInBounds_toArray, List.set_cons_zero, List.set_cons_succ])
  refine wpAnyH_ready (rs := [16]) (by kernel_rfl) (by simp) ?_
  refine AllReadyH.cons rfl (fun K hK => ?_) AllReadyH.nil
  go_simp
  go_at_call 15; refine (N2 _).mono ?_; rintro eC wC ⟨rfl, hbC⟩; (have hbC := hbB.trans (hbC.mono hbB.size))
  dsimp only
  clear hHeld
  refine hK.out _ _ (HS.out _ hbC) (fun hHeld => ?_)
  clear hK K
  (try simp only [Act.put, List.getElem_toArray, List.getElem_cons_zero, List.getElem_cons_succ, List.setIfInBounds_toArray, List.set_cons_zero, List.set_cons_succ])
  refine wpAnyH_take (i := 17) (v := (.bool false)) rfl (by kernel_rfl) (by kernel_rfl) (by kernel_rfl) (fun _ _ _ h => h) (Or.inl ⟨by kernel_rfl, by (intro w' hSw; obtain ⟨e0, e1, e2, e3⟩ := hSw; go_simp; first | done | (with_reducible rfl) | rfl)⟩) hHeld ?_
  (try simp only [Act.put, List.getElem_toArray, List.getElem_cons_zero, List.getElem_cons_succ, List.setIfInBounds_toArray, List.set_cons_zero, List.set_cons_succ])
  refine wpAnyH_take (i := 18) (v := (.bool false)) rfl (by kernel_rfl) (by kernel_rfl) (by kernel_rfl) (fun _ _ _ h => h) (Or.inl ⟨by kernel_rfl, by (intro w' hSw; obtain ⟨e0, e1, e2, e3⟩ := hSw; go_simp; first | done | (with_reducible rfl) | rfl)⟩) hHeld ?_
  (try simp only [Act.put, List.getElem_toArray, List.getElem_cons_zero, List.getElem_cons_succ, List.setIfInBounds_toArray, List.set_cons_zero, List.set_cons_succ])
  refine wpAnyH_done (by kernel_rfl) ?_ _
  have hXs := HX.out
  have I5 := hXs.2.1.below hbC hXs.2.1.lt
  have B5 := hXs.2.2.trans (hbC.mono hXs.2.2.size)
  have HB5 := Lib.hid B5
  have HI5 := Lib.hid I5
  clear hXs hHeld HS hbA hbB hbC B5
  have I5 := HI5.out
  have TX : ∀ A' cap' w', BytesAt w' A' bl cap' → Tab w' → Calls Tryd.prog 18 #[.slice A' bl.length cap'] w' fun e w'' => e = .returned (.string (strL (textL bl))) ∧ Below w'.heap.size w' w'' := fun A' cap' w' h1 h2 => text_any A' bl cap' (by have := hl1024; omega) w' h1 h2
  have OX := of_small bl hl1024
  generalize strL (textL bl) = ts at *
  clear hl1024
  go_wp2_with (first | ((with_reducible refine load_ins (o := ⟨some 38, .load 26 (.tmp 5), _, _, _, _⟩) (I5) ?_ (.tmp 5) ?_ ?_ ?_); exact rfl; exact rfl; exact rfl; simp only [insV]) | (go_at_call 13; refine (BY _).mono ?_; rintro e6 w6 ⟨A6, cap6, rfl, hby6, -, hb6⟩; (have B5' := HB5.out.alloc HB5.out.size (.cells #[.int .u8 5, .int .u8 0, .int .u8 B, .int .u8 C] 26)); (have B6 := B5'.trans (hb6.mono B5'.size)); (have J5 := (HI5.out.alloc (.cells #[.int .u8 5, .int .u8 0, .int .u8 B, .int .u8 C] 26)).below hb6 (HI5.out.alloc (.cells #[.int .u8 5, .int .u8 0, .int .u8 B, .int .u8 C] 26)).lt)) | (go_at_call 18; refine (TX A6 cap6 w6 hby6 (ht.below (B := 0) B6)).mono ?_; rintro e7 w7 ⟨rfl, hb7⟩; (have B7 := B6.trans (hb7.mono B6.size))) | (go_at_call 19; refine (OX w7 (he.below (B := 0) B7)).mono ?_; rintro e8 w8 ⟨A8, cap8, rfl, hby8, -, hb8⟩; (have B8 := B7.trans (hb8.mono B7.size)); (have J8 := (J5.below hb7 J5.lt).below hb8 (J5.below hb7 J5.lt).lt)))
  obtain ⟨hl4, hlt2, hlt3⟩ := HL4.out
  obtain ⟨gl, ol, hAe, hgl, hcl⟩ : ∃ gl ol, A8 = some ⟨gl, ol, none⟩ ∧ gl < w8.heap.size ∧ ∀ i v, bl[i]? = some v → w8.cell? ⟨gl, ol + i, none⟩ = some (.int .u8 (v.toNat : Int)) := by
    rcases hby8.2 with h | ⟨gl, ol, h, hg, hc⟩
    · have := HBL.out.1; rw [h] at this; cases this
    · refine ⟨gl, ol, h, hg, fun i v hv => ?_⟩
      have hi := (List.getElem?_eq_some_iff.1 hv).1
      have hvv := (List.getElem?_eq_some_iff.1 hv).2
      rw [hc i hi, hvv]
  subst hAe
  have c2 := hcl 2 _ (by rw [HBL.out.1]; rfl)
  have c3 := hcl 3 _ (by rw [HBL.out.1]; rfl)
  rw [HBL.out.2.1] at c2
  rw [HBL.out.2.2] at c3
  have HT6 := Lib.hid (ht.below (B := 0) B8.drew)
  have hgl' : gl < w8.drew.heap.size := hgl
  have hg5' := J8.drew.lt
  have q0 := J8.drew.cell 0
  have q1 := J8.drew.cell 1
  have q2 := J8.drew.cell 2
  have q3 := J8.drew.cell 3
  simp only [List.getElem?_toArray, List.getElem?_cons_zero, List.getElem?_cons_succ] at q0 q1 q2 q3
  have hS6 : (fun w' => w'.cell? ⟨g5, 0, none⟩ = some (.int .u8 5) ∧ w'.cell? ⟨g5, 1, none⟩ = some (.int .u8 0) ∧ w'.cell? ⟨g5, 2, none⟩ = some (.int .u8 B) ∧ w'.cell? ⟨g5, 3, none⟩ = some (.int .u8 C) ∧ w'.cell? ⟨gl, ol + 2, none⟩ = some (.int .u8 B) ∧ w'.cell? ⟨gl, ol + 3, none⟩ = some (.int .u8 C)) w8.drew := ⟨q0, q1, q2, q3, c2, c3⟩
  have HS6 := Lib.hid (show ∀ w', Below w8.drew.heap.size w8.drew w' → (fun w' => w'.cell? ⟨g5, 0, none⟩ = some (.int .u8 5) ∧ w'.cell? ⟨g5, 1, none⟩ = some (.int .u8 0) ∧ w'.cell? ⟨g5, 2, none⟩ = some (.int .u8 B) ∧ w'.cell? ⟨g5, 3, none⟩ = some (.int .u8 C) ∧ w'.cell? ⟨gl, ol + 2, none⟩ = some (.int .u8 B) ∧ w'.cell? ⟨gl, ol + 3, none⟩ = some (.int .u8 C)) w' from fun w' hb' => ⟨(hb'.cell (p := ⟨g5, 0, none⟩) hg5').trans q0, (hb'.cell (p := ⟨g5, 1, none⟩) hg5').trans q1, (hb'.cell (p := ⟨g5, 2, none⟩) hg5').trans q2, (hb'.cell (p := ⟨g5, 3, none⟩) hg5').trans q3, (hb'.cell (p := ⟨gl, ol + 2, none⟩) hgl').trans c2, (hb'.cell (p := ⟨gl, ol + 3, none⟩) hgl').trans c3⟩)
  have HB8 := Lib.hid B8.drew
  clear q0 q1 q2 q3 c2 c3 hcl hgl hgl' hg5' B8 B7 B6 B5' J5 J8 hby8 hby6 hb6 hb7 hb8 I5 HB5 HI5
  refine wp_region_held_drew (S := (fun w' => w'.cell? ⟨g5, 0, none⟩ = some (.int .u8 5) ∧ w'.cell? ⟨g5, 1, none⟩ = some (.int .u8 0) ∧ w'.cell? ⟨g5, 2, none⟩ = some (.int .u8 B) ∧ w'.cell? ⟨g5, 3, none⟩ = some (.int .u8 C) ∧ w'.cell? ⟨gl, ol + 2, none⟩ = some (.int .u8 B) ∧ w'.cell? ⟨gl, ol + 3, none⟩ = some (.int .u8 C))) (by kernel_rfl) hS6 (fun hHeld => ?_)
  refine wpAnyH_take (i := 0) (v := ?_) rfl (by kernel_rfl) (by kernel_rfl) (by kernel_rfl) (fun _ _ _ h => h) (Or.inl ⟨by kernel_rfl, by (intro w' hSw; obtain ⟨e0, e1, e2, e3, e4, e5⟩ := hSw; go_simp; first | done | (with_reducible rfl) | rfl)⟩) hHeld ?_
  (try simp only [Act.put, List.getElem_toArray, List.getElem_cons_zero, List.getElem_cons_succ, List.setIfInBounds_toArray, List.set_cons_zero, List.set_cons_succ])
  refine wpAnyH_take (i := 1) (v := (.bool true)) rfl (by kernel_rfl) (by kernel_rfl) (by kernel_rfl) (fun _ _ _ h => h) (Or.inl ⟨by kernel_rfl, by (intro w' hSw; obtain ⟨e0, e1, e2, e3, e4, e5⟩ := hSw; go_simp; first | done | (with_reducible rfl) | rfl)⟩) hHeld ?_
  (try simp only [Act.put, List.getElem_toArray, List.getElem_cons_zero, List.getElem_cons_succ, List.setIfInBounds_toArray, List.set_cons_zero, List.set_cons_succ])
  refine wpAnyH_take (i := 2) (v := ?_) rfl (by kernel_rfl) (by kernel_rfl) (by kernel_rfl) (fun _ _ _ h => h) (Or.inl ⟨by kernel_rfl, by (intro w' hSw; obtain ⟨e0, e1, e2, e3, e4, e5⟩ := hSw; go_simp; first | done | (with_reducible rfl) | rfl)⟩) hHeld ?_
  (try simp only [Act.put, List.getElem_toArray, List.getElem_cons_zero, List.getElem_cons_succ, List.setIfInBounds_toArray, List.set_cons_zero, List.set_cons_succ])
  refine wpAnyH_take (i := 3) (v := ?_) rfl (by kernel_rfl) (by kernel_rfl) (by kernel_rfl) (fun _ _ _ h => h) (Or.inl ⟨by kernel_rfl, by (intro w' hSw; obtain ⟨e0, e1, e2, e3, e4, e5⟩ := hSw; go_simp; first | done | (with_reducible rfl) | rfl)⟩) hHeld ?_
  (try simp only [Act.put, List.getElem_toArray, List.getElem_cons_zero, List.getElem_cons_succ, List.setIfInBounds_toArray, List.set_cons_zero, List.set_cons_succ])
  refine wpAnyH_take (i := 4) (v := ?_) rfl (by kernel_rfl) (by kernel_rfl) (by kernel_rfl) (fun _ _ _ h => h) (Or.inl ⟨by kernel_rfl, by (intro w' hSw; obtain ⟨e0, e1, e2, e3, e4, e5⟩ := hSw; go_simp; first | done | (with_reducible rfl) | rfl)⟩) hHeld ?_
  (try simp only [Act.put, List.getElem_toArray, List.getElem_cons_zero, List.getElem_cons_succ, List.setIfInBounds_toArray, List.set_cons_zero, List.set_cons_succ])
  refine wpAnyH_take (i := 5) (v := (.bool true)) rfl (by kernel_rfl) (by kernel_rfl) (by kernel_rfl) (fun _ _ _ h => h) (Or.inl ⟨by kernel_rfl, by (intro w' hSw; obtain ⟨e0, e1, e2, e3, e4, e5⟩ := hSw; go_simp; first | done | (with_reducible rfl) | rfl)⟩) hHeld ?_
  (try simp only [Act.put, List.getElem_toArray, List.getElem_cons_zero, List.getElem_cons_succ, List.setIfInBounds_toArray, List.set_cons_zero, List.set_cons_succ])
  refine wpAnyH_take (i := 6) (v := (.bool true)) rfl (by kernel_rfl) (by kernel_rfl) (by kernel_rfl) (fun _ _ _ h => h) (Or.inl ⟨by kernel_rfl, by (intro w' hSw; obtain ⟨e0, e1, e2, e3, e4, e5⟩ := hSw; go_simp; first | done | (with_reducible rfl) | rfl)⟩) hHeld ?_
  (try simp only [Act.put, List.getElem_toArray, List.getElem_cons_zero, List.getElem_cons_succ, List.setIfInBounds_toArray, List.set_cons_zero, List.set_cons_succ])
  refine wpAnyH_take (i := 7) (v := ?_) rfl (by kernel_rfl) (by kernel_rfl) (by kernel_rfl) (fun _ _ _ h => h) (Or.inl ⟨by kernel_rfl, by (intro w' hSw; obtain ⟨e0, e1, e2, e3, e4, e5⟩ := hSw; go_simp; first | done | (with_reducible rfl) | rfl)⟩) hHeld ?_
  (try simp only [Act.put, List.getElem_toArray, List.getElem_cons_zero, List.getElem_cons_succ, List.setIfInBounds_toArray, List.set_cons_zero, List.set_cons_succ])
  refine wpAnyH_take (i := 8) (v := ?_) rfl (by kernel_rfl) (by kernel_rfl) (by kernel_rfl) (fun _ _ _ h => h) (Or.inl ⟨by kernel_rfl, by (intro w' hSw; obtain ⟨e0, e1, e2, e3, e4, e5⟩ := hSw; go_simp; first | done | (with_reducible rfl) | rfl)⟩) hHeld ?_
  (try simp only [Act.put, List.getElem_toArray, List.getElem_cons_zero, List.getElem_cons_succ, List.setIfInBounds_toArray, List.set_cons_zero, List.set_cons_succ])
  refine wpAnyH_take (i := 9) (v := ?_) rfl (by kernel_rfl) (by kernel_rfl) (by kernel_rfl) (fun _ _ _ h => h) (Or.inl ⟨by kernel_rfl, by (intro w' hSw; obtain ⟨e0, e1, e2, e3, e4, e5⟩ := hSw; go_simp; first | done | (with_reducible rfl) | rfl)⟩) hHeld ?_
  (try simp only [Act.put, List.getElem_toArray, List.getElem_cons_zero, List.getElem_cons_succ, List.setIfInBounds_toArray, List.set_cons_zero, List.set_cons_succ])
  refine wpAnyH_take (i := 10) (v := ?_) rfl (by kernel_rfl) (by kernel_rfl) (by kernel_rfl) (fun _ _ _ h => h) (Or.inl ⟨by kernel_rfl, by (intro w' hSw; obtain ⟨e0, e1, e2, e3, e4, e5⟩ := hSw; go_simp; first | done | (with_reducible rfl) | rfl)⟩) hHeld ?_
  (try simp only [Act.put, List.getElem_toArray, List.getElem_cons_zero, List.getElem_cons_succ, List.setIfInBounds_toArray, List.set_cons_zero, List.set_cons_succ])
  refine wpAnyH_take (i := 11) (v := ?_) rfl (by kernel_rfl) (by kernel_rfl) (by kernel_rfl) (fun _ _ _ h => h) (Or.inl ⟨by kernel_rfl, by (intro w' hSw; obtain ⟨e0, e1, e2, e3, e4, e5⟩ := hSw; go_simp; first | done | (with_reducible rfl) | rfl)⟩) hHeld ?_
  (try simp only [Act.put, List.getElem_toArray, List.getElem_cons_zero, List.getElem_cons_succ, List.setIfInBounds_toArray, List.set_cons_zero, List.set_cons_succ])
  refine wpAnyH_take (i := 12) (v := ?_) rfl (by kernel_rfl) (by kernel_rfl) (by kernel_rfl) (fun _ _ _ h => h) (Or.inl ⟨by kernel_rfl, by (intro w' hSw; obtain ⟨e0, e1, e2, e3, e4, e5⟩ := hSw; go_simp; first | done | (with_reducible rfl) | rfl)⟩) hHeld ?_
  (try simp only [Act.put, List.getElem_toArray, List.getElem_cons_zero, List.getElem_cons_succ, List.setIfInBounds_toArray, List.set_cons_zero, List.set_cons_succ])
  refine wpAnyH_take (i := 13) (v := (.bool true)) rfl (by kernel_rfl) (by kernel_rfl) (by kernel_rfl) (fun _ _ _ h => h) (Or.inl ⟨by kernel_rfl, by (intro w' hSw; obtain ⟨e0, e1, e2, e3, e4, e5⟩ := hSw; go_simp; first | done | (with_reducible rfl) | rfl)⟩) hHeld ?_
  (try simp only [Act.put, List.getElem_toArray, List.getElem_cons_zero, List.getElem_cons_succ, List.setIfInBounds_toArray, List.set_cons_zero, List.set_cons_succ])
  refine wpAnyH_take (i := 14) (v := (.bool true)) rfl (by kernel_rfl) (by kernel_rfl) (by kernel_rfl) (fun _ _ _ h => h) (Or.inl ⟨by kernel_rfl, by (intro w' hSw; obtain ⟨e0, e1, e2, e3, e4, e5⟩ := hSw; go_simp; first | done | (with_reducible rfl) | rfl)⟩) hHeld ?_
  (try simp only [Act.put, List.getElem_toArray, List.getElem_cons_zero, List.getElem_cons_succ, List.setIfInBounds_toArray, List.set_cons_zero, List.set_cons_succ])
  refine wpAnyH_take (i := 15) (v := ?_) rfl (by kernel_rfl) (by kernel_rfl) (by kernel_rfl) (fun _ _ _ h => h) (Or.inl ⟨by kernel_rfl, by (intro w' hSw; obtain ⟨e0, e1, e2, e3, e4, e5⟩ := hSw; go_simp; first | done | (with_reducible rfl) | rfl)⟩) hHeld ?_
  (try simp only [Act.put, List.getElem_toArray, List.getElem_cons_zero, List.getElem_cons_succ, List.setIfInBounds_toArray, List.set_cons_zero, List.set_cons_succ])
  refine wpAnyH_take (i := 16) (v := ?_) rfl (by kernel_rfl) (by kernel_rfl) (by kernel_rfl) (fun _ _ _ h => h) (Or.inl ⟨by kernel_rfl, by (intro w' hSw; obtain ⟨e0, e1, e2, e3, e4, e5⟩ := hSw; go_simp; first | done | (with_reducible rfl) | rfl)⟩) hHeld ?_
  (try simp only [Act.put, List.getElem_toArray, List.getElem_cons_zero, List.getElem_cons_succ, List.setIfInBounds_toArray, List.set_cons_zero, List.set_cons_succ])
  refine wpAnyH_take (i := 17) (v := ?_) rfl (by kernel_rfl) (by kernel_rfl) (by kernel_rfl) (fun _ _ _ h => h) (Or.inl ⟨by kernel_rfl, by (intro w' hSw; obtain ⟨e0, e1, e2, e3, e4, e5⟩ := hSw; go_simp; first | done | (with_reducible rfl) | rfl)⟩) hHeld ?_
  (try simp only [Act.put, List.getElem_toArray, List.getElem_cons_zero, List.getElem_cons_succ, List.setIfInBounds_toArray, List.set_cons_zero, List.set_cons_succ])
  refine wpAnyH_take (i := 18) (v := ?_) rfl (by kernel_rfl) (by kernel_rfl) (by kernel_rfl) (fun _ _ _ h => h) (Or.inl ⟨by kernel_rfl, by (intro w' hSw; obtain ⟨e0, e1, e2, e3, e4, e5⟩ := hSw; go_simp; first | done | (with_reducible rfl) | rfl)⟩) hHeld ?_
  (try simp only [Act.put, List.getElem_toArray, List.getElem_cons_zero, List.getElem_cons_succ, List.setIfInBounds_toArray, List.set_cons_zero, List.set_cons_succ])
  refine wpAnyH_take (i := 19) (v := ?_) rfl (by kernel_rfl) (by kernel_rfl) (by kernel_rfl) (fun _ _ _ h => h) (Or.inl ⟨by kernel_rfl, by (intro w' hSw; obtain ⟨e0, e1, e2, e3, e4, e5⟩ := hSw; go_simp; first | done | (with_reducible rfl) | rfl)⟩) hHeld ?_
  (try simp only [Act.put, List.getElem_toArray, List.getElem_cons_zero, List.getElem_cons_succ, List.setIfInBounds_toArray, List.set_cons_zero, List.set_cons_succ])
  refine wpAnyH_take (i := 20) (v := ?_) rfl (by kernel_rfl) (by kernel_rfl) (by kernel_rfl) (fun _ _ _ h => h) (Or.inl ⟨by kernel_rfl, by (intro w' hSw; obtain ⟨e0, e1, e2, e3, e4, e5⟩ := hSw; go_simp; first | done | (with_reducible rfl) | rfl)⟩) hHeld ?_
  (try simp only [Act.put, List.getElem_toArray, List.getElem_cons_zero, List.getElem_cons_succ, List.setIfInBounds_toArray, List.set_cons_zero, List.set_cons_succ])
  refine wpAnyH_take (i := 21) (v := (.bool true)) rfl (by kernel_rfl) (by kernel_rfl) (by kernel_rfl) (fun _ _ _ h => h) (Or.inl ⟨by kernel_rfl, by (intro w' hSw; obtain ⟨e0, e1, e2, e3, e4, e5⟩ := hSw; go_simp; first | done | (with_reducible rfl) | rfl)⟩) hHeld ?_
  (try simp only [Act.put, List.getElem_toArray, List.getElem_cons_zero, List.getElem_cons_succ, List.setIfInBounds_toArray, List.set_cons_zero, List.set_cons_succ])
  refine wpAnyH_take (i := 22) (v := (.bool true)) rfl (by kernel_rfl) (by kernel_rfl) (by kernel_rfl) (fun _ _ _ h => h) (Or.inl ⟨by kernel_rfl, by (intro w' hSw; obtain ⟨e0, e1, e2, e3, e4, e5⟩ := hSw; go_simp; first | done | (with_reducible rfl) | rfl)⟩) hHeld ?_
  (try simp only [Act.put, List.getElem_toArray, List.getElem_cons_zero, List.getElem_cons_succ, List.setIfInBounds_toArray, List.set_cons_zero, List.set_cons_succ])
  refine wpAnyH_take (i := 23) (v := ?_) rfl (by kernel_rfl) (by kernel_rfl) (by kernel_rfl) (fun _ _ _ h => h) (Or.inl ⟨by kernel_rfl, by (intro w' hSw; obtain ⟨e0, e1, e2, e3, e4, e5⟩ := hSw; go_simp; first | done | (with_reducible rfl) | rfl)⟩) hHeld ?_
  (try simp only [Act.put, List.getElem_toArray, List.getElem_cons_zero, List.getElem_cons_succ, List.setIfInBounds_toArray, List.set_cons_zero, List.set_cons_succ])
  refine wpAnyH_ready (rs := [24]) (by kernel_rfl) (by simp) ?_
  refine AllReadyH.cons rfl (fun K hK => ?_) AllReadyH.nil
  go_simp
  go_at_call 9; refine (known_is _ HT6.out).mono ?_; rintro eK wK ⟨rfl, hbK⟩
  dsimp only
  clear hHeld
  refine hK.out _ _ (HS6.out _ hbK) (fun hHeld => ?_)
  clear hK K
  (try simp only [Act.put, List.getElem_toArray, List.getElem_cons_zero, List.getElem_cons_succ, List.setIfInBounds_toArray, List.set_cons_zero, List.set_cons_succ])
  refine wpAnyH_take (i := 25) (v := ?_) rfl (by kernel_rfl) (by kernel_rfl) (by kernel_rfl) (fun _ _ _ h => h) (Or.inl ⟨by kernel_rfl, by (intro w' hSw; obtain ⟨e0, e1, e2, e3, e4, e5⟩ := hSw; go_simp; first | done | (with_reducible rfl) | rfl)⟩) hHeld ?_
  (try simp only [Act.put, List.getElem_toArray, List.getElem_cons_zero, List.getElem_cons_succ, List.setIfInBounds_toArray, List.set_cons_zero, List.set_cons_succ])
  refine wpAnyH_take (i := 26) (v := ?_) rfl (by kernel_rfl) (by kernel_rfl) (by kernel_rfl) (fun _ _ _ h => h) (Or.inl ⟨by kernel_rfl, by (intro w' hSw; obtain ⟨e0, e1, e2, e3, e4, e5⟩ := hSw; go_simp; first | done | (with_reducible rfl) | rfl)⟩) hHeld ?_
  (try simp only [Act.put, List.getElem_toArray, List.getElem_cons_zero, List.getElem_cons_succ, List.setIfInBounds_toArray, List.set_cons_zero, List.set_cons_succ])
  refine wpAnyH_done (by kernel_rfl) ?_ _
  go_wp2_with fail
  go_ret
  exact ⟨rfl, HB8.out.trans (hbK.mono HB8.out.size)⟩
end Go.Proofs.YtnbkpminecoddaaDoor
