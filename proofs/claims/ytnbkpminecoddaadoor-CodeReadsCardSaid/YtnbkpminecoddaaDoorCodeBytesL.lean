/- The law CodeBytes, by walk. -/
import Derived.Test.YtnbkpminecoddaaDoorCodeOwn
import Derived.Test.YtnbkpminecoddaaDoorCodeRefD
import Derived.Test.YtnbkpminecoddaaDoorCodeKnown2
import Derived.Test.YtnbkpminecoddaaDoorCodeOpen
import Derived.Deep.QuietTactic
import Derived.BigQuiet
import Derived.Deep.RegionHeld3
import Derived.OrdersHeld
namespace Go.Proofs.YtnbkpminecoddaaDoor
open Go.RowKit
set_option linter.unusedVariables false
set_option linter.unusedSimpArgs false

/-- The bytes of instructions. -/
def insL (D : Nat → Nat → Int) (n : Nat) : List UInt8 := (List.range n).flatMap fun i => [UInt8.ofNat (D i 0).toNat, UInt8.ofNat (D i 1).toNat, UInt8.ofNat (D i 2).toNat, UInt8.ofNat (D i 3).toNat]
theorem insL_len (D : Nat → Nat → Int) : ∀ n, (insL D n).length = 4 * n
  | 0 => rfl
  | n + 1 => by
    have h := insL_len D n
    unfold insL at *
    rw [List.range_succ, List.flatMap_append, List.length_append, h]
    simp
    omega
theorem byteV {z : Int} (h : 0 ≤ z ∧ z < 256) : Value.int .u8 ((UInt8.ofNat z.toNat).toNat : Int) = .int .u8 z := by
  rw [UInt8.toNat_ofNat', Nat.mod_eq_of_lt (by omega), Int.toNat_of_nonneg h.1]
theorem insL_vals (D : Nat → Nat → Int) (hD : ∀ i j, 0 ≤ D i j ∧ D i j < 256) (n : Nat) : (List.range n).flatMap (iV D) = bV (insL D n) := by
  unfold bV insL
  rw [List.map_flatMap]
  congr 1
  funext i
  simp only [List.map_cons, List.map_nil, byteV (hD i 0), byteV (hD i 1), byteV (hD i 2), byteV (hD i 3)]
  rfl
theorem insL_at (D : Nat → Nat → Int) (hD : ∀ i j, 0 ≤ D i j ∧ D i j < 256) : ∀ (n i j : Nat), i < n → j < 4 → dOf (insL D n) (4 * i + j) = D i j
  | 0, i, j, h, _ => absurd h (by omega)
  | n + 1, i, j, h, hj => by
    have e : insL D (n + 1) = insL D n ++ [UInt8.ofNat (D n 0).toNat, UInt8.ofNat (D n 1).toNat, UInt8.ofNat (D n 2).toNat, UInt8.ofNat (D n 3).toNat] := by
      unfold insL
      rw [List.range_succ, List.flatMap_append]
      simp
    have hl := insL_len D n
    unfold dOf
    rw [e, List.getD_eq_getElem?_getD]
    by_cases hi : i < n
    · rw [List.getElem?_append_left (by omega)]
      have := insL_at D hD n i j hi hj
      unfold dOf at this
      rw [List.getD_eq_getElem?_getD] at this
      exact this
    · obtain rfl : i = n := by omega
      rw [List.getElem?_append_right (by omega), hl, show 4 * i + j - 4 * i = j from by omega]
      have := hD i j
      rcases j with _ | _ | _ | _ | j
      · change _ = D i 0; have := hD i 0; simp; omega
      · change _ = D i 1; have := hD i 1; simp; omega
      · change _ = D i 2; have := hD i 2; simp; omega
      · change _ = D i 3; have := hD i 3; simp; omega
      · omega
/-- What is decoded of instructions' bytes: the instruction, or none. -/
theorem decR_ins (D : Nat → Nat → Int) (hD : ∀ i j, 0 ≤ D i j ∧ D i j < 256) (n i : Nat) (hi : i < n) :
    decR (insL D n).length (dOf (insL D n)) (i : Int) = ⟨D i 0, D i 1, D i 2, D i 3, 0⟩ ∨ decR (insL D n).length (dOf (insL D n)) (i : Int) = ⟨0, 0, 0, 0, 7⟩ := by
  have e0 := insL_at D hD n i 0 hi (by omega)
  have e1 := insL_at D hD n i 1 hi (by omega)
  have e2 := insL_at D hD n i 2 hi (by omega)
  have e3 := insL_at D hD n i 3 hi (by omega)
  rw [Nat.add_zero] at e0
  unfold decR
  rw [insL_len, if_neg (by omega), if_neg (by omega)]
  simp only [Int.toNat_natCast, e0, e1, e2, e3]
  split
  · exact .inr rfl
  · split
    · exact .inr rfl
    · exact .inl rfl
theorem decR_all (D : Nat → Nat → Int) (n : Nat) : decR (insL D n).length (dOf (insL D n)) (n : Int) = ⟨0, 0, 0, 0, 4⟩ := by
  unfold decR
  rw [insL_len, if_pos (by omega)]
set_option maxHeartbeats 1000000 in
theorem bytes_none (A : Option Addr) (cap : Nat) (w : World) : Calls Tryd.prog 13 #[.slice A 0 cap] w fun e w' => e = .returned (.slice none 0 0) ∧ Below w.heap.size w w' := by
  go_enter Tryd.func13, Tryd.ntmps13
  go_wp2_with fail
  go_loopw [2, 7] (fun v i wr => v = .slice none 0 0 ∧ i = .int .i64 0 ∧ wr = w) (fun _ i _ => 0)
  case atStart => exact ⟨rfl, rfl, rfl⟩
  case round =>
    obtain ⟨rfl, rfl, rfl⟩ := hrel
    go_wp2
    go_ret
    exact ⟨rfl, Below.refl _ _⟩
/-- code.Bytes: the instructions' bytes, in a row of the call's own. -/
theorem bytes_any (A : Option Addr) (n cap : Nat) (D : Nat → Nat → Int) (w : World) (hn : n ≤ 1024) (h : InsAt w A n cap D) :
    Calls Tryd.prog 13 #[.slice A n cap] w fun e w' => ∃ A' cap', e = .returned (.slice A' (insL D n).length cap') ∧ BytesAt w' A' (insL D n) cap' ∧ (A' = none → cap' = 0) ∧ Below w.heap.size w w' := by
  obtain ⟨hc, hA, hD, hx⟩ := h
  by_cases h0 : n = 0
  · subst h0
    exact (bytes_none A cap w).mono fun e w' ⟨he, hb⟩ => ⟨none, 0, he, ⟨Nat.le_refl _, .inl rfl⟩, fun _ => rfl, hb⟩
  · obtain ⟨g, o, rfl, hg, hcell⟩ := hx (by omega)
    refine (bytes_is g o n cap D w hn hg hcell).mono fun e w' ⟨v, he, hown, hb⟩ => ?_
    rw [insL_vals D hD] at hown
    have hl : n * 4 = (insL D n).length := by rw [insL_len]; omega
    rw [hl] at hown
    obtain ⟨A', cap', rfl, hB, _⟩ := bytes_own hown
    refine ⟨A', cap', he, hB, fun e0 => ?_, hb⟩
    subst e0
    rcases hB.2 with h | ⟨g', o', h, _⟩
    · have := insL_len D n; rw [h] at this; simp at this; omega
    · cases h
/-- Less than 2 in 9: how far there is, by the number. -/
theorem jmp_same {b c : Int} (hb : 0 ≤ b ∧ b < 256) (hc : 0 ≤ c ∧ c < 256) : jmpR b c = jmpN (256 * b + c) := by
  rw [jmpR_val hb.1 hb.2 hc.1 hc.2]; rfl
set_option maxRecDepth 100000 in
set_option maxHeartbeats 4000000 in
theorem bytesL_walk (A : Option Addr) (n cap : Nat) (D : Nat → Nat → Int) (w : World) (h : InsAt w A n cap D) (ht : Tab w) :
    Calls Tryd.prog 4 #[.slice A n cap] w fun e w' => e = .returned (.bool true) ∧ Below w.heap.size w w' := by
  by_cases hbig : n ≤ 300
  · have BY := bytes_any A n cap D w (by omega) h
    obtain ⟨_, _, hD, hx⟩ := h
    have hlen := insL_len D n
    have hdec := decR_ins D hD n
    have hall := decR_all D n
    have hat := insL_at D hD n
    generalize insL D n = bl at BY hlen hdec hall hat
    have DC : ∀ A' cap' w' (pc : Int), BytesAt w' A' bl cap' → Calls Tryd.prog 10 #[.slice A' bl.length cap', .int .i64 pc] w' fun e w'' => e = .returned (.tuple #[(decR bl.length (dOf bl) pc).v, .int .i64 (decR bl.length (dOf bl) pc).e]) ∧ Below w'.heap.size w' w'' := fun A' cap' w' pc hb => decode_is _ _ _ pc w' (hb.code (by omega))
    have DL := Lib.hid (And.intro hdec (And.intro hall hat))
    clear hdec hall hat
    have hlenH := Lib.hid hlen
    have t1 : ((bl.length : Int) == 4 * (n : Int)) = true := by simp; omega
    have t1' : ((bl.length : Int) != 4 * (n : Int)) = false := by simp; omega
    have t2 : ((bl.length : Int) / 4 != (n : Int)) = false := by simp; omega
    have LN := fun (A' : Option Addr) (cap' : Nat) w => len_is A' bl.length cap' (by omega) w
    have eL : ((bl.length / 4 : Nat) : Int) = (bl.length : Int) / 4 := by omega
    simp only [eL] at LN
    clear eL hlen
    obtain ⟨N, hN⟩ : ∃ N, N = bl.length := ⟨_, rfl⟩
    simp only [← hN] at BY DC DL hlenH t1 t1' t2 LN
    have HX := Lib.hid hx
    have HNb := Lib.hid hN
    have hgd : Tryd.prog.eqGuardType Tryd.prog.depth 26 = false := by kernel_rfl
    clear hx hN
    go_enter Tryd.func4, Tryd.ntmps4
    go_wp2_with (first | (go_at_call 13; refine BY.mono ?_; rintro e1 w1 ⟨A', cap', rfl, hb1, hA1, hB1⟩) | (go_at_call 12; refine (LN _ _ _).mono ?_; rintro eL wL ⟨rfl, hwL⟩; subst wL))
    go_loopw [4] (fun v wr => ∃ i : Nat, v = .int .i64 i ∧ i ≤ n ∧ Below w1.heap.size w1 wr) (fun v wr => n - (intOf v).toNat)
    case atStart => exact ⟨0, rfl, Nat.zero_le _, Below.refl _ _⟩
    case round =>
      obtain ⟨i, rfl, hi, hB⟩ := hrel
      by_cases hlt : i < n
      · obtain ⟨g, o, hAe, hg, hc⟩ := HX.out (by omega)
        subst hAe
        have r0 := ((hB1.trans (hB.mono hB1.size)).cell (p := ⟨g, o + i * 4 + 0, none⟩) hg).trans (hc i hlt 0 (by omega))
        have r1 := ((hB1.trans (hB.mono hB1.size)).cell (p := ⟨g, o + i * 4 + 1, none⟩) hg).trans (hc i hlt 1 (by omega))
        have r2 := ((hB1.trans (hB.mono hB1.size)).cell (p := ⟨g, o + i * 4 + 2, none⟩) hg).trans (hc i hlt 2 (by omega))
        have r3 := ((hB1.trans (hB.mono hB1.size)).cell (p := ⟨g, o + i * 4 + 3, none⟩) hg).trans (hc i hlt 3 (by omega))
        rw [Nat.add_zero] at r0
        clear hc
        have hb2 := hb1.below hB
        obtain ⟨g2, o2, hA2, hg2, hc2⟩ : ∃ g2 o2, A' = some ⟨g2, o2, none⟩ ∧ g2 < wr.heap.size ∧ ∀ j, j < 4 → wr.cell? ⟨g2, o2 + (4 * i + j), none⟩ = some (.int .u8 (D i j)) := by
          have hNl := hlenH.out
          have hNb := HNb.out
          rcases hb2.2 with h | ⟨g2, o2, h, hg2, hc2⟩
          · rw [h] at hNb; simp at hNb; omega
          · refine ⟨g2, o2, h, hg2, fun j hj => ?_⟩
            rw [hc2 (4 * i + j) (by omega), ← DL.out.2.2 i j hlt hj]
            unfold dOf
            rw [List.getD_eq_getElem?_getD, List.getElem?_eq_getElem (by omega)]
            rfl
        subst hA2
        have hd := DL.out.1 i hlt
        have CC := fun w' (hb' : Below wr.heap.size wr w') => DC _ cap' w' (i : Int) (hb2.below hb')
        have hk := hD i 0
        have ha := hD i 1
        have hbb := hD i 2
        have hcc := hD i 3
        have z0 := hc2 0 (by omega)
        have z1 := hc2 1 (by omega)
        have z2 := hc2 2 (by omega)
        have z3 := hc2 3 (by omega)
        clear hc2
        generalize D i 0 = k at *
        generalize D i 1 = a at *
        generalize D i 2 = b at *
        generalize D i 3 = c at *
        have N1 := number_is k a b c
        have N2 := refNumber_is k a b c hbb hcc
        have J1 := jumpc_is k a b c
        have J2 := refJump_is k a b c hbb hcc
        rw [numR_val hbb.1 hbb.2 hcc.1 hcc.2] at N1
        rw [jmp_same hbb hcc] at J1
        simp only [insV] at N1 N2 J1 J2
        have m0 : IntKind.i64.wrap (4 * (i : Int)) = ((4 * i : Nat) : Int) := by rw [IntKind.wrap_i64]; omega
        obtain ⟨q, hq⟩ : ∃ q, q = 4 * i := ⟨_, rfl⟩
        have hNl := hlenH.out
        rw [← hq] at m0 z0 z1 z2 z3
        obtain ⟨q1, hq1⟩ : ∃ q1, q1 = q + 1 := ⟨_, rfl⟩
        obtain ⟨q2, hq2⟩ : ∃ q2, q2 = q + 2 := ⟨_, rfl⟩
        obtain ⟨q3, hq3⟩ : ∃ q3, q3 = q + 3 := ⟨_, rfl⟩
        rw [← hq1] at z1
        rw [← hq2] at z2
        rw [← hq3] at z3
        rw [Nat.add_zero] at z0
        have m1 : IntKind.i64.wrap ((q : Int) + 1) = (q1 : Int) := by rw [IntKind.wrap_i64]; omega
        have m2 : IntKind.i64.wrap ((q : Int) + 2) = (q2 : Int) := by rw [IntKind.wrap_i64]; omega
        have m3 : IntKind.i64.wrap ((q : Int) + 3) = (q3 : Int) := by rw [IntKind.wrap_i64]; omega
        have HL := Lib.hid (And.intro (show q < N by omega) (And.intro (show q1 < N by omega) (And.intro (show q2 < N by omega) (show q3 < N by omega))))
        have HM := Lib.hid (And.intro m0 (And.intro m1 (And.intro m2 m3)))
        have hlt1 : (i : Int) < (n : Int) := by omega
        have B5 := (Below.refl wr.heap.size wr).alloc (Nat.le_refl _) (.cells #[.int .u8 k, .int .u8 a, .int .u8 b, .int .u8 c] 26)
        have y0 := (B5.cell (p := ⟨g2, o2 + q, none⟩) hg2).trans z0
        have y1 := (B5.cell (p := ⟨g2, o2 + q1, none⟩) hg2).trans z1
        have y2 := (B5.cell (p := ⟨g2, o2 + q2, none⟩) hg2).trans z2
        have y3 := (B5.cell (p := ⟨g2, o2 + q3, none⟩) hg2).trans z3
        have R5 := Blk.new wr 26 #[.int .u8 k, .int .u8 a, .int .u8 b, .int .u8 c]
        have HY := Lib.hid (And.intro y0 (And.intro y1 (And.intro y2 y3)))
        clear m0 m1 m2 m3 hq hq1 hq2 hq3 y0 y1 y2 y3 z0 z1 z2 z3 hNl
        go_wp2_with fail
        generalize wr.alloc (.cells #[.int .u8 k, .int .u8 a, .int .u8 b, .int .u8 c] 26) = w5 at *
        obtain ⟨m0, m1, m2, m3⟩ := HM.out
        obtain ⟨l0, l1, l2, l3⟩ := HL.out
        obtain ⟨y0, y1, y2, y3⟩ := HY.out
        have q0 := R5.cell 0
        have q1' := R5.cell 1
        have q2' := R5.cell 2
        have q3' := R5.cell 3
        simp only [List.getElem?_toArray, List.getElem?_cons_zero, List.getElem?_cons_succ] at q0 q1' q2' q3'
        go_quiet (fail)
        clear m0 m1 m2 m3 l0 l1 l2 l3 y0 y1 y2 y3 q0 q1' q2' q3' HY HL HM r0 r1 r2 r3
        obtain ⟨g5, hg5⟩ : ∃ g5, g5 = wr.heap.size := ⟨_, rfl⟩
        simp only [← hg5] at R5 ⊢
        have H5 := Lib.hid (And.intro B5 (And.intro hg5 hB))
        clear B5 hg5 hB
        rcases hd with hd | hd
        · rw [hd] at CC
          simp only [Dec.v, insV] at CC
          clear hd
          go_wp2_with (go_at_call 10; refine (CC _ (H5.out.1.drewN_ _)).mono ?_; rintro e6 w6 ⟨rfl, hb6⟩)
          have R6 := (((R5.drewN nq).below hb6 (R5.drewN nq).lt)).alloc (.cells #[.int .u8 k, .int .u8 a, .int .u8 b, .int .u8 c] 26)
          have S6 := Blk.new w6 26 #[.int .u8 k, .int .u8 a, .int .u8 b, .int .u8 c]
          have B6 := ((H5.out.1.drewN_ nq).trans (hb6.mono (H5.out.1.drewN_ nq).size)).alloc (Nat.le_trans (H5.out.1.drewN_ nq).size hb6.size) (.cells #[.int .u8 k, .int .u8 a, .int .u8 b, .int .u8 c] 26)
          obtain ⟨g6, hg6⟩ : ∃ g6, g6 = w6.heap.size := ⟨_, rfl⟩
          simp only [← hg6] at S6 ⊢
          clear hb6 hg6 R5 CC
          generalize w6.alloc (.cells #[.int .u8 k, .int .u8 a, .int .u8 b, .int .u8 c] 26) = w7 at *
          have hlt5 : g5 < w7.drew.heap.size := R6.drew.lt
          have hlt6 : g6 < w7.drew.heap.size := S6.drew.lt
          have q0 := R6.drew.cell 0
          have q1 := R6.drew.cell 1
          have q2 := R6.drew.cell 2
          have q3 := R6.drew.cell 3
          have p0 := S6.drew.cell 0
          have p1 := S6.drew.cell 1
          have p2 := S6.drew.cell 2
          have p3 := S6.drew.cell 3
          simp only [List.getElem?_toArray, List.getElem?_cons_zero, List.getElem?_cons_succ] at q0 q1 q2 q3 p0 p1 p2 p3
          have HNE := fun w => ins_neq k a b c k a b c w
          rw [show (decide ((k : Int) = k ∧ (a : Int) = a ∧ (b : Int) = b ∧ (c : Int) = c)) = true from by simp] at HNE
          have HB6 := Lib.hid (And.intro B6 (And.intro R6 S6))
          clear B6 R6 S6
          have hS0 : (fun w' => w'.cell? ⟨g5, 0, none⟩ = some (.int .u8 k) ∧ w'.cell? ⟨g5, 1, none⟩ = some (.int .u8 a) ∧ w'.cell? ⟨g5, 2, none⟩ = some (.int .u8 b) ∧ w'.cell? ⟨g5, 3, none⟩ = some (.int .u8 c) ∧ w'.cell? ⟨g6, 0, none⟩ = some (.int .u8 k) ∧ w'.cell? ⟨g6, 1, none⟩ = some (.int .u8 a) ∧ w'.cell? ⟨g6, 2, none⟩ = some (.int .u8 b) ∧ w'.cell? ⟨g6, 3, none⟩ = some (.int .u8 c)) w7.drew := ⟨q0, q1, q2, q3, p0, p1, p2, p3⟩
          have HS := Lib.hid (show ∀ w', Below w7.drew.heap.size w7.drew w' → (fun w' => w'.cell? ⟨g5, 0, none⟩ = some (.int .u8 k) ∧ w'.cell? ⟨g5, 1, none⟩ = some (.int .u8 a) ∧ w'.cell? ⟨g5, 2, none⟩ = some (.int .u8 b) ∧ w'.cell? ⟨g5, 3, none⟩ = some (.int .u8 c) ∧ w'.cell? ⟨g6, 0, none⟩ = some (.int .u8 k) ∧ w'.cell? ⟨g6, 1, none⟩ = some (.int .u8 a) ∧ w'.cell? ⟨g6, 2, none⟩ = some (.int .u8 b) ∧ w'.cell? ⟨g6, 3, none⟩ = some (.int .u8 c)) w' from fun w' hb' => ⟨(hb'.cell (p := ⟨g5, 0, none⟩) hlt5).trans q0, (hb'.cell (p := ⟨g5, 1, none⟩) hlt5).trans q1, (hb'.cell (p := ⟨g5, 2, none⟩) hlt5).trans q2, (hb'.cell (p := ⟨g5, 3, none⟩) hlt5).trans q3, (hb'.cell (p := ⟨g6, 0, none⟩) hlt6).trans p0, (hb'.cell (p := ⟨g6, 1, none⟩) hlt6).trans p1, (hb'.cell (p := ⟨g6, 2, none⟩) hlt6).trans p2, (hb'.cell (p := ⟨g6, 3, none⟩) hlt6).trans p3⟩)
          clear q0 q1 q2 q3 p0 p1 p2 p3 hlt5 hlt6
          refine wp_region_held_drew (S := (fun w' => w'.cell? ⟨g5, 0, none⟩ = some (.int .u8 k) ∧ w'.cell? ⟨g5, 1, none⟩ = some (.int .u8 a) ∧ w'.cell? ⟨g5, 2, none⟩ = some (.int .u8 b) ∧ w'.cell? ⟨g5, 3, none⟩ = some (.int .u8 c) ∧ w'.cell? ⟨g6, 0, none⟩ = some (.int .u8 k) ∧ w'.cell? ⟨g6, 1, none⟩ = some (.int .u8 a) ∧ w'.cell? ⟨g6, 2, none⟩ = some (.int .u8 b) ∧ w'.cell? ⟨g6, 3, none⟩ = some (.int .u8 c))) (by kernel_rfl) hS0 (fun hHeld => ?_)
          refine wpAnyH_take (i := 0) (v := ?_) rfl (by kernel_rfl) (by kernel_rfl) (by kernel_rfl) (fun _ _ _ h => h) (Or.inl ⟨by kernel_rfl, by (intro w' hSw; obtain ⟨e0, e1, e2, e3, e4, e5, e6, e7⟩ := hSw; go_simp; first | done | (with_reducible rfl) | rfl)⟩) hHeld ?_
          (try simp only [Act.put, List.getElem_toArray, List.getElem_cons_zero, List.getElem_cons_succ, List.setIfInBounds_toArray, List.set_cons_zero, List.set_cons_succ])
          refine wpAnyH_take (i := 1) (v := ?_) rfl (by kernel_rfl) (by kernel_rfl) (by kernel_rfl) (fun _ _ _ h => h) (Or.inl ⟨by kernel_rfl, by (intro w' hSw; obtain ⟨e0, e1, e2, e3, e4, e5, e6, e7⟩ := hSw; go_simp; first | done | (with_reducible rfl) | rfl)⟩) hHeld ?_
          (try simp only [Act.put, List.getElem_toArray, List.getElem_cons_zero, List.getElem_cons_succ, List.setIfInBounds_toArray, List.set_cons_zero, List.set_cons_succ])
          refine wpAnyH_take (i := 2) (v := ?_) rfl (by kernel_rfl) (by kernel_rfl) (by kernel_rfl) (fun _ _ _ h => h) (Or.inl ⟨by kernel_rfl, by (intro w' hSw; obtain ⟨e0, e1, e2, e3, e4, e5, e6, e7⟩ := hSw; go_simp; first | done | (with_reducible rfl) | rfl)⟩) hHeld ?_
          (try simp only [Act.put, List.getElem_toArray, List.getElem_cons_zero, List.getElem_cons_succ, List.setIfInBounds_toArray, List.set_cons_zero, List.set_cons_succ])
          refine wpAnyH_take (i := 3) (v := undef) rfl (by kernel_rfl) (by kernel_rfl) (by kernel_rfl) (fun _ _ _ h => h) (Or.inr ⟨by kernel_rfl, rfl⟩) hHeld ?_
          (try simp only [Act.put, List.getElem_toArray, List.getElem_cons_zero, List.getElem_cons_succ, List.setIfInBounds_toArray, List.set_cons_zero, List.set_cons_succ])
          refine wpAnyH_take (i := 4) (v := undef) rfl (by kernel_rfl) (by kernel_rfl) (by kernel_rfl) (fun _ _ _ h => h) (Or.inr ⟨by kernel_rfl, rfl⟩) hHeld ?_
          (try simp only [Act.put, List.getElem_toArray, List.getElem_cons_zero, List.getElem_cons_succ, List.setIfInBounds_toArray, List.set_cons_zero, List.set_cons_succ])
          refine wpAnyH_take (i := 5) (v := undef) rfl (by kernel_rfl) (by kernel_rfl) (by kernel_rfl) (fun _ _ _ h => h) (Or.inr ⟨by kernel_rfl, rfl⟩) hHeld ?_
          (try simp only [Act.put, List.getElem_toArray, List.getElem_cons_zero, List.getElem_cons_succ, List.setIfInBounds_toArray, List.set_cons_zero, List.set_cons_succ])
          refine wpAnyH_take (i := 6) (v := undef) rfl (by kernel_rfl) (by kernel_rfl) (by kernel_rfl) (fun _ _ _ h => h) (Or.inr ⟨by kernel_rfl, rfl⟩) hHeld ?_
          (try simp only [Act.put, List.getElem_toArray, List.getElem_cons_zero, List.getElem_cons_succ, List.setIfInBounds_toArray, List.set_cons_zero, List.set_cons_succ])
          refine wpAnyH_take (i := 7) (v := undef) rfl (by kernel_rfl) (by kernel_rfl) (by kernel_rfl) (fun _ _ _ h => h) (Or.inr ⟨by kernel_rfl, rfl⟩) hHeld ?_
          (try simp only [Act.put, List.getElem_toArray, List.getElem_cons_zero, List.getElem_cons_succ, List.setIfInBounds_toArray, List.set_cons_zero, List.set_cons_succ])
          refine wpAnyH_take (i := 8) (v := undef) rfl (by kernel_rfl) (by kernel_rfl) (by kernel_rfl) (fun _ _ _ h => h) (Or.inr ⟨by kernel_rfl, rfl⟩) hHeld ?_
          (try simp only [Act.put, List.getElem_toArray, List.getElem_cons_zero, List.getElem_cons_succ, List.setIfInBounds_toArray, List.set_cons_zero, List.set_cons_succ])
          refine wpAnyH_take (i := 9) (v := undef) rfl (by kernel_rfl) (by kernel_rfl) (by kernel_rfl) (fun _ _ _ h => h) (Or.inr ⟨by kernel_rfl, rfl⟩) hHeld ?_
          (try simp only [Act.put, List.getElem_toArray, List.getElem_cons_zero, List.getElem_cons_succ, List.setIfInBounds_toArray, List.set_cons_zero, List.set_cons_succ])
          refine wpAnyH_take (i := 10) (v := ?_) rfl (by kernel_rfl) (by kernel_rfl) (by kernel_rfl) (fun _ _ _ h => h) (Or.inl ⟨by kernel_rfl, by (intro w' hSw; obtain ⟨e0, e1, e2, e3, e4, e5, e6, e7⟩ := hSw; go_simp; first | done | (with_reducible rfl) | rfl)⟩) hHeld ?_
          (try simp only [Act.put, List.getElem_toArray, List.getElem_cons_zero, List.getElem_cons_succ, List.setIfInBounds_toArray, List.set_cons_zero, List.set_cons_succ])
          refine wpAnyH_take (i := 11) (v := ?_) rfl (by kernel_rfl) (by kernel_rfl) (by kernel_rfl) (fun _ _ _ h => h) (Or.inl ⟨by kernel_rfl, by (intro w' hSw; obtain ⟨e0, e1, e2, e3, e4, e5, e6, e7⟩ := hSw; go_simp; first | done | (with_reducible rfl) | rfl)⟩) hHeld ?_
          (try simp only [Act.put, List.getElem_toArray, List.getElem_cons_zero, List.getElem_cons_succ, List.setIfInBounds_toArray, List.set_cons_zero, List.set_cons_succ])
          refine wpAnyH_take (i := 12) (v := ?_) rfl (by kernel_rfl) (by kernel_rfl) (by kernel_rfl) (fun _ _ _ h => h) (Or.inl ⟨by kernel_rfl, by (intro w' hSw; obtain ⟨e0, e1, e2, e3, e4, e5, e6, e7⟩ := hSw; go_simp; first | done | (with_reducible rfl) | rfl)⟩) hHeld ?_
          (try simp only [Act.put, List.getElem_toArray, List.getElem_cons_zero, List.getElem_cons_succ, List.setIfInBounds_toArray, List.set_cons_zero, List.set_cons_succ])
          refine wpAnyH_take (i := 13) (v := ?_) rfl (by kernel_rfl) (by kernel_rfl) (by kernel_rfl) (fun _ _ _ h => h) (Or.inl ⟨by kernel_rfl, by (intro w' hSw; obtain ⟨e0, e1, e2, e3, e4, e5, e6, e7⟩ := hSw; go_simp; first | done | (with_reducible rfl) | rfl)⟩) hHeld ?_
          (try simp only [Act.put, List.getElem_toArray, List.getElem_cons_zero, List.getElem_cons_succ, List.setIfInBounds_toArray, List.set_cons_zero, List.set_cons_succ])
          refine wpAnyH_take (i := 14) (v := ?_) rfl (by kernel_rfl) (by kernel_rfl) (by kernel_rfl) (fun _ _ _ h => h) (Or.inl ⟨by kernel_rfl, by (intro w' hSw; obtain ⟨e0, e1, e2, e3, e4, e5, e6, e7⟩ := hSw; go_simp; first | done | (with_reducible rfl) | rfl)⟩) hHeld ?_
          (try simp only [Act.put, List.getElem_toArray, List.getElem_cons_zero, List.getElem_cons_succ, List.setIfInBounds_toArray, List.set_cons_zero, List.set_cons_succ])
          refine wpAnyH_take (i := 15) (v := (.agg #[.int .u8 k, .int .u8 a, .int .u8 b, .int .u8 c])) rfl (by kernel_rfl) (by kernel_rfl) (by kernel_rfl) (fun _ _ _ h => h) (Or.inl ⟨by kernel_rfl, by (intro w' hSw; obtain ⟨e0, e1, e2, e3, e4, e5, e6, e7⟩ := hSw; go_simp; first | done | (with_reducible rfl) | rfl)⟩) hHeld ?_
          (try simp only [Act.put, List.getElem_toArray, List.getElem_cons_zero, List.getElem_cons_succ, List.setIfInBounds_toArray, List.set_cons_zero, List.set_cons_succ])
          refine wpAnyH_take (i := 16) (v := (.agg #[.int .u8 k, .int .u8 a, .int .u8 b, .int .u8 c])) rfl (by kernel_rfl) (by kernel_rfl) (by kernel_rfl) (fun _ _ _ h => h) (Or.inl ⟨by kernel_rfl, by (intro w' hSw; obtain ⟨e0, e1, e2, e3, e4, e5, e6, e7⟩ := hSw; go_simp; first | done | (with_reducible rfl) | rfl)⟩) hHeld ?_
          (try simp only [Act.put, List.getElem_toArray, List.getElem_cons_zero, List.getElem_cons_succ, List.setIfInBounds_toArray, List.set_cons_zero, List.set_cons_succ])
          refine wpAnyH_take (i := 17) (v := ?_) rfl (by kernel_rfl) (by kernel_rfl) (by kernel_rfl) (fun _ _ _ h => h) (Or.inl ⟨by kernel_rfl, by (intro w' hSw; obtain ⟨e0, e1, e2, e3, e4, e5, e6, e7⟩ := hSw; go_simp; first | done | (with_reducible rfl) | rfl)⟩) hHeld ?_
          (try simp only [Act.put, List.getElem_toArray, List.getElem_cons_zero, List.getElem_cons_succ, List.setIfInBounds_toArray, List.set_cons_zero, List.set_cons_succ])
          refine wpAnyH_take (i := 18) (v := ?_) rfl (by kernel_rfl) (by kernel_rfl) (by kernel_rfl) (fun _ _ _ h => h) (Or.inl ⟨by kernel_rfl, by (intro w' hSw; obtain ⟨e0, e1, e2, e3, e4, e5, e6, e7⟩ := hSw; go_simp; first | done | (with_reducible rfl) | rfl)⟩) hHeld ?_
          (try simp only [Act.put, List.getElem_toArray, List.getElem_cons_zero, List.getElem_cons_succ, List.setIfInBounds_toArray, List.set_cons_zero, List.set_cons_succ])
          refine wpAnyH_take (i := 19) (v := ?_) rfl (by kernel_rfl) (by kernel_rfl) (by kernel_rfl) (fun _ _ _ h => h) (Or.inl ⟨by kernel_rfl, by (intro w' hSw; obtain ⟨e0, e1, e2, e3, e4, e5, e6, e7⟩ := hSw; go_simp; first | done | (with_reducible rfl) | rfl)⟩) hHeld ?_
          (try simp only [Act.put, List.getElem_toArray, List.getElem_cons_zero, List.getElem_cons_succ, List.setIfInBounds_toArray, List.set_cons_zero, List.set_cons_succ])
          refine wpAnyH_take (i := 20) (v := ?_) rfl (by kernel_rfl) (by kernel_rfl) (by kernel_rfl) (fun _ _ _ h => h) (Or.inl ⟨by kernel_rfl, by (intro w' hSw; obtain ⟨e0, e1, e2, e3, e4, e5, e6, e7⟩ := hSw; go_simp; first | done | (with_reducible rfl) | rfl)⟩) hHeld ?_
          (try simp only [Act.put, List.getElem_toArray, List.getElem_cons_zero, List.getElem_cons_succ, List.setIfInBounds_toArray, List.set_cons_zero, List.set_cons_succ])
          refine wpAnyH_take (i := 21) (v := (.agg #[.int .u8 k, .int .u8 a, .int .u8 b, .int .u8 c])) rfl (by kernel_rfl) (by kernel_rfl) (by kernel_rfl) (fun _ _ _ h => h) (Or.inl ⟨by kernel_rfl, by (intro w' hSw; obtain ⟨e0, e1, e2, e3, e4, e5, e6, e7⟩ := hSw; go_simp; first | done | (with_reducible rfl) | rfl)⟩) hHeld ?_
          (try simp only [Act.put, List.getElem_toArray, List.getElem_cons_zero, List.getElem_cons_succ, List.setIfInBounds_toArray, List.set_cons_zero, List.set_cons_succ])
          refine wpAnyH_take (i := 23) (v := (.agg #[.int .u8 k, .int .u8 a, .int .u8 b, .int .u8 c])) rfl (by kernel_rfl) (by kernel_rfl) (by kernel_rfl) (fun _ _ _ h => h) (Or.inl ⟨by kernel_rfl, by (intro w' hSw; obtain ⟨e0, e1, e2, e3, e4, e5, e6, e7⟩ := hSw; go_simp; first | done | (with_reducible rfl) | rfl)⟩) hHeld ?_
          (try simp only [Act.put, List.getElem_toArray, List.getElem_cons_zero, List.getElem_cons_succ, List.setIfInBounds_toArray, List.set_cons_zero, List.set_cons_succ])
          refine wpAnyH_ready (rs := [22]) (by kernel_rfl) (by simp) ?_
          refine AllReadyH.cons rfl (fun K hK => ?_) AllReadyH.nil
          go_simp
          go_at_call 14; refine (N1 _).mono ?_; rintro eA wA ⟨rfl, hbA⟩
          dsimp only
          clear hHeld
          refine hK.out _ _ (HS.out _ hbA) (fun hHeld => ?_)
          clear hK K
          (try simp only [Act.put, List.getElem_toArray, List.getElem_cons_zero, List.getElem_cons_succ, List.setIfInBounds_toArray, List.set_cons_zero, List.set_cons_succ])
          refine wpAnyH_ready (rs := [24]) (by kernel_rfl) (by simp) ?_
          refine AllReadyH.cons rfl (fun K hK => ?_) AllReadyH.nil
          go_simp
          go_at_call 15; refine (N2 _).mono ?_; rintro eB wB ⟨rfl, hbB⟩; (have hbB := hbA.trans (hbB.mono hbA.size))
          dsimp only
          clear hHeld
          refine hK.out _ _ (HS.out _ hbB) (fun hHeld => ?_)
          clear hK K
          (try simp only [Act.put, List.getElem_toArray, List.getElem_cons_zero, List.getElem_cons_succ, List.setIfInBounds_toArray, List.set_cons_zero, List.set_cons_succ])
          refine wpAnyH_take (i := 25) (v := ?_) rfl (by kernel_rfl) (by kernel_rfl) (by kernel_rfl) (fun _ _ _ h => h) (Or.inl ⟨by kernel_rfl, by (intro w' hSw; obtain ⟨e0, e1, e2, e3, e4, e5, e6, e7⟩ := hSw; go_simp; first | done | (with_reducible rfl) | rfl)⟩) hHeld ?_
          (try simp only [Act.put, List.getElem_toArray, List.getElem_cons_zero, List.getElem_cons_succ, List.setIfInBounds_toArray, List.set_cons_zero, List.set_cons_succ])
          refine wpAnyH_take (i := 26) (v := ?_) rfl (by kernel_rfl) (by kernel_rfl) (by kernel_rfl) (fun _ _ _ h => h) (Or.inl ⟨by kernel_rfl, by (intro w' hSw; obtain ⟨e0, e1, e2, e3, e4, e5, e6, e7⟩ := hSw; go_simp; first | done | (with_reducible rfl) | rfl)⟩) hHeld ?_
          (try simp only [Act.put, List.getElem_toArray, List.getElem_cons_zero, List.getElem_cons_succ, List.setIfInBounds_toArray, List.set_cons_zero, List.set_cons_succ])
          refine wpAnyH_take (i := 27) (v := ?_) rfl (by kernel_rfl) (by kernel_rfl) (by kernel_rfl) (fun _ _ _ h => h) (Or.inl ⟨by kernel_rfl, by (intro w' hSw; obtain ⟨e0, e1, e2, e3, e4, e5, e6, e7⟩ := hSw; go_simp; first | done | (with_reducible rfl) | rfl)⟩) hHeld ?_
          (try simp only [Act.put, List.getElem_toArray, List.getElem_cons_zero, List.getElem_cons_succ, List.setIfInBounds_toArray, List.set_cons_zero, List.set_cons_succ])
          refine wpAnyH_take (i := 28) (v := (.agg #[.int .u8 k, .int .u8 a, .int .u8 b, .int .u8 c])) rfl (by kernel_rfl) (by kernel_rfl) (by kernel_rfl) (fun _ _ _ h => h) (Or.inl ⟨by kernel_rfl, by (intro w' hSw; obtain ⟨e0, e1, e2, e3, e4, e5, e6, e7⟩ := hSw; go_simp; first | done | (with_reducible rfl) | rfl)⟩) hHeld ?_
          (try simp only [Act.put, List.getElem_toArray, List.getElem_cons_zero, List.getElem_cons_succ, List.setIfInBounds_toArray, List.set_cons_zero, List.set_cons_succ])
          refine wpAnyH_take (i := 30) (v := (.agg #[.int .u8 k, .int .u8 a, .int .u8 b, .int .u8 c])) rfl (by kernel_rfl) (by kernel_rfl) (by kernel_rfl) (fun _ _ _ h => h) (Or.inl ⟨by kernel_rfl, by (intro w' hSw; obtain ⟨e0, e1, e2, e3, e4, e5, e6, e7⟩ := hSw; go_simp; first | done | (with_reducible rfl) | rfl)⟩) hHeld ?_
          (try simp only [Act.put, List.getElem_toArray, List.getElem_cons_zero, List.getElem_cons_succ, List.setIfInBounds_toArray, List.set_cons_zero, List.set_cons_succ])
          refine wpAnyH_ready (rs := [29]) (by kernel_rfl) (by simp) ?_
          refine AllReadyH.cons rfl (fun K hK => ?_) AllReadyH.nil
          go_simp
          go_at_call 16; refine (J1 _).mono ?_; rintro eC wC ⟨rfl, hbC⟩; (have hbC := hbB.trans (hbC.mono hbB.size))
          dsimp only
          clear hHeld
          refine hK.out _ _ (HS.out _ hbC) (fun hHeld => ?_)
          clear hK K
          (try simp only [Act.put, List.getElem_toArray, List.getElem_cons_zero, List.getElem_cons_succ, List.setIfInBounds_toArray, List.set_cons_zero, List.set_cons_succ])
          refine wpAnyH_ready (rs := [31]) (by kernel_rfl) (by simp) ?_
          refine AllReadyH.cons rfl (fun K hK => ?_) AllReadyH.nil
          go_simp
          go_at_call 17; refine (J2 _).mono ?_; rintro eD wD ⟨rfl, hbD⟩; (have hbD := hbC.trans (hbD.mono hbC.size))
          dsimp only
          clear hHeld
          refine hK.out _ _ (HS.out _ hbD) (fun hHeld => ?_)
          clear hK K
          (try simp only [Act.put, List.getElem_toArray, List.getElem_cons_zero, List.getElem_cons_succ, List.setIfInBounds_toArray, List.set_cons_zero, List.set_cons_succ])
          refine wpAnyH_take (i := 32) (v := ?_) rfl (by kernel_rfl) (by kernel_rfl) (by kernel_rfl) (fun _ _ _ h => h) (Or.inl ⟨by kernel_rfl, by (intro w' hSw; obtain ⟨e0, e1, e2, e3, e4, e5, e6, e7⟩ := hSw; go_simp; first | done | (with_reducible rfl) | rfl)⟩) hHeld ?_
          (try simp only [Act.put, List.getElem_toArray, List.getElem_cons_zero, List.getElem_cons_succ, List.setIfInBounds_toArray, List.set_cons_zero, List.set_cons_succ])
          refine wpAnyH_take (i := 33) (v := ?_) rfl (by kernel_rfl) (by kernel_rfl) (by kernel_rfl) (fun _ _ _ h => h) (Or.inl ⟨by kernel_rfl, by (intro w' hSw; obtain ⟨e0, e1, e2, e3, e4, e5, e6, e7⟩ := hSw; go_simp; first | done | (with_reducible rfl) | rfl)⟩) hHeld ?_
          (try simp only [Act.put, List.getElem_toArray, List.getElem_cons_zero, List.getElem_cons_succ, List.setIfInBounds_toArray, List.set_cons_zero, List.set_cons_succ])
          refine wpAnyH_done (by kernel_rfl) ?_ _
          have HF := Lib.hid (HB6.out.1.drew.trans (hbD.mono HB6.out.1.drew.size))
          clear hbA hbB hbC hbD hHeld HS
          go_wp2_with fail
          go_roundw
          case rel => exact ⟨i + 1, by go_num, by omega, H5.out.2.2.trans (HF.out.mono H5.out.2.2.size)⟩
          case measure => simp [intOf]; omega
        · rw [hd] at CC
          simp only [Dec.v, insV] at CC
          clear hd
          go_wp2_with (go_at_call 10; refine (CC _ (H5.out.1.drewN_ _)).mono ?_; rintro e6 w6 ⟨rfl, hb6⟩)
          have R6 := (((R5.drewN nq).below hb6 (R5.drewN nq).lt)).alloc (.cells #[.int .u8 0, .int .u8 0, .int .u8 0, .int .u8 0] 26)
          have S6 := Blk.new w6 26 #[.int .u8 0, .int .u8 0, .int .u8 0, .int .u8 0]
          have B6 := ((H5.out.1.drewN_ nq).trans (hb6.mono (H5.out.1.drewN_ nq).size)).alloc (Nat.le_trans (H5.out.1.drewN_ nq).size hb6.size) (.cells #[.int .u8 0, .int .u8 0, .int .u8 0, .int .u8 0] 26)
          obtain ⟨g6, hg6⟩ : ∃ g6, g6 = w6.heap.size := ⟨_, rfl⟩
          simp only [← hg6] at S6 ⊢
          clear hb6 hg6 R5 CC
          generalize w6.alloc (.cells #[.int .u8 0, .int .u8 0, .int .u8 0, .int .u8 0] 26) = w7 at *
          have hlt5 : g5 < w7.drew.heap.size := R6.drew.lt
          have hlt6 : g6 < w7.drew.heap.size := S6.drew.lt
          have q0 := R6.drew.cell 0
          have q1 := R6.drew.cell 1
          have q2 := R6.drew.cell 2
          have q3 := R6.drew.cell 3
          have p0 := S6.drew.cell 0
          have p1 := S6.drew.cell 1
          have p2 := S6.drew.cell 2
          have p3 := S6.drew.cell 3
          simp only [List.getElem?_toArray, List.getElem?_cons_zero, List.getElem?_cons_succ] at q0 q1 q2 q3 p0 p1 p2 p3
          have HNE := fun w => ins_neq 0 0 0 0 0 0 0 0 w
          rw [show (decide ((0 : Int) = 0 ∧ (0 : Int) = 0 ∧ (0 : Int) = 0 ∧ (0 : Int) = 0)) = true from by simp] at HNE
          have HB6 := Lib.hid (And.intro B6 (And.intro R6 S6))
          clear B6 R6 S6
          have hS0 : (fun w' => w'.cell? ⟨g5, 0, none⟩ = some (.int .u8 k) ∧ w'.cell? ⟨g5, 1, none⟩ = some (.int .u8 a) ∧ w'.cell? ⟨g5, 2, none⟩ = some (.int .u8 b) ∧ w'.cell? ⟨g5, 3, none⟩ = some (.int .u8 c) ∧ w'.cell? ⟨g6, 0, none⟩ = some (.int .u8 0) ∧ w'.cell? ⟨g6, 1, none⟩ = some (.int .u8 0) ∧ w'.cell? ⟨g6, 2, none⟩ = some (.int .u8 0) ∧ w'.cell? ⟨g6, 3, none⟩ = some (.int .u8 0)) w7.drew := ⟨q0, q1, q2, q3, p0, p1, p2, p3⟩
          have HS := Lib.hid (show ∀ w', Below w7.drew.heap.size w7.drew w' → (fun w' => w'.cell? ⟨g5, 0, none⟩ = some (.int .u8 k) ∧ w'.cell? ⟨g5, 1, none⟩ = some (.int .u8 a) ∧ w'.cell? ⟨g5, 2, none⟩ = some (.int .u8 b) ∧ w'.cell? ⟨g5, 3, none⟩ = some (.int .u8 c) ∧ w'.cell? ⟨g6, 0, none⟩ = some (.int .u8 0) ∧ w'.cell? ⟨g6, 1, none⟩ = some (.int .u8 0) ∧ w'.cell? ⟨g6, 2, none⟩ = some (.int .u8 0) ∧ w'.cell? ⟨g6, 3, none⟩ = some (.int .u8 0)) w' from fun w' hb' => ⟨(hb'.cell (p := ⟨g5, 0, none⟩) hlt5).trans q0, (hb'.cell (p := ⟨g5, 1, none⟩) hlt5).trans q1, (hb'.cell (p := ⟨g5, 2, none⟩) hlt5).trans q2, (hb'.cell (p := ⟨g5, 3, none⟩) hlt5).trans q3, (hb'.cell (p := ⟨g6, 0, none⟩) hlt6).trans p0, (hb'.cell (p := ⟨g6, 1, none⟩) hlt6).trans p1, (hb'.cell (p := ⟨g6, 2, none⟩) hlt6).trans p2, (hb'.cell (p := ⟨g6, 3, none⟩) hlt6).trans p3⟩)
          clear q0 q1 q2 q3 p0 p1 p2 p3 hlt5 hlt6
          refine wp_region_held_drew (S := (fun w' => w'.cell? ⟨g5, 0, none⟩ = some (.int .u8 k) ∧ w'.cell? ⟨g5, 1, none⟩ = some (.int .u8 a) ∧ w'.cell? ⟨g5, 2, none⟩ = some (.int .u8 b) ∧ w'.cell? ⟨g5, 3, none⟩ = some (.int .u8 c) ∧ w'.cell? ⟨g6, 0, none⟩ = some (.int .u8 0) ∧ w'.cell? ⟨g6, 1, none⟩ = some (.int .u8 0) ∧ w'.cell? ⟨g6, 2, none⟩ = some (.int .u8 0) ∧ w'.cell? ⟨g6, 3, none⟩ = some (.int .u8 0))) (by kernel_rfl) hS0 (fun hHeld => ?_)
          refine wpAnyH_take (i := 0) (v := ?_) rfl (by kernel_rfl) (by kernel_rfl) (by kernel_rfl) (fun _ _ _ h => h) (Or.inl ⟨by kernel_rfl, by (intro w' hSw; obtain ⟨e0, e1, e2, e3, e4, e5, e6, e7⟩ := hSw; go_simp; first | done | (with_reducible rfl) | rfl)⟩) hHeld ?_
          (try simp only [Act.put, List.getElem_toArray, List.getElem_cons_zero, List.getElem_cons_succ, List.setIfInBounds_toArray, List.set_cons_zero, List.set_cons_succ])
          refine wpAnyH_take (i := 1) (v := ?_) rfl (by kernel_rfl) (by kernel_rfl) (by kernel_rfl) (fun _ _ _ h => h) (Or.inl ⟨by kernel_rfl, by (intro w' hSw; obtain ⟨e0, e1, e2, e3, e4, e5, e6, e7⟩ := hSw; go_simp; first | done | (with_reducible rfl) | rfl)⟩) hHeld ?_
          (try simp only [Act.put, List.getElem_toArray, List.getElem_cons_zero, List.getElem_cons_succ, List.setIfInBounds_toArray, List.set_cons_zero, List.set_cons_succ])
          refine wpAnyH_take (i := 2) (v := ?_) rfl (by kernel_rfl) (by kernel_rfl) (by kernel_rfl) (fun _ _ _ h => h) (Or.inl ⟨by kernel_rfl, by (intro w' hSw; obtain ⟨e0, e1, e2, e3, e4, e5, e6, e7⟩ := hSw; go_simp; first | done | (with_reducible rfl) | rfl)⟩) hHeld ?_
          (try simp only [Act.put, List.getElem_toArray, List.getElem_cons_zero, List.getElem_cons_succ, List.setIfInBounds_toArray, List.set_cons_zero, List.set_cons_succ])
          refine wpAnyH_take (i := 3) (v := ?_) rfl (by kernel_rfl) (by kernel_rfl) (by kernel_rfl) (fun _ _ _ h => h) (Or.inl ⟨by kernel_rfl, by (intro w' hSw; obtain ⟨e0, e1, e2, e3, e4, e5, e6, e7⟩ := hSw; go_simp; first | done | (with_reducible rfl) | rfl)⟩) hHeld ?_
          (try simp only [Act.put, List.getElem_toArray, List.getElem_cons_zero, List.getElem_cons_succ, List.setIfInBounds_toArray, List.set_cons_zero, List.set_cons_succ])
          refine wpAnyH_take (i := 4) (v := ?_) rfl (by kernel_rfl) (by kernel_rfl) (by kernel_rfl) (fun _ _ _ h => h) (Or.inl ⟨by kernel_rfl, by (intro w' hSw; obtain ⟨e0, e1, e2, e3, e4, e5, e6, e7⟩ := hSw; go_simp; first | done | (with_reducible rfl) | rfl)⟩) hHeld ?_
          (try simp only [Act.put, List.getElem_toArray, List.getElem_cons_zero, List.getElem_cons_succ, List.setIfInBounds_toArray, List.set_cons_zero, List.set_cons_succ])
          refine wpAnyH_take (i := 5) (v := ?_) rfl (by kernel_rfl) (by kernel_rfl) (by kernel_rfl) (fun _ _ _ h => h) (Or.inl ⟨by kernel_rfl, by (intro w' hSw; obtain ⟨e0, e1, e2, e3, e4, e5, e6, e7⟩ := hSw; go_simp; first | done | (with_reducible rfl) | rfl)⟩) hHeld ?_
          (try simp only [Act.put, List.getElem_toArray, List.getElem_cons_zero, List.getElem_cons_succ, List.setIfInBounds_toArray, List.set_cons_zero, List.set_cons_succ])
          refine wpAnyH_take (i := 6) (v := (.agg #[.int .u8 0, .int .u8 0, .int .u8 0, .int .u8 0])) rfl (by kernel_rfl) (by kernel_rfl) (by kernel_rfl) (fun _ _ _ h => h) (Or.inl ⟨by kernel_rfl, by (intro w' hSw; obtain ⟨e0, e1, e2, e3, e4, e5, e6, e7⟩ := hSw; go_simp; first | done | (with_reducible rfl) | rfl)⟩) hHeld ?_
          (try simp only [Act.put, List.getElem_toArray, List.getElem_cons_zero, List.getElem_cons_succ, List.setIfInBounds_toArray, List.set_cons_zero, List.set_cons_succ])
          refine wpAnyH_take (i := 7) (v := (.agg #[.int .u8 0, .int .u8 0, .int .u8 0, .int .u8 0])) rfl (by kernel_rfl) (by kernel_rfl) (by kernel_rfl) (fun _ _ _ h => h) (Or.inl ⟨by kernel_rfl, by (intro w' hSw; obtain ⟨e0, e1, e2, e3, e4, e5, e6, e7⟩ := hSw; go_simp; first | done | (with_reducible rfl) | rfl)⟩) hHeld ?_
          (try simp only [Act.put, List.getElem_toArray, List.getElem_cons_zero, List.getElem_cons_succ, List.setIfInBounds_toArray, List.set_cons_zero, List.set_cons_succ])
          refine wpAnyH_take (i := 8) (v := ?_) rfl (by kernel_rfl) (by kernel_rfl) (by kernel_rfl) (fun _ _ _ h => h) (Or.inl ⟨by kernel_rfl, by (intro w' hSw; obtain ⟨e0, e1, e2, e3, e4, e5, e6, e7⟩ := hSw; go_simp; first | done | (with_reducible rfl) | rfl)⟩) hHeld ?_
          (try simp only [Act.put, List.getElem_toArray, List.getElem_cons_zero, List.getElem_cons_succ, List.setIfInBounds_toArray, List.set_cons_zero, List.set_cons_succ])
          refine wpAnyH_take (i := 9) (v := ?_) rfl (by kernel_rfl) (by kernel_rfl) (by kernel_rfl) (fun _ _ _ h => h) (Or.inl ⟨by kernel_rfl, by (intro w' hSw; obtain ⟨e0, e1, e2, e3, e4, e5, e6, e7⟩ := hSw; go_simp; first | done | (with_reducible rfl) | rfl)⟩) hHeld ?_
          (try simp only [Act.put, List.getElem_toArray, List.getElem_cons_zero, List.getElem_cons_succ, List.setIfInBounds_toArray, List.set_cons_zero, List.set_cons_succ])
          refine wpAnyH_take (i := 10) (v := ?_) rfl (by kernel_rfl) (by kernel_rfl) (by kernel_rfl) (fun _ _ _ h => h) (Or.inl ⟨by kernel_rfl, by (intro w' hSw; obtain ⟨e0, e1, e2, e3, e4, e5, e6, e7⟩ := hSw; go_simp; first | done | (with_reducible rfl) | rfl)⟩) hHeld ?_
          (try simp only [Act.put, List.getElem_toArray, List.getElem_cons_zero, List.getElem_cons_succ, List.setIfInBounds_toArray, List.set_cons_zero, List.set_cons_succ])
          refine wpAnyH_take (i := 11) (v := ?_) rfl (by kernel_rfl) (by kernel_rfl) (by kernel_rfl) (fun _ _ _ h => h) (Or.inl ⟨by kernel_rfl, by (intro w' hSw; obtain ⟨e0, e1, e2, e3, e4, e5, e6, e7⟩ := hSw; go_simp; first | done | (with_reducible rfl) | rfl)⟩) hHeld ?_
          (try simp only [Act.put, List.getElem_toArray, List.getElem_cons_zero, List.getElem_cons_succ, List.setIfInBounds_toArray, List.set_cons_zero, List.set_cons_succ])
          refine wpAnyH_take (i := 12) (v := ?_) rfl (by kernel_rfl) (by kernel_rfl) (by kernel_rfl) (fun _ _ _ h => h) (Or.inl ⟨by kernel_rfl, by (intro w' hSw; obtain ⟨e0, e1, e2, e3, e4, e5, e6, e7⟩ := hSw; go_simp; first | done | (with_reducible rfl) | rfl)⟩) hHeld ?_
          (try simp only [Act.put, List.getElem_toArray, List.getElem_cons_zero, List.getElem_cons_succ, List.setIfInBounds_toArray, List.set_cons_zero, List.set_cons_succ])
          refine wpAnyH_take (i := 13) (v := ?_) rfl (by kernel_rfl) (by kernel_rfl) (by kernel_rfl) (fun _ _ _ h => h) (Or.inl ⟨by kernel_rfl, by (intro w' hSw; obtain ⟨e0, e1, e2, e3, e4, e5, e6, e7⟩ := hSw; go_simp; first | done | (with_reducible rfl) | rfl)⟩) hHeld ?_
          (try simp only [Act.put, List.getElem_toArray, List.getElem_cons_zero, List.getElem_cons_succ, List.setIfInBounds_toArray, List.set_cons_zero, List.set_cons_succ])
          refine wpAnyH_take (i := 14) (v := ?_) rfl (by kernel_rfl) (by kernel_rfl) (by kernel_rfl) (fun _ _ _ h => h) (Or.inl ⟨by kernel_rfl, by (intro w' hSw; obtain ⟨e0, e1, e2, e3, e4, e5, e6, e7⟩ := hSw; go_simp; first | done | (with_reducible rfl) | rfl)⟩) hHeld ?_
          (try simp only [Act.put, List.getElem_toArray, List.getElem_cons_zero, List.getElem_cons_succ, List.setIfInBounds_toArray, List.set_cons_zero, List.set_cons_succ])
          refine wpAnyH_take (i := 15) (v := undef) rfl (by kernel_rfl) (by kernel_rfl) (by kernel_rfl) (fun _ _ _ h => h) (Or.inr ⟨by kernel_rfl, rfl⟩) hHeld ?_
          (try simp only [Act.put, List.getElem_toArray, List.getElem_cons_zero, List.getElem_cons_succ, List.setIfInBounds_toArray, List.set_cons_zero, List.set_cons_succ])
          refine wpAnyH_take (i := 16) (v := undef) rfl (by kernel_rfl) (by kernel_rfl) (by kernel_rfl) (fun _ _ _ h => h) (Or.inr ⟨by kernel_rfl, rfl⟩) hHeld ?_
          (try simp only [Act.put, List.getElem_toArray, List.getElem_cons_zero, List.getElem_cons_succ, List.setIfInBounds_toArray, List.set_cons_zero, List.set_cons_succ])
          refine wpAnyH_take (i := 17) (v := undef) rfl (by kernel_rfl) (by kernel_rfl) (by kernel_rfl) (fun _ _ _ h => h) (Or.inr ⟨by kernel_rfl, rfl⟩) hHeld ?_
          (try simp only [Act.put, List.getElem_toArray, List.getElem_cons_zero, List.getElem_cons_succ, List.setIfInBounds_toArray, List.set_cons_zero, List.set_cons_succ])
          refine wpAnyH_take (i := 18) (v := ?_) rfl (by kernel_rfl) (by kernel_rfl) (by kernel_rfl) (fun _ _ _ h => h) (Or.inl ⟨by kernel_rfl, by (intro w' hSw; obtain ⟨e0, e1, e2, e3, e4, e5, e6, e7⟩ := hSw; go_simp; first | done | (with_reducible rfl) | rfl)⟩) hHeld ?_
          (try simp only [Act.put, List.getElem_toArray, List.getElem_cons_zero, List.getElem_cons_succ, List.setIfInBounds_toArray, List.set_cons_zero, List.set_cons_succ])
          refine wpAnyH_take (i := 19) (v := ?_) rfl (by kernel_rfl) (by kernel_rfl) (by kernel_rfl) (fun _ _ _ h => h) (Or.inl ⟨by kernel_rfl, by (intro w' hSw; obtain ⟨e0, e1, e2, e3, e4, e5, e6, e7⟩ := hSw; go_simp; first | done | (with_reducible rfl) | rfl)⟩) hHeld ?_
          (try simp only [Act.put, List.getElem_toArray, List.getElem_cons_zero, List.getElem_cons_succ, List.setIfInBounds_toArray, List.set_cons_zero, List.set_cons_succ])
          refine wpAnyH_take (i := 20) (v := ?_) rfl (by kernel_rfl) (by kernel_rfl) (by kernel_rfl) (fun _ _ _ h => h) (Or.inl ⟨by kernel_rfl, by (intro w' hSw; obtain ⟨e0, e1, e2, e3, e4, e5, e6, e7⟩ := hSw; go_simp; first | done | (with_reducible rfl) | rfl)⟩) hHeld ?_
          (try simp only [Act.put, List.getElem_toArray, List.getElem_cons_zero, List.getElem_cons_succ, List.setIfInBounds_toArray, List.set_cons_zero, List.set_cons_succ])
          refine wpAnyH_take (i := 21) (v := (.agg #[.int .u8 k, .int .u8 a, .int .u8 b, .int .u8 c])) rfl (by kernel_rfl) (by kernel_rfl) (by kernel_rfl) (fun _ _ _ h => h) (Or.inl ⟨by kernel_rfl, by (intro w' hSw; obtain ⟨e0, e1, e2, e3, e4, e5, e6, e7⟩ := hSw; go_simp; first | done | (with_reducible rfl) | rfl)⟩) hHeld ?_
          (try simp only [Act.put, List.getElem_toArray, List.getElem_cons_zero, List.getElem_cons_succ, List.setIfInBounds_toArray, List.set_cons_zero, List.set_cons_succ])
          refine wpAnyH_take (i := 23) (v := (.agg #[.int .u8 k, .int .u8 a, .int .u8 b, .int .u8 c])) rfl (by kernel_rfl) (by kernel_rfl) (by kernel_rfl) (fun _ _ _ h => h) (Or.inl ⟨by kernel_rfl, by (intro w' hSw; obtain ⟨e0, e1, e2, e3, e4, e5, e6, e7⟩ := hSw; go_simp; first | done | (with_reducible rfl) | rfl)⟩) hHeld ?_
          (try simp only [Act.put, List.getElem_toArray, List.getElem_cons_zero, List.getElem_cons_succ, List.setIfInBounds_toArray, List.set_cons_zero, List.set_cons_succ])
          refine wpAnyH_ready (rs := [22]) (by kernel_rfl) (by simp) ?_
          refine AllReadyH.cons rfl (fun K hK => ?_) AllReadyH.nil
          go_simp
          go_at_call 14; refine (N1 _).mono ?_; rintro eA wA ⟨rfl, hbA⟩
          dsimp only
          clear hHeld
          refine hK.out _ _ (HS.out _ hbA) (fun hHeld => ?_)
          clear hK K
          (try simp only [Act.put, List.getElem_toArray, List.getElem_cons_zero, List.getElem_cons_succ, List.setIfInBounds_toArray, List.set_cons_zero, List.set_cons_succ])
          refine wpAnyH_ready (rs := [24]) (by kernel_rfl) (by simp) ?_
          refine AllReadyH.cons rfl (fun K hK => ?_) AllReadyH.nil
          go_simp
          go_at_call 15; refine (N2 _).mono ?_; rintro eB wB ⟨rfl, hbB⟩; (have hbB := hbA.trans (hbB.mono hbA.size))
          dsimp only
          clear hHeld
          refine hK.out _ _ (HS.out _ hbB) (fun hHeld => ?_)
          clear hK K
          (try simp only [Act.put, List.getElem_toArray, List.getElem_cons_zero, List.getElem_cons_succ, List.setIfInBounds_toArray, List.set_cons_zero, List.set_cons_succ])
          refine wpAnyH_take (i := 25) (v := ?_) rfl (by kernel_rfl) (by kernel_rfl) (by kernel_rfl) (fun _ _ _ h => h) (Or.inl ⟨by kernel_rfl, by (intro w' hSw; obtain ⟨e0, e1, e2, e3, e4, e5, e6, e7⟩ := hSw; go_simp; first | done | (with_reducible rfl) | rfl)⟩) hHeld ?_
          (try simp only [Act.put, List.getElem_toArray, List.getElem_cons_zero, List.getElem_cons_succ, List.setIfInBounds_toArray, List.set_cons_zero, List.set_cons_succ])
          refine wpAnyH_take (i := 26) (v := ?_) rfl (by kernel_rfl) (by kernel_rfl) (by kernel_rfl) (fun _ _ _ h => h) (Or.inl ⟨by kernel_rfl, by (intro w' hSw; obtain ⟨e0, e1, e2, e3, e4, e5, e6, e7⟩ := hSw; go_simp; first | done | (with_reducible rfl) | rfl)⟩) hHeld ?_
          (try simp only [Act.put, List.getElem_toArray, List.getElem_cons_zero, List.getElem_cons_succ, List.setIfInBounds_toArray, List.set_cons_zero, List.set_cons_succ])
          refine wpAnyH_take (i := 27) (v := ?_) rfl (by kernel_rfl) (by kernel_rfl) (by kernel_rfl) (fun _ _ _ h => h) (Or.inl ⟨by kernel_rfl, by (intro w' hSw; obtain ⟨e0, e1, e2, e3, e4, e5, e6, e7⟩ := hSw; go_simp; first | done | (with_reducible rfl) | rfl)⟩) hHeld ?_
          (try simp only [Act.put, List.getElem_toArray, List.getElem_cons_zero, List.getElem_cons_succ, List.setIfInBounds_toArray, List.set_cons_zero, List.set_cons_succ])
          refine wpAnyH_take (i := 28) (v := (.agg #[.int .u8 k, .int .u8 a, .int .u8 b, .int .u8 c])) rfl (by kernel_rfl) (by kernel_rfl) (by kernel_rfl) (fun _ _ _ h => h) (Or.inl ⟨by kernel_rfl, by (intro w' hSw; obtain ⟨e0, e1, e2, e3, e4, e5, e6, e7⟩ := hSw; go_simp; first | done | (with_reducible rfl) | rfl)⟩) hHeld ?_
          (try simp only [Act.put, List.getElem_toArray, List.getElem_cons_zero, List.getElem_cons_succ, List.setIfInBounds_toArray, List.set_cons_zero, List.set_cons_succ])
          refine wpAnyH_take (i := 30) (v := (.agg #[.int .u8 k, .int .u8 a, .int .u8 b, .int .u8 c])) rfl (by kernel_rfl) (by kernel_rfl) (by kernel_rfl) (fun _ _ _ h => h) (Or.inl ⟨by kernel_rfl, by (intro w' hSw; obtain ⟨e0, e1, e2, e3, e4, e5, e6, e7⟩ := hSw; go_simp; first | done | (with_reducible rfl) | rfl)⟩) hHeld ?_
          (try simp only [Act.put, List.getElem_toArray, List.getElem_cons_zero, List.getElem_cons_succ, List.setIfInBounds_toArray, List.set_cons_zero, List.set_cons_succ])
          refine wpAnyH_ready (rs := [29]) (by kernel_rfl) (by simp) ?_
          refine AllReadyH.cons rfl (fun K hK => ?_) AllReadyH.nil
          go_simp
          go_at_call 16; refine (J1 _).mono ?_; rintro eC wC ⟨rfl, hbC⟩; (have hbC := hbB.trans (hbC.mono hbB.size))
          dsimp only
          clear hHeld
          refine hK.out _ _ (HS.out _ hbC) (fun hHeld => ?_)
          clear hK K
          (try simp only [Act.put, List.getElem_toArray, List.getElem_cons_zero, List.getElem_cons_succ, List.setIfInBounds_toArray, List.set_cons_zero, List.set_cons_succ])
          refine wpAnyH_ready (rs := [31]) (by kernel_rfl) (by simp) ?_
          refine AllReadyH.cons rfl (fun K hK => ?_) AllReadyH.nil
          go_simp
          go_at_call 17; refine (J2 _).mono ?_; rintro eD wD ⟨rfl, hbD⟩; (have hbD := hbC.trans (hbD.mono hbC.size))
          dsimp only
          clear hHeld
          refine hK.out _ _ (HS.out _ hbD) (fun hHeld => ?_)
          clear hK K
          (try simp only [Act.put, List.getElem_toArray, List.getElem_cons_zero, List.getElem_cons_succ, List.setIfInBounds_toArray, List.set_cons_zero, List.set_cons_succ])
          refine wpAnyH_take (i := 32) (v := ?_) rfl (by kernel_rfl) (by kernel_rfl) (by kernel_rfl) (fun _ _ _ h => h) (Or.inl ⟨by kernel_rfl, by (intro w' hSw; obtain ⟨e0, e1, e2, e3, e4, e5, e6, e7⟩ := hSw; go_simp; first | done | (with_reducible rfl) | rfl)⟩) hHeld ?_
          (try simp only [Act.put, List.getElem_toArray, List.getElem_cons_zero, List.getElem_cons_succ, List.setIfInBounds_toArray, List.set_cons_zero, List.set_cons_succ])
          refine wpAnyH_take (i := 33) (v := ?_) rfl (by kernel_rfl) (by kernel_rfl) (by kernel_rfl) (fun _ _ _ h => h) (Or.inl ⟨by kernel_rfl, by (intro w' hSw; obtain ⟨e0, e1, e2, e3, e4, e5, e6, e7⟩ := hSw; go_simp; first | done | (with_reducible rfl) | rfl)⟩) hHeld ?_
          (try simp only [Act.put, List.getElem_toArray, List.getElem_cons_zero, List.getElem_cons_succ, List.setIfInBounds_toArray, List.set_cons_zero, List.set_cons_succ])
          refine wpAnyH_done (by kernel_rfl) ?_ _
          have HF := Lib.hid (HB6.out.1.drew.trans (hbD.mono HB6.out.1.drew.size))
          clear hbA hbB hbC hbD hHeld HS
          go_wp2_with fail
          go_roundw
          case rel => exact ⟨i + 1, by go_num, by omega, H5.out.2.2.trans (HF.out.mono H5.out.2.2.size)⟩
          case measure => simp [intOf]; omega
      · have hin : ¬ (i : Int) < (n : Int) := by omega
        have CC := DC _ cap' wr (n : Int) (hb1.below hB)
        rw [DL.out.2.1] at CC
        simp only [Dec.v, insV] at CC
        have hsz := hB1.size
        go_wp2_with (first | (go_at_call 10; refine CC.mono ?_; rintro e6 w6 ⟨rfl, hb6⟩; (have B7 := Lib.hid ((hB1.trans (hB.mono hsz)).trans (((hb6.alloc hb6.size (.cells #[.int .u8 0, .int .u8 0, .int .u8 0, .int .u8 0] 26))).mono (Nat.le_trans hsz hB.size))))) | (go_at_call 9; refine (known_is _ (ht.below (B := 0) B7.out)).mono ?_; rintro eK wK ⟨rfl, hbK⟩))
        go_ret
        exact ⟨rfl, B7.out.trans (hbK.mono B7.out.size)⟩
  · clear h
    have hl : (300 : Int) < (n : Int) := by omega
    go_enter Tryd.func4, Tryd.ntmps4
    go_wp2_with (go_at_call 9; refine (known_is _ ht).mono ?_; rintro e w2 ⟨rfl, hb2⟩)
    go_ret
    exact ⟨rfl, hb2⟩
end Go.Proofs.YtnbkpminecoddaaDoor
