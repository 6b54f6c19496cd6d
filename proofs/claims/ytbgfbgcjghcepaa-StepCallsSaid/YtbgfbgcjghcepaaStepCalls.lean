/- The law StepCalls, by walk. -/
import Derived.Test.YtbgfbgcjghcepaaStepLawKit
import Derived.Test.YtbgfbgcjghcepaaCodeBytes
import Derived.Deep.QuietTactic
import Derived.BigQuiet
import Derived.Deep.Upon
namespace Go.Proofs.Ytbgfbgcjghcepaa
open Go.RowKit
set_option linter.unusedVariables false
set_option linter.unusedSimpArgs false

theorem and255 (z : Int) : bits .and .i64 z 255 = z % 256 := by
  show IntKind.i64.wrap (((BitVec.ofInt 64 z &&& BitVec.ofInt 64 255).toNat : Nat) : Int) = _
  have h1 : (BitVec.ofInt 64 255).toNat = 2 ^ 8 - 1 := by decide
  rw [BitVec.toNat_and, h1, Nat.and_two_pow_sub_one_eq_mod, BitVec.toNat_ofInt, IntKind.wrap_i64]
  omega

/-- The bytes of the two instructions. -/
def cD (op : Nat) (i j : Nat) : Int := if i = 1 ∧ j = 0 then op else 0
def cF (op : Nat) (i : Nat) : Int := if i = 4 then op else 0
def gC (r : Nat → Nat) (cd : Int) : Gr := ⟨2, false, 0, 0, 0, 0, 0, 0, 1, r, cd, 0⟩
theorem two_list (op : Nat) : (List.range 2).flatMap (iV (cD op)) = [.int .u8 0, .int .u8 0, .int .u8 0, .int .u8 0, .int .u8 op, .int .u8 0, .int .u8 0, .int .u8 0] := rfl
theorem code_two {w : World} {base op : Nat} {v : Value} (h : w.ownsRow base 5 1 v 8 ((List.range 2).flatMap (iV (cD op)))) : CodeAt w v 8 (cF op) := by
  rw [two_list] at h
  obtain ⟨A, cap, rfl⟩ := own_slice h
  obtain ⟨g, hA⟩ := own_form h (by omega)
  have hc := (own_cap h).1
  have hr := Reads.of_own h
  refine ⟨by omega, fun i => ?_, A, cap, rfl, hc, fun _ => ?_⟩
  · unfold cF
    split <;> omega
  · subst hA
    obtain ⟨ad, e, hb, hx⟩ := hr.2 (by omega)
    injection e with e
    subst e
    refine ⟨g, 0, rfl, hb, fun i hi => ?_⟩
    have e2 : (⟨g, 0, none⟩ : Addr).add i = ⟨g, 0 + i, none⟩ := by unfold Addr.add; split <;> simp_all
    rw [← e2]
    refine hx i _ ?_
    unfold cF
    rcases i with _ | _ | _ | _ | _ | _ | _ | _ | i
    all_goals first | rfl | omega

/-- Where a program's bytes lie: below so many blocks. -/
def VLt (v : Value) (n B : Nat) : Prop := ∃ A cap, v = .slice A n cap ∧ ∀ g o, A = some ⟨g, o, none⟩ → g < B
theorem vlt_of {w : World} {v : Value} {n : Nat} {D : Nat → Int} (h : CodeAt w v n D) (hn : 0 < n) : VLt v n w.heap.size := by
  obtain ⟨_, _, A, cap, rfl, _, hc⟩ := h
  obtain ⟨g, o, rfl, hg, _⟩ := hc hn
  exact ⟨_, cap, rfl, fun g' o' e => by injection e with e; injection e with e1; omega⟩
theorem code_in {w w' : World} {v : Value} {n B : Nat} {D : Nat → Int} (h : CodeAt w v n D) (hv : VLt v n B) (hb : Below B w w') : CodeAt w' v n D := by
  obtain ⟨h1, h2, A, cap, rfl, h4, h5⟩ := h
  obtain ⟨A', cap', e, hl⟩ := hv
  injection e with e1 e2 e3
  subst e1
  refine ⟨h1, h2, A, cap, rfl, h4, fun h0 => ?_⟩
  obtain ⟨g, o, h6, h7, h8⟩ := h5 h0
  exact ⟨g, o, h6, Nat.lt_of_lt_of_le h7 hb.size, fun i hi => (hb.cell (p := ⟨g, o + i, none⟩) (hl g o h6)).trans (h8 i hi)⟩

theorem dec_two (op : Nat) (h : op < 8 ∨ 17 ≤ op ∧ op ≤ 38) : decR 8 (cF op) 1 = ⟨op, 0, 0, 0, 0⟩ := by
  have h1 : okOf (op : Int) = true := by
    unfold okOf
    simp only [Bool.or_eq_true, Bool.and_eq_true, decide_eq_true_eq]
    omega
  have h2 : ∀ s : ByteArray, badArgs s 0 0 0 = false := fun s => by
    unfold badArgs
    rw [List.any_eq_false]
    intro l _
    unfold valR
    repeat' split
    all_goals simp
  unfold decR
  rw [if_neg (by omega), if_neg (by omega)]
  show (if okOf (op : Int) = false then _ else if badArgs (argsOf (op : Int)) 0 0 0 = true then _ else (⟨(op : Int), 0, 0, 0, 0⟩ : Dec)) = _
  rw [h1, h2, if_neg (by decide), if_neg (by decide)]
theorem dec_bad (op : Nat) (h : ¬ (op < 8 ∨ 17 ≤ op ∧ op ≤ 38)) : decR 8 (cF op) 1 = ⟨0, 0, 0, 0, 7⟩ := by
  have h1 : okOf (op : Int) = false := by
    unfold okOf
    simp only [Bool.or_eq_false_iff, Bool.and_eq_false_iff, decide_eq_false_iff_not]
    omega
  unfold decR
  rw [if_neg (by omega), if_neg (by omega)]
  show (if okOf (op : Int) = false then _ else _ : Dec) = _
  rw [if_pos h1]
theorem go_call (op : Nat) (r : Nat → Nat) (cd : Int) (h1 : 17 ≤ op) (h2 : op ≤ 38) : goM 8 (cF op) (gC r cd) = ⟨(gC r cd).to 2, callV ((op : Int) - 16) (r 0) (r 1) (r 2) (r 3) (r 4), 2⟩ := by
  have hd := dec_two op (.inr ⟨h1, h2⟩)
  unfold goM
  rw [if_neg (show ¬ Over 8 (cF op) (gC r cd) from by
    unfold Over
    show ¬ ((decR 8 (cF op) 1).e = 4 ∨ _)
    rw [hd]
    show ¬ ((0 : Int) = 4 ∨ ((8 / 4 : Nat) : Int) < 1)
    omega)]
  have e : doM 8 (cF op) (gC r cd) = .ok ((gC r cd).to 2) (callV ((op : Int) - 16) (r 0) (r 1) (r 2) (r 3) (r 4)) 2 := by
    unfold doM
    have e1 : (gC r cd).pc = 1 := rfl
    rw [e1, hd, if_neg (fun h => h rfl)]
    show insM 8 (gC r cd) (op : Int) 0 0 0 = _
    unfold insM
    rw [if_neg (by omega), if_neg (by omega), if_neg (by omega), if_neg (by omega), if_neg (by omega), if_neg (by omega), if_neg (by omega), if_neg (by omega)]
    have e2 : (gC r cd).next = (gC r cd).to 2 := by
      unfold Gr.next
      rw [e1]
      have e3 : wrap64 (1 + 1) = 2 := by unfold wrap64; omega
      rw [e3]
    rw [e2]
    rfl
  rw [e]
theorem go_rest (op : Nat) (r : Nat → Nat) (cd : Int) (h : ¬ (17 ≤ op ∧ op ≤ 38)) : (goM 8 (cF op) (gC r cd)).cl = call0 ∧ (goM 8 (cF op) (gC r cd)).w ≠ 2 := by
  have key : ∀ o : Out, (∀ g' cl k, o = .ok g' cl k → cl = call0 ∧ k = 1) → (match o with | .ok g' cl w => (⟨g', cl, w⟩ : Step) | .bad z => ⟨(gC r cd).bad z, call0, 4⟩).cl = call0 ∧ (match o with | .ok g' cl w => (⟨g', cl, w⟩ : Step) | .bad z => ⟨(gC r cd).bad z, call0, 4⟩).w ≠ 2 := fun o ho => by
    cases o with
    | ok g' cl k =>
      obtain ⟨h1, h2⟩ := ho g' cl k rfl
      exact ⟨h1, by show k ≠ 2; omega⟩
    | bad z => exact ⟨rfl, by show (4 : Int) ≠ 2; decide⟩
  have hj : ∀ b c g' cl k, jumpM 8 (gC r cd) b c = .ok g' cl k → cl = call0 ∧ k = 1 := fun b c g' cl k hh => by
    unfold jumpM at hh
    split at hh
    · cases hh
    · injection hh with _ e1 e2
      exact ⟨e1.symm, e2.symm⟩
  unfold goM
  split
  · exact ⟨rfl, by show (3 : Int) ≠ 2; decide⟩
  · refine key _ fun g' cl k hh => ?_
    unfold doM at hh
    by_cases h8 : op < 8
    · have hd := dec_two op (.inl h8)
      have e1 : (gC r cd).pc = 1 := rfl
      rw [e1, hd, if_neg (fun h => h rfl)] at hh
      have hh : insM 8 (gC r cd) (op : Int) 0 0 0 = .ok g' cl k := hh
      unfold insM at hh
      repeat' split at hh
      all_goals first
        | cases hh; done
        | exact hj _ _ _ _ _ hh
        | (injection hh with _ e1 e2; exact ⟨e1.symm, e2.symm⟩)
        | omega
    · have hd := dec_bad op (by omega)
      have e1 : (gC r cd).pc = 1 := rfl
      rw [e1, hd, if_pos (show (7 : Int) ≠ 0 by decide)] at hh
      cases hh
theorem go_end (op : Nat) (r : Nat → Nat) (cd : Int) : goM 8 (cF op) ((gC r cd).to 2) = ⟨(gC r cd).to 2, call0, 3⟩ := by
  unfold goM
  rw [if_pos]
  refine .inl ?_
  show (decR 8 (cF op) 2).e = 4
  unfold decR
  rw [if_pos (by omega)]

theorem underR8 : ∃ d, Try.prog.underlying 27 = some d ∧ (match d with | .struct _ | .array _ _ => true | _ => false) = true := Option.map_eq_some_iff.1 (show (Try.prog.underlying 27).map (fun d => match d with | .struct _ | .array _ _ => true | _ => false) = some true by kernel_rfl)
theorem load_r8 {ops : Array Oper} {rest : List Oper} {o : Oper} {a : Act} {w : World} {Q : Exit → Act → World → Prop} {cs : Array Value} {g : Nat}
    (hB : Blk w g 27 cs) (h6 : cs.size = 8) (hgd : o.guard = none) (v : Operand) (ho : o.op = .load 27 v) (hx : a.eval v = .pointer (some ⟨g, 0, none⟩))
    (h : wpList Try.prog ops Q rest (a.put o.dst (.agg cs)) w) : wpList Try.prog ops Q (o :: rest) a w := by
  obtain ⟨d, hu1, hu2⟩ := underR8
  exact wpList_load_row hgd 27 v ho g hx 27 _ (0, 0) d hB hu1 (by cases d <;> first | rfl | exact absurd hu2 Bool.false_ne_true) (by rw [h6]; kernel_rfl) h

set_option maxRecDepth 100000 in
set_option maxHeartbeats 600000 in
theorem calls_rest (k : Int) (r : Nat → Nat) (cd : Int) (hr : ∀ i, r i < M64) (op : Nat) (hop : ((op : Nat) : Int) = (16 + k % 256) % 256) (hno : ¬ (17 ≤ op ∧ op ≤ 38)) (w : World) :
    Calls Try.prog 5 #[.int .i64 k, .agg #[.int .u64 (r 0), .int .u64 (r 1), .int .u64 (r 2), .int .u64 (r 3), .int .u64 (r 4), .int .u64 (r 5), .int .u64 (r 6), .int .u64 (r 7)], .int .i64 cd] w fun e w' => e = .returned (.bool true) ∧ Below w.heap.size w w' := by
  obtain ⟨m, hm⟩ : ∃ m : Nat, (m : Int) = k % 256 := ⟨(k % 256).toNat, by omega⟩
  have hm1 : bits .and .i64 k 255 = (m : Int) := by rw [and255, hm]
  have hm2 : (m : Int) < 256 := by omega
  have hm3 : (0 : Int) ≤ (m : Int) := by omega
  have hu : IntKind.u8.wrap (16 + (m : Int)) = (op : Int) := by rw [IntKind.wrap_u8, hop, ← hm]
  have hm4 : bits .and .i64 (16 + (m : Int)) 255 = (op : Int) := by rw [and255, hop, ← hm]
  have ho1 : (op : Int) < 256 := by omega
  have ho0 : (0 : Int) ≤ (op : Int) := by omega
  clear hm hop
  have K := Lib.hid known_is
  have hgok : (gC r cd).Ok := hr
  have hgc : (gC r cd).c = #[.int .i64 2, .bool false, .int .i64 0, .int .u64 0, .int .i64 0, .int .u64 0, .int .u8 0, .int .i64 0, .int .i64 1, .int .u64 (r 0), .int .u64 (r 1), .int .u64 (r 2), .int .u64 (r 3), .int .u64 (r 4), .int .u64 (r 5), .int .u64 (r 6), .int .u64 (r 7), .int .i64 cd, .int .u64 0] := rfl
  have hg1 := Lib.hid (Gr.c_one (gC r cd))
  have R1w := Blk.new w 27 #[.int .u64 (r 0), .int .u64 (r 1), .int .u64 (r 2), .int .u64 (r 3), .int .u64 (r 4), .int .u64 (r 5), .int .u64 (r 6), .int .u64 (r 7)]
  have B1 := (Below.refl w.heap.size w).alloc (Nat.le_refl _) (.cells #[.int .u64 (r 0), .int .u64 (r 1), .int .u64 (r 2), .int .u64 (r 3), .int .u64 (r 4), .int .u64 (r 5), .int .u64 (r 6), .int .u64 (r 7)] 27)
  have hz : (w.alloc (.cells #[.int .u64 (r 0), .int .u64 (r 1), .int .u64 (r 2), .int .u64 (r 3), .int .u64 (r 4), .int .u64 (r 5), .int .u64 (r 6), .int .u64 (r 7)] 27)).heap.size = w.heap.size + 1 := by simp
  have BY := bytes_is (w.heap.size + 1) 0 2 2 (cD op) ((w.alloc (.cells #[.int .u64 (r 0), .int .u64 (r 1), .int .u64 (r 2), .int .u64 (r 3), .int .u64 (r 4), .int .u64 (r 5), .int .u64 (r 6), .int .u64 (r 7)] 27)).alloc (.cells #[.int .u8 0, .int .u8 0, .int .u8 0, .int .u8 0, .int .u8 op, .int .u8 0, .int .u8 0, .int .u8 0] 45)) (by omega) (by simp) (fun i hi j hj => by
    have hB := Blk.new (w.alloc (.cells #[.int .u64 (r 0), .int .u64 (r 1), .int .u64 (r 2), .int .u64 (r 3), .int .u64 (r 4), .int .u64 (r 5), .int .u64 (r 6), .int .u64 (r 7)] 27)) 45 #[.int .u8 0, .int .u8 0, .int .u8 0, .int .u8 0, .int .u8 op, .int .u8 0, .int .u8 0, .int .u8 0]
    rw [hz] at hB
    refine (hB.cell _).trans ?_
    have hi' : i = 0 ∨ i = 1 := by omega
    have hj' : j = 0 ∨ j = 1 ∨ j = 2 ∨ j = 3 := by omega
    rcases hi' with rfl | rfl <;> rcases hj' with rfl | rfl | rfl | rfl <;> rfl)
  replace hz := Lib.hid hz
  have BY := Lib.hid BY
  have R1w := Lib.hid R1w
  have B1 := Lib.hid B1
  have R1 := row_g
  have R2 := row_call
  have T := @two_rows
  unfold zG call0 at R1 R2 T
  have R1 := Lib.hid R1
  have R2 := Lib.hid R2
  have T := Lib.hid T
  have GR := go_rest op r cd hno
  obtain ⟨s1, hs1⟩ : ∃ s1, s1 = goM 8 (cF op) (gC r cd) := ⟨_, rfl⟩
  rw [← hs1] at GR
  obtain ⟨x, cl, kw⟩ := s1
  obtain ⟨e1, e2⟩ := GR
  have e1 : cl = call0 := e1
  subst e1
  have e3 : ¬ kw = 2 := e2
  have hk2 : (kw == 2) = false := by simpa using e3
  have hk3 : (kw != 2) = true := by simpa using e3
  replace hs1 := Lib.hid hs1
  clear e2 e3
  have E1 := callv_eql 0 0 0 0 0 0
  unfold callV at E1
  by_cases hlow : (op : Int) < 17
  · have hl1 : decide ((op : Int) < 17) = true := decide_eq_true hlow
    go_enter Try.func5, Try.ntmps5
    go_wp2_with (first
      | (go_at_call 10; refine BY.out.mono ?_; rintro e w2 ⟨v, rfl, hown, hb⟩; (have CA := Lib.hid (code_two hown)); (have B2 := Lib.hid ((B1.out.alloc B1.out.size (.cells #[.int .u8 0, .int .u8 0, .int .u8 0, .int .u8 0, .int .u8 op, .int .u8 0, .int .u8 0, .int .u8 0] 45)).trans (hb.mono (by simp; omega)))); (have R2w := Lib.hid ((R1w.out.alloc (.cells #[.int .u8 0, .int .u8 0, .int .u8 0, .int .u8 0, .int .u8 op, .int .u8 0, .int .u8 0, .int .u8 0] 45)).below hb (by simp; omega))); clear hown hb)
      | ((with_reducible refine load_r8 (o := ⟨some 25, .load 27 (.tmp 4), _, _, _, _⟩) (R2w.out) ?_ ?_ (.tmp 4) ?_ ?_ ?_); exact rfl; exact rfl; exact rfl; exact rfl)
      | ((with_reducible refine store_g (o := ⟨none, .store 30 (.tmp 8) (.tmp 27), _, _, _, _⟩) (cs := (gC r cd).c) (Blk.new w2 30 #[.int .i64 0, .bool false, .int .i64 0, .int .u64 0, .int .i64 0, .int .u64 0, .int .u8 0, .int .i64 0, .int .i64 0, .int .u64 0, .int .u64 0, .int .u64 0, .int .u64 0, .int .u64 0, .int .u64 0, .int .u64 0, .int .u64 0, .int .i64 0, .int .u64 0]) ?_ ?_ ?_ ?_ (.tmp 8) (.tmp 27) ?_ ?_ ?_ ?_); exact rfl; exact rfl; exact hg1.out; exact rfl; exact rfl; exact rfl; exact rfl; (have G3 := Lib.hid ((Blk.new w2 30 #[.int .i64 0, .bool false, .int .i64 0, .int .u64 0, .int .i64 0, .int .u64 0, .int .u8 0, .int .i64 0, .int .i64 0, .int .u64 0, .int .u64 0, .int .u64 0, .int .u64 0, .int .u64 0, .int .u64 0, .int .u64 0, .int .u64 0, .int .i64 0, .int .u64 0]).put_ (gC r cd).c)); (have R3 := Lib.hid ((R2w.out.alloc (.cells #[.int .i64 0, .bool false, .int .i64 0, .int .u64 0, .int .i64 0, .int .u64 0, .int .u8 0, .int .i64 0, .int .i64 0, .int .u64 0, .int .u64 0, .int .u64 0, .int .u64 0, .int .u64 0, .int .u64 0, .int .u64 0, .int .u64 0, .int .i64 0, .int .u64 0] 30)).setRow_ (g' := w2.heap.size) (by have := R2w.out.lt; omega) (gC r cd).c)); (have B3 := Lib.hid (below_setRow (B2.out.alloc B2.out.size (.cells #[.int .i64 0, .bool false, .int .i64 0, .int .u64 0, .int .i64 0, .int .u64 0, .int .u8 0, .int .i64 0, .int .i64 0, .int .u64 0, .int .u64 0, .int .u64 0, .int .u64 0, .int .u64 0, .int .u64 0, .int .u64 0, .int .u64 0, .int .i64 0, .int .u64 0] 30)) B2.out.size (gC r cd).c)); (have C3 := Lib.hid (CA.out.below (B := 0) (below_setRow ((Below.refl w2.heap.size w2).alloc (Nat.le_refl _) (.cells #[.int .i64 0, .bool false, .int .i64 0, .int .u64 0, .int .i64 0, .int .u64 0, .int .u8 0, .int .i64 0, .int .i64 0, .int .u64 0, .int .u64 0, .int .u64 0, .int .u64 0, .int .u64 0, .int .u64 0, .int .u64 0, .int .u64 0, .int .i64 0, .int .u64 0] 30)) (Nat.le_refl _) (gC r cd).c))); (have VL := Lib.hid (vlt_of CA.out (by omega))); (have HGB := Lib.hid B2.out.size); clear CA; generalize (w2.alloc (.cells #[.int .i64 0, .bool false, .int .i64 0, .int .u64 0, .int .i64 0, .int .u64 0, .int .u8 0, .int .i64 0, .int .i64 0, .int .u64 0, .int .u64 0, .int .u64 0, .int .u64 0, .int .u64 0, .int .u64 0, .int .u64 0, .int .u64 0, .int .i64 0, .int .u64 0] 30)).setRow w2.heap.size (gC r cd).c = w3 at *; generalize w2.heap.size = gb at *)
      | ((with_reducible refine load_g (o := ⟨some 30, .load 30 (.tmp 8), _, _, _, _⟩) (G3.out) ?_ ?_ (.tmp 8) ?_ ?_ ?_); exact rfl; exact rfl; exact rfl; exact rfl)
      | (go_at_call 9; (fail_if_success have := k1); refine (go_is v 8 (cF op) (gC r cd) w3 C3.out hgok).mono ?_; (rw [← hs1.out]; unfold Step.v; unfold call0; simp only); rintro e w4 ⟨rfl, hb⟩; (have hb1 := Lib.hid (B3.out.trans (hb.mono B3.out.size))); (have G4 := Lib.hid (G3.out.below hb G3.out.lt)); (have R4 := Lib.hid (R3.out.below hb R3.out.lt)); (have C4 := Lib.hid (C3.out.below (B := 0) hb)); clear hb; have k1 := trivial)
      | ((with_reducible refine store_g (o := ⟨none, .store 30 (.tmp 9) (.tmp 32), _, _, _, _⟩) (cs := x.c) (R1.out w4) ?_ ?_ ?_ ?_ (.tmp 9) (.tmp 32) ?_ ?_ ?_ ?_); exact rfl; exact rfl; exact (Gr.c_one x); exact rfl; exact rfl; exact rfl; exact rfl)
      | ((with_reducible refine store_call (o := ⟨none, .store 36 (.tmp 10) (.tmp 33), _, _, _, _⟩) (cs := #[.int .i64 0, .int .u64 0, .int .u64 0, .int .u64 0, .int .u64 0, .int .u64 0]) (R2.out w4 (x.c)) ?_ ?_ ?_ ?_ (.tmp 10) (.tmp 33) ?_ ?_ ?_ ?_); exact rfl; exact rfl; exact call0_one; exact rfl; exact rfl; exact rfl; exact rfl; (have T1 := Lib.hid (T.out _ _ _ hb1.out hb1.out.size (x.c) #[.int .i64 0, .int .u64 0, .int .u64 0, .int .u64 0, .int .u64 0, .int .u64 0])); (have S1 := Lib.hid (T.out _ _ _ (Below.refl w4.heap.size w4) (Nat.le_refl _) (x.c) #[.int .i64 0, .int .u64 0, .int .u64 0, .int .u64 0, .int .u64 0, .int .u64 0])); generalize (((w4.alloc (.cells #[.int .i64 0, .bool false, .int .i64 0, .int .u64 0, .int .i64 0, .int .u64 0, .int .u8 0, .int .i64 0, .int .i64 0, .int .u64 0, .int .u64 0, .int .u64 0, .int .u64 0, .int .u64 0, .int .u64 0, .int .u64 0, .int .u64 0, .int .i64 0, .int .u64 0] 30)).alloc (.cells #[.int .i64 0, .int .u64 0, .int .u64 0, .int .u64 0, .int .u64 0, .int .u64 0] 36)).setRow w4.heap.size (x.c)).setRow (w4.heap.size + 1) #[.int .i64 0, .int .u64 0, .int .u64 0, .int .u64 0, .int .u64 0, .int .u64 0] = w5 at *; (have G5 := Lib.hid (G4.out.below S1.out.2.2 G4.out.lt)); (have R5 := Lib.hid (R4.out.below S1.out.2.2 R4.out.lt)); (have X5 := Lib.hid T1.out.1); (have L5 := Lib.hid T1.out.2.1); (have B5 := Lib.hid T1.out.2.2); (have C5 := Lib.hid (C4.out.below (B := 0) S1.out.2.2)); (have NXG := Lib.hid (Nat.ne_of_gt G4.out.lt)); generalize w4.heap.size = xb at *)
      | ((with_reducible refine load_callW (o := ⟨some 48, .load 36 (.tmp 10), _, _, _, _⟩) (L5.out) ?_ (.tmp 10) ?_ ?_ ?_ ?_); exact rfl; exact rfl; exact rfl; kernel_rfl)
      | (go_at_call 8; refine (K.out _).mono ?_; rintro e wk ⟨rfl, hbk⟩))
    go_ret
    exact ⟨rfl, B5.out.trans (hbk.mono B5.out.size)⟩
  · have hl1 : decide ((op : Int) < 17) = false := decide_eq_false hlow
    have hl2 : decide ((38 : Int) < (op : Int)) = true := decide_eq_true (by omega)
    go_enter Try.func5, Try.ntmps5
    go_wp2_with (first
      | (go_at_call 10; refine BY.out.mono ?_; rintro e w2 ⟨v, rfl, hown, hb⟩; (have CA := Lib.hid (code_two hown)); (have B2 := Lib.hid ((B1.out.alloc B1.out.size (.cells #[.int .u8 0, .int .u8 0, .int .u8 0, .int .u8 0, .int .u8 op, .int .u8 0, .int .u8 0, .int .u8 0] 45)).trans (hb.mono (by simp; omega)))); (have R2w := Lib.hid ((R1w.out.alloc (.cells #[.int .u8 0, .int .u8 0, .int .u8 0, .int .u8 0, .int .u8 op, .int .u8 0, .int .u8 0, .int .u8 0] 45)).below hb (by simp; omega))); clear hown hb)
      | ((with_reducible refine load_r8 (o := ⟨some 25, .load 27 (.tmp 4), _, _, _, _⟩) (R2w.out) ?_ ?_ (.tmp 4) ?_ ?_ ?_); exact rfl; exact rfl; exact rfl; exact rfl)
      | ((with_reducible refine store_g (o := ⟨none, .store 30 (.tmp 8) (.tmp 27), _, _, _, _⟩) (cs := (gC r cd).c) (Blk.new w2 30 #[.int .i64 0, .bool false, .int .i64 0, .int .u64 0, .int .i64 0, .int .u64 0, .int .u8 0, .int .i64 0, .int .i64 0, .int .u64 0, .int .u64 0, .int .u64 0, .int .u64 0, .int .u64 0, .int .u64 0, .int .u64 0, .int .u64 0, .int .i64 0, .int .u64 0]) ?_ ?_ ?_ ?_ (.tmp 8) (.tmp 27) ?_ ?_ ?_ ?_); exact rfl; exact rfl; exact hg1.out; exact rfl; exact rfl; exact rfl; exact rfl; (have G3 := Lib.hid ((Blk.new w2 30 #[.int .i64 0, .bool false, .int .i64 0, .int .u64 0, .int .i64 0, .int .u64 0, .int .u8 0, .int .i64 0, .int .i64 0, .int .u64 0, .int .u64 0, .int .u64 0, .int .u64 0, .int .u64 0, .int .u64 0, .int .u64 0, .int .u64 0, .int .i64 0, .int .u64 0]).put_ (gC r cd).c)); (have R3 := Lib.hid ((R2w.out.alloc (.cells #[.int .i64 0, .bool false, .int .i64 0, .int .u64 0, .int .i64 0, .int .u64 0, .int .u8 0, .int .i64 0, .int .i64 0, .int .u64 0, .int .u64 0, .int .u64 0, .int .u64 0, .int .u64 0, .int .u64 0, .int .u64 0, .int .u64 0, .int .i64 0, .int .u64 0] 30)).setRow_ (g' := w2.heap.size) (by have := R2w.out.lt; omega) (gC r cd).c)); (have B3 := Lib.hid (below_setRow (B2.out.alloc B2.out.size (.cells #[.int .i64 0, .bool false, .int .i64 0, .int .u64 0, .int .i64 0, .int .u64 0, .int .u8 0, .int .i64 0, .int .i64 0, .int .u64 0, .int .u64 0, .int .u64 0, .int .u64 0, .int .u64 0, .int .u64 0, .int .u64 0, .int .u64 0, .int .i64 0, .int .u64 0] 30)) B2.out.size (gC r cd).c)); (have C3 := Lib.hid (CA.out.below (B := 0) (below_setRow ((Below.refl w2.heap.size w2).alloc (Nat.le_refl _) (.cells #[.int .i64 0, .bool false, .int .i64 0, .int .u64 0, .int .i64 0, .int .u64 0, .int .u8 0, .int .i64 0, .int .i64 0, .int .u64 0, .int .u64 0, .int .u64 0, .int .u64 0, .int .u64 0, .int .u64 0, .int .u64 0, .int .u64 0, .int .i64 0, .int .u64 0] 30)) (Nat.le_refl _) (gC r cd).c))); (have VL := Lib.hid (vlt_of CA.out (by omega))); (have HGB := Lib.hid B2.out.size); clear CA; generalize (w2.alloc (.cells #[.int .i64 0, .bool false, .int .i64 0, .int .u64 0, .int .i64 0, .int .u64 0, .int .u8 0, .int .i64 0, .int .i64 0, .int .u64 0, .int .u64 0, .int .u64 0, .int .u64 0, .int .u64 0, .int .u64 0, .int .u64 0, .int .u64 0, .int .i64 0, .int .u64 0] 30)).setRow w2.heap.size (gC r cd).c = w3 at *; generalize w2.heap.size = gb at *)
      | ((with_reducible refine load_g (o := ⟨some 30, .load 30 (.tmp 8), _, _, _, _⟩) (G3.out) ?_ ?_ (.tmp 8) ?_ ?_ ?_); exact rfl; exact rfl; exact rfl; exact rfl)
      | (go_at_call 9; (fail_if_success have := k1); refine (go_is v 8 (cF op) (gC r cd) w3 C3.out hgok).mono ?_; (rw [← hs1.out]; unfold Step.v; unfold call0; simp only); rintro e w4 ⟨rfl, hb⟩; (have hb1 := Lib.hid (B3.out.trans (hb.mono B3.out.size))); (have G4 := Lib.hid (G3.out.below hb G3.out.lt)); (have R4 := Lib.hid (R3.out.below hb R3.out.lt)); (have C4 := Lib.hid (C3.out.below (B := 0) hb)); clear hb; have k1 := trivial)
      | ((with_reducible refine store_g (o := ⟨none, .store 30 (.tmp 9) (.tmp 32), _, _, _, _⟩) (cs := x.c) (R1.out w4) ?_ ?_ ?_ ?_ (.tmp 9) (.tmp 32) ?_ ?_ ?_ ?_); exact rfl; exact rfl; exact (Gr.c_one x); exact rfl; exact rfl; exact rfl; exact rfl)
      | ((with_reducible refine store_call (o := ⟨none, .store 36 (.tmp 10) (.tmp 33), _, _, _, _⟩) (cs := #[.int .i64 0, .int .u64 0, .int .u64 0, .int .u64 0, .int .u64 0, .int .u64 0]) (R2.out w4 (x.c)) ?_ ?_ ?_ ?_ (.tmp 10) (.tmp 33) ?_ ?_ ?_ ?_); exact rfl; exact rfl; exact call0_one; exact rfl; exact rfl; exact rfl; exact rfl; (have T1 := Lib.hid (T.out _ _ _ hb1.out hb1.out.size (x.c) #[.int .i64 0, .int .u64 0, .int .u64 0, .int .u64 0, .int .u64 0, .int .u64 0])); (have S1 := Lib.hid (T.out _ _ _ (Below.refl w4.heap.size w4) (Nat.le_refl _) (x.c) #[.int .i64 0, .int .u64 0, .int .u64 0, .int .u64 0, .int .u64 0, .int .u64 0])); generalize (((w4.alloc (.cells #[.int .i64 0, .bool false, .int .i64 0, .int .u64 0, .int .i64 0, .int .u64 0, .int .u8 0, .int .i64 0, .int .i64 0, .int .u64 0, .int .u64 0, .int .u64 0, .int .u64 0, .int .u64 0, .int .u64 0, .int .u64 0, .int .u64 0, .int .i64 0, .int .u64 0] 30)).alloc (.cells #[.int .i64 0, .int .u64 0, .int .u64 0, .int .u64 0, .int .u64 0, .int .u64 0] 36)).setRow w4.heap.size (x.c)).setRow (w4.heap.size + 1) #[.int .i64 0, .int .u64 0, .int .u64 0, .int .u64 0, .int .u64 0, .int .u64 0] = w5 at *; (have G5 := Lib.hid (G4.out.below S1.out.2.2 G4.out.lt)); (have R5 := Lib.hid (R4.out.below S1.out.2.2 R4.out.lt)); (have X5 := Lib.hid T1.out.1); (have L5 := Lib.hid T1.out.2.1); (have B5 := Lib.hid T1.out.2.2); (have C5 := Lib.hid (C4.out.below (B := 0) S1.out.2.2)); (have NXG := Lib.hid (Nat.ne_of_gt G4.out.lt)); generalize w4.heap.size = xb at *)
      | ((with_reducible refine load_callW (o := ⟨some 48, .load 36 (.tmp 10), _, _, _, _⟩) (L5.out) ?_ (.tmp 10) ?_ ?_ ?_ ?_); exact rfl; exact rfl; exact rfl; kernel_rfl)
      | (go_at_call 8; refine (K.out _).mono ?_; rintro e wk ⟨rfl, hbk⟩))
    go_ret
    exact ⟨rfl, B5.out.trans (hbk.mono B5.out.size)⟩

set_option maxRecDepth 100000 in
set_option maxHeartbeats 600000 in
theorem calls_call (k : Int) (r : Nat → Nat) (cd : Int) (hr : ∀ i, r i < M64) (op : Nat) (hop : ((op : Nat) : Int) = (16 + k % 256) % 256) (hy1 : 17 ≤ op) (hy2 : op ≤ 38) (w : World) :
    Calls Try.prog 5 #[.int .i64 k, .agg #[.int .u64 (r 0), .int .u64 (r 1), .int .u64 (r 2), .int .u64 (r 3), .int .u64 (r 4), .int .u64 (r 5), .int .u64 (r 6), .int .u64 (r 7)], .int .i64 cd] w fun e w' => e = .returned (.bool true) ∧ Below w.heap.size w w' := by
  obtain ⟨m, hm⟩ : ∃ m : Nat, (m : Int) = k % 256 := ⟨(k % 256).toNat, by omega⟩
  have hm1 : bits .and .i64 k 255 = (m : Int) := by rw [and255, hm]
  have hm2 : (m : Int) < 256 := by omega
  have hm3 : (0 : Int) ≤ (m : Int) := by omega
  have hu : IntKind.u8.wrap (16 + (m : Int)) = (op : Int) := by rw [IntKind.wrap_u8, hop, ← hm]
  have hm4 : bits .and .i64 (16 + (m : Int)) 255 = (op : Int) := by rw [and255, hop, ← hm]
  have ho1 : (op : Int) < 256 := by omega
  have ho0 : (0 : Int) ≤ (op : Int) := by omega
  clear hm hop
  have K := Lib.hid known_is
  have hgok : (gC r cd).Ok := hr
  have hgc : (gC r cd).c = #[.int .i64 2, .bool false, .int .i64 0, .int .u64 0, .int .i64 0, .int .u64 0, .int .u8 0, .int .i64 0, .int .i64 1, .int .u64 (r 0), .int .u64 (r 1), .int .u64 (r 2), .int .u64 (r 3), .int .u64 (r 4), .int .u64 (r 5), .int .u64 (r 6), .int .u64 (r 7), .int .i64 cd, .int .u64 0] := rfl
  have hg1 := Lib.hid (Gr.c_one (gC r cd))
  have R1w := Blk.new w 27 #[.int .u64 (r 0), .int .u64 (r 1), .int .u64 (r 2), .int .u64 (r 3), .int .u64 (r 4), .int .u64 (r 5), .int .u64 (r 6), .int .u64 (r 7)]
  have B1 := (Below.refl w.heap.size w).alloc (Nat.le_refl _) (.cells #[.int .u64 (r 0), .int .u64 (r 1), .int .u64 (r 2), .int .u64 (r 3), .int .u64 (r 4), .int .u64 (r 5), .int .u64 (r 6), .int .u64 (r 7)] 27)
  have hz : (w.alloc (.cells #[.int .u64 (r 0), .int .u64 (r 1), .int .u64 (r 2), .int .u64 (r 3), .int .u64 (r 4), .int .u64 (r 5), .int .u64 (r 6), .int .u64 (r 7)] 27)).heap.size = w.heap.size + 1 := by simp
  have BY := bytes_is (w.heap.size + 1) 0 2 2 (cD op) ((w.alloc (.cells #[.int .u64 (r 0), .int .u64 (r 1), .int .u64 (r 2), .int .u64 (r 3), .int .u64 (r 4), .int .u64 (r 5), .int .u64 (r 6), .int .u64 (r 7)] 27)).alloc (.cells #[.int .u8 0, .int .u8 0, .int .u8 0, .int .u8 0, .int .u8 op, .int .u8 0, .int .u8 0, .int .u8 0] 45)) (by omega) (by simp) (fun i hi j hj => by
    have hB := Blk.new (w.alloc (.cells #[.int .u64 (r 0), .int .u64 (r 1), .int .u64 (r 2), .int .u64 (r 3), .int .u64 (r 4), .int .u64 (r 5), .int .u64 (r 6), .int .u64 (r 7)] 27)) 45 #[.int .u8 0, .int .u8 0, .int .u8 0, .int .u8 0, .int .u8 op, .int .u8 0, .int .u8 0, .int .u8 0]
    rw [hz] at hB
    refine (hB.cell _).trans ?_
    have hi' : i = 0 ∨ i = 1 := by omega
    have hj' : j = 0 ∨ j = 1 ∨ j = 2 ∨ j = 3 := by omega
    rcases hi' with rfl | rfl <;> rcases hj' with rfl | rfl | rfl | rfl <;> rfl)
  replace hz := Lib.hid hz
  have BY := Lib.hid BY
  have R1w := Lib.hid R1w
  have B1 := Lib.hid B1
  have R1 := row_g
  have R2 := row_call
  have T := @two_rows
  unfold zG call0 at R1 R2 T
  have R1 := Lib.hid R1
  have R2 := Lib.hid R2
  have T := Lib.hid T
  have GE1 := Lib.hid (go_end op r cd)
  have hl1 : decide ((op : Int) < 17) = false := decide_eq_false (by omega)
  have hl2 : decide ((38 : Int) < (op : Int)) = false := decide_eq_false (by omega)
  have hv1 := Lib.hid (callV_one ((op : Int) - 16) (r 0) (r 1) (r 2) (r 3) (r 4))
  have GC1 := Lib.hid (go_call op r cd hy1 hy2)
  have hq := g_neq ((gC r cd).to 2)
  have hgok2 : ((gC r cd).to 2).Ok := hr
  have hgx := Lib.hid (Gr.c_one ((gC r cd).to 2))
  go_enter Try.func5, Try.ntmps5
  go_wp2_with (first
    | (go_at_call 10; refine BY.out.mono ?_; rintro e w2 ⟨v, rfl, hown, hb⟩; (have CA := Lib.hid (code_two hown)); (have B2 := Lib.hid ((B1.out.alloc B1.out.size (.cells #[.int .u8 0, .int .u8 0, .int .u8 0, .int .u8 0, .int .u8 op, .int .u8 0, .int .u8 0, .int .u8 0] 45)).trans (hb.mono (by simp; omega)))); (have R2w := Lib.hid ((R1w.out.alloc (.cells #[.int .u8 0, .int .u8 0, .int .u8 0, .int .u8 0, .int .u8 op, .int .u8 0, .int .u8 0, .int .u8 0] 45)).below hb (by simp; omega))); clear hown hb)
    | ((with_reducible refine load_r8 (o := ⟨some 25, .load 27 (.tmp 4), _, _, _, _⟩) (R2w.out) ?_ ?_ (.tmp 4) ?_ ?_ ?_); exact rfl; exact rfl; exact rfl; exact rfl)
    | ((with_reducible refine store_g (o := ⟨none, .store 30 (.tmp 8) (.tmp 27), _, _, _, _⟩) (cs := (gC r cd).c) (Blk.new w2 30 #[.int .i64 0, .bool false, .int .i64 0, .int .u64 0, .int .i64 0, .int .u64 0, .int .u8 0, .int .i64 0, .int .i64 0, .int .u64 0, .int .u64 0, .int .u64 0, .int .u64 0, .int .u64 0, .int .u64 0, .int .u64 0, .int .u64 0, .int .i64 0, .int .u64 0]) ?_ ?_ ?_ ?_ (.tmp 8) (.tmp 27) ?_ ?_ ?_ ?_); exact rfl; exact rfl; exact hg1.out; exact rfl; exact rfl; exact rfl; exact rfl; (have G3 := Lib.hid ((Blk.new w2 30 #[.int .i64 0, .bool false, .int .i64 0, .int .u64 0, .int .i64 0, .int .u64 0, .int .u8 0, .int .i64 0, .int .i64 0, .int .u64 0, .int .u64 0, .int .u64 0, .int .u64 0, .int .u64 0, .int .u64 0, .int .u64 0, .int .u64 0, .int .i64 0, .int .u64 0]).put_ (gC r cd).c)); (have R3 := Lib.hid ((R2w.out.alloc (.cells #[.int .i64 0, .bool false, .int .i64 0, .int .u64 0, .int .i64 0, .int .u64 0, .int .u8 0, .int .i64 0, .int .i64 0, .int .u64 0, .int .u64 0, .int .u64 0, .int .u64 0, .int .u64 0, .int .u64 0, .int .u64 0, .int .u64 0, .int .i64 0, .int .u64 0] 30)).setRow_ (g' := w2.heap.size) (by have := R2w.out.lt; omega) (gC r cd).c)); (have B3 := Lib.hid (below_setRow (B2.out.alloc B2.out.size (.cells #[.int .i64 0, .bool false, .int .i64 0, .int .u64 0, .int .i64 0, .int .u64 0, .int .u8 0, .int .i64 0, .int .i64 0, .int .u64 0, .int .u64 0, .int .u64 0, .int .u64 0, .int .u64 0, .int .u64 0, .int .u64 0, .int .u64 0, .int .i64 0, .int .u64 0] 30)) B2.out.size (gC r cd).c)); (have C3 := Lib.hid (CA.out.below (B := 0) (below_setRow ((Below.refl w2.heap.size w2).alloc (Nat.le_refl _) (.cells #[.int .i64 0, .bool false, .int .i64 0, .int .u64 0, .int .i64 0, .int .u64 0, .int .u8 0, .int .i64 0, .int .i64 0, .int .u64 0, .int .u64 0, .int .u64 0, .int .u64 0, .int .u64 0, .int .u64 0, .int .u64 0, .int .u64 0, .int .i64 0, .int .u64 0] 30)) (Nat.le_refl _) (gC r cd).c))); (have VL := Lib.hid (vlt_of CA.out (by omega))); (have HGB := Lib.hid B2.out.size); clear CA; generalize (w2.alloc (.cells #[.int .i64 0, .bool false, .int .i64 0, .int .u64 0, .int .i64 0, .int .u64 0, .int .u8 0, .int .i64 0, .int .i64 0, .int .u64 0, .int .u64 0, .int .u64 0, .int .u64 0, .int .u64 0, .int .u64 0, .int .u64 0, .int .u64 0, .int .i64 0, .int .u64 0] 30)).setRow w2.heap.size (gC r cd).c = w3 at *; generalize w2.heap.size = gb at *)
    | ((with_reducible refine load_g (o := ⟨some 30, .load 30 (.tmp 8), _, _, _, _⟩) (G3.out) ?_ ?_ (.tmp 8) ?_ ?_ ?_); exact rfl; exact rfl; exact rfl; exact rfl)
    | (go_at_call 9; (fail_if_success have := k1); refine (go_is v 8 (cF op) (gC r cd) w3 C3.out hgok).mono ?_; (rw [GC1.out]; unfold Step.v; unfold callV; simp only); rintro e w4 ⟨rfl, hb⟩; (have hb1 := Lib.hid (B3.out.trans (hb.mono B3.out.size))); (have G4 := Lib.hid (G3.out.below hb G3.out.lt)); (have R4 := Lib.hid (R3.out.below hb R3.out.lt)); (have C4 := Lib.hid (C3.out.below (B := 0) hb)); clear hb; have k1 := trivial)
    | ((with_reducible refine store_g (o := ⟨none, .store 30 (.tmp 9) (.tmp 32), _, _, _, _⟩) (cs := ((gC r cd).to 2).c) (R1.out w4) ?_ ?_ ?_ ?_ (.tmp 9) (.tmp 32) ?_ ?_ ?_ ?_); exact rfl; exact rfl; exact hgx.out; exact rfl; exact rfl; exact rfl; exact rfl)
    | ((with_reducible refine store_call (o := ⟨none, .store 36 (.tmp 10) (.tmp 33), _, _, _, _⟩) (cs := #[.int .i64 ((op : Int) - 16), .int .u64 (r 0), .int .u64 (r 1), .int .u64 (r 2), .int .u64 (r 3), .int .u64 (r 4)]) (R2.out w4 (((gC r cd).to 2).c)) ?_ ?_ ?_ ?_ (.tmp 10) (.tmp 33) ?_ ?_ ?_ ?_); exact rfl; exact rfl; exact hv1.out; exact rfl; exact rfl; exact rfl; exact rfl; (have T1 := Lib.hid (T.out _ _ _ hb1.out hb1.out.size (((gC r cd).to 2).c) #[.int .i64 ((op : Int) - 16), .int .u64 (r 0), .int .u64 (r 1), .int .u64 (r 2), .int .u64 (r 3), .int .u64 (r 4)])); (have S1 := Lib.hid (T.out _ _ _ (Below.refl w4.heap.size w4) (Nat.le_refl _) (((gC r cd).to 2).c) #[.int .i64 ((op : Int) - 16), .int .u64 (r 0), .int .u64 (r 1), .int .u64 (r 2), .int .u64 (r 3), .int .u64 (r 4)])); generalize (((w4.alloc (.cells #[.int .i64 0, .bool false, .int .i64 0, .int .u64 0, .int .i64 0, .int .u64 0, .int .u8 0, .int .i64 0, .int .i64 0, .int .u64 0, .int .u64 0, .int .u64 0, .int .u64 0, .int .u64 0, .int .u64 0, .int .u64 0, .int .u64 0, .int .i64 0, .int .u64 0] 30)).alloc (.cells #[.int .i64 0, .int .u64 0, .int .u64 0, .int .u64 0, .int .u64 0, .int .u64 0] 36)).setRow w4.heap.size (((gC r cd).to 2).c)).setRow (w4.heap.size + 1) #[.int .i64 ((op : Int) - 16), .int .u64 (r 0), .int .u64 (r 1), .int .u64 (r 2), .int .u64 (r 3), .int .u64 (r 4)] = w5 at *; (have G5 := Lib.hid (G4.out.below S1.out.2.2 G4.out.lt)); (have R5 := Lib.hid (R4.out.below S1.out.2.2 R4.out.lt)); (have X5 := Lib.hid T1.out.1); (have L5 := Lib.hid T1.out.2.1); (have B5 := Lib.hid T1.out.2.2); (have C5 := Lib.hid (C4.out.below (B := 0) S1.out.2.2)); (have NXG := Lib.hid (Nat.ne_of_gt G4.out.lt)); generalize w4.heap.size = xb at *; (have y8 := (G5.out.cell 8).trans (show (gC r cd).c[8]? = some (.int .i64 1) from rfl)); (have f8 := G5.out.frozen 8); (have G6 : Hid (Blk (w5.setCell ⟨gb, 8, none⟩ (.int .i64 2)) gb 30 ((gC r cd).to 2).c) := G5.out.set_ 8 (.int .i64 2)); (have C7F : Hid (CodeAt (w5.setCell ⟨gb, 8, none⟩ (.int .i64 2)) v 8 (cF op)) := Lib.hid (code_in C5.out VL.out ((Below.refl gb w5).setCell (p := ⟨gb, 8, none⟩) (Nat.le_refl _) (.int .i64 2)))); (have X6 := Lib.hid (X5.out.far (p := ⟨gb, 8, none⟩) NXG.out (.int .i64 2))); (have L6 := Lib.hid (L5.out.far (p := ⟨gb, 8, none⟩) (L5.out.ne_ G5.out (by decide)) (.int .i64 2))); (have R6 := Lib.hid (R5.out.far (p := ⟨gb, 8, none⟩) (R5.out.ne_ G5.out (by decide)) (.int .i64 2))); (have l0 : (w5.setCell ⟨gb, 8, none⟩ (.int .i64 2)).cell? ⟨xb + 1, 0, none⟩ = some (.int .i64 ((op : Int) - 16)) := (L6.out.cell 0).trans rfl))
    | ((with_reducible refine load_gW (o := ⟨some 59, .load 30 (.tmp 9), _, _, _, _⟩) (X6.out) ?_ (.tmp 9) ?_ ?_ ?_ ?_); exact rfl; exact rfl; exact rfl; kernel_rfl)
    | ((with_reducible refine load_gW (o := ⟨some 60, .load 30 (.tmp 8), _, _, _, _⟩) (G6.out) ?_ (.tmp 8) ?_ ?_ ?_ ?_); exact rfl; exact rfl; exact rfl; kernel_rfl)
    | fail)
  have B6 := Lib.hid (B5.out.setCell (p := ⟨gb, 8, none⟩) HGB.out (.int .i64 2))
  clear l0 y8 f8
  have C7 : Hid (CodeAt (w5.setCell ⟨gb, 8, none⟩ (.int .i64 2)) v 8 (cF op)) := C7F
  generalize w5.setCell ⟨gb, 8, none⟩ (.int .i64 2) = w6 at *
  go_loopw [13] (fun i wr => ∃ j : Nat, j ≤ 5 ∧ i = .int .i64 j ∧ ∃ q, wr = w6.drewN q) (fun i _ => 5 - (intOf i).toNat)
  case atStart => exact ⟨0, by omega, rfl, 0, rfl⟩
  case round =>
    obtain ⟨j, hj, rfl, q, rfl⟩ := hrel
    by_cases hlt : j < 5
    · have q1 : w6.cell? ⟨xb + 1, 1 + j, none⟩ = some (.int .u64 (r j)) := (L6.out.cell (1 + j)).trans (by
        rcases j with _ | _ | _ | _ | _ | j
        all_goals first | rfl | omega)
      have q2 : w6.cell? ⟨w.heap.size, j, none⟩ = some (.int .u64 (r j)) := (R6.out.cell j).trans (by
        rcases j with _ | _ | _ | _ | _ | j
        all_goals first | rfl | omega)
      have hlt' : (j : Int) < 5 := by omega
      have hlt8 : (j : Int) < 8 := by omega
      have hj0 : (0 : Int) ≤ (j : Int) := by omega
      go_wp2_with fail
      go_quiet (fail)
      go_wp2
      go_roundw
      case rel => exact ⟨j + 1, by omega, by go_num, q + nq, by simp [World.drewN, Nat.add_assoc]⟩
      case measure => simp [intOf]; omega
    · obtain rfl : j = 5 := by omega
      have X7 := Lib.hid (X6.out.drewN q)
      have B7 := Lib.hid (B6.out.trans (below_drewN w6 _ q))
      have C8 := Lib.hid (C7.out.below (B := 0) (below_drewN w6 _ q))
      generalize w6.drewN q = w7 at *
      clear X6 B6 C7 R6 L6 G6
      go_wp2_with (first
        | ((with_reducible refine load_g (o := ⟨some 84, .load 30 (.tmp 9), _, _, _, _⟩) (X7.out) ?_ ?_ (.tmp 9) ?_ ?_ ?_); exact rfl; exact rfl; exact rfl; exact rfl)
        | (go_at_call 9; (fail_if_success have := k2); refine (go_is v 8 (cF op) ((gC r cd).to 2) w7 C8.out hgok2).mono ?_; rw [GE1.out]; unfold Step.v; unfold call0; simp only; rintro e w8 ⟨rfl, hb⟩; (have hb2 := Lib.hid (B7.out.trans (hb.mono B7.out.size))); clear hb; have k2 := trivial)
        | ((with_reducible refine store_g (o := ⟨none, .store 30 (.tmp 14) (.tmp 86), _, _, _, _⟩) (cs := ((gC r cd).to 2).c) (R1.out w8) ?_ ?_ ?_ ?_ (.tmp 14) (.tmp 86) ?_ ?_ ?_ ?_); exact rfl; exact rfl; exact hgx.out; exact rfl; exact rfl; exact rfl; exact rfl)
        | ((with_reducible refine store_call (o := ⟨none, .store 36 (.tmp 15) (.tmp 87), _, _, _, _⟩) (cs := #[.int .i64 0, .int .u64 0, .int .u64 0, .int .u64 0, .int .u64 0, .int .u64 0]) (R2.out w8 (((gC r cd).to 2).c)) ?_ ?_ ?_ ?_ (.tmp 15) (.tmp 87) ?_ ?_ ?_ ?_); exact rfl; exact rfl; exact call0_one; exact rfl; exact rfl; exact rfl; exact rfl; (have T2 := Lib.hid (T.out _ _ _ hb2.out hb2.out.size (((gC r cd).to 2).c) #[.int .i64 0, .int .u64 0, .int .u64 0, .int .u64 0, .int .u64 0, .int .u64 0])); (have S2 := Lib.hid (T.out _ _ _ (Below.refl w8.heap.size w8) (Nat.le_refl _) (((gC r cd).to 2).c) #[.int .i64 0, .int .u64 0, .int .u64 0, .int .u64 0, .int .u64 0, .int .u64 0])); generalize (((w8.alloc (.cells #[.int .i64 0, .bool false, .int .i64 0, .int .u64 0, .int .i64 0, .int .u64 0, .int .u8 0, .int .i64 0, .int .i64 0, .int .u64 0, .int .u64 0, .int .u64 0, .int .u64 0, .int .u64 0, .int .u64 0, .int .u64 0, .int .u64 0, .int .i64 0, .int .u64 0] 30)).alloc (.cells #[.int .i64 0, .int .u64 0, .int .u64 0, .int .u64 0, .int .u64 0, .int .u64 0] 36)).setRow w8.heap.size (((gC r cd).to 2).c)).setRow (w8.heap.size + 1) #[.int .i64 0, .int .u64 0, .int .u64 0, .int .u64 0, .int .u64 0, .int .u64 0] = w9 at *; (have B9 := Lib.hid T2.out.2.2))
        | (go_at_call 8; refine (K.out _).mono ?_; rintro e wk ⟨rfl, hbk⟩))
      go_ret
      exact ⟨rfl, B9.out.trans (hbk.mono B9.out.size)⟩

theorem calls_walk (k : Int) (r : Nat → Nat) (cd : Int) (w : World) (hr : ∀ i, r i < M64) :
    Calls Try.prog 5 #[.int .i64 k, .agg #[.int .u64 (r 0), .int .u64 (r 1), .int .u64 (r 2), .int .u64 (r 3), .int .u64 (r 4), .int .u64 (r 5), .int .u64 (r 6), .int .u64 (r 7)], .int .i64 cd] w fun e w' => e = .returned (.bool true) ∧ Below w.heap.size w w' := by
  have hop : ((((16 + k % 256) % 256).toNat : Nat) : Int) = (16 + k % 256) % 256 := by omega
  by_cases h : 17 ≤ ((16 + k % 256) % 256).toNat ∧ ((16 + k % 256) % 256).toNat ≤ 38
  · exact calls_call k r cd hr _ hop h.1 h.2 w
  · exact calls_rest k r cd hr _ hop h w
end Go.Proofs.Ytbgfbgcjghcepaa
