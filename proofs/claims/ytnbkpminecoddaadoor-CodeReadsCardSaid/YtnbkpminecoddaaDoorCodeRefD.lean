/- The reference's Decode, by walk. -/
import Derived.Test.YtnbkpminecoddaaDoorCodeRef
import Derived.Deep.RegionHeld3
import Derived.OrdersHeld
namespace Go.Proofs.YtnbkpminecoddaaDoor
open Go.RowKit
set_option linter.unusedVariables false
set_option linter.unusedSimpArgs false

set_option maxRecDepth 100000 in
set_option maxHeartbeats 4000000 in
theorem refDecode_end (A : Option Addr) (n cap : Nat) (pc : Int) (hn : n < 1000000000) (h4 : n % 4 = 0) (hp : pc = ((n / 4 : Nat) : Int)) (w : World) : Calls Tryd.prog 11 #[.slice A n cap, .int .i64 pc] w fun e w' => e = .returned (.tuple #[insV 0 0 0 0, .int .i64 4]) ∧ Below w.heap.size w w' := by
  have h0 : 0 ≤ pc := by omega
  have h1 : pc < 1000000000 := by omega
  have h2 : (4 * pc == (n : Int)) = true := by simp; omega
  clear hp
  go_enter Tryd.func11, Tryd.ntmps11
  go_wp2
  all_goals first
    | (go_returns; exact ⟨rfl, (Below.refl _ _).alloc (Nat.le_refl _) _⟩)
    | (exfalso; omega)
    | go_wall
set_option maxRecDepth 100000 in
set_option maxHeartbeats 4000000 in
theorem refDecode_out (A : Option Addr) (n cap : Nat) (pc : Int) (hn : n < 1000000000) (h4 : ¬ (n % 4 = 0 ∧ pc = ((n / 4 : Nat) : Int))) (hp : pc < 0 ∨ ((n / 4 : Nat) : Int) ≤ pc) (w : World) : Calls Tryd.prog 11 #[.slice A n cap, .int .i64 pc] w fun e w' => e = .returned (.tuple #[insV 0 0 0 0, .int .i64 7]) ∧ Below w.heap.size w w' := by
  have hb := (Below.refl w.heap.size w).alloc (Nat.le_refl _) (.cells #[.int .u8 0, .int .u8 0, .int .u8 0, .int .u8 0] 26)
  rcases hp with hp | hp
  · clear h4
    go_enter Tryd.func11, Tryd.ntmps11
    go_wp2
    all_goals first
      | (go_returns; exact ⟨rfl, hb⟩)
      | (exfalso; omega)
      | go_wall
  · by_cases hbig : pc < 1000000000
    · have h0 : 0 ≤ pc := by omega
      have h2 : (4 * pc == (n : Int)) = false := by simp; omega
      have h3 : (n : Int) < 4 * pc + 4 := by omega
      clear hp h4
      go_enter Tryd.func11, Tryd.ntmps11
      go_wp2
      all_goals first
        | (go_returns; exact ⟨rfl, hb⟩)
        | (exfalso; omega)
        | go_wall
    · have h0 : 0 ≤ pc := by omega
      have h2 : 1000000000 ≤ pc := by omega
      clear hp h4
      go_enter Tryd.func11, Tryd.ntmps11
      go_wp2
      all_goals first
        | (go_returns; exact ⟨rfl, hb⟩)
        | (exfalso; omega)
        | go_wall
set_option maxRecDepth 100000 in
set_option maxHeartbeats 4000000 in
theorem refDecode_in (g o n cap p : Nat) (k a b c : Int) (hn : n < 1000000000) (hcap : n ≤ cap) (pc : Int) (hpc : pc = (p : Int)) (hp : p < n / 4) (hk : 0 ≤ k ∧ k < 256) (w : World) (hg : g < w.heap.size)
    (x0 : w.cell? ⟨g, o + 4 * p, none⟩ = some (.int .u8 k)) (x1 : w.cell? ⟨g, o + (4 * p + 1), none⟩ = some (.int .u8 a)) (x2 : w.cell? ⟨g, o + (4 * p + 2), none⟩ = some (.int .u8 b)) (x3 : w.cell? ⟨g, o + (4 * p + 3), none⟩ = some (.int .u8 c)) :
    Calls Tryd.prog 11 #[.slice (some ⟨g, o, none⟩) n cap, .int .i64 pc] w fun e w' => e = .returned (.tuple #[if isB k a b c = true then insV k a b c else insV 0 0 0 0, .int .i64 (if isB k a b c = true then 0 else 7)]) ∧ Below w.heap.size w w' := by
  have IS := refIs_is k a b c hk
  have e0 : 0 ≤ pc := by omega
  have e1 : pc < 1000000000 := by omega
  have e2 : (4 * pc == (n : Int)) = false := by simp; omega
  have e3 : ¬ ((n : Int) < 4 * pc + 4) := by omega
  obtain ⟨q, hq⟩ : ∃ q, q = 4 * p := ⟨_, rfl⟩
  rw [← hq] at x0 x1 x2 x3
  obtain ⟨q1, hq1⟩ : ∃ q1, q1 = q + 1 := ⟨_, rfl⟩
  obtain ⟨q2, hq2⟩ : ∃ q2, q2 = q + 2 := ⟨_, rfl⟩
  obtain ⟨q3, hq3⟩ : ∃ q3, q3 = q + 3 := ⟨_, rfl⟩
  rw [← hq1] at x1
  rw [← hq2] at x2
  rw [← hq3] at x3
  have m0 : IntKind.i64.wrap (4 * pc) = (q : Int) := by rw [IntKind.wrap_i64]; omega
  have m1 : IntKind.i64.wrap ((q : Int) + 1) = (q1 : Int) := by rw [IntKind.wrap_i64]; omega
  have m2 : IntKind.i64.wrap ((q : Int) + 2) = (q2 : Int) := by rw [IntKind.wrap_i64]; omega
  have m3 : IntKind.i64.wrap ((q : Int) + 3) = (q3 : Int) := by rw [IntKind.wrap_i64]; omega
  have HM := Lib.hid (And.intro m0 (And.intro m1 (And.intro m2 m3)))
  have HL := Lib.hid (And.intro (show q < n by omega) (And.intro (show q1 < n by omega) (And.intro (show q2 < n by omega) (show q3 < n by omega))))
  have B1 := (Below.refl w.heap.size w).alloc (Nat.le_refl _) (.cells #[.int .u8 0, .int .u8 0, .int .u8 0, .int .u8 0] 26)
  have R1 := Blk.new w 26 #[.int .u8 0, .int .u8 0, .int .u8 0, .int .u8 0]
  have y0 := (B1.cell (p := ⟨g, o + q, none⟩) hg).trans x0
  have y1 := (B1.cell (p := ⟨g, o + q1, none⟩) hg).trans x1
  have y2 := (B1.cell (p := ⟨g, o + q2, none⟩) hg).trans x2
  have y3 := (B1.cell (p := ⟨g, o + q3, none⟩) hg).trans x3
  have HY := Lib.hid (And.intro y0 (And.intro y1 (And.intro y2 y3)))
  clear m0 m1 m2 m3 hq hq1 hq2 hq3 hpc hp x0 x1 x2 x3 y0 y1 y2 y3
  rw [show insV k a b c = .agg #[.int .u8 k, .int .u8 a, .int .u8 b, .int .u8 c] from rfl] at IS
  cases hI : isB k a b c
  all_goals
    rw [hI] at IS
    simp only [if_true, if_false, Bool.false_eq_true]
    clear hI
    go_enter Tryd.func11, Tryd.ntmps11
    go_wp2_with fail
    generalize w.alloc (.cells #[.int .u8 0, .int .u8 0, .int .u8 0, .int .u8 0] 26) = w1 at *
    obtain ⟨m0, m1, m2, m3⟩ := HM.out
    obtain ⟨l0, l1, l2, l3⟩ := HL.out
    obtain ⟨y0, y1, y2, y3⟩ := HY.out
    go_region_held3 (fun w' => w'.cell? ⟨g, o + q, none⟩ = some (.int .u8 k) ∧ w'.cell? ⟨g, o + q1, none⟩ = some (.int .u8 a) ∧ w'.cell? ⟨g, o + q2, none⟩ = some (.int .u8 b) ∧ w'.cell? ⟨g, o + q3, none⟩ = some (.int .u8 c)) (go_keep) (fail)
    have hW := And.intro ((B1.alloc B1.size (.cells #[.int .u8 k, .int .u8 a, .int .u8 b, .int .u8 c] 26)).drew) (And.intro ((R1.alloc (.cells #[.int .u8 k, .int .u8 a, .int .u8 b, .int .u8 c] 26)).drew) (Blk.new w1 26 #[.int .u8 k, .int .u8 a, .int .u8 b, .int .u8 c]).drew)
    clear y0 y1 y2 y3 m0 m1 m2 m3 l0 l1 l2 l3 HY HL HM
    generalize (w1.alloc (.cells #[.int .u8 k, .int .u8 a, .int .u8 b, .int .u8 c] 26)).drew = w2 at *
    generalize w1.heap.size = ib at *
    obtain ⟨B2, R2, I2⟩ := hW
    have R3 := Lib.hid R2
    have B3 := Lib.hid B2
    have I3 := Lib.hid I2
    clear R2 B2 R1 B1 I2
  · go_wp2_with (first | (refine load_ins (o := ⟨some 60, .load 26 (.tmp 6), _, _, _, _⟩) I3.out rfl (.tmp 6) rfl (by exact rfl) ?_) | (go_at_call 23; refine (IS w2).mono ?_; rintro e w3 ⟨rfl, hb3⟩; (have R4 := R3.out.below hb3 R3.out.lt); (have I4 := I3.out.below hb3 I3.out.lt); (have B4 := Lib.hid (B3.out.trans (hb3.mono B3.out.size))); clear hb3) | (refine wpList_store_row (by exact rfl) 26 (.tmp 4) (.tmp 63) (by exact rfl) w.heap.size #[.int .u8 0, .int .u8 0, .int .u8 0, .int .u8 0] (by exact rfl) (by exact rfl) 26 _ R4 (by kernel_rfl) (by exact rfl) (by simp [Value.oneCell']) ?_))
    exact bodyPost_ret (results_ins (p := 4) (u := 5) (by kernel_rfl) _ _ rfl (R4.put_ _)) rfl ⟨rfl, below_setRow B4.out (Nat.le_refl _) _⟩
  · go_wp2_with (first | (refine load_ins (o := ⟨some 60, .load 26 (.tmp 6), _, _, _, _⟩) I3.out rfl (.tmp 6) rfl (by exact rfl) ?_) | (go_at_call 23; refine (IS w2).mono ?_; rintro e w3 ⟨rfl, hb3⟩; (have R4 := R3.out.below hb3 R3.out.lt); (have I4 := I3.out.below hb3 I3.out.lt); (have B4 := Lib.hid (B3.out.trans (hb3.mono B3.out.size))); clear hb3) | (refine load_ins (o := ⟨some 64, .load 26 (.tmp 6), _, _, _, _⟩) I4 rfl (.tmp 6) rfl (by exact rfl) ?_) | (refine wpList_store_row (by exact rfl) 26 (.tmp 4) (.tmp 64) (by exact rfl) w.heap.size #[.int .u8 k, .int .u8 a, .int .u8 b, .int .u8 c] (by exact rfl) (by exact rfl) 26 _ R4 (by kernel_rfl) (by exact rfl) (by simp [Value.oneCell']) ?_))
    exact bodyPost_ret (results_ins (p := 4) (u := 5) (by kernel_rfl) _ _ rfl (R4.put_ _)) rfl ⟨rfl, below_setRow B4.out (Nat.le_refl _) _⟩
/-- The reference's Decode answers as the program's. -/
theorem refDecode_is (A : Option Addr) (n cap : Nat) (D : Nat → Int) (hD : ∀ i, 0 ≤ D i ∧ D i < 256) (pc : Int) (w : World) (h : CodeAt w (.slice A n cap) n D) : Calls Tryd.prog 11 #[.slice A n cap, .int .i64 pc] w fun e w' => e = .returned (.tuple #[(decR n D pc).v, .int .i64 (decR n D pc).e]) ∧ Below w.heap.size w w' := by
  obtain ⟨hn, _, A', cap', hA, hcap, hc⟩ := h
  cases hA
  unfold decR
  by_cases h1 : n % 4 = 0 ∧ pc = ((n / 4 : Nat) : Int)
  · rw [if_pos h1]
    exact refDecode_end A n cap pc hn h1.1 h1.2 w
  · rw [if_neg h1]
    by_cases h2 : pc < 0 ∨ ((n / 4 : Nat) : Int) ≤ pc
    · rw [if_pos h2]
      exact refDecode_out A n cap pc hn h1 h2 w
    · rw [if_neg h2]
      obtain ⟨p, rfl⟩ : ∃ p : Nat, pc = (p : Int) := ⟨pc.toNat, by omega⟩
      have hp : p < n / 4 := by omega
      obtain ⟨g, o, rfl, hg, hx⟩ := hc (by omega)
      have C := refDecode_in g o n cap p _ _ _ _ hn hcap (p : Int) rfl hp (hD (4 * p)) w hg (hx (4 * p) (by omega)) (hx (4 * p + 1) (by omega)) (hx (4 * p + 2) (by omega)) (hx (4 * p + 3) (by omega))
      rw [isB_eq _ _ _ _ (hD (4 * p)).1] at C
      simp only [Int.toNat_natCast]
      by_cases h3 : okOf (D (4 * p)) = false
      · rw [if_pos h3]
        rw [h3] at C
        exact C
      · rw [if_neg h3]
        have h3' : okOf (D (4 * p)) = true := by simpa using h3
        rw [h3'] at C
        by_cases h4 : badArgs (argsOf (D (4 * p))) (D (4 * p + 1)) (D (4 * p + 2)) (D (4 * p + 3)) = true
        · rw [if_pos h4]
          rw [h4] at C
          exact C
        · rw [if_neg h4]
          have h4' : badArgs (argsOf (D (4 * p))) (D (4 * p + 1)) (D (4 * p + 2)) (D (4 * p + 3)) = false := by simpa using h4
          rw [h4'] at C
          exact C
set_option maxHeartbeats 1000000 in
theorem refNumber_is (k a b c : Int) (hb : 0 ≤ b ∧ b < 256) (hc : 0 ≤ c ∧ c < 256) (w : World) : Calls Tryd.prog 15 #[insV k a b c] w fun e w' => e = .returned (.int .i64 (256 * b + c)) ∧ Below w.heap.size w w' := by
  unfold insV
  obtain ⟨hb0, hb1⟩ := hb
  obtain ⟨hc0, hc1⟩ := hc
  go_enter Tryd.func15, Tryd.ntmps15
  go_wp2
  go_ret
  exact ⟨rfl, (Below.refl _ _).alloc (Nat.le_refl _) _⟩
/-- The distance of a number. -/
def jmpN (n : Int) : Int := if n < 32768 then n else n - 65536
set_option maxHeartbeats 1000000 in
theorem refJump_is (k a b c : Int) (hb : 0 ≤ b ∧ b < 256) (hc : 0 ≤ c ∧ c < 256) (w : World) : Calls Tryd.prog 17 #[insV k a b c] w fun e w' => e = .returned (.int .i64 (jmpN (256 * b + c))) ∧ Below w.heap.size w w' := by
  have N := refNumber_is k a b c hb hc
  have hn0 : 0 ≤ 256 * b + c := by omega
  have hn1 : 256 * b + c < 65536 := by omega
  clear hb hc
  generalize 256 * b + c = n at *
  have hB := (Below.refl w.heap.size w).alloc (Nat.le_refl _) (.cells #[.int .u8 k, .int .u8 a, .int .u8 b, .int .u8 c] 26)
  unfold insV at *
  by_cases h : n < 32768
  · have e : jmpN n = n := if_pos h
    rw [e]
    clear e
    go_enter Tryd.func17, Tryd.ntmps17
    go_wp2_with (go_at_call 15; refine (N _).mono ?_; rintro e w2 ⟨rfl, hb⟩)
    go_ret
    exact ⟨rfl, hB.trans (hb.mono (by simp))⟩
  · have e : jmpN n = n - 65536 := if_neg h
    rw [e]
    clear e
    go_enter Tryd.func17, Tryd.ntmps17
    go_wp2_with (go_at_call 15; refine (N _).mono ?_; rintro e w2 ⟨rfl, hb⟩)
    go_ret
    exact ⟨rfl, hB.trans (hb.mono (by simp))⟩
end Go.Proofs.YtnbkpminecoddaaDoor
