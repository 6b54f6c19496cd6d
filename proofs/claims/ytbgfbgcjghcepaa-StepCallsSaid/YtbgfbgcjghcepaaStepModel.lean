/- What an instruction does to a goroutine, as plain data; step.do does just that. -/
import Derived.Test.YtbgfbgcjghcepaaStepDoReck
import Derived.Test.YtbgfbgcjghcepaaStepDoJump
import Derived.Test.YtbgfbgcjghcepaaStepDoCall
namespace Go.Proofs.Ytbgfbgcjghcepaa
open Go.RowKit
set_option linter.unusedVariables false
set_option linter.unusedSimpArgs false

/-- A goroutine. -/
structure Gr where
  st : Int
  sus : Bool
  di : Int
  dg : Int
  ci : Int
  cg : Int
  aff : Int
  prog : Int
  pc : Int
  r : Nat → Nat
  code : Int
  til : Int
/-- Its cells. -/
def Gr.c (g : Gr) : Array Value := #[.int .i64 g.st, .bool g.sus, .int .i64 g.di, .int .u64 g.dg, .int .i64 g.ci, .int .u64 g.cg, .int .u8 g.aff, .int .i64 g.prog, .int .i64 g.pc, .int .u64 (g.r 0), .int .u64 (g.r 1), .int .u64 (g.r 2), .int .u64 (g.r 3), .int .u64 (g.r 4), .int .u64 (g.r 5), .int .u64 (g.r 6), .int .u64 (g.r 7), .int .i64 g.code, .int .u64 g.til]
theorem Gr.c_size (g : Gr) : g.c.size = 19 := rfl
theorem Gr.c_one (g : Gr) : g.c.all Value.oneCell' = true := by simp [Gr.c, Value.oneCell']
theorem Gr.reg (g : Gr) (i : Nat) (hi : i < 8) : g.c[9 + i]? = some (.int .u64 (g.r i)) := by
  rcases i with _ | _ | _ | _ | _ | _ | _ | _ | i
  all_goals first | rfl | omega
/-- It goes on. -/
def Gr.to (g : Gr) (pc : Int) : Gr := { g with pc := pc }
def Gr.next (g : Gr) : Gr := g.to (wrap64 (g.pc + 1))
def Gr.put (g : Gr) (i x : Nat) : Gr := { g.next with r := fun j => if j = i then x else g.r j }
theorem Gr.c_to (g : Gr) (pc : Int) : g.c.setIfInBounds 8 (.int .i64 pc) = (g.to pc).c := rfl
theorem Gr.c_put (g : Gr) (i x : Nat) (hi : i < 8) : (g.c.setIfInBounds (9 + i) (.int .u64 x)).setIfInBounds 8 (.int .i64 (wrap64 (g.pc + 1))) = (g.put i x).c := by
  rcases i with _ | _ | _ | _ | _ | _ | _ | _ | i
  all_goals first | rfl | omega

/-- What came of it. -/
inductive Out where
  | ok (g : Gr) (cl : Array Value) (w : Int)
  | bad (z : Int)

def jumpM (n : Nat) (g : Gr) (b c : Int) : Out := if toR g.pc b c < 0 ∨ ((n / 4 : Nat) : Int) < toR g.pc b c then .bad 7 else .ok (g.to (toR g.pc b c)) call0 1
/-- An instruction that could be read. -/
def insM (n : Nat) (g : Gr) (k a b c : Int) : Out :=
  if k = 0 then .ok g.next call0 1
  else if k = 1 then .ok (g.put a.toNat (IntKind.u64.wrap (numR b c)).toNat) call0 1
  else if k = 2 then (if g.r b.toNat + g.r c.toNat < M64 then .ok (g.put a.toNat (g.r b.toNat + g.r c.toNat)) call0 1 else .bad 6)
  else if k = 3 then (if g.r c.toNat ≤ g.r b.toNat then .ok (g.put a.toNat (g.r b.toNat - g.r c.toNat)) call0 1 else .bad 6)
  else if k = 4 then (if g.r b.toNat * g.r c.toNat < M64 then .ok (g.put a.toNat (g.r b.toNat * g.r c.toNat)) call0 1 else .bad 6)
  else if k = 5 then jumpM n g b c
  else if k = 6 then (if g.r a.toNat = 0 then jumpM n g b c else .ok g.next call0 1)
  else if k = 7 then .ok (g.put a.toNat (IntKind.u64.wrap g.code).toNat) call0 1
  else .ok g.next (callV (k - 16) (g.r 0) (g.r 1) (g.r 2) (g.r 3) (g.r 4)) 2
def doM (n : Nat) (D : Nat → Int) (g : Gr) : Out :=
  if (decR n D g.pc).e ≠ 0 then .bad 7 else insM n g (decR n D g.pc).k (decR n D g.pc).a (decR n D g.pc).b (decR n D g.pc).c

/-- What is known of an instruction that could be read. -/
theorem dec_facts (n : Nat) (D : Nat → Int) (hD : ∀ i, 0 ≤ D i) (pc : Int) (h : (decR n D pc).e = 0) :
    ∃ k a b c : Nat, decR n D pc = ⟨k, a, b, c, 0⟩ ∧ (k < 8 ∨ 17 ≤ k ∧ k ≤ 38) ∧ (k = 1 ∨ k = 2 ∨ k = 3 ∨ k = 4 ∨ k = 6 ∨ k = 7 → a < 8) ∧ (k = 2 ∨ k = 3 ∨ k = 4 → b < 8 ∧ c < 8) ∧ 0 ≤ pc ∧ pc < ((n / 4 : Nat) : Int) := by
  unfold decR at h ⊢
  by_cases h1 : n % 4 = 0 ∧ pc = ((n / 4 : Nat) : Int)
  · rw [if_pos h1] at h
    exact absurd h (by simp)
  · rw [if_neg h1] at h ⊢
    by_cases h2 : pc < 0 ∨ ((n / 4 : Nat) : Int) ≤ pc
    · rw [if_pos h2] at h
      exact absurd h (by simp)
    · rw [if_neg h2] at h ⊢
      simp only at h ⊢
      generalize 4 * pc.toNat = p at *
      by_cases h3 : okOf (D p) = false
      · rw [if_pos h3] at h
        exact absurd h (by simp)
      · rw [if_neg h3] at h ⊢
        by_cases h4 : badArgs (argsOf (D p)) (D (p + 1)) (D (p + 2)) (D (p + 3)) = true
        · rw [if_pos h4] at h
          exact absurd h (by simp)
        · rw [if_neg h4]
          have e : ∀ i, D i = (((D i).toNat : Nat) : Int) := fun i => (Int.toNat_of_nonneg (hD i)).symm
          have hk : D p < 8 ∨ 17 ≤ D p ∧ D p ≤ 38 := by
            unfold okOf at h3
            simp only [Bool.or_eq_false_iff, Bool.and_eq_false_iff, decide_eq_false_iff_not] at h3
            omega
          have h0 := hD p
          unfold badArgs argsOf at h4
          refine ⟨(D p).toNat, (D (p + 1)).toNat, (D (p + 2)).toNat, (D (p + 3)).toNat, by rw [← e, ← e, ← e, ← e], by omega, fun hk2 => ?_, fun hk2 => ?_, by omega, by omega⟩
          · have hk3 : D p = 1 ∨ D p = 2 ∨ D p = 3 ∨ D p = 4 ∨ D p = 6 ∨ D p = 7 := by omega
            rcases hk3 with hk3 | hk3 | hk3 | hk3 | hk3 | hk3
            all_goals
              rw [hk3] at h4
              simp [valR] at h4
              omega
          · have hk3 : D p = 2 ∨ D p = 3 ∨ D p = 4 := by omega
            rcases hk3 with hk3 | hk3 | hk3
            all_goals
              rw [hk3] at h4
              simp [valR] at h4
              omega

/-- A register's numbers. -/
def Gr.Ok (g : Gr) : Prop := ∀ i, g.r i < M64
def OutOk (w : World) (gb : Nat) : Out → Ending → World → Prop
  | .ok g cl k, e, w' => e = .returned (.tuple #[.agg cl, .int .i64 k]) ∧ w.grownBy w' (some gb) ∧ Blk w' gb 30 g.c
  | .bad z, e, w' => e = .panicked (faultP z) ∧ Below w.heap.size w w'

theorem wrap_nat (z : Int) : (((IntKind.u64.wrap z).toNat : Nat) : Int) = IntKind.u64.wrap z := by
  refine Int.toNat_of_nonneg ?_
  rw [IntKind.wrap_u64]
  omega

theorem reck2_yes (x y : Nat) (hx : x < M64) (hy : y < M64) (h : x + y < M64) (w : World) : Calls Try.prog 18 #[.int .u8 2, .int .u64 x, .int .u64 y] w fun e w' => e = .returned (.int .u64 ((x + y : Nat) : Int)) ∧ Below w.heap.size w w' :=
  reckon_add_yes x y _ (fun w => (add_any x y w hx hy).mono fun e w' h' => by rw [addR_yes h] at h'; exact h') w
theorem reck2_no (x y : Nat) (hx : x < M64) (hy : y < M64) (h : ¬ x + y < M64) (w : World) : Calls Try.prog 18 #[.int .u8 2, .int .u64 x, .int .u64 y] w fun e w' => e = .panicked (faultP 6) ∧ Below w.heap.size w w' :=
  reckon_add_no x y 0 (fun w => (add_any x y w hx hy).mono fun e w' h' => by rw [addR_no h] at h'; exact h') w
theorem reck3_yes (x y : Nat) (hx : x < M64) (hy : y < M64) (h : y ≤ x) (w : World) : Calls Try.prog 18 #[.int .u8 3, .int .u64 x, .int .u64 y] w fun e w' => e = .returned (.int .u64 ((x - y : Nat) : Int)) ∧ Below w.heap.size w w' :=
  reckon_sub_yes x y _ (fun w => (sub_any x y w hx hy).mono fun e w' h' => by rw [subR_yes h] at h'; exact h') w
theorem reck3_no (x y : Nat) (hx : x < M64) (hy : y < M64) (h : ¬ y ≤ x) (w : World) : Calls Try.prog 18 #[.int .u8 3, .int .u64 x, .int .u64 y] w fun e w' => e = .panicked (faultP 6) ∧ Below w.heap.size w w' :=
  reckon_sub_no x y 0 (fun w => (sub_any x y w hx hy).mono fun e w' h' => by rw [subR_no h] at h'; exact h') w
theorem reck4_yes (x y : Nat) (hx : x < M64) (hy : y < M64) (h : x * y < M64) (w : World) : Calls Try.prog 18 #[.int .u8 4, .int .u64 x, .int .u64 y] w fun e w' => e = .returned (.int .u64 ((x * y : Nat) : Int)) ∧ Below w.heap.size w w' :=
  reckon_mul_yes x y _ (fun w => (mul_any x y w hx hy).mono fun e w' h' => by rw [mulR_yes h] at h'; exact h') w
theorem reck4_no (x y : Nat) (hx : x < M64) (hy : y < M64) (h : ¬ x * y < M64) (w : World) : Calls Try.prog 18 #[.int .u8 4, .int .u64 x, .int .u64 y] w fun e w' => e = .panicked (faultP 6) ∧ Below w.heap.size w w' :=
  reckon_mul_no x y 0 (fun w => (mul_any x y w hx hy).mono fun e w' h' => by rw [mulR_no h] at h'; exact h') w

theorem ins_is (v : Value) (n : Nat) (D : Nat → Int) (gb : Nat) (g : Gr) (w : World) (h : CodeAt w v n D) (hG : Blk w gb 30 g.c) (hr : g.Ok) (k a b c : Nat) (he : decR n D g.pc = ⟨k, a, b, c, 0⟩) (hk : k < 8 ∨ 17 ≤ k ∧ k ≤ 38)
    (ha : k = 1 ∨ k = 2 ∨ k = 3 ∨ k = 4 ∨ k = 6 ∨ k = 7 → a < 8) (hbc : k = 2 ∨ k = 3 ∨ k = 4 → b < 8 ∧ c < 8) :
    Calls Try.prog 15 #[v, .pointer (some ⟨gb, 0, none⟩)] w (OutOk w gb (insM n g k a b c)) := by
  have h8 : g.c[8]? = some (.int .i64 g.pc) := rfl
  have jmp : ∀ (k' : Int) (P : Prop), True := fun _ _ => trivial
  unfold insM
  simp only [Int.toNat_natCast]
  rcases hk with hk | hk
  · obtain rfl | rfl | rfl | rfl | rfl | rfl | rfl | rfl : k = 0 ∨ k = 1 ∨ k = 2 ∨ k = 3 ∨ k = 4 ∨ k = 5 ∨ k = 6 ∨ k = 7 := by omega
    · exact do_noop v n D gb g.pc g.c w h hG h8 a b c he
    · have ha := ha (by decide)
      refine (do_const v n D gb g.pc a ha _ g.c w h hG h8 (g.reg a ha) b c he).mono fun e w' hp => ?_
      refine ⟨hp.1, hp.2.1, ?_⟩
      rw [← Gr.c_put g a _ ha, wrap_nat]
      exact hp.2.2
    · obtain ⟨hb, hc⟩ := hbc (by decide)
      have ha := ha (by decide)
      show Calls _ _ _ _ (OutOk w gb (if g.r b + g.r c < M64 then _ else _))
      by_cases hf : g.r b + g.r c < M64
      · rw [if_pos hf]
        refine (do_reck2 v n D gb g.pc a b c ha hb hc _ _ _ _ g.c w h hG h8 (g.reg a ha) (g.reg b hb) (g.reg c hc) he (reck2_yes _ _ (hr b) (hr c) hf)).mono fun e w' hp => ⟨hp.1, hp.2.1, ?_⟩
        rw [← Gr.c_put g a _ ha]
        exact hp.2.2
      · rw [if_neg hf]
        exact do_reck2_no v n D gb g.pc a b c ha hb hc _ _ 0 g.c w h hG h8 (g.reg b hb) (g.reg c hc) he (reck2_no _ _ (hr b) (hr c) hf)
    · obtain ⟨hb, hc⟩ := hbc (by decide)
      have ha := ha (by decide)
      show Calls _ _ _ _ (OutOk w gb (if g.r c ≤ g.r b then _ else _))
      by_cases hf : g.r c ≤ g.r b
      · rw [if_pos hf]
        refine (do_reck3 v n D gb g.pc a b c ha hb hc _ _ _ _ g.c w h hG h8 (g.reg a ha) (g.reg b hb) (g.reg c hc) he (reck3_yes _ _ (hr b) (hr c) hf)).mono fun e w' hp => ⟨hp.1, hp.2.1, ?_⟩
        rw [← Gr.c_put g a _ ha]
        exact hp.2.2
      · rw [if_neg hf]
        exact do_reck3_no v n D gb g.pc a b c ha hb hc _ _ 0 g.c w h hG h8 (g.reg b hb) (g.reg c hc) he (reck3_no _ _ (hr b) (hr c) hf)
    · obtain ⟨hb, hc⟩ := hbc (by decide)
      have ha := ha (by decide)
      show Calls _ _ _ _ (OutOk w gb (if g.r b * g.r c < M64 then _ else _))
      by_cases hf : g.r b * g.r c < M64
      · rw [if_pos hf]
        refine (do_reck4 v n D gb g.pc a b c ha hb hc _ _ _ _ g.c w h hG h8 (g.reg a ha) (g.reg b hb) (g.reg c hc) he (reck4_yes _ _ (hr b) (hr c) hf)).mono fun e w' hp => ⟨hp.1, hp.2.1, ?_⟩
        rw [← Gr.c_put g a _ ha]
        exact hp.2.2
      · rw [if_neg hf]
        exact do_reck4_no v n D gb g.pc a b c ha hb hc _ _ 0 g.c w h hG h8 (g.reg b hb) (g.reg c hc) he (reck4_no _ _ (hr b) (hr c) hf)
    · show Calls _ _ _ _ (OutOk w gb (jumpM n g b c))
      unfold jumpM
      by_cases hj : toR g.pc b c < 0 ∨ ((n / 4 : Nat) : Int) < toR g.pc b c
      · rw [if_pos hj]
        exact do_jump_out v n D gb g.pc a b c g.c w h hG h8 he hj
      · rw [if_neg hj]
        exact do_jump_in v n D gb g.pc a b c g.c w h hG h8 he hj
    · have ha := ha (by decide)
      show Calls _ _ _ _ (OutOk w gb (if g.r a = 0 then jumpM n g b c else _))
      by_cases hz : g.r a = 0
      · rw [if_pos hz]
        have hr0 : g.c[9 + a]? = some (.int .u64 0) := by rw [g.reg a ha, hz]; rfl
        unfold jumpM
        by_cases hj : toR g.pc b c < 0 ∨ ((n / 4 : Nat) : Int) < toR g.pc b c
        · rw [if_pos hj]
          exact do_zero_out v n D gb g.pc a ha b c g.c w h hG h8 he hr0 hj
        · rw [if_neg hj]
          exact do_zero_in v n D gb g.pc a ha b c g.c w h hG h8 he hr0 hj
      · rw [if_neg hz]
        exact do_zero_no v n D gb g.pc a ha b c _ (by omega) g.c w h hG h8 he (g.reg a ha)
    · have ha := ha (by decide)
      refine (do_code v n D gb g.pc g.code a ha _ g.c w h hG h8 rfl (g.reg a ha) b c he).mono fun e w' hp => ?_
      refine ⟨hp.1, hp.2.1, ?_⟩
      rw [← Gr.c_put g a _ ha, wrap_nat]
      exact hp.2.2
  · rw [if_neg (by omega), if_neg (by omega), if_neg (by omega), if_neg (by omega), if_neg (by omega), if_neg (by omega), if_neg (by omega), if_neg (by omega)]
    exact do_call v n D gb g.pc k a b c (by omega) (by omega) g.c _ _ _ _ _ w h hG h8 he rfl rfl rfl rfl rfl

/-- step.do does what the model does. -/
theorem do_is (v : Value) (n : Nat) (D : Nat → Int) (gb : Nat) (g : Gr) (w : World) (h : CodeAt w v n D) (hG : Blk w gb 30 g.c) (hr : g.Ok) :
    Calls Try.prog 15 #[v, .pointer (some ⟨gb, 0, none⟩)] w (OutOk w gb (doM n D g)) := by
  unfold doM
  by_cases he : (decR n D g.pc).e = 0
  · rw [if_neg (not_not_intro he)]
    obtain ⟨k, a, b, c, hd, hk, ha, hbc, -⟩ := dec_facts n D h.2.1 g.pc he
    have := ins_is v n D gb g w h hG hr k a b c hd hk ha hbc
    rw [hd]
    exact this
  · rw [if_pos he]
    exact do_fault v n D gb g.pc w h hG.lt ((hG.cell 8).trans rfl) he
end Go.Proofs.Ytbgfbgcjghcepaa
