/- The law CodeNil, a closed sentence, by walk. -/
import Derived.Test.YtnbkpminecoddaaDoorCodeTextsL
namespace Go.Proofs.YtnbkpminecoddaaDoor
open Go.RowKit
set_option linter.unusedVariables false
set_option linter.unusedSimpArgs false

theorem nil_code (w : World) : CodeAt w (.slice none 0 0) 0 (fun _ => 0) := ⟨by decide, fun _ => Int.le_refl 0, none, 0, rfl, Nat.le_refl _, fun h => absurd h (by decide)⟩
theorem nil_dec (pc : Int) (e : Int) (hd : decR 0 (fun _ => 0) pc = ⟨0, 0, 0, 0, e⟩) (w : World) : Calls Tryd.prog 10 #[.slice none 0 0, .int .i64 pc] w fun e' w' => e' = .returned (.tuple #[.agg #[.int .u8 0, .int .u8 0, .int .u8 0, .int .u8 0], .int .i64 e]) ∧ Below w.heap.size w w' := by
  have := decode_is _ 0 (fun _ => 0) pc w (nil_code w)
  rw [hd] at this
  exact this
theorem text_none : textL [] = [] := by kernel_rfl
theorem parse_none : parseC [] = [] := by kernel_rfl
theorem parse_line : parseC [10] = [] := by kernel_rfl
theorem parse_nop : ¬ textL (parseC [110, 111, 112]) = [110, 111, 112] := by
  have h := splitL_none (c := 10) (l := [110, 111, 112]) (by decide)
  have h2 := splitL_none (c := 32) (l := [110, 111, 112]) (by decide)
  have e : parseC [110, 111, 112] = [0, 0, 0, 0] := by
    unfold parseC
    rw [h]
    show lineB [110, 111, 112] ++ [] = _
    unfold lineB
    rw [if_neg (by decide), h2, if_neg (by decide)]
    decide
  rw [e]
  intro ht
  have : textL [0, 0, 0, 0] = [110, 111, 112, 10] := by kernel_rfl
  rw [this] at ht
  cases ht
theorem of_none (w : World) (he : Env w) : Calls Tryd.prog 19 #[.string ⟨#[]⟩] w fun e w' => ∃ A cap, e = .returned (.tuple #[.slice A 0 cap, .int .i64 0]) ∧ Below w.heap.size w w' := by
  refine (of_is [] (by decide) w he).mono fun e w' hp => ?_
  unfold OfPost at hp
  rw [parse_none] at hp
  obtain ⟨A, cap, h1, _⟩ := hp.2.2.1 text_none (by decide)
  exact ⟨A, cap, h1, hp.2.2.2⟩
theorem of_line (w : World) (he : Env w) : Calls Tryd.prog 19 #[.string ⟨#[10]⟩] w fun e w' => e = .returned (.tuple #[.slice none 0 0, .int .i64 16]) ∧ Below w.heap.size w w' := by
  refine (of_is [10] (by decide) w he).mono fun e w' hp => ?_
  unfold OfPost at hp
  rw [parse_line, text_none] at hp
  exact ⟨hp.1 (by decide), hp.2.2.2⟩
theorem of_nop (w : World) (he : Env w) : Calls Tryd.prog 19 #[.string ⟨#[110, 111, 112]⟩] w fun e w' => e = .returned (.tuple #[.slice none 0 0, .int .i64 16]) ∧ Below w.heap.size w w' := by
  refine (of_is [110, 111, 112] (by decide) w he).mono fun e w' hp => ?_
  unfold OfPost at hp
  exact ⟨hp.1 parse_nop, hp.2.2.2⟩
set_option maxRecDepth 100000 in
set_option maxHeartbeats 4000000 in
theorem nil_walk (w : World) (he : Env w) :
    Calls Tryd.prog 8 #[] w fun e w' => e = .returned (.bool true) ∧ Below w.heap.size w w' := by
  have D0 := nil_dec 0 4 (by kernel_rfl)
  have D1 := nil_dec (-1) 7 (by kernel_rfl)
  have D2 := nil_dec 1 7 (by kernel_rfl)
  have BN := bytes_none none 0
  have TN := text_nil none 0
  have LN := len_is none 0 0 (by decide)
  have B0 := Below.refl w.heap.size w
  have key : ∀ {w1 w2 : World} {o : Obj}, Below w.heap.size w w1 → Below w1.heap.size w1 w2 → Below w.heap.size w (w2.alloc o) := fun h1 h2 => (h1.trans (h2.mono h1.size)).alloc (Nat.le_trans h1.size h2.size) _
  have key2 : ∀ {w1 w2 : World}, Below w.heap.size w w1 → Below w1.heap.size w1 w2 → Below w.heap.size w w2 := fun h1 h2 => h1.trans (h2.mono h1.size)
  go_enter Tryd.func8, Tryd.ntmps8
  go_wp2_with (first
    | ((with_reducible refine (D0 _).mono ?_); rintro e1 w1 ⟨rfl, hb1⟩; have C1 := key (o := .cells #[.int .u8 0, .int .u8 0, .int .u8 0, .int .u8 0] 26) B0 hb1)
    | ((with_reducible refine (D1 _).mono ?_); rintro e2 w2 ⟨rfl, hb2⟩; have C2 := key (o := .cells #[.int .u8 0, .int .u8 0, .int .u8 0, .int .u8 0] 26) C1 hb2)
    | ((with_reducible refine (D2 _).mono ?_); rintro e3 w3 ⟨rfl, hb3⟩; have C3 := key (o := .cells #[.int .u8 0, .int .u8 0, .int .u8 0, .int .u8 0] 26) C2 hb3)
    | ((with_reducible refine (of_none _ (he.below (B := 0) C3)).mono ?_); rintro e4 w4 ⟨A4, cap4, rfl, hb4⟩; have C4 := key2 C3 hb4)
    | ((with_reducible refine (of_line _ (he.below (B := 0) C4)).mono ?_); rintro e5 w5 ⟨rfl, hb5⟩; have C5 := key2 C4 hb5)
    | ((with_reducible refine (of_nop _ (he.below (B := 0) C5)).mono ?_); rintro e6 w6 ⟨rfl, hb6⟩; have C6 := key2 C5 hb6)
    | ((with_reducible refine (TN _).mono ?_); rintro e7 w7 ⟨rfl, hb7⟩; have C7 := key2 C6 hb7)
    | ((with_reducible refine (BN _).mono ?_); rintro e8 w8 ⟨rfl, hb8⟩; have C8 := key2 C7 hb8)
    | ((with_reducible refine (LN _).mono ?_); rintro e9 w9 ⟨rfl, hw9⟩; subst w9)
    | (go_at_call 9; refine (known_is _ (he.2.1.below (B := 0) C8)).mono ?_; rintro eK wK ⟨rfl, hbK⟩; have C9 := key2 C8 hbK))
  go_ret
  exact ⟨rfl, C9⟩
end Go.Proofs.YtnbkpminecoddaaDoor
