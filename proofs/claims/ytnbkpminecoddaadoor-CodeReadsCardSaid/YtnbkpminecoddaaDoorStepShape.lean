/- code.shape: the argument letters of an operation, by walk. -/
import Derived.Test.YtnbkpminecoddaaDoorStepShapes
import Derived.Test.YtnbkpminecoddaaDoorStepCut
namespace Go.Proofs.YtnbkpminecoddaaDoor
open Go.RowKit
set_option linter.unusedVariables false
set_option linter.unusedSimpArgs false

theorem _root_.Go.RowKit.Below.drewN_ {B : Nat} {a w : World} (h : Below B a w) (n : Nat) : Below B a (w.drewN n) := ⟨h.os, h.tape, h.output, h.size, h.block⟩
theorem zero_shape (w : World) (e : TypeId) (he : Tryd.prog.underlying 73 = some (.map 24 e)) : (zeroValue e).run Tryd.prog w = .ok (.agg #[.string ⟨#[]⟩]) w := by
  rw [← (TypeDesc.map.inj (Option.some.inj (Tryd.underlying73.symm.trans he))).2]
  kernel_rfl

/-- What strings.Cut at a blank answers of a text. -/
def CutOk (s a b : ByteArray) (f : Bool) : Prop := ∀ w, Calls Tryd.prog 36 #[.string s, .string ⟨#[32]⟩] w fun e w' => e = .returned (.tuple #[.string a, .string b, .bool f]) ∧ ∃ m, w' = w.drewN m

set_option maxRecDepth 100000 in
set_option maxHeartbeats 4000000 in
theorem shape_call (k : Int) (h1 : 16 < k) (h2 : k ≤ 38) (w : World) : Calls Tryd.prog 22 #[.int .u8 k] w fun e w' => e = .returned (.tuple #[.string ⟨#[99, 97, 108, 108]⟩, .string ⟨#[107]⟩, .bool true]) ∧ Below w.heap.size w w' := by
  have C := isCall_is k w
  simp only [h1, h2, decide_true, Bool.and_self] at C
  go_enter Tryd.func22, Tryd.ntmps22
  go_wp2_with (go_at_call 34; refine C.mono ?_; rintro e w' ⟨rfl, rfl⟩)
  go_ret3
  exact ⟨rfl, Below.refl _ _⟩

set_option maxRecDepth 100000 in
set_option maxHeartbeats 4000000 in
theorem shape_other (k : Int) (hk : (decide (16 < k) && decide (k ≤ 38)) = false) (s a b : ByteArray) (ok f : Bool) (hs : (look shapeL k).getD (.agg #[.string ⟨#[]⟩]) = .agg #[.string s]) (ho : (look shapeL k).isSome = ok) (hc : CutOk s a b f) (w : World) : Calls Tryd.prog 22 #[.int .u8 k] w fun e w' => e = .returned (.tuple #[.string a, .string b, .bool ok]) ∧ Below w.heap.size w w' := by
  have C := isCall_is k w
  rw [hk] at C
  go_enter Tryd.func22, Tryd.ntmps22
  go_wp2_with (first | (go_at_call 34; refine C.mono ?_; rintro e w' ⟨rfl, rfl⟩) | (go_at_call 35; refine (shapes_is _).mono ?_; rintro e w1 ⟨m, rfl, hm, hmm, hb⟩; (have hl := run_lookup_int Tryd.underlying73 Tryd.underlying24 hm k true _ (zero_shape w1 _ Tryd.underlying73)); simp only [if_true, hs, ho] at hl) | (go_at_call 36; refine (hc _).mono ?_; rintro e w2 ⟨rfl, n, rfl⟩))
  go_ret3
  exact ⟨rfl, (hb.alloc hb.size _).drewN_ _⟩

/-- The argument letters of an operation. -/
def argsOf (k : Int) : ByteArray :=
  if k = 1 then ⟨#[97, 110]⟩ else if k = 2 ∨ k = 3 ∨ k = 4 then ⟨#[97, 98, 99]⟩ else if k = 5 then ⟨#[100]⟩ else if k = 6 then ⟨#[97, 100]⟩ else if k = 7 then ⟨#[97]⟩ else if 16 < k ∧ k ≤ 38 then ⟨#[107]⟩ else ⟨#[]⟩
/-- Is it an operation at all. -/
def okOf (k : Int) : Bool := decide (k < 8) || (decide (16 < k) && decide (k ≤ 38))

theorem cut_hit (s a b : ByteArray) (i : Nat) (hne : (([32] : List UInt8) == s.toList) = false) (hi : Lib.indexByte s.data.toList 32 = (i : Int)) (hs : i < s.size) (hb : s.size ≤ 1000) (ha : s.extract 0 i = a) (hb' : s.extract (i + 1) s.size = b) : CutOk s a b true := by
  intro w
  subst ha hb'
  exact cut_of s _ _ true w (cutL_hit s hne i hi hs hb w)

theorem look_none (k : Int) (h : 8 ≤ k) : look shapeL k = none := by
  unfold look shapeL
  rw [List.find?_eq_none.2]
  · rfl
  · intro p hp
    simp only [List.mem_cons, List.not_mem_nil, or_false] at hp
    rcases hp with rfl | rfl | rfl | rfl | rfl | rfl | rfl | rfl <;> simp <;> omega

theorem shape_is (k : Int) (h0 : 0 ≤ k) (w : World) : Calls Tryd.prog 22 #[.int .u8 k] w fun e w' => ∃ nm, e = .returned (.tuple #[.string nm, .string (argsOf k), .bool (okOf k)]) ∧ Below w.heap.size w w' := by
  by_cases h8 : k < 8
  · have hk : k = 0 ∨ k = 1 ∨ k = 2 ∨ k = 3 ∨ k = 4 ∨ k = 5 ∨ k = 6 ∨ k = 7 := by omega
    rcases hk with rfl | rfl | rfl | rfl | rfl | rfl | rfl | rfl
    · exact (shape_other 0 (by rfl) ⟨#[110, 111, 112, 32]⟩ ⟨#[110, 111, 112]⟩ ⟨#[]⟩ true true rfl rfl (cut_hit _ _ _ 3 (by kernel_rfl) (by kernel_rfl) (by decide) (by decide) (by kernel_rfl) (by kernel_rfl)) w).mono fun e w' h => ⟨_, h⟩
    · exact (shape_other 1 (by rfl) ⟨#[99, 111, 110, 115, 116, 32, 97, 110]⟩ ⟨#[99, 111, 110, 115, 116]⟩ ⟨#[97, 110]⟩ true true rfl rfl (cut_hit _ _ _ 5 (by kernel_rfl) (by kernel_rfl) (by decide) (by decide) (by kernel_rfl) (by kernel_rfl)) w).mono fun e w' h => ⟨_, h⟩
    · exact (shape_other 2 (by rfl) ⟨#[97, 100, 100, 32, 97, 98, 99]⟩ ⟨#[97, 100, 100]⟩ ⟨#[97, 98, 99]⟩ true true rfl rfl (cut_hit _ _ _ 3 (by kernel_rfl) (by kernel_rfl) (by decide) (by decide) (by kernel_rfl) (by kernel_rfl)) w).mono fun e w' h => ⟨_, h⟩
    · exact (shape_other 3 (by rfl) ⟨#[115, 117, 98, 32, 97, 98, 99]⟩ ⟨#[115, 117, 98]⟩ ⟨#[97, 98, 99]⟩ true true rfl rfl (cut_hit _ _ _ 3 (by kernel_rfl) (by kernel_rfl) (by decide) (by decide) (by kernel_rfl) (by kernel_rfl)) w).mono fun e w' h => ⟨_, h⟩
    · exact (shape_other 4 (by rfl) ⟨#[109, 117, 108, 32, 97, 98, 99]⟩ ⟨#[109, 117, 108]⟩ ⟨#[97, 98, 99]⟩ true true rfl rfl (cut_hit _ _ _ 3 (by kernel_rfl) (by kernel_rfl) (by decide) (by decide) (by kernel_rfl) (by kernel_rfl)) w).mono fun e w' h => ⟨_, h⟩
    · exact (shape_other 5 (by rfl) ⟨#[106, 117, 109, 112, 32, 100]⟩ ⟨#[106, 117, 109, 112]⟩ ⟨#[100]⟩ true true rfl rfl (cut_hit _ _ _ 4 (by kernel_rfl) (by kernel_rfl) (by decide) (by decide) (by kernel_rfl) (by kernel_rfl)) w).mono fun e w' h => ⟨_, h⟩
    · exact (shape_other 6 (by rfl) ⟨#[122, 101, 114, 111, 32, 97, 100]⟩ ⟨#[122, 101, 114, 111]⟩ ⟨#[97, 100]⟩ true true rfl rfl (cut_hit _ _ _ 4 (by kernel_rfl) (by kernel_rfl) (by decide) (by decide) (by kernel_rfl) (by kernel_rfl)) w).mono fun e w' h => ⟨_, h⟩
    · exact (shape_other 7 (by rfl) ⟨#[99, 111, 100, 101, 32, 97]⟩ ⟨#[99, 111, 100, 101]⟩ ⟨#[97]⟩ true true rfl rfl (cut_hit _ _ _ 4 (by kernel_rfl) (by kernel_rfl) (by decide) (by decide) (by kernel_rfl) (by kernel_rfl)) w).mono fun e w' h => ⟨_, h⟩
  · by_cases hc : 16 < k ∧ k ≤ 38
    · have e1 : argsOf k = ⟨#[107]⟩ := by
        unfold argsOf
        rw [if_neg (by omega), if_neg (by omega), if_neg (by omega), if_neg (by omega), if_neg (by omega), if_pos hc]
      have e2 : okOf k = true := by simp [okOf, hc.1, hc.2]
      rw [e1, e2]
      exact (shape_call k hc.1 hc.2 w).mono fun e w' h => ⟨_, h⟩
    · have e1 : argsOf k = ⟨#[]⟩ := by
        unfold argsOf
        rw [if_neg (by omega), if_neg (by omega), if_neg (by omega), if_neg (by omega), if_neg (by omega), if_neg hc]
      have e3 : (decide (16 < k) && decide (k ≤ 38)) = false := by simpa using fun h => Int.not_le.1 fun h' => hc ⟨h, h'⟩
      have e2 : okOf k = false := by simp [okOf, e3]; omega
      rw [e1, e2]
      have hl := look_none k (by omega)
      exact (shape_other k e3 ⟨#[]⟩ ⟨#[]⟩ ⟨#[]⟩ false false (by rw [hl]; rfl) (by rw [hl]; rfl) (fun w => cut_of _ _ _ false w (cutL_miss _ (by kernel_rfl) (by kernel_rfl) w)) w).mono fun e w' h => ⟨_, h⟩
end Go.Proofs.YtnbkpminecoddaaDoor
