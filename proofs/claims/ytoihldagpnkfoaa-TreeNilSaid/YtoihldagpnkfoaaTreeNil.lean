/- TreeNil, a closed sentence, by a walk: what is answered of a forest that is not there, and of a zero one. -/
import Derived.Test.YtoihldagpnkfoaaTreeKnown
namespace Go.Proofs.Ytoihldagpnkfoaa
open Go.RowKit
set_option linter.unusedVariables false
set_option linter.unusedSimpArgs false

/-- No forest: none, or a zero one. -/
def NilF (w : World) (A : Option Addr) : Prop := A = none ∨ ∃ z, A = some ⟨z, 0, none⟩ ∧ w.cell? ⟨z, 0, none⟩ = some (.slice none 0 0)
set_option maxHeartbeats 400000 in
theorem nil_nothing {w : World} (A : Option Addr) (h : NilF w A) : Calls Try.prog 32 #[.pointer A] w fun e w' => e = .returned (.bool true) ∧ w = w' := by
  rcases h with rfl | ⟨z, rfl, hz⟩
  all_goals
    go_enter Try.func32, Try.ntmps32
    go_wp2
    go_ret
    exact ⟨rfl, rfl⟩
section
variable {w : World} (A : Option Addr) (h : NilF w A)
include h
set_option maxHeartbeats 400000 in
theorem nil_has (x : Int) : Calls Try.prog 24 #[.pointer A, .int .i64 x] w fun e w' => e = .returned (.bool false) ∧ w = w' := by
  have CN := nil_nothing A h
  clear h
  go_enter Try.func24, Try.ntmps24
  go_wp2_with (go_at_call 32; refine CN.mono ?_; rintro e w' ⟨rfl, rfl⟩)
  go_ret
  exact ⟨rfl, rfl⟩
set_option maxHeartbeats 400000 in
theorem nil_check (x : Int) : Calls Try.prog 35 #[.pointer A, .int .i64 x] w fun e w' => e = .returned (.int .i64 1) ∧ w = w' := by
  have CN := nil_nothing A h
  clear h
  go_enter Try.func35, Try.ntmps35
  go_wp2_with (go_at_call 32; refine CN.mono ?_; rintro e w' ⟨rfl, rfl⟩)
  go_ret
  exact ⟨rfl, rfl⟩
set_option maxHeartbeats 400000 in
theorem nil_add (x : Int) : Calls Try.prog 11 #[.pointer A, .int .i64 x] w fun e w' => e = .returned (.tuple #[.int .i64 0, .int .i64 1]) ∧ w = w' := by
  have CN := nil_nothing A h
  clear h
  go_enter Try.func11, Try.ntmps11
  go_wp2_with (go_at_call 32; refine CN.mono ?_; rintro e w' ⟨rfl, rfl⟩)
  go_ret2
  exact ⟨rfl, rfl⟩
set_option maxHeartbeats 400000 in
theorem nil_drop (x : Int) : Calls Try.prog 21 #[.pointer A, .int .i64 x] w fun e w' => e = .returned (.int .i64 1) ∧ w = w' := by
  have CN := nil_check A h x
  clear h
  go_enter Try.func21, Try.ntmps21
  go_wp2_with (go_at_call 35; refine CN.mono ?_; rintro e w' ⟨rfl, rfl⟩)
  go_ret
  exact ⟨rfl, rfl⟩
set_option maxHeartbeats 400000 in
theorem nil_prune (x : Int) : Calls Try.prog 14 #[.pointer A, .int .i64 x] w fun e w' => e = .returned (.tuple #[.slice none 0 0, .int .i64 1]) ∧ w = w' := by
  have CN := nil_check A h x
  clear h
  go_enter Try.func14, Try.ntmps14
  go_wp2_with (go_at_call 35; refine CN.mono ?_; rintro e w' ⟨rfl, rfl⟩)
  go_ret2
  exact ⟨rfl, rfl⟩
set_option maxHeartbeats 400000 in
theorem nil_parent (x : Int) : Calls Try.prog 28 #[.pointer A, .int .i64 x] w fun e w' => e = .returned (.tuple #[.int .i64 0, .bool false]) ∧ w = w' := by
  have CN := nil_has A h x
  clear h
  go_enter Try.func28, Try.ntmps28
  go_wp2_with (go_at_call 24; refine CN.mono ?_; rintro e w' ⟨rfl, rfl⟩)
  go_ret2
  exact ⟨rfl, rfl⟩
set_option maxHeartbeats 400000 in
theorem nil_roots : Calls Try.prog 27 #[.pointer A] w fun e w' => e = .returned (.slice none 0 0) ∧ w = w' := by
  have CN := nil_nothing A h
  clear h
  go_enter Try.func27, Try.ntmps27
  go_wp2_with (go_at_call 32; refine CN.mono ?_; rintro e w' ⟨rfl, rfl⟩)
  go_ret
  exact ⟨rfl, rfl⟩
set_option maxHeartbeats 400000 in
theorem nil_children (x : Int) : Calls Try.prog 25 #[.pointer A, .int .i64 x] w fun e w' => e = .returned (.slice none 0 0) ∧ w = w' := by
  have CN := nil_has A h x
  clear h
  go_enter Try.func25, Try.ntmps25
  go_wp2_with (go_at_call 24; refine CN.mono ?_; rintro e w' ⟨rfl, rfl⟩)
  go_ret
  exact ⟨rfl, rfl⟩
set_option maxHeartbeats 400000 in
theorem nil_desc (x : Int) : Calls Try.prog 12 #[.pointer A, .int .i64 x] w fun e w' => e = .returned (.slice none 0 0) ∧ w = w' := by
  have CN := nil_has A h x
  clear h
  go_enter Try.func12, Try.ntmps12
  go_wp2_with fail
  go_step3
  go_wp2_with (go_at_call 24; refine CN.mono ?_; rintro e w' ⟨rfl, rfl⟩)
  try rw [Exit.noGoto_ret]
  go_ret
  exact ⟨rfl, rfl⟩
set_option maxHeartbeats 400000 in
theorem nil_size : Calls Try.prog 31 #[.pointer A] w fun e w' => e = .returned (.int .i64 0) ∧ w = w' := by
  have CN := nil_nothing A h
  clear h
  go_enter Try.func31, Try.ntmps31
  go_wp2_with (go_at_call 32; refine CN.mono ?_; rintro e w' ⟨rfl, rfl⟩)
  go_ret
  exact ⟨rfl, rfl⟩
set_option maxHeartbeats 400000 in
theorem nil_room : Calls Try.prog 37 #[.pointer A] w fun e w' => e = .returned (.int .i64 0) ∧ w = w' := by
  have CN := nil_nothing A h
  clear h
  go_enter Try.func37, Try.ntmps37
  go_wp2_with (go_at_call 32; refine CN.mono ?_; rintro e w' ⟨rfl, rfl⟩)
  go_ret
  exact ⟨rfl, rfl⟩
set_option maxHeartbeats 400000 in
theorem nil_len : Calls Try.prog 15 #[.pointer A] w fun e w' => e = .returned (.int .i64 0) ∧ w = w' := by
  have CS := nil_size A h
  have CR := nil_room A h
  clear h
  go_enter Try.func15, Try.ntmps15
  go_wp2_with (first | (go_at_call 31; refine CS.mono ?_; rintro e w' ⟨rfl, rfl⟩) | (go_at_call 37; refine CR.mono ?_; rintro e w' ⟨rfl, rfl⟩))
  go_ret
  exact ⟨rfl, rfl⟩
set_option maxHeartbeats 400000 in
theorem nil_under (x y : Int) : Calls Try.prog 13 #[.pointer A, .int .i64 x, .int .i64 y] w fun e w' => e = .returned (.bool false) ∧ w = w' := by
  have CN := nil_has A h x
  clear h
  go_enter Try.func13, Try.ntmps13
  go_wp2_with (go_at_call 24; refine CN.mono ?_; rintro e w' ⟨rfl, rfl⟩)
  go_ret
  exact ⟨rfl, rfl⟩
set_option maxHeartbeats 400000 in
theorem nil_copy : Calls Try.prog 20 #[.pointer A] w fun e w' => e = .returned (.pointer none) ∧ w = w' := by
  have CN := nil_nothing A h
  clear h
  go_enter Try.func20, Try.ntmps20
  go_wp2_with (go_at_call 32; refine CN.mono ?_; rintro e w' ⟨rfl, rfl⟩)
  go_ret
  exact ⟨rfl, rfl⟩
end
/-- Same where one of both is not there. -/
theorem nil_same_kit {w : World} (A A' : Option Addr) (a b : Bool) (hab : a = true ∨ b = true)
    (CA : Calls Try.prog 32 #[.pointer A] w fun e w' => e = .returned (.bool a) ∧ w = w') (CB : Calls Try.prog 32 #[.pointer A'] w fun e w' => e = .returned (.bool b) ∧ w = w') :
    Calls Try.prog 23 #[.pointer A, .pointer A'] w fun e w' => e = .returned (.bool (a && b)) ∧ w = w' := by
  cases a
  · have hb : b = true := by simpa using hab
    subst hb
    clear hab
    go_enter Try.func23, Try.ntmps23
    go_wp2_with (first | (go_at_call 32; (have := mk2); refine CA.mono ?_; rintro e w' ⟨rfl, rfl⟩) | (go_at_call 32; (have := mk1); refine CB.mono ?_; rintro e w' ⟨rfl, rfl⟩; have mk2 := trivial) | (go_at_call 32; refine CA.mono ?_; rintro e w' ⟨rfl, rfl⟩; have mk1 := trivial))
    go_ret
    exact ⟨rfl, rfl⟩
  · clear hab
    cases b
    all_goals
      go_enter Try.func23, Try.ntmps23
      go_wp2_with (first | (go_at_call 32; (have := mk2); refine CB.mono ?_; rintro e w' ⟨rfl, rfl⟩) | (go_at_call 32; (have := mk1); refine CA.mono ?_; rintro e w' ⟨rfl, rfl⟩; have mk2 := trivial) | (go_at_call 32; refine CA.mono ?_; rintro e w' ⟨rfl, rfl⟩; have mk1 := trivial))
      go_ret
      exact ⟨rfl, rfl⟩

set_option maxRecDepth 100000 in
set_option maxHeartbeats 4000000 in
theorem nil_walk (W : World) : Calls Try.prog 8 #[] W fun e w' => e = .returned (.bool true) ∧ Below W.heap.size W w' := by
  go_enter Try.func8, Try.ntmps8
  go_wp2_with fail
  have hb0 : Below W.heap.size W (W.alloc (.cells #[.slice none 0 0, .int .i64 0, .slice none 0 0] 57)) := (Below.refl _ W).alloc (Nat.le_refl _) _
  have hz0 : (W.alloc (.cells #[.slice none 0 0, .int .i64 0, .slice none 0 0] 57)).cell? ⟨W.heap.size, 0, none⟩ = some (.slice none 0 0) := (Blk.new W 57 #[.slice none 0 0, .int .i64 0, .slice none 0 0]).cell 0
  have hs0 : (W.alloc (.cells #[.slice none 0 0, .int .i64 0, .slice none 0 0] 57)).heap.size = W.heap.size + 1 := by simp
  generalize W.alloc (.cells #[.slice none 0 0, .int .i64 0, .slice none 0 0] 57) = W1 at *
  have NZ : Hid (NilF W1 (some ⟨W.heap.size, 0, none⟩)) := Lib.hid (.inr ⟨_, rfl, hz0⟩)
  have HZ := Lib.hid (And.intro hb0 (And.intro hz0 hs0))
  clear hb0 hz0 hs0
  refine (nil_add none (.inl rfl) (-1)).mono ?_
  rintro e w' ⟨rfl, rfl⟩
  go_wp2_with fail
  refine (nil_prune _ NZ.out 0).mono ?_
  rintro e w' ⟨rfl, rfl⟩
  go_wp2_with fail
  refine (nil_parent none (.inl rfl) 0).mono ?_
  rintro e w' ⟨rfl, rfl⟩
  go_wp2_with fail
  refine (new_no 0 W1 (by omega)).mono ?_
  rintro e w' ⟨rfl, rfl⟩
  go_wp2_with fail
  refine (new_no 4097 W1 (by omega)).mono ?_
  rintro e w' ⟨rfl, rfl⟩
  go_wp2_with fail
  refine (new_is 4096 W1 (by omega) (by omega)).mono ?_
  rintro e w2 ⟨f, lb, v0, rfl, q1, q2, q3⟩
  have HK : Hid (Kn W1 w2 f lb v0 (chain 4096 0)) := Lib.hid ⟨q1, q2, q3⟩
  clear q1 q2 q3
  go_wp2_with fail
  refine (prg_add_no HK.out.prg 0 (by omega) (by rw [show (0 : Int) = ((0 : Nat) : Int) from rfl]; simp [Fo.has, chain])).mono ?_
  rintro e w' ⟨rfl, rfl⟩
  go_wp2_with fail
  refine (kn_add HK.out (chain_last (n := 4096) (k := 0) (by omega)) (-7) (by omega)).mono ?_
  rintro e w3 ⟨rfl, v3, h3⟩
  have HK3 := Lib.hid h3
  clear h3 HK
  go_wp2_with fail
  refine (prune_no HK3.out.prg 1 (by rw [show (1 : Int) = ((1 : Nat) : Int) from rfl]; simp [Fo.has, Fo.add, chain])).mono ?_
  rintro e w' ⟨rfl, rfl⟩
  have NZ3 : Hid (NilF w3 (some ⟨W.heap.size, 0, none⟩)) := Lib.hid (.inr ⟨_, rfl, (HK3.out.bel.cell (p := ⟨W.heap.size, 0, none⟩) (by have := HZ.out.2.2; show W.heap.size < _; omega)).trans HZ.out.2.1⟩)
  have CD := prg_drop_no HK3.out.prg (-1) (by simp [Fo.has])
  have CN1 : Calls Try.prog 32 #[.pointer (some ⟨f, 0, none⟩)] w3 fun e w' => e = .returned (.bool false) ∧ w3 = w' := by
    obtain ⟨lc, R, hp, hR⟩ := HK3.out.prg.ps
    exact nothing_is hp.pf
  have CS1 := nil_same_kit none (some ⟨W.heap.size, 0, none⟩) true true (.inl rfl) (nil_nothing none (.inl rfl)) (nil_nothing _ NZ3.out)
  have CS2 := nil_same_kit (some ⟨f, 0, none⟩) none false true (.inr rfl) CN1 (nil_nothing none (.inl rfl))
  have CS3 := nil_same_kit none (some ⟨f, 0, none⟩) true false (.inl rfl) (nil_nothing none (.inl rfl)) CN1
  clear CN1
  go_wp2_with (first
    | (go_at_call 21; (have := mkD); refine CD.mono ?_; rintro e w' ⟨rfl, rfl⟩)
    | (go_at_call 21; refine (nil_drop none (.inl rfl) 0).mono ?_; rintro e w' ⟨rfl, rfl⟩; have mkD := trivial)
    | (go_at_call 27; (have := mkR); refine (nil_roots _ NZ3.out).mono ?_; rintro e w' ⟨rfl, rfl⟩)
    | (go_at_call 27; refine (nil_roots none (.inl rfl)).mono ?_; rintro e w' ⟨rfl, rfl⟩; have mkR := trivial)
    | (go_at_call 25; refine (nil_children none (.inl rfl) 0).mono ?_; rintro e w' ⟨rfl, rfl⟩)
    | (go_at_call 12; refine (nil_desc _ NZ3.out 0).mono ?_; rintro e w' ⟨rfl, rfl⟩)
    | (go_at_call 15; refine (nil_len none (.inl rfl)).mono ?_; rintro e w' ⟨rfl, rfl⟩)
    | (go_at_call 31; refine (nil_size _ NZ3.out).mono ?_; rintro e w' ⟨rfl, rfl⟩)
    | (go_at_call 24; refine (nil_has none (.inl rfl) 0).mono ?_; rintro e w' ⟨rfl, rfl⟩)
    | (go_at_call 13; refine (nil_under _ NZ3.out 0 0).mono ?_; rintro e w' ⟨rfl, rfl⟩)
    | (go_at_call 20; (have := mkC); refine (nil_copy _ NZ3.out).mono ?_; rintro e w' ⟨rfl, rfl⟩)
    | (go_at_call 20; refine (nil_copy none (.inl rfl)).mono ?_; rintro e w' ⟨rfl, rfl⟩; have mkC := trivial)
    | (go_at_call 23; (have := mkS2); refine CS3.mono ?_; rintro e w' ⟨rfl, rfl⟩)
    | (go_at_call 23; (have := mkS1); refine CS2.mono ?_; rintro e w' ⟨rfl, rfl⟩; have mkS2 := trivial)
    | (go_at_call 23; refine CS1.mono ?_; rintro e w' ⟨rfl, rfl⟩; have mkS1 := trivial)
    | (go_at_call 9; refine (known_is _).mono ?_; rintro e w4 ⟨rfl, hb⟩))
  go_ret
  have h1 := HZ.out.1.trans (HK3.out.bel.mono (by have := HZ.out.2.2; omega))
  exact ⟨rfl, h1.trans (hb.mono h1.size)⟩
end Go.Proofs.Ytoihldagpnkfoaa
