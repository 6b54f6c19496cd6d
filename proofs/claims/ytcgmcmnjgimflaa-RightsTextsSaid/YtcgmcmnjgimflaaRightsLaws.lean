/- The chapter's rows, and the walks of the laws RightsNarrow, RightsMeets, RightsTexts, RightsReads: each returns true. Conditions: the arguments fit their kinds. -/
import Derived.Test.YtcgmcmnjgimflaaRightsRead
import Derived.Lib.Hide
namespace Go.Proofs.Ytcgmcmnjgimflaa
open Go.RowKit
set_option linter.unusedVariables false

set_option maxRecDepth 100000 in
set_option maxHeartbeats 400000 in
theorem known_any (w : World) : Calls Try.prog 9 #[] w fun e w' => e = .returned (.bool true) ∧ Below w.heap.size w w' := by
  have hk : ((str (textL 65)).toList == [115, 45, 45, 45, 45, 45, 109, 45]) = true := by rw [Lib.toList_data]; decide +kernel
  go_enter Try.func9, Try.ntmps9
  go_wp2_with fail
  refine (narrow_yes 65 64 _ (by decide) (by decide) (by decide) (by decide) (by decide +kernel)).mono ?_
  rintro e w1 ⟨rfl, rfl⟩
  go_wp2_with fail
  refine (narrow_no 64 65 _ (by decide) (by decide) (by decide) (by decide) (by decide +kernel)).mono ?_
  rintro e w1 ⟨rfl, rfl⟩
  go_wp2_with fail
  refine (text_any 65 _ (by decide) (by decide)).mono ?_
  rintro e w1 ⟨rfl, hb⟩
  go_wp2_with fail
  go_ret
  exact ⟨rfl, hb⟩

set_option maxRecDepth 100000 in
set_option maxHeartbeats 400000 in
theorem rightsNarrow_walk (a0 : Int) (a1 : Int) (w0 : (Lit.int .i64 a0).wf = true) (w1 : (Lit.int .i64 a1).wf = true) (w : World) :
    Calls Try.prog 3 #[.int .i64 a0, .int .i64 a1] w fun e w' => e = .returned (.bool true) ∧ Below w.heap.size w w' := by
  cases h : among (bits BinOp.and IntKind.i64 a1 255 % 256).toNat (bits BinOp.and IntKind.i64 a0 255 % 256).toNat
  · go_enter Try.func3, Try.ntmps3
    go_wp2_with fail
    refine (narrow_no _ _ _ (by omega) (by omega) (by omega) (by omega) h).mono ?_
    rintro e w1 ⟨rfl, rfl⟩
    go_wp2_with fail
    refine (among_any _ _ _ (by omega) (by omega) (by omega) (by omega)).mono ?_
    rintro e w1 ⟨rfl, rfl⟩
    go_wp2_with fail
    refine (known_any _).mono ?_
    rintro e w1 ⟨rfl, hb⟩
    go_wp2_with fail
    go_ret
    exact ⟨rfl, hb⟩
  · go_enter Try.func3, Try.ntmps3
    go_wp2_with fail
    refine (narrow_yes _ _ _ (by omega) (by omega) (by omega) (by omega) h).mono ?_
    rintro e w1 ⟨rfl, rfl⟩
    go_wp2_with fail
    refine (among_any _ _ _ (by omega) (by omega) (by omega) (by omega)).mono ?_
    rintro e w1 ⟨rfl, rfl⟩
    go_wp2_with fail
    refine (known_any _).mono ?_
    rintro e w1 ⟨rfl, hb⟩
    go_wp2_with fail
    go_ret
    exact ⟨rfl, hb⟩

theorem bcell {W w1 : World} (hb : Below W.heap.size W w1) : (∀ b o, b < W.heap.size → w1.cell? ⟨b, o, none⟩ = W.cell? ⟨b, o, none⟩) ∧ (∀ b o, b < W.heap.size → w1.frozen? ⟨b, o, none⟩ = W.frozen? ⟨b, o, none⟩) :=
  ⟨fun b o h => hb.cell (p := ⟨b, o, none⟩) h, fun b o h => hb.frozen (p := ⟨b, o, none⟩) h⟩

/-- Why a capability is not what is demanded. -/
def meetsI (k r nk nr : Int) : Int := if nk ≠ 0 ∧ nk ≠ k then 12 else if among nr.toNat r.toNat = true then 0 else 13

theorem meetsI_a (k r nk nr : Int) (h : nk = 0 ∨ nk = k) : meetsI k r nk nr = if among nr.toNat r.toNat = true then 0 else 13 := by
  unfold meetsI
  rw [if_neg (by omega)]
theorem meetsI_b (k r nk nr : Int) (h : nk ≠ 0) (h' : nk ≠ k) : meetsI k r nk nr = 12 := by
  unfold meetsI
  rw [if_pos ⟨h, h'⟩]
theorem meetsI_cases (k r nk nr : Int) (b : Bool) (ha : among nr.toNat r.toNat = b) :
    ((nk = 0 ∨ (nk ≠ 0 ∧ nk = k)) ∧ meetsI k r nk nr = if b = true then 0 else 13) ∨ ((nk ≠ 0 ∧ nk ≠ k) ∧ meetsI k r nk nr = 12) := by
  rcases (show nk = 0 ∨ (nk ≠ 0 ∧ nk = k) ∨ (nk ≠ 0 ∧ nk ≠ k) from by omega) with h | h | h
  · exact .inl ⟨.inl h, by rw [meetsI_a _ _ _ _ (.inl h), ha]⟩
  · exact .inl ⟨.inr h, by rw [meetsI_a _ _ _ _ (.inr h.2), ha]⟩
  · exact .inr ⟨h, meetsI_b _ _ _ _ h.1 h.2⟩

set_option maxRecDepth 100000 in
set_option maxHeartbeats 400000 in
theorem meets_any (k oi og r ar nk nr : Int) (w : World) (h1 : 0 ≤ r) (h2 : r ≤ 255) (h3 : 0 ≤ nr) (h4 : nr ≤ 255) :
    Calls Try.prog 10 #[.agg #[.int .i64 k, .int .i64 oi, .int .u64 og, .int .u8 r], .agg #[.int .i64 ar, .int .i64 nk, .int .u8 nr]] w fun e w' => e = .returned (.int .i64 (meetsI k r nk nr)) ∧ Below w.heap.size w w' := by
  cases ha : among nr.toNat r.toNat
  · have hcs := meetsI_cases k r nk nr _ ha
    generalize meetsI k r nk nr = res at *
    rcases hcs with ⟨rfl | ⟨hz, rfl⟩, hres⟩ | ⟨⟨hz, hne⟩, hres⟩
    all_goals
      have HR := Lib.hid hres
      clear hres
      try have hb1 : (nk != k) = true := bne_iff_ne.2 hne
      try have hb2 : (k != nk) = true := bne_iff_ne.2 (Ne.symm hne)
      go_enter Try.func10, Try.ntmps10
      go_wp2_with (go_at_call 7; refine (narrow_no _ _ _ (by omega) (by omega) (by omega) (by omega) ha).mono ?_; rintro e w1 ⟨rfl, rfl⟩)
      all_goals
        go_ret
        refine ⟨ret_int HR.out.symm, ?_⟩
        exact ((Below.refl _ _).alloc (Nat.le_refl _) _).alloc (by simp) _
  · have hcs := meetsI_cases k r nk nr _ ha
    generalize meetsI k r nk nr = res at *
    rcases hcs with ⟨rfl | ⟨hz, rfl⟩, hres⟩ | ⟨⟨hz, hne⟩, hres⟩
    all_goals
      have HR := Lib.hid hres
      clear hres
      try have hb1 : (nk != k) = true := bne_iff_ne.2 hne
      try have hb2 : (k != nk) = true := bne_iff_ne.2 (Ne.symm hne)
      go_enter Try.func10, Try.ntmps10
      go_wp2_with (go_at_call 7; refine (narrow_yes _ _ _ (by omega) (by omega) (by omega) (by omega) ha).mono ?_; rintro e w1 ⟨rfl, rfl⟩)
      all_goals
        go_ret
        refine ⟨ret_int HR.out.symm, ?_⟩
        exact ((Below.refl _ _).alloc (Nat.le_refl _) _).alloc (by simp) _
set_option maxRecDepth 100000 in
set_option maxHeartbeats 400000 in
theorem refMeets_any (k oi og r ar nk nr : Int) (w : World) (h1 : 0 ≤ r) (h2 : r ≤ 255) (h3 : 0 ≤ nr) (h4 : nr ≤ 255) :
    Calls Try.prog 11 #[.agg #[.int .i64 k, .int .i64 oi, .int .u64 og, .int .u8 r], .agg #[.int .i64 ar, .int .i64 nk, .int .u8 nr]] w fun e w' => e = .returned (.int .i64 (meetsI k r nk nr)) ∧ Below w.heap.size w w' := by
  cases ha : among nr.toNat r.toNat
  · have hcs := meetsI_cases k r nk nr _ ha
    generalize meetsI k r nk nr = res at *
    rcases hcs with ⟨rfl | ⟨hz, rfl⟩, hres⟩ | ⟨⟨hz, hne⟩, hres⟩
    all_goals
      have HR := Lib.hid hres
      clear hres
      try have hb1 : (nk != k) = true := bne_iff_ne.2 hne
      try have hb2 : (k != nk) = true := bne_iff_ne.2 (Ne.symm hne)
      go_enter Try.func11, Try.ntmps11
      go_wp2_with (go_at_call 8; refine (among_any _ _ _ (by omega) (by omega) (by omega) (by omega)).mono ?_; rintro e w1 ⟨rfl, rfl⟩)
      all_goals
        go_ret
        refine ⟨ret_int HR.out.symm, ?_⟩
        exact ((Below.refl _ _).alloc (Nat.le_refl _) _).alloc (by simp) _
  · have hcs := meetsI_cases k r nk nr _ ha
    generalize meetsI k r nk nr = res at *
    rcases hcs with ⟨rfl | ⟨hz, rfl⟩, hres⟩ | ⟨⟨hz, hne⟩, hres⟩
    all_goals
      have HR := Lib.hid hres
      clear hres
      try have hb1 : (nk != k) = true := bne_iff_ne.2 hne
      try have hb2 : (k != nk) = true := bne_iff_ne.2 (Ne.symm hne)
      go_enter Try.func11, Try.ntmps11
      go_wp2_with (go_at_call 8; refine (among_any _ _ _ (by omega) (by omega) (by omega) (by omega)).mono ?_; rintro e w1 ⟨rfl, rfl⟩)
      all_goals
        go_ret
        refine ⟨ret_int HR.out.symm, ?_⟩
        exact ((Below.refl _ _).alloc (Nat.le_refl _) _).alloc (by simp) _

theorem among_trans {a b c : Nat} (h1 : among a b = true) (h2 : among b c = true) : among a c = true := by
  unfold among at *
  rw [List.all_eq_true] at *
  intro k hk
  have e1 := h1 k hk
  have e2 := h2 k hk
  cases ha : bitB a k <;> cases hb : bitB b k <;> cases hc : bitB c k <;> simp_all

theorem meets_narrower {k r r' nk nr : Int} (h : meetsI k r' nk nr = 0) (hr : among r'.toNat r.toNat = true) : meetsI k r nk nr = 0 := by
  unfold meetsI at *
  split at h
  · cases h
  · rename_i hk
    rw [if_neg hk]
    split at h
    · rename_i ha
      rw [if_pos (among_trans ha hr)]
    · cases h

end Go.Proofs.Ytcgmcmnjgimflaa
