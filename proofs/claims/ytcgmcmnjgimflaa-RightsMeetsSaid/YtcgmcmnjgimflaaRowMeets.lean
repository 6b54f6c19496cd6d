/- The law RightsMeets holds of every capability, demand and integer: the row's proof round the walk. No condition. -/
import Derived.Test.YtcgmcmnjgimflaaLawKit
import Derived.Test.YtcgmcmnjgimflaaRightsMeets
import Derived.Lib.SmallJoins
import Derived.Deep.Strs
namespace Go.Proofs.Ytcgmcmnjgimflaa
open Go.ChangeShapes Go.WideShapes Go.ChangeAt Go.RowKit Go.Joins
set_option linter.unusedVariables false

theorem cellsCap : Try.prog.cellsOf 33 = 4 := by kernel_rfl
theorem cellsNeed : Try.prog.cellsOf 35 = 3 := by kernel_rfl
theorem cellsRef : Try.prog.cellsOf 31 = 2 := by kernel_rfl
theorem cellsKind : Try.prog.cellsOf 28 = 1 := by kernel_rfl
theorem cellsRights : Try.prog.cellsOf 22 = 1 := by kernel_rfl
theorem cellsInt : Try.prog.cellsOf 3 = 1 := by kernel_rfl
theorem cellsU64 : Try.prog.cellsOf 29 = 1 := by kernel_rfl

theorem u8_bounds {n : Int} (h : (Lit.int .u8 n).wf = true) : 0 ≤ n ∧ n ≤ 255 := bounds_u8 h

theorem open_need {H : Type} {enc : TypeId × Value → H} {W : World} {base b0 : Nat} {v : Value} {d : DataW H} {p : List MemPlace} {sp : Nat → Bool} {hd : Bool}
    (hv : Value.okWide Try.prog W .any base 35 v) (h : DataW.Trod enc Try.prog W b0 sp hd 35 v d p) :
    ∃ ar nk nr, v = .agg #[.int .i64 ar, .int .i64 nk, .int .u8 nr] ∧ 0 ≤ nr ∧ nr ≤ 255 := by
  obtain ⟨c0, c1, c2, y0, y1, y2, m, rfl, rfl, rfl, hy0, hy1, hy2⟩ := open_agg3 Try.underlying35 (by kernel_rfl) cellsNeed hv h
  obtain ⟨a, e0, rfl, wa⟩ := DataW.trod_int Try.underlying3 hy0
  obtain ⟨b, e1, rfl, wb⟩ := DataW.trod_int Try.underlying28 hy1
  obtain ⟨c, e2, rfl, wc⟩ := DataW.trod_int Try.underlying22 hy2
  simp at e0 e1 e2
  subst e0 e1 e2
  exact ⟨a, b, c, rfl, (u8_bounds wc).1, (u8_bounds wc).2⟩

theorem open_cap {H : Type} {enc : TypeId × Value → H} {W : World} {base b0 : Nat} {v : Value} {d : DataW H} {p : List MemPlace} {sp : Nat → Bool} {hd : Bool}
    (hv : Value.okWide Try.prog W .any base 33 v) (h : DataW.Trod enc Try.prog W b0 sp hd 33 v d p) :
    ∃ k oi og r, v = .agg #[.int .i64 k, .int .i64 oi, .int .u64 og, .int .u8 r] ∧ 0 ≤ r ∧ r ≤ 255 := by
  unfold Value.okWide at hv
  rw [Try.underlying33] at hv
  obtain ⟨cs, rfl, hsz, _⟩ := hv
  rw [cellsCap] at hsz
  obtain ⟨c0, c1, c2, c3, rfl⟩ := array4 hsz
  obtain ⟨fuel, hf⟩ := h
  obtain ⟨y0, y1, y2, n, _, _, hy0, hy1, hy2⟩ := Deep.trod_struct3 Try.underlying33 hf
  simp only [Value.cells, cellsKind, cellsRef, cellsRights, List.drop_zero, List.take_succ_cons, List.take_zero, List.drop_succ_cons] at hy0 hy1 hy2
  obtain ⟨z0, z1, m, _, _, hz0, hz1⟩ := trod_struct2 Try.underlying31 hy1
  simp only [cellsInt, cellsU64, List.drop_zero, List.take_succ_cons, List.take_zero, List.drop_succ_cons] at hz0 hz1
  obtain ⟨a, e0, _, wa⟩ := DataW.trod_int Try.underlying28 hy0
  obtain ⟨b, e1, _, wb⟩ := DataW.trod_int Try.underlying3 hz0
  obtain ⟨c, e2, _, wc⟩ := DataW.trod_int Try.underlying29 hz1
  obtain ⟨e, e3, _, we⟩ := DataW.trod_int Try.underlying22 hy2
  simp at e0 e1 e2 e3
  subst e0 e1 e2 e3
  exact ⟨a, b, c, e, rfl, (u8_bounds we).1, (u8_bounds we).2⟩
namespace rightsMeets
theorem own : ownKnob Try.prog.godebug = none := by kernel_rfl
theorem laidOut : laidOutB Try.prog = true := by kernel_rfl
theorem readable : ∀ t ∈ Try.f4.params.toList, Try.prog.readableRec t = true ∧ t < Try.prog.types.size := by
  rw [Try.params4]
  intro t ht
  simp only [List.mem_cons, List.not_mem_nil, or_false] at ht
  rcases ht with rfl | rfl | rfl <;> exact ⟨by kernel_rfl, of_decide_eq_true (by kernel_rfl)⟩
set_option maxRecDepth 100000 in
theorem lifted (os : Os) (started : os.Started) (H : Type) (enc : TypeId × Value → H) :
    ReturnsInHanded {} Try.checked os 4 .any (Rows.rightsMeetsSpec.pre6 enc Try.prog Try.f4 Rows.rightsMeetsRow.domain false) (Rows.rightsMeetsSpec.post enc Try.prog Try.f4 false true false false) := by
  refine returnsInHanded_of_change (C := Try.checked) own started (by kernel_rfl) Try.func4
    (ChangeSpec.witness6 (enc := enc) (C := Try.checked) false ⟨#[], #[.agg #[.int .i64 0, .int .i64 0, .int .u64 0, .int .u8 0], .agg #[.int .i64 0, .int .i64 0, .int .u8 0], .int .i64 0], []⟩ 8 (by kernel_rfl) (by kernel_rfl) (by kernel_rfl) (by kernel_rfl)) ?_
  intro W base args ds gs before hval0 hW hcnd _
  have hval : ∀ (j : Nat) t v, Try.f4.params[j]? = some t → args[j]? = some v → Value.okWide Try.prog W .any base t v := hval0
  have hW' := hW
  obtain ⟨p, q, hA0, hV, rfl, hfz, hnd⟩ := hW
  have hA : DataW.TrodAll enc Try.prog W 0 (fun _ => true) true Try.f4.params.toList args.toList ds p := hA0
  rw [Try.params4] at hA hval
  obtain ⟨v0, vs0, d0, ds0, p0, q0, hargs, hds, rfl, h0, r0⟩ := trodAll_cons hA
  obtain ⟨v1, vs1, d1, ds1, p1, q1, rfl, rfl, rfl, h1, r1⟩ := trodAll_cons r0
  obtain ⟨v2, vs2, d2, ds2, p2, q2, rfl, rfl, rfl, h2, r2⟩ := trodAll_cons r1
  obtain ⟨rfl, rfl, rfl⟩ := trodAll_nil r2
  subst hds
  obtain rfl : args = #[v0, v1, v2] := by cases args; simp_all
  obtain ⟨rfl, rfl⟩ := trodVars_none hV
  clear hA0 hval0
  obtain ⟨k, oi, og, r, rfl, b1, b2⟩ := open_cap (hval 0 33 v0 rfl rfl) h0
  obtain ⟨ar, nk, nr, rfl, b3, b4⟩ := open_need (hval 1 35 v1 rfl rfl) h1
  obtain ⟨a, rfl, rfl, rfl, wa⟩ := open_int Try.underlying3 (hval 2 3 v2 rfl rfl) h2
  refine (rightsMeets_walk k oi og r ar nk nr a W b1 b2 b3 b4).mono fun e W' ⟨he, hb⟩ => ?_
  subst he
  exact ⟨_, rfl, law_post (B := 4) hW' laidOut readable rfl (by kernel_rfl) Try.underlying4 rfl rfl rfl hb⟩
theorem proved : Rows.RightsMeetsSaid :=
  OpenClaim.holds_of_wide 4 Try.f4 rfl rfl rfl rfl rfl rfl rfl ⟨rfl, rfl, rfl, rfl, rfl⟩ rfl rfl rfl rfl rfl (by kernel_rfl) Try.func4 (by kernel_rfl)
    (of_decide_eq_true (by kernel_rfl)) (by unfold Func.isWrapper; first | (rw [if_pos (by decide +kernel)]; kernel_rfl) | (rw [if_neg (by decide +kernel)]; exact ⟨rfl, rfl⟩))
    (fun os started H enc _ => lifted os started H enc)
end rightsMeets
end Go.Proofs.Ytcgmcmnjgimflaa
