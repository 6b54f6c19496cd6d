/- code.line's map: six insertions and two calls in whatever order is drawn; the state of the order is nine truth values. -/
import Derived.Test.YtnbkpminecoddaaDoorCodeNum
import Derived.Test.YtnbkpminecoddaaDoorIntMap
namespace Go.Proofs.YtnbkpminecoddaaDoor
open Go.RowKit
set_option linter.unusedVariables false
set_option linter.unusedSimpArgs false

/-- A region of a code, by its number. -/
def regOf (n : Nat) : Code → Option (Array Oper)
  | .region i ops _ => if i = n then some ops else none
  | .seq a b => (regOf n a).orElse fun _ => regOf n b
  | .cond _ a b => (regOf n a).orElse fun _ => regOf n b
  | .block _ c => regOf n c
  | .loop c => regOf n c
  | _ => none
noncomputable def lineOps : Array Oper := ((Tryd.f24.body).bind (regOf 8)).getD #[]
/-- What has come up: the map, the two calls, the six insertions. -/
def lst (z p r s4 s8 s12 s15 s18 s23 : Bool) : Array Bool :=
  #[z, true, true, true, s4, true, true, true, s8, true, true, true, s12, true, p, s15, true, r, s18, true, true, true, true, s23, false, true, false, false]
def allT (z p r s4 s8 s12 s15 s18 s23 : Bool) : Bool := z && p && r && s4 && s8 && s12 && s15 && s18 && s23
def ok8 (z p r s4 s8 s12 s15 s18 s23 : Bool) (i : Nat) : Bool :=
  (i == 0 && !z) || (i == 14 && !p) || (i == 17 && p && !r) || (i == 4 && z && !s4) || (i == 8 && z && !s8) || (i == 12 && z && !s12) || (i == 15 && z && p && !s15) || (i == 18 && z && r && !s18) || (i == 23 && z && !s23)
theorem ready8 : ∀ z p r s4 s8 s12 s15 s18 s23 : Bool, allT z p r s4 s8 s12 s15 s18 s23 = false → (Region.ready .any lineOps (lst z p r s4 s8 s12 s15 s18 s23)).all (ok8 z p r s4 s8 s12 s15 s18 s23) = true ∧ (Region.ready .any lineOps (lst z p r s4 s8 s12 s15 s18 s23)).isEmpty = false := by decide +kernel
theorem wpOp_plain {P : Program} {ops : Array Oper} {Q : Exit → Act → World → Prop} {i : Nat} {K : Act → World → Prop} {a : Act} {w : World} {o : Oper} (h : ops[i]? = some o) (hg : o.guard = none) (hw : o.wp P a w K Q) : wpOp P ops Q i K a w := by
  unfold wpOp
  simp only [h]
  rw [if_pos (by simp [Region.wanted, hg])]
  exact Or.inl hw
theorem op0 : (lineOps[0]?).map (fun o => (o.dst, o.op, o.guard)) = some (some 41, .makeMap 77 none, none) := by kernel_rfl
theorem op14 : (lineOps[14]?).map (fun o => (o.dst, o.op, o.guard)) = some (some 52, .call { callee := .value (.func 14), args := #[.tmp 51], argTypes := #[26] }, none) := by kernel_rfl
theorem op17 : (lineOps[17]?).map (fun o => (o.dst, o.op, o.guard)) = some (some 54, .call { callee := .value (.func 16), args := #[.tmp 53], argTypes := #[26] }, none) := by kernel_rfl
theorem op4 : (lineOps[4]?).map (fun o => (o.dst, o.op, o.guard)) = some (none, .insert 77 (.tmp 41) (.const (.int .i32 97)) (.tmp 44), none) := by kernel_rfl
theorem op8 : (lineOps[8]?).map (fun o => (o.dst, o.op, o.guard)) = some (none, .insert 77 (.tmp 41) (.const (.int .i32 98)) (.tmp 47), none) := by kernel_rfl
theorem op12 : (lineOps[12]?).map (fun o => (o.dst, o.op, o.guard)) = some (none, .insert 77 (.tmp 41) (.const (.int .i32 99)) (.tmp 50), none) := by kernel_rfl
theorem op15 : (lineOps[15]?).map (fun o => (o.dst, o.op, o.guard)) = some (none, .insert 77 (.tmp 41) (.const (.int .i32 110)) (.tmp 52), none) := by kernel_rfl
theorem op18 : (lineOps[18]?).map (fun o => (o.dst, o.op, o.guard)) = some (none, .insert 77 (.tmp 41) (.const (.int .i32 100)) (.tmp 54), none) := by kernel_rfl
theorem op23 : (lineOps[23]?).map (fun o => (o.dst, o.op, o.guard)) = some (none, .insert 77 (.tmp 41) (.const (.int .i32 107)) (.tmp 58), none) := by kernel_rfl
theorem op_parts {i : Nat} {d : Option Tmp} {p : Op} {g : Option (Nat × Bool)} (h : (lineOps[i]?).map (fun o => (o.dst, o.op, o.guard)) = some (d, p, g)) : ∃ o, lineOps[i]? = some o ∧ o.dst = d ∧ o.op = p ∧ o.guard = g := by
  obtain ⟨o, ho, he⟩ := Option.map_eq_some_iff.1 h
  simp only [Prod.mk.injEq] at he
  exact ⟨o, ho, he⟩
end Go.Proofs.YtnbkpminecoddaaDoor
