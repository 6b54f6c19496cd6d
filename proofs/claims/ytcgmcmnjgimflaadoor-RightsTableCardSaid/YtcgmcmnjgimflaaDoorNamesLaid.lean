/- What the cards' condition on the names' variable gives: the variable's block holds the names. Condition: the row's list of package-level variables is met. -/
import Derived.Test.YtcgmcmnjgimflaaDoorLawKit
import Derived.Test.YtcgmcmnjgimflaaDoorNamesWalks
import Derived.Lib.LaidTab
import Derived.Lib.SmallJoins
namespace Go.Proofs.YtcgmcmnjgimflaaDoor
open Go.ChangeShapes Go.WideShapes Go.ChangeAt Go.RowKit
set_option linter.unusedVariables false

theorem gNames : Tryd.prog.globalNamed "helmsman/rights.names" = some 0 := by kernel_rfl
theorem gNamesType : (Tryd.prog.globals[0]?).map (·.type) = some 45 := by kernel_rfl
theorem cellsNames : Tryd.prog.cellsOf 45 = 23 := by kernel_rfl
theorem cellsString : Tryd.prog.cellsOf 9 = 1 := by kernel_rfl
theorem laid_names {H : Type} : (Rows.laid_helmsman_rights_names : DataW H) = .agg ((List.range 23).map fun k => .lit (.string (namesL.getD k []))) := rfl

theorem names_cells {H : Type} {enc : TypeId × Value → H} {W : World} {base fuel : Nat} {sp : Nat → Bool} {hd : Bool} {cs : List Value} {p : List MemPlace}
    (h : DataW.trod enc Tryd.prog W base sp hd fuel 45 cs = some (Rows.laid_helmsman_rights_names, p)) : cs = namesV.toList := by
  obtain ⟨xs, m, rfl, hx, hl, hxl, hf⟩ := DataW.trod_array Tryd.underlying45 h
  rw [laid_names] at hx
  have hL : xs.map (·.1) = (List.range 23).map fun k => (DataW.lit (.string (namesL.getD k [])) : DataW H) := by
    have := congrArg Prod.fst hx
    simpa using this.symm
  rw [cellsNames] at hl
  apply List.ext_getElem?
  intro i
  by_cases hi : i < 23
  · have h1 := hf i hi
    rw [cellsString, Nat.mul_one] at h1
    have hxi : xs[i]? = some (xs[i]'(by omega)) := List.getElem?_eq_getElem (by omega)
    rw [hxi] at h1
    obtain ⟨s, e0, e1, hs⟩ := DataW.trod_string Tryd.underlying9 h1
    have h2 : (xs.map (·.1))[i]? = some (DataW.lit (.string s.data.toList) : DataW H) := by
      rw [List.getElem?_map, hxi, e1]
      rfl
    rw [hL, List.getElem?_map, List.getElem?_range hi] at h2
    have e3 : namesL.getD i [] = s.data.toList := by simpa using h2
    have e4 : cs[i]? = some (.string s) := by
      have := congrArg (·[0]?) e0
      simpa [List.getElem?_take, List.getElem?_drop] using this
    rw [e4]
    have e5 : namesV.toList[i]? = some (.string (nm i)) := by
      have := namesV_get i hi
      simpa using this
    rw [e5, nm, e3]
  · rw [List.getElem?_eq_none (by omega), List.getElem?_eq_none (by simp [namesV]; omega)]

theorem names_in {W : World} (h : laidMet Tryd.prog [("helmsman/rights.names", Rows.laid_helmsman_rights_names)] W) : NamesIn W := by
  obtain ⟨ps, ⟨g', t', cs, fuel, p, q, hg', ht', hvar, hd, _, _⟩, _⟩ := h
  obtain rfl := Option.some.inj (gNames.symm.trans hg')
  obtain rfl := Option.some.inj (gNamesType.symm.trans ht')
  have hcs := names_cells hd
  obtain rfl : cs = namesV := by
    cases cs
    simpa [← Array.toList_inj] using hcs
  unfold World.var? at hvar
  rw [gNames] at hvar
  simp only [Option.bind_some] at hvar
  split at hvar
  · rename_i c t fr hh
    obtain rfl := Option.some.inj hvar
    exact ⟨t, fr, hh⟩
  · cases hvar
end Go.Proofs.YtcgmcmnjgimflaaDoor
