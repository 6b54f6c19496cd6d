/- What the laid variables give the walks: the library's table of powers; what the library's own variables hold. -/
import Derived.Test.YtnbkpminecoddaaDoorCodeKnown
import Derived.Lib.LaidTab
import Derived.Stop.LaidErr
import Derived.Lib.AppendIntMem
import Derived.Test.YtnbkpminecoddaaDoorCodeSplit
import Derived.Shelf.Vars
namespace Go.Proofs.YtnbkpminecoddaaDoor
open Go.RowKit
set_option linter.unusedVariables false
set_option maxRecDepth 100000

theorem pow_data : (Rows.laid_internal_strconv_uint64pow10 : DataW Unit) = Lib.tabData .u64 Lib.pow10Tab := by kernel_rfl
theorem tab_of {W : World} {rest : List (String × DataW Unit)} (h : laidMet Tryd.prog (("math/bits.deBruijn32tab", Rows.laid_math_bits_deBruijn32tab) :: ("math/bits.deBruijn64tab", Rows.laid_math_bits_deBruijn64tab) :: ("internal/strconv.uint64pow10", Rows.laid_internal_strconv_uint64pow10) :: rest) W) : Tab W := by
  have h2 := laidMet.tail (laidMet.tail h)
  rw [pow_data] at h2
  exact Lib.tabBelow_of_tabIs (Lib.tabIs_of_head (g := 3) (t := 121) (e := 95) (n := 20) (by kernel_rfl) (by kernel_rfl) (by kernel_rfl) (by kernel_rfl) (by kernel_rfl) (by kernel_rfl) h2)
end Go.Proofs.YtnbkpminecoddaaDoor

/- What seven laid variables give the walks: the library's table of powers, its two errors, its greatest length. -/
section
namespace Go.Proofs.YtnbkpminecoddaaDoor
open Go.RowKit
set_option linter.unusedVariables false
set_option maxRecDepth 100000

theorem starE : "*" ++ "errors.errorString" = "*errors.errorString" := by decide
theorem rowES (u : TypeId) (h : Tryd.prog.typeName? 3 u = some "*errors.errorString") : u = 129 :=
  typeName_ptr_named (nm := "errors.errorString") (by rw [starE]; kernel_rfl) (by kernel_rfl) (by decide) u (by rw [starE]; exact h)
theorem errs_size : ((Tryd.prog.globals[1]?).map (·.type)) = some 58 ∧ ((Tryd.prog.globals[2]?).map (·.type)) = some 58 := ⟨by kernel_rfl, by kernel_rfl⟩
theorem uES : (match Tryd.prog.underlying 131 with | some (.struct fs) => decide (fs.size = 1) && (match fs[0]? with | some f => f.type == 9 && f.offset == 0 | none => false) | _ => false) = true := by kernel_rfl
theorem uES2 : ∃ f : Field, Tryd.prog.underlying 131 = some (.struct #[f]) ∧ f.type = 9 ∧ f.offset = 0 := by
  have h := uES
  split at h
  · rename_i fs hu
    rw [Bool.and_eq_true, decide_eq_true_eq] at h
    obtain ⟨h1, h2⟩ := h
    split at h2
    · rename_i f hf
      simp only [Bool.and_eq_true, beq_iff_eq] at h2
      refine ⟨f, ?_, h2.1, h2.2⟩
      rw [hu]
      congr 2
      apply Array.ext
      · simpa using h1
      · intro i hi1 hi2
        obtain rfl : i = 0 := by omega
        have := (Array.getElem?_eq_some_iff.1 hf).2
        simpa using this
    · cases h2
  · cases h
theorem sent_cell {W : World} {n : String} {g : Nat} {text : List UInt8} {r : List (String × DataW Unit)} (hg : Tryd.prog.globalNamed n = some g) (ht : (Tryd.prog.globals[g]?).map (·.type) = some 58)
    (h : laidMet Tryd.prog ((n, .iface "*errors.errorString" (.ptr (.agg [.lit (.string text)]))) :: r) W) : ∃ e, W.cell? ⟨g, 0, none⟩ = some e ∧ (e = .nilIface ∨ ∃ te pe, e = .iface te pe) := by
  obtain ⟨f, hf, hft, hfo⟩ := uES2
  obtain ⟨a, s, hv, _⟩ := laid_sentinel h hg ht (ms := #[("Error", 61)]) (by kernel_rfl) rowES (by kernel_rfl) hf hft hfo (by kernel_rfl) (by kernel_rfl) (by kernel_rfl)
  have hc := World.var?_cell hg hv 0
  exact ⟨.iface 129 (.pointer (some a)), by simpa using hc, .inr ⟨_, _, rfl⟩⟩
theorem lenRow : ((begin Tryd.prog (fun _ _ => 0) default).world.heap[0]?).bind Obj.row? = some (#[.int .i64 0], 3) := by kernel_rfl
/-- From the row's condition, and the world's shape, to what the walks ask. -/
theorem env_of {W : World} (hL : laidMet Tryd.prog Rows.codeTextsRow.laid W) (hS : W.ShapedOpen Tryd.prog) : Env W := by
  have ht : Tab W := tab_of hL
  have h4 := laidMet.tail (laidMet.tail (laidMet.tail (laidMet.tail hL)))
  obtain ⟨e2, hc2, he2⟩ := sent_cell (g := 2) (by kernel_rfl) errs_size.2 h4
  obtain ⟨e1, hc1, he1⟩ := sent_cell (g := 1) (by kernel_rfl) errs_size.1 (laidMet.tail h4)
  have hlt : 2 < W.heap.size := World.block_lt_of_cell? W _ hc2
  refine ⟨⟨e1, e2, by omega, hc1, hc2, he1, he2⟩, ht, ?_⟩
  exact cell_of_shapedOpen_int hS (by decide) lenRow rfl (by kernel_rfl) (by kernel_rfl) (by kernel_rfl)
end Go.Proofs.YtnbkpminecoddaaDoor
end
