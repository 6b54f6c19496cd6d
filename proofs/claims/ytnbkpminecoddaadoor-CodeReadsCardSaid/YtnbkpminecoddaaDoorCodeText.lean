/- code.Text, by walk (begun): a builder stays one under calls that lay new blocks alone. -/
import Derived.Test.YtnbkpminecoddaaDoorBuild
import Derived.Test.YtnbkpminecoddaaDoorCodeRaw
namespace Go.Proofs.YtnbkpminecoddaaDoor
open Go.RowKit
set_option linter.unusedVariables false
set_option linter.unusedSimpArgs false

theorem builder_below {T e : TypeId} {B b : Nat} {bs : List Value} {w w' : World} (h : Lib.IsBuilder T e B b bs w) (hb : Below w.heap.size w w') : Lib.IsBuilder T e B b bs w' := by
  have key : ∀ p, Lib.BuilderAt T e B b p bs w → Lib.BuilderAt T e B b p bs w' := by
    rintro p ⟨h1, v, h2, h3, h4⟩
    exact ⟨h1, v, (hb.block b (Array.getElem?_eq_some_iff.1 h2).1).trans h2, below_own h3 hb, h4⟩
  exact h.imp (key _) (key _)
/-- A fresh builder. -/
theorem builder_new (w : World) : Lib.IsBuilder 54 5 w.heap.size w.heap.size [] (w.alloc (.cells #[.pointer none, .slice none 0 0] 54)) :=
  Or.inl ⟨Nat.le_refl _, _, heap_alloc_new w _, World.ownsRow_nil _ _ _ _, by simp [Value.ownBlock]⟩
end Go.Proofs.YtnbkpminecoddaaDoor
