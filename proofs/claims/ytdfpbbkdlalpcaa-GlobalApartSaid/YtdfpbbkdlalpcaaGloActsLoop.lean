/- What the laws of the global queue share: the acts ahead. No program walked. -/
import Derived.Test.YtdfpbbkdlalpcaaGloPlays
import Derived.Test.YtdfpbbkdlalpcaaGloOrderP
namespace Go.Proofs.Ytdfpbbkdlalpcaa
open Go.RowKit
set_option linter.unusedVariables false

theorem reads_one2 (W : World) (g : Int) : Reads (W.alloc (.cells #[.int .i64 g] 3)) (W.heap.size + 1) 1 (some ⟨W.heap.size, 0, none⟩) 1 [.int .i64 g] := reads_one_ W g
theorem filt_yes {f : Int → Bool} {L : List Int} {k : Nat} (h : k < L.length) (hf : f L[k] = true) : (L.take (k + 1)).filter f = (L.take k).filter f ++ [L[k]] := by
  rw [List.take_succ_eq_append_getElem h, List.filter_append]
  simp [hf]
theorem filt_no {f : Int → Bool} {L : List Int} {k : Nat} (h : k < L.length) (hf : f L[k] = false) : (L.take (k + 1)).filter f = (L.take k).filter f := by
  rw [List.take_succ_eq_append_getElem h, List.filter_append]
  simp [hf]
theorem filt_len (f : Int → Bool) (L : List Int) (k : Nat) : ((L.take k).filter f).length ≤ L.length := Nat.le_trans (List.length_filter_le _ _) (by simp; omega)
end Go.Proofs.Ytdfpbbkdlalpcaa
