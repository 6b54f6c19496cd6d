/-
  No cell of these rows narrows 'for every input' (looked for: loops, veiled, ifaces, maps, wideKeys, modest, calm, conditions, laid).
  DERIVED. THE GIVEN ROWS OF THIS SEAT. 5 by the template 'for every input the law returns true; each argument reads behind the call as it read before'; 0 by the template 'total and deterministic' (their statements: YtfdmnpienojejaaTotals.lean).
  GIVEN WITH THE SEED: the statements are not yours to turn. If you find one false, say at which input.
  Laid BY PROGRAM, IN A SANDBOX (cutbox-rows.mjs): the forced cells as the released guide's own fill.sh prints them over the translation ba08dff5b10fd790… (all of the seat's roots in one cut). By AI agents, Wed Nov 11 2026. No macro, syntax, notation, axiom, sorry.
-/
import Derived.Test.YtfdmnpienojejaaChecked
import GoSem.Claim
import GoSem.ClaimJoined
import GoSem.ClaimMapViews
import Derived.JoinedTies
import Derived.KernelRfl
namespace Go.Proofs.Ytfdmnpienojejaa
/- THE CELL 'sum', in the pinned program and in every row, IS THE sha256 OF THE DUMP (.gsa) THAT YtfdmnpienojejaaProg.lean LOADS. Nothing in Lean hashes anything: it is a label: what it is worth is what the hold of that sum in a sandbox is worth. -/
noncomputable def Try.pinned : Pinned := { name := "ytfdmnpienojejaa", sum := "ba08dff5b10fd7904a98226d3101e25a1aca41f08ae53964c92b3998adcb7311", checked := Try.checked }
namespace Rows
def none {H : Type} : Left H := { results := [], args := [] }

/-- 'helmsmanlaw01.NumGoes': WHATEVER THE INPUT: true; the input reads as it did. -/
def numGoesSpec : ChangeSpec := { name := "numGoes", fn := fun _ => fun
  | [d1, d2, d3] => { results := [.lit (.bool true)], args := [d1, d2, d3] }
  | _ => none }
def numGoesRow : OpenClaim := { program := "ytfdmnpienojejaa", sum := "ba08dff5b10fd7904a98226d3101e25a1aca41f08ae53964c92b3998adcb7311", func := "helmsman/helmsmanlaw01.NumGoes", spec := "numGoes", inPlace := ["math/bits.Add64"], unfollowed := true, recurses := true, apart := false }
def NumGoesSaid : Prop := numGoesRow.holds Try.pinned (OpenSpec.ofChange numGoesSpec)

/-- ITS FALSE NEIGHBOUR: 'it returns false'. Refute it at one input. -/
def numGoesWrong : ChangeSpec := { name := "numGoes", fn := fun _ => fun
  | [d1, d2, d3] => { results := [.lit (.bool false)], args := [d1, d2, d3] }
  | _ => none }
def NumGoesWrongFalsely : Prop := numGoesRow.holds Try.pinned (OpenSpec.ofChange numGoesWrong)

/-- 'helmsmanlaw01.NumSets': WHATEVER THE INPUT: true; the input reads as it did. -/
def numSetsSpec : ChangeSpec := { name := "numSets", fn := fun _ => fun
  | [d1, d2, d3] => { results := [.lit (.bool true)], args := [d1, d2, d3] }
  | _ => none }
def numSetsRow : OpenClaim := { program := "ytfdmnpienojejaa", sum := "ba08dff5b10fd7904a98226d3101e25a1aca41f08ae53964c92b3998adcb7311", func := "helmsman/helmsmanlaw01.NumSets", spec := "numSets", inPlace := ["math/bits.Add64"], unfollowed := true, recurses := true, apart := false }
def NumSetsSaid : Prop := numSetsRow.holds Try.pinned (OpenSpec.ofChange numSetsSpec)

/-- ITS FALSE NEIGHBOUR: 'it returns false'. Refute it at one input. -/
def numSetsWrong : ChangeSpec := { name := "numSets", fn := fun _ => fun
  | [d1, d2, d3] => { results := [.lit (.bool false)], args := [d1, d2, d3] }
  | _ => none }
def NumSetsWrongFalsely : Prop := numSetsRow.holds Try.pinned (OpenSpec.ofChange numSetsWrong)

/-- 'helmsmanlaw01.NumSums': WHATEVER THE INPUT: true; the input reads as it did. -/
def numSumsSpec : ChangeSpec := { name := "numSums", fn := fun _ => fun
  | [d1, d2] => { results := [.lit (.bool true)], args := [d1, d2] }
  | _ => none }
def numSumsRow : OpenClaim := { program := "ytfdmnpienojejaa", sum := "ba08dff5b10fd7904a98226d3101e25a1aca41f08ae53964c92b3998adcb7311", func := "helmsman/helmsmanlaw01.NumSums", spec := "numSums", inPlace := ["math/bits.Add64"], unfollowed := true, recurses := true, apart := false }
def NumSumsSaid : Prop := numSumsRow.holds Try.pinned (OpenSpec.ofChange numSumsSpec)

/-- ITS FALSE NEIGHBOUR: 'it returns false'. Refute it at one input. -/
def numSumsWrong : ChangeSpec := { name := "numSums", fn := fun _ => fun
  | [d1, d2] => { results := [.lit (.bool false)], args := [d1, d2] }
  | _ => none }
def NumSumsWrongFalsely : Prop := numSumsRow.holds Try.pinned (OpenSpec.ofChange numSumsWrong)

/-- 'helmsmanlaw01.NumTurns': WHATEVER THE INPUT: true; the input reads as it did. -/
def numTurnsSpec : ChangeSpec := { name := "numTurns", fn := fun _ => fun
  | [d1, d2] => { results := [.lit (.bool true)], args := [d1, d2] }
  | _ => none }
def numTurnsRow : OpenClaim := { program := "ytfdmnpienojejaa", sum := "ba08dff5b10fd7904a98226d3101e25a1aca41f08ae53964c92b3998adcb7311", func := "helmsman/helmsmanlaw01.NumTurns", spec := "numTurns", inPlace := ["math/bits.Add64"], unfollowed := true, recurses := true, apart := false }
def NumTurnsSaid : Prop := numTurnsRow.holds Try.pinned (OpenSpec.ofChange numTurnsSpec)

/-- ITS FALSE NEIGHBOUR: 'it returns false'. Refute it at one input. -/
def numTurnsWrong : ChangeSpec := { name := "numTurns", fn := fun _ => fun
  | [d1, d2] => { results := [.lit (.bool false)], args := [d1, d2] }
  | _ => none }
def NumTurnsWrongFalsely : Prop := numTurnsRow.holds Try.pinned (OpenSpec.ofChange numTurnsWrong)

/-- 'helmsmanlaw01.NumSaturates': WHATEVER THE INPUT: true; the input reads as it did. -/
def numSaturatesSpec : ChangeSpec := { name := "numSaturates", fn := fun _ => fun
  | [d1, d2] => { results := [.lit (.bool true)], args := [d1, d2] }
  | _ => none }
def numSaturatesRow : OpenClaim := { program := "ytfdmnpienojejaa", sum := "ba08dff5b10fd7904a98226d3101e25a1aca41f08ae53964c92b3998adcb7311", func := "helmsman/helmsmanlaw01.NumSaturates", spec := "numSaturates", inPlace := ["math/bits.Add64"], unfollowed := true, recurses := true, apart := false }
def NumSaturatesSaid : Prop := numSaturatesRow.holds Try.pinned (OpenSpec.ofChange numSaturatesSpec)

/-- ITS FALSE NEIGHBOUR: 'it returns false'. Refute it at one input. -/
def numSaturatesWrong : ChangeSpec := { name := "numSaturates", fn := fun _ => fun
  | [d1, d2] => { results := [.lit (.bool false)], args := [d1, d2] }
  | _ => none }
def NumSaturatesWrongFalsely : Prop := numSaturatesRow.holds Try.pinned (OpenSpec.ofChange numSaturatesWrong)

/- THE SECOND FORM. 'bulk': how many values and letters a reading holds, each counted each time it is reached (what is shared counts as often as it is met; a slice's spare places count too). A statement '..UptoSaid' is the law's where the arguments, and the package variables that the reading takes, are together of bulk at most 1048576: NARROWER than '..Said'. Prove '..Said' where nothing that the law and all that it calls make is longer than what came in: it says more and counts as full. Else prove '..UptoSaid'. A law counts once. -/
mutual
def uptoBulk {H : Type} : DataW H → Nat
  | .lit (.string bytes) => bytes.length + 1
  | .lit _ => 1
  | .nil => 1
  | .ptr d => uptoBulk d + 1
  | .slice elems spare => uptoBulkAll elems + uptoBulkAll spare + 1
  | .agg parts => uptoBulkAll parts + 1
  | .iface _ d => uptoBulk d + 1
  | .map entries => uptoBulkEntries entries + 1
  | .held _ => 1
def uptoBulkAll {H : Type} : List (DataW H) → Nat
  | [] => 0
  | d :: r => uptoBulk d + uptoBulkAll r
def uptoBulkEntries {H : Type} : List (Lit × DataW H) → Nat
  | [] => 0
  | x :: r => uptoBulkEntry x + uptoBulkEntries r
def uptoBulkEntry {H : Type} : Lit × DataW H → Nat
  | (.string bytes, d) => bytes.length + uptoBulk d + 1
  | (_, d) => uptoBulk d + 1
 end
def uptoSmall : (H : Type) → List (DataW H) → Bool := fun _ ds => decide (uptoBulkAll ds ≤ 1048576)
def OpenSpec.upto (s : _root_.Go.ChangeSpec) : _root_.Go.OpenSpec := { _root_.Go.OpenSpec.ofChange s with cond := some uptoSmall }

/-- 'helmsmanlaw01.NumGoes', WHERE WHAT IT READS IS OF BULK AT MOST 1048576: true; the input reads as it did. -/
def numGoesUptoRow : OpenClaim := { program := "ytfdmnpienojejaa", sum := "ba08dff5b10fd7904a98226d3101e25a1aca41f08ae53964c92b3998adcb7311", func := "helmsman/helmsmanlaw01.NumGoes", spec := "numGoes", inPlace := ["math/bits.Add64"], unfollowed := true, recurses := true, apart := false, narrowed := true }
def NumGoesUptoSaid : Prop := numGoesUptoRow.holds Try.pinned (OpenSpec.upto numGoesSpec)

/-- 'helmsmanlaw01.NumSets', WHERE WHAT IT READS IS OF BULK AT MOST 1048576: true; the input reads as it did. -/
def numSetsUptoRow : OpenClaim := { program := "ytfdmnpienojejaa", sum := "ba08dff5b10fd7904a98226d3101e25a1aca41f08ae53964c92b3998adcb7311", func := "helmsman/helmsmanlaw01.NumSets", spec := "numSets", inPlace := ["math/bits.Add64"], unfollowed := true, recurses := true, apart := false, narrowed := true }
def NumSetsUptoSaid : Prop := numSetsUptoRow.holds Try.pinned (OpenSpec.upto numSetsSpec)

/-- 'helmsmanlaw01.NumSums', WHERE WHAT IT READS IS OF BULK AT MOST 1048576: true; the input reads as it did. -/
def numSumsUptoRow : OpenClaim := { program := "ytfdmnpienojejaa", sum := "ba08dff5b10fd7904a98226d3101e25a1aca41f08ae53964c92b3998adcb7311", func := "helmsman/helmsmanlaw01.NumSums", spec := "numSums", inPlace := ["math/bits.Add64"], unfollowed := true, recurses := true, apart := false, narrowed := true }
def NumSumsUptoSaid : Prop := numSumsUptoRow.holds Try.pinned (OpenSpec.upto numSumsSpec)

/-- 'helmsmanlaw01.NumTurns', WHERE WHAT IT READS IS OF BULK AT MOST 1048576: true; the input reads as it did. -/
def numTurnsUptoRow : OpenClaim := { program := "ytfdmnpienojejaa", sum := "ba08dff5b10fd7904a98226d3101e25a1aca41f08ae53964c92b3998adcb7311", func := "helmsman/helmsmanlaw01.NumTurns", spec := "numTurns", inPlace := ["math/bits.Add64"], unfollowed := true, recurses := true, apart := false, narrowed := true }
def NumTurnsUptoSaid : Prop := numTurnsUptoRow.holds Try.pinned (OpenSpec.upto numTurnsSpec)

/-- 'helmsmanlaw01.NumSaturates', WHERE WHAT IT READS IS OF BULK AT MOST 1048576: true; the input reads as it did. -/
def numSaturatesUptoRow : OpenClaim := { program := "ytfdmnpienojejaa", sum := "ba08dff5b10fd7904a98226d3101e25a1aca41f08ae53964c92b3998adcb7311", func := "helmsman/helmsmanlaw01.NumSaturates", spec := "numSaturates", inPlace := ["math/bits.Add64"], unfollowed := true, recurses := true, apart := false, narrowed := true }
def NumSaturatesUptoSaid : Prop := numSaturatesUptoRow.holds Try.pinned (OpenSpec.upto numSaturatesSpec)

end Rows
end Go.Proofs.Ytfdmnpienojejaa
