/-
  No cell of these rows narrows 'for every input' (looked for: loops, veiled, ifaces, maps, wideKeys, modest, calm, conditions, laid).
  DERIVED. THE GIVEN ROWS OF THIS SEAT. 5 by the template 'for every input the law returns true; each argument reads behind the call as it read before'; 0 by the template 'total and deterministic' (their statements: YtoigapnpmhogdaaTotals.lean).
  GIVEN WITH THE SEED: the statements are not yours to turn. If you find one false, say at which input.
  Laid BY PROGRAM, IN A SANDBOX (cutbox-rows.mjs): the forced cells as the released guide's own fill.sh prints them over the translation 71a622863c0785f0… (all of the seat's roots in one cut). By AI agents, Wed Nov 11 2026. No macro, syntax, notation, axiom, sorry.
-/
import Derived.Test.YtoigapnpmhogdaaChecked
import GoSem.Claim
import GoSem.ClaimJoined
import GoSem.ClaimMapViews
import Derived.JoinedTies
import Derived.KernelRfl
namespace Go.Proofs.Ytoigapnpmhogdaa
/- THE CELL 'sum', in the pinned program and in every row, IS THE sha256 OF THE DUMP (.gsa) THAT YtoigapnpmhogdaaProg.lean LOADS. Nothing in Lean hashes anything: it is a label: what it is worth is what the hold of that sum in a sandbox is worth. -/
noncomputable def Try.pinned : Pinned := { name := "ytoigapnpmhogdaa", sum := "71a622863c0785f035f053ee8c7433eab055ffdc9ace1267a13498ac016664dd", checked := Try.checked }
namespace Rows
def none {H : Type} : Left H := { results := [], args := [] }

/-- 'helmsmanlaw18.ConfigMay': WHATEVER THE INPUT: true; the input reads as it did. -/
def configMaySpec : ChangeSpec := { name := "configMay", fn := fun _ => fun
  | [d] => { results := [.lit (.bool true)], args := [d] }
  | _ => none }
def configMayRow : OpenClaim := { program := "ytoigapnpmhogdaa", sum := "71a622863c0785f035f053ee8c7433eab055ffdc9ace1267a13498ac016664dd", func := "helmsman/helmsmanlaw18.ConfigMay", spec := "configMay", unfollowed := true, recurses := true, apart := false }
def ConfigMaySaid : Prop := configMayRow.holds Try.pinned (OpenSpec.ofChange configMaySpec)

/-- ITS FALSE NEIGHBOUR: 'it returns false'. Refute it at one input. -/
def configMayWrong : ChangeSpec := { name := "configMay", fn := fun _ => fun
  | [d] => { results := [.lit (.bool false)], args := [d] }
  | _ => none }
def ConfigMayWrongFalsely : Prop := configMayRow.holds Try.pinned (OpenSpec.ofChange configMayWrong)

/-- 'helmsmanlaw18.ConfigEdges': WHATEVER THE INPUT: true; the input reads as it did. -/
def configEdgesSpec : ChangeSpec := { name := "configEdges", fn := fun _ => fun
  | [d1, d2] => { results := [.lit (.bool true)], args := [d1, d2] }
  | _ => none }
def configEdgesRow : OpenClaim := { program := "ytoigapnpmhogdaa", sum := "71a622863c0785f035f053ee8c7433eab055ffdc9ace1267a13498ac016664dd", func := "helmsman/helmsmanlaw18.ConfigEdges", spec := "configEdges", unfollowed := true, recurses := true, apart := false }
def ConfigEdgesSaid : Prop := configEdgesRow.holds Try.pinned (OpenSpec.ofChange configEdgesSpec)

/-- ITS FALSE NEIGHBOUR: 'it returns false'. Refute it at one input. -/
def configEdgesWrong : ChangeSpec := { name := "configEdges", fn := fun _ => fun
  | [d1, d2] => { results := [.lit (.bool false)], args := [d1, d2] }
  | _ => none }
def ConfigEdgesWrongFalsely : Prop := configEdgesRow.holds Try.pinned (OpenSpec.ofChange configEdgesWrong)

/-- 'helmsmanlaw18.ConfigNearest': WHATEVER THE INPUT: true; the input reads as it did. -/
def configNearestSpec : ChangeSpec := { name := "configNearest", fn := fun _ => fun
  | [d] => { results := [.lit (.bool true)], args := [d] }
  | _ => none }
def configNearestRow : OpenClaim := { program := "ytoigapnpmhogdaa", sum := "71a622863c0785f035f053ee8c7433eab055ffdc9ace1267a13498ac016664dd", func := "helmsman/helmsmanlaw18.ConfigNearest", spec := "configNearest", unfollowed := true, recurses := true, apart := false }
def ConfigNearestSaid : Prop := configNearestRow.holds Try.pinned (OpenSpec.ofChange configNearestSpec)

/-- ITS FALSE NEIGHBOUR: 'it returns false'. Refute it at one input. -/
def configNearestWrong : ChangeSpec := { name := "configNearest", fn := fun _ => fun
  | [d] => { results := [.lit (.bool false)], args := [d] }
  | _ => none }
def ConfigNearestWrongFalsely : Prop := configNearestRow.holds Try.pinned (OpenSpec.ofChange configNearestWrong)

/-- 'helmsmanlaw18.ConfigPlain': WHATEVER THE INPUT: true; the input reads as it did. -/
def configPlainSpec : ChangeSpec := { name := "configPlain", fn := fun _ => fun
  | [] => { results := [.lit (.bool true)], args := [] }
  | _ => none }
def configPlainRow : OpenClaim := { program := "ytoigapnpmhogdaa", sum := "71a622863c0785f035f053ee8c7433eab055ffdc9ace1267a13498ac016664dd", func := "helmsman/helmsmanlaw18.ConfigPlain", spec := "configPlain", unfollowed := true, recurses := true, apart := false }
def ConfigPlainSaid : Prop := configPlainRow.holds Try.pinned (OpenSpec.ofChange configPlainSpec)

/-- ITS FALSE NEIGHBOUR: 'it returns false'. Refute it at one input. -/
def configPlainWrong : ChangeSpec := { name := "configPlain", fn := fun _ => fun
  | [] => { results := [.lit (.bool false)], args := [] }
  | _ => none }
def ConfigPlainWrongFalsely : Prop := configPlainRow.holds Try.pinned (OpenSpec.ofChange configPlainWrong)

/-- 'helmsmanlaw18.ConfigCopies': WHATEVER THE INPUT: true; the input reads as it did. -/
def configCopiesSpec : ChangeSpec := { name := "configCopies", fn := fun _ => fun
  | [d1, d2] => { results := [.lit (.bool true)], args := [d1, d2] }
  | _ => none }
def configCopiesRow : OpenClaim := { program := "ytoigapnpmhogdaa", sum := "71a622863c0785f035f053ee8c7433eab055ffdc9ace1267a13498ac016664dd", func := "helmsman/helmsmanlaw18.ConfigCopies", spec := "configCopies", unfollowed := true, recurses := true, apart := false }
def ConfigCopiesSaid : Prop := configCopiesRow.holds Try.pinned (OpenSpec.ofChange configCopiesSpec)

/-- ITS FALSE NEIGHBOUR: 'it returns false'. Refute it at one input. -/
def configCopiesWrong : ChangeSpec := { name := "configCopies", fn := fun _ => fun
  | [d1, d2] => { results := [.lit (.bool false)], args := [d1, d2] }
  | _ => none }
def ConfigCopiesWrongFalsely : Prop := configCopiesRow.holds Try.pinned (OpenSpec.ofChange configCopiesWrong)

/- THE SECOND FORM. 'bulk': how many values and letters a reading holds, each counted each time it is reached (what is shared counts as often as it is met; a slice's spare places count too). A statement '..UptoSaid' is the law's where the arguments, and the package variables that the reading takes, are together of bulk at most 1048576: NARROWER than '..Said'. Prove '..Said' where nothing that the law and all that it calls make is longer than what came in: it says more and counts as full. Else prove '..UptoSaid'. A law counts once. -/
mutual
def uptoBulk {H : Type} : DataW H → Nat
  | .lit (.string bytes) => bytes.length + 1
  | .lit _ => 1
  | .nil => 1
  | .ptr d => uptoBulk d + 1
  | .slice elems spare => uptoBulkAll elems + uptoBulkAll spare + 1
  | .agg parts => uptoBulkAll parts + 1
  | .iface _ d => uptoBulk d + 1
  | .map entries => uptoBulkEntries entries + 1
  | .held _ => 1
def uptoBulkAll {H : Type} : List (DataW H) → Nat
  | [] => 0
  | d :: r => uptoBulk d + uptoBulkAll r
def uptoBulkEntries {H : Type} : List (Lit × DataW H) → Nat
  | [] => 0
  | x :: r => uptoBulkEntry x + uptoBulkEntries r
def uptoBulkEntry {H : Type} : Lit × DataW H → Nat
  | (.string bytes, d) => bytes.length + uptoBulk d + 1
  | (_, d) => uptoBulk d + 1
 end
def uptoSmall : (H : Type) → List (DataW H) → Bool := fun _ ds => decide (uptoBulkAll ds ≤ 1048576)
def OpenSpec.upto (s : _root_.Go.ChangeSpec) : _root_.Go.OpenSpec := { _root_.Go.OpenSpec.ofChange s with cond := some uptoSmall }

/-- 'helmsmanlaw18.ConfigMay', WHERE WHAT IT READS IS OF BULK AT MOST 1048576: true; the input reads as it did. -/
def configMayUptoRow : OpenClaim := { program := "ytoigapnpmhogdaa", sum := "71a622863c0785f035f053ee8c7433eab055ffdc9ace1267a13498ac016664dd", func := "helmsman/helmsmanlaw18.ConfigMay", spec := "configMay", unfollowed := true, recurses := true, apart := false, narrowed := true }
def ConfigMayUptoSaid : Prop := configMayUptoRow.holds Try.pinned (OpenSpec.upto configMaySpec)

/-- 'helmsmanlaw18.ConfigEdges', WHERE WHAT IT READS IS OF BULK AT MOST 1048576: true; the input reads as it did. -/
def configEdgesUptoRow : OpenClaim := { program := "ytoigapnpmhogdaa", sum := "71a622863c0785f035f053ee8c7433eab055ffdc9ace1267a13498ac016664dd", func := "helmsman/helmsmanlaw18.ConfigEdges", spec := "configEdges", unfollowed := true, recurses := true, apart := false, narrowed := true }
def ConfigEdgesUptoSaid : Prop := configEdgesUptoRow.holds Try.pinned (OpenSpec.upto configEdgesSpec)

/-- 'helmsmanlaw18.ConfigNearest', WHERE WHAT IT READS IS OF BULK AT MOST 1048576: true; the input reads as it did. -/
def configNearestUptoRow : OpenClaim := { program := "ytoigapnpmhogdaa", sum := "71a622863c0785f035f053ee8c7433eab055ffdc9ace1267a13498ac016664dd", func := "helmsman/helmsmanlaw18.ConfigNearest", spec := "configNearest", unfollowed := true, recurses := true, apart := false, narrowed := true }
def ConfigNearestUptoSaid : Prop := configNearestUptoRow.holds Try.pinned (OpenSpec.upto configNearestSpec)

/-- 'helmsmanlaw18.ConfigPlain', WHERE WHAT IT READS IS OF BULK AT MOST 1048576: true; the input reads as it did. -/
def configPlainUptoRow : OpenClaim := { program := "ytoigapnpmhogdaa", sum := "71a622863c0785f035f053ee8c7433eab055ffdc9ace1267a13498ac016664dd", func := "helmsman/helmsmanlaw18.ConfigPlain", spec := "configPlain", unfollowed := true, recurses := true, apart := false, narrowed := true }
def ConfigPlainUptoSaid : Prop := configPlainUptoRow.holds Try.pinned (OpenSpec.upto configPlainSpec)

/-- 'helmsmanlaw18.ConfigCopies', WHERE WHAT IT READS IS OF BULK AT MOST 1048576: true; the input reads as it did. -/
def configCopiesUptoRow : OpenClaim := { program := "ytoigapnpmhogdaa", sum := "71a622863c0785f035f053ee8c7433eab055ffdc9ace1267a13498ac016664dd", func := "helmsman/helmsmanlaw18.ConfigCopies", spec := "configCopies", unfollowed := true, recurses := true, apart := false, narrowed := true }
def ConfigCopiesUptoSaid : Prop := configCopiesUptoRow.holds Try.pinned (OpenSpec.upto configCopiesSpec)

end Rows
end Go.Proofs.Ytoigapnpmhogdaa
