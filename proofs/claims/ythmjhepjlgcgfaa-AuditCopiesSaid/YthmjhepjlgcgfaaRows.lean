/-
  No cell of these rows narrows 'for every input' (looked for: loops, veiled, ifaces, maps, wideKeys, modest, calm, conditions, laid).
  DERIVED. THE GIVEN ROWS OF THIS SEAT. 5 by the template 'for every input the law returns true; each argument reads behind the call as it read before'; 0 by the template 'total and deterministic' (their statements: YthmjhepjlgcgfaaTotals.lean).
  GIVEN WITH THE SEED: the statements are not yours to turn. If you find one false, say at which input.
  Laid BY PROGRAM, IN A SANDBOX (cutbox-rows.mjs): the forced cells as the released guide's own fill.sh prints them over the translation 79845e655445bda7… (all of the seat's roots in one cut). By AI agents, Wed Nov 11 2026. No macro, syntax, notation, axiom, sorry.
-/
import Derived.Test.YthmjhepjlgcgfaaChecked
import GoSem.Claim
import GoSem.ClaimJoined
import GoSem.ClaimMapViews
import Derived.JoinedTies
import Derived.KernelRfl
namespace Go.Proofs.Ythmjhepjlgcgfaa
/- THE CELL 'sum', in the pinned program and in every row, IS THE sha256 OF THE DUMP (.gsa) THAT YthmjhepjlgcgfaaProg.lean LOADS. Nothing in Lean hashes anything: it is a label: what it is worth is what the hold of that sum in a sandbox is worth. -/
noncomputable def Try.pinned : Pinned := { name := "ythmjhepjlgcgfaa", sum := "79845e655445bda74e673d5ab97f8ae21da0ed7bcc3e0b03067836997d3976d8", checked := Try.checked }
namespace Rows
def none {H : Type} : Left H := { results := [], args := [] }

/-- 'helmsmanlaw17.AuditPlays': WHATEVER THE INPUT: true; the input reads as it did. -/
def auditPlaysSpec : ChangeSpec := { name := "auditPlays", fn := fun _ => fun
  | [d1, d2] => { results := [.lit (.bool true)], args := [d1, d2] }
  | _ => none }
def auditPlaysRow : OpenClaim := { program := "ythmjhepjlgcgfaa", sum := "79845e655445bda74e673d5ab97f8ae21da0ed7bcc3e0b03067836997d3976d8", func := "helmsman/helmsmanlaw17.AuditPlays", spec := "auditPlays", unfollowed := true, recurses := true, apart := false }
def AuditPlaysSaid : Prop := auditPlaysRow.holds Try.pinned (OpenSpec.ofChange auditPlaysSpec)

/-- ITS FALSE NEIGHBOUR: 'it returns false'. Refute it at one input. -/
def auditPlaysWrong : ChangeSpec := { name := "auditPlays", fn := fun _ => fun
  | [d1, d2] => { results := [.lit (.bool false)], args := [d1, d2] }
  | _ => none }
def AuditPlaysWrongFalsely : Prop := auditPlaysRow.holds Try.pinned (OpenSpec.ofChange auditPlaysWrong)

/-- 'helmsmanlaw17.AuditFinds': WHATEVER THE INPUT: true; the input reads as it did. -/
def auditFindsSpec : ChangeSpec := { name := "auditFinds", fn := fun _ => fun
  | [d1, d2, d3] => { results := [.lit (.bool true)], args := [d1, d2, d3] }
  | _ => none }
def auditFindsRow : OpenClaim := { program := "ythmjhepjlgcgfaa", sum := "79845e655445bda74e673d5ab97f8ae21da0ed7bcc3e0b03067836997d3976d8", func := "helmsman/helmsmanlaw17.AuditFinds", spec := "auditFinds", unfollowed := true, recurses := true, apart := false }
def AuditFindsSaid : Prop := auditFindsRow.holds Try.pinned (OpenSpec.ofChange auditFindsSpec)

/-- ITS FALSE NEIGHBOUR: 'it returns false'. Refute it at one input. -/
def auditFindsWrong : ChangeSpec := { name := "auditFinds", fn := fun _ => fun
  | [d1, d2, d3] => { results := [.lit (.bool false)], args := [d1, d2, d3] }
  | _ => none }
def AuditFindsWrongFalsely : Prop := auditFindsRow.holds Try.pinned (OpenSpec.ofChange auditFindsWrong)

/-- 'helmsmanlaw17.AuditLast': WHATEVER THE INPUT: true; the input reads as it did. -/
def auditLastSpec : ChangeSpec := { name := "auditLast", fn := fun _ => fun
  | [d1, d2, d3, d4] => { results := [.lit (.bool true)], args := [d1, d2, d3, d4] }
  | _ => none }
def auditLastRow : OpenClaim := { program := "ythmjhepjlgcgfaa", sum := "79845e655445bda74e673d5ab97f8ae21da0ed7bcc3e0b03067836997d3976d8", func := "helmsman/helmsmanlaw17.AuditLast", spec := "auditLast", unfollowed := true, recurses := true, apart := false }
def AuditLastSaid : Prop := auditLastRow.holds Try.pinned (OpenSpec.ofChange auditLastSpec)

/-- ITS FALSE NEIGHBOUR: 'it returns false'. Refute it at one input. -/
def auditLastWrong : ChangeSpec := { name := "auditLast", fn := fun _ => fun
  | [d1, d2, d3, d4] => { results := [.lit (.bool false)], args := [d1, d2, d3, d4] }
  | _ => none }
def AuditLastWrongFalsely : Prop := auditLastRow.holds Try.pinned (OpenSpec.ofChange auditLastWrong)

/-- 'helmsmanlaw17.AuditCopies': WHATEVER THE INPUT: true; the input reads as it did. -/
def auditCopiesSpec : ChangeSpec := { name := "auditCopies", fn := fun _ => fun
  | [d1, d2, d3, d4] => { results := [.lit (.bool true)], args := [d1, d2, d3, d4] }
  | _ => none }
def auditCopiesRow : OpenClaim := { program := "ythmjhepjlgcgfaa", sum := "79845e655445bda74e673d5ab97f8ae21da0ed7bcc3e0b03067836997d3976d8", func := "helmsman/helmsmanlaw17.AuditCopies", spec := "auditCopies", unfollowed := true, recurses := true, apart := false }
def AuditCopiesSaid : Prop := auditCopiesRow.holds Try.pinned (OpenSpec.ofChange auditCopiesSpec)

/-- ITS FALSE NEIGHBOUR: 'it returns false'. Refute it at one input. -/
def auditCopiesWrong : ChangeSpec := { name := "auditCopies", fn := fun _ => fun
  | [d1, d2, d3, d4] => { results := [.lit (.bool false)], args := [d1, d2, d3, d4] }
  | _ => none }
def AuditCopiesWrongFalsely : Prop := auditCopiesRow.holds Try.pinned (OpenSpec.ofChange auditCopiesWrong)

/-- 'helmsmanlaw17.AuditNil': WHATEVER THE INPUT: true; the input reads as it did. -/
def auditNilSpec : ChangeSpec := { name := "auditNil", fn := fun _ => fun
  | [] => { results := [.lit (.bool true)], args := [] }
  | _ => none }
def auditNilRow : OpenClaim := { program := "ythmjhepjlgcgfaa", sum := "79845e655445bda74e673d5ab97f8ae21da0ed7bcc3e0b03067836997d3976d8", func := "helmsman/helmsmanlaw17.AuditNil", spec := "auditNil", unfollowed := true, recurses := true, apart := false }
def AuditNilSaid : Prop := auditNilRow.holds Try.pinned (OpenSpec.ofChange auditNilSpec)

/-- ITS FALSE NEIGHBOUR: 'it returns false'. Refute it at one input. -/
def auditNilWrong : ChangeSpec := { name := "auditNil", fn := fun _ => fun
  | [] => { results := [.lit (.bool false)], args := [] }
  | _ => none }
def AuditNilWrongFalsely : Prop := auditNilRow.holds Try.pinned (OpenSpec.ofChange auditNilWrong)

/- THE SECOND FORM. 'bulk': how many values and letters a reading holds, each counted each time it is reached (what is shared counts as often as it is met; a slice's spare places count too). A statement '..UptoSaid' is the law's where the arguments, and the package variables that the reading takes, are together of bulk at most 1048576: NARROWER than '..Said'. Prove '..Said' where nothing that the law and all that it calls make is longer than what came in: it says more and counts as full. Else prove '..UptoSaid'. A law counts once. -/
mutual
def uptoBulk {H : Type} : DataW H → Nat
  | .lit (.string bytes) => bytes.length + 1
  | .lit _ => 1
  | .nil => 1
  | .ptr d => uptoBulk d + 1
  | .slice elems spare => uptoBulkAll elems + uptoBulkAll spare + 1
  | .agg parts => uptoBulkAll parts + 1
  | .iface _ d => uptoBulk d + 1
  | .map entries => uptoBulkEntries entries + 1
  | .held _ => 1
def uptoBulkAll {H : Type} : List (DataW H) → Nat
  | [] => 0
  | d :: r => uptoBulk d + uptoBulkAll r
def uptoBulkEntries {H : Type} : List (Lit × DataW H) → Nat
  | [] => 0
  | x :: r => uptoBulkEntry x + uptoBulkEntries r
def uptoBulkEntry {H : Type} : Lit × DataW H → Nat
  | (.string bytes, d) => bytes.length + uptoBulk d + 1
  | (_, d) => uptoBulk d + 1
 end
def uptoSmall : (H : Type) → List (DataW H) → Bool := fun _ ds => decide (uptoBulkAll ds ≤ 1048576)
def OpenSpec.upto (s : _root_.Go.ChangeSpec) : _root_.Go.OpenSpec := { _root_.Go.OpenSpec.ofChange s with cond := some uptoSmall }

/-- 'helmsmanlaw17.AuditPlays', WHERE WHAT IT READS IS OF BULK AT MOST 1048576: true; the input reads as it did. -/
def auditPlaysUptoRow : OpenClaim := { program := "ythmjhepjlgcgfaa", sum := "79845e655445bda74e673d5ab97f8ae21da0ed7bcc3e0b03067836997d3976d8", func := "helmsman/helmsmanlaw17.AuditPlays", spec := "auditPlays", unfollowed := true, recurses := true, apart := false, narrowed := true }
def AuditPlaysUptoSaid : Prop := auditPlaysUptoRow.holds Try.pinned (OpenSpec.upto auditPlaysSpec)

/-- 'helmsmanlaw17.AuditFinds', WHERE WHAT IT READS IS OF BULK AT MOST 1048576: true; the input reads as it did. -/
def auditFindsUptoRow : OpenClaim := { program := "ythmjhepjlgcgfaa", sum := "79845e655445bda74e673d5ab97f8ae21da0ed7bcc3e0b03067836997d3976d8", func := "helmsman/helmsmanlaw17.AuditFinds", spec := "auditFinds", unfollowed := true, recurses := true, apart := false, narrowed := true }
def AuditFindsUptoSaid : Prop := auditFindsUptoRow.holds Try.pinned (OpenSpec.upto auditFindsSpec)

/-- 'helmsmanlaw17.AuditLast', WHERE WHAT IT READS IS OF BULK AT MOST 1048576: true; the input reads as it did. -/
def auditLastUptoRow : OpenClaim := { program := "ythmjhepjlgcgfaa", sum := "79845e655445bda74e673d5ab97f8ae21da0ed7bcc3e0b03067836997d3976d8", func := "helmsman/helmsmanlaw17.AuditLast", spec := "auditLast", unfollowed := true, recurses := true, apart := false, narrowed := true }
def AuditLastUptoSaid : Prop := auditLastUptoRow.holds Try.pinned (OpenSpec.upto auditLastSpec)

/-- 'helmsmanlaw17.AuditCopies', WHERE WHAT IT READS IS OF BULK AT MOST 1048576: true; the input reads as it did. -/
def auditCopiesUptoRow : OpenClaim := { program := "ythmjhepjlgcgfaa", sum := "79845e655445bda74e673d5ab97f8ae21da0ed7bcc3e0b03067836997d3976d8", func := "helmsman/helmsmanlaw17.AuditCopies", spec := "auditCopies", unfollowed := true, recurses := true, apart := false, narrowed := true }
def AuditCopiesUptoSaid : Prop := auditCopiesUptoRow.holds Try.pinned (OpenSpec.upto auditCopiesSpec)

/-- 'helmsmanlaw17.AuditNil', WHERE WHAT IT READS IS OF BULK AT MOST 1048576: true; the input reads as it did. -/
def auditNilUptoRow : OpenClaim := { program := "ythmjhepjlgcgfaa", sum := "79845e655445bda74e673d5ab97f8ae21da0ed7bcc3e0b03067836997d3976d8", func := "helmsman/helmsmanlaw17.AuditNil", spec := "auditNil", unfollowed := true, recurses := true, apart := false, narrowed := true }
def AuditNilUptoSaid : Prop := auditNilUptoRow.holds Try.pinned (OpenSpec.upto auditNilSpec)

end Rows
end Go.Proofs.Ythmjhepjlgcgfaa
