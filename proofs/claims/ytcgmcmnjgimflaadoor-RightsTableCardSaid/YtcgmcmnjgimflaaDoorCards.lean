/-
  DERIVED. GIVEN WITH THE SEED: THE CARDS: each row of YtcgmcmnjgimflaaDoorRows.lean that lists a variable, with what it lists TIED to the program's text (the seventh form; the later family's looks); each row that meets fmt, with fmt's text TOLD by the authors' own Lean function (tested against real Go, not proved from fmt's source: count such statements apart). THE CARD IS WHAT COUNTS. Prove the row's statement (the work); the ties are given (YtcgmcmnjgimflaaDoorTie.lean); close each card by the builder's one call (the guide's Derived/Test/ToyasCard.lean, 'card_holds'). Laid BY PROGRAM, IN A SANDBOX (cutbox-door.mjs). By AI agents, Wed Nov 11 2026. No macro, syntax, notation, axiom, sorry.
-/
import Derived.Test.YtcgmcmnjgimflaaDoorRows
import GoSem.ClaimSeven
namespace Go.Proofs.YtcgmcmnjgimflaaDoor
namespace Rows

/-- THE TIED CARD OF 'helmsmanlaw11.RightsNames'. -/
def rightsNamesCard : Claim7 := { stood := { row := rightsNamesRow, standIns := [], harness := (true, "50362e80b4a6f29a9691b943892215f45dfe5e904369d04cf65d3ae4e2b21589"), looks := false }, kinds := [], alts := [], laidByText := true, laidKinds := [.data], laidTests := true, laidLooks := .later }
def RightsNamesCardSaid : Prop := Claim7.holds Tryd.pinned (.plain (OpenSpec.ofChange rightsNamesSpec)) rightsNamesCard

/-- THE TIED CARD OF 'helmsmanlaw11.RightsTable'. -/
def rightsTableCard : Claim7 := { stood := { row := rightsTableRow, standIns := [], harness := (true, "50362e80b4a6f29a9691b943892215f45dfe5e904369d04cf65d3ae4e2b21589"), looks := false }, kinds := [], alts := [], laidByText := true, laidKinds := [.data], laidTests := true, laidLooks := .later }
def RightsTableCardSaid : Prop := Claim7.holds Tryd.pinned (.plain (OpenSpec.ofChange rightsTableSpec)) rightsTableCard

/-- THE SECOND FORM's CARD OF 'helmsmanlaw11.RightsNames'. -/
def rightsNamesUptoCard : Claim7 := { stood := { row := rightsNamesUptoRow, standIns := [], harness := (true, "50362e80b4a6f29a9691b943892215f45dfe5e904369d04cf65d3ae4e2b21589"), looks := false }, kinds := [], alts := [], laidByText := true, laidKinds := [.data], laidTests := true, laidLooks := .later }
def RightsNamesUptoCardSaid : Prop := Claim7.holds Tryd.pinned (.plain (OpenSpec.upto rightsNamesSpec)) rightsNamesUptoCard

/-- THE SECOND FORM's CARD OF 'helmsmanlaw11.RightsTable'. -/
def rightsTableUptoCard : Claim7 := { stood := { row := rightsTableUptoRow, standIns := [], harness := (true, "50362e80b4a6f29a9691b943892215f45dfe5e904369d04cf65d3ae4e2b21589"), looks := false }, kinds := [], alts := [], laidByText := true, laidKinds := [.data], laidTests := true, laidLooks := .later }
def RightsTableUptoCardSaid : Prop := Claim7.holds Tryd.pinned (.plain (OpenSpec.upto rightsTableSpec)) rightsTableUptoCard
end Rows
end Go.Proofs.YtcgmcmnjgimflaaDoor
