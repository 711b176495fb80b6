/-
  DERIVED. GIVEN WITH THE SEED: THE CARDS: each row of YtapikolgpmefbaaGreatDoorRows.lean that lists a variable, with what it lists TIED to the program's text (the seventh form; the later family's looks); each row that meets fmt, with fmt's text TOLD by the authors' own Lean function (tested against real Go, not proved from fmt's source: count such statements apart). THE CARD IS WHAT COUNTS. Prove the row's statement (the work); the ties are given (YtapikolgpmefbaaGreatDoorTie.lean); close each card by the builder's one call (the guide's Derived/Test/ToyasCard.lean, 'card_holds'). Laid BY PROGRAM, IN A SANDBOX (cutbox-door.mjs). By AI agents, Wed Nov 11 2026. No macro, syntax, notation, axiom, sorry.
-/
import Derived.Test.YtapikolgpmefbaaGreatDoorRows
import GoSem.ClaimSeven
namespace Go.Proofs.YtapikolgpmefbaaGreatDoor
namespace Rows

/-- THE TIED CARD OF 'meridianlaw3.LeapPrint'. -/
def leapPrintCard : Claim7 := { stood := { row := leapPrintRow, standIns := [], harness := (true, "30bcb9d798236da49d44ee447eb1aac432d5bae1bbae9b1c671276b697327166"), looks := true }, kinds := [], alts := [], laidByText := true, laidKinds := [.data, .data, .data, .data, .sentinel, .sentinel, .pinned], laidTests := true, laidLooks := .later }
def LeapPrintCardSaid : Prop := Claim7.holds Tryz.pinned (.plain (OpenSpec.ofChange leapPrintSpec)) leapPrintCard

/-- THE TIED CARD OF 'meridianlaw3.LeapLines'. -/
def leapLinesCard : Claim7 := { stood := { row := leapLinesRow, standIns := [], harness := (true, "30bcb9d798236da49d44ee447eb1aac432d5bae1bbae9b1c671276b697327166"), looks := true }, kinds := [], alts := [], laidByText := true, laidKinds := [.data, .data, .data, .data, .sentinel, .sentinel, .pinned], laidTests := true, laidLooks := .later }
def LeapLinesCardSaid : Prop := Claim7.holds Tryz.pinned (.plain (OpenSpec.ofChange leapLinesSpec)) leapLinesCard

/-- THE TIED CARD OF 'meridianlaw3.LeapBad'. -/
def leapBadCard : Claim7 := { stood := { row := leapBadRow, standIns := [], harness := (true, "30bcb9d798236da49d44ee447eb1aac432d5bae1bbae9b1c671276b697327166"), looks := true }, kinds := [], alts := [], laidByText := true, laidKinds := [.data, .data, .data, .data, .sentinel, .sentinel, .pinned], laidTests := true, laidLooks := .later }
def LeapBadCardSaid : Prop := Claim7.holds Tryz.pinned (.plain (OpenSpec.ofChange leapBadSpec)) leapBadCard

/-- THE SECOND FORM's CARD OF 'meridianlaw3.LeapPrint'. -/
def leapPrintUptoCard : Claim7 := { stood := { row := leapPrintUptoRow, standIns := [], harness := (true, "30bcb9d798236da49d44ee447eb1aac432d5bae1bbae9b1c671276b697327166"), looks := true }, kinds := [], alts := [], laidByText := true, laidKinds := [.data, .data, .data, .data, .sentinel, .sentinel, .pinned], laidTests := true, laidLooks := .later }
def LeapPrintUptoCardSaid : Prop := Claim7.holds Tryz.pinned (.plain (OpenSpec.upto leapPrintSpec)) leapPrintUptoCard

/-- THE SECOND FORM's CARD OF 'meridianlaw3.LeapLines'. -/
def leapLinesUptoCard : Claim7 := { stood := { row := leapLinesUptoRow, standIns := [], harness := (true, "30bcb9d798236da49d44ee447eb1aac432d5bae1bbae9b1c671276b697327166"), looks := true }, kinds := [], alts := [], laidByText := true, laidKinds := [.data, .data, .data, .data, .sentinel, .sentinel, .pinned], laidTests := true, laidLooks := .later }
def LeapLinesUptoCardSaid : Prop := Claim7.holds Tryz.pinned (.plain (OpenSpec.upto leapLinesSpec)) leapLinesUptoCard

/-- THE SECOND FORM's CARD OF 'meridianlaw3.LeapBad'. -/
def leapBadUptoCard : Claim7 := { stood := { row := leapBadUptoRow, standIns := [], harness := (true, "30bcb9d798236da49d44ee447eb1aac432d5bae1bbae9b1c671276b697327166"), looks := true }, kinds := [], alts := [], laidByText := true, laidKinds := [.data, .data, .data, .data, .sentinel, .sentinel, .pinned], laidTests := true, laidLooks := .later }
def LeapBadUptoCardSaid : Prop := Claim7.holds Tryz.pinned (.plain (OpenSpec.upto leapBadSpec)) leapBadUptoCard
end Rows
end Go.Proofs.YtapikolgpmefbaaGreatDoor
