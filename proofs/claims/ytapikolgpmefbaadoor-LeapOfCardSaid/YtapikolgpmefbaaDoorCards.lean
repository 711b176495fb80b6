/-
  DERIVED. GIVEN WITH THE SEED: THE CARDS: each row of YtapikolgpmefbaaDoorRows.lean that lists a variable, with what it lists TIED to the program's text (the seventh form; the later family's looks); each row that meets fmt, with fmt's text TOLD by the authors' own Lean function (tested against real Go, not proved from fmt's source: count such statements apart). THE CARD IS WHAT COUNTS. Prove the row's statement (the work); the ties are given (YtapikolgpmefbaaDoorTie.lean); close each card by the builder's one call (the guide's Derived/Test/ToyasCard.lean, 'card_holds'). Laid BY PROGRAM, IN A SANDBOX (cutbox-door.mjs). By AI agents, Wed Nov 11 2026. No macro, syntax, notation, axiom, sorry.
-/
import Derived.Test.YtapikolgpmefbaaDoorRows
import GoSem.ClaimSeven
namespace Go.Proofs.YtapikolgpmefbaaDoor
namespace Rows

/-- THE TIED CARD OF 'meridianlaw3.LeapOffsets'. -/
def leapOffsetsCard : Claim7 := { stood := { row := leapOffsetsRow, standIns := [], harness := (true, "d8e1fd05014257fa13b0b8ed72d8a22e59b5cba69921abd6d9acebd62e4e42bf"), looks := true }, kinds := [], alts := [], laidByText := true, laidKinds := [.data, .data, .data, .data, .sentinel, .sentinel, .pinned], laidTests := true, laidLooks := .later }
def LeapOffsetsCardSaid : Prop := Claim7.holds Tryd.pinned (.plain (OpenSpec.ofChange leapOffsetsSpec)) leapOffsetsCard

/-- THE TIED CARD OF 'meridianlaw3.LeapSums'. -/
def leapSumsCard : Claim7 := { stood := { row := leapSumsRow, standIns := [], harness := (true, "d8e1fd05014257fa13b0b8ed72d8a22e59b5cba69921abd6d9acebd62e4e42bf"), looks := true }, kinds := [], alts := [], laidByText := true, laidKinds := [.data, .data, .data, .data, .sentinel, .sentinel, .pinned], laidTests := true, laidLooks := .later }
def LeapSumsCardSaid : Prop := Claim7.holds Tryd.pinned (.plain (OpenSpec.ofChange leapSumsSpec)) leapSumsCard

/-- THE TIED CARD OF 'meridianlaw3.LeapSteps'. -/
def leapStepsCard : Claim7 := { stood := { row := leapStepsRow, standIns := [], harness := (true, "d8e1fd05014257fa13b0b8ed72d8a22e59b5cba69921abd6d9acebd62e4e42bf"), looks := true }, kinds := [], alts := [], laidByText := true, laidKinds := [.data, .data, .data, .data, .sentinel, .sentinel, .pinned], laidTests := true, laidLooks := .later }
def LeapStepsCardSaid : Prop := Claim7.holds Tryd.pinned (.plain (OpenSpec.ofChange leapStepsSpec)) leapStepsCard

/-- THE TIED CARD OF 'meridianlaw3.LeapEnds'. -/
def leapEndsCard : Claim7 := { stood := { row := leapEndsRow, standIns := [], harness := (true, "d8e1fd05014257fa13b0b8ed72d8a22e59b5cba69921abd6d9acebd62e4e42bf"), looks := true }, kinds := [], alts := [], laidByText := true, laidKinds := [.data, .data, .data, .data, .sentinel, .sentinel, .pinned], laidTests := true, laidLooks := .later }
def LeapEndsCardSaid : Prop := Claim7.holds Tryd.pinned (.plain (OpenSpec.ofChange leapEndsSpec)) leapEndsCard

/-- THE TIED CARD OF 'meridianlaw3.LeapOf'. -/
def leapOfCard : Claim7 := { stood := { row := leapOfRow, standIns := [], harness := (true, "d8e1fd05014257fa13b0b8ed72d8a22e59b5cba69921abd6d9acebd62e4e42bf"), looks := true }, kinds := [], alts := [], laidByText := true, laidKinds := [.data, .data, .data, .data, .sentinel, .sentinel, .pinned], laidTests := true, laidLooks := .later }
def LeapOfCardSaid : Prop := Claim7.holds Tryd.pinned (.plain (OpenSpec.ofChange leapOfSpec)) leapOfCard

/-- THE SECOND FORM's CARD OF 'meridianlaw3.LeapOffsets'. -/
def leapOffsetsUptoCard : Claim7 := { stood := { row := leapOffsetsUptoRow, standIns := [], harness := (true, "d8e1fd05014257fa13b0b8ed72d8a22e59b5cba69921abd6d9acebd62e4e42bf"), looks := true }, kinds := [], alts := [], laidByText := true, laidKinds := [.data, .data, .data, .data, .sentinel, .sentinel, .pinned], laidTests := true, laidLooks := .later }
def LeapOffsetsUptoCardSaid : Prop := Claim7.holds Tryd.pinned (.plain (OpenSpec.upto leapOffsetsSpec)) leapOffsetsUptoCard

/-- THE SECOND FORM's CARD OF 'meridianlaw3.LeapSums'. -/
def leapSumsUptoCard : Claim7 := { stood := { row := leapSumsUptoRow, standIns := [], harness := (true, "d8e1fd05014257fa13b0b8ed72d8a22e59b5cba69921abd6d9acebd62e4e42bf"), looks := true }, kinds := [], alts := [], laidByText := true, laidKinds := [.data, .data, .data, .data, .sentinel, .sentinel, .pinned], laidTests := true, laidLooks := .later }
def LeapSumsUptoCardSaid : Prop := Claim7.holds Tryd.pinned (.plain (OpenSpec.upto leapSumsSpec)) leapSumsUptoCard

/-- THE SECOND FORM's CARD OF 'meridianlaw3.LeapSteps'. -/
def leapStepsUptoCard : Claim7 := { stood := { row := leapStepsUptoRow, standIns := [], harness := (true, "d8e1fd05014257fa13b0b8ed72d8a22e59b5cba69921abd6d9acebd62e4e42bf"), looks := true }, kinds := [], alts := [], laidByText := true, laidKinds := [.data, .data, .data, .data, .sentinel, .sentinel, .pinned], laidTests := true, laidLooks := .later }
def LeapStepsUptoCardSaid : Prop := Claim7.holds Tryd.pinned (.plain (OpenSpec.upto leapStepsSpec)) leapStepsUptoCard

/-- THE SECOND FORM's CARD OF 'meridianlaw3.LeapEnds'. -/
def leapEndsUptoCard : Claim7 := { stood := { row := leapEndsUptoRow, standIns := [], harness := (true, "d8e1fd05014257fa13b0b8ed72d8a22e59b5cba69921abd6d9acebd62e4e42bf"), looks := true }, kinds := [], alts := [], laidByText := true, laidKinds := [.data, .data, .data, .data, .sentinel, .sentinel, .pinned], laidTests := true, laidLooks := .later }
def LeapEndsUptoCardSaid : Prop := Claim7.holds Tryd.pinned (.plain (OpenSpec.upto leapEndsSpec)) leapEndsUptoCard

/-- THE SECOND FORM's CARD OF 'meridianlaw3.LeapOf'. -/
def leapOfUptoCard : Claim7 := { stood := { row := leapOfUptoRow, standIns := [], harness := (true, "d8e1fd05014257fa13b0b8ed72d8a22e59b5cba69921abd6d9acebd62e4e42bf"), looks := true }, kinds := [], alts := [], laidByText := true, laidKinds := [.data, .data, .data, .data, .sentinel, .sentinel, .pinned], laidTests := true, laidLooks := .later }
def LeapOfUptoCardSaid : Prop := Claim7.holds Tryd.pinned (.plain (OpenSpec.upto leapOfSpec)) leapOfUptoCard
end Rows
end Go.Proofs.YtapikolgpmefbaaDoor
