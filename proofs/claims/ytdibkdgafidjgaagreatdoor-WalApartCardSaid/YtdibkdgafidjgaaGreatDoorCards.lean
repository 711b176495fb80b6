/-
  DERIVED. GIVEN WITH THE SEED: THE CARDS: each row of YtdibkdgafidjgaaGreatDoorRows.lean that lists a variable, with what it lists TIED to the program's text (the seventh form; the later family's looks); each row that meets fmt, with fmt's text TOLD by the authors' own Lean function (tested against real Go, not proved from fmt's source: count such statements apart). THE CARD IS WHAT COUNTS. Prove the row's statement (the work); the ties are given (YtdibkdgafidjgaaGreatDoorTie.lean); close each card by the builder's one call (the guide's Derived/Test/ToyasCard.lean, 'card_holds'). Laid BY PROGRAM, IN A SANDBOX (cutbox-door.mjs). By AI agents, Wed Nov 11 2026. No macro, syntax, notation, axiom, sorry.
-/
import Derived.Test.YtdibkdgafidjgaaGreatDoorRows
import GoSem.ClaimSeven
namespace Go.Proofs.YtdibkdgafidjgaaGreatDoor
namespace Rows

/-- THE TIED CARD OF 'meridianlaw13.WalKeeps'. -/
def walKeepsCard : Claim7 := { stood := { row := walKeepsRow, standIns := [], harness := (true, "691ef334197ccf9fcebd6ca9e5dbd4e4f0f120b230b212b050804e89d525dec4"), looks := true }, kinds := [], alts := [], laidByText := true, laidKinds := [.data, .data, .data, .data, .pinned], laidTests := true, laidLooks := .later }
def WalKeepsCardSaid : Prop := Claim7.holds Tryz.pinned (.plain (OpenSpec.ofChange walKeepsSpec)) walKeepsCard

/-- THE TIED CARD OF 'meridianlaw13.WalApart'. -/
def walApartCard : Claim7 := { stood := { row := walApartRow, standIns := [], harness := (true, "691ef334197ccf9fcebd6ca9e5dbd4e4f0f120b230b212b050804e89d525dec4"), looks := true }, kinds := [], alts := [], laidByText := true, laidKinds := [.data, .data, .data, .data, .pinned], laidTests := true, laidLooks := .later }
def WalApartCardSaid : Prop := Claim7.holds Tryz.pinned (.plain (OpenSpec.ofChange walApartSpec)) walApartCard

/-- THE TIED CARD OF 'meridianlaw13.WalPlays'. -/
def walPlaysCard : Claim7 := { stood := { row := walPlaysRow, standIns := [], harness := (true, "691ef334197ccf9fcebd6ca9e5dbd4e4f0f120b230b212b050804e89d525dec4"), looks := true }, kinds := [], alts := [], laidByText := true, laidKinds := [.data, .data, .data, .data, .pinned], laidTests := true, laidLooks := .later }
def WalPlaysCardSaid : Prop := Claim7.holds Tryz.pinned (.plain (OpenSpec.ofChange walPlaysSpec)) walPlaysCard

/-- THE TIED CARD OF 'meridianlaw13.WalTwice'. -/
def walTwiceCard : Claim7 := { stood := { row := walTwiceRow, standIns := [], harness := (true, "691ef334197ccf9fcebd6ca9e5dbd4e4f0f120b230b212b050804e89d525dec4"), looks := true }, kinds := [], alts := [], laidByText := true, laidKinds := [.data, .data, .data, .data, .pinned], laidTests := true, laidLooks := .later }
def WalTwiceCardSaid : Prop := Claim7.holds Tryz.pinned (.plain (OpenSpec.ofChange walTwiceSpec)) walTwiceCard

/-- THE TIED CARD OF 'meridianlaw13.WalAnyBytes'. -/
def walAnyBytesCard : Claim7 := { stood := { row := walAnyBytesRow, standIns := [], harness := (true, "691ef334197ccf9fcebd6ca9e5dbd4e4f0f120b230b212b050804e89d525dec4"), looks := true }, kinds := [], alts := [], laidByText := true, laidKinds := [.data, .data, .data, .data, .pinned], laidTests := true, laidLooks := .later }
def WalAnyBytesCardSaid : Prop := Claim7.holds Tryz.pinned (.plain (OpenSpec.ofChange walAnyBytesSpec)) walAnyBytesCard

/-- THE TIED CARD OF 'meridianlaw13.WalOfNothing'. -/
def walOfNothingCard : Claim7 := { stood := { row := walOfNothingRow, standIns := [], harness := (true, "691ef334197ccf9fcebd6ca9e5dbd4e4f0f120b230b212b050804e89d525dec4"), looks := true }, kinds := [], alts := [], laidByText := true, laidKinds := [.data, .data, .data, .data, .pinned], laidTests := true, laidLooks := .later }
def WalOfNothingCardSaid : Prop := Claim7.holds Tryz.pinned (.plain (OpenSpec.ofChange walOfNothingSpec)) walOfNothingCard

/-- THE TIED CARD OF 'meridianlaw13.WalMany'. -/
def walManyCard : Claim7 := { stood := { row := walManyRow, standIns := [], harness := (true, "691ef334197ccf9fcebd6ca9e5dbd4e4f0f120b230b212b050804e89d525dec4"), looks := true }, kinds := [], alts := [], laidByText := true, laidKinds := [.data, .data, .data, .data, .pinned], laidTests := true, laidLooks := .later }
def WalManyCardSaid : Prop := Claim7.holds Tryz.pinned (.plain (OpenSpec.ofChange walManySpec)) walManyCard

/-- THE SECOND FORM's CARD OF 'meridianlaw13.WalKeeps'. -/
def walKeepsUptoCard : Claim7 := { stood := { row := walKeepsUptoRow, standIns := [], harness := (true, "691ef334197ccf9fcebd6ca9e5dbd4e4f0f120b230b212b050804e89d525dec4"), looks := true }, kinds := [], alts := [], laidByText := true, laidKinds := [.data, .data, .data, .data, .pinned], laidTests := true, laidLooks := .later }
def WalKeepsUptoCardSaid : Prop := Claim7.holds Tryz.pinned (.plain (OpenSpec.upto walKeepsSpec)) walKeepsUptoCard

/-- THE SECOND FORM's CARD OF 'meridianlaw13.WalApart'. -/
def walApartUptoCard : Claim7 := { stood := { row := walApartUptoRow, standIns := [], harness := (true, "691ef334197ccf9fcebd6ca9e5dbd4e4f0f120b230b212b050804e89d525dec4"), looks := true }, kinds := [], alts := [], laidByText := true, laidKinds := [.data, .data, .data, .data, .pinned], laidTests := true, laidLooks := .later }
def WalApartUptoCardSaid : Prop := Claim7.holds Tryz.pinned (.plain (OpenSpec.upto walApartSpec)) walApartUptoCard

/-- THE SECOND FORM's CARD OF 'meridianlaw13.WalPlays'. -/
def walPlaysUptoCard : Claim7 := { stood := { row := walPlaysUptoRow, standIns := [], harness := (true, "691ef334197ccf9fcebd6ca9e5dbd4e4f0f120b230b212b050804e89d525dec4"), looks := true }, kinds := [], alts := [], laidByText := true, laidKinds := [.data, .data, .data, .data, .pinned], laidTests := true, laidLooks := .later }
def WalPlaysUptoCardSaid : Prop := Claim7.holds Tryz.pinned (.plain (OpenSpec.upto walPlaysSpec)) walPlaysUptoCard

/-- THE SECOND FORM's CARD OF 'meridianlaw13.WalTwice'. -/
def walTwiceUptoCard : Claim7 := { stood := { row := walTwiceUptoRow, standIns := [], harness := (true, "691ef334197ccf9fcebd6ca9e5dbd4e4f0f120b230b212b050804e89d525dec4"), looks := true }, kinds := [], alts := [], laidByText := true, laidKinds := [.data, .data, .data, .data, .pinned], laidTests := true, laidLooks := .later }
def WalTwiceUptoCardSaid : Prop := Claim7.holds Tryz.pinned (.plain (OpenSpec.upto walTwiceSpec)) walTwiceUptoCard

/-- THE SECOND FORM's CARD OF 'meridianlaw13.WalAnyBytes'. -/
def walAnyBytesUptoCard : Claim7 := { stood := { row := walAnyBytesUptoRow, standIns := [], harness := (true, "691ef334197ccf9fcebd6ca9e5dbd4e4f0f120b230b212b050804e89d525dec4"), looks := true }, kinds := [], alts := [], laidByText := true, laidKinds := [.data, .data, .data, .data, .pinned], laidTests := true, laidLooks := .later }
def WalAnyBytesUptoCardSaid : Prop := Claim7.holds Tryz.pinned (.plain (OpenSpec.upto walAnyBytesSpec)) walAnyBytesUptoCard

/-- THE SECOND FORM's CARD OF 'meridianlaw13.WalOfNothing'. -/
def walOfNothingUptoCard : Claim7 := { stood := { row := walOfNothingUptoRow, standIns := [], harness := (true, "691ef334197ccf9fcebd6ca9e5dbd4e4f0f120b230b212b050804e89d525dec4"), looks := true }, kinds := [], alts := [], laidByText := true, laidKinds := [.data, .data, .data, .data, .pinned], laidTests := true, laidLooks := .later }
def WalOfNothingUptoCardSaid : Prop := Claim7.holds Tryz.pinned (.plain (OpenSpec.upto walOfNothingSpec)) walOfNothingUptoCard

/-- THE SECOND FORM's CARD OF 'meridianlaw13.WalMany'. -/
def walManyUptoCard : Claim7 := { stood := { row := walManyUptoRow, standIns := [], harness := (true, "691ef334197ccf9fcebd6ca9e5dbd4e4f0f120b230b212b050804e89d525dec4"), looks := true }, kinds := [], alts := [], laidByText := true, laidKinds := [.data, .data, .data, .data, .pinned], laidTests := true, laidLooks := .later }
def WalManyUptoCardSaid : Prop := Claim7.holds Tryz.pinned (.plain (OpenSpec.upto walManySpec)) walManyUptoCard
end Rows
end Go.Proofs.YtdibkdgafidjgaaGreatDoor
