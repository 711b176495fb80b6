/-
  DERIVED. GIVEN WITH THE SEED: THE CARDS: each row of YtgnkmjeoaoongaaGreatDoorRows.lean that lists a variable, with what it lists TIED to the program's text (the seventh form; the later family's looks); each row that meets fmt, with fmt's text TOLD by the authors' own Lean function (tested against real Go, not proved from fmt's source: count such statements apart). THE CARD IS WHAT COUNTS. Prove the row's statement (the work); the ties are given (YtgnkmjeoaoongaaGreatDoorTie.lean); close each card by the builder's one call (the guide's Derived/Test/ToyasCard.lean, 'card_holds'). Laid BY PROGRAM, IN A SANDBOX (cutbox-door.mjs). By AI agents, Wed Nov 11 2026. No macro, syntax, notation, axiom, sorry.
-/
import Derived.Test.YtgnkmjeoaoongaaGreatDoorRows
import GoSem.ClaimSeven
namespace Go.Proofs.YtgnkmjeoaoongaaGreatDoor
namespace Rows

/-- THE TIED CARD OF 'meridianlaw16.StoreOrder'. -/
def storeOrderCard : Claim7 := { stood := { row := storeOrderRow, standIns := [], harness := (true, "799af7e8b9fb1c5e93c3c4869e2ba8d04d7201ffac44eae06b41942ed7e7b957"), looks := true }, kinds := [], alts := [], laidByText := true, laidKinds := [.data, .data, .data, .data, .pinned], laidTests := true, laidLooks := .later }
def StoreOrderCardSaid : Prop := Claim7.holds Tryz.pinned (.plain (OpenSpec.ofChange storeOrderSpec)) storeOrderCard

/-- THE TIED CARD OF 'meridianlaw16.StoreReads'. -/
def storeReadsCard : Claim7 := { stood := { row := storeReadsRow, standIns := [], harness := (true, "799af7e8b9fb1c5e93c3c4869e2ba8d04d7201ffac44eae06b41942ed7e7b957"), looks := true }, kinds := [], alts := [], laidByText := true, laidKinds := [.data, .data, .data, .data, .pinned], laidTests := true, laidLooks := .later }
def StoreReadsCardSaid : Prop := Claim7.holds Tryz.pinned (.plain (OpenSpec.ofChange storeReadsSpec)) storeReadsCard

/-- THE TIED CARD OF 'meridianlaw16.StoreScans'. -/
def storeScansCard : Claim7 := { stood := { row := storeScansRow, standIns := [], harness := (true, "799af7e8b9fb1c5e93c3c4869e2ba8d04d7201ffac44eae06b41942ed7e7b957"), looks := true }, kinds := [], alts := [], laidByText := true, laidKinds := [.data, .data, .data, .data, .pinned], laidTests := true, laidLooks := .later }
def StoreScansCardSaid : Prop := Claim7.holds Tryz.pinned (.plain (OpenSpec.ofChange storeScansSpec)) storeScansCard

/-- THE TIED CARD OF 'meridianlaw16.StoreForgets'. -/
def storeForgetsCard : Claim7 := { stood := { row := storeForgetsRow, standIns := [], harness := (true, "799af7e8b9fb1c5e93c3c4869e2ba8d04d7201ffac44eae06b41942ed7e7b957"), looks := true }, kinds := [], alts := [], laidByText := true, laidKinds := [.data, .data, .data, .data, .pinned], laidTests := true, laidLooks := .later }
def StoreForgetsCardSaid : Prop := Claim7.holds Tryz.pinned (.plain (OpenSpec.ofChange storeForgetsSpec)) storeForgetsCard

/-- THE TIED CARD OF 'meridianlaw16.StoreDead'. -/
def storeDeadCard : Claim7 := { stood := { row := storeDeadRow, standIns := [], harness := (true, "799af7e8b9fb1c5e93c3c4869e2ba8d04d7201ffac44eae06b41942ed7e7b957"), looks := true }, kinds := [], alts := [], laidByText := true, laidKinds := [.data, .data, .data, .data, .pinned], laidTests := true, laidLooks := .later }
def StoreDeadCardSaid : Prop := Claim7.holds Tryz.pinned (.plain (OpenSpec.ofChange storeDeadSpec)) storeDeadCard

/-- THE TIED CARD OF 'meridianlaw16.StoreCompacts'. -/
def storeCompactsCard : Claim7 := { stood := { row := storeCompactsRow, standIns := [], harness := (true, "799af7e8b9fb1c5e93c3c4869e2ba8d04d7201ffac44eae06b41942ed7e7b957"), looks := true }, kinds := [], alts := [], laidByText := true, laidKinds := [.data, .data, .data, .data, .pinned], laidTests := true, laidLooks := .later }
def StoreCompactsCardSaid : Prop := Claim7.holds Tryz.pinned (.plain (OpenSpec.ofChange storeCompactsSpec)) storeCompactsCard

/-- THE TIED CARD OF 'meridianlaw16.StoreOfNothing'. -/
def storeOfNothingCard : Claim7 := { stood := { row := storeOfNothingRow, standIns := [], harness := (true, "799af7e8b9fb1c5e93c3c4869e2ba8d04d7201ffac44eae06b41942ed7e7b957"), looks := true }, kinds := [], alts := [], laidByText := true, laidKinds := [.data, .data, .data, .data, .pinned], laidTests := true, laidLooks := .later }
def StoreOfNothingCardSaid : Prop := Claim7.holds Tryz.pinned (.plain (OpenSpec.ofChange storeOfNothingSpec)) storeOfNothingCard

/-- THE TIED CARD OF 'meridianlaw16.StoreTwice'. -/
def storeTwiceCard : Claim7 := { stood := { row := storeTwiceRow, standIns := [], harness := (true, "799af7e8b9fb1c5e93c3c4869e2ba8d04d7201ffac44eae06b41942ed7e7b957"), looks := true }, kinds := [], alts := [], laidByText := true, laidKinds := [.data, .data, .data, .data, .pinned], laidTests := true, laidLooks := .later }
def StoreTwiceCardSaid : Prop := Claim7.holds Tryz.pinned (.plain (OpenSpec.ofChange storeTwiceSpec)) storeTwiceCard

/-- THE TIED CARD OF 'meridianlaw16.StorePlays'. -/
def storePlaysCard : Claim7 := { stood := { row := storePlaysRow, standIns := [], harness := (true, "799af7e8b9fb1c5e93c3c4869e2ba8d04d7201ffac44eae06b41942ed7e7b957"), looks := true }, kinds := [], alts := [], laidByText := true, laidKinds := [.data, .data, .data, .data, .pinned], laidTests := true, laidLooks := .later }
def StorePlaysCardSaid : Prop := Claim7.holds Tryz.pinned (.plain (OpenSpec.ofChange storePlaysSpec)) storePlaysCard

/-- THE TIED CARD OF 'meridianlaw16.StoreKeeps'. -/
def storeKeepsCard : Claim7 := { stood := { row := storeKeepsRow, standIns := [], harness := (true, "799af7e8b9fb1c5e93c3c4869e2ba8d04d7201ffac44eae06b41942ed7e7b957"), looks := true }, kinds := [], alts := [], laidByText := true, laidKinds := [.data, .data, .data, .data, .pinned], laidTests := true, laidLooks := .later }
def StoreKeepsCardSaid : Prop := Claim7.holds Tryz.pinned (.plain (OpenSpec.ofChange storeKeepsSpec)) storeKeepsCard

/-- THE SECOND FORM's CARD OF 'meridianlaw16.StoreOrder'. -/
def storeOrderUptoCard : Claim7 := { stood := { row := storeOrderUptoRow, standIns := [], harness := (true, "799af7e8b9fb1c5e93c3c4869e2ba8d04d7201ffac44eae06b41942ed7e7b957"), looks := true }, kinds := [], alts := [], laidByText := true, laidKinds := [.data, .data, .data, .data, .pinned], laidTests := true, laidLooks := .later }
def StoreOrderUptoCardSaid : Prop := Claim7.holds Tryz.pinned (.plain (OpenSpec.upto storeOrderSpec)) storeOrderUptoCard

/-- THE SECOND FORM's CARD OF 'meridianlaw16.StoreReads'. -/
def storeReadsUptoCard : Claim7 := { stood := { row := storeReadsUptoRow, standIns := [], harness := (true, "799af7e8b9fb1c5e93c3c4869e2ba8d04d7201ffac44eae06b41942ed7e7b957"), looks := true }, kinds := [], alts := [], laidByText := true, laidKinds := [.data, .data, .data, .data, .pinned], laidTests := true, laidLooks := .later }
def StoreReadsUptoCardSaid : Prop := Claim7.holds Tryz.pinned (.plain (OpenSpec.upto storeReadsSpec)) storeReadsUptoCard

/-- THE SECOND FORM's CARD OF 'meridianlaw16.StoreScans'. -/
def storeScansUptoCard : Claim7 := { stood := { row := storeScansUptoRow, standIns := [], harness := (true, "799af7e8b9fb1c5e93c3c4869e2ba8d04d7201ffac44eae06b41942ed7e7b957"), looks := true }, kinds := [], alts := [], laidByText := true, laidKinds := [.data, .data, .data, .data, .pinned], laidTests := true, laidLooks := .later }
def StoreScansUptoCardSaid : Prop := Claim7.holds Tryz.pinned (.plain (OpenSpec.upto storeScansSpec)) storeScansUptoCard

/-- THE SECOND FORM's CARD OF 'meridianlaw16.StoreForgets'. -/
def storeForgetsUptoCard : Claim7 := { stood := { row := storeForgetsUptoRow, standIns := [], harness := (true, "799af7e8b9fb1c5e93c3c4869e2ba8d04d7201ffac44eae06b41942ed7e7b957"), looks := true }, kinds := [], alts := [], laidByText := true, laidKinds := [.data, .data, .data, .data, .pinned], laidTests := true, laidLooks := .later }
def StoreForgetsUptoCardSaid : Prop := Claim7.holds Tryz.pinned (.plain (OpenSpec.upto storeForgetsSpec)) storeForgetsUptoCard

/-- THE SECOND FORM's CARD OF 'meridianlaw16.StoreDead'. -/
def storeDeadUptoCard : Claim7 := { stood := { row := storeDeadUptoRow, standIns := [], harness := (true, "799af7e8b9fb1c5e93c3c4869e2ba8d04d7201ffac44eae06b41942ed7e7b957"), looks := true }, kinds := [], alts := [], laidByText := true, laidKinds := [.data, .data, .data, .data, .pinned], laidTests := true, laidLooks := .later }
def StoreDeadUptoCardSaid : Prop := Claim7.holds Tryz.pinned (.plain (OpenSpec.upto storeDeadSpec)) storeDeadUptoCard

/-- THE SECOND FORM's CARD OF 'meridianlaw16.StoreCompacts'. -/
def storeCompactsUptoCard : Claim7 := { stood := { row := storeCompactsUptoRow, standIns := [], harness := (true, "799af7e8b9fb1c5e93c3c4869e2ba8d04d7201ffac44eae06b41942ed7e7b957"), looks := true }, kinds := [], alts := [], laidByText := true, laidKinds := [.data, .data, .data, .data, .pinned], laidTests := true, laidLooks := .later }
def StoreCompactsUptoCardSaid : Prop := Claim7.holds Tryz.pinned (.plain (OpenSpec.upto storeCompactsSpec)) storeCompactsUptoCard

/-- THE SECOND FORM's CARD OF 'meridianlaw16.StoreOfNothing'. -/
def storeOfNothingUptoCard : Claim7 := { stood := { row := storeOfNothingUptoRow, standIns := [], harness := (true, "799af7e8b9fb1c5e93c3c4869e2ba8d04d7201ffac44eae06b41942ed7e7b957"), looks := true }, kinds := [], alts := [], laidByText := true, laidKinds := [.data, .data, .data, .data, .pinned], laidTests := true, laidLooks := .later }
def StoreOfNothingUptoCardSaid : Prop := Claim7.holds Tryz.pinned (.plain (OpenSpec.upto storeOfNothingSpec)) storeOfNothingUptoCard

/-- THE SECOND FORM's CARD OF 'meridianlaw16.StoreTwice'. -/
def storeTwiceUptoCard : Claim7 := { stood := { row := storeTwiceUptoRow, standIns := [], harness := (true, "799af7e8b9fb1c5e93c3c4869e2ba8d04d7201ffac44eae06b41942ed7e7b957"), looks := true }, kinds := [], alts := [], laidByText := true, laidKinds := [.data, .data, .data, .data, .pinned], laidTests := true, laidLooks := .later }
def StoreTwiceUptoCardSaid : Prop := Claim7.holds Tryz.pinned (.plain (OpenSpec.upto storeTwiceSpec)) storeTwiceUptoCard

/-- THE SECOND FORM's CARD OF 'meridianlaw16.StorePlays'. -/
def storePlaysUptoCard : Claim7 := { stood := { row := storePlaysUptoRow, standIns := [], harness := (true, "799af7e8b9fb1c5e93c3c4869e2ba8d04d7201ffac44eae06b41942ed7e7b957"), looks := true }, kinds := [], alts := [], laidByText := true, laidKinds := [.data, .data, .data, .data, .pinned], laidTests := true, laidLooks := .later }
def StorePlaysUptoCardSaid : Prop := Claim7.holds Tryz.pinned (.plain (OpenSpec.upto storePlaysSpec)) storePlaysUptoCard

/-- THE SECOND FORM's CARD OF 'meridianlaw16.StoreKeeps'. -/
def storeKeepsUptoCard : Claim7 := { stood := { row := storeKeepsUptoRow, standIns := [], harness := (true, "799af7e8b9fb1c5e93c3c4869e2ba8d04d7201ffac44eae06b41942ed7e7b957"), looks := true }, kinds := [], alts := [], laidByText := true, laidKinds := [.data, .data, .data, .data, .pinned], laidTests := true, laidLooks := .later }
def StoreKeepsUptoCardSaid : Prop := Claim7.holds Tryz.pinned (.plain (OpenSpec.upto storeKeepsSpec)) storeKeepsUptoCard
end Rows
end Go.Proofs.YtgnkmjeoaoongaaGreatDoor
