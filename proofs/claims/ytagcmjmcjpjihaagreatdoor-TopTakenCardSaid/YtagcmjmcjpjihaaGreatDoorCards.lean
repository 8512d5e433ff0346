/-
  DERIVED. GIVEN WITH THE SEED: THE CARDS: each row of YtagcmjmcjpjihaaGreatDoorRows.lean that lists a variable, with what it lists TIED to the program's text (the seventh form; the later family's looks); each row that meets fmt, with fmt's text TOLD by the authors' own Lean function (tested against real Go, not proved from fmt's source: count such statements apart). THE CARD IS WHAT COUNTS. Prove the row's statement (the work); the ties are given (YtagcmjmcjpjihaaGreatDoorTie.lean); close each card by the builder's one call (the guide's Derived/Test/ToyasCard.lean, 'card_holds'). Laid BY PROGRAM, IN A SANDBOX (cutbox-door.mjs). By AI agents, Wed Nov 11 2026. No macro, syntax, notation, axiom, sorry.
-/
import Derived.Test.YtagcmjmcjpjihaaGreatDoorRows
import GoSem.ClaimSeven
namespace Go.Proofs.YtagcmjmcjpjihaaGreatDoor
namespace Rows

/-- THE TIED CARD OF 'haywainlaw.EngineSays'. -/
def engineSaysCard : Claim7 := { stood := { row := engineSaysRow, standIns := [], harness := (true, "4a548a5d3d865c623c3d7ee30dc28921563fafcde956ef2fc92a08077a1b205e"), looks := true }, kinds := [], alts := [], laidByText := true, laidKinds := [.data, .data, .data, .data, .sentinel, .sentinel, .pinned], laidTests := true, laidLooks := .later }
def EngineSaysCardSaid : Prop := Claim7.holds Tryz.pinned (.plain (OpenSpec.ofChange engineSaysSpec)) engineSaysCard

/-- THE TIED CARD OF 'haywainlaw.ConsoleSays'. -/
def consoleSaysCard : Claim7 := { stood := { row := consoleSaysRow, standIns := [], harness := (true, "4a548a5d3d865c623c3d7ee30dc28921563fafcde956ef2fc92a08077a1b205e"), looks := true }, kinds := [], alts := [], laidByText := true, laidKinds := [.data, .data, .data, .data, .sentinel, .sentinel, .pinned], laidTests := true, laidLooks := .later }
def ConsoleSaysCardSaid : Prop := Claim7.holds Tryz.pinned (.plain (OpenSpec.ofChange consoleSaysSpec)) consoleSaysCard

/-- THE TIED CARD OF 'haywaintop.TopCount'. -/
def topCountCard : Claim7 := { stood := { row := topCountRow, standIns := [], harness := (true, "4a548a5d3d865c623c3d7ee30dc28921563fafcde956ef2fc92a08077a1b205e"), looks := true }, kinds := [], alts := [], laidByText := true, laidKinds := [.data, .data, .data, .sentinel, .sentinel], laidTests := true, laidLooks := .later }
def TopCountCardSaid : Prop := Claim7.holds Tryz.pinned (.plain (OpenSpec.ofChange topCountSpec)) topCountCard

/-- THE TIED CARD OF 'haywaintop.TopTaken'. -/
def topTakenCard : Claim7 := { stood := { row := topTakenRow, standIns := [], harness := (true, "4a548a5d3d865c623c3d7ee30dc28921563fafcde956ef2fc92a08077a1b205e"), looks := true }, kinds := [], alts := [], laidByText := true, laidKinds := [.data, .data, .data, .data, .sentinel, .sentinel, .pinned], laidTests := true, laidLooks := .later }
def TopTakenCardSaid : Prop := Claim7.holds Tryz.pinned (.plain (OpenSpec.ofChange topTakenSpec)) topTakenCard

/-- THE TIED CARD OF 'haywaintop.TopAlone'. -/
def topAloneCard : Claim7 := { stood := { row := topAloneRow, standIns := [], harness := (true, "4a548a5d3d865c623c3d7ee30dc28921563fafcde956ef2fc92a08077a1b205e"), looks := true }, kinds := [], alts := [], laidByText := true, laidKinds := [.data, .data, .data, .data, .sentinel, .sentinel, .pinned], laidTests := true, laidLooks := .later }
def TopAloneCardSaid : Prop := Claim7.holds Tryz.pinned (.plain (OpenSpec.ofChange topAloneSpec)) topAloneCard

/-- THE TIED CARD OF 'haywaintop.TopReader'. -/
def topReaderCard : Claim7 := { stood := { row := topReaderRow, standIns := [], harness := (true, "4a548a5d3d865c623c3d7ee30dc28921563fafcde956ef2fc92a08077a1b205e"), looks := true }, kinds := [], alts := [], laidByText := true, laidKinds := [.data, .data, .data, .data, .sentinel, .sentinel, .pinned], laidTests := true, laidLooks := .later }
def TopReaderCardSaid : Prop := Claim7.holds Tryz.pinned (.plain (OpenSpec.ofChange topReaderSpec)) topReaderCard

/-- THE TIED CARD OF 'haywaintop.TopBlind'. -/
def topBlindCard : Claim7 := { stood := { row := topBlindRow, standIns := [], harness := (true, "4a548a5d3d865c623c3d7ee30dc28921563fafcde956ef2fc92a08077a1b205e"), looks := true }, kinds := [], alts := [], laidByText := true, laidKinds := [.data, .data, .data, .data, .sentinel, .sentinel, .pinned], laidTests := true, laidLooks := .later }
def TopBlindCardSaid : Prop := Claim7.holds Tryz.pinned (.plain (OpenSpec.ofChange topBlindSpec)) topBlindCard

/-- THE TIED CARD OF 'haywaintop.TopSerial'. -/
def topSerialCard : Claim7 := { stood := { row := topSerialRow, standIns := [], harness := (true, "4a548a5d3d865c623c3d7ee30dc28921563fafcde956ef2fc92a08077a1b205e"), looks := true }, kinds := [], alts := [], laidByText := true, laidKinds := [.data, .data, .data, .data, .sentinel, .sentinel, .pinned], laidTests := true, laidLooks := .later }
def TopSerialCardSaid : Prop := Claim7.holds Tryz.pinned (.plain (OpenSpec.ofChange topSerialSpec)) topSerialCard

/-- THE TIED CARD OF 'haywaintop.TopAbort'. -/
def topAbortCard : Claim7 := { stood := { row := topAbortRow, standIns := [], harness := (true, "4a548a5d3d865c623c3d7ee30dc28921563fafcde956ef2fc92a08077a1b205e"), looks := true }, kinds := [], alts := [], laidByText := true, laidKinds := [.data, .data, .data, .data, .sentinel, .sentinel, .pinned], laidTests := true, laidLooks := .later }
def TopAbortCardSaid : Prop := Claim7.holds Tryz.pinned (.plain (OpenSpec.ofChange topAbortSpec)) topAbortCard

/-- THE TIED CARD OF 'haywaintop.TopOpen'. -/
def topOpenCard : Claim7 := { stood := { row := topOpenRow, standIns := [], harness := (true, "4a548a5d3d865c623c3d7ee30dc28921563fafcde956ef2fc92a08077a1b205e"), looks := true }, kinds := [], alts := [], laidByText := true, laidKinds := [.data, .data, .data, .data, .sentinel, .sentinel, .pinned], laidTests := true, laidLooks := .later }
def TopOpenCardSaid : Prop := Claim7.holds Tryz.pinned (.plain (OpenSpec.ofChange topOpenSpec)) topOpenCard

/-- THE TIED CARD OF 'haywaintop.TopKept'. -/
def topKeptCard : Claim7 := { stood := { row := topKeptRow, standIns := [], harness := (true, "4a548a5d3d865c623c3d7ee30dc28921563fafcde956ef2fc92a08077a1b205e"), looks := true }, kinds := [], alts := [], laidByText := true, laidKinds := [.data, .data, .data, .data, .sentinel, .sentinel, .pinned], laidTests := true, laidLooks := .later }
def TopKeptCardSaid : Prop := Claim7.holds Tryz.pinned (.plain (OpenSpec.ofChange topKeptSpec)) topKeptCard

/-- THE TIED CARD OF 'haywaintop.TopFall'. -/
def topFallCard : Claim7 := { stood := { row := topFallRow, standIns := [], harness := (true, "4a548a5d3d865c623c3d7ee30dc28921563fafcde956ef2fc92a08077a1b205e"), looks := true }, kinds := [], alts := [], laidByText := true, laidKinds := [.data, .data, .data, .data, .sentinel, .sentinel, .pinned], laidTests := true, laidLooks := .later }
def TopFallCardSaid : Prop := Claim7.holds Tryz.pinned (.plain (OpenSpec.ofChange topFallSpec)) topFallCard

/-- THE SECOND FORM's CARD OF 'haywainlaw.EngineSays'. -/
def engineSaysUptoCard : Claim7 := { stood := { row := engineSaysUptoRow, standIns := [], harness := (true, "4a548a5d3d865c623c3d7ee30dc28921563fafcde956ef2fc92a08077a1b205e"), looks := true }, kinds := [], alts := [], laidByText := true, laidKinds := [.data, .data, .data, .data, .sentinel, .sentinel, .pinned], laidTests := true, laidLooks := .later }
def EngineSaysUptoCardSaid : Prop := Claim7.holds Tryz.pinned (.plain (OpenSpec.upto engineSaysSpec)) engineSaysUptoCard

/-- THE SECOND FORM's CARD OF 'haywainlaw.ConsoleSays'. -/
def consoleSaysUptoCard : Claim7 := { stood := { row := consoleSaysUptoRow, standIns := [], harness := (true, "4a548a5d3d865c623c3d7ee30dc28921563fafcde956ef2fc92a08077a1b205e"), looks := true }, kinds := [], alts := [], laidByText := true, laidKinds := [.data, .data, .data, .data, .sentinel, .sentinel, .pinned], laidTests := true, laidLooks := .later }
def ConsoleSaysUptoCardSaid : Prop := Claim7.holds Tryz.pinned (.plain (OpenSpec.upto consoleSaysSpec)) consoleSaysUptoCard

/-- THE SECOND FORM's CARD OF 'haywaintop.TopCount'. -/
def topCountUptoCard : Claim7 := { stood := { row := topCountUptoRow, standIns := [], harness := (true, "4a548a5d3d865c623c3d7ee30dc28921563fafcde956ef2fc92a08077a1b205e"), looks := true }, kinds := [], alts := [], laidByText := true, laidKinds := [.data, .data, .data, .sentinel, .sentinel], laidTests := true, laidLooks := .later }
def TopCountUptoCardSaid : Prop := Claim7.holds Tryz.pinned (.plain (OpenSpec.upto topCountSpec)) topCountUptoCard

/-- THE SECOND FORM's CARD OF 'haywaintop.TopTaken'. -/
def topTakenUptoCard : Claim7 := { stood := { row := topTakenUptoRow, standIns := [], harness := (true, "4a548a5d3d865c623c3d7ee30dc28921563fafcde956ef2fc92a08077a1b205e"), looks := true }, kinds := [], alts := [], laidByText := true, laidKinds := [.data, .data, .data, .data, .sentinel, .sentinel, .pinned], laidTests := true, laidLooks := .later }
def TopTakenUptoCardSaid : Prop := Claim7.holds Tryz.pinned (.plain (OpenSpec.upto topTakenSpec)) topTakenUptoCard

/-- THE SECOND FORM's CARD OF 'haywaintop.TopAlone'. -/
def topAloneUptoCard : Claim7 := { stood := { row := topAloneUptoRow, standIns := [], harness := (true, "4a548a5d3d865c623c3d7ee30dc28921563fafcde956ef2fc92a08077a1b205e"), looks := true }, kinds := [], alts := [], laidByText := true, laidKinds := [.data, .data, .data, .data, .sentinel, .sentinel, .pinned], laidTests := true, laidLooks := .later }
def TopAloneUptoCardSaid : Prop := Claim7.holds Tryz.pinned (.plain (OpenSpec.upto topAloneSpec)) topAloneUptoCard

/-- THE SECOND FORM's CARD OF 'haywaintop.TopReader'. -/
def topReaderUptoCard : Claim7 := { stood := { row := topReaderUptoRow, standIns := [], harness := (true, "4a548a5d3d865c623c3d7ee30dc28921563fafcde956ef2fc92a08077a1b205e"), looks := true }, kinds := [], alts := [], laidByText := true, laidKinds := [.data, .data, .data, .data, .sentinel, .sentinel, .pinned], laidTests := true, laidLooks := .later }
def TopReaderUptoCardSaid : Prop := Claim7.holds Tryz.pinned (.plain (OpenSpec.upto topReaderSpec)) topReaderUptoCard

/-- THE SECOND FORM's CARD OF 'haywaintop.TopBlind'. -/
def topBlindUptoCard : Claim7 := { stood := { row := topBlindUptoRow, standIns := [], harness := (true, "4a548a5d3d865c623c3d7ee30dc28921563fafcde956ef2fc92a08077a1b205e"), looks := true }, kinds := [], alts := [], laidByText := true, laidKinds := [.data, .data, .data, .data, .sentinel, .sentinel, .pinned], laidTests := true, laidLooks := .later }
def TopBlindUptoCardSaid : Prop := Claim7.holds Tryz.pinned (.plain (OpenSpec.upto topBlindSpec)) topBlindUptoCard

/-- THE SECOND FORM's CARD OF 'haywaintop.TopSerial'. -/
def topSerialUptoCard : Claim7 := { stood := { row := topSerialUptoRow, standIns := [], harness := (true, "4a548a5d3d865c623c3d7ee30dc28921563fafcde956ef2fc92a08077a1b205e"), looks := true }, kinds := [], alts := [], laidByText := true, laidKinds := [.data, .data, .data, .data, .sentinel, .sentinel, .pinned], laidTests := true, laidLooks := .later }
def TopSerialUptoCardSaid : Prop := Claim7.holds Tryz.pinned (.plain (OpenSpec.upto topSerialSpec)) topSerialUptoCard

/-- THE SECOND FORM's CARD OF 'haywaintop.TopAbort'. -/
def topAbortUptoCard : Claim7 := { stood := { row := topAbortUptoRow, standIns := [], harness := (true, "4a548a5d3d865c623c3d7ee30dc28921563fafcde956ef2fc92a08077a1b205e"), looks := true }, kinds := [], alts := [], laidByText := true, laidKinds := [.data, .data, .data, .data, .sentinel, .sentinel, .pinned], laidTests := true, laidLooks := .later }
def TopAbortUptoCardSaid : Prop := Claim7.holds Tryz.pinned (.plain (OpenSpec.upto topAbortSpec)) topAbortUptoCard

/-- THE SECOND FORM's CARD OF 'haywaintop.TopOpen'. -/
def topOpenUptoCard : Claim7 := { stood := { row := topOpenUptoRow, standIns := [], harness := (true, "4a548a5d3d865c623c3d7ee30dc28921563fafcde956ef2fc92a08077a1b205e"), looks := true }, kinds := [], alts := [], laidByText := true, laidKinds := [.data, .data, .data, .data, .sentinel, .sentinel, .pinned], laidTests := true, laidLooks := .later }
def TopOpenUptoCardSaid : Prop := Claim7.holds Tryz.pinned (.plain (OpenSpec.upto topOpenSpec)) topOpenUptoCard

/-- THE SECOND FORM's CARD OF 'haywaintop.TopKept'. -/
def topKeptUptoCard : Claim7 := { stood := { row := topKeptUptoRow, standIns := [], harness := (true, "4a548a5d3d865c623c3d7ee30dc28921563fafcde956ef2fc92a08077a1b205e"), looks := true }, kinds := [], alts := [], laidByText := true, laidKinds := [.data, .data, .data, .data, .sentinel, .sentinel, .pinned], laidTests := true, laidLooks := .later }
def TopKeptUptoCardSaid : Prop := Claim7.holds Tryz.pinned (.plain (OpenSpec.upto topKeptSpec)) topKeptUptoCard

/-- THE SECOND FORM's CARD OF 'haywaintop.TopFall'. -/
def topFallUptoCard : Claim7 := { stood := { row := topFallUptoRow, standIns := [], harness := (true, "4a548a5d3d865c623c3d7ee30dc28921563fafcde956ef2fc92a08077a1b205e"), looks := true }, kinds := [], alts := [], laidByText := true, laidKinds := [.data, .data, .data, .data, .sentinel, .sentinel, .pinned], laidTests := true, laidLooks := .later }
def TopFallUptoCardSaid : Prop := Claim7.holds Tryz.pinned (.plain (OpenSpec.upto topFallSpec)) topFallUptoCard
end Rows
end Go.Proofs.YtagcmjmcjpjihaaGreatDoor
