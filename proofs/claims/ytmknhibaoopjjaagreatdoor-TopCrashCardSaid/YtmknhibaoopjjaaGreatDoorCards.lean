/-
  DERIVED. GIVEN WITH THE SEED: THE CARDS: each row of YtmknhibaoopjjaaGreatDoorRows.lean that lists a variable, with what it lists TIED to the program's text (the seventh form; the later family's looks); each row that meets fmt, with fmt's text TOLD by the authors' own Lean function (tested against real Go, not proved from fmt's source: count such statements apart). THE CARD IS WHAT COUNTS. Prove the row's statement (the work); the ties are given (YtmknhibaoopjjaaGreatDoorTie.lean); close each card by the builder's one call (the guide's Derived/Test/ToyasCard.lean, 'card_holds'). Laid BY PROGRAM, IN A SANDBOX (cutbox-door.mjs). By AI agents, Wed Nov 11 2026. No macro, syntax, notation, axiom, sorry.
-/
import Derived.Test.YtmknhibaoopjjaaGreatDoorRows
import GoSem.ClaimSeven
namespace Go.Proofs.YtmknhibaoopjjaaGreatDoor
namespace Rows

/-- THE TIED CARD OF 'haywainlaw.ViewSays'. -/
def viewSaysCard : Claim7 := { stood := { row := viewSaysRow, standIns := [], harness := (true, "70b9aa9243ad7fbe53326c99caebb07eb2d5c41c6c0e727d1968f28a2071ba0e"), looks := true }, kinds := [], alts := [], laidByText := true, laidKinds := [.data, .data, .data, .sentinel, .sentinel], laidTests := true, laidLooks := .later }
def ViewSaysCardSaid : Prop := Claim7.holds Tryz.pinned (.plain (OpenSpec.ofChange viewSaysSpec)) viewSaysCard

/-- THE TIED CARD OF 'haywainlaw.StoreSays'. -/
def storeSaysCard : Claim7 := { stood := { row := storeSaysRow, standIns := [], harness := (true, "70b9aa9243ad7fbe53326c99caebb07eb2d5c41c6c0e727d1968f28a2071ba0e"), looks := true }, kinds := [], alts := [], laidByText := true, laidKinds := [.data, .data, .data, .sentinel, .sentinel], laidTests := true, laidLooks := .later }
def StoreSaysCardSaid : Prop := Claim7.holds Tryz.pinned (.plain (OpenSpec.ofChange storeSaysSpec)) storeSaysCard

/-- THE TIED CARD OF 'haywainlaw.QueueSays'. -/
def queueSaysCard : Claim7 := { stood := { row := queueSaysRow, standIns := [], harness := (true, "70b9aa9243ad7fbe53326c99caebb07eb2d5c41c6c0e727d1968f28a2071ba0e"), looks := true }, kinds := [], alts := [], laidByText := true, laidKinds := [.data, .data, .data, .data, .sentinel, .sentinel, .pinned], laidTests := true, laidLooks := .later }
def QueueSaysCardSaid : Prop := Claim7.holds Tryz.pinned (.plain (OpenSpec.ofChange queueSaysSpec)) queueSaysCard

/-- THE TIED CARD OF 'haywaintop.TopRead'. -/
def topReadCard : Claim7 := { stood := { row := topReadRow, standIns := [], harness := (true, "70b9aa9243ad7fbe53326c99caebb07eb2d5c41c6c0e727d1968f28a2071ba0e"), looks := true }, kinds := [], alts := [], laidByText := true, laidKinds := [.data, .data, .data, .sentinel, .sentinel], laidTests := true, laidLooks := .later }
def TopReadCardSaid : Prop := Claim7.holds Tryz.pinned (.plain (OpenSpec.ofChange topReadSpec)) topReadCard

/-- THE TIED CARD OF 'haywaintop.TopSave'. -/
def topSaveCard : Claim7 := { stood := { row := topSaveRow, standIns := [], harness := (true, "70b9aa9243ad7fbe53326c99caebb07eb2d5c41c6c0e727d1968f28a2071ba0e"), looks := true }, kinds := [], alts := [], laidByText := true, laidKinds := [.data, .data, .data, .sentinel, .sentinel], laidTests := true, laidLooks := .later }
def TopSaveCardSaid : Prop := Claim7.holds Tryz.pinned (.plain (OpenSpec.ofChange topSaveSpec)) topSaveCard

/-- THE TIED CARD OF 'haywaintop.TopCrash'. -/
def topCrashCard : Claim7 := { stood := { row := topCrashRow, standIns := [], harness := (true, "70b9aa9243ad7fbe53326c99caebb07eb2d5c41c6c0e727d1968f28a2071ba0e"), looks := true }, kinds := [], alts := [], laidByText := true, laidKinds := [.data, .data, .data, .sentinel, .sentinel], laidTests := true, laidLooks := .later }
def TopCrashCardSaid : Prop := Claim7.holds Tryz.pinned (.plain (OpenSpec.ofChange topCrashSpec)) topCrashCard

/-- THE TIED CARD OF 'haywaintop.TopFifo'. -/
def topFifoCard : Claim7 := { stood := { row := topFifoRow, standIns := [], harness := (true, "70b9aa9243ad7fbe53326c99caebb07eb2d5c41c6c0e727d1968f28a2071ba0e"), looks := true }, kinds := [], alts := [], laidByText := true, laidKinds := [.data, .data, .data, .data, .sentinel, .sentinel, .pinned], laidTests := true, laidLooks := .later }
def TopFifoCardSaid : Prop := Claim7.holds Tryz.pinned (.plain (OpenSpec.ofChange topFifoSpec)) topFifoCard

/-- THE TIED CARD OF 'haywaintop.TopDead'. -/
def topDeadCard : Claim7 := { stood := { row := topDeadRow, standIns := [], harness := (true, "70b9aa9243ad7fbe53326c99caebb07eb2d5c41c6c0e727d1968f28a2071ba0e"), looks := true }, kinds := [], alts := [], laidByText := true, laidKinds := [.data, .data, .data, .data, .sentinel, .sentinel, .pinned], laidTests := true, laidLooks := .later }
def TopDeadCardSaid : Prop := Claim7.holds Tryz.pinned (.plain (OpenSpec.ofChange topDeadSpec)) topDeadCard

/-- THE TIED CARD OF 'haywaintop.TopLease'. -/
def topLeaseCard : Claim7 := { stood := { row := topLeaseRow, standIns := [], harness := (true, "70b9aa9243ad7fbe53326c99caebb07eb2d5c41c6c0e727d1968f28a2071ba0e"), looks := true }, kinds := [], alts := [], laidByText := true, laidKinds := [.data, .data, .data, .data, .sentinel, .sentinel, .pinned], laidTests := true, laidLooks := .later }
def TopLeaseCardSaid : Prop := Claim7.holds Tryz.pinned (.plain (OpenSpec.ofChange topLeaseSpec)) topLeaseCard

/-- THE TIED CARD OF 'haywaintop.TopAck'. -/
def topAckCard : Claim7 := { stood := { row := topAckRow, standIns := [], harness := (true, "70b9aa9243ad7fbe53326c99caebb07eb2d5c41c6c0e727d1968f28a2071ba0e"), looks := true }, kinds := [], alts := [], laidByText := true, laidKinds := [.data, .data, .data, .data, .sentinel, .sentinel, .pinned], laidTests := true, laidLooks := .later }
def TopAckCardSaid : Prop := Claim7.holds Tryz.pinned (.plain (OpenSpec.ofChange topAckSpec)) topAckCard

/-- THE SECOND FORM's CARD OF 'haywainlaw.ViewSays'. -/
def viewSaysUptoCard : Claim7 := { stood := { row := viewSaysUptoRow, standIns := [], harness := (true, "70b9aa9243ad7fbe53326c99caebb07eb2d5c41c6c0e727d1968f28a2071ba0e"), looks := true }, kinds := [], alts := [], laidByText := true, laidKinds := [.data, .data, .data, .sentinel, .sentinel], laidTests := true, laidLooks := .later }
def ViewSaysUptoCardSaid : Prop := Claim7.holds Tryz.pinned (.plain (OpenSpec.upto viewSaysSpec)) viewSaysUptoCard

/-- THE SECOND FORM's CARD OF 'haywainlaw.StoreSays'. -/
def storeSaysUptoCard : Claim7 := { stood := { row := storeSaysUptoRow, standIns := [], harness := (true, "70b9aa9243ad7fbe53326c99caebb07eb2d5c41c6c0e727d1968f28a2071ba0e"), looks := true }, kinds := [], alts := [], laidByText := true, laidKinds := [.data, .data, .data, .sentinel, .sentinel], laidTests := true, laidLooks := .later }
def StoreSaysUptoCardSaid : Prop := Claim7.holds Tryz.pinned (.plain (OpenSpec.upto storeSaysSpec)) storeSaysUptoCard

/-- THE SECOND FORM's CARD OF 'haywainlaw.QueueSays'. -/
def queueSaysUptoCard : Claim7 := { stood := { row := queueSaysUptoRow, standIns := [], harness := (true, "70b9aa9243ad7fbe53326c99caebb07eb2d5c41c6c0e727d1968f28a2071ba0e"), looks := true }, kinds := [], alts := [], laidByText := true, laidKinds := [.data, .data, .data, .data, .sentinel, .sentinel, .pinned], laidTests := true, laidLooks := .later }
def QueueSaysUptoCardSaid : Prop := Claim7.holds Tryz.pinned (.plain (OpenSpec.upto queueSaysSpec)) queueSaysUptoCard

/-- THE SECOND FORM's CARD OF 'haywaintop.TopRead'. -/
def topReadUptoCard : Claim7 := { stood := { row := topReadUptoRow, standIns := [], harness := (true, "70b9aa9243ad7fbe53326c99caebb07eb2d5c41c6c0e727d1968f28a2071ba0e"), looks := true }, kinds := [], alts := [], laidByText := true, laidKinds := [.data, .data, .data, .sentinel, .sentinel], laidTests := true, laidLooks := .later }
def TopReadUptoCardSaid : Prop := Claim7.holds Tryz.pinned (.plain (OpenSpec.upto topReadSpec)) topReadUptoCard

/-- THE SECOND FORM's CARD OF 'haywaintop.TopSave'. -/
def topSaveUptoCard : Claim7 := { stood := { row := topSaveUptoRow, standIns := [], harness := (true, "70b9aa9243ad7fbe53326c99caebb07eb2d5c41c6c0e727d1968f28a2071ba0e"), looks := true }, kinds := [], alts := [], laidByText := true, laidKinds := [.data, .data, .data, .sentinel, .sentinel], laidTests := true, laidLooks := .later }
def TopSaveUptoCardSaid : Prop := Claim7.holds Tryz.pinned (.plain (OpenSpec.upto topSaveSpec)) topSaveUptoCard

/-- THE SECOND FORM's CARD OF 'haywaintop.TopCrash'. -/
def topCrashUptoCard : Claim7 := { stood := { row := topCrashUptoRow, standIns := [], harness := (true, "70b9aa9243ad7fbe53326c99caebb07eb2d5c41c6c0e727d1968f28a2071ba0e"), looks := true }, kinds := [], alts := [], laidByText := true, laidKinds := [.data, .data, .data, .sentinel, .sentinel], laidTests := true, laidLooks := .later }
def TopCrashUptoCardSaid : Prop := Claim7.holds Tryz.pinned (.plain (OpenSpec.upto topCrashSpec)) topCrashUptoCard

/-- THE SECOND FORM's CARD OF 'haywaintop.TopFifo'. -/
def topFifoUptoCard : Claim7 := { stood := { row := topFifoUptoRow, standIns := [], harness := (true, "70b9aa9243ad7fbe53326c99caebb07eb2d5c41c6c0e727d1968f28a2071ba0e"), looks := true }, kinds := [], alts := [], laidByText := true, laidKinds := [.data, .data, .data, .data, .sentinel, .sentinel, .pinned], laidTests := true, laidLooks := .later }
def TopFifoUptoCardSaid : Prop := Claim7.holds Tryz.pinned (.plain (OpenSpec.upto topFifoSpec)) topFifoUptoCard

/-- THE SECOND FORM's CARD OF 'haywaintop.TopDead'. -/
def topDeadUptoCard : Claim7 := { stood := { row := topDeadUptoRow, standIns := [], harness := (true, "70b9aa9243ad7fbe53326c99caebb07eb2d5c41c6c0e727d1968f28a2071ba0e"), looks := true }, kinds := [], alts := [], laidByText := true, laidKinds := [.data, .data, .data, .data, .sentinel, .sentinel, .pinned], laidTests := true, laidLooks := .later }
def TopDeadUptoCardSaid : Prop := Claim7.holds Tryz.pinned (.plain (OpenSpec.upto topDeadSpec)) topDeadUptoCard

/-- THE SECOND FORM's CARD OF 'haywaintop.TopLease'. -/
def topLeaseUptoCard : Claim7 := { stood := { row := topLeaseUptoRow, standIns := [], harness := (true, "70b9aa9243ad7fbe53326c99caebb07eb2d5c41c6c0e727d1968f28a2071ba0e"), looks := true }, kinds := [], alts := [], laidByText := true, laidKinds := [.data, .data, .data, .data, .sentinel, .sentinel, .pinned], laidTests := true, laidLooks := .later }
def TopLeaseUptoCardSaid : Prop := Claim7.holds Tryz.pinned (.plain (OpenSpec.upto topLeaseSpec)) topLeaseUptoCard

/-- THE SECOND FORM's CARD OF 'haywaintop.TopAck'. -/
def topAckUptoCard : Claim7 := { stood := { row := topAckUptoRow, standIns := [], harness := (true, "70b9aa9243ad7fbe53326c99caebb07eb2d5c41c6c0e727d1968f28a2071ba0e"), looks := true }, kinds := [], alts := [], laidByText := true, laidKinds := [.data, .data, .data, .data, .sentinel, .sentinel, .pinned], laidTests := true, laidLooks := .later }
def TopAckUptoCardSaid : Prop := Claim7.holds Tryz.pinned (.plain (OpenSpec.upto topAckSpec)) topAckUptoCard
end Rows
end Go.Proofs.YtmknhibaoopjjaaGreatDoor
