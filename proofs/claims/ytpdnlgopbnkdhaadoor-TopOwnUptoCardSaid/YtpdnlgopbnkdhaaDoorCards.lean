/-
  DERIVED. GIVEN WITH THE SEED: THE CARDS: each row of YtpdnlgopbnkdhaaDoorRows.lean that lists a variable, with what it lists TIED to the program's text (the seventh form; the later family's looks); each row that meets fmt, with fmt's text TOLD by the authors' own Lean function (tested against real Go, not proved from fmt's source: count such statements apart). THE CARD IS WHAT COUNTS. Prove the row's statement (the work); the ties are given (YtpdnlgopbnkdhaaDoorTie.lean); close each card by the builder's one call (the guide's Derived/Test/ToyasCard.lean, 'card_holds'). Laid BY PROGRAM, IN A SANDBOX (cutbox-door.mjs). By AI agents, Wed Nov 11 2026. No macro, syntax, notation, axiom, sorry.
-/
import Derived.Test.YtpdnlgopbnkdhaaDoorRows
import GoSem.ClaimSeven
namespace Go.Proofs.YtpdnlgopbnkdhaaDoor
namespace Rows

/-- THE TIED CARD OF 'haywainlaw.LogSays'. -/
def logSaysCard : Claim7 := { stood := { row := logSaysRow, standIns := [], harness := (true, "38b5b1aeeda43a1be9e970b857b86f86643f114fbb77b593e77e662e48712d0d"), looks := true }, kinds := [], alts := [], laidByText := true, laidKinds := [.data, .data, .data, .sentinel, .sentinel], laidTests := true, laidLooks := .later }
def LogSaysCardSaid : Prop := Claim7.holds Tryd.pinned (.plain (OpenSpec.ofChange logSaysSpec)) logSaysCard

/-- THE TIED CARD OF 'haywainlaw.VersionsSays'. -/
def versionsSaysCard : Claim7 := { stood := { row := versionsSaysRow, standIns := [], harness := (true, "38b5b1aeeda43a1be9e970b857b86f86643f114fbb77b593e77e662e48712d0d"), looks := true }, kinds := [], alts := [], laidByText := true, laidKinds := [.data, .data, .data, .sentinel, .sentinel], laidTests := true, laidLooks := .later }
def VersionsSaysCardSaid : Prop := Claim7.holds Tryd.pinned (.plain (OpenSpec.ofChange versionsSaysSpec)) versionsSaysCard

/-- THE TIED CARD OF 'haywaintop.TopLog'. -/
def topLogCard : Claim7 := { stood := { row := topLogRow, standIns := [], harness := (true, "38b5b1aeeda43a1be9e970b857b86f86643f114fbb77b593e77e662e48712d0d"), looks := true }, kinds := [], alts := [], laidByText := true, laidKinds := [.data, .data, .data, .sentinel, .sentinel], laidTests := true, laidLooks := .later }
def TopLogCardSaid : Prop := Claim7.holds Tryd.pinned (.plain (OpenSpec.ofChange topLogSpec)) topLogCard

/-- THE TIED CARD OF 'haywaintop.TopOwn'. -/
def topOwnCard : Claim7 := { stood := { row := topOwnRow, standIns := [], harness := (true, "38b5b1aeeda43a1be9e970b857b86f86643f114fbb77b593e77e662e48712d0d"), looks := true }, kinds := [], alts := [], laidByText := true, laidKinds := [.data, .data, .data, .sentinel, .sentinel], laidTests := true, laidLooks := .later }
def TopOwnCardSaid : Prop := Claim7.holds Tryd.pinned (.plain (OpenSpec.ofChange topOwnSpec)) topOwnCard

/-- THE TIED CARD OF 'haywaintop.TopPast'. -/
def topPastCard : Claim7 := { stood := { row := topPastRow, standIns := [], harness := (true, "38b5b1aeeda43a1be9e970b857b86f86643f114fbb77b593e77e662e48712d0d"), looks := true }, kinds := [], alts := [], laidByText := true, laidKinds := [.data, .data, .data, .sentinel, .sentinel], laidTests := true, laidLooks := .later }
def TopPastCardSaid : Prop := Claim7.holds Tryd.pinned (.plain (OpenSpec.ofChange topPastSpec)) topPastCard

/-- THE TIED CARD OF 'haywaintop.TopScan'. -/
def topScanCard : Claim7 := { stood := { row := topScanRow, standIns := [], harness := (true, "38b5b1aeeda43a1be9e970b857b86f86643f114fbb77b593e77e662e48712d0d"), looks := true }, kinds := [], alts := [], laidByText := true, laidKinds := [.data, .data, .data, .sentinel, .sentinel], laidTests := true, laidLooks := .later }
def TopScanCardSaid : Prop := Claim7.holds Tryd.pinned (.plain (OpenSpec.ofChange topScanSpec)) topScanCard

/-- THE TIED CARD OF 'haywaintop.TopVacuum'. -/
def topVacuumCard : Claim7 := { stood := { row := topVacuumRow, standIns := [], harness := (true, "38b5b1aeeda43a1be9e970b857b86f86643f114fbb77b593e77e662e48712d0d"), looks := true }, kinds := [], alts := [], laidByText := true, laidKinds := [.data, .data, .data, .sentinel, .sentinel], laidTests := true, laidLooks := .later }
def TopVacuumCardSaid : Prop := Claim7.holds Tryd.pinned (.plain (OpenSpec.ofChange topVacuumSpec)) topVacuumCard

/-- THE SECOND FORM's CARD OF 'haywainlaw.LogSays'. -/
def logSaysUptoCard : Claim7 := { stood := { row := logSaysUptoRow, standIns := [], harness := (true, "38b5b1aeeda43a1be9e970b857b86f86643f114fbb77b593e77e662e48712d0d"), looks := true }, kinds := [], alts := [], laidByText := true, laidKinds := [.data, .data, .data, .sentinel, .sentinel], laidTests := true, laidLooks := .later }
def LogSaysUptoCardSaid : Prop := Claim7.holds Tryd.pinned (.plain (OpenSpec.upto logSaysSpec)) logSaysUptoCard

/-- THE SECOND FORM's CARD OF 'haywainlaw.VersionsSays'. -/
def versionsSaysUptoCard : Claim7 := { stood := { row := versionsSaysUptoRow, standIns := [], harness := (true, "38b5b1aeeda43a1be9e970b857b86f86643f114fbb77b593e77e662e48712d0d"), looks := true }, kinds := [], alts := [], laidByText := true, laidKinds := [.data, .data, .data, .sentinel, .sentinel], laidTests := true, laidLooks := .later }
def VersionsSaysUptoCardSaid : Prop := Claim7.holds Tryd.pinned (.plain (OpenSpec.upto versionsSaysSpec)) versionsSaysUptoCard

/-- THE SECOND FORM's CARD OF 'haywaintop.TopLog'. -/
def topLogUptoCard : Claim7 := { stood := { row := topLogUptoRow, standIns := [], harness := (true, "38b5b1aeeda43a1be9e970b857b86f86643f114fbb77b593e77e662e48712d0d"), looks := true }, kinds := [], alts := [], laidByText := true, laidKinds := [.data, .data, .data, .sentinel, .sentinel], laidTests := true, laidLooks := .later }
def TopLogUptoCardSaid : Prop := Claim7.holds Tryd.pinned (.plain (OpenSpec.upto topLogSpec)) topLogUptoCard

/-- THE SECOND FORM's CARD OF 'haywaintop.TopOwn'. -/
def topOwnUptoCard : Claim7 := { stood := { row := topOwnUptoRow, standIns := [], harness := (true, "38b5b1aeeda43a1be9e970b857b86f86643f114fbb77b593e77e662e48712d0d"), looks := true }, kinds := [], alts := [], laidByText := true, laidKinds := [.data, .data, .data, .sentinel, .sentinel], laidTests := true, laidLooks := .later }
def TopOwnUptoCardSaid : Prop := Claim7.holds Tryd.pinned (.plain (OpenSpec.upto topOwnSpec)) topOwnUptoCard

/-- THE SECOND FORM's CARD OF 'haywaintop.TopPast'. -/
def topPastUptoCard : Claim7 := { stood := { row := topPastUptoRow, standIns := [], harness := (true, "38b5b1aeeda43a1be9e970b857b86f86643f114fbb77b593e77e662e48712d0d"), looks := true }, kinds := [], alts := [], laidByText := true, laidKinds := [.data, .data, .data, .sentinel, .sentinel], laidTests := true, laidLooks := .later }
def TopPastUptoCardSaid : Prop := Claim7.holds Tryd.pinned (.plain (OpenSpec.upto topPastSpec)) topPastUptoCard

/-- THE SECOND FORM's CARD OF 'haywaintop.TopScan'. -/
def topScanUptoCard : Claim7 := { stood := { row := topScanUptoRow, standIns := [], harness := (true, "38b5b1aeeda43a1be9e970b857b86f86643f114fbb77b593e77e662e48712d0d"), looks := true }, kinds := [], alts := [], laidByText := true, laidKinds := [.data, .data, .data, .sentinel, .sentinel], laidTests := true, laidLooks := .later }
def TopScanUptoCardSaid : Prop := Claim7.holds Tryd.pinned (.plain (OpenSpec.upto topScanSpec)) topScanUptoCard

/-- THE SECOND FORM's CARD OF 'haywaintop.TopVacuum'. -/
def topVacuumUptoCard : Claim7 := { stood := { row := topVacuumUptoRow, standIns := [], harness := (true, "38b5b1aeeda43a1be9e970b857b86f86643f114fbb77b593e77e662e48712d0d"), looks := true }, kinds := [], alts := [], laidByText := true, laidKinds := [.data, .data, .data, .sentinel, .sentinel], laidTests := true, laidLooks := .later }
def TopVacuumUptoCardSaid : Prop := Claim7.holds Tryd.pinned (.plain (OpenSpec.upto topVacuumSpec)) topVacuumUptoCard
end Rows
end Go.Proofs.YtpdnlgopbnkdhaaDoor
