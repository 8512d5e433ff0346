/-
  DERIVED. GIVEN WITH THE SEED: THE CARDS: each row of YtmjdgcgmlgbfjaaDoorRows.lean that lists a variable, with what it lists TIED to the program's text (the seventh form; the later family's looks); each row that meets fmt, with fmt's text TOLD by the authors' own Lean function (tested against real Go, not proved from fmt's source: count such statements apart). THE CARD IS WHAT COUNTS. Prove the row's statement (the work); the ties are given (YtmjdgcgmlgbfjaaDoorTie.lean); close each card by the builder's one call (the guide's Derived/Test/ToyasCard.lean, 'card_holds'). Laid BY PROGRAM, IN A SANDBOX (cutbox-door.mjs). By AI agents, Wed Nov 11 2026. No macro, syntax, notation, axiom, sorry.
-/
import Derived.Test.YtmjdgcgmlgbfjaaDoorRows
import GoSem.ClaimSeven
namespace Go.Proofs.YtmjdgcgmlgbfjaaDoor
namespace Rows

/-- THE TIED CARD OF 'haywainlaw.Names'. -/
def namesCard : Claim7 := { stood := { row := namesRow, standIns := [], harness := (true, "baf9c5b2165bbdbb4c89d9576595abd68d83be7bc6d3dd467b5071ff8424da92"), looks := true }, kinds := [], alts := [], laidByText := true, laidKinds := [.data, .data, .data], laidTests := true, laidLooks := .later }
def NamesCardSaid : Prop := Claim7.holds Tryd.pinned (.plain (OpenSpec.ofChange namesSpec)) namesCard

/-- THE TIED CARD OF 'haywainlaw.RowSays'. -/
def rowSaysCard : Claim7 := { stood := { row := rowSaysRow, standIns := [], harness := (true, "baf9c5b2165bbdbb4c89d9576595abd68d83be7bc6d3dd467b5071ff8424da92"), looks := true }, kinds := [], alts := [], laidByText := true, laidKinds := [.data, .data, .data, .data, .sentinel, .sentinel, .pinned], laidTests := true, laidLooks := .later }
def RowSaysCardSaid : Prop := Claim7.holds Tryd.pinned (.plain (OpenSpec.ofChange rowSaysSpec)) rowSaysCard

/-- THE TIED CARD OF 'haywainlaw.ChangeSays'. -/
def changeSaysCard : Claim7 := { stood := { row := changeSaysRow, standIns := [], harness := (true, "baf9c5b2165bbdbb4c89d9576595abd68d83be7bc6d3dd467b5071ff8424da92"), looks := true }, kinds := [], alts := [], laidByText := true, laidKinds := [.data, .data, .data, .sentinel, .sentinel], laidTests := true, laidLooks := .later }
def ChangeSaysCardSaid : Prop := Claim7.holds Tryd.pinned (.plain (OpenSpec.ofChange changeSaysSpec)) changeSaysCard

/-- THE TIED CARD OF 'haywaintop.TopKey'. -/
def topKeyCard : Claim7 := { stood := { row := topKeyRow, standIns := [], harness := (true, "baf9c5b2165bbdbb4c89d9576595abd68d83be7bc6d3dd467b5071ff8424da92"), looks := true }, kinds := [], alts := [], laidByText := true, laidKinds := [.data, .data, .data, .sentinel, .sentinel], laidTests := true, laidLooks := .later }
def TopKeyCardSaid : Prop := Claim7.holds Tryd.pinned (.plain (OpenSpec.ofChange topKeySpec)) topKeyCard

/-- THE TIED CARD OF 'haywaintop.TopRow'. -/
def topRowCard : Claim7 := { stood := { row := topRowRow, standIns := [], harness := (true, "baf9c5b2165bbdbb4c89d9576595abd68d83be7bc6d3dd467b5071ff8424da92"), looks := true }, kinds := [], alts := [], laidByText := true, laidKinds := [.data, .data, .data, .data, .sentinel, .sentinel, .pinned], laidTests := true, laidLooks := .later }
def TopRowCardSaid : Prop := Claim7.holds Tryd.pinned (.plain (OpenSpec.ofChange topRowSpec)) topRowCard

/-- THE TIED CARD OF 'haywaintop.TopChange'. -/
def topChangeCard : Claim7 := { stood := { row := topChangeRow, standIns := [], harness := (true, "baf9c5b2165bbdbb4c89d9576595abd68d83be7bc6d3dd467b5071ff8424da92"), looks := true }, kinds := [], alts := [], laidByText := true, laidKinds := [.data, .data, .data, .sentinel, .sentinel], laidTests := true, laidLooks := .later }
def TopChangeCardSaid : Prop := Claim7.holds Tryd.pinned (.plain (OpenSpec.ofChange topChangeSpec)) topChangeCard

/-- THE SECOND FORM's CARD OF 'haywainlaw.Names'. -/
def namesUptoCard : Claim7 := { stood := { row := namesUptoRow, standIns := [], harness := (true, "baf9c5b2165bbdbb4c89d9576595abd68d83be7bc6d3dd467b5071ff8424da92"), looks := true }, kinds := [], alts := [], laidByText := true, laidKinds := [.data, .data, .data], laidTests := true, laidLooks := .later }
def NamesUptoCardSaid : Prop := Claim7.holds Tryd.pinned (.plain (OpenSpec.upto namesSpec)) namesUptoCard

/-- THE SECOND FORM's CARD OF 'haywainlaw.RowSays'. -/
def rowSaysUptoCard : Claim7 := { stood := { row := rowSaysUptoRow, standIns := [], harness := (true, "baf9c5b2165bbdbb4c89d9576595abd68d83be7bc6d3dd467b5071ff8424da92"), looks := true }, kinds := [], alts := [], laidByText := true, laidKinds := [.data, .data, .data, .data, .sentinel, .sentinel, .pinned], laidTests := true, laidLooks := .later }
def RowSaysUptoCardSaid : Prop := Claim7.holds Tryd.pinned (.plain (OpenSpec.upto rowSaysSpec)) rowSaysUptoCard

/-- THE SECOND FORM's CARD OF 'haywainlaw.ChangeSays'. -/
def changeSaysUptoCard : Claim7 := { stood := { row := changeSaysUptoRow, standIns := [], harness := (true, "baf9c5b2165bbdbb4c89d9576595abd68d83be7bc6d3dd467b5071ff8424da92"), looks := true }, kinds := [], alts := [], laidByText := true, laidKinds := [.data, .data, .data, .sentinel, .sentinel], laidTests := true, laidLooks := .later }
def ChangeSaysUptoCardSaid : Prop := Claim7.holds Tryd.pinned (.plain (OpenSpec.upto changeSaysSpec)) changeSaysUptoCard

/-- THE SECOND FORM's CARD OF 'haywaintop.TopKey'. -/
def topKeyUptoCard : Claim7 := { stood := { row := topKeyUptoRow, standIns := [], harness := (true, "baf9c5b2165bbdbb4c89d9576595abd68d83be7bc6d3dd467b5071ff8424da92"), looks := true }, kinds := [], alts := [], laidByText := true, laidKinds := [.data, .data, .data, .sentinel, .sentinel], laidTests := true, laidLooks := .later }
def TopKeyUptoCardSaid : Prop := Claim7.holds Tryd.pinned (.plain (OpenSpec.upto topKeySpec)) topKeyUptoCard

/-- THE SECOND FORM's CARD OF 'haywaintop.TopRow'. -/
def topRowUptoCard : Claim7 := { stood := { row := topRowUptoRow, standIns := [], harness := (true, "baf9c5b2165bbdbb4c89d9576595abd68d83be7bc6d3dd467b5071ff8424da92"), looks := true }, kinds := [], alts := [], laidByText := true, laidKinds := [.data, .data, .data, .data, .sentinel, .sentinel, .pinned], laidTests := true, laidLooks := .later }
def TopRowUptoCardSaid : Prop := Claim7.holds Tryd.pinned (.plain (OpenSpec.upto topRowSpec)) topRowUptoCard

/-- THE SECOND FORM's CARD OF 'haywaintop.TopChange'. -/
def topChangeUptoCard : Claim7 := { stood := { row := topChangeUptoRow, standIns := [], harness := (true, "baf9c5b2165bbdbb4c89d9576595abd68d83be7bc6d3dd467b5071ff8424da92"), looks := true }, kinds := [], alts := [], laidByText := true, laidKinds := [.data, .data, .data, .sentinel, .sentinel], laidTests := true, laidLooks := .later }
def TopChangeUptoCardSaid : Prop := Claim7.holds Tryd.pinned (.plain (OpenSpec.upto topChangeSpec)) topChangeUptoCard
end Rows
end Go.Proofs.YtmjdgcgmlgbfjaaDoor
