/- Texts Span2 of this claim, laid together. -/
import Derived.Test.YtmknhibaoopjjaaGreatDoorGTopCrashProof10
import Derived.Lib.Hide
namespace Go.Proofs.YtmknhibaoopjjaaGreatDoor
open Go.RowKit
/-- A slice of n rows of cells, from an address on. -/
def SpansAt (w : World) (a : Option Addr) (l : List Sp) : Prop :=
  l = [] ∨ ∃ b off, a = some ⟨b, off, none⟩ ∧ ∀ i (h : i < l.length), w.cell? ⟨b, off + i * 2, none⟩ = some (.string l[i].lo) ∧ w.cell? ⟨b, off + i * 2 + 1, none⟩ = some (.string l[i].hi)
theorem SpansAt.ext {w w' : World} {a : Option Addr} {l : List Sp} (h : SpansAt w a l) (hx : Ext w w') : SpansAt w' a l :=
  h.imp id fun ⟨b, off, ha, hc⟩ => ⟨b, off, ha, fun i hi => ⟨hx.some (hc i hi).1, hx.some (hc i hi).2⟩⟩
end Go.Proofs.YtmknhibaoopjjaaGreatDoor
