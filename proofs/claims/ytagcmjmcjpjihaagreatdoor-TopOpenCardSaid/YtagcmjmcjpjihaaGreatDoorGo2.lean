/- Texts TopOpenClosed of this claim, laid together. -/
import Derived.Test.YtagcmjmcjpjihaaGreatDoorRows
import Derived.ProofKit
import Derived.LaidMore
set_option linter.unusedVariables false
set_option linter.unusedSimpArgs false
namespace Go.Proofs.YtagcmjmcjpjihaaGreatDoor
open Go.ChangeShapes Go.WideShapes Go.ChangeAt Go.RowKit
open Go.ChangeMaps (open_string)
theorem zH1 : (Rows.topOpenRow.inPlace == Tryz.pinned.checked.prog.inPlace 12) = true := by kernel_rfl
theorem zHw : (Rows.topOpenRow.unfollowed == Tryz.pinned.checked.prog.unfollowed 12) = true := by kernel_rfl
theorem zHx : (Rows.topOpenRow.recurses == Tryz.pinned.checked.prog.recurses 12) = true := by kernel_rfl
theorem zH7 : (Rows.topOpenRow.named == Tryz.pinned.checked.prog.varsNamed 12) = true := by kernel_rfl
theorem zIL : joinedFacts Tryz.pinned.checked.prog 12 Tryz.f12 Rows.topOpenSpec Rows.topOpenRow = true := by
 unfold joinedFacts
 rw [zH1, zHw, zHx, zH7]
 kernel_rfl
end Go.Proofs.YtagcmjmcjpjihaaGreatDoor
