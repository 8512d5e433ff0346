/- Texts TopKeptClosed of this claim, laid together. -/
import Derived.Test.YtagcmjmcjpjihaaGreatDoorRows
import Derived.ProofKit
import Derived.LaidMore
set_option linter.unusedVariables false
set_option linter.unusedSimpArgs false
namespace Go.Proofs.YtagcmjmcjpjihaaGreatDoor
open Go.ChangeShapes Go.WideShapes Go.ChangeAt Go.RowKit
open Go.ChangeMaps (open_string)
theorem zHo : (Rows.topKeptRow.inPlace == Tryz.pinned.checked.prog.inPlace 13) = true := by kernel_rfl
theorem zHk : (Rows.topKeptRow.unfollowed == Tryz.pinned.checked.prog.unfollowed 13) = true := by kernel_rfl
theorem zHR : (Rows.topKeptRow.recurses == Tryz.pinned.checked.prog.recurses 13) = true := by kernel_rfl
theorem zHU : (Rows.topKeptRow.named == Tryz.pinned.checked.prog.varsNamed 13) = true := by kernel_rfl
theorem zIR : joinedFacts Tryz.pinned.checked.prog 13 Tryz.f13 Rows.topKeptSpec Rows.topKeptRow = true := by
 unfold joinedFacts
 rw [zHo, zHk, zHR, zHU]
 kernel_rfl
end Go.Proofs.YtagcmjmcjpjihaaGreatDoor
