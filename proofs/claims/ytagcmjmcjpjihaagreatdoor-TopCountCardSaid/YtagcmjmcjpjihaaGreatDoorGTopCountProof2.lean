/- Texts TopCountClosed of this claim, laid together. -/
import Derived.Test.YtagcmjmcjpjihaaGreatDoorRows
import Derived.ProofKit
import Derived.LaidMore
set_option linter.unusedVariables false
set_option linter.unusedSimpArgs false
namespace Go.Proofs.YtagcmjmcjpjihaaGreatDoor
open Go.ChangeShapes Go.WideShapes Go.ChangeAt Go.RowKit
open Go.ChangeMaps (open_string)
theorem topCount_closed0 : (Rows.topCountRow.inPlace == Tryz.pinned.checked.prog.inPlace 5) = true := by kernel_rfl
theorem topCount_closed1 : (Rows.topCountRow.unfollowed == Tryz.pinned.checked.prog.unfollowed 5) = true := by kernel_rfl
theorem topCount_closed2 : (Rows.topCountRow.recurses == Tryz.pinned.checked.prog.recurses 5) = true := by kernel_rfl
theorem topCount_closed3 : (Rows.topCountRow.named == Tryz.pinned.checked.prog.varsNamed 5) = true := by kernel_rfl
theorem topCount_closed : joinedFacts Tryz.pinned.checked.prog 5 Tryz.f5 Rows.topCountSpec Rows.topCountRow = true := by
  unfold joinedFacts
  rw [topCount_closed0, topCount_closed1, topCount_closed2, topCount_closed3]
  kernel_rfl
end Go.Proofs.YtagcmjmcjpjihaaGreatDoor
