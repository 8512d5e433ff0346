/- Texts TopAbortClosed of this claim, laid together. -/
import Derived.Test.YtagcmjmcjpjihaaGreatDoorRows
import Derived.ProofKit
import Derived.LaidMore
set_option linter.unusedVariables false
set_option linter.unusedSimpArgs false
namespace Go.Proofs.YtagcmjmcjpjihaaGreatDoor
open Go.ChangeShapes Go.WideShapes Go.ChangeAt Go.RowKit
open Go.ChangeMaps (open_string)
theorem zH5:(Rows.topAbortRow.inPlace==Tryz.pinned.checked.prog.inPlace 11)=true:=by kernel_rfl
theorem zIT:(Rows.topAbortRow.unfollowed==Tryz.pinned.checked.prog.unfollowed 11)=true:=by kernel_rfl
theorem zII:(Rows.topAbortRow.recurses==Tryz.pinned.checked.prog.recurses 11)=true:=by kernel_rfl
theorem zIG:(Rows.topAbortRow.named==Tryz.pinned.checked.prog.varsNamed 11)=true:=by kernel_rfl
theorem zJB:joinedFacts Tryz.pinned.checked.prog 11 Tryz.f11 Rows.topAbortSpec Rows.topAbortRow=true:=by
 unfold joinedFacts;rw [zH5,zIT,zII,zIG]
 kernel_rfl
