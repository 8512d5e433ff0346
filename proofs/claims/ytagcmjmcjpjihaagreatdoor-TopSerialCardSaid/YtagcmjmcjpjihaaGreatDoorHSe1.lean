/- Texts TopSerialClosed of this claim, laid together. -/
import Derived.Test.YtagcmjmcjpjihaaGreatDoorRows
import Derived.ProofKit
import Derived.LaidMore
set_option linter.unusedVariables false
set_option linter.unusedSimpArgs false
namespace Go.Proofs.YtagcmjmcjpjihaaGreatDoor
open Go.ChangeShapes Go.WideShapes Go.ChangeAt Go.RowKit
open Go.ChangeMaps (open_string)
theorem zHJ:(Rows.topSerialRow.inPlace==Tryz.pinned.checked.prog.inPlace 10)=true:=by kernel_rfl
theorem zHL:(Rows.topSerialRow.unfollowed==Tryz.pinned.checked.prog.unfollowed 10)=true:=by kernel_rfl
theorem zHD:(Rows.topSerialRow.recurses==Tryz.pinned.checked.prog.recurses 10)=true:=by kernel_rfl
theorem zHK:(Rows.topSerialRow.named==Tryz.pinned.checked.prog.varsNamed 10)=true:=by kernel_rfl
theorem zHy:joinedFacts Tryz.pinned.checked.prog 10 Tryz.f10 Rows.topSerialSpec Rows.topSerialRow=true:=by
 unfold joinedFacts;rw [zHJ,zHL,zHD,zHK]
 kernel_rfl
