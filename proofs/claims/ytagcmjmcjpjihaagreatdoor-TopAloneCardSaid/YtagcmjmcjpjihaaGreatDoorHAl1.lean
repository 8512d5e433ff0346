/- Texts TopAloneClosed of this claim, laid together. -/
import Derived.Test.YtagcmjmcjpjihaaGreatDoorRows
import Derived.ProofKit
import Derived.LaidMore
set_option linter.unusedVariables false
set_option linter.unusedSimpArgs false
namespace Go.Proofs.YtagcmjmcjpjihaaGreatDoor
open Go.ChangeShapes Go.WideShapes Go.ChangeAt Go.RowKit
open Go.ChangeMaps (open_string)
theorem zHk:(Rows.topAloneRow.inPlace==Tryz.pinned.checked.prog.inPlace 7)=true:=by kernel_rfl
theorem zID:(Rows.topAloneRow.unfollowed==Tryz.pinned.checked.prog.unfollowed 7)=true:=by kernel_rfl
theorem zHw:(Rows.topAloneRow.recurses==Tryz.pinned.checked.prog.recurses 7)=true:=by kernel_rfl
theorem zIH:(Rows.topAloneRow.named==Tryz.pinned.checked.prog.varsNamed 7)=true:=by kernel_rfl
theorem zIU:joinedFacts Tryz.pinned.checked.prog 7 Tryz.f7 Rows.topAloneSpec Rows.topAloneRow=true:=by
 unfold joinedFacts;rw [zHk,zID,zHw,zIH]
 kernel_rfl
