/- Texts TopBlindClosed of this claim, laid together. -/
import Derived.Test.YtagcmjmcjpjihaaGreatDoorRows
import Derived.ProofKit
import Derived.LaidMore
set_option linter.unusedVariables false
set_option linter.unusedSimpArgs false
namespace Go.Proofs.YtagcmjmcjpjihaaGreatDoor
open Go.ChangeShapes Go.WideShapes Go.ChangeAt Go.RowKit
open Go.ChangeMaps (open_string)
theorem zH0:(Rows.topBlindRow.inPlace==Tryz.pinned.checked.prog.inPlace 9)=true:=by kernel_rfl
theorem zIS:(Rows.topBlindRow.unfollowed==Tryz.pinned.checked.prog.unfollowed 9)=true:=by kernel_rfl
theorem zIK:(Rows.topBlindRow.recurses==Tryz.pinned.checked.prog.recurses 9)=true:=by kernel_rfl
theorem zH4:(Rows.topBlindRow.named==Tryz.pinned.checked.prog.varsNamed 9)=true:=by kernel_rfl
theorem zIc:joinedFacts Tryz.pinned.checked.prog 9 Tryz.f9 Rows.topBlindSpec Rows.topBlindRow=true:=by
 unfold joinedFacts;rw [zH0,zIS,zIK,zH4]
 kernel_rfl
