/- Texts TopTakenClosed of this claim, laid together. -/
import Derived.Test.YtagcmjmcjpjihaaGreatDoorRows
import Derived.ProofKit
import Derived.LaidMore
set_option linter.unusedVariables false
set_option linter.unusedSimpArgs false
namespace Go.Proofs.YtagcmjmcjpjihaaGreatDoor
open Go.ChangeShapes Go.WideShapes Go.ChangeAt Go.RowKit
open Go.ChangeMaps (open_string)
theorem zUN:(Rows.topTakenRow.inPlace==Tryz.pinned.checked.prog.inPlace 6)=true:=by kernel_rfl
theorem zUO:(Rows.topTakenRow.unfollowed==Tryz.pinned.checked.prog.unfollowed 6)=true:=by kernel_rfl
theorem zUP:(Rows.topTakenRow.recurses==Tryz.pinned.checked.prog.recurses 6)=true:=by kernel_rfl
theorem zUQ:(Rows.topTakenRow.named==Tryz.pinned.checked.prog.varsNamed 6)=true:=by kernel_rfl
theorem zUV:joinedFacts Tryz.pinned.checked.prog 6 Tryz.f6 Rows.topTakenSpec Rows.topTakenRow=true:=by
 unfold joinedFacts;rw [zUN,zUO,zUP,zUQ]
 kernel_rfl
