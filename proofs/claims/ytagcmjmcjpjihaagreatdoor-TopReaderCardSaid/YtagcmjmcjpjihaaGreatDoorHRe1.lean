/- Texts TopReaderClosed of this claim, laid together. -/
import Derived.Test.YtagcmjmcjpjihaaGreatDoorRows
import Derived.ProofKit
import Derived.LaidMore
set_option linter.unusedVariables false
set_option linter.unusedSimpArgs false
namespace Go.Proofs.YtagcmjmcjpjihaaGreatDoor
open Go.ChangeShapes Go.WideShapes Go.ChangeAt Go.RowKit
open Go.ChangeMaps (open_string)
theorem zHI:(Rows.topReaderRow.inPlace==Tryz.pinned.checked.prog.inPlace 8)=true:=by kernel_rfl
theorem zHN:(Rows.topReaderRow.unfollowed==Tryz.pinned.checked.prog.unfollowed 8)=true:=by kernel_rfl
theorem zHP:(Rows.topReaderRow.recurses==Tryz.pinned.checked.prog.recurses 8)=true:=by kernel_rfl
theorem zHQ:(Rows.topReaderRow.named==Tryz.pinned.checked.prog.varsNamed 8)=true:=by kernel_rfl
theorem zH1:joinedFacts Tryz.pinned.checked.prog 8 Tryz.f8 Rows.topReaderSpec Rows.topReaderRow=true:=by
 unfold joinedFacts;rw [zHI,zHN,zHP,zHQ]
 kernel_rfl
