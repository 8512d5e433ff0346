/- Texts TopTakenFacts of this claim, laid together. -/
import Derived.Test.YtagcmjmcjpjihaaGreatDoorRows
import Derived.ProofKit
import Derived.LaidMore
import Derived.SevenTiedAt
set_option linter.unusedVariables false
set_option linter.unusedSimpArgs false
namespace Go.Proofs.YtagcmjmcjpjihaaGreatDoor
open Go.ChangeShapes Go.WideShapes Go.ChangeAt Go.RowKit
open Go.ChangeMaps (open_string)
theorem zUn:Rows.topTakenRow.wfByText (OpenSpec.ofChange Rows.topTakenSpec)=true:=by kernel_rfl
theorem zUo:true=Tryz.pinned.checked.prog.looks []:=by kernel_rfl
theorem zUp:false=Rows.topTakenRow.goesBy Tryz.pinned.checked.prog:=by kernel_rfl
theorem zUq : Tryz.pinned.checked.prog.mainIs = some (((true, "4a548a5d3d865c623c3d7ee30dc28921563fafcde956ef2fc92a08077a1b205e")).1, ((true, "4a548a5d3d865c623c3d7ee30dc28921563fafcde956ef2fc92a08077a1b205e")).2.toList) := by kernel_rfl
