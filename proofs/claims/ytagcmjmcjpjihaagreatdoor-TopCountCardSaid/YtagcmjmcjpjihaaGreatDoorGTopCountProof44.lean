/- TopCount answers true for all inputs, where the listed variables read as the program's text lays them; the card ties that. Condition: laid. -/
import Derived.Test.YtagcmjmcjpjihaaGreatDoorGTopCountProof43
import Derived.Test.YtagcmjmcjpjihaaGreatDoorGTopCountProof2
import Derived.Test.YtagcmjmcjpjihaaGreatDoorGTopCountProof3
import Derived.Test.YtagcmjmcjpjihaaGreatDoorGTopCountProof20
import Derived.Test.YtagcmjmcjpjihaaGreatDoorTie
import Derived.Test.YtagcmjmcjpjihaaGreatDoorCards
import Derived.ProofKit
import Derived.LaidMore
import Derived.SevenTiedAt
set_option linter.unusedVariables false
set_option linter.unusedSimpArgs false
namespace Go.Proofs.YtagcmjmcjpjihaaGreatDoor
open Go.ChangeShapes Go.WideShapes Go.ChangeAt Go.RowKit Go.Joins
open Go.ChangeMaps (open_string)
/-- The row. -/
theorem topCount_row : Rows.TopCountSaid :=
  OpenClaim.holds_of_wide 5 Tryz.f5 rfl rfl rfl rfl rfl rfl rfl ⟨rfl, rfl, rfl, rfl, rfl⟩ rfl rfl rfl rfl rfl (by kernel_rfl) Tryz.func5 topCount_closed
    (of_decide_eq_true (by kernel_rfl)) (by unfold Func.isWrapper; rw [if_neg (of_decide_eq_false (by kernel_rfl))]; exact ⟨rfl, rfl⟩)
    (fun os started H enc _ => topCount_lifted os started H enc)
/-- The statement: the card. -/
theorem topCount_holds : Rows.TopCountCardSaid :=
  Claim7.holds_tied_plain_at .later [] [.data, .data, .data, .sentinel, .sentinel] true (true, "4a548a5d3d865c623c3d7ee30dc28921563fafcde956ef2fc92a08077a1b205e") true
    topCount_row (fun _ h => by cases h) topCount_f1 (fun _ h => by cases h) topCount_row_tie rfl ⟨rfl, rfl⟩ topCount_f4 rfl
    (fun f fn hf hfn => by
      obtain rfl : f = 5 := Option.some.inj ((show Tryz.prog.funcNamed "haywain/haywaintop.TopCount" = some 5 by kernel_rfl).symm.trans hf) |>.symm
      obtain rfl : fn = Tryz.f5 := (Option.some.inj (Tryz.func5.symm.trans hfn)).symm
      exact ⟨topCount_f2, fun j t ht => by
        rw [Tryz.params5] at ht
        have hm : t ∈ [78] := by simpa using Array.mem_of_getElem? ht
        have hall : (([78] : List TypeId).all fun u => !Tryz.prog.wantsStandIn u) = true := by kernel_rfl
        exact (show Tryz.prog.wantsStandIn t = false by simpa using List.all_eq_true.1 hall t hm)⟩)
    topCount_f3
end Go.Proofs.YtagcmjmcjpjihaaGreatDoor
