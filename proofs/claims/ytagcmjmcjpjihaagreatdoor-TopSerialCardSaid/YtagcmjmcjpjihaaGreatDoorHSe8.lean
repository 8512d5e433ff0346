/- TopSerial answers true for all inputs, where the listed variables read as the program's text lays them; the card ties that. Condition: laid. -/
import Derived.Test.YtagcmjmcjpjihaaGreatDoorHSe7
import Derived.Test.YtagcmjmcjpjihaaGreatDoorHSe1
import Derived.Test.YtagcmjmcjpjihaaGreatDoorHSe2
set_option linter.unusedVariables false
set_option linter.unusedSimpArgs false
namespace Go.Proofs.YtagcmjmcjpjihaaGreatDoor
open Go.ChangeShapes Go.WideShapes Go.ChangeAt Go.RowKit Go.Joins
open Go.ChangeMaps (open_string)
theorem topSerial_row:Rows.TopSerialSaid:=
 OpenClaim.holds_of_wide 10 Tryz.f10 rfl rfl rfl rfl rfl rfl rfl ⟨rfl,rfl,rfl,rfl,rfl⟩ rfl rfl rfl rfl rfl (by kernel_rfl) Tryz.func10 zHy
  (of_decide_eq_true (by kernel_rfl)) (by unfold Func.isWrapper;rw [if_neg (of_decide_eq_false (by kernel_rfl))];exact ⟨rfl,rfl⟩)
  (fun os started H enc _=>zIC os started H enc)
theorem topSerial_holds:Rows.TopSerialCardSaid:=
 Claim7.holds_tied_plain_at .later [] [.data, .data, .data, .data, .sentinel, .sentinel, .pinned] true (true, "4a548a5d3d865c623c3d7ee30dc28921563fafcde956ef2fc92a08077a1b205e") true
  topSerial_row (fun _ h=>by cases h) zLS (fun _ h=>by cases h) topSerial_row_tie rfl ⟨rfl,rfl⟩ zMc rfl
  (fun f fn hf hfn=>by
   obtain rfl : f = 10 := Option.some.inj ((show Tryz.prog.funcNamed "haywain/haywaintop.TopSerial" = some 10 by kernel_rfl).symm.trans hf) |>.symm
   obtain rfl:fn=Tryz.f10:=(Option.some.inj (Tryz.func10.symm.trans hfn)).symm;exact ⟨zMx,fun j t ht=>by
    rw [Tryz.params10] at ht;have hm:t∈[22]:=by simpa using Array.mem_of_getElem? ht
    have hall:(([22]:List TypeId).all fun u=>!Tryz.prog.wantsStandIn u)=true:=by kernel_rfl
    exact (show Tryz.prog.wantsStandIn t=false by simpa using List.all_eq_true.1 hall t hm)⟩)
  zMf
