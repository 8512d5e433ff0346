/- TopTaken answers true for all inputs, where the listed variables read as the program's text lays them; the card ties that. Condition: laid. -/
import Derived.Test.YtagcmjmcjpjihaaGreatDoorHTa12
import Derived.Test.YtagcmjmcjpjihaaGreatDoorHTa1
import Derived.Test.YtagcmjmcjpjihaaGreatDoorHTa2
set_option linter.unusedVariables false
set_option linter.unusedSimpArgs false
namespace Go.Proofs.YtagcmjmcjpjihaaGreatDoor
open Go.ChangeShapes Go.WideShapes Go.ChangeAt Go.RowKit Go.Joins
open Go.ChangeMaps (open_string)
theorem topTaken_row:Rows.TopTakenSaid:=
 OpenClaim.holds_of_wide 6 Tryz.f6 rfl rfl rfl rfl rfl rfl rfl ⟨rfl,rfl,rfl,rfl,rfl⟩ rfl rfl rfl rfl rfl (by kernel_rfl) Tryz.func6 zUV
  (of_decide_eq_true (by kernel_rfl)) (by unfold Func.isWrapper;rw [if_neg (of_decide_eq_false (by kernel_rfl))];exact ⟨rfl,rfl⟩)
  (fun os started H enc _=>zUW os started H enc)
theorem topTaken_holds:Rows.TopTakenCardSaid:=
 Claim7.holds_tied_plain_at .later [] [.data, .data, .data, .data, .sentinel, .sentinel, .pinned] true (true, "4a548a5d3d865c623c3d7ee30dc28921563fafcde956ef2fc92a08077a1b205e") true
  topTaken_row (fun _ h=>by cases h) zUn (fun _ h=>by cases h) topTaken_row_tie rfl ⟨rfl,rfl⟩ zUq rfl
  (fun f fn hf hfn=>by
   obtain rfl : f = 6 := Option.some.inj ((show Tryz.prog.funcNamed "haywain/haywaintop.TopTaken" = some 6 by kernel_rfl).symm.trans hf) |>.symm
   obtain rfl:fn=Tryz.f6:=(Option.some.inj (Tryz.func6.symm.trans hfn)).symm;exact ⟨zUo,fun j t ht=>by
    rw [Tryz.params6] at ht;have hm:t∈[3,78]:=by simpa using Array.mem_of_getElem? ht
    have hall:(([3,78]:List TypeId).all fun u=>!Tryz.prog.wantsStandIn u)=true:=by kernel_rfl
    exact (show Tryz.prog.wantsStandIn t=false by simpa using List.all_eq_true.1 hall t hm)⟩)
  zUp
