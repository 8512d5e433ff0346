/- Texts DoorE+ of this claim, laid together. -/
import Derived.Test.YtagcmjmcjpjihaaGreatDoorHC33
set_option linter.unusedVariables false
set_option linter.unusedSimpArgs false
set_option maxHeartbeats 8000000
set_option maxRecDepth 100000
namespace Go.Proofs.YtagcmjmcjpjihaaGreatDoor
open Go.ChangeShapes Go.WideShapes Go.ChangeAt Go.RowKit Go.Joins
open Go.ChangeMaps (open_string)
section
variable {H:Type} {enc:TypeId×Value→H}
end
section
variable {H:Type} {enc:TypeId×Value→H} {w:World} {base:Nat} {spare:Nat→Bool} {held:Bool}
theorem zUs {b0:Nat} {v:Value} {d:DataW H} {p:List MemPlace} (hv:Value.okWide Tryz.prog w .any b0 3 v) (h:DataW.Trod enc Tryz.prog w base spare held 3 v d p) :
 ∃n:Int,v=.int .i64 n∧(Lit.int .i64 n).wf=true:=by
 obtain ⟨n,rfl⟩:=okWide_int Tryz.underlying3 hv;obtain ⟨_,hf⟩:=h;obtain ⟨m,e,_,hw⟩:=DataW.trod_int Tryz.underlying3 hf;simp [Value.cells] at e;exact ⟨n,rfl,by rw [e];exact hw⟩
end
