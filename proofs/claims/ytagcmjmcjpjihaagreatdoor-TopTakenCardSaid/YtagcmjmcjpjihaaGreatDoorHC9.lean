/- Texts Err of this claim, laid together. -/
import Derived.Test.YtagcmjmcjpjihaaGreatDoorHC3
import Derived.Test.YtagcmjmcjpjihaaGreatDoorHC6
import Derived.Test.YtagcmjmcjpjihaaGreatDoorProg
set_option linter.unusedVariables false
set_option linter.unusedSimpArgs false
namespace Go.Proofs.YtagcmjmcjpjihaaGreatDoor
open Go.RowKit
theorem retB {a b:Bool} (h:a=b):Ending.returned (.bool a)=.returned (.bool b):=by rw [h]
def errV (n:Nat):Value:=if n=0 then .nilIface else .iface 124 (.int .i64 n)
@[go_sem] theorem Tryz.errAssert (v:Value) (w:World):(Instr.typeAssert (.iface 124 v) 42 124 true).run Tryz.prog w=.ok (.tuple #[v,.bool true]) w:=by
 simp [Instr.typeAssert,run_underlying Tryz.underlying124]
