/- Texts Ver4 of this claim, laid together. -/
import Derived.Test.YtmknhibaoopjjaaGreatDoorGTopCrashProof17
import Derived.Test.YtmknhibaoopjjaaGreatDoorGTopCrashProof27
set_option linter.unusedVariables false
set_option linter.unusedSimpArgs false
namespace Go.Proofs.YtmknhibaoopjjaaGreatDoor
open Go.RowKit
def putV (n : Nat) : List (ByteArray × List Vn) → Ch → List (ByteArray × List Vn)
  | [], c => [(c.key, [⟨n, c.val, c.gone⟩])]
  | e :: V, c => if e.1 = c.key then (e.1, e.2 ++ [⟨n, c.val, c.gone⟩]) :: V else e :: putV n V c
end Go.Proofs.YtmknhibaoopjjaaGreatDoor
