/- Texts View, View2, ScanL, SlF of this claim, laid together. -/
import Derived.Test.YtmknhibaoopjjaaGreatDoorGTopCrashProof30
import Derived.Test.YtmknhibaoopjjaaGreatDoorGTopCrashProof19
import Derived.Test.YtmknhibaoopjjaaGreatDoorGTopCrashProof26
import Derived.Test.YtmknhibaoopjjaaGreatDoorGTopCrashProof11
import Derived.Test.YtmknhibaoopjjaaGreatDoorGTopCrashProof31
set_option linter.unusedVariables false
set_option linter.unusedSimpArgs false
namespace Go.Proofs.YtmknhibaoopjjaaGreatDoor
open Go.RowKit
end Go.Proofs.YtmknhibaoopjjaaGreatDoor
namespace Go.Proofs.YtmknhibaoopjjaaGreatDoor
open Go.RowKit
end Go.Proofs.YtmknhibaoopjjaaGreatDoor
namespace Go.Proofs.YtmknhibaoopjjaaGreatDoor
open Go.RowKit
end Go.Proofs.YtmknhibaoopjjaaGreatDoor
namespace Go.Proofs.YtmknhibaoopjjaaGreatDoor
open Go.RowKit
end Go.Proofs.YtmknhibaoopjjaaGreatDoor
