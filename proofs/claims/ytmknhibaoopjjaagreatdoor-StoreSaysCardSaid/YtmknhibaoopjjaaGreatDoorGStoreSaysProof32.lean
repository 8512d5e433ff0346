/- Texts View, View2, ScanL, SlF of this claim, laid together. -/
import Derived.Test.YtmknhibaoopjjaaGreatDoorGStoreSaysProof30
import Derived.Test.YtmknhibaoopjjaaGreatDoorGStoreSaysProof19
import Derived.Test.YtmknhibaoopjjaaGreatDoorGStoreSaysProof26
import Derived.Test.YtmknhibaoopjjaaGreatDoorGStoreSaysProof11
import Derived.Test.YtmknhibaoopjjaaGreatDoorGStoreSaysProof31
set_option linter.unusedVariables false
set_option linter.unusedSimpArgs false
namespace Go.Proofs.YtmknhibaoopjjaaGreatDoor
open Go.RowKit
end Go.Proofs.YtmknhibaoopjjaaGreatDoor
namespace Go.Proofs.YtmknhibaoopjjaaGreatDoor
open Go.RowKit
end Go.Proofs.YtmknhibaoopjjaaGreatDoor
namespace Go.Proofs.YtmknhibaoopjjaaGreatDoor
open Go.RowKit
end Go.Proofs.YtmknhibaoopjjaaGreatDoor
namespace Go.Proofs.YtmknhibaoopjjaaGreatDoor
open Go.RowKit
end Go.Proofs.YtmknhibaoopjjaaGreatDoor
