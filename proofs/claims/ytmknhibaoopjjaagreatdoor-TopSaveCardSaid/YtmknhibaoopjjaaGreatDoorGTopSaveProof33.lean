/- Texts View, View2, ScanL, SlF of this claim, laid together. -/
import Derived.Test.YtmknhibaoopjjaaGreatDoorGTopSaveProof30
import Derived.Test.YtmknhibaoopjjaaGreatDoorGTopSaveProof19
import Derived.Test.YtmknhibaoopjjaaGreatDoorGTopSaveProof26
import Derived.Test.YtmknhibaoopjjaaGreatDoorGTopSaveProof11
import Derived.Test.YtmknhibaoopjjaaGreatDoorGTopSaveProof31
set_option linter.unusedVariables false
set_option linter.unusedSimpArgs false
namespace Go.Proofs.YtmknhibaoopjjaaGreatDoor
open Go.RowKit
end Go.Proofs.YtmknhibaoopjjaaGreatDoor
namespace Go.Proofs.YtmknhibaoopjjaaGreatDoor
open Go.RowKit
end Go.Proofs.YtmknhibaoopjjaaGreatDoor
namespace Go.Proofs.YtmknhibaoopjjaaGreatDoor
open Go.RowKit
end Go.Proofs.YtmknhibaoopjjaaGreatDoor
namespace Go.Proofs.YtmknhibaoopjjaaGreatDoor
open Go.RowKit
end Go.Proofs.YtmknhibaoopjjaaGreatDoor
