/- Texts SameB of this claim, laid together. -/
import Derived.Test.YtagcmjmcjpjihaaGreatDoorHC31
set_option linter.unusedVariables false
set_option linter.unusedSimpArgs false
namespace Go.Proofs.YtagcmjmcjpjihaaGreatDoor
open Go.RowKit
