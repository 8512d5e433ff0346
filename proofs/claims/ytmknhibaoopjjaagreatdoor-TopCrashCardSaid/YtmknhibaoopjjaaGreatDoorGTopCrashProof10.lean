/- Texts Span of this claim, laid together. -/
import Derived.Test.YtmknhibaoopjjaaGreatDoorRows
import Derived.Test.YtmknhibaoopjjaaGreatDoorGTopCrashProof2
import Derived.Test.YtmknhibaoopjjaaGreatDoorGTopCrashProof6
import Derived.WalkSpells
import Derived.WalkLawsBesides
namespace Go.Proofs.YtmknhibaoopjjaaGreatDoor
open Go.RowKit

/-- A span. -/
structure Sp where
  lo : ByteArray
  hi : ByteArray
def Sp.v (s : Sp) : Value := .agg #[.string s.lo, .string s.hi]
def below (k to : ByteArray) : Bool := to.toList.isEmpty || slt k to
def Sp.empty (s : Sp) : Bool := !below s.lo s.hi
theorem ret_bool {a b : Bool} (h : a = b) : Ending.returned (.bool a) = .returned (.bool b) := by rw [h]

end Go.Proofs.YtmknhibaoopjjaaGreatDoor
