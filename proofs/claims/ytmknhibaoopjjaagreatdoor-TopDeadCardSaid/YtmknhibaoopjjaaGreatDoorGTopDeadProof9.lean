/- Texts Span of this claim, laid together. -/
import Derived.Test.YtmknhibaoopjjaaGreatDoorRows
import Derived.Test.YtmknhibaoopjjaaGreatDoorGTopDeadProof2
import Derived.Test.YtmknhibaoopjjaaGreatDoorGTopDeadProof6
import Derived.WalkSpells
import Derived.WalkLawsBesides
namespace Go.Proofs.YtmknhibaoopjjaaGreatDoor
open Go.RowKit

/-- A span. -/
structure Sp where
  lo : ByteArray
  hi : ByteArray
def Sp.v (s : Sp) : Value := .agg #[.string s.lo, .string s.hi]
def below (k to : ByteArray) : Bool := to.toList.isEmpty || slt k to
def Sp.empty (s : Sp) : Bool := !below s.lo s.hi
def toOf (a b : ByteArray) : ByteArray := if a.toList.isEmpty || !b.toList.isEmpty && slt b a then b else a
def Sp.both (a b : Sp) : Sp := ⟨if slt a.lo b.lo then b.lo else a.lo, toOf a.hi b.hi⟩
def Sp.point (k : ByteArray) : Sp := ⟨k, k ++ nul⟩

theorem ret_bool {a b : Bool} (h : a = b) : Ending.returned (.bool a) = .returned (.bool b) := by rw [h]

set_option maxHeartbeats 400000 in
theorem both_any (lo hi lo' hi' : ByteArray) (w : World) :
    Calls Tryz.prog 74 #[.agg #[.string lo, .string hi], .agg #[.string lo', .string hi']] w fun e w' => e = .returned (Sp.both ⟨lo, hi⟩ ⟨lo', hi'⟩).v ∧ Ext w w' := by
  go_enter Tryz.func74, Tryz.ntmps74
  go_wp2
  all_goals
    refine bodyPost_run rfl fun K hK => ?_
    simp [results, Tryz.results74, go_sem]
    refine hK _ ⟨congrArg Ending.returned ?_, (((Ext.refl _).alloc _).alloc _).alloc _⟩
    clear hK K
    simp only [Sp.both, Sp.v, toOf, slt]
    grind

set_option maxHeartbeats 400000 in
theorem point_any (k : ByteArray) (w : World) (hk : k.size ≤ 1000) :
    Calls Tryz.prog 75 #[.string k] w fun e w' => e = .returned (Sp.point k).v ∧ Ext w w' := by
  go_enter Tryz.func75, Tryz.ntmps75
  go_wp2
  refine bodyPost_ret (v := (Sp.point k).v) ?_ rfl ⟨rfl, ?_⟩
  · simp [results, Tryz.results75, go_sem, Sp.v, Sp.point, nul]
  · exact (Ext.refl _).alloc _

end Go.Proofs.YtmknhibaoopjjaaGreatDoor
