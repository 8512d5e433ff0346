/- Texts Span of this claim, laid together. -/
import Derived.Test.YtagcmjmcjpjihaaGreatDoorRows
import Derived.Test.YtagcmjmcjpjihaaGreatDoorGTopCountProof4
import Derived.Test.YtagcmjmcjpjihaaGreatDoorGTopCountProof8
import Derived.WalkSpells
import Derived.WalkLawsBesides
namespace Go.Proofs.YtagcmjmcjpjihaaGreatDoor
open Go.RowKit

/-- A span. -/
structure Sp where
  lo : ByteArray
  hi : ByteArray
def Sp.v (s : Sp) : Value := .agg #[.string s.lo, .string s.hi]
def below (k to : ByteArray) : Bool := to.toList.isEmpty || slt k to
def Sp.has (s : Sp) (k : ByteArray) : Bool := !slt k s.lo && below k s.hi
def Sp.empty (s : Sp) : Bool := !below s.lo s.hi
def toOf (a b : ByteArray) : ByteArray := if a.toList.isEmpty || !b.toList.isEmpty && slt b a then b else a
def Sp.both (a b : Sp) : Sp := ⟨if slt a.lo b.lo then b.lo else a.lo, toOf a.hi b.hi⟩
def Sp.point (k : ByteArray) : Sp := ⟨k, k ++ nul⟩

theorem ret_bool {a b : Bool} (h : a = b) : Ending.returned (.bool a) = .returned (.bool b) := by rw [h]

set_option maxHeartbeats 400000 in
theorem below_any (k to : ByteArray) (w : World) :
    Calls Tryz.prog 206 #[.string k, .string to] w fun e w' => e = .returned (.bool (below k to)) ∧ w' = w := by
  go_enter Tryz.func206, Tryz.ntmps206
  go_wp2
  all_goals (go_ret; refine ⟨?_, rfl⟩; simp [below, slt, *])

set_option maxHeartbeats 400000 in
theorem has_any (lo hi k : ByteArray) (w : World) :
    Calls Tryz.prog 132 #[.agg #[.string lo, .string hi], .string k] w fun e w' => e = .returned (.bool (Sp.has ⟨lo, hi⟩ k)) ∧ Ext w w' := by
  go_enter Tryz.func132, Tryz.ntmps132
  go_wp2_with (go_at_call 206; refine (below_any _ _ _).mono ?_; rintro e w' ⟨rfl, rfl⟩)
  all_goals (go_ret; refine ⟨?_, (Ext.refl _).alloc _⟩; simp [Sp.has, slt, *])

set_option maxHeartbeats 400000 in
theorem point_any (k : ByteArray) (w : World) (hk : k.size ≤ 1000) :
    Calls Tryz.prog 114 #[.string k] w fun e w' => e = .returned (Sp.point k).v ∧ Ext w w' := by
  go_enter Tryz.func114, Tryz.ntmps114
  go_wp2
  refine bodyPost_ret (v := (Sp.point k).v) ?_ rfl ⟨rfl, ?_⟩
  · simp [results, Tryz.results114, go_sem, Sp.v, Sp.point, nul]
  · exact (Ext.refl _).alloc _

end Go.Proofs.YtagcmjmcjpjihaaGreatDoor
