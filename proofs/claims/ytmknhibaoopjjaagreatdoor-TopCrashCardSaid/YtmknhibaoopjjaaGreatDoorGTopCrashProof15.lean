/- Texts At of this claim, laid together. -/
import Derived.RangeFuncNested
import Derived.RangeFuncBound
import Derived.RangeFuncCalls
import Derived.RangeFuncLeaves
import Derived.RangeFuncBox
import Derived.Shelf.Abstract
import Derived.Shelf.RegionOpen
import Derived.WalkKit
import Derived.OwnWalkIn
import Derived.TacticsInMore
import Derived.LoopNIn
import Derived.LoopIn
import Derived.Lib.Hide
import Derived.Test.YtmknhibaoopjjaaGreatDoorGTopCrashProof2
import Derived.Test.YtmknhibaoopjjaaGreatDoorProg
set_option linter.unusedVariables false
set_option linter.unusedSimpArgs false
namespace Go.Proofs.YtmknhibaoopjjaaGreatDoor
open Go.RowKit Go.Shelf
attribute [local go_sem] Oper.semAt_some
/-- A version of a row. -/
structure Vn where
  n : Nat
  val : ByteArray
  gone : Bool
deriving DecidableEq
def verC (v : Vn) : List Value := [.int .i64 v.n, .string v.val, .bool v.gone]
/-- A row as it is behind a deed. -/
def atV (vs : List Vn) (n : Int) : ByteArray × Bool := match vs.reverse.find? (fun v => decide ((v.n : Int) ≤ n)) with
  | some v => (v.val, !v.gone)
  | none => (⟨#[]⟩, false)
/-- None of them is behind deed n; the last one alone is. -/
def NoLe (n : Int) (pre : List (Nat × Vn)) : Prop := ∀ y ∈ pre, ¬ ((y.2.n : Int) ≤ n)
theorem NoLe.snoc {n : Int} {pre : List (Nat × Vn)} {x : Nat × Vn} (h : NoLe n pre) (hx : ¬ ((x.2.n : Int) ≤ n)) : NoLe n (pre ++ [x]) := fun y hy => by
  rcases List.mem_append.1 hy with hy | hy
  · exact h y hy
  · rw [List.mem_singleton.1 hy]; exact hx
end Go.Proofs.YtmknhibaoopjjaaGreatDoor
