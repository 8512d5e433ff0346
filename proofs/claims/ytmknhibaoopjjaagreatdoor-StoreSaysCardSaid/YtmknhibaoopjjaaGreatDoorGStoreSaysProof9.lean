/- Texts Err of this claim, laid together. -/
import Derived.Test.YtmknhibaoopjjaaGreatDoorGStoreSaysProof3
import Derived.Test.YtmknhibaoopjjaaGreatDoorGStoreSaysProof6
import Derived.Test.YtmknhibaoopjjaaGreatDoorProg
set_option linter.unusedVariables false
set_option linter.unusedSimpArgs false
namespace Go.Proofs.YtmknhibaoopjjaaGreatDoor
open Go.RowKit
theorem retB {a b : Bool} (h : a = b) : Ending.returned (.bool a) = .returned (.bool b) := by rw [h]
/-- An error by its number; 0: none. -/
def errV (n : Nat) : Value := if n = 0 then .nilIface else .iface 127 (.int .i64 n)
@[go_sem] theorem Tryz.errAssert (v : Value) (w : World) : (Instr.typeAssert (.iface 127 v) 42 127 true).run Tryz.prog w = .ok (.tuple #[v, .bool true]) w := by
  simp [Instr.typeAssert, run_underlying Tryz.underlying127]
set_option maxHeartbeats 1000000 in
set_option maxRecDepth 100000 in
theorem same_any (n f : Nat) (w : World) (hn : n ≤ 1000) (hf : f ≤ 1000) : Calls Tryz.prog 19 #[errV n, .int .i64 f] w fun e w' => e = .returned (.bool (n == f)) ∧ w' = w := by
  cases n with
  | zero =>
    rw [show errV 0 = .nilIface from rfl]
    go_enter Tryz.func19, Tryz.ntmps19
    go_wp2
    go_ret
    refine ⟨retB ?_, rfl⟩
    cases f <;> simp <;> omega
  | succ n =>
    rw [show errV (n + 1) = .iface 127 (.int .i64 ((n + 1 : Nat) : Int)) from rfl]
    generalize hm : n + 1 = m at *
    have hm0 : 0 < m := by omega
    clear hm
    by_cases hmf : m = f
    · subst hmf
      rw [show (m == m) = true from by simp]
      go_enter Tryz.func19, Tryz.ntmps19
      go_wp2
      all_goals (go_ret; refine ⟨retB ?_, rfl⟩; simp; try omega)
    · rw [show (m == f) = false from by simpa using hmf]
      have hmf2 : ((m : Int) == (f : Int)) = false := by simp; omega
      go_enter Tryz.func19, Tryz.ntmps19
      go_wp2
      all_goals (go_ret; refine ⟨retB ?_, rfl⟩; simp; try omega)
end Go.Proofs.YtmknhibaoopjjaaGreatDoor
