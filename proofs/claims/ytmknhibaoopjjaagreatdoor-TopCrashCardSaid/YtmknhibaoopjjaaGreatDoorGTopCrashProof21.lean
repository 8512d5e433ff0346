/- Texts ReadActs, Args2 of this claim, laid together. -/
import Derived.Test.YtmknhibaoopjjaaGreatDoorGTopCrashProof20
import Derived.Test.YtmknhibaoopjjaaGreatDoorGTopCrashProof13
import Derived.Test.YtmknhibaoopjjaaGreatDoorGTopCrashProof2
import Derived.ProofKit
namespace Go.Proofs.YtmknhibaoopjjaaGreatDoor
open Go.ChangeShapes Go.WideShapes Go.ChangeAt Go.RowKit Go.Joins
open Go.ChangeMaps (open_string)
section
variable {H : Type} {enc : TypeId × Value → H} {w : World} {base : Nat} {spare : Nat → Bool} {held : Bool}
set_option maxRecDepth 100000 in
theorem change_row {n : Nat} {r : List Value} {y : DataW H × List MemPlace} (h : DataW.trod enc Tryz.prog w base spare held n 46 r = some y) : ∃ s : Ch, r = [.string s.key, .string s.val, .bool s.gone] := by
  obtain ⟨hl, hf⟩ := struct_row Tryz.underlying46 (by kernel_rfl) h
  match r, hl with
  | [c0, c1, c2], _ =>
    obtain ⟨_, _, h0⟩ := hf 0 _ (by simp) rfl
    obtain ⟨_, _, h1⟩ := hf 1 _ (by simp) rfl
    obtain ⟨_, _, h2⟩ := hf 2 _ (by simp) rfl
    obtain ⟨x0, e0, _, _⟩ := DataW.trod_string Tryz.underlying9 h0
    obtain ⟨x1, e1, _, _⟩ := DataW.trod_string Tryz.underlying9 h1
    obtain ⟨x2, e2, _⟩ := DataW.trod_bool Tryz.underlying4 h2
    simp at e0 e1 e2
    exact ⟨⟨x0, x1, x2⟩, by rw [e0, e1, e2]⟩
theorem changes_of {n : Nat} {cs : List Value} {y : DataW H × List MemPlace} (h : DataW.trod enc Tryz.prog w base spare held n 32 cs = some y) :
    ∃ a cap, ∃ l : List Ch, cs = [.slice a l.length cap] ∧ l.length ≤ maxLen ∧ ChangesAt w a l := by
  obtain ⟨a, cap, rows, rfl, h1, h2, h3, h4⟩ := slice_rows (sz := 3) Tryz.underlying32 (by kernel_rfl) (by omega) h
  obtain ⟨l, rfl⟩ := map_of (f := fun s : Ch => [Value.string s.key, Value.string s.val, Value.bool s.gone]) fun r hr => by obtain ⟨_, n, y, hy⟩ := h4 r hr; exact change_row hy
  refine ⟨a, cap, l, by simp, by simp at h1; omega, h3.imp (by simp) fun ⟨b, off, ha, hc⟩ => ⟨b, off, ha, fun i hi => ?_⟩⟩
  have g0 := hc i (by simpa using hi) 0 (by simp)
  have g1 := hc i (by simpa using hi) 1 (by simp)
  have g2 := hc i (by simpa using hi) 2 (by simp)
  simp at g0 g1 g2
  exact ⟨g0, g1, g2⟩
set_option maxRecDepth 100000 in
theorem int_arg {b0 : Nat} {v : Value} {d : DataW H} {p : List MemPlace} (hv : Value.okWide Tryz.prog w .any b0 3 v) (h : DataW.Trod enc Tryz.prog w base spare held 3 v d p) :
    ∃ n : Int, v = .int .i64 n ∧ (Lit.int .i64 n).wf = true := by
  obtain ⟨n, rfl⟩ := okWide_int Tryz.underlying3 hv
  obtain ⟨_, hf⟩ := h
  obtain ⟨m, e, _, hw⟩ := DataW.trod_int Tryz.underlying3 hf
  simp [Value.cells] at e
  exact ⟨n, rfl, by rw [e]; exact hw⟩
set_option maxRecDepth 100000 in
theorem u64_arg {b0 : Nat} {v : Value} {d : DataW H} {p : List MemPlace} (hv : Value.okWide Tryz.prog w .any b0 37 v) (h : DataW.Trod enc Tryz.prog w base spare held 37 v d p) :
    ∃ n : Int, v = .int .u64 n ∧ 0 ≤ n ∧ n < 18446744073709551616 := by
  obtain ⟨n, rfl⟩ := okWide_int Tryz.underlying37 hv
  obtain ⟨_, hf⟩ := h
  obtain ⟨m, e, _, hw⟩ := DataW.trod_int Tryz.underlying37 hf
  simp [Value.cells] at e
  subst e
  simp only [Lit.wf, Bool.and_eq_true, decide_eq_true_eq] at hw
  exact ⟨n, rfl, hw.1, Int.lt_of_le_of_lt hw.2 (by decide)⟩
end
end Go.Proofs.YtmknhibaoopjjaaGreatDoor
set_option linter.unusedVariables false
set_option linter.unusedSimpArgs false
namespace Go.Proofs.YtmknhibaoopjjaaGreatDoor
open Go.ChangeShapes Go.RowKit Go.WideShapes
open Go.ChangeMaps (open_string)
section
variable {H : Type} {enc : TypeId × Value → H} {P : Program} {w : World} {base : Nat} {spare : Nat → Bool} {held : Bool}
end
section
variable {H : Type} {enc : TypeId × Value → H} {w : World} {base : Nat} {spare : Nat → Bool} {held : Bool}
end
end Go.Proofs.YtmknhibaoopjjaaGreatDoor
