/- Texts ReadActs, Args2 of this claim, laid together. -/
import Derived.Test.YtmknhibaoopjjaaGreatDoorGTopFifoProof17
import Derived.Test.YtmknhibaoopjjaaGreatDoorGTopFifoProof12
import Derived.Test.YtmknhibaoopjjaaGreatDoorGTopFifoProof2
import Derived.ProofKit
namespace Go.Proofs.YtmknhibaoopjjaaGreatDoor
open Go.ChangeShapes Go.WideShapes Go.ChangeAt Go.RowKit Go.Joins
open Go.ChangeMaps (open_string)
section
variable {H : Type} {enc : TypeId × Value → H} {w : World} {base : Nat} {spare : Nat → Bool} {held : Bool}
set_option maxRecDepth 100000 in
theorem int_arg {b0 : Nat} {v : Value} {d : DataW H} {p : List MemPlace} (hv : Value.okWide Tryz.prog w .any b0 3 v) (h : DataW.Trod enc Tryz.prog w base spare held 3 v d p) :
    ∃ n : Int, v = .int .i64 n ∧ (Lit.int .i64 n).wf = true := by
  obtain ⟨n, rfl⟩ := okWide_int Tryz.underlying3 hv
  obtain ⟨_, hf⟩ := h
  obtain ⟨m, e, _, hw⟩ := DataW.trod_int Tryz.underlying3 hf
  simp [Value.cells] at e
  exact ⟨n, rfl, by rw [e]; exact hw⟩
end
end Go.Proofs.YtmknhibaoopjjaaGreatDoor
set_option linter.unusedVariables false
set_option linter.unusedSimpArgs false
namespace Go.Proofs.YtmknhibaoopjjaaGreatDoor
open Go.ChangeShapes Go.RowKit Go.WideShapes
open Go.ChangeMaps (open_string)
section
variable {H : Type} {enc : TypeId × Value → H} {P : Program} {w : World} {base : Nat} {spare : Nat → Bool} {held : Bool}
end
section
variable {H : Type} {enc : TypeId × Value → H} {w : World} {base : Nat} {spare : Nat → Bool} {held : Bool}
theorem text_row {n : Nat} {r : List Value} {y : DataW H × List MemPlace} (h : DataW.trod enc Tryz.prog w base spare held n 9 r = some y) : ∃ s : ByteArray, r = [.string s] := by
  obtain ⟨s, e, _, _⟩ := DataW.trod_string Tryz.underlying9 h
  exact ⟨s, e⟩
set_option maxRecDepth 100000 in
theorem texts_of {n : Nat} {cs : List Value} {y : DataW H × List MemPlace} (h : DataW.trod enc Tryz.prog w base spare held n 97 cs = some y) :
    ∃ a cap, ∃ l : List ByteArray, cs = [.slice a l.length cap] ∧ l.length ≤ maxLen ∧ ValsAt w a (l.map .string) := by
  obtain ⟨a, cap, rows, rfl, h1, h2, h3, h4⟩ := slice_rows (sz := 1) Tryz.underlying97 (by kernel_rfl) (by omega) h
  obtain ⟨l, rfl⟩ := map_of (f := fun s : ByteArray => [Value.string s]) fun r hr => by obtain ⟨_, n, y, hy⟩ := h4 r hr; exact text_row hy
  refine ⟨a, cap, l, by simp, by simp at h1; omega, h3.imp (by simp) fun ⟨b, off, ha, hc⟩ => ⟨b, off, ha, fun i hi => ?_⟩⟩
  have g0 := hc i (by simpa using hi) 0 (by simp)
  simp at g0 ⊢
  exact g0
set_option maxRecDepth 100000 in
theorem texts_arg {b0 : Nat} {v : Value} {d : DataW H} {p : List MemPlace} (hv : Value.okWide Tryz.prog w .any b0 97 v) (h : DataW.Trod enc Tryz.prog w base spare held 97 v d p) :
    ∃ a cap, ∃ l : List ByteArray, v = .slice a l.length cap ∧ l.length ≤ maxLen ∧ ValsAt w a (l.map .string) := by
  obtain ⟨a0, len, cap, rfl⟩ := okWide_slice Tryz.underlying97 hv
  obtain ⟨n, hf⟩ := h
  obtain ⟨a, cap', l, hcs, h1, h2⟩ := texts_of hf
  simp [Value.cells] at hcs
  obtain ⟨rfl, rfl, rfl⟩ := hcs
  exact ⟨_, _, l, rfl, h1, h2⟩
end
end Go.Proofs.YtmknhibaoopjjaaGreatDoor
