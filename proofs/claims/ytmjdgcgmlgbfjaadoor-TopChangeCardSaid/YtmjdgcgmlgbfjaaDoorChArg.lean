/- Changes among the arguments, read. -/
import Derived.Test.YtmjdgcgmlgbfjaaDoorRead2
import Derived.Test.YtmjdgcgmlgbfjaaDoorDoor
import Derived.Test.YtmjdgcgmlgbfjaaDoorCh
set_option linter.unusedVariables false
set_option linter.unusedSimpArgs false
namespace Go.Proofs.YtmjdgcgmlgbfjaaDoor
open Go.ChangeShapes Go.WideShapes Go.ChangeAt Go.RowKit Go.Joins
open Go.ChangeMaps (open_string)
section
variable {H : Type} {enc : TypeId × Value → H} {w : World} {base : Nat} {spare : Nat → Bool} {held : Bool}
set_option maxRecDepth 100000 in
theorem change_row {n : Nat} {r : List Value} {y : DataW H × List MemPlace} (h : DataW.trod enc Tryd.prog w base spare held n 60 r = some y) : ∃ s : Ch, r = [.string s.key, .string s.val, .bool s.gone] := by
  obtain ⟨hl, hf⟩ := struct_row Tryd.underlying60 (by kernel_rfl) h
  match r, hl with
  | [c0, c1, c2], _ =>
    obtain ⟨_, _, h0⟩ := hf 0 _ (by simp) rfl
    obtain ⟨_, _, h1⟩ := hf 1 _ (by simp) rfl
    obtain ⟨_, _, h2⟩ := hf 2 _ (by simp) rfl
    obtain ⟨x0, e0, _, _⟩ := DataW.trod_string Tryd.underlying9 h0
    obtain ⟨x1, e1, _, _⟩ := DataW.trod_string Tryd.underlying9 h1
    obtain ⟨x2, e2, _⟩ := DataW.trod_bool Tryd.underlying4 h2
    simp at e0 e1 e2
    exact ⟨⟨x0, x1, x2⟩, by rw [e0, e1, e2]⟩
theorem changes_of {n : Nat} {cs : List Value} {y : DataW H × List MemPlace} (h : DataW.trod enc Tryd.prog w base spare held n 58 cs = some y) :
    ∃ a cap, ∃ l : List Ch, cs = [.slice a l.length cap] ∧ l.length ≤ maxLen ∧ ChAt w a l := by
  obtain ⟨a, cap, rows, rfl, h1, h2, h3, h4⟩ := slice_rows (sz := 3) Tryd.underlying58 (by kernel_rfl) (by omega) h
  obtain ⟨l, rfl⟩ := map_of (f := fun s : Ch => [Value.string s.key, Value.string s.val, Value.bool s.gone]) fun r hr => by obtain ⟨_, n, y, hy⟩ := h4 r hr; exact change_row hy
  refine ⟨a, cap, l, by simp, by simp at h1; omega, ChAt.of (h3.imp (by simp) fun ⟨b, off, ha, hc⟩ => ⟨b, off, ha, fun i hi => ?_⟩)⟩
  have g0 := hc i (by simpa using hi) 0 (by simp)
  have g1 := hc i (by simpa using hi) 1 (by simp)
  have g2 := hc i (by simpa using hi) 2 (by simp)
  simp at g0 g1 g2
  exact ⟨g0, g1, g2⟩
set_option maxRecDepth 100000 in
theorem changes_arg {b0 : Nat} {v : Value} {d : DataW H} {p : List MemPlace} (hv : Value.okWide Tryd.prog w .any b0 58 v) (h : DataW.Trod enc Tryd.prog w base spare held 58 v d p) :
    ∃ a cap, ∃ l : List Ch, v = .slice a l.length cap ∧ l.length ≤ maxLen ∧ ChAt w a l := by
  obtain ⟨a0, len, cap0, rfl⟩ := okWide_slice Tryd.underlying58 hv
  obtain ⟨n, hf⟩ := h
  obtain ⟨a, cap, l, hcs, h1, h2⟩ := changes_of hf
  simp only [Value.cells, List.cons.injEq, Value.slice.injEq, and_true] at hcs
  obtain ⟨rfl, rfl, rfl⟩ := hcs
  exact ⟨a0, cap0, l, rfl, h1, h2⟩
set_option maxRecDepth 100000 in
theorem change_arg {b0 : Nat} {v : Value} {d : DataW H} {p : List MemPlace} (hv : Value.okWide Tryd.prog w .any b0 60 v) (h : DataW.Trod enc Tryd.prog w base spare held 60 v d p) :
    ∃ c : Ch, v = c.v := by
  obtain ⟨a0, a1, a2, y0, y1, y2, m, rfl, _, _, hy0, hy1, hy2⟩ := open_agg3 Tryd.underlying60 (by kernel_rfl) (by kernel_rfl) hv h
  obtain ⟨x0, e0, _, _⟩ := DataW.trod_string Tryd.underlying9 hy0
  obtain ⟨x1, e1, _, _⟩ := DataW.trod_string Tryd.underlying9 hy1
  obtain ⟨x2, e2, _⟩ := DataW.trod_bool Tryd.underlying4 hy2
  simp only [List.cons.injEq, and_true] at e0 e1 e2
  exact ⟨⟨x0, x1, x2⟩, by rw [e0, e1, e2]; rfl⟩
end
end Go.Proofs.YtmjdgcgmlgbfjaaDoor
