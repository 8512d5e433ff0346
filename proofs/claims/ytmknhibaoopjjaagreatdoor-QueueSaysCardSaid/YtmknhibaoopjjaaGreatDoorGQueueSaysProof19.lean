/- Texts ArgsR of this claim, laid together. -/
import Derived.Test.YtmknhibaoopjjaaGreatDoorGQueueSaysProof18
import Derived.Test.YtmknhibaoopjjaaGreatDoorGQueueSaysProof14
set_option linter.unusedVariables false
set_option linter.unusedSimpArgs false
namespace Go.Proofs.YtmknhibaoopjjaaGreatDoor
open Go.ChangeShapes Go.RowKit Go.WideShapes
open Go.ChangeMaps (open_string)
theorem rows_vals {w : World} {b off : Nat} {l : List Rw} (h : ∀ i (hi : i < l.length), w.cell? ⟨b, off + i * 2, none⟩ = some (.string l[i].key) ∧ w.cell? ⟨b, off + i * 2 + 1, none⟩ = some (.string l[i].val)) : ValsAt w (some ⟨b, off, none⟩) (l.flatMap rwC) := by
  refine .inr ⟨b, off, rfl, fun t ht => ?_⟩
  have hl := flat_len rwC 2 (fun _ => rfl) l
  obtain ⟨q, c, hc, rfl⟩ : ∃ q c, c < 2 ∧ t = q * 2 + c := ⟨t / 2, t % 2, by omega, by omega⟩
  have hq : q < l.length := by omega
  have g := flat_get rwC 2 (fun _ => rfl) l q hq c hc
  rw [List.getElem?_eq_getElem ht] at g
  rw [g, ← Nat.add_assoc]
  rcases (show c = 0 ∨ c = 1 by omega) with rfl | rfl
  · exact (h q hq).1
  · exact (h q hq).2
section
variable {H : Type} {enc : TypeId × Value → H} {w : World} {base : Nat} {spare : Nat → Bool} {held : Bool}
set_option maxRecDepth 100000 in
theorem rw_row {n : Nat} {r : List Value} {y : DataW H × List MemPlace} (h : DataW.trod enc Tryz.prog w base spare held n 80 r = some y) : ∃ s : Rw, r = [.string s.key, .string s.val] := by
  obtain ⟨hl, hf⟩ := struct_row Tryz.underlying80 (by kernel_rfl) h
  match r, hl with
  | [c0, c1], _ =>
    obtain ⟨_, _, h0⟩ := hf 0 _ (by simp) rfl
    obtain ⟨_, _, h1⟩ := hf 1 _ (by simp) rfl
    obtain ⟨x0, e0, _, _⟩ := DataW.trod_string Tryz.underlying9 h0
    obtain ⟨x1, e1, _, _⟩ := DataW.trod_string Tryz.underlying9 h1
    simp at e0 e1
    exact ⟨⟨x0, x1⟩, by rw [e0, e1]⟩
theorem rows_of {n : Nat} {cs : List Value} {y : DataW H × List MemPlace} (h : DataW.trod enc Tryz.prog w base spare held n 22 cs = some y) :
    ∃ a cap, ∃ l : List Rw, cs = [.slice a l.length cap] ∧ l.length ≤ maxLen ∧ ValsAt w a (l.flatMap rwC) := by
  obtain ⟨a, cap, rows, rfl, h1, h2, h3, h4⟩ := slice_rows (sz := 2) Tryz.underlying22 (by kernel_rfl) (by omega) h
  obtain ⟨l, rfl⟩ := map_of (f := fun s : Rw => [Value.string s.key, Value.string s.val]) fun r hr => by obtain ⟨_, n, y, hy⟩ := h4 r hr; exact rw_row hy
  refine ⟨a, cap, l, by simp, by simp at h1; omega, ?_⟩
  rcases h3 with h3 | ⟨b, off, rfl, hc⟩
  · have : l = [] := by simpa using h3
    subst this
    exact .inl rfl
  · refine rows_vals fun i hi => ?_
    have g0 := hc i (by simpa using hi) 0 (by simp)
    have g1 := hc i (by simpa using hi) 1 (by simp)
    simp at g0 g1
    exact ⟨g0, g1⟩
set_option maxRecDepth 100000 in
theorem rows_arg {b0 : Nat} {v : Value} {d : DataW H} {p : List MemPlace} (hv : Value.okWide Tryz.prog w .any b0 22 v) (h : DataW.Trod enc Tryz.prog w base spare held 22 v d p) :
    ∃ a cap, ∃ l : List Rw, v = .slice a l.length cap ∧ l.length ≤ maxLen ∧ ValsAt w a (l.flatMap rwC) := by
  obtain ⟨a0, len, cap0, rfl⟩ := okWide_slice Tryz.underlying22 hv
  obtain ⟨n, hf⟩ := h
  obtain ⟨a, cap, l, hcs, h1, h2⟩ := rows_of hf
  simp only [Value.cells, List.cons.injEq, Value.slice.injEq, and_true] at hcs
  obtain ⟨rfl, rfl, rfl⟩ := hcs
  exact ⟨a0, cap0, l, rfl, h1, h2⟩
end
end Go.Proofs.YtmknhibaoopjjaaGreatDoor
