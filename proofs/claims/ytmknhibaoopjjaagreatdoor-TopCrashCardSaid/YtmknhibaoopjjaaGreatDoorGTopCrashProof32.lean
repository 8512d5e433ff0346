/- Texts Args3 of this claim, laid together. -/
import Derived.Test.YtmknhibaoopjjaaGreatDoorGTopCrashProof21
import Derived.Test.YtmknhibaoopjjaaGreatDoorGTopCrashProof29
set_option linter.unusedVariables false
set_option linter.unusedSimpArgs false
namespace Go.Proofs.YtmknhibaoopjjaaGreatDoor
open Go.ChangeShapes Go.RowKit Go.WideShapes
section
variable {H : Type} {enc : TypeId × Value → H} {w : World} {base : Nat} {spare : Nat → Bool} {held : Bool}
set_option maxRecDepth 100000 in
theorem deeds_of {n : Nat} {cs : List Value} {y : DataW H × List MemPlace} (h : DataW.trod enc Tryz.prog w base spare held n 86 cs = some y) :
    ∃ a cap, ∃ D : List DV, cs = [.slice a D.length cap] ∧ D.length ≤ maxLen ∧ DIn w a D := by
  obtain ⟨a, cap, rows, rfl, h1, h2, h3, h4⟩ := slice_rows (sz := 1) Tryz.underlying86 (by kernel_rfl) (by omega) h
  have hr : ∀ r ∈ rows, ∃ d : DV, r = [dv d] ∧ d.2.2.length ≤ maxLen ∧ ValsAt w d.1 (chs d.2.2) := fun r hr => by
    obtain ⟨_, n, y, hy⟩ := h4 r hr
    obtain ⟨b, c, l, e, hl, hc⟩ := changes_of hy
    exact ⟨(b, c, l), e, hl, ChAt.of hc⟩
  have hm : ∃ D : List DV, rows = D.map (fun d => [dv d]) ∧ ∀ d ∈ D, d.2.2.length ≤ maxLen ∧ ValsAt w d.1 (chs d.2.2) := by
    clear h1 h2 h3 h4 h
    induction rows with
    | nil => exact ⟨[], rfl, fun d hd => by cases hd⟩
    | cons r rs ih =>
      obtain ⟨D, hD, hx⟩ := ih fun r' h' => hr r' (List.mem_cons_of_mem _ h')
      obtain ⟨d, e, h5, h6⟩ := hr r (List.mem_cons_self ..)
      refine ⟨d :: D, by rw [List.map_cons, ← hD, e], fun x hx' => ?_⟩
      rcases List.mem_cons.1 hx' with rfl | hx'
      · exact ⟨h5, h6⟩
      · exact hx x hx'
  obtain ⟨D, rfl, hx⟩ := hm
  refine ⟨a, cap, D, by simp, by simp at h1; omega, ⟨⟨?_, fun d hd => (hx d hd).2⟩, fun d hd => (hx d hd).1⟩⟩
  refine h3.imp (by simp) fun ⟨b, off, ha, hc⟩ => ⟨b, off, ha, fun i hi => ?_⟩
  have g0 := hc i (by simpa using hi) 0 (by simp)
  simp at g0 ⊢
  exact g0
set_option maxRecDepth 100000 in
theorem deeds_arg {b0 : Nat} {v : Value} {d : DataW H} {p : List MemPlace} (hv : Value.okWide Tryz.prog w .any b0 86 v) (h : DataW.Trod enc Tryz.prog w base spare held 86 v d p) :
    ∃ a cap, ∃ D : List DV, v = .slice a D.length cap ∧ D.length ≤ maxLen ∧ DIn w a D := by
  obtain ⟨a0, len, cap, rfl⟩ := okWide_slice Tryz.underlying86 hv
  obtain ⟨n, hf⟩ := h
  obtain ⟨a, cap', l, hcs, h1, h2⟩ := deeds_of hf
  simp [Value.cells] at hcs
  obtain ⟨rfl, rfl, rfl⟩ := hcs
  exact ⟨_, _, l, rfl, h1, h2⟩
end
end Go.Proofs.YtmknhibaoopjjaaGreatDoor
