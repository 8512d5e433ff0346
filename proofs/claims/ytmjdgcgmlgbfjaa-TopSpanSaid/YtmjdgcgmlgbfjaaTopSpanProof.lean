/- TopSpan answers true for all spans and keys, and leaves its arguments as they were: no condition. -/
import Derived.Test.YtmjdgcgmlgbfjaaTopSpan
import Derived.Test.YtmjdgcgmlgbfjaaLaw
namespace Go.Proofs.Ytmjdgcgmlgbfjaa
open Go.ChangeShapes Go.WideShapes Go.ChangeAt Go.RowKit Go.Joins
open Go.ChangeMaps (open_string)

theorem cells_Span : Try.prog.cellsOf 23 = 2 := by kernel_rfl
set_option maxRecDepth 100000 in
theorem topSpan_lifted (os : Os) (started : os.Started) (H : Type) (enc : TypeId × Value → H) :
    ReturnsInHanded {} Try.checked os 6 .any (Rows.topSpanSpec.pre6 enc Try.prog Try.f6 Rows.topSpanRow.domain false) (Rows.topSpanSpec.post enc Try.prog Try.f6 false true false false) := by
  refine returnsInHanded_of_change (C := Try.checked) Try.own started (by kernel_rfl) Try.func6
    (ChangeSpec.witness6 (enc := enc) (C := Try.checked) false ⟨#[], #[.agg #[.string ⟨#[]⟩, .string ⟨#[]⟩], .agg #[.string ⟨#[]⟩, .string ⟨#[]⟩], .string ⟨#[]⟩, .string ⟨#[]⟩], []⟩ 8 (by kernel_rfl) (by kernel_rfl) (by kernel_rfl) (by kernel_rfl)) ?_
  intro W base args ds gs before hval0 hW hcnd _
  have hval : ∀ (j : Nat) t v, Try.f6.params[j]? = some t → args[j]? = some v → Value.okWide Try.prog W .any base t v := hval0
  have hlt : ∀ x ∈ before, x.block < W.heap.size := fun x hx => by simpa using hW.lt x hx
  obtain ⟨p, q, hA0, hV, rfl, hfz, hnd⟩ := hW
  have hA : DataW.TrodAll enc Try.prog W 0 (fun _ => true) true Try.f6.params.toList args.toList ds p := hA0
  have hA1 := hA
  rw [Try.params6] at hA hval
  obtain ⟨v0, v1, v2, v3, d0, d1, d2, d3, p0, p1, p2, p3, rfl, rfl, rfl, h0, h1, h2, h3⟩ := trodAll_four hA
  obtain ⟨rfl, rfl⟩ := trodVars_none hV
  rw [List.append_nil] at hfz hnd hlt
  obtain ⟨a0, a1, y0, y1, m, rfl, rfl, rfl, hy0, hy1⟩ := open_agg2 Try.underlying23 (by kernel_rfl) cells_Span (hval 0 23 v0 rfl rfl) h0
  obtain ⟨b0, b1, z0, z1, m', rfl, rfl, rfl, hz0, hz1⟩ := open_agg2 Try.underlying23 (by kernel_rfl) cells_Span (hval 1 23 v1 rfl rfl) h1
  obtain ⟨lo, e0, _, _⟩ := DataW.trod_string Try.underlying9 hy0
  obtain ⟨hi, e1, _, _⟩ := DataW.trod_string Try.underlying9 hy1
  obtain ⟨lo', e2, _, _⟩ := DataW.trod_string Try.underlying9 hz0
  obtain ⟨hi', e3, _, _⟩ := DataW.trod_string Try.underlying9 hz1
  obtain ⟨k, rfl, _, _, _⟩ := open_string Try.underlying9 (hval 2 9 v2 rfl rfl) h2
  obtain ⟨o, rfl, _, _, _⟩ := open_string Try.underlying9 (hval 3 9 v3 rfl rfl) h3
  simp only [List.cons.injEq, and_true] at e0 e1 e2 e3
  subst e0 e1 e2 e3
  refine (topSpan_any lo hi lo' hi' k o W).mono fun e W' ⟨he, hx⟩ => ?_
  subst he
  exact ⟨_, rfl, law_post Try.laidOut (by kernel_rfl) (by kernel_rfl) Try.underlying4 rfl rfl rfl rfl hA1 hfz hnd hlt hx⟩

/-- The statement. -/
theorem topSpan_holds : Rows.TopSpanSaid :=
  OpenClaim.holds_of_wide 6 Try.f6 rfl rfl rfl rfl rfl rfl rfl ⟨rfl, rfl, rfl, rfl, rfl⟩ rfl rfl rfl rfl rfl (by kernel_rfl) Try.func6 (by kernel_rfl)
    (of_decide_eq_true (by kernel_rfl)) (by unfold Func.isWrapper; rw [if_neg (of_decide_eq_false (by kernel_rfl))]; exact ⟨rfl, rfl⟩)
    (fun os started H enc _ => topSpan_lifted os started H enc)

end Go.Proofs.Ytmjdgcgmlgbfjaa
