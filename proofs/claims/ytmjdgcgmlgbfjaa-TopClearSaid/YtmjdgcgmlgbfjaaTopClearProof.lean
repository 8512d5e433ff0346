/- TopClear answers true for all inputs, and leaves its arguments as they were: no condition. -/
import Derived.Test.YtmjdgcgmlgbfjaaTopClear
import Derived.Test.YtmjdgcgmlgbfjaaReadActs
import Derived.Test.YtmjdgcgmlgbfjaaRead
namespace Go.Proofs.Ytmjdgcgmlgbfjaa
open Go.ChangeShapes Go.WideShapes Go.ChangeAt Go.RowKit Go.Joins
open Go.ChangeMaps (open_string)

set_option maxRecDepth 100000 in
theorem topClear_lifted (os : Os) (started : os.Started) (H : Type) (enc : TypeId × Value → H) :
    ReturnsInHanded {} Try.checked os 7 .any (Rows.topClearSpec.pre6 enc Try.prog Try.f7 Rows.topClearRow.domain false) (Rows.topClearSpec.post enc Try.prog Try.f7 false true false false) := by
  refine returnsInHanded_of_change (C := Try.checked) Try.own started (by kernel_rfl) Try.func7
    (ChangeSpec.witness6 (enc := enc) (C := Try.checked) false ⟨#[], #[.slice none 0 0, .slice none 0 0, .slice none 0 0, .int .i64 0], []⟩ 8 (by kernel_rfl) (by kernel_rfl) (by kernel_rfl) (by kernel_rfl)) ?_
  intro W base args ds gs before hval0 hW hcnd _
  have hval : ∀ (j : Nat) t v, Try.f7.params[j]? = some t → args[j]? = some v → Value.okWide Try.prog W .any base t v := hval0
  have hlt : ∀ x ∈ before, x.block < W.heap.size := fun x hx => by simpa using hW.lt x hx
  obtain ⟨p, q, hA0, hV, rfl, hfz, hnd⟩ := hW
  have hA : DataW.TrodAll enc Try.prog W 0 (fun _ => true) true Try.f7.params.toList args.toList ds p := hA0
  have hA1 := hA
  rw [Try.params7] at hA hval
  obtain ⟨v0, v1, v2, v3, d0, d1, d2, d3, p0, p1, p2, p3, rfl, rfl, rfl, h0, h1, h2, h3⟩ := trodAll_four hA
  obtain ⟨rfl, rfl⟩ := trodVars_none hV
  rw [List.append_nil] at hfz hnd hlt
  obtain ⟨a, cap, l, rfl, hl, hs⟩ := acts_arg (hval 0 34 v0 rfl rfl) h0
  obtain ⟨sa, ca, la, rfl, hla, hsa⟩ := spans_arg (hval 1 24 v1 rfl rfl) h1
  obtain ⟨sb, cb, lb, rfl, hlb, hsb⟩ := spans_arg (hval 2 24 v2 rfl rfl) h2
  obtain ⟨n, rfl, _⟩ := int_arg (hval 3 3 v3 rfl rfl) h3
  refine (topClear_any a cap l sa ca la sb cb lb n W hl hs hla hsa hlb hsb).mono fun e W' ⟨he, hx⟩ => ?_
  subst he
  exact ⟨_, rfl, law_post Try.laidOut (by kernel_rfl) (by kernel_rfl) Try.underlying4 rfl rfl rfl rfl hA1 hfz hnd hlt hx⟩

/-- The statement. -/
theorem topClear_holds : Rows.TopClearSaid :=
  OpenClaim.holds_of_wide 7 Try.f7 rfl rfl rfl rfl rfl rfl rfl ⟨rfl, rfl, rfl, rfl, rfl⟩ rfl rfl rfl rfl rfl (by kernel_rfl) Try.func7 (by kernel_rfl)
    (of_decide_eq_true (by kernel_rfl)) (by unfold Func.isWrapper; rw [if_neg (of_decide_eq_false (by kernel_rfl))]; exact ⟨rfl, rfl⟩)
    (fun os started H enc _ => topClear_lifted os started H enc)

end Go.Proofs.Ytmjdgcgmlgbfjaa
