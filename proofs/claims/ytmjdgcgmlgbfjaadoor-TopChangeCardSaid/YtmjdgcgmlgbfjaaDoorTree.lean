/- A rule for regions whose order is open, the third one: where two operations may go in either order, both are walked. Proved over any program. -/
import Derived.Test.YtmjdgcgmlgbfjaaDoorOps
set_option linter.unusedVariables false
set_option linter.unusedSimpArgs false
namespace Go.Proofs.YtmjdgcgmlgbfjaaDoor
open Go.RowKit
/-- How a region is walked: an operation that only computes; the only one that is ready; two that are ready, each ahead of the other. -/
inductive Plan where
  | done
  | pure (i : Nat) (t : Plan)
  | one (i : Nat) (t : Plan)
  | fork (i : Nat) (t : Plan) (j : Nat) (t' : Plan)
section
variable {P : Program} {ops : Array Oper} {md : Region.Mode} {I : World → Prop}
def mkP (ps : List Nat) (i : Nat) : Nat := if ps.contains i then 0 else 5
def inPlan (P : Program) (ops : Array Oper) (I : World → Prop) (Q : Exit → Act → World → Prop) : Plan → Act → World → Prop
  | .done, a, w => Q .normal a w
  | .pure i t, a, w => ∃ o, ops[i]? = some o ∧ plainOp o.op = true ∧ inFrame o a = true ∧ ∃ a', (∀ (w : World) (K : Exit → Act → World → Prop), K .normal a' w → wpList P ops K [o] a w) ∧ inPlan P ops I Q t a' w
  | .one i t, a, w => wpOp P ops Q i (fun a' w' => I w' ∧ inPlan P ops I Q t a' w') a w
  | .fork i t j t', a, w => wpOp P ops Q i (fun a' w' => I w' ∧ inPlan P ops I Q t a' w') a w ∧ wpOp P ops Q j (fun a' w' => I w' ∧ inPlan P ops I Q t' a' w') a w
def planB (md : Region.Mode) (ops : Array Oper) (ps : List Nat) : Nat → Plan → Array Bool → Bool
  | 0, .done, listed => (Region.ready md ops listed).isEmpty
  | n + 1, .pure i t, listed => (Region.ready md ops listed).contains i && Region.free md ops listed i && decide (mkP ps i = 0) && planB md ops ps n t (listed.setIfInBounds i true)
  | n + 1, .one i t, listed => decide (Region.ready md ops listed = [i]) && decide (mkP ps i = 5) && (ops[i]?).isSome && planB md ops ps n t (listed.setIfInBounds i true)
  | n + 1, .fork i t j t', listed => decide (Region.ready md ops listed = [i, j]) && decide (mkP ps i = 5) && decide (mkP ps j = 5) && (ops[i]?).isSome && (ops[j]?).isSome && planB md ops ps n t (listed.setIfInBounds i true) && planB md ops ps n t' (listed.setIfInBounds j true)
  | _, _, _ => false
theorem opR_alone {Q : Exit → Act → World → Prop} {i : Nat} {K : Act → World → Prop} {a : Act} {w : World} (ho : (ops[i]?).isSome = true)
    (h : wpOp P ops Q i (fun a' w' => I w' ∧ K a' w') a w) : opR P ops I Q 5 i K a w := by
  obtain ⟨o, ho⟩ := Option.isSome_iff_exists.1 ho
  exact opR_intro ho h
theorem inPlan_sound {ps : List Nat} {Q : Exit → Act → World → Prop} (hs : Region.noSelect ops = true) (hQ : ∀ c a d v w, Q (.panic c) (a.put d v) w → Q (.panic c) a w) :
    ∀ (t : Plan) (n : Nat) (listed : Array Bool) (a : Act) (w : World), planB md ops ps n t listed = true → inPlan P ops I Q t a w → anyR P md ops I (mkP ps) Q n listed a w
  | .done, 0, listed, a, w, hB, h => ⟨by simpa [planB] using hB, h⟩
  | .done, _ + 1, _, _, _, hB, _ => by simp [planB] at hB
  | .pure i t, 0, _, _, _, hB, _ => by simp [planB] at hB
  | .one i t, 0, _, _, _, hB, _ => by simp [planB] at hB
  | .fork i t j t', 0, _, _, _, hB, _ => by simp [planB] at hB
  | .pure i t, n + 1, listed, a, w, hB, h => by
    simp only [planB, Bool.and_eq_true, decide_eq_true_eq] at hB
    obtain ⟨⟨⟨hr, hf⟩, hmk⟩, hB'⟩ := hB
    obtain ⟨o, ho, hp, hfr, a', h1, h2⟩ := h
    obtain ⟨v, hy, rfl⟩ := yields_of hp hfr h1
    exact anyR_pure ho hmk (Region.noSelect_spec hs) (fun c a w => hQ c a o.dst v w) n listed a w (Region.free_spec ho hf) (by simpa using hr) hy (inPlan_sound hs hQ t n _ _ _ hB' h2)
  | .one i t, n + 1, listed, a, w, hB, h => by
    simp only [planB, Bool.and_eq_true, decide_eq_true_eq] at hB
    obtain ⟨⟨⟨hr, hmk⟩, ho⟩, hB'⟩ := hB
    refine ⟨fun h0 => (by rw [hr] at h0; cases h0), fun j hj => ?_⟩
    rw [hr, List.mem_singleton] at hj
    subst hj
    rw [hmk]
    exact opR_alone ho (wpOp_mono (fun a' w' h' => ⟨h'.1, inPlan_sound hs hQ t n _ _ _ hB' h'.2⟩) h)
  | .fork i t j t', n + 1, listed, a, w, hB, h => by
    simp only [planB, Bool.and_eq_true, decide_eq_true_eq] at hB
    obtain ⟨⟨⟨⟨⟨⟨hr, hmi⟩, hmj⟩, hi⟩, hj⟩, hB1⟩, hB2⟩ := hB
    refine ⟨fun h0 => (by rw [hr] at h0; cases h0), fun k hk => ?_⟩
    rw [hr] at hk
    rcases List.mem_cons.1 hk with rfl | hk
    · rw [hmi]
      exact opR_alone hi (wpOp_mono (fun a' w' h' => ⟨h'.1, inPlan_sound hs hQ t n _ _ _ hB1 h'.2⟩) h.1)
    · rw [List.mem_singleton] at hk
      subst hk
      rw [hmj]
      exact opR_alone hj (wpOp_mono (fun a' w' h' => ⟨h'.1, inPlan_sound hs hQ t' n _ _ _ hB2 h'.2⟩) h.2)
def planAll (ops : Array Oper) (ps : List Nat) (t : Plan) : Bool := Region.noSelect ops && planB .any ops ps ops.size t (Array.replicate ops.size false)
/-- A region whose order is open, by a plan. -/
theorem wp_region_plan {id : Nat} {l : List Oper} {Q : Exit → Act → World → Prop} {a : Act} {w : World} (ps : List Nat) (t : Plan) (hm : P.follows .mixedOrders = true)
    (hB : planAll l.toArray ps t = true) (hQ : ∀ c a d v w, Q (.panic c) (a.put d v) w → Q (.panic c) a w)
    (h : ∀ w', Ext w w' → inPlan P l.toArray (fun _ => True) Q t a w') : (Code.region id l.toArray true).wp P Q a w := by
  simp only [planAll, Bool.and_eq_true] at hB
  refine wp_region_any hm (anyR_sound (mk := mkP ps) (I := fun _ => True) (fun _ _ _ _ => trivial) _ _ _ _ trivial ?_)
  have := inPlan_sound (md := .any) (ps := ps) hB.1 hQ t l.toArray.size (Array.replicate l.toArray.size false) a w.drew hB.2 (h _ (Ext.drew_self w))
  simpa using this
theorem inPlan_p {Q : Exit → Act → World → Prop} {a : Act} {w : World} {i : Nat} {t : Plan} {l : List Oper} {o : Oper} (a' : Act) (ho : nth l i = some o) (hp : plainOp o.op = true) (hf : inFrame o a = true)
    (h : ∀ (w : World) (K : Exit → Act → World → Prop), K .normal a' w → wpList P l.toArray K [o] a w) (hr : inPlan P l.toArray I Q t a' w) : inPlan P l.toArray I Q (.pure i t) a w := ⟨o, (nth_eq l i).symm.trans ho, hp, hf, a', h, hr⟩
theorem inPlan_one {Q : Exit → Act → World → Prop} {a : Act} {w : World} {i : Nat} {t : Plan} {l : List Oper} {o : Oper} (ho : nth l i = some o)
    (h : ∀ K : Exit → Act → World → Prop, (∀ a w, inPlan P l.toArray (fun _ => True) Q t a w → K .normal a w) → wpList P l.toArray K [o] a w) : inPlan P l.toArray (fun _ => True) Q (.one i t) a w :=
  wpOp_of_list ((nth_eq l i).symm.trans ho) fun K hK => h K fun a' w' h2 => hK a' w' ⟨trivial, h2⟩
theorem inPlan_fork {Q : Exit → Act → World → Prop} {a : Act} {w : World} {i j : Nat} {t t' : Plan} {l : List Oper} {o o' : Oper} (ho : nth l i = some o) (ho' : nth l j = some o')
    (h : ∀ K : Exit → Act → World → Prop, (∀ a w, inPlan P l.toArray (fun _ => True) Q t a w → K .normal a w) → wpList P l.toArray K [o] a w)
    (h' : ∀ K : Exit → Act → World → Prop, (∀ a w, inPlan P l.toArray (fun _ => True) Q t' a w → K .normal a w) → wpList P l.toArray K [o'] a w) : inPlan P l.toArray (fun _ => True) Q (.fork i t j t') a w :=
  ⟨wpOp_of_list ((nth_eq l i).symm.trans ho) fun K hK => h K fun a' w' h2 => hK a' w' ⟨trivial, h2⟩, wpOp_of_list ((nth_eq l j).symm.trans ho') fun K hK => h' K fun a' w' h2 => hK a' w' ⟨trivial, h2⟩⟩
theorem inPlan_done {Q : Exit → Act → World → Prop} {a : Act} {w : World} (h : Q .normal a w) : inPlan P ops I Q .done a w := h
theorem inPlan_alloc_own {S : Nat → Prop} {W w : World} {l : List Rs} {t : Plan} {a : Act} {Q : Exit → Act → World → Prop} {cs : List Value} {ty : TypeId} (hO : Own S W w l) (k : ∀ w', Own S W w' (Var w.heap.size cs ty :: l) → inPlan P ops I Q t a w') : inPlan P ops I Q t a (w.alloc (.cells cs.toArray ty)) := k _ (hO.alloc cs ty)
end
end Go.Proofs.YtmjdgcgmlgbfjaaDoor
