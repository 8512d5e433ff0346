/- A rule for regions whose order is left open, the second one: beside operations that change memory there may be some that look at what stays. Proved over any program. -/
import Derived.Test.YtmjdgcgmlgbfjaaDoorFw
set_option linter.unusedVariables false
set_option linter.unusedSimpArgs false
set_option linter.unnecessarySimpa false
namespace Go.Proofs.YtmjdgcgmlgbfjaaDoor
open Go.RowKit

/-- How an operation is taken: 0: it computes; 1: it looks at memory, ahead of all that change it; 2: it looks at what stays; 3: a call that makes memory at most, ahead of all that change it; 4: it makes memory; else: it may change memory. -/
theorem mr_cases (m : Nat) : m = 0 ∨ m = 1 ∨ m = 2 ∨ m = 3 ∨ m = 4 ∨ ∃ n, m = n + 5 := by
  match m with
  | 0 => exact .inl rfl
  | 1 => exact .inr (.inl rfl)
  | 2 => exact .inr (.inr (.inl rfl))
  | 3 => exact .inr (.inr (.inr (.inl rfl)))
  | 4 => exact .inr (.inr (.inr (.inr (.inl rfl))))
  | n + 5 => exact .inr (.inr (.inr (.inr (.inr ⟨n, rfl⟩))))

section
variable {P : Program} {ops : Array Oper} {md : Region.Mode} {I : World → Prop}

/-- What an operation that looks at memory finds, wherever I holds. -/
def Sees (P : Program) (ops : Array Oper) (I : World → Prop) (o : Oper) (a : Act) (v : Value) : Prop :=
  ∀ w', I w' → (Region.wanted o (yielded ops a.tmps) = true ∧ (execOp a.eval o).run P w' = .ok (.value v) w') ∨ (Region.wanted o (yielded ops a.tmps) = false ∧ v = undef)
theorem Sees.of_same {o : Oper} {a a' : Act} {v : Value} (h : Sees P ops I o a v) (he : execOp a'.eval o = execOp a.eval o)
    (hw : Region.wanted o (yielded ops a'.tmps) = Region.wanted o (yielded ops a.tmps)) : Sees P ops I o a' v := by
  intro w' hx; rw [he, hw]; exact h w' hx
theorem Sees.wpOp {Q : Exit → Act → World → Prop} {i : Nat} {o : Oper} {v : Value} {a : Act} {w : World} (hi : ops[i]? = some o) (hI : I w) (hy : Sees P ops I o a v)
    {K : Act → World → Prop} (h : K (a.put o.dst v) w) : wpOp P ops Q i K a w := by
  unfold Go.wpOp
  simp only [hi]
  rcases hy w hI with ⟨hw, hv⟩ | ⟨hw, rfl⟩
  · simp only [hw, if_true, Oper.wp, hv, Oper.upon]; exact .inl h
  · simp only [hw, Bool.false_eq_true, if_false]; exact h
theorem Sees.put_back {oi oj : Oper} {v u : Value} {a : Act} (hap : oi.apart ops oj = true) (hsj : ∀ cs b, oj.op ≠ .select cs b)
    (hy : Sees P ops I oj (a.put oi.dst v) u) : Sees P ops I oj a u := by
  obtain ⟨h1, _, _⟩ := Oper.apart_spec hap
  exact hy.of_same (execOp_put oj hsj a oi.dst v h1).symm (wanted_put oj a oi.dst v h1).symm
theorem Sees.put_on {oi oj : Oper} {v u : Value} {a : Act} (hap : oi.apart ops oj = true) (hsi : ∀ cs b, oi.op ≠ .select cs b)
    (hy : Sees P ops I oi a v) : Sees P ops I oi (a.put oj.dst u) v := by
  obtain ⟨_, _, h3⟩ := Oper.apart_spec hap
  exact hy.of_same (execOp_put oi hsi a oj.dst u h3) (wanted_put oi a oj.dst u h3)
theorem Sees.unique {o : Oper} {u u2 : Value} {a : Act} {w : World} (hI : I w) (hu : Sees P ops I o a u) (hu2 : Sees P ops I o a u2) : u = u2 := by
  rcases hu w hI with ⟨k1, k2⟩ | ⟨k1, rfl⟩ <;> rcases hu2 w hI with ⟨k3, k4⟩ | ⟨k3, rfl⟩
  · have := k2.symm.trans k4; injection this with h5; injection h5
  · rw [k1] at k3; cases k3
  · rw [k1] at k3; cases k3
  · rfl

/-- One step in an order that is open, by its mark. -/
def OpRAt (P : Program) (ops : Array Oper) (I : World → Prop) (Q : Exit → Act → World → Prop) (m : Nat) (j : Nat) (oj : Oper) (K : Act → World → Prop) (a : Act) (w : World) : Prop :=
  match m with
  | 0 => ∃ v, Yields P ops oj v a ∧ K (a.put oj.dst v) w
  | 1 => ∃ v, Looks P ops oj a w v ∧ K (a.put oj.dst v) w
  | 2 => ∃ v, Sees P ops I oj a v ∧ K (a.put oj.dst v) w
  | 3 => ∃ v, Gives P ops oj a w v ∧ ∀ w', Ext w w' → K (a.put oj.dst v) w'
  | 4 => wpOp P ops Q j (fun a' w' => Ext w w' ∧ K a' w') a w
  | _ => wpOp P ops Q j (fun a' w' => I w' ∧ K a' w') a w
def opR (P : Program) (ops : Array Oper) (I : World → Prop) (Q : Exit → Act → World → Prop) (m : Nat) (i : Nat) (K : Act → World → Prop) (a : Act) (w : World) : Prop :=
  match ops[i]? with
  | none => K a w
  | some o => OpRAt P ops I Q m i o K a w
theorem opR_intro {Q : Exit → Act → World → Prop} {m : Nat} {j : Nat} {oj : Oper} {K : Act → World → Prop} {a : Act} {w : World} (hj : ops[j]? = some oj)
    (h : OpRAt P ops I Q m j oj K a w) : opR P ops I Q m j K a w := by
  unfold opR; simp only [hj]; exact h
theorem opR_elim {Q : Exit → Act → World → Prop} {m : Nat} {j : Nat} {oj : Oper} {K : Act → World → Prop} {a : Act} {w : World} (hj : ops[j]? = some oj)
    (h : opR P ops I Q m j K a w) : OpRAt P ops I Q m j oj K a w := by
  unfold opR at h; simp only [hj] at h; exact h

theorem opR_sound (hIx : ∀ w w', I w → Ext w w' → I w') {Q : Exit → Act → World → Prop} {m : Nat} {i : Nat} {K : Act → World → Prop} {a : Act} {w : World} (hI : I w)
    (hh : opR P ops I Q m i K a w) : wpOp P ops Q i (fun a w => I w ∧ K a w) a w := by
  unfold opR at hh
  split at hh
  · rename_i ho; unfold wpOp; simp only [ho]; exact ⟨hI, hh⟩
  · rename_i o ho
    rcases mr_cases m with rfl | rfl | rfl | rfl | rfl | ⟨n, rfl⟩
    · obtain ⟨v, hy, hk⟩ := hh; exact hy.wpOp ho ⟨hI, hk⟩
    · obtain ⟨v, hy, hk⟩ := hh; exact hy.wpOp ho ⟨hI, hk⟩
    · obtain ⟨v, hy, hk⟩ := hh; exact hy.wpOp ho hI ⟨hI, hk⟩
    · obtain ⟨v, hy, hk⟩ := hh
      have h2 : opT P ops Q 2 i (fun a w' => Ext w w' ∧ K a w') a w := opT_intro ho ⟨v, hy, fun w' hw' => ⟨hw', hk w' hw'⟩⟩
      exact wpOp_mono (fun a w' hk => ⟨hIx _ _ hI hk.1, hk.2⟩) (opT_sound h2)
    · have h1 : wpOp P ops Q i (fun a' w' => Ext w w' ∧ K a' w') a w := hh
      exact wpOp_mono (fun a w hk => ⟨hIx _ _ hI hk.1, hk.2⟩) h1
    · exact hh

/-- wpAny, by marks. -/
def anyR (P : Program) (md : Region.Mode) (ops : Array Oper) (I : World → Prop) (mk : Nat → Nat) (Q : Exit → Act → World → Prop) : Nat → Array Bool → Act → World → Prop
  | 0, listed, a, w => Region.ready md ops listed = [] ∧ Q .normal a w
  | fuel + 1, listed, a, w =>
    (Region.ready md ops listed = [] → Q .normal a w) ∧
    ∀ i ∈ Region.ready md ops listed, opR P ops I Q (mk i) i (anyR P md ops I mk Q fuel (listed.setIfInBounds i true)) a w

theorem anyR_sound (hIx : ∀ w w', I w → Ext w w' → I w') {mk : Nat → Nat} {Q : Exit → Act → World → Prop} : ∀ (fuel : Nat) (listed : Array Bool) (a : Act) (w : World), I w →
    anyR P md ops I mk Q fuel listed a w → wpAny P md ops Q fuel listed a w
  | 0, _, _, _, _, h => h
  | fuel + 1, _, _, _, hI, h => ⟨h.1, fun i hi => wpOp_mono (fun a' w' hk => anyR_sound hIx fuel _ a' w' hk.1 hk.2) (opR_sound hIx hI (h.2 i hi))⟩

/-- An operation that only computes may go first. -/
theorem anyR_pure {mk : Nat → Nat} {Q : Exit → Act → World → Prop} {i : Nat} {oi : Oper} {v : Value} (hi : ops[i]? = some oi) (hmi : mk i = 0)
    (hsel : ∀ (j : Nat) (o : Oper) cs b, ops[j]? = some o → o.op ≠ .select cs b)
    (hQ : ∀ c a w, Q (.panic c) (a.put oi.dst v) w → Q (.panic c) a w) :
    ∀ (fuel : Nat) (listed : Array Bool) (a : Act) (w : World), FreeOf ops md listed i oi →
      i ∈ Region.ready md ops listed → Yields P ops oi v a →
      anyR P md ops I mk Q fuel (listed.setIfInBounds i true) (a.put oi.dst v) w → anyR P md ops I mk Q (fuel + 1) listed a w := by
  intro fuel
  induction fuel with
  | zero =>
    intro listed a w _ hr hy H
    refine ⟨fun h => (by rw [h] at hr; cases hr), fun j hj => ?_⟩
    by_cases hji : j = i
    · subst hji; exact opR_intro hi (by rw [hmi]; exact ⟨v, hy, H⟩)
    · have := ready_mono hj hji
      rw [H.1] at this
      cases this
  | succ fuel ih =>
    intro listed a w hfree hr hy H
    refine ⟨fun h => (by rw [h] at hr; cases hr), fun j hj => ?_⟩
    by_cases hji : j = i
    · subst hji; exact opR_intro hi (by rw [hmi]; exact ⟨v, hy, H⟩)
    · obtain ⟨hjun, oj, hoj, hall⟩ := mem_ready.1 hj
      have hrun := (mem_ready.1 hr).1
      have h1 := opR_elim hoj (H.2 j (ready_mono hj hji))
      have hap := hfree j oj hoj hji hjun (ready_not_after hrun hall)
      have hsj := fun cs b => hsel j oj cs b
      obtain ⟨_, h2, _⟩ := Oper.apart_spec hap
      have step : ∀ (a : Act) (u : Value) (w : World), Yields P ops oi v (a.put oj.dst u) → anyR P md ops I mk Q fuel ((listed.setIfInBounds i true).setIfInBounds j true) ((a.put oi.dst v).put oj.dst u) w →
          anyR P md ops I mk Q (fuel + 1) (listed.setIfInBounds j true) (a.put oj.dst u) w := fun a u w hy' h => by
        refine ih (listed.setIfInBounds j true) (a.put oj.dst u) w (hfree.set hjun) (ready_mono hr (Ne.symm hji)) hy' ?_
        rw [Array.setIfInBounds_comm _ _ hji, ← Act.put_comm a v u h2]
        exact h
      refine opR_intro hoj ?_
      have hon := fun (a : Act) (u : Value) (hy : Yields P ops oi v a) => Yields.put_on (u := u) hap (fun cs b => hsel i oi cs b hi) hy
      rcases mr_cases (mk j) with hm | hm | hm | hm | hm | ⟨n, hm⟩ <;> rw [hm] at h1 ⊢
      · obtain ⟨u, hu, hk⟩ := h1
        exact ⟨u, Yields.put_back hap (fun cs b => hsj cs b hoj) hu, step a u w (hon a u hy) hk⟩
      · obtain ⟨u, hu, hk⟩ := h1
        exact ⟨u, Looks.put_back hap (fun cs b => hsj cs b hoj) hu, step a u w (hon a u hy) hk⟩
      · obtain ⟨u, hu, hk⟩ := h1
        exact ⟨u, Sees.put_back hap (fun cs b => hsj cs b hoj) hu, step a u w (hon a u hy) hk⟩
      · obtain ⟨u, hu, hk⟩ := h1
        obtain ⟨u', hu', he⟩ := Gives.put_back hap (fun cs b => hsj cs b hoj) hu
        exact ⟨u', hu', fun w' hw' => step a u' w' (hon a u' hy) (by rw [he]; exact hk w' hw')⟩
      · have h5 : wpOp P ops Q j (fun a' w' => Ext w w' ∧ _) _ w := h1
        show wpOp P ops Q j (fun a' w' => Ext w w' ∧ _) a w
        have h3 := wpOp_put (Q := Q) hoj hap (fun cs b => hsel i oi cs b hi) (fun cs b => hsj cs b hoj) hQ hy h5
        refine wpOp_mono (fun a' w' h4 => ?_) h3
        refine ⟨h4.2.1, ?_⟩
        refine ih (listed.setIfInBounds j true) a' w' (hfree.set hjun) (ready_mono hr (Ne.symm hji)) h4.1 ?_
        rw [Array.setIfInBounds_comm _ _ hji]
        exact h4.2.2
      · have h5 : wpOp P ops Q j (fun a' w' => I w' ∧ _) _ w := h1
        show wpOp P ops Q j (fun a' w' => I w' ∧ _) a w
        have h3 := wpOp_put (Q := Q) hoj hap (fun cs b => hsel i oi cs b hi) (fun cs b => hsj cs b hoj) hQ hy h5
        refine wpOp_mono (fun a' w' h4 => ?_) h3
        refine ⟨h4.2.1, ?_⟩
        refine ih (listed.setIfInBounds j true) a' w' (hfree.set hjun) (ready_mono hr (Ne.symm hji)) h4.1 ?_
        rw [Array.setIfInBounds_comm _ _ hji]
        exact h4.2.2

/-- A quiet operation that all that change memory wait for may go first. -/
theorem anyR_quiet (hIx : ∀ w w', I w → Ext w w' → I w') {mk : Nat → Nat} {Q : Exit → Act → World → Prop} {i : Nat} {oi : Oper} {v : Value} (hi : ops[i]? = some oi) (hmi : mk i = 3)
    (hsel : ∀ (j : Nat) (o : Oper) cs b, ops[j]? = some o → o.op ≠ .select cs b) (hah : Ahead ops md mk 4 i) :
    ∀ (fuel : Nat) (listed : Array Bool) (a : Act) (w : World), I w → FreeOf ops md listed i oi → Closed ops md listed →
      i ∈ Region.ready md ops listed → Gives P ops oi a w v →
      (∀ w', Ext w w' → anyR P md ops I mk Q fuel (listed.setIfInBounds i true) (a.put oi.dst v) w') → anyR P md ops I mk Q (fuel + 1) listed a w := by
  intro fuel
  induction fuel with
  | zero =>
    intro listed a w _ _ _ hr hy H
    refine ⟨fun h => (by rw [h] at hr; cases hr), fun j hj => ?_⟩
    by_cases hji : j = i
    · subst hji; exact opR_intro hi (by rw [hmi]; exact ⟨v, hy, H⟩)
    · have := ready_mono hj hji
      rw [(H w (Ext.refl w)).1] at this
      cases this
  | succ fuel ih =>
    intro listed a w hI hfree hcl hr hy H
    refine ⟨fun h => (by rw [h] at hr; cases hr), fun j hj => ?_⟩
    by_cases hji : j = i
    · subst hji; exact opR_intro hi (by rw [hmi]; exact ⟨v, hy, H⟩)
    · obtain ⟨hjun, oj, hoj, hall⟩ := mem_ready.1 hj
      have hrun := (mem_ready.1 hr).1
      have h1 := fun w' hw' => opR_elim hoj ((H w' hw').2 j (ready_mono hj hji))
      have hap := hfree j oj hoj hji hjun (ready_not_after hrun hall)
      have hsj := fun cs b => hsel j oj cs b
      obtain ⟨_, h2, _⟩ := Oper.apart_spec hap
      have step : ∀ (u : Value) (w' : World), Ext w w' → (∀ w'', Ext w' w'' → anyR P md ops I mk Q fuel ((listed.setIfInBounds i true).setIfInBounds j true) ((a.put oi.dst v).put oj.dst u) w'') →
          anyR P md ops I mk Q (fuel + 1) (listed.setIfInBounds j true) (a.put oj.dst u) w' := fun u w' hw' h => by
        refine ih (listed.setIfInBounds j true) (a.put oj.dst u) w' (hIx _ _ hI hw') (hfree.set hjun) (hcl.set hj) (ready_mono hr (Ne.symm hji)) ((Gives.put_on hap (fun cs b => hsel i oi cs b hi) hy).ext hw') ?_
        intro w'' hw''
        rw [Array.setIfInBounds_comm _ _ hji, ← Act.put_comm a v u h2]
        exact h w'' hw''
      refine opR_intro hoj ?_
      have hlt := hah listed j hrun hcl hj
      rcases mr_cases (mk j) with hm | hm | hm | hm | hm | ⟨n, hm⟩
      · simp only [hm] at h1 ⊢
        obtain ⟨u, hu, hk⟩ := h1 w (Ext.refl w)
        refine ⟨u, Yields.put_back hap (fun cs b => hsj cs b hoj) hu, step u w (Ext.refl w) fun w'' hw'' => ?_⟩
        obtain ⟨u2, hu2, hk2⟩ := h1 w'' hw''
        rw [Yields.unique hu hu2 w]
        exact hk2
      · simp only [hm] at h1 ⊢
        obtain ⟨u, hu, hk⟩ := h1 w (Ext.refl w)
        refine ⟨u, Looks.put_back hap (fun cs b => hsj cs b hoj) hu, step u w (Ext.refl w) fun w'' hw'' => ?_⟩
        obtain ⟨u2, hu2, hk2⟩ := h1 w'' hw''
        have : u = u2 := by
          rcases hu w'' hw'' with ⟨k1, k2⟩ | ⟨k1, rfl⟩ <;> rcases hu2 w'' (Ext.refl _) with ⟨k3, k4⟩ | ⟨k3, rfl⟩
          · have := k2.symm.trans k4; injection this with h5; injection h5
          · rw [k1] at k3; cases k3
          · rw [k1] at k3; cases k3
          · rfl
        rw [this]
        exact hk2
      · simp only [hm] at h1 ⊢
        obtain ⟨u, hu, hk⟩ := h1 w (Ext.refl w)
        refine ⟨u, Sees.put_back hap (fun cs b => hsj cs b hoj) hu, step u w (Ext.refl w) fun w'' hw'' => ?_⟩
        obtain ⟨u2, hu2, hk2⟩ := h1 w'' hw''
        rw [Sees.unique hI hu hu2]
        exact hk2
      · simp only [hm] at h1 ⊢
        obtain ⟨u, hu, hk⟩ := h1 w (Ext.refl w)
        obtain ⟨u', hu', he⟩ := Gives.put_back hap (fun cs b => hsj cs b hoj) hu
        exact ⟨u', hu', fun w' hw' => step u' w' hw' (fun w'' hw'' => by rw [he]; exact hk w'' (hw'.trans hw''))⟩
      · omega
      · omega

/-- An operation that looks at memory, and that all that change memory wait for, may go first. -/
theorem anyR_look {mk : Nat → Nat} {Q : Exit → Act → World → Prop} {i : Nat} {oi : Oper} {v : Value} (hi : ops[i]? = some oi) (hmi : mk i = 1)
    (hsel : ∀ (j : Nat) (o : Oper) cs b, ops[j]? = some o → o.op ≠ .select cs b) (hah : Ahead ops md mk 5 i) (hQ : ∀ c a w, Q (.panic c) (a.put oi.dst v) w → Q (.panic c) a w) :
    ∀ (fuel : Nat) (listed : Array Bool) (a : Act) (w : World), FreeOf ops md listed i oi → Closed ops md listed →
      i ∈ Region.ready md ops listed → Looks P ops oi a w v →
      anyR P md ops I mk Q fuel (listed.setIfInBounds i true) (a.put oi.dst v) w → anyR P md ops I mk Q (fuel + 1) listed a w := by
  intro fuel
  induction fuel with
  | zero =>
    intro listed a w _ _ hr hy H
    refine ⟨fun h => (by rw [h] at hr; cases hr), fun j hj => ?_⟩
    by_cases hji : j = i
    · subst hji; exact opR_intro hi (by rw [hmi]; exact ⟨v, hy, H⟩)
    · have := ready_mono hj hji
      rw [H.1] at this
      cases this
  | succ fuel ih =>
    intro listed a w hfree hcl hr hy H
    refine ⟨fun h => (by rw [h] at hr; cases hr), fun j hj => ?_⟩
    by_cases hji : j = i
    · subst hji; exact opR_intro hi (by rw [hmi]; exact ⟨v, hy, H⟩)
    · obtain ⟨hjun, oj, hoj, hall⟩ := mem_ready.1 hj
      have hrun := (mem_ready.1 hr).1
      have h1 := opR_elim hoj (H.2 j (ready_mono hj hji))
      have hap := hfree j oj hoj hji hjun (ready_not_after hrun hall)
      have hsj := fun cs b => hsel j oj cs b
      obtain ⟨_, h2, _⟩ := Oper.apart_spec hap
      have step : ∀ (a : Act) (u : Value) (w : World), Looks P ops oi (a.put oj.dst u) w v → anyR P md ops I mk Q fuel ((listed.setIfInBounds i true).setIfInBounds j true) ((a.put oi.dst v).put oj.dst u) w →
          anyR P md ops I mk Q (fuel + 1) (listed.setIfInBounds j true) (a.put oj.dst u) w := fun a u w hy' h => by
        refine ih (listed.setIfInBounds j true) (a.put oj.dst u) w (hfree.set hjun) (hcl.set hj) (ready_mono hr (Ne.symm hji)) hy' ?_
        rw [Array.setIfInBounds_comm _ _ hji, ← Act.put_comm a v u h2]
        exact h
      refine opR_intro hoj ?_
      have hon := fun (a : Act) (u : Value) (w : World) (hy : Looks P ops oi a w v) => Looks.put_on (u := u) hap (fun cs b => hsel i oi cs b hi) hy
      have hlt := hah listed j hrun hcl hj
      rcases mr_cases (mk j) with hm | hm | hm | hm | hm | ⟨n, hm⟩
      · rw [hm] at h1 ⊢
        obtain ⟨u, hu, hk⟩ := h1
        exact ⟨u, Yields.put_back hap (fun cs b => hsj cs b hoj) hu, step a u w (hon a u w hy) hk⟩
      · rw [hm] at h1 ⊢
        obtain ⟨u, hu, hk⟩ := h1
        exact ⟨u, Looks.put_back hap (fun cs b => hsj cs b hoj) hu, step a u w (hon a u w hy) hk⟩
      · rw [hm] at h1 ⊢
        obtain ⟨u, hu, hk⟩ := h1
        exact ⟨u, Sees.put_back hap (fun cs b => hsj cs b hoj) hu, step a u w (hon a u w hy) hk⟩
      · rw [hm] at h1 ⊢
        obtain ⟨u, hu, hk⟩ := h1
        obtain ⟨u', hu', he⟩ := Gives.put_back hap (fun cs b => hsj cs b hoj) hu
        exact ⟨u', hu', fun w' hw' => step a u' w' (hon a u' w' (hy.ext hw')) (by rw [he]; exact hk w' hw')⟩
      · rw [hm] at h1 ⊢
        have h5 : wpOp P ops Q j (fun a' w' => Ext w w' ∧ _) _ w := h1
        show wpOp P ops Q j (fun a' w' => Ext w w' ∧ _) a w
        have h3 := wpOp_ahead (Q := Q) hoj hap (fun cs b => hsel i oi cs b hi) (fun cs b => hsj cs b hoj) hQ h5
        refine wpOp_mono (fun a' w' h4 => ⟨h4.2.1, ?_⟩) h3
        refine ih (listed.setIfInBounds j true) a' w' (hfree.set hjun) (hcl.set hj) (ready_mono hr (Ne.symm hji)) ((hy.of_same h4.1.1 h4.1.2).ext h4.2.1) ?_
        rw [Array.setIfInBounds_comm _ _ hji]
        exact h4.2.2
      · omega

/-- An operation that looks at what stays may go first. -/
theorem anyR_see {mk : Nat → Nat} {Q : Exit → Act → World → Prop} {i : Nat} {oi : Oper} {v : Value} (hi : ops[i]? = some oi) (hmi : mk i = 2)
    (hsel : ∀ (j : Nat) (o : Oper) cs b, ops[j]? = some o → o.op ≠ .select cs b) (hQ : ∀ c a w, Q (.panic c) (a.put oi.dst v) w → Q (.panic c) a w) :
    ∀ (fuel : Nat) (listed : Array Bool) (a : Act) (w : World), FreeOf ops md listed i oi →
      i ∈ Region.ready md ops listed → Sees P ops I oi a v →
      anyR P md ops I mk Q fuel (listed.setIfInBounds i true) (a.put oi.dst v) w → anyR P md ops I mk Q (fuel + 1) listed a w := by
  intro fuel
  induction fuel with
  | zero =>
    intro listed a w _ hr hy H
    refine ⟨fun h => (by rw [h] at hr; cases hr), fun j hj => ?_⟩
    by_cases hji : j = i
    · subst hji; exact opR_intro hi (by rw [hmi]; exact ⟨v, hy, H⟩)
    · have := ready_mono hj hji
      rw [H.1] at this
      cases this
  | succ fuel ih =>
    intro listed a w hfree hr hy H
    refine ⟨fun h => (by rw [h] at hr; cases hr), fun j hj => ?_⟩
    by_cases hji : j = i
    · subst hji; exact opR_intro hi (by rw [hmi]; exact ⟨v, hy, H⟩)
    · obtain ⟨hjun, oj, hoj, hall⟩ := mem_ready.1 hj
      have hrun := (mem_ready.1 hr).1
      have h1 := opR_elim hoj (H.2 j (ready_mono hj hji))
      have hap := hfree j oj hoj hji hjun (ready_not_after hrun hall)
      have hsj := fun cs b => hsel j oj cs b
      obtain ⟨_, h2, _⟩ := Oper.apart_spec hap
      have step : ∀ (a : Act) (u : Value) (w : World), Sees P ops I oi (a.put oj.dst u) v → anyR P md ops I mk Q fuel ((listed.setIfInBounds i true).setIfInBounds j true) ((a.put oi.dst v).put oj.dst u) w →
          anyR P md ops I mk Q (fuel + 1) (listed.setIfInBounds j true) (a.put oj.dst u) w := fun a u w hy' h => by
        refine ih (listed.setIfInBounds j true) (a.put oj.dst u) w (hfree.set hjun) (ready_mono hr (Ne.symm hji)) hy' ?_
        rw [Array.setIfInBounds_comm _ _ hji, ← Act.put_comm a v u h2]
        exact h
      refine opR_intro hoj ?_
      have hon := fun (a : Act) (u : Value) (hy : Sees P ops I oi a v) => Sees.put_on (u := u) hap (fun cs b => hsel i oi cs b hi) hy
      rcases mr_cases (mk j) with hm | hm | hm | hm | hm | ⟨n, hm⟩
      · rw [hm] at h1 ⊢
        obtain ⟨u, hu, hk⟩ := h1
        exact ⟨u, Yields.put_back hap (fun cs b => hsj cs b hoj) hu, step a u w (hon a u hy) hk⟩
      · rw [hm] at h1 ⊢
        obtain ⟨u, hu, hk⟩ := h1
        exact ⟨u, Looks.put_back hap (fun cs b => hsj cs b hoj) hu, step a u w (hon a u hy) hk⟩
      · rw [hm] at h1 ⊢
        obtain ⟨u, hu, hk⟩ := h1
        exact ⟨u, Sees.put_back hap (fun cs b => hsj cs b hoj) hu, step a u w (hon a u hy) hk⟩
      · rw [hm] at h1 ⊢
        obtain ⟨u, hu, hk⟩ := h1
        obtain ⟨u', hu', he⟩ := Gives.put_back hap (fun cs b => hsj cs b hoj) hu
        exact ⟨u', hu', fun w' hw' => step a u' w' (hon a u' hy) (by rw [he]; exact hk w' hw')⟩
      · rw [hm] at h1 ⊢
        have h5 : wpOp P ops Q j (fun a' w' => Ext w w' ∧ _) _ w := h1
        show wpOp P ops Q j (fun a' w' => Ext w w' ∧ _) a w
        have h3 := wpOp_ahead (Q := Q) hoj hap (fun cs b => hsel i oi cs b hi) (fun cs b => hsj cs b hoj) hQ h5
        refine wpOp_mono (fun a' w' h4 => ⟨h4.2.1, ?_⟩) h3
        refine ih (listed.setIfInBounds j true) a' w' (hfree.set hjun) (ready_mono hr (Ne.symm hji)) (hy.of_same h4.1.1 h4.1.2) ?_
        rw [Array.setIfInBounds_comm _ _ hji]
        exact h4.2.2
      · rw [hm] at h1 ⊢
        have h5 : wpOp P ops Q j (fun a' w' => I w' ∧ _) _ w := h1
        show wpOp P ops Q j (fun a' w' => I w' ∧ _) a w
        have h3 := wpOp_ahead (Q := Q) hoj hap (fun cs b => hsel i oi cs b hi) (fun cs b => hsj cs b hoj) hQ h5
        refine wpOp_mono (fun a' w' h4 => ⟨h4.2.1, ?_⟩) h3
        refine ih (listed.setIfInBounds j true) a' w' (hfree.set hjun) (ready_mono hr (Ne.symm hji)) (hy.of_same h4.1.1 h4.1.2) ?_
        rw [Array.setIfInBounds_comm _ _ hji]
        exact h4.2.2


/-- In the order ord. -/
def inRun (P : Program) (ops : Array Oper) (I : World → Prop) (Q : Exit → Act → World → Prop) : List (Nat × Nat) → Act → World → Prop
  | [], a, w => Q .normal a w
  | (m, i) :: r, a, w => ∃ o, ops[i]? = some o ∧ match m with
      | 0 => plainOp o.op = true ∧ inFrame o a = true ∧ ∃ a', (∀ (w : World) (K : Exit → Act → World → Prop), K .normal a' w → wpList P ops K [o] a w) ∧ inRun P ops I Q r a' w
      | 1 => lookOp o.op = true ∧ inFrame o a = true ∧ ∃ a', (∀ w', Ext w w' → ∀ K : Exit → Act → World → Prop, K .normal a' w' → wpList P ops K [o] a w') ∧ inRun P ops I Q r a' w
      | 2 => lookOp o.op = true ∧ inFrame o a = true ∧ ∃ a', (∀ w', I w' → ∀ K : Exit → Act → World → Prop, K .normal a' w' → wpList P ops K [o] a w') ∧ inRun P ops I Q r a' w
      | 3 => ∃ a', a'.defers = a.defers ∧ (∀ w', Ext w w' → ∀ K : Exit → Act → World → Prop, (∀ w'', Ext w' w'' → K .normal a' w'') → wpList P ops K [o] a w') ∧ ∀ w', Ext w w' → inRun P ops I Q r a' w'
      | 4 => wpOp P ops Q i (fun a' w' => Ext w w' ∧ inRun P ops I Q r a' w') a w
      | _ => wpOp P ops Q i (fun a' w' => I w' ∧ inRun P ops I Q r a' w') a w

/-- Is it an order that the region allows, each taken as it may be? -/
def runB (md : Region.Mode) (ops : Array Oper) (all : List (Nat × Nat)) : List (Nat × Nat) → Array Bool → Bool
  | [], listed => (Region.ready md ops listed).isEmpty
  | (m, i) :: r, listed =>
    (match m with
      | 0 => (Region.ready md ops listed).contains i && Region.free md ops listed i
      | 1 => (Region.ready md ops listed).contains i && Region.free md ops listed i && aheadB md ops all 5 i
      | 2 => (Region.ready md ops listed).contains i && Region.free md ops listed i
      | 3 => (Region.ready md ops listed).contains i && Region.free md ops listed i && aheadB md ops all 4 i
      | _ => decide (Region.ready md ops listed = [i])) && decide (mkOf all i = m) && runB md ops all r (listed.setIfInBounds i true)
def orderB (md : Region.Mode) (ops : Array Oper) (ord : List (Nat × Nat)) : Bool :=
  Region.noSelect ops && runB md ops ord ord (Array.replicate ops.size false)

theorem sees_of {o : Oper} {a a' : Act} {w : World} (hI : I w) (hp : lookOp o.op = true) (hf : inFrame o a = true) (h : ∀ w', I w' → ∀ (K : Exit → Act → World → Prop), K .normal a' w' → wpList P ops K [o] a w') : ∃ v, Sees P ops I o a v ∧ a' = a.put o.dst v := by
  have h1 := fun w' hx => h w' hx (QK fun x y => x = a' ∧ y = w') ⟨rfl, rfl⟩
  simp only [wpList] at h1
  by_cases hw : Region.wanted o (yielded ops a.tmps) = true
  · simp only [hw, if_true] at h1
    have key : ∀ w', I w' → ∃ v, (execOp a.eval o).run P w' = .ok (.value v) w' ∧ a.put o.dst v = a' := by
      intro w' hx
      rcases h1 w' hx with h2 | ⟨_, _, _, h2⟩
      case inr => exact h2.elim
      unfold Oper.wp at h2
      have hv := @look_value P a.eval o hp w'
      generalize (execOp a.eval o).run P w' = r at *
      cases r with
      | ok n w' =>
        obtain ⟨v, rfl⟩ := hv rfl
        simp only [Oper.upon] at h2
        obtain ⟨h3, rfl⟩ := h2
        exact ⟨v, rfl, h3⟩
      | halt x w' => cases x <;> simp only [Oper.upon] at h2 <;> exact h2.elim
    obtain ⟨v, _, hv⟩ := key w hI
    refine ⟨v, fun w' hx => .inl ⟨hw, ?_⟩, hv.symm⟩
    obtain ⟨u, hu, hu2⟩ := key w' hx
    have : u = v := by
      rcases put_agree (hu2.trans hv.symm) with h3 | ⟨t, h3, h4⟩ | h3
      · simp [inFrame, h3] at hf
      · unfold inFrame at hf; rw [h3] at hf; exact absurd (of_decide_eq_true hf) (Nat.not_lt.2 h4)
      · exact h3
    rw [← this]; exact hu
  · have h2 := h1 w hI
    simp only [hw] at h2
    exact ⟨undef, fun _ _ => .inr ⟨by simpa using hw, rfl⟩, h2.1.symm⟩

theorem inRun_sound (hIx : ∀ w w', I w → Ext w w' → I w') {Q : Exit → Act → World → Prop} {all : List (Nat × Nat)} (hs : Region.noSelect ops = true) (hQ : ∀ c a d v w, Q (.panic c) (a.put d v) w → Q (.panic c) a w) :
    ∀ (ord : List (Nat × Nat)) (listed : Array Bool) (a : Act) (w : World), I w → Closed ops md listed → runB md ops all ord listed = true → inRun P ops I Q ord a w →
      anyR P md ops I (mkOf all) Q ord.length listed a w
  | [], listed, a, w, _, _, hB, h => ⟨by simpa [runB] using hB, h⟩
  | (m, i) :: r, listed, a, w, hI, hcl, hB, h => by
    simp only [runB, Bool.and_eq_true, decide_eq_true_eq] at hB
    obtain ⟨⟨hm, hmk⟩, hB'⟩ := hB
    obtain ⟨o, ho, h⟩ := h
    have hsel := Region.noSelect_spec hs
    rcases mr_cases m with rfl | rfl | rfl | rfl | rfl | ⟨n, rfl⟩
    · simp only [Bool.and_eq_true] at hm
      obtain ⟨hp, hf, a', h1, h2⟩ := h
      obtain ⟨v, hy, rfl⟩ := yields_of hp hf h1
      have hr : i ∈ Region.ready md ops listed := by simpa using hm.1
      exact anyR_pure ho hmk hsel (fun c a w => hQ c a o.dst v w) r.length listed a w (Region.free_spec ho hm.2) hr hy (inRun_sound hIx hs hQ r _ _ _ hI (hcl.set hr) hB' h2)
    · simp only [Bool.and_eq_true] at hm
      obtain ⟨hp, hf, a', h1, h2⟩ := h
      obtain ⟨v, hy, rfl⟩ := looks_of hp hf h1
      have hr : i ∈ Region.ready md ops listed := by simpa using hm.1.1
      exact anyR_look ho hmk hsel (ahead_of hm.2) (fun c a w => hQ c a o.dst v w) r.length listed a w (Region.free_spec ho hm.1.2) hcl hr hy (inRun_sound hIx hs hQ r _ _ _ hI (hcl.set hr) hB' h2)
    · simp only [Bool.and_eq_true] at hm
      obtain ⟨hp, hf, a', h1, h2⟩ := h
      obtain ⟨v, hy, rfl⟩ := sees_of hI hp hf h1
      have hr : i ∈ Region.ready md ops listed := by simpa using hm.1
      exact anyR_see ho hmk hsel (fun c a w => hQ c a o.dst v w) r.length listed a w (Region.free_spec ho hm.2) hr hy (inRun_sound hIx hs hQ r _ _ _ hI (hcl.set hr) hB' h2)
    · simp only [Bool.and_eq_true] at hm
      obtain ⟨a', hd, h1, h2⟩ := h
      obtain ⟨v, hy, rfl⟩ := gives_of hd h1
      have hr : i ∈ Region.ready md ops listed := by simpa using hm.1.1
      exact anyR_quiet hIx ho hmk hsel (ahead_of hm.2) r.length listed a w hI (Region.free_spec ho hm.1.2) hcl hr hy (fun w' hw' => inRun_sound hIx hs hQ r _ _ _ (hIx _ _ hI hw') (hcl.set hr) hB' (h2 w' hw'))
    all_goals
      have hr : Region.ready md ops listed = [i] := by simpa using hm
      refine ⟨fun h0 => (by rw [hr] at h0; cases h0), fun j hj => ?_⟩
      rw [hr] at hj
      have hji : j = i := by simpa using hj
      subst hji
      refine opR_intro ho ?_
      rw [hmk]
    · have h' : wpOp P ops Q j (fun a' w' => Ext w w' ∧ inRun P ops I Q r a' w') a w := h
      show wpOp P ops Q j (fun a' w' => Ext w w' ∧ _) a w
      exact wpOp_mono (fun a' w' h' => ⟨h'.1, inRun_sound hIx hs hQ r _ _ _ (hIx _ _ hI h'.1) (hcl.set (by rw [hr]; exact List.mem_singleton.2 rfl)) hB' h'.2⟩) h'
    · have h' : wpOp P ops Q j (fun a' w' => I w' ∧ inRun P ops I Q r a' w') a w := h
      show wpOp P ops Q j (fun a' w' => I w' ∧ _) a w
      exact wpOp_mono (fun a' w' h' => ⟨h'.1, inRun_sound hIx hs hQ r _ _ _ h'.1 (hcl.set (by rw [hr]; exact List.mem_singleton.2 rfl)) hB' h'.2⟩) h'

/-- A region whose order is open, in one order that it allows; I: what stays. -/
theorem wp_region_run {id : Nat} {l : List Oper} {Q : Exit → Act → World → Prop} {a : Act} {w : World} (I : World → Prop) (hIx : ∀ w w', I w → Ext w w' → I w') (hI : I w) (ord : List (Nat × Nat)) (hm : P.follows .mixedOrders = true)
    (hB : orderB .any l.toArray ord = true) (hlen : ord.length = l.length) (hQ : ∀ c a d v w, Q (.panic c) (a.put d v) w → Q (.panic c) a w)
    (h : ∀ w', Ext w w' → inRun P l.toArray I Q ord a w') : (Code.region id l.toArray true).wp P Q a w := by
  simp only [orderB, Bool.and_eq_true] at hB
  refine wp_region_any hm (anyR_sound (mk := mkOf ord) hIx _ _ _ _ (hIx _ _ hI (Ext.drew_self w)) ?_)
  have := inRun_sound (md := .any) hIx hB.1 hQ ord (Array.replicate l.toArray.size false) a w.drew (hIx _ _ hI (Ext.drew_self w))
    (fun k ok _ hl => by rw [show (Array.replicate l.toArray.size false).getD k false = false by simp [Array.getD]] at hl; cases hl) hB.2 (h _ (Ext.drew_self w))
  rw [hlen] at this
  simpa using this
theorem inRun_nil {Q : Exit → Act → World → Prop} {a : Act} {w : World} (h : Q .normal a w) : inRun P ops I Q [] a w := h
theorem inRun_p {Q : Exit → Act → World → Prop} {a : Act} {w : World} {i : Nat} {r : List (Nat × Nat)} {l : List Oper} {o : Oper} (a' : Act) (ho : nth l i = some o) (hp : plainOp o.op = true) (hf : inFrame o a = true)
    (h : ∀ (w : World) (K : Exit → Act → World → Prop), K .normal a' w → wpList P l.toArray K [o] a w) (hr : inRun P l.toArray I Q r a' w) : inRun P l.toArray I Q ((0, i) :: r) a w := ⟨o, (nth_eq l i).symm.trans ho, hp, hf, a', h, hr⟩
theorem inRun_l {Q : Exit → Act → World → Prop} {a : Act} {w : World} {i : Nat} {r : List (Nat × Nat)} {l : List Oper} {o : Oper} (a' : Act) (ho : nth l i = some o) (hp : lookOp o.op = true) (hf : inFrame o a = true)
    (h : ∀ w', Ext w w' → ∀ (K : Exit → Act → World → Prop), K .normal a' w' → wpList P l.toArray K [o] a w') (hr : inRun P l.toArray I Q r a' w) : inRun P l.toArray I Q ((1, i) :: r) a w := ⟨o, (nth_eq l i).symm.trans ho, hp, hf, a', h, hr⟩
theorem inRun_s {Q : Exit → Act → World → Prop} {a : Act} {w : World} {i : Nat} {r : List (Nat × Nat)} {l : List Oper} {o : Oper} (a' : Act) (ho : nth l i = some o) (hp : lookOp o.op = true) (hf : inFrame o a = true)
    (h : ∀ w', I w' → ∀ (K : Exit → Act → World → Prop), K .normal a' w' → wpList P l.toArray K [o] a w') (hr : inRun P l.toArray I Q r a' w) : inRun P l.toArray I Q ((2, i) :: r) a w := ⟨o, (nth_eq l i).symm.trans ho, hp, hf, a', h, hr⟩
theorem inRun_q {Q : Exit → Act → World → Prop} {a : Act} {w : World} {i : Nat} {r : List (Nat × Nat)} {l : List Oper} {o : Oper} (a' : Act) (ho : nth l i = some o)
    (h : ∀ w', Ext w w' → ∀ K : Exit → Act → World → Prop, (∀ w'', Ext w' w'' → K .normal a' w'') → wpList P l.toArray K [o] a w') (hd : a'.defers = a.defers) (hr : ∀ w', Ext w w' → inRun P l.toArray I Q r a' w') : inRun P l.toArray I Q ((3, i) :: r) a w :=
  ⟨o, (nth_eq l i).symm.trans ho, a', hd, h, hr⟩
theorem inRun_x {Q : Exit → Act → World → Prop} {a : Act} {w : World} {i : Nat} {r : List (Nat × Nat)} {l : List Oper} {o : Oper} (ho : nth l i = some o)
    (h : ∀ K : Exit → Act → World → Prop, (∀ a' w', Ext w w' → inRun P l.toArray I Q r a' w' → K .normal a' w') → wpList P l.toArray K [o] a w) : inRun P l.toArray I Q ((4, i) :: r) a w :=
  ⟨o, (nth_eq l i).symm.trans ho, wpOp_of_list ((nth_eq l i).symm.trans ho) fun K hK => h K fun a' w' h1 h2 => hK a' w' ⟨h1, h2⟩⟩
theorem inRun_d {Q : Exit → Act → World → Prop} {a : Act} {w : World} {i : Nat} {r : List (Nat × Nat)} {l : List Oper} {o : Oper} (ho : nth l i = some o)
    (h : ∀ K : Exit → Act → World → Prop, (∀ a w, I w → inRun P l.toArray I Q r a w → K .normal a w) → wpList P l.toArray K [o] a w) : inRun P l.toArray I Q ((5, i) :: r) a w :=
  ⟨o, (nth_eq l i).symm.trans ho, wpOp_of_list ((nth_eq l i).symm.trans ho) fun K hK => h K fun a' w' h1 h2 => hK a' w' ⟨h1, h2⟩⟩
end
end Go.Proofs.YtmjdgcgmlgbfjaaDoor
