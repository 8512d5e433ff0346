/- A rule for regions whose order is left open, proved over any program: operations that compute, that read or make memory, and that change it, taken in one order that the region allows. -/
import Derived.WalkKit
import Derived.Still
import Derived.KernelRfl
import Derived.BigFrame
namespace Go.Proofs.YtmjdgcgmlgbfjaaDoor
open Go.RowKit

/-- w' is w with new blocks alone. -/
def Ext (w w' : World) : Prop := Below w.heap.size w w'
theorem Ext.refl (w : World) : Ext w w := Below.refl _ _
theorem Ext.size {w w' : World} (h : Ext w w') : w.heap.size ≤ w'.heap.size := Below.size h
theorem Ext.trans {a b c : World} (h : Ext a b) (k : Ext b c) : Ext a c := Below.trans h (Below.mono k h.size)
theorem Ext.drew {a w : World} (h : Ext a w) : Ext a w.drew := Below.drew h
theorem Ext.of_drew {a w : World} (h : Ext a w) : Ext a.drew w := by obtain ⟨h1, h2, h3, h4, h5⟩ := h; exact ⟨h1, h2, h3, h4, h5⟩
theorem Ext.drew_self (w : World) : Ext w w.drew := Below.drew (Below.refl _ _)
theorem Ext.drawn_self (w : World) : Ext w { w with drawn := w.drawn + 1 } := Below.drew (Below.refl _ _)
theorem Ext.alloc {a w : World} (h : Ext a w) (o : Obj) : Ext a (w.alloc o) := Below.alloc h h.size o
theorem Ext.cell {w w' : World} (h : Ext w w') : ∀ b o, b < w.heap.size → w'.cell? ⟨b, o, none⟩ = w.cell? ⟨b, o, none⟩ :=
  fun b o hb => Below.cell h (p := ⟨b, o, none⟩) hb
theorem Ext.frozen {w w' : World} (h : Ext w w') : ∀ b o, b < w.heap.size → w'.frozen? ⟨b, o, none⟩ = w.frozen? ⟨b, o, none⟩ :=
  fun b o hb => Below.frozen h (p := ⟨b, o, none⟩) hb
theorem Ext.block {w w' : World} (h : Ext w w') : ∀ b, b < w.heap.size → w'.heap[b]? = w.heap[b]? := fun b hb => Below.block h b hb

theorem Ext.some {w w' : World} (h : Ext w w') {a : Addr} {v : Value} (hc : w.cell? a = some v) : w'.cell? a = some v := by
  have hb : a.block < w.heap.size := by
    unfold World.cell? at hc
    split at hc
    · rename_i he; exact (Array.getElem?_eq_some_iff.1 he).1
    · cases hc
  rw [Below.cell h hb]; exact hc
/-- What cells hold. -/
def Holds (w : World) (l : List (Addr × Value)) : Prop := ∀ p ∈ l, w.cell? p.1 = some p.2
theorem Holds.ext {w w' : World} {l : List (Addr × Value)} (hx : Ext w w') (h : Holds w l) : Holds w' l := fun p hp => hx.some (h p hp)
theorem Holds.nil (w : World) : Holds w [] := fun _ h => by cases h
theorem Holds.cons {w : World} {a : Addr} {v : Value} {l : List (Addr × Value)} (h : w.cell? a = some v) (k : Holds w l) : Holds w ((a, v) :: l) := fun p hp => by
  rcases List.mem_cons.1 hp with rfl | hp
  · exact h
  · exact k p hp
theorem Holds.head {w : World} {a : Addr} {v : Value} {l : List (Addr × Value)} (h : Holds w ((a, v) :: l)) : w.cell? a = some v := h (a, v) (List.mem_cons_self ..)
theorem Holds.tail {w : World} {p : Addr × Value} {l : List (Addr × Value)} (h : Holds w (p :: l)) : Holds w l := fun q hq => h q (List.mem_cons_of_mem _ hq)
theorem Calls.known {P : Program} {f : FuncId} {args : Array Value} {w : World} {R : Ending → World → Prop} (w0 : World) (l : List (Addr × Value))
    (hE : Ext w0 w) (hH : Holds w l) (h : ∀ w, Ext w0 w → Holds w l → Calls P f args w R) : Calls P f args w R := h w hE hH
theorem wp_known {P : Program} {c : Code} {Q : Exit → Act → World → Prop} {a : Act} {w : World} (w0 : World) (l : List (Addr × Value))
    (hE : Ext w0 w) (hH : Holds w l) (h : ∀ w, Ext w0 w → Holds w l → c.wp P Q a w) : c.wp P Q a w := h w hE hH
/-- The same, written out. -/
def AllEq (w : World) : List (Addr × Value) → Prop
  | [] => True
  | [(a, v)] => w.cell? a = some v
  | (a, v) :: l => w.cell? a = some v ∧ AllEq w l
theorem Holds.all {w : World} : ∀ {l : List (Addr × Value)}, Holds w l → AllEq w l
  | [], _ => trivial
  | [(_, _)], h => h.head
  | (_, _) :: _ :: _, h => ⟨h.head, Holds.all h.tail⟩

/-- How an operation is taken: 0: it computes; 1: it looks at memory; 2: a call that makes memory at most; 3: it makes memory; else: it may change memory. -/
theorem mk_cases (m : Nat) : m = 0 ∨ m = 1 ∨ m = 2 ∨ m = 3 ∨ ∃ n, m = n + 4 := by
  match m with
  | 0 => exact .inl rfl
  | 1 => exact .inr (.inl rfl)
  | 2 => exact .inr (.inr (.inl rfl))
  | 3 => exact .inr (.inr (.inr (.inl rfl)))
  | n + 4 => exact .inr (.inr (.inr (.inr ⟨n, rfl⟩)))

section
variable {P : Program} {ops : Array Oper} {md : Region.Mode}

/-- What one quiet operation does: it makes memory at most. -/
def quietUpon (P : Program) (o : Oper) (a : Act) (w : World) (next : Act → Prop) : Result Next → Prop
  | .ok (.value v) w' => Ext w w' ∧ next (a.put o.dst v)
  | .ok .skip w' => Ext w w' ∧ next (a.put o.dst undef)
  | .ok (.enter f args) w' => Calls P f args w' (fun e w'' => ∃ v, e = .returned v ∧ Ext w w'' ∧ next (a.put o.dst v))
  | .ok (.row row args) w' => Rows P row args w' (fun v w'' => Ext w w'' ∧ next (a.put o.dst v))
  | _ => False
def quietOp (P : Program) (o : Oper) (a : Act) (w : World) (next : Act → Prop) : Prop := quietUpon P o a w next ((execOp a.eval o).run P w)

def quietIf (P : Program) (ops : Array Oper) (o : Oper) (a : Act) (w : World) (next : Act → Prop) : Prop :=
  if Region.wanted o (yielded ops a.tmps) then quietOp P o a w next else next (a.put o.dst undef)

/-- The operation o at the frame a gives the frame that v in its place gives, whatever more memory there is. -/
def Gives (P : Program) (ops : Array Oper) (o : Oper) (a : Act) (w : World) (v : Value) : Prop :=
  ∀ w', Ext w w' → quietIf P ops o a w' (fun a' => a' = a.put o.dst v)

theorem quietOp_mono {o : Oper} {a : Act} {w : World} {K K' : Act → Prop} (h : ∀ a, K a → K' a) (hh : quietOp P o a w K) : quietOp P o a w K' := by
  unfold quietOp at *
  generalize (execOp a.eval o).run P w = r at *
  cases r with
  | ok n w' =>
    cases n <;> simp only [quietUpon] at hh ⊢
    case value v => exact ⟨hh.1, h _ hh.2⟩
    case skip => exact ⟨hh.1, h _ hh.2⟩
    case enter f args => exact hh.mono fun e w'' ⟨v, he, hx, hn⟩ => ⟨v, he, hx, h _ hn⟩
    case row f args => exact hh.mono fun v w'' ⟨hx, hn⟩ => ⟨hx, h _ hn⟩
  | halt x w' => simp only [quietUpon] at hh
theorem quietIf_mono {o : Oper} {a : Act} {w : World} {K K' : Act → Prop} (h : ∀ a, K a → K' a) (hh : quietIf P ops o a w K) : quietIf P ops o a w K' := by
  unfold quietIf at *
  split at hh
  · rename_i hw; rw [if_pos hw]; exact quietOp_mono h hh
  · rename_i hw; rw [if_neg hw]; exact h _ hh

/-- From frame to frame, by another frame that reads alike. -/
theorem quietIf_put {oi : Oper} {oj : Oper} {v : Value} (hap : oi.apart ops oj = true) (hsj : ∀ cs b, oj.op ≠ .select cs b) {a : Act} {w : World} {u : Value}
    (h : quietIf P ops oj (a.put oi.dst v) w (fun a' => a' = (a.put oi.dst v).put oj.dst u)) :
    quietIf P ops oj a w (fun a' => ∃ u', a' = a.put oj.dst u' ∧ (a.put oi.dst v).put oj.dst u' = (a.put oi.dst v).put oj.dst u) := by
  obtain ⟨h1, h2, h3⟩ := Oper.apart_spec hap
  unfold quietIf at *
  rw [wanted_put oj a oi.dst v h1] at h
  split
  · rename_i hw
    simp only [hw, if_true] at h
    unfold quietOp at *
    rw [execOp_put oj hsj a oi.dst v h1] at h
    generalize (execOp a.eval oj).run P w = r at *
    cases r with
    | ok n w' =>
      cases n <;> simp only [quietUpon] at h ⊢
      case value x => exact ⟨h.1, x, rfl, h.2⟩
      case skip => exact ⟨h.1, undef, rfl, h.2⟩
      case enter f args => exact h.mono fun e w'' ⟨x, he, hx, hn⟩ => ⟨x, he, hx, x, rfl, hn⟩
      case row f args => exact h.mono fun x w'' ⟨hx, hn⟩ => ⟨hx, x, rfl, hn⟩
    | halt x w' => simp only [quietUpon] at h
  · rename_i hw
    simp only [hw] at h
    exact ⟨undef, rfl, h⟩

/-- Which value a quiet operation gives does not hang on the world: so it may be taken at any frame that reads alike. -/
theorem Gives.of_same {o : Oper} {a a' : Act} {w : World} {v : Value} (h : Gives P ops o a w v) (he : execOp a'.eval o = execOp a.eval o)
    (hw : Region.wanted o (yielded ops a'.tmps) = Region.wanted o (yielded ops a.tmps))
    (hp : ∀ x, a.put o.dst x = a.put o.dst v → a'.put o.dst x = a'.put o.dst v) : Gives P ops o a' w v := by
  intro w' hx
  have := h w' hx
  unfold quietIf at *
  rw [hw]
  split
  · rename_i hw'
    simp only [hw', if_true] at this
    unfold quietOp at *
    rw [he]
    generalize (execOp a.eval o).run P w' = r at *
    cases r with
    | ok n w' =>
      cases n <;> simp only [quietUpon] at this ⊢
      case value x => exact ⟨this.1, hp _ this.2⟩
      case skip => exact ⟨this.1, hp _ this.2⟩
      case enter f args => exact this.mono fun e w'' ⟨x, he, hx, hn⟩ => ⟨x, he, hx, hp _ hn⟩
      case row f args => exact this.mono fun x w'' ⟨hx, hn⟩ => ⟨hx, hp _ hn⟩
    | halt x w' => simp only [quietUpon] at this
  · rename_i hw'
    simp only [hw'] at this
    exact hp _ this
theorem Gives.ext {o : Oper} {a : Act} {w w' : World} {v : Value} (h : Gives P ops o a w v) (hx : Ext w w') : Gives P ops o a w' v :=
  fun w2 h2 => h w2 (hx.trans h2)

/-- Two puts into one place: the first does not tell. -/
theorem put_put_same {a : Act} {d : Option Tmp} {x v : Value} (e : Option Tmp) (u : Value) (hne : ∀ t, d = some t → e ≠ some t)
    (h : a.put d x = a.put d v) : (a.put e u).put d x = (a.put e u).put d v := by
  rw [← Act.put_comm a x u hne, h, Act.put_comm a v u hne]

/-- What an operation that looks at memory finds, whatever more memory there is. -/
def Looks (P : Program) (ops : Array Oper) (o : Oper) (a : Act) (w : World) (v : Value) : Prop :=
  ∀ w', Ext w w' → (Region.wanted o (yielded ops a.tmps) = true ∧ (execOp a.eval o).run P w' = .ok (.value v) w') ∨ (Region.wanted o (yielded ops a.tmps) = false ∧ v = undef)
theorem Looks.of_same {o : Oper} {a a' : Act} {w : World} {v : Value} (h : Looks P ops o a w v) (he : execOp a'.eval o = execOp a.eval o)
    (hw : Region.wanted o (yielded ops a'.tmps) = Region.wanted o (yielded ops a.tmps)) : Looks P ops o a' w v := by
  intro w' hx; rw [he, hw]; exact h w' hx
theorem Looks.ext {o : Oper} {a : Act} {w w' : World} {v : Value} (h : Looks P ops o a w v) (hx : Ext w w') : Looks P ops o a w' v := fun w2 h2 => h w2 (hx.trans h2)
theorem Looks.wpOp {Q : Exit → Act → World → Prop} {i : Nat} {o : Oper} {v : Value} {a : Act} {w : World} (hi : ops[i]? = some o) (hy : Looks P ops o a w v)
    {K : Act → World → Prop} (h : K (a.put o.dst v) w) : wpOp P ops Q i K a w := by
  unfold Go.wpOp
  simp only [hi]
  rcases hy w (Ext.refl w) with ⟨hw, hv⟩ | ⟨hw, rfl⟩
  · simp only [hw, if_true, Oper.wp, hv, Oper.upon]; exact .inl h
  · simp only [hw, Bool.false_eq_true, if_false]; exact h

/-- One step in an order that is open, by its mark. -/
def OpTAt (P : Program) (ops : Array Oper) (Q : Exit → Act → World → Prop) (m : Nat) (j : Nat) (oj : Oper) (K : Act → World → Prop) (a : Act) (w : World) : Prop :=
  match m with
  | 0 => ∃ v, Yields P ops oj v a ∧ K (a.put oj.dst v) w
  | 1 => ∃ v, Looks P ops oj a w v ∧ K (a.put oj.dst v) w
  | 2 => ∃ v, Gives P ops oj a w v ∧ ∀ w', Ext w w' → K (a.put oj.dst v) w'
  | 3 => wpOp P ops Q j (fun a' w' => Ext w w' ∧ K a' w') a w
  | _ => wpOp P ops Q j K a w
def opT (P : Program) (ops : Array Oper) (Q : Exit → Act → World → Prop) (m : Nat) (i : Nat) (K : Act → World → Prop) (a : Act) (w : World) : Prop :=
  match ops[i]? with
  | none => K a w
  | some o => OpTAt P ops Q m i o K a w

theorem opT_mono {Q : Exit → Act → World → Prop} {m : Nat} {i : Nat} {K K' : Act → World → Prop} {a : Act} {w : World} (h : ∀ a w, K a w → K' a w)
    (hh : opT P ops Q m i K a w) : opT P ops Q m i K' a w := by
  unfold opT at *
  split
  · rename_i ho; simp only [ho] at hh; exact h _ _ hh
  · rename_i o ho
    simp only [ho] at hh
    rcases mk_cases m with rfl | rfl | rfl | rfl | ⟨n, rfl⟩
    · obtain ⟨v, hy, hk⟩ := hh; exact ⟨v, hy, h _ _ hk⟩
    · obtain ⟨v, hy, hk⟩ := hh; exact ⟨v, hy, h _ _ hk⟩
    · obtain ⟨v, hy, hk⟩ := hh; exact ⟨v, hy, fun w' hw' => h _ _ (hk w' hw')⟩
    · have h1 : wpOp P ops Q i (fun a' w' => Ext w w' ∧ K a' w') a w := hh
      exact wpOp_mono (P := P) (K' := fun a' w' => Ext w w' ∧ K' a' w') (fun a w hk => ⟨hk.1, h _ _ hk.2⟩) h1
    · have h1 : wpOp P ops Q i K a w := hh
      exact wpOp_mono h h1

theorem opT_sound {Q : Exit → Act → World → Prop} {m : Nat} {i : Nat} {K : Act → World → Prop} {a : Act} {w : World}
    (hh : opT P ops Q m i K a w) : wpOp P ops Q i K a w := by
  unfold opT at hh
  split at hh
  · rename_i ho; unfold wpOp; simp only [ho]; exact hh
  · rename_i o ho
    rcases mk_cases m with rfl | rfl | rfl | rfl | ⟨n, rfl⟩
    · obtain ⟨v, hy, hk⟩ := hh; exact hy.wpOp ho hk
    · obtain ⟨v, hy, hk⟩ := hh; exact hy.wpOp ho hk
    · obtain ⟨v, hy, hk⟩ := hh
      have h0 := hy w (Ext.refl w)
      unfold wpOp
      simp only [ho]
      unfold quietIf at h0
      split
      · rename_i hw
        simp only [hw, if_true] at h0
        refine .inl ?_
        unfold Oper.wp
        unfold quietOp at h0
        generalize (execOp a.eval o).run P w = r at *
        cases r with
        | ok n w' =>
          cases n <;> simp only [quietUpon] at h0 <;> simp only [Oper.upon]
          case value x => rw [h0.2]; exact hk _ h0.1
          case skip => rw [h0.2]; exact hk _ h0.1
          case enter f args =>
            refine h0.mono fun e w'' ⟨x, he, hx, hn⟩ => ?_
            subst he
            show K (a.put o.dst x) w''
            rw [hn]; exact hk _ hx
          case row f args =>
            refine h0.mono fun x w'' ⟨hx, hn⟩ => ?_
            rw [hn]; exact hk _ hx
        | halt x w' => simp only [quietUpon] at h0
      · rename_i hw
        simp only [hw] at h0
        rw [show a.put o.dst undef = a.put o.dst v from h0]
        exact hk _ (Ext.refl w)
    · have h1 : wpOp P ops Q i (fun a' w' => Ext w w' ∧ K a' w') a w := hh
      exact wpOp_mono (fun a w hk => hk.2) h1
    · exact hh

/-- wpAny, by marks. -/
def anyT (P : Program) (md : Region.Mode) (ops : Array Oper) (mk : Nat → Nat) (Q : Exit → Act → World → Prop) : Nat → Array Bool → Act → World → Prop
  | 0, listed, a, w => Region.ready md ops listed = [] ∧ Q .normal a w
  | fuel + 1, listed, a, w =>
    (Region.ready md ops listed = [] → Q .normal a w) ∧
    ∀ i ∈ Region.ready md ops listed, opT P ops Q (mk i) i (anyT P md ops mk Q fuel (listed.setIfInBounds i true)) a w

theorem anyT_sound {mk : Nat → Nat} {Q : Exit → Act → World → Prop} : ∀ (fuel : Nat) (listed : Array Bool) (a : Act) (w : World),
    anyT P md ops mk Q fuel listed a w → wpAny P md ops Q fuel listed a w
  | 0, _, _, _, h => h
  | fuel + 1, _, _, _, h => ⟨h.1, fun i hi => wpOp_mono (fun a' w' => anyT_sound fuel _ a' w') (opT_sound (h.2 i hi))⟩

theorem opT_intro {Q : Exit → Act → World → Prop} {m : Nat} {j : Nat} {oj : Oper} {K : Act → World → Prop} {a : Act} {w : World} (hj : ops[j]? = some oj)
    (h : OpTAt P ops Q m j oj K a w) : opT P ops Q m j K a w := by
  unfold opT; simp only [hj]; exact h
theorem opT_elim {Q : Exit → Act → World → Prop} {m : Nat} {j : Nat} {oj : Oper} {K : Act → World → Prop} {a : Act} {w : World} (hj : ops[j]? = some oj)
    (h : opT P ops Q m j K a w) : OpTAt P ops Q m j oj K a w := by
  unfold opT at h; simp only [hj] at h; exact h

theorem Looks.put_back {oi oj : Oper} {v u : Value} {a : Act} {w : World} (hap : oi.apart ops oj = true) (hsj : ∀ cs b, oj.op ≠ .select cs b)
    (hy : Looks P ops oj (a.put oi.dst v) w u) : Looks P ops oj a w u := by
  obtain ⟨h1, _, _⟩ := Oper.apart_spec hap
  exact hy.of_same (execOp_put oj hsj a oi.dst v h1).symm (wanted_put oj a oi.dst v h1).symm
theorem Looks.put_on {oi oj : Oper} {v u : Value} {a : Act} {w : World} (hap : oi.apart ops oj = true) (hsi : ∀ cs b, oi.op ≠ .select cs b)
    (hy : Looks P ops oi a w v) : Looks P ops oi (a.put oj.dst u) w v := by
  obtain ⟨_, _, h3⟩ := Oper.apart_spec hap
  exact hy.of_same (execOp_put oi hsi a oj.dst u h3) (wanted_put oi a oj.dst u h3)
/-- One operation ahead of another one that does not read it: what the other one sees stays. -/
theorem wpOp_ahead {Q : Exit → Act → World → Prop} {oi : Oper} {j : Nat} {oj : Oper} {v : Value} (hj : ops[j]? = some oj) (hap : oi.apart ops oj = true)
    (hsi : ∀ cs b, oi.op ≠ .select cs b) (hsj : ∀ cs b, oj.op ≠ .select cs b)
    (hQ : ∀ c a w, Q (.panic c) (a.put oi.dst v) w → Q (.panic c) a w) {K : Act → World → Prop} {a : Act} {w : World}
    (h : wpOp P ops Q j K (a.put oi.dst v) w) :
    wpOp P ops Q j (fun a' w' => (execOp a'.eval oi = execOp a.eval oi ∧ Region.wanted oi (yielded ops a'.tmps) = Region.wanted oi (yielded ops a.tmps)) ∧ K (a'.put oi.dst v) w') a w := by
  obtain ⟨h1, h2, h3⟩ := Oper.apart_spec hap
  have keep : ∀ u, execOp (a.put oj.dst u).eval oi = execOp a.eval oi ∧ Region.wanted oi (yielded ops (a.put oj.dst u).tmps) = Region.wanted oi (yielded ops a.tmps) :=
    fun u => ⟨execOp_put oi hsi a oj.dst u h3, wanted_put oi a oj.dst u h3⟩
  unfold wpOp at *
  simp only [hj] at *
  rw [wanted_put oj a oi.dst v h1] at h
  split
  · rename_i hw
    simp only [hw, if_true] at h
    rcases h with h | ⟨hasks, hlets⟩
    case inr => exact .inr ⟨by unfold Oper.asks at *; rw [execOp_put oj hsj a oi.dst v h1] at hasks; exact hasks, hlets⟩
    refine .inl ?_
    unfold Oper.wp at *
    rw [execOp_put oj hsj a oi.dst v h1] at h
    generalize (execOp a.eval oj).run P w = r at *
    cases r with
    | ok n w' =>
      cases n <;> simp only [Oper.upon] at h ⊢
      case value u => exact ⟨keep u, by rw [← Act.put_comm a v u h2]; exact h⟩
      case skip => exact ⟨keep _, by rw [← Act.put_comm a v undef h2]; exact h⟩
      case defer d =>
        refine ⟨?_, ?_⟩
        · have := keep undef
          rw [show (({ a with defers := d :: a.defers } : Act).put oj.dst undef).eval = (a.put oj.dst undef).eval from by cases oj.dst <;> rfl,
            show (({ a with defers := d :: a.defers } : Act).put oj.dst undef).tmps = (a.put oj.dst undef).tmps from by cases oj.dst <;> rfl]
          exact this
        · rw [← Act.put_comm _ v undef h2, ← Act.put_defers]
          exact h
      case enter f args =>
        refine Calls.mono h fun e w'' he => ?_
        cases e with
        | returned u => exact ⟨keep u, by rw [← Act.put_comm a v u h2]; exact he⟩
        | panicked c => exact hQ _ _ _ he
        | outgrown => exact he
      case row row args => exact Rows.mono h fun u w'' he => ⟨keep u, by rw [← Act.put_comm a v u h2]; exact he⟩
    | halt x w' =>
      cases x <;> simp only [Oper.upon] at h ⊢
      case panic u => exact hQ _ _ _ h
  · rename_i hw
    simp only [hw] at h
    exact ⟨keep _, by rw [← Act.put_comm a v undef h2]; exact h⟩

theorem Yields.put_back {oi oj : Oper} {v u : Value} {a : Act} (hap : oi.apart ops oj = true) (hsj : ∀ cs b, oj.op ≠ .select cs b)
    (hy : Yields P ops oj u (a.put oi.dst v)) : Yields P ops oj u a := by
  obtain ⟨h1, _, _⟩ := Oper.apart_spec hap
  exact hy.of_same (execOp_put oj hsj a oi.dst v h1).symm (wanted_put oj a oi.dst v h1).symm
theorem Yields.put_on {oi oj : Oper} {v u : Value} {a : Act} (hap : oi.apart ops oj = true) (hsi : ∀ cs b, oi.op ≠ .select cs b)
    (hy : Yields P ops oi v a) : Yields P ops oi v (a.put oj.dst u) := by
  obtain ⟨_, _, h3⟩ := Oper.apart_spec hap
  exact hy.of_same (execOp_put oi hsi a oj.dst u h3) (wanted_put oi a oj.dst u h3)
theorem Gives.put_back {oi oj : Oper} {v u : Value} {a : Act} {w : World} (hap : oi.apart ops oj = true) (hsj : ∀ cs b, oj.op ≠ .select cs b)
    (hy : Gives P ops oj (a.put oi.dst v) w u) : ∃ u', Gives P ops oj a w u' ∧ (a.put oi.dst v).put oj.dst u' = (a.put oi.dst v).put oj.dst u := by
  obtain ⟨h1, h2, _⟩ := Oper.apart_spec hap
  -- the place of oj is the same in both frames: what is put there tells the same
  cases hd : oj.dst with
  | none =>
    refine ⟨u, fun w' hx => ?_, rfl⟩
    refine quietIf_mono ?_ (quietIf_put hap hsj (hy w' hx))
    rintro a' ⟨u', rfl, _⟩
    rw [hd]; rfl
  | some d =>
    have hne : oi.dst ≠ some d := fun e => (h2 d e) hd
    have key : ∀ x y : Value, (a.put oi.dst v).put (some d) x = (a.put oi.dst v).put (some d) y → a.put (some d) x = a.put (some d) y := by
      intro x y hxy
      cases ho : oi.dst with
      | none => rw [ho] at hxy; exact hxy
      | some t =>
        have htd : t ≠ d := fun e => hne (by rw [ho, e])
        rw [ho] at hxy
        have h1 : (a.tmps.setIfInBounds t v).setIfInBounds d x = (a.tmps.setIfInBounds t v).setIfInBounds d y := congrArg Act.tmps hxy
        have : a.tmps.setIfInBounds d x = a.tmps.setIfInBounds d y := by
          by_cases hsz : d < a.tmps.size
          · have := congrArg (fun (l : Array Value) => l[d]?) h1
            simp [hsz] at this
            rw [this]
          · have e : ∀ z, a.tmps.setIfInBounds d z = a.tmps := fun z => Array.setIfInBounds_eq_of_size_le (Nat.le_of_not_lt hsz)
            rw [e, e]
        show ({ a with tmps := a.tmps.setIfInBounds d x } : Act) = { a with tmps := a.tmps.setIfInBounds d y }
        rw [this]
    refine ⟨u, fun w' hx => ?_, rfl⟩
    refine quietIf_mono ?_ (quietIf_put hap hsj (hy w' hx))
    rintro a' ⟨u', rfl, h⟩
    rw [hd] at h ⊢
    exact key _ _ h
theorem Gives.put_on {oi oj : Oper} {v u : Value} {a : Act} {w : World} (hap : oi.apart ops oj = true) (hsi : ∀ cs b, oi.op ≠ .select cs b)
    (hy : Gives P ops oi a w v) : Gives P ops oi (a.put oj.dst u) w v := by
  obtain ⟨_, h2, h3⟩ := Oper.apart_spec hap
  exact hy.of_same (execOp_put oi hsi a oj.dst u h3) (wanted_put oi a oj.dst u h3) fun x hx => put_put_same _ _ h2 hx

theorem Yields.unique {o : Oper} {v u : Value} {a : Act} (h : Yields P ops o v a) (k : Yields P ops o u a) (w : World) : v = u := by
  rcases h with ⟨hw, hv⟩ | ⟨hw, rfl⟩ <;> rcases k with ⟨kw, kv⟩ | ⟨kw, rfl⟩
  · have := (hv w).symm.trans (kv w); injection this with h1; injection h1
  · rw [hw] at kw; cases kw
  · rw [hw] at kw; cases kw
  · rfl

theorem getD_un {l : Array Bool} {k : Nat} (h : l.getD k true = false) : l.getD k false = false := by
  unfold Array.getD at *
  split at h
  · rename_i hk; rw [dif_pos hk]; exact h
  · cases h
/-- Unlisted operations that do not wait for i. -/
def FreeOf (ops : Array Oper) (md : Region.Mode) (listed : Array Bool) (i : Nat) (oi : Oper) : Prop :=
  ∀ j oj, ops[j]? = some oj → j ≠ i → listed.getD j true = false → (∀ e ∈ oj.after, Region.binds md e = true → e.on ≠ i) → oi.apart ops oj = true
theorem FreeOf.set {listed : Array Bool} {i j : Nat} {oi : Oper} (h : FreeOf ops md listed i oi) (hj : listed.getD j true = false) : FreeOf ops md (listed.setIfInBounds j true) i oi := by
  intro k ok hk hki hun hno
  refine h k ok hk hki ?_ hno
  by_cases hjk : j = k
  · subst hjk; exact hj
  · rw [getD_set_ne true hjk] at hun; exact hun
theorem ready_not_after {listed : Array Bool} {i : Nat} {oj : Oper} (hr : listed.getD i true = false) (hall : ∀ e ∈ oj.after, Region.binds md e = true → listed.getD e.on false = true) :
    ∀ e ∈ oj.after, Region.binds md e = true → e.on ≠ i := fun e he hb heq => by
  have h1 := hall e he hb
  rw [heq, getD_un hr] at h1
  cases h1

/-- An operation that only computes may go first. -/
theorem anyT_pure {mk : Nat → Nat} {Q : Exit → Act → World → Prop} {i : Nat} {oi : Oper} {v : Value} (hi : ops[i]? = some oi) (hmi : mk i = 0)
    (hsel : ∀ (j : Nat) (o : Oper) cs b, ops[j]? = some o → o.op ≠ .select cs b)
    (hQ : ∀ c a w, Q (.panic c) (a.put oi.dst v) w → Q (.panic c) a w) :
    ∀ (fuel : Nat) (listed : Array Bool) (a : Act) (w : World), FreeOf ops md listed i oi →
      i ∈ Region.ready md ops listed → Yields P ops oi v a →
      anyT P md ops mk Q fuel (listed.setIfInBounds i true) (a.put oi.dst v) w → anyT P md ops mk Q (fuel + 1) listed a w := by
  intro fuel
  induction fuel with
  | zero =>
    intro listed a w _ hr hy H
    refine ⟨fun h => (by rw [h] at hr; cases hr), fun j hj => ?_⟩
    by_cases hji : j = i
    · subst hji; exact opT_intro hi (by rw [hmi]; exact ⟨v, hy, H⟩)
    · have := ready_mono hj hji
      rw [H.1] at this
      cases this
  | succ fuel ih =>
    intro listed a w hfree hr hy H
    refine ⟨fun h => (by rw [h] at hr; cases hr), fun j hj => ?_⟩
    by_cases hji : j = i
    · subst hji; exact opT_intro hi (by rw [hmi]; exact ⟨v, hy, H⟩)
    · obtain ⟨hjun, oj, hoj, hall⟩ := mem_ready.1 hj
      have hrun := (mem_ready.1 hr).1
      have h1 := opT_elim hoj (H.2 j (ready_mono hj hji))
      have hap := hfree j oj hoj hji hjun (ready_not_after hrun hall)
      have hsj := fun cs b => hsel j oj cs b
      obtain ⟨_, h2, _⟩ := Oper.apart_spec hap
      have step : ∀ (a : Act) (u : Value) (w : World), Yields P ops oi v (a.put oj.dst u) → anyT P md ops mk Q fuel ((listed.setIfInBounds i true).setIfInBounds j true) ((a.put oi.dst v).put oj.dst u) w →
          anyT P md ops mk Q (fuel + 1) (listed.setIfInBounds j true) (a.put oj.dst u) w := fun a u w hy' h => by
        refine ih (listed.setIfInBounds j true) (a.put oj.dst u) w (hfree.set hjun) (ready_mono hr (Ne.symm hji)) hy' ?_
        rw [Array.setIfInBounds_comm _ _ hji, ← Act.put_comm a v u h2]
        exact h
      refine opT_intro hoj ?_
      have hon := fun (a : Act) (u : Value) (hy : Yields P ops oi v a) => Yields.put_on (u := u) hap (fun cs b => hsel i oi cs b hi) hy
      rcases mk_cases (mk j) with hm | hm | hm | hm | ⟨n, hm⟩ <;> rw [hm] at h1 ⊢
      · obtain ⟨u, hu, hk⟩ := h1
        exact ⟨u, Yields.put_back hap (fun cs b => hsj cs b hoj) hu, step a u w (hon a u hy) hk⟩
      · obtain ⟨u, hu, hk⟩ := h1
        exact ⟨u, Looks.put_back hap (fun cs b => hsj cs b hoj) hu, step a u w (hon a u hy) hk⟩
      · obtain ⟨u, hu, hk⟩ := h1
        obtain ⟨u', hu', he⟩ := Gives.put_back hap (fun cs b => hsj cs b hoj) hu
        exact ⟨u', hu', fun w' hw' => step a u' w' (hon a u' hy) (by rw [he]; exact hk w' hw')⟩
      · have h5 : wpOp P ops Q j (fun a' w' => Ext w w' ∧ _) _ w := h1
        show wpOp P ops Q j (fun a' w' => Ext w w' ∧ _) a w
        have h3 := wpOp_put (Q := Q) hoj hap (fun cs b => hsel i oi cs b hi) (fun cs b => hsj cs b hoj) hQ hy h5
        refine wpOp_mono (fun a' w' h4 => ?_) h3
        refine ⟨h4.2.1, ?_⟩
        refine ih (listed.setIfInBounds j true) a' w' (hfree.set hjun) (ready_mono hr (Ne.symm hji)) h4.1 ?_
        rw [Array.setIfInBounds_comm _ _ hji]
        exact h4.2.2
      · have h5 : wpOp P ops Q j _ _ w := h1
        show wpOp P ops Q j _ a w
        have h3 := wpOp_put (Q := Q) hoj hap (fun cs b => hsel i oi cs b hi) (fun cs b => hsj cs b hoj) hQ hy h5
        refine wpOp_mono (fun a' w' h4 => ?_) h3
        refine ih (listed.setIfInBounds j true) a' w' (hfree.set hjun) (ready_mono hr (Ne.symm hji)) h4.1 ?_
        rw [Array.setIfInBounds_comm _ _ hji]
        exact h4.2

/-- What must come about before any operation that changes memory. -/
def Ahead (ops : Array Oper) (md : Region.Mode) (mk : Nat → Nat) (m : Nat) (i : Nat) : Prop :=
  ∀ (listed : Array Bool) (j : Nat), listed.getD i true = false → (∀ k ok, ops[k]? = some ok → listed.getD k false = true → ∀ e ∈ ok.after, Region.binds md e = true → listed.getD e.on false = true) →
    j ∈ Region.ready md ops listed → mk j < m
def Closed (ops : Array Oper) (md : Region.Mode) (listed : Array Bool) : Prop :=
  ∀ k ok, ops[k]? = some ok → listed.getD k false = true → ∀ e ∈ ok.after, Region.binds md e = true → listed.getD e.on false = true
theorem Closed.set {listed : Array Bool} {i : Nat} (h : Closed ops md listed) (hi : i ∈ Region.ready md ops listed) : Closed ops md (listed.setIfInBounds i true) := by
  obtain ⟨_, oi, hoi, hall⟩ := mem_ready.1 hi
  intro j oj hj hl e he hb
  by_cases hij : i = j
  · subst hij
    have : oj = oi := Option.some.inj (hj.symm.trans hoi)
    subst this
    exact getD_set_true (hall e he hb)
  · rw [getD_set_ne false hij] at hl
    exact getD_set_true (h j oj hj hl e he hb)

/-- A quiet operation that all that change memory wait for may go first. -/
theorem anyT_quiet {mk : Nat → Nat} {Q : Exit → Act → World → Prop} {i : Nat} {oi : Oper} {v : Value} (hi : ops[i]? = some oi) (hmi : mk i = 2)
    (hsel : ∀ (j : Nat) (o : Oper) cs b, ops[j]? = some o → o.op ≠ .select cs b) (hah : Ahead ops md mk 3 i) :
    ∀ (fuel : Nat) (listed : Array Bool) (a : Act) (w : World), FreeOf ops md listed i oi → Closed ops md listed →
      i ∈ Region.ready md ops listed → Gives P ops oi a w v →
      (∀ w', Ext w w' → anyT P md ops mk Q fuel (listed.setIfInBounds i true) (a.put oi.dst v) w') → anyT P md ops mk Q (fuel + 1) listed a w := by
  intro fuel
  induction fuel with
  | zero =>
    intro listed a w _ _ hr hy H
    refine ⟨fun h => (by rw [h] at hr; cases hr), fun j hj => ?_⟩
    by_cases hji : j = i
    · subst hji; exact opT_intro hi (by rw [hmi]; exact ⟨v, hy, H⟩)
    · have := ready_mono hj hji
      rw [(H w (Ext.refl w)).1] at this
      cases this
  | succ fuel ih =>
    intro listed a w hfree hcl hr hy H
    refine ⟨fun h => (by rw [h] at hr; cases hr), fun j hj => ?_⟩
    by_cases hji : j = i
    · subst hji; exact opT_intro hi (by rw [hmi]; exact ⟨v, hy, H⟩)
    · obtain ⟨hjun, oj, hoj, hall⟩ := mem_ready.1 hj
      have hrun := (mem_ready.1 hr).1
      have h1 := fun w' hw' => opT_elim hoj ((H w' hw').2 j (ready_mono hj hji))
      have hap := hfree j oj hoj hji hjun (ready_not_after hrun hall)
      have hsj := fun cs b => hsel j oj cs b
      obtain ⟨_, h2, _⟩ := Oper.apart_spec hap
      have step : ∀ (u : Value) (w' : World), Ext w w' → (∀ w'', Ext w' w'' → anyT P md ops mk Q fuel ((listed.setIfInBounds i true).setIfInBounds j true) ((a.put oi.dst v).put oj.dst u) w'') →
          anyT P md ops mk Q (fuel + 1) (listed.setIfInBounds j true) (a.put oj.dst u) w' := fun u w' hw' h => by
        refine ih (listed.setIfInBounds j true) (a.put oj.dst u) w' (hfree.set hjun) (hcl.set hj) (ready_mono hr (Ne.symm hji)) ((Gives.put_on hap (fun cs b => hsel i oi cs b hi) hy).ext hw') ?_
        intro w'' hw''
        rw [Array.setIfInBounds_comm _ _ hji, ← Act.put_comm a v u h2]
        exact h w'' hw''
      refine opT_intro hoj ?_
      have hlt := hah listed j hrun hcl hj
      rcases mk_cases (mk j) with hm | hm | hm | hm | ⟨n, hm⟩
      · simp only [hm] at h1 ⊢
        obtain ⟨u, hu, hk⟩ := h1 w (Ext.refl w)
        refine ⟨u, Yields.put_back hap (fun cs b => hsj cs b hoj) hu, step u w (Ext.refl w) fun w'' hw'' => ?_⟩
        obtain ⟨u2, hu2, hk2⟩ := h1 w'' hw''
        rw [Yields.unique hu hu2 w]
        exact hk2
      · simp only [hm] at h1 ⊢
        obtain ⟨u, hu, hk⟩ := h1 w (Ext.refl w)
        refine ⟨u, Looks.put_back hap (fun cs b => hsj cs b hoj) hu, step u w (Ext.refl w) fun w'' hw'' => ?_⟩
        obtain ⟨u2, hu2, hk2⟩ := h1 w'' hw''
        have : u = u2 := by
          rcases hu w'' hw'' with ⟨k1, k2⟩ | ⟨k1, rfl⟩ <;> rcases hu2 w'' (Ext.refl _) with ⟨k3, k4⟩ | ⟨k3, rfl⟩
          · have := k2.symm.trans k4; injection this with h5; injection h5
          · rw [k1] at k3; cases k3
          · rw [k1] at k3; cases k3
          · rfl
        rw [this]
        exact hk2
      · simp only [hm] at h1 ⊢
        obtain ⟨u, hu, hk⟩ := h1 w (Ext.refl w)
        obtain ⟨u', hu', he⟩ := Gives.put_back hap (fun cs b => hsj cs b hoj) hu
        exact ⟨u', hu', fun w' hw' => step u' w' hw' (fun w'' hw'' => by rw [he]; exact hk w'' (hw'.trans hw''))⟩
      · omega
      · omega

/-- An operation that looks at memory, and that all that change memory wait for, may go first. -/
theorem anyT_look {mk : Nat → Nat} {Q : Exit → Act → World → Prop} {i : Nat} {oi : Oper} {v : Value} (hi : ops[i]? = some oi) (hmi : mk i = 1)
    (hsel : ∀ (j : Nat) (o : Oper) cs b, ops[j]? = some o → o.op ≠ .select cs b) (hah : Ahead ops md mk 4 i) (hQ : ∀ c a w, Q (.panic c) (a.put oi.dst v) w → Q (.panic c) a w) :
    ∀ (fuel : Nat) (listed : Array Bool) (a : Act) (w : World), FreeOf ops md listed i oi → Closed ops md listed →
      i ∈ Region.ready md ops listed → Looks P ops oi a w v →
      anyT P md ops mk Q fuel (listed.setIfInBounds i true) (a.put oi.dst v) w → anyT P md ops mk Q (fuel + 1) listed a w := by
  intro fuel
  induction fuel with
  | zero =>
    intro listed a w _ _ hr hy H
    refine ⟨fun h => (by rw [h] at hr; cases hr), fun j hj => ?_⟩
    by_cases hji : j = i
    · subst hji; exact opT_intro hi (by rw [hmi]; exact ⟨v, hy, H⟩)
    · have := ready_mono hj hji
      rw [H.1] at this
      cases this
  | succ fuel ih =>
    intro listed a w hfree hcl hr hy H
    refine ⟨fun h => (by rw [h] at hr; cases hr), fun j hj => ?_⟩
    by_cases hji : j = i
    · subst hji; exact opT_intro hi (by rw [hmi]; exact ⟨v, hy, H⟩)
    · obtain ⟨hjun, oj, hoj, hall⟩ := mem_ready.1 hj
      have hrun := (mem_ready.1 hr).1
      have h1 := opT_elim hoj (H.2 j (ready_mono hj hji))
      have hap := hfree j oj hoj hji hjun (ready_not_after hrun hall)
      have hsj := fun cs b => hsel j oj cs b
      obtain ⟨_, h2, _⟩ := Oper.apart_spec hap
      have step : ∀ (a : Act) (u : Value) (w : World), Looks P ops oi (a.put oj.dst u) w v → anyT P md ops mk Q fuel ((listed.setIfInBounds i true).setIfInBounds j true) ((a.put oi.dst v).put oj.dst u) w →
          anyT P md ops mk Q (fuel + 1) (listed.setIfInBounds j true) (a.put oj.dst u) w := fun a u w hy' h => by
        refine ih (listed.setIfInBounds j true) (a.put oj.dst u) w (hfree.set hjun) (hcl.set hj) (ready_mono hr (Ne.symm hji)) hy' ?_
        rw [Array.setIfInBounds_comm _ _ hji, ← Act.put_comm a v u h2]
        exact h
      refine opT_intro hoj ?_
      have hon := fun (a : Act) (u : Value) (w : World) (hy : Looks P ops oi a w v) => Looks.put_on (u := u) hap (fun cs b => hsel i oi cs b hi) hy
      have hlt := hah listed j hrun hcl hj
      rcases mk_cases (mk j) with hm | hm | hm | hm | ⟨n, hm⟩
      · rw [hm] at h1 ⊢
        obtain ⟨u, hu, hk⟩ := h1
        exact ⟨u, Yields.put_back hap (fun cs b => hsj cs b hoj) hu, step a u w (hon a u w hy) hk⟩
      · rw [hm] at h1 ⊢
        obtain ⟨u, hu, hk⟩ := h1
        exact ⟨u, Looks.put_back hap (fun cs b => hsj cs b hoj) hu, step a u w (hon a u w hy) hk⟩
      · rw [hm] at h1 ⊢
        obtain ⟨u, hu, hk⟩ := h1
        obtain ⟨u', hu', he⟩ := Gives.put_back hap (fun cs b => hsj cs b hoj) hu
        exact ⟨u', hu', fun w' hw' => step a u' w' (hon a u' w' (hy.ext hw')) (by rw [he]; exact hk w' hw')⟩
      · rw [hm] at h1 ⊢
        have h5 : wpOp P ops Q j (fun a' w' => Ext w w' ∧ _) _ w := h1
        show wpOp P ops Q j (fun a' w' => Ext w w' ∧ _) a w
        have h3 := wpOp_ahead (Q := Q) hoj hap (fun cs b => hsel i oi cs b hi) (fun cs b => hsj cs b hoj) hQ h5
        refine wpOp_mono (fun a' w' h4 => ⟨h4.2.1, ?_⟩) h3
        refine ih (listed.setIfInBounds j true) a' w' (hfree.set hjun) (hcl.set hj) (ready_mono hr (Ne.symm hji)) ((hy.of_same h4.1.1 h4.1.2).ext h4.2.1) ?_
        rw [Array.setIfInBounds_comm _ _ hji]
        exact h4.2.2
      · omega

/-- At the end, K; no other way out. -/
def QK (K : Act → World → Prop) : Exit → Act → World → Prop
  | .normal, a, w => K a w
  | _, _, _ => False
/-- Does it call nothing? -/
def plainOp : Op → Bool
  | .move _ | .assign _ | .pick .. | .build .. | .binOp .. | .unOp .. | .convert .. | .makeInterface .. | .makeFunc .. | .fieldAddr .. | .field .. | .indexAddr .. | .index .. | .extract .. | .slice .. | .nilCheck _ | .typeAssert .. => true
  | _ => false

/-- Where the place is, what is put tells what it was. -/
def inFrame (o : Oper) (a : Act) : Bool := match o.dst with
  | some t => decide (t < a.tmps.size)
  | none => false

/-- Does it look at memory at most? -/
def lookOp : Op → Bool
  | .load .. | .lookup .. => true
  | .call c => match c.callee with
    | .builtin .len | .builtin .cap | .builtin .min | .builtin .max => true
    | _ => false
  | o => plainOp o

/-- In the order ord. -/
def inOrd (P : Program) (ops : Array Oper) (Q : Exit → Act → World → Prop) : List (Nat × Nat) → Act → World → Prop
  | [], a, w => Q .normal a w
  | (m, i) :: r, a, w => ∃ o, ops[i]? = some o ∧ match m with
      | 0 => plainOp o.op = true ∧ inFrame o a = true ∧ ∃ a', (∀ (w : World) (K : Exit → Act → World → Prop), K .normal a' w → wpList P ops K [o] a w) ∧ inOrd P ops Q r a' w
      | 1 => lookOp o.op = true ∧ inFrame o a = true ∧ ∃ a', (∀ w', Ext w w' → ∀ K : Exit → Act → World → Prop, K .normal a' w' → wpList P ops K [o] a w') ∧ inOrd P ops Q r a' w
      | 2 => ∃ a', a'.defers = a.defers ∧ (∀ w', Ext w w' → ∀ K : Exit → Act → World → Prop, (∀ w'', Ext w' w'' → K .normal a' w'') → wpList P ops K [o] a w') ∧ ∀ w', Ext w w' → inOrd P ops Q r a' w'
      | 3 => wpOp P ops Q i (fun a' w' => Ext w w' ∧ inOrd P ops Q r a' w') a w
      | _ => wpOp P ops Q i (inOrd P ops Q r) a w

def mkOf (ord : List (Nat × Nat)) (i : Nat) : Nat := match ord.find? (fun x => x.2 == i) with
  | some (m, _) => m
  | none => 0

/-- i lies ahead of all that stand alone: by the edges. -/
def reachB (md : Region.Mode) (ops : Array Oper) (i : Nat) : Nat → Nat → Bool
  | 0, _ => false
  | f + 1, j => match ops[j]? with
    | some oj => oj.after.any fun e => Region.binds md e && (e.on == i || reachB md ops i f e.on)
    | none => false
def aheadB (md : Region.Mode) (ops : Array Oper) (ord : List (Nat × Nat)) (m i : Nat) : Bool :=
  (List.range ops.size).all fun j => decide (mkOf ord j < m) || reachB md ops i ops.size j

theorem reachB_un {listed : Array Bool} {i : Nat} (hcl : Closed ops md listed) (hun : listed.getD i false = false) : ∀ (f j : Nat), reachB md ops i f j = true → listed.getD j false = false := by
  intro f
  induction f with
  | zero => intro j h; cases h
  | succ f ih =>
    intro j h
    unfold reachB at h
    split at h
    · rename_i oj hoj
      obtain ⟨e, he, hb⟩ := Array.any_eq_true'.1 h
      simp only [Bool.and_eq_true, Bool.or_eq_true, beq_iff_eq] at hb
      obtain ⟨hb, ho⟩ := hb
      cases hl : listed.getD j false with
      | false => rfl
      | true =>
        have h2 := hcl j oj hoj hl e he hb
        rcases ho with ho | ho
        · rw [ho, hun] at h2; cases h2
        · rw [ih e.on ho] at h2; cases h2
    · cases h
theorem ahead_of {ord : List (Nat × Nat)} {m i : Nat} (h : aheadB md ops ord m i = true) : Ahead ops md (mkOf ord) m i := by
  intro listed j hun hcl hr
  have hlt : j < ops.size := by obtain ⟨_, o, ho, _⟩ := mem_ready.1 hr; exact (Array.getElem?_eq_some_iff.1 ho).1
  have h1 := List.all_eq_true.1 h j (List.mem_range.2 hlt)
  simp only [Bool.or_eq_true, decide_eq_true_eq] at h1
  rcases h1 with h1 | h1
  · exact h1
  · obtain ⟨_, oj, hoj, hall⟩ := mem_ready.1 hr
    exfalso
    have hun' := getD_un hun
    -- j is ready: all that it waits for is listed
    cases hs : ops.size with
    | zero => omega
    | succ n =>
      rw [hs] at h1
      unfold reachB at h1
      simp only [hoj] at h1
      obtain ⟨e, he, hb⟩ := Array.any_eq_true'.1 h1
      simp only [Bool.and_eq_true, Bool.or_eq_true, beq_iff_eq] at hb
      have h2 := hall e he hb.1
      rcases hb.2 with ho | ho
      · rw [ho, hun'] at h2; cases h2
      · rw [reachB_un hcl hun' n e.on ho] at h2; cases h2

/-- Is it an order that the region allows, each taken as it may be? -/
def ordB (md : Region.Mode) (ops : Array Oper) (all : List (Nat × Nat)) : List (Nat × Nat) → Array Bool → Bool
  | [], listed => (Region.ready md ops listed).isEmpty
  | (m, i) :: r, listed =>
    (match m with
      | 0 => (Region.ready md ops listed).contains i && Region.free md ops listed i
      | 1 => (Region.ready md ops listed).contains i && Region.free md ops listed i && aheadB md ops all 4 i
      | 2 => (Region.ready md ops listed).contains i && Region.free md ops listed i && aheadB md ops all 3 i
      | _ => decide (Region.ready md ops listed = [i])) && decide (mkOf all i = m) && ordB md ops all r (listed.setIfInBounds i true)
def regB (md : Region.Mode) (ops : Array Oper) (ord : List (Nat × Nat)) : Bool :=
  Region.noSelect ops && ordB md ops ord ord (Array.replicate ops.size false)

theorem run_value_bind {s : Sem Value} {w w' : World} {n : Next} (h : (do let x ← s; pure (Next.value x) : Sem Next).run P w = .ok n w') : ∃ v, n = .value v := by
  rw [Sem.run_bind] at h
  cases hr : s.run P w with
  | ok x w1 => rw [hr] at h; simp [Result.andThen] at h; exact ⟨x, h.1.symm⟩
  | halt x w1 => rw [hr] at h; simp [Result.andThen] at h
theorem plain_value {ρ : Operand → Value} {o : Oper} (h : plainOp o.op = true) {w w' : World} {n : Next} (hr : (execOp ρ o).run P w = .ok n w') : ∃ v, n = .value v := by
  obtain ⟨dst, op, type, pos, after, guard⟩ := o
  cases op <;> simp only [plainOp] at h <;> try (cases h; done)
  case move x => simp [execOp] at hr; exact ⟨_, hr.1.symm⟩
  case assign x => simp [execOp] at hr; exact ⟨_, hr.1.symm⟩
  case pick c a b =>
    simp only [execOp, Sem.run_bind] at hr
    cases h1 : (asBool (ρ c)).run P w with
    | ok x w1 => rw [h1] at hr; simp [Result.andThen] at hr; exact ⟨_, hr.1.symm⟩
    | halt x w1 => rw [h1] at hr; simp [Result.andThen] at hr
  case nilCheck x =>
    simp only [execOp] at hr
    split at hr
    · simp [runtimePanic] at hr
    · simp [runtimePanic] at hr
    · simp [runtimePanic] at hr
    · split at hr
      · simp [runtimePanic] at hr
      · simp only [Sem.run_bind] at hr
        revert hr
        generalize (program : Sem Program).run P w = r1
        cases r1 with
        | halt x w1 => intro hr; simp [Result.andThen] at hr
        | ok p w1 =>
          simp only [Result.andThen]
          intro hr
          revert hr
          generalize (nilAhead _ _ _ _ : Sem _).run P w1 = r2
          cases r2 with
          | halt x w1 => intro hr; simp at hr
          | ok p w1 =>
            intro hr
            simp only at hr
            split at hr
            · simp [unsupported] at hr
            · simp at hr; exact ⟨_, hr.1.symm⟩
      · simp at hr; exact ⟨_, hr.1.symm⟩
    · simp at hr; exact ⟨_, hr.1.symm⟩
  all_goals exact run_value_bind hr

theorem put_defers (a : Act) (d : Option Tmp) (v : Value) : (a.put d v).defers = a.defers := by cases d <;> rfl
theorem put_agree {a : Act} {d : Option Tmp} {x y : Value} (h : a.put d x = a.put d y) : d = none ∨ (∃ t, d = some t ∧ a.tmps.size ≤ t) ∨ x = y := by
  cases d with
  | none => exact .inl rfl
  | some t =>
    by_cases ht : t < a.tmps.size
    · have := congrArg (fun b : Act => b.tmps[t]?) h
      simp [Act.put, ht] at this
      exact .inr (.inr this)
    · exact .inr (.inl ⟨t, rfl, Nat.le_of_not_lt ht⟩)
theorem yields_of {o : Oper} {a a' : Act} (hp : plainOp o.op = true) (hf : inFrame o a = true) (h : ∀ (w : World) (K : Exit → Act → World → Prop), K .normal a' w → wpList P ops K [o] a w) : ∃ v, Yields P ops o v a ∧ a' = a.put o.dst v := by
  have h1 := fun w => h w (QK fun x y => x = a' ∧ y = w) ⟨rfl, rfl⟩
  simp only [wpList] at h1
  by_cases hw : Region.wanted o (yielded ops a.tmps) = true
  · simp only [hw, if_true] at h1
    have key : ∀ w, ∃ v, (execOp a.eval o).run P w = .ok (.value v) w ∧ a.put o.dst v = a' := by
      intro w
      rcases h1 w with h2 | ⟨_, _, _, h2⟩
      case inr => exact h2.elim
      unfold Oper.wp at h2
      have hv := @plain_value P a.eval o hp w
      generalize (execOp a.eval o).run P w = r at *
      cases r with
      | ok n w' =>
        obtain ⟨v, rfl⟩ := hv rfl
        simp only [Oper.upon] at h2
        obtain ⟨h3, rfl⟩ := h2
        exact ⟨v, rfl, h3⟩
      | halt x w' => cases x <;> simp only [Oper.upon] at h2 <;> exact h2.elim
    obtain ⟨v, _, hv⟩ := key default
    refine ⟨v, .inl ⟨hw, fun w => ?_⟩, hv.symm⟩
    obtain ⟨u, hu, hu2⟩ := key w
    have : u = v := by
      rcases put_agree (hu2.trans hv.symm) with h3 | ⟨t, h3, h4⟩ | h3
      · simp [inFrame, h3] at hf
      · unfold inFrame at hf; rw [h3] at hf; exact absurd (of_decide_eq_true hf) (Nat.not_lt.2 h4)
      · exact h3
    rw [← this]; exact hu
  · have h2 := h1 default
    simp only [hw] at h2
    exact ⟨undef, .inr ⟨by simpa using hw, rfl⟩, h2.1.symm⟩
theorem gives_of {o : Oper} {a a' : Act} {w : World} (hd : a'.defers = a.defers) (h : ∀ w', Ext w w' → ∀ K : Exit → Act → World → Prop, (∀ w'', Ext w' w'' → K .normal a' w'') → wpList P ops K [o] a w') : ∃ v, Gives P ops o a w v ∧ a' = a.put o.dst v := by
  have h1 := fun w' hx => h w' hx (QK fun x y => x = a' ∧ Ext w' y) (fun _ hw => ⟨rfl, hw⟩)
  simp only [wpList] at h1
  have hq : ∀ w', Ext w w' → quietIf P ops o a w' (fun x => x = a') := by
    intro w' hx
    have h2 := h1 w' hx
    unfold quietIf
    split
    · rename_i hw
      simp only [hw, if_true] at h2
      rcases h2 with h2 | ⟨_, _, _, h2⟩
      case inr => exact h2.elim
      unfold Oper.wp at h2
      unfold quietOp
      generalize (execOp a.eval o).run P w' = r at *
      cases r with
      | ok n w' =>
        cases n <;> simp only [Oper.upon] at h2 <;> simp only [quietUpon]
        case value x => exact ⟨h2.2, h2.1⟩
        case skip => exact ⟨h2.2, h2.1⟩
        case enter f args =>
          refine h2.mono fun e w'' he => ?_
          cases e with
          | returned v => exact ⟨v, rfl, he.2, he.1⟩
          | panicked c => exact he.elim
          | outgrown => obtain ⟨_, _, he⟩ := he; exact he.elim
        case row row args => exact h2.mono fun v w'' he => ⟨he.2, he.1⟩
        case defer d =>
          have h3 := congrArg Act.defers h2.1
          rw [put_defers, hd] at h3
          have := congrArg List.length h3
          simp at this
        all_goals exact h2.elim
      | halt x w' => cases x <;> simp only [Oper.upon] at h2 <;> exact h2.elim
    · rename_i hw
      simp only [hw] at h2
      exact h2.1
  have hv : ∃ v, a' = a.put o.dst v := by
    have h2 := hq w (Ext.refl w)
    unfold quietIf at h2
    split at h2
    · unfold quietOp at h2
      generalize (execOp a.eval o).run P w = r at *
      cases r with
      | ok n w' =>
        cases n <;> simp only [quietUpon] at h2
        case value x => exact ⟨x, h2.2.symm⟩
        case skip => exact ⟨undef, h2.2.symm⟩
        case enter f args => obtain ⟨e, w'', fr, ⟨x, _, _, hx⟩, _⟩ := h2 []; exact ⟨x, hx.symm⟩
        case row row args => obtain ⟨v, w'', ⟨_, hx⟩, _⟩ := h2 default []; exact ⟨v, hx.symm⟩
      | halt x w' => simp only [quietUpon] at h2
    · exact ⟨undef, h2.symm⟩
  obtain ⟨v, rfl⟩ := hv
  exact ⟨v, hq, rfl⟩

theorem look_value {ρ : Operand → Value} {o : Oper} (h : lookOp o.op = true) {w w' : World} {n : Next} (hr : (execOp ρ o).run P w = .ok n w') : ∃ v, n = .value v := by
  by_cases hp : plainOp o.op = true
  · exact plain_value hp hr
  obtain ⟨dst, op, type, pos, after, guard⟩ := o
  cases op
  case call c =>
    obtain ⟨callee, args, argTypes⟩ := c
    cases callee with
    | builtin b => cases b <;> simp only [lookOp] at h <;> first | (cases h; done) | (exact run_value_bind hr)
    | _ => simp only [lookOp] at h; cases h
  case load => exact run_value_bind hr
  case lookup => exact run_value_bind hr
  all_goals exact absurd h hp
theorem looks_of {o : Oper} {a a' : Act} {w : World} (hp : lookOp o.op = true) (hf : inFrame o a = true) (h : ∀ w', Ext w w' → ∀ (K : Exit → Act → World → Prop), K .normal a' w' → wpList P ops K [o] a w') : ∃ v, Looks P ops o a w v ∧ a' = a.put o.dst v := by
  have h1 := fun w' hx => h w' hx (QK fun x y => x = a' ∧ y = w') ⟨rfl, rfl⟩
  simp only [wpList] at h1
  by_cases hw : Region.wanted o (yielded ops a.tmps) = true
  · simp only [hw, if_true] at h1
    have key : ∀ w', Ext w w' → ∃ v, (execOp a.eval o).run P w' = .ok (.value v) w' ∧ a.put o.dst v = a' := by
      intro w' hx
      rcases h1 w' hx with h2 | ⟨_, _, _, h2⟩
      case inr => exact h2.elim
      unfold Oper.wp at h2
      have hv := @look_value P a.eval o hp w'
      generalize (execOp a.eval o).run P w' = r at *
      cases r with
      | ok n w' =>
        obtain ⟨v, rfl⟩ := hv rfl
        simp only [Oper.upon] at h2
        obtain ⟨h3, rfl⟩ := h2
        exact ⟨v, rfl, h3⟩
      | halt x w' => cases x <;> simp only [Oper.upon] at h2 <;> exact h2.elim
    obtain ⟨v, _, hv⟩ := key w (Ext.refl w)
    refine ⟨v, fun w' hx => .inl ⟨hw, ?_⟩, hv.symm⟩
    obtain ⟨u, hu, hu2⟩ := key w' hx
    have : u = v := by
      rcases put_agree (hu2.trans hv.symm) with h3 | ⟨t, h3, h4⟩ | h3
      · simp [inFrame, h3] at hf
      · unfold inFrame at hf; rw [h3] at hf; exact absurd (of_decide_eq_true hf) (Nat.not_lt.2 h4)
      · exact h3
    rw [← this]; exact hu
  · have h2 := h1 w (Ext.refl w)
    simp only [hw] at h2
    exact ⟨undef, fun _ _ => .inr ⟨by simpa using hw, rfl⟩, h2.1.symm⟩

theorem inOrd_sound {Q : Exit → Act → World → Prop} {all : List (Nat × Nat)} (hs : Region.noSelect ops = true) (hQ : ∀ c a d v w, Q (.panic c) (a.put d v) w → Q (.panic c) a w) :
    ∀ (ord : List (Nat × Nat)) (listed : Array Bool) (a : Act) (w : World), Closed ops md listed → ordB md ops all ord listed = true → inOrd P ops Q ord a w →
      anyT P md ops (mkOf all) Q ord.length listed a w
  | [], listed, a, w, _, hB, h => ⟨by simpa [ordB] using hB, h⟩
  | (m, i) :: r, listed, a, w, hcl, hB, h => by
    simp only [ordB, Bool.and_eq_true, decide_eq_true_eq] at hB
    obtain ⟨⟨hm, hmk⟩, hB'⟩ := hB
    obtain ⟨o, ho, h⟩ := h
    have hsel := Region.noSelect_spec hs
    rcases mk_cases m with rfl | rfl | rfl | rfl | ⟨n, rfl⟩
    · simp only [Bool.and_eq_true] at hm
      obtain ⟨hp, hf, a', h1, h2⟩ := h
      obtain ⟨v, hy, rfl⟩ := yields_of hp hf h1
      have hr : i ∈ Region.ready md ops listed := by simpa using hm.1
      exact anyT_pure ho hmk hsel (fun c a w => hQ c a o.dst v w) r.length listed a w (Region.free_spec ho hm.2) hr hy (inOrd_sound hs hQ r _ _ _ (hcl.set hr) hB' h2)
    · simp only [Bool.and_eq_true] at hm
      obtain ⟨hp, hf, a', h1, h2⟩ := h
      obtain ⟨v, hy, rfl⟩ := looks_of hp hf h1
      have hr : i ∈ Region.ready md ops listed := by simpa using hm.1.1
      exact anyT_look ho hmk hsel (ahead_of hm.2) (fun c a w => hQ c a o.dst v w) r.length listed a w (Region.free_spec ho hm.1.2) hcl hr hy (inOrd_sound hs hQ r _ _ _ (hcl.set hr) hB' h2)
    · simp only [Bool.and_eq_true] at hm
      obtain ⟨a', hd, h1, h2⟩ := h
      obtain ⟨v, hy, rfl⟩ := gives_of hd h1
      have hr : i ∈ Region.ready md ops listed := by simpa using hm.1.1
      exact anyT_quiet ho hmk hsel (ahead_of hm.2) r.length listed a w (Region.free_spec ho hm.1.2) hcl hr hy (fun w' hw' => inOrd_sound hs hQ r _ _ _ (hcl.set hr) hB' (h2 w' hw'))
    all_goals
      have hr : Region.ready md ops listed = [i] := by simpa using hm
      refine ⟨fun h0 => (by rw [hr] at h0; cases h0), fun j hj => ?_⟩
      rw [hr] at hj
      have hji : j = i := by simpa using hj
      subst hji
      refine opT_intro ho ?_
      rw [hmk]
    · have h' : wpOp P ops Q j (fun a' w' => Ext w w' ∧ inOrd P ops Q r a' w') a w := h
      show wpOp P ops Q j (fun a' w' => Ext w w' ∧ _) a w
      exact wpOp_mono (fun a' w' h' => ⟨h'.1, inOrd_sound hs hQ r _ _ _ (hcl.set (by rw [hr]; exact List.mem_singleton.2 rfl)) hB' h'.2⟩) h'
    · have h' : wpOp P ops Q j (inOrd P ops Q r) a w := h
      show wpOp P ops Q j _ a w
      exact wpOp_mono (fun a' w' h' => inOrd_sound hs hQ r _ _ _ (hcl.set (by rw [hr]; exact List.mem_singleton.2 rfl)) hB' h') h'

/-- A region whose order is open, in one order that it allows. -/
theorem wp_region_ord {id : Nat} {l : List Oper} {Q : Exit → Act → World → Prop} {a : Act} {w : World} (ord : List (Nat × Nat)) (hm : P.follows .mixedOrders = true)
    (hB : regB .any l.toArray ord = true) (hlen : ord.length = l.length) (hQ : ∀ c a d v w, Q (.panic c) (a.put d v) w → Q (.panic c) a w)
    (h : inOrd P l.toArray Q ord a w.drew) : (Code.region id l.toArray true).wp P Q a w := by
  simp only [regB, Bool.and_eq_true] at hB
  refine wp_region_any hm (anyT_sound (mk := mkOf ord) _ _ _ _ ?_)
  have := inOrd_sound (md := .any) hB.1 hQ ord (Array.replicate l.toArray.size false) a w.drew
    (fun k ok _ hl => by rw [show (Array.replicate l.toArray.size false).getD k false = false by simp [Array.getD]] at hl; cases hl) hB.2 h
  rw [hlen] at this
  simpa using this
theorem inOrd_nil {Q : Exit → Act → World → Prop} {a : Act} {w : World} (h : Q .normal a w) : inOrd P ops Q [] a w := h
/-- The i-th of a list that is written out. -/
def nth : List Oper → Nat → Option Oper
  | [], _ => none
  | o :: _, 0 => some o
  | _ :: l, i + 1 => nth l i
theorem nth_eq : ∀ (l : List Oper) (i : Nat), nth l i = l.toArray[i]?
  | [], _ => by simp [nth]
  | _ :: _, 0 => by simp [nth]
  | _ :: l, i + 1 => by rw [nth, nth_eq l i]; simp
theorem inOrd_p {Q : Exit → Act → World → Prop} {a : Act} {w : World} {i : Nat} {r : List (Nat × Nat)} {l : List Oper} {o : Oper} (a' : Act) (ho : nth l i = some o) (hp : plainOp o.op = true) (hf : inFrame o a = true)
    (h : ∀ (w : World) (K : Exit → Act → World → Prop), K .normal a' w → wpList P l.toArray K [o] a w) (hr : inOrd P l.toArray Q r a' w) : inOrd P l.toArray Q ((0, i) :: r) a w := ⟨o, (nth_eq l i).symm.trans ho, hp, hf, a', h, hr⟩
theorem inOrd_l {Q : Exit → Act → World → Prop} {a : Act} {w : World} {i : Nat} {r : List (Nat × Nat)} {l : List Oper} {o : Oper} (a' : Act) (ho : nth l i = some o) (hp : lookOp o.op = true) (hf : inFrame o a = true)
    (h : ∀ w', Ext w w' → ∀ (K : Exit → Act → World → Prop), K .normal a' w' → wpList P l.toArray K [o] a w') (hr : inOrd P l.toArray Q r a' w) : inOrd P l.toArray Q ((1, i) :: r) a w := ⟨o, (nth_eq l i).symm.trans ho, hp, hf, a', h, hr⟩
theorem inOrd_q {Q : Exit → Act → World → Prop} {a : Act} {w : World} {i : Nat} {r : List (Nat × Nat)} {l : List Oper} {o : Oper} (a' : Act) (ho : nth l i = some o)
    (h : ∀ w', Ext w w' → ∀ K : Exit → Act → World → Prop, (∀ w'', Ext w' w'' → K .normal a' w'') → wpList P l.toArray K [o] a w') (hd : a'.defers = a.defers) (hr : ∀ w', Ext w w' → inOrd P l.toArray Q r a' w') : inOrd P l.toArray Q ((2, i) :: r) a w :=
  ⟨o, (nth_eq l i).symm.trans ho, a', hd, h, hr⟩
theorem wpOp_of_list {Q : Exit → Act → World → Prop} {a : Act} {w : World} {i : Nat} {o : Oper} (ho : ops[i]? = some o) {R : Act → World → Prop}
    (h : ∀ K : Exit → Act → World → Prop, (∀ a w, R a w → K .normal a w) → wpList P ops K [o] a w) : wpOp P ops Q i R a w := by
  have := h (QK R) (fun _ _ h => h)
  simp only [wpList] at this
  unfold wpOp
  simp only [ho]
  split
  · rename_i hw
    simp only [hw, if_true] at this
    rcases this with this | ⟨_, _, _, this⟩
    · refine .inl ?_
      unfold Oper.wp at *
      generalize (execOp a.eval o).run P w = r at *
      cases r with
      | ok n w' =>
        cases n <;> simp only [Oper.upon] at this ⊢
        case value x => exact this
        case skip => exact this
        case defer d => exact this
        case enter f args =>
          refine this.mono (fun e w'' he => ?_)
          cases e with
          | returned v => exact he
          | panicked c => exact he.elim
          | outgrown => obtain ⟨_, _, he⟩ := he; exact he.elim
        case row row args => exact this
      | halt x w' => cases x <;> simp only [Oper.upon] at this ⊢ <;> exact this.elim
    · exact this.elim
  · rename_i hw
    simp only [hw] at this
    exact this
theorem inOrd_x {Q : Exit → Act → World → Prop} {a : Act} {w : World} {i : Nat} {r : List (Nat × Nat)} {l : List Oper} {o : Oper} (ho : nth l i = some o)
    (h : ∀ K : Exit → Act → World → Prop, (∀ a' w', Ext w w' → inOrd P l.toArray Q r a' w' → K .normal a' w') → wpList P l.toArray K [o] a w) : inOrd P l.toArray Q ((3, i) :: r) a w :=
  ⟨o, (nth_eq l i).symm.trans ho, wpOp_of_list ((nth_eq l i).symm.trans ho) fun K hK => h K fun a' w' h1 h2 => hK a' w' ⟨h1, h2⟩⟩
theorem inOrd_d {Q : Exit → Act → World → Prop} {a : Act} {w : World} {i : Nat} {r : List (Nat × Nat)} {l : List Oper} {o : Oper} (ho : nth l i = some o)
    (h : ∀ K : Exit → Act → World → Prop, (∀ a w, inOrd P l.toArray Q r a w → K .normal a w) → wpList P l.toArray K [o] a w) : inOrd P l.toArray Q ((4, i) :: r) a w :=
  ⟨o, (nth_eq l i).symm.trans ho, wpOp_of_list ((nth_eq l i).symm.trans ho) h⟩
end
/-- The end of a walk whose results lie in memory. -/
def okThen (K : Value → Prop) (w : World) : Result Value → Prop
  | .ok v w' => w' = w ∧ K v
  | _ => False
theorem bodyPost_run {P : Program} {fn : Func} {R : Ending → World → Prop} {a : Act} {w : World} (hd : a.defers = [])
    (h : ∀ K : Value → Prop, (∀ v, R (.returned v) w → K v) → okThen K w ((results fn a.tmps).run P w)) : bodyPost P fn R .ret a w := by
  have h1 := h (fun v => R (.returned v) w) (fun _ h => h)
  generalize hr : (results fn a.tmps).run P w = r at h1
  cases r with
  | ok v w' => obtain ⟨rfl, h2⟩ := h1; exact ⟨hd, v, hr, h2⟩
  | halt x w' => exact h1.elim
@[go_sem] theorem run_max_str {P : Program} {w : World} (ts : Array TypeId) (t : TypeId) (x y : ByteArray) :
    (Builtin.max_ ts t #[.string x, .string y]).run P w = .ok (.string (if Op.bytesLess x.toList y.toList then y else x)) w := by
  simp [Builtin.max_, Builtin.max2, Op.stringOp]
  cases Op.bytesLess x.toList y.toList <;> rfl
attribute [go_sem] okThen
end Go.Proofs.YtmjdgcgmlgbfjaaDoor
