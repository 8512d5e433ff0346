/- Texts Own, Reg, Ops, More, Str, Err of this claim, laid together. -/
import Derived.Test.YtpdnlgopbnkdhaaDoorGLogSaysProof1
import Derived.Laws.CopyOwn
import Derived.OwnWalk
import Derived.Lib.Hide
import Derived.WalkLawsBesides
import Derived.Test.YtpdnlgopbnkdhaaDoorProg
set_option linter.unusedVariables false
set_option linter.unusedSimpArgs false
set_option linter.unnecessarySimpa false
namespace Go.Proofs.YtpdnlgopbnkdhaaDoor
open Go.RowKit

/-- A thing in memory: M: blocks that are its own; Z: blocks that stay for good. facts: what it tells. -/
structure Rs where
  holds : World → (Nat → Prop) → (Nat → Prop) → Prop
  facts : World → Prop
  mono : ∀ {w M Z M' Z'}, holds w M Z → (∀ b, M b → M' b) → (∀ b, Z b → Z' b) → holds w M' Z'
  keep : ∀ {w w' M Z}, holds w M Z → (∀ b, M b ∨ Z b → b < w.heap.size → w'.heap[b]? = w.heap[b]?) → holds w' M Z
  tells : ∀ {w M Z}, holds w M Z → facts w

/-- Things apart from each other. -/
def Stars (w : World) : List Rs → (Nat → Prop) → (Nat → Prop) → Prop
  | [], _, _ => True
  | r :: l, M, Z => ∃ M1 M2, r.holds w M1 Z ∧ Stars w l M2 Z ∧ (∀ b, M1 b → M b) ∧ (∀ b, M2 b → M b) ∧ ∀ b, M1 b → ¬ M2 b
theorem Stars.mono {w : World} : ∀ {l : List Rs} {M Z M' Z' : Nat → Prop}, Stars w l M Z → (∀ b, M b → M' b) → (∀ b, Z b → Z' b) → Stars w l M' Z'
  | [], _, _, _, _, _, _, _ => trivial
  | r :: _, _, _, _, _, ⟨M1, M2, h1, h2, s1, s2, d⟩, hM, hZ => ⟨M1, M2, r.mono h1 (fun _ h => h) hZ, h2.mono (fun _ h => h) hZ, fun b h => hM b (s1 b h), fun b h => hM b (s2 b h), d⟩
theorem Stars.keep {w w' : World} : ∀ {l : List Rs} {M Z : Nat → Prop}, Stars w l M Z → (∀ b, M b ∨ Z b → b < w.heap.size → w'.heap[b]? = w.heap[b]?) → Stars w' l M Z
  | [], _, _, _, _ => trivial
  | r :: _, _, _, ⟨M1, M2, h1, h2, s1, s2, d⟩, hk =>
    ⟨M1, M2, r.keep h1 (fun b hb => hk b (hb.imp (s1 b) id)), h2.keep (fun b hb => hk b (hb.imp (s2 b) id)), s1, s2, d⟩
theorem Stars.append {w : World} : ∀ {l l' : List Rs} {M Z : Nat → Prop}, Stars w (l ++ l') M Z → ∃ M1 M2, Stars w l M1 Z ∧ Stars w l' M2 Z ∧ (∀ b, M1 b → M b) ∧ (∀ b, M2 b → M b) ∧ ∀ b, M1 b → ¬ M2 b
  | [], _, M, _, h => ⟨fun _ => False, M, trivial, h, fun _ h => h.elim, fun _ h => h, fun _ h => h.elim⟩
  | r :: l, l', M, Z, ⟨M1, M2, h1, h2, s1, s2, d⟩ => by
    obtain ⟨N1, N2, k1, k2, t1, t2, e⟩ := Stars.append h2
    exact ⟨fun b => M1 b ∨ N1 b, N2, ⟨M1, N1, h1, k1, fun b h => .inl h, fun b h => .inr h, fun b h hn => d b h (t1 b hn)⟩, k2,
      fun b h => h.elim (s1 b) (fun h => s2 b (t1 b h)), fun b h => s2 b (t2 b h), fun b h hn => h.elim (fun h => d b h (t2 b hn)) (fun h => e b h hn)⟩
theorem Stars.join {w : World} : ∀ {l l' : List Rs} {M1 M2 M Z : Nat → Prop}, Stars w l M1 Z → Stars w l' M2 Z → (∀ b, M1 b → M b) → (∀ b, M2 b → M b) → (∀ b, M1 b → ¬ M2 b) → Stars w (l ++ l') M Z
  | [], _, _, _, _, _, _, h2, _, s2, _ => h2.mono s2 (fun _ h => h)
  | r :: l, l', M1, M2, M, Z, ⟨N1, N2, k1, k2, t1, t2, e⟩, h2, s1, s2, d => 
    ⟨N1, fun b => N2 b ∨ M2 b, k1, Stars.join k2 h2 (fun b h => .inl h) (fun b h => .inr h) (fun b h => d b (t2 b h)),
      fun b h => s1 b (t1 b h), fun b h => h.elim (fun h => s1 b (t2 b h)) (s2 b), fun b h hn => hn.elim (e b h) (fun hn => d b (t1 b h) hn)⟩

/-- What all of them tell. -/
def Facts (w : World) : List Rs → Prop
  | [] => True
  | r :: l => r.facts w ∧ Facts w l
theorem Stars.facts {w : World} : ∀ {l : List Rs} {M Z : Nat → Prop}, Stars w l M Z → Facts w l
  | [], _, _, _ => trivial
  | r :: _, _, _, ⟨_, _, h1, h2, _⟩ => ⟨r.tells h1, h2.facts⟩

/-- What a call has in hand: W: the world in which it began; S: what was there then and may turn. -/
def Own (S : Nat → Prop) (W w : World) (l : List Rs) : Prop :=
  Chg S W w ∧ ∃ M Z, Stars w l M Z ∧ (∀ b, M b → S b ∨ W.heap.size ≤ b) ∧ (∀ b, M b → ¬ Z b) ∧ ∀ b, M b ∨ Z b → b < w.heap.size

section
variable {S : Nat → Prop} {W w w' : World} {l l' : List Rs} {r r' : Rs}
theorem Own.facts (h : Own S W w l) : Facts w l := by obtain ⟨_, _, _, h, _⟩ := h; exact h.facts
theorem Own.chg (h : Own S W w l) : Chg S W w := h.1
theorem Own.size (h : Own S W w l) : W.heap.size ≤ w.heap.size := h.1.size
theorem Own.start (w : World) (S : Nat → Prop) : Own S w w [] := ⟨Chg.refl _ _, fun _ => False, fun _ => False, trivial, fun _ h => h.elim, fun _ h => h.elim, fun _ h => h.elim id id |>.elim⟩
theorem Own.ext (h : Own S W w l) (hx : Ext w w') : Own S W w' l := by
  obtain ⟨hc, M, Z, hs, h1, h2, h3⟩ := h
  exact ⟨hc.trans (Chg.ofExt hx), M, Z, hs.keep (fun b _ hb => hx.block b hb), h1, h2, fun b hb => Nat.lt_of_lt_of_le (h3 b hb) hx.size⟩
theorem Own.drew (h : Own S W w l) : Own S W w.drew l := h.ext (Ext.drew_self w)
theorem Own.toExt (h : Own (fun _ => False) W w l) : Ext W w := h.1.toExt (fun _ h => h.elim)

/-- One of them is picked out. -/
inductive Pick : List Rs → Rs → List Rs → Prop
  | here (r : Rs) (l : List Rs) : Pick (r :: l) r l
  | there (x : Rs) {r : Rs} {l l' : List Rs} : Pick l r l' → Pick (x :: l) r (x :: l')
theorem Pick.stars : ∀ {l l' : List Rs} {r : Rs} {M Z : Nat → Prop}, Pick l r l' → Stars w l M Z → Stars w (r :: l') M Z
  | _, _, _, _, _, .here _ _, h => h
  | _ :: _, _, r, M, Z, .there x hp, ⟨M1, M2, h1, h2, s1, s2, d⟩ => by
    obtain ⟨N1, N2, k1, k2, t1, t2, e⟩ := hp.stars h2
    exact ⟨N1, fun b => M1 b ∨ N2 b, k1, ⟨M1, N2, h1, k2, fun b h => .inl h, fun b h => .inr h, fun b h hn => d b h (t2 b hn)⟩, fun b h => s2 b (t1 b h), fun b h => h.elim (s1 b) (fun h => s2 b (t2 b h)),
      fun b h hn => hn.elim (fun hn => d b hn (t1 b h)) (e b h)⟩
theorem Own.pick (h : Own S W w l) (hp : Pick l r l') : Own S W w (r :: l') := by
  obtain ⟨hc, M, Z, hs, rest⟩ := h
  exact ⟨hc, M, Z, hp.stars hs, rest⟩
theorem Own.tail (h : Own S W w (r :: l)) : Own S W w l := by
  obtain ⟨hc, M, Z, ⟨M1, M2, _, h2, _, s2, _⟩, rest⟩ := h
  exact ⟨hc, M, Z, h2.mono s2 (fun _ h => h), rest⟩
/-- Some of them, in another order. -/
inductive Takes : List Rs → List Rs → List Rs → Prop
  | nil (l : List Rs) : Takes l [] l
  | cons {l l1 rs l0 : List Rs} {r : Rs} : Pick l r l1 → Takes l1 rs l0 → Takes l (r :: rs) l0
theorem Takes.stars : ∀ {l rs l0 : List Rs} {M Z : Nat → Prop}, Takes l rs l0 → Stars w l M Z → Stars w (rs ++ l0) M Z
  | _, _, _, _, _, .nil _, h => h
  | _, _, _, _, _, .cons hp ht, h => by
    obtain ⟨M1, M2, h1, h2, s1, s2, d⟩ := hp.stars h
    exact ⟨M1, M2, h1, ht.stars h2, s1, s2, d⟩
theorem Own.take {rs l0 : List Rs} (h : Own S W w l) (ht : Takes l rs l0) : Own S W w (rs ++ l0) := by
  obtain ⟨hc, M, Z, hs, rest⟩ := h
  exact ⟨hc, M, Z, ht.stars hs, rest⟩
theorem Own.front {rs l0 : List Rs} (h : Own S W w (rs ++ l0)) : Own S W w rs := by
  obtain ⟨hc, M, Z, hs, rest⟩ := h
  obtain ⟨N1, N2, k1, k2, t1, t2, e⟩ := hs.append
  exact ⟨hc, M, Z, k1.mono t1 (fun _ h => h), rest⟩
theorem Own.only {rs l0 : List Rs} (h : Own S W w l) (ht : Takes l rs l0) : Own S W w rs := (h.take ht).front
/-- The first one is turned. -/
theorem Own.turn (h : Own S W w (r :: l)) : ∃ M Z, r.holds w M Z ∧ (∀ b, M b → b < w.heap.size ∧ (S b ∨ W.heap.size ≤ b) ∧ ¬ Z b) ∧ (∀ b, Z b → b < w.heap.size) ∧
    ∀ (w' : World) (rs : List Rs) (M' Z' : Nat → Prop), Chg M w w' → (∀ b, M' b → M b ∨ w.heap.size ≤ b) → (∀ b, Z' b → Z b ∨ M b ∨ w.heap.size ≤ b) → (∀ b, M' b → ¬ Z' b) → (∀ b, M' b ∨ Z' b → b < w'.heap.size) → Stars w' rs M' (fun b => Z b ∨ Z' b) → Own S W w' (rs ++ l) := by
  obtain ⟨hc, M, Z, ⟨M1, M2, h1, h2, s1, s2, d⟩, hS, hZ, hb⟩ := h
  refine ⟨M1, Z, h1, fun b hb' => ⟨hb b (.inl (s1 b hb')), hS b (s1 b hb'), hZ b (s1 b hb')⟩, fun b h => hb b (.inr h), fun w' rs M' Z' hc' hM' hZ' hd' hb' hs' => ?_⟩
  refine ⟨hc.step hc' (fun i hi => hS i (s1 i hi)), fun b => M' b ∨ M2 b, fun b => Z b ∨ Z' b, Stars.join hs' ?_ (fun b h => .inl h) (fun b h => .inr h) ?_, ?_, ?_, ?_⟩
  · refine (h2.keep (fun b hb2 hsz => hc'.block b hsz (fun h => ?_))).mono (fun _ h => h) (fun b h => .inl h)
    exact hb2.elim (fun hm => d b h hm) (fun hz => hZ b (s1 b h) hz)
  · intro b h hn
    rcases hM' b h with h | h
    · exact d b h hn
    · have := hb b (.inl (s2 b hn)); omega
  · rintro b (h | h)
    · exact (hM' b h).elim (fun h => hS b (s1 b h)) (fun h => .inr (by have := hc.size; omega))
    · exact hS b (s2 b h)
  · rintro b (h | h) (hz | hz)
    · rcases hM' b h with h | h
      · exact hZ b (s1 b h) hz
      · have := hb b (.inr hz); omega
    · exact hd' b h hz
    · exact hZ b (s2 b h) hz
    · rcases hZ' b hz with hz | hz | hz
      · exact hZ b (s2 b h) hz
      · exact d b hz h
      · have := hb b (.inl (s2 b h)); omega
  · have := hc'.size
    rintro b ((h | h) | (h | h))
    · exact hb' b (.inl h)
    · have := hb b (.inl (s2 b h)); omega
    · have := hb b (.inr h); omega
    · exact hb' b (.inr h)
/-- The first one is turned, and nothing new stays for good. -/
theorem Own.turn1 (h : Own S W w (r :: l)) : ∃ M Z, r.holds w M Z ∧ (∀ b, M b → b < w.heap.size ∧ (S b ∨ W.heap.size ≤ b) ∧ ¬ Z b) ∧ (∀ b, Z b → b < w.heap.size) ∧
    ∀ (w' : World) (r' : Rs) (M' : Nat → Prop), Chg M w w' → (∀ b, M' b → M b ∨ w.heap.size ≤ b) → (∀ b, M' b → b < w'.heap.size) → r'.holds w' M' Z → Own S W w' (r' :: l) := by
  obtain ⟨M, Z, h1, h2, h3, k⟩ := h.turn
  refine ⟨M, Z, h1, h2, h3, fun w' r' M' hc hM hb hr => ?_⟩
  exact k w' [r'] M' (fun _ => False) hc hM (fun _ h => h.elim) (fun _ _ h => h) (fun b hb' => hb'.elim (hb b) False.elim)
    ⟨M', fun _ => False, r'.mono hr (fun _ h => h) (fun b h => .inl h), trivial, fun _ h => h, fun _ h => h.elim, fun _ _ h => h⟩
/-- Something new, in new blocks. -/
theorem Own.new (h : Own S W w l) (hx : Ext w w') {M' : Nat → Prop} (hM : ∀ b, M' b → w.heap.size ≤ b ∧ b < w'.heap.size) (hr : r.holds w' M' (fun _ => False)) : Own S W w' (r :: l) := by
  obtain ⟨hc, M, Z, hs, hS, hZ, hb⟩ := h
  refine ⟨hc.trans (Chg.ofExt hx), fun b => M' b ∨ M b, Z, ⟨M', M, r.mono hr (fun _ h => h) (fun _ h => h.elim), hs.keep (fun b _ hb => hx.block b hb), fun b h => .inl h, fun b h => .inr h, fun b h hn => ?_⟩, ?_, ?_, ?_⟩
  · have := (hM b h).1; have := hb b (.inl hn); omega
  · rintro b (h | h)
    · exact .inr (by have := (hM b h).1; have := hc.size; omega)
    · exact hS b h
  · rintro b (h | h) hz
    · have := (hM b h).1; have := hb b (.inr hz); omega
    · exact hZ b h hz
  · have := hx.size
    rintro b ((h | h) | h)
    · exact (hM b h).2
    · have := hb b (.inl h); omega
    · have := hb b (.inr h); omega
end

/-- Several things as one. -/
def Rs.many (l : List Rs) : Rs where
  holds w M Z := Stars w l M Z
  facts w := Facts w l
  mono := Stars.mono
  keep := Stars.keep
  tells := Stars.facts
/-- A thing of some shape. -/
def Rs.ex {α : Type} (f : α → Rs) : Rs where
  holds w M Z := ∃ x, (f x).holds w M Z
  facts w := ∃ x, (f x).facts w
  mono := fun ⟨x, h⟩ hM hZ => ⟨x, (f x).mono h hM hZ⟩
  keep := fun ⟨x, h⟩ hk => ⟨x, (f x).keep h hk⟩
  tells := fun ⟨x, h⟩ => ⟨x, (f x).tells h⟩
/-- A fact that hangs on no memory. -/
def Rs.pure (p : Prop) : Rs where
  holds _ _ _ := p
  facts _ := p
  mono := fun h _ _ => h
  keep := fun h _ => h
  tells := fun h => h
/-- What stays for good tells this. -/
def Rs.imm (φ : World → Prop) : Rs where
  holds w _ Z := ∀ w', (∀ b, Z b → b < w.heap.size → w'.heap[b]? = w.heap[b]?) → φ w'
  facts := φ
  mono := fun h _ hZ w' hw' => h w' (fun b hb hs => hw' b (hZ b hb) hs)
  keep := by
    intro w w' M Z h hk w2 h2
    refine h w2 (fun b hb hs => ?_)
    have h3 := hk b (.inr hb) hs
    have hs' : b < w'.heap.size := by
      rcases Nat.lt_or_ge b w'.heap.size with h4 | h4
      · exact h4
      · rw [Array.getElem?_eq_none h4, Array.getElem?_eq_getElem hs] at h3; cases h3
    rw [h2 b hb hs', h3]
  tells := fun h => h _ (fun _ _ _ => rfl)
/-- A thing that is only looked at. -/
def Rs.frz (r : Rs) : Rs where
  holds w _ Z := r.holds w Z Z
  facts := r.facts
  mono := fun h _ hZ => r.mono h hZ hZ
  keep := fun h hk => r.keep h (fun b hb hs => hk b (.inr (hb.elim id id)) hs)
  tells := r.tells

section
variable {S : Nat → Prop} {W w w' : World} {l l' rs : List Rs} {r r' : Rs} {p : Prop} {α : Type} {f : α → Rs} {φ ψ : World → Prop}
theorem Own.unpack (h : Own S W w (.many rs :: l)) : Own S W w (rs ++ l) := by
  obtain ⟨hc, M, Z, ⟨M1, M2, h1, h2, s1, s2, d⟩, rest⟩ := h
  exact ⟨hc, M, Z, Stars.join h1 h2 s1 s2 d, rest⟩
theorem Own.pack (h : Own S W w (rs ++ l)) : Own S W w (.many rs :: l) := by
  obtain ⟨hc, M, Z, hs, rest⟩ := h
  obtain ⟨M1, M2, h1, h2, s1, s2, d⟩ := hs.append
  exact ⟨hc, M, Z, ⟨M1, M2, h1, h2, s1, s2, d⟩, rest⟩
theorem Own.ofEx (h : Own S W w (.ex f :: l)) : ∃ x, Own S W w (f x :: l) := by
  obtain ⟨hc, M, Z, ⟨M1, M2, ⟨x, h1⟩, h2⟩, rest⟩ := h
  exact ⟨x, hc, M, Z, ⟨M1, M2, h1, h2⟩, rest⟩
theorem Own.toEx (x : α) (h : Own S W w (f x :: l)) : Own S W w (.ex f :: l) := by
  obtain ⟨hc, M, Z, ⟨M1, M2, h1, h2⟩, rest⟩ := h
  exact ⟨hc, M, Z, ⟨M1, M2, ⟨x, h1⟩, h2⟩, rest⟩
theorem Own.toPure (hp : p) (h : Own S W w l) : Own S W w (.pure p :: l) := by
  obtain ⟨hc, M, Z, hs, rest⟩ := h
  exact ⟨hc, M, Z, ⟨fun _ => False, M, hp, hs, fun _ h => h.elim, fun _ h => h, fun _ h => h.elim⟩, rest⟩
theorem Own.ofPure (h : Own S W w (.pure p :: l)) : p ∧ Own S W w l := ⟨h.facts.1, h.tail⟩
/-- What stays for good may be had twice. -/
theorem Own.again (h : Own S W w (.imm φ :: l)) : Own S W w (.imm φ :: .imm φ :: l) := by
  obtain ⟨hc, M, Z, ⟨M1, M2, h1, h2, s1, s2, d⟩, rest⟩ := h
  exact ⟨hc, M, Z, ⟨fun _ => False, fun b => M1 b ∨ M2 b, h1, ⟨M1, M2, h1, h2, fun b h => .inl h, fun b h => .inr h, d⟩, fun _ h => h.elim, fun b h => h.elim (s1 b) (s2 b), fun _ h => h.elim⟩, rest⟩
theorem Own.imp (hi : ∀ w, φ w → ψ w) (h : Own S W w (.imm φ :: l)) : Own S W w (.imm ψ :: l) := by
  obtain ⟨hc, M, Z, ⟨M1, M2, h1, h2, s1, s2, d⟩, rest⟩ := h
  exact ⟨hc, M, Z, ⟨M1, M2, fun w' hw' => hi _ (h1 w' hw'), h2, s1, s2, d⟩, rest⟩
/-- It is turned no more. -/
theorem Own.toImm (hi : ∀ w, r.facts w → φ w) (h : Own S W w (r :: l)) : Own S W w (.imm φ :: l) := by
  obtain ⟨M, Z, h1, h2, h3, k⟩ := h.turn
  refine k w [.imm φ] (fun _ => False) M (Chg.refl _ _) (fun _ h => h.elim) (fun b h => .inr (.inl h)) (fun _ h => h.elim) (fun b hb => (h2 b (hb.elim False.elim id)).1) ⟨fun _ => False, fun _ => False, fun w' hw' => ?_, trivial, fun _ h => h, fun _ h => h, fun _ _ h => h⟩
  refine hi w' (r.tells (r.keep h1 (fun b hb hs => ?_)))
  exact hw' b (hb.elim .inr .inl) hs
/-- What lay there in the world in which the call began. -/
theorem Own.base (w : World) (S : Nat → Prop) (hφ : ∀ w', (∀ b, b < w.heap.size → w'.heap[b]? = w.heap[b]?) → φ w') : Own S w w [.imm φ] :=
  ⟨Chg.refl _ _, fun _ => False, fun b => b < w.heap.size, ⟨fun _ => False, fun _ => False, fun w' hw' => hφ w' (fun b hb => hw' b hb hb), trivial, fun _ h => h, fun _ h => h, fun _ _ h => h⟩, fun _ h => h.elim, fun _ h => h.elim, fun _ hb => hb.elim False.elim id⟩
theorem Own.and (h : Own S W w (.imm φ :: .imm ψ :: l)) : Own S W w (.imm (fun w => φ w ∧ ψ w) :: l) := by
  obtain ⟨hc, M, Z, ⟨M1, M2, h1, ⟨N1, N2, k1, k2, t1, t2, e⟩, s1, s2, d⟩, rest⟩ := h
  exact ⟨hc, M, Z, ⟨fun _ => False, N2, fun w' hw' => ⟨h1 w' hw', k1 w' hw'⟩, k2, fun _ h => h.elim, fun b h => s2 b (t2 b h), fun _ h => h.elim⟩, rest⟩

/-! Things that are only looked at. -/
theorem Stars.frz : ∀ {l : List Rs} {M Z : Nat → Prop}, Stars w l M Z → Stars w (l.map .frz) (fun _ => False) (fun b => M b ∨ Z b)
  | [], _, _, _ => trivial
  | r :: _, M, Z, ⟨M1, M2, h1, h2, s1, s2, d⟩ =>
    ⟨fun _ => False, fun _ => False, r.mono h1 (fun b h => .inl (s1 b h)) (fun b h => .inr h), h2.frz.mono (fun _ h => h) (fun b h => h.imp (s2 b) id), fun _ h => h, fun _ h => h, fun _ _ h => h⟩
theorem Own.frz (h : Own S W w l) : Own (fun _ => False) w w (l.map .frz) := by
  obtain ⟨hc, M, Z, hs, hS, hZ, hb⟩ := h
  exact ⟨Chg.refl _ _, fun _ => False, fun b => M b ∨ Z b, hs.frz, fun _ h => h.elim, fun _ h => h.elim, fun b h => h.elim False.elim (hb b)⟩
theorem Own.frzEx (h : Own S W w (.frz (.ex f) :: l)) : ∃ x, Own S W w (.frz (f x) :: l) := by
  obtain ⟨hc, M, Z, ⟨M1, M2, ⟨x, h1⟩, h2⟩, rest⟩ := h
  exact ⟨x, hc, M, Z, ⟨M1, M2, h1, h2⟩, rest⟩
theorem Own.frzMany (h : Own S W w (.frz (.many rs) :: l)) : Own S W w (rs.map .frz ++ l) := by
  obtain ⟨hc, M, Z, ⟨M1, M2, h1, h2, s1, s2, d⟩, rest⟩ := h
  have h1' : Stars w rs Z Z := h1
  exact ⟨hc, M, Z, Stars.join (M1 := fun _ => False) (h1'.frz.mono (fun _ h => h) (fun b h => h.elim id id)) h2 (fun _ h => h.elim) s2 (fun _ h => h.elim), rest⟩
theorem Own.frzPure (h : Own S W w (.frz (.pure p) :: l)) : p ∧ Own S W w l := ⟨h.facts.1, h.tail⟩
theorem Own.frzFrz (h : Own S W w (.frz (.frz r) :: l)) : Own S W w (.frz r :: l) := h

/-- Once more, for the first one. -/
theorem Own.map1 (hi : ∀ w M Z, r.holds w M Z → r'.holds w M Z) (h : Own S W w (r :: l)) : Own S W w (r' :: l) := by
  obtain ⟨hc, M, Z, ⟨M1, M2, h1, h2⟩, rest⟩ := h
  exact ⟨hc, M, Z, ⟨M1, M2, hi _ _ _ h1, h2⟩, rest⟩
end

/-- A block that is known whole. -/
def BoxF (w : World) (b : Nat) : Nat → List Value → Prop
  | _, [] => True
  | i, [v] => w.cell? ⟨b, i, none⟩ = some v
  | i, v :: l => w.cell? ⟨b, i, none⟩ = some v ∧ BoxF w b (i + 1) l
theorem BoxF.of {w : World} {b : Nat} : ∀ (i : Nat) (cs : List Value), (∀ j v, cs[j]? = some v → w.cell? ⟨b, i + j, none⟩ = some v) → BoxF w b i cs
  | _, [], _ => trivial
  | i, [v], h => h 0 v rfl
  | i, v :: x :: l, h => ⟨h 0 v rfl, BoxF.of (i + 1) (x :: l) fun j u hj => by have := h (j + 1) u (by simpa using hj); rw [show i + (j + 1) = i + 1 + j from by omega] at this; exact this⟩
def Var (b : Nat) (cs : List Value) (t : TypeId) : Rs where
  holds w M _ := w.heap[b]? = some (.cells cs.toArray t (0, 0)) ∧ M b
  facts w := BoxF w b 0 cs ∧ (∀ k, w.frozen? ⟨b, k, none⟩ = false) ∧ b < w.heap.size
  mono := fun ⟨h1, h2⟩ hM _ => ⟨h1, hM _ h2⟩
  keep := fun ⟨h1, h2⟩ hk => ⟨by rw [hk b (.inl h2) (Array.getElem?_eq_some_iff.1 h1).1]; exact h1, h2⟩
  tells := by
    rintro w M Z ⟨h1, h2⟩
    refine ⟨BoxF.of 0 cs fun j v hj => ?_, fun k => by simp [World.frozen?, h1], (Array.getElem?_eq_some_iff.1 h1).1⟩
    rw [Nat.zero_add, cell_of_row w b j _ t (0, 0) h1]; simpa using hj
theorem Var.cells {b : Nat} {cs : List Value} {t : TypeId} {w : World} (h : BoxF w b 0 cs) {k : Nat} {v : Value} (hk : cs[k]? = some v) : w.cell? ⟨b, k, none⟩ = some v := by
  have : ∀ (cs : List Value) (i k : Nat), BoxF w b i cs → cs[k]? = some v → w.cell? ⟨b, i + k, none⟩ = some v := by
    intro cs
    induction cs with
    | nil => intro i k _ hk; simp at hk
    | cons x l ih =>
      intro i k h hk
      cases l with
      | nil =>
        cases k with
        | zero => simp at hk; subst hk; exact h
        | succ k => simp at hk
      | cons y l =>
        cases k with
        | zero => simp at hk; subst hk; exact h.1
        | succ k => rw [show i + (k + 1) = i + 1 + k from by omega]; exact ih (i + 1) k h.2 (by simpa using hk)
  simpa using this cs 0 k h hk

/-- The block may be written. -/
def RowFree (w : World) : Option Addr → Prop
  | some a => ∀ k, w.frozen? ⟨a.block, k, none⟩ = false
  | none => True
theorem RowFree_some (w : World) (g o : Nat) (s : Option Nat) : RowFree w (some ⟨g, o, s⟩) = ∀ k, w.frozen? ⟨g, k, none⟩ = false := rfl
/-- A slice of the call's own, told by its cells. -/
def Row2 (e : TypeId) (size : Nat) (a : Option Addr) (n cap : Nat) (xs : List Value) : Rs where
  holds w M _ := w.ownsRow 0 e size (.slice a n cap) n xs ∧ ∀ b, (Value.slice a n cap).ownBlock = some b → M b
  facts w := ValsAt w a xs ∧ RowFree w a
  mono := fun ⟨h1, h2⟩ hM _ => ⟨h1, fun b hb => hM b (h2 b hb)⟩
  keep := by
    rintro w w' M Z ⟨h, hF⟩ hk
    refine ⟨⟨h.1, ?_⟩, hF⟩
    rcases h.2 with h2 | ⟨g, cap, cur, hv, hb, hg, r⟩
    · exact .inl h2
    · exact .inr ⟨g, cap, cur, hv, hb, by rw [hk g (.inl (hF g (by rw [hv]; rfl))) (Array.getElem?_eq_some_iff.1 hg).1]; exact hg, r⟩
  tells := by
    rintro w M Z ⟨h, hF⟩
    rcases h.2 with ⟨hv, hn⟩ | ⟨g, c, cur, hv, _, hgg, _⟩
    · injection hv with h1 h2 h3
      subst h1
      exact ⟨.inl (List.length_eq_zero_iff.1 (by rw [h.1, hn]; simp)), trivial⟩
    · injection hv with h1 h2 h3
      subst h1; subst h3
      refine ⟨.inr ⟨g, 0, rfl, fun i hi => ?_⟩, fun k => by simp [World.frozen?, hgg]⟩
      have e : ∀ j, (⟨g, 0, none⟩ : Addr).add j = ⟨g, 0 + j, none⟩ := fun j => by unfold Addr.add; split <;> simp_all
      have h1 := h.cells (g := g) rfl i _ (List.getElem?_eq_getElem hi)
      rwa [e] at h1

/-! What each tells, written out. -/
theorem Facts_nil (w : World) : Facts w [] = True := rfl
theorem Facts_cons (w : World) (r : Rs) (l : List Rs) : Facts w (r :: l) = (r.facts w ∧ Facts w l) := rfl
theorem Var_facts (w : World) (b : Nat) (cs : List Value) (t : TypeId) : (Var b cs t).facts w = (BoxF w b 0 cs ∧ (∀ k, w.frozen? ⟨b, k, none⟩ = false) ∧ b < w.heap.size) := rfl
theorem BoxF_one (w : World) (b i : Nat) (v : Value) : BoxF w b i [v] = (w.cell? ⟨b, i, none⟩ = some v) := rfl
theorem BoxF_cons (w : World) (b i : Nat) (v u : Value) (l : List Value) : BoxF w b i (v :: u :: l) = (w.cell? ⟨b, i, none⟩ = some v ∧ BoxF w b (i + 1) (u :: l)) := rfl
theorem Row2_facts (w : World) (e : TypeId) (size : Nat) (a : Option Addr) (n cap : Nat) (xs : List Value) : (Row2 e size a n cap xs).facts w = (ValsAt w a xs ∧ RowFree w a) := rfl
theorem imm_facts (w : World) (φ : World → Prop) : (Rs.imm φ).facts w = φ w := rfl
theorem frz_facts (w : World) (r : Rs) : (Rs.frz r).facts w = r.facts w := rfl
theorem pure_facts (w : World) (p : Prop) : (Rs.pure p).facts w = p := rfl
theorem many_facts (w : World) (l : List Rs) : (Rs.many l).facts w = Facts w l := rfl
theorem FX : (∀ w, Facts w [] = True) ∧ (∀ w r l, Facts w (r :: l) = (r.facts w ∧ Facts w l)) ∧ (∀ w b cs t, (Var b cs t).facts w = (BoxF w b 0 cs ∧ (∀ k, w.frozen? ⟨b, k, none⟩ = false) ∧ b < w.heap.size)) ∧
    (∀ w b i v, BoxF w b i [v] = (w.cell? ⟨b, i, none⟩ = some v)) ∧ (∀ w b i v u l, BoxF w b i (v :: u :: l) = (w.cell? ⟨b, i, none⟩ = some v ∧ BoxF w b (i + 1) (u :: l))) ∧
    (∀ w e size a n cap xs, (Row2 e size a n cap xs).facts w = (ValsAt w a xs ∧ RowFree w a)) ∧ (∀ w g o s, RowFree w (some ⟨g, o, s⟩) = ∀ k, w.frozen? ⟨g, k, none⟩ = false) ∧
    (∀ w φ, (Rs.imm φ).facts w = φ w) ∧ (∀ w r, (Rs.frz r).facts w = r.facts w) ∧ (∀ w p, (Rs.pure p).facts w = p) ∧ (∀ w l, (Rs.many l).facts w = Facts w l) :=
  ⟨fun _ => rfl, fun _ _ _ => rfl, fun _ _ _ _ => rfl, fun _ _ _ _ => rfl, fun _ _ _ _ _ _ => rfl, fun _ _ _ _ _ _ _ => rfl, fun _ _ _ _ => rfl, fun _ _ => rfl, fun _ _ => rfl, fun _ _ => rfl, fun _ _ => rfl⟩

section
variable {S : Nat → Prop} {W w w' : World} {l l' rs : List Rs} {r r' : Rs}
theorem Own.alloc (h : Own S W w l) (cs : List Value) (t : TypeId) : Own S W (w.alloc (.cells cs.toArray t)) (Var w.heap.size cs t :: l) :=
  h.new (M' := fun b => b = w.heap.size) ((Ext.refl w).alloc _) (fun b hb => by rw [hb]; simp) ⟨heap_alloc_new w _, rfl⟩
theorem Own.nil (h : Own S W w l) (e : TypeId) (size : Nat) : Own S W w (Row2 e size none 0 0 [] :: l) :=
  h.new (M' := fun _ => False) (Ext.refl w) (fun _ h => h.elim) ⟨World.ownsRow_nil w 0 e size, fun b hb => by simp [Value.ownBlock] at hb⟩
/-- One is put in the place of another one. -/
inductive Put : List Rs → Rs → Rs → List Rs → Prop
  | here (r r' : Rs) (l : List Rs) : Put (r :: l) r r' (r' :: l)
  | there (x : Rs) {r r' : Rs} {l l' : List Rs} : Put l r r' l' → Put (x :: l) r r' (x :: l')
theorem Put.pick : ∀ {l l' : List Rs} {r r' : Rs}, Put l r r' l' → ∃ l0, Pick l r l0 ∧ ∀ M Z w, Stars w (r' :: l0) M Z → Stars w l' M Z
  | _, _, _, _, .here _ _ _ => ⟨_, .here _ _, fun _ _ _ h => h⟩
  | _ :: _, _, _, _, .there x hp => by
    obtain ⟨l0, h1, h2⟩ := hp.pick
    refine ⟨x :: l0, .there _ h1, fun M Z w ⟨M1, M2, k1, ⟨N1, N2, q1, q2, t1, t2, e⟩, s1, s2, d⟩ => ?_⟩
    exact ⟨N1, fun b => M1 b ∨ N2 b, q1, h2 _ _ _ ⟨M1, N2, k1, q2, fun b h => .inl h, fun b h => .inr h, fun b h hn => d b h (t2 b hn)⟩, fun b h => s2 b (t1 b h), fun b h => h.elim (s1 b) (fun h => s2 b (t2 b h)),
      fun b h hn => hn.elim (fun hn => d b hn (t1 b h)) (e b h)⟩
theorem Own.put (hp : Put l r r' l') (h : Own S W w l) (k : ∀ l0, Own S W w (r :: l0) → Own S W w' (r' :: l0)) : Own S W w' l' := by
  obtain ⟨l0, h1, h2⟩ := hp.pick
  obtain ⟨hc, M, Z, hs, rest⟩ := k l0 (h.pick h1)
  exact ⟨hc, M, Z, h2 _ _ _ hs, rest⟩
theorem Own.set {b i : Nat} {v : Value} {cs : List Value} {t : TypeId} (h : Own S W w l) (hp : Put l (Var b cs t) (Var b (cs.set i v) t) l') : Own S W (w.setCell ⟨b, i, none⟩ v) l' :=
  h.put hp fun l0 h => by
    obtain ⟨M, Z, ⟨h1, h2⟩, h3, _, k⟩ := h.turn1
    refine k _ _ M ((Chg.setCell w ⟨b, i, none⟩ v).mono fun k hk => by rw [show k = b from hk]; exact h2) (fun b h => .inl h) (fun b hb => by simpa [World.setCell] using (h3 b hb).1) ⟨?_, h2⟩
    simp [World.setCell, Array.getElem?_modify, h1]
/-- Where a row of the call's own lies. -/
theorem Own.rowAt {e : TypeId} {size n cap : Nat} {a : Option Addr} {xs : List Value} (h : Own S W w l) (hp : Pick l (Row2 e size a n cap xs) l') (hn : 0 < n) : ∃ g, a = some ⟨g, 0, none⟩ ∧ (∀ k, w.frozen? ⟨g, k, none⟩ = false) ∧ g < w.heap.size := by
  obtain ⟨M, Z, ⟨h1, _⟩, _⟩ := (h.pick hp).turn1
  rcases h1.2 with ⟨_, h0⟩ | ⟨g, c, cur, hv, _, hg, _⟩
  · omega
  · injection hv with h2 _ _
    exact ⟨g, h2, fun k => by simp [World.frozen?, hg], (Array.getElem?_eq_some_iff.1 hg).1⟩
theorem Own.rowLen {e : TypeId} {size n cap : Nat} {a : Option Addr} {xs : List Value} (h : Own S W w l) (hp : Pick l (Row2 e size a n cap xs) l') : xs.length = n * size ∧ n ≤ cap ∧ cap ≤ maxLen := by
  obtain ⟨M, Z, ⟨h1, _⟩, _⟩ := (h.pick hp).turn1
  rcases h1.2 with ⟨hv, h0⟩ | ⟨g, c, cur, hv, _, _, h3, h4, _⟩
  · injection hv with _ _ h2
    exact ⟨h1.1, by omega, by rw [h2]; exact Nat.zero_le _⟩
  · injection hv with _ _ h2
    exact ⟨h1.1, by omega, by omega⟩
theorem Own.rowNil {e : TypeId} {size n cap : Nat} {xs : List Value} (h : Own S W w l) (hp : Pick l (Row2 e size none n cap xs) l') : n = 0 ∧ cap = 0 := by
  obtain ⟨M, Z, ⟨h1, _⟩, _⟩ := (h.pick hp).turn1
  rcases h1.2 with ⟨hv, h0⟩ | ⟨g, c, cur, hv, _⟩
  · injection hv with _ _ h2; exact ⟨h0, h2⟩
  · cases hv
theorem take_set_lt {α : Type} {l : List α} {i k : Nat} {v : α} (h : i < k) : (l.set i v).take k = (l.take k).set i v := by
  apply List.ext_getElem?
  intro j
  rw [List.getElem?_take]
  by_cases hj : j < k
  · rw [if_pos hj, List.getElem?_set, List.getElem?_set, List.getElem?_take, if_pos hj, List.length_take]
    by_cases hij : i = j
    · subst hij
      simp only [if_true]
      by_cases hl : i < l.length
      · rw [if_pos hl, if_pos (by omega)]
      · rw [if_neg hl, if_neg (by omega)]
    · rw [if_neg hij, if_neg hij]
  · rw [if_neg hj, List.getElem?_eq_none (by simp; omega)]
theorem Own.setRow {g i : Nat} {v : Value} {e : TypeId} {size n cap : Nat} {xs : List Value} (h : Own S W w l) (hp : Put l (Row2 e size (some ⟨g, 0, none⟩) n cap xs) (Row2 e size (some ⟨g, 0, none⟩) n cap (xs.set i v)) l') (hi : i < xs.length) : Own S W (w.setCell ⟨g, i, none⟩ v) l' :=
  h.put hp fun l0 h => by
    obtain ⟨M, Z, ⟨h1, h2⟩, h3, _, k⟩ := h.turn1
    have hg : M g := h2 g rfl
    refine k _ _ M ((Chg.setCell w ⟨g, i, none⟩ v).mono fun k hk => by rw [show k = g from hk]; exact hg) (fun b h => .inl h) (fun b hb => by simpa [World.setCell] using (h3 b hb).1) ⟨⟨by rw [List.length_set]; exact h1.1, ?_⟩, h2⟩
    rcases h1.2 with ⟨hv, _⟩ | ⟨g', c, cur, hv, hb, hgg, hnc, hcm, hcs, ht⟩
    · cases hv
    · injection hv with q1 q2 q3
      injection q1 with q1
      injection q1 with q1
      subst q1; subst q3
      refine .inr ⟨g, cap, cur.setIfInBounds i v, rfl, hb, by simp [World.setCell, Array.getElem?_modify, hgg], hnc, hcm, by simpa using hcs, ?_⟩
      rw [Array.toList_setIfInBounds, take_set_lt (by rw [← h1.1]; exact hi), ht]
/-- A call that leaves what is in hand as it is. -/
theorem Own.quiet {P : Program} {f : FuncId} {args : Array Value} {Q : Ending → World → Prop} {e0 : Ending} (h : Own S W w l) (hc : Calls P f args w fun e w' => e = e0 ∧ Ext w w')
    (k : ∀ w', Ext w w' → Own S W w' l → Q e0 w') : Calls P f args w Q :=
  hc.mono fun e w' ⟨he, hx⟩ => by subst he; exact k w' hx (h.ext hx)
end

/-- What a call does with what it is given: its result and what there is then, for some x. -/
def After {α : Type} (S : Nat → Prop) (W : World) (L0 : List Rs) (R : α → Value × List Rs) (e : Ending) (w' : World) : Prop := ∃ x, e = .returned (R x).1 ∧ Own S W w' ((R x).2 ++ L0)
def Does {α : Type} (P : Program) (f : FuncId) (args : Array Value) (L : List Rs) (R : α → Value × List Rs) : Prop :=
  ∀ (S : Nat → Prop) (W w : World) (L0 : List Rs), Own S W w (L ++ L0) → Calls P f args w (After S W L0 R)
theorem Does.use {α : Type} {P : Program} {f : FuncId} {args : Array Value} {L Lc L0 : List Rs} {R : α → Value × List Rs} {S : Nat → Prop} {W w : World} {Q : Ending → World → Prop} (hO : Own S W w Lc) (hc : Does P f args L R) (ht : Takes Lc L L0)
    (k : ∀ x w', Own S W w' ((R x).2 ++ L0) → Q (.returned (R x).1) w') : Calls P f args w Q :=
  (hc S W w L0 (hO.take ht)).mono fun e w' ⟨x, he, h⟩ => by subst he; exact k x w' h
/-- What a call answers that only looks at the things L. -/
def Reads (P : Program) (f : FuncId) (args : Array Value) (L : List Rs) (v : Value) : Prop :=
  ∀ (w : World) (L0 : List Rs), Own (fun _ => False) w w (L.map .frz ++ L0) → Calls P f args w fun e w' => e = .returned v ∧ Ext w w'
theorem Reads.use {P : Program} {f : FuncId} {args : Array Value} {L Lc L0 : List Rs} {v : Value} {S : Nat → Prop} {W w : World} {Q : Ending → World → Prop} (hO : Own S W w Lc) (hc : Reads P f args L v) (ht : Takes Lc L L0)
    (k : ∀ w', Ext w w' → Own S W w' Lc → Q (.returned v) w') : Calls P f args w Q := by
  have h1 := (hO.take ht).frz
  rw [List.map_append] at h1
  exact (hc w _ h1).mono fun e w' ⟨he, hx⟩ => by subst he; exact k w' hx (hO.ext hx)

section
variable {P : Program} {S : Nat → Prop} {W w : World} {l l' : List Rs} {ops : Array Oper} {rest : List Oper} {a : Act} {Q : Exit → Act → World → Prop} {c : Code}
/-- A world of which all is known is a letter. -/
theorem wpList_alloc_own {cs : List Value} {t : TypeId} (hO : Own S W w l) (k : ∀ w', Own S W w' (Var w.heap.size cs t :: l) → wpList P ops Q rest a w') : wpList P ops Q rest a (w.alloc (.cells cs.toArray t)) := k _ (hO.alloc cs t)
theorem wpList_alloc_own2 {o : Obj} {L : List Rs} (hO : Own S W (w.alloc o) L) (k : ∀ w', Own S W w' L → wpList P ops Q rest a w') : wpList P ops Q rest a (w.alloc o) := k _ hO
theorem wpList_set_own {p : Addr} {v : Value} {L : List Rs} (hO : Own S W (w.setCell p v) L) (k : ∀ w', Own S W w' L → wpList P ops Q rest a w') : wpList P ops Q rest a (w.setCell p v) := k _ hO
theorem wpList_drew_own (hO : Own S W w l) (k : ∀ w', Own S W w' l → wpList P ops Q rest a w') : wpList P ops Q rest a w.drew := k _ hO.drew
theorem wp_alloc_own {cs : List Value} {t : TypeId} (hO : Own S W w l) (k : ∀ w', Own S W w' (Var w.heap.size cs t :: l) → c.wp P Q a w') : c.wp P Q a (w.alloc (.cells cs.toArray t)) := k _ (hO.alloc cs t)
theorem wp_set_own {p : Addr} {v : Value} {L : List Rs} (hO : Own S W (w.setCell p v) L) (k : ∀ w', Own S W w' L → c.wp P Q a w') : c.wp P Q a (w.setCell p v) := k _ hO
theorem bodyPost_alloc_own {fn : Func} {R : Ending → World → Prop} {x : Exit} {cs : List Value} {t : TypeId} (hO : Own S W w l) (k : ∀ w', Own S W w' (Var w.heap.size cs t :: l) → bodyPost P fn R x a w') : bodyPost P fn R x a (w.alloc (.cells cs.toArray t)) := k _ (hO.alloc cs t)
theorem bodyPost_set_own {fn : Func} {R : Ending → World → Prop} {x : Exit} {p : Addr} {v : Value} {L : List Rs} (hO : Own S W (w.setCell p v) L) (k : ∀ w', Own S W w' L → bodyPost P fn R x a w') : bodyPost P fn R x a (w.setCell p v) := k _ hO
theorem bodyPost_drew_own {fn : Func} {R : Ending → World → Prop} {x : Exit} (hO : Own S W w l) (k : ∀ w', Own S W w' l → bodyPost P fn R x a w') : bodyPost P fn R x a w.drew := k _ hO.drew
theorem wp_drew_own (hO : Own S W w l) (k : ∀ w', Own S W w' l → c.wp P Q a w') : c.wp P Q a w.drew := k _ hO.drew

/-- An append to a slice of the call's own. -/
theorem wpList_append_own2 {o : Oper} (hO : Own S W w l) {e : TypeId} {size : Nat} {va : Option Addr} {n vc : Nat} {xs : List Value} {l0 : List Rs} (hp : Pick l (Row2 e size va n vc xs) l0) (hgd : o.guard = none) (s x : Operand) (t : TypeId)
    (ho : o.op = .call { callee := .builtin .append, args := #[s, x], argTypes := #[t, t] })
    (i : TypeInfo) (z : Value) (bytes : Nat) (ht : P.underlying t = some (.slice e)) (hi : P.info? e = some i) (hz : i.zero = some z)
    (hsize : i.size = size) (hby : i.bytes = bytes) (hzs : z.cells.size = size) (hsz : 0 < size) (hs : a.eval s = .slice va n vc)
    (g off m c : Nat) (news : List Value) (hx : a.eval x = .slice (some ⟨g, off, none⟩) m c) (hl : news.length = m * size) (hnews : ∀ j u, news[j]? = some u → w.cell? ⟨g, off + j, none⟩ = some u) (h1 : ∀ u ∈ news, u.oneCell' = true)
    (h63 : n + m ≤ maxLen) (hbytes : (n + m) * bytes ≤ 140737488355328)
    (h : ∀ ka kc w', Own S W w' (Row2 e size ka (n + m) kc (xs ++ news) :: l0) → wpList P ops Q rest (a.put o.dst (.slice ka (n + m) kc)) w') : wpList P ops Q (o :: rest) a w := by
  obtain ⟨M, Z, ⟨h2, h3⟩, h4, _, k⟩ := (hO.pick hp).turn1
  have hadd : ∀ j, (⟨g, off, none⟩ : Addr).add j = ⟨g, off + j, none⟩ := fun j => by unfold Addr.add; split <;> simp_all
  obtain ⟨v', w', hr, q2, q3, q4⟩ := run_append_res (P := P) w t o.type e i z size bytes ht hi hz hsize hby hzs hsz (.slice va n vc) n xs h2 ⟨g, off, none⟩ m c news hl (fun j u hj => by rw [hadd]; exact hnews j u hj) h1 h63 hbytes
  obtain ⟨hr', hc', hf'⟩ := Row.grown (F := fun b => (Value.slice va n vc).ownBlock = some b) ⟨h2, fun _ => Iff.rfl⟩ q2 q3 q4
  obtain ⟨ka, kc, rfl⟩ := Row.shape hr'
  refine wpList_plain hgd fun K hK => ?_
  unfold Oper.wp execOp
  simp only [ho, resolve, invoke, builtin, Sem.run_bind, Sem.run_pure, Result.andThen_ok, List.map_toArray, List.map_cons, List.map_nil, hs, hx, hr]
  exact hK _ _ (h ka kc w' (k w' _ (fun b => (Value.slice ka (n + m) kc).ownBlock = some b) (hc'.mono h3) (fun b hb => (hf' b hb).imp (h3 b) id) (fun b hb => (Row _ _ _ _ _).here hr' hb) ⟨hr'.1, fun b hb => hb⟩))
end
end Go.Proofs.YtpdnlgopbnkdhaaDoor
namespace Go.Proofs.YtpdnlgopbnkdhaaDoor
open Go.RowKit

/-- How an operation is taken: 0: it computes; 1: it looks at memory, ahead of all that change it; 2: it looks at what stays; 3: a call that makes memory at most, ahead of all that change it; 4: it makes memory; else: it may change memory. -/
theorem mr_cases (m : Nat) : m = 0 ∨ m = 1 ∨ m = 2 ∨ m = 3 ∨ m = 4 ∨ ∃ n, m = n + 5 := by
  match m with
  | 0 => exact .inl rfl
  | 1 => exact .inr (.inl rfl)
  | 2 => exact .inr (.inr (.inl rfl))
  | 3 => exact .inr (.inr (.inr (.inl rfl)))
  | 4 => exact .inr (.inr (.inr (.inr (.inl rfl))))
  | n + 5 => exact .inr (.inr (.inr (.inr (.inr ⟨n, rfl⟩))))

section
variable {P : Program} {ops : Array Oper} {md : Region.Mode} {I : World → Prop}

/-- What an operation that looks at memory finds, wherever I holds. -/
def Sees (P : Program) (ops : Array Oper) (I : World → Prop) (o : Oper) (a : Act) (v : Value) : Prop :=
  ∀ w', I w' → (Region.wanted o (yielded ops a.tmps) = true ∧ (execOp a.eval o).run P w' = .ok (.value v) w') ∨ (Region.wanted o (yielded ops a.tmps) = false ∧ v = undef)
theorem Sees.of_same {o : Oper} {a a' : Act} {v : Value} (h : Sees P ops I o a v) (he : execOp a'.eval o = execOp a.eval o)
    (hw : Region.wanted o (yielded ops a'.tmps) = Region.wanted o (yielded ops a.tmps)) : Sees P ops I o a' v := by
  intro w' hx; rw [he, hw]; exact h w' hx
theorem Sees.wpOp {Q : Exit → Act → World → Prop} {i : Nat} {o : Oper} {v : Value} {a : Act} {w : World} (hi : ops[i]? = some o) (hI : I w) (hy : Sees P ops I o a v)
    {K : Act → World → Prop} (h : K (a.put o.dst v) w) : wpOp P ops Q i K a w := by
  unfold Go.wpOp
  simp only [hi]
  rcases hy w hI with ⟨hw, hv⟩ | ⟨hw, rfl⟩
  · simp only [hw, if_true, Oper.wp, hv, Oper.upon]; exact .inl h
  · simp only [hw, Bool.false_eq_true, if_false]; exact h
theorem Sees.put_back {oi oj : Oper} {v u : Value} {a : Act} (hap : oi.apart ops oj = true) (hsj : ∀ cs b, oj.op ≠ .select cs b)
    (hy : Sees P ops I oj (a.put oi.dst v) u) : Sees P ops I oj a u := by
  obtain ⟨h1, _, _⟩ := Oper.apart_spec hap
  exact hy.of_same (execOp_put oj hsj a oi.dst v h1).symm (wanted_put oj a oi.dst v h1).symm
theorem Sees.put_on {oi oj : Oper} {v u : Value} {a : Act} (hap : oi.apart ops oj = true) (hsi : ∀ cs b, oi.op ≠ .select cs b)
    (hy : Sees P ops I oi a v) : Sees P ops I oi (a.put oj.dst u) v := by
  obtain ⟨_, _, h3⟩ := Oper.apart_spec hap
  exact hy.of_same (execOp_put oi hsi a oj.dst u h3) (wanted_put oi a oj.dst u h3)
theorem Sees.unique {o : Oper} {u u2 : Value} {a : Act} {w : World} (hI : I w) (hu : Sees P ops I o a u) (hu2 : Sees P ops I o a u2) : u = u2 := by
  rcases hu w hI with ⟨k1, k2⟩ | ⟨k1, rfl⟩ <;> rcases hu2 w hI with ⟨k3, k4⟩ | ⟨k3, rfl⟩
  · have := k2.symm.trans k4; injection this with h5; injection h5
  · rw [k1] at k3; cases k3
  · rw [k1] at k3; cases k3
  · rfl

/-- One step in an order that is open, by its mark. -/
def OpRAt (P : Program) (ops : Array Oper) (I : World → Prop) (Q : Exit → Act → World → Prop) (m : Nat) (j : Nat) (oj : Oper) (K : Act → World → Prop) (a : Act) (w : World) : Prop :=
  match m with
  | 0 => ∃ v, Yields P ops oj v a ∧ K (a.put oj.dst v) w
  | 1 => ∃ v, Looks P ops oj a w v ∧ K (a.put oj.dst v) w
  | 2 => ∃ v, Sees P ops I oj a v ∧ K (a.put oj.dst v) w
  | 3 => ∃ v, Gives P ops oj a w v ∧ ∀ w', Ext w w' → K (a.put oj.dst v) w'
  | 4 => wpOp P ops Q j (fun a' w' => Ext w w' ∧ K a' w') a w
  | _ => wpOp P ops Q j (fun a' w' => I w' ∧ K a' w') a w
def opR (P : Program) (ops : Array Oper) (I : World → Prop) (Q : Exit → Act → World → Prop) (m : Nat) (i : Nat) (K : Act → World → Prop) (a : Act) (w : World) : Prop :=
  match ops[i]? with
  | none => K a w
  | some o => OpRAt P ops I Q m i o K a w
theorem opR_intro {Q : Exit → Act → World → Prop} {m : Nat} {j : Nat} {oj : Oper} {K : Act → World → Prop} {a : Act} {w : World} (hj : ops[j]? = some oj)
    (h : OpRAt P ops I Q m j oj K a w) : opR P ops I Q m j K a w := by
  unfold opR; simp only [hj]; exact h
theorem opR_elim {Q : Exit → Act → World → Prop} {m : Nat} {j : Nat} {oj : Oper} {K : Act → World → Prop} {a : Act} {w : World} (hj : ops[j]? = some oj)
    (h : opR P ops I Q m j K a w) : OpRAt P ops I Q m j oj K a w := by
  unfold opR at h; simp only [hj] at h; exact h

theorem opR_sound (hIx : ∀ w w', I w → Ext w w' → I w') {Q : Exit → Act → World → Prop} {m : Nat} {i : Nat} {K : Act → World → Prop} {a : Act} {w : World} (hI : I w)
    (hh : opR P ops I Q m i K a w) : wpOp P ops Q i (fun a w => I w ∧ K a w) a w := by
  unfold opR at hh
  split at hh
  · rename_i ho; unfold wpOp; simp only [ho]; exact ⟨hI, hh⟩
  · rename_i o ho
    rcases mr_cases m with rfl | rfl | rfl | rfl | rfl | ⟨n, rfl⟩
    · obtain ⟨v, hy, hk⟩ := hh; exact hy.wpOp ho ⟨hI, hk⟩
    · obtain ⟨v, hy, hk⟩ := hh; exact hy.wpOp ho ⟨hI, hk⟩
    · obtain ⟨v, hy, hk⟩ := hh; exact hy.wpOp ho hI ⟨hI, hk⟩
    · obtain ⟨v, hy, hk⟩ := hh
      have h2 : opT P ops Q 2 i (fun a w' => Ext w w' ∧ K a w') a w := opT_intro ho ⟨v, hy, fun w' hw' => ⟨hw', hk w' hw'⟩⟩
      exact wpOp_mono (fun a w' hk => ⟨hIx _ _ hI hk.1, hk.2⟩) (opT_sound h2)
    · have h1 : wpOp P ops Q i (fun a' w' => Ext w w' ∧ K a' w') a w := hh
      exact wpOp_mono (fun a w hk => ⟨hIx _ _ hI hk.1, hk.2⟩) h1
    · exact hh

/-- wpAny, by marks. -/
def anyR (P : Program) (md : Region.Mode) (ops : Array Oper) (I : World → Prop) (mk : Nat → Nat) (Q : Exit → Act → World → Prop) : Nat → Array Bool → Act → World → Prop
  | 0, listed, a, w => Region.ready md ops listed = [] ∧ Q .normal a w
  | fuel + 1, listed, a, w =>
    (Region.ready md ops listed = [] → Q .normal a w) ∧
    ∀ i ∈ Region.ready md ops listed, opR P ops I Q (mk i) i (anyR P md ops I mk Q fuel (listed.setIfInBounds i true)) a w

theorem anyR_sound (hIx : ∀ w w', I w → Ext w w' → I w') {mk : Nat → Nat} {Q : Exit → Act → World → Prop} : ∀ (fuel : Nat) (listed : Array Bool) (a : Act) (w : World), I w →
    anyR P md ops I mk Q fuel listed a w → wpAny P md ops Q fuel listed a w
  | 0, _, _, _, _, h => h
  | fuel + 1, _, _, _, hI, h => ⟨h.1, fun i hi => wpOp_mono (fun a' w' hk => anyR_sound hIx fuel _ a' w' hk.1 hk.2) (opR_sound hIx hI (h.2 i hi))⟩

/-- An operation that only computes may go first. -/
theorem anyR_pure {mk : Nat → Nat} {Q : Exit → Act → World → Prop} {i : Nat} {oi : Oper} {v : Value} (hi : ops[i]? = some oi) (hmi : mk i = 0)
    (hsel : ∀ (j : Nat) (o : Oper) cs b, ops[j]? = some o → o.op ≠ .select cs b)
    (hQ : ∀ c a w, Q (.panic c) (a.put oi.dst v) w → Q (.panic c) a w) :
    ∀ (fuel : Nat) (listed : Array Bool) (a : Act) (w : World), FreeOf ops md listed i oi →
      i ∈ Region.ready md ops listed → Yields P ops oi v a →
      anyR P md ops I mk Q fuel (listed.setIfInBounds i true) (a.put oi.dst v) w → anyR P md ops I mk Q (fuel + 1) listed a w := by
  intro fuel
  induction fuel with
  | zero =>
    intro listed a w _ hr hy H
    refine ⟨fun h => (by rw [h] at hr; cases hr), fun j hj => ?_⟩
    by_cases hji : j = i
    · subst hji; exact opR_intro hi (by rw [hmi]; exact ⟨v, hy, H⟩)
    · have := ready_mono hj hji
      rw [H.1] at this
      cases this
  | succ fuel ih =>
    intro listed a w hfree hr hy H
    refine ⟨fun h => (by rw [h] at hr; cases hr), fun j hj => ?_⟩
    by_cases hji : j = i
    · subst hji; exact opR_intro hi (by rw [hmi]; exact ⟨v, hy, H⟩)
    · obtain ⟨hjun, oj, hoj, hall⟩ := mem_ready.1 hj
      have hrun := (mem_ready.1 hr).1
      have h1 := opR_elim hoj (H.2 j (ready_mono hj hji))
      have hap := hfree j oj hoj hji hjun (ready_not_after hrun hall)
      have hsj := fun cs b => hsel j oj cs b
      obtain ⟨_, h2, _⟩ := Oper.apart_spec hap
      have step : ∀ (a : Act) (u : Value) (w : World), Yields P ops oi v (a.put oj.dst u) → anyR P md ops I mk Q fuel ((listed.setIfInBounds i true).setIfInBounds j true) ((a.put oi.dst v).put oj.dst u) w →
          anyR P md ops I mk Q (fuel + 1) (listed.setIfInBounds j true) (a.put oj.dst u) w := fun a u w hy' h => by
        refine ih (listed.setIfInBounds j true) (a.put oj.dst u) w (hfree.set hjun) (ready_mono hr (Ne.symm hji)) hy' ?_
        rw [Array.setIfInBounds_comm _ _ hji, ← Act.put_comm a v u h2]
        exact h
      refine opR_intro hoj ?_
      have hon := fun (a : Act) (u : Value) (hy : Yields P ops oi v a) => Yields.put_on (u := u) hap (fun cs b => hsel i oi cs b hi) hy
      rcases mr_cases (mk j) with hm | hm | hm | hm | hm | ⟨n, hm⟩ <;> rw [hm] at h1 ⊢
      · obtain ⟨u, hu, hk⟩ := h1
        exact ⟨u, Yields.put_back hap (fun cs b => hsj cs b hoj) hu, step a u w (hon a u hy) hk⟩
      · obtain ⟨u, hu, hk⟩ := h1
        exact ⟨u, Looks.put_back hap (fun cs b => hsj cs b hoj) hu, step a u w (hon a u hy) hk⟩
      · obtain ⟨u, hu, hk⟩ := h1
        exact ⟨u, Sees.put_back hap (fun cs b => hsj cs b hoj) hu, step a u w (hon a u hy) hk⟩
      · obtain ⟨u, hu, hk⟩ := h1
        obtain ⟨u', hu', he⟩ := Gives.put_back hap (fun cs b => hsj cs b hoj) hu
        exact ⟨u', hu', fun w' hw' => step a u' w' (hon a u' hy) (by rw [he]; exact hk w' hw')⟩
      · have h5 : wpOp P ops Q j (fun a' w' => Ext w w' ∧ _) _ w := h1
        show wpOp P ops Q j (fun a' w' => Ext w w' ∧ _) a w
        have h3 := wpOp_put (Q := Q) hoj hap (fun cs b => hsel i oi cs b hi) (fun cs b => hsj cs b hoj) hQ hy h5
        refine wpOp_mono (fun a' w' h4 => ?_) h3
        refine ⟨h4.2.1, ?_⟩
        refine ih (listed.setIfInBounds j true) a' w' (hfree.set hjun) (ready_mono hr (Ne.symm hji)) h4.1 ?_
        rw [Array.setIfInBounds_comm _ _ hji]
        exact h4.2.2
      · have h5 : wpOp P ops Q j (fun a' w' => I w' ∧ _) _ w := h1
        show wpOp P ops Q j (fun a' w' => I w' ∧ _) a w
        have h3 := wpOp_put (Q := Q) hoj hap (fun cs b => hsel i oi cs b hi) (fun cs b => hsj cs b hoj) hQ hy h5
        refine wpOp_mono (fun a' w' h4 => ?_) h3
        refine ⟨h4.2.1, ?_⟩
        refine ih (listed.setIfInBounds j true) a' w' (hfree.set hjun) (ready_mono hr (Ne.symm hji)) h4.1 ?_
        rw [Array.setIfInBounds_comm _ _ hji]
        exact h4.2.2

/-- A quiet operation that all that change memory wait for may go first. -/
theorem anyR_quiet (hIx : ∀ w w', I w → Ext w w' → I w') {mk : Nat → Nat} {Q : Exit → Act → World → Prop} {i : Nat} {oi : Oper} {v : Value} (hi : ops[i]? = some oi) (hmi : mk i = 3)
    (hsel : ∀ (j : Nat) (o : Oper) cs b, ops[j]? = some o → o.op ≠ .select cs b) (hah : Ahead ops md mk 4 i) :
    ∀ (fuel : Nat) (listed : Array Bool) (a : Act) (w : World), I w → FreeOf ops md listed i oi → Closed ops md listed →
      i ∈ Region.ready md ops listed → Gives P ops oi a w v →
      (∀ w', Ext w w' → anyR P md ops I mk Q fuel (listed.setIfInBounds i true) (a.put oi.dst v) w') → anyR P md ops I mk Q (fuel + 1) listed a w := by
  intro fuel
  induction fuel with
  | zero =>
    intro listed a w _ _ _ hr hy H
    refine ⟨fun h => (by rw [h] at hr; cases hr), fun j hj => ?_⟩
    by_cases hji : j = i
    · subst hji; exact opR_intro hi (by rw [hmi]; exact ⟨v, hy, H⟩)
    · have := ready_mono hj hji
      rw [(H w (Ext.refl w)).1] at this
      cases this
  | succ fuel ih =>
    intro listed a w hI hfree hcl hr hy H
    refine ⟨fun h => (by rw [h] at hr; cases hr), fun j hj => ?_⟩
    by_cases hji : j = i
    · subst hji; exact opR_intro hi (by rw [hmi]; exact ⟨v, hy, H⟩)
    · obtain ⟨hjun, oj, hoj, hall⟩ := mem_ready.1 hj
      have hrun := (mem_ready.1 hr).1
      have h1 := fun w' hw' => opR_elim hoj ((H w' hw').2 j (ready_mono hj hji))
      have hap := hfree j oj hoj hji hjun (ready_not_after hrun hall)
      have hsj := fun cs b => hsel j oj cs b
      obtain ⟨_, h2, _⟩ := Oper.apart_spec hap
      have step : ∀ (u : Value) (w' : World), Ext w w' → (∀ w'', Ext w' w'' → anyR P md ops I mk Q fuel ((listed.setIfInBounds i true).setIfInBounds j true) ((a.put oi.dst v).put oj.dst u) w'') →
          anyR P md ops I mk Q (fuel + 1) (listed.setIfInBounds j true) (a.put oj.dst u) w' := fun u w' hw' h => by
        refine ih (listed.setIfInBounds j true) (a.put oj.dst u) w' (hIx _ _ hI hw') (hfree.set hjun) (hcl.set hj) (ready_mono hr (Ne.symm hji)) ((Gives.put_on hap (fun cs b => hsel i oi cs b hi) hy).ext hw') ?_
        intro w'' hw''
        rw [Array.setIfInBounds_comm _ _ hji, ← Act.put_comm a v u h2]
        exact h w'' hw''
      refine opR_intro hoj ?_
      have hlt := hah listed j hrun hcl hj
      rcases mr_cases (mk j) with hm | hm | hm | hm | hm | ⟨n, hm⟩
      · simp only [hm] at h1 ⊢
        obtain ⟨u, hu, hk⟩ := h1 w (Ext.refl w)
        refine ⟨u, Yields.put_back hap (fun cs b => hsj cs b hoj) hu, step u w (Ext.refl w) fun w'' hw'' => ?_⟩
        obtain ⟨u2, hu2, hk2⟩ := h1 w'' hw''
        rw [Yields.unique hu hu2 w]
        exact hk2
      · simp only [hm] at h1 ⊢
        obtain ⟨u, hu, hk⟩ := h1 w (Ext.refl w)
        refine ⟨u, Looks.put_back hap (fun cs b => hsj cs b hoj) hu, step u w (Ext.refl w) fun w'' hw'' => ?_⟩
        obtain ⟨u2, hu2, hk2⟩ := h1 w'' hw''
        have : u = u2 := by
          rcases hu w'' hw'' with ⟨k1, k2⟩ | ⟨k1, rfl⟩ <;> rcases hu2 w'' (Ext.refl _) with ⟨k3, k4⟩ | ⟨k3, rfl⟩
          · have := k2.symm.trans k4; injection this with h5; injection h5
          · rw [k1] at k3; cases k3
          · rw [k1] at k3; cases k3
          · rfl
        rw [this]
        exact hk2
      · simp only [hm] at h1 ⊢
        obtain ⟨u, hu, hk⟩ := h1 w (Ext.refl w)
        refine ⟨u, Sees.put_back hap (fun cs b => hsj cs b hoj) hu, step u w (Ext.refl w) fun w'' hw'' => ?_⟩
        obtain ⟨u2, hu2, hk2⟩ := h1 w'' hw''
        rw [Sees.unique hI hu hu2]
        exact hk2
      · simp only [hm] at h1 ⊢
        obtain ⟨u, hu, hk⟩ := h1 w (Ext.refl w)
        obtain ⟨u', hu', he⟩ := Gives.put_back hap (fun cs b => hsj cs b hoj) hu
        exact ⟨u', hu', fun w' hw' => step u' w' hw' (fun w'' hw'' => by rw [he]; exact hk w'' (hw'.trans hw''))⟩
      · omega
      · omega

/-- An operation that looks at memory, and that all that change memory wait for, may go first. -/
theorem anyR_look {mk : Nat → Nat} {Q : Exit → Act → World → Prop} {i : Nat} {oi : Oper} {v : Value} (hi : ops[i]? = some oi) (hmi : mk i = 1)
    (hsel : ∀ (j : Nat) (o : Oper) cs b, ops[j]? = some o → o.op ≠ .select cs b) (hah : Ahead ops md mk 5 i) (hQ : ∀ c a w, Q (.panic c) (a.put oi.dst v) w → Q (.panic c) a w) :
    ∀ (fuel : Nat) (listed : Array Bool) (a : Act) (w : World), FreeOf ops md listed i oi → Closed ops md listed →
      i ∈ Region.ready md ops listed → Looks P ops oi a w v →
      anyR P md ops I mk Q fuel (listed.setIfInBounds i true) (a.put oi.dst v) w → anyR P md ops I mk Q (fuel + 1) listed a w := by
  intro fuel
  induction fuel with
  | zero =>
    intro listed a w _ _ hr hy H
    refine ⟨fun h => (by rw [h] at hr; cases hr), fun j hj => ?_⟩
    by_cases hji : j = i
    · subst hji; exact opR_intro hi (by rw [hmi]; exact ⟨v, hy, H⟩)
    · have := ready_mono hj hji
      rw [H.1] at this
      cases this
  | succ fuel ih =>
    intro listed a w hfree hcl hr hy H
    refine ⟨fun h => (by rw [h] at hr; cases hr), fun j hj => ?_⟩
    by_cases hji : j = i
    · subst hji; exact opR_intro hi (by rw [hmi]; exact ⟨v, hy, H⟩)
    · obtain ⟨hjun, oj, hoj, hall⟩ := mem_ready.1 hj
      have hrun := (mem_ready.1 hr).1
      have h1 := opR_elim hoj (H.2 j (ready_mono hj hji))
      have hap := hfree j oj hoj hji hjun (ready_not_after hrun hall)
      have hsj := fun cs b => hsel j oj cs b
      obtain ⟨_, h2, _⟩ := Oper.apart_spec hap
      have step : ∀ (a : Act) (u : Value) (w : World), Looks P ops oi (a.put oj.dst u) w v → anyR P md ops I mk Q fuel ((listed.setIfInBounds i true).setIfInBounds j true) ((a.put oi.dst v).put oj.dst u) w →
          anyR P md ops I mk Q (fuel + 1) (listed.setIfInBounds j true) (a.put oj.dst u) w := fun a u w hy' h => by
        refine ih (listed.setIfInBounds j true) (a.put oj.dst u) w (hfree.set hjun) (hcl.set hj) (ready_mono hr (Ne.symm hji)) hy' ?_
        rw [Array.setIfInBounds_comm _ _ hji, ← Act.put_comm a v u h2]
        exact h
      refine opR_intro hoj ?_
      have hon := fun (a : Act) (u : Value) (w : World) (hy : Looks P ops oi a w v) => Looks.put_on (u := u) hap (fun cs b => hsel i oi cs b hi) hy
      have hlt := hah listed j hrun hcl hj
      rcases mr_cases (mk j) with hm | hm | hm | hm | hm | ⟨n, hm⟩
      · rw [hm] at h1 ⊢
        obtain ⟨u, hu, hk⟩ := h1
        exact ⟨u, Yields.put_back hap (fun cs b => hsj cs b hoj) hu, step a u w (hon a u w hy) hk⟩
      · rw [hm] at h1 ⊢
        obtain ⟨u, hu, hk⟩ := h1
        exact ⟨u, Looks.put_back hap (fun cs b => hsj cs b hoj) hu, step a u w (hon a u w hy) hk⟩
      · rw [hm] at h1 ⊢
        obtain ⟨u, hu, hk⟩ := h1
        exact ⟨u, Sees.put_back hap (fun cs b => hsj cs b hoj) hu, step a u w (hon a u w hy) hk⟩
      · rw [hm] at h1 ⊢
        obtain ⟨u, hu, hk⟩ := h1
        obtain ⟨u', hu', he⟩ := Gives.put_back hap (fun cs b => hsj cs b hoj) hu
        exact ⟨u', hu', fun w' hw' => step a u' w' (hon a u' w' (hy.ext hw')) (by rw [he]; exact hk w' hw')⟩
      · rw [hm] at h1 ⊢
        have h5 : wpOp P ops Q j (fun a' w' => Ext w w' ∧ _) _ w := h1
        show wpOp P ops Q j (fun a' w' => Ext w w' ∧ _) a w
        have h3 := wpOp_ahead (Q := Q) hoj hap (fun cs b => hsel i oi cs b hi) (fun cs b => hsj cs b hoj) hQ h5
        refine wpOp_mono (fun a' w' h4 => ⟨h4.2.1, ?_⟩) h3
        refine ih (listed.setIfInBounds j true) a' w' (hfree.set hjun) (hcl.set hj) (ready_mono hr (Ne.symm hji)) ((hy.of_same h4.1.1 h4.1.2).ext h4.2.1) ?_
        rw [Array.setIfInBounds_comm _ _ hji]
        exact h4.2.2
      · omega

/-- An operation that looks at what stays may go first. -/
theorem anyR_see {mk : Nat → Nat} {Q : Exit → Act → World → Prop} {i : Nat} {oi : Oper} {v : Value} (hi : ops[i]? = some oi) (hmi : mk i = 2)
    (hsel : ∀ (j : Nat) (o : Oper) cs b, ops[j]? = some o → o.op ≠ .select cs b) (hQ : ∀ c a w, Q (.panic c) (a.put oi.dst v) w → Q (.panic c) a w) :
    ∀ (fuel : Nat) (listed : Array Bool) (a : Act) (w : World), FreeOf ops md listed i oi →
      i ∈ Region.ready md ops listed → Sees P ops I oi a v →
      anyR P md ops I mk Q fuel (listed.setIfInBounds i true) (a.put oi.dst v) w → anyR P md ops I mk Q (fuel + 1) listed a w := by
  intro fuel
  induction fuel with
  | zero =>
    intro listed a w _ hr hy H
    refine ⟨fun h => (by rw [h] at hr; cases hr), fun j hj => ?_⟩
    by_cases hji : j = i
    · subst hji; exact opR_intro hi (by rw [hmi]; exact ⟨v, hy, H⟩)
    · have := ready_mono hj hji
      rw [H.1] at this
      cases this
  | succ fuel ih =>
    intro listed a w hfree hr hy H
    refine ⟨fun h => (by rw [h] at hr; cases hr), fun j hj => ?_⟩
    by_cases hji : j = i
    · subst hji; exact opR_intro hi (by rw [hmi]; exact ⟨v, hy, H⟩)
    · obtain ⟨hjun, oj, hoj, hall⟩ := mem_ready.1 hj
      have hrun := (mem_ready.1 hr).1
      have h1 := opR_elim hoj (H.2 j (ready_mono hj hji))
      have hap := hfree j oj hoj hji hjun (ready_not_after hrun hall)
      have hsj := fun cs b => hsel j oj cs b
      obtain ⟨_, h2, _⟩ := Oper.apart_spec hap
      have step : ∀ (a : Act) (u : Value) (w : World), Sees P ops I oi (a.put oj.dst u) v → anyR P md ops I mk Q fuel ((listed.setIfInBounds i true).setIfInBounds j true) ((a.put oi.dst v).put oj.dst u) w →
          anyR P md ops I mk Q (fuel + 1) (listed.setIfInBounds j true) (a.put oj.dst u) w := fun a u w hy' h => by
        refine ih (listed.setIfInBounds j true) (a.put oj.dst u) w (hfree.set hjun) (ready_mono hr (Ne.symm hji)) hy' ?_
        rw [Array.setIfInBounds_comm _ _ hji, ← Act.put_comm a v u h2]
        exact h
      refine opR_intro hoj ?_
      have hon := fun (a : Act) (u : Value) (hy : Sees P ops I oi a v) => Sees.put_on (u := u) hap (fun cs b => hsel i oi cs b hi) hy
      rcases mr_cases (mk j) with hm | hm | hm | hm | hm | ⟨n, hm⟩
      · rw [hm] at h1 ⊢
        obtain ⟨u, hu, hk⟩ := h1
        exact ⟨u, Yields.put_back hap (fun cs b => hsj cs b hoj) hu, step a u w (hon a u hy) hk⟩
      · rw [hm] at h1 ⊢
        obtain ⟨u, hu, hk⟩ := h1
        exact ⟨u, Looks.put_back hap (fun cs b => hsj cs b hoj) hu, step a u w (hon a u hy) hk⟩
      · rw [hm] at h1 ⊢
        obtain ⟨u, hu, hk⟩ := h1
        exact ⟨u, Sees.put_back hap (fun cs b => hsj cs b hoj) hu, step a u w (hon a u hy) hk⟩
      · rw [hm] at h1 ⊢
        obtain ⟨u, hu, hk⟩ := h1
        obtain ⟨u', hu', he⟩ := Gives.put_back hap (fun cs b => hsj cs b hoj) hu
        exact ⟨u', hu', fun w' hw' => step a u' w' (hon a u' hy) (by rw [he]; exact hk w' hw')⟩
      · rw [hm] at h1 ⊢
        have h5 : wpOp P ops Q j (fun a' w' => Ext w w' ∧ _) _ w := h1
        show wpOp P ops Q j (fun a' w' => Ext w w' ∧ _) a w
        have h3 := wpOp_ahead (Q := Q) hoj hap (fun cs b => hsel i oi cs b hi) (fun cs b => hsj cs b hoj) hQ h5
        refine wpOp_mono (fun a' w' h4 => ⟨h4.2.1, ?_⟩) h3
        refine ih (listed.setIfInBounds j true) a' w' (hfree.set hjun) (ready_mono hr (Ne.symm hji)) (hy.of_same h4.1.1 h4.1.2) ?_
        rw [Array.setIfInBounds_comm _ _ hji]
        exact h4.2.2
      · rw [hm] at h1 ⊢
        have h5 : wpOp P ops Q j (fun a' w' => I w' ∧ _) _ w := h1
        show wpOp P ops Q j (fun a' w' => I w' ∧ _) a w
        have h3 := wpOp_ahead (Q := Q) hoj hap (fun cs b => hsel i oi cs b hi) (fun cs b => hsj cs b hoj) hQ h5
        refine wpOp_mono (fun a' w' h4 => ⟨h4.2.1, ?_⟩) h3
        refine ih (listed.setIfInBounds j true) a' w' (hfree.set hjun) (ready_mono hr (Ne.symm hji)) (hy.of_same h4.1.1 h4.1.2) ?_
        rw [Array.setIfInBounds_comm _ _ hji]
        exact h4.2.2


/-- In the order ord. -/
def inRun (P : Program) (ops : Array Oper) (I : World → Prop) (Q : Exit → Act → World → Prop) : List (Nat × Nat) → Act → World → Prop
  | [], a, w => Q .normal a w
  | (m, i) :: r, a, w => ∃ o, ops[i]? = some o ∧ match m with
      | 0 => plainOp o.op = true ∧ inFrame o a = true ∧ ∃ a', (∀ (w : World) (K : Exit → Act → World → Prop), K .normal a' w → wpList P ops K [o] a w) ∧ inRun P ops I Q r a' w
      | 1 => lookOp o.op = true ∧ inFrame o a = true ∧ ∃ a', (∀ w', Ext w w' → ∀ K : Exit → Act → World → Prop, K .normal a' w' → wpList P ops K [o] a w') ∧ inRun P ops I Q r a' w
      | 2 => lookOp o.op = true ∧ inFrame o a = true ∧ ∃ a', (∀ w', I w' → ∀ K : Exit → Act → World → Prop, K .normal a' w' → wpList P ops K [o] a w') ∧ inRun P ops I Q r a' w
      | 3 => ∃ a', a'.defers = a.defers ∧ (∀ w', Ext w w' → ∀ K : Exit → Act → World → Prop, (∀ w'', Ext w' w'' → K .normal a' w'') → wpList P ops K [o] a w') ∧ ∀ w', Ext w w' → inRun P ops I Q r a' w'
      | 4 => wpOp P ops Q i (fun a' w' => Ext w w' ∧ inRun P ops I Q r a' w') a w
      | _ => wpOp P ops Q i (fun a' w' => I w' ∧ inRun P ops I Q r a' w') a w

/-- Is it an order that the region allows, each taken as it may be? -/
def runB (md : Region.Mode) (ops : Array Oper) (all : List (Nat × Nat)) : List (Nat × Nat) → Array Bool → Bool
  | [], listed => (Region.ready md ops listed).isEmpty
  | (m, i) :: r, listed =>
    (match m with
      | 0 => (Region.ready md ops listed).contains i && Region.free md ops listed i
      | 1 => (Region.ready md ops listed).contains i && Region.free md ops listed i && aheadB md ops all 5 i
      | 2 => (Region.ready md ops listed).contains i && Region.free md ops listed i
      | 3 => (Region.ready md ops listed).contains i && Region.free md ops listed i && aheadB md ops all 4 i
      | _ => decide (Region.ready md ops listed = [i])) && decide (mkOf all i = m) && runB md ops all r (listed.setIfInBounds i true)
def orderB (md : Region.Mode) (ops : Array Oper) (ord : List (Nat × Nat)) : Bool :=
  Region.noSelect ops && runB md ops ord ord (Array.replicate ops.size false)

theorem sees_of {o : Oper} {a a' : Act} {w : World} (hI : I w) (hp : lookOp o.op = true) (hf : inFrame o a = true) (h : ∀ w', I w' → ∀ (K : Exit → Act → World → Prop), K .normal a' w' → wpList P ops K [o] a w') : ∃ v, Sees P ops I o a v ∧ a' = a.put o.dst v := by
  have h1 := fun w' hx => h w' hx (QK fun x y => x = a' ∧ y = w') ⟨rfl, rfl⟩
  simp only [wpList] at h1
  by_cases hw : Region.wanted o (yielded ops a.tmps) = true
  · simp only [hw, if_true] at h1
    have key : ∀ w', I w' → ∃ v, (execOp a.eval o).run P w' = .ok (.value v) w' ∧ a.put o.dst v = a' := by
      intro w' hx
      rcases h1 w' hx with h2 | ⟨_, _, _, h2⟩
      case inr => exact h2.elim
      unfold Oper.wp at h2
      have hv := @look_value P a.eval o hp w'
      generalize (execOp a.eval o).run P w' = r at *
      cases r with
      | ok n w' =>
        obtain ⟨v, rfl⟩ := hv rfl
        simp only [Oper.upon] at h2
        obtain ⟨h3, rfl⟩ := h2
        exact ⟨v, rfl, h3⟩
      | halt x w' => cases x <;> simp only [Oper.upon] at h2 <;> exact h2.elim
    obtain ⟨v, _, hv⟩ := key w hI
    refine ⟨v, fun w' hx => .inl ⟨hw, ?_⟩, hv.symm⟩
    obtain ⟨u, hu, hu2⟩ := key w' hx
    have : u = v := by
      rcases put_agree (hu2.trans hv.symm) with h3 | ⟨t, h3, h4⟩ | h3
      · simp [inFrame, h3] at hf
      · unfold inFrame at hf; rw [h3] at hf; exact absurd (of_decide_eq_true hf) (Nat.not_lt.2 h4)
      · exact h3
    rw [← this]; exact hu
  · have h2 := h1 w hI
    simp only [hw] at h2
    exact ⟨undef, fun _ _ => .inr ⟨by simpa using hw, rfl⟩, h2.1.symm⟩

theorem inRun_sound (hIx : ∀ w w', I w → Ext w w' → I w') {Q : Exit → Act → World → Prop} {all : List (Nat × Nat)} (hs : Region.noSelect ops = true) (hQ : ∀ c a d v w, Q (.panic c) (a.put d v) w → Q (.panic c) a w) :
    ∀ (ord : List (Nat × Nat)) (listed : Array Bool) (a : Act) (w : World), I w → Closed ops md listed → runB md ops all ord listed = true → inRun P ops I Q ord a w →
      anyR P md ops I (mkOf all) Q ord.length listed a w
  | [], listed, a, w, _, _, hB, h => ⟨by simpa [runB] using hB, h⟩
  | (m, i) :: r, listed, a, w, hI, hcl, hB, h => by
    simp only [runB, Bool.and_eq_true, decide_eq_true_eq] at hB
    obtain ⟨⟨hm, hmk⟩, hB'⟩ := hB
    obtain ⟨o, ho, h⟩ := h
    have hsel := Region.noSelect_spec hs
    rcases mr_cases m with rfl | rfl | rfl | rfl | rfl | ⟨n, rfl⟩
    · simp only [Bool.and_eq_true] at hm
      obtain ⟨hp, hf, a', h1, h2⟩ := h
      obtain ⟨v, hy, rfl⟩ := yields_of hp hf h1
      have hr : i ∈ Region.ready md ops listed := by simpa using hm.1
      exact anyR_pure ho hmk hsel (fun c a w => hQ c a o.dst v w) r.length listed a w (Region.free_spec ho hm.2) hr hy (inRun_sound hIx hs hQ r _ _ _ hI (hcl.set hr) hB' h2)
    · simp only [Bool.and_eq_true] at hm
      obtain ⟨hp, hf, a', h1, h2⟩ := h
      obtain ⟨v, hy, rfl⟩ := looks_of hp hf h1
      have hr : i ∈ Region.ready md ops listed := by simpa using hm.1.1
      exact anyR_look ho hmk hsel (ahead_of hm.2) (fun c a w => hQ c a o.dst v w) r.length listed a w (Region.free_spec ho hm.1.2) hcl hr hy (inRun_sound hIx hs hQ r _ _ _ hI (hcl.set hr) hB' h2)
    · simp only [Bool.and_eq_true] at hm
      obtain ⟨hp, hf, a', h1, h2⟩ := h
      obtain ⟨v, hy, rfl⟩ := sees_of hI hp hf h1
      have hr : i ∈ Region.ready md ops listed := by simpa using hm.1
      exact anyR_see ho hmk hsel (fun c a w => hQ c a o.dst v w) r.length listed a w (Region.free_spec ho hm.2) hr hy (inRun_sound hIx hs hQ r _ _ _ hI (hcl.set hr) hB' h2)
    · simp only [Bool.and_eq_true] at hm
      obtain ⟨a', hd, h1, h2⟩ := h
      obtain ⟨v, hy, rfl⟩ := gives_of hd h1
      have hr : i ∈ Region.ready md ops listed := by simpa using hm.1.1
      exact anyR_quiet hIx ho hmk hsel (ahead_of hm.2) r.length listed a w hI (Region.free_spec ho hm.1.2) hcl hr hy (fun w' hw' => inRun_sound hIx hs hQ r _ _ _ (hIx _ _ hI hw') (hcl.set hr) hB' (h2 w' hw'))
    all_goals
      have hr : Region.ready md ops listed = [i] := by simpa using hm
      refine ⟨fun h0 => (by rw [hr] at h0; cases h0), fun j hj => ?_⟩
      rw [hr] at hj
      have hji : j = i := by simpa using hj
      subst hji
      refine opR_intro ho ?_
      rw [hmk]
    · have h' : wpOp P ops Q j (fun a' w' => Ext w w' ∧ inRun P ops I Q r a' w') a w := h
      show wpOp P ops Q j (fun a' w' => Ext w w' ∧ _) a w
      exact wpOp_mono (fun a' w' h' => ⟨h'.1, inRun_sound hIx hs hQ r _ _ _ (hIx _ _ hI h'.1) (hcl.set (by rw [hr]; exact List.mem_singleton.2 rfl)) hB' h'.2⟩) h'
    · have h' : wpOp P ops Q j (fun a' w' => I w' ∧ inRun P ops I Q r a' w') a w := h
      show wpOp P ops Q j (fun a' w' => I w' ∧ _) a w
      exact wpOp_mono (fun a' w' h' => ⟨h'.1, inRun_sound hIx hs hQ r _ _ _ h'.1 (hcl.set (by rw [hr]; exact List.mem_singleton.2 rfl)) hB' h'.2⟩) h'

/-- A region whose order is open, in one order that it allows; I: what stays. -/
theorem wp_region_run {id : Nat} {l : List Oper} {Q : Exit → Act → World → Prop} {a : Act} {w : World} (I : World → Prop) (hIx : ∀ w w', I w → Ext w w' → I w') (hI : I w) (ord : List (Nat × Nat)) (hm : P.follows .mixedOrders = true)
    (hB : orderB .any l.toArray ord = true) (hlen : ord.length = l.length) (hQ : ∀ c a d v w, Q (.panic c) (a.put d v) w → Q (.panic c) a w)
    (h : ∀ w', Ext w w' → inRun P l.toArray I Q ord a w') : (Code.region id l.toArray true).wp P Q a w := by
  simp only [orderB, Bool.and_eq_true] at hB
  refine wp_region_any hm (anyR_sound (mk := mkOf ord) hIx _ _ _ _ (hIx _ _ hI (Ext.drew_self w)) ?_)
  have := inRun_sound (md := .any) hIx hB.1 hQ ord (Array.replicate l.toArray.size false) a w.drew (hIx _ _ hI (Ext.drew_self w))
    (fun k ok _ hl => by rw [show (Array.replicate l.toArray.size false).getD k false = false by simp [Array.getD]] at hl; cases hl) hB.2 (h _ (Ext.drew_self w))
  rw [hlen] at this
  simpa using this
theorem inRun_nil {Q : Exit → Act → World → Prop} {a : Act} {w : World} (h : Q .normal a w) : inRun P ops I Q [] a w := h
theorem inRun_p {Q : Exit → Act → World → Prop} {a : Act} {w : World} {i : Nat} {r : List (Nat × Nat)} {l : List Oper} {o : Oper} (a' : Act) (ho : nth l i = some o) (hp : plainOp o.op = true) (hf : inFrame o a = true)
    (h : ∀ (w : World) (K : Exit → Act → World → Prop), K .normal a' w → wpList P l.toArray K [o] a w) (hr : inRun P l.toArray I Q r a' w) : inRun P l.toArray I Q ((0, i) :: r) a w := ⟨o, (nth_eq l i).symm.trans ho, hp, hf, a', h, hr⟩
theorem inRun_l {Q : Exit → Act → World → Prop} {a : Act} {w : World} {i : Nat} {r : List (Nat × Nat)} {l : List Oper} {o : Oper} (a' : Act) (ho : nth l i = some o) (hp : lookOp o.op = true) (hf : inFrame o a = true)
    (h : ∀ w', Ext w w' → ∀ (K : Exit → Act → World → Prop), K .normal a' w' → wpList P l.toArray K [o] a w') (hr : inRun P l.toArray I Q r a' w) : inRun P l.toArray I Q ((1, i) :: r) a w := ⟨o, (nth_eq l i).symm.trans ho, hp, hf, a', h, hr⟩
theorem inRun_s {Q : Exit → Act → World → Prop} {a : Act} {w : World} {i : Nat} {r : List (Nat × Nat)} {l : List Oper} {o : Oper} (a' : Act) (ho : nth l i = some o) (hp : lookOp o.op = true) (hf : inFrame o a = true)
    (h : ∀ w', I w' → ∀ (K : Exit → Act → World → Prop), K .normal a' w' → wpList P l.toArray K [o] a w') (hr : inRun P l.toArray I Q r a' w) : inRun P l.toArray I Q ((2, i) :: r) a w := ⟨o, (nth_eq l i).symm.trans ho, hp, hf, a', h, hr⟩
theorem inRun_q {Q : Exit → Act → World → Prop} {a : Act} {w : World} {i : Nat} {r : List (Nat × Nat)} {l : List Oper} {o : Oper} (a' : Act) (ho : nth l i = some o)
    (h : ∀ w', Ext w w' → ∀ K : Exit → Act → World → Prop, (∀ w'', Ext w' w'' → K .normal a' w'') → wpList P l.toArray K [o] a w') (hd : a'.defers = a.defers) (hr : ∀ w', Ext w w' → inRun P l.toArray I Q r a' w') : inRun P l.toArray I Q ((3, i) :: r) a w :=
  ⟨o, (nth_eq l i).symm.trans ho, a', hd, h, hr⟩
theorem inRun_x {Q : Exit → Act → World → Prop} {a : Act} {w : World} {i : Nat} {r : List (Nat × Nat)} {l : List Oper} {o : Oper} (ho : nth l i = some o)
    (h : ∀ K : Exit → Act → World → Prop, (∀ a' w', Ext w w' → inRun P l.toArray I Q r a' w' → K .normal a' w') → wpList P l.toArray K [o] a w) : inRun P l.toArray I Q ((4, i) :: r) a w :=
  ⟨o, (nth_eq l i).symm.trans ho, wpOp_of_list ((nth_eq l i).symm.trans ho) fun K hK => h K fun a' w' h1 h2 => hK a' w' ⟨h1, h2⟩⟩
theorem inRun_d {Q : Exit → Act → World → Prop} {a : Act} {w : World} {i : Nat} {r : List (Nat × Nat)} {l : List Oper} {o : Oper} (ho : nth l i = some o)
    (h : ∀ K : Exit → Act → World → Prop, (∀ a w, I w → inRun P l.toArray I Q r a w → K .normal a w) → wpList P l.toArray K [o] a w) : inRun P l.toArray I Q ((5, i) :: r) a w :=
  ⟨o, (nth_eq l i).symm.trans ho, wpOp_of_list ((nth_eq l i).symm.trans ho) fun K hK => h K fun a' w' h1 h2 => hK a' w' ⟨h1, h2⟩⟩
end
end Go.Proofs.YtpdnlgopbnkdhaaDoor
namespace Go.Proofs.YtpdnlgopbnkdhaaDoor
open Go.RowKit

/-- What lies behind the first ones may be anything. -/
inductive Keeps : List Rs → List Rs → Prop
  | here (l : List Rs) : Keeps l l
  | skip (x : Rs) {l l' : List Rs} : Keeps l l' → Keeps (x :: l) l'
theorem Keeps.stars {w : World} : ∀ {l l' : List Rs} {M Z : Nat → Prop}, Keeps l l' → Stars w l M Z → Stars w l' M Z
  | _, _, _, _, .here _, h => h
  | _, _, _, _, .skip _ hk, ⟨_, _, _, h2, _, s2, _⟩ => (hk.stars h2).mono s2 (fun _ h => h)
theorem mem_one {α : Type} {P : α → Prop} {v : α} (h : P v) : ∀ u ∈ [v], P u := fun u hu => by rw [List.mem_singleton.1 hu]; exact h
theorem ones_nil : ∀ u ∈ ([] : List Value), u.oneCell' = true := fun u hu => by cases hu
theorem ones_cons {v : Value} {l : List Value} (h : v.oneCell' = true) (k : ∀ u ∈ l, u.oneCell' = true) : ∀ u ∈ v :: l, u.oneCell' = true := fun u hu => by
  rcases List.mem_cons.1 hu with rfl | hu
  · exact h
  · exact k u hu
theorem add_off (g off j : Nat) : (⟨g, off, none⟩ : Addr).add j = ⟨g, off + j, none⟩ := by unfold Addr.add; split <;> simp_all
/-- Some of them, in another order; what is left may be anything. -/
inductive Sub : List Rs → List Rs → Prop
  | base {l l' : List Rs} : Keeps l l' → Sub l l'
  | cons {l l1 l' : List Rs} {r : Rs} : Pick l r l1 → Sub l1 l' → Sub l (r :: l')
theorem Sub.stars {w : World} : ∀ {l l' : List Rs} {M Z : Nat → Prop}, Sub l l' → Stars w l M Z → Stars w l' M Z
  | _, _, _, _, .base hk, h => hk.stars h
  | _, _, _, _, .cons hp hs, h => by
    obtain ⟨M1, M2, h1, h2, s1, s2, d⟩ := hp.stars h
    exact ⟨M1, M2, h1, hs.stars h2, s1, s2, d⟩
section
variable {S : Nat → Prop} {W w w' : World} {l l' l0 l1 rs : List Rs} {r r' : Rs}
theorem Own.cut (h : Own S W w l) (hs : Sub l l') : Own S W w l' := by
  obtain ⟨hc, M, Z, h1, rest⟩ := h
  exact ⟨hc, M, Z, hs.stars h1, rest⟩
theorem Own.give (h : Own S W w l) (ht : Takes l rs l1) (hk : Keeps l1 l0) : Own S W w (rs ++ l0) := by
  obtain ⟨hc, M, Z, hs, rest⟩ := h.take ht
  obtain ⟨N1, N2, k1, k2, t1, t2, e⟩ := hs.append
  exact ⟨hc, M, Z, Stars.join k1 (hk.stars k2) t1 t2 e, rest⟩
/-- A slice that was written out is a row. -/
theorem Own.varRow {b n size : Nat} {cs : List Value} {e : TypeId} (hn : cs.length = n * size) (hm : n ≤ maxLen) (h : Own S W w (Var b cs e :: l)) : Own S W w (Row2 e size (some ⟨b, 0, none⟩) n n cs :: l) :=
  h.map1 (r := Var b cs e) (r' := Row2 e size (some ⟨b, 0, none⟩) n n cs) fun w M Z ⟨h1, h2⟩ => ⟨⟨hn, .inr ⟨b, n, cs.toArray, rfl, Nat.zero_le _, h1, Nat.le_refl _, hm, by simpa using hn, by rw [← hn]; simp⟩⟩, fun b' hb => by simp [Value.ownBlock] at hb; subst hb; exact h2⟩
theorem Var.at {b : Nat} {cs : List Value} {t : TypeId} (h : (Var b cs t).facts w) : ∀ j u, cs[j]? = some u → w.cell? ⟨b, 0 + j, none⟩ = some u := fun j u hj => by
  rw [Nat.zero_add]; exact Var.cells (t := t) h.1 hj
theorem vals_src {g off : Nat} {xs : List Value} (h : ValsAt w (some ⟨g, off, none⟩) xs) : ∀ j u, xs[j]? = some u → w.cell? ⟨g, off + j, none⟩ = some u := fun j u hj => h.get hj
theorem Own.factOf (h : Own S W w l) (hp : Pick l r l') : r.facts w := (h.pick hp).facts.1
theorem Own.vals {e : TypeId} {size n cap : Nat} {a : Option Addr} {xs : List Value} (h : Own S W w l) (hp : Pick l (Row2 e size a n cap xs) l') : ValsAt w a xs := (h.factOf hp).1
theorem Own.cellAt {e : TypeId} {size n cap g : Nat} {xs : List Value} {i : Nat} {v : Value} (h : Own S W w l) (hp : Pick l (Row2 e size (some ⟨g, 0, none⟩) n cap xs) l') (hi : xs[i]? = some v) : w.cell? ⟨g, i, none⟩ = some v := by
  have := vals_src (h.vals hp) i v hi
  rwa [Nat.zero_add] at this
theorem Own.rowCut {e : TypeId} {size n cap : Nat} {a : Option Addr} {xs : List Value} (m : Nat) (hm : m ≤ n) (h : Own S W w (Row2 e size a n cap xs :: l)) : Own S W w (Row2 e size a m cap (xs.take (m * size)) :: l) :=
  h.map1 (r := Row2 e size a n cap xs) (r' := Row2 e size a m cap (xs.take (m * size))) fun w M Z ⟨h1, h2⟩ => ⟨⟨by rw [List.length_take, h1.1]; exact Nat.min_eq_left (Nat.mul_le_mul_right _ hm), by
    rcases h1.2 with ⟨hv, h0⟩ | ⟨g, c, cur, hv, hb, hg, h3, h4, h5, h6⟩
    · injection hv with q1 q2 q3
      subst q1; subst q3
      have : m = 0 := by omega
      subst this
      exact .inl ⟨rfl, rfl⟩
    · injection hv with q1 q2 q3
      subst q1; subst q3
      exact .inr ⟨g, cap, cur, rfl, hb, hg, by omega, h4, h5, by rw [← h6, List.take_take, Nat.min_eq_left (Nat.mul_le_mul_right _ hm)]⟩⟩,
    fun b hb => h2 b (by cases a <;> simpa [Value.ownBlock] using hb)⟩
end
section
variable {P : Program} {S : Nat → Prop} {W w : World} {l l' l0 l1 : List Rs} {ops : Array Oper} {rest : List Oper} {a : Act} {Q : Exit → Act → World → Prop} {c : Code} {o : Oper}
theorem wpList_make_own4 (hO : Own S W w l) (hg : o.guard = none) (x y : Operand) (t : TypeId) (hop : o.op = Op.makeSlice t x y)
    (e : TypeId) (i : TypeInfo) (z : Value) (size : Nat) (h1 : P.underlying t = some (.slice e)) (h2 : P.info? e = some i) (h3 : i.zero = some z) (h4 : i.size = size)
    (kl kc : IntKind) (A C : Int) (n : Nat) (hl : a.eval x = .int kl A) (hc : a.eval y = .int kc C) (hA : A = (n : Int)) (hC : C = (n : Int)) (b2 : i.bytes * n ≤ 281474976710656) (b3 : n ≤ maxLen)
    (hK : ∀ g w', Own S W w' (Row2 e size (some ⟨g, 0, none⟩) n n (madeCells z.cells (n * size)).toList :: l) → wpList P ops Q rest (a.put o.dst (.slice (some ⟨g, 0, none⟩) n n)) w') :
    wpList P ops Q (o :: rest) a w := by
  refine wpList_make_full w hg x y t hop 0 e i z size h1 h2 h3 h4 kl kc A C n hl hc hA hC b2 b3 (Nat.zero_le _) fun w' r1 r2 => ?_
  have hx : Ext w w' := ⟨r2.os, r2.tape, r2.output, r2.size, fun k hk => r2.block k hk (fun e => by cases e)⟩
  refine hK _ w' (hO.new hx (M' := fun b => b = w.heap.size) (fun b hb => ⟨Nat.le_of_eq hb.symm, by subst hb; exact (r1.lt _ rfl).2⟩) ⟨r1, fun b hb => by simp [Value.ownBlock] at hb; exact hb.symm⟩)

/-- copy into a row of the call's own, from a place on. -/
theorem wpList_copy_own4 (hO : Own S W w l) {e : TypeId} {g n cap : Nat} {xs : List Value} (hp : Pick l (Row2 e 1 (some ⟨g, 0, none⟩) n cap xs) l0) (hgd : o.guard = none) (d s : Operand) (dT sT : TypeId)
    (ho : o.op = .call { callee := .builtin .copy, args := #[d, s], argTypes := #[dT, sT] }) (hu : P.underlying dT = some (.slice e)) (hsz : (P.info? e).map (·.size) = some 1)
    (off dLen dCap : Nat) (ad : Addr) (sLen sCap : Nat) (hd : a.eval d = .slice (some ⟨g, off, none⟩) dLen dCap) (hs : a.eval s = .slice (some ad) sLen sCap)
    (cs : List Value) (hn : cs.length = Nat.min sLen dLen) (hsrc : ∀ j v, cs[j]? = some v → w.cell? (ad.add j) = some v) (hfit : off + cs.length ≤ n) (h1 : ∀ v ∈ cs, v.oneCell' = true)
    (h : ∀ w', Own S W w' (Row2 e 1 (some ⟨g, 0, none⟩) n cap (splice xs off cs) :: l0) → wpList P ops Q rest (a.put o.dst (goInt cs.length)) w') : wpList P ops Q (o :: rest) a w := by
  obtain ⟨M, Z, ⟨h2, h3⟩, h4, _, k⟩ := (hO.pick hp).turn1
  have hg : M g := h3 g rfl
  rcases h2.2 with ⟨hv, _⟩ | ⟨g', c, cur, hv, hb, hgg, hnc, hcm, hcs, ht⟩
  · cases hv
  injection hv with q1 q2 q3
  injection q1 with q1
  injection q1 with q1
  subst q1; subst q3
  have hxs : xs.length = n := by have := h2.1; omega
  have hcur : cur.toList.take n = xs := by simpa using ht
  have hsize : cur.size = cap := by omega
  refine wpList_plain hgd fun K hK => ?_
  unfold Oper.wp execOp
  have hr := run_copy_row (P := P) w dT sT o.type e g off dLen dCap ad sLen sCap cur e cs hu hsz hgg hn hsrc (by omega) h1
  simp only [ho, resolve, invoke, builtin, Sem.run_bind, Sem.run_pure, Result.andThen_ok, List.map_toArray, List.map_cons, List.map_nil, hd, hs, hr]
  have hheap := setRow_heap w g cur (cur.toList.take off ++ cs ++ cur.toList.drop (off + cs.length)).toArray e (0, 0) hgg
  refine hK _ _ (h _ (k _ _ M ⟨rfl, rfl, rfl, by simp [World.setRow], fun k hk hM => setRow_other w g k _ (fun e => hM (by subst e; exact hg))⟩ (fun b h => .inl h) (fun b hb => by simpa [World.setRow] using (h4 b hb).1) ⟨⟨?_, .inr ⟨g, cap, _, rfl, hb, hheap, hnc, hcm, ?_, ?_⟩⟩, h3⟩))
  · have : (splice xs off cs).length = xs.length := length_splice xs off cs (by omega)
    omega
  · have : cur.toList.length = cap := by simpa using hsize
    simp; omega
  · rw [Nat.mul_one]
    have hl : cur.toList.length = cap := by simpa using hsize
    subst hcur
    unfold splice
    rw [List.append_assoc, List.take_append, List.take_append]
    have e1 : (List.take n (cur.toList.take off)) = List.take off (List.take n cur.toList) := by rw [List.take_take, List.take_take, Nat.min_comm]
    rw [e1, List.length_take, hl, Nat.min_eq_left (by omega), List.take_of_length_le (l := cs) (by omega), List.take_drop]
    congr 3
    rw [show off + cs.length + (n - off - cs.length) = n from by omega]

theorem map_ints {k : IntKind} : ∀ {xs : List Value}, (∀ v ∈ xs, ∃ i, v = .int k i) → ∃ ns : List Int, xs = ns.map (Value.int k)
  | [], _ => ⟨[], rfl⟩
  | x :: l, h => by
    obtain ⟨i, rfl⟩ := h x (List.mem_cons_self ..)
    obtain ⟨ns, rfl⟩ := map_ints fun v hv => h v (List.mem_cons_of_mem _ hv)
    exact ⟨i :: ns, rfl⟩
/-- Bytes as a text. -/
theorem wpList_bytes_own4 (hO : Own S W w l) {r : Rs} (hp : Pick l r l0) (hgd : o.guard = none) (x : Operand) (src dst e : TypeId) (ho : o.op = .convert src dst x)
    (hs : P.underlying src = some (.slice e)) (he : P.underlying e = some (.int .u8)) (hd : P.underlying dst = some .string)
    (g off n cap : Nat) (ns : List Int) (hx : a.eval x = .slice (some ⟨g, off, none⟩) n cap) (hn : ns.length = n) (hv : ∀ j u, (ns.map (Value.int .u8))[j]? = some u → w.cell? ⟨g, off + j, none⟩ = some u)
    (h : wpList P ops Q rest (a.put o.dst (.string (ns.foldl (fun r n => r.push (UInt8.ofNat n.toNat)) ByteArray.empty))) w) : wpList P ops Q (o :: rest) a w := by
  refine wpList_plain hgd fun K hK => ?_
  unfold Oper.wp execOp
  have h1 := run_loadCells_list (P := P) w ⟨g, off, none⟩ (ns.map (Value.int .u8)) (fun j v hj => by rw [add_off]; exact hv j v hj)
  rw [List.length_map, hn] at h1
  have h2 := run_bytesToString (P := P) w ⟨g, off, none⟩ n cap ns h1
  simp only [ho, Sem.run_bind, hx, run_convert_bytes_string w src dst e _ _ _ hs he hd, h2, Result.andThen_ok, Sem.run_pure]
  exact hK _ _ h
/-- A slice of the call's own is appended to another one. -/
theorem wpList_append_var (hO : Own S W w l) {e : TypeId} {size : Nat} {va : Option Addr} {n vc : Nat} {xs : List Value} (hp : Pick l (Row2 e size va n vc xs) l0) {g : Nat} {news : List Value} {t' : TypeId} (hp2 : Pick l0 (Var g news t') l1)
    (hgd : o.guard = none) (s x : Operand) (t : TypeId) (ho : o.op = .call { callee := .builtin .append, args := #[s, x], argTypes := #[t, t] })
    (i : TypeInfo) (z : Value) (bytes : Nat) (ht : P.underlying t = some (.slice e)) (hi : P.info? e = some i) (hz : i.zero = some z)
    (hsize : i.size = size) (hby : i.bytes = bytes) (hzs : z.cells.size = size) (hsz : 0 < size) (hs : a.eval s = .slice va n vc)
    (m c : Nat) (hx : a.eval x = .slice (some ⟨g, 0, none⟩) m c) (hl : news.length = m * size) (h1 : ∀ u ∈ news, u.oneCell' = true)
    (h63 : n + m ≤ maxLen) (hbytes : (n + m) * bytes ≤ 140737488355328)
    (h : ∀ ka kc w', Own S W w' (Row2 e size ka (n + m) kc (xs ++ news) :: l1) → wpList P ops Q rest (a.put o.dst (.slice ka (n + m) kc)) w') : wpList P ops Q (o :: rest) a w := by
  have hf := ((hO.pick hp).facts).2
  refine wpList_append_own2 hO hp hgd s x t ho i z bytes ht hi hz hsize hby hzs hsz hs g 0 m c news hx hl (Var.at (t := t') ((hO.pick hp).tail.factOf hp2)) h1 h63 hbytes fun ka kc w' hO' => h ka kc w' ?_
  have := hO'.pick (.there _ hp2)
  exact this.tail
end
section
variable {P : Program} {S : Nat → Prop} {W w : World} {l : List Rs} {ops : Array Oper} {I : World → Prop} {ord : List (Nat × Nat)} {a : Act} {Q : Exit → Act → World → Prop}
theorem inRun_alloc_own {cs : List Value} {t : TypeId} (hO : Own S W w l) (k : ∀ w', Own S W w' (Var w.heap.size cs t :: l) → inRun P ops I Q ord a w') : inRun P ops I Q ord a (w.alloc (.cells cs.toArray t)) := k _ (hO.alloc cs t)
theorem inRun_set_own {p : Addr} {v : Value} {L : List Rs} (hO : Own S W (w.setCell p v) L) (k : ∀ w', Own S W w' L → inRun P ops I Q ord a w') : inRun P ops I Q ord a (w.setCell p v) := k _ hO
end
/-- Rows of k cells, laid one behind the other. -/
theorem flat_at {α : Type} {f : α → List Value} {k : Nat} (hf : ∀ x, (f x).length = k) : ∀ {l : List α} {j : Nat} (h : j < l.length) (c : Nat) (v : Value), (f l[j])[c]? = some v → (l.flatMap f)[j * k + c]? = some v
  | [], j, h, _, _, _ => by simp at h
  | x :: l, 0, h, c, v, hv => by
    simp only [List.flatMap_cons, Nat.zero_mul, Nat.zero_add]
    have hv' : (f x)[c]? = some v := hv
    rw [List.getElem?_append_left (List.getElem?_eq_some_iff.1 hv').1]; exact hv'
  | x :: l, j + 1, h, c, v, hv => by
    have h1 : (f x).length = k := hf x
    have h2 : (f x).length ≤ (j + 1) * k + c := by rw [h1, Nat.succ_mul]; omega
    have h3 : (j + 1) * k + c - (f x).length = j * k + c := by rw [h1, Nat.succ_mul]; omega
    rw [List.flatMap_cons, List.getElem?_append_right h2, h3]
    exact flat_at hf (by simpa using h) c v hv
theorem flat_length {α : Type} {f : α → List Value} {k : Nat} (hf : ∀ x, (f x).length = k) (l : List α) : (l.flatMap f).length = l.length * k := by
  induction l with
  | nil => simp
  | cons x l ih => simp only [List.flatMap_cons, List.length_append, hf, ih, List.length_cons, Nat.succ_mul]; omega
theorem madeCells_zeros (v : Value) (n : Nat) : (madeCells #[v] n).toList = List.replicate n v := by
  apply List.ext_getElem
  · simp [madeCells]
  · intro i h1 h2; simp [madeCells, Nat.mod_one]
theorem madeCells_one {v : Value} (h : v.cells = #[v]) (n : Nat) : (madeCells v.cells n).toList = List.replicate n v := by rw [h, madeCells_zeros]
theorem foldl_push (n : Nat) : ∀ s : ByteArray, (List.replicate n (0 : Int)).foldl (fun r n => r.push (UInt8.ofNat n.toNat)) s = s ++ ⟨Array.replicate n 0⟩ := by
  induction n with
  | zero => intro s; apply ByteArray.ext; simp
  | succ n ih =>
    intro s
    rw [List.replicate_succ, List.foldl_cons, ih]
    apply ByteArray.ext
    apply Array.ext'
    simp [List.replicate_succ]
theorem foldl_zeros (n : Nat) : (List.replicate n (0 : Int)).foldl (fun r n => r.push (UInt8.ofNat n.toNat)) ByteArray.empty = ⟨Array.replicate n 0⟩ := by
  rw [foldl_push]; apply ByteArray.ext; simp
end Go.Proofs.YtpdnlgopbnkdhaaDoor
namespace Go.Proofs.YtpdnlgopbnkdhaaDoor
open Go.RowKit
theorem Own.immOf {S : Nat → Prop} {W w : World} {l l' : List Rs} {φ : World → Prop} (h : Own S W w l) (hp : Pick l (.imm φ) l') : φ w := h.factOf hp
theorem Own.varAt {S : Nat → Prop} {W w : World} {l l' : List Rs} {b k : Nat} {v : Value} {cs : List Value} {t : TypeId} (h : Own S W w l) (hp : Pick l (Var b cs t) l') (hk : cs[k]? = some v) : w.cell? ⟨b, k, none⟩ = some v :=
  Var.cells (t := t) (show (Var b cs t).facts w from h.factOf hp).1 hk
theorem Own.named {S : Nat → Prop} {W w : World} {l : List Rs} {b : Nat} {cs : List Value} {t : TypeId} (h : Own S W w (Var b cs t :: l)) : ∃ g, g = b := ⟨b, rfl⟩
theorem Own.lt {S : Nat → Prop} {W w : World} {l : List Rs} {b : Nat} {cs : List Value} {t : TypeId} (h : Own S W w (Var b cs t :: l)) : b < w.heap.size := h.facts.1.2.2
theorem run_append_zero {P : Program} (w : World) (t ty e : TypeId) (i : TypeInfo) (ht : P.underlying t = some (.slice e)) (hi : P.info? e = some i) (va ax : Option Addr) (n vc c : Nat) (hn : n ≤ vc) :
    (Builtin.append_ #[t, t] ty #[.slice va n vc, .slice ax 0 c]).run P w = .ok (.slice va n vc) w := by
  cases va <;> cases ax <;> simp [Builtin.append_, run_underlying ht, sizeOf, typeInfo, hi, Builtin.lenOf, Builtin.firstCells, hn, storeCells, loadCells, loadCellsFrom]
section
variable {P : Program} {S : Nat → Prop} {W w : World} {l l' l0 l1 : List Rs} {ops : Array Oper} {rest : List Oper} {a : Act} {Q : Exit → Act → World → Prop} {c : Code} {o : Oper}
/-- Append of what is only looked at, none of it perhaps. -/
theorem wpList_append_src (hO : Own S W w l) {e : TypeId} {size : Nat} {va : Option Addr} {n vc : Nat} {xs : List Value} (hp : Pick l (Row2 e size va n vc xs) l0) (hgd : o.guard = none) (s x : Operand) (t : TypeId)
    (ho : o.op = .call { callee := .builtin .append, args := #[s, x], argTypes := #[t, t] })
    (i : TypeInfo) (z : Value) (bytes : Nat) (ht : P.underlying t = some (.slice e)) (hi : P.info? e = some i) (hz : i.zero = some z)
    (hsize : i.size = size) (hby : i.bytes = bytes) (hzs : z.cells.size = size) (hsz : 0 < size) (hs : a.eval s = .slice va n vc)
    (ax : Option Addr) (m c : Nat) (news : List Value) (hx : a.eval x = .slice ax m c) (hl : news.length = m * size) (hnews : ValsAt w ax news) (h1 : ∀ u ∈ news, u.oneCell' = true)
    (h63 : n + m ≤ maxLen) (hbytes : (n + m) * bytes ≤ 140737488355328)
    (h : ∀ ka kc w', Own S W w' (Row2 e size ka (n + m) kc (xs ++ news) :: l0) → wpList P ops Q rest (a.put o.dst (.slice ka (n + m) kc)) w') : wpList P ops Q (o :: rest) a w := by
  rcases hnews with rfl | ⟨g, off, rfl, hc⟩
  · have hm : m = 0 := by
      rcases Nat.eq_zero_or_pos m with h | h
      · exact h
      · have := Nat.mul_pos h hsz; simp at hl; omega
    subst hm
    have hle := (hO.rowLen hp).2.1
    refine wpList_plain hgd fun K hK => ?_
    unfold Oper.wp execOp
    simp only [ho, resolve, invoke, builtin, Sem.run_bind, Sem.run_pure, Result.andThen_ok, List.map_toArray, List.map_cons, List.map_nil, hs, hx, run_append_zero w t o.type e i ht hi va ax n vc c hle]
    have := h va vc w (by rw [List.append_nil]; exact hO.pick hp)
    exact hK _ _ this
  · exact wpList_append_own2 hO hp hgd s x t ho i z bytes ht hi hz hsize hby hzs hsz hs g off m c news hx hl (fun j u hj => by
      obtain ⟨hlt, rfl⟩ := List.getElem?_eq_some_iff.1 hj
      exact hc j hlt) h1 h63 hbytes h
end
/-- A thing of the elder kind. -/
def Rs.ofRes (r : Res) : Rs where
  holds w M _ := ∃ F, r.holds w F ∧ ∀ b, F b → M b
  facts w := ∃ F, r.holds w F
  mono := fun ⟨F, h, hF⟩ hM _ => ⟨F, h, fun b hb => hM b (hF b hb)⟩
  keep := fun ⟨F, h, hF⟩ hk => ⟨F, r.keep h (fun b hb => hk b (.inl (hF b hb)) (r.here h hb)), hF⟩
  tells := fun ⟨F, h, _⟩ => ⟨F, h⟩
/-- A contract of the elder kind: thing r is turned into r'. -/
theorem does_ofRes {P : Program} {f : FuncId} {args : Array Value} {v : Value} {r r' : Res} {φ : World → Prop}
    (h : ∀ F w, r.holds w F → φ w → Calls P f args w fun e w' => e = .returned v ∧ ∃ F', r'.holds w' F' ∧ Chg F w w' ∧ ∀ b, F' b → F b ∨ w.heap.size ≤ b) :
    Does P f args [.ofRes r, .imm φ] (fun _ : Unit => (v, [.ofRes r', .imm φ])) := by
  intro S W w L0 hO
  simp only [List.cons_append, List.nil_append] at hO
  have hφ : φ w := hO.immOf (.there _ (.here _ _))
  obtain ⟨M, Z, ⟨F, hF, hFM⟩, h2, h3, k⟩ := hO.turn1
  refine (h F w hF hφ).mono fun e w' ⟨he, F', hF', hc, hn⟩ => ⟨(), he, ?_⟩
  exact k w' (.ofRes r') F' (hc.mono hFM) (fun b hb => (hn b hb).imp (hFM b) id) (fun b hb => r'.here hF' hb) ⟨F', hF', fun _ h => h⟩
theorem does_ofRes1 {P : Program} {f : FuncId} {args : Array Value} {v : Value} {r r' : Res}
    (h : ∀ F w, r.holds w F → Calls P f args w fun e w' => e = .returned v ∧ ∃ F', r'.holds w' F' ∧ Chg F w w' ∧ ∀ b, F' b → F b ∨ w.heap.size ≤ b) :
    Does P f args [.ofRes r] (fun _ : Unit => (v, [.ofRes r'])) := by
  intro S W w L0 hO
  simp only [List.cons_append, List.nil_append] at hO
  obtain ⟨M, Z, ⟨F, hF, hFM⟩, h2, h3, k⟩ := hO.turn1
  refine (h F w hF).mono fun e w' ⟨he, F', hF', hc, hn⟩ => ⟨(), he, ?_⟩
  exact k w' (.ofRes r') F' (hc.mono hFM) (fun b hb => (hn b hb).imp (hFM b) id) (fun b hb => r'.here hF' hb) ⟨F', hF', fun _ h => h⟩
theorem reads_ofRes {P : Program} {f : FuncId} {args : Array Value} {v : Value} {r : Res} {φ : World → Prop}
    (h : ∀ F w, r.holds w F → φ w → Calls P f args w fun e w' => e = .returned v ∧ Ext w w') : Reads P f args [.ofRes r, .imm φ] v := by
  intro w L0 hO
  simp only [List.map_cons, List.map_nil, List.cons_append, List.nil_append] at hO
  have h1 : (Rs.frz (Rs.ofRes r)).facts w := hO.factOf (.here _ _)
  have h2 : (Rs.frz (.imm φ)).facts w := hO.factOf (.there _ (.here _ _))
  obtain ⟨F, hF⟩ : ∃ F, r.holds w F := h1
  exact h F w hF h2
theorem reads_ofRes1 {P : Program} {f : FuncId} {args : Array Value} {v : Value} {r : Res}
    (h : ∀ F w, r.holds w F → Calls P f args w fun e w' => e = .returned v ∧ Ext w w') : Reads P f args [.ofRes r] v := by
  intro w L0 hO
  simp only [List.map_cons, List.map_nil, List.cons_append, List.nil_append] at hO
  have h1 : (Rs.frz (Rs.ofRes r)).facts w := hO.factOf (.here _ _)
  obtain ⟨F, hF⟩ : ∃ F, r.holds w F := h1
  exact h F w hF
end Go.Proofs.YtpdnlgopbnkdhaaDoor
namespace Go.Proofs.YtpdnlgopbnkdhaaDoor

theorem bl_irrefl : ∀ a : List UInt8, Op.bytesLess a a = false
  | [] => rfl
  | a :: l => by simp [Op.bytesLess, bl_irrefl l]
theorem bl_trans : ∀ a b c : List UInt8, Op.bytesLess a b = true → Op.bytesLess b c = true → Op.bytesLess a c = true
  | _, _, [] => fun _ h => by cases ‹List UInt8› <;> simp [Op.bytesLess] at h
  | [], _, _ :: _ => fun _ _ => rfl
  | _ :: _, [], _ => fun h _ => by simp [Op.bytesLess] at h
  | a :: x, b :: y, c :: z => fun h k => by
    simp only [Op.bytesLess, Bool.or_eq_true, Bool.and_eq_true, decide_eq_true_eq, beq_iff_eq] at *
    rcases h with h | ⟨rfl, h⟩ <;> rcases k with k | ⟨rfl, k⟩
    · exact .inl (UInt8.lt_trans h k)
    · exact .inl h
    · exact .inl k
    · exact .inr ⟨rfl, bl_trans x y z h k⟩
theorem bl_total : ∀ a b : List UInt8, Op.bytesLess a b = true ∨ a = b ∨ Op.bytesLess b a = true
  | [], [] => .inr (.inl rfl)
  | [], _ :: _ => .inl rfl
  | _ :: _, [] => .inr (.inr rfl)
  | a :: x, b :: y => by
    simp only [Op.bytesLess, Bool.or_eq_true, Bool.and_eq_true, decide_eq_true_eq, beq_iff_eq]
    rcases Nat.lt_trichotomy a.toNat b.toNat with h | h | h
    · exact .inl (.inl (UInt8.lt_iff_toNat_lt.2 h))
    · have h := UInt8.toNat_inj.1 h
      subst h
      rcases bl_total x y with h | h | h
      · exact .inl (.inr ⟨rfl, h⟩)
      · exact .inr (.inl (by rw [h]))
      · exact .inr (.inr (.inr ⟨rfl, h⟩))
    · exact .inr (.inr (.inl (UInt8.lt_iff_toNat_lt.2 h)))
theorem bl_asymm (a b : List UInt8) (h : Op.bytesLess a b = true) : Op.bytesLess b a = false := by
  cases k : Op.bytesLess b a with
  | false => rfl
  | true => have := bl_trans a b a h k; rw [bl_irrefl] at this; cases this
theorem bl_append : ∀ (a b : List UInt8), b ≠ [] → Op.bytesLess a (a ++ b) = true
  | [], b, h => by cases b with | nil => exact absurd rfl h | cons x y => rfl
  | x :: a, b, h => by simp [Op.bytesLess, bl_append a b h]
theorem toList_inj {a b : ByteArray} (h : a.toList = b.toList) : a = b := by
  have : a.data.toList = b.data.toList := by rw [ByteArray.toList_eq, ByteArray.toList_eq] at h; exact h
  exact ByteArray.ext (Array.ext' this)
theorem toList_append (a b : ByteArray) : (a ++ b).toList = a.toList ++ b.toList := by
  rw [ByteArray.toList_eq, ByteArray.toList_eq, ByteArray.toList_eq, ByteArray.data_append, Array.toList_append]

/-- Is a text below another one? -/
def slt (a b : ByteArray) : Bool := Op.bytesLess a.toList b.toList
theorem slt_irrefl (a : ByteArray) : slt a a = false := bl_irrefl _
theorem slt_trans {a b c : ByteArray} (h : slt a b = true) (k : slt b c = true) : slt a c = true := bl_trans _ _ _ h k
theorem slt_total (a b : ByteArray) : slt a b = true ∨ a = b ∨ slt b a = true := (bl_total a.toList b.toList).imp id (Or.imp toList_inj id)
theorem slt_asymm {a b : ByteArray} (h : slt a b = true) : slt b a = false := bl_asymm _ _ h
theorem slt_ne {a b : ByteArray} (h : slt a b = true) : a ≠ b := fun e => by rw [e, slt_irrefl] at h; cases h
theorem slt_of_not {a b : ByteArray} (h : slt a b = false) (hne : a ≠ b) : slt b a = true := ((slt_total a b).resolve_left (by simp [h])).resolve_left hne
/-- Not above and below: at most. -/
theorem not_slt_trans {a b c : ByteArray} (h : slt a b = false) (k : slt b c = false) : slt a c = false := by
  cases e : slt a c with
  | false => rfl
  | true =>
    rcases slt_total a b with h1 | h1 | h1
    · rw [h1] at h; cases h
    · subst h1; rw [e] at k; cases k
    · have := slt_trans h1 e; rw [this] at k; cases k
theorem slt_of_slt_of_not {a b c : ByteArray} (h : slt a b = true) (k : slt c b = false) : slt a c = true := by
  rcases slt_total b c with h1 | h1 | h1
  · exact slt_trans h h1
  · rw [← h1]; exact h
  · rw [h1] at k; cases k
theorem slt_of_not_of_slt {a b c : ByteArray} (h : slt b a = false) (k : slt b c = true) : slt a c = true := by
  rcases slt_total a b with h1 | h1 | h1
  · exact slt_trans h1 k
  · rw [h1]; exact k
  · rw [h1] at h; cases h
theorem sle_eq (a b : ByteArray) : (slt a b || decide (a = b)) = !slt b a := by
  rcases slt_total a b with h | h | h
  · simp [h, slt_asymm h]
  · subst h; simp [slt_irrefl]
  · simp [h, slt_asymm h, (slt_ne h).symm]
theorem ble_eq (a b : ByteArray) : (Op.bytesLess a.toList b.toList || a.toList == b.toList) = !slt b a := by
  rw [← sle_eq a b]
  have : (a.toList == b.toList) = decide (a = b) := by
    rw [Bool.eq_iff_iff]; simp only [beq_iff_eq, decide_eq_true_eq]
    exact ⟨toList_inj, fun h => by rw [h]⟩
  rw [this]; rfl
theorem ble_iff (a b : ByteArray) : (Op.bytesLess a.toList b.toList = true ∨ a.toList = b.toList) ↔ slt b a = false := by
  have := ble_eq a b
  rw [Bool.eq_iff_iff] at this
  simpa using this
/-- A byte 0 behind: the next text. -/
def nul : ByteArray := ⟨#[0]⟩
theorem nul_toList : nul.toList = [0] := by rw [ByteArray.toList_eq]; rfl
theorem slt_nul (a : ByteArray) : slt a (a ++ nul) = true := by
  unfold slt; rw [toList_append]; exact bl_append _ _ (by rw [nul_toList]; simp)
theorem bl_nul : ∀ a b : List UInt8, Op.bytesLess b (a ++ [0]) = true → Op.bytesLess a b = false
  | [], [] => fun _ => rfl
  | [], b :: y => fun h => by
    cases y <;> simp [Op.bytesLess] at h
  | a :: x, [] => fun _ => rfl
  | a :: x, b :: y => fun h => by
    simp only [List.cons_append, Op.bytesLess, Bool.or_eq_true, Bool.and_eq_true, decide_eq_true_eq, beq_iff_eq] at h
    rcases h with h | ⟨rfl, h⟩
    · have : ¬ a < b := fun k => by exact absurd (UInt8.lt_trans h k) (by simp)
      have hne : (a == b) = false := by rw [beq_eq_false_iff_ne]; rintro rfl; simp at h
      simp [Op.bytesLess, this, hne]
    · simp [Op.bytesLess, bl_nul x y h]
theorem slt_nul_iff (a b : ByteArray) : slt b (a ++ nul) = !slt a b := by
  cases h : slt b (a ++ nul) with
  | true =>
    have : slt a b = false := bl_nul a.toList b.toList (by have := h; unfold slt at this; rw [toList_append, nul_toList] at this; exact this)
    simp [this]
  | false =>
    rcases slt_total a b with k | k | k
    · simp [k]
    · subst k; rw [slt_nul] at h; cases h
    · rw [slt_trans k (slt_nul a)] at h; cases h

theorem all_take_snoc {α : Type} (p : α → Bool) (l : List α) (k : Nat) (h : k < l.length) : (l.take (k + 1)).all p = ((l.take k).all p && p l[k]) := by
  rw [List.take_succ_eq_append_getElem h, List.all_append]; simp
theorem any_take_snoc {α : Type} (p : α → Bool) (l : List α) (k : Nat) (h : k < l.length) : (l.take (k + 1)).any p = ((l.take k).any p || p l[k]) := by
  rw [List.take_succ_eq_append_getElem h, List.any_append]; simp
theorem all_false_at {α : Type} (p : α → Bool) (l : List α) (k : Nat) (h : k < l.length) (hp : p l[k] = false) : l.all p = false := by
  rw [List.all_eq_false]; exact ⟨l[k], List.getElem_mem h, by simp [hp]⟩
theorem any_true_at {α : Type} (p : α → Bool) (l : List α) (k : Nat) (h : k < l.length) (hp : p l[k] = true) : l.any p = true :=
  List.any_eq_true.2 ⟨l[k], List.getElem_mem h, hp⟩
theorem all_of_take {α : Type} {p : α → Bool} {l : List α} {k : Nat} (h : l.length ≤ k) (ha : (l.take k).all p = true) : l.all p = true := by
  rwa [List.take_of_length_le h] at ha
end Go.Proofs.YtpdnlgopbnkdhaaDoor
namespace Go.Proofs.YtpdnlgopbnkdhaaDoor
open Go.RowKit
theorem retB {a b : Bool} (h : a = b) : Ending.returned (.bool a) = .returned (.bool b) := by rw [h]
/-- An error by its number; 0: none. -/
def errV (n : Nat) : Value := if n = 0 then .nilIface else .iface 97 (.int .i64 n)
@[go_sem] theorem Tryd.errAssert (v : Value) (w : World) : (Instr.typeAssert (.iface 97 v) 28 97 true).run Tryd.prog w = .ok (.tuple #[v, .bool true]) w := by
  simp [Instr.typeAssert, run_underlying Tryd.underlying97]
set_option maxHeartbeats 1000000 in
set_option maxRecDepth 100000 in
theorem same_any (n f : Nat) (w : World) (hn : n ≤ 1000) (hf : f ≤ 1000) : Calls Tryd.prog 16 #[errV n, .int .i64 f] w fun e w' => e = .returned (.bool (n == f)) ∧ w' = w := by
  cases n with
  | zero =>
    rw [show errV 0 = .nilIface from rfl]
    go_enter Tryd.func16, Tryd.ntmps16
    go_wp2
    go_ret
    refine ⟨retB ?_, rfl⟩
    cases f <;> simp <;> omega
  | succ n =>
    rw [show errV (n + 1) = .iface 97 (.int .i64 ((n + 1 : Nat) : Int)) from rfl]
    generalize hm : n + 1 = m at *
    have hm0 : 0 < m := by omega
    clear hm
    by_cases hmf : m = f
    · subst hmf
      rw [show (m == m) = true from by simp]
      go_enter Tryd.func16, Tryd.ntmps16
      go_wp2
      all_goals (go_ret; refine ⟨retB ?_, rfl⟩; simp; try omega)
    · rw [show (m == f) = false from by simpa using hmf]
      have hmf2 : ((m : Int) == (f : Int)) = false := by simp; omega
      go_enter Tryd.func16, Tryd.ntmps16
      go_wp2
      all_goals (go_ret; refine ⟨retB ?_, rfl⟩; simp; try omega)
end Go.Proofs.YtpdnlgopbnkdhaaDoor
