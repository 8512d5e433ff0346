/- What a call has in hand: things apart from each other, some that it may turn, some that stay for good. No program. -/
import Derived.Test.YtmjdgcgmlgbfjaaDoorSep
set_option linter.unusedVariables false
set_option linter.unusedSimpArgs false
set_option linter.unnecessarySimpa false
namespace Go.Proofs.YtmjdgcgmlgbfjaaDoor
open Go.RowKit

/-- A thing in memory: M: blocks that are its own; Z: blocks that stay for good. facts: what it tells. -/
structure Rs where
  holds : World → (Nat → Prop) → (Nat → Prop) → Prop
  facts : World → Prop
  mono : ∀ {w M Z M' Z'}, holds w M Z → (∀ b, M b → M' b) → (∀ b, Z b → Z' b) → holds w M' Z'
  keep : ∀ {w w' M Z}, holds w M Z → (∀ b, M b ∨ Z b → b < w.heap.size → w'.heap[b]? = w.heap[b]?) → holds w' M Z
  tells : ∀ {w M Z}, holds w M Z → facts w

/-- Things apart from each other. -/
def Stars (w : World) : List Rs → (Nat → Prop) → (Nat → Prop) → Prop
  | [], _, _ => True
  | r :: l, M, Z => ∃ M1 M2, r.holds w M1 Z ∧ Stars w l M2 Z ∧ (∀ b, M1 b → M b) ∧ (∀ b, M2 b → M b) ∧ ∀ b, M1 b → ¬ M2 b
theorem Stars.mono {w : World} : ∀ {l : List Rs} {M Z M' Z' : Nat → Prop}, Stars w l M Z → (∀ b, M b → M' b) → (∀ b, Z b → Z' b) → Stars w l M' Z'
  | [], _, _, _, _, _, _, _ => trivial
  | r :: _, _, _, _, _, ⟨M1, M2, h1, h2, s1, s2, d⟩, hM, hZ => ⟨M1, M2, r.mono h1 (fun _ h => h) hZ, h2.mono (fun _ h => h) hZ, fun b h => hM b (s1 b h), fun b h => hM b (s2 b h), d⟩
theorem Stars.keep {w w' : World} : ∀ {l : List Rs} {M Z : Nat → Prop}, Stars w l M Z → (∀ b, M b ∨ Z b → b < w.heap.size → w'.heap[b]? = w.heap[b]?) → Stars w' l M Z
  | [], _, _, _, _ => trivial
  | r :: _, _, _, ⟨M1, M2, h1, h2, s1, s2, d⟩, hk =>
    ⟨M1, M2, r.keep h1 (fun b hb => hk b (hb.imp (s1 b) id)), h2.keep (fun b hb => hk b (hb.imp (s2 b) id)), s1, s2, d⟩
theorem Stars.append {w : World} : ∀ {l l' : List Rs} {M Z : Nat → Prop}, Stars w (l ++ l') M Z → ∃ M1 M2, Stars w l M1 Z ∧ Stars w l' M2 Z ∧ (∀ b, M1 b → M b) ∧ (∀ b, M2 b → M b) ∧ ∀ b, M1 b → ¬ M2 b
  | [], _, M, _, h => ⟨fun _ => False, M, trivial, h, fun _ h => h.elim, fun _ h => h, fun _ h => h.elim⟩
  | r :: l, l', M, Z, ⟨M1, M2, h1, h2, s1, s2, d⟩ => by
    obtain ⟨N1, N2, k1, k2, t1, t2, e⟩ := Stars.append h2
    exact ⟨fun b => M1 b ∨ N1 b, N2, ⟨M1, N1, h1, k1, fun b h => .inl h, fun b h => .inr h, fun b h hn => d b h (t1 b hn)⟩, k2,
      fun b h => h.elim (s1 b) (fun h => s2 b (t1 b h)), fun b h => s2 b (t2 b h), fun b h hn => h.elim (fun h => d b h (t2 b hn)) (fun h => e b h hn)⟩
theorem Stars.join {w : World} : ∀ {l l' : List Rs} {M1 M2 M Z : Nat → Prop}, Stars w l M1 Z → Stars w l' M2 Z → (∀ b, M1 b → M b) → (∀ b, M2 b → M b) → (∀ b, M1 b → ¬ M2 b) → Stars w (l ++ l') M Z
  | [], _, _, _, _, _, _, h2, _, s2, _ => h2.mono s2 (fun _ h => h)
  | r :: l, l', M1, M2, M, Z, ⟨N1, N2, k1, k2, t1, t2, e⟩, h2, s1, s2, d => 
    ⟨N1, fun b => N2 b ∨ M2 b, k1, Stars.join k2 h2 (fun b h => .inl h) (fun b h => .inr h) (fun b h => d b (t2 b h)),
      fun b h => s1 b (t1 b h), fun b h => h.elim (fun h => s1 b (t2 b h)) (s2 b), fun b h hn => hn.elim (e b h) (fun hn => d b (t1 b h) hn)⟩

/-- What all of them tell. -/
def Facts (w : World) : List Rs → Prop
  | [] => True
  | r :: l => r.facts w ∧ Facts w l
theorem Stars.facts {w : World} : ∀ {l : List Rs} {M Z : Nat → Prop}, Stars w l M Z → Facts w l
  | [], _, _, _ => trivial
  | r :: _, _, _, ⟨_, _, h1, h2, _⟩ => ⟨r.tells h1, h2.facts⟩

/-- What a call has in hand: W: the world in which it began; S: what was there then and may turn. -/
def Own (S : Nat → Prop) (W w : World) (l : List Rs) : Prop :=
  Chg S W w ∧ ∃ M Z, Stars w l M Z ∧ (∀ b, M b → S b ∨ W.heap.size ≤ b) ∧ (∀ b, M b → ¬ Z b) ∧ ∀ b, M b ∨ Z b → b < w.heap.size

section
variable {S : Nat → Prop} {W w w' : World} {l l' : List Rs} {r r' : Rs}
theorem Own.facts (h : Own S W w l) : Facts w l := by obtain ⟨_, _, _, h, _⟩ := h; exact h.facts
theorem Own.chg (h : Own S W w l) : Chg S W w := h.1
theorem Own.size (h : Own S W w l) : W.heap.size ≤ w.heap.size := h.1.size
theorem Own.start (w : World) (S : Nat → Prop) : Own S w w [] := ⟨Chg.refl _ _, fun _ => False, fun _ => False, trivial, fun _ h => h.elim, fun _ h => h.elim, fun _ h => h.elim id id |>.elim⟩
theorem Own.ext (h : Own S W w l) (hx : Ext w w') : Own S W w' l := by
  obtain ⟨hc, M, Z, hs, h1, h2, h3⟩ := h
  exact ⟨hc.trans (Chg.ofExt hx), M, Z, hs.keep (fun b _ hb => hx.block b hb), h1, h2, fun b hb => Nat.lt_of_lt_of_le (h3 b hb) hx.size⟩
theorem Own.drew (h : Own S W w l) : Own S W w.drew l := h.ext (Ext.drew_self w)
theorem Own.toExt (h : Own (fun _ => False) W w l) : Ext W w := h.1.toExt (fun _ h => h.elim)

/-- One of them is picked out. -/
inductive Pick : List Rs → Rs → List Rs → Prop
  | here (r : Rs) (l : List Rs) : Pick (r :: l) r l
  | there (x : Rs) {r : Rs} {l l' : List Rs} : Pick l r l' → Pick (x :: l) r (x :: l')
theorem Pick.stars : ∀ {l l' : List Rs} {r : Rs} {M Z : Nat → Prop}, Pick l r l' → Stars w l M Z → Stars w (r :: l') M Z
  | _, _, _, _, _, .here _ _, h => h
  | _ :: _, _, r, M, Z, .there x hp, ⟨M1, M2, h1, h2, s1, s2, d⟩ => by
    obtain ⟨N1, N2, k1, k2, t1, t2, e⟩ := hp.stars h2
    exact ⟨N1, fun b => M1 b ∨ N2 b, k1, ⟨M1, N2, h1, k2, fun b h => .inl h, fun b h => .inr h, fun b h hn => d b h (t2 b hn)⟩, fun b h => s2 b (t1 b h), fun b h => h.elim (s1 b) (fun h => s2 b (t2 b h)),
      fun b h hn => hn.elim (fun hn => d b hn (t1 b h)) (e b h)⟩
theorem Own.pick (h : Own S W w l) (hp : Pick l r l') : Own S W w (r :: l') := by
  obtain ⟨hc, M, Z, hs, rest⟩ := h
  exact ⟨hc, M, Z, hp.stars hs, rest⟩
theorem Own.tail (h : Own S W w (r :: l)) : Own S W w l := by
  obtain ⟨hc, M, Z, ⟨M1, M2, _, h2, _, s2, _⟩, rest⟩ := h
  exact ⟨hc, M, Z, h2.mono s2 (fun _ h => h), rest⟩
/-- Some of them, in another order. -/
inductive Takes : List Rs → List Rs → List Rs → Prop
  | nil (l : List Rs) : Takes l [] l
  | cons {l l1 rs l0 : List Rs} {r : Rs} : Pick l r l1 → Takes l1 rs l0 → Takes l (r :: rs) l0
theorem Takes.stars : ∀ {l rs l0 : List Rs} {M Z : Nat → Prop}, Takes l rs l0 → Stars w l M Z → Stars w (rs ++ l0) M Z
  | _, _, _, _, _, .nil _, h => h
  | _, _, _, _, _, .cons hp ht, h => by
    obtain ⟨M1, M2, h1, h2, s1, s2, d⟩ := hp.stars h
    exact ⟨M1, M2, h1, ht.stars h2, s1, s2, d⟩
theorem Own.take {rs l0 : List Rs} (h : Own S W w l) (ht : Takes l rs l0) : Own S W w (rs ++ l0) := by
  obtain ⟨hc, M, Z, hs, rest⟩ := h
  exact ⟨hc, M, Z, ht.stars hs, rest⟩
theorem Own.front {rs l0 : List Rs} (h : Own S W w (rs ++ l0)) : Own S W w rs := by
  obtain ⟨hc, M, Z, hs, rest⟩ := h
  obtain ⟨N1, N2, k1, k2, t1, t2, e⟩ := hs.append
  exact ⟨hc, M, Z, k1.mono t1 (fun _ h => h), rest⟩
theorem Own.only {rs l0 : List Rs} (h : Own S W w l) (ht : Takes l rs l0) : Own S W w rs := (h.take ht).front
/-- The first one is turned. -/
theorem Own.turn (h : Own S W w (r :: l)) : ∃ M Z, r.holds w M Z ∧ (∀ b, M b → b < w.heap.size ∧ (S b ∨ W.heap.size ≤ b) ∧ ¬ Z b) ∧ (∀ b, Z b → b < w.heap.size) ∧
    ∀ (w' : World) (rs : List Rs) (M' Z' : Nat → Prop), Chg M w w' → (∀ b, M' b → M b ∨ w.heap.size ≤ b) → (∀ b, Z' b → Z b ∨ M b ∨ w.heap.size ≤ b) → (∀ b, M' b → ¬ Z' b) → (∀ b, M' b ∨ Z' b → b < w'.heap.size) → Stars w' rs M' (fun b => Z b ∨ Z' b) → Own S W w' (rs ++ l) := by
  obtain ⟨hc, M, Z, ⟨M1, M2, h1, h2, s1, s2, d⟩, hS, hZ, hb⟩ := h
  refine ⟨M1, Z, h1, fun b hb' => ⟨hb b (.inl (s1 b hb')), hS b (s1 b hb'), hZ b (s1 b hb')⟩, fun b h => hb b (.inr h), fun w' rs M' Z' hc' hM' hZ' hd' hb' hs' => ?_⟩
  refine ⟨hc.step hc' (fun i hi => hS i (s1 i hi)), fun b => M' b ∨ M2 b, fun b => Z b ∨ Z' b, Stars.join hs' ?_ (fun b h => .inl h) (fun b h => .inr h) ?_, ?_, ?_, ?_⟩
  · refine (h2.keep (fun b hb2 hsz => hc'.block b hsz (fun h => ?_))).mono (fun _ h => h) (fun b h => .inl h)
    exact hb2.elim (fun hm => d b h hm) (fun hz => hZ b (s1 b h) hz)
  · intro b h hn
    rcases hM' b h with h | h
    · exact d b h hn
    · have := hb b (.inl (s2 b hn)); omega
  · rintro b (h | h)
    · exact (hM' b h).elim (fun h => hS b (s1 b h)) (fun h => .inr (by have := hc.size; omega))
    · exact hS b (s2 b h)
  · rintro b (h | h) (hz | hz)
    · rcases hM' b h with h | h
      · exact hZ b (s1 b h) hz
      · have := hb b (.inr hz); omega
    · exact hd' b h hz
    · exact hZ b (s2 b h) hz
    · rcases hZ' b hz with hz | hz | hz
      · exact hZ b (s2 b h) hz
      · exact d b hz h
      · have := hb b (.inl (s2 b h)); omega
  · have := hc'.size
    rintro b ((h | h) | (h | h))
    · exact hb' b (.inl h)
    · have := hb b (.inl (s2 b h)); omega
    · have := hb b (.inr h); omega
    · exact hb' b (.inr h)
/-- The first one is turned, and nothing new stays for good. -/
theorem Own.turn1 (h : Own S W w (r :: l)) : ∃ M Z, r.holds w M Z ∧ (∀ b, M b → b < w.heap.size ∧ (S b ∨ W.heap.size ≤ b) ∧ ¬ Z b) ∧ (∀ b, Z b → b < w.heap.size) ∧
    ∀ (w' : World) (r' : Rs) (M' : Nat → Prop), Chg M w w' → (∀ b, M' b → M b ∨ w.heap.size ≤ b) → (∀ b, M' b → b < w'.heap.size) → r'.holds w' M' Z → Own S W w' (r' :: l) := by
  obtain ⟨M, Z, h1, h2, h3, k⟩ := h.turn
  refine ⟨M, Z, h1, h2, h3, fun w' r' M' hc hM hb hr => ?_⟩
  exact k w' [r'] M' (fun _ => False) hc hM (fun _ h => h.elim) (fun _ _ h => h) (fun b hb' => hb'.elim (hb b) False.elim)
    ⟨M', fun _ => False, r'.mono hr (fun _ h => h) (fun b h => .inl h), trivial, fun _ h => h, fun _ h => h.elim, fun _ _ h => h⟩
/-- Something new, in new blocks. -/
theorem Own.new (h : Own S W w l) (hx : Ext w w') {M' : Nat → Prop} (hM : ∀ b, M' b → w.heap.size ≤ b ∧ b < w'.heap.size) (hr : r.holds w' M' (fun _ => False)) : Own S W w' (r :: l) := by
  obtain ⟨hc, M, Z, hs, hS, hZ, hb⟩ := h
  refine ⟨hc.trans (Chg.ofExt hx), fun b => M' b ∨ M b, Z, ⟨M', M, r.mono hr (fun _ h => h) (fun _ h => h.elim), hs.keep (fun b _ hb => hx.block b hb), fun b h => .inl h, fun b h => .inr h, fun b h hn => ?_⟩, ?_, ?_, ?_⟩
  · have := (hM b h).1; have := hb b (.inl hn); omega
  · rintro b (h | h)
    · exact .inr (by have := (hM b h).1; have := hc.size; omega)
    · exact hS b h
  · rintro b (h | h) hz
    · have := (hM b h).1; have := hb b (.inr hz); omega
    · exact hZ b h hz
  · have := hx.size
    rintro b ((h | h) | h)
    · exact (hM b h).2
    · have := hb b (.inl h); omega
    · have := hb b (.inr h); omega
end

/-- Several things as one. -/
def Rs.many (l : List Rs) : Rs where
  holds w M Z := Stars w l M Z
  facts w := Facts w l
  mono := Stars.mono
  keep := Stars.keep
  tells := Stars.facts
/-- A thing of some shape. -/
def Rs.ex {α : Type} (f : α → Rs) : Rs where
  holds w M Z := ∃ x, (f x).holds w M Z
  facts w := ∃ x, (f x).facts w
  mono := fun ⟨x, h⟩ hM hZ => ⟨x, (f x).mono h hM hZ⟩
  keep := fun ⟨x, h⟩ hk => ⟨x, (f x).keep h hk⟩
  tells := fun ⟨x, h⟩ => ⟨x, (f x).tells h⟩
/-- A fact that hangs on no memory. -/
def Rs.pure (p : Prop) : Rs where
  holds _ _ _ := p
  facts _ := p
  mono := fun h _ _ => h
  keep := fun h _ => h
  tells := fun h => h
/-- What stays for good tells this. -/
def Rs.imm (φ : World → Prop) : Rs where
  holds w _ Z := ∀ w', (∀ b, Z b → b < w.heap.size → w'.heap[b]? = w.heap[b]?) → φ w'
  facts := φ
  mono := fun h _ hZ w' hw' => h w' (fun b hb hs => hw' b (hZ b hb) hs)
  keep := by
    intro w w' M Z h hk w2 h2
    refine h w2 (fun b hb hs => ?_)
    have h3 := hk b (.inr hb) hs
    have hs' : b < w'.heap.size := by
      rcases Nat.lt_or_ge b w'.heap.size with h4 | h4
      · exact h4
      · rw [Array.getElem?_eq_none h4, Array.getElem?_eq_getElem hs] at h3; cases h3
    rw [h2 b hb hs', h3]
  tells := fun h => h _ (fun _ _ _ => rfl)
/-- A thing that is only looked at. -/
def Rs.frz (r : Rs) : Rs where
  holds w _ Z := r.holds w Z Z
  facts := r.facts
  mono := fun h _ hZ => r.mono h hZ hZ
  keep := fun h hk => r.keep h (fun b hb hs => hk b (.inr (hb.elim id id)) hs)
  tells := r.tells

section
variable {S : Nat → Prop} {W w w' : World} {l l' rs : List Rs} {r r' : Rs} {p : Prop} {α : Type} {f : α → Rs} {φ ψ : World → Prop}
theorem Own.unpack (h : Own S W w (.many rs :: l)) : Own S W w (rs ++ l) := by
  obtain ⟨hc, M, Z, ⟨M1, M2, h1, h2, s1, s2, d⟩, rest⟩ := h
  exact ⟨hc, M, Z, Stars.join h1 h2 s1 s2 d, rest⟩
theorem Own.pack (h : Own S W w (rs ++ l)) : Own S W w (.many rs :: l) := by
  obtain ⟨hc, M, Z, hs, rest⟩ := h
  obtain ⟨M1, M2, h1, h2, s1, s2, d⟩ := hs.append
  exact ⟨hc, M, Z, ⟨M1, M2, h1, h2, s1, s2, d⟩, rest⟩
theorem Own.ofEx (h : Own S W w (.ex f :: l)) : ∃ x, Own S W w (f x :: l) := by
  obtain ⟨hc, M, Z, ⟨M1, M2, ⟨x, h1⟩, h2⟩, rest⟩ := h
  exact ⟨x, hc, M, Z, ⟨M1, M2, h1, h2⟩, rest⟩
theorem Own.toEx (x : α) (h : Own S W w (f x :: l)) : Own S W w (.ex f :: l) := by
  obtain ⟨hc, M, Z, ⟨M1, M2, h1, h2⟩, rest⟩ := h
  exact ⟨hc, M, Z, ⟨M1, M2, ⟨x, h1⟩, h2⟩, rest⟩
theorem Own.toPure (hp : p) (h : Own S W w l) : Own S W w (.pure p :: l) := by
  obtain ⟨hc, M, Z, hs, rest⟩ := h
  exact ⟨hc, M, Z, ⟨fun _ => False, M, hp, hs, fun _ h => h.elim, fun _ h => h, fun _ h => h.elim⟩, rest⟩
theorem Own.ofPure (h : Own S W w (.pure p :: l)) : p ∧ Own S W w l := ⟨h.facts.1, h.tail⟩
/-- What stays for good may be had twice. -/
theorem Own.again (h : Own S W w (.imm φ :: l)) : Own S W w (.imm φ :: .imm φ :: l) := by
  obtain ⟨hc, M, Z, ⟨M1, M2, h1, h2, s1, s2, d⟩, rest⟩ := h
  exact ⟨hc, M, Z, ⟨fun _ => False, fun b => M1 b ∨ M2 b, h1, ⟨M1, M2, h1, h2, fun b h => .inl h, fun b h => .inr h, d⟩, fun _ h => h.elim, fun b h => h.elim (s1 b) (s2 b), fun _ h => h.elim⟩, rest⟩
theorem Own.imp (hi : ∀ w, φ w → ψ w) (h : Own S W w (.imm φ :: l)) : Own S W w (.imm ψ :: l) := by
  obtain ⟨hc, M, Z, ⟨M1, M2, h1, h2, s1, s2, d⟩, rest⟩ := h
  exact ⟨hc, M, Z, ⟨M1, M2, fun w' hw' => hi _ (h1 w' hw'), h2, s1, s2, d⟩, rest⟩
/-- It is turned no more. -/
theorem Own.toImm (hi : ∀ w, r.facts w → φ w) (h : Own S W w (r :: l)) : Own S W w (.imm φ :: l) := by
  obtain ⟨M, Z, h1, h2, h3, k⟩ := h.turn
  refine k w [.imm φ] (fun _ => False) M (Chg.refl _ _) (fun _ h => h.elim) (fun b h => .inr (.inl h)) (fun _ h => h.elim) (fun b hb => (h2 b (hb.elim False.elim id)).1) ⟨fun _ => False, fun _ => False, fun w' hw' => ?_, trivial, fun _ h => h, fun _ h => h, fun _ _ h => h⟩
  refine hi w' (r.tells (r.keep h1 (fun b hb hs => ?_)))
  exact hw' b (hb.elim .inr .inl) hs
/-- What lay there in the world in which the call began. -/
theorem Own.base (w : World) (S : Nat → Prop) (hφ : ∀ w', (∀ b, b < w.heap.size → w'.heap[b]? = w.heap[b]?) → φ w') : Own S w w [.imm φ] :=
  ⟨Chg.refl _ _, fun _ => False, fun b => b < w.heap.size, ⟨fun _ => False, fun _ => False, fun w' hw' => hφ w' (fun b hb => hw' b hb hb), trivial, fun _ h => h, fun _ h => h, fun _ _ h => h⟩, fun _ h => h.elim, fun _ h => h.elim, fun _ hb => hb.elim False.elim id⟩
theorem Own.and (h : Own S W w (.imm φ :: .imm ψ :: l)) : Own S W w (.imm (fun w => φ w ∧ ψ w) :: l) := by
  obtain ⟨hc, M, Z, ⟨M1, M2, h1, ⟨N1, N2, k1, k2, t1, t2, e⟩, s1, s2, d⟩, rest⟩ := h
  exact ⟨hc, M, Z, ⟨fun _ => False, N2, fun w' hw' => ⟨h1 w' hw', k1 w' hw'⟩, k2, fun _ h => h.elim, fun b h => s2 b (t2 b h), fun _ h => h.elim⟩, rest⟩

/-! Things that are only looked at. -/
theorem Stars.frz : ∀ {l : List Rs} {M Z : Nat → Prop}, Stars w l M Z → Stars w (l.map .frz) (fun _ => False) (fun b => M b ∨ Z b)
  | [], _, _, _ => trivial
  | r :: _, M, Z, ⟨M1, M2, h1, h2, s1, s2, d⟩ =>
    ⟨fun _ => False, fun _ => False, r.mono h1 (fun b h => .inl (s1 b h)) (fun b h => .inr h), h2.frz.mono (fun _ h => h) (fun b h => h.imp (s2 b) id), fun _ h => h, fun _ h => h, fun _ _ h => h⟩
theorem Own.frz (h : Own S W w l) : Own (fun _ => False) w w (l.map .frz) := by
  obtain ⟨hc, M, Z, hs, hS, hZ, hb⟩ := h
  exact ⟨Chg.refl _ _, fun _ => False, fun b => M b ∨ Z b, hs.frz, fun _ h => h.elim, fun _ h => h.elim, fun b h => h.elim False.elim (hb b)⟩
theorem Own.frzEx (h : Own S W w (.frz (.ex f) :: l)) : ∃ x, Own S W w (.frz (f x) :: l) := by
  obtain ⟨hc, M, Z, ⟨M1, M2, ⟨x, h1⟩, h2⟩, rest⟩ := h
  exact ⟨x, hc, M, Z, ⟨M1, M2, h1, h2⟩, rest⟩
theorem Own.frzMany (h : Own S W w (.frz (.many rs) :: l)) : Own S W w (rs.map .frz ++ l) := by
  obtain ⟨hc, M, Z, ⟨M1, M2, h1, h2, s1, s2, d⟩, rest⟩ := h
  have h1' : Stars w rs Z Z := h1
  exact ⟨hc, M, Z, Stars.join (M1 := fun _ => False) (h1'.frz.mono (fun _ h => h) (fun b h => h.elim id id)) h2 (fun _ h => h.elim) s2 (fun _ h => h.elim), rest⟩
theorem Own.frzPure (h : Own S W w (.frz (.pure p) :: l)) : p ∧ Own S W w l := ⟨h.facts.1, h.tail⟩
theorem Own.frzFrz (h : Own S W w (.frz (.frz r) :: l)) : Own S W w (.frz r :: l) := h

/-- Once more, for the first one. -/
theorem Own.map1 (hi : ∀ w M Z, r.holds w M Z → r'.holds w M Z) (h : Own S W w (r :: l)) : Own S W w (r' :: l) := by
  obtain ⟨hc, M, Z, ⟨M1, M2, h1, h2⟩, rest⟩ := h
  exact ⟨hc, M, Z, ⟨M1, M2, hi _ _ _ h1, h2⟩, rest⟩
end

/-- A block that is known whole. -/
def BoxF (w : World) (b : Nat) : Nat → List Value → Prop
  | _, [] => True
  | i, [v] => w.cell? ⟨b, i, none⟩ = some v
  | i, v :: l => w.cell? ⟨b, i, none⟩ = some v ∧ BoxF w b (i + 1) l
theorem BoxF.of {w : World} {b : Nat} : ∀ (i : Nat) (cs : List Value), (∀ j v, cs[j]? = some v → w.cell? ⟨b, i + j, none⟩ = some v) → BoxF w b i cs
  | _, [], _ => trivial
  | i, [v], h => h 0 v rfl
  | i, v :: x :: l, h => ⟨h 0 v rfl, BoxF.of (i + 1) (x :: l) fun j u hj => by have := h (j + 1) u (by simpa using hj); rw [show i + (j + 1) = i + 1 + j from by omega] at this; exact this⟩
def Var (b : Nat) (cs : List Value) (t : TypeId) : Rs where
  holds w M _ := w.heap[b]? = some (.cells cs.toArray t (0, 0)) ∧ M b
  facts w := BoxF w b 0 cs ∧ (∀ k, w.frozen? ⟨b, k, none⟩ = false) ∧ b < w.heap.size
  mono := fun ⟨h1, h2⟩ hM _ => ⟨h1, hM _ h2⟩
  keep := fun ⟨h1, h2⟩ hk => ⟨by rw [hk b (.inl h2) (Array.getElem?_eq_some_iff.1 h1).1]; exact h1, h2⟩
  tells := by
    rintro w M Z ⟨h1, h2⟩
    refine ⟨BoxF.of 0 cs fun j v hj => ?_, fun k => by simp [World.frozen?, h1], (Array.getElem?_eq_some_iff.1 h1).1⟩
    rw [Nat.zero_add, cell_of_row w b j _ t (0, 0) h1]; simpa using hj
theorem Var.cells {b : Nat} {cs : List Value} {t : TypeId} {w : World} (h : BoxF w b 0 cs) {k : Nat} {v : Value} (hk : cs[k]? = some v) : w.cell? ⟨b, k, none⟩ = some v := by
  have : ∀ (cs : List Value) (i k : Nat), BoxF w b i cs → cs[k]? = some v → w.cell? ⟨b, i + k, none⟩ = some v := by
    intro cs
    induction cs with
    | nil => intro i k _ hk; simp at hk
    | cons x l ih =>
      intro i k h hk
      cases l with
      | nil =>
        cases k with
        | zero => simp at hk; subst hk; exact h
        | succ k => simp at hk
      | cons y l =>
        cases k with
        | zero => simp at hk; subst hk; exact h.1
        | succ k => rw [show i + (k + 1) = i + 1 + k from by omega]; exact ih (i + 1) k h.2 (by simpa using hk)
  simpa using this cs 0 k h hk

/-- The block may be written. -/
def RowFree (w : World) : Option Addr → Prop
  | some a => ∀ k, w.frozen? ⟨a.block, k, none⟩ = false
  | none => True
theorem RowFree_some (w : World) (g o : Nat) (s : Option Nat) : RowFree w (some ⟨g, o, s⟩) = ∀ k, w.frozen? ⟨g, k, none⟩ = false := rfl
/-- A slice of the call's own, told by its cells. -/
def Row2 (e : TypeId) (size : Nat) (a : Option Addr) (n cap : Nat) (xs : List Value) : Rs where
  holds w M _ := w.ownsRow 0 e size (.slice a n cap) n xs ∧ ∀ b, (Value.slice a n cap).ownBlock = some b → M b
  facts w := ValsAt w a xs ∧ RowFree w a
  mono := fun ⟨h1, h2⟩ hM _ => ⟨h1, fun b hb => hM b (h2 b hb)⟩
  keep := by
    rintro w w' M Z ⟨h, hF⟩ hk
    refine ⟨⟨h.1, ?_⟩, hF⟩
    rcases h.2 with h2 | ⟨g, cap, cur, hv, hb, hg, r⟩
    · exact .inl h2
    · exact .inr ⟨g, cap, cur, hv, hb, by rw [hk g (.inl (hF g (by rw [hv]; rfl))) (Array.getElem?_eq_some_iff.1 hg).1]; exact hg, r⟩
  tells := by
    rintro w M Z ⟨h, hF⟩
    rcases h.2 with ⟨hv, hn⟩ | ⟨g, c, cur, hv, _, hgg, _⟩
    · injection hv with h1 h2 h3
      subst h1
      exact ⟨.inl (List.length_eq_zero_iff.1 (by rw [h.1, hn]; simp)), trivial⟩
    · injection hv with h1 h2 h3
      subst h1; subst h3
      refine ⟨.inr ⟨g, 0, rfl, fun i hi => ?_⟩, fun k => by simp [World.frozen?, hgg]⟩
      have e : ∀ j, (⟨g, 0, none⟩ : Addr).add j = ⟨g, 0 + j, none⟩ := fun j => by unfold Addr.add; split <;> simp_all
      have h1 := h.cells (g := g) rfl i _ (List.getElem?_eq_getElem hi)
      rwa [e] at h1

/-! What each tells, written out. -/
theorem Facts_nil (w : World) : Facts w [] = True := rfl
theorem Facts_cons (w : World) (r : Rs) (l : List Rs) : Facts w (r :: l) = (r.facts w ∧ Facts w l) := rfl
theorem Var_facts (w : World) (b : Nat) (cs : List Value) (t : TypeId) : (Var b cs t).facts w = (BoxF w b 0 cs ∧ (∀ k, w.frozen? ⟨b, k, none⟩ = false) ∧ b < w.heap.size) := rfl
theorem BoxF_one (w : World) (b i : Nat) (v : Value) : BoxF w b i [v] = (w.cell? ⟨b, i, none⟩ = some v) := rfl
theorem BoxF_cons (w : World) (b i : Nat) (v u : Value) (l : List Value) : BoxF w b i (v :: u :: l) = (w.cell? ⟨b, i, none⟩ = some v ∧ BoxF w b (i + 1) (u :: l)) := rfl
theorem Row2_facts (w : World) (e : TypeId) (size : Nat) (a : Option Addr) (n cap : Nat) (xs : List Value) : (Row2 e size a n cap xs).facts w = (ValsAt w a xs ∧ RowFree w a) := rfl
theorem imm_facts (w : World) (φ : World → Prop) : (Rs.imm φ).facts w = φ w := rfl
theorem frz_facts (w : World) (r : Rs) : (Rs.frz r).facts w = r.facts w := rfl
theorem pure_facts (w : World) (p : Prop) : (Rs.pure p).facts w = p := rfl
theorem many_facts (w : World) (l : List Rs) : (Rs.many l).facts w = Facts w l := rfl
theorem FX : (∀ w, Facts w [] = True) ∧ (∀ w r l, Facts w (r :: l) = (r.facts w ∧ Facts w l)) ∧ (∀ w b cs t, (Var b cs t).facts w = (BoxF w b 0 cs ∧ (∀ k, w.frozen? ⟨b, k, none⟩ = false) ∧ b < w.heap.size)) ∧
    (∀ w b i v, BoxF w b i [v] = (w.cell? ⟨b, i, none⟩ = some v)) ∧ (∀ w b i v u l, BoxF w b i (v :: u :: l) = (w.cell? ⟨b, i, none⟩ = some v ∧ BoxF w b (i + 1) (u :: l))) ∧
    (∀ w e size a n cap xs, (Row2 e size a n cap xs).facts w = (ValsAt w a xs ∧ RowFree w a)) ∧ (∀ w g o s, RowFree w (some ⟨g, o, s⟩) = ∀ k, w.frozen? ⟨g, k, none⟩ = false) ∧
    (∀ w φ, (Rs.imm φ).facts w = φ w) ∧ (∀ w r, (Rs.frz r).facts w = r.facts w) ∧ (∀ w p, (Rs.pure p).facts w = p) ∧ (∀ w l, (Rs.many l).facts w = Facts w l) :=
  ⟨fun _ => rfl, fun _ _ _ => rfl, fun _ _ _ _ => rfl, fun _ _ _ _ => rfl, fun _ _ _ _ _ _ => rfl, fun _ _ _ _ _ _ _ => rfl, fun _ _ _ _ => rfl, fun _ _ => rfl, fun _ _ => rfl, fun _ _ => rfl, fun _ _ => rfl⟩

section
variable {S : Nat → Prop} {W w w' : World} {l l' rs : List Rs} {r r' : Rs}
theorem Own.alloc (h : Own S W w l) (cs : List Value) (t : TypeId) : Own S W (w.alloc (.cells cs.toArray t)) (Var w.heap.size cs t :: l) :=
  h.new (M' := fun b => b = w.heap.size) ((Ext.refl w).alloc _) (fun b hb => by rw [hb]; simp) ⟨heap_alloc_new w _, rfl⟩
theorem Own.nil (h : Own S W w l) (e : TypeId) (size : Nat) : Own S W w (Row2 e size none 0 0 [] :: l) :=
  h.new (M' := fun _ => False) (Ext.refl w) (fun _ h => h.elim) ⟨World.ownsRow_nil w 0 e size, fun b hb => by simp [Value.ownBlock] at hb⟩
/-- One is put in the place of another one. -/
inductive Put : List Rs → Rs → Rs → List Rs → Prop
  | here (r r' : Rs) (l : List Rs) : Put (r :: l) r r' (r' :: l)
  | there (x : Rs) {r r' : Rs} {l l' : List Rs} : Put l r r' l' → Put (x :: l) r r' (x :: l')
theorem Put.pick : ∀ {l l' : List Rs} {r r' : Rs}, Put l r r' l' → ∃ l0, Pick l r l0 ∧ ∀ M Z w, Stars w (r' :: l0) M Z → Stars w l' M Z
  | _, _, _, _, .here _ _ _ => ⟨_, .here _ _, fun _ _ _ h => h⟩
  | _ :: _, _, _, _, .there x hp => by
    obtain ⟨l0, h1, h2⟩ := hp.pick
    refine ⟨x :: l0, .there _ h1, fun M Z w ⟨M1, M2, k1, ⟨N1, N2, q1, q2, t1, t2, e⟩, s1, s2, d⟩ => ?_⟩
    exact ⟨N1, fun b => M1 b ∨ N2 b, q1, h2 _ _ _ ⟨M1, N2, k1, q2, fun b h => .inl h, fun b h => .inr h, fun b h hn => d b h (t2 b hn)⟩, fun b h => s2 b (t1 b h), fun b h => h.elim (s1 b) (fun h => s2 b (t2 b h)),
      fun b h hn => hn.elim (fun hn => d b hn (t1 b h)) (e b h)⟩
theorem Own.put (hp : Put l r r' l') (h : Own S W w l) (k : ∀ l0, Own S W w (r :: l0) → Own S W w' (r' :: l0)) : Own S W w' l' := by
  obtain ⟨l0, h1, h2⟩ := hp.pick
  obtain ⟨hc, M, Z, hs, rest⟩ := k l0 (h.pick h1)
  exact ⟨hc, M, Z, h2 _ _ _ hs, rest⟩
theorem Own.set {b i : Nat} {v : Value} {cs : List Value} {t : TypeId} (h : Own S W w l) (hp : Put l (Var b cs t) (Var b (cs.set i v) t) l') : Own S W (w.setCell ⟨b, i, none⟩ v) l' :=
  h.put hp fun l0 h => by
    obtain ⟨M, Z, ⟨h1, h2⟩, h3, _, k⟩ := h.turn1
    refine k _ _ M ((Chg.setCell w ⟨b, i, none⟩ v).mono fun k hk => by rw [show k = b from hk]; exact h2) (fun b h => .inl h) (fun b hb => by simpa [World.setCell] using (h3 b hb).1) ⟨?_, h2⟩
    simp [World.setCell, Array.getElem?_modify, h1]
/-- Where a row of the call's own lies. -/
theorem Own.rowAt {e : TypeId} {size n cap : Nat} {a : Option Addr} {xs : List Value} (h : Own S W w l) (hp : Pick l (Row2 e size a n cap xs) l') (hn : 0 < n) : ∃ g, a = some ⟨g, 0, none⟩ ∧ (∀ k, w.frozen? ⟨g, k, none⟩ = false) ∧ g < w.heap.size := by
  obtain ⟨M, Z, ⟨h1, _⟩, _⟩ := (h.pick hp).turn1
  rcases h1.2 with ⟨_, h0⟩ | ⟨g, c, cur, hv, _, hg, _⟩
  · omega
  · injection hv with h2 _ _
    exact ⟨g, h2, fun k => by simp [World.frozen?, hg], (Array.getElem?_eq_some_iff.1 hg).1⟩
theorem Own.rowLen {e : TypeId} {size n cap : Nat} {a : Option Addr} {xs : List Value} (h : Own S W w l) (hp : Pick l (Row2 e size a n cap xs) l') : xs.length = n * size ∧ n ≤ cap ∧ cap ≤ maxLen := by
  obtain ⟨M, Z, ⟨h1, _⟩, _⟩ := (h.pick hp).turn1
  rcases h1.2 with ⟨hv, h0⟩ | ⟨g, c, cur, hv, _, _, h3, h4, _⟩
  · injection hv with _ _ h2
    exact ⟨h1.1, by omega, by rw [h2]; exact Nat.zero_le _⟩
  · injection hv with _ _ h2
    exact ⟨h1.1, by omega, by omega⟩
theorem Own.rowNil {e : TypeId} {size n cap : Nat} {xs : List Value} (h : Own S W w l) (hp : Pick l (Row2 e size none n cap xs) l') : n = 0 ∧ cap = 0 := by
  obtain ⟨M, Z, ⟨h1, _⟩, _⟩ := (h.pick hp).turn1
  rcases h1.2 with ⟨hv, h0⟩ | ⟨g, c, cur, hv, _⟩
  · injection hv with _ _ h2; exact ⟨h0, h2⟩
  · cases hv
theorem take_set_lt {α : Type} {l : List α} {i k : Nat} {v : α} (h : i < k) : (l.set i v).take k = (l.take k).set i v := by
  apply List.ext_getElem?
  intro j
  rw [List.getElem?_take]
  by_cases hj : j < k
  · rw [if_pos hj, List.getElem?_set, List.getElem?_set, List.getElem?_take, if_pos hj, List.length_take]
    by_cases hij : i = j
    · subst hij
      simp only [if_true]
      by_cases hl : i < l.length
      · rw [if_pos hl, if_pos (by omega)]
      · rw [if_neg hl, if_neg (by omega)]
    · rw [if_neg hij, if_neg hij]
  · rw [if_neg hj, List.getElem?_eq_none (by simp; omega)]
theorem Own.setRow {g i : Nat} {v : Value} {e : TypeId} {size n cap : Nat} {xs : List Value} (h : Own S W w l) (hp : Put l (Row2 e size (some ⟨g, 0, none⟩) n cap xs) (Row2 e size (some ⟨g, 0, none⟩) n cap (xs.set i v)) l') (hi : i < xs.length) : Own S W (w.setCell ⟨g, i, none⟩ v) l' :=
  h.put hp fun l0 h => by
    obtain ⟨M, Z, ⟨h1, h2⟩, h3, _, k⟩ := h.turn1
    have hg : M g := h2 g rfl
    refine k _ _ M ((Chg.setCell w ⟨g, i, none⟩ v).mono fun k hk => by rw [show k = g from hk]; exact hg) (fun b h => .inl h) (fun b hb => by simpa [World.setCell] using (h3 b hb).1) ⟨⟨by rw [List.length_set]; exact h1.1, ?_⟩, h2⟩
    rcases h1.2 with ⟨hv, _⟩ | ⟨g', c, cur, hv, hb, hgg, hnc, hcm, hcs, ht⟩
    · cases hv
    · injection hv with q1 q2 q3
      injection q1 with q1
      injection q1 with q1
      subst q1; subst q3
      refine .inr ⟨g, cap, cur.setIfInBounds i v, rfl, hb, by simp [World.setCell, Array.getElem?_modify, hgg], hnc, hcm, by simpa using hcs, ?_⟩
      rw [Array.toList_setIfInBounds, take_set_lt (by rw [← h1.1]; exact hi), ht]
/-- A call that leaves what is in hand as it is. -/
theorem Own.quiet {P : Program} {f : FuncId} {args : Array Value} {Q : Ending → World → Prop} {e0 : Ending} (h : Own S W w l) (hc : Calls P f args w fun e w' => e = e0 ∧ Ext w w')
    (k : ∀ w', Ext w w' → Own S W w' l → Q e0 w') : Calls P f args w Q :=
  hc.mono fun e w' ⟨he, hx⟩ => by subst he; exact k w' hx (h.ext hx)
end

/-- What a call does with what it is given: its result and what there is then, for some x. -/
def After {α : Type} (S : Nat → Prop) (W : World) (L0 : List Rs) (R : α → Value × List Rs) (e : Ending) (w' : World) : Prop := ∃ x, e = .returned (R x).1 ∧ Own S W w' ((R x).2 ++ L0)
def Does {α : Type} (P : Program) (f : FuncId) (args : Array Value) (L : List Rs) (R : α → Value × List Rs) : Prop :=
  ∀ (S : Nat → Prop) (W w : World) (L0 : List Rs), Own S W w (L ++ L0) → Calls P f args w (After S W L0 R)
theorem Does.use {α : Type} {P : Program} {f : FuncId} {args : Array Value} {L Lc L0 : List Rs} {R : α → Value × List Rs} {S : Nat → Prop} {W w : World} {Q : Ending → World → Prop} (hO : Own S W w Lc) (hc : Does P f args L R) (ht : Takes Lc L L0)
    (k : ∀ x w', Own S W w' ((R x).2 ++ L0) → Q (.returned (R x).1) w') : Calls P f args w Q :=
  (hc S W w L0 (hO.take ht)).mono fun e w' ⟨x, he, h⟩ => by subst he; exact k x w' h
/-- What a call answers that only looks at the things L. -/
def Reads (P : Program) (f : FuncId) (args : Array Value) (L : List Rs) (v : Value) : Prop :=
  ∀ (w : World) (L0 : List Rs), Own (fun _ => False) w w (L.map .frz ++ L0) → Calls P f args w fun e w' => e = .returned v ∧ Ext w w'
theorem Reads.use {P : Program} {f : FuncId} {args : Array Value} {L Lc L0 : List Rs} {v : Value} {S : Nat → Prop} {W w : World} {Q : Ending → World → Prop} (hO : Own S W w Lc) (hc : Reads P f args L v) (ht : Takes Lc L L0)
    (k : ∀ w', Ext w w' → Own S W w' Lc → Q (.returned v) w') : Calls P f args w Q := by
  have h1 := (hO.take ht).frz
  rw [List.map_append] at h1
  exact (hc w _ h1).mono fun e w' ⟨he, hx⟩ => by subst he; exact k w' hx (hO.ext hx)

section
variable {P : Program} {S : Nat → Prop} {W w : World} {l l' : List Rs} {ops : Array Oper} {rest : List Oper} {a : Act} {Q : Exit → Act → World → Prop} {c : Code}
/-- A world of which all is known is a letter. -/
theorem wpList_alloc_own {cs : List Value} {t : TypeId} (hO : Own S W w l) (k : ∀ w', Own S W w' (Var w.heap.size cs t :: l) → wpList P ops Q rest a w') : wpList P ops Q rest a (w.alloc (.cells cs.toArray t)) := k _ (hO.alloc cs t)
theorem wpList_alloc_own2 {o : Obj} {L : List Rs} (hO : Own S W (w.alloc o) L) (k : ∀ w', Own S W w' L → wpList P ops Q rest a w') : wpList P ops Q rest a (w.alloc o) := k _ hO
theorem wpList_set_own {p : Addr} {v : Value} {L : List Rs} (hO : Own S W (w.setCell p v) L) (k : ∀ w', Own S W w' L → wpList P ops Q rest a w') : wpList P ops Q rest a (w.setCell p v) := k _ hO
theorem wpList_drew_own (hO : Own S W w l) (k : ∀ w', Own S W w' l → wpList P ops Q rest a w') : wpList P ops Q rest a w.drew := k _ hO.drew
theorem wp_alloc_own {cs : List Value} {t : TypeId} (hO : Own S W w l) (k : ∀ w', Own S W w' (Var w.heap.size cs t :: l) → c.wp P Q a w') : c.wp P Q a (w.alloc (.cells cs.toArray t)) := k _ (hO.alloc cs t)
theorem wp_set_own {p : Addr} {v : Value} {L : List Rs} (hO : Own S W (w.setCell p v) L) (k : ∀ w', Own S W w' L → c.wp P Q a w') : c.wp P Q a (w.setCell p v) := k _ hO
theorem bodyPost_alloc_own {fn : Func} {R : Ending → World → Prop} {x : Exit} {cs : List Value} {t : TypeId} (hO : Own S W w l) (k : ∀ w', Own S W w' (Var w.heap.size cs t :: l) → bodyPost P fn R x a w') : bodyPost P fn R x a (w.alloc (.cells cs.toArray t)) := k _ (hO.alloc cs t)
theorem bodyPost_set_own {fn : Func} {R : Ending → World → Prop} {x : Exit} {p : Addr} {v : Value} {L : List Rs} (hO : Own S W (w.setCell p v) L) (k : ∀ w', Own S W w' L → bodyPost P fn R x a w') : bodyPost P fn R x a (w.setCell p v) := k _ hO
theorem bodyPost_drew_own {fn : Func} {R : Ending → World → Prop} {x : Exit} (hO : Own S W w l) (k : ∀ w', Own S W w' l → bodyPost P fn R x a w') : bodyPost P fn R x a w.drew := k _ hO.drew
theorem wp_drew_own (hO : Own S W w l) (k : ∀ w', Own S W w' l → c.wp P Q a w') : c.wp P Q a w.drew := k _ hO.drew

/-- An append to a slice of the call's own. -/
theorem wpList_append_own2 {o : Oper} (hO : Own S W w l) {e : TypeId} {size : Nat} {va : Option Addr} {n vc : Nat} {xs : List Value} {l0 : List Rs} (hp : Pick l (Row2 e size va n vc xs) l0) (hgd : o.guard = none) (s x : Operand) (t : TypeId)
    (ho : o.op = .call { callee := .builtin .append, args := #[s, x], argTypes := #[t, t] })
    (i : TypeInfo) (z : Value) (bytes : Nat) (ht : P.underlying t = some (.slice e)) (hi : P.info? e = some i) (hz : i.zero = some z)
    (hsize : i.size = size) (hby : i.bytes = bytes) (hzs : z.cells.size = size) (hsz : 0 < size) (hs : a.eval s = .slice va n vc)
    (g off m c : Nat) (news : List Value) (hx : a.eval x = .slice (some ⟨g, off, none⟩) m c) (hl : news.length = m * size) (hnews : ∀ j u, news[j]? = some u → w.cell? ⟨g, off + j, none⟩ = some u) (h1 : ∀ u ∈ news, u.oneCell' = true)
    (h63 : n + m ≤ maxLen) (hbytes : (n + m) * bytes ≤ 140737488355328)
    (h : ∀ ka kc w', Own S W w' (Row2 e size ka (n + m) kc (xs ++ news) :: l0) → wpList P ops Q rest (a.put o.dst (.slice ka (n + m) kc)) w') : wpList P ops Q (o :: rest) a w := by
  obtain ⟨M, Z, ⟨h2, h3⟩, h4, _, k⟩ := (hO.pick hp).turn1
  have hadd : ∀ j, (⟨g, off, none⟩ : Addr).add j = ⟨g, off + j, none⟩ := fun j => by unfold Addr.add; split <;> simp_all
  obtain ⟨v', w', hr, q2, q3, q4⟩ := run_append_res (P := P) w t o.type e i z size bytes ht hi hz hsize hby hzs hsz (.slice va n vc) n xs h2 ⟨g, off, none⟩ m c news hl (fun j u hj => by rw [hadd]; exact hnews j u hj) h1 h63 hbytes
  obtain ⟨hr', hc', hf'⟩ := Row.grown (F := fun b => (Value.slice va n vc).ownBlock = some b) ⟨h2, fun _ => Iff.rfl⟩ q2 q3 q4
  obtain ⟨ka, kc, rfl⟩ := Row.shape hr'
  refine wpList_plain hgd fun K hK => ?_
  unfold Oper.wp execOp
  simp only [ho, resolve, invoke, builtin, Sem.run_bind, Sem.run_pure, Result.andThen_ok, List.map_toArray, List.map_cons, List.map_nil, hs, hx, hr]
  exact hK _ _ (h ka kc w' (k w' _ (fun b => (Value.slice ka (n + m) kc).ownBlock = some b) (hc'.mono h3) (fun b hb => (hf' b hb).imp (h3 b) id) (fun b hb => (Row _ _ _ _ _).here hr' hb) ⟨hr'.1, fun b hb => hb⟩))
end
end Go.Proofs.YtmjdgcgmlgbfjaaDoor
