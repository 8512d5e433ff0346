/- Texts VerL, RwR, SlR, SlE, RwA, SameB of this claim, laid together. -/
import Derived.Test.YtmknhibaoopjjaaGreatDoorGTopCrashProof19
import Derived.Test.YtmknhibaoopjjaaGreatDoorGTopCrashProof30
import Derived.Test.YtmknhibaoopjjaaGreatDoorGTopCrashProof27
import Derived.Test.YtmknhibaoopjjaaGreatDoorGTopCrashProof26
import Derived.Test.YtmknhibaoopjjaaGreatDoorGTopCrashProof12
import Derived.Test.YtmknhibaoopjjaaGreatDoorGTopCrashProof4
set_option linter.unusedVariables false
set_option linter.unusedSimpArgs false
namespace Go.Proofs.YtmknhibaoopjjaaGreatDoor
/-! Rows that rise by keys. -/
def RUps (l : List Rw) : Prop := l.Pairwise fun x y => slt x.key y.key = true
theorem RUps.head {x : Rw} {l : List Rw} (h : RUps (x :: l)) : ∀ y ∈ l, slt x.key y.key = true := (List.pairwise_cons.1 h).1
theorem RUps.tail {x : Rw} {l : List Rw} (h : RUps (x :: l)) : RUps l := (List.pairwise_cons.1 h).2
theorem RUps.keys {l : List Rw} (h : RUps l) : (l.map Rw.key).Nodup := by
  rw [List.Nodup, List.pairwise_map]
  exact List.Pairwise.imp (fun h => slt_ne h) h
theorem RUps.inj {l : List Rw} (h : RUps l) : ∀ {x y : Rw}, x ∈ l → y ∈ l → x.key = y.key → x = y := by
  induction l with
  | nil => exact fun hx => (List.not_mem_nil hx).elim
  | cons z l ih =>
    intro x y hx hy he
    rcases List.mem_cons.1 hx with rfl | hx' <;> rcases List.mem_cons.1 hy with rfl | hy'
    · rfl
    · exact absurd he (slt_ne (h.head _ hy'))
    · exact absurd he.symm (slt_ne (h.head _ hx'))
    · exact ih h.tail hx' hy' he
theorem RUps.ext : ∀ {l l' : List Rw}, RUps l → RUps l' → (∀ r, r ∈ l ↔ r ∈ l') → l = l'
  | [], [], _, _, _ => rfl
  | [], y :: l', _, _, h => ((List.not_mem_nil ((h y).2 (List.mem_cons_self ..))).elim)
  | x :: l, [], _, _, h => ((List.not_mem_nil ((h x).1 (List.mem_cons_self ..))).elim)
  | x :: l, y :: l', h1, h2, h => by
    have e : x = y := by
      rcases List.mem_cons.1 ((h x).1 (List.mem_cons_self ..)) with e | hx
      · exact e
      rcases List.mem_cons.1 ((h y).2 (List.mem_cons_self ..)) with e | hy
      · exact e.symm
      have a := h1.head y hy
      have b := h2.head x hx
      rw [slt_asymm a] at b
      cases b
    subst e
    have e2 : l = l' := RUps.ext h1.tail h2.tail fun r => by
      constructor
      · intro hr
        rcases List.mem_cons.1 ((h r).1 (List.mem_cons_of_mem _ hr)) with rfl | h3
        · exact absurd rfl (slt_ne (h1.head r hr))
        · exact h3
      · intro hr
        rcases List.mem_cons.1 ((h r).2 (List.mem_cons_of_mem _ hr)) with rfl | h3
        · exact absurd rfl (slt_ne (h2.head r hr))
        · exact h3
    rw [e2]
/-- A row's value. -/
def valR (l : List Rw) (k : ByteArray) : ByteArray × Bool := match l.find? (fun r => decide (r.key = k)) with
  | some r => (r.val, true)
  | none => (⟨#[]⟩, false)
theorem valR_none {l : List Rw} {k : ByteArray} (h : ∀ r ∈ l, r.key ≠ k) : valR l k = (⟨#[]⟩, false) := by
  unfold valR
  rw [List.find?_eq_none.2 fun r hr => by rw [decide_eq_true_iff]; exact h r hr]
theorem valR_some {l : List Rw} (h : RUps l) {r : Rw} (hr : r ∈ l) : valR l r.key = (r.val, true) := by
  unfold valR
  cases hf : l.find? (fun x => decide (x.key = r.key)) with
  | none => exact absurd (decide_eq_true (rfl : r.key = r.key)) (List.find?_eq_none.1 hf r hr)
  | some x =>
    have e : x.key = r.key := by simpa using List.find?_some hf
    rw [h.inj (List.mem_of_find?_eq_some hf) hr e]
theorem valR_cases {l : List Rw} (h : RUps l) (k : ByteArray) : (∃ r ∈ l, r.key = k ∧ valR l k = (r.val, true)) ∨ ((∀ r ∈ l, r.key ≠ k) ∧ valR l k = (⟨#[]⟩, false)) := by
  by_cases hk : ∃ r ∈ l, r.key = k
  · obtain ⟨r, hr, rfl⟩ := hk
    exact .inl ⟨r, hr, rfl, valR_some h hr⟩
  · have h1 : ∀ r ∈ l, r.key ≠ k := fun r hr he => hk ⟨r, hr, he⟩
    exact .inr ⟨h1, valR_none h1⟩
theorem valR_iff {l : List Rw} (h : RUps l) (k v : ByteArray) : valR l k = (v, true) ↔ (⟨k, v⟩ : Rw) ∈ l := by
  rcases valR_cases h k with ⟨r, hr, rfl, hv⟩ | ⟨hn, hv⟩
  · rw [hv]
    constructor
    · intro e; injection e with e; rw [← e]; exact hr
    · intro hm; rw [← h.inj hm hr rfl]
  · rw [hv]
    constructor
    · intro e; injection e with _ e; cases e
    · intro hm; exact absurd rfl (hn _ hm)
/-- A deed's change is applied. -/
def appF (c : Ch) : Bool → List Rw → List Rw
  | laid, [] => if laid then [] else [⟨c.key, c.val⟩]
  | laid, x :: l => if laid = false ∧ slt x.key c.key = false then ⟨c.key, c.val⟩ :: (if x.key = c.key then appF c true l else x :: appF c true l) else if x.key = c.key then appF c laid l else x :: appF c laid l
def appR (l : List Rw) (c : Ch) : List Rw := appF c c.gone l
theorem mem_appF {c : Ch} {r : Rw} : ∀ {l : List Rw} {laid : Bool}, r ∈ appF c laid l ↔ (r ∈ l ∧ r.key ≠ c.key) ∨ (laid = false ∧ r = ⟨c.key, c.val⟩)
  | [], laid => by
    cases laid <;> simp [appF]
  | x :: l, laid => by
    have i1 := mem_appF (c := c) (r := r) (l := l) (laid := true)
    have i2 := mem_appF (c := c) (r := r) (l := l) (laid := laid)
    rw [appF]
    by_cases h1 : laid = false ∧ slt x.key c.key = false
    · rw [if_pos h1]
      by_cases h2 : x.key = c.key
      · rw [if_pos h2, List.mem_cons, i1, List.mem_cons]
        constructor
        · rintro (rfl | ⟨h3, h4⟩ | ⟨h3, _⟩)
          · exact .inr ⟨h1.1, rfl⟩
          · exact .inl ⟨.inr h3, h4⟩
          · cases h3
        · rintro (⟨rfl | h3, h4⟩ | ⟨_, h3⟩)
          · exact absurd h2 h4
          · exact .inr (.inl ⟨h3, h4⟩)
          · exact .inl h3
      · rw [if_neg h2, List.mem_cons, List.mem_cons, i1, List.mem_cons]
        constructor
        · rintro (rfl | rfl | ⟨h3, h4⟩ | ⟨h3, _⟩)
          · exact .inr ⟨h1.1, rfl⟩
          · exact .inl ⟨.inl rfl, h2⟩
          · exact .inl ⟨.inr h3, h4⟩
          · cases h3
        · rintro (⟨rfl | h3, h4⟩ | ⟨_, h3⟩)
          · exact .inr (.inl rfl)
          · exact .inr (.inr (.inl ⟨h3, h4⟩))
          · exact .inl h3
    · rw [if_neg h1]
      by_cases h2 : x.key = c.key
      · rw [if_pos h2, i2, List.mem_cons]
        constructor
        · rintro (⟨h3, h4⟩ | h3)
          · exact .inl ⟨.inr h3, h4⟩
          · exact .inr h3
        · rintro (⟨rfl | h3, h4⟩ | h3)
          · exact absurd h2 h4
          · exact .inl ⟨h3, h4⟩
          · exact .inr h3
      · rw [if_neg h2, List.mem_cons, i2, List.mem_cons]
        constructor
        · rintro (rfl | ⟨h3, h4⟩ | h3)
          · exact .inl ⟨.inl rfl, h2⟩
          · exact .inl ⟨.inr h3, h4⟩
          · exact .inr h3
        · rintro (⟨rfl | h3, h4⟩ | h3)
          · exact .inl rfl
          · exact .inr (.inl ⟨h3, h4⟩)
          · exact .inr (.inr h3)
theorem appF_ups {c : Ch} : ∀ {l : List Rw} {laid : Bool}, RUps l → RUps (appF c laid l)
  | [], laid, _ => by cases laid <;> simp [appF, RUps]
  | x :: l, laid, h => by
    have i1 := appF_ups (c := c) (laid := true) h.tail
    have i2 := appF_ups (c := c) (laid := laid) h.tail
    have hd := h.head
    rw [appF]
    by_cases h1 : laid = false ∧ slt x.key c.key = false
    · rw [if_pos h1]
      by_cases h2 : x.key = c.key
      · rw [if_pos h2]
        refine List.pairwise_cons.2 ⟨fun y hy => ?_, i1⟩
        rcases mem_appF.1 hy with ⟨h3, _⟩ | ⟨h3, _⟩
        · exact h2 ▸ hd y h3
        · cases h3
      · rw [if_neg h2]
        have hx : slt c.key x.key = true := slt_of_not h1.2 h2
        refine List.pairwise_cons.2 ⟨fun y hy => ?_, List.pairwise_cons.2 ⟨fun y hy => ?_, i1⟩⟩
        · rcases List.mem_cons.1 hy with rfl | hy
          · exact hx
          rcases mem_appF.1 hy with ⟨h3, _⟩ | ⟨h3, _⟩
          · exact slt_trans hx (hd y h3)
          · cases h3
        · rcases mem_appF.1 hy with ⟨h3, _⟩ | ⟨h3, _⟩
          · exact hd y h3
          · cases h3
    · rw [if_neg h1]
      by_cases h2 : x.key = c.key
      · rw [if_pos h2]; exact i2
      · rw [if_neg h2]
        refine List.pairwise_cons.2 ⟨fun y hy => ?_, i2⟩
        rcases mem_appF.1 hy with ⟨h3, _⟩ | ⟨h3, rfl⟩
        · exact hd y h3
        · show slt x.key c.key = true
          cases hs : slt x.key c.key with
          | true => rfl
          | false => exact absurd ⟨h3, hs⟩ h1
structure VInv (nn : Nat) (V : List (ByteArray × List Vn)) : Prop where
  keys : (V.map (·.1)).Nodup
  le : ∀ e ∈ V, ∀ v ∈ e.2, v.n ≤ nn
  up : ∀ e ∈ V, e.2.Pairwise fun a b => a.n < b.n
  gone : ∀ e ∈ V, ∀ v ∈ e.2, v.gone = true → v.val = ⟨#[]⟩
theorem atV_snoc (vs : List Vn) (x : Vn) (n : Int) : atV (vs ++ [x]) n = if (x.n : Int) ≤ n then (x.val, !x.gone) else atV vs n := by
  unfold atV
  rw [List.reverse_append, List.reverse_cons, List.reverse_nil, List.nil_append, List.singleton_append, List.find?_cons]
  by_cases h : (x.n : Int) ≤ n
  · rw [decide_eq_true h, if_pos h]
  · rw [decide_eq_false h, if_neg h]
theorem atV_cons (x : Vn) (vs : List Vn) (n : Int) : atV (x :: vs) n = if ∃ y ∈ vs, (y.n : Int) ≤ n then atV vs n else if (x.n : Int) ≤ n then (x.val, !x.gone) else (⟨#[]⟩, false) := by
  unfold atV
  rw [List.reverse_cons, List.find?_append]
  by_cases h : ∃ y ∈ vs, (y.n : Int) ≤ n
  · rw [if_pos h]
    obtain ⟨y, hy, hn⟩ := h
    cases hf : vs.reverse.find? (fun v => decide ((v.n : Int) ≤ n)) with
    | none => exact absurd hn (by simpa using List.find?_eq_none.1 hf y (List.mem_reverse.2 hy))
    | some z => rfl
  · rw [if_neg h]
    have hf : vs.reverse.find? (fun v => decide ((v.n : Int) ≤ n)) = none := List.find?_eq_none.2 fun y hy => by
      rw [decide_eq_true_iff]; exact fun hn => h ⟨y, List.mem_reverse.1 hy, hn⟩
    rw [hf, Option.none_or, List.find?_cons]
    by_cases hx : (x.n : Int) ≤ n
    · rw [decide_eq_true hx, if_pos hx]
    · rw [decide_eq_false hx, if_neg hx]; rfl
theorem atV_clip {vs : List Vn} {nn : Nat} {m : Int} (h : ∀ v ∈ vs, v.n ≤ nn) (hm : (nn : Int) ≤ m) : atV vs m = atV vs nn := by
  induction vs with
  | nil => rfl
  | cons x vs ih =>
    have hx := h x (List.mem_cons_self ..)
    have h2 : ∀ v ∈ vs, v.n ≤ nn := fun v hv => h v (List.mem_cons_of_mem _ hv)
    have e : (∃ y ∈ vs, (y.n : Int) ≤ m) ↔ ∃ y ∈ vs, (y.n : Int) ≤ (nn : Int) := by
      constructor
      · rintro ⟨y, hy, _⟩; exact ⟨y, hy, by have := h2 y hy; omega⟩
      · rintro ⟨y, hy, _⟩; exact ⟨y, hy, by have := h2 y hy; omega⟩
    have e2 : ((x.n : Int) ≤ m) ↔ ((x.n : Int) ≤ (nn : Int)) := ⟨fun _ => by omega, fun _ => by omega⟩
    rw [atV_cons, atV_cons, ih h2]
    simp only [e, e2]
theorem getV_mem {V : List (ByteArray × List Vn)} {k : ByteArray} {vs : List Vn} (h : getV V k = some vs) : (k, vs) ∈ V := by
  unfold getV at h
  cases hf : V.find? fun e => decide (e.1 = k) with
  | none => rw [hf] at h; cases h
  | some e =>
    rw [hf] at h
    injection h with h
    have e1 : e.1 = k := by simpa using List.find?_some hf
    have := List.mem_of_find?_eq_some hf
    rw [← e1, ← h]; exact this
theorem getV_cons (e : ByteArray × List Vn) (V : List (ByteArray × List Vn)) (k : ByteArray) : getV (e :: V) k = if e.1 = k then some e.2 else getV V k := by
  unfold getV
  rw [List.find?_cons]
  by_cases h : e.1 = k
  · rw [decide_eq_true h, if_pos h]; rfl
  · rw [decide_eq_false h, if_neg h]
theorem getV_of_mem : ∀ {V : List (ByteArray × List Vn)} {k : ByteArray} {vs : List Vn}, (V.map (·.1)).Nodup → (k, vs) ∈ V → getV V k = some vs
  | x :: V, k, vs, hn, hm => by
    rw [List.map_cons, List.nodup_cons] at hn
    rw [getV_cons]
    rcases List.mem_cons.1 hm with rfl | hm
    · rw [if_pos rfl]
    · rw [if_neg (fun he : x.1 = k => hn.1 (he ▸ List.mem_map.2 ⟨_, hm, rfl⟩)), getV_of_mem hn.2 hm]
theorem readV_clip {nn : Nat} {V : List (ByteArray × List Vn)} (h : VInv nn V) (k : ByteArray) {m : Int} (hm : (nn : Int) ≤ m) : readV V k m = readV V k nn := by
  unfold readV
  cases hg : getV V k with
  | none => rfl
  | some vs => exact atV_clip (h.le _ (getV_mem hg)) hm
theorem putV_keys {n : Nat} {c : Ch} : ∀ {V : List (ByteArray × List Vn)} {k : ByteArray}, k ∈ (putV n V c).map (·.1) ↔ k = c.key ∨ k ∈ V.map (·.1)
  | [], k => by simp [putV]
  | e :: V, k => by
    rw [putV]
    by_cases h : e.1 = c.key
    · rw [if_pos h, List.map_cons, List.map_cons, List.mem_cons]
      exact ⟨fun h => .inr h, fun h' => h'.elim (fun h' => .inl (h'.trans h.symm)) id⟩
    · rw [if_neg h, List.map_cons, List.map_cons, List.mem_cons, List.mem_cons, putV_keys (V := V)]
      constructor
      · rintro (h | h | h)
        · exact .inr (.inl h)
        · exact .inl h
        · exact .inr (.inr h)
      · rintro (h | h | h)
        · exact .inr (.inl h)
        · exact .inl h
        · exact .inr (.inr h)
theorem putV_nodup {n : Nat} {c : Ch} : ∀ {V : List (ByteArray × List Vn)}, (V.map (·.1)).Nodup → ((putV n V c).map (·.1)).Nodup
  | [], _ => by simp [putV]
  | e :: V, h => by
    rw [List.map_cons, List.nodup_cons] at h
    rw [putV]
    by_cases h1 : e.1 = c.key
    · rw [if_pos h1, List.map_cons, List.nodup_cons]; exact h
    · rw [if_neg h1, List.map_cons, List.nodup_cons]
      refine ⟨fun hm => ?_, putV_nodup h.2⟩
      rcases putV_keys.1 hm with h2 | h2
      · exact h1 h2
      · exact h.1 h2
theorem putV_mem {n : Nat} {c : Ch} {e : ByteArray × List Vn} : ∀ {V : List (ByteArray × List Vn)}, e ∈ putV n V c → e ∈ V ∨ (e = (c.key, [⟨n, c.val, c.gone⟩])) ∨ ∃ x ∈ V, x.1 = c.key ∧ e = (x.1, x.2 ++ [⟨n, c.val, c.gone⟩])
  | [], h => by
    rw [putV, List.mem_singleton] at h
    exact .inr (.inl h)
  | x :: V, h => by
    rw [putV] at h
    by_cases h1 : x.1 = c.key
    · rw [if_pos h1] at h
      rcases List.mem_cons.1 h with h | h
      · exact .inr (.inr ⟨x, List.mem_cons_self .., h1, h⟩)
      · exact .inl (List.mem_cons_of_mem _ h)
    · rw [if_neg h1] at h
      rcases List.mem_cons.1 h with h | h
      · exact .inl (h ▸ List.mem_cons_self ..)
      · rcases putV_mem h with h | h | ⟨y, h2, h3⟩
        · exact .inl (List.mem_cons_of_mem _ h)
        · exact .inr (.inl h)
        · exact .inr (.inr ⟨y, List.mem_cons_of_mem _ h2, h3⟩)
theorem putV_at_mem {n : Nat} {c : Ch} {e : ByteArray × List Vn} : ∀ {V : List (ByteArray × List Vn)}, (V.map (·.1)).Nodup → e ∈ putV n V c → e.1 ≠ c.key → e ∈ V
  | V, hn, h, hk => by
    rcases putV_mem h with h | h | ⟨x, _, h2, h3⟩
    · exact h
    · exact absurd (h ▸ rfl) hk
    · exact absurd (h3 ▸ h2) hk
/-! A deed is committed. -/
/-- Half a deed is put: the changes of 'done'. -/
structure VMid (nn : Nat) (todo : List Ch) (V : List (ByteArray × List Vn)) : Prop where
  inv : VInv (nn + 1) V
  old : ∀ e ∈ V, (∃ c ∈ todo, c.key = e.1) → ∀ v ∈ e.2, v.n ≤ nn
theorem VMid.step {nn : Nat} {c : Ch} {C : List Ch} {V : List (ByteArray × List Vn)} (h : VMid nn (c :: C) V) (hg : c.gone = true → c.val = ⟨#[]⟩) (hk : ∀ x ∈ C, x.key ≠ c.key) : VMid nn C (putV (nn + 1) V c) where
  inv := {
    keys := putV_nodup h.inv.keys
    le := fun e he v hv => by
      rcases putV_mem he with he | rfl | ⟨x, hx, h2, rfl⟩
      · exact h.inv.le e he v hv
      · rw [List.mem_singleton] at hv; rw [hv]; exact Nat.le_refl _
      · rcases List.mem_append.1 hv with hv | hv
        · exact h.inv.le x hx v hv
        · rw [List.mem_singleton] at hv; rw [hv]; exact Nat.le_refl _
    up := fun e he => by
      rcases putV_mem he with he | rfl | ⟨x, hx, h2, rfl⟩
      · exact h.inv.up e he
      · exact List.pairwise_singleton ..
      · refine List.pairwise_append.2 ⟨h.inv.up x hx, List.pairwise_singleton .., fun a ha b hb => ?_⟩
        rw [List.mem_singleton] at hb
        have := h.old x hx ⟨c, List.mem_cons_self .., h2.symm⟩ a ha
        rw [hb]; exact Nat.lt_succ_of_le this
    gone := fun e he v hv => by
      rcases putV_mem he with he | rfl | ⟨x, hx, h2, rfl⟩
      · exact h.inv.gone e he v hv
      · rw [List.mem_singleton] at hv; rw [hv]; exact hg
      · rcases List.mem_append.1 hv with hv | hv
        · exact h.inv.gone x hx v hv
        · rw [List.mem_singleton] at hv; rw [hv]; exact hg }
  old := fun e he ⟨x, hx, hxe⟩ => h.old e (putV_at_mem h.inv.keys he fun h' => hk x hx (hxe.trans h')) ⟨x, List.mem_cons_of_mem _ hx, hxe⟩
theorem VMid.all {nn : Nat} : ∀ {C : List Ch} {V : List (ByteArray × List Vn)}, VMid nn C V → (∀ c ∈ C, c.gone = true → c.val = ⟨#[]⟩) → C.Pairwise (fun a b => slt a.key b.key = true) → VInv (nn + 1) (C.foldl (putV (nn + 1)) V)
  | [], V, h, _, _ => h.inv
  | c :: C, V, h, hg, hp => by
    rw [List.pairwise_cons] at hp
    exact VMid.all (C := C) (h.step (hg c (List.mem_cons_self ..)) fun x hx => (slt_ne (hp.1 x hx)).symm) (fun x hx => hg x (List.mem_cons_of_mem _ hx)) hp.2
/-- What was, deed by deed, from one on. -/
structure Past (nn : Nat) (frm : Nat) (V : List (ByteArray × List Vn)) (past : List (List Rw)) : Prop where
  inv : VInv nn V
  len : past.length = nn + 1
  ups : ∀ l ∈ past, RUps l
  le : frm ≤ nn
  reads : ∀ m (h : m < past.length), frm ≤ m → ∀ k, readV V k m = valR past[m] k
theorem newV_inv {l : List Rw} (h : RUps l) : VInv 0 (newV l) where
  keys := by
    unfold newV
    rw [List.map_map]
    exact h.keys
  le := fun e he v hv => by
    obtain ⟨r, _, rfl⟩ := List.mem_map.1 he
    rw [List.mem_singleton] at hv; rw [hv]; exact Nat.le_refl _
  up := fun e he => by
    obtain ⟨r, _, rfl⟩ := List.mem_map.1 he
    exact List.pairwise_singleton ..
  gone := fun e he v hv hg => by
    obtain ⟨r, _, rfl⟩ := List.mem_map.1 he
    rw [List.mem_singleton] at hv; rw [hv] at hg; cases hg
theorem newV_read (l : List Rw) (k : ByteArray) {m : Int} (hm : 0 ≤ m) : readV (newV l) k m = valR l k := by
  unfold readV valR
  induction l with
  | nil => rfl
  | cons r l ih =>
    unfold newV at ih ⊢
    rw [List.map_cons, getV_cons, List.find?_cons]
    by_cases hk : r.key = k
    · rw [decide_eq_true hk]
      show atV ((if r.key = k then some [(⟨0, r.val, false⟩ : Vn)] else _).getD []) m = _
      rw [if_pos hk]
      show atV ([] ++ [(⟨0, r.val, false⟩ : Vn)]) m = _
      rw [atV_snoc, if_pos (show (((0 : Nat) : Int)) ≤ m from hm)]; rfl
    · rw [decide_eq_false hk]
      show atV ((if r.key = k then some [(⟨0, r.val, false⟩ : Vn)] else _).getD []) m = _
      rw [if_neg hk]; exact ih
theorem Past.new {l : List Rw} (h : RUps l) : Past 0 0 (newV l) [l] where
  inv := newV_inv h
  len := rfl
  ups := fun x hx => by rw [List.mem_singleton] at hx; rw [hx]; exact h
  le := Nat.le_refl _
  reads := fun m hm _ k => by
    have : m = 0 := by simp at hm; exact hm
    subst this
    exact newV_read l k (by omega)
/-! Vacuum. -/
/-- Rows of some keys, as they lie in the map. -/
def scanL (V : List (ByteArray × List Vn)) (f : ByteArray → Bool) (n : Int) : List Rw := V.filterMap fun e => if (atV e.2 n).2 && f e.1 then some ⟨e.1, (atV e.2 n).1⟩ else none
theorem mem_scanL {V : List (ByteArray × List Vn)} (hn : (V.map (·.1)).Nodup) {f : ByteArray → Bool} {n : Int} {r : Rw} : r ∈ scanL V f n ↔ readV V r.key n = (r.val, true) ∧ f r.key = true := by
  unfold scanL
  rw [List.mem_filterMap]
  constructor
  · rintro ⟨e, he, h⟩
    by_cases hc : (atV e.2 n).2 && f e.1
    · rw [if_pos hc] at h
      injection h with h
      subst h
      rw [Bool.and_eq_true] at hc
      refine ⟨?_, hc.2⟩
      unfold readV
      rw [getV_of_mem hn he]
      show atV e.2 n = _
      rw [← hc.1]
    · rw [if_neg hc] at h; cases h
  · rintro ⟨h1, h2⟩
    unfold readV at h1
    cases hg : getV V r.key with
    | none => rw [hg] at h1; exact absurd (show atV [] n = (r.val, true) from h1) (by unfold atV; simp)
    | some vs =>
      rw [hg] at h1
      have h1 : atV vs n = (r.val, true) := h1
      refine ⟨_, getV_mem hg, ?_⟩
      show (if (atV vs n).2 && f r.key then some (⟨r.key, (atV vs n).1⟩ : Rw) else none) = some r
      rw [h1, h2]; rfl
theorem scanL_keys (f : ByteArray → Bool) (n : Int) : ∀ V : List (ByteArray × List Vn), ((scanL V f n).map Rw.key).Sublist (V.map (·.1))
  | [] => .slnil
  | e :: V => by
    unfold scanL
    rw [List.filterMap_cons]
    by_cases hc : ((atV e.2 n).2 && f e.1) = true
    · rw [if_pos hc]; exact (scanL_keys f n V).cons_cons _
    · rw [if_neg hc]; exact (scanL_keys f n V).cons _
noncomputable def scanV (V : List (ByteArray × List Vn)) (f : ByteArray → Bool) (n : Int) : List Rw := (scanL V f n).mergeSort fun a b => !slt b.key a.key
theorem scanV_perm (V : List (ByteArray × List Vn)) (f : ByteArray → Bool) (n : Int) : (scanV V f n).Perm (scanL V f n) := List.mergeSort_perm _ _
theorem scanV_ups {V : List (ByteArray × List Vn)} (hn : (V.map (·.1)).Nodup) (f : ByteArray → Bool) (n : Int) : RUps (scanV V f n) := by
  have h1 : (scanV V f n).Pairwise fun a b => (!slt b.key a.key) = true := by
    refine List.pairwise_mergeSort (le := fun a b : Rw => !slt b.key a.key) (fun a b c h1 h2 => ?_) (fun a b => ?_) _
    · simp only [Bool.not_eq_eq_eq_not, Bool.not_true] at h1 h2 ⊢
      exact not_slt_trans h2 h1
    · rcases slt_total a.key b.key with h | h | h
      · simp [slt_asymm h]
      · simp [h, slt_irrefl]
      · simp [slt_asymm h]
  have h2 : ((scanV V f n).map Rw.key).Nodup := ((scanV_perm V f n).map Rw.key).nodup_iff.2 (hn.sublist (scanL_keys f n V))
  rw [List.Nodup, List.pairwise_map] at h2
  refine (h1.and h2).imp fun {a b} h => ?_
  have h3 : slt b.key a.key = false := by simpa using h.1
  exact slt_of_not h3 (fun e => h.2 e.symm)
theorem mem_scanV {V : List (ByteArray × List Vn)} (hn : (V.map (·.1)).Nodup) {f : ByteArray → Bool} {n : Int} {r : Rw} : r ∈ scanV V f n ↔ readV V r.key n = (r.val, true) ∧ f r.key = true :=
  (scanV_perm V f n).mem_iff.trans (mem_scanL hn)
theorem scan_rows {V : List (ByteArray × List Vn)} (hn : (V.map (·.1)).Nodup) {f : ByteArray → Bool} {n : Int} {l : List Rw} (hl : RUps l) (h : ∀ k, readV V k n = valR l k) : scanV V f n = l.filter (fun r => f r.key) := by
  refine (scanV_ups hn f n).ext (hl.filter _) fun r => ?_
  rw [mem_scanV hn, h, valR_iff hl, List.mem_filter]
theorem Past.read {nn frm : Nat} {V : List (ByteArray × List Vn)} {past : List (List Rw)} (h : Past nn frm V past) {m : Int} (hm : (frm : Int) ≤ m) {j : Nat} (hj : (j : Int) = min m nn) (hl : j < past.length) (k : ByteArray) : readV V k m = valR past[j] k := by
  have hle := h.le
  by_cases hn : (nn : Int) ≤ m
  · have e : j = nn := by omega
    subst e
    rw [readV_clip h.inv k hn]; exact h.reads j hl h.le k
  · have e : m = (j : Int) := by omega
    rw [e]; exact h.reads j hl (by omega) k
theorem Past.scan {nn frm : Nat} {V : List (ByteArray × List Vn)} {past : List (List Rw)} (h : Past nn frm V past) {m : Int} (hm : (frm : Int) ≤ m) {j : Nat} (hj : (j : Int) = min m nn) (hl : j < past.length) (f : ByteArray → Bool) : scanV V f m = past[j].filter (fun r => f r.key) :=
  scan_rows h.inv.keys (h.ups _ (List.getElem_mem hl)) (h.read hm hj hl)
/-! Sizes. -/
theorem app_len (c : Ch) : ∀ (l : List Rw) (laid : Bool), (appF c laid l).length ≤ l.length + 1 ∧ (laid = true → (appF c laid l).length ≤ l.length)
  | [], laid => by cases laid <;> simp [appF]
  | x :: l, laid => by
    have i1 := app_len c l true
    have i2 := app_len c l laid
    have h3 := i1.2 rfl
    rw [appF]
    by_cases h1 : laid = false ∧ slt x.key c.key = false
    · rw [if_pos h1, h1.1]
      refine ⟨?_, fun h => by cases h⟩
      split <;> simp <;> omega
    · rw [if_neg h1]
      split
      · exact ⟨by simp; omega, fun h => by have := i2.2 h; simp; omega⟩
      · exact ⟨by simp; omega, fun h => by have := i2.2 h; simp; omega⟩
end Go.Proofs.YtmknhibaoopjjaaGreatDoor
namespace Go.Proofs.YtmknhibaoopjjaaGreatDoor
open Go.RowKit
/-- A row where it lies. -/
theorem rw_cells {w : World} {l : List Rw} {b off i : Nat} (h : ValsAt w (some ⟨b, off, none⟩) (l.flatMap rwC)) (hi : i < l.length) : w.cell? ⟨b, off + i * 2, none⟩ = some (.string l[i].key) ∧ w.cell? ⟨b, off + i * 2 + 1, none⟩ = some (.string l[i].val) := by
  have g0 := flat_get rwC 2 (fun _ => rfl) l i hi 0 (by omega)
  have g1 := flat_get rwC 2 (fun _ => rfl) l i hi 1 (by omega)
  exact ⟨ValsAt.get h g0, by rw [Nat.add_assoc]; exact ValsAt.get h g1⟩
theorem rw_some {w : World} {l : List Rw} {a : Option Addr} {i : Nat} (h : ValsAt w a (l.flatMap rwC)) (hi : i < l.length) : ∃ b off, a = some ⟨b, off, none⟩ :=
  ValsAt.some h (flat_get rwC 2 (fun _ => rfl) l i hi 0 (by omega))
set_option maxHeartbeats 1000000 in
set_option maxRecDepth 100000 in
theorem sameRows_any (a b : Option Addr) (n c d : Nat) (l : List Rw) (w : World) (hl : l.length = n) (hn : n ≤ 100000) (hA : ValsAt w a (l.flatMap rwC)) (hB : ValsAt w b (l.flatMap rwC)) :
    Calls Tryz.prog 25 #[.slice a n c, .slice b n d] w fun e w' => e = .returned (.bool true) ∧ Ext w w' := by
  have hO : Own (fun _ => False) w w [.imm fun w => ValsAt w a (l.flatMap rwC) ∧ ValsAt w b (l.flatMap rwC)] := Own.base w _ fun _ hw' => ⟨vals_up hA hw', vals_up hB hw'⟩
  ((try clear hf); have hf := fa_ hO)
  go_enter Tryz.func25, Tryz.ntmps25
  go_wp2_with (first | ((refine sy_ hO ?_); clear hO; intro w9 hO; (try dsimp only [List.set] at hO); ((try clear hf); have hf := fa_ hO)))
  go_loopw [5] (fun v wr => ∃ k : Nat, v = .int .i64 k ∧ k ≤ n ∧ Own (fun _ => False) w wr [.imm fun w => ValsAt w a (l.flatMap rwC) ∧ ValsAt w b (l.flatMap rwC)]) (fun v _ => n - (intOf v).toNat)
  case atStart => exact ⟨0, rfl, by omega, hO⟩
  case round =>
    clear hO
    obtain ⟨k, rfl, hk, hO⟩ := hrel
    rename World => w0
    ((try clear hf); have hf := fa_ hO)
    by_cases hlt : k < n
    · have hk2 : k < l.length := by omega
      obtain ⟨b1, o1, rfl⟩ := rw_some (a := a) hf.1 hk2
      obtain ⟨b2, o2, rfl⟩ := rw_some (a := b) hf.2 hk2
      have hca := fun w (h : ValsAt w (some ⟨b1, o1, none⟩) (l.flatMap rwC) ∧ ValsAt w (some ⟨b2, o2, none⟩) (l.flatMap rwC)) => rw_cells h.1 hk2
      have hcb := fun w (h : ValsAt w (some ⟨b1, o1, none⟩) (l.flatMap rwC) ∧ ValsAt w (some ⟨b2, o2, none⟩) (l.flatMap rwC)) => rw_cells h.2 hk2
      generalize l[k] = x at *
      go_wp2_with (first | ((refine sy_ hO ?_); clear hO; intro w9 hO; (try dsimp only [List.set] at hO); ((try clear hf); have hf := fa_ hO)))
      (refine wp_region_run (fun _ => True) (fun _ _ _ _ => trivial) trivial ((0, 0) :: (0, 1) :: (0, 2) :: (1, 3) :: (0, 4) :: (0, 5) :: (0, 6) :: (1, 7) :: (0, 8) :: []) (by kernel_rfl) (by kernel_rfl) rfl (fun _ _ d _ _ h => by cases d <;> exact h) ?_; intro w9 hx9; replace hO := hO.ext hx9; clear hx9; ((try clear hf); have hf := fa_ hO); (repeat (first | (apply inRun_p _ rfl rfl rfl; focus (intro w8 K8 hK8; (repeat (first | go_skip | go_guarded | go_step)); exact hK8)) | (apply inRun_l _ rfl rfl rfl; focus (intro w8 hx8 K8 hK8; have hO := hO.ext hx8; ((try clear hf); have hf := fa_ hO); obtain ⟨c0, c1⟩ := hca _ hf; obtain ⟨d0, d1⟩ := hcb _ hf; (repeat (first | go_skip | go_guarded | go_step)); exact hK8)) | (apply inRun_q _ rfl; (focus (intro w8 hx8 K8 hK8; have hO := hO.ext hx8; ((try clear hf); have hf := fa_ hO); (repeat (first | go_skip | go_guarded | go_step | fail)); (first | exact xt_ | exact hK8 _ xt_))); (focus (exact rfl)); intro w8 hx8; replace hO := hO.ext hx8; clear hx8; ((try clear hf); have hf := fa_ hO)))))
      refine inRun_nil ?_
      go_wp2_with (first | ((refine sy_ hO ?_); clear hO; intro w9 hO; (try dsimp only [List.set] at hO); ((try clear hf); have hf := fa_ hO)))
      exact ⟨⟨k + 1, by go_num, by omega, hO⟩, by simp [intOf]; omega⟩
    · go_wp2_with (first | ((refine sy_ hO ?_); clear hO; intro w9 hO; (try dsimp only [List.set] at hO); ((try clear hf); have hf := fa_ hO)))
      go_ret
      exact ⟨rfl, hO.toExt⟩
theorem flat_one (O : List Rw) (x : Rw) : (O ++ [x]).flatMap rwC = O.flatMap rwC ++ [.string x.key, .string x.val] := by rw [List.flatMap_append]; rfl
theorem Tryz.infoRw2 : (Tryz.prog.info? 80).map (fun i => (i.zero, i.size, i.bytes)) = some (some (.agg #[.string ⟨#[]⟩, .string ⟨#[]⟩]), 2, 32) := by kernel_rfl
end Go.Proofs.YtmknhibaoopjjaaGreatDoor
namespace Go.Proofs.YtmknhibaoopjjaaGreatDoor
open Go.RowKit
end Go.Proofs.YtmknhibaoopjjaaGreatDoor
namespace Go.Proofs.YtmknhibaoopjjaaGreatDoor
open Go.RowKit
end Go.Proofs.YtmknhibaoopjjaaGreatDoor
namespace Go.Proofs.YtmknhibaoopjjaaGreatDoor
open Go.RowKit
theorem appF_tn {c : Ch} {x : Rw} {l : List Rw} (h : x.key ≠ c.key) : appF c true (x :: l) = x :: appF c true l := by rw [appF, if_neg (fun h => by cases h.1), if_neg h]
theorem appF_te {c : Ch} {x : Rw} {l : List Rw} (h : x.key = c.key) : appF c true (x :: l) = appF c true l := by rw [appF, if_neg (fun h => by cases h.1), if_pos h]
theorem appF_lt {c : Ch} {x : Rw} {l : List Rw} (h : slt x.key c.key = true) : appF c false (x :: l) = x :: appF c false l := by
  rw [appF, if_neg (fun h2 => by rw [h] at h2; cases h2.2), if_neg (slt_ne h)]
theorem appF_ge {c : Ch} {x : Rw} {l : List Rw} (h : slt x.key c.key = false) (h2 : x.key = c.key) : appF c false (x :: l) = ⟨c.key, c.val⟩ :: appF c true l := by rw [appF, if_pos ⟨rfl, h⟩, if_pos h2]
theorem appF_gn {c : Ch} {x : Rw} {l : List Rw} (h : slt x.key c.key = false) (h2 : x.key ≠ c.key) : appF c false (x :: l) = ⟨c.key, c.val⟩ :: x :: appF c true l := by rw [appF, if_pos ⟨rfl, h⟩, if_neg h2]
set_option maxHeartbeats 4000000 in
set_option maxRecDepth 100000 in
theorem applied_does (a : Option Addr) (n c : Nat) (l : List Rw) (ca : Option Addr) (cn cc : Nat) (C : List Ch) (hl : l.length = n) (hn : n ≤ 50000) (hC : C.length = cn) (hcn : cn ≤ 100) {φ : World → Prop} (hφ : ∀ w, φ w → ValsAt w a (l.flatMap rwC)) (hψ : ∀ w, φ w → ValsAt w ca (chs C)) :
    Does Tryz.prog 51 #[.slice a n c, .slice ca cn cc] [.imm φ] (fun p : Option Addr × Nat => (.slice p.1 (C.foldl appR l).length p.2, [Row2 80 2 p.1 (C.foldl appR l).length p.2 ((C.foldl appR l).flatMap rwC), .imm φ])) := by
  obtain ⟨iR, hiR, hzR, hsR, hbR⟩ := info_parts Tryz.infoRw2
  have hfl := flat_len rwC 2 (fun _ => rfl) l
  have HFL := Lib.hid (show (l.flatMap rwC).length = n * 2 by rw [hfl, hl])
  clear hfl
  have hone : ∀ u ∈ l.flatMap rwC, u.oneCell' = true := fun u hu => by
    obtain ⟨x, _, hx⟩ := List.mem_flatMap.1 hu
    simp [rwC] at hx
    rcases hx with rfl | rfl <;> rfl
  have HONE := Lib.hid hone
  clear hone
  intro S W w L0 hO; simp only [CA] at hO
  replace hO := hO.nil 80 2
  ((try clear hf); have hf := fa_ hO)
  go_enter Tryz.func51, Tryz.ntmps51
  go_wp2_with (first | (at_builtin; (refine wpList_append_src (e := 80) (size := 2) (n := 0) (vc := 0) (xs := []) (va := none) hO pk_ rfl _ (.tmp 10) 22 rfl iR _ 32 Tryz.underlying22 hiR hzR hsR hbR rfl (by omega) rfl a n c (l.flatMap rwC) rfl HFL.out (hφ _ (Own.immOf (φ := φ) hO pk_)) HONE.out (by unfold maxLen; omega) (by omega) ?_; clear hO; intro ka9 kc9 w9 hO; ((try clear hf); have hf := fa_ hO))) | ((refine sy_ hO ?_); clear hO; intro w9 hO; (try dsimp only [List.set] at hO); ((try clear hf); have hf := fa_ hO)))
  simp only [Nat.zero_add, List.nil_append] at hO ⊢
  have hO9 := hO
  clear hO hf
  go_loopw [5, 6] (fun v5 v6 wr => ∃ (i on : Nat) (oa : Option Addr) (oc : Nat) (O : List Rw), v5 = .slice oa on oc ∧ v6 = .int .i64 i ∧ i ≤ cn ∧ on ≤ n + i ∧ Hid (on = O.length) ∧ Hid (O = (C.take i).foldl appR l) ∧ Own S W wr ([Row2 80 2 oa on oc (O.flatMap rwC), .imm φ] ++ L0)) (fun _ v _ => cn - (intOf v).toNat)
  case atStart => exact ⟨0, n, _, _, l, rfl, rfl, by omega, by omega, Lib.hid hl.symm, Lib.hid rfl, by (try simp only [CA]); exact hO9.cut sb_⟩
  case round =>
    clear hO9
    obtain ⟨i, on, oa, oc, O, rfl, rfl, hi, hon, HON, HO, hO⟩ := hrel
    rename World => w1
    simp only [List.cons_append, List.nil_append] at hO
    ((try clear hf); have hf := fa_ hO)
    by_cases hlt : i < cn
    · have hi2 : i < C.length := by omega
      obtain ⟨b1, o1, rfl⟩ := ChAt.some (a := ca) (hψ _ (Own.immOf (φ := φ) hO pk_)) (by omega)
      have hcy := fun w h => ChAt.at (w := w) (l := C) (b := b1) (off := o1) (hψ w h) hi2
      have HS := Lib.hid (show (C.take (i + 1)).foldl appR l = appR O C[i] by rw [List.take_succ_eq_append_getElem hi2, List.foldl_append, HO.out]; rfl)
      have HLE := Lib.hid ((app_len C[i] O C[i].gone).1)
      generalize C[i] = x at *
      obtain ⟨xk, xv, xg⟩ := x
      dsimp only at hcy
      obtain ⟨d0, d1, d2⟩ := hcy _ (Own.immOf (φ := φ) hO pk_)
      go_wp2_with (first | ((refine sy_ hO ?_); clear hO; intro w9 hO; (try dsimp only [List.set] at hO); ((try clear hf); have hf := fa_ hO)))
      have hO9 := hO.nil 80 2
      clear hO hf
      go_loopw [7, 8, 9] (fun v7 v8 v9 wr => ∃ (k nm : Nat) (na : Option Addr) (nc : Nat) (N : List Rw) (laid : Bool), v7 = .slice na nm nc ∧ v8 = .bool laid ∧ v9 = .int .i64 k ∧ k ≤ on ∧ nm ≤ 2 * k ∧ Hid (nm = N.length) ∧ Hid (N ++ appF ⟨xk, xv, xg⟩ laid (O.drop k) = appR O ⟨xk, xv, xg⟩) ∧ Own S W wr ([Row2 80 2 na nm nc (N.flatMap rwC), Row2 80 2 oa on oc (O.flatMap rwC), .imm φ] ++ L0)) (fun _ _ v _ => on - (intOf v).toNat)
      case atStart => exact ⟨0, 0, none, 0, [], xg, rfl, rfl, rfl, by omega, by omega, Lib.hid rfl, Lib.hid rfl, by rw [show ([] : List Rw).flatMap rwC = [] from rfl]; (try simp only [CA]); exact hO9.cut sb_⟩
      case round =>
        clear hO9
        obtain ⟨k, nm, na, nc, N, laid, rfl, rfl, rfl, hk, hnm, HNM, HE, hO⟩ := hrel
        rename World => w2
        simp only [List.cons_append, List.nil_append] at hO
        ((try clear hf); have hf := fa_ hO)
        by_cases hkt : k < on
        · have hk2 : k < O.length := by have := HON.out; omega
          obtain ⟨b, off, rfl⟩ := rw_some (hO.factOf (r := Row2 80 2 oa on oc (O.flatMap rwC)) pk_).1 hk2
          have hcell := fun w (h : ValsAt w (some ⟨b, off, none⟩) (O.flatMap rwC)) => rw_cells h hk2
          have HD := Lib.hid (List.drop_eq_getElem_cons hk2)
          generalize O[k] = y at *
          cases laid with
          | true =>
            by_cases hy : y.key = xk
            · have hy2 : y.key.toList = xk.toList := by rw [hy]
              have hy3 : xk.toList = y.key.toList := hy2.symm
              have HE2 := Lib.hid (show N ++ appF ⟨xk, xv, xg⟩ true (O.drop (k + 1)) = appR O ⟨xk, xv, xg⟩ by rw [← HE.out, HD.out, appF_te hy])
              clear HE HD
              go_wp2_with (first | ((refine sy_ hO ?_); clear hO; intro w9 hO; (try dsimp only [List.set] at hO); ((try clear hf); have hf := fa_ hO)))
              (refine wp_region_run (fun _ => True) (fun _ _ _ _ => trivial) trivial ((0, 0) :: (0, 1) :: (0, 2) :: (0, 3) :: (0, 4) :: (0, 5) :: (0, 6) :: (1, 7) :: (0, 8) :: (0, 9) :: (0, 10) :: (0, 11) :: (1, 12) :: (0, 13) :: (0, 14) :: []) (by kernel_rfl) (by kernel_rfl) rfl (fun _ _ d _ _ h => by cases d <;> exact h) ?_; intro w9 hx9; replace hO := hO.ext hx9; clear hx9; ((try clear hf); have hf := fa_ hO); (repeat (first | (apply inRun_p _ rfl rfl rfl; focus (intro w8 K8 hK8; (repeat (first | go_skip | go_guarded | go_step)); exact hK8)) | (apply inRun_l _ rfl rfl rfl; focus (intro w8 hx8 K8 hK8; have hO := hO.ext hx8; ((try clear hf); have hf := fa_ hO); (obtain ⟨c0, c1⟩ := hcell _ (hO.factOf (r := Row2 80 2 (some ⟨b, off, none⟩) on oc (O.flatMap rwC)) pk_).1; obtain ⟨d0, d1, d2⟩ := hcy _ (Own.immOf (φ := φ) hO pk_)); (repeat (first | go_skip | go_guarded | go_step)); exact hK8)) | (apply inRun_q _ rfl; (focus (intro w8 hx8 K8 hK8; have hO := hO.ext hx8; ((try clear hf); have hf := fa_ hO); (repeat (first | go_skip | go_guarded | go_step | fail)); (first | exact xt_ | exact hK8 _ xt_))); (focus (exact rfl)); intro w8 hx8; replace hO := hO.ext hx8; clear hx8; ((try clear hf); have hf := fa_ hO)))))
              refine inRun_nil ?_
              go_wp2_with (first | ((refine sy_ hO ?_); clear hO; intro w9 hO; (try dsimp only [List.set] at hO); ((try clear hf); have hf := fa_ hO)))
              (refine wp_region_run (fun _ => True) (fun _ _ _ _ => trivial) trivial ((0, 0) :: (0, 1) :: (0, 2) :: (0, 3) :: (1, 4) :: (0, 5) :: (0, 6) :: (0, 7) :: (0, 8) :: (1, 9) :: (0, 10) :: []) (by kernel_rfl) (by kernel_rfl) rfl (fun _ _ d _ _ h => by cases d <;> exact h) ?_; intro w9 hx9; replace hO := hO.ext hx9; clear hx9; ((try clear hf); have hf := fa_ hO); (repeat (first | (apply inRun_p _ rfl rfl rfl; focus (intro w8 K8 hK8; (repeat (first | go_skip | go_guarded | go_step)); exact hK8)) | (apply inRun_l _ rfl rfl rfl; focus (intro w8 hx8 K8 hK8; have hO := hO.ext hx8; ((try clear hf); have hf := fa_ hO); (obtain ⟨c0, c1⟩ := hcell _ (hO.factOf (r := Row2 80 2 (some ⟨b, off, none⟩) on oc (O.flatMap rwC)) pk_).1; obtain ⟨d0, d1, d2⟩ := hcy _ (Own.immOf (φ := φ) hO pk_)); (repeat (first | go_skip | go_guarded | go_step)); exact hK8)) | (apply inRun_q _ rfl; (focus (intro w8 hx8 K8 hK8; have hO := hO.ext hx8; ((try clear hf); have hf := fa_ hO); (repeat (first | go_skip | go_guarded | go_step | fail)); (first | exact xt_ | exact hK8 _ xt_))); (focus (exact rfl)); intro w8 hx8; replace hO := hO.ext hx8; clear hx8; ((try clear hf); have hf := fa_ hO)))))
              refine inRun_nil ?_
              go_wp2_with (first | ((refine sy_ hO ?_); clear hO; intro w9 hO; (try dsimp only [List.set] at hO); ((try clear hf); have hf := fa_ hO)))
              (refine ⟨⟨k + 1, nm, na, nc, N, true, rfl, rfl, by go_num, by omega, by omega, HNM, HE2, ?_⟩, by simp [intOf]; omega⟩; (try simp only [CA]); exact hO.cut sb_)
            · have hy2 : ¬ y.key.toList = xk.toList := fun e => hy (toList_inj e)
              have hy3 : ¬ xk.toList = y.key.toList := fun e => hy2 e.symm; have hb3 : (y.key.toList == xk.toList) = false := by simpa using hy2
              have HE2 := Lib.hid (show (N ++ [y]) ++ appF ⟨xk, xv, xg⟩ true (O.drop (k + 1)) = appR O ⟨xk, xv, xg⟩ by rw [← HE.out, HD.out, appF_tn hy, List.append_assoc]; rfl)
              clear HE HD hy
              go_wp2_with (first | ((refine sy_ hO ?_); clear hO; intro w9 hO; (try dsimp only [List.set] at hO); ((try clear hf); have hf := fa_ hO)))
              (refine wp_region_run (fun _ => True) (fun _ _ _ _ => trivial) trivial ((0, 0) :: (0, 1) :: (0, 2) :: (0, 3) :: (0, 4) :: (0, 5) :: (0, 6) :: (1, 7) :: (0, 8) :: (0, 9) :: (0, 10) :: (0, 11) :: (1, 12) :: (0, 13) :: (0, 14) :: []) (by kernel_rfl) (by kernel_rfl) rfl (fun _ _ d _ _ h => by cases d <;> exact h) ?_; intro w9 hx9; replace hO := hO.ext hx9; clear hx9; ((try clear hf); have hf := fa_ hO); (repeat (first | (apply inRun_p _ rfl rfl rfl; focus (intro w8 K8 hK8; (repeat (first | go_skip | go_guarded | go_step)); exact hK8)) | (apply inRun_l _ rfl rfl rfl; focus (intro w8 hx8 K8 hK8; have hO := hO.ext hx8; ((try clear hf); have hf := fa_ hO); (obtain ⟨c0, c1⟩ := hcell _ (hO.factOf (r := Row2 80 2 (some ⟨b, off, none⟩) on oc (O.flatMap rwC)) pk_).1; obtain ⟨d0, d1, d2⟩ := hcy _ (Own.immOf (φ := φ) hO pk_)); (repeat (first | go_skip | go_guarded | go_step)); exact hK8)) | (apply inRun_q _ rfl; (focus (intro w8 hx8 K8 hK8; have hO := hO.ext hx8; ((try clear hf); have hf := fa_ hO); (repeat (first | go_skip | go_guarded | go_step | fail)); (first | exact xt_ | exact hK8 _ xt_))); (focus (exact rfl)); intro w8 hx8; replace hO := hO.ext hx8; clear hx8; ((try clear hf); have hf := fa_ hO)))))
              refine inRun_nil ?_
              go_wp2_with (first | ((refine sy_ hO ?_); clear hO; intro w9 hO; (try dsimp only [List.set] at hO); ((try clear hf); have hf := fa_ hO)))
              (refine wp_region_run (fun _ => True) (fun _ _ _ _ => trivial) trivial ((0, 0) :: (0, 1) :: (0, 2) :: (0, 3) :: (1, 4) :: (0, 5) :: (0, 6) :: (0, 7) :: (0, 8) :: (1, 9) :: (0, 10) :: []) (by kernel_rfl) (by kernel_rfl) rfl (fun _ _ d _ _ h => by cases d <;> exact h) ?_; intro w9 hx9; replace hO := hO.ext hx9; clear hx9; ((try clear hf); have hf := fa_ hO); (repeat (first | (apply inRun_p _ rfl rfl rfl; focus (intro w8 K8 hK8; (repeat (first | go_skip | go_guarded | go_step)); exact hK8)) | (apply inRun_l _ rfl rfl rfl; focus (intro w8 hx8 K8 hK8; have hO := hO.ext hx8; ((try clear hf); have hf := fa_ hO); (obtain ⟨c0, c1⟩ := hcell _ (hO.factOf (r := Row2 80 2 (some ⟨b, off, none⟩) on oc (O.flatMap rwC)) pk_).1; obtain ⟨d0, d1, d2⟩ := hcy _ (Own.immOf (φ := φ) hO pk_)); (repeat (first | go_skip | go_guarded | go_step)); exact hK8)) | (apply inRun_q _ rfl; (focus (intro w8 hx8 K8 hK8; have hO := hO.ext hx8; ((try clear hf); have hf := fa_ hO); (repeat (first | go_skip | go_guarded | go_step | fail)); (first | exact xt_ | exact hK8 _ xt_))); (focus (exact rfl)); intro w8 hx8; replace hO := hO.ext hx8; clear hx8; ((try clear hf); have hf := fa_ hO)))))
              refine inRun_nil ?_
              (obtain ⟨c0, c1⟩ := hcell _ (hO.factOf (r := Row2 80 2 (some ⟨b, off, none⟩) on oc (O.flatMap rwC)) pk_).1; obtain ⟨d0, d1, d2⟩ := hcy _ (Own.immOf (φ := φ) hO pk_))
              go_wp2_with (first | (at_builtin; (refine wpList_append_var (e := 80) (size := 2) (xs := N.flatMap rwC) (news := [.string y.key, .string y.val]) hO pk_ pk_ rfl (.tmp 69) (.tmp 74) 22 rfl iR _ 32 Tryz.underlying22 hiR hzR hsR hbR rfl (by omega) rfl _ _ rfl (by rfl) (by repeat (first | exact ones_nil | refine ones_cons rfl ?_)) (by unfold maxLen; omega) (by omega) ?_; clear hO; intro ka9 kc9 w9 hO; ((try clear hf); have hf := fa_ hO))) | ((refine sy_ hO ?_); clear hO; intro w9 hO; (try dsimp only [List.set] at hO); ((try clear hf); have hf := fa_ hO)))
              (refine ⟨⟨k + 1, nm + 1, ka9, kc9, N ++ [y], true, rfl, rfl, by go_num, by omega, by omega, Lib.hid (by rw [List.length_append, ← HNM.out]; rfl), HE2, ?_⟩, by simp [intOf]; omega⟩; rw [flat_one]; (try simp only [CA]); exact hO.cut sb_)
          | false =>
            cases hs : slt y.key xk with
            | true =>
              have hy := slt_ne hs
              have hs2 := slt_asymm hs
              have hy2 : ¬ y.key.toList = xk.toList := fun e => hy (toList_inj e)
              have hy3 : ¬ xk.toList = y.key.toList := fun e => hy2 e.symm; have hb3 : (y.key.toList == xk.toList) = false := by simpa using hy2
              have hb2 : (xk.toList == y.key.toList) = false := by simpa using hy3
              have hle2 : (Op.bytesLess xk.toList y.key.toList || xk.toList == y.key.toList) = false := by rw [ble_eq, hs]; rfl
              have HE2 := Lib.hid (show (N ++ [y]) ++ appF ⟨xk, xv, xg⟩ false (O.drop (k + 1)) = appR O ⟨xk, xv, xg⟩ by rw [← HE.out, HD.out, appF_lt hs, List.append_assoc]; rfl)
              clear HE HD hy
              unfold slt at hs hs2
              go_wp2_with (first | ((refine sy_ hO ?_); clear hO; intro w9 hO; (try dsimp only [List.set] at hO); ((try clear hf); have hf := fa_ hO)))
              (refine wp_region_run (fun _ => True) (fun _ _ _ _ => trivial) trivial ((0, 0) :: (0, 1) :: (0, 2) :: (0, 3) :: (0, 4) :: (0, 5) :: (0, 6) :: (1, 7) :: (0, 8) :: (0, 9) :: (0, 10) :: (0, 11) :: (1, 12) :: (0, 13) :: (0, 14) :: []) (by kernel_rfl) (by kernel_rfl) rfl (fun _ _ d _ _ h => by cases d <;> exact h) ?_; intro w9 hx9; replace hO := hO.ext hx9; clear hx9; ((try clear hf); have hf := fa_ hO); (repeat (first | (apply inRun_p _ rfl rfl rfl; focus (intro w8 K8 hK8; (repeat (first | go_skip | go_guarded | go_step)); exact hK8)) | (apply inRun_l _ rfl rfl rfl; focus (intro w8 hx8 K8 hK8; have hO := hO.ext hx8; ((try clear hf); have hf := fa_ hO); (obtain ⟨c0, c1⟩ := hcell _ (hO.factOf (r := Row2 80 2 (some ⟨b, off, none⟩) on oc (O.flatMap rwC)) pk_).1; obtain ⟨d0, d1, d2⟩ := hcy _ (Own.immOf (φ := φ) hO pk_)); (repeat (first | go_skip | go_guarded | go_step)); exact hK8)) | (apply inRun_q _ rfl; (focus (intro w8 hx8 K8 hK8; have hO := hO.ext hx8; ((try clear hf); have hf := fa_ hO); (repeat (first | go_skip | go_guarded | go_step | fail)); (first | exact xt_ | exact hK8 _ xt_))); (focus (exact rfl)); intro w8 hx8; replace hO := hO.ext hx8; clear hx8; ((try clear hf); have hf := fa_ hO)))))
              refine inRun_nil ?_
              go_wp2_with (first | ((refine sy_ hO ?_); clear hO; intro w9 hO; (try dsimp only [List.set] at hO); ((try clear hf); have hf := fa_ hO)))
              (refine wp_region_run (fun _ => True) (fun _ _ _ _ => trivial) trivial ((0, 0) :: (0, 1) :: (0, 2) :: (0, 3) :: (1, 4) :: (0, 5) :: (0, 6) :: (0, 7) :: (0, 8) :: (1, 9) :: (0, 10) :: []) (by kernel_rfl) (by kernel_rfl) rfl (fun _ _ d _ _ h => by cases d <;> exact h) ?_; intro w9 hx9; replace hO := hO.ext hx9; clear hx9; ((try clear hf); have hf := fa_ hO); (repeat (first | (apply inRun_p _ rfl rfl rfl; focus (intro w8 K8 hK8; (repeat (first | go_skip | go_guarded | go_step)); exact hK8)) | (apply inRun_l _ rfl rfl rfl; focus (intro w8 hx8 K8 hK8; have hO := hO.ext hx8; ((try clear hf); have hf := fa_ hO); (obtain ⟨c0, c1⟩ := hcell _ (hO.factOf (r := Row2 80 2 (some ⟨b, off, none⟩) on oc (O.flatMap rwC)) pk_).1; obtain ⟨d0, d1, d2⟩ := hcy _ (Own.immOf (φ := φ) hO pk_)); (repeat (first | go_skip | go_guarded | go_step)); exact hK8)) | (apply inRun_q _ rfl; (focus (intro w8 hx8 K8 hK8; have hO := hO.ext hx8; ((try clear hf); have hf := fa_ hO); (repeat (first | go_skip | go_guarded | go_step | fail)); (first | exact xt_ | exact hK8 _ xt_))); (focus (exact rfl)); intro w8 hx8; replace hO := hO.ext hx8; clear hx8; ((try clear hf); have hf := fa_ hO)))))
              refine inRun_nil ?_
              (obtain ⟨c0, c1⟩ := hcell _ (hO.factOf (r := Row2 80 2 (some ⟨b, off, none⟩) on oc (O.flatMap rwC)) pk_).1; obtain ⟨d0, d1, d2⟩ := hcy _ (Own.immOf (φ := φ) hO pk_))
              go_wp2_with (first | (at_builtin; (refine wpList_append_var (e := 80) (size := 2) (xs := N.flatMap rwC) (news := [.string y.key, .string y.val]) hO pk_ pk_ rfl (.tmp 69) (.tmp 74) 22 rfl iR _ 32 Tryz.underlying22 hiR hzR hsR hbR rfl (by omega) rfl _ _ rfl (by rfl) (by repeat (first | exact ones_nil | refine ones_cons rfl ?_)) (by unfold maxLen; omega) (by omega) ?_; clear hO; intro ka9 kc9 w9 hO; ((try clear hf); have hf := fa_ hO))) | ((refine sy_ hO ?_); clear hO; intro w9 hO; (try dsimp only [List.set] at hO); ((try clear hf); have hf := fa_ hO)))
              (refine ⟨⟨k + 1, nm + 1, ka9, kc9, N ++ [y], false, rfl, rfl, by go_num, by omega, by omega, Lib.hid (by rw [List.length_append, ← HNM.out]; rfl), HE2, ?_⟩, by simp [intOf]; omega⟩; rw [flat_one]; (try simp only [CA]); exact hO.cut sb_)
            | false =>
              have hle2 : (Op.bytesLess xk.toList y.key.toList || xk.toList == y.key.toList) = true := by rw [ble_eq, hs]; rfl
              have hle3 : Op.bytesLess xk.toList y.key.toList = true ∨ xk.toList = y.key.toList := by simpa using hle2
              by_cases hy : y.key = xk
              · have hy2 : y.key.toList = xk.toList := by rw [hy]
                have HE2 := Lib.hid (show (N ++ [⟨xk, xv⟩]) ++ appF ⟨xk, xv, xg⟩ true (O.drop (k + 1)) = appR O ⟨xk, xv, xg⟩ by rw [← HE.out, HD.out, appF_ge hs hy, List.append_assoc]; rfl)
                clear HE HD hy
                unfold slt at hs
                go_wp2_with (first | ((refine sy_ hO ?_); clear hO; intro w9 hO; (try dsimp only [List.set] at hO); ((try clear hf); have hf := fa_ hO)))
                (refine wp_region_run (fun _ => True) (fun _ _ _ _ => trivial) trivial ((0, 0) :: (0, 1) :: (0, 2) :: (0, 3) :: (0, 4) :: (0, 5) :: (0, 6) :: (1, 7) :: (0, 8) :: (0, 9) :: (0, 10) :: (0, 11) :: (1, 12) :: (0, 13) :: (0, 14) :: []) (by kernel_rfl) (by kernel_rfl) rfl (fun _ _ d _ _ h => by cases d <;> exact h) ?_; intro w9 hx9; replace hO := hO.ext hx9; clear hx9; ((try clear hf); have hf := fa_ hO); (repeat (first | (apply inRun_p _ rfl rfl rfl; focus (intro w8 K8 hK8; (repeat (first | go_skip | go_guarded | go_step)); exact hK8)) | (apply inRun_l _ rfl rfl rfl; focus (intro w8 hx8 K8 hK8; have hO := hO.ext hx8; ((try clear hf); have hf := fa_ hO); (obtain ⟨c0, c1⟩ := hcell _ (hO.factOf (r := Row2 80 2 (some ⟨b, off, none⟩) on oc (O.flatMap rwC)) pk_).1; obtain ⟨d0, d1, d2⟩ := hcy _ (Own.immOf (φ := φ) hO pk_)); (repeat (first | go_skip | go_guarded | go_step)); exact hK8)) | (apply inRun_q _ rfl; (focus (intro w8 hx8 K8 hK8; have hO := hO.ext hx8; ((try clear hf); have hf := fa_ hO); (repeat (first | go_skip | go_guarded | go_step | fail)); (first | exact xt_ | exact hK8 _ xt_))); (focus (exact rfl)); intro w8 hx8; replace hO := hO.ext hx8; clear hx8; ((try clear hf); have hf := fa_ hO)))))
                refine inRun_nil ?_
                go_wp2_with (first | ((refine sy_ hO ?_); clear hO; intro w9 hO; (try dsimp only [List.set] at hO); ((try clear hf); have hf := fa_ hO)))
                (refine wp_region_run (fun _ => True) (fun _ _ _ _ => trivial) trivial ((0, 0) :: (0, 1) :: (0, 2) :: (0, 3) :: (0, 4) :: (1, 5) :: (0, 6) :: (0, 7) :: (0, 8) :: (0, 9) :: (1, 10) :: (0, 11) :: (4, 12) :: (5, 13) :: (0, 14) :: []) (by kernel_rfl) (by kernel_rfl) rfl (fun _ _ d _ _ h => by cases d <;> exact h) ?_; intro w9 hx9; replace hO := hO.ext hx9; clear hx9; ((try clear hf); have hf := fa_ hO); (repeat (first | (apply inRun_p _ rfl rfl rfl; focus (intro w8 K8 hK8; (repeat (first | go_skip | go_guarded | go_step)); exact hK8)) | (apply inRun_l _ rfl rfl rfl; focus (intro w8 hx8 K8 hK8; have hO := hO.ext hx8; ((try clear hf); have hf := fa_ hO); (obtain ⟨c0, c1⟩ := hcell _ (hO.factOf (r := Row2 80 2 (some ⟨b, off, none⟩) on oc (O.flatMap rwC)) pk_).1; obtain ⟨d0, d1, d2⟩ := hcy _ (Own.immOf (φ := φ) hO pk_)); (repeat (first | go_skip | go_guarded | go_step)); exact hK8)) | (apply inRun_q _ rfl; (focus (intro w8 hx8 K8 hK8; have hO := hO.ext hx8; ((try clear hf); have hf := fa_ hO); (repeat (first | go_skip | go_guarded | go_step | fail)); (first | exact xt_ | exact hK8 _ xt_))); (focus (exact rfl)); intro w8 hx8; replace hO := hO.ext hx8; clear hx8; ((try clear hf); have hf := fa_ hO)))))
                (refine inRun_x rfl ?_; intro K8 hK8; (repeat (first | go_skip | go_guarded | go_step)); refine hK8 _ _ xt_ ?_; clear hK8 K8; with_reducible refine inRun_alloc_own hO ?_; clear hO; intro w9 hO; ((try clear hf); have hf := fa_ hO))
                (refine inRun_d rfl ?_; intro K8 hK8; (repeat (first | go_skip | go_guarded)); refine wpList_append_var (e := 80) (size := 2) (xs := N.flatMap rwC) (news := [.string xk, .string xv]) hO pk_ pk_ rfl (.tmp 44) (.tmp 56) 22 rfl iR _ 32 Tryz.underlying22 hiR hzR hsR hbR rfl (by omega) rfl _ _ rfl (by rfl) (by repeat (first | exact ones_nil | refine ones_cons rfl ?_)) (by unfold maxLen; omega) (by omega) ?_; clear hO; intro ka9 kc9 w9 hO; ((try clear hf); have hf := fa_ hO); (repeat go_step); refine hK8 _ _ trivial ?_; clear hK8 K8)
                (repeat (first | (apply inRun_p _ rfl rfl rfl; focus (intro w8 K8 hK8; (repeat (first | go_skip | go_guarded | go_step)); exact hK8)) | (apply inRun_l _ rfl rfl rfl; focus (intro w8 hx8 K8 hK8; have hO := hO.ext hx8; ((try clear hf); have hf := fa_ hO); skip; (repeat (first | go_skip | go_guarded | go_step)); exact hK8)) | (apply inRun_q _ rfl; (focus (intro w8 hx8 K8 hK8; have hO := hO.ext hx8; ((try clear hf); have hf := fa_ hO); (repeat (first | go_skip | go_guarded | go_step | fail)); (first | exact xt_ | exact hK8 _ xt_))); (focus (exact rfl)); intro w8 hx8; replace hO := hO.ext hx8; clear hx8; ((try clear hf); have hf := fa_ hO))))
                refine inRun_nil ?_
                go_wp2_with (first | ((refine sy_ hO ?_); clear hO; intro w9 hO; (try dsimp only [List.set] at hO); ((try clear hf); have hf := fa_ hO)))
                (refine wp_region_run (fun _ => True) (fun _ _ _ _ => trivial) trivial ((0, 0) :: (0, 1) :: (0, 2) :: (0, 3) :: (1, 4) :: (0, 5) :: (0, 6) :: (0, 7) :: (0, 8) :: (1, 9) :: (0, 10) :: []) (by kernel_rfl) (by kernel_rfl) rfl (fun _ _ d _ _ h => by cases d <;> exact h) ?_; intro w9 hx9; replace hO := hO.ext hx9; clear hx9; ((try clear hf); have hf := fa_ hO); (repeat (first | (apply inRun_p _ rfl rfl rfl; focus (intro w8 K8 hK8; (repeat (first | go_skip | go_guarded | go_step)); exact hK8)) | (apply inRun_l _ rfl rfl rfl; focus (intro w8 hx8 K8 hK8; have hO := hO.ext hx8; ((try clear hf); have hf := fa_ hO); (obtain ⟨c0, c1⟩ := hcell _ (hO.factOf (r := Row2 80 2 (some ⟨b, off, none⟩) on oc (O.flatMap rwC)) pk_).1; obtain ⟨d0, d1, d2⟩ := hcy _ (Own.immOf (φ := φ) hO pk_)); (repeat (first | go_skip | go_guarded | go_step)); exact hK8)) | (apply inRun_q _ rfl; (focus (intro w8 hx8 K8 hK8; have hO := hO.ext hx8; ((try clear hf); have hf := fa_ hO); (repeat (first | go_skip | go_guarded | go_step | fail)); (first | exact xt_ | exact hK8 _ xt_))); (focus (exact rfl)); intro w8 hx8; replace hO := hO.ext hx8; clear hx8; ((try clear hf); have hf := fa_ hO)))))
                refine inRun_nil ?_
                go_wp2_with (first | ((refine sy_ hO ?_); clear hO; intro w9 hO; (try dsimp only [List.set] at hO); ((try clear hf); have hf := fa_ hO)))
                (refine ⟨⟨k + 1, nm + 1, ka9, kc9, N ++ [⟨xk, xv⟩], true, rfl, rfl, by go_num, by omega, by omega, Lib.hid (by rw [List.length_append, ← HNM.out]; rfl), HE2, ?_⟩, by simp [intOf]; omega⟩; rw [flat_one]; (try simp only [CA]); exact hO.cut sb_)
              · have hy2 : ¬ y.key.toList = xk.toList := fun e => hy (toList_inj e)
                have hy3 : ¬ xk.toList = y.key.toList := fun e => hy2 e.symm; have hb3 : (y.key.toList == xk.toList) = false := by simpa using hy2
                have HE2 := Lib.hid (show (N ++ [⟨xk, xv⟩] ++ [y]) ++ appF ⟨xk, xv, xg⟩ true (O.drop (k + 1)) = appR O ⟨xk, xv, xg⟩ by rw [← HE.out, HD.out, appF_gn hs hy, List.append_assoc, List.append_assoc]; rfl)
                clear HE HD hy
                unfold slt at hs
                go_wp2_with (first | ((refine sy_ hO ?_); clear hO; intro w9 hO; (try dsimp only [List.set] at hO); ((try clear hf); have hf := fa_ hO)))
                (refine wp_region_run (fun _ => True) (fun _ _ _ _ => trivial) trivial ((0, 0) :: (0, 1) :: (0, 2) :: (0, 3) :: (0, 4) :: (0, 5) :: (0, 6) :: (1, 7) :: (0, 8) :: (0, 9) :: (0, 10) :: (0, 11) :: (1, 12) :: (0, 13) :: (0, 14) :: []) (by kernel_rfl) (by kernel_rfl) rfl (fun _ _ d _ _ h => by cases d <;> exact h) ?_; intro w9 hx9; replace hO := hO.ext hx9; clear hx9; ((try clear hf); have hf := fa_ hO); (repeat (first | (apply inRun_p _ rfl rfl rfl; focus (intro w8 K8 hK8; (repeat (first | go_skip | go_guarded | go_step)); exact hK8)) | (apply inRun_l _ rfl rfl rfl; focus (intro w8 hx8 K8 hK8; have hO := hO.ext hx8; ((try clear hf); have hf := fa_ hO); (obtain ⟨c0, c1⟩ := hcell _ (hO.factOf (r := Row2 80 2 (some ⟨b, off, none⟩) on oc (O.flatMap rwC)) pk_).1; obtain ⟨d0, d1, d2⟩ := hcy _ (Own.immOf (φ := φ) hO pk_)); (repeat (first | go_skip | go_guarded | go_step)); exact hK8)) | (apply inRun_q _ rfl; (focus (intro w8 hx8 K8 hK8; have hO := hO.ext hx8; ((try clear hf); have hf := fa_ hO); (repeat (first | go_skip | go_guarded | go_step | fail)); (first | exact xt_ | exact hK8 _ xt_))); (focus (exact rfl)); intro w8 hx8; replace hO := hO.ext hx8; clear hx8; ((try clear hf); have hf := fa_ hO)))))
                refine inRun_nil ?_
                go_wp2_with (first | ((refine sy_ hO ?_); clear hO; intro w9 hO; (try dsimp only [List.set] at hO); ((try clear hf); have hf := fa_ hO)))
                (refine wp_region_run (fun _ => True) (fun _ _ _ _ => trivial) trivial ((0, 0) :: (0, 1) :: (0, 2) :: (0, 3) :: (0, 4) :: (1, 5) :: (0, 6) :: (0, 7) :: (0, 8) :: (0, 9) :: (1, 10) :: (0, 11) :: (4, 12) :: (5, 13) :: (0, 14) :: []) (by kernel_rfl) (by kernel_rfl) rfl (fun _ _ d _ _ h => by cases d <;> exact h) ?_; intro w9 hx9; replace hO := hO.ext hx9; clear hx9; ((try clear hf); have hf := fa_ hO); (repeat (first | (apply inRun_p _ rfl rfl rfl; focus (intro w8 K8 hK8; (repeat (first | go_skip | go_guarded | go_step)); exact hK8)) | (apply inRun_l _ rfl rfl rfl; focus (intro w8 hx8 K8 hK8; have hO := hO.ext hx8; ((try clear hf); have hf := fa_ hO); (obtain ⟨c0, c1⟩ := hcell _ (hO.factOf (r := Row2 80 2 (some ⟨b, off, none⟩) on oc (O.flatMap rwC)) pk_).1; obtain ⟨d0, d1, d2⟩ := hcy _ (Own.immOf (φ := φ) hO pk_)); (repeat (first | go_skip | go_guarded | go_step)); exact hK8)) | (apply inRun_q _ rfl; (focus (intro w8 hx8 K8 hK8; have hO := hO.ext hx8; ((try clear hf); have hf := fa_ hO); (repeat (first | go_skip | go_guarded | go_step | fail)); (first | exact xt_ | exact hK8 _ xt_))); (focus (exact rfl)); intro w8 hx8; replace hO := hO.ext hx8; clear hx8; ((try clear hf); have hf := fa_ hO)))))
                (refine inRun_x rfl ?_; intro K8 hK8; (repeat (first | go_skip | go_guarded | go_step)); refine hK8 _ _ xt_ ?_; clear hK8 K8; with_reducible refine inRun_alloc_own hO ?_; clear hO; intro w9 hO; ((try clear hf); have hf := fa_ hO))
                (refine inRun_d rfl ?_; intro K8 hK8; (repeat (first | go_skip | go_guarded)); refine wpList_append_var (e := 80) (size := 2) (xs := N.flatMap rwC) (news := [.string xk, .string xv]) hO pk_ pk_ rfl (.tmp 44) (.tmp 56) 22 rfl iR _ 32 Tryz.underlying22 hiR hzR hsR hbR rfl (by omega) rfl _ _ rfl (by rfl) (by repeat (first | exact ones_nil | refine ones_cons rfl ?_)) (by unfold maxLen; omega) (by omega) ?_; clear hO; intro ka9 kc9 w9 hO; ((try clear hf); have hf := fa_ hO); (repeat go_step); refine hK8 _ _ trivial ?_; clear hK8 K8)
                (repeat (first | (apply inRun_p _ rfl rfl rfl; focus (intro w8 K8 hK8; (repeat (first | go_skip | go_guarded | go_step)); exact hK8)) | (apply inRun_l _ rfl rfl rfl; focus (intro w8 hx8 K8 hK8; have hO := hO.ext hx8; ((try clear hf); have hf := fa_ hO); skip; (repeat (first | go_skip | go_guarded | go_step)); exact hK8)) | (apply inRun_q _ rfl; (focus (intro w8 hx8 K8 hK8; have hO := hO.ext hx8; ((try clear hf); have hf := fa_ hO); (repeat (first | go_skip | go_guarded | go_step | fail)); (first | exact xt_ | exact hK8 _ xt_))); (focus (exact rfl)); intro w8 hx8; replace hO := hO.ext hx8; clear hx8; ((try clear hf); have hf := fa_ hO))))
                refine inRun_nil ?_
                go_wp2_with (first | ((refine sy_ hO ?_); clear hO; intro w9 hO; (try dsimp only [List.set] at hO); ((try clear hf); have hf := fa_ hO)))
                (refine wp_region_run (fun _ => True) (fun _ _ _ _ => trivial) trivial ((0, 0) :: (0, 1) :: (0, 2) :: (0, 3) :: (1, 4) :: (0, 5) :: (0, 6) :: (0, 7) :: (0, 8) :: (1, 9) :: (0, 10) :: []) (by kernel_rfl) (by kernel_rfl) rfl (fun _ _ d _ _ h => by cases d <;> exact h) ?_; intro w9 hx9; replace hO := hO.ext hx9; clear hx9; ((try clear hf); have hf := fa_ hO); (repeat (first | (apply inRun_p _ rfl rfl rfl; focus (intro w8 K8 hK8; (repeat (first | go_skip | go_guarded | go_step)); exact hK8)) | (apply inRun_l _ rfl rfl rfl; focus (intro w8 hx8 K8 hK8; have hO := hO.ext hx8; ((try clear hf); have hf := fa_ hO); (obtain ⟨c0, c1⟩ := hcell _ (hO.factOf (r := Row2 80 2 (some ⟨b, off, none⟩) on oc (O.flatMap rwC)) pk_).1; obtain ⟨d0, d1, d2⟩ := hcy _ (Own.immOf (φ := φ) hO pk_)); (repeat (first | go_skip | go_guarded | go_step)); exact hK8)) | (apply inRun_q _ rfl; (focus (intro w8 hx8 K8 hK8; have hO := hO.ext hx8; ((try clear hf); have hf := fa_ hO); (repeat (first | go_skip | go_guarded | go_step | fail)); (first | exact xt_ | exact hK8 _ xt_))); (focus (exact rfl)); intro w8 hx8; replace hO := hO.ext hx8; clear hx8; ((try clear hf); have hf := fa_ hO)))))
                refine inRun_nil ?_
                (obtain ⟨c0, c1⟩ := hcell _ (hO.factOf (r := Row2 80 2 (some ⟨b, off, none⟩) on oc (O.flatMap rwC)) pk_).1; obtain ⟨d0, d1, d2⟩ := hcy _ (Own.immOf (φ := φ) hO pk_))
                go_wp2_with (first | (at_builtin; (refine wpList_append_var (e := 80) (size := 2) (xs := N.flatMap rwC ++ [.string xk, .string xv]) (news := [.string y.key, .string y.val]) hO pk_ pk_ rfl (.tmp 69) (.tmp 74) 22 rfl iR _ 32 Tryz.underlying22 hiR hzR hsR hbR rfl (by omega) rfl _ _ rfl (by rfl) (by repeat (first | exact ones_nil | refine ones_cons rfl ?_)) (by unfold maxLen; omega) (by omega) ?_; clear hO; intro ka9 kc9 w9 hO; ((try clear hf); have hf := fa_ hO))) | ((refine sy_ hO ?_); clear hO; intro w9 hO; (try dsimp only [List.set] at hO); ((try clear hf); have hf := fa_ hO)))
                (refine ⟨⟨k + 1, nm + 1 + 1, ka9, kc9, N ++ [⟨xk, xv⟩] ++ [y], true, rfl, rfl, by go_num, by omega, by omega, Lib.hid (by rw [List.length_append, List.length_append, ← HNM.out]; rfl), HE2, ?_⟩, by simp [intOf]; omega⟩; rw [flat_one, flat_one]; (try simp only [CA]); exact hO.cut sb_)
        · obtain rfl : k = on := by omega
          have e1 : O.drop k = [] := List.drop_of_length_le (by have := HON.out; omega)
          rw [e1] at HE
          have HON2 := HON.out
          cases laid with
          | true =>
            have HE2 := Lib.hid (show N = appR O ⟨xk, xv, xg⟩ by rw [← HE.out]; show N = N ++ []; rw [List.append_nil])
            have HN2 := Lib.hid (show nm ≤ k + 1 by rw [HNM.out, HE2.out]; have := HLE.out; unfold appR; dsimp only at this ⊢; omega)
            clear HON2 e1 HE
            go_wp2_with (first | ((refine sy_ hO ?_); clear hO; intro w9 hO; (try dsimp only [List.set] at hO); ((try clear hf); have hf := fa_ hO)))
            have := HN2.out
            refine ⟨⟨i + 1, nm, na, nc, N, rfl, by go_num, by omega, by omega, HNM, Lib.hid (by rw [HS.out]; exact HE2.out), ?_⟩, by simp [intOf]; omega⟩
            (try simp only [CA])
            exact hO.cut sb_
          | false =>
            have HE2 := Lib.hid (show N ++ [⟨xk, xv⟩] = appR O ⟨xk, xv, xg⟩ from HE.out)
            have HN2 := Lib.hid (show nm + 1 ≤ k + 1 by have h1 := congrArg List.length HE2.out; have := HLE.out; rw [List.length_append, ← HNM.out] at h1; unfold appR at h1; dsimp only at this h1; simp at h1; omega)
            clear HON2 e1 HE
            go_wp2_with (first | ((refine sy_ hO ?_); clear hO; intro w9 hO; (try dsimp only [List.set] at hO); ((try clear hf); have hf := fa_ hO)))
            (refine wp_region_run (fun _ => True) (fun _ _ _ _ => trivial) trivial ((0, 0) :: (0, 1) :: (0, 2) :: (0, 3) :: (0, 4) :: (1, 5) :: (0, 6) :: (0, 7) :: (0, 8) :: (0, 9) :: (1, 10) :: (0, 11) :: (4, 12) :: (5, 13) :: (0, 14) :: []) (by kernel_rfl) (by kernel_rfl) rfl (fun _ _ d _ _ h => by cases d <;> exact h) ?_; intro w9 hx9; replace hO := hO.ext hx9; clear hx9; ((try clear hf); have hf := fa_ hO); (repeat (first | (apply inRun_p _ rfl rfl rfl; focus (intro w8 K8 hK8; (repeat (first | go_skip | go_guarded | go_step)); exact hK8)) | (apply inRun_l _ rfl rfl rfl; focus (intro w8 hx8 K8 hK8; have hO := hO.ext hx8; ((try clear hf); have hf := fa_ hO); obtain ⟨d0, d1, d2⟩ := hcy _ (Own.immOf (φ := φ) hO pk_); (repeat (first | go_skip | go_guarded | go_step)); exact hK8)) | (apply inRun_q _ rfl; (focus (intro w8 hx8 K8 hK8; have hO := hO.ext hx8; ((try clear hf); have hf := fa_ hO); (repeat (first | go_skip | go_guarded | go_step | fail)); (first | exact xt_ | exact hK8 _ xt_))); (focus (exact rfl)); intro w8 hx8; replace hO := hO.ext hx8; clear hx8; ((try clear hf); have hf := fa_ hO)))))
            (refine inRun_x rfl ?_; intro K8 hK8; (repeat (first | go_skip | go_guarded | go_step)); refine hK8 _ _ xt_ ?_; clear hK8 K8; with_reducible refine inRun_alloc_own hO ?_; clear hO; intro w9 hO; ((try clear hf); have hf := fa_ hO))
            (refine inRun_d rfl ?_; intro K8 hK8; (repeat (first | go_skip | go_guarded)); refine wpList_append_var (e := 80) (size := 2) (xs := N.flatMap rwC) (news := [.string xk, .string xv]) hO pk_ pk_ rfl (.tmp 78) (.tmp 90) 22 rfl iR _ 32 Tryz.underlying22 hiR hzR hsR hbR rfl (by omega) rfl _ _ rfl (by rfl) (by repeat (first | exact ones_nil | refine ones_cons rfl ?_)) (by unfold maxLen; omega) (by omega) ?_; clear hO; intro ka9 kc9 w9 hO; ((try clear hf); have hf := fa_ hO); (repeat go_step); refine hK8 _ _ trivial ?_; clear hK8 K8)
            (repeat (first | (apply inRun_p _ rfl rfl rfl; focus (intro w8 K8 hK8; (repeat (first | go_skip | go_guarded | go_step)); exact hK8)) | (apply inRun_l _ rfl rfl rfl; focus (intro w8 hx8 K8 hK8; have hO := hO.ext hx8; ((try clear hf); have hf := fa_ hO); skip; (repeat (first | go_skip | go_guarded | go_step)); exact hK8)) | (apply inRun_q _ rfl; (focus (intro w8 hx8 K8 hK8; have hO := hO.ext hx8; ((try clear hf); have hf := fa_ hO); (repeat (first | go_skip | go_guarded | go_step | fail)); (first | exact xt_ | exact hK8 _ xt_))); (focus (exact rfl)); intro w8 hx8; replace hO := hO.ext hx8; clear hx8; ((try clear hf); have hf := fa_ hO))))
            refine inRun_nil ?_
            go_wp2_with (first | ((refine sy_ hO ?_); clear hO; intro w9 hO; (try dsimp only [List.set] at hO); ((try clear hf); have hf := fa_ hO)))
            have := HN2.out
            refine ⟨⟨i + 1, nm + 1, ka9, kc9, N ++ [⟨xk, xv⟩], rfl, by go_num, by omega, by omega, Lib.hid (by rw [List.length_append, ← HNM.out]; rfl), Lib.hid (by rw [HS.out]; exact HE2.out), ?_⟩, by simp [intOf]; omega⟩
            rw [flat_one]
            (try simp only [CA])
            exact hO.cut sb_
    · obtain rfl : i = cn := by omega
      have e1 : C.take i = C := List.take_of_length_le (by omega)
      rw [e1] at HO
      go_wp2_with (first | ((refine sy_ hO ?_); clear hO; intro w9 hO; (try dsimp only [List.set] at hO); ((try clear hf); have hf := fa_ hO)))
      go_ret
      refine ⟨(oa, oc), by rw [← HO.out, ← HON.out]; rfl, ?_⟩
      rw [← HO.out, ← HON.out]
      (try simp only [CA])
      exact hO.cut sb_
end Go.Proofs.YtmknhibaoopjjaaGreatDoor
namespace Go.Proofs.YtmknhibaoopjjaaGreatDoor
open Go.RowKit
theorem tolist_ne {a b : ByteArray} (h : ¬ a = b) : ¬ a.toList = b.toList := fun e => h (by rw [ByteArray.toList_eq, ByteArray.toList_eq] at e; exact ba_ext e)
theorem take_eq_succ {α : Type} {l l' : List α} {k : Nat} (h : l.take k = l'.take k) (h1 : k < l.length) (h2 : k < l'.length) (he : l[k] = l'[k]) : l.take (k + 1) = l'.take (k + 1) := by
  rw [List.take_succ_eq_append_getElem h1, List.take_succ_eq_append_getElem h2, h, he]
set_option maxHeartbeats 2000000 in
set_option maxRecDepth 100000 in
theorem sameRows_bool (a b : Option Addr) (n c m d : Nat) (l l' : List Rw) (w : World) (hl : l.length = n) (hl' : l'.length = m) (hn : n ≤ 100000) (hm : m ≤ 100000) (hA : ValsAt w a (l.flatMap rwC)) (hB : ValsAt w b (l'.flatMap rwC)) :
    ∃ B : Bool, (B = true ↔ l = l') ∧ Calls Tryz.prog 25 #[.slice a n c, .slice b m d] w fun e w' => e = .returned (.bool B) ∧ Ext w w' := by
  obtain ⟨B, hB9⟩ : ∃ B : Bool, B = true ↔ l = l' := by
    by_cases h : l = l'
    · exact ⟨true, by simp [h]⟩
    · exact ⟨false, by simp [h]⟩
  refine ⟨B, hB9, ?_⟩
  have hO : Own (fun _ => False) w w [.imm fun w => ValsAt w a (l.flatMap rwC) ∧ ValsAt w b (l'.flatMap rwC)] := Own.base w _ fun _ hw' => ⟨vals_up hA hw', vals_up hB hw'⟩
  ((try clear hf); have hf := fa_ hO)
  by_cases hnm : n = m
  · subst hnm
    have HB := Lib.hid hB9
    clear hB9
    go_enter Tryz.func25, Tryz.ntmps25
    go_wp2_with (first | ((refine sy_ hO ?_); clear hO; intro w9 hO; (try dsimp only [List.set] at hO); ((try clear hf); have hf := fa_ hO)))
    go_loopw [5] (fun v wr => ∃ k : Nat, v = .int .i64 k ∧ k ≤ n ∧ Hid (l.take k = l'.take k) ∧ Own (fun _ => False) w wr [.imm fun w => ValsAt w a (l.flatMap rwC) ∧ ValsAt w b (l'.flatMap rwC)]) (fun v _ => n - (intOf v).toNat)
    case atStart => exact ⟨0, rfl, by omega, Lib.hid (by simp), hO⟩
    case round =>
      clear hO
      obtain ⟨k, rfl, hk, HK, hO⟩ := hrel
      rename World => w0
      ((try clear hf); have hf := fa_ hO)
      by_cases hlt : k < n
      · have hk2 : k < l.length := by omega
        have hk3 : k < l'.length := by omega
        obtain ⟨b1, o1, rfl⟩ := rw_some (a := a) hf.1 hk2
        obtain ⟨b2, o2, rfl⟩ := rw_some (a := b) hf.2 hk3
        have hca := fun w (h : ValsAt w (some ⟨b1, o1, none⟩) (l.flatMap rwC) ∧ ValsAt w (some ⟨b2, o2, none⟩) (l'.flatMap rwC)) => rw_cells h.1 hk2
        have hcb := fun w (h : ValsAt w (some ⟨b1, o1, none⟩) (l.flatMap rwC) ∧ ValsAt w (some ⟨b2, o2, none⟩) (l'.flatMap rwC)) => rw_cells h.2 hk3
        have hsame := fun (e : l[k] = l'[k]) => Lib.hid (take_eq_succ HK.out hk2 hk3 e)
        have hdiff := fun (e : l[k] ≠ l'[k]) => Lib.hid (show B = false from Bool.eq_false_iff.2 fun hb => e (by
          have e2 := HB.out.1 hb
          have h8 : l[k]? = l'[k]? := by rw [e2]
          rw [List.getElem?_eq_getElem hk2, List.getElem?_eq_getElem hk3] at h8
          exact Option.some.inj h8))
        generalize l[k] = x at *
        generalize l'[k] = y at *
        obtain ⟨xk, xv⟩ := x
        obtain ⟨yk, yv⟩ := y
        dsimp only at *
        by_cases hxk : xk = yk
        · by_cases hxv : xv = yv
          · subst hxk hxv
            have HS := hsame rfl
            clear hsame hdiff
            go_wp2_with (first | ((refine sy_ hO ?_); clear hO; intro w9 hO; (try dsimp only [List.set] at hO); ((try clear hf); have hf := fa_ hO)))
            (refine wp_region_run (fun _ => True) (fun _ _ _ _ => trivial) trivial ((0, 0) :: (0, 1) :: (0, 2) :: (1, 3) :: (0, 4) :: (0, 5) :: (0, 6) :: (1, 7) :: (0, 8) :: []) (by kernel_rfl) (by kernel_rfl) rfl (fun _ _ d _ _ h => by cases d <;> exact h) ?_; intro w9 hx9; replace hO := hO.ext hx9; clear hx9; ((try clear hf); have hf := fa_ hO); (repeat (first | (apply inRun_p _ rfl rfl rfl; focus (intro w8 K8 hK8; (repeat (first | go_skip | go_guarded | go_step)); exact hK8)) | (apply inRun_l _ rfl rfl rfl; focus (intro w8 hx8 K8 hK8; have hO := hO.ext hx8; ((try clear hf); have hf := fa_ hO); obtain ⟨c0, c1⟩ := hca _ hf; obtain ⟨d0, d1⟩ := hcb _ hf; (repeat (first | go_skip | go_guarded | go_step)); exact hK8)) | (apply inRun_q _ rfl; (focus (intro w8 hx8 K8 hK8; have hO := hO.ext hx8; ((try clear hf); have hf := fa_ hO); (repeat (first | go_skip | go_guarded | go_step | fail)); (first | exact xt_ | exact hK8 _ xt_))); (focus (exact rfl)); intro w8 hx8; replace hO := hO.ext hx8; clear hx8; ((try clear hf); have hf := fa_ hO)))))
            refine inRun_nil ?_
            go_wp2_with (first | ((refine sy_ hO ?_); clear hO; intro w9 hO; (try dsimp only [List.set] at hO); ((try clear hf); have hf := fa_ hO)))
            exact ⟨⟨k + 1, by go_num, by omega, HS, hO⟩, by simp [intOf]; omega⟩
          · have HD := hdiff (fun e => by injection e with e1 e2; exact hxv e2)
            subst hxk
            have hxl := tolist_ne hxv
            clear hsame hdiff
            go_wp2_with (first | ((refine sy_ hO ?_); clear hO; intro w9 hO; (try dsimp only [List.set] at hO); ((try clear hf); have hf := fa_ hO)))
            (refine wp_region_run (fun _ => True) (fun _ _ _ _ => trivial) trivial ((0, 0) :: (0, 1) :: (0, 2) :: (1, 3) :: (0, 4) :: (0, 5) :: (0, 6) :: (1, 7) :: (5, 8) :: []) (by kernel_rfl) (by kernel_rfl) rfl (fun _ _ d _ _ h => by cases d <;> exact h) ?_; intro w9 hx9; replace hO := hO.ext hx9; clear hx9; ((try clear hf); have hf := fa_ hO); (repeat (first | (apply inRun_p _ rfl rfl rfl; focus (intro w8 K8 hK8; (repeat (first | go_skip | go_guarded | go_step)); exact hK8)) | (apply inRun_l _ rfl rfl rfl; focus (intro w8 hx8 K8 hK8; have hO := hO.ext hx8; ((try clear hf); have hf := fa_ hO); obtain ⟨c0, c1⟩ := hca _ hf; obtain ⟨d0, d1⟩ := hcb _ hf; (repeat (first | go_skip | go_guarded | go_step)); exact hK8)) | (apply inRun_q _ rfl; (focus (intro w8 hx8 K8 hK8; have hO := hO.ext hx8; ((try clear hf); have hf := fa_ hO); (repeat (first | go_skip | go_guarded | go_step | fail)); (first | exact xt_ | exact hK8 _ xt_))); (focus (exact rfl)); intro w8 hx8; replace hO := hO.ext hx8; clear hx8; ((try clear hf); have hf := fa_ hO)))))
            (refine inRun_d rfl ?_; intro K8 hK8; (repeat (first | go_skip | go_guarded | go_step)); (all_goals try contradiction); (all_goals try (exfalso; rename_i h9; first | exact hxl h9.1 | exact hxl h9)); (repeat go_step); refine hK8 _ _ trivial ?_; clear hK8 K8)
            refine inRun_nil ?_
            go_wp2_with (first | ((refine sy_ hO ?_); clear hO; intro w9 hO; (try dsimp only [List.set] at hO); ((try clear hf); have hf := fa_ hO)))
            go_ret
            exact ⟨by rw [HD.out]; rfl, hO.toExt⟩
        · have HD := hdiff (fun e => by injection e with e1 e2; exact hxk e1)
          have hxl := tolist_ne hxk
          clear hsame hdiff
          go_wp2_with (first | ((refine sy_ hO ?_); clear hO; intro w9 hO; (try dsimp only [List.set] at hO); ((try clear hf); have hf := fa_ hO)))
          (refine wp_region_run (fun _ => True) (fun _ _ _ _ => trivial) trivial ((0, 0) :: (0, 1) :: (0, 2) :: (1, 3) :: (0, 4) :: (0, 5) :: (0, 6) :: (1, 7) :: (5, 8) :: []) (by kernel_rfl) (by kernel_rfl) rfl (fun _ _ d _ _ h => by cases d <;> exact h) ?_; intro w9 hx9; replace hO := hO.ext hx9; clear hx9; ((try clear hf); have hf := fa_ hO); (repeat (first | (apply inRun_p _ rfl rfl rfl; focus (intro w8 K8 hK8; (repeat (first | go_skip | go_guarded | go_step)); exact hK8)) | (apply inRun_l _ rfl rfl rfl; focus (intro w8 hx8 K8 hK8; have hO := hO.ext hx8; ((try clear hf); have hf := fa_ hO); obtain ⟨c0, c1⟩ := hca _ hf; obtain ⟨d0, d1⟩ := hcb _ hf; (repeat (first | go_skip | go_guarded | go_step)); exact hK8)) | (apply inRun_q _ rfl; (focus (intro w8 hx8 K8 hK8; have hO := hO.ext hx8; ((try clear hf); have hf := fa_ hO); (repeat (first | go_skip | go_guarded | go_step | fail)); (first | exact xt_ | exact hK8 _ xt_))); (focus (exact rfl)); intro w8 hx8; replace hO := hO.ext hx8; clear hx8; ((try clear hf); have hf := fa_ hO)))))
          (refine inRun_d rfl ?_; intro K8 hK8; (repeat (first | go_skip | go_guarded | go_step)); (all_goals try contradiction); (all_goals try (exfalso; rename_i h9; first | exact hxl h9.1 | exact hxl h9)); (repeat go_step); refine hK8 _ _ trivial ?_; clear hK8 K8)
          refine inRun_nil ?_
          go_wp2_with (first | ((refine sy_ hO ?_); clear hO; intro w9 hO; (try dsimp only [List.set] at hO); ((try clear hf); have hf := fa_ hO)))
          go_ret
          exact ⟨by rw [HD.out]; rfl, hO.toExt⟩
      · have HE := Lib.hid (show B = true from by
          have := HK.out
          rw [List.take_of_length_le (by omega), List.take_of_length_le (by omega)] at this
          exact HB.out.2 this)
        go_wp2_with (first | ((refine sy_ hO ?_); clear hO; intro w9 hO; (try dsimp only [List.set] at hO); ((try clear hf); have hf := fa_ hO)))
        go_ret
        exact ⟨by rw [HE.out]; rfl, hO.toExt⟩
  · have hne : ¬ (n : Int) = m := by omega
    obtain rfl : B = false := Bool.eq_false_iff.2 fun hb => hnm (by rw [← hl, ← hl', hB9.1 hb])
    go_enter Tryz.func25, Tryz.ntmps25
    go_wp2_with (first | ((refine sy_ hO ?_); clear hO; intro w9 hO; (try dsimp only [List.set] at hO); ((try clear hf); have hf := fa_ hO)))
    all_goals try (exfalso; omega; done)
    go_ret
    exact ⟨rfl, hO.toExt⟩
end Go.Proofs.YtmknhibaoopjjaaGreatDoor
