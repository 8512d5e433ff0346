/- Texts VerL, RwR, SlR, SlE, RwA of this claim, laid together. -/
import Derived.Test.YtmknhibaoopjjaaGreatDoorGTopSaveProof19
import Derived.Test.YtmknhibaoopjjaaGreatDoorGTopSaveProof30
import Derived.Test.YtmknhibaoopjjaaGreatDoorGTopSaveProof27
import Derived.Test.YtmknhibaoopjjaaGreatDoorGTopSaveProof26
import Derived.Test.YtmknhibaoopjjaaGreatDoorGTopSaveProof12
import Derived.Test.YtmknhibaoopjjaaGreatDoorGTopSaveProof4
set_option linter.unusedVariables false
set_option linter.unusedSimpArgs false
namespace Go.Proofs.YtmknhibaoopjjaaGreatDoor
/-! Rows that rise by keys. -/
def RUps (l : List Rw) : Prop := l.Pairwise fun x y => slt x.key y.key = true
theorem RUps.head {x : Rw} {l : List Rw} (h : RUps (x :: l)) : ∀ y ∈ l, slt x.key y.key = true := (List.pairwise_cons.1 h).1
theorem RUps.tail {x : Rw} {l : List Rw} (h : RUps (x :: l)) : RUps l := (List.pairwise_cons.1 h).2
theorem RUps.keys {l : List Rw} (h : RUps l) : (l.map Rw.key).Nodup := by
  rw [List.Nodup, List.pairwise_map]
  exact List.Pairwise.imp (fun h => slt_ne h) h
theorem RUps.inj {l : List Rw} (h : RUps l) : ∀ {x y : Rw}, x ∈ l → y ∈ l → x.key = y.key → x = y := by
  induction l with
  | nil => exact fun hx => (List.not_mem_nil hx).elim
  | cons z l ih =>
    intro x y hx hy he
    rcases List.mem_cons.1 hx with rfl | hx' <;> rcases List.mem_cons.1 hy with rfl | hy'
    · rfl
    · exact absurd he (slt_ne (h.head _ hy'))
    · exact absurd he.symm (slt_ne (h.head _ hx'))
    · exact ih h.tail hx' hy' he
theorem RUps.ext : ∀ {l l' : List Rw}, RUps l → RUps l' → (∀ r, r ∈ l ↔ r ∈ l') → l = l'
  | [], [], _, _, _ => rfl
  | [], y :: l', _, _, h => ((List.not_mem_nil ((h y).2 (List.mem_cons_self ..))).elim)
  | x :: l, [], _, _, h => ((List.not_mem_nil ((h x).1 (List.mem_cons_self ..))).elim)
  | x :: l, y :: l', h1, h2, h => by
    have e : x = y := by
      rcases List.mem_cons.1 ((h x).1 (List.mem_cons_self ..)) with e | hx
      · exact e
      rcases List.mem_cons.1 ((h y).2 (List.mem_cons_self ..)) with e | hy
      · exact e.symm
      have a := h1.head y hy
      have b := h2.head x hx
      rw [slt_asymm a] at b
      cases b
    subst e
    have e2 : l = l' := RUps.ext h1.tail h2.tail fun r => by
      constructor
      · intro hr
        rcases List.mem_cons.1 ((h r).1 (List.mem_cons_of_mem _ hr)) with rfl | h3
        · exact absurd rfl (slt_ne (h1.head r hr))
        · exact h3
      · intro hr
        rcases List.mem_cons.1 ((h r).2 (List.mem_cons_of_mem _ hr)) with rfl | h3
        · exact absurd rfl (slt_ne (h2.head r hr))
        · exact h3
    rw [e2]
/-- A row's value. -/
def valR (l : List Rw) (k : ByteArray) : ByteArray × Bool := match l.find? (fun r => decide (r.key = k)) with
  | some r => (r.val, true)
  | none => (⟨#[]⟩, false)
theorem valR_none {l : List Rw} {k : ByteArray} (h : ∀ r ∈ l, r.key ≠ k) : valR l k = (⟨#[]⟩, false) := by
  unfold valR
  rw [List.find?_eq_none.2 fun r hr => by rw [decide_eq_true_iff]; exact h r hr]
theorem valR_some {l : List Rw} (h : RUps l) {r : Rw} (hr : r ∈ l) : valR l r.key = (r.val, true) := by
  unfold valR
  cases hf : l.find? (fun x => decide (x.key = r.key)) with
  | none => exact absurd (decide_eq_true (rfl : r.key = r.key)) (List.find?_eq_none.1 hf r hr)
  | some x =>
    have e : x.key = r.key := by simpa using List.find?_some hf
    rw [h.inj (List.mem_of_find?_eq_some hf) hr e]
theorem valR_cases {l : List Rw} (h : RUps l) (k : ByteArray) : (∃ r ∈ l, r.key = k ∧ valR l k = (r.val, true)) ∨ ((∀ r ∈ l, r.key ≠ k) ∧ valR l k = (⟨#[]⟩, false)) := by
  by_cases hk : ∃ r ∈ l, r.key = k
  · obtain ⟨r, hr, rfl⟩ := hk
    exact .inl ⟨r, hr, rfl, valR_some h hr⟩
  · have h1 : ∀ r ∈ l, r.key ≠ k := fun r hr he => hk ⟨r, hr, he⟩
    exact .inr ⟨h1, valR_none h1⟩
theorem valR_iff {l : List Rw} (h : RUps l) (k v : ByteArray) : valR l k = (v, true) ↔ (⟨k, v⟩ : Rw) ∈ l := by
  rcases valR_cases h k with ⟨r, hr, rfl, hv⟩ | ⟨hn, hv⟩
  · rw [hv]
    constructor
    · intro e; injection e with e; rw [← e]; exact hr
    · intro hm; rw [← h.inj hm hr rfl]
  · rw [hv]
    constructor
    · intro e; injection e with _ e; cases e
    · intro hm; exact absurd rfl (hn _ hm)
/-- A deed's change is applied. -/
def appF (c : Ch) : Bool → List Rw → List Rw
  | laid, [] => if laid then [] else [⟨c.key, c.val⟩]
  | laid, x :: l => if laid = false ∧ slt x.key c.key = false then ⟨c.key, c.val⟩ :: (if x.key = c.key then appF c true l else x :: appF c true l) else if x.key = c.key then appF c laid l else x :: appF c laid l
def appR (l : List Rw) (c : Ch) : List Rw := appF c c.gone l
theorem mem_appF {c : Ch} {r : Rw} : ∀ {l : List Rw} {laid : Bool}, r ∈ appF c laid l ↔ (r ∈ l ∧ r.key ≠ c.key) ∨ (laid = false ∧ r = ⟨c.key, c.val⟩)
  | [], laid => by
    cases laid <;> simp [appF]
  | x :: l, laid => by
    have i1 := mem_appF (c := c) (r := r) (l := l) (laid := true)
    have i2 := mem_appF (c := c) (r := r) (l := l) (laid := laid)
    rw [appF]
    by_cases h1 : laid = false ∧ slt x.key c.key = false
    · rw [if_pos h1]
      by_cases h2 : x.key = c.key
      · rw [if_pos h2, List.mem_cons, i1, List.mem_cons]
        constructor
        · rintro (rfl | ⟨h3, h4⟩ | ⟨h3, _⟩)
          · exact .inr ⟨h1.1, rfl⟩
          · exact .inl ⟨.inr h3, h4⟩
          · cases h3
        · rintro (⟨rfl | h3, h4⟩ | ⟨_, h3⟩)
          · exact absurd h2 h4
          · exact .inr (.inl ⟨h3, h4⟩)
          · exact .inl h3
      · rw [if_neg h2, List.mem_cons, List.mem_cons, i1, List.mem_cons]
        constructor
        · rintro (rfl | rfl | ⟨h3, h4⟩ | ⟨h3, _⟩)
          · exact .inr ⟨h1.1, rfl⟩
          · exact .inl ⟨.inl rfl, h2⟩
          · exact .inl ⟨.inr h3, h4⟩
          · cases h3
        · rintro (⟨rfl | h3, h4⟩ | ⟨_, h3⟩)
          · exact .inr (.inl rfl)
          · exact .inr (.inr (.inl ⟨h3, h4⟩))
          · exact .inl h3
    · rw [if_neg h1]
      by_cases h2 : x.key = c.key
      · rw [if_pos h2, i2, List.mem_cons]
        constructor
        · rintro (⟨h3, h4⟩ | h3)
          · exact .inl ⟨.inr h3, h4⟩
          · exact .inr h3
        · rintro (⟨rfl | h3, h4⟩ | h3)
          · exact absurd h2 h4
          · exact .inl ⟨h3, h4⟩
          · exact .inr h3
      · rw [if_neg h2, List.mem_cons, i2, List.mem_cons]
        constructor
        · rintro (rfl | ⟨h3, h4⟩ | h3)
          · exact .inl ⟨.inl rfl, h2⟩
          · exact .inl ⟨.inr h3, h4⟩
          · exact .inr h3
        · rintro (⟨rfl | h3, h4⟩ | h3)
          · exact .inl rfl
          · exact .inr (.inl ⟨h3, h4⟩)
          · exact .inr (.inr h3)
theorem appF_ups {c : Ch} : ∀ {l : List Rw} {laid : Bool}, RUps l → RUps (appF c laid l)
  | [], laid, _ => by cases laid <;> simp [appF, RUps]
  | x :: l, laid, h => by
    have i1 := appF_ups (c := c) (laid := true) h.tail
    have i2 := appF_ups (c := c) (laid := laid) h.tail
    have hd := h.head
    rw [appF]
    by_cases h1 : laid = false ∧ slt x.key c.key = false
    · rw [if_pos h1]
      by_cases h2 : x.key = c.key
      · rw [if_pos h2]
        refine List.pairwise_cons.2 ⟨fun y hy => ?_, i1⟩
        rcases mem_appF.1 hy with ⟨h3, _⟩ | ⟨h3, _⟩
        · exact h2 ▸ hd y h3
        · cases h3
      · rw [if_neg h2]
        have hx : slt c.key x.key = true := slt_of_not h1.2 h2
        refine List.pairwise_cons.2 ⟨fun y hy => ?_, List.pairwise_cons.2 ⟨fun y hy => ?_, i1⟩⟩
        · rcases List.mem_cons.1 hy with rfl | hy
          · exact hx
          rcases mem_appF.1 hy with ⟨h3, _⟩ | ⟨h3, _⟩
          · exact slt_trans hx (hd y h3)
          · cases h3
        · rcases mem_appF.1 hy with ⟨h3, _⟩ | ⟨h3, _⟩
          · exact hd y h3
          · cases h3
    · rw [if_neg h1]
      by_cases h2 : x.key = c.key
      · rw [if_pos h2]; exact i2
      · rw [if_neg h2]
        refine List.pairwise_cons.2 ⟨fun y hy => ?_, i2⟩
        rcases mem_appF.1 hy with ⟨h3, _⟩ | ⟨h3, rfl⟩
        · exact hd y h3
        · show slt x.key c.key = true
          cases hs : slt x.key c.key with
          | true => rfl
          | false => exact absurd ⟨h3, hs⟩ h1
structure VInv (nn : Nat) (V : List (ByteArray × List Vn)) : Prop where
  keys : (V.map (·.1)).Nodup
  le : ∀ e ∈ V, ∀ v ∈ e.2, v.n ≤ nn
  up : ∀ e ∈ V, e.2.Pairwise fun a b => a.n < b.n
  gone : ∀ e ∈ V, ∀ v ∈ e.2, v.gone = true → v.val = ⟨#[]⟩
theorem atV_snoc (vs : List Vn) (x : Vn) (n : Int) : atV (vs ++ [x]) n = if (x.n : Int) ≤ n then (x.val, !x.gone) else atV vs n := by
  unfold atV
  rw [List.reverse_append, List.reverse_cons, List.reverse_nil, List.nil_append, List.singleton_append, List.find?_cons]
  by_cases h : (x.n : Int) ≤ n
  · rw [decide_eq_true h, if_pos h]
  · rw [decide_eq_false h, if_neg h]
theorem atV_cons (x : Vn) (vs : List Vn) (n : Int) : atV (x :: vs) n = if ∃ y ∈ vs, (y.n : Int) ≤ n then atV vs n else if (x.n : Int) ≤ n then (x.val, !x.gone) else (⟨#[]⟩, false) := by
  unfold atV
  rw [List.reverse_cons, List.find?_append]
  by_cases h : ∃ y ∈ vs, (y.n : Int) ≤ n
  · rw [if_pos h]
    obtain ⟨y, hy, hn⟩ := h
    cases hf : vs.reverse.find? (fun v => decide ((v.n : Int) ≤ n)) with
    | none => exact absurd hn (by simpa using List.find?_eq_none.1 hf y (List.mem_reverse.2 hy))
    | some z => rfl
  · rw [if_neg h]
    have hf : vs.reverse.find? (fun v => decide ((v.n : Int) ≤ n)) = none := List.find?_eq_none.2 fun y hy => by
      rw [decide_eq_true_iff]; exact fun hn => h ⟨y, List.mem_reverse.1 hy, hn⟩
    rw [hf, Option.none_or, List.find?_cons]
    by_cases hx : (x.n : Int) ≤ n
    · rw [decide_eq_true hx, if_pos hx]
    · rw [decide_eq_false hx, if_neg hx]; rfl
theorem atV_clip {vs : List Vn} {nn : Nat} {m : Int} (h : ∀ v ∈ vs, v.n ≤ nn) (hm : (nn : Int) ≤ m) : atV vs m = atV vs nn := by
  induction vs with
  | nil => rfl
  | cons x vs ih =>
    have hx := h x (List.mem_cons_self ..)
    have h2 : ∀ v ∈ vs, v.n ≤ nn := fun v hv => h v (List.mem_cons_of_mem _ hv)
    have e : (∃ y ∈ vs, (y.n : Int) ≤ m) ↔ ∃ y ∈ vs, (y.n : Int) ≤ (nn : Int) := by
      constructor
      · rintro ⟨y, hy, _⟩; exact ⟨y, hy, by have := h2 y hy; omega⟩
      · rintro ⟨y, hy, _⟩; exact ⟨y, hy, by have := h2 y hy; omega⟩
    have e2 : ((x.n : Int) ≤ m) ↔ ((x.n : Int) ≤ (nn : Int)) := ⟨fun _ => by omega, fun _ => by omega⟩
    rw [atV_cons, atV_cons, ih h2]
    simp only [e, e2]
theorem getV_mem {V : List (ByteArray × List Vn)} {k : ByteArray} {vs : List Vn} (h : getV V k = some vs) : (k, vs) ∈ V := by
  unfold getV at h
  cases hf : V.find? fun e => decide (e.1 = k) with
  | none => rw [hf] at h; cases h
  | some e =>
    rw [hf] at h
    injection h with h
    have e1 : e.1 = k := by simpa using List.find?_some hf
    have := List.mem_of_find?_eq_some hf
    rw [← e1, ← h]; exact this
theorem getV_cons (e : ByteArray × List Vn) (V : List (ByteArray × List Vn)) (k : ByteArray) : getV (e :: V) k = if e.1 = k then some e.2 else getV V k := by
  unfold getV
  rw [List.find?_cons]
  by_cases h : e.1 = k
  · rw [decide_eq_true h, if_pos h]; rfl
  · rw [decide_eq_false h, if_neg h]
theorem getV_of_mem : ∀ {V : List (ByteArray × List Vn)} {k : ByteArray} {vs : List Vn}, (V.map (·.1)).Nodup → (k, vs) ∈ V → getV V k = some vs
  | x :: V, k, vs, hn, hm => by
    rw [List.map_cons, List.nodup_cons] at hn
    rw [getV_cons]
    rcases List.mem_cons.1 hm with rfl | hm
    · rw [if_pos rfl]
    · rw [if_neg (fun he : x.1 = k => hn.1 (he ▸ List.mem_map.2 ⟨_, hm, rfl⟩)), getV_of_mem hn.2 hm]
theorem readV_clip {nn : Nat} {V : List (ByteArray × List Vn)} (h : VInv nn V) (k : ByteArray) {m : Int} (hm : (nn : Int) ≤ m) : readV V k m = readV V k nn := by
  unfold readV
  cases hg : getV V k with
  | none => rfl
  | some vs => exact atV_clip (h.le _ (getV_mem hg)) hm
theorem putV_keys {n : Nat} {c : Ch} : ∀ {V : List (ByteArray × List Vn)} {k : ByteArray}, k ∈ (putV n V c).map (·.1) ↔ k = c.key ∨ k ∈ V.map (·.1)
  | [], k => by simp [putV]
  | e :: V, k => by
    rw [putV]
    by_cases h : e.1 = c.key
    · rw [if_pos h, List.map_cons, List.map_cons, List.mem_cons]
      exact ⟨fun h => .inr h, fun h' => h'.elim (fun h' => .inl (h'.trans h.symm)) id⟩
    · rw [if_neg h, List.map_cons, List.map_cons, List.mem_cons, List.mem_cons, putV_keys (V := V)]
      constructor
      · rintro (h | h | h)
        · exact .inr (.inl h)
        · exact .inl h
        · exact .inr (.inr h)
      · rintro (h | h | h)
        · exact .inr (.inl h)
        · exact .inl h
        · exact .inr (.inr h)
theorem putV_nodup {n : Nat} {c : Ch} : ∀ {V : List (ByteArray × List Vn)}, (V.map (·.1)).Nodup → ((putV n V c).map (·.1)).Nodup
  | [], _ => by simp [putV]
  | e :: V, h => by
    rw [List.map_cons, List.nodup_cons] at h
    rw [putV]
    by_cases h1 : e.1 = c.key
    · rw [if_pos h1, List.map_cons, List.nodup_cons]; exact h
    · rw [if_neg h1, List.map_cons, List.nodup_cons]
      refine ⟨fun hm => ?_, putV_nodup h.2⟩
      rcases putV_keys.1 hm with h2 | h2
      · exact h1 h2
      · exact h.1 h2
theorem putV_mem {n : Nat} {c : Ch} {e : ByteArray × List Vn} : ∀ {V : List (ByteArray × List Vn)}, e ∈ putV n V c → e ∈ V ∨ (e = (c.key, [⟨n, c.val, c.gone⟩])) ∨ ∃ x ∈ V, x.1 = c.key ∧ e = (x.1, x.2 ++ [⟨n, c.val, c.gone⟩])
  | [], h => by
    rw [putV, List.mem_singleton] at h
    exact .inr (.inl h)
  | x :: V, h => by
    rw [putV] at h
    by_cases h1 : x.1 = c.key
    · rw [if_pos h1] at h
      rcases List.mem_cons.1 h with h | h
      · exact .inr (.inr ⟨x, List.mem_cons_self .., h1, h⟩)
      · exact .inl (List.mem_cons_of_mem _ h)
    · rw [if_neg h1] at h
      rcases List.mem_cons.1 h with h | h
      · exact .inl (h ▸ List.mem_cons_self ..)
      · rcases putV_mem h with h | h | ⟨y, h2, h3⟩
        · exact .inl (List.mem_cons_of_mem _ h)
        · exact .inr (.inl h)
        · exact .inr (.inr ⟨y, List.mem_cons_of_mem _ h2, h3⟩)
theorem putV_at_mem {n : Nat} {c : Ch} {e : ByteArray × List Vn} : ∀ {V : List (ByteArray × List Vn)}, (V.map (·.1)).Nodup → e ∈ putV n V c → e.1 ≠ c.key → e ∈ V
  | V, hn, h, hk => by
    rcases putV_mem h with h | h | ⟨x, _, h2, h3⟩
    · exact h
    · exact absurd (h ▸ rfl) hk
    · exact absurd (h3 ▸ h2) hk
/-! A deed is committed. -/
/-- Half a deed is put: the changes of 'done'. -/
structure VMid (nn : Nat) (todo : List Ch) (V : List (ByteArray × List Vn)) : Prop where
  inv : VInv (nn + 1) V
  old : ∀ e ∈ V, (∃ c ∈ todo, c.key = e.1) → ∀ v ∈ e.2, v.n ≤ nn
theorem VMid.step {nn : Nat} {c : Ch} {C : List Ch} {V : List (ByteArray × List Vn)} (h : VMid nn (c :: C) V) (hg : c.gone = true → c.val = ⟨#[]⟩) (hk : ∀ x ∈ C, x.key ≠ c.key) : VMid nn C (putV (nn + 1) V c) where
  inv := {
    keys := putV_nodup h.inv.keys
    le := fun e he v hv => by
      rcases putV_mem he with he | rfl | ⟨x, hx, h2, rfl⟩
      · exact h.inv.le e he v hv
      · rw [List.mem_singleton] at hv; rw [hv]; exact Nat.le_refl _
      · rcases List.mem_append.1 hv with hv | hv
        · exact h.inv.le x hx v hv
        · rw [List.mem_singleton] at hv; rw [hv]; exact Nat.le_refl _
    up := fun e he => by
      rcases putV_mem he with he | rfl | ⟨x, hx, h2, rfl⟩
      · exact h.inv.up e he
      · exact List.pairwise_singleton ..
      · refine List.pairwise_append.2 ⟨h.inv.up x hx, List.pairwise_singleton .., fun a ha b hb => ?_⟩
        rw [List.mem_singleton] at hb
        have := h.old x hx ⟨c, List.mem_cons_self .., h2.symm⟩ a ha
        rw [hb]; exact Nat.lt_succ_of_le this
    gone := fun e he v hv => by
      rcases putV_mem he with he | rfl | ⟨x, hx, h2, rfl⟩
      · exact h.inv.gone e he v hv
      · rw [List.mem_singleton] at hv; rw [hv]; exact hg
      · rcases List.mem_append.1 hv with hv | hv
        · exact h.inv.gone x hx v hv
        · rw [List.mem_singleton] at hv; rw [hv]; exact hg }
  old := fun e he ⟨x, hx, hxe⟩ => h.old e (putV_at_mem h.inv.keys he fun h' => hk x hx (hxe.trans h')) ⟨x, List.mem_cons_of_mem _ hx, hxe⟩
theorem VMid.all {nn : Nat} : ∀ {C : List Ch} {V : List (ByteArray × List Vn)}, VMid nn C V → (∀ c ∈ C, c.gone = true → c.val = ⟨#[]⟩) → C.Pairwise (fun a b => slt a.key b.key = true) → VInv (nn + 1) (C.foldl (putV (nn + 1)) V)
  | [], V, h, _, _ => h.inv
  | c :: C, V, h, hg, hp => by
    rw [List.pairwise_cons] at hp
    exact VMid.all (C := C) (h.step (hg c (List.mem_cons_self ..)) fun x hx => (slt_ne (hp.1 x hx)).symm) (fun x hx => hg x (List.mem_cons_of_mem _ hx)) hp.2
/-- What was, deed by deed, from one on. -/
structure Past (nn : Nat) (frm : Nat) (V : List (ByteArray × List Vn)) (past : List (List Rw)) : Prop where
  inv : VInv nn V
  len : past.length = nn + 1
  ups : ∀ l ∈ past, RUps l
  le : frm ≤ nn
  reads : ∀ m (h : m < past.length), frm ≤ m → ∀ k, readV V k m = valR past[m] k
theorem newV_inv {l : List Rw} (h : RUps l) : VInv 0 (newV l) where
  keys := by
    unfold newV
    rw [List.map_map]
    exact h.keys
  le := fun e he v hv => by
    obtain ⟨r, _, rfl⟩ := List.mem_map.1 he
    rw [List.mem_singleton] at hv; rw [hv]; exact Nat.le_refl _
  up := fun e he => by
    obtain ⟨r, _, rfl⟩ := List.mem_map.1 he
    exact List.pairwise_singleton ..
  gone := fun e he v hv hg => by
    obtain ⟨r, _, rfl⟩ := List.mem_map.1 he
    rw [List.mem_singleton] at hv; rw [hv] at hg; cases hg
theorem newV_read (l : List Rw) (k : ByteArray) {m : Int} (hm : 0 ≤ m) : readV (newV l) k m = valR l k := by
  unfold readV valR
  induction l with
  | nil => rfl
  | cons r l ih =>
    unfold newV at ih ⊢
    rw [List.map_cons, getV_cons, List.find?_cons]
    by_cases hk : r.key = k
    · rw [decide_eq_true hk]
      show atV ((if r.key = k then some [(⟨0, r.val, false⟩ : Vn)] else _).getD []) m = _
      rw [if_pos hk]
      show atV ([] ++ [(⟨0, r.val, false⟩ : Vn)]) m = _
      rw [atV_snoc, if_pos (show (((0 : Nat) : Int)) ≤ m from hm)]; rfl
    · rw [decide_eq_false hk]
      show atV ((if r.key = k then some [(⟨0, r.val, false⟩ : Vn)] else _).getD []) m = _
      rw [if_neg hk]; exact ih
theorem Past.new {l : List Rw} (h : RUps l) : Past 0 0 (newV l) [l] where
  inv := newV_inv h
  len := rfl
  ups := fun x hx => by rw [List.mem_singleton] at hx; rw [hx]; exact h
  le := Nat.le_refl _
  reads := fun m hm _ k => by
    have : m = 0 := by simp at hm; exact hm
    subst this
    exact newV_read l k (by omega)
/-! Vacuum. -/
/-- Rows of some keys, as they lie in the map. -/
def scanL (V : List (ByteArray × List Vn)) (f : ByteArray → Bool) (n : Int) : List Rw := V.filterMap fun e => if (atV e.2 n).2 && f e.1 then some ⟨e.1, (atV e.2 n).1⟩ else none
theorem mem_scanL {V : List (ByteArray × List Vn)} (hn : (V.map (·.1)).Nodup) {f : ByteArray → Bool} {n : Int} {r : Rw} : r ∈ scanL V f n ↔ readV V r.key n = (r.val, true) ∧ f r.key = true := by
  unfold scanL
  rw [List.mem_filterMap]
  constructor
  · rintro ⟨e, he, h⟩
    by_cases hc : (atV e.2 n).2 && f e.1
    · rw [if_pos hc] at h
      injection h with h
      subst h
      rw [Bool.and_eq_true] at hc
      refine ⟨?_, hc.2⟩
      unfold readV
      rw [getV_of_mem hn he]
      show atV e.2 n = _
      rw [← hc.1]
    · rw [if_neg hc] at h; cases h
  · rintro ⟨h1, h2⟩
    unfold readV at h1
    cases hg : getV V r.key with
    | none => rw [hg] at h1; exact absurd (show atV [] n = (r.val, true) from h1) (by unfold atV; simp)
    | some vs =>
      rw [hg] at h1
      have h1 : atV vs n = (r.val, true) := h1
      refine ⟨_, getV_mem hg, ?_⟩
      show (if (atV vs n).2 && f r.key then some (⟨r.key, (atV vs n).1⟩ : Rw) else none) = some r
      rw [h1, h2]; rfl
theorem scanL_keys (f : ByteArray → Bool) (n : Int) : ∀ V : List (ByteArray × List Vn), ((scanL V f n).map Rw.key).Sublist (V.map (·.1))
  | [] => .slnil
  | e :: V => by
    unfold scanL
    rw [List.filterMap_cons]
    by_cases hc : ((atV e.2 n).2 && f e.1) = true
    · rw [if_pos hc]; exact (scanL_keys f n V).cons_cons _
    · rw [if_neg hc]; exact (scanL_keys f n V).cons _
noncomputable def scanV (V : List (ByteArray × List Vn)) (f : ByteArray → Bool) (n : Int) : List Rw := (scanL V f n).mergeSort fun a b => !slt b.key a.key
theorem scanV_perm (V : List (ByteArray × List Vn)) (f : ByteArray → Bool) (n : Int) : (scanV V f n).Perm (scanL V f n) := List.mergeSort_perm _ _
theorem scanV_ups {V : List (ByteArray × List Vn)} (hn : (V.map (·.1)).Nodup) (f : ByteArray → Bool) (n : Int) : RUps (scanV V f n) := by
  have h1 : (scanV V f n).Pairwise fun a b => (!slt b.key a.key) = true := by
    refine List.pairwise_mergeSort (le := fun a b : Rw => !slt b.key a.key) (fun a b c h1 h2 => ?_) (fun a b => ?_) _
    · simp only [Bool.not_eq_eq_eq_not, Bool.not_true] at h1 h2 ⊢
      exact not_slt_trans h2 h1
    · rcases slt_total a.key b.key with h | h | h
      · simp [slt_asymm h]
      · simp [h, slt_irrefl]
      · simp [slt_asymm h]
  have h2 : ((scanV V f n).map Rw.key).Nodup := ((scanV_perm V f n).map Rw.key).nodup_iff.2 (hn.sublist (scanL_keys f n V))
  rw [List.Nodup, List.pairwise_map] at h2
  refine (h1.and h2).imp fun {a b} h => ?_
  have h3 : slt b.key a.key = false := by simpa using h.1
  exact slt_of_not h3 (fun e => h.2 e.symm)
theorem mem_scanV {V : List (ByteArray × List Vn)} (hn : (V.map (·.1)).Nodup) {f : ByteArray → Bool} {n : Int} {r : Rw} : r ∈ scanV V f n ↔ readV V r.key n = (r.val, true) ∧ f r.key = true :=
  (scanV_perm V f n).mem_iff.trans (mem_scanL hn)
theorem scan_rows {V : List (ByteArray × List Vn)} (hn : (V.map (·.1)).Nodup) {f : ByteArray → Bool} {n : Int} {l : List Rw} (hl : RUps l) (h : ∀ k, readV V k n = valR l k) : scanV V f n = l.filter (fun r => f r.key) := by
  refine (scanV_ups hn f n).ext (hl.filter _) fun r => ?_
  rw [mem_scanV hn, h, valR_iff hl, List.mem_filter]
theorem Past.read {nn frm : Nat} {V : List (ByteArray × List Vn)} {past : List (List Rw)} (h : Past nn frm V past) {m : Int} (hm : (frm : Int) ≤ m) {j : Nat} (hj : (j : Int) = min m nn) (hl : j < past.length) (k : ByteArray) : readV V k m = valR past[j] k := by
  have hle := h.le
  by_cases hn : (nn : Int) ≤ m
  · have e : j = nn := by omega
    subst e
    rw [readV_clip h.inv k hn]; exact h.reads j hl h.le k
  · have e : m = (j : Int) := by omega
    rw [e]; exact h.reads j hl (by omega) k
theorem Past.scan {nn frm : Nat} {V : List (ByteArray × List Vn)} {past : List (List Rw)} (h : Past nn frm V past) {m : Int} (hm : (frm : Int) ≤ m) {j : Nat} (hj : (j : Int) = min m nn) (hl : j < past.length) (f : ByteArray → Bool) : scanV V f m = past[j].filter (fun r => f r.key) :=
  scan_rows h.inv.keys (h.ups _ (List.getElem_mem hl)) (h.read hm hj hl)
/-! Sizes. -/
end Go.Proofs.YtmknhibaoopjjaaGreatDoor
namespace Go.Proofs.YtmknhibaoopjjaaGreatDoor
open Go.RowKit
/-- A row where it lies. -/
theorem rw_cells {w : World} {l : List Rw} {b off i : Nat} (h : ValsAt w (some ⟨b, off, none⟩) (l.flatMap rwC)) (hi : i < l.length) : w.cell? ⟨b, off + i * 2, none⟩ = some (.string l[i].key) ∧ w.cell? ⟨b, off + i * 2 + 1, none⟩ = some (.string l[i].val) := by
  have g0 := flat_get rwC 2 (fun _ => rfl) l i hi 0 (by omega)
  have g1 := flat_get rwC 2 (fun _ => rfl) l i hi 1 (by omega)
  exact ⟨ValsAt.get h g0, by rw [Nat.add_assoc]; exact ValsAt.get h g1⟩
theorem rw_some {w : World} {l : List Rw} {a : Option Addr} {i : Nat} (h : ValsAt w a (l.flatMap rwC)) (hi : i < l.length) : ∃ b off, a = some ⟨b, off, none⟩ :=
  ValsAt.some h (flat_get rwC 2 (fun _ => rfl) l i hi 0 (by omega))
set_option maxHeartbeats 1000000 in
set_option maxRecDepth 100000 in
theorem sameRows_any (a b : Option Addr) (n c d : Nat) (l : List Rw) (w : World) (hl : l.length = n) (hn : n ≤ 100000) (hA : ValsAt w a (l.flatMap rwC)) (hB : ValsAt w b (l.flatMap rwC)) :
    Calls Tryz.prog 25 #[.slice a n c, .slice b n d] w fun e w' => e = .returned (.bool true) ∧ Ext w w' := by
  have hO : Own (fun _ => False) w w [.imm fun w => ValsAt w a (l.flatMap rwC) ∧ ValsAt w b (l.flatMap rwC)] := Own.base w _ fun _ hw' => ⟨vals_up hA hw', vals_up hB hw'⟩
  ((try clear hf); have hf := fa_ hO)
  go_enter Tryz.func25, Tryz.ntmps25
  go_wp2_with (first | ((refine sy_ hO ?_); clear hO; intro w9 hO; (try dsimp only [List.set] at hO); ((try clear hf); have hf := fa_ hO)))
  go_loopw [5] (fun v wr => ∃ k : Nat, v = .int .i64 k ∧ k ≤ n ∧ Own (fun _ => False) w wr [.imm fun w => ValsAt w a (l.flatMap rwC) ∧ ValsAt w b (l.flatMap rwC)]) (fun v _ => n - (intOf v).toNat)
  case atStart => exact ⟨0, rfl, by omega, hO⟩
  case round =>
    clear hO
    obtain ⟨k, rfl, hk, hO⟩ := hrel
    rename World => w0
    ((try clear hf); have hf := fa_ hO)
    by_cases hlt : k < n
    · have hk2 : k < l.length := by omega
      obtain ⟨b1, o1, rfl⟩ := rw_some (a := a) hf.1 hk2
      obtain ⟨b2, o2, rfl⟩ := rw_some (a := b) hf.2 hk2
      have hca := fun w (h : ValsAt w (some ⟨b1, o1, none⟩) (l.flatMap rwC) ∧ ValsAt w (some ⟨b2, o2, none⟩) (l.flatMap rwC)) => rw_cells h.1 hk2
      have hcb := fun w (h : ValsAt w (some ⟨b1, o1, none⟩) (l.flatMap rwC) ∧ ValsAt w (some ⟨b2, o2, none⟩) (l.flatMap rwC)) => rw_cells h.2 hk2
      generalize l[k] = x at *
      go_wp2_with (first | ((refine sy_ hO ?_); clear hO; intro w9 hO; (try dsimp only [List.set] at hO); ((try clear hf); have hf := fa_ hO)))
      (refine wp_region_run (fun _ => True) (fun _ _ _ _ => trivial) trivial ((0, 0) :: (0, 1) :: (0, 2) :: (1, 3) :: (0, 4) :: (0, 5) :: (0, 6) :: (1, 7) :: (0, 8) :: []) (by kernel_rfl) (by kernel_rfl) rfl (fun _ _ d _ _ h => by cases d <;> exact h) ?_; intro w9 hx9; replace hO := hO.ext hx9; clear hx9; ((try clear hf); have hf := fa_ hO); (repeat (first | (apply inRun_p _ rfl rfl rfl; focus (intro w8 K8 hK8; (repeat (first | go_skip | go_guarded | go_step)); exact hK8)) | (apply inRun_l _ rfl rfl rfl; focus (intro w8 hx8 K8 hK8; have hO := hO.ext hx8; ((try clear hf); have hf := fa_ hO); obtain ⟨c0, c1⟩ := hca _ hf; obtain ⟨d0, d1⟩ := hcb _ hf; (repeat (first | go_skip | go_guarded | go_step)); exact hK8)) | (apply inRun_q _ rfl; (focus (intro w8 hx8 K8 hK8; have hO := hO.ext hx8; ((try clear hf); have hf := fa_ hO); (repeat (first | go_skip | go_guarded | go_step | fail)); (first | exact xt_ | exact hK8 _ xt_))); (focus (exact rfl)); intro w8 hx8; replace hO := hO.ext hx8; clear hx8; ((try clear hf); have hf := fa_ hO)))))
      refine inRun_nil ?_
      go_wp2_with (first | ((refine sy_ hO ?_); clear hO; intro w9 hO; (try dsimp only [List.set] at hO); ((try clear hf); have hf := fa_ hO)))
      exact ⟨⟨k + 1, by go_num, by omega, hO⟩, by simp [intOf]; omega⟩
    · go_wp2_with (first | ((refine sy_ hO ?_); clear hO; intro w9 hO; (try dsimp only [List.set] at hO); ((try clear hf); have hf := fa_ hO)))
      go_ret
      exact ⟨rfl, hO.toExt⟩
end Go.Proofs.YtmknhibaoopjjaaGreatDoor
namespace Go.Proofs.YtmknhibaoopjjaaGreatDoor
open Go.RowKit
end Go.Proofs.YtmknhibaoopjjaaGreatDoor
namespace Go.Proofs.YtmknhibaoopjjaaGreatDoor
open Go.RowKit
end Go.Proofs.YtmknhibaoopjjaaGreatDoor
namespace Go.Proofs.YtmknhibaoopjjaaGreatDoor
open Go.RowKit
end Go.Proofs.YtmknhibaoopjjaaGreatDoor
