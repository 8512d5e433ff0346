/- Texts VerL, RwR, SlR, RwA, Good, SlE of this claim, laid together. -/
import Derived.Test.YtagcmjmcjpjihaaGreatDoorGTopCountProof21
import Derived.Test.YtagcmjmcjpjihaaGreatDoorGTopCountProof32
import Derived.Test.YtagcmjmcjpjihaaGreatDoorGTopCountProof29
import Derived.Test.YtagcmjmcjpjihaaGreatDoorGTopCountProof28
import Derived.Test.YtagcmjmcjpjihaaGreatDoorGTopCountProof14
import Derived.Test.YtagcmjmcjpjihaaGreatDoorGTopCountProof6
set_option linter.unusedVariables false
set_option linter.unusedSimpArgs false
namespace Go.Proofs.YtagcmjmcjpjihaaGreatDoor
/-! Rows that rise by keys. -/
def RUps (l : List Rw) : Prop := l.Pairwise fun x y => slt x.key y.key = true
theorem RUps.head {x : Rw} {l : List Rw} (h : RUps (x :: l)) : ∀ y ∈ l, slt x.key y.key = true := (List.pairwise_cons.1 h).1
theorem RUps.tail {x : Rw} {l : List Rw} (h : RUps (x :: l)) : RUps l := (List.pairwise_cons.1 h).2
theorem RUps.keys {l : List Rw} (h : RUps l) : (l.map Rw.key).Nodup := by
  rw [List.Nodup, List.pairwise_map]
  exact List.Pairwise.imp (fun h => slt_ne h) h
theorem RUps.inj {l : List Rw} (h : RUps l) : ∀ {x y : Rw}, x ∈ l → y ∈ l → x.key = y.key → x = y := by
  induction l with
  | nil => exact fun hx => (List.not_mem_nil hx).elim
  | cons z l ih =>
    intro x y hx hy he
    rcases List.mem_cons.1 hx with rfl | hx' <;> rcases List.mem_cons.1 hy with rfl | hy'
    · rfl
    · exact absurd he (slt_ne (h.head _ hy'))
    · exact absurd he.symm (slt_ne (h.head _ hx'))
    · exact ih h.tail hx' hy' he
theorem RUps.ext : ∀ {l l' : List Rw}, RUps l → RUps l' → (∀ r, r ∈ l ↔ r ∈ l') → l = l'
  | [], [], _, _, _ => rfl
  | [], y :: l', _, _, h => ((List.not_mem_nil ((h y).2 (List.mem_cons_self ..))).elim)
  | x :: l, [], _, _, h => ((List.not_mem_nil ((h x).1 (List.mem_cons_self ..))).elim)
  | x :: l, y :: l', h1, h2, h => by
    have e : x = y := by
      rcases List.mem_cons.1 ((h x).1 (List.mem_cons_self ..)) with e | hx
      · exact e
      rcases List.mem_cons.1 ((h y).2 (List.mem_cons_self ..)) with e | hy
      · exact e.symm
      have a := h1.head y hy
      have b := h2.head x hx
      rw [slt_asymm a] at b
      cases b
    subst e
    have e2 : l = l' := RUps.ext h1.tail h2.tail fun r => by
      constructor
      · intro hr
        rcases List.mem_cons.1 ((h r).1 (List.mem_cons_of_mem _ hr)) with rfl | h3
        · exact absurd rfl (slt_ne (h1.head r hr))
        · exact h3
      · intro hr
        rcases List.mem_cons.1 ((h r).2 (List.mem_cons_of_mem _ hr)) with rfl | h3
        · exact absurd rfl (slt_ne (h2.head r hr))
        · exact h3
    rw [e2]
/-- A row's value. -/
def valR (l : List Rw) (k : ByteArray) : ByteArray × Bool := match l.find? (fun r => decide (r.key = k)) with
  | some r => (r.val, true)
  | none => (⟨#[]⟩, false)
theorem valR_none {l : List Rw} {k : ByteArray} (h : ∀ r ∈ l, r.key ≠ k) : valR l k = (⟨#[]⟩, false) := by
  unfold valR
  rw [List.find?_eq_none.2 fun r hr => by rw [decide_eq_true_iff]; exact h r hr]
theorem valR_some {l : List Rw} (h : RUps l) {r : Rw} (hr : r ∈ l) : valR l r.key = (r.val, true) := by
  unfold valR
  cases hf : l.find? (fun x => decide (x.key = r.key)) with
  | none => exact absurd (decide_eq_true (rfl : r.key = r.key)) (List.find?_eq_none.1 hf r hr)
  | some x =>
    have e : x.key = r.key := by simpa using List.find?_some hf
    rw [h.inj (List.mem_of_find?_eq_some hf) hr e]
theorem valR_cases {l : List Rw} (h : RUps l) (k : ByteArray) : (∃ r ∈ l, r.key = k ∧ valR l k = (r.val, true)) ∨ ((∀ r ∈ l, r.key ≠ k) ∧ valR l k = (⟨#[]⟩, false)) := by
  by_cases hk : ∃ r ∈ l, r.key = k
  · obtain ⟨r, hr, rfl⟩ := hk
    exact .inl ⟨r, hr, rfl, valR_some h hr⟩
  · have h1 : ∀ r ∈ l, r.key ≠ k := fun r hr he => hk ⟨r, hr, he⟩
    exact .inr ⟨h1, valR_none h1⟩
theorem valR_iff {l : List Rw} (h : RUps l) (k v : ByteArray) : valR l k = (v, true) ↔ (⟨k, v⟩ : Rw) ∈ l := by
  rcases valR_cases h k with ⟨r, hr, rfl, hv⟩ | ⟨hn, hv⟩
  · rw [hv]
    constructor
    · intro e; injection e with e; rw [← e]; exact hr
    · intro hm; rw [← h.inj hm hr rfl]
  · rw [hv]
    constructor
    · intro e; injection e with _ e; cases e
    · intro hm; exact absurd rfl (hn _ hm)
/-- A deed's change is applied. -/
def appF (c : Ch) : Bool → List Rw → List Rw
  | laid, [] => if laid then [] else [⟨c.key, c.val⟩]
  | laid, x :: l => if laid = false ∧ slt x.key c.key = false then ⟨c.key, c.val⟩ :: (if x.key = c.key then appF c true l else x :: appF c true l) else if x.key = c.key then appF c laid l else x :: appF c laid l
def appR (l : List Rw) (c : Ch) : List Rw := appF c c.gone l
theorem mem_appF {c : Ch} {r : Rw} : ∀ {l : List Rw} {laid : Bool}, r ∈ appF c laid l ↔ (r ∈ l ∧ r.key ≠ c.key) ∨ (laid = false ∧ r = ⟨c.key, c.val⟩)
  | [], laid => by
    cases laid <;> simp [appF]
  | x :: l, laid => by
    have i1 := mem_appF (c := c) (r := r) (l := l) (laid := true)
    have i2 := mem_appF (c := c) (r := r) (l := l) (laid := laid)
    rw [appF]
    by_cases h1 : laid = false ∧ slt x.key c.key = false
    · rw [if_pos h1]
      by_cases h2 : x.key = c.key
      · rw [if_pos h2, List.mem_cons, i1, List.mem_cons]
        constructor
        · rintro (rfl | ⟨h3, h4⟩ | ⟨h3, _⟩)
          · exact .inr ⟨h1.1, rfl⟩
          · exact .inl ⟨.inr h3, h4⟩
          · cases h3
        · rintro (⟨rfl | h3, h4⟩ | ⟨_, h3⟩)
          · exact absurd h2 h4
          · exact .inr (.inl ⟨h3, h4⟩)
          · exact .inl h3
      · rw [if_neg h2, List.mem_cons, List.mem_cons, i1, List.mem_cons]
        constructor
        · rintro (rfl | rfl | ⟨h3, h4⟩ | ⟨h3, _⟩)
          · exact .inr ⟨h1.1, rfl⟩
          · exact .inl ⟨.inl rfl, h2⟩
          · exact .inl ⟨.inr h3, h4⟩
          · cases h3
        · rintro (⟨rfl | h3, h4⟩ | ⟨_, h3⟩)
          · exact .inr (.inl rfl)
          · exact .inr (.inr (.inl ⟨h3, h4⟩))
          · exact .inl h3
    · rw [if_neg h1]
      by_cases h2 : x.key = c.key
      · rw [if_pos h2, i2, List.mem_cons]
        constructor
        · rintro (⟨h3, h4⟩ | h3)
          · exact .inl ⟨.inr h3, h4⟩
          · exact .inr h3
        · rintro (⟨rfl | h3, h4⟩ | h3)
          · exact absurd h2 h4
          · exact .inl ⟨h3, h4⟩
          · exact .inr h3
      · rw [if_neg h2, List.mem_cons, i2, List.mem_cons]
        constructor
        · rintro (rfl | ⟨h3, h4⟩ | h3)
          · exact .inl ⟨.inl rfl, h2⟩
          · exact .inl ⟨.inr h3, h4⟩
          · exact .inr h3
        · rintro (⟨rfl | h3, h4⟩ | h3)
          · exact .inl rfl
          · exact .inr (.inl ⟨h3, h4⟩)
          · exact .inr (.inr h3)
theorem appF_ups {c : Ch} : ∀ {l : List Rw} {laid : Bool}, RUps l → RUps (appF c laid l)
  | [], laid, _ => by cases laid <;> simp [appF, RUps]
  | x :: l, laid, h => by
    have i1 := appF_ups (c := c) (laid := true) h.tail
    have i2 := appF_ups (c := c) (laid := laid) h.tail
    have hd := h.head
    rw [appF]
    by_cases h1 : laid = false ∧ slt x.key c.key = false
    · rw [if_pos h1]
      by_cases h2 : x.key = c.key
      · rw [if_pos h2]
        refine List.pairwise_cons.2 ⟨fun y hy => ?_, i1⟩
        rcases mem_appF.1 hy with ⟨h3, _⟩ | ⟨h3, _⟩
        · exact h2 ▸ hd y h3
        · cases h3
      · rw [if_neg h2]
        have hx : slt c.key x.key = true := slt_of_not h1.2 h2
        refine List.pairwise_cons.2 ⟨fun y hy => ?_, List.pairwise_cons.2 ⟨fun y hy => ?_, i1⟩⟩
        · rcases List.mem_cons.1 hy with rfl | hy
          · exact hx
          rcases mem_appF.1 hy with ⟨h3, _⟩ | ⟨h3, _⟩
          · exact slt_trans hx (hd y h3)
          · cases h3
        · rcases mem_appF.1 hy with ⟨h3, _⟩ | ⟨h3, _⟩
          · exact hd y h3
          · cases h3
    · rw [if_neg h1]
      by_cases h2 : x.key = c.key
      · rw [if_pos h2]; exact i2
      · rw [if_neg h2]
        refine List.pairwise_cons.2 ⟨fun y hy => ?_, i2⟩
        rcases mem_appF.1 hy with ⟨h3, _⟩ | ⟨h3, rfl⟩
        · exact hd y h3
        · show slt x.key c.key = true
          cases hs : slt x.key c.key with
          | true => rfl
          | false => exact absurd ⟨h3, hs⟩ h1
theorem valR_app {l : List Rw} (h : RUps l) (c : Ch) (k : ByteArray) : valR (appR l c) k = if c.key = k then (if c.gone then (⟨#[]⟩, false) else (c.val, true)) else valR l k := by
  have hu : RUps (appR l c) := appF_ups h
  by_cases hk : c.key = k
  · subst hk
    rw [if_pos rfl]
    cases hg : c.gone with
    | true =>
      rw [if_pos rfl]
      refine valR_none fun r hr => ?_
      rcases mem_appF.1 hr with ⟨_, h4⟩ | ⟨h3, _⟩
      · exact h4
      · rw [hg] at h3; cases h3
    | false =>
      rw [if_neg (by simp)]
      exact (valR_iff hu _ _).2 (mem_appF.2 (.inr ⟨hg, rfl⟩))
  · rw [if_neg hk]
    rcases valR_cases h k with ⟨r, hr, rfl, hv⟩ | ⟨hn, hv⟩
    · rw [hv]
      exact valR_some hu (mem_appF.2 (.inl ⟨hr, fun e => hk e.symm⟩))
    · rw [hv]
      refine valR_none fun r hr => ?_
      rcases mem_appF.1 hr with ⟨h3, _⟩ | ⟨_, rfl⟩
      · exact hn r h3
      · exact hk
/-! Versions. -/
structure VInv (nn : Nat) (V : List (ByteArray × List Vn)) : Prop where
  keys : (V.map (·.1)).Nodup
  le : ∀ e ∈ V, ∀ v ∈ e.2, v.n ≤ nn
  up : ∀ e ∈ V, e.2.Pairwise fun a b => a.n < b.n
  gone : ∀ e ∈ V, ∀ v ∈ e.2, v.gone = true → v.val = ⟨#[]⟩
theorem atV_snoc (vs : List Vn) (x : Vn) (n : Int) : atV (vs ++ [x]) n = if (x.n : Int) ≤ n then (x.val, !x.gone) else atV vs n := by
  unfold atV
  rw [List.reverse_append, List.reverse_cons, List.reverse_nil, List.nil_append, List.singleton_append, List.find?_cons]
  by_cases h : (x.n : Int) ≤ n
  · rw [decide_eq_true h, if_pos h]
  · rw [decide_eq_false h, if_neg h]
theorem atV_cons (x : Vn) (vs : List Vn) (n : Int) : atV (x :: vs) n = if ∃ y ∈ vs, (y.n : Int) ≤ n then atV vs n else if (x.n : Int) ≤ n then (x.val, !x.gone) else (⟨#[]⟩, false) := by
  unfold atV
  rw [List.reverse_cons, List.find?_append]
  by_cases h : ∃ y ∈ vs, (y.n : Int) ≤ n
  · rw [if_pos h]
    obtain ⟨y, hy, hn⟩ := h
    cases hf : vs.reverse.find? (fun v => decide ((v.n : Int) ≤ n)) with
    | none => exact absurd hn (by simpa using List.find?_eq_none.1 hf y (List.mem_reverse.2 hy))
    | some z => rfl
  · rw [if_neg h]
    have hf : vs.reverse.find? (fun v => decide ((v.n : Int) ≤ n)) = none := List.find?_eq_none.2 fun y hy => by
      rw [decide_eq_true_iff]; exact fun hn => h ⟨y, List.mem_reverse.1 hy, hn⟩
    rw [hf, Option.none_or, List.find?_cons]
    by_cases hx : (x.n : Int) ≤ n
    · rw [decide_eq_true hx, if_pos hx]
    · rw [decide_eq_false hx, if_neg hx]; rfl
theorem atV_clip {vs : List Vn} {nn : Nat} {m : Int} (h : ∀ v ∈ vs, v.n ≤ nn) (hm : (nn : Int) ≤ m) : atV vs m = atV vs nn := by
  induction vs with
  | nil => rfl
  | cons x vs ih =>
    have hx := h x (List.mem_cons_self ..)
    have h2 : ∀ v ∈ vs, v.n ≤ nn := fun v hv => h v (List.mem_cons_of_mem _ hv)
    have e : (∃ y ∈ vs, (y.n : Int) ≤ m) ↔ ∃ y ∈ vs, (y.n : Int) ≤ (nn : Int) := by
      constructor
      · rintro ⟨y, hy, _⟩; exact ⟨y, hy, by have := h2 y hy; omega⟩
      · rintro ⟨y, hy, _⟩; exact ⟨y, hy, by have := h2 y hy; omega⟩
    have e2 : ((x.n : Int) ≤ m) ↔ ((x.n : Int) ≤ (nn : Int)) := ⟨fun _ => by omega, fun _ => by omega⟩
    rw [atV_cons, atV_cons, ih h2]
    simp only [e, e2]
theorem getV_mem {V : List (ByteArray × List Vn)} {k : ByteArray} {vs : List Vn} (h : getV V k = some vs) : (k, vs) ∈ V := by
  unfold getV at h
  cases hf : V.find? fun e => decide (e.1 = k) with
  | none => rw [hf] at h; cases h
  | some e =>
    rw [hf] at h
    injection h with h
    have e1 : e.1 = k := by simpa using List.find?_some hf
    have := List.mem_of_find?_eq_some hf
    rw [← e1, ← h]; exact this
theorem getV_cons (e : ByteArray × List Vn) (V : List (ByteArray × List Vn)) (k : ByteArray) : getV (e :: V) k = if e.1 = k then some e.2 else getV V k := by
  unfold getV
  rw [List.find?_cons]
  by_cases h : e.1 = k
  · rw [decide_eq_true h, if_pos h]; rfl
  · rw [decide_eq_false h, if_neg h]
theorem getV_of_mem : ∀ {V : List (ByteArray × List Vn)} {k : ByteArray} {vs : List Vn}, (V.map (·.1)).Nodup → (k, vs) ∈ V → getV V k = some vs
  | x :: V, k, vs, hn, hm => by
    rw [List.map_cons, List.nodup_cons] at hn
    rw [getV_cons]
    rcases List.mem_cons.1 hm with rfl | hm
    · rw [if_pos rfl]
    · rw [if_neg (fun he : x.1 = k => hn.1 (he ▸ List.mem_map.2 ⟨_, hm, rfl⟩)), getV_of_mem hn.2 hm]
theorem readV_clip {nn : Nat} {V : List (ByteArray × List Vn)} (h : VInv nn V) (k : ByteArray) {m : Int} (hm : (nn : Int) ≤ m) : readV V k m = readV V k nn := by
  unfold readV
  cases hg : getV V k with
  | none => rfl
  | some vs => exact atV_clip (h.le _ (getV_mem hg)) hm
theorem getV_put {n : Nat} {c : Ch} (k : ByteArray) : ∀ V : List (ByteArray × List Vn), getV (putV n V c) k = if c.key = k then some ((getV V k).getD [] ++ [⟨n, c.val, c.gone⟩]) else getV V k
  | [] => by
    rw [putV, getV_cons]; rfl
  | e :: V => by
    rw [putV]
    by_cases h1 : e.1 = c.key
    · rw [if_pos h1, getV_cons, getV_cons]
      by_cases h2 : c.key = k
      · rw [if_pos h2, if_pos (h1.trans h2), if_pos (h1.trans h2)]; rfl
      · rw [if_neg h2, if_neg (fun h => h2 (h1 ▸ h)), if_neg (fun h => h2 (h1 ▸ h))]
    · rw [if_neg h1, getV_cons, getV_cons, getV_put k V]
      by_cases h2 : c.key = k
      · rw [if_pos h2, if_pos h2, if_neg (fun h : e.1 = k => h1 (h.trans h2.symm)), if_neg (fun h : e.1 = k => h1 (h.trans h2.symm))]
      · rw [if_neg h2, if_neg h2]
theorem readV_put {n : Nat} {c : Ch} {V : List (ByteArray × List Vn)} (k : ByteArray) (m : Int) : readV (putV n V c) k m = if c.key = k ∧ (n : Int) ≤ m then (c.val, !c.gone) else readV V k m := by
  unfold readV
  rw [getV_put]
  by_cases h : c.key = k
  · rw [if_pos h]
    show atV ((getV V k).getD [] ++ [⟨n, c.val, c.gone⟩]) m = _
    rw [atV_snoc]
    by_cases h2 : (n : Int) ≤ m
    · rw [if_pos h2, if_pos ⟨h, h2⟩]
    · rw [if_neg h2, if_neg (fun x => h2 x.2)]
  · rw [if_neg h, if_neg (fun x => h x.1)]
theorem putV_keys {n : Nat} {c : Ch} : ∀ {V : List (ByteArray × List Vn)} {k : ByteArray}, k ∈ (putV n V c).map (·.1) ↔ k = c.key ∨ k ∈ V.map (·.1)
  | [], k => by simp [putV]
  | e :: V, k => by
    rw [putV]
    by_cases h : e.1 = c.key
    · rw [if_pos h, List.map_cons, List.map_cons, List.mem_cons]
      exact ⟨fun h => .inr h, fun h' => h'.elim (fun h' => .inl (h'.trans h.symm)) id⟩
    · rw [if_neg h, List.map_cons, List.map_cons, List.mem_cons, List.mem_cons, putV_keys (V := V)]
      constructor
      · rintro (h | h | h)
        · exact .inr (.inl h)
        · exact .inl h
        · exact .inr (.inr h)
      · rintro (h | h | h)
        · exact .inr (.inl h)
        · exact .inl h
        · exact .inr (.inr h)
theorem putV_nodup {n : Nat} {c : Ch} : ∀ {V : List (ByteArray × List Vn)}, (V.map (·.1)).Nodup → ((putV n V c).map (·.1)).Nodup
  | [], _ => by simp [putV]
  | e :: V, h => by
    rw [List.map_cons, List.nodup_cons] at h
    rw [putV]
    by_cases h1 : e.1 = c.key
    · rw [if_pos h1, List.map_cons, List.nodup_cons]; exact h
    · rw [if_neg h1, List.map_cons, List.nodup_cons]
      refine ⟨fun hm => ?_, putV_nodup h.2⟩
      rcases putV_keys.1 hm with h2 | h2
      · exact h1 h2
      · exact h.1 h2
theorem putV_mem {n : Nat} {c : Ch} {e : ByteArray × List Vn} : ∀ {V : List (ByteArray × List Vn)}, e ∈ putV n V c → e ∈ V ∨ (e = (c.key, [⟨n, c.val, c.gone⟩])) ∨ ∃ x ∈ V, x.1 = c.key ∧ e = (x.1, x.2 ++ [⟨n, c.val, c.gone⟩])
  | [], h => by
    rw [putV, List.mem_singleton] at h
    exact .inr (.inl h)
  | x :: V, h => by
    rw [putV] at h
    by_cases h1 : x.1 = c.key
    · rw [if_pos h1] at h
      rcases List.mem_cons.1 h with h | h
      · exact .inr (.inr ⟨x, List.mem_cons_self .., h1, h⟩)
      · exact .inl (List.mem_cons_of_mem _ h)
    · rw [if_neg h1] at h
      rcases List.mem_cons.1 h with h | h
      · exact .inl (h ▸ List.mem_cons_self ..)
      · rcases putV_mem h with h | h | ⟨y, h2, h3⟩
        · exact .inl (List.mem_cons_of_mem _ h)
        · exact .inr (.inl h)
        · exact .inr (.inr ⟨y, List.mem_cons_of_mem _ h2, h3⟩)
theorem putV_at_mem {n : Nat} {c : Ch} {e : ByteArray × List Vn} : ∀ {V : List (ByteArray × List Vn)}, (V.map (·.1)).Nodup → e ∈ putV n V c → e.1 ≠ c.key → e ∈ V
  | V, hn, h, hk => by
    rcases putV_mem h with h | h | ⟨x, _, h2, h3⟩
    · exact h
    · exact absurd (h ▸ rfl) hk
    · exact absurd (h3 ▸ h2) hk
/-! A deed is committed. -/
theorem size_nil : ∀ {s : ByteArray}, s.size = 0 → s = ⟨#[]⟩
  | ⟨d⟩, h => by
    have h1 : d = #[] := Array.eq_empty_of_size_eq_zero h
    rw [h1]
theorem deed_some : ∀ {l : List Ch} {k : ByteArray}, deedFrom (some k) l = 0 → (∀ c ∈ l, chN c = 0 ∧ slt k c.key = true) ∧ l.Pairwise fun a b => slt a.key b.key = true
  | [], _, _ => ⟨fun _ h => (List.not_mem_nil h).elim, .nil⟩
  | c :: l, k, h => by
    rw [deedFrom] at h
    by_cases h1 : chN c ≠ 0
    · rw [if_pos h1] at h; exact absurd h h1
    · rw [if_neg h1] at h
      cases h2 : slt k c.key with
      | false => rw [if_pos (by simp [h2])] at h; cases h
      | true =>
        rw [if_neg (by simp [h2])] at h
        obtain ⟨i1, i2⟩ := deed_some h
        refine ⟨fun x hx => ?_, List.pairwise_cons.2 ⟨fun x hx => (i1 x hx).2, i2⟩⟩
        rcases List.mem_cons.1 hx with rfl | hx
        · exact ⟨by omega, h2⟩
        · exact ⟨(i1 x hx).1, slt_trans h2 (i1 x hx).2⟩
theorem deed_ok {l : List Ch} (h : deedN l = 0) : (∀ c ∈ l, chN c = 0) ∧ l.Pairwise fun a b => slt a.key b.key = true := by
  cases l with
  | nil => exact ⟨fun _ h => (List.not_mem_nil h).elim, .nil⟩
  | cons c l =>
    unfold deedN at h
    rw [deedFrom] at h
    by_cases h1 : chN c ≠ 0
    · rw [if_pos h1] at h; exact absurd h h1
    · rw [if_neg h1, if_neg (by simp)] at h
      obtain ⟨i1, i2⟩ := deed_some h
      refine ⟨fun x hx => ?_, List.pairwise_cons.2 ⟨fun x hx => (i1 x hx).2, i2⟩⟩
      rcases List.mem_cons.1 hx with rfl | hx
      · omega
      · exact (i1 x hx).1
/-- Half a deed is put: the changes of 'done'. -/
structure VMid (nn : Nat) (todo : List Ch) (V : List (ByteArray × List Vn)) : Prop where
  inv : VInv (nn + 1) V
  old : ∀ e ∈ V, (∃ c ∈ todo, c.key = e.1) → ∀ v ∈ e.2, v.n ≤ nn
theorem VMid.step {nn : Nat} {c : Ch} {C : List Ch} {V : List (ByteArray × List Vn)} (h : VMid nn (c :: C) V) (hg : c.gone = true → c.val = ⟨#[]⟩) (hk : ∀ x ∈ C, x.key ≠ c.key) : VMid nn C (putV (nn + 1) V c) where
  inv := {
    keys := putV_nodup h.inv.keys
    le := fun e he v hv => by
      rcases putV_mem he with he | rfl | ⟨x, hx, h2, rfl⟩
      · exact h.inv.le e he v hv
      · rw [List.mem_singleton] at hv; rw [hv]; exact Nat.le_refl _
      · rcases List.mem_append.1 hv with hv | hv
        · exact h.inv.le x hx v hv
        · rw [List.mem_singleton] at hv; rw [hv]; exact Nat.le_refl _
    up := fun e he => by
      rcases putV_mem he with he | rfl | ⟨x, hx, h2, rfl⟩
      · exact h.inv.up e he
      · exact List.pairwise_singleton ..
      · refine List.pairwise_append.2 ⟨h.inv.up x hx, List.pairwise_singleton .., fun a ha b hb => ?_⟩
        rw [List.mem_singleton] at hb
        have := h.old x hx ⟨c, List.mem_cons_self .., h2.symm⟩ a ha
        rw [hb]; exact Nat.lt_succ_of_le this
    gone := fun e he v hv => by
      rcases putV_mem he with he | rfl | ⟨x, hx, h2, rfl⟩
      · exact h.inv.gone e he v hv
      · rw [List.mem_singleton] at hv; rw [hv]; exact hg
      · rcases List.mem_append.1 hv with hv | hv
        · exact h.inv.gone x hx v hv
        · rw [List.mem_singleton] at hv; rw [hv]; exact hg }
  old := fun e he ⟨x, hx, hxe⟩ => h.old e (putV_at_mem h.inv.keys he fun h' => hk x hx (hxe.trans h')) ⟨x, List.mem_cons_of_mem _ hx, hxe⟩
theorem VMid.all {nn : Nat} : ∀ {C : List Ch} {V : List (ByteArray × List Vn)}, VMid nn C V → (∀ c ∈ C, c.gone = true → c.val = ⟨#[]⟩) → C.Pairwise (fun a b => slt a.key b.key = true) → VInv (nn + 1) (C.foldl (putV (nn + 1)) V)
  | [], V, h, _, _ => h.inv
  | c :: C, V, h, hg, hp => by
    rw [List.pairwise_cons] at hp
    exact VMid.all (C := C) (h.step (hg c (List.mem_cons_self ..)) fun x hx => (slt_ne (hp.1 x hx)).symm) (fun x hx => hg x (List.mem_cons_of_mem _ hx)) hp.2
theorem chN_val {c : Ch} (h : chN c = 0) : c.gone = true → c.val = ⟨#[]⟩ := by
  intro hg
  by_cases hk : KeyOk c.key
  · by_cases h3 : c.val.size = 0
    · exact size_nil h3
    · rw [chN_gone hk hg h3] at h; cases h
  · rw [chN_no hk] at h; cases h
theorem VInv.commit {nn : Nat} {C : List Ch} {V : List (ByteArray × List Vn)} (h : VInv nn V) : VInv (comN nn C) (commitV nn C V) := by
  unfold comN commitV
  by_cases hd : deedN C = 0
  · rw [if_pos hd, if_pos hd]
    obtain ⟨h1, h2⟩ := deed_ok hd
    refine VMid.all ⟨⟨h.keys, fun e he v hv => Nat.le_succ_of_le (h.le e he v hv), h.up, h.gone⟩, fun e he _ => h.le e he⟩ (fun c hc => chN_val (h1 c hc)) h2
  · rw [if_neg hd, if_neg hd]; exact h
theorem fold_old {n : Nat} (k : ByteArray) {m : Int} (hm : m < n) : ∀ (C : List Ch) (V : List (ByteArray × List Vn)), readV (C.foldl (putV n) V) k m = readV V k m
  | [], V => rfl
  | c :: C, V => by
    rw [List.foldl_cons, fold_old k hm C, readV_put, if_neg (fun h => by omega)]
theorem commit_old {nn : Nat} {C : List Ch} {V : List (ByteArray × List Vn)} (k : ByteArray) {m : Int} (hm : m ≤ nn) : readV (commitV nn C V) k m = readV V k m := by
  unfold commitV
  by_cases hd : deedN C = 0
  · rw [if_pos hd]; exact fold_old k (by omega) _ _
  · rw [if_neg hd]
theorem fold_new {n : Nat} (k : ByteArray) {m : Int} (hm : (n : Int) ≤ m) : ∀ (C : List Ch) (V : List (ByteArray × List Vn)) (l : List Rw), (∀ c ∈ C, c.gone = true → c.val = ⟨#[]⟩) → RUps l → readV V k m = valR l k → RUps (C.foldl appR l) ∧ readV (C.foldl (putV n) V) k m = valR (C.foldl appR l) k
  | [], V, l, _, hl, h => ⟨hl, h⟩
  | c :: C, V, l, hg, hl, h => by
    rw [List.foldl_cons, List.foldl_cons]
    refine fold_new k hm C _ _ (fun x hx => hg x (List.mem_cons_of_mem _ hx)) (appF_ups hl) ?_
    rw [readV_put, valR_app hl]
    by_cases hk : c.key = k
    · rw [if_pos ⟨hk, hm⟩, if_pos hk]
      cases hgo : c.gone with
      | true => rw [hg c (List.mem_cons_self ..) hgo]; rfl
      | false => rfl
    · rw [if_neg (fun h => hk h.1), if_neg hk, h]
/-- What was, deed by deed, from one on. -/
structure Past (nn : Nat) (frm : Nat) (V : List (ByteArray × List Vn)) (past : List (List Rw)) : Prop where
  inv : VInv nn V
  len : past.length = nn + 1
  ups : ∀ l ∈ past, RUps l
  le : frm ≤ nn
  reads : ∀ m (h : m < past.length), frm ≤ m → ∀ k, readV V k m = valR past[m] k
theorem Past.commit {nn frm : Nat} {V : List (ByteArray × List Vn)} {past : List (List Rw)} (h : Past nn frm V past) {C : List Ch} (hd : deedN C = 0) (hl : nn < past.length) : Past (nn + 1) frm (commitV nn C V) (past ++ [C.foldl appR past[nn]]) where
  inv := by have := h.inv.commit (C := C); unfold comN at this; rw [if_pos hd] at this; exact this
  len := by rw [List.length_append, h.len]; rfl
  ups := fun l hm => by
    rcases List.mem_append.1 hm with hm | hm
    · exact h.ups l hm
    · rw [List.mem_singleton] at hm; rw [hm]
      have hu : ∀ (C : List Ch) {l : List Rw}, RUps l → RUps (C.foldl appR l) := fun C => by
        induction C with
        | nil => exact fun h => h
        | cons c C ih => exact fun h => ih (appF_ups h)
      exact hu C (h.ups _ (List.getElem_mem hl))
  le := Nat.le_succ_of_le h.le
  reads := fun m hm hf k => by
    have hlen := h.len
    by_cases h1 : m < past.length
    · rw [List.getElem_append_left h1, commit_old k (by omega)]
      exact h.reads m h1 hf k
    · have h2 : m = nn + 1 := by rw [List.length_append] at hm; simp at hm; omega
      subst h2
      rw [List.getElem_append_right (by omega)]
      simp only [hlen, Nat.sub_self, List.getElem_cons_zero]
      unfold commitV
      rw [if_pos hd]
      refine (fold_new k (Int.le_refl _) C V past[nn] (fun c hc => chN_val ((deed_ok hd).1 c hc)) (h.ups _ (List.getElem_mem hl)) ?_).2
      rw [readV_clip h.inv k (by omega)]
      exact h.reads nn hl h.le k
theorem newV_inv {l : List Rw} (h : RUps l) : VInv 0 (newV l) where
  keys := by
    unfold newV
    rw [List.map_map]
    exact h.keys
  le := fun e he v hv => by
    obtain ⟨r, _, rfl⟩ := List.mem_map.1 he
    rw [List.mem_singleton] at hv; rw [hv]; exact Nat.le_refl _
  up := fun e he => by
    obtain ⟨r, _, rfl⟩ := List.mem_map.1 he
    exact List.pairwise_singleton ..
  gone := fun e he v hv hg => by
    obtain ⟨r, _, rfl⟩ := List.mem_map.1 he
    rw [List.mem_singleton] at hv; rw [hv] at hg; cases hg
theorem newV_read (l : List Rw) (k : ByteArray) {m : Int} (hm : 0 ≤ m) : readV (newV l) k m = valR l k := by
  unfold readV valR
  induction l with
  | nil => rfl
  | cons r l ih =>
    unfold newV at ih ⊢
    rw [List.map_cons, getV_cons, List.find?_cons]
    by_cases hk : r.key = k
    · rw [decide_eq_true hk]
      show atV ((if r.key = k then some [(⟨0, r.val, false⟩ : Vn)] else _).getD []) m = _
      rw [if_pos hk]
      show atV ([] ++ [(⟨0, r.val, false⟩ : Vn)]) m = _
      rw [atV_snoc, if_pos (show (((0 : Nat) : Int)) ≤ m from hm)]; rfl
    · rw [decide_eq_false hk]
      show atV ((if r.key = k then some [(⟨0, r.val, false⟩ : Vn)] else _).getD []) m = _
      rw [if_neg hk]; exact ih
theorem Past.new {l : List Rw} (h : RUps l) : Past 0 0 (newV l) [l] where
  inv := newV_inv h
  len := rfl
  ups := fun x hx => by rw [List.mem_singleton] at hx; rw [hx]; exact h
  le := Nat.le_refl _
  reads := fun m hm _ k => by
    have : m = 0 := by simp at hm; exact hm
    subst this
    exact newV_read l k (by omega)
/-! Vacuum. -/
/-- Rows of some keys, as they lie in the map. -/
def scanL (V : List (ByteArray × List Vn)) (f : ByteArray → Bool) (n : Int) : List Rw := V.filterMap fun e => if (atV e.2 n).2 && f e.1 then some ⟨e.1, (atV e.2 n).1⟩ else none
theorem mem_scanL {V : List (ByteArray × List Vn)} (hn : (V.map (·.1)).Nodup) {f : ByteArray → Bool} {n : Int} {r : Rw} : r ∈ scanL V f n ↔ readV V r.key n = (r.val, true) ∧ f r.key = true := by
  unfold scanL
  rw [List.mem_filterMap]
  constructor
  · rintro ⟨e, he, h⟩
    by_cases hc : (atV e.2 n).2 && f e.1
    · rw [if_pos hc] at h
      injection h with h
      subst h
      rw [Bool.and_eq_true] at hc
      refine ⟨?_, hc.2⟩
      unfold readV
      rw [getV_of_mem hn he]
      show atV e.2 n = _
      rw [← hc.1]
    · rw [if_neg hc] at h; cases h
  · rintro ⟨h1, h2⟩
    unfold readV at h1
    cases hg : getV V r.key with
    | none => rw [hg] at h1; exact absurd (show atV [] n = (r.val, true) from h1) (by unfold atV; simp)
    | some vs =>
      rw [hg] at h1
      have h1 : atV vs n = (r.val, true) := h1
      refine ⟨_, getV_mem hg, ?_⟩
      show (if (atV vs n).2 && f r.key then some (⟨r.key, (atV vs n).1⟩ : Rw) else none) = some r
      rw [h1, h2]; rfl
theorem scanL_keys (f : ByteArray → Bool) (n : Int) : ∀ V : List (ByteArray × List Vn), ((scanL V f n).map Rw.key).Sublist (V.map (·.1))
  | [] => .slnil
  | e :: V => by
    unfold scanL
    rw [List.filterMap_cons]
    by_cases hc : ((atV e.2 n).2 && f e.1) = true
    · rw [if_pos hc]; exact (scanL_keys f n V).cons_cons _
    · rw [if_neg hc]; exact (scanL_keys f n V).cons _
noncomputable def scanV (V : List (ByteArray × List Vn)) (f : ByteArray → Bool) (n : Int) : List Rw := (scanL V f n).mergeSort fun a b => !slt b.key a.key
theorem scanV_perm (V : List (ByteArray × List Vn)) (f : ByteArray → Bool) (n : Int) : (scanV V f n).Perm (scanL V f n) := List.mergeSort_perm _ _
theorem scanV_ups {V : List (ByteArray × List Vn)} (hn : (V.map (·.1)).Nodup) (f : ByteArray → Bool) (n : Int) : RUps (scanV V f n) := by
  have h1 : (scanV V f n).Pairwise fun a b => (!slt b.key a.key) = true := by
    refine List.pairwise_mergeSort (le := fun a b : Rw => !slt b.key a.key) (fun a b c h1 h2 => ?_) (fun a b => ?_) _
    · simp only [Bool.not_eq_eq_eq_not, Bool.not_true] at h1 h2 ⊢
      exact not_slt_trans h2 h1
    · rcases slt_total a.key b.key with h | h | h
      · simp [slt_asymm h]
      · simp [h, slt_irrefl]
      · simp [slt_asymm h]
  have h2 : ((scanV V f n).map Rw.key).Nodup := ((scanV_perm V f n).map Rw.key).nodup_iff.2 (hn.sublist (scanL_keys f n V))
  rw [List.Nodup, List.pairwise_map] at h2
  refine (h1.and h2).imp fun {a b} h => ?_
  have h3 : slt b.key a.key = false := by simpa using h.1
  exact slt_of_not h3 (fun e => h.2 e.symm)
theorem mem_scanV {V : List (ByteArray × List Vn)} (hn : (V.map (·.1)).Nodup) {f : ByteArray → Bool} {n : Int} {r : Rw} : r ∈ scanV V f n ↔ readV V r.key n = (r.val, true) ∧ f r.key = true :=
  (scanV_perm V f n).mem_iff.trans (mem_scanL hn)
theorem scan_rows {V : List (ByteArray × List Vn)} (hn : (V.map (·.1)).Nodup) {f : ByteArray → Bool} {n : Int} {l : List Rw} (hl : RUps l) (h : ∀ k, readV V k n = valR l k) : scanV V f n = l.filter (fun r => f r.key) := by
  refine (scanV_ups hn f n).ext (hl.filter _) fun r => ?_
  rw [mem_scanV hn, h, valR_iff hl, List.mem_filter]
theorem Past.read {nn frm : Nat} {V : List (ByteArray × List Vn)} {past : List (List Rw)} (h : Past nn frm V past) {m : Int} (hm : (frm : Int) ≤ m) {j : Nat} (hj : (j : Int) = min m nn) (hl : j < past.length) (k : ByteArray) : readV V k m = valR past[j] k := by
  have hle := h.le
  by_cases hn : (nn : Int) ≤ m
  · have e : j = nn := by omega
    subst e
    rw [readV_clip h.inv k hn]; exact h.reads j hl h.le k
  · have e : m = (j : Int) := by omega
    rw [e]; exact h.reads j hl (by omega) k
theorem Past.scan {nn frm : Nat} {V : List (ByteArray × List Vn)} {past : List (List Rw)} (h : Past nn frm V past) {m : Int} (hm : (frm : Int) ≤ m) {j : Nat} (hj : (j : Int) = min m nn) (hl : j < past.length) (f : ByteArray → Bool) : scanV V f m = past[j].filter (fun r => f r.key) :=
  scan_rows h.inv.keys (h.ups _ (List.getElem_mem hl)) (h.read hm hj hl)
/-! Sizes. -/
theorem putV_len (n : Nat) (c : Ch) : ∀ V : List (ByteArray × List Vn), (putV n V c).length ≤ V.length + 1 ∧ cntV (putV n V c) = cntV V + 1
  | [] => ⟨by simp [putV], rfl⟩
  | e :: V => by
    have ih := putV_len n c V
    rw [putV]
    by_cases h : e.1 = c.key
    · rw [if_pos h]
      refine ⟨by simp, ?_⟩
      show (e.2 ++ [_]).length + cntV V = e.2.length + cntV V + 1
      rw [List.length_append]; simp; omega
    · rw [if_neg h]
      refine ⟨by simp; exact ih.1, ?_⟩
      show e.2.length + cntV (putV n V c) = e.2.length + cntV V + 1
      omega
theorem commit_len (nn : Nat) (C : List Ch) (V : List (ByteArray × List Vn)) : (commitV nn C V).length ≤ V.length + C.length ∧ cntV (commitV nn C V) ≤ cntV V + C.length := by
  unfold commitV
  by_cases hd : deedN C = 0
  · rw [if_pos hd]
    clear hd
    induction C generalizing V with
    | nil => exact ⟨Nat.le_refl _, Nat.le_refl _⟩
    | cons c C ih =>
      rw [List.foldl_cons, List.length_cons]
      have h1 := ih (putV (nn + 1) V c)
      have h2 := putV_len (nn + 1) c V
      omega
  · rw [if_neg hd]; omega
theorem cnt_mem {e : ByteArray × List Vn} : ∀ {V : List (ByteArray × List Vn)}, e ∈ V → e.2.length ≤ cntV V
  | x :: V, h => by
    rcases List.mem_cons.1 h with rfl | h
    · exact Nat.le_add_right _ _
    · exact Nat.le_trans (cnt_mem h) (Nat.le_add_left _ _)
theorem cnt_new (l : List Rw) : cntV (newV l) = l.length := by
  induction l with
  | nil => rfl
  | cons r l ih =>
    show 1 + cntV (newV l) = l.length + 1
    omega
theorem app_len (c : Ch) : ∀ (l : List Rw) (laid : Bool), (appF c laid l).length ≤ l.length + 1 ∧ (laid = true → (appF c laid l).length ≤ l.length)
  | [], laid => by cases laid <;> simp [appF]
  | x :: l, laid => by
    have i1 := app_len c l true
    have i2 := app_len c l laid
    have h3 := i1.2 rfl
    rw [appF]
    by_cases h1 : laid = false ∧ slt x.key c.key = false
    · rw [if_pos h1, h1.1]
      refine ⟨?_, fun h => by cases h⟩
      split <;> simp <;> omega
    · rw [if_neg h1]
      split
      · exact ⟨by simp; omega, fun h => by have := i2.2 h; simp; omega⟩
      · exact ⟨by simp; omega, fun h => by have := i2.2 h; simp; omega⟩
theorem apps_len : ∀ (C : List Ch) (l : List Rw), (C.foldl appR l).length ≤ l.length + C.length
  | [], l => Nat.le_refl _
  | c :: C, l => by
    have h1 := apps_len C (appR l c)
    have h2 := (app_len c l c.gone).1
    rw [List.foldl_cons, List.length_cons]
    unfold appR at h1 ⊢
    omega
end Go.Proofs.YtagcmjmcjpjihaaGreatDoor
namespace Go.Proofs.YtagcmjmcjpjihaaGreatDoor
open Go.RowKit
/-- A row where it lies. -/
theorem rw_cells {w : World} {l : List Rw} {b off i : Nat} (h : ValsAt w (some ⟨b, off, none⟩) (l.flatMap rwC)) (hi : i < l.length) : w.cell? ⟨b, off + i * 2, none⟩ = some (.string l[i].key) ∧ w.cell? ⟨b, off + i * 2 + 1, none⟩ = some (.string l[i].val) := by
  have g0 := flat_get rwC 2 (fun _ => rfl) l i hi 0 (by omega)
  have g1 := flat_get rwC 2 (fun _ => rfl) l i hi 1 (by omega)
  exact ⟨ValsAt.get h g0, by rw [Nat.add_assoc]; exact ValsAt.get h g1⟩
theorem rw_some {w : World} {l : List Rw} {a : Option Addr} {i : Nat} (h : ValsAt w a (l.flatMap rwC)) (hi : i < l.length) : ∃ b off, a = some ⟨b, off, none⟩ :=
  ValsAt.some h (flat_get rwC 2 (fun _ => rfl) l i hi 0 (by omega))
theorem valR_go {l : List Rw} {k : ByteArray} {i : Nat} (hi : i < l.length) (h : l[i].key ≠ k) : valR (l.drop i) k = valR (l.drop (i + 1)) k := by
  rw [List.drop_eq_getElem_cons hi]
  unfold valR
  rw [List.find?_cons_of_neg (by rw [decide_eq_true_iff]; exact h)]
theorem valR_hit {l : List Rw} {k : ByteArray} {i : Nat} (hi : i < l.length) (h : l[i].key = k) : valR (l.drop i) k = (l[i].val, true) := by
  rw [List.drop_eq_getElem_cons hi]
  unfold valR
  rw [List.find?_cons_of_pos (p := fun r : Rw => decide (r.key = k)) (decide_eq_true h)]
set_option maxHeartbeats 1000000 in
set_option maxRecDepth 100000 in
theorem value_any (a : Option Addr) (n c : Nat) (l : List Rw) (k : ByteArray) (w : World) (hl : l.length = n) (hn : n ≤ 100000) (hA : ValsAt w a (l.flatMap rwC)) :
    Calls Tryz.prog 46 #[.slice a n c, .string k] w fun e w' => e = .returned (.tuple #[.string (valR l k).1, .bool (valR l k).2]) ∧ Ext w w' := by
  have hO : Own (fun _ => False) w w [.imm fun w => ValsAt w a (l.flatMap rwC)] := Own.base w _ fun _ hw' => vals_up hA hw'
  (replace hf := fa_ hO)
  go_enter Tryz.func46, Tryz.ntmps46
  go_wp2_with (first | (refine sq_ ?_; clear hO; (try clear hf); intro w9 hO hf))
  go_loopw [6] (fun v wr => ∃ i : Nat, v = .int .i64 i ∧ i ≤ n ∧ Hid (valR (l.drop i) k = valR l k) ∧ Own (fun _ => False) w wr [.imm fun w => ValsAt w a (l.flatMap rwC)]) (fun v _ => n - (intOf v).toNat)
  case atStart => exact ⟨0, rfl, by omega, Lib.hid rfl, hO⟩
  case round =>
    clear hO
    obtain ⟨i, rfl, hi, HV, hO⟩ := hrel
    rename World => w0
    (replace hf := fa_ hO)
    by_cases hlt : i < n
    · have hi2 : i < l.length := by omega
      obtain ⟨b, off, rfl⟩ := rw_some (Own.immOf (φ := fun w => ValsAt w a (l.flatMap rwC)) hO pk_) hi2
      obtain ⟨c0, c1⟩ := rw_cells (Own.immOf (φ := fun w => ValsAt w (some ⟨b, off, none⟩) (l.flatMap rwC)) hO pk_) hi2
      have HG := Lib.hid (fun h : l[i].key ≠ k => valR_go hi2 h)
      have HH := Lib.hid (fun h : l[i].key = k => valR_hit hi2 h)
      generalize l[i] = x at *
      by_cases hk : x.key = k
      · have hk2 : x.key.toList = k.toList := by rw [hk]
        have hk3 : k.toList = x.key.toList := hk2.symm
        have e1 := Lib.hid (HV.out.symm.trans (HH.out hk))
        clear HV HG HH
        go_wp2_with (first | (refine sq_ ?_; clear hO; (try clear hf); intro w9 hO hf))
        all_goals try (exfalso; simp_all; done)
        go_ret2
        rw [e1.out]
        exact ⟨rfl, hO.toExt⟩
      · have hk2 : ¬ x.key.toList = k.toList := fun e => hk (toList_inj e)
        have hk3 : ¬ k.toList = x.key.toList := fun e => hk2 e.symm
        have e1 := Lib.hid ((HG.out hk).symm.trans HV.out)
        clear HV HG HH hk
        go_wp2_with (first | (refine sq_ ?_; clear hO; (try clear hf); intro w9 hO hf))
        all_goals first | (exfalso; simp_all; done) | exact ⟨⟨i + 1, by go_num, by omega, e1, hO⟩, by simp [intOf]; omega⟩
    · have e1 := HV.out
      rw [List.drop_of_length_le (by omega)] at e1
      have e2 := Lib.hid (e1.symm.trans (show valR [] k = (⟨#[]⟩, false) from rfl))
      clear e1 HV
      go_wp2_with (first | (refine sq_ ?_; clear hO; (try clear hf); intro w9 hO hf))
      go_ret2
      rw [e2.out]
      exact ⟨rfl, hO.toExt⟩
def inR (lo hi : ByteArray) (l : List Rw) : List Rw := l.filter fun r => hasB lo hi r.key
end Go.Proofs.YtagcmjmcjpjihaaGreatDoor
namespace Go.Proofs.YtagcmjmcjpjihaaGreatDoor
open Go.RowKit
end Go.Proofs.YtagcmjmcjpjihaaGreatDoor
namespace Go.Proofs.YtagcmjmcjpjihaaGreatDoor
open Go.RowKit
end Go.Proofs.YtagcmjmcjpjihaaGreatDoor
namespace Go.Proofs.YtagcmjmcjpjihaaGreatDoor
open Go.RowKit
end Go.Proofs.YtagcmjmcjpjihaaGreatDoor
namespace Go.Proofs.YtagcmjmcjpjihaaGreatDoor
open Go.RowKit
end Go.Proofs.YtagcmjmcjpjihaaGreatDoor
