/- Texts Ch of this claim, laid together. -/
import Derived.Test.YtagcmjmcjpjihaaGreatDoorGTopCountProof5
import Derived.Test.YtagcmjmcjpjihaaGreatDoorGTopCountProof8
set_option linter.unusedVariables false
set_option linter.unusedSimpArgs false
namespace Go.Proofs.YtagcmjmcjpjihaaGreatDoor
open Go.RowKit
/-- A change. -/
structure Ch where
  key : ByteArray
  val : ByteArray
  gone : Bool
deriving DecidableEq
def Ch.cells (c : Ch) : List Value := [.string c.key, .string c.val, .bool c.gone]
def Ch.v (c : Ch) : Value := .agg #[.string c.key, .string c.val, .bool c.gone]
def chs (l : List Ch) : List Value := l.flatMap Ch.cells
theorem chs_length (l : List Ch) : (chs l).length = l.length * 3 := flat_length (f := Ch.cells) (k := 3) (fun _ => rfl) l
theorem Ch.ones (x : Ch) : ∀ u ∈ x.cells, u.oneCell' = true := fun u hu => by
  simp only [Ch.cells, List.mem_cons, List.not_mem_nil, or_false] at hu
  rcases hu with rfl | rfl | rfl <;> rfl
theorem chs_one (l : List Ch) : ∀ u ∈ chs l, u.oneCell' = true := fun u hu => by
  obtain ⟨c, _, h⟩ := List.mem_flatMap.1 hu
  exact Ch.ones c u h
theorem chs_append (l m : List Ch) : chs (l ++ m) = chs l ++ chs m := by unfold chs; rw [List.flatMap_append]
theorem chs_one1 (c : Ch) : chs [c] = c.cells := by simp [chs]
theorem chs_take : ∀ (l : List Ch) (i : Nat), (chs l).take (i * 3) = chs (l.take i)
  | [], i => by simp [chs]
  | _ :: _, 0 => rfl
  | c :: l, i + 1 => by
    rw [show (i + 1) * 3 = i * 3 + 3 from by omega]
    show (c.cells ++ chs l).take (i * 3 + 3) = c.cells ++ chs (l.take i)
    rw [← chs_take l i]
    rfl
theorem chs_drop : ∀ (l : List Ch) (i : Nat), (chs l).drop (i * 3) = chs (l.drop i)
  | [], i => by simp [chs]
  | _ :: _, 0 => rfl
  | c :: l, i + 1 => by
    rw [show (i + 1) * 3 = i * 3 + 3 from by omega]
    show (c.cells ++ chs l).drop (i * 3 + 3) = chs (l.drop i)
    rw [← chs_drop l i]
    rfl
/-- Changes as they lie somewhere, looked at. -/
def ChAt (w : World) (a : Option Addr) (l : List Ch) : Prop := ValsAt w a (chs l)
theorem ChAt.ext {w w' : World} {a : Option Addr} {l : List Ch} (h : ChAt w a l) (hx : Ext w w') : ChAt w' a l := ValsAt.ext h hx
/-- The i-th one. -/
theorem ChAt.at {w : World} {b off : Nat} {l : List Ch} (h : ChAt w (some ⟨b, off, none⟩) l) {i : Nat} (hi : i < l.length) :
    w.cell? ⟨b, off + i * 3, none⟩ = some (.string l[i].key) ∧ w.cell? ⟨b, off + i * 3 + 1, none⟩ = some (.string l[i].val) ∧ w.cell? ⟨b, off + i * 3 + 2, none⟩ = some (.bool l[i].gone) := by
  have g : ∀ c v, (l[i].cells)[c]? = some v → w.cell? ⟨b, off + (i * 3 + c), none⟩ = some v := fun c v hv => ValsAt.get h (flat_at (f := Ch.cells) (k := 3) (fun _ => rfl) hi c v hv)
  exact ⟨g 0 _ rfl, g 1 _ rfl, g 2 _ rfl⟩
theorem ChAt.some {w : World} {a : Option Addr} {l : List Ch} (h : ChAt w a l) (hl : 0 < l.length) : ∃ b off, a = some ⟨b, off, none⟩ := by
  rcases h with h | ⟨b, off, ha, _⟩
  · have : (chs l).length = 0 := by rw [h]; rfl
    rw [chs_length] at this; omega
  · exact ⟨b, off, ha⟩
theorem ChAt.of {w : World} {a : Option Addr} {l : List Ch} (h : l = [] ∨ ∃ b off, a = Option.some ⟨b, off, none⟩ ∧ ∀ i (h : i < l.length), w.cell? ⟨b, off + i * 3, none⟩ = Option.some (.string l[i].key) ∧ w.cell? ⟨b, off + i * 3 + 1, none⟩ = Option.some (.string l[i].val) ∧ w.cell? ⟨b, off + i * 3 + 2, none⟩ = Option.some (.bool l[i].gone)) : ChAt w a l := by
  rcases h with rfl | ⟨b, off, ha, hc⟩
  · exact .inl rfl
  · refine .inr ⟨b, off, ha, fun j hj => ?_⟩
    rw [chs_length] at hj
    have hi : j / 3 < l.length := by omega
    obtain ⟨h0, h1, h2⟩ := hc _ hi
    have e : (chs l)[j]? = (l[j / 3].cells)[j % 3]? := by
      have hm : j % 3 < 3 := Nat.mod_lt _ (by omega)
      have hlt : j % 3 < (l[j / 3].cells).length := hm
      have := flat_at (f := Ch.cells) (k := 3) (fun _ => rfl) hi (j % 3) _ (List.getElem?_eq_getElem hlt)
      rw [show j / 3 * 3 + j % 3 = j from by omega] at this
      rw [show chs l = List.flatMap Ch.cells l from rfl, this, List.getElem?_eq_getElem hlt]
    have hlt : j < (chs l).length := by rw [chs_length]; exact hj
    have e2 := (List.getElem?_eq_getElem hlt).symm.trans e
    have hj3 : j % 3 = 0 ∨ j % 3 = 1 ∨ j % 3 = 2 := by omega
    rcases hj3 with hj3 | hj3 | hj3 <;> rw [hj3] at e2 <;> simp only [Ch.cells, List.getElem?_cons_zero, List.getElem?_cons_succ, Option.some.injEq] at e2 <;> rw [e2]
    · rw [show off + j = off + j / 3 * 3 from by omega]; exact h0
    · rw [show off + j = off + j / 3 * 3 + 1 from by omega]; exact h1
    · rw [show off + j = off + j / 3 * 3 + 2 from by omega]; exact h2
/-- x put at place i of l. -/
def insAt (l : List Ch) (i : Nat) (x : Ch) : List Ch := l.take i ++ x :: l.drop i
theorem insAt_length (l : List Ch) (i : Nat) (x : Ch) (hi : i ≤ l.length) : (insAt l i x).length = l.length + 1 := by
  unfold insAt
  rw [List.length_append, List.length_cons, List.length_take, List.length_drop]; omega
theorem insAt_cells (l : List Ch) (i : Nat) (x : Ch) : chs (insAt l i x) = (chs l).take (i * 3) ++ (x.cells ++ (chs l).drop (i * 3)) := by
  unfold insAt
  rw [chs_append, chs_take, chs_drop]; rfl
theorem insAt_end (l : List Ch) (x : Ch) : chs (insAt l l.length x) = chs l ++ x.cells := by
  rw [insAt_cells, ← chs_length, List.take_length, List.drop_length, List.append_nil]

/-! Lists that rise by keys. -/
def Ups (l : List Ch) : Prop := l.Pairwise fun x y => slt x.key y.key = true
def low (l : List Ch) (k : ByteArray) : List Ch := l.filter fun x => slt x.key k
def high (l : List Ch) (k : ByteArray) : List Ch := l.filter fun x => slt k x.key
def putC (l : List Ch) (c : Ch) : List Ch := low l c.key ++ c :: high l c.key
def idxC (l : List Ch) (k : ByteArray) : Nat := (low l k).length
theorem idxC_le (l : List Ch) (k : ByteArray) : idxC l k ≤ l.length := List.length_filter_le _ _
theorem Ups.tail {x : Ch} {l : List Ch} (h : Ups (x :: l)) : Ups l := (List.pairwise_cons.1 h).2
theorem Ups.head {x : Ch} {l : List Ch} (h : Ups (x :: l)) : ∀ y ∈ l, slt x.key y.key = true := (List.pairwise_cons.1 h).1
theorem Ups.nil : Ups [] := List.Pairwise.nil
theorem high_all {l : List Ch} {k : ByteArray} (h : ∀ y ∈ l, slt k y.key = true) : high l k = l ∧ low l k = [] :=
  ⟨List.filter_eq_self.2 h, List.filter_eq_nil_iff.2 fun y hy => by rw [slt_asymm (h y hy)]; simp⟩
theorem Ups.low_take : ∀ {l : List Ch} (k : ByteArray), Ups l → low l k = l.take (idxC l k)
  | [], _, _ => rfl
  | x :: l, k, h => by
    cases hx : slt x.key k with
    | true =>
      have e : low (x :: l) k = x :: low l k := by simp [low, hx]
      unfold idxC
      rw [e, List.length_cons, List.take_succ_cons, show (low l k).length = idxC l k from rfl, ← Ups.low_take k h.tail]
    | false =>
      have e : low (x :: l) k = [] := by
        refine List.filter_eq_nil_iff.2 fun y hy => ?_
        rcases List.mem_cons.1 hy with rfl | hy
        · rw [hx]; simp
        · have h1 := h.head y hy
          cases h2 : slt y.key k with
          | false => simp
          | true => rw [slt_trans h1 h2] at hx; cases hx
      unfold idxC
      rw [e]; rfl
theorem Ups.at_low : ∀ {l : List Ch} (k : ByteArray), Ups l → ∀ {i : Nat} (hi : i < l.length), slt l[i].key k = decide (i < idxC l k)
  | [], _, _, _, hi => absurd hi (Nat.not_lt_zero _)
  | x :: l, k, h, i, hi => by
    cases hx : slt x.key k with
    | true =>
      have e : idxC (x :: l) k = idxC l k + 1 := by simp [idxC, low, hx]
      rw [e]
      cases i with
      | zero => simp [hx]
      | succ i =>
        have := Ups.at_low k h.tail (i := i) (by simpa using hi)
        simpa using this
    | false =>
      have e : idxC (x :: l) k = 0 := by
        have := Ups.low_take k h
        unfold idxC
        refine List.length_eq_zero_iff.2 (List.filter_eq_nil_iff.2 fun y hy => ?_)
        rcases List.mem_cons.1 hy with rfl | hy
        · rw [hx]; simp
        · have h1 := h.head y hy
          cases h2 : slt y.key k with
          | false => simp
          | true => rw [slt_trans h1 h2] at hx; cases hx
      rw [e]
      have h0 : ¬ i < 0 := by omega
      rw [decide_eq_false h0]
      cases i with
      | zero => exact hx
      | succ i =>
        have hi' : i < l.length := by simpa using hi
        show slt l[i].key k = false
        have h1 := h.head l[i] (List.getElem_mem hi')
        cases h2 : slt l[i].key k with
        | false => rfl
        | true => rw [slt_trans h1 h2] at hx; cases hx
theorem Ups.lt {l : List Ch} (h : Ups l) {i j : Nat} (hi : i < l.length) (hj : j < l.length) (hij : i < j) : slt l[i].key l[j].key = true := List.pairwise_iff_getElem.1 h i j hi hj hij
/-- It is there: what lies behind it is above it. -/
theorem Ups.high_drop : ∀ {l : List Ch} (k : ByteArray), Ups l → ∀ (hi : idxC l k < l.length), l[idxC l k].key = k → high l k = l.drop (idxC l k + 1)
  | [], _, _, hi, _ => absurd hi (Nat.not_lt_zero _)
  | x :: l, k, h, hi, he => by
    cases hx : slt x.key k with
    | true =>
      have e : idxC (x :: l) k = idxC l k + 1 := by simp [idxC, low, hx]
      have e2 : high (x :: l) k = high l k := by simp [high, slt_asymm hx]
      have hi' : idxC l k < l.length := by rw [e] at hi; simpa using hi
      have he' : l[idxC l k].key = k := by
        have : (x :: l)[idxC (x :: l) k]? = some l[idxC l k] := by rw [e]; simp [hi']
        rw [List.getElem?_eq_getElem hi] at this
        injection this with this
        rw [← this]; exact he
      rw [e, e2, Ups.high_drop k h.tail hi' he']; rfl
    | false =>
      have e : idxC (x :: l) k = 0 := by
        have := Ups.at_low k h (i := 0) (by simp)
        rw [show (x :: l)[0].key = x.key from rfl, hx] at this
        have := of_decide_eq_false this.symm
        omega
      have hk : x.key = k := by
        have : (x :: l)[idxC (x :: l) k]? = some x := by rw [e]; rfl
        rw [List.getElem?_eq_getElem hi] at this
        injection this with this
        rw [← this]; exact he
      subst hk
      have := (high_all (k := x.key) h.head).1
      rw [e]
      show high (x :: l) x.key = l
      rw [← this]
      simp only [high, List.filter_cons, slt_irrefl, List.filter_filter, Bool.and_self, Bool.false_eq_true, if_false]
/-- It isn't: what is not below it is above it. -/
theorem Ups.high_drop0 : ∀ {l : List Ch} (k : ByteArray), Ups l → (∀ (hi : idxC l k < l.length), l[idxC l k].key ≠ k) → high l k = l.drop (idxC l k)
  | [], _, _, _ => rfl
  | x :: l, k, h, he => by
    cases hx : slt x.key k with
    | true =>
      have e : idxC (x :: l) k = idxC l k + 1 := by simp [idxC, low, hx]
      have e2 : high (x :: l) k = high l k := by simp [high, slt_asymm hx]
      rw [e, e2, Ups.high_drop0 k h.tail fun hi' hk => ?_]; rfl
      have hi : idxC (x :: l) k < (x :: l).length := by rw [e]; simpa using hi'
      refine he hi ?_
      have : (x :: l)[idxC (x :: l) k]? = some l[idxC l k] := by rw [e]; simp [hi']
      rw [List.getElem?_eq_getElem hi] at this
      injection this with this
      rw [this]; exact hk
    | false =>
      have e : idxC (x :: l) k = 0 := by
        have := Ups.at_low k h (i := 0) (by simp)
        rw [show (x :: l)[0].key = x.key from rfl, hx] at this
        have := of_decide_eq_false this.symm
        omega
      have hi : idxC (x :: l) k < (x :: l).length := by rw [e]; simp
      have hne : x.key ≠ k := by
        have := he hi
        have h2 : (x :: l)[idxC (x :: l) k]? = some x := by rw [e]; rfl
        rw [List.getElem?_eq_getElem hi] at h2
        injection h2 with h2
        rwa [h2] at this
      have hk := slt_of_not hx hne
      rw [e, List.drop_zero]
      exact List.filter_eq_self.2 fun y hy => by
        rcases List.mem_cons.1 hy with rfl | hy
        · exact hk
        · exact slt_trans hk (h.head y hy)
theorem Ups.put_set {l : List Ch} {c : Ch} (h : Ups l) (hi : idxC l c.key < l.length) (he : l[idxC l c.key].key = c.key) : putC l c = l.set (idxC l c.key) c := by
  unfold putC
  rw [h.low_take, h.high_drop _ hi he, List.set_eq_take_append_cons_drop, if_pos hi]
theorem Ups.put_ins {l : List Ch} {c : Ch} (h : Ups l) (he : ∀ (hi : idxC l c.key < l.length), l[idxC l c.key].key ≠ c.key) : putC l c = insAt l (idxC l c.key) c := by
  unfold putC insAt
  rw [h.low_take, h.high_drop0 _ he]
theorem Ups.put {l : List Ch} (c : Ch) (h : Ups l) : Ups (putC l c) := by
  unfold putC Ups
  rw [List.pairwise_append]
  refine ⟨h.filter _, List.pairwise_cons.2 ⟨fun y hy => (List.mem_filter.1 hy).2, h.filter _⟩, fun a ha b hb => ?_⟩
  have ha := (List.mem_filter.1 ha).2
  rcases List.mem_cons.1 hb with rfl | hb
  · exact ha
  · exact slt_trans ha (List.mem_filter.1 hb).2
/-- The change of a key. -/
def findC (l : List Ch) (k : ByteArray) : Option Ch := l.find? fun x => decide (x.key = k)
theorem mem_put {l : List Ch} {c x : Ch} (h : x ∈ putC l c) : x = c ∨ x ∈ l := by
  rcases List.mem_append.1 h with h | h
  · exact .inr (List.mem_filter.1 h).1
  · rcases List.mem_cons.1 h with h | h
    · exact .inl h
    · exact .inr (List.mem_filter.1 h).1
theorem find_low (l : List Ch) (k : ByteArray) : findC (low l k) k = none := by
  refine List.find?_eq_none.2 fun x hx => ?_
  have := (List.mem_filter.1 hx).2
  simpa using slt_ne this
theorem find_high (l : List Ch) (k : ByteArray) : findC (high l k) k = none := by
  refine List.find?_eq_none.2 fun x hx => ?_
  have := (List.mem_filter.1 hx).2
  simpa using (slt_ne this).symm
/-- Where it is, it is found there. -/
theorem Ups.find_yes {l : List Ch} {k : ByteArray} (h : Ups l) (hi : idxC l k < l.length) (he : l[idxC l k].key = k) : findC l k = some l[idxC l k] := by
  have e : l = l.take (idxC l k) ++ l[idxC l k] :: l.drop (idxC l k + 1) := by
    rw [List.getElem_cons_drop, List.take_append_drop]
  unfold findC
  conv => lhs; rw [e]
  rw [List.find?_append, ← h.low_take]
  have := find_low l k
  unfold findC at this
  rw [this, Option.none_or, List.find?_cons_of_pos (by simp [he])]
theorem Ups.find_no {l : List Ch} {k : ByteArray} (h : Ups l) (he : ∀ (hi : idxC l k < l.length), l[idxC l k].key ≠ k) : findC l k = none := by
  have e : l = low l k ++ high l k := by rw [h.low_take, h.high_drop0 _ he, List.take_append_drop]
  unfold findC
  rw [e, List.find?_append]
  have h1 := find_low l k
  have h2 := find_high l k
  unfold findC at h1 h2
  rw [h1, h2]; rfl
theorem low_low {l : List Ch} {a b : ByteArray} (h : slt a b = true) : low (low l b) a = low l a ∧ low (low l a) b = low l a := by
  unfold low
  rw [List.filter_filter, List.filter_filter]
  constructor <;> refine List.filter_congr fun x _ => ?_
  · cases e : slt x.key a with
    | false => rfl
    | true => simp [slt_trans e h]
  · cases e : slt x.key a with
    | false => simp
    | true => simp [slt_trans e h]
theorem high_high {l : List Ch} {a b : ByteArray} (h : slt a b = true) : high (high l b) a = high l b ∧ high (high l a) b = high l b := by
  unfold high
  rw [List.filter_filter, List.filter_filter]
  constructor <;> refine List.filter_congr fun x _ => ?_
  · cases e : slt b x.key with
    | false => simp
    | true => simp [slt_trans h e]
  · cases e : slt b x.key with
    | false => rfl
    | true => simp [slt_trans h e]
theorem high_low {l : List Ch} {a b : ByteArray} : high (low l b) a = low (high l a) b := by
  unfold high low
  rw [List.filter_filter, List.filter_filter]
  exact List.filter_congr fun x _ => Bool.and_comm _ _
theorem low_of_high {l : List Ch} {a b : ByteArray} (h : slt a b = false) : low (high l a) b = [] := by
  unfold high low
  rw [List.filter_filter]
  refine List.filter_eq_nil_iff.2 fun x _ => ?_
  cases e : slt x.key b with
  | false => simp
  | true =>
    cases e2 : slt a x.key with
    | false => simp
    | true => rw [slt_trans e2 e] at h; cases h
theorem low_append (l m : List Ch) (k : ByteArray) : low (l ++ m) k = low l k ++ low m k := List.filter_append _ _
theorem high_append (l m : List Ch) (k : ByteArray) : high (l ++ m) k = high l k ++ high m k := List.filter_append _ _
theorem low_cons (c : Ch) (l : List Ch) (k : ByteArray) : low (c :: l) k = if slt c.key k then c :: low l k else low l k := List.filter_cons
theorem high_cons (c : Ch) (l : List Ch) (k : ByteArray) : high (c :: l) k = if slt k c.key then c :: high l k else high l k := List.filter_cons
theorem put_comm_lt (l : List Ch) (a b : Ch) (h : slt a.key b.key = true) : putC (putC l a) b = putC (putC l b) a := by
  unfold putC
  rw [low_append, high_append, low_cons, high_cons, low_append, high_append, low_cons, high_cons, h, slt_asymm h, (low_low h).1, (low_low h).2, (high_high h).1, (high_high h).2]
  rw [show high (low l a.key) b.key = [] from by rw [high_low]; exact low_of_high (slt_asymm h), low_of_high (slt_asymm h), high_low (a := a.key) (b := b.key)]
  simp
theorem put_comm (l : List Ch) (a b : Ch) (h : a.key ≠ b.key) : putC (putC l a) b = putC (putC l b) a := by
  rcases slt_total a.key b.key with h1 | h1 | h1
  · exact put_comm_lt l a b h1
  · exact absurd h1 h
  · exact (put_comm_lt l b a h1).symm
end Go.Proofs.YtagcmjmcjpjihaaGreatDoor
