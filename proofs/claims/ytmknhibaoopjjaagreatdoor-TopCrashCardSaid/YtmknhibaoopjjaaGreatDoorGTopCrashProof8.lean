/- Texts Ch of this claim, laid together. -/
import Derived.Test.YtmknhibaoopjjaaGreatDoorGTopCrashProof3
import Derived.Test.YtmknhibaoopjjaaGreatDoorGTopCrashProof6
set_option linter.unusedVariables false
set_option linter.unusedSimpArgs false
namespace Go.Proofs.YtmknhibaoopjjaaGreatDoor
open Go.RowKit
/-- A change. -/
structure Ch where
  key : ByteArray
  val : ByteArray
  gone : Bool
deriving DecidableEq
def Ch.cells (c : Ch) : List Value := [.string c.key, .string c.val, .bool c.gone]
def Ch.v (c : Ch) : Value := .agg #[.string c.key, .string c.val, .bool c.gone]
def chs (l : List Ch) : List Value := l.flatMap Ch.cells
theorem chs_length (l : List Ch) : (chs l).length = l.length * 3 := flat_length (f := Ch.cells) (k := 3) (fun _ => rfl) l
theorem chs_append (l m : List Ch) : chs (l ++ m) = chs l ++ chs m := by unfold chs; rw [List.flatMap_append]
theorem chs_one1 (c : Ch) : chs [c] = c.cells := by simp [chs]
/-- Changes as they lie somewhere, looked at. -/
def ChAt (w : World) (a : Option Addr) (l : List Ch) : Prop := ValsAt w a (chs l)
theorem ChAt.ext {w w' : World} {a : Option Addr} {l : List Ch} (h : ChAt w a l) (hx : Ext w w') : ChAt w' a l := ValsAt.ext h hx
/-- The i-th one. -/
theorem ChAt.at {w : World} {b off : Nat} {l : List Ch} (h : ChAt w (some ⟨b, off, none⟩) l) {i : Nat} (hi : i < l.length) :
    w.cell? ⟨b, off + i * 3, none⟩ = some (.string l[i].key) ∧ w.cell? ⟨b, off + i * 3 + 1, none⟩ = some (.string l[i].val) ∧ w.cell? ⟨b, off + i * 3 + 2, none⟩ = some (.bool l[i].gone) := by
  have g : ∀ c v, (l[i].cells)[c]? = some v → w.cell? ⟨b, off + (i * 3 + c), none⟩ = some v := fun c v hv => ValsAt.get h (flat_at (f := Ch.cells) (k := 3) (fun _ => rfl) hi c v hv)
  exact ⟨g 0 _ rfl, g 1 _ rfl, g 2 _ rfl⟩
theorem ChAt.some {w : World} {a : Option Addr} {l : List Ch} (h : ChAt w a l) (hl : 0 < l.length) : ∃ b off, a = some ⟨b, off, none⟩ := by
  rcases h with h | ⟨b, off, ha, _⟩
  · have : (chs l).length = 0 := by rw [h]; rfl
    rw [chs_length] at this; omega
  · exact ⟨b, off, ha⟩
theorem ChAt.of {w : World} {a : Option Addr} {l : List Ch} (h : l = [] ∨ ∃ b off, a = Option.some ⟨b, off, none⟩ ∧ ∀ i (h : i < l.length), w.cell? ⟨b, off + i * 3, none⟩ = Option.some (.string l[i].key) ∧ w.cell? ⟨b, off + i * 3 + 1, none⟩ = Option.some (.string l[i].val) ∧ w.cell? ⟨b, off + i * 3 + 2, none⟩ = Option.some (.bool l[i].gone)) : ChAt w a l := by
  rcases h with rfl | ⟨b, off, ha, hc⟩
  · exact .inl rfl
  · refine .inr ⟨b, off, ha, fun j hj => ?_⟩
    rw [chs_length] at hj
    have hi : j / 3 < l.length := by omega
    obtain ⟨h0, h1, h2⟩ := hc _ hi
    have e : (chs l)[j]? = (l[j / 3].cells)[j % 3]? := by
      have hm : j % 3 < 3 := Nat.mod_lt _ (by omega)
      have hlt : j % 3 < (l[j / 3].cells).length := hm
      have := flat_at (f := Ch.cells) (k := 3) (fun _ => rfl) hi (j % 3) _ (List.getElem?_eq_getElem hlt)
      rw [show j / 3 * 3 + j % 3 = j from by omega] at this
      rw [show chs l = List.flatMap Ch.cells l from rfl, this, List.getElem?_eq_getElem hlt]
    have hlt : j < (chs l).length := by rw [chs_length]; exact hj
    have e2 := (List.getElem?_eq_getElem hlt).symm.trans e
    have hj3 : j % 3 = 0 ∨ j % 3 = 1 ∨ j % 3 = 2 := by omega
    rcases hj3 with hj3 | hj3 | hj3 <;> rw [hj3] at e2 <;> simp only [Ch.cells, List.getElem?_cons_zero, List.getElem?_cons_succ, Option.some.injEq] at e2 <;> rw [e2]
    · rw [show off + j = off + j / 3 * 3 from by omega]; exact h0
    · rw [show off + j = off + j / 3 * 3 + 1 from by omega]; exact h1
    · rw [show off + j = off + j / 3 * 3 + 2 from by omega]; exact h2
def Ups (l : List Ch) : Prop := l.Pairwise fun x y => slt x.key y.key = true
def low (l : List Ch) (k : ByteArray) : List Ch := l.filter fun x => slt x.key k
def high (l : List Ch) (k : ByteArray) : List Ch := l.filter fun x => slt k x.key
def putC (l : List Ch) (c : Ch) : List Ch := low l c.key ++ c :: high l c.key
theorem Ups.tail {x : Ch} {l : List Ch} (h : Ups (x :: l)) : Ups l := (List.pairwise_cons.1 h).2
theorem Ups.head {x : Ch} {l : List Ch} (h : Ups (x :: l)) : ∀ y ∈ l, slt x.key y.key = true := (List.pairwise_cons.1 h).1
theorem Ups.nil : Ups [] := List.Pairwise.nil
theorem Ups.lt {l : List Ch} (h : Ups l) {i j : Nat} (hi : i < l.length) (hj : j < l.length) (hij : i < j) : slt l[i].key l[j].key = true := List.pairwise_iff_getElem.1 h i j hi hj hij
theorem Ups.put {l : List Ch} (c : Ch) (h : Ups l) : Ups (putC l c) := by
  unfold putC Ups
  rw [List.pairwise_append]
  refine ⟨h.filter _, List.pairwise_cons.2 ⟨fun y hy => (List.mem_filter.1 hy).2, h.filter _⟩, fun a ha b hb => ?_⟩
  have ha := (List.mem_filter.1 ha).2
  rcases List.mem_cons.1 hb with rfl | hb
  · exact ha
  · exact slt_trans ha (List.mem_filter.1 hb).2
theorem low_low {l : List Ch} {a b : ByteArray} (h : slt a b = true) : low (low l b) a = low l a ∧ low (low l a) b = low l a := by
  unfold low
  rw [List.filter_filter, List.filter_filter]
  constructor <;> refine List.filter_congr fun x _ => ?_
  · cases e : slt x.key a with
    | false => rfl
    | true => simp [slt_trans e h]
  · cases e : slt x.key a with
    | false => simp
    | true => simp [slt_trans e h]
theorem high_high {l : List Ch} {a b : ByteArray} (h : slt a b = true) : high (high l b) a = high l b ∧ high (high l a) b = high l b := by
  unfold high
  rw [List.filter_filter, List.filter_filter]
  constructor <;> refine List.filter_congr fun x _ => ?_
  · cases e : slt b x.key with
    | false => simp
    | true => simp [slt_trans h e]
  · cases e : slt b x.key with
    | false => rfl
    | true => simp [slt_trans h e]
theorem high_low {l : List Ch} {a b : ByteArray} : high (low l b) a = low (high l a) b := by
  unfold high low
  rw [List.filter_filter, List.filter_filter]
  exact List.filter_congr fun x _ => Bool.and_comm _ _
theorem low_of_high {l : List Ch} {a b : ByteArray} (h : slt a b = false) : low (high l a) b = [] := by
  unfold high low
  rw [List.filter_filter]
  refine List.filter_eq_nil_iff.2 fun x _ => ?_
  cases e : slt x.key b with
  | false => simp
  | true =>
    cases e2 : slt a x.key with
    | false => simp
    | true => rw [slt_trans e2 e] at h; cases h
theorem low_append (l m : List Ch) (k : ByteArray) : low (l ++ m) k = low l k ++ low m k := List.filter_append _ _
theorem high_append (l m : List Ch) (k : ByteArray) : high (l ++ m) k = high l k ++ high m k := List.filter_append _ _
theorem low_cons (c : Ch) (l : List Ch) (k : ByteArray) : low (c :: l) k = if slt c.key k then c :: low l k else low l k := List.filter_cons
theorem high_cons (c : Ch) (l : List Ch) (k : ByteArray) : high (c :: l) k = if slt k c.key then c :: high l k else high l k := List.filter_cons
theorem put_comm_lt (l : List Ch) (a b : Ch) (h : slt a.key b.key = true) : putC (putC l a) b = putC (putC l b) a := by
  unfold putC
  rw [low_append, high_append, low_cons, high_cons, low_append, high_append, low_cons, high_cons, h, slt_asymm h, (low_low h).1, (low_low h).2, (high_high h).1, (high_high h).2]
  rw [show high (low l a.key) b.key = [] from by rw [high_low]; exact low_of_high (slt_asymm h), low_of_high (slt_asymm h), high_low (a := a.key) (b := b.key)]
  simp
theorem put_comm (l : List Ch) (a b : Ch) (h : a.key ≠ b.key) : putC (putC l a) b = putC (putC l b) a := by
  rcases slt_total a.key b.key with h1 | h1 | h1
  · exact put_comm_lt l a b h1
  · exact absurd h1 h
  · exact (put_comm_lt l b a h1).symm
end Go.Proofs.YtmknhibaoopjjaaGreatDoor
