/- How changes lie in memory. -/
import Derived.Test.YtmjdgcgmlgbfjaaSpan2
import Derived.Test.YtmjdgcgmlgbfjaaSep
import Derived.OwnWalk
import Derived.Lib.Hide
namespace Go.Proofs.Ytmjdgcgmlgbfjaa
open Go.RowKit

/-- A change. -/
structure Ch where
  key : ByteArray
  val : ByteArray
  gone : Bool
def Ch.v (c : Ch) : Value := .agg #[.string c.key, .string c.val, .bool c.gone]
def ChangesAt (w : World) (a : Option Addr) (l : List Ch) : Prop :=
  l = [] ∨ ∃ b off, a = some ⟨b, off, none⟩ ∧ ∀ i (h : i < l.length), w.cell? ⟨b, off + i * 3, none⟩ = some (.string l[i].key) ∧ w.cell? ⟨b, off + i * 3 + 1, none⟩ = some (.string l[i].val) ∧ w.cell? ⟨b, off + i * 3 + 2, none⟩ = some (.bool l[i].gone)
theorem ChangesAt.ext {w w' : World} {a : Option Addr} {l : List Ch} (h : ChangesAt w a l) (hx : Ext w w') : ChangesAt w' a l :=
  h.imp id fun ⟨b, off, ha, hc⟩ => ⟨b, off, ha, fun i hi => ⟨hx.some (hc i hi).1, hx.some (hc i hi).2.1, hx.some (hc i hi).2.2⟩⟩
theorem Try.infoStr0 : (Try.prog.info? 9).map (fun i => (i.zero, i.size, i.bytes)) = some (some (.string ⟨#[]⟩), 1, 16) := by kernel_rfl
theorem one_new {v : Value} (h : v.oneCell' = true) : ∀ u ∈ [v], u.oneCell' = true := fun u hu => by rw [List.mem_singleton.1 hu]; exact h
theorem two_new {v v' : Value} (h : v.oneCell' = true) (h' : v'.oneCell' = true) : ∀ u ∈ [v, v'], u.oneCell' = true := fun u hu => by
  simp only [List.mem_cons, List.mem_nil_iff, or_false] at hu
  rcases hu with rfl | rfl
  · exact h
  · exact h'
theorem take_snoc' {α : Type} (l : List α) (k : Nat) (h : k < l.length) : l.take (k + 1) = l.take k ++ [l[k]] := List.take_succ_eq_append_getElem h
/-- All of the first k are so. -/
def Upto {α : Type} (p : α → Bool) (l : List α) (k : Nat) : Prop := (l.take k).all p = true
theorem Upto.zero {α : Type} {p : α → Bool} {l : List α} : Upto p l 0 := by simp [Upto]
theorem Upto.snoc {α : Type} {p : α → Bool} {l : List α} {k : Nat} (h : Upto p l k) (hk : k < l.length) (hp : p l[k] = true) : Upto p l (k + 1) := by
  unfold Upto at *; rw [take_snoc' l k hk, List.all_append, h]; simp [hp]
theorem Upto.all {α : Type} {p : α → Bool} {l : List α} {k : Nat} (h : Upto p l k) (hk : l.length ≤ k) : l.all p = true := by
  unfold Upto at h; rwa [List.take_of_length_le hk] at h
end Go.Proofs.Ytmjdgcgmlgbfjaa
