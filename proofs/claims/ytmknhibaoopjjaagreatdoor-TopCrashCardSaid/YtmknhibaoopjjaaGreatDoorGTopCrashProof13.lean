/- Texts Change0, Acts, Act2 of this claim, laid together. -/
import Derived.Test.YtmknhibaoopjjaaGreatDoorGTopCrashProof11
import Derived.Test.YtmknhibaoopjjaaGreatDoorGTopCrashProof2
import Derived.Test.YtmknhibaoopjjaaGreatDoorGTopCrashProof8
import Derived.OwnWalk
import Derived.Lib.Hide
namespace Go.Proofs.YtmknhibaoopjjaaGreatDoor
open Go.RowKit

def ChangesAt (w : World) (a : Option Addr) (l : List Ch) : Prop :=
  l = [] ∨ ∃ b off, a = some ⟨b, off, none⟩ ∧ ∀ i (h : i < l.length), w.cell? ⟨b, off + i * 3, none⟩ = some (.string l[i].key) ∧ w.cell? ⟨b, off + i * 3 + 1, none⟩ = some (.string l[i].val) ∧ w.cell? ⟨b, off + i * 3 + 2, none⟩ = some (.bool l[i].gone)
theorem ChangesAt.ext {w w' : World} {a : Option Addr} {l : List Ch} (h : ChangesAt w a l) (hx : Ext w w') : ChangesAt w' a l :=
  h.imp id fun ⟨b, off, ha, hc⟩ => ⟨b, off, ha, fun i hi => ⟨hx.some (hc i hi).1, hx.some (hc i hi).2.1, hx.some (hc i hi).2.2⟩⟩
theorem take_snoc' {α : Type} (l : List α) (k : Nat) (h : k < l.length) : l.take (k + 1) = l.take k ++ [l[k]] := List.take_succ_eq_append_getElem h
/-- All of the first k are so. -/
def Upto {α : Type} (p : α → Bool) (l : List α) (k : Nat) : Prop := (l.take k).all p = true
theorem Upto.zero {α : Type} {p : α → Bool} {l : List α} : Upto p l 0 := by simp [Upto]
theorem Upto.snoc {α : Type} {p : α → Bool} {l : List α} {k : Nat} (h : Upto p l k) (hk : k < l.length) (hp : p l[k] = true) : Upto p l (k + 1) := by
  unfold Upto at *; rw [take_snoc' l k hk, List.all_append, h]; simp [hp]
theorem Upto.all {α : Type} {p : α → Bool} {l : List α} {k : Nat} (h : Upto p l k) (hk : l.length ≤ k) : l.all p = true := by
  unfold Upto at h; rwa [List.take_of_length_le hk] at h
end Go.Proofs.YtmknhibaoopjjaaGreatDoor
namespace Go.Proofs.YtmknhibaoopjjaaGreatDoor
open Go.RowKit

/-- An act. -/
structure Ac where
  kind : ByteArray
  a : Int
  b : Int
  c : Int
  k : Int
  s : ByteArray
  t : ByteArray
  cp : Option Addr
  cc : Nat
  ch : List Ch
  sp : Option Addr
  sc : Nat
  spn : List Sp
def Ac.cells (x : Ac) : List Value := [.string x.kind, .int .i64 x.a, .int .i64 x.b, .int .i64 x.c, .int .u64 x.k, .string x.s, .string x.t, .slice x.cp x.ch.length x.cc, .slice x.sp x.spn.length x.sc]
def Ac.wf (w : World) (x : Ac) : Prop := ((Lit.int .i64 x.a).wf = true ∧ (Lit.int .i64 x.b).wf = true ∧ (Lit.int .i64 x.c).wf = true ∧ (Lit.int .u64 x.k).wf = true) ∧ ChangesAt w x.cp x.ch ∧ SpansAt w x.sp x.spn ∧ x.ch.length ≤ maxLen ∧ x.spn.length ≤ maxLen
structure AcAt (w : World) (g off : Nat) (x : Ac) : Prop where
  kind : w.cell? ⟨g, off, none⟩ = some (.string x.kind)
  a : w.cell? ⟨g, off + 1, none⟩ = some (.int .i64 x.a)
  b : w.cell? ⟨g, off + 2, none⟩ = some (.int .i64 x.b)
  c : w.cell? ⟨g, off + 3, none⟩ = some (.int .i64 x.c)
  k : w.cell? ⟨g, off + 4, none⟩ = some (.int .u64 x.k)
  s : w.cell? ⟨g, off + 5, none⟩ = some (.string x.s)
  t : w.cell? ⟨g, off + 6, none⟩ = some (.string x.t)
  ch : w.cell? ⟨g, off + 7, none⟩ = some (.slice x.cp x.ch.length x.cc)
  sp : w.cell? ⟨g, off + 8, none⟩ = some (.slice x.sp x.spn.length x.sc)
theorem AcAt.ext {w w' : World} {b off : Nat} {x : Ac} (h : AcAt w b off x) (hx : Ext w w') : AcAt w' b off x :=
  ⟨hx.some h.1, hx.some h.2, hx.some h.3, hx.some h.4, hx.some h.5, hx.some h.6, hx.some h.7, hx.some h.8, hx.some h.9⟩
def ActsAt (w : World) (a : Option Addr) (l : List Ac) : Prop :=
  (l = [] ∨ ∃ b off, a = some ⟨b, off, none⟩ ∧ ∀ i (h : i < l.length), AcAt w b (off + i * 9) l[i]) ∧ ∀ x ∈ l, x.wf w
theorem Ac.wf.ext {w w' : World} {x : Ac} (h : x.wf w) (hx : Ext w w') : x.wf w' := ⟨h.1, h.2.1.ext hx, h.2.2.1.ext hx, h.2.2.2⟩
theorem ActsAt.ext {w w' : World} {a : Option Addr} {l : List Ac} (h : ActsAt w a l) (hx : Ext w w') : ActsAt w' a l :=
  ⟨h.1.imp id fun ⟨b, off, ha, hc⟩ => ⟨b, off, ha, fun i hi => (hc i hi).ext hx⟩, fun x hm => (h.2 x hm).ext hx⟩

def lightChange (c : Ch) : Bool := decide (c.key.size ≤ 60) && decide (c.val.size ≤ 100)
def lightChanges (l : List Ch) (most : Nat) : Bool := decide (l.length ≤ most) && l.all lightChange
theorem lightChanges_many {l : List Ch} {most : Nat} (h : (most : Int) < (l.length : Int)) : lightChanges l most = false := by
  have : ¬ l.length ≤ most := by omega
  simp [lightChanges, this]
theorem lightChanges_eq {l : List Ch} {most : Nat} (h : (l.length : Int) ≤ most) : lightChanges l most = l.all lightChange := by
  have : l.length ≤ most := by omega
  simp [lightChanges, this]
theorem lightChange_no {s : Ch} (h : 60 < (s.key.size : Int) ∨ 100 < (s.val.size : Int)) : lightChange s = false := by
  simp [lightChange]; omega
theorem lightChange_yes {s : Ch} (h : (s.key.size : Int) ≤ 60 ∧ (s.val.size : Int) ≤ 100) : lightChange s = true := by
  simp [lightChange]; omega
set_option maxHeartbeats 400000 in
theorem lightChanges_any (a : Option Addr) (cap : Nat) (l : List Ch) (most : Nat) (w : World) (hl : l.length ≤ maxLen) (hm : most ≤ 1000) (hs : ChangesAt w a l) :
    Calls Tryz.prog 61 #[.slice a l.length cap, .int .i64 most] w fun e w' => e = .returned (.bool (lightChanges l most)) ∧ w' = w := by
  unfold maxLen at hl
  go_enter Tryz.func61, Tryz.ntmps61
  go_wp2
  · go_ret
    exact ⟨ret_bool (lightChanges_many (by omega)).symm, rfl⟩
  · have h50 : (l.length : Int) ≤ most := by omega
    go_loop [5] (fun i => ∃ k : Nat, k ≤ l.length ∧ i = .int .i64 k ∧ Upto lightChange l k) (fun i => l.length - (intOf i).toNat)
    case atStart => exact ⟨0, by omega, rfl, Upto.zero⟩
    case round =>
      obtain ⟨k, hk, rfl, HA⟩ := hrel
      by_cases hlt : k < l.length
      · rcases hs with rfl | ⟨b, off, rfl, hc⟩
        · simp at hlt
        obtain ⟨h1, h2, _⟩ := hc k hlt
        clear hc
        go_wp2
        · go_ret
          exact ⟨ret_bool ((lightChanges_eq h50).trans (all_false_at _ _ k hlt (lightChange_no (by assumption)))).symm, rfl⟩
        · exact ⟨⟨k + 1, by omega, by go_num, HA.snoc hlt (lightChange_yes (by assumption))⟩, by simp [intOf]; omega⟩
        · go_ret
          exact ⟨ret_bool ((lightChanges_eq h50).trans (all_false_at _ _ k hlt (lightChange_no (.inl (by assumption))))).symm, rfl⟩
      · go_wp2
        go_ret
        exact ⟨ret_bool ((lightChanges_eq h50).trans (HA.all (by omega))).symm, rfl⟩

end Go.Proofs.YtmknhibaoopjjaaGreatDoor
set_option linter.unusedVariables false
set_option linter.unusedSimpArgs false
namespace Go.Proofs.YtmknhibaoopjjaaGreatDoor
open Go.RowKit
theorem agree_up {w w' : World} (h : ∀ b, b < w.heap.size → w'.heap[b]? = w.heap[b]?) (a : Addr) (v : Value) (hc : w.cell? a = some v) : w'.cell? a = some v := by
  have hb : a.block < w.heap.size := by
    unfold World.cell? at hc
    split at hc
    · rename_i he; exact (Array.getElem?_eq_some_iff.1 he).1
    · cases hc
  rw [World.cell?_of_block (w := w) (h _ hb)]; exact hc
theorem AcAt.up {w w' : World} {b off : Nat} {x : Ac} (h : AcAt w b off x) (hx : ∀ a v, w.cell? a = some v → w'.cell? a = some v) : AcAt w' b off x :=
  ⟨hx _ _ h.1, hx _ _ h.2, hx _ _ h.3, hx _ _ h.4, hx _ _ h.5, hx _ _ h.6, hx _ _ h.7, hx _ _ h.8, hx _ _ h.9⟩
theorem ChangesAt.up {w w' : World} {a : Option Addr} {l : List Ch} (h : ChangesAt w a l) (hx : ∀ a v, w.cell? a = some v → w'.cell? a = some v) : ChangesAt w' a l :=
  h.imp id fun ⟨b, off, ha, hc⟩ => ⟨b, off, ha, fun i hi => ⟨hx _ _ (hc i hi).1, hx _ _ (hc i hi).2.1, hx _ _ (hc i hi).2.2⟩⟩
theorem SpansAt.up {w w' : World} {a : Option Addr} {l : List Sp} (h : SpansAt w a l) (hx : ∀ a v, w.cell? a = some v → w'.cell? a = some v) : SpansAt w' a l :=
  h.imp id fun ⟨b, off, ha, hc⟩ => ⟨b, off, ha, fun i hi => ⟨hx _ _ (hc i hi).1, hx _ _ (hc i hi).2⟩⟩
theorem ActsAt.up {w w' : World} {a : Option Addr} {l : List Ac} (h : ActsAt w a l) (hx : ∀ a v, w.cell? a = some v → w'.cell? a = some v) : ActsAt w' a l :=
  ⟨h.1.imp id fun ⟨b, off, ha, hc⟩ => ⟨b, off, ha, fun i hi => (hc i hi).up hx⟩, fun x hm => ⟨(h.2 x hm).1, (h.2 x hm).2.1.up hx, (h.2 x hm).2.2.1.up hx, (h.2 x hm).2.2.2⟩⟩
end Go.Proofs.YtmknhibaoopjjaaGreatDoor
