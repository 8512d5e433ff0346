/- Texts Bsf, Dl, Put, PutR of this claim, laid together. -/
import Derived.Test.YtmknhibaoopjjaaGreatDoorGTopCrashProof12
import Derived.Test.YtmknhibaoopjjaaGreatDoorGTopCrashProof23
set_option linter.unusedVariables false
set_option linter.unusedSimpArgs false
namespace Go.Proofs.YtmknhibaoopjjaaGreatDoor
open Go.RowKit
def cmpZ (a b : ByteArray) : Int := Lib.compareBytes a.data.toList b.data.toList
theorem cmpL : ∀ a b : List UInt8, (Op.bytesLess a b = true ∧ Lib.compareBytes a b = -1) ∨ (a = b ∧ Lib.compareBytes a b = 0) ∨ (Op.bytesLess b a = true ∧ Lib.compareBytes a b = 1)
  | [], [] => .inr (.inl ⟨rfl, rfl⟩)
  | [], _ :: _ => .inl ⟨rfl, rfl⟩
  | _ :: _, [] => .inr (.inr ⟨rfl, rfl⟩)
  | a :: x, b :: y => by
    unfold Lib.compareBytes
    by_cases h : a < b
    · exact .inl ⟨by simp [Op.bytesLess, h], by rw [if_pos h]⟩
    · by_cases h2 : b < a
      · exact .inr (.inr ⟨by simp [Op.bytesLess, h2], by rw [if_neg h, if_pos h2]⟩)
      · obtain rfl : a = b := by
          have h : ¬ a.toNat < b.toNat := fun e => h (UInt8.lt_iff_toNat_lt.2 e)
          have h2 : ¬ b.toNat < a.toNat := fun e => h2 (UInt8.lt_iff_toNat_lt.2 e)
          exact UInt8.toNat_inj.1 (by omega)
        rw [if_neg h, if_neg h]
        rcases cmpL x y with ⟨k1, k2⟩ | ⟨k1, k2⟩ | ⟨k1, k2⟩
        · exact .inl ⟨by simp [Op.bytesLess, k1], k2⟩
        · exact .inr (.inl ⟨by rw [k1], k2⟩)
        · exact .inr (.inr ⟨by simp [Op.bytesLess, k1], k2⟩)
theorem cmpZ_spec (a b : ByteArray) : (slt a b = true ∧ cmpZ a b = -1) ∨ (a = b ∧ cmpZ a b = 0) ∨ (slt b a = true ∧ cmpZ a b = 1) := by
  unfold cmpZ slt
  rw [ByteArray.toList_eq, ByteArray.toList_eq]
  exact (cmpL a.data.toList b.data.toList).imp id (Or.imp (fun h => ⟨toList_inj (by rw [ByteArray.toList_eq, ByteArray.toList_eq]; exact h.1), h.2⟩) id)
theorem cmpZ_lt (a b : ByteArray) : decide (cmpZ a b < 0) = slt a b := by
  rcases cmpZ_spec a b with ⟨h1, h2⟩ | ⟨h1, h2⟩ | ⟨h1, h2⟩
  · rw [h1, h2]; rfl
  · rw [h2, h1, slt_irrefl]; rfl
  · rw [h2, slt_asymm h1]; rfl
theorem vals_up {w w' : World} {a : Option Addr} {xs : List Value} (h : ValsAt w a xs) (hb : ∀ b, b < w.heap.size → w'.heap[b]? = w.heap[b]?) : ValsAt w' a xs :=
  h.imp id fun ⟨b, off, ha, hc⟩ => ⟨b, off, ha, fun i hi => by
    have h1 := hc i hi
    have hl : b < w.heap.size := block_lt_of_cell h1
    rw [World.cell?_of_block (w := w) (hb _ hl)]; exact h1⟩
end Go.Proofs.YtmknhibaoopjjaaGreatDoor
namespace Go.Proofs.YtmknhibaoopjjaaGreatDoor
open Go.RowKit
/-- A deed as it lies in memory. -/
abbrev DV := Option Addr × Nat × List Ch
def dv (d : DV) : Value := .slice d.1 d.2.2.length d.2.1
def DsAt (w : World) (D : List DV) : Prop := ∀ d ∈ D, ValsAt w d.1 (chs d.2.2)
def dss (D : List DV) : List (List Ch) := D.map fun d => d.2.2
/-- Deeds as they lie in memory. -/
def DLAt (w : World) (a : Option Addr) (D : List DV) : Prop := ValsAt w a (D.map dv) ∧ DsAt w D
theorem DLAt.up {w w' : World} {a : Option Addr} {D : List DV} (h : DLAt w a D) (hb : ∀ b, b < w.heap.size → w'.heap[b]? = w.heap[b]?) : DLAt w' a D := ⟨vals_up h.1 hb, fun d hd => vals_up (h.2 d hd) hb⟩
theorem DLAt.ext {w w' : World} {a : Option Addr} {D : List DV} (h : DLAt w a D) (hx : Ext w w') : DLAt w' a D := ⟨h.1.ext hx, fun d hd => ValsAt.ext (h.2 d hd) hx⟩
end Go.Proofs.YtmknhibaoopjjaaGreatDoor
namespace Go.Proofs.YtmknhibaoopjjaaGreatDoor
open Go.RowKit
end Go.Proofs.YtmknhibaoopjjaaGreatDoor
namespace Go.Proofs.YtmknhibaoopjjaaGreatDoor
open Go.RowKit
end Go.Proofs.YtmknhibaoopjjaaGreatDoor
