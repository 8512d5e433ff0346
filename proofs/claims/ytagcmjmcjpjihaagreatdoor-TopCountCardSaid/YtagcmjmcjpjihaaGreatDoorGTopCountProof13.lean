/- Texts Span2 of this claim, laid together. -/
import Derived.Test.YtagcmjmcjpjihaaGreatDoorGTopCountProof12
import Derived.Lib.Hide
namespace Go.Proofs.YtagcmjmcjpjihaaGreatDoor
open Go.RowKit
/-- A slice of n rows of cells, from an address on. -/
def SpansAt (w : World) (a : Option Addr) (l : List Sp) : Prop :=
  l = [] ∨ ∃ b off, a = some ⟨b, off, none⟩ ∧ ∀ i (h : i < l.length), w.cell? ⟨b, off + i * 2, none⟩ = some (.string l[i].lo) ∧ w.cell? ⟨b, off + i * 2 + 1, none⟩ = some (.string l[i].hi)
theorem SpansAt.ext {w w' : World} {a : Option Addr} {l : List Sp} (h : SpansAt w a l) (hx : Ext w w') : SpansAt w' a l :=
  h.imp id fun ⟨b, off, ha, hc⟩ => ⟨b, off, ha, fun i hi => ⟨hx.some (hc i hi).1, hx.some (hc i hi).2⟩⟩
set_option maxHeartbeats 400000 in
theorem any1_any (lo hi k : ByteArray) (c : Addr) (w : World) (hc : w.cell? c = some (.string k)) :
    Calls Tryz.prog 213 #[.agg #[.string lo, .string hi], .pointer (some c)] w fun e w' => e = .returned (.bool (Sp.has ⟨lo, hi⟩ k)) ∧ Ext w w' := by
  go_enter Tryz.func213, Tryz.ntmps213
  have hc2 := ((Ext.refl w).alloc (.cells #[.string lo, .string hi] 98)).some hc
  go_wp2_with (go_at_call 132; refine (has_any _ _ _ _).mono ?_; rintro e w' ⟨rfl, hx⟩)
  go_ret
  exact ⟨rfl, ((Ext.refl _).alloc _).trans hx⟩

set_option maxHeartbeats 400000 in
theorem indexFunc_any (a : Option Addr) (cap : Nat) (l : List Sp) (k : ByteArray) (c : Addr) (w : World) (hl : l.length ≤ maxLen) (hs : SpansAt w a l) (hc : w.cell? c = some (.string k)) :
    Calls Tryz.prog 249 #[.slice a l.length cap, .func (.func 213) #[] #[.pointer (some c)]] w
      fun e w' => (∃ n : Int, e = .returned (.int .i64 n) ∧ decide (0 ≤ n) = l.any (fun s => s.has k)) ∧ Ext w w' := by
  unfold maxLen at hl
  go_enter Tryz.func249, Tryz.ntmps249
  go_wp2
  go_loopw [8] (fun i wr => ∃ j : Nat, j ≤ l.length ∧ i = .int .i64 j ∧ (l.take j).any (fun s => s.has k) = false ∧ Ext w wr) (fun i _ => l.length - (intOf i).toNat)
  case atStart => exact ⟨0, by omega, rfl, by simp, Ext.refl _⟩
  case round =>
    obtain ⟨j, hj, rfl, hall, hx⟩ := hrel
    have HA := Lib.hid hall
    clear hall
    have hc' := hx.some hc
    by_cases hlt : j < l.length
    · rcases hs with rfl | ⟨b, off, rfl, hs⟩
      · simp at hlt
      obtain ⟨h1, h2⟩ := hs j hlt
      have h1' := hx.some h1
      have h2' := hx.some h2
      clear hs h1 h2 hc
      go_wp2_with (go_at_call 213; refine (any1_any _ _ k _ _ (by assumption)).mono ?_; rintro e w' ⟨rfl, hx'⟩)
      · go_ret
        exact ⟨⟨j, rfl, by rw [any_true_at _ _ j hlt (by assumption)]; simp⟩, by repeat (first | assumption | exact Ext.refl _ | refine Ext.trans ?_ (by assumption))⟩
      · exact ⟨⟨j + 1, by omega, by go_num, by rw [any_take_snoc _ _ _ hlt, HA.out]; simpa using ‹_›, hx.trans hx'⟩, by simp [intOf]; omega⟩
    · go_wp2
      go_ret
      exact ⟨⟨-1, rfl, by rw [← List.take_of_length_le (Nat.le_of_not_lt hlt), HA.out]; rfl⟩, hx⟩

set_option maxHeartbeats 400000 in
theorem containsFunc_any (a : Option Addr) (cap : Nat) (l : List Sp) (k : ByteArray) (c : Addr) (w : World) (hl : l.length ≤ maxLen) (hs : SpansAt w a l) (hc : w.cell? c = some (.string k)) :
    Calls Tryz.prog 212 #[.slice a l.length cap, .func (.func 213) #[] #[.pointer (some c)]] w
      fun e w' => e = .returned (.bool (l.any (fun s => s.has k))) ∧ Ext w w' := by
  go_enter Tryz.func212, Tryz.ntmps212
  go_wp2_with (go_at_call 249; refine (indexFunc_any _ _ _ k _ _ hl hs hc).mono ?_; rintro e w' ⟨⟨n, rfl, hn⟩, hx⟩)
  go_ret
  exact ⟨rfl, hx⟩

set_option maxHeartbeats 400000 in
theorem any_any (a : Option Addr) (cap : Nat) (l : List Sp) (k : ByteArray) (w : World) (hl : l.length ≤ maxLen) (hs : SpansAt w a l) :
    Calls Tryz.prog 147 #[.slice a l.length cap, .string k] w fun e w' => e = .returned (.bool (l.any (fun s => s.has k))) ∧ Ext w w' := by
  have hs' : SpansAt (w.alloc (.cells #[.string k] 9)) a l := hs.ext ((Ext.refl w).alloc _)
  go_enter Tryz.func147, Tryz.ntmps147
  go_wp2_with (go_at_call 212; refine (containsFunc_any _ _ _ k _ _ hl hs' (by simp)).mono ?_; rintro e w' ⟨rfl, hx⟩)
  go_ret
  exact ⟨rfl, ((Ext.refl _).alloc _).trans hx⟩

/- the reference -/
end Go.Proofs.YtagcmjmcjpjihaaGreatDoor
