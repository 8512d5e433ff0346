/- Texts Span2 of this claim, laid together. -/
import Derived.Test.YtmknhibaoopjjaaGreatDoorGStoreSaysProof10
import Derived.Lib.Hide
namespace Go.Proofs.YtmknhibaoopjjaaGreatDoor
open Go.RowKit
/-- A slice of n rows of cells, from an address on. -/
def SpansAt (w : World) (a : Option Addr) (l : List Sp) : Prop :=
  l = [] ∨ ∃ b off, a = some ⟨b, off, none⟩ ∧ ∀ i (h : i < l.length), w.cell? ⟨b, off + i * 2, none⟩ = some (.string l[i].lo) ∧ w.cell? ⟨b, off + i * 2 + 1, none⟩ = some (.string l[i].hi)
theorem SpansAt.ext {w w' : World} {a : Option Addr} {l : List Sp} (h : SpansAt w a l) (hx : Ext w w') : SpansAt w' a l :=
  h.imp id fun ⟨b, off, ha, hc⟩ => ⟨b, off, ha, fun i hi => ⟨hx.some (hc i hi).1, hx.some (hc i hi).2⟩⟩
def lightSpans (l : List Sp) : Bool := decide (l.length ≤ 50) && l.all fun s => decide (s.lo.size ≤ 60) && decide (s.hi.size ≤ 60)

theorem lightSpans_many {l : List Sp} (h : 50 < (l.length : Int)) : lightSpans l = false := by
  have : ¬ l.length ≤ 50 := by omega
  simp [lightSpans, this]
def lightSpan (s : Sp) : Bool := decide (s.lo.size ≤ 60) && decide (s.hi.size ≤ 60)
theorem lightSpans_eq {l : List Sp} (h : (l.length : Int) ≤ 50) : lightSpans l = l.all lightSpan := by
  have : l.length ≤ 50 := by omega
  simp [lightSpans, this]; rfl
theorem lightSpan_no {s : Sp} (h : 60 < (s.lo.size : Int) ∨ 60 < (s.hi.size : Int)) : lightSpan s = false := by
  simp [lightSpan]; omega
theorem lightSpan_yes {s : Sp} (h : (s.lo.size : Int) ≤ 60 ∧ (s.hi.size : Int) ≤ 60) : lightSpan s = true := by
  simp [lightSpan]; omega
set_option maxHeartbeats 400000 in
theorem lightSpans_any (a : Option Addr) (cap : Nat) (l : List Sp) (w : World) (hl : l.length ≤ maxLen) (hs : SpansAt w a l) :
    Calls Tryz.prog 45 #[.slice a l.length cap] w fun e w' => e = .returned (.bool (lightSpans l)) ∧ w' = w := by
  unfold maxLen at hl
  go_enter Tryz.func45, Tryz.ntmps45
  go_wp2
  · go_ret
    exact ⟨ret_bool (lightSpans_many (by assumption)).symm, rfl⟩
  · have h50 : (l.length : Int) ≤ 50 := by omega
    go_loop [3] (fun i => ∃ k : Nat, k ≤ l.length ∧ i = .int .i64 k ∧ (l.take k).all lightSpan = true) (fun i => l.length - (intOf i).toNat)
    case atStart => exact ⟨0, by omega, rfl, by simp⟩
    case round =>
      obtain ⟨k, hk, rfl, hall⟩ := hrel
      have HA := Lib.hid hall
      clear hall
      by_cases hlt : k < l.length
      · rcases hs with rfl | ⟨b, off, rfl, hc⟩
        · simp at hlt
        obtain ⟨h1, h2⟩ := hc k hlt
        clear hc
        go_wp2
        · go_ret
          exact ⟨ret_bool ((lightSpans_eq h50).trans (all_false_at _ _ k hlt (lightSpan_no (by assumption)))).symm, rfl⟩
        · exact ⟨⟨k + 1, by omega, by go_num, by rw [all_take_snoc _ _ _ hlt, HA.out, lightSpan_yes (by assumption)]; rfl⟩, by simp [intOf]; omega⟩
        · go_ret
          exact ⟨ret_bool ((lightSpans_eq h50).trans (all_false_at _ _ k hlt (lightSpan_no (.inl (by assumption))))).symm, rfl⟩
      · go_wp2
        go_ret
        exact ⟨ret_bool ((lightSpans_eq h50).trans (all_of_take (by omega) HA.out)).symm, rfl⟩

end Go.Proofs.YtmknhibaoopjjaaGreatDoor
